/- The plain law of the shares: levels, what is poured, and the shares above a level. No program is in sight. -/
namespace Go.Proofs.Ytcneohhfnnelgaa
set_option linter.unusedVariables false
namespace Dv
def pour (L : Int) : List Int → Int
  | [] => 0
  | x :: xs => min L x + pour L xs
theorem pour_append (L : Int) (xs ys : List Int) : pour L (xs ++ ys) = pour L xs + pour L ys := by
  induction xs with
  | nil => simp [pour]
  | cons x xs ih => simp only [List.cons_append, pour, ih]; omega
theorem pour_take (L : Int) (xs : List Int) (k : Nat) (h : k < xs.length) : pour L (xs.take (k + 1)) = pour L (xs.take k) + min L (xs.getD k 0) := by
  rw [List.take_succ_eq_append_getElem h, pour_append]
  simp [pour, List.getD, h]
/-- torques that are possible -/
def okS (xs : List Int) : Prop := ∀ x ∈ xs, 0 ≤ x ∧ x ≤ 68719476736
theorem okS_get {xs : List Int} (h : okS xs) (k : Nat) (hk : k < xs.length) : 0 ≤ xs.getD k 0 ∧ xs.getD k 0 ≤ 68719476736 := by
  have := h xs[k] (List.getElem_mem hk)
  simpa [List.getD, hk] using this
theorem okS_of {xs : List Int} (h : ∀ k, k < xs.length → 0 ≤ xs.getD k 0 ∧ xs.getD k 0 ≤ 68719476736) : okS xs := by
  intro x hx
  obtain ⟨i, hi, rfl⟩ := List.getElem_of_mem hx
  have := h i hi
  simpa [List.getD, hi] using this
theorem okS_take {xs : List Int} (h : okS xs) (k : Nat) : okS (xs.take k) := fun x hx => h x (List.mem_of_mem_take hx)
theorem pour_bd {L : Int} {xs : List Int} (h : okS xs) (hL : 0 ≤ L) : 0 ≤ pour L xs ∧ pour L xs ≤ xs.length * 68719476736 := by
  induction xs with
  | nil => simp [pour]
  | cons x xs ih =>
    have h1 := h x (by simp)
    have h2 := ih (fun y hy => h y (by simp [hy]))
    simp only [pour, List.length_cons]
    omega
theorem pour_mono {L L' : Int} (h : L ≤ L') (xs : List Int) : pour L xs ≤ pour L' xs := by
  induction xs with
  | nil => simp [pour]
  | cons x xs ih => simp only [pour]; omega
theorem pour_zero {xs : List Int} (h : okS xs) : pour 0 xs = 0 := by
  induction xs with
  | nil => rfl
  | cons x xs ih =>
    have h1 := h x (by simp)
    have h2 := ih (fun y hy => h y (by simp [hy]))
    simp only [pour]
    omega
/-- the level up to which a total is poured -/
def Lev (T : Int) (xs : List Int) (L : Int) : Prop := 0 ≤ L ∧ L ≤ 68719476736 ∧ pour L xs ≤ T ∧ (L = 68719476736 ∨ T < pour (L + 1) xs)
theorem lev_le {T : Int} {xs : List Int} {L L' : Int} (h : Lev T xs L) (h' : Lev T xs L') : L ≤ L' := by
  rcases Int.lt_or_le L' L with hlt | hge
  · obtain ⟨_, a2, a3, _⟩ := h
    obtain ⟨_, _, _, b4⟩ := h'
    have := pour_mono (show L' + 1 ≤ L by omega) xs
    omega
  · exact hge
theorem lev_unique {T : Int} {xs : List Int} {L L' : Int} (h : Lev T xs L) (h' : Lev T xs L') : L = L' := by
  have := lev_le h h'
  have := lev_le h' h
  omega
/-- the shares: the level, and one more while something is left -/
def shR (L : Int) : Int → List Int → List Int
  | _, [] => []
  | r, x :: xs => if 0 < r ∧ min L x < x then (min L x + 1) :: shR L (r - 1) xs else min L x :: shR L r xs
theorem shR_length (L : Int) : ∀ (r : Int) (xs : List Int), (shR L r xs).length = xs.length
  | _, [] => rfl
  | r, x :: xs => by
    unfold shR
    split
    · simp [shR_length L (r - 1) xs]
    · simp [shR_length L r xs]
/-- what is left behind some of the torques -/
def leftR (L : Int) : Int → List Int → Int
  | r, [] => r
  | r, x :: xs => if 0 < r ∧ min L x < x then leftR L (r - 1) xs else leftR L r xs
theorem shR_append (L : Int) : ∀ (r : Int) (xs ys : List Int), shR L r (xs ++ ys) = shR L r xs ++ shR L (leftR L r xs) ys
  | _, [], _ => rfl
  | r, x :: xs, ys => by
    simp only [List.cons_append, shR, leftR]
    split
    · simp [shR_append L (r - 1) xs ys]
    · simp [shR_append L r xs ys]
theorem leftR_append (L : Int) : ∀ (r : Int) (xs ys : List Int), leftR L r (xs ++ ys) = leftR L (leftR L r xs) ys
  | _, [], _ => rfl
  | r, x :: xs, ys => by
    simp only [List.cons_append, leftR]
    split
    · exact leftR_append L (r - 1) xs ys
    · exact leftR_append L r xs ys
theorem leftR_bd (L : Int) : ∀ (r : Int) (xs : List Int), 0 ≤ r → 0 ≤ leftR L r xs ∧ leftR L r xs ≤ r
  | r, [], h => by simp [leftR, h]
  | r, x :: xs, h => by
    unfold leftR
    split
    · have := leftR_bd L (r - 1) xs (by omega); omega
    · exact leftR_bd L r xs h
theorem shR_take (L r : Int) (xs : List Int) (k : Nat) (h : k < xs.length) : shR L r (xs.take (k + 1)) = shR L r (xs.take k) ++ [if 0 < leftR L r (xs.take k) ∧ min L (xs.getD k 0) < xs.getD k 0 then min L (xs.getD k 0) + 1 else min L (xs.getD k 0)] := by
  rw [List.take_succ_eq_append_getElem h, shR_append]
  have e : xs.getD k 0 = xs[k] := by simp [List.getD, h]
  rw [e]
  congr 1
  simp only [shR]
  split <;> rfl
theorem leftR_take (L r : Int) (xs : List Int) (k : Nat) (h : k < xs.length) : leftR L r (xs.take (k + 1)) = if 0 < leftR L r (xs.take k) ∧ min L (xs.getD k 0) < xs.getD k 0 then leftR L r (xs.take k) - 1 else leftR L r (xs.take k) := by
  rw [List.take_succ_eq_append_getElem h, leftR_append]
  have e : xs.getD k 0 = xs[k] := by simp [List.getD, h]
  rw [e]
  simp only [leftR]
/-- nothing is left: the level alone -/
theorem shR_zero (L : Int) : ∀ (r : Int) (xs : List Int), r ≤ 0 → shR L r xs = xs.map (fun x => min L x)
  | _, [], _ => rfl
  | r, x :: xs, h => by
    simp only [shR, List.map_cons]
    rw [if_neg (by omega), shR_zero L r xs h]
end Dv
end Go.Proofs.Ytcneohhfnnelgaa
