/- The plain law of DriveShares: what the shares sum up to, and that no other sharing has a lesser greatest share. No program is in sight. -/
import Derived.Test.YtcneohhfnnelgaaM6
namespace Go.Proofs.Ytcneohhfnnelgaa
set_option linter.unusedVariables false
namespace Dv
def sm : List Int → Int
  | [] => 0
  | x :: xs => x + sm xs
theorem sm_append (xs ys : List Int) : sm (xs ++ ys) = sm xs + sm ys := by
  induction xs with
  | nil => simp [sm]
  | cons x xs ih => simp only [List.cons_append, sm, ih]; omega
theorem sm_take (xs : List Int) (k : Nat) (h : k < xs.length) : sm (xs.take (k + 1)) = sm (xs.take k) + xs.getD k 0 := by
  rw [List.take_succ_eq_append_getElem h, sm_append]
  simp [sm, List.getD, h]
def mx : List Int → Int
  | [] => 0
  | x :: xs => max x (mx xs)
theorem mx_append (xs ys : List Int) (h : ∀ y ∈ ys, 0 ≤ y) : mx (xs ++ ys) = max (mx xs) (mx ys) := by
  have h0 : 0 ≤ mx ys := by
    cases ys with
    | nil => simp [mx]
    | cons y ys => have := h y (by simp); simp only [mx]; omega
  induction xs with
  | nil => simp only [List.nil_append, mx]; omega
  | cons x xs ih => simp only [List.cons_append, mx, ih]; omega
theorem mx_nonneg (xs : List Int) : 0 ≤ mx xs := by
  induction xs with
  | nil => simp [mx]
  | cons x xs ih => simp only [mx]; omega
theorem mx_take (xs : List Int) (k : Nat) (h : k < xs.length) (h0 : 0 ≤ xs.getD k 0) : mx (xs.take (k + 1)) = max (mx (xs.take k)) (xs.getD k 0) := by
  have e : xs.getD k 0 = xs[k] := by simp [List.getD, h]
  rw [e] at h0 ⊢
  rw [List.take_succ_eq_append_getElem h, mx_append _ _ (by intro y hy; simp at hy; omega)]
  simp only [mx]
  omega
theorem mx_mem (xs : List Int) : mx xs = 0 ∨ mx xs ∈ xs := by
  induction xs with
  | nil => left; rfl
  | cons x xs ih =>
    simp only [mx]
    rcases Int.le_total x (mx xs) with h | h
    · rw [Int.max_eq_right h]
      rcases ih with ih | ih
      · exact .inl ih
      · exact .inr (by simp [ih])
    · rw [Int.max_eq_left h]
      exact .inr (by simp)
theorem sm_shR (L : Int) : ∀ (R : Int) (xs : List Int), sm (shR L R xs) = pour L xs + (R - leftR L R xs)
  | R, [] => by simp [sm, shR, leftR, pour]
  | R, x :: xs => by
    simp only [shR, leftR, pour]
    split
    · simp only [sm, sm_shR L (R - 1) xs]; omega
    · simp only [sm, sm_shR L R xs]; omega
theorem pour_next (L : Int) (xs : List Int) (k : Nat) (hk : k ≤ xs.length) : pour (L + 1) (xs.take k) = pour L (xs.take k) + ((hs L xs k).length : Int) := by
  induction k with
  | zero => simp [pour, hs]
  | succ k ih =>
    have h1 := ih (by omega)
    rw [pour_take _ xs k (by omega), pour_take _ xs k (by omega), h1, hs_succ]
    by_cases hh : hun L xs k = true
    · have h2 : min L (xs.getD k 0) < xs.getD k 0 := by simpa [hun] using hh
      rw [if_pos hh, List.length_append]
      simp only [List.length_singleton]
      omega
    · have h2 : ¬ min L (xs.getD k 0) < xs.getD k 0 := by simpa [hun] using hh
      rw [if_neg hh]
      omega
theorem pour_le_sm (L : Int) (xs : List Int) : pour L xs ≤ sm xs := by
  induction xs with
  | nil => simp [pour, sm]
  | cons x xs ih => simp only [pour, sm]; omega
theorem pour_full {xs : List Int} (h : okS xs) : pour 68719476736 xs = sm xs := by
  induction xs with
  | nil => rfl
  | cons x xs ih =>
    have h1 := h x (by simp)
    have h2 := ih (fun y hy => h y (by simp [hy]))
    simp only [pour, sm]
    omega
/-- the shares sum up to the total, or to all that is possible -/
theorem shares_sum {T L : Int} {xs : List Int} (hok : okS xs) (hL : Lev T xs L) : sm (shR L (T - pour L xs) xs) = min T (sm xs) := by
  obtain ⟨h0, h1, h2, h3⟩ := hL
  have hl := left_is L (T - pour L xs) (by omega) xs xs.length (Nat.le_refl _)
  have hn := pour_next L xs xs.length (Nat.le_refl _)
  rw [List.take_length] at hl hn
  rw [sm_shR, hl]
  have h5 := pour_le_sm (L + 1) xs
  have h6 := pour_le_sm L xs
  rcases h3 with rfl | h3
  · have := pour_full hok
    omega
  · omega
theorem shares_each {T L : Int} {xs : List Int} (hok : okS xs) (hL : Lev T xs L) (k : Nat) (hk : k < xs.length) : 0 ≤ (shR L (T - pour L xs) xs).getD k 0 ∧ (shR L (T - pour L xs) xs).getD k 0 ≤ xs.getD k 0 ∧ min L (xs.getD k 0) ≤ (shR L (T - pour L xs) xs).getD k 0 ∧ (shR L (T - pour L xs) xs).getD k 0 ≤ L + 1 := by
  have h1 := okS_get hok k hk
  have h2 := hL.1
  rw [shR_get L _ xs k hk]
  by_cases hh : hun L xs k = true
  · have h3 : min L (xs.getD k 0) < xs.getD k 0 := by simpa [hun] using hh
    split <;> omega
  · rw [if_neg (fun h => hh h.2)]
    omega
/-- with no share above a level that is below the greatest share, less is shared -/
theorem pour_lt {l : Int} : ∀ {xs ys : List Int}, xs.length = ys.length → (∀ k, k < xs.length → min l (xs.getD k 0) ≤ ys.getD k 0) → (∃ k, k < xs.length ∧ min l (xs.getD k 0) < ys.getD k 0) → pour l xs < sm ys
  | [], [], _, _, h => by obtain ⟨k, hk, _⟩ := h; simp at hk
  | [], y :: ys, hl, _, _ => by simp at hl
  | x :: xs, [], hl, _, _ => by simp at hl
  | x :: xs, y :: ys, hl, h1, ⟨k, hk, h2⟩ => by
    have le : ∀ {xs ys : List Int}, xs.length = ys.length → (∀ k, k < xs.length → min l (xs.getD k 0) ≤ ys.getD k 0) → pour l xs ≤ sm ys := by
      intro xs
      induction xs with
      | nil => intro ys hl _; cases ys with
        | nil => simp [pour, sm]
        | cons y ys => simp at hl
      | cons a as ih => intro ys hl h; cases ys with
        | nil => simp at hl
        | cons b bs =>
          have h0 := h 0 (by simp)
          have h3 := ih (ys := bs) (by simpa using hl) (fun k hk => by have := h (k + 1) (by simpa using hk); simpa using this)
          simp only [List.getD_cons_zero] at h0
          simp only [pour, sm]
          omega
    have h0 := h1 0 (by simp)
    simp only [List.getD_cons_zero] at h0
    have ht : ∀ k, k < xs.length → min l (xs.getD k 0) ≤ ys.getD k 0 := fun k hk => by have := h1 (k + 1) (by simpa using hk); simpa using this
    have hl' : xs.length = ys.length := by simpa using hl
    cases k with
    | zero =>
      simp only [List.getD_cons_zero] at h2
      have := le hl' ht
      simp only [pour, sm]
      omega
    | succ k =>
      have h3 := pour_lt hl' ht ⟨k, by simpa using hk, by simpa using h2⟩
      simp only [pour, sm]
      omega
theorem shares_less {T L l : Int} {xs : List Int} (hok : okS xs) (hL : Lev T xs L) (h0 : 0 ≤ l) (hl : l < mx (shR L (T - pour L xs) xs)) : pour l xs < sm (shR L (T - pour L xs) xs) := by
  rcases mx_mem (shR L (T - pour L xs) xs) with h | h
  · omega
  · obtain ⟨k, hk, e⟩ := List.getElem_of_mem h
    have hk' : k < xs.length := by rw [shR_length] at hk; exact hk
    have eg : (shR L (T - pour L xs) xs).getD k 0 = mx (shR L (T - pour L xs) xs) := by rw [← e]; simp [List.getD, hk]
    have hs := shares_each hok hL k hk'
    refine pour_lt (shR_length _ _ _).symm (fun j hj => ?_) ⟨k, hk', by omega⟩
    have := shares_each hok hL j hj
    omega
theorem sm_bd {ys : List Int} (h : ∀ k, k < ys.length → 0 ≤ ys.getD k 0 ∧ ys.getD k 0 ≤ 68719476736) (k : Nat) (hk : k ≤ ys.length) : 0 ≤ sm (ys.take k) ∧ sm (ys.take k) ≤ k * 68719476736 := by
  induction k with
  | zero => simp [sm]
  | succ k ih =>
    have h1 := ih (by omega)
    have h2 := h k (by omega)
    rw [sm_take ys k (by omega)]
    omega
theorem lev_exists {T : Int} {xs : List Int} (h : okS xs) (hT : 0 ≤ T) : ∃ L, Lev T xs L := by
  have key : ∀ n : Nat, ∀ l : Int, 0 ≤ l → l + n = 68719476736 → pour l xs ≤ T → ∃ L, Lev T xs L := by
    intro n
    induction n with
    | zero => intro l h0 h1 h2; exact ⟨l, h0, by omega, h2, .inl (by omega)⟩
    | succ n ih =>
      intro l h0 h1 h2
      by_cases h3 : pour (l + 1) xs ≤ T
      · exact ih (l + 1) (by omega) (by omega) h3
      · exact ⟨l, h0, by omega, h2, .inr (by omega)⟩
  exact key 68719476736 0 (by omega) (by omega) (by rw [pour_zero h]; exact hT)
end Dv
end Go.Proofs.Ytcneohhfnnelgaa
