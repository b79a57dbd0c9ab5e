/- The plain law of the weakening: the search by halves finds what the search one by one finds. No program is in sight. -/
namespace Go.Proofs.Ytcneohhfnnelgaa
set_option linter.unusedVariables false
namespace Dv
/-- the first number up to N for which something holds -/
def wkV (f : Nat → Bool) (N : Nat) : Option Nat := (List.range (N + 1)).find? f
theorem wkV_some {f : Nat → Bool} {N n : Nat} (h : f n = true) (h0 : ∀ j, j < n → f j = false) (hn : n ≤ N) : wkV f N = some n := by
  unfold wkV
  rw [List.find?_range_eq_some]
  exact ⟨h, by simp; omega, fun j hj => by simp [h0 j hj]⟩
theorem wkV_none {f : Nat → Bool} {N : Nat} (h : ∀ j, j ≤ N → f j = false) : wkV f N = none := by
  unfold wkV
  rw [List.find?_eq_none]
  intro j hj
  simp at hj
  simp [h j (by omega)]
theorem wkV_spec {f : Nat → Bool} {N n : Nat} (h : wkV f N = some n) : f n = true ∧ n ≤ N ∧ ∀ j, j < n → f j = false := by
  unfold wkV at h
  rw [List.find?_range_eq_some] at h
  obtain ⟨h1, h2, h3⟩ := h
  exact ⟨h1, by simp at h2; omega, fun j hj => by simpa using h3 j hj⟩
theorem wkV_spec_none {f : Nat → Bool} {N : Nat} (h : wkV f N = none) (j : Nat) (hj : j ≤ N) : f j = false := by
  unfold wkV at h
  rw [List.find?_eq_none] at h
  have := h j (by simp; omega)
  simpa using this

def Mono (x : Nat → Int) : Prop := (∀ i j, i ≤ j → x i ≤ x j) ∨ (∀ i j, i ≤ j → x j ≤ x i)
def inR (room x : Int) : Prop := -room ≤ x ∧ x ≤ room
def side (room x0 x : Int) : Prop := (room < x0 ∧ room < x) ∨ (x0 < -room ∧ x < -room)
theorem side_prefix {x : Nat → Int} {room : Int} (hm : Mono x) {i j : Nat} (hij : i ≤ j) (h : side room (x 0) (x j)) : side room (x 0) (x i) := by
  rcases hm with hm | hm
  · have h1 := hm 0 i (Nat.zero_le _)
    have h2 := hm i j hij
    unfold side at *
    omega
  · have h1 := hm 0 i (Nat.zero_le _)
    have h2 := hm i j hij
    unfold side at *
    omega
theorem side_not {room x0 x : Int} (h : side room x0 x) : ¬ inR room x := by unfold side at h; unfold inR; omega
theorem past {x : Nat → Int} {room : Int} (hm : Mono x) (hr : 0 ≤ room) {i j : Nat} (hij : i ≤ j) (h : ¬ side room (x 0) (x i)) (h2 : ¬ inR room (x i)) : ¬ inR room (x j) := by
  rcases hm with hm | hm
  · have h1 := hm 0 i (Nat.zero_le _)
    have h3 := hm i j hij
    unfold side at h
    unfold inR at *
    omega
  · have h1 := hm 0 i (Nat.zero_le _)
    have h3 := hm i j hij
    unfold side at h
    unfold inR at *
    omega
/-- what the search by halves leaves -/
theorem weaken_plain {x y : Nat → Int} {room : Int} (hx : Mono x) (hy : Mono y) (hr : 0 ≤ room) (f : Nat → Bool) (hf : ∀ n, f n = true ↔ inR room (x n) ∧ inR room (y n)) (N r : Nat) (hN : r ≤ N)
    (h1 : r = 0 ∨ (side room (x 0) (x (r - 1)) ∨ side room (y 0) (y (r - 1)))) (h2 : r = N ∨ ¬ (side room (x 0) (x r) ∨ side room (y 0) (y r))) : wkV f N = if f r = true then some r else none := by
  have hf' : ∀ n, f n = false ↔ ¬ (inR room (x n) ∧ inR room (y n)) := by
    intro n
    rw [← hf n]
    cases f n <;> simp
  have low : ∀ j, j < r → f j = false := by
    intro j hj
    rw [hf']
    rintro ⟨a, b⟩
    rcases h1 with h1 | h1 | h1
    · omega
    · exact side_not (side_prefix hx (by omega) h1) a
    · exact side_not (side_prefix hy (by omega) h1) b
  by_cases hfr : f r = true
  · rw [if_pos hfr]
    exact wkV_some hfr low hN
  · rw [if_neg hfr]
    refine wkV_none fun j hj => ?_
    by_cases hjr : j < r
    · exact low j hjr
    · rcases h2 with h2 | h2
      · obtain rfl : j = r := by omega
        simpa using hfr
      · have hfr' : f r = false := by simpa using hfr
        rw [hf'] at hfr' ⊢
        rintro ⟨a, b⟩
        have h3 : ¬ side room (x 0) (x r) ∧ ¬ side room (y 0) (y r) := ⟨fun e => h2 (.inl e), fun e => h2 (.inr e)⟩
        by_cases hxr : inR room (x r)
        · exact past hy hr (show r ≤ j by omega) h3.2 (fun hyr => hfr' ⟨hxr, hyr⟩) b
        · exact past hx hr (show r ≤ j by omega) h3.1 hxr a
end Dv
end Go.Proofs.Ytcneohhfnnelgaa
