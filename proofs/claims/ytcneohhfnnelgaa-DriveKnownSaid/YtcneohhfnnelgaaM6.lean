/- The plain law of the shares: which of them get one more. No program is in sight. -/
import Derived.Test.YtcneohhfnnelgaaM5
namespace Go.Proofs.Ytcneohhfnnelgaa
set_option linter.unusedVariables false
namespace Dv
/-- whether a share is below its greatest torque -/
def hun (L : Int) (xs : List Int) (j : Nat) : Bool := decide (min L (xs.getD j 0) < xs.getD j 0)
def hs (L : Int) (xs : List Int) (k : Nat) : List Nat := (List.range k).filter (hun L xs)
theorem hs_succ (L : Int) (xs : List Int) (k : Nat) : hs L xs (k + 1) = if hun L xs k = true then hs L xs k ++ [k] else hs L xs k := by
  unfold hs
  rw [List.range_succ, List.filter_append]
  cases h : hun L xs k <;> simp [h]
theorem hs_mem {L : Int} {xs : List Int} {k j : Nat} : j ∈ hs L xs k ↔ j < k ∧ hun L xs j = true := by
  unfold hs
  rw [List.mem_filter, List.mem_range]
theorem hs_len_mono (L : Int) (xs : List Int) {i k : Nat} (h : i ≤ k) : (hs L xs i).length ≤ (hs L xs k).length := by
  induction k with
  | zero =>
    have : i = 0 := by omega
    subst this
    exact Nat.le_refl _
  | succ k ih =>
    by_cases hk : i ≤ k
    · have := ih hk
      rw [hs_succ]
      split
      · rw [List.length_append]; simp only [List.length_singleton]; omega
      · exact this
    · have : i = k + 1 := by omega
      subst this
      exact Nat.le_refl _
theorem hs_len_lt (L : Int) (xs : List Int) {i k : Nat} (h : i < k) (hi : hun L xs i = true) : (hs L xs i).length < (hs L xs k).length := by
  have h1 := hs_len_mono L xs (show i + 1 ≤ k from h)
  rw [hs_succ, if_pos hi, List.length_append] at h1
  simp only [List.length_singleton] at h1
  omega
theorem hs_len (L : Int) (xs : List Int) (k : Nat) : (hs L xs k).length ≤ k := by
  unfold hs
  have := List.length_filter_le (hun L xs) (List.range k)
  simpa using this
theorem left_is (L R : Int) (hR : 0 ≤ R) (xs : List Int) (k : Nat) (hk : k ≤ xs.length) : leftR L R (xs.take k) = R - min R ((hs L xs k).length : Int) := by
  induction k with
  | zero => simp [leftR, hs]; omega
  | succ k ih =>
    have h1 := ih (by omega)
    rw [leftR_take L R xs k (by omega), h1, hs_succ]
    by_cases hh : hun L xs k = true
    · have h2 : min L (xs.getD k 0) < xs.getD k 0 := by simpa [hun] using hh
      rw [if_pos hh, List.length_append]
      simp only [List.length_singleton, h2, and_true]
      split <;> omega
    · have h2 : ¬ min L (xs.getD k 0) < xs.getD k 0 := by simpa [hun] using hh
      rw [if_neg hh, if_neg (by simp only [h2, and_false]; exact not_false)]
theorem shR_get (L R : Int) (xs : List Int) (k : Nat) (hk : k < xs.length) : (shR L R xs).getD k 0 = min L (xs.getD k 0) + if 0 < leftR L R (xs.take k) ∧ hun L xs k = true then 1 else 0 := by
  have e : xs = xs.take k ++ (xs[k] :: xs.drop (k + 1)) := by
    rw [← List.drop_eq_getElem_cons hk, List.take_append_drop]
  have hl : (shR L R (xs.take k)).length = k := by rw [shR_length, List.length_take]; omega
  have ex : xs.getD k 0 = xs[k] := by simp [List.getD, hk]
  have e2 : shR L R xs = shR L R (xs.take k) ++ shR L (leftR L R (xs.take k)) (xs[k] :: xs.drop (k + 1)) := by
    rw [← shR_append, ← e]
  have e3 : (shR L R xs).getD k 0 = (shR L (leftR L R (xs.take k)) (xs[k] :: xs.drop (k + 1))).getD 0 0 := by
    rw [e2]
    simp only [List.getD]
    rw [List.getElem?_append_right (by omega), hl, Nat.sub_self]
  rw [e3]
  have hh : hun L xs k = true ↔ min L xs[k] < xs[k] := by unfold hun; rw [ex]; simp
  rw [ex]
  unfold shR
  by_cases hq : 0 < leftR L R (xs.take k) ∧ min L xs[k] < xs[k]
  · rw [if_pos hq, if_pos ⟨hq.1, hh.2 hq.2⟩]
    rfl
  · rw [if_neg hq, if_neg (fun h => hq ⟨h.1, hh.1 h.2⟩)]
    simp
/-- the shares, when all that were below their greatest torque have got one more -/
theorem shares_done {L R : Int} (hR : 0 ≤ R) {xs cs : List Int} (hl : cs.length = xs.length) (hn : ((hs L xs xs.length).length : Int) ≤ R) (hc : ∀ j, j < xs.length → cs.getD j 0 = min L (xs.getD j 0) + if j ∈ hs L xs xs.length then 1 else 0) : cs = shR L R xs := by
  apply List.ext_getElem (by rw [hl, shR_length])
  intro j h1 h2
  have hj : j < xs.length := by omega
  have e1 : cs.getD j 0 = cs[j] := by simp [List.getD, h1]
  have e2 : (shR L R xs).getD j 0 = (shR L R xs)[j] := by simp [List.getD, h2]
  rw [← e1, ← e2, hc j hj, shR_get L R xs j hj, left_is L R hR xs j (by omega)]
  congr 1
  by_cases hh : hun L xs j = true
  · have h3 := hs_len_lt L xs hj hh
    rw [if_pos (hs_mem.2 ⟨hj, hh⟩), if_pos ⟨by omega, hh⟩]
  · rw [if_neg (fun h => hh (hs_mem.1 h).2), if_neg (fun h => hh h.2)]
/-- the shares, when nothing is left -/
theorem shares_stop {L R : Int} (hR : 0 ≤ R) {xs cs : List Int} (hl : cs.length = xs.length) (k : Nat) (hn : ((hs L xs k).length : Int) = R) (hc : ∀ j, j < xs.length → cs.getD j 0 = min L (xs.getD j 0) + if j ∈ hs L xs k then 1 else 0) : cs = shR L R xs := by
  apply List.ext_getElem (by rw [hl, shR_length])
  intro j h1 h2
  have hj : j < xs.length := by omega
  have e1 : cs.getD j 0 = cs[j] := by simp [List.getD, h1]
  have e2 : (shR L R xs).getD j 0 = (shR L R xs)[j] := by simp [List.getD, h2]
  rw [← e1, ← e2, hc j hj, shR_get L R xs j hj, left_is L R hR xs j (by omega)]
  congr 1
  by_cases hh : hun L xs j = true
  · by_cases hjk : j < k
    · have h3 := hs_len_lt L xs hjk hh
      rw [if_pos (hs_mem.2 ⟨hjk, hh⟩), if_pos ⟨by omega, hh⟩]
    · have h3 := hs_len_mono L xs (show k ≤ j by omega)
      rw [if_neg (fun h => hjk (hs_mem.1 h).1), if_neg (fun h => by have := h.1; omega)]
  · rw [if_neg (fun h => hh (hs_mem.1 h).2), if_neg (fun h => hh h.2)]
end Dv
end Go.Proofs.Ytcneohhfnnelgaa
