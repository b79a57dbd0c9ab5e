/- Opening a slice of numbers that came in. -/
import Derived.Test.YtcneohhfnnelgaaW2
import Derived.Test.YtcneohhfnnelgaaK3
namespace Go.Proofs.Ytcneohhfnnelgaa
open Go.RowKit
set_option linter.unusedVariables false
theorem ints_of {w : World} {v : Value} (h : v = .slice none 0 0 ∨ ∃ a len cap, v = .slice (some a) len cap ∧ len ≤ cap ∧ cap ≤ maxLen ∧
      ∀ i, i < len → ∃ cs, cs.length = 1 ∧ (∀ j u, cs[j]? = some u → w.cell? ((a.add (i * 1)).add j) = some u) ∧ Rd w (.i .i64 .nil) cs) :
    ∃ (A : Option Addr) (xs : List Int) (cap : Nat), v = .slice A xs.length cap ∧ xs.length ≤ cap ∧ cap ≤ 9223372036854775807 ∧ IntsAt w A xs := by
  rcases h with rfl | ⟨a, len, cap, rfl, hl, hm, hi⟩
  · exact ⟨none, [], 0, rfl, Nat.le_refl _, by omega, fun i hi => by simp at hi⟩
  · obtain ⟨xs, hbl, hbs⟩ := choose_list (α := Int) (n := len) (Q := fun i x => w.cell? ((a.add (i * 1)).add 0) = some (.int .i64 x)) (fun i hil => by
      obtain ⟨cs, _, hc, n0, _, rfl, _, rfl⟩ := hi i hil
      exact ⟨n0, hc 0 _ rfl⟩)
    refine ⟨some a, xs, cap, by rw [hbl], by omega, by unfold maxLen at hm; omega, fun i hi => ⟨a, rfl, ?_⟩⟩
    have hg : xs[i]? = some (xs.getD i 0) := by rw [List.getD_eq_getElem?_getD, List.getElem?_eq_getElem hi]; rfl
    have h0 := hbs i _ hg
    rw [add_zero', Nat.mul_one] at h0
    exact h0
end Go.Proofs.Ytcneohhfnnelgaa
