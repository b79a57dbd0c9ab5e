/- Opening a list of leases that came in. -/
import Derived.Test.YtafajclbghofkaaLPosts
import Derived.Test.YtafajclbghofkaaO1
namespace Go.Proofs.Ytafajclbghofkaa
open Go.RowKit
set_option linter.unusedVariables false
theorem leases_of {w : World} {v : Value} (h : v = .slice none 0 0 ∨ ∃ a len cap, v = .slice (some a) len cap ∧ len ≤ cap ∧ cap ≤ maxLen ∧
      ∀ i, i < len → ∃ cs, cs.length = 4 ∧ (∀ j u, cs[j]? = some u → w.cell? ((a.add (i * 4)).add j) = some u) ∧ Rd w (.i .i64 (.i .i64 (.i .i64 (.i .i64 .nil)))) cs) :
    ∃ (A : Option Addr) (ls : List Ls) (cap : Nat), v = .slice A ls.length cap ∧ ls.length ≤ cap ∧ cap ≤ 9223372036854775807 ∧ LeasesAt w A ls := by
  rcases h with rfl | ⟨a, len, cap, rfl, hl, hm, hi⟩
  · exact ⟨none, [], 0, rfl, Nat.le_refl _, by omega, fun i hi => by simp at hi⟩
  · obtain ⟨ls, hbl, hbs⟩ := choose_list (α := Ls) (n := len) (Q := fun i x => LeaseAt w (a.add (i * 4)) x) (fun i hil => by
      obtain ⟨cs, _, hc, n0, _, rfl, _, n1, _, rfl, _, n2, _, rfl, _, n3, _, rfl, _, rfl⟩ := hi i hil
      exact ⟨⟨n0, n1, n2, n3⟩, hc 0 _ rfl, hc 1 _ rfl, hc 2 _ rfl, hc 3 _ rfl⟩)
    refine ⟨some a, ls, cap, by rw [hbl], by omega, by unfold maxLen at hm; omega, fun i hi => ?_⟩
    have hg : ls[i]? = some (ls.getD i default) := by rw [List.getD_eq_getElem?_getD, List.getElem?_eq_getElem hi]; rfl
    exact ⟨a, rfl, hbs i _ hg⟩
end Go.Proofs.Ytafajclbghofkaa
