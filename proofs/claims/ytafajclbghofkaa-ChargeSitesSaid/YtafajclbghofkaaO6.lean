/- Opening a list of claims that came in. -/
import Derived.Test.YtafajclbghofkaaT9
import Derived.Test.YtafajclbghofkaaO1
namespace Go.Proofs.Ytafajclbghofkaa
open Go.RowKit
set_option linter.unusedVariables false
theorem u8_bdC {a : Int} (h : (Lit.int .u8 a).wf = true) : 0 ≤ a ∧ a ≤ 255 := by
  have h1 : IntKind.u8.min = 0 := rfl
  have h2 : IntKind.u8.max = 255 := rfl
  simp only [Lit.wf, Bool.and_eq_true, decide_eq_true_eq] at h
  omega
theorem claims_of {w : World} {v : Value} (h : v = .slice none 0 0 ∨ ∃ a len cap, v = .slice (some a) len cap ∧ len ≤ cap ∧ cap ≤ maxLen ∧
      ∀ i, i < len → ∃ cs, cs.length = 7 ∧ (∀ j u, cs[j]? = some u → w.cell? ((a.add (i * 7)).add j) = some u) ∧ Rd w (.i .u8 (.i .i64 (.i .i64 (.i .i64 (.i .i64 (.i .i64 (.i .i64 .nil))))))) cs) :
    ∃ (A : Option Addr) (ls : List Cm) (cap : Nat), v = .slice A ls.length cap ∧ ls.length ≤ cap ∧ cap ≤ 9223372036854775807 ∧ ClaimsAt w A ls := by
  rcases h with rfl | ⟨a, len, cap, rfl, hl, hm, hi⟩
  · exact ⟨none, [], 0, rfl, Nat.le_refl _, by omega, fun i hi => by simp at hi⟩
  · obtain ⟨ls, hbl, hbs⟩ := choose_list (α := Cm) (n := len) (Q := fun i x => CmAt w (a.add (i * 7)) x ∧ 0 ≤ x.d ∧ x.d ≤ 255) (fun i hil => by
      obtain ⟨cs, _, hc, n0, _, rfl, w0, n1, _, rfl, _, n2, _, rfl, _, n3, _, rfl, _, n4, _, rfl, _, n5, _, rfl, _, n6, _, rfl, _, rfl⟩ := hi i hil
      exact ⟨⟨n0, n1, n2, n3, n4, n5, n6⟩, ⟨hc 0 _ rfl, hc 1 _ rfl, hc 2 _ rfl, hc 3 _ rfl, hc 4 _ rfl, hc 5 _ rfl, hc 6 _ rfl⟩, u8_bdC w0⟩)
    refine ⟨some a, ls, cap, by rw [hbl], by omega, by unfold maxLen at hm; omega, fun i hi => ?_⟩
    have hg : ls[i]? = some (ls.getD i default) := by rw [List.getD_eq_getElem?_getD, List.getElem?_eq_getElem hi]; rfl
    obtain ⟨h1, h2⟩ := hbs i _ hg
    exact ⟨a, rfl, h1, h2⟩
end Go.Proofs.Ytafajclbghofkaa
