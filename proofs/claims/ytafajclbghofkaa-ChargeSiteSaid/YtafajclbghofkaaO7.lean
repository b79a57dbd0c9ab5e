/- Opening a list of what happens that came in. -/
import Derived.Test.YtafajclbghofkaaU6
import Derived.Test.YtafajclbghofkaaO1
namespace Go.Proofs.Ytafajclbghofkaa
open Go.RowKit
set_option linter.unusedVariables false
theorem u8_bdU {a : Int} (h : (Lit.int .u8 a).wf = true) : U8 a := by
  have h1 : IntKind.u8.min = 0 := rfl
  have h2 : IntKind.u8.max = 255 := rfl
  simp only [Lit.wf, Bool.and_eq_true, decide_eq_true_eq] at h
  unfold U8
  omega
theorem uses_of {w : World} {v : Value} (h : v = .slice none 0 0 ∨ ∃ a len cap, v = .slice (some a) len cap ∧ len ≤ cap ∧ cap ≤ maxLen ∧
      ∀ i, i < len → ∃ cs, cs.length = 6 ∧ (∀ j u, cs[j]? = some u → w.cell? ((a.add (i * 6)).add j) = some u) ∧ Rd w (.i .u8 (.i .u8 (.i .u8 (.i .u8 (.i .u8 (.i .u8 .nil)))))) cs) :
    ∃ (A : Option Addr) (us : List Us) (cap : Nat), v = .slice A us.length cap ∧ us.length ≤ cap ∧ cap ≤ 9223372036854775807 ∧ UsesAt w A us := by
  rcases h with rfl | ⟨a, len, cap, rfl, hl, hm, hi⟩
  · exact ⟨none, [], 0, rfl, Nat.le_refl _, by omega, fun i hi => by simp at hi⟩
  · obtain ⟨us, hbl, hbs⟩ := choose_list (α := Us) (n := len) (Q := fun i x => UseAt w (a.add (i * 6)) x ∧ x.Ok) (fun i hil => by
      obtain ⟨cs, _, hc, n0, _, rfl, w0, n1, _, rfl, w1, n2, _, rfl, w2, n3, _, rfl, w3, n4, _, rfl, w4, n5, _, rfl, w5, rfl⟩ := hi i hil
      exact ⟨⟨n0, n1, n2, n3, n4, n5⟩, ⟨hc 0 _ rfl, hc 1 _ rfl, hc 2 _ rfl, hc 3 _ rfl, hc 4 _ rfl, hc 5 _ rfl⟩, u8_bdU w0, u8_bdU w1, u8_bdU w2, u8_bdU w3, u8_bdU w4, u8_bdU w5⟩)
    refine ⟨some a, us, cap, by rw [hbl], by omega, by unfold maxLen at hm; omega, fun i hi => ?_⟩
    have hg : us[i]? = some (us.getD i default) := by rw [List.getD_eq_getElem?_getD, List.getElem?_eq_getElem hi]; rfl
    obtain ⟨h1, h2⟩ := hbs i _ hg
    exact ⟨a, rfl, h1, h2⟩
end Go.Proofs.Ytafajclbghofkaa
