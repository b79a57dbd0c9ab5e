/- Opening a list of hops that came in. -/
import Derived.Test.YtafajclbghofkaaLArrM
import Derived.Test.YtafajclbghofkaaO1
namespace Go.Proofs.Ytafajclbghofkaa
open Go.RowKit
set_option linter.unusedVariables false
theorem u8_bdA {a : Int} (h : (Lit.int .u8 a).wf = true) : 0 ≤ a ∧ a ≤ 255 := by
  have h1 : IntKind.u8.min = 0 := rfl
  have h2 : IntKind.u8.max = 255 := rfl
  simp only [Lit.wf, Bool.and_eq_true, decide_eq_true_eq] at h
  omega
theorem hops_of {w : World} {v : Value} (h : v = .slice none 0 0 ∨ ∃ a len cap, v = .slice (some a) len cap ∧ len ≤ cap ∧ cap ≤ maxLen ∧
      ∀ i, i < len → ∃ cs, cs.length = 2 ∧ (∀ j u, cs[j]? = some u → w.cell? ((a.add (i * 2)).add j) = some u) ∧ Rd w (.i .u8 (.i .u8 .nil)) cs) :
    ∃ (A : Option Addr) (hs : List Hp) (cap : Nat), v = .slice A hs.length cap ∧ hs.length ≤ cap ∧ cap ≤ 9223372036854775807 ∧ HopsAt w A hs := by
  rcases h with rfl | ⟨a, len, cap, rfl, hl, hm, hi⟩
  · exact ⟨none, [], 0, rfl, Nat.le_refl _, by omega, fun i hi => by simp at hi⟩
  · obtain ⟨hs, hbl, hbs⟩ := choose_list (α := Hp) (n := len) (Q := fun i x => HopAt w (a.add (i * 2)) x ∧ (0 ≤ x.d ∧ x.d ≤ 255) ∧ 0 ≤ x.a ∧ x.a ≤ 255) (fun i hil => by
      obtain ⟨cs, _, hc, n0, _, rfl, w0, n1, _, rfl, w1, rfl⟩ := hi i hil
      exact ⟨⟨n0, n1⟩, ⟨hc 0 _ rfl, hc 1 _ rfl⟩, u8_bdA w0, u8_bdA w1⟩)
    refine ⟨some a, hs, cap, by rw [hbl], by omega, by unfold maxLen at hm; omega, fun i hi => ?_⟩
    have hg : hs[i]? = some (hs.getD i default) := by rw [List.getD_eq_getElem?_getD, List.getElem?_eq_getElem hi]; rfl
    obtain ⟨h1, h2, h3⟩ := hbs i _ hg
    exact ⟨a, rfl, h1, h2, h3⟩
end Go.Proofs.Ytafajclbghofkaa
