/- Opening a list of steps that came in. -/
import Derived.Test.YtafajclbghofkaaLLines
import Derived.Test.YtafajclbghofkaaO1
namespace Go.Proofs.Ytafajclbghofkaa
open Go.RowKit
set_option linter.unusedVariables false
theorem u8_bd' {a : Int} (h : (Lit.int .u8 a).wf = true) : 0 ≤ a ∧ a ≤ 255 := by
  have h1 : IntKind.u8.min = 0 := rfl
  have h2 : IntKind.u8.max = 255 := rfl
  simp only [Lit.wf, Bool.and_eq_true, decide_eq_true_eq] at h
  omega
theorem steps_of {w : World} {v : Value} (h : v = .slice none 0 0 ∨ ∃ a len cap, v = .slice (some a) len cap ∧ len ≤ cap ∧ cap ≤ maxLen ∧
      ∀ i, i < len → ∃ cs, cs.length = 14 ∧ (∀ j u, cs[j]? = some u → w.cell? ((a.add (i * 14)).add j) = some u) ∧ Rd w (.i .u8 (.i .i64 (.i .i64 (.i .i64 (.i .i64 (.i .i64 (.b (.i .i64 (.i .i64 (.i .i64 (.i .i64 (.i .i64 (.i .i64 (.i .i64 .nil)))))))))))))) cs) :
    ∃ (A : Option Addr) (ss : List St) (cap : Nat), v = .slice A ss.length cap ∧ ss.length ≤ cap ∧ cap ≤ 9223372036854775807 ∧ StepsAt w A ss := by
  rcases h with rfl | ⟨a, len, cap, rfl, hl, hm, hi⟩
  · exact ⟨none, [], 0, rfl, Nat.le_refl _, by omega, fun i hi => by simp at hi⟩
  · obtain ⟨ss, hbl, hbs⟩ := choose_list (α := St) (n := len) (Q := fun i x => StepAt w (a.add (i * 14)) x ∧ (0 ≤ x.d ∧ x.d ≤ 255) ∧ x.p.ak ≤ 9223372036854775807) (fun i hil => by
      obtain ⟨cs, _, hc, n0, _, rfl, w0, n1, _, rfl, _, n2, _, rfl, _, n3, _, rfl, _, n4, _, rfl, _, n5, _, rfl, _, b6, _, rfl, n7, _, rfl, _, n8, _, rfl, _, n9, _, rfl, _, n10, _, rfl, _, n11, _, rfl, _, n12, _, rfl, _, n13, _, rfl, w13, rfl⟩ := hi i hil
      exact ⟨⟨n0, ⟨n1, n2, n3, n4, n5⟩, ⟨b6, n7, ⟨n8, n9, n10, n11, n12⟩, n13⟩⟩, ⟨hc 0 _ rfl, hc 1 _ rfl, hc 2 _ rfl, hc 3 _ rfl, hc 4 _ rfl, hc 5 _ rfl, hc 6 _ rfl, hc 7 _ rfl, hc 8 _ rfl, hc 9 _ rfl, hc 10 _ rfl, hc 11 _ rfl, hc 12 _ rfl, hc 13 _ rfl⟩, u8_bd' w0, (i64_bd w13).2⟩)
    refine ⟨some a, ss, cap, by rw [hbl], by omega, by unfold maxLen at hm; omega, fun i hi => ?_⟩
    have hg : ss[i]? = some (ss.getD i default) := by rw [List.getD_eq_getElem?_getD, List.getElem?_eq_getElem hi]; rfl
    obtain ⟨h1, h2, h3⟩ := hbs i _ hg
    exact ⟨a, rfl, h1, h2, h3⟩
end Go.Proofs.Ytafajclbghofkaa
