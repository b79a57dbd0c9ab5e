/- coulomblaw08.DepotLeast returns true at every net; the argument read afterwards as before. No condition. -/
import Derived.Test.YtmebpglkeedaoaaDL4
namespace Go.Proofs.Ytmebpglkeedaoaa
open Go.ChangeShapes Go.WideShapes Go.ChangeAt Go.RowKit Dp
set_option linter.unusedVariables false

theorem depotLeast_own : ownKnob Try.prog.godebug = none := by kernel_rfl
theorem depotLeast_laidOut : laidOutB Try.prog = true := by kernel_rfl
theorem depotLeast_sh25 : shK Try.prog 8 25 = some (.s 1 (.i .i64 .nil) (.s 4 (.i .i64 (.i .i64 (.i .i64 (.i .i64 .nil)))) .nil)) := by kernel_rfl

set_option maxRecDepth 100000 in
theorem depotLeast_lifted (os : Os) (started : os.Started) (H : Type) (enc : TypeId × Value → H) :
    ReturnsInHanded {} Try.checked os 5 .any (Rows.depotLeastSpec.pre6 enc Try.prog Try.f5 Rows.depotLeastRow.domain false) (Rows.depotLeastSpec.post enc Try.prog Try.f5 false true false false) := by
  refine returnsInHanded_of_change (C := Try.checked) depotLeast_own started (by kernel_rfl) Try.func5
    (ChangeSpec.witness6 (enc := enc) (C := Try.checked) false ⟨#[], #[.agg #[.slice none 0 0, .slice none 0 0]], []⟩ 8 (by kernel_rfl) (by kernel_rfl) (by kernel_rfl) (by kernel_rfl)) ?_
  intro W base args ds gs before hval0 hW hcnd _
  have hval : ∀ (j : Nat) t v, Try.f5.params[j]? = some t → args[j]? = some v → Value.okWide Try.prog W .any base t v := hval0
  have hW' := hW
  obtain ⟨p, q, hA0, hV, rfl, hfz, hnd⟩ := hW
  obtain ⟨rfl, rfl⟩ := trodVars_none hV
  simp only [List.append_nil] at hW'
  have hA : DataW.TrodAll enc Try.prog W 0 (fun _ => true) true Try.f5.params.toList args.toList ds p := hA0
  have hA1 := hA
  rw [Try.params5] at hA hval
  obtain ⟨v0, vs0, d0, ds0, p0, q0, hargs, rfl, hp0, r0, s0⟩ := trodAll_cons hA
  obtain ⟨rfl, rfl, rfl⟩ := trodAll_nil s0
  obtain rfl : args = #[v0] := by cases args; simp_all
  obtain ⟨_, rfl, va, _, rfl, ⟨vb, _, rfl, rfl, hsb⟩, hsa⟩ := sh_agg Try.underlying25 depotLeast_sh25 (hval 0 _ v0 rfl rfl) r0
  obtain ⟨A, su, cA, rfl, jA1, jA2, jAi⟩ := ints_of hsa
  obtain ⟨B, ar, cB, rfl, jB1, jB2, jBi⟩ := arcs_of hsb
  refine (LeastL_walk A B (Dp.Net.mk su ar) _ _ cA cB W rfl rfl ⟨jA1, jA2⟩ ⟨jB1, jB2⟩ ⟨jAi, jBi⟩).mono fun e W' ⟨he, hb⟩ => ?_
  subst he
  exact ⟨_, rfl, law_post depotLeast_laidOut (by kernel_rfl) rfl hW' hA1 rfl rfl rfl (fun _ _ _ => (trodAll_cons_mk (shut_bool Try.underlying4 _) trodAll_mk0)) hb (ok_one (by kernel_rfl) rfl (okWide_bool_mk Try.underlying4 _))⟩

theorem depotLeast_holds : Rows.DepotLeastSaid :=
  OpenClaim.holds_of_wide 5 Try.f5 rfl rfl rfl rfl rfl rfl rfl ⟨rfl, rfl, rfl, rfl, rfl⟩ rfl rfl rfl rfl rfl (by kernel_rfl) Try.func5 (by kernel_rfl)
    (of_decide_eq_true (by kernel_rfl)) (by unfold Func.isWrapper; first | (rw [if_pos (by decide +kernel)]; kernel_rfl) | (rw [if_neg (by decide +kernel)]; exact ⟨rfl, rfl⟩))
    (fun os started H enc _ => depotLeast_lifted os started H enc)
#print axioms depotLeast_holds
end Go.Proofs.Ytmebpglkeedaoaa
