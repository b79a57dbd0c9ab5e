/- coulomblaw09.ChargeArrives returns true at every list of hops; the arguments read afterwards as before. No condition. -/
import Derived.Test.YtafajclbghofkaaLArrM
import Derived.Test.YtafajclbghofkaaO5
namespace Go.Proofs.Ytafajclbghofkaa
open Go.ChangeShapes Go.WideShapes Go.ChangeAt Go.RowKit
set_option linter.unusedVariables false

theorem chargeArrives_own : ownKnob Try.prog.godebug = none := by kernel_rfl
theorem chargeArrives_laidOut : laidOutB Try.prog = true := by kernel_rfl
theorem chargeArrives_sh50 : shK Try.prog 6 50 = some (.s 2 (.i .u8 (.i .u8 .nil)) .nil) := by kernel_rfl

set_option maxRecDepth 100000 in
theorem chargeArrives_lifted (os : Os) (started : os.Started) (H : Type) (enc : TypeId × Value → H) :
    ReturnsInHanded {} Try.checked os 6 .any (Rows.chargeArrivesSpec.pre6 enc Try.prog Try.f6 Rows.chargeArrivesRow.domain false) (Rows.chargeArrivesSpec.post enc Try.prog Try.f6 false true false false) := by
  refine returnsInHanded_of_change (C := Try.checked) chargeArrives_own started (by kernel_rfl) Try.func6
    (ChangeSpec.witness6 (enc := enc) (C := Try.checked) false ⟨#[], #[.slice none 0 0], []⟩ 8 (by kernel_rfl) (by kernel_rfl) (by kernel_rfl) (by kernel_rfl)) ?_
  intro W base args ds gs before hval0 hW hcnd _
  have hval : ∀ (j : Nat) t v, Try.f6.params[j]? = some t → args[j]? = some v → Value.okWide Try.prog W .any base t v := hval0
  have hW' := hW
  obtain ⟨p, q, hA0, hV, rfl, hfz, hnd⟩ := hW
  obtain ⟨rfl, rfl⟩ := trodVars_none hV
  simp only [List.append_nil] at hW'
  have hA : DataW.TrodAll enc Try.prog W 0 (fun _ => true) true Try.f6.params.toList args.toList ds p := hA0
  have hA1 := hA
  rw [Try.params6] at hA hval
  obtain ⟨v0, vs0, d0, ds0, p0, q0, hargs, rfl, hp0, r0, s0⟩ := trodAll_cons hA
  obtain ⟨rfl, rfl, rfl⟩ := trodAll_nil s0
  obtain rfl : args = #[v0] := by cases args; simp_all
  obtain ⟨A, hs, cap, rfl, hlc, hcm, hhs⟩ := hops_of (sh_slice Try.underlying50 chargeArrives_sh50 (hval 0 _ v0 rfl rfl) r0)
  refine (Arrives_walk A hs cap W hlc hcm hhs).mono fun e W' ⟨he, hb⟩ => ?_
  subst he
  exact ⟨_, rfl, law_post chargeArrives_laidOut (by kernel_rfl) rfl hW' hA1 rfl rfl rfl (fun _ _ _ => (trodAll_cons_mk (shut_bool Try.underlying4 _) trodAll_mk0)) hb (ok_one (by kernel_rfl) rfl (okWide_bool_mk Try.underlying4 _))⟩

theorem chargeArrives_holds : Rows.ChargeArrivesSaid :=
  OpenClaim.holds_of_wide 6 Try.f6 rfl rfl rfl rfl rfl rfl rfl ⟨rfl, rfl, rfl, rfl, rfl⟩ rfl rfl rfl rfl rfl (by kernel_rfl) Try.func6 (by kernel_rfl)
    (of_decide_eq_true (by kernel_rfl)) (by unfold Func.isWrapper; first | (rw [if_pos (by decide +kernel)]; kernel_rfl) | (rw [if_neg (by decide +kernel)]; exact ⟨rfl, rfl⟩))
    (fun os started H enc _ => chargeArrives_lifted os started H enc)
#print axioms chargeArrives_holds
end Go.Proofs.Ytafajclbghofkaa
