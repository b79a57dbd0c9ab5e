/- coulomblaw09.ChargeLines returns true at every list of steps and place of the copy; the arguments read afterwards as before. No condition. -/
import Derived.Test.YtafajclbghofkaaLLines
import Derived.Test.YtafajclbghofkaaO3
namespace Go.Proofs.Ytafajclbghofkaa
open Go.ChangeShapes Go.WideShapes Go.ChangeAt Go.RowKit
set_option linter.unusedVariables false

theorem chargeLines_own : ownKnob Try.prog.godebug = none := by kernel_rfl
theorem chargeLines_laidOut : laidOutB Try.prog = true := by kernel_rfl
theorem chargeLines_sh70 : shK Try.prog 6 70 = some (.s 14 (.i .u8 (.i .i64 (.i .i64 (.i .i64 (.i .i64 (.i .i64 (.b (.i .i64 (.i .i64 (.i .i64 (.i .i64 (.i .i64 (.i .i64 (.i .i64 .nil)))))))))))))) .nil) := by kernel_rfl

set_option maxRecDepth 100000 in
theorem chargeLines_lifted (os : Os) (started : os.Started) (H : Type) (enc : TypeId × Value → H) :
    ReturnsInHanded {} Try.checked os 7 .any (Rows.chargeLinesSpec.pre6 enc Try.prog Try.f7 Rows.chargeLinesRow.domain false) (Rows.chargeLinesSpec.post enc Try.prog Try.f7 false true false false) := by
  refine returnsInHanded_of_change (C := Try.checked) chargeLines_own started (by kernel_rfl) Try.func7
    (ChangeSpec.witness6 (enc := enc) (C := Try.checked) false ⟨#[], #[.slice none 0 0, .int .u8 0], []⟩ 8 (by kernel_rfl) (by kernel_rfl) (by kernel_rfl) (by kernel_rfl)) ?_
  intro W base args ds gs before hval0 hW hcnd _
  have hval : ∀ (j : Nat) t v, Try.f7.params[j]? = some t → args[j]? = some v → Value.okWide Try.prog W .any base t v := hval0
  have hW' := hW
  obtain ⟨p, q, hA0, hV, rfl, hfz, hnd⟩ := hW
  obtain ⟨rfl, rfl⟩ := trodVars_none hV
  simp only [List.append_nil] at hW'
  have hA : DataW.TrodAll enc Try.prog W 0 (fun _ => true) true Try.f7.params.toList args.toList ds p := hA0
  have hA1 := hA
  rw [Try.params7] at hA hval
  obtain ⟨v0, vs0, d0, ds0, p0, q0, hargs, rfl, hp0, r0, s0⟩ := trodAll_cons hA
  obtain ⟨v1, vs1, d1, ds1, p1, q1, rfl, rfl, hp1, r1, s1⟩ := trodAll_cons s0
  obtain ⟨rfl, rfl, rfl⟩ := trodAll_nil s1
  obtain rfl : args = #[v0, v1] := by cases args; simp_all
  obtain ⟨A, ss, cap, rfl, hlc, hcm, hss⟩ := steps_of (sh_slice Try.underlying70 chargeLines_sh70 (hval 0 _ v0 rfl rfl) r0)
  obtain ⟨a, rfl, _, _, wa⟩ := open_int Try.underlying5 (hval 1 _ v1 rfl rfl) r1
  refine (Lines_walk  a A ss cap W hlc hcm hss (u8_bd' wa)).mono fun e W' ⟨he, hb⟩ => ?_
  subst he
  exact ⟨_, rfl, law_post chargeLines_laidOut (by kernel_rfl) rfl hW' hA1 rfl rfl rfl (fun _ _ _ => (trodAll_cons_mk (shut_bool Try.underlying4 _) trodAll_mk0)) hb (ok_one (by kernel_rfl) rfl (okWide_bool_mk Try.underlying4 _))⟩

theorem chargeLines_holds : Rows.ChargeLinesSaid :=
  OpenClaim.holds_of_wide 7 Try.f7 rfl rfl rfl rfl rfl rfl rfl ⟨rfl, rfl, rfl, rfl, rfl⟩ rfl rfl rfl rfl rfl (by kernel_rfl) Try.func7 (by kernel_rfl)
    (of_decide_eq_true (by kernel_rfl)) (by unfold Func.isWrapper; first | (rw [if_pos (by decide +kernel)]; kernel_rfl) | (rw [if_neg (by decide +kernel)]; exact ⟨rfl, rfl⟩))
    (fun os started H enc _ => chargeLines_lifted os started H enc)
#print axioms chargeLines_holds
end Go.Proofs.Ytafajclbghofkaa
