/- coulomblaw09.ChargeNil returns true at every note, packet, lease and action; the arguments read afterwards as before. No condition. -/
import Derived.Test.YtlklnaebdnahcaaGreatLNil
import Derived.Test.YtlklnaebdnahcaaGreatK3
namespace Go.Proofs.YtlklnaebdnahcaaGreat
open Go.ChangeShapes Go.WideShapes Go.ChangeAt Go.RowKit
set_option linter.unusedVariables false

theorem chargeNil_own : ownKnob Tryz.prog.godebug = none := by kernel_rfl
theorem chargeNil_laidOut : laidOutB Tryz.prog = true := by kernel_rfl
theorem chargeNil_sh23 : shK Tryz.prog 5 23 = some (.i .i64 (.i .i64 (.i .i64 (.i .i64 (.i .i64 .nil))))) := by kernel_rfl
theorem chargeNil_sh25 : shK Tryz.prog 6 25 = some (.b (.i .i64 (.i .i64 (.i .i64 (.i .i64 (.i .i64 (.i .i64 (.i .i64 .nil)))))))) := by kernel_rfl
theorem chargeNil_sh27 : shK Tryz.prog 5 27 = some (.i .i64 (.i .i64 (.i .i64 (.i .i64 .nil)))) := by kernel_rfl
theorem chargeNil_sh29 : shK Tryz.prog 5 29 = some (.i .i64 (.i .i64 (.i .i64 (.i .i64 .nil)))) := by kernel_rfl

set_option maxRecDepth 100000 in
theorem chargeNil_lifted (os : Os) (started : os.Started) (H : Type) (enc : TypeId × Value → H) :
    ReturnsInHanded {} Tryz.checked os 3 .any (Rows.chargeNilSpec.pre6 enc Tryz.prog Tryz.f3 Rows.chargeNilRow.domain false) (Rows.chargeNilSpec.post enc Tryz.prog Tryz.f3 false true false false) := by
  refine returnsInHanded_of_change (C := Tryz.checked) chargeNil_own started (by kernel_rfl) Tryz.func3
    (ChangeSpec.witness6 (enc := enc) (C := Tryz.checked) false ⟨#[], #[.agg #[.int .i64 0, .int .i64 0, .int .i64 0, .int .i64 0, .int .i64 0], .agg #[.bool false, .int .i64 0, .int .i64 0, .int .i64 0, .int .i64 0, .int .i64 0, .int .i64 0, .int .i64 0], .agg #[.int .i64 0, .int .i64 0, .int .i64 0, .int .i64 0], .agg #[.int .i64 0, .int .i64 0, .int .i64 0, .int .i64 0]], []⟩ 8 (by kernel_rfl) (by kernel_rfl) (by kernel_rfl) (by kernel_rfl)) ?_
  intro W base args ds gs before hval0 hW hcnd _
  have hval : ∀ (j : Nat) t v, Tryz.f3.params[j]? = some t → args[j]? = some v → Value.okWide Tryz.prog W .any base t v := hval0
  have hW' := hW
  obtain ⟨p, q, hA0, hV, rfl, hfz, hnd⟩ := hW
  obtain ⟨rfl, rfl⟩ := trodVars_none hV
  simp only [List.append_nil] at hW'
  have hA : DataW.TrodAll enc Tryz.prog W 0 (fun _ => true) true Tryz.f3.params.toList args.toList ds p := hA0
  have hA1 := hA
  rw [Tryz.params3] at hA hval
  obtain ⟨v0, vs0, d0, ds0, p0, q0, hargs, rfl, hp0, r0, s0⟩ := trodAll_cons hA
  obtain ⟨v1, vs1, d1, ds1, p1, q1, rfl, rfl, hp1, r1, s1⟩ := trodAll_cons s0
  obtain ⟨v2, vs2, d2, ds2, p2, q2, rfl, rfl, hp2, r2, s2⟩ := trodAll_cons s1
  obtain ⟨v3, vs3, d3, ds3, p3, q3, rfl, rfl, hp3, r3, s3⟩ := trodAll_cons s2
  obtain ⟨rfl, rfl, rfl⟩ := trodAll_nil s3
  obtain rfl : args = #[v0, v1, v2, v3] := by cases args; simp_all
  obtain ⟨_, rfl, n0, _, rfl, _, n1, _, rfl, _, n2, _, rfl, _, n3, _, rfl, _, n4, _, rfl, _, rfl⟩ := sh_agg Tryz.underlying23 chargeNil_sh23 (hval 0 _ v0 rfl rfl) r0
  obtain ⟨_, rfl, b, _, rfl, p0, _, rfl, _, m0, _, rfl, _, m1, _, rfl, _, m2, _, rfl, _, m3, _, rfl, _, m4, _, rfl, _, p1, _, rfl, _, rfl⟩ := sh_agg Tryz.underlying25 chargeNil_sh25 (hval 1 _ v1 rfl rfl) r1
  obtain ⟨_, rfl, l0, _, rfl, _, l1, _, rfl, _, l2, _, rfl, _, l3, _, rfl, _, rfl⟩ := sh_agg Tryz.underlying27 chargeNil_sh27 (hval 2 _ v2 rfl rfl) r2
  obtain ⟨_, rfl, a0, _, rfl, _, a1, _, rfl, _, a2, _, rfl, _, a3, _, rfl, _, rfl⟩ := sh_agg Tryz.underlying29 chargeNil_sh29 (hval 3 _ v3 rfl rfl) r3
  refine (Nil_walk n0 n1 n2 n3 n4 b p0 m0 m1 m2 m3 m4 p1 l0 l1 l2 l3 a0 a1 a2 a3 W).mono fun e W' ⟨he, hb⟩ => ?_
  subst he
  exact ⟨_, rfl, law_post chargeNil_laidOut (by kernel_rfl) rfl hW' hA1 rfl rfl rfl (fun _ _ _ => (trodAll_cons_mk (shut_bool Tryz.underlying4 _) trodAll_mk0)) hb (ok_one (by kernel_rfl) rfl (okWide_bool_mk Tryz.underlying4 _))⟩

theorem chargeNil_holds : Rows.ChargeNilSaid :=
  OpenClaim.holds_of_wide 3 Tryz.f3 rfl rfl rfl rfl rfl rfl rfl ⟨rfl, rfl, rfl, rfl, rfl⟩ rfl rfl rfl rfl rfl (by kernel_rfl) Tryz.func3 (by kernel_rfl)
    (of_decide_eq_true (by kernel_rfl)) (by unfold Func.isWrapper; first | (rw [if_pos (by decide +kernel)]; kernel_rfl) | (rw [if_neg (by decide +kernel)]; exact ⟨rfl, rfl⟩))
    (fun os started H enc _ => chargeNil_lifted os started H enc)
#print axioms chargeNil_holds
end Go.Proofs.YtlklnaebdnahcaaGreat
