/- coulomblaw09.ChargeProofs returns true at every contract, flag, number of plugs and power; the arguments read afterwards as before. No condition. -/
import Derived.Test.YtlklnaebdnahcaaGreatCP7
namespace Go.Proofs.YtlklnaebdnahcaaGreat
open Go.ChangeShapes Go.WideShapes Go.ChangeAt Go.RowKit
set_option linter.unusedVariables false

theorem chargeProofs_own : ownKnob Tryz.prog.godebug = none := by kernel_rfl
theorem chargeProofs_laidOut : laidOutB Tryz.prog = true := by kernel_rfl
theorem bd_u8 {a : Int} (h : (Lit.int .u8 a).wf = true) : 0 ≤ a ∧ a ≤ 255 := by have h1 : IntKind.u8.min = 0 := rfl; have h2 : IntKind.u8.max = 255 := rfl; simp only [Lit.wf, Bool.and_eq_true, decide_eq_true_eq] at h; omega
theorem bd_i16 {a : Int} (h : (Lit.int .i16 a).wf = true) : -32768 ≤ a ∧ a ≤ 32767 := by have h1 : IntKind.i16.min = -32768 := rfl; have h2 : IntKind.i16.max = 32767 := rfl; simp only [Lit.wf, Bool.and_eq_true, decide_eq_true_eq] at h; omega

set_option maxRecDepth 100000 in
theorem chargeProofs_lifted (os : Os) (started : os.Started) (H : Type) (enc : TypeId × Value → H) :
    ReturnsInHanded {} Tryz.checked os 6 .any (Rows.chargeProofsSpec.pre6 enc Tryz.prog Tryz.f6 Rows.chargeProofsRow.domain false) (Rows.chargeProofsSpec.post enc Tryz.prog Tryz.f6 false true false false) := by
  refine returnsInHanded_of_change (C := Tryz.checked) chargeProofs_own started (by kernel_rfl) Tryz.func6
    (ChangeSpec.witness6 (enc := enc) (C := Tryz.checked) false ⟨#[], #[.int .u8 0, .bool false, .int .u8 0, .int .i16 0], []⟩ 8 (by kernel_rfl) (by kernel_rfl) (by kernel_rfl) (by kernel_rfl)) ?_
  intro W base args ds gs before hval0 hW hcnd _
  have hval : ∀ (j : Nat) t v, Tryz.f6.params[j]? = some t → args[j]? = some v → Value.okWide Tryz.prog W .any base t v := hval0
  have hW' := hW
  obtain ⟨p, q, hA0, hV, rfl, hfz, hnd⟩ := hW
  obtain ⟨rfl, rfl⟩ := trodVars_none hV
  simp only [List.append_nil] at hW'
  have hA : DataW.TrodAll enc Tryz.prog W 0 (fun _ => true) true Tryz.f6.params.toList args.toList ds p := hA0
  have hA1 := hA
  rw [Tryz.params6] at hA hval
  obtain ⟨v0, vs0, d0, ds0, p0, q0, hargs, rfl, hp0, r0, s0⟩ := trodAll_cons hA
  obtain ⟨v1, vs1, d1, ds1, p1, q1, rfl, rfl, hp1, r1, s1⟩ := trodAll_cons s0
  obtain ⟨v2, vs2, d2, ds2, p2, q2, rfl, rfl, hp2, r2, s2⟩ := trodAll_cons s1
  obtain ⟨v3, vs3, d3, ds3, p3, q3, rfl, rfl, hp3, r3, s3⟩ := trodAll_cons s2
  obtain ⟨rfl, rfl, rfl⟩ := trodAll_nil s3
  obtain rfl : args = #[v0, v1, v2, v3] := by cases args; simp_all
  obtain ⟨ct, rfl, _, _, wct⟩ := open_int Tryz.underlying5 (hval 0 _ v0 rfl rfl) r0
  obtain ⟨wg, rfl, _, _⟩ := open_bool Tryz.underlying4 (hval 1 _ v1 rfl rfl) r1
  obtain ⟨pl, rfl, _, _, wpl⟩ := open_int Tryz.underlying5 (hval 2 _ v2 rfl rfl) r2
  obtain ⟨pw, rfl, _, _, wpw⟩ := open_int Tryz.underlying140 (hval 3 _ v3 rfl rfl) r3
  refine (Proofs_walk ct wg pl pw (bd_u8 wct) (bd_u8 wpl) (bd_i16 wpw) W).mono fun e W' ⟨he, hb⟩ => ?_
  subst he
  exact ⟨_, rfl, law_post chargeProofs_laidOut (by kernel_rfl) rfl hW' hA1 rfl rfl rfl (fun _ _ _ => (trodAll_cons_mk (shut_bool Tryz.underlying4 _) trodAll_mk0)) hb (ok_one (by kernel_rfl) rfl (okWide_bool_mk Tryz.underlying4 _))⟩

theorem chargeProofs_holds : Rows.ChargeProofsSaid :=
  OpenClaim.holds_of_wide 6 Tryz.f6 rfl rfl rfl rfl rfl rfl rfl ⟨rfl, rfl, rfl, rfl, rfl⟩ rfl rfl rfl rfl rfl (by kernel_rfl) Tryz.func6 (by kernel_rfl)
    (of_decide_eq_true (by kernel_rfl)) (by unfold Func.isWrapper; first | (rw [if_pos (by decide +kernel)]; kernel_rfl) | (rw [if_neg (by decide +kernel)]; exact ⟨rfl, rfl⟩))
    (fun os started H enc _ => chargeProofs_lifted os started H enc)
#print axioms chargeProofs_holds
end Go.Proofs.YtlklnaebdnahcaaGreat
