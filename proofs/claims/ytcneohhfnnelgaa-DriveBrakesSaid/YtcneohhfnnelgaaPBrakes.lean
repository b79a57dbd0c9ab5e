/- coulomblaw06.DriveBrakes returns true at every demand, span and brake; the arguments read afterwards as before. No condition. -/
import Derived.Test.YtcneohhfnnelgaaLBrakes
import Derived.Test.YtcneohhfnnelgaaK2
namespace Go.Proofs.Ytcneohhfnnelgaa
open Go.ChangeShapes Go.WideShapes Go.ChangeAt Go.RowKit
set_option linter.unusedVariables false

theorem driveBrakes_own : ownKnob Try.prog.godebug = none := by kernel_rfl
theorem driveBrakes_laidOut : laidOutB Try.prog = true := by kernel_rfl
theorem driveBrakes_flat29 : flatK Try.prog 3 29 = some [some .i64, some .i64] := by kernel_rfl

set_option maxRecDepth 100000 in
theorem driveBrakes_lifted (os : Os) (started : os.Started) (H : Type) (enc : TypeId × Value → H) :
    ReturnsInHanded {} Try.checked os 4 .any (Rows.driveBrakesSpec.pre6 enc Try.prog Try.f4 Rows.driveBrakesRow.domain false) (Rows.driveBrakesSpec.post enc Try.prog Try.f4 false true false false) := by
  refine returnsInHanded_of_change (C := Try.checked) driveBrakes_own started (by kernel_rfl) Try.func4
    (ChangeSpec.witness6 (enc := enc) (C := Try.checked) false ⟨#[], #[.int .i64 0, .agg #[.int .i64 0, .int .i64 0], .int .i64 0], []⟩ 8 (by kernel_rfl) (by kernel_rfl) (by kernel_rfl) (by kernel_rfl)) ?_
  intro W base args ds gs before hval0 hW hcnd _
  have hval : ∀ (j : Nat) t v, Try.f4.params[j]? = some t → args[j]? = some v → Value.okWide Try.prog W .any base t v := hval0
  have hW' := hW
  obtain ⟨p, q, hA0, hV, rfl, hfz, hnd⟩ := hW
  obtain ⟨rfl, rfl⟩ := trodVars_none hV
  simp only [List.append_nil] at hW'
  have hA : DataW.TrodAll enc Try.prog W 0 (fun _ => true) true Try.f4.params.toList args.toList ds p := hA0
  have hA1 := hA
  rw [Try.params4] at hA hval
  obtain ⟨v0, vs0, d0, ds0, p0, q0, hargs, rfl, hp0, r0, s0⟩ := trodAll_cons hA
  obtain ⟨v1, vs1, d1, ds1, p1, q1, rfl, rfl, hp1, r1, s1⟩ := trodAll_cons s0
  obtain ⟨v2, vs2, d2, ds2, p2, q2, rfl, rfl, hp2, r2, s2⟩ := trodAll_cons s1
  obtain ⟨rfl, rfl, rfl⟩ := trodAll_nil s2
  obtain rfl : args = #[v0, v1, v2] := by cases args; simp_all
  obtain ⟨d, rfl, _, _, w_d⟩ := open_int Try.underlying2 (hval 0 2 v0 rfl rfl) r0
  obtain ⟨_, rfl, k1⟩ := flat_agg Try.underlying29 driveBrakes_flat29 (hval 1 29 v1 rfl rfl) r1
  obtain ⟨lo, hi, rfl, w_lo, w_hi⟩ := cells_i2 k1
  obtain ⟨br, rfl, _, _, w_br⟩ := open_int Try.underlying2 (hval 2 2 v2 rfl rfl) r2
  refine (DriveBrakes_any d lo hi br W).mono fun e W' ⟨he, hb⟩ => ?_
  subst he
  exact ⟨_, rfl, law_post driveBrakes_laidOut (by kernel_rfl) rfl hW' hA1 rfl rfl rfl (fun _ _ _ => (trodAll_cons_mk (shut_bool Try.underlying4 _) trodAll_mk0)) hb (ok_one (by kernel_rfl) rfl (okWide_bool_mk Try.underlying4 _))⟩

theorem driveBrakes_holds : Rows.DriveBrakesSaid :=
  OpenClaim.holds_of_wide 4 Try.f4 rfl rfl rfl rfl rfl rfl rfl ⟨rfl, rfl, rfl, rfl, rfl⟩ rfl rfl rfl rfl rfl (by kernel_rfl) Try.func4 (by kernel_rfl)
    (of_decide_eq_true (by kernel_rfl)) (by unfold Func.isWrapper; first | (rw [if_pos (by decide +kernel)]; kernel_rfl) | (rw [if_neg (by decide +kernel)]; exact ⟨rfl, rfl⟩))
    (fun os started H enc _ => driveBrakes_lifted os started H enc)
#print axioms driveBrakes_holds
end Go.Proofs.Ytcneohhfnnelgaa
