/- coulomblaw06.DriveRegulates returns true for all gains, sums, errors and spans; the arguments read afterwards as before. No condition. -/
import Derived.Test.YtcneohhfnnelgaaLRegulates
import Derived.Test.YtcneohhfnnelgaaK2
namespace Go.Proofs.Ytcneohhfnnelgaa
open Go.ChangeShapes Go.WideShapes Go.ChangeAt Go.RowKit
set_option linter.unusedVariables false

theorem driveRegulates_own : ownKnob Try.prog.godebug = none := by kernel_rfl
theorem driveRegulates_laidOut : laidOutB Try.prog = true := by kernel_rfl
theorem driveRegulates_flat38 : flatK Try.prog 3 38 = some [some .i64, some .i64] := by kernel_rfl
theorem driveRegulates_flat29 : flatK Try.prog 3 29 = some [some .i64, some .i64] := by kernel_rfl

set_option maxRecDepth 100000 in
theorem driveRegulates_lifted (os : Os) (started : os.Started) (H : Type) (enc : TypeId × Value → H) :
    ReturnsInHanded {} Try.checked os 6 .any (Rows.driveRegulatesSpec.pre6 enc Try.prog Try.f6 Rows.driveRegulatesRow.domain false) (Rows.driveRegulatesSpec.post enc Try.prog Try.f6 false true false false) := by
  refine returnsInHanded_of_change (C := Try.checked) driveRegulates_own started (by kernel_rfl) Try.func6
    (ChangeSpec.witness6 (enc := enc) (C := Try.checked) false ⟨#[], #[.agg #[.int .i64 0, .int .i64 0], .int .i64 0, .int .i64 0, .agg #[.int .i64 0, .int .i64 0]], []⟩ 8 (by kernel_rfl) (by kernel_rfl) (by kernel_rfl) (by kernel_rfl)) ?_
  intro W base args ds gs before hval0 hW hcnd _
  have hval : ∀ (j : Nat) t v, Try.f6.params[j]? = some t → args[j]? = some v → Value.okWide Try.prog W .any base t v := hval0
  have hW' := hW
  obtain ⟨p, q, hA0, hV, rfl, hfz, hnd⟩ := hW
  obtain ⟨rfl, rfl⟩ := trodVars_none hV
  simp only [List.append_nil] at hW'
  have hA : DataW.TrodAll enc Try.prog W 0 (fun _ => true) true Try.f6.params.toList args.toList ds p := hA0
  have hA1 := hA
  rw [Try.params6] at hA hval
  obtain ⟨v0, vs0, d0, ds0, p0, q0, hargs, rfl, hp0, r0, s0⟩ := trodAll_cons hA
  obtain ⟨v1, vs1, d1, ds1, p1, q1, rfl, rfl, hp1, r1, s1⟩ := trodAll_cons s0
  obtain ⟨v2, vs2, d2, ds2, p2, q2, rfl, rfl, hp2, r2, s2⟩ := trodAll_cons s1
  obtain ⟨v3, vs3, d3, ds3, p3, q3, rfl, rfl, hp3, r3, s3⟩ := trodAll_cons s2
  obtain ⟨rfl, rfl, rfl⟩ := trodAll_nil s3
  obtain rfl : args = #[v0, v1, v2, v3] := by cases args; simp_all
  obtain ⟨_, rfl, k0⟩ := flat_agg Try.underlying38 driveRegulates_flat38 (hval 0 38 v0 rfl rfl) r0
  obtain ⟨pp, i, rfl, w_pp, w_i⟩ := cells_i2 k0
  obtain ⟨s, rfl, _, _, w_s⟩ := open_int Try.underlying2 (hval 1 2 v1 rfl rfl) r1
  obtain ⟨e, rfl, _, _, w_e⟩ := open_int Try.underlying2 (hval 2 2 v2 rfl rfl) r2
  obtain ⟨_, rfl, k3⟩ := flat_agg Try.underlying29 driveRegulates_flat29 (hval 3 29 v3 rfl rfl) r3
  obtain ⟨lo, hi, rfl, w_lo, w_hi⟩ := cells_i2 k3
  refine (DriveRegulates_any pp i s e lo hi W).mono fun e W' ⟨he, hb⟩ => ?_
  subst he
  exact ⟨_, rfl, law_post driveRegulates_laidOut (by kernel_rfl) rfl hW' hA1 rfl rfl rfl (fun _ _ _ => (trodAll_cons_mk (shut_bool Try.underlying4 _) trodAll_mk0)) hb (ok_one (by kernel_rfl) rfl (okWide_bool_mk Try.underlying4 _))⟩

theorem driveRegulates_holds : Rows.DriveRegulatesSaid :=
  OpenClaim.holds_of_wide 6 Try.f6 rfl rfl rfl rfl rfl rfl rfl ⟨rfl, rfl, rfl, rfl, rfl⟩ rfl rfl rfl rfl rfl (by kernel_rfl) Try.func6 (by kernel_rfl)
    (of_decide_eq_true (by kernel_rfl)) (by unfold Func.isWrapper; first | (rw [if_pos (by decide +kernel)]; kernel_rfl) | (rw [if_neg (by decide +kernel)]; exact ⟨rfl, rfl⟩))
    (fun os started H enc _ => driveRegulates_lifted os started H enc)
#print axioms driveRegulates_holds
end Go.Proofs.Ytcneohhfnnelgaa
