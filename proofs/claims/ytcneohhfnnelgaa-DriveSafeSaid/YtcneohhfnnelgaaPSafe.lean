/- coulomblaw06.DriveSafe returns true at every motor, tolerances, speed, load and picks; the arguments read afterwards as before. No condition. -/
import Derived.Test.YtcneohhfnnelgaaVS
import Derived.Test.YtcneohhfnnelgaaO7
import Derived.Test.YtcneohhfnnelgaaV63
namespace Go.Proofs.Ytcneohhfnnelgaa
open Go.ChangeShapes Go.WideShapes Go.ChangeAt Go.RowKit
set_option linter.unusedVariables false

theorem driveSafe_own : ownKnob Try.prog.godebug = none := by kernel_rfl
theorem driveSafe_laidOut : laidOutB Try.prog = true := by kernel_rfl
theorem driveSafe_flat52 : flatK Try.prog 5 52 = some [some .i64, some .i64, some .i64, some .i64, some .i64, some .i64, some .i64, some .i64, some .i64, some .i64] := by kernel_rfl
theorem driveSafe_sh66 : shK Try.prog 5 66 = some (.s 2 (.i .i64 (.i .i64 .nil)) .nil) := by kernel_rfl
theorem driveSafe_sh73 : shK Try.prog 5 73 = some (.s 1 (.i .u64 .nil) .nil) := by kernel_rfl

set_option maxRecDepth 100000 in
theorem driveSafe_lifted (os : Os) (started : os.Started) (H : Type) (enc : TypeId × Value → H) :
    ReturnsInHanded {} Try.checked os 15 .any (Rows.driveSafeSpec.pre6 enc Try.prog Try.f15 Rows.driveSafeRow.domain false) (Rows.driveSafeSpec.post enc Try.prog Try.f15 false true false false) := by
  refine returnsInHanded_of_change (C := Try.checked) driveSafe_own started (by kernel_rfl) Try.func15
    (ChangeSpec.witness6 (enc := enc) (C := Try.checked) false ⟨#[], #[.agg #[.int .i64 0, .int .i64 0, .int .i64 0, .int .i64 0, .int .i64 0, .int .i64 0, .int .i64 0, .int .i64 0, .int .i64 0, .int .i64 0], .slice none 0 0, .int .i64 0, .int .i64 0, .slice none 0 0], []⟩ 8 (by kernel_rfl) (by kernel_rfl) (by kernel_rfl) (by kernel_rfl)) ?_
  intro W base args ds gs before hval0 hW hcnd _
  have hval : ∀ (j : Nat) t v, Try.f15.params[j]? = some t → args[j]? = some v → Value.okWide Try.prog W .any base t v := hval0
  have hW' := hW
  obtain ⟨p, q, hA0, hV, rfl, hfz, hnd⟩ := hW
  obtain ⟨rfl, rfl⟩ := trodVars_none hV
  simp only [List.append_nil] at hW'
  have hA : DataW.TrodAll enc Try.prog W 0 (fun _ => true) true Try.f15.params.toList args.toList ds p := hA0
  have hA1 := hA
  rw [Try.params15] at hA hval
  obtain ⟨v0, vs0, d0, ds0, p0, q0, hargs, rfl, hp0, r0, s0⟩ := trodAll_cons hA
  obtain ⟨v1, vs1, d1, ds1, p1, q1, rfl, rfl, hp1, r1, s1⟩ := trodAll_cons s0
  obtain ⟨v2, vs2, d2, ds2, p2, q2, rfl, rfl, hp2, r2, s2⟩ := trodAll_cons s1
  obtain ⟨v3, vs3, d3, ds3, p3, q3, rfl, rfl, hp3, r3, s3⟩ := trodAll_cons s2
  obtain ⟨v4, vs4, d4, ds4, p4, q4, rfl, rfl, hp4, r4, s4⟩ := trodAll_cons s3
  obtain ⟨rfl, rfl, rfl⟩ := trodAll_nil s4
  obtain rfl : args = #[v0, v1, v2, v3, v4] := by cases args; simp_all
  obtain ⟨_, rfl, k0⟩ := flat_agg Try.underlying52 driveSafe_flat52 (hval 0 _ v0 rfl rfl) r0
  obtain ⟨m0, m1, m2, m3, m4, m5, m6, m7, m8, m9, rfl, _, _, _, _, _, _, _, _, _, _⟩ := cells_i10 k0
  obtain ⟨A, xs, cap, rfl, hlc, hcm, hx⟩ := spans_of (sh_slice Try.underlying66 driveSafe_sh66 (hval 1 _ v1 rfl rfl) r1)
  obtain ⟨vs, rfl, _, _, w1⟩ := open_int Try.underlying2 (hval 2 _ v2 rfl rfl) r2
  obtain ⟨vl, rfl, _, _, w2⟩ := open_int Try.underlying2 (hval 3 _ v3 rfl rfl) r3
  obtain ⟨B, us, cap', rfl, hlc', hcm', hu⟩ := u64s_of (sh_slice Try.underlying73 driveSafe_sh73 (hval 4 _ v4 rfl rfl) r4)
  refine (DriveSafe_any (Mot.mk m0 m1 m2 m3 m4 m5 m6 m7 m8 m9) A xs cap vs vl B us cap' W hx hu).mono fun e W' ⟨he, hb⟩ => ?_
  subst he
  exact ⟨_, rfl, law_post driveSafe_laidOut (by kernel_rfl) rfl hW' hA1 rfl rfl rfl (fun _ _ _ => (trodAll_cons_mk (shut_bool Try.underlying4 _) trodAll_mk0)) hb (ok_one (by kernel_rfl) rfl (okWide_bool_mk Try.underlying4 _))⟩

theorem driveSafe_holds : Rows.DriveSafeSaid :=
  OpenClaim.holds_of_wide 15 Try.f15 rfl rfl rfl rfl rfl rfl rfl ⟨rfl, rfl, rfl, rfl, rfl⟩ rfl rfl rfl rfl rfl (by kernel_rfl) Try.func15 (by kernel_rfl)
    (of_decide_eq_true (by kernel_rfl)) (by unfold Func.isWrapper; first | (rw [if_pos (by decide +kernel)]; kernel_rfl) | (rw [if_neg (by decide +kernel)]; exact ⟨rfl, rfl⟩))
    (fun os started H enc _ => driveSafe_lifted os started H enc)
#print axioms driveSafe_holds
end Go.Proofs.Ytcneohhfnnelgaa
