/- coulomblaw06.DriveTurns returns true for all numbers; the arguments read afterwards as before. No condition. -/
import Derived.Test.YtcneohhfnnelgaaLTurns
import Derived.Test.YtcneohhfnnelgaaK2
namespace Go.Proofs.Ytcneohhfnnelgaa
open Go.ChangeShapes Go.WideShapes Go.ChangeAt Go.RowKit
set_option linter.unusedVariables false

theorem driveTurns_own : ownKnob Try.prog.godebug = none := by kernel_rfl
theorem driveTurns_laidOut : laidOutB Try.prog = true := by kernel_rfl

set_option maxRecDepth 100000 in
theorem driveTurns_lifted (os : Os) (started : os.Started) (H : Type) (enc : TypeId × Value → H) :
    ReturnsInHanded {} Try.checked os 7 .any (Rows.driveTurnsSpec.pre6 enc Try.prog Try.f7 Rows.driveTurnsRow.domain false) (Rows.driveTurnsSpec.post enc Try.prog Try.f7 false true false false) := by
  refine returnsInHanded_of_change (C := Try.checked) driveTurns_own started (by kernel_rfl) Try.func7
    (ChangeSpec.witness6 (enc := enc) (C := Try.checked) false ⟨#[], #[.int .i64 0, .int .i64 0, .int .i64 0, .int .i64 0, .int .i64 0], []⟩ 8 (by kernel_rfl) (by kernel_rfl) (by kernel_rfl) (by kernel_rfl)) ?_
  intro W base args ds gs before hval0 hW hcnd _
  have hval : ∀ (j : Nat) t v, Try.f7.params[j]? = some t → args[j]? = some v → Value.okWide Try.prog W .any base t v := hval0
  have hW' := hW
  obtain ⟨p, q, hA0, hV, rfl, hfz, hnd⟩ := hW
  obtain ⟨rfl, rfl⟩ := trodVars_none hV
  simp only [List.append_nil] at hW'
  have hA : DataW.TrodAll enc Try.prog W 0 (fun _ => true) true Try.f7.params.toList args.toList ds p := hA0
  have hA1 := hA
  rw [Try.params7] at hA hval
  obtain ⟨v0, vs0, d0, ds0, p0, q0, hargs, rfl, hp0, r0, s0⟩ := trodAll_cons hA
  obtain ⟨v1, vs1, d1, ds1, p1, q1, rfl, rfl, hp1, r1, s1⟩ := trodAll_cons s0
  obtain ⟨v2, vs2, d2, ds2, p2, q2, rfl, rfl, hp2, r2, s2⟩ := trodAll_cons s1
  obtain ⟨v3, vs3, d3, ds3, p3, q3, rfl, rfl, hp3, r3, s3⟩ := trodAll_cons s2
  obtain ⟨v4, vs4, d4, ds4, p4, q4, rfl, rfl, hp4, r4, s4⟩ := trodAll_cons s3
  obtain ⟨rfl, rfl, rfl⟩ := trodAll_nil s4
  obtain rfl : args = #[v0, v1, v2, v3, v4] := by cases args; simp_all
  obtain ⟨x, rfl, _, _, w_x⟩ := open_int Try.underlying2 (hval 0 2 v0 rfl rfl) r0
  obtain ⟨a, rfl, _, _, w_a⟩ := open_int Try.underlying2 (hval 1 2 v1 rfl rfl) r1
  obtain ⟨b, rfl, _, _, w_b⟩ := open_int Try.underlying2 (hval 2 2 v2 rfl rfl) r2
  obtain ⟨c, rfl, _, _, w_c⟩ := open_int Try.underlying2 (hval 3 2 v3 rfl rfl) r3
  obtain ⟨u, rfl, _, _, w_u⟩ := open_int Try.underlying2 (hval 4 2 v4 rfl rfl) r4
  refine (DriveTurns_any x a b c u W).mono fun e W' ⟨he, hb⟩ => ?_
  subst he
  exact ⟨_, rfl, law_post driveTurns_laidOut (by kernel_rfl) rfl hW' hA1 rfl rfl rfl (fun _ _ _ => (trodAll_cons_mk (shut_bool Try.underlying4 _) trodAll_mk0)) hb (ok_one (by kernel_rfl) rfl (okWide_bool_mk Try.underlying4 _))⟩

theorem driveTurns_holds : Rows.DriveTurnsSaid :=
  OpenClaim.holds_of_wide 7 Try.f7 rfl rfl rfl rfl rfl rfl rfl ⟨rfl, rfl, rfl, rfl, rfl⟩ rfl rfl rfl rfl rfl (by kernel_rfl) Try.func7 (by kernel_rfl)
    (of_decide_eq_true (by kernel_rfl)) (by unfold Func.isWrapper; first | (rw [if_pos (by decide +kernel)]; kernel_rfl) | (rw [if_neg (by decide +kernel)]; exact ⟨rfl, rfl⟩))
    (fun os started H enc _ => driveTurns_lifted os started H enc)
#print axioms driveTurns_holds
end Go.Proofs.Ytcneohhfnnelgaa
