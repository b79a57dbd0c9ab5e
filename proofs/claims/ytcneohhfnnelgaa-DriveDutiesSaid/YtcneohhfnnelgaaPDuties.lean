/- coulomblaw06.DriveDuties returns true at all phases and bus voltages; the arguments read afterwards as before. No condition. -/
import Derived.Test.YtcneohhfnnelgaaLDuties
import Derived.Test.YtcneohhfnnelgaaK2
namespace Go.Proofs.Ytcneohhfnnelgaa
open Go.ChangeShapes Go.WideShapes Go.ChangeAt Go.RowKit
set_option linter.unusedVariables false

theorem driveDuties_own : ownKnob Try.prog.godebug = none := by kernel_rfl
theorem driveDuties_laidOut : laidOutB Try.prog = true := by kernel_rfl
theorem driveDuties_flat22 : flatK Try.prog 3 22 = some [some .i64, some .i64, some .i64] := by kernel_rfl

set_option maxRecDepth 100000 in
theorem driveDuties_lifted (os : Os) (started : os.Started) (H : Type) (enc : TypeId × Value → H) :
    ReturnsInHanded {} Try.checked os 3 .any (Rows.driveDutiesSpec.pre6 enc Try.prog Try.f3 Rows.driveDutiesRow.domain false) (Rows.driveDutiesSpec.post enc Try.prog Try.f3 false true false false) := by
  refine returnsInHanded_of_change (C := Try.checked) driveDuties_own started (by kernel_rfl) Try.func3
    (ChangeSpec.witness6 (enc := enc) (C := Try.checked) false ⟨#[], #[.agg #[.int .i64 0, .int .i64 0, .int .i64 0], .int .i64 0], []⟩ 8 (by kernel_rfl) (by kernel_rfl) (by kernel_rfl) (by kernel_rfl)) ?_
  intro W base args ds gs before hval0 hW hcnd _
  have hval : ∀ (j : Nat) t v, Try.f3.params[j]? = some t → args[j]? = some v → Value.okWide Try.prog W .any base t v := hval0
  have hW' := hW
  obtain ⟨p, q, hA0, hV, rfl, hfz, hnd⟩ := hW
  obtain ⟨rfl, rfl⟩ := trodVars_none hV
  simp only [List.append_nil] at hW'
  have hA : DataW.TrodAll enc Try.prog W 0 (fun _ => true) true Try.f3.params.toList args.toList ds p := hA0
  have hA1 := hA
  rw [Try.params3] at hA hval
  obtain ⟨v0, vs0, d0, ds0, p0, q0, hargs, rfl, hp0, r0, s0⟩ := trodAll_cons hA
  obtain ⟨v1, vs1, d1, ds1, p1, q1, rfl, rfl, hp1, r1, s1⟩ := trodAll_cons s0
  obtain ⟨rfl, rfl, rfl⟩ := trodAll_nil s1
  obtain rfl : args = #[v0, v1] := by cases args; simp_all
  obtain ⟨_, rfl, k0⟩ := flat_arr Try.underlying22 driveDuties_flat22 (hval 0 22 v0 rfl rfl) r0
  obtain ⟨a, b, c, rfl, w_a, w_b, w_c⟩ := cells_i3 k0
  obtain ⟨u, rfl, _, _, w_u⟩ := open_int Try.underlying2 (hval 1 2 v1 rfl rfl) r1
  refine (DriveDuties_any a b c u W).mono fun e W' ⟨he, hb⟩ => ?_
  subst he
  exact ⟨_, rfl, law_post driveDuties_laidOut (by kernel_rfl) rfl hW' hA1 rfl rfl rfl (fun _ _ _ => (trodAll_cons_mk (shut_bool Try.underlying4 _) trodAll_mk0)) hb (ok_one (by kernel_rfl) rfl (okWide_bool_mk Try.underlying4 _))⟩

theorem driveDuties_holds : Rows.DriveDutiesSaid :=
  OpenClaim.holds_of_wide 3 Try.f3 rfl rfl rfl rfl rfl rfl rfl ⟨rfl, rfl, rfl, rfl, rfl⟩ rfl rfl rfl rfl rfl (by kernel_rfl) Try.func3 (by kernel_rfl)
    (of_decide_eq_true (by kernel_rfl)) (by unfold Func.isWrapper; first | (rw [if_pos (by decide +kernel)]; kernel_rfl) | (rw [if_neg (by decide +kernel)]; exact ⟨rfl, rfl⟩))
    (fun os started H enc _ => driveDuties_lifted os started H enc)
#print axioms driveDuties_holds
end Go.Proofs.Ytcneohhfnnelgaa
