/- coulomblaw06.DriveShares returns true at every total, torques and level; the arguments read afterwards as before. No condition. -/
import Derived.Test.YtcneohhfnnelgaaLShares
import Derived.Test.YtcneohhfnnelgaaO6
namespace Go.Proofs.Ytcneohhfnnelgaa
open Go.ChangeShapes Go.WideShapes Go.ChangeAt Go.RowKit
set_option linter.unusedVariables false

theorem driveShares_own : ownKnob Try.prog.godebug = none := by kernel_rfl
theorem driveShares_laidOut : laidOutB Try.prog = true := by kernel_rfl
theorem driveShares_sh45 : shK Try.prog 5 45 = some (.s 1 (.i .i64 .nil) .nil) := by kernel_rfl

set_option maxRecDepth 100000 in
theorem driveShares_lifted (os : Os) (started : os.Started) (H : Type) (enc : TypeId × Value → H) :
    ReturnsInHanded {} Try.checked os 9 .any (Rows.driveSharesSpec.pre6 enc Try.prog Try.f9 Rows.driveSharesRow.domain false) (Rows.driveSharesSpec.post enc Try.prog Try.f9 false true false false) := by
  refine returnsInHanded_of_change (C := Try.checked) driveShares_own started (by kernel_rfl) Try.func9
    (ChangeSpec.witness6 (enc := enc) (C := Try.checked) false ⟨#[], #[.int .i64 0, .slice none 0 0, .int .i64 0], []⟩ 8 (by kernel_rfl) (by kernel_rfl) (by kernel_rfl) (by kernel_rfl)) ?_
  intro W base args ds gs before hval0 hW hcnd _
  have hval : ∀ (j : Nat) t v, Try.f9.params[j]? = some t → args[j]? = some v → Value.okWide Try.prog W .any base t v := hval0
  have hW' := hW
  obtain ⟨p, q, hA0, hV, rfl, hfz, hnd⟩ := hW
  obtain ⟨rfl, rfl⟩ := trodVars_none hV
  simp only [List.append_nil] at hW'
  have hA : DataW.TrodAll enc Try.prog W 0 (fun _ => true) true Try.f9.params.toList args.toList ds p := hA0
  have hA1 := hA
  rw [Try.params9] at hA hval
  obtain ⟨v0, vs0, d0, ds0, p0, q0, hargs, rfl, hp0, r0, s0⟩ := trodAll_cons hA
  obtain ⟨v1, vs1, d1, ds1, p1, q1, rfl, rfl, hp1, r1, s1⟩ := trodAll_cons s0
  obtain ⟨v2, vs2, d2, ds2, p2, q2, rfl, rfl, hp2, r2, s2⟩ := trodAll_cons s1
  obtain ⟨rfl, rfl, rfl⟩ := trodAll_nil s2
  obtain rfl : args = #[v0, v1, v2] := by cases args; simp_all
  obtain ⟨vt, rfl, _, _, w0⟩ := open_int Try.underlying2 (hval 0 _ v0 rfl rfl) r0
  obtain ⟨A, xs, cap, rfl, hlc, hcm, hx⟩ := ints_of (sh_slice Try.underlying45 driveShares_sh45 (hval 1 _ v1 rfl rfl) r1)
  obtain ⟨vl, rfl, _, _, w2⟩ := open_int Try.underlying2 (hval 2 _ v2 rfl rfl) r2
  refine (DriveShares_any vt A xs cap vl W hx).mono fun e W' ⟨he, hb⟩ => ?_
  subst he
  exact ⟨_, rfl, law_post driveShares_laidOut (by kernel_rfl) rfl hW' hA1 rfl rfl rfl (fun _ _ _ => (trodAll_cons_mk (shut_bool Try.underlying4 _) trodAll_mk0)) hb (ok_one (by kernel_rfl) rfl (okWide_bool_mk Try.underlying4 _))⟩

theorem driveShares_holds : Rows.DriveSharesSaid :=
  OpenClaim.holds_of_wide 9 Try.f9 rfl rfl rfl rfl rfl rfl rfl ⟨rfl, rfl, rfl, rfl, rfl⟩ rfl rfl rfl rfl rfl (by kernel_rfl) Try.func9 (by kernel_rfl)
    (of_decide_eq_true (by kernel_rfl)) (by unfold Func.isWrapper; first | (rw [if_pos (by decide +kernel)]; kernel_rfl) | (rw [if_neg (by decide +kernel)]; exact ⟨rfl, rfl⟩))
    (fun os started H enc _ => driveShares_lifted os started H enc)
#print axioms driveShares_holds
end Go.Proofs.Ytcneohhfnnelgaa
