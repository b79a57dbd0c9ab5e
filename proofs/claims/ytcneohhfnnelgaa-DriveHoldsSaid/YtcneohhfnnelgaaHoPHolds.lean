/- coulomblaw06.DriveHolds returns true at every case, speed and picks; the arguments read afterwards as before. No condition. -/
import Derived.Test.YtcneohhfnnelgaaHo1
namespace Go.Proofs.Ytcneohhfnnelgaa
open Go.ChangeShapes Go.WideShapes Go.ChangeAt Go.RowKit
set_option linter.unusedVariables false

theorem driveHolds_own : ownKnob Try.prog.godebug = none := by kernel_rfl
theorem driveHolds_laidOut : laidOutB Try.prog = true := by kernel_rfl
theorem driveHolds_sh81 : shK Try.prog 8 81 = some (.i .i64 (.i .i64 (.i .i64 (.i .i64 (.i .i64 (.i .i64 (.i .i64 (.i .i64 (.i .i64 (.i .i64 (.s 1 (.i .i64 .nil) (.s 2 (.i .i64 (.i .i64 .nil)) (.i .i64 (.i .i64 (.i .i64 (.i .i64 (.i .i64 (.i .i64 (.i .i64 (.i .i64 (.i .i64 (.s 3 (.i .i64 (.i .i64 (.i .i64 .nil))) (.s 1 (.i .i64 .nil) .nil))))))))))))))))))))))) := by kernel_rfl
theorem driveHolds_sh73 : shK Try.prog 5 73 = some (.s 1 (.i .u64 .nil) .nil) := by kernel_rfl

set_option maxRecDepth 100000 in
theorem driveHolds_lifted (os : Os) (started : os.Started) (H : Type) (enc : TypeId × Value → H) :
    ReturnsInHanded {} Try.checked os 17 .any (Rows.driveHoldsSpec.pre6 enc Try.prog Try.f17 Rows.driveHoldsRow.domain false) (Rows.driveHoldsSpec.post enc Try.prog Try.f17 false true false false) := by
  refine returnsInHanded_of_change (C := Try.checked) driveHolds_own started (by kernel_rfl) Try.func17
    (ChangeSpec.witness6 (enc := enc) (C := Try.checked) false ⟨#[], #[.agg #[.int .i64 0, .int .i64 0, .int .i64 0, .int .i64 0, .int .i64 0, .int .i64 0, .int .i64 0, .int .i64 0, .int .i64 0, .int .i64 0, .slice none 0 0, .slice none 0 0, .int .i64 0, .int .i64 0, .int .i64 0, .int .i64 0, .int .i64 0, .int .i64 0, .int .i64 0, .int .i64 0, .int .i64 0, .slice none 0 0, .slice none 0 0], .int .i64 0, .slice none 0 0], []⟩ 8 (by kernel_rfl) (by kernel_rfl) (by kernel_rfl) (by kernel_rfl)) ?_
  intro W base args ds gs before hval0 hW hcnd _
  have hval : ∀ (j : Nat) t v, Try.f17.params[j]? = some t → args[j]? = some v → Value.okWide Try.prog W .any base t v := hval0
  have hW' := hW
  obtain ⟨p, q, hA0, hV, rfl, hfz, hnd⟩ := hW
  obtain ⟨rfl, rfl⟩ := trodVars_none hV
  simp only [List.append_nil] at hW'
  have hA : DataW.TrodAll enc Try.prog W 0 (fun _ => true) true Try.f17.params.toList args.toList ds p := hA0
  have hA1 := hA
  rw [Try.params17] at hA hval
  obtain ⟨v0, vs0, d0, ds0, p0, q0, hargs, rfl, hp0, r0, s0⟩ := trodAll_cons hA
  obtain ⟨v1, vs1, d1, ds1, p1, q1, rfl, rfl, hp1, r1, s1⟩ := trodAll_cons s0
  obtain ⟨v2, vs2, d2, ds2, p2, q2, rfl, rfl, hp2, r2, s2⟩ := trodAll_cons s1
  obtain ⟨rfl, rfl, rfl⟩ := trodAll_nil s2
  obtain rfl : args = #[v0, v1, v2] := by cases args; simp_all
  obtain ⟨_, rfl, m0, _, rfl, _, m1, _, rfl, _, m2, _, rfl, _, m3, _, rfl, _, m4, _, rfl, _, m5, _, rfl, _, m6, _, rfl, _, m7, _, rfl, _, m8, _, rfl, _, m9, _, rfl, _, va, _, rfl, ⟨vb, _, rfl, ⟨g0, _, rfl, _, g1, _, rfl, _, g2, _, rfl, _, g3, _, rfl, _, bu, _, rfl, _, t0, _, rfl, _, t1, _, rfl, _, t2, _, rfl, _, t3, _, rfl, _, vd, _, rfl, ⟨vf, _, rfl, rfl, hsf⟩, hsd⟩, hst⟩, hso⟩ := sh_agg Try.underlying81 driveHolds_sh81 (hval 0 _ v0 rfl rfl) r0
  obtain ⟨X, xs, xc, rfl, hlc, hcm, hxs⟩ := ints_of hso
  obtain ⟨A, sl, cap, rfl, hlc2, hcm2, hx⟩ := spans_of hst
  obtain ⟨D, os, ck, rfl, hlc3, hcm3, ho⟩ := orders_of hsd
  obtain ⟨F, es, ck', rfl, hlc4, hcm4, he⟩ := ints_of hsf
  obtain ⟨vs, rfl, _, _, wS⟩ := open_int Try.underlying2 (hval 1 _ v1 rfl rfl) r1
  obtain ⟨B, us, cB, rfl, hlc5, hcm5, hu⟩ := u64s_of (sh_slice Try.underlying73 driveHolds_sh73 (hval 2 _ v2 rfl rfl) r2)
  refine (Holds_any (Mot.mk m0 m1 m2 m3 m4 m5 m6 m7 m8 m9) X xs xc A sl cap g0 g1 g2 g3 bu (Rot.mk t0 t1 t2 t3) D os ck F es ck' vs B us cB W hx hxs ho he hu hlc3 hlc4 hcm3 hcm4 (i64_bd wS)).mono fun e W' ⟨he, hb⟩ => ?_
  subst he
  exact ⟨_, rfl, law_post driveHolds_laidOut (by kernel_rfl) rfl hW' hA1 rfl rfl rfl (fun _ _ _ => (trodAll_cons_mk (shut_bool Try.underlying4 _) trodAll_mk0)) hb (ok_one (by kernel_rfl) rfl (okWide_bool_mk Try.underlying4 _))⟩

theorem driveHolds_holds : Rows.DriveHoldsSaid :=
  OpenClaim.holds_of_wide 17 Try.f17 rfl rfl rfl rfl rfl rfl rfl ⟨rfl, rfl, rfl, rfl, rfl⟩ rfl rfl rfl rfl rfl (by kernel_rfl) Try.func17 (by kernel_rfl)
    (of_decide_eq_true (by kernel_rfl)) (by unfold Func.isWrapper; first | (rw [if_pos (by decide +kernel)]; kernel_rfl) | (rw [if_neg (by decide +kernel)]; exact ⟨rfl, rfl⟩))
    (fun os started H enc _ => driveHolds_lifted os started H enc)
#print axioms driveHolds_holds
end Go.Proofs.Ytcneohhfnnelgaa
