/- coulomblaw06.DrivePlays returns true at every case; the arguments read afterwards as before. No condition. -/
import Derived.Test.YtcneohhfnnelgaaPl5
namespace Go.Proofs.Ytcneohhfnnelgaa
open Go.ChangeShapes Go.WideShapes Go.ChangeAt Go.RowKit
set_option linter.unusedVariables false

theorem drivePlays_own : ownKnob Try.prog.godebug = none := by kernel_rfl
theorem drivePlays_laidOut : laidOutB Try.prog = true := by kernel_rfl
theorem drivePlays_sh81 : shK Try.prog 8 81 = some (.i .i64 (.i .i64 (.i .i64 (.i .i64 (.i .i64 (.i .i64 (.i .i64 (.i .i64 (.i .i64 (.i .i64 (.s 1 (.i .i64 .nil) (.s 2 (.i .i64 (.i .i64 .nil)) (.i .i64 (.i .i64 (.i .i64 (.i .i64 (.i .i64 (.i .i64 (.i .i64 (.i .i64 (.i .i64 (.s 3 (.i .i64 (.i .i64 (.i .i64 .nil))) (.s 1 (.i .i64 .nil) .nil))))))))))))))))))))))) := by kernel_rfl

set_option maxRecDepth 100000 in
theorem drivePlays_lifted (os : Os) (started : os.Started) (H : Type) (enc : TypeId × Value → H) :
    ReturnsInHanded {} Try.checked os 16 .any (Rows.drivePlaysSpec.pre6 enc Try.prog Try.f16 Rows.drivePlaysRow.domain false) (Rows.drivePlaysSpec.post enc Try.prog Try.f16 false true false false) := by
  refine returnsInHanded_of_change (C := Try.checked) drivePlays_own started (by kernel_rfl) Try.func16
    (ChangeSpec.witness6 (enc := enc) (C := Try.checked) false ⟨#[], #[.agg #[.int .i64 0, .int .i64 0, .int .i64 0, .int .i64 0, .int .i64 0, .int .i64 0, .int .i64 0, .int .i64 0, .int .i64 0, .int .i64 0, .slice none 0 0, .slice none 0 0, .int .i64 0, .int .i64 0, .int .i64 0, .int .i64 0, .int .i64 0, .int .i64 0, .int .i64 0, .int .i64 0, .int .i64 0, .slice none 0 0, .slice none 0 0]], []⟩ 8 (by kernel_rfl) (by kernel_rfl) (by kernel_rfl) (by kernel_rfl)) ?_
  intro W base args ds gs before hval0 hW hcnd _
  have hval : ∀ (j : Nat) t v, Try.f16.params[j]? = some t → args[j]? = some v → Value.okWide Try.prog W .any base t v := hval0
  have hW' := hW
  obtain ⟨p, q, hA0, hV, rfl, hfz, hnd⟩ := hW
  obtain ⟨rfl, rfl⟩ := trodVars_none hV
  simp only [List.append_nil] at hW'
  have hA : DataW.TrodAll enc Try.prog W 0 (fun _ => true) true Try.f16.params.toList args.toList ds p := hA0
  have hA1 := hA
  rw [Try.params16] at hA hval
  obtain ⟨v0, vs0, d0, ds0, p0, q0, hargs, rfl, hp0, r0, s0⟩ := trodAll_cons hA
  obtain ⟨rfl, rfl, rfl⟩ := trodAll_nil s0
  obtain rfl : args = #[v0] := by cases args; simp_all
  obtain ⟨_, rfl, m0, _, rfl, _, m1, _, rfl, _, m2, _, rfl, _, m3, _, rfl, _, m4, _, rfl, _, m5, _, rfl, _, m6, _, rfl, _, m7, _, rfl, _, m8, _, rfl, _, m9, _, rfl, _, va, _, rfl, ⟨vb, _, rfl, ⟨g0, _, rfl, _, g1, _, rfl, _, g2, _, rfl, _, g3, _, rfl, _, bu, _, rfl, _, t0, _, rfl, _, t1, _, rfl, _, t2, _, rfl, _, t3, _, rfl, _, vd, _, rfl, ⟨vf, _, rfl, rfl, hsf⟩, hsd⟩, hst⟩, hso⟩ := sh_agg Try.underlying81 drivePlays_sh81 (hval 0 _ v0 rfl rfl) r0
  obtain ⟨X, xs, xc, rfl, hlc, hcm, hxs⟩ := ints_of hso
  obtain ⟨A, sl, cap, rfl, hlc2, hcm2, hx⟩ := spans_of hst
  obtain ⟨D, os, ck, rfl, hlc3, hcm3, ho⟩ := orders_of hsd
  obtain ⟨F, es, ck', rfl, hlc4, hcm4, he⟩ := ints_of hsf
  refine (Plays_any (Mot.mk m0 m1 m2 m3 m4 m5 m6 m7 m8 m9) X xs xc A sl cap g0 g1 g2 g3 bu (Rot.mk t0 t1 t2 t3) D os ck F es ck' W hx hxs ho he).mono fun e W' ⟨he, hb⟩ => ?_
  subst he
  exact ⟨_, rfl, law_post drivePlays_laidOut (by kernel_rfl) rfl hW' hA1 rfl rfl rfl (fun _ _ _ => (trodAll_cons_mk (shut_bool Try.underlying4 _) trodAll_mk0)) hb (ok_one (by kernel_rfl) rfl (okWide_bool_mk Try.underlying4 _))⟩

theorem drivePlays_holds : Rows.DrivePlaysSaid :=
  OpenClaim.holds_of_wide 16 Try.f16 rfl rfl rfl rfl rfl rfl rfl ⟨rfl, rfl, rfl, rfl, rfl⟩ rfl rfl rfl rfl rfl (by kernel_rfl) Try.func16 (by kernel_rfl)
    (of_decide_eq_true (by kernel_rfl)) (by unfold Func.isWrapper; first | (rw [if_pos (by decide +kernel)]; kernel_rfl) | (rw [if_neg (by decide +kernel)]; exact ⟨rfl, rfl⟩))
    (fun os started H enc _ => drivePlays_lifted os started H enc)
#print axioms drivePlays_holds
end Go.Proofs.Ytcneohhfnnelgaa
