/- coulomblaw09.ChargeSite returns true at every pair of limits and list of things that happen; the arguments read afterwards as before. No condition. -/
import Derived.Test.YtafajclbghofkaaU6
import Derived.Test.YtafajclbghofkaaO7
namespace Go.Proofs.Ytafajclbghofkaa
open Go.ChangeShapes Go.WideShapes Go.ChangeAt Go.RowKit
set_option linter.unusedVariables false

theorem chargeSite_own : ownKnob Try.prog.godebug = none := by kernel_rfl
theorem chargeSite_laidOut : laidOutB Try.prog = true := by kernel_rfl
theorem chargeSite_sh106 : shK Try.prog 10 106 = some (.s 6 (.i .u8 (.i .u8 (.i .u8 (.i .u8 (.i .u8 (.i .u8 .nil)))))) .nil) := by kernel_rfl

set_option maxRecDepth 100000 in
theorem chargeSite_lifted (os : Os) (started : os.Started) (H : Type) (enc : TypeId × Value → H) :
    ReturnsInHanded {} Try.checked os 10 .any (Rows.chargeSiteSpec.pre6 enc Try.prog Try.f10 Rows.chargeSiteRow.domain false) (Rows.chargeSiteSpec.post enc Try.prog Try.f10 false true false false) := by
  refine returnsInHanded_of_change (C := Try.checked) chargeSite_own started (by kernel_rfl) Try.func10
    (ChangeSpec.witness6 (enc := enc) (C := Try.checked) false ⟨#[], #[.int .u8 0, .int .u8 0, .slice none 0 0], []⟩ 8 (by kernel_rfl) (by kernel_rfl) (by kernel_rfl) (by kernel_rfl)) ?_
  intro W base args ds gs before hval0 hW hcnd _
  have hval : ∀ (j : Nat) t v, Try.f10.params[j]? = some t → args[j]? = some v → Value.okWide Try.prog W .any base t v := hval0
  have hW' := hW
  obtain ⟨p, q, hA0, hV, rfl, hfz, hnd⟩ := hW
  obtain ⟨rfl, rfl⟩ := trodVars_none hV
  simp only [List.append_nil] at hW'
  have hA : DataW.TrodAll enc Try.prog W 0 (fun _ => true) true Try.f10.params.toList args.toList ds p := hA0
  have hA1 := hA
  rw [Try.params10] at hA hval
  obtain ⟨v0, vs0, d0, ds0, p0, q0, hargs, rfl, hp0, r0, s0⟩ := trodAll_cons hA
  obtain ⟨v1, vs1, d1, ds1, p1, q1, rfl, rfl, hp1, r1, s1⟩ := trodAll_cons s0
  obtain ⟨v2, vs2, d2, ds2, p2, q2, rfl, rfl, hp2, r2, s2⟩ := trodAll_cons s1
  obtain ⟨rfl, rfl, rfl⟩ := trodAll_nil s2
  obtain rfl : args = #[v0, v1, v2] := by cases args; simp_all
  obtain ⟨dr, rfl, _, _, wdr⟩ := open_int Try.underlying5 (hval 0 _ v0 rfl rfl) r0
  obtain ⟨bk, rfl, _, _, wbk⟩ := open_int Try.underlying5 (hval 1 _ v1 rfl rfl) r1
  obtain ⟨A, us, cap, rfl, hlc, hcm, hus⟩ := uses_of (sh_slice Try.underlying106 chargeSite_sh106 (hval 2 _ v2 rfl rfl) r2)
  refine (Site_walk dr bk A us cap W (u8_bdU wdr) (u8_bdU wbk) hlc hcm hus).mono fun e W' ⟨he, hb⟩ => ?_
  subst he
  exact ⟨_, rfl, law_post chargeSite_laidOut (by kernel_rfl) rfl hW' hA1 rfl rfl rfl (fun _ _ _ => (trodAll_cons_mk (shut_bool Try.underlying4 _) trodAll_mk0)) hb (ok_one (by kernel_rfl) rfl (okWide_bool_mk Try.underlying4 _))⟩

theorem chargeSite_holds : Rows.ChargeSiteSaid :=
  OpenClaim.holds_of_wide 10 Try.f10 rfl rfl rfl rfl rfl rfl rfl ⟨rfl, rfl, rfl, rfl, rfl⟩ rfl rfl rfl rfl rfl (by kernel_rfl) Try.func10 (by kernel_rfl)
    (of_decide_eq_true (by kernel_rfl)) (by unfold Func.isWrapper; first | (rw [if_pos (by decide +kernel)]; kernel_rfl) | (rw [if_neg (by decide +kernel)]; exact ⟨rfl, rfl⟩))
    (fun os started H enc _ => chargeSite_lifted os started H enc)
#print axioms chargeSite_holds
end Go.Proofs.Ytafajclbghofkaa
