/- coulomblaw08.DepotMore returns true at every site, cars, slot, car and number; the arguments read afterwards as before. No condition. -/
import Derived.Test.YtmebpglkeedaoaaDM6
namespace Go.Proofs.Ytmebpglkeedaoaa
open Go.ChangeShapes Go.WideShapes Go.ChangeAt Go.RowKit
set_option linter.unusedVariables false

theorem depotMore_own : ownKnob Try.prog.godebug = none := by kernel_rfl
theorem depotMore_laidOut : laidOutB Try.prog = true := by kernel_rfl
theorem depotMore_sh51 : shK Try.prog 10 51 = some (.s 1 (.i .i64 .nil) (.s 1 (.i .i64 .nil) (.s 1 (.i .i64 .nil) (.s 1 (.i .i64 .nil) .nil)))) := by kernel_rfl
theorem depotMore_sh52 : shK Try.prog 10 52 = some (.s 6 (.i .i64 (.i .i64 (.i .i64 (.i .i64 (.i .i64 (.s 3 (.i .i64 (.i .i64 (.i .i64 .nil))) .nil)))))) .nil) := by kernel_rfl

set_option maxRecDepth 100000 in
theorem depotMore_lifted (os : Os) (started : os.Started) (H : Type) (enc : TypeId × Value → H) :
    ReturnsInHanded {} Try.checked os 9 .any (Rows.depotMoreSpec.pre6 enc Try.prog Try.f9 Rows.depotMoreRow.domain false) (Rows.depotMoreSpec.post enc Try.prog Try.f9 false true false false) := by
  refine returnsInHanded_of_change (C := Try.checked) depotMore_own started (by kernel_rfl) Try.func9
    (ChangeSpec.witness6 (enc := enc) (C := Try.checked) false ⟨#[], #[.agg #[.slice none 0 0, .slice none 0 0, .slice none 0 0, .slice none 0 0], .slice none 0 0, .int .u8 0, .int .u8 0, .int .u8 0], []⟩ 8 (by kernel_rfl) (by kernel_rfl) (by kernel_rfl) (by kernel_rfl)) ?_
  intro W base args ds gs before hval0 hW hcnd _
  have hval : ∀ (j : Nat) t v, Try.f9.params[j]? = some t → args[j]? = some v → Value.okWide Try.prog W .any base t v := hval0
  have hW' := hW
  obtain ⟨p, q, hA0, hV, rfl, hfz, hnd⟩ := hW
  obtain ⟨rfl, rfl⟩ := trodVars_none hV
  simp only [List.append_nil] at hW'
  have hA : DataW.TrodAll enc Try.prog W 0 (fun _ => true) true Try.f9.params.toList args.toList ds p := hA0
  have hA1 := hA
  rw [Try.params9] at hA hval
  obtain ⟨v0, vs0, d0, ds0, p0, q0, hargs, rfl, hp0, r0, s0⟩ := trodAll_cons hA
  obtain ⟨v1, vs1, d1, ds1, p1, q1, rfl, rfl, hp1, r1, s1⟩ := trodAll_cons s0
  obtain ⟨v2, vs2, d2, ds2, p2, q2, rfl, rfl, hp2, r2, s2⟩ := trodAll_cons s1
  obtain ⟨v3, vs3, d3, ds3, p3, q3, rfl, rfl, hp3, r3, s3⟩ := trodAll_cons s2
  obtain ⟨v4, vs4, d4, ds4, p4, q4, rfl, rfl, hp4, r4, s4⟩ := trodAll_cons s3
  obtain ⟨rfl, rfl, rfl⟩ := trodAll_nil s4
  obtain rfl : args = #[v0, v1, v2, v3, v4] := by cases args; simp_all
  obtain ⟨_, rfl, va, _, rfl, ⟨vb, _, rfl, ⟨vc, _, rfl, ⟨vd, _, rfl, rfl, hsd⟩, hsc⟩, hsb⟩, hsa⟩ := sh_agg Try.underlying51 depotMore_sh51 (hval 0 _ v0 rfl rfl) r0
  obtain ⟨A, sA, cA, rfl, jA1, jA2, jAi⟩ := ints_of hsa
  obtain ⟨B, sB, cB, rfl, jB1, jB2, jBi⟩ := ints_of hsb
  obtain ⟨C, sC, cC, rfl, jC1, jC2, jCi⟩ := ints_of hsc
  obtain ⟨D, sD, cD, rfl, jD1, jD2, jDi⟩ := ints_of hsd
  obtain ⟨E, cs, cE, rfl, jE1, jE2, jEi⟩ := cars_of (sh_slice Try.underlying52 depotMore_sh52 (hval 1 _ v1 rfl rfl) r1)
  obtain ⟨vs, rfl, _, _, wS⟩ := open_int Try.underlying5 (hval 2 _ v2 rfl rfl) r2
  obtain ⟨vc, rfl, _, _, wC⟩ := open_int Try.underlying5 (hval 3 _ v3 rfl rfl) r3
  obtain ⟨vb, rfl, _, _, wB⟩ := open_int Try.underlying5 (hval 4 _ v4 rfl rfl) r4
  refine (More_walk A B C D E ⟨sA, sB, sC, sD⟩ cs vs vc vb _ _ _ _ _ cA cB cC cD cE W rfl rfl rfl rfl rfl ⟨jA1, jA2⟩ ⟨jB1, jB2⟩ ⟨jC1, jC2⟩ ⟨jD1, jD2⟩ ⟨jE1, jE2⟩ (u8_bdM wS) (u8_bdM wC) (u8_bdM wB) ⟨jAi, jBi, jCi, jDi⟩ jEi).mono fun e W' ⟨he, hb⟩ => ?_
  subst he
  exact ⟨_, rfl, law_post depotMore_laidOut (by kernel_rfl) rfl hW' hA1 rfl rfl rfl (fun _ _ _ => (trodAll_cons_mk (shut_bool Try.underlying4 _) trodAll_mk0)) hb (ok_one (by kernel_rfl) rfl (okWide_bool_mk Try.underlying4 _))⟩

theorem depotMore_holds : Rows.DepotMoreSaid :=
  OpenClaim.holds_of_wide 9 Try.f9 rfl rfl rfl rfl rfl rfl rfl ⟨rfl, rfl, rfl, rfl, rfl⟩ rfl rfl rfl rfl rfl (by kernel_rfl) Try.func9 (by kernel_rfl)
    (of_decide_eq_true (by kernel_rfl)) (by unfold Func.isWrapper; first | (rw [if_pos (by decide +kernel)]; kernel_rfl) | (rw [if_neg (by decide +kernel)]; exact ⟨rfl, rfl⟩))
    (fun os started H enc _ => depotMore_lifted os started H enc)
#print axioms depotMore_holds
end Go.Proofs.Ytmebpglkeedaoaa
