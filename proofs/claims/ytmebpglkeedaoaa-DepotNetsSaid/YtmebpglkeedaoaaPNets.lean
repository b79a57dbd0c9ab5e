/- coulomblaw08.DepotNets returns true at every net, flow, potentials and cut; the arguments read afterwards as before. No condition. -/
import Derived.Test.YtmebpglkeedaoaaLNets
namespace Go.Proofs.Ytmebpglkeedaoaa
open Go.ChangeShapes Go.WideShapes Go.ChangeAt Go.RowKit Dp
set_option linter.unusedVariables false

theorem depotNets_own : ownKnob Try.prog.godebug = none := by kernel_rfl
theorem depotNets_laidOut : laidOutB Try.prog = true := by kernel_rfl
theorem depotNets_sh25 : shK Try.prog 8 25 = some (.s 1 (.i .i64 .nil) (.s 4 (.i .i64 (.i .i64 (.i .i64 (.i .i64 .nil)))) .nil)) := by kernel_rfl
theorem depotNets_sh22 : shK Try.prog 5 22 = some (.s 1 (.i .i64 .nil) .nil) := by kernel_rfl
theorem depotNets_sh26 : shK Try.prog 5 26 = some (.s 1 (.i .i64 .nil) .nil) := by kernel_rfl

set_option maxRecDepth 100000 in
theorem depotNets_lifted (os : Os) (started : os.Started) (H : Type) (enc : TypeId × Value → H) :
    ReturnsInHanded {} Try.checked os 3 .any (Rows.depotNetsSpec.pre6 enc Try.prog Try.f3 Rows.depotNetsRow.domain false) (Rows.depotNetsSpec.post enc Try.prog Try.f3 false true false false) := by
  refine returnsInHanded_of_change (C := Try.checked) depotNets_own started (by kernel_rfl) Try.func3
    (ChangeSpec.witness6 (enc := enc) (C := Try.checked) false ⟨#[], #[.agg #[.slice none 0 0, .slice none 0 0], .slice none 0 0, .slice none 0 0, .slice none 0 0], []⟩ 8 (by kernel_rfl) (by kernel_rfl) (by kernel_rfl) (by kernel_rfl)) ?_
  intro W base args ds gs before hval0 hW hcnd _
  have hval : ∀ (j : Nat) t v, Try.f3.params[j]? = some t → args[j]? = some v → Value.okWide Try.prog W .any base t v := hval0
  have hW' := hW
  obtain ⟨p, q, hA0, hV, rfl, hfz, hnd⟩ := hW
  obtain ⟨rfl, rfl⟩ := trodVars_none hV
  simp only [List.append_nil] at hW'
  have hA : DataW.TrodAll enc Try.prog W 0 (fun _ => true) true Try.f3.params.toList args.toList ds p := hA0
  have hA1 := hA
  rw [Try.params3] at hA hval
  obtain ⟨v0, vs0, d0, ds0, p0, q0, hargs, rfl, hp0, r0, s0⟩ := trodAll_cons hA
  obtain ⟨v1, vs1, d1, ds1, p1, q1, rfl, rfl, hp1, r1, s1⟩ := trodAll_cons s0
  obtain ⟨v2, vs2, d2, ds2, p2, q2, rfl, rfl, hp2, r2, s2⟩ := trodAll_cons s1
  obtain ⟨v3, vs3, d3, ds3, p3, q3, rfl, rfl, hp3, r3, s3⟩ := trodAll_cons s2
  obtain ⟨rfl, rfl, rfl⟩ := trodAll_nil s3
  obtain rfl : args = #[v0, v1, v2, v3] := by cases args; simp_all
  obtain ⟨_, rfl, va, _, rfl, ⟨vb, _, rfl, rfl, hsb⟩, hsa⟩ := sh_agg Try.underlying25 depotNets_sh25 (hval 0 _ v0 rfl rfl) r0
  obtain ⟨A, su, cA, rfl, jA1, jA2, jAi⟩ := ints_of hsa
  obtain ⟨B, ar, cB, rfl, jB1, jB2, jBi⟩ := arcs_of hsb
  obtain ⟨C, fl, cC, rfl, jC1, jC2, jCi⟩ := ints_of (sh_slice Try.underlying22 depotNets_sh22 (hval 1 _ v1 rfl rfl) r1)
  obtain ⟨D, ps, cD, rfl, jD1, jD2, jDi⟩ := ints_of (sh_slice Try.underlying22 depotNets_sh22 (hval 2 _ v2 rfl rfl) r2)
  obtain ⟨E, ct, cE, rfl, jE1, jE2, jEi⟩ := ints_of (sh_slice Try.underlying26 depotNets_sh26 (hval 3 _ v3 rfl rfl) r3)
  refine (Nets_walk A B C D E (Net.mk su ar) fl ps ct _ _ _ _ _ cA cB cC cD cE W rfl rfl rfl rfl rfl ⟨jA1, jA2⟩ ⟨jB1, jB2⟩ ⟨jC1, jC2⟩ ⟨jD1, jD2⟩ ⟨jE1, jE2⟩ ⟨jAi, jBi⟩ jCi jDi jEi).mono fun e W' ⟨he, hb⟩ => ?_
  subst he
  exact ⟨_, rfl, law_post depotNets_laidOut (by kernel_rfl) rfl hW' hA1 rfl rfl rfl (fun _ _ _ => (trodAll_cons_mk (shut_bool Try.underlying4 _) trodAll_mk0)) hb (ok_one (by kernel_rfl) rfl (okWide_bool_mk Try.underlying4 _))⟩

theorem depotNets_holds : Rows.DepotNetsSaid :=
  OpenClaim.holds_of_wide 3 Try.f3 rfl rfl rfl rfl rfl rfl rfl ⟨rfl, rfl, rfl, rfl, rfl⟩ rfl rfl rfl rfl rfl (by kernel_rfl) Try.func3 (by kernel_rfl)
    (of_decide_eq_true (by kernel_rfl)) (by unfold Func.isWrapper; first | (rw [if_pos (by decide +kernel)]; kernel_rfl) | (rw [if_neg (by decide +kernel)]; exact ⟨rfl, rfl⟩))
    (fun os started H enc _ => depotNets_lifted os started H enc)
#print axioms depotNets_holds
end Go.Proofs.Ytmebpglkeedaoaa
