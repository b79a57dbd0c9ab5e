/- coulomblaw09.ChargeSlack returns true at every deal and number of ticks; the arguments read afterwards as before. No condition. -/
import Derived.Test.YtlklnaebdnahcaaCK7
namespace Go.Proofs.Ytlklnaebdnahcaa
open Go.ChangeShapes Go.WideShapes Go.ChangeAt Go.RowKit
set_option linter.unusedVariables false

theorem chargeSlack_own : ownKnob Try.prog.godebug = none := by kernel_rfl
theorem chargeSlack_laidOut : laidOutB Try.prog = true := by kernel_rfl
theorem bd_u8 {a : Int} (h : (Lit.int .u8 a).wf = true) : 0 ≤ a ∧ a ≤ 255 := by have h1 : IntKind.u8.min = 0 := rfl; have h2 : IntKind.u8.max = 255 := rfl; simp only [Lit.wf, Bool.and_eq_true, decide_eq_true_eq] at h; omega
theorem Slack_w (ev sl mo : Int) (w : World) (h1 : 0 ≤ ev ∧ ev ≤ 255) (h2 : 0 ≤ sl ∧ sl ≤ 255) (h3 : 0 ≤ mo ∧ mo ≤ 255) : Calls Try.prog 3 #[.int .u8 ev, .int .u8 sl, .int .u8 mo] w fun e w' => e = .returned (.bool true) ∧ Below w.heap.size w w' := Slack_walk ev sl mo h1 h2 h3 w

set_option maxRecDepth 100000 in
theorem chargeSlack_lifted (os : Os) (started : os.Started) (H : Type) (enc : TypeId × Value → H) :
    ReturnsInHanded {} Try.checked os 3 .any (Rows.chargeSlackSpec.pre6 enc Try.prog Try.f3 Rows.chargeSlackRow.domain false) (Rows.chargeSlackSpec.post enc Try.prog Try.f3 false true false false) := by
  refine returnsInHanded_of_change (C := Try.checked) chargeSlack_own started (by kernel_rfl) Try.func3
    (ChangeSpec.witness6 (enc := enc) (C := Try.checked) false ⟨#[], #[.int .u8 0, .int .u8 0, .int .u8 0], []⟩ 8 (by kernel_rfl) (by kernel_rfl) (by kernel_rfl) (by kernel_rfl)) ?_
  intro W base args ds gs before hval0 hW hcnd _
  have hval : ∀ (j : Nat) t v, Try.f3.params[j]? = some t → args[j]? = some v → Value.okWide Try.prog W .any base t v := hval0
  have hW' := hW
  obtain ⟨p, q, hA0, hV, rfl, hfz, hnd⟩ := hW
  obtain ⟨rfl, rfl⟩ := trodVars_none hV
  simp only [List.append_nil] at hW'
  have hA : DataW.TrodAll enc Try.prog W 0 (fun _ => true) true Try.f3.params.toList args.toList ds p := hA0
  have hA1 := hA
  rw [Try.params3] at hA hval
  obtain ⟨v0, vs0, d0, ds0, p0, q0, hargs, rfl, hp0, r0, s0⟩ := trodAll_cons hA
  obtain ⟨v1, vs1, d1, ds1, p1, q1, rfl, rfl, hp1, r1, s1⟩ := trodAll_cons s0
  obtain ⟨v2, vs2, d2, ds2, p2, q2, rfl, rfl, hp2, r2, s2⟩ := trodAll_cons s1
  obtain ⟨rfl, rfl, rfl⟩ := trodAll_nil s2
  obtain rfl : args = #[v0, v1, v2] := by cases args; simp_all
  obtain ⟨ev, rfl, _, _, wev⟩ := open_int Try.underlying5 (hval 0 _ v0 rfl rfl) r0
  obtain ⟨sl, rfl, _, _, wsl⟩ := open_int Try.underlying5 (hval 1 _ v1 rfl rfl) r1
  obtain ⟨mo, rfl, _, _, wmo⟩ := open_int Try.underlying5 (hval 2 _ v2 rfl rfl) r2
  refine (Slack_w ev sl mo W (bd_u8 wev) (bd_u8 wsl) (bd_u8 wmo)).mono fun e W' ⟨he, hb⟩ => ?_
  subst he
  exact ⟨_, rfl, law_post chargeSlack_laidOut (by kernel_rfl) rfl hW' hA1 rfl rfl rfl (fun _ _ _ => (trodAll_cons_mk (shut_bool Try.underlying4 _) trodAll_mk0)) hb (ok_one (by kernel_rfl) rfl (okWide_bool_mk Try.underlying4 _))⟩

theorem chargeSlack_holds : Rows.ChargeSlackSaid :=
  OpenClaim.holds_of_wide 3 Try.f3 rfl rfl rfl rfl rfl rfl rfl ⟨rfl, rfl, rfl, rfl, rfl⟩ rfl rfl rfl rfl rfl (by kernel_rfl) Try.func3 (by kernel_rfl)
    (of_decide_eq_true (by kernel_rfl)) (by unfold Func.isWrapper; first | (rw [if_pos (by decide +kernel)]; kernel_rfl) | (rw [if_neg (by decide +kernel)]; exact ⟨rfl, rfl⟩))
    (fun os started H enc _ => chargeSlack_lifted os started H enc)
#print axioms chargeSlack_holds
end Go.Proofs.Ytlklnaebdnahcaa
