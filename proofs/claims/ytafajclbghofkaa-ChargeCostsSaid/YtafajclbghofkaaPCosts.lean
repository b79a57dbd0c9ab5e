/- coulomblaw09.ChargeCosts returns true at every tariff, time, energies and days; the arguments read afterwards as before. No condition. -/
import Derived.Test.YtafajclbghofkaaLCosts
import Derived.Test.YtafajclbghofkaaO1
namespace Go.Proofs.Ytafajclbghofkaa
open Go.ChangeShapes Go.WideShapes Go.ChangeAt Go.RowKit
set_option linter.unusedVariables false

theorem chargeCosts_own : ownKnob Try.prog.godebug = none := by kernel_rfl
theorem chargeCosts_laidOut : laidOutB Try.prog = true := by kernel_rfl
theorem chargeCosts_sh24 : shK Try.prog 5 24 = some (.i .i64 (.s 3 (.i .i64 (.i .i64 (.i .i64 .nil))) (.i .i64 .nil))) := by kernel_rfl
theorem u32_bd {a : Int} (h : (Lit.int .u32 a).wf = true) : 0 ≤ a ∧ a ≤ 4294967295 := by have h1 : IntKind.u32.min = 0 := rfl; have h2 : IntKind.u32.max = 4294967295 := rfl; simp only [Lit.wf, Bool.and_eq_true, decide_eq_true_eq] at h; omega
theorem u8_bd {a : Int} (h : (Lit.int .u8 a).wf = true) : 0 ≤ a ∧ a ≤ 255 := by have h1 : IntKind.u8.min = 0 := rfl; have h2 : IntKind.u8.max = 255 := rfl; simp only [Lit.wf, Bool.and_eq_true, decide_eq_true_eq] at h; omega

set_option maxRecDepth 100000 in
theorem chargeCosts_lifted (os : Os) (started : os.Started) (H : Type) (enc : TypeId × Value → H) :
    ReturnsInHanded {} Try.checked os 4 .any (Rows.chargeCostsSpec.pre6 enc Try.prog Try.f4 Rows.chargeCostsRow.domain false) (Rows.chargeCostsSpec.post enc Try.prog Try.f4 false true false false) := by
  refine returnsInHanded_of_change (C := Try.checked) chargeCosts_own started (by kernel_rfl) Try.func4
    (ChangeSpec.witness6 (enc := enc) (C := Try.checked) false ⟨#[], #[.agg #[.int .i64 0, .slice none 0 0, .int .i64 0], .int .u32 0, .int .u32 0, .int .u32 0, .int .u8 0], []⟩ 8 (by kernel_rfl) (by kernel_rfl) (by kernel_rfl) (by kernel_rfl)) ?_
  intro W base args ds gs before hval0 hW hcnd _
  have hval : ∀ (j : Nat) t v, Try.f4.params[j]? = some t → args[j]? = some v → Value.okWide Try.prog W .any base t v := hval0
  have hW' := hW
  obtain ⟨p, q, hA0, hV, rfl, hfz, hnd⟩ := hW
  obtain ⟨rfl, rfl⟩ := trodVars_none hV
  simp only [List.append_nil] at hW'
  have hA : DataW.TrodAll enc Try.prog W 0 (fun _ => true) true Try.f4.params.toList args.toList ds p := hA0
  have hA1 := hA
  rw [Try.params4] at hA hval
  obtain ⟨v0, vs0, d0, ds0, p0, q0, hargs, rfl, hp0, r0, s0⟩ := trodAll_cons hA
  obtain ⟨v1, vs1, d1, ds1, p1, q1, rfl, rfl, hp1, r1, s1⟩ := trodAll_cons s0
  obtain ⟨v2, vs2, d2, ds2, p2, q2, rfl, rfl, hp2, r2, s2⟩ := trodAll_cons s1
  obtain ⟨v3, vs3, d3, ds3, p3, q3, rfl, rfl, hp3, r3, s3⟩ := trodAll_cons s2
  obtain ⟨v4, vs4, d4, ds4, p4, q4, rfl, rfl, hp4, r4, s4⟩ := trodAll_cons s3
  obtain ⟨rfl, rfl, rfl⟩ := trodAll_nil s4
  obtain rfl : args = #[v0, v1, v2, v3, v4] := by cases args; simp_all
  obtain ⟨_, rfl, day, _, rfl, _, vb, _, rfl, ⟨fee, _, rfl, _, rfl⟩, hsl⟩ := sh_agg Try.underlying24 chargeCosts_sh24 (hval 0 _ v0 rfl rfl) r0
  obtain ⟨A, bs, cap, rfl, hlc, hcm, hbs⟩ := bands_of hsl
  obtain ⟨a, rfl, _, _, wa⟩ := open_int Try.underlying34 (hval 1 _ v1 rfl rfl) r1
  obtain ⟨x, rfl, _, _, wx⟩ := open_int Try.underlying34 (hval 2 _ v2 rfl rfl) r2
  obtain ⟨y, rfl, _, _, wy⟩ := open_int Try.underlying34 (hval 3 _ v3 rfl rfl) r3
  obtain ⟨d, rfl, _, _, wd⟩ := open_int Try.underlying5 (hval 4 _ v4 rfl rfl) r4
  refine (Costs_walk day fee a x y d A bs cap W hlc hcm hbs (u32_bd wa) (u32_bd wx) (u32_bd wy) (u8_bd wd)).mono fun e W' ⟨he, hb⟩ => ?_
  subst he
  exact ⟨_, rfl, law_post chargeCosts_laidOut (by kernel_rfl) rfl hW' hA1 rfl rfl rfl (fun _ _ _ => (trodAll_cons_mk (shut_bool Try.underlying4 _) trodAll_mk0)) hb (ok_one (by kernel_rfl) rfl (okWide_bool_mk Try.underlying4 _))⟩

theorem chargeCosts_holds : Rows.ChargeCostsSaid :=
  OpenClaim.holds_of_wide 4 Try.f4 rfl rfl rfl rfl rfl rfl rfl ⟨rfl, rfl, rfl, rfl, rfl⟩ rfl rfl rfl rfl rfl (by kernel_rfl) Try.func4 (by kernel_rfl)
    (of_decide_eq_true (by kernel_rfl)) (by unfold Func.isWrapper; first | (rw [if_pos (by decide +kernel)]; kernel_rfl) | (rw [if_neg (by decide +kernel)]; exact ⟨rfl, rfl⟩))
    (fun os started H enc _ => chargeCosts_lifted os started H enc)
#print axioms chargeCosts_holds
end Go.Proofs.Ytafajclbghofkaa
