/- coulomblaw09.ChargeDeals returns true at every deal, contract and numbers; the arguments read afterwards as before. No condition. -/
import Derived.Test.YtafajclbghofkaaLDeals
import Derived.Test.YtafajclbghofkaaO4
namespace Go.Proofs.Ytafajclbghofkaa
open Go.ChangeShapes Go.WideShapes Go.ChangeAt Go.RowKit
set_option linter.unusedVariables false

theorem chargeDeals_own : ownKnob Try.prog.godebug = none := by kernel_rfl
theorem chargeDeals_laidOut : laidOutB Try.prog = true := by kernel_rfl
theorem chargeDeals_sh82 : shK Try.prog 8 82 = some (.i .i64 (.s 3 (.i .i64 (.i .i64 (.i .i64 .nil))) (.i .i64 (.s 2 (.i .u64 (.s 1 (.i .u64 .nil) .nil)) (.i .i64 (.i .i64 (.i .i64 (.i .i64 (.i .i64 .nil))))))))) := by kernel_rfl
theorem chargeDeals_sh86 : shK Try.prog 8 86 = some (.i .u64 (.s 1 (.i .u64 .nil) .nil)) := by kernel_rfl

set_option maxRecDepth 100000 in
theorem chargeDeals_lifted (os : Os) (started : os.Started) (H : Type) (enc : TypeId × Value → H) :
    ReturnsInHanded {} Try.checked os 8 .any (Rows.chargeDealsSpec.pre6 enc Try.prog Try.f8 Rows.chargeDealsRow.domain false) (Rows.chargeDealsSpec.post enc Try.prog Try.f8 false true false false) := by
  refine returnsInHanded_of_change (C := Try.checked) chargeDeals_own started (by kernel_rfl) Try.func8
    (ChangeSpec.witness6 (enc := enc) (C := Try.checked) false ⟨#[], #[.agg #[.int .i64 0, .slice none 0 0, .int .i64 0, .slice none 0 0, .int .i64 0, .int .i64 0, .int .i64 0, .int .i64 0, .int .i64 0], .agg #[.int .u64 0, .slice none 0 0], .int .i64 0, .int .i64 0], []⟩ 8 (by kernel_rfl) (by kernel_rfl) (by kernel_rfl) (by kernel_rfl)) ?_
  intro W base args ds gs before hval0 hW hcnd _
  have hval : ∀ (j : Nat) t v, Try.f8.params[j]? = some t → args[j]? = some v → Value.okWide Try.prog W .any base t v := hval0
  have hW' := hW
  obtain ⟨p, q, hA0, hV, rfl, hfz, hnd⟩ := hW
  obtain ⟨rfl, rfl⟩ := trodVars_none hV
  simp only [List.append_nil] at hW'
  have hA : DataW.TrodAll enc Try.prog W 0 (fun _ => true) true Try.f8.params.toList args.toList ds p := hA0
  have hA1 := hA
  rw [Try.params8] at hA hval
  obtain ⟨v0, vs0, d0, ds0, p0, q0, hargs, rfl, hp0, r0, s0⟩ := trodAll_cons hA
  obtain ⟨v1, vs1, d1, ds1, p1, q1, rfl, rfl, hp1, r1, s1⟩ := trodAll_cons s0
  obtain ⟨v2, vs2, d2, ds2, p2, q2, rfl, rfl, hp2, r2, s2⟩ := trodAll_cons s1
  obtain ⟨v3, vs3, d3, ds3, p3, q3, rfl, rfl, hp3, r3, s3⟩ := trodAll_cons s2
  obtain ⟨rfl, rfl, rfl⟩ := trodAll_nil s3
  obtain rfl : args = #[v0, v1, v2, v3] := by cases args; simp_all
  obtain ⟨_, rfl, day, _, rfl, _, vb, _, rfl, ⟨fee, _, rfl, _, vc, _, rfl, ⟨cr, _, rfl, _, ev, _, rfl, _, sl, _, rfl, _, dr, _, rfl, _, bk, _, rfl, _, rfl⟩, hsc⟩, hsl⟩ := sh_agg Try.underlying82 chargeDeals_sh82 (hval 0 _ v0 rfl rfl) r0
  obtain ⟨A, bs, cap, rfl, hlc, hcm, hbs⟩ := bands_of hsl
  obtain ⟨C, cs, cc, rfl, hcl, hcm2, hcs⟩ := cts_of hsc
  obtain ⟨_, rfl, pt, _, rfl, _, vp, _, rfl, rfl, hsp⟩ := sh_agg Try.underlying86 chargeDeals_sh86 (hval 1 _ v1 rfl rfl) r1
  obtain ⟨B, ps, bc, rfl, hbl, hbm, hnn, hps⟩ := pads_of hsp
  obtain ⟨k, rfl, _, _, _⟩ := open_int Try.underlying3 (hval 2 _ v2 rfl rfl) r2
  obtain ⟨n, rfl, _, _, _⟩ := open_int Try.underlying3 (hval 3 _ v3 rfl rfl) r3
  refine (Deals_walk day fee A bs cap C cs cc cr ev sl dr bk pt B ps bc k n W hlc hcm hbs hcl hcm2 hcs hbl hbm hnn hps).mono fun e W' ⟨he, hb⟩ => ?_
  subst he
  exact ⟨_, rfl, law_post chargeDeals_laidOut (by kernel_rfl) rfl hW' hA1 rfl rfl rfl (fun _ _ _ => (trodAll_cons_mk (shut_bool Try.underlying4 _) trodAll_mk0)) hb (ok_one (by kernel_rfl) rfl (okWide_bool_mk Try.underlying4 _))⟩

theorem chargeDeals_holds : Rows.ChargeDealsSaid :=
  OpenClaim.holds_of_wide 8 Try.f8 rfl rfl rfl rfl rfl rfl rfl ⟨rfl, rfl, rfl, rfl, rfl⟩ rfl rfl rfl rfl rfl (by kernel_rfl) Try.func8 (by kernel_rfl)
    (of_decide_eq_true (by kernel_rfl)) (by unfold Func.isWrapper; first | (rw [if_pos (by decide +kernel)]; kernel_rfl) | (rw [if_neg (by decide +kernel)]; exact ⟨rfl, rfl⟩))
    (fun os started H enc _ => chargeDeals_lifted os started H enc)
#print axioms chargeDeals_holds
end Go.Proofs.Ytafajclbghofkaa
