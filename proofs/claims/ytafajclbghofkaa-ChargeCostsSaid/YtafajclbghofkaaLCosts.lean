/- The law of costs. -/
import Derived.Test.YtafajclbghofkaaLTariffs
namespace Go.Proofs.Ytafajclbghofkaa
open Go.RowKit
set_option linter.unusedVariables false

/-- the sum of parts' costs -/
theorem cost_sum {a b p D : Int} (ha : 0 ≤ a) (hb : 0 ≤ b) (hp : 0 ≤ p) (hD : D = 3600000) : a * p / D + b * p / D ≤ (a + b) * p / D ∧ (a + b) * p / D ≤ a * p / D + b * p / D + 1 := by
  subst hD
  rw [Int.add_mul]
  omega
theorem bandK_mod {day a d : Int} (hd : 1 ≤ day) : (a % day + day * d) % day = a % day := by
  rw [Int.add_mul_emod_self_left, Int.emod_emod_of_dvd _ (Int.dvd_refl day)]
theorem tarS_init (day fee : Int) (A : Option Addr) (n cap : Nat) (w : World) : TarS w.heap.size day A n cap fee w (w.alloc (.cells #[.int .i64 day, .slice A n cap, .int .i64 fee] 24)) :=
  ⟨⟨by go_simp, by go_simp, by go_simp⟩, Lib.hid ((Below.refl _ _).alloc (Nat.le_refl _) _)⟩

theorem tarS_drew {g : Nat} {day : Int} {A : Option Addr} {n cap : Nat} {fee : Int} {w w' : World} (h : TarS g day A n cap fee w w') : TarS g day A n cap fee w w'.drew := ⟨h.1, Lib.hid h.2.out.drew⟩
/-- what the five costs are, and that they fit together -/
theorem costs_of {day fee : Int} {bs : List Bd} {a x y : Int} (h : Cv.tarE day fee bs = 0) (ha : 0 ≤ a ∧ a ≤ 4294967295) (hx : 0 ≤ x ∧ x ≤ 4294967295) (hy : 0 ≤ y ∧ y ≤ 4294967295) :
    ∃ X Y Z V : Int, (0 ≤ X ∧ X ≤ 4503599627370496) ∧ (0 ≤ Y ∧ Y ≤ 4503599627370496) ∧ X + Y ≤ Z ∧ Z ≤ X + Y + 1 ∧ (-4503599627370496 ≤ V ∧ V ≤ 0) ∧
      Cv.coV day fee bs a x 0 = X ∧ Cv.coE day fee bs a x 0 = 0 ∧ Cv.coV day fee bs a y 0 = Y ∧ Cv.coE day fee bs a y 0 = 0 ∧ Cv.coV day fee bs a (x + y) 0 = Z ∧ Cv.coE day fee bs a (x + y) 0 = 0 ∧
      Cv.coV day fee bs a 0 y = V ∧ Cv.coE day fee bs a 0 y = 0 ∧ Cv.coV day fee bs a x y = X + V ∧ Cv.coE day fee bs a x y = 0 := by
  have hin : Cv.inB a 0 1099511627776 = true := Cv.inB_iff.2 (by omega)
  obtain ⟨hp, _, _⟩ := price_0 (a := a) h hin
  obtain ⟨⟨b1, b2⟩, b3, b4⟩ := price_bd hp
  have hB : ∀ u v : Int, 0 ≤ u → u ≤ 8589934590 → 0 ≤ v → v ≤ 8589934590 → Cv.coB u v = true := fun u v h1 h2 h3 h4 => by
    unfold Cv.coB
    rw [Cv.inB_iff.2 ⟨h1, by omega⟩, Cv.inB_iff.2 ⟨h3, by omega⟩]
    rfl
  have e1 := co_yes (day := day) (fee := fee) (bs := bs) (a := a) (x := x) (y := 0) hp (hB x 0 (by omega) (by omega) (by omega) (by omega))
  have e2 := co_yes (day := day) (fee := fee) (bs := bs) (a := a) (x := y) (y := 0) hp (hB y 0 (by omega) (by omega) (by omega) (by omega))
  have e3 := co_yes (day := day) (fee := fee) (bs := bs) (a := a) (x := x + y) (y := 0) hp (hB (x + y) 0 (by omega) (by omega) (by omega) (by omega))
  have e4 := co_yes (day := day) (fee := fee) (bs := bs) (a := a) (x := 0) (y := y) hp (hB 0 y (by omega) (by omega) (by omega) (by omega))
  have e5 := co_yes (day := day) (fee := fee) (bs := bs) (a := a) (x := x) (y := y) hp (hB x y (by omega) (by omega) (by omega) (by omega))
  generalize Cv.pr1 day fee bs a = p1 at *
  generalize Cv.pr2 day fee bs a = p2 at *
  have m1 := mul_bd0 hx ⟨b1, b2⟩
  have m2 := mul_bd0 hy ⟨b1, b2⟩
  have m3 := mul_bd0 hy ⟨b3, b4⟩
  have hs := cost_sum (a := x) (b := y) (p := p1) (D := 3600000) hx.1 hy.1 b1 rfl
  refine ⟨x * p1 / 3600000, y * p1 / 3600000, (x + y) * p1 / 3600000, -(y * p2 / 3600000), by omega, by omega, hs.1, hs.2, by omega, ?_, e1.2, ?_, e2.2, ?_, e3.2, ?_, e4.2, ?_, e5.2⟩
  · rw [e1.1]; simp
  · rw [e2.1]; simp
  · rw [e3.1]; simp
  · rw [e4.1]; simp
  · rw [e5.1]; omega

/-- the price is that of the same time of each day -/
theorem price_day {day fee : Int} {bs : List Bd} {a d : Int} (h : Cv.tarE day fee bs = 0) (ha : 0 ≤ a ∧ a ≤ 4294967295) (hday : 1 ≤ day ∧ day ≤ 4294967296) (hd : 0 ≤ d ∧ d ≤ 255) :
    Cv.prE day fee bs a = 0 ∧ Cv.prE day fee bs (a % day + day * d) = 0 ∧ Cv.pr1 day fee bs (a % day + day * d) = Cv.pr1 day fee bs a ∧ Cv.pr2 day fee bs (a % day + day * d) = Cv.pr2 day fee bs a ∧
      (0 ≤ a % day ∧ a % day ≤ 4294967295) ∧ (0 ≤ day * d ∧ day * d ≤ 1095216660480) := by
  have m1 := mul_bd0 (x := day) (y := d) ⟨by omega, hday.2⟩ hd
  have r1 := Int.emod_nonneg a (show day ≠ 0 by omega)
  have r2 := Int.emod_lt_of_pos a (show 0 < day by omega)
  obtain ⟨p, p1, p2⟩ := price_0 (a := a) h (Cv.inB_iff.2 (by omega))
  obtain ⟨q, q1, q2⟩ := price_0 (a := a % day + day * d) h (Cv.inB_iff.2 (by omega))
  refine ⟨p, q, ?_, ?_, by omega, by omega⟩
  · rw [q1, p1]; unfold Cv.prK; rw [bandK_mod hday.1]
  · rw [q2, p2]; unfold Cv.prK; rw [bandK_mod hday.1]

set_option maxRecDepth 100000 in
set_option maxHeartbeats 4000000 in
theorem Costs_no (day fee a x y d : Int) (A : Option Addr) (bs : List Bd) (cap : Nat) (w : World) (hcap : bs.length ≤ cap) (hl : cap ≤ 9223372036854775807) (hw : BandsAt w A bs) (hno : decide ((bs.length : Int) ≤ 100) = false ∨ Cv.tarE day fee bs = 2) :
    Calls Try.prog 4 #[.agg #[.int .i64 day, .slice A bs.length cap, .int .i64 fee], .int .u32 a, .int .u32 x, .int .u32 y, .int .u8 d] w fun e w' => e = .returned (.bool true) ∧ Below w.heap.size w w' := by
  have HBW := fun w0 => Lib.hid (BandsAt.below (w1 := w0) hw)
  have h18 := fun w0 hw0 => CheckTariffR_c day fee A bs cap w0 hcap hl hw0
  have h11 := fun w0 => short_c day fee A bs.length cap w0
  have HI := Lib.hid (tarS_init day fee A bs.length cap w)
  clear hw
  generalize Cv.tarE day fee bs = te at *
  cases hs' : decide ((bs.length : Int) ≤ 100)
  · simp only [hs'] at h11
    clear hs' hno
    go_enter Try.func4, Try.ntmps4
    go_wp2_with (first
      | (go_at_call 11; refine (h11 _).mono ?_; rintro e w1 ⟨rfl, hb⟩; have HS := Lib.hid (tarS_keep HI.out hb); clear hb)
      | (go_at_call 12; refine (works_c _).mono ?_; rintro e w2 ⟨rfl, hb⟩; replace HS := Lib.hid (tarS_keep HS.out hb); clear hb))
    go_ret
    exact ⟨rfl, tarS_below HS.out⟩
  · obtain rfl : te = 2 := by rcases hno with h | h; · rw [hs'] at h; cases h
                              · exact h
    simp only [hs'] at h11
    clear hs' hno
    go_enter Try.func4, Try.ntmps4
    go_wp2_with (first
      | (go_at_call 11; refine (h11 _).mono ?_; rintro e w1 ⟨rfl, hb⟩; have HS := Lib.hid (tarS_keep HI.out hb); clear hb; obtain ⟨⟨c0, c1, c2⟩, _⟩ := HS.out)
      | (go_at_call 18; refine (h18 _ ((HBW _).out (tarS_below HS.out))).mono ?_; rintro e w2 ⟨rfl, hb⟩; replace HS := Lib.hid (tarS_keep HS.out hb); clear hb)
      | (go_at_call 12; refine (works_c _).mono ?_; rintro e w2 ⟨rfl, hb⟩; replace HS := Lib.hid (tarS_keep HS.out hb); clear hb))
    go_ret
    exact ⟨rfl, tarS_below HS.out⟩

set_option maxRecDepth 100000 in
set_option maxHeartbeats 8000000 in
theorem Costs_yes (day fee a x y d : Int) (A : Option Addr) (bs : List Bd) (cap : Nat) (w : World) (hcap : bs.length ≤ cap) (hl : cap ≤ 9223372036854775807) (hw : BandsAt w A bs) (hs' : decide ((bs.length : Int) ≤ 100) = true) (hte : Cv.tarE day fee bs = 0)
    (ha : 0 ≤ a ∧ a ≤ 4294967295) (hx : 0 ≤ x ∧ x ≤ 4294967295) (hy : 0 ≤ y ∧ y ≤ 4294967295) (hd : 0 ≤ d ∧ d ≤ 255) (hday : 1 ≤ day) :
    Calls Try.prog 4 #[.agg #[.int .i64 day, .slice A bs.length cap, .int .i64 fee], .int .u32 a, .int .u32 x, .int .u32 y, .int .u8 d] w fun e w' => e = .returned (.bool true) ∧ Below w.heap.size w w' := by
  have HBW := fun w0 => Lib.hid (BandsAt.below (w1 := w0) hw)
  have h11 := fun w0 => short_c day fee A bs.length cap w0
  have h18 := fun w0 hw0 => CheckTariffR_c day fee A bs cap w0 hcap hl hw0
  simp only [hs'] at h11
  simp only [hte] at h18
  have HI := Lib.hid (tarS_init day fee A bs.length cap w)
  obtain ⟨X, Y, Z, V, bX, bY, z1, z2, bV, e1, f1, e2, f2, e3, f3, e4, f4, e5, f5⟩ := costs_of hte ha hx hy
  have k1 := fun w0 hw0 => Cost_c day fee A bs cap a x 0 w0 hcap hl hw0
  have k2 := fun w0 hw0 => Cost_c day fee A bs cap a y 0 w0 hcap hl hw0
  have k3 := fun w0 hw0 => Cost_c day fee A bs cap a (x + y) 0 w0 hcap hl hw0
  have k4 := fun w0 hw0 => Cost_c day fee A bs cap a 0 y w0 hcap hl hw0
  have k5 := fun w0 hw0 => Cost_c day fee A bs cap a x y w0 hcap hl hw0
  simp only [e1, f1] at k1
  simp only [e2, f2] at k2
  simp only [e3, f3] at k3
  simp only [e4, f4] at k4
  simp only [e5, f5] at k5
  clear e1 f1 e2 f2 e3 f3 e4 f4 e5 f5 hs'
  by_cases hg : 4294967296 < day
  · have hg' : decide (4294967296 < day) = true := decide_eq_true hg
    clear hw hte
    go_enter Try.func4, Try.ntmps4
    go_wp2_with (first
      | (go_at_call 11; refine (h11 _).mono ?_; rintro e w1 ⟨rfl, hb⟩; have HS := Lib.hid (tarS_keep HI.out hb); clear hb; obtain ⟨⟨c0, c1, c2⟩, _⟩ := HS.out)
      | (go_at_call 18; refine (h18 _ ((HBW _).out (tarS_below HS.out))).mono ?_; rintro e w2 ⟨rfl, hb⟩; replace HS := Lib.hid (tarS_keep HS.out hb); clear hb c0 c1 c2; obtain ⟨⟨c0, c1, c2⟩, _⟩ := HS.out)
      | (go_at_call 15; (first
          | with_reducible refine (k1 _ ((HBW _).out (tarS_below HS.out))).mono ?_
          | with_reducible refine (k2 _ ((HBW _).out (tarS_below HS.out))).mono ?_
          | with_reducible refine (k3 _ ((HBW _).out (tarS_below HS.out))).mono ?_
          | with_reducible refine (k4 _ ((HBW _).out (tarS_below HS.out))).mono ?_
          | with_reducible refine (k5 _ ((HBW _).out (tarS_below HS.out))).mono ?_); rintro e w2 ⟨rfl, hb⟩; replace HS := Lib.hid (tarS_keep HS.out hb); clear hb c0 c1 c2; obtain ⟨⟨c0, c1, c2⟩, _⟩ := HS.out)
      | (go_at_call 12; refine (works_c _).mono ?_; rintro e w2 ⟨rfl, hb⟩; replace HS := Lib.hid (tarS_keep HS.out hb); clear hb))
    all_goals
      go_ret
      exact ⟨rfl, tarS_below HS.out⟩
  · have hg' : decide (4294967296 < day) = false := decide_eq_false hg
    obtain ⟨p, q, q1, q2, br, bm⟩ := price_day (bs := bs) (a := a) (d := d) hte ha ⟨hday, by omega⟩ hd
    have m1 := fun w0 hw0 => Price_c day fee A bs cap a w0 hcap hl hw0
    have m2 := fun w0 hw0 => Price_c day fee A bs cap (a % day + day * d) w0 hcap hl hw0
    have wm : IntKind.i64.wrap (day * d) = day * d := IntWalk.i64_in _ (by omega)
    have wd : IntKind.i64.wrap d = d := IntWalk.i64_in _ (by omega)
    have ws : IntKind.i64.wrap (a % day + day * d) = a % day + day * d := IntWalk.i64_in _ (by omega)
    have ht : a.tmod day = a % day := Int.tmod_eq_emod_of_nonneg ha.1
    simp only [p] at m1
    simp only [q, q1, q2] at m2
    generalize Cv.pr1 day fee bs a = p1 at *
    generalize Cv.pr2 day fee bs a = p2 at *
    clear hw hte p q q1 q2
    generalize a % day = r at *
    obtain ⟨m, hmm⟩ : ∃ m, m = day * d := ⟨_, rfl⟩
    rw [← hmm] at bm ws m2
    have wm' : IntKind.i64.wrap (day * d) = m := by rw [wm, hmm]
    have hd0 : day ≠ 0 := by omega
    have HT := Lib.hid ht
    have HM := Lib.hid wm'
    have HWd := Lib.hid wd
    have HW := Lib.hid ws
    clear ht wm wm' ws hmm wd
    go_enter Try.func4, Try.ntmps4
    go_wp2_with (first
      | (go_at_call 11; refine (h11 _).mono ?_; rintro e w1 ⟨rfl, hb⟩; have HS := Lib.hid (tarS_keep HI.out hb); clear hb; obtain ⟨⟨c0, c1, c2⟩, _⟩ := HS.out)
      | (go_at_call 18; refine (h18 _ ((HBW _).out (tarS_below HS.out))).mono ?_; rintro e w2 ⟨rfl, hb⟩; replace HS := Lib.hid (tarS_keep HS.out hb); clear hb c0 c1 c2; obtain ⟨⟨c0, c1, c2⟩, _⟩ := HS.out)
      | (go_at_call 15; (first
          | with_reducible refine (k1 _ ((HBW _).out (tarS_below HS.out))).mono ?_
          | with_reducible refine (k2 _ ((HBW _).out (tarS_below HS.out))).mono ?_
          | with_reducible refine (k3 _ ((HBW _).out (tarS_below HS.out))).mono ?_
          | with_reducible refine (k4 _ ((HBW _).out (tarS_below HS.out))).mono ?_
          | with_reducible refine (k5 _ ((HBW _).out (tarS_below HS.out))).mono ?_); rintro e w2 ⟨rfl, hb⟩; replace HS := Lib.hid (tarS_keep HS.out hb); clear hb c0 c1 c2; obtain ⟨⟨c0, c1, c2⟩, _⟩ := HS.out)
      | (go_at_call 13; refine (m1 _ ((HBW _).out (tarS_below HS.out))).mono ?_; rintro e w2 ⟨rfl, hb⟩; replace HS := Lib.hid (tarS_keep HS.out hb); clear hb c0 c1 c2; obtain ⟨⟨c0, c1, c2⟩, _⟩ := HS.out))
    have ht := HT.out
    have wm := HM.out
    have wd := HWd.out
    have ws := HW.out
    have HD := Lib.hid (show TarS w.heap.size day A bs.length cap fee w _ from HS.out)
    clear c0 c1 c2
    go_region_held3 (fun w' => (w'.cell? ⟨w.heap.size, 0, none⟩ = some (.int .i64 day) ∧ w'.cell? ⟨w.heap.size, 1, none⟩ = some (.slice A bs.length cap) ∧ w'.cell? ⟨w.heap.size, 2, none⟩ = some (.int .i64 fee)) ∧ Hid (Below w.heap.size w w')) (first | assumption | exact tarS_drew HS.out | exact tarS_keep (by assumption) (by assumption)) (first
      | (go_at_call 13; (with_reducible refine (m2 _ ((HBW _).out (tarS_below (by assumption)))).mono ?_); rintro e w6 ⟨rfl, hb⟩))
    all_goals clear ht wm ws wd
    all_goals
      go_wp2_with (first
        | (go_at_call 12; refine (works_c _).mono ?_; rintro e w2 ⟨rfl, hb⟩; have HE := Lib.hid (tarS_keep (by assumption) hb); clear hb))
      go_ret
      exact ⟨rfl, tarS_below HE.out⟩
theorem Costs_walk (day fee a x y d : Int) (A : Option Addr) (bs : List Bd) (cap : Nat) (w : World) (hcap : bs.length ≤ cap) (hl : cap ≤ 9223372036854775807) (hw : BandsAt w A bs)
    (ha : 0 ≤ a ∧ a ≤ 4294967295) (hx : 0 ≤ x ∧ x ≤ 4294967295) (hy : 0 ≤ y ∧ y ≤ 4294967295) (hd : 0 ≤ d ∧ d ≤ 255) :
    Calls Try.prog 4 #[.agg #[.int .i64 day, .slice A bs.length cap, .int .i64 fee], .int .u32 a, .int .u32 x, .int .u32 y, .int .u8 d] w fun e w' => e = .returned (.bool true) ∧ Below w.heap.size w w' := by
  cases hs : decide ((bs.length : Int) ≤ 100)
  · exact Costs_no day fee a x y d A bs cap w hcap hl hw (.inl hs)
  · rcases tarE_or day fee bs with ⟨hok, h0⟩ | h2
    · exact Costs_yes day fee a x y d A bs cap w hcap hl hw hs h0 ha hx hy hd hok.1.1
    · exact Costs_no day fee a x y d A bs cap w hcap hl hw (.inr h2)
end Go.Proofs.Ytafajclbghofkaa
