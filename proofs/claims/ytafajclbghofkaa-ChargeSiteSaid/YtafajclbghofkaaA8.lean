/- Cost of charge and of coulombref09. -/
import Derived.Test.YtafajclbghofkaaA7
namespace Go.Proofs.Ytafajclbghofkaa
open Go.RowKit
set_option linter.unusedVariables false

theorem price_bd {day fee : Int} {bs : List Bd} {a : Int} (h : Cv.prE day fee bs a = 0) : (0 ≤ Cv.pr1 day fee bs a ∧ Cv.pr1 day fee bs a ≤ 1048576) ∧ 0 ≤ Cv.pr2 day fee bs a ∧ Cv.pr2 day fee bs a ≤ 1048576 := by
  rcases tarE_or day fee bs with ⟨hok, he⟩ | he
  · cases h1 : Cv.inB a 0 1099511627776
    · have := (price_3 he h1).1; omega
    · obtain ⟨_, e1, e2⟩ := price_0 he h1
      rw [e1, e2]
      have hk : Cv.prK day bs a < bs.length := Cv.bandK_lt _ _ _ (by have := hok.2.1; omega)
      exact (hok.2.2.2 _ hk).2.2.2
  · have := (price_2 a he).1; omega
theorem mul_bd0 {x y : Int} {m n : Int} (hx : 0 ≤ x ∧ x ≤ m) (hy : 0 ≤ y ∧ y ≤ n) : 0 ≤ x * y ∧ x * y ≤ m * n :=
  ⟨Int.mul_nonneg hx.1 hy.1, Int.le_trans (Int.mul_le_mul_of_nonneg_right hx.2 hy.1) (Int.mul_le_mul_of_nonneg_left hy.2 (by omega))⟩
theorem co_no {day fee : Int} {bs : List Bd} {a x y : Int} (h : Cv.prE day fee bs a = 0) (g : Cv.coB x y = false) : Cv.coV day fee bs a x y = 0 ∧ Cv.coE day fee bs a x y = 3 := by
  have e : Cv.coE day fee bs a x y = 3 := by simp [Cv.coE, h, g]
  exact ⟨by simp [Cv.coV, e], e⟩
theorem co_yes {day fee : Int} {bs : List Bd} {a x y : Int} (h : Cv.prE day fee bs a = 0) (g : Cv.coB x y = true) : Cv.coV day fee bs a x y = x * Cv.pr1 day fee bs a / 3600000 - y * Cv.pr2 day fee bs a / 3600000 ∧ Cv.coE day fee bs a x y = 0 := by
  have e : Cv.coE day fee bs a x y = 0 := by simp [Cv.coE, h, g]
  exact ⟨by simp [Cv.coV, e], e⟩
theorem co_bad {day fee : Int} {bs : List Bd} {a x y : Int} (h : Cv.prE day fee bs a ≠ 0) : Cv.coV day fee bs a x y = 0 ∧ Cv.coE day fee bs a x y = Cv.prE day fee bs a := by
  have e : Cv.coE day fee bs a x y = Cv.prE day fee bs a := by simp [Cv.coE, h]
  exact ⟨by simp [Cv.coV, e, h], e⟩
theorem ret_ii {x y x' y' : Int} (h : x = x' ∧ y = y') : Ending.returned (.tuple #[.int .i64 x, .int .i64 y]) = .returned (.tuple #[.int .i64 x', .int .i64 y']) := by
  obtain ⟨rfl, rfl⟩ := h
  rfl

set_option maxHeartbeats 4000000 in
theorem Cost_c (day fee : Int) (A : Option Addr) (bs : List Bd) (cap : Nat) (a x y : Int) (w : World) (hcap : bs.length ≤ cap) (hl : cap ≤ 9223372036854775807) (hw : BandsAt w A bs) :
    Calls Try.prog 15 #[.agg #[.int .i64 day, .slice A bs.length cap, .int .i64 fee], .int .i64 a, .int .i64 x, .int .i64 y] w fun e w' =>
      e = .returned (.tuple #[.int .i64 (Cv.coV day fee bs a x y), .int .i64 (Cv.coE day fee bs a x y)]) ∧ Below w.heap.size w w' := by
  have hc := fun w0 hw0 => Price_c day fee A bs cap a w0 hcap hl hw0
  have HBW := fun w0 => Lib.hid (BandsAt.below (w1 := w0) hw)
  have v1 := fun h g => co_no (day := day) (fee := fee) (bs := bs) (a := a) (x := x) (y := y) h g
  have v2 := fun h g => co_yes (day := day) (fee := fee) (bs := bs) (a := a) (x := x) (y := y) h g
  have v3 := fun h => co_bad (day := day) (fee := fee) (bs := bs) (a := a) (x := x) (y := y) h
  generalize Cv.coV day fee bs a x y = cv at *
  generalize Cv.coE day fee bs a x y = ce at *
  have hbd := price_bd (day := day) (fee := fee) (bs := bs) (a := a)
  clear hw
  generalize Cv.prE day fee bs a = pe at *
  generalize Cv.pr1 day fee bs a = p1 at *
  generalize Cv.pr2 day fee bs a = p2 at *
  by_cases he : pe = 0
  · subst he
    obtain ⟨⟨b1, b2⟩, b3, b4⟩ := hbd rfl
    have HC := Lib.hid (show Cv.coB x y = (Cv.inB x 0 1099511627776 && Cv.inB y 0 1099511627776) from rfl)
    cases h1 : Cv.inB x 0 1099511627776
    · obtain ⟨rfl, rfl⟩ := v1 rfl (by rw [HC.out, h1]; rfl)
      clear v1 v2 v3
      go_enter Try.func15, Try.ntmps15
      go_wp2_with (first | (go_at_call 13; refine (hc _ ((HBW _).out ((Below.refl _ _).alloc (Nat.le_refl _) _))).mono ?_; rintro e w1 ⟨rfl, hb⟩; have HB := Lib.hid (((Below.refl w.heap.size w).alloc (Nat.le_refl _) _).trans (hb.mono (by simp))); clear hb) | (go_at_call 51; refine (within_c _ _ _ _).mono ?_; rintro e w' ⟨rfl, rfl⟩))
      all_goals
        go_ret2
        exact ⟨rfl, HB.out⟩
    · cases h2 : Cv.inB y 0 1099511627776
      · obtain ⟨rfl, rfl⟩ := v1 rfl (by rw [HC.out, h1, h2]; rfl)
        clear v1 v2 v3
        go_enter Try.func15, Try.ntmps15
        go_wp2_with (first | (go_at_call 13; refine (hc _ ((HBW _).out ((Below.refl _ _).alloc (Nat.le_refl _) _))).mono ?_; rintro e w1 ⟨rfl, hb⟩; have HB := Lib.hid (((Below.refl w.heap.size w).alloc (Nat.le_refl _) _).trans (hb.mono (by simp))); clear hb) | (go_at_call 51; refine (within_c _ _ _ _).mono ?_; rintro e w' ⟨rfl, rfl⟩))
        all_goals
          go_ret2
          exact ⟨rfl, HB.out⟩
      · obtain ⟨rfl, rfl⟩ := v2 rfl (by rw [HC.out, h1, h2]; rfl)
        clear v1 v2 v3
        have hx := Cv.inB_iff.1 h1
        have hy := Cv.inB_iff.1 h2
        have m1 := mul_bd0 hx ⟨b1, b2⟩
        have m2 := mul_bd0 hy ⟨b3, b4⟩
        have d1 : (x * p1).tdiv 3600000 = x * p1 / 3600000 := Int.tdiv_eq_ediv_of_nonneg m1.1
        have d2 : (y * p2).tdiv 3600000 = y * p2 / 3600000 := Int.tdiv_eq_ediv_of_nonneg m2.1
        go_enter Try.func15, Try.ntmps15
        go_wp2_with (first | (go_at_call 13; refine (hc _ ((HBW _).out ((Below.refl _ _).alloc (Nat.le_refl _) _))).mono ?_; rintro e w1 ⟨rfl, hb⟩; have HB := Lib.hid (((Below.refl w.heap.size w).alloc (Nat.le_refl _) _).trans (hb.mono (by simp))); clear hb) | (go_at_call 51; refine (within_c _ _ _ _).mono ?_; rintro e w' ⟨rfl, rfl⟩))
        all_goals
          go_ret2
          exact ⟨rfl, HB.out⟩
  · have he' : (pe != 0) = true := by simpa using he
    obtain ⟨rfl, rfl⟩ := v3 he
    clear he hbd v1 v2 v3
    go_enter Try.func15, Try.ntmps15
    go_wp2_with (first | (go_at_call 13; refine (hc _ ((HBW _).out ((Below.refl _ _).alloc (Nat.le_refl _) _))).mono ?_; rintro e w1 ⟨rfl, hb⟩; have HB := Lib.hid (((Below.refl w.heap.size w).alloc (Nat.le_refl _) _).trans (hb.mono (by simp))); clear hb) | (go_at_call 51; refine (within_c _ _ _ _).mono ?_; rintro e w' ⟨rfl, rfl⟩))
    all_goals
      go_ret2
      exact ⟨rfl, HB.out⟩

set_option maxHeartbeats 4000000 in
theorem CostR_c (day fee : Int) (A : Option Addr) (bs : List Bd) (cap : Nat) (a x y : Int) (w : World) (hcap : bs.length ≤ cap) (hl : cap ≤ 9223372036854775807) (hw : BandsAt w A bs) :
    Calls Try.prog 16 #[.agg #[.int .i64 day, .slice A bs.length cap, .int .i64 fee], .int .i64 a, .int .i64 x, .int .i64 y] w fun e w' =>
      e = .returned (.tuple #[.int .i64 (Cv.coV day fee bs a x y), .int .i64 (Cv.coE day fee bs a x y)]) ∧ Below w.heap.size w w' := by
  have hc := fun w0 hw0 => PriceR_c day fee A bs cap a w0 hcap hl hw0
  have HBW := fun w0 => Lib.hid (BandsAt.below (w1 := w0) hw)
  have v1 := fun h g => co_no (day := day) (fee := fee) (bs := bs) (a := a) (x := x) (y := y) h g
  have v2 := fun h g => co_yes (day := day) (fee := fee) (bs := bs) (a := a) (x := x) (y := y) h g
  have v3 := fun h => co_bad (day := day) (fee := fee) (bs := bs) (a := a) (x := x) (y := y) h
  generalize Cv.coV day fee bs a x y = cv at *
  generalize Cv.coE day fee bs a x y = ce at *
  have hbd := price_bd (day := day) (fee := fee) (bs := bs) (a := a)
  clear hw
  generalize Cv.prE day fee bs a = pe at *
  generalize Cv.pr1 day fee bs a = p1 at *
  generalize Cv.pr2 day fee bs a = p2 at *
  by_cases he : pe = 0
  · subst he
    obtain ⟨⟨b1, b2⟩, b3, b4⟩ := hbd rfl
    have HC := Lib.hid (show Cv.coB x y = (Cv.inB x 0 1099511627776 && Cv.inB y 0 1099511627776) from rfl)
    cases h1 : Cv.inB x 0 1099511627776
    · obtain ⟨rfl, rfl⟩ := v1 rfl (by rw [HC.out, h1]; rfl)
      clear v1 v2 v3
      go_enter Try.func16, Try.ntmps16
      go_wp2_with (first | (go_at_call 14; refine (hc _ ((HBW _).out ((Below.refl _ _).alloc (Nat.le_refl _) _))).mono ?_; rintro e w1 ⟨rfl, hb⟩; have HB := Lib.hid (((Below.refl w.heap.size w).alloc (Nat.le_refl _) _).trans (hb.mono (by simp))); clear hb) | (go_at_call 54; refine (in_c _ _ _ _).mono ?_; rintro e w' ⟨rfl, rfl⟩))
      all_goals
        go_ret2
        exact ⟨rfl, HB.out⟩
    · cases h2 : Cv.inB y 0 1099511627776
      · obtain ⟨rfl, rfl⟩ := v1 rfl (by rw [HC.out, h1, h2]; rfl)
        clear v1 v2 v3
        go_enter Try.func16, Try.ntmps16
        go_wp2_with (first | (go_at_call 14; refine (hc _ ((HBW _).out ((Below.refl _ _).alloc (Nat.le_refl _) _))).mono ?_; rintro e w1 ⟨rfl, hb⟩; have HB := Lib.hid (((Below.refl w.heap.size w).alloc (Nat.le_refl _) _).trans (hb.mono (by simp))); clear hb) | (go_at_call 54; refine (in_c _ _ _ _).mono ?_; rintro e w' ⟨rfl, rfl⟩))
        all_goals
          go_ret2
          exact ⟨rfl, HB.out⟩
      · obtain ⟨rfl, rfl⟩ := v2 rfl (by rw [HC.out, h1, h2]; rfl)
        clear v1 v2 v3
        have hx := Cv.inB_iff.1 h1
        have hy := Cv.inB_iff.1 h2
        have m1 := mul_bd0 hx ⟨b1, b2⟩
        have m2 := mul_bd0 hy ⟨b3, b4⟩
        have d1 : (x * p1).tdiv 3600000 = x * p1 / 3600000 := Int.tdiv_eq_ediv_of_nonneg m1.1
        have d2 : (y * p2).tdiv 3600000 = y * p2 / 3600000 := Int.tdiv_eq_ediv_of_nonneg m2.1
        go_enter Try.func16, Try.ntmps16
        go_wp2_with (first | (go_at_call 14; refine (hc _ ((HBW _).out ((Below.refl _ _).alloc (Nat.le_refl _) _))).mono ?_; rintro e w1 ⟨rfl, hb⟩; have HB := Lib.hid (((Below.refl w.heap.size w).alloc (Nat.le_refl _) _).trans (hb.mono (by simp))); clear hb) | (go_at_call 54; refine (in_c _ _ _ _).mono ?_; rintro e w' ⟨rfl, rfl⟩))
        all_goals
          go_ret2
          exact ⟨rfl, HB.out⟩
  · have he' : (pe != 0) = true := by simpa using he
    obtain ⟨rfl, rfl⟩ := v3 he
    clear he hbd v1 v2 v3
    go_enter Try.func16, Try.ntmps16
    go_wp2_with (first | (go_at_call 14; refine (hc _ ((HBW _).out ((Below.refl _ _).alloc (Nat.le_refl _) _))).mono ?_; rintro e w1 ⟨rfl, hb⟩; have HB := Lib.hid (((Below.refl w.heap.size w).alloc (Nat.le_refl _) _).trans (hb.mono (by simp))); clear hb) | (go_at_call 54; refine (in_c _ _ _ _).mono ?_; rintro e w' ⟨rfl, rfl⟩))
    all_goals
      go_ret2
      exact ⟨rfl, HB.out⟩
end Go.Proofs.Ytafajclbghofkaa
