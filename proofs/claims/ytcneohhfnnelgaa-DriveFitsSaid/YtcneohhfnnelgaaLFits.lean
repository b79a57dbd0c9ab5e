/- The walk of coulomblaw06.DriveFits. -/
import Derived.Test.YtcneohhfnnelgaaW34
namespace Go.Proofs.Ytcneohhfnnelgaa
open Go.RowKit
set_option linter.unusedVariables false

set_option maxHeartbeats 1000000 in
theorem Fits_long (m : Mot) (q s u N p : Int) (w : World) (h1 : (2000 : Int) < N) :
    Calls Try.prog 12 #[.agg #[.int .i64 m.r, .int .i64 m.ld, .int .i64 m.lq, .int .i64 m.fx, .int .i64 m.po, .int .i64 m.mi, .int .i64 m.sp, .int .i64 m.dr, .int .i64 m.cu, .int .i64 m.fa], .int .i64 q, .int .i64 s, .int .i64 u, .int .i64 N, .int .u16 p] w fun e w' => e = .returned (.bool true) ∧ Below w.heap.size w w' := by
  have I0 := Lib.hid (MoI.start w m)
  go_enter Try.func12, Try.ntmps12
  go_wp2_with fail
  refine (known_c _).mono ?_
  rintro e w1 ⟨rfl, hb1⟩
  go_wp2
  go_ret
  exact ⟨rfl, (I0.out.below hb1).2⟩

set_option maxHeartbeats 4000000 in
set_option maxRecDepth 100000 in
theorem Fits_a0 (m : Mot) (q s u N p : Int) (w : World) (h1 : ¬ (2000 : Int) < N) (hp : 0 ≤ p ∧ p ≤ 65535) (he : Dv.WeE m q s u N = 0) (n : Nat) (hD : Dv.WeD m q s u N = -(n : Int)) (hn : (n : Int) ≤ N) (hN : N ≤ 1048576) (hR : Dv.RoomV u = Dv.roomV u) (F1 : Dv.FtB m (-(n : Int)) q s (Dv.roomV u) = true) (h0 : n = 0) (hr : 0 ≤ Dv.roomV u ∧ Dv.roomV u ≤ 1073741824) :
    Calls Try.prog 12 #[.agg #[.int .i64 m.r, .int .i64 m.ld, .int .i64 m.lq, .int .i64 m.fx, .int .i64 m.po, .int .i64 m.mi, .int .i64 m.sp, .int .i64 m.dr, .int .i64 m.cu, .int .i64 m.fa], .int .i64 q, .int .i64 s, .int .i64 u, .int .i64 N, .int .u16 p] w fun e w' => e = .returned (.bool true) ∧ Below w.heap.size w w' := by
  have I0 := Lib.hid (MoI.start w m)
  have WK := Lib.hid (Weaken_c m q s u N)
  rw [he, hD, h0] at WK
  rw [h0] at F1
  clear he hD
  simp only [Int.natCast_zero, Int.neg_zero] at WK F1
  have d1 : decide (N < 0) = false := by simp; omega
  have d2 : decide (0 < -N) = false := by simp; omega
  go_enter Try.func12, Try.ntmps12
  go_wp2_with (go_at_call 54; refine (Room_c u _).mono ?_; rintro e w' ⟨rfl, rfl⟩; rw [hR])
  refine (WK.out _).mono ?_
  rintro e w1 ⟨rfl, hb1⟩
  have I1 := Lib.hid (I0.out.below hb1)
  clear hb1
  obtain ⟨c0, c1, c2, c3, c4, c5, c6, c7, c8, c9⟩ := motOf I1.out.1
  go_wp2_with fail
  have z1 := I1.out.1.lt
  refine wp_region_past (by kernel_rfl) (by kernel_rfl) ?_
  repeat (go_big_quiet_step (first | (go_at_call 55; exact past_below (fits_is m _ q s (Dv.roomV u) true _ hr F1))))
  refine wpQuiet_nil ?_
  intro x
  have I4 := Lib.hid (I1.out.below x.far)
  generalize x.w = w4 at I4 ⊢
  clear z1
  go_wp2_with fail
  refine wp_region_past (by kernel_rfl) (by kernel_rfl) ?_
  repeat (go_big_quiet_step (fail))
  refine wpQuiet_nil ?_
  intro x
  have I4' := Lib.hid (I4.out.below x.far)
  generalize x.w = w4 at I4' ⊢
  clear I4
  have I4 := I4'
  clear c0 c1 c2 c3 c4 c5 c6 c7 c8 c9
  obtain ⟨c0, c1, c2, c3, c4, c5, c6, c7, c8, c9⟩ := motOf I4.out.1
  rcases Dv.SrE_or m s u N with e0 | e0
  · obtain ⟨k1, k2, k3, k4, k5, k6, k7, k8⟩ := Dv.sr_found e0
    have SC := Lib.hid (Strongest_c m s u N)
    rw [e0] at SC
    generalize Dv.SrQ m s u N = x at SC k1 k2 k3 k4 k8
    generalize Dv.SrD m s u N = y at SC k2 k5 k6 k8
    have WC := Lib.hid (Weaken_c m x s u N)
    rw [k1, k2] at WC
    have hxx := Dv.mul_bd (x := x) (y := x) 1048576 1048576 (by omega) (by omega)
    have hyy := Dv.mul_bd (x := y) (y := y) 1048576 1048576 (by omega) (by omega)
    have hNN := Dv.mul_bd (x := N) (y := N) 1048576 1048576 (by omega) (by omega)
    clear e0 k1 k2
    go_wp2_with fail
    refine (SC.out _).mono ?_
    rintro e w5 ⟨rfl, hb5⟩
    have I5 := Lib.hid (I4.out.below hb5)
    clear hb5
    clear c0 c1 c2 c3 c4 c5 c6 c7 c8 c9
    obtain ⟨c0, c1, c2, c3, c4, c5, c6, c7, c8, c9⟩ := motOf I5.out.1
    go_wp2_with fail
    refine (WC.out _).mono ?_
    rintro e w6 ⟨rfl, hb6⟩
    have I6 := Lib.hid (I5.out.below hb6)
    clear hb6
    clear c0 c1 c2 c3 c4 c5 c6 c7 c8 c9
    go_wp2_with fail
    refine (known_c _).mono ?_
    rintro e w7 ⟨rfl, hb7⟩
    have I7 := Lib.hid (I6.out.below hb7)
    clear hb7
    go_wp2
    go_ret
    exact ⟨ret_bool (by first | rfl | simp [*]), I7.out.2⟩
  · have SC := Lib.hid (Strongest_c m s u N)
    rcases e0 with e0 | e0 | e0
    all_goals
      rw [e0] at SC
      clear e0
      go_wp2_with fail
      refine (SC.out _).mono ?_
      rintro e w5 ⟨rfl, hb5⟩
      have I5 := Lib.hid (I4.out.below hb5)
      clear hb5
      clear c0 c1 c2 c3 c4 c5 c6 c7 c8 c9
      go_wp2_with fail
      refine (known_c _).mono ?_
      rintro e w6 ⟨rfl, hb6⟩
      have I6 := Lib.hid (I5.out.below hb6)
      clear hb6
      go_wp2
      go_ret
      exact ⟨rfl, I6.out.2⟩

set_option maxHeartbeats 4000000 in
set_option maxRecDepth 100000 in
theorem Fits_a1 (m : Mot) (q s u N p : Int) (w : World) (h1 : ¬ (2000 : Int) < N) (hp : 0 ≤ p ∧ p ≤ 65535) (he : Dv.WeE m q s u N = 0) (n : Nat) (hD : Dv.WeD m q s u N = -(n : Int)) (hn : (n : Int) ≤ N) (hN : N ≤ 1048576) (hR : Dv.RoomV u = Dv.roomV u) (F1 : Dv.FtB m (-(n : Int)) q s (Dv.roomV u) = true) (h0 : 0 < n) (F2 : Dv.FtB m (-(p % n)) q s (Dv.roomV u) = false) (hr : 0 ≤ Dv.roomV u ∧ Dv.roomV u ≤ 1073741824) :
    Calls Try.prog 12 #[.agg #[.int .i64 m.r, .int .i64 m.ld, .int .i64 m.lq, .int .i64 m.fx, .int .i64 m.po, .int .i64 m.mi, .int .i64 m.sp, .int .i64 m.dr, .int .i64 m.cu, .int .i64 m.fa], .int .i64 q, .int .i64 s, .int .i64 u, .int .i64 N, .int .u16 p] w fun e w' => e = .returned (.bool true) ∧ Below w.heap.size w w' := by
  have I0 := Lib.hid (MoI.start w m)
  have WK := Lib.hid (Weaken_c m q s u N)
  rw [he, hD] at WK
  clear he hD
  have d1 : decide (N < (n : Int)) = false := by simp; omega
  have d2 : decide (-(n : Int) < -N) = false := by simp; omega
  have d3 : decide (0 < -(n : Int)) = false := by simp
  have d4 : decide ((n : Int) < 0) = false := by simp
  have d5 : decide (-(n : Int) < 0) = true := by simp; omega
  have d6 : decide (0 < (n : Int)) = true := by simp; omega
  go_enter Try.func12, Try.ntmps12
  go_wp2_with (go_at_call 54; refine (Room_c u _).mono ?_; rintro e w' ⟨rfl, rfl⟩; rw [hR])
  refine (WK.out _).mono ?_
  rintro e w1 ⟨rfl, hb1⟩
  have I1 := Lib.hid (I0.out.below hb1)
  clear hb1
  obtain ⟨c0, c1, c2, c3, c4, c5, c6, c7, c8, c9⟩ := motOf I1.out.1
  go_wp2_with fail
  have z1 := I1.out.1.lt
  refine wp_region_past (by kernel_rfl) (by kernel_rfl) ?_
  repeat (go_big_quiet_step (first | (go_at_call 55; exact past_below (fits_is m _ q s (Dv.roomV u) true _ hr F1)) | (go_at_call 55; exact past_below (fits_is m _ q s (Dv.roomV u) false _ hr F2))))
  refine wpQuiet_nil ?_
  intro x
  have I4 := Lib.hid (I1.out.below x.far)
  generalize x.w = w4 at I4 ⊢
  clear z1
  go_wp2_with fail
  refine wp_region_past (by kernel_rfl) (by kernel_rfl) ?_
  repeat (go_big_quiet_step (fail))
  refine wpQuiet_nil ?_
  intro x
  have I4' := Lib.hid (I4.out.below x.far)
  generalize x.w = w4 at I4' ⊢
  clear I4
  have I4 := I4'
  clear c0 c1 c2 c3 c4 c5 c6 c7 c8 c9
  obtain ⟨c0, c1, c2, c3, c4, c5, c6, c7, c8, c9⟩ := motOf I4.out.1
  rcases Dv.SrE_or m s u N with e0 | e0
  · obtain ⟨k1, k2, k3, k4, k5, k6, k7, k8⟩ := Dv.sr_found e0
    have SC := Lib.hid (Strongest_c m s u N)
    rw [e0] at SC
    generalize Dv.SrQ m s u N = x at SC k1 k2 k3 k4 k8
    generalize Dv.SrD m s u N = y at SC k2 k5 k6 k8
    have WC := Lib.hid (Weaken_c m x s u N)
    rw [k1, k2] at WC
    have hxx := Dv.mul_bd (x := x) (y := x) 1048576 1048576 (by omega) (by omega)
    have hyy := Dv.mul_bd (x := y) (y := y) 1048576 1048576 (by omega) (by omega)
    have hNN := Dv.mul_bd (x := N) (y := N) 1048576 1048576 (by omega) (by omega)
    clear e0 k1 k2
    go_wp2_with fail
    refine (SC.out _).mono ?_
    rintro e w5 ⟨rfl, hb5⟩
    have I5 := Lib.hid (I4.out.below hb5)
    clear hb5
    clear c0 c1 c2 c3 c4 c5 c6 c7 c8 c9
    obtain ⟨c0, c1, c2, c3, c4, c5, c6, c7, c8, c9⟩ := motOf I5.out.1
    go_wp2_with fail
    refine (WC.out _).mono ?_
    rintro e w6 ⟨rfl, hb6⟩
    have I6 := Lib.hid (I5.out.below hb6)
    clear hb6
    clear c0 c1 c2 c3 c4 c5 c6 c7 c8 c9
    go_wp2_with fail
    refine (known_c _).mono ?_
    rintro e w7 ⟨rfl, hb7⟩
    have I7 := Lib.hid (I6.out.below hb7)
    clear hb7
    go_wp2
    go_ret
    exact ⟨ret_bool (by first | rfl | simp [*]), I7.out.2⟩
  · have SC := Lib.hid (Strongest_c m s u N)
    rcases e0 with e0 | e0 | e0
    all_goals
      rw [e0] at SC
      clear e0
      go_wp2_with fail
      refine (SC.out _).mono ?_
      rintro e w5 ⟨rfl, hb5⟩
      have I5 := Lib.hid (I4.out.below hb5)
      clear hb5
      clear c0 c1 c2 c3 c4 c5 c6 c7 c8 c9
      go_wp2_with fail
      refine (known_c _).mono ?_
      rintro e w6 ⟨rfl, hb6⟩
      have I6 := Lib.hid (I5.out.below hb6)
      clear hb6
      go_wp2
      go_ret
      exact ⟨rfl, I6.out.2⟩

set_option maxHeartbeats 4000000 in
set_option maxRecDepth 100000 in
theorem Fits_b (m : Mot) (q s u N p : Int) (w : World) (h1 : ¬ (2000 : Int) < N) (hp : 0 ≤ p ∧ p ≤ 65535) (he : Dv.WeE m q s u N = 17) (h0 : 0 ≤ N) (hN : N ≤ 1048576) (hR : Dv.RoomV u = Dv.roomV u) (F2 : Dv.FtB m (-(p % (N + 1))) q s (Dv.roomV u) = false) (hr : 0 ≤ Dv.roomV u ∧ Dv.roomV u ≤ 1073741824) :
    Calls Try.prog 12 #[.agg #[.int .i64 m.r, .int .i64 m.ld, .int .i64 m.lq, .int .i64 m.fx, .int .i64 m.po, .int .i64 m.mi, .int .i64 m.sp, .int .i64 m.dr, .int .i64 m.cu, .int .i64 m.fa], .int .i64 q, .int .i64 s, .int .i64 u, .int .i64 N, .int .u16 p] w fun e w' => e = .returned (.bool true) ∧ Below w.heap.size w w' := by
  have I0 := Lib.hid (MoI.start w m)
  have WK := Lib.hid (Weaken_c m q s u N)
  rw [he] at WK
  clear he
  have d1 : decide (N < 0) = false := by simp; omega
  go_enter Try.func12, Try.ntmps12
  go_wp2_with (go_at_call 54; refine (Room_c u _).mono ?_; rintro e w' ⟨rfl, rfl⟩; rw [hR])
  refine (WK.out _).mono ?_
  rintro e w1 ⟨rfl, hb1⟩
  have I1 := Lib.hid (I0.out.below hb1)
  clear hb1
  obtain ⟨c0, c1, c2, c3, c4, c5, c6, c7, c8, c9⟩ := motOf I1.out.1
  go_wp2_with fail
  have z1 := I1.out.1.lt
  refine wp_region_past (by kernel_rfl) (by kernel_rfl) ?_
  repeat (go_big_quiet_step (first | (go_at_call 55; exact past_below (fits_is m _ q s (Dv.roomV u) false _ hr F2))))
  refine wpQuiet_nil ?_
  intro x
  have I4 := Lib.hid (I1.out.below x.far)
  generalize x.w = w4 at I4 ⊢
  clear z1
  clear c0 c1 c2 c3 c4 c5 c6 c7 c8 c9
  obtain ⟨c0, c1, c2, c3, c4, c5, c6, c7, c8, c9⟩ := motOf I4.out.1
  rcases Dv.SrE_or m s u N with e0 | e0
  · obtain ⟨k1, k2, k3, k4, k5, k6, k7, k8⟩ := Dv.sr_found e0
    have SC := Lib.hid (Strongest_c m s u N)
    rw [e0] at SC
    generalize Dv.SrQ m s u N = x at SC k1 k2 k3 k4 k8
    generalize Dv.SrD m s u N = y at SC k2 k5 k6 k8
    have WC := Lib.hid (Weaken_c m x s u N)
    rw [k1, k2] at WC
    have hxx := Dv.mul_bd (x := x) (y := x) 1048576 1048576 (by omega) (by omega)
    have hyy := Dv.mul_bd (x := y) (y := y) 1048576 1048576 (by omega) (by omega)
    have hNN := Dv.mul_bd (x := N) (y := N) 1048576 1048576 (by omega) (by omega)
    clear e0 k1 k2
    go_wp2_with fail
    refine (SC.out _).mono ?_
    rintro e w5 ⟨rfl, hb5⟩
    have I5 := Lib.hid (I4.out.below hb5)
    clear hb5
    clear c0 c1 c2 c3 c4 c5 c6 c7 c8 c9
    obtain ⟨c0, c1, c2, c3, c4, c5, c6, c7, c8, c9⟩ := motOf I5.out.1
    go_wp2_with fail
    refine (WC.out _).mono ?_
    rintro e w6 ⟨rfl, hb6⟩
    have I6 := Lib.hid (I5.out.below hb6)
    clear hb6
    clear c0 c1 c2 c3 c4 c5 c6 c7 c8 c9
    go_wp2_with fail
    refine (known_c _).mono ?_
    rintro e w7 ⟨rfl, hb7⟩
    have I7 := Lib.hid (I6.out.below hb7)
    clear hb7
    go_wp2
    go_ret
    exact ⟨ret_bool (by first | rfl | simp [*]), I7.out.2⟩
  · have SC := Lib.hid (Strongest_c m s u N)
    rcases e0 with e0 | e0 | e0
    all_goals
      rw [e0] at SC
      clear e0
      go_wp2_with fail
      refine (SC.out _).mono ?_
      rintro e w5 ⟨rfl, hb5⟩
      have I5 := Lib.hid (I4.out.below hb5)
      clear hb5
      clear c0 c1 c2 c3 c4 c5 c6 c7 c8 c9
      go_wp2_with fail
      refine (known_c _).mono ?_
      rintro e w6 ⟨rfl, hb6⟩
      have I6 := Lib.hid (I5.out.below hb6)
      clear hb6
      go_wp2
      go_ret
      exact ⟨rfl, I6.out.2⟩

set_option maxHeartbeats 4000000 in
set_option maxRecDepth 100000 in
theorem Fits_c0 (m : Mot) (q s u N p : Int) (w : World) (h1 : ¬ (2000 : Int) < N) (hp : 0 ≤ p ∧ p ≤ 65535) (he : Dv.WeE m q s u N = 2) :
    Calls Try.prog 12 #[.agg #[.int .i64 m.r, .int .i64 m.ld, .int .i64 m.lq, .int .i64 m.fx, .int .i64 m.po, .int .i64 m.mi, .int .i64 m.sp, .int .i64 m.dr, .int .i64 m.cu, .int .i64 m.fa], .int .i64 q, .int .i64 s, .int .i64 u, .int .i64 N, .int .u16 p] w fun e w' => e = .returned (.bool true) ∧ Below w.heap.size w w' := by
  have I0 := Lib.hid (MoI.start w m)
  have WK := Lib.hid (Weaken_c m q s u N)
  rw [he] at WK
  clear he
  go_enter Try.func12, Try.ntmps12
  go_wp2_with (go_at_call 54; refine (Room_c u _).mono ?_; rintro e w' ⟨rfl, rfl⟩)
  refine (WK.out _).mono ?_
  rintro e w1 ⟨rfl, hb1⟩
  have I1 := Lib.hid (I0.out.below hb1)
  clear hb1
  obtain ⟨c0, c1, c2, c3, c4, c5, c6, c7, c8, c9⟩ := motOf I1.out.1
  go_wp2_with fail
  have z1 := I1.out.1.lt
  refine wp_region_past (by kernel_rfl) (by kernel_rfl) ?_
  repeat (go_big_quiet_step (first | fail))
  refine wpQuiet_nil ?_
  intro x
  have I4 := Lib.hid (I1.out.below x.far)
  generalize x.w = w4 at I4 ⊢
  clear z1
  clear c0 c1 c2 c3 c4 c5 c6 c7 c8 c9
  obtain ⟨c0, c1, c2, c3, c4, c5, c6, c7, c8, c9⟩ := motOf I4.out.1
  rcases Dv.SrE_or m s u N with e0 | e0
  · obtain ⟨k1, k2, k3, k4, k5, k6, k7, k8⟩ := Dv.sr_found e0
    have SC := Lib.hid (Strongest_c m s u N)
    rw [e0] at SC
    generalize Dv.SrQ m s u N = x at SC k1 k2 k3 k4 k8
    generalize Dv.SrD m s u N = y at SC k2 k5 k6 k8
    have WC := Lib.hid (Weaken_c m x s u N)
    rw [k1, k2] at WC
    have hxx := Dv.mul_bd (x := x) (y := x) 1048576 1048576 (by omega) (by omega)
    have hyy := Dv.mul_bd (x := y) (y := y) 1048576 1048576 (by omega) (by omega)
    have hNN := Dv.mul_bd (x := N) (y := N) 1048576 1048576 (by omega) (by omega)
    clear e0 k1 k2
    go_wp2_with fail
    refine (SC.out _).mono ?_
    rintro e w5 ⟨rfl, hb5⟩
    have I5 := Lib.hid (I4.out.below hb5)
    clear hb5
    clear c0 c1 c2 c3 c4 c5 c6 c7 c8 c9
    obtain ⟨c0, c1, c2, c3, c4, c5, c6, c7, c8, c9⟩ := motOf I5.out.1
    go_wp2_with fail
    refine (WC.out _).mono ?_
    rintro e w6 ⟨rfl, hb6⟩
    have I6 := Lib.hid (I5.out.below hb6)
    clear hb6
    clear c0 c1 c2 c3 c4 c5 c6 c7 c8 c9
    go_wp2_with fail
    refine (known_c _).mono ?_
    rintro e w7 ⟨rfl, hb7⟩
    have I7 := Lib.hid (I6.out.below hb7)
    clear hb7
    go_wp2
    go_ret
    exact ⟨ret_bool (by first | rfl | simp [*]), I7.out.2⟩
  · have SC := Lib.hid (Strongest_c m s u N)
    rcases e0 with e0 | e0 | e0
    all_goals
      rw [e0] at SC
      clear e0
      go_wp2_with fail
      refine (SC.out _).mono ?_
      rintro e w5 ⟨rfl, hb5⟩
      have I5 := Lib.hid (I4.out.below hb5)
      clear hb5
      clear c0 c1 c2 c3 c4 c5 c6 c7 c8 c9
      go_wp2_with fail
      refine (known_c _).mono ?_
      rintro e w6 ⟨rfl, hb6⟩
      have I6 := Lib.hid (I5.out.below hb6)
      clear hb6
      go_wp2
      go_ret
      exact ⟨rfl, I6.out.2⟩

set_option maxHeartbeats 4000000 in
set_option maxRecDepth 100000 in
theorem Fits_c1 (m : Mot) (q s u N p : Int) (w : World) (h1 : ¬ (2000 : Int) < N) (hp : 0 ≤ p ∧ p ≤ 65535) (he : Dv.WeE m q s u N = 3) :
    Calls Try.prog 12 #[.agg #[.int .i64 m.r, .int .i64 m.ld, .int .i64 m.lq, .int .i64 m.fx, .int .i64 m.po, .int .i64 m.mi, .int .i64 m.sp, .int .i64 m.dr, .int .i64 m.cu, .int .i64 m.fa], .int .i64 q, .int .i64 s, .int .i64 u, .int .i64 N, .int .u16 p] w fun e w' => e = .returned (.bool true) ∧ Below w.heap.size w w' := by
  have I0 := Lib.hid (MoI.start w m)
  have WK := Lib.hid (Weaken_c m q s u N)
  rw [he] at WK
  clear he
  go_enter Try.func12, Try.ntmps12
  go_wp2_with (go_at_call 54; refine (Room_c u _).mono ?_; rintro e w' ⟨rfl, rfl⟩)
  refine (WK.out _).mono ?_
  rintro e w1 ⟨rfl, hb1⟩
  have I1 := Lib.hid (I0.out.below hb1)
  clear hb1
  obtain ⟨c0, c1, c2, c3, c4, c5, c6, c7, c8, c9⟩ := motOf I1.out.1
  go_wp2_with fail
  have z1 := I1.out.1.lt
  refine wp_region_past (by kernel_rfl) (by kernel_rfl) ?_
  repeat (go_big_quiet_step (first | fail))
  refine wpQuiet_nil ?_
  intro x
  have I4 := Lib.hid (I1.out.below x.far)
  generalize x.w = w4 at I4 ⊢
  clear z1
  clear c0 c1 c2 c3 c4 c5 c6 c7 c8 c9
  obtain ⟨c0, c1, c2, c3, c4, c5, c6, c7, c8, c9⟩ := motOf I4.out.1
  rcases Dv.SrE_or m s u N with e0 | e0
  · obtain ⟨k1, k2, k3, k4, k5, k6, k7, k8⟩ := Dv.sr_found e0
    have SC := Lib.hid (Strongest_c m s u N)
    rw [e0] at SC
    generalize Dv.SrQ m s u N = x at SC k1 k2 k3 k4 k8
    generalize Dv.SrD m s u N = y at SC k2 k5 k6 k8
    have WC := Lib.hid (Weaken_c m x s u N)
    rw [k1, k2] at WC
    have hxx := Dv.mul_bd (x := x) (y := x) 1048576 1048576 (by omega) (by omega)
    have hyy := Dv.mul_bd (x := y) (y := y) 1048576 1048576 (by omega) (by omega)
    have hNN := Dv.mul_bd (x := N) (y := N) 1048576 1048576 (by omega) (by omega)
    clear e0 k1 k2
    go_wp2_with fail
    refine (SC.out _).mono ?_
    rintro e w5 ⟨rfl, hb5⟩
    have I5 := Lib.hid (I4.out.below hb5)
    clear hb5
    clear c0 c1 c2 c3 c4 c5 c6 c7 c8 c9
    obtain ⟨c0, c1, c2, c3, c4, c5, c6, c7, c8, c9⟩ := motOf I5.out.1
    go_wp2_with fail
    refine (WC.out _).mono ?_
    rintro e w6 ⟨rfl, hb6⟩
    have I6 := Lib.hid (I5.out.below hb6)
    clear hb6
    clear c0 c1 c2 c3 c4 c5 c6 c7 c8 c9
    go_wp2_with fail
    refine (known_c _).mono ?_
    rintro e w7 ⟨rfl, hb7⟩
    have I7 := Lib.hid (I6.out.below hb7)
    clear hb7
    go_wp2
    go_ret
    exact ⟨ret_bool (by first | rfl | simp [*]), I7.out.2⟩
  · have SC := Lib.hid (Strongest_c m s u N)
    rcases e0 with e0 | e0 | e0
    all_goals
      rw [e0] at SC
      clear e0
      go_wp2_with fail
      refine (SC.out _).mono ?_
      rintro e w5 ⟨rfl, hb5⟩
      have I5 := Lib.hid (I4.out.below hb5)
      clear hb5
      clear c0 c1 c2 c3 c4 c5 c6 c7 c8 c9
      go_wp2_with fail
      refine (known_c _).mono ?_
      rintro e w6 ⟨rfl, hb6⟩
      have I6 := Lib.hid (I5.out.below hb6)
      clear hb6
      go_wp2
      go_ret
      exact ⟨rfl, I6.out.2⟩

theorem DriveFits_any (m : Mot) (q s u N p : Int) (w : World) (hp : 0 ≤ p ∧ p ≤ 65535) :
    Calls Try.prog 12 #[.agg #[.int .i64 m.r, .int .i64 m.ld, .int .i64 m.lq, .int .i64 m.fx, .int .i64 m.po, .int .i64 m.mi, .int .i64 m.sp, .int .i64 m.dr, .int .i64 m.cu, .int .i64 m.fa], .int .i64 q, .int .i64 s, .int .i64 u, .int .i64 N, .int .u16 p] w fun e w' => e = .returned (.bool true) ∧ Below w.heap.size w w' := by
  by_cases h1 : (2000 : Int) < N
  · exact Fits_long m q s u N p w h1
  · rcases Dv.WeE_or m q s u N with he | he | he | he
    · obtain ⟨n, k1, k2, k3, k4, k5, k6, k7⟩ := Dv.fits_found (p := p) he hp.1
      by_cases h0 : n = 0
      · exact Fits_a0 m q s u N p w h1 hp he n k1 k2 k3 k4 k5 h0 k7
      · exact Fits_a1 m q s u N p w h1 hp he n k1 k2 k3 k4 k5 (by omega) (k6.resolve_left h0) k7
    · obtain ⟨k1, k2, k3, k4, k5⟩ := Dv.fits_none (p := p) he hp.1
      exact Fits_b m q s u N p w h1 hp he k1 k2 k3 k4 k5
    · exact Fits_c0 m q s u N p w h1 hp he
    · exact Fits_c1 m q s u N p w h1 hp he
end Go.Proofs.Ytcneohhfnnelgaa
