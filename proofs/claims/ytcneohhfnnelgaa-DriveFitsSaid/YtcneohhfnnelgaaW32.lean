/- Contracts of fits and weaken of coulombref06, of Room, and of Weaken of both. -/
import Derived.Test.YtcneohhfnnelgaaW31
namespace Go.Proofs.Ytcneohhfnnelgaa
open Go.RowKit
set_option linter.unusedVariables false
namespace Dv
def weB (q s u n : Int) : Bool := upB 1048576 [q] && (upB 16384 [s] && (busB u && inB n 0 1048576))
def WeD (m : Mot) (q s u n : Int) : Int := if chkB m = true then (if weB q s u n = true then wkD (wkO m q s (roomV u) n.toNat) else 0) else 0
def WeE (m : Mot) (q s u n : Int) : Int := if chkB m = true then (if weB q s u n = true then (if (wkO m q s (roomV u) n.toNat).isSome = true then 0 else 17) else 3) else 2
theorem fitB_two (m : Mot) (q s room d : Int) : fitB m q s room d = (inB (ibd m d q s) (-room) room && inB (ibq m d q s) (-room) room) := by
  unfold fitB
  rw [upB_two, inB_up, inB_up]
end Dv
theorem RoomR_c (u : Int) (w : World) : Calls Try.prog 56 #[.int .i64 u] w fun e w' => e = .returned (.tuple #[.int .i64 (Dv.RoomV u), .int .i64 (Dv.RoomE u)]) ∧ w = w' := by
  cases h : Dv.busB u
  · have hE : Dv.busE u = 3 := by simp [Dv.busE, h]
    have E := Lib.hid (show Dv.RoomV u = 0 ∧ Dv.RoomE u = 3 from by simp [Dv.RoomV, Dv.RoomE, h])
    go_enter Try.func56, Try.ntmps56
    go_wp2_with (go_at_call 87; refine (busR_c u _).mono ?_; rintro e w' ⟨rfl, rfl⟩)
    go_ret2
    exact ⟨by rw [E.out.1, E.out.2]; rfl, rfl⟩
  · have hE : Dv.busE u = 0 := by simp [Dv.busE, h]
    have hu := Dv.busB_iff.1 h
    have E := Lib.hid (show Dv.RoomV u = Dv.roomV u ∧ Dv.RoomE u = 0 from by simp [Dv.RoomV, Dv.RoomE, h])
    go_enter Try.func56, Try.ntmps56
    go_wp2_with (first | (go_at_call 87; refine (busR_c u _).mono ?_; rintro e w' ⟨rfl, rfl⟩) | (go_at_call 85; refine (floor_c _ _ _ (by omega) (by omega) (by omega)).mono ?_; rintro e w' ⟨rfl, rfl⟩))
    go_ret2
    exact ⟨by rw [E.out.1, E.out.2]; rfl, rfl⟩

set_option maxHeartbeats 1000000 in
theorem fitsR_c (m : Mot) (d q s room : Int) (w : World) (hm : Dv.chk m) (hd : -1048576 ≤ d ∧ d ≤ 1048576) (hq : -1048576 ≤ q ∧ q ≤ 1048576) (hs : -16384 ≤ s ∧ s ≤ 16384) (hr : 0 ≤ room ∧ room ≤ 1073741824) :
    Calls Try.prog 123 #[.agg #[.int .i64 m.r, .int .i64 m.ld, .int .i64 m.lq, .int .i64 m.fx, .int .i64 m.po, .int .i64 m.mi, .int .i64 m.sp, .int .i64 m.dr, .int .i64 m.cu, .int .i64 m.fa], .int .i64 d, .int .i64 q, .int .i64 s, .int .i64 room] w fun e w' => e = .returned (.bool (Dv.fitB m q s room d)) ∧ Below w.heap.size w w' := by
  have E := Lib.hid (Dv.fitB_two m q s room d)
  cases hb : Dv.inB (Dv.ibd m d q s) (-room) room
  all_goals
    rw [hb] at E
    go_enter Try.func123, Try.ntmps123
    go_wp2_with fail
    refine (innerR_c m d q s _ hm hd hq hs).mono ?_
    rintro e w1 ⟨rfl, hb1⟩
    have HB := Lib.hid (((Below.refl _ _).alloc (Nat.le_refl _) _).trans (hb1.mono (by simp)))
    clear hb1
    go_wp2_with (go_at_call 80; refine (within_c _ _ _ _).mono ?_; rintro e w' ⟨rfl, rfl⟩)
    go_ret
    exact ⟨ret_bool E.out.symm, HB.out⟩

set_option maxHeartbeats 2000000 in
theorem weakenR_c (m : Mot) (q s room : Int) (N : Nat) (w : World) (hm : Dv.chk m) (hN : N ≤ 1048576) (hq : -1048576 ≤ q ∧ q ≤ 1048576) (hs : -16384 ≤ s ∧ s ≤ 16384) (hr : 0 ≤ room ∧ room ≤ 1073741824) :
    Calls Try.prog 99 #[.agg #[.int .i64 m.r, .int .i64 m.ld, .int .i64 m.lq, .int .i64 m.fx, .int .i64 m.po, .int .i64 m.mi, .int .i64 m.sp, .int .i64 m.dr, .int .i64 m.cu, .int .i64 m.fa], .int .i64 q, .int .i64 s, .int .i64 room, .int .i64 N] w fun e w' => e = .returned (.tuple #[.int .i64 (Dv.wkD (Dv.wkO m q s room N)), .bool (Dv.wkO m q s room N).isSome]) ∧ Below w.heap.size w w' := by
  have HM := Lib.hid hm
  clear hm
  go_enter Try.func99, Try.ntmps99
  go_wp2_with fail
  go_loopw [12] (fun i wr => ∃ k : Nat, k ≤ N + 1 ∧ i = .int .i64 (-(k : Int)) ∧ Hid (∀ j, j < k → Dv.fitB m q s room (-(j : Int)) = false) ∧ Hid (Blk wr w.heap.size 52 m.cs ∧ Below w.heap.size w wr)) (fun i _ => (intOf i + N + 1).toNat)
  case atStart => exact ⟨0, by omega, rfl, Lib.hid (fun j hj => absurd hj (Nat.not_lt_zero _)), Lib.hid ⟨Blk.new' _ _ _, (Below.refl _ _).alloc (Nat.le_refl _) _⟩⟩
  case round =>
    obtain ⟨k, hk, rfl, HA, HB⟩ := hrel
    obtain ⟨c0, c1, c2, c3, c4, c5, c6, c7, c8, c9⟩ := motOf HB.out.1
    by_cases hlt : k ≤ N
    · go_wp2_with fail
      refine (fitsR_c m (-(k : Int)) q s room _ HM.out (by omega) hq hs hr).mono ?_
      rintro e w1 ⟨rfl, hb1⟩
      have HB1 := Lib.hid (And.intro (HB.out.1.below hb1 HB.out.1.lt) (HB.out.2.trans (hb1.mono HB.out.2.size)))
      clear hb1 c0 c1 c2 c3 c4 c5 c6 c7 c8 c9
      cases hf : Dv.fitB m q s room (-(k : Int))
      · have HA1 : Hid (∀ j, j < k + 1 → Dv.fitB m q s room (-(j : Int)) = false) := Lib.hid (fun j hj => by
          by_cases h : j < k
          · exact HA.out j h
          · obtain rfl : j = k := by omega
            exact hf)
        clear hf
        go_wp2
        go_roundw
        case rel => exact ⟨k + 1, by omega, by go_num, HA1, HB1⟩
        case measure => simp [intOf]; omega
      · have e : Dv.wkO m q s room N = some k := Dv.wkV_some hf (fun j hj => HA.out j hj) hlt
        have E := Lib.hid e
        clear e hf
        go_wp2
        go_ret2
        exact ⟨by rw [E.out]; rfl, HB1.out.2⟩
    · have e : Dv.wkO m q s room N = none := Dv.wkV_none (fun j hj => HA.out j (by omega))
      have E := Lib.hid e
      clear e
      go_wp2
      go_ret2
      exact ⟨by rw [E.out]; rfl, HB.out.2⟩

set_option maxHeartbeats 1000000 in
theorem Weaken_no1 (m : Mot) (q s u n : Int) (w : World) (hC : Dv.chkB m = false) :
    Calls Try.prog 40 #[.agg #[.int .i64 m.r, .int .i64 m.ld, .int .i64 m.lq, .int .i64 m.fx, .int .i64 m.po, .int .i64 m.mi, .int .i64 m.sp, .int .i64 m.dr, .int .i64 m.cu, .int .i64 m.fa], .int .i64 q, .int .i64 s, .int .i64 u, .int .i64 n] w fun e w' => e = .returned (.tuple #[.int .i64 0, .int .i64 2]) ∧ Below w.heap.size w w' := by
  go_enter Try.func40, Try.ntmps40
  go_wp2_with fail
  refine (Check_no m _ hC).mono ?_
  rintro e w1 ⟨rfl, hb1⟩
  go_wp2
  go_ret2
  exact ⟨rfl, ((Below.refl _ _).alloc (Nat.le_refl _) _).trans (hb1.mono (by simp))⟩

set_option maxHeartbeats 1000000 in
theorem Weaken_no20 (m : Mot) (q s u n : Int) (w : World) (hC : Dv.chkB m = true) (g0 : upB 1048576 [q] = false) :
    Calls Try.prog 40 #[.agg #[.int .i64 m.r, .int .i64 m.ld, .int .i64 m.lq, .int .i64 m.fx, .int .i64 m.po, .int .i64 m.mi, .int .i64 m.sp, .int .i64 m.dr, .int .i64 m.cu, .int .i64 m.fa], .int .i64 q, .int .i64 s, .int .i64 u, .int .i64 n] w fun e w' => e = .returned (.tuple #[.int .i64 0, .int .i64 3]) ∧ Below w.heap.size w w' := by
  go_enter Try.func40, Try.ntmps40
  go_wp2_with fail
  refine (Check_yes m _ hC).mono ?_
  rintro e w1 ⟨rfl, hb1⟩
  have HB := Lib.hid (((Below.refl _ _).alloc (Nat.le_refl _) _).trans (hb1.mono (by simp)))
  clear hb1
  go_wp2_with (first | (go_at_call 67; (with_reducible refine (up1 _ q _ _ (by simp) (by omega) (by omega)).mono ?_); rintro e w' ⟨rfl, rfl⟩) | (go_at_call 67; (with_reducible refine (up1 _ s _ _ (by simp) (by omega) (by omega)).mono ?_); rintro e w' ⟨rfl, rfl⟩))
  go_ret2
  exact ⟨rfl, HB.out.alloc HB.out.size _⟩

set_option maxHeartbeats 1000000 in
theorem Weaken_no21 (m : Mot) (q s u n : Int) (w : World) (hC : Dv.chkB m = true) (g0 : upB 1048576 [q] = true) (g1 : upB 16384 [s] = false) :
    Calls Try.prog 40 #[.agg #[.int .i64 m.r, .int .i64 m.ld, .int .i64 m.lq, .int .i64 m.fx, .int .i64 m.po, .int .i64 m.mi, .int .i64 m.sp, .int .i64 m.dr, .int .i64 m.cu, .int .i64 m.fa], .int .i64 q, .int .i64 s, .int .i64 u, .int .i64 n] w fun e w' => e = .returned (.tuple #[.int .i64 0, .int .i64 3]) ∧ Below w.heap.size w w' := by
  go_enter Try.func40, Try.ntmps40
  go_wp2_with fail
  refine (Check_yes m _ hC).mono ?_
  rintro e w1 ⟨rfl, hb1⟩
  have HB := Lib.hid (((Below.refl _ _).alloc (Nat.le_refl _) _).trans (hb1.mono (by simp)))
  clear hb1
  go_wp2_with (first | (go_at_call 67; (with_reducible refine (up1 _ q _ _ (by simp) (by omega) (by omega)).mono ?_); rintro e w' ⟨rfl, rfl⟩) | (go_at_call 67; (with_reducible refine (up1 _ s _ _ (by simp) (by omega) (by omega)).mono ?_); rintro e w' ⟨rfl, rfl⟩))
  go_ret2
  exact ⟨rfl, (HB.out.alloc HB.out.size _).alloc (by have := HB.out.size; simp; omega) _⟩

set_option maxHeartbeats 1000000 in
theorem Weaken_no22 (m : Mot) (q s u n : Int) (w : World) (hC : Dv.chkB m = true) (g0 : upB 1048576 [q] = true) (g1 : upB 16384 [s] = true) (g2 : ¬ 1 ≤ u) :
    Calls Try.prog 40 #[.agg #[.int .i64 m.r, .int .i64 m.ld, .int .i64 m.lq, .int .i64 m.fx, .int .i64 m.po, .int .i64 m.mi, .int .i64 m.sp, .int .i64 m.dr, .int .i64 m.cu, .int .i64 m.fa], .int .i64 q, .int .i64 s, .int .i64 u, .int .i64 n] w fun e w' => e = .returned (.tuple #[.int .i64 0, .int .i64 3]) ∧ Below w.heap.size w w' := by
  go_enter Try.func40, Try.ntmps40
  go_wp2_with fail
  refine (Check_yes m _ hC).mono ?_
  rintro e w1 ⟨rfl, hb1⟩
  have HB := Lib.hid (((Below.refl _ _).alloc (Nat.le_refl _) _).trans (hb1.mono (by simp)))
  clear hb1
  go_wp2_with (first | (go_at_call 67; (with_reducible refine (up1 _ q _ _ (by simp) (by omega) (by omega)).mono ?_); rintro e w' ⟨rfl, rfl⟩) | (go_at_call 67; (with_reducible refine (up1 _ s _ _ (by simp) (by omega) (by omega)).mono ?_); rintro e w' ⟨rfl, rfl⟩))
  go_ret2
  exact ⟨rfl, (HB.out.alloc HB.out.size _).alloc (by have := HB.out.size; simp; omega) _⟩

set_option maxHeartbeats 1000000 in
theorem Weaken_no23 (m : Mot) (q s u n : Int) (w : World) (hC : Dv.chkB m = true) (g0 : upB 1048576 [q] = true) (g1 : upB 16384 [s] = true) (g2 : 1 ≤ u) (g3 : ¬ u ≤ 1073741824) :
    Calls Try.prog 40 #[.agg #[.int .i64 m.r, .int .i64 m.ld, .int .i64 m.lq, .int .i64 m.fx, .int .i64 m.po, .int .i64 m.mi, .int .i64 m.sp, .int .i64 m.dr, .int .i64 m.cu, .int .i64 m.fa], .int .i64 q, .int .i64 s, .int .i64 u, .int .i64 n] w fun e w' => e = .returned (.tuple #[.int .i64 0, .int .i64 3]) ∧ Below w.heap.size w w' := by
  go_enter Try.func40, Try.ntmps40
  go_wp2_with fail
  refine (Check_yes m _ hC).mono ?_
  rintro e w1 ⟨rfl, hb1⟩
  have HB := Lib.hid (((Below.refl _ _).alloc (Nat.le_refl _) _).trans (hb1.mono (by simp)))
  clear hb1
  go_wp2_with (first | (go_at_call 67; (with_reducible refine (up1 _ q _ _ (by simp) (by omega) (by omega)).mono ?_); rintro e w' ⟨rfl, rfl⟩) | (go_at_call 67; (with_reducible refine (up1 _ s _ _ (by simp) (by omega) (by omega)).mono ?_); rintro e w' ⟨rfl, rfl⟩))
  go_ret2
  exact ⟨rfl, (HB.out.alloc HB.out.size _).alloc (by have := HB.out.size; simp; omega) _⟩

set_option maxHeartbeats 1000000 in
theorem Weaken_no24 (m : Mot) (q s u n : Int) (w : World) (hC : Dv.chkB m = true) (g0 : upB 1048576 [q] = true) (g1 : upB 16384 [s] = true) (g2 : 1 ≤ u) (g3 : u ≤ 1073741824) (g4 : ¬ 0 ≤ n) :
    Calls Try.prog 40 #[.agg #[.int .i64 m.r, .int .i64 m.ld, .int .i64 m.lq, .int .i64 m.fx, .int .i64 m.po, .int .i64 m.mi, .int .i64 m.sp, .int .i64 m.dr, .int .i64 m.cu, .int .i64 m.fa], .int .i64 q, .int .i64 s, .int .i64 u, .int .i64 n] w fun e w' => e = .returned (.tuple #[.int .i64 0, .int .i64 3]) ∧ Below w.heap.size w w' := by
  go_enter Try.func40, Try.ntmps40
  go_wp2_with fail
  refine (Check_yes m _ hC).mono ?_
  rintro e w1 ⟨rfl, hb1⟩
  have HB := Lib.hid (((Below.refl _ _).alloc (Nat.le_refl _) _).trans (hb1.mono (by simp)))
  clear hb1
  go_wp2_with (first | (go_at_call 67; (with_reducible refine (up1 _ q _ _ (by simp) (by omega) (by omega)).mono ?_); rintro e w' ⟨rfl, rfl⟩) | (go_at_call 67; (with_reducible refine (up1 _ s _ _ (by simp) (by omega) (by omega)).mono ?_); rintro e w' ⟨rfl, rfl⟩))
  go_ret2
  exact ⟨rfl, (HB.out.alloc HB.out.size _).alloc (by have := HB.out.size; simp; omega) _⟩

set_option maxHeartbeats 1000000 in
theorem Weaken_no25 (m : Mot) (q s u n : Int) (w : World) (hC : Dv.chkB m = true) (g0 : upB 1048576 [q] = true) (g1 : upB 16384 [s] = true) (g2 : 1 ≤ u) (g3 : u ≤ 1073741824) (g4 : 0 ≤ n) (g5 : ¬ n ≤ 1048576) :
    Calls Try.prog 40 #[.agg #[.int .i64 m.r, .int .i64 m.ld, .int .i64 m.lq, .int .i64 m.fx, .int .i64 m.po, .int .i64 m.mi, .int .i64 m.sp, .int .i64 m.dr, .int .i64 m.cu, .int .i64 m.fa], .int .i64 q, .int .i64 s, .int .i64 u, .int .i64 n] w fun e w' => e = .returned (.tuple #[.int .i64 0, .int .i64 3]) ∧ Below w.heap.size w w' := by
  go_enter Try.func40, Try.ntmps40
  go_wp2_with fail
  refine (Check_yes m _ hC).mono ?_
  rintro e w1 ⟨rfl, hb1⟩
  have HB := Lib.hid (((Below.refl _ _).alloc (Nat.le_refl _) _).trans (hb1.mono (by simp)))
  clear hb1
  go_wp2_with (first | (go_at_call 67; (with_reducible refine (up1 _ q _ _ (by simp) (by omega) (by omega)).mono ?_); rintro e w' ⟨rfl, rfl⟩) | (go_at_call 67; (with_reducible refine (up1 _ s _ _ (by simp) (by omega) (by omega)).mono ?_); rintro e w' ⟨rfl, rfl⟩))
  go_ret2
  exact ⟨rfl, (HB.out.alloc HB.out.size _).alloc (by have := HB.out.size; simp; omega) _⟩

set_option maxHeartbeats 1000000 in
theorem Weaken_go (m : Mot) (q s u n : Int) (w : World) (N : Nat) (hn : n = N) (b : Bool) (hb : (Dv.wkO m q s (Dv.roomV u) N).isSome = b) (hC : Dv.chkB m = true) (g0 : upB 1048576 [q] = true) (g1 : upB 16384 [s] = true) (g2 : 1 ≤ u) (g3 : u ≤ 1073741824) (g4 : 0 ≤ (N : Int)) (g5 : (N : Int) ≤ 1048576) (hq : -1048576 ≤ q ∧ q ≤ 1048576) (hs : -16384 ≤ s ∧ s ≤ 16384) (hu : 1 ≤ u ∧ u ≤ 1073741824) (hN : N ≤ 1048576) :
    Calls Try.prog 40 #[.agg #[.int .i64 m.r, .int .i64 m.ld, .int .i64 m.lq, .int .i64 m.fx, .int .i64 m.po, .int .i64 m.mi, .int .i64 m.sp, .int .i64 m.dr, .int .i64 m.cu, .int .i64 m.fa], .int .i64 q, .int .i64 s, .int .i64 u, .int .i64 n] w fun e w' => e = .returned (.tuple #[.int .i64 (if b = true then Dv.wkD (Dv.wkO m q s (Dv.roomV u) N) else 0), .int .i64 (if b = true then 0 else 17)]) ∧ Below w.heap.size w w' := by
  subst hn
  have HK := Lib.hid (Dv.chkB_iff.1 hC)
  have hrm := Dv.roomV_bd hu
  cases b
  all_goals
    go_enter Try.func40, Try.ntmps40
    go_wp2_with fail
    refine (Check_yes m _ hC).mono ?_
    rintro e w1 ⟨rfl, hb1⟩
    have HB := Lib.hid (((Below.refl _ _).alloc (Nat.le_refl _) _).trans (hb1.mono (by simp)))
    have M1 := Lib.hid ((Blk.new' w #[.int .i64 m.r, .int .i64 m.ld, .int .i64 m.lq, .int .i64 m.fx, .int .i64 m.po, .int .i64 m.mi, .int .i64 m.sp, .int .i64 m.dr, .int .i64 m.cu, .int .i64 m.fa] 52).below hb1 (by simp))
    clear hb1
    go_wp2_with fail
    refine (up1w _ q _ _ (by simp) (by omega) (by omega)).mono ?_
    rintro e w2 ⟨rfl, hb2⟩
    have HB2 := Lib.hid (HB.out.trans (hb2.mono HB.out.size))
    have M2 := Lib.hid (M1.out.below hb2 M1.out.lt)
    clear hb2
    go_wp2_with fail
    refine (up1w _ s _ _ (by simp) (by omega) (by omega)).mono ?_
    rintro e w3 ⟨rfl, hb3⟩
    have HB3 := Lib.hid (HB2.out.trans (hb3.mono HB2.out.size))
    have M3 : Hid (Blk w3 w.heap.size 52 m.cs) := Lib.hid (M2.out.below hb3 M2.out.lt)
    clear hb3
    obtain ⟨c0, c1, c2, c3, c4, c5, c6, c7, c8, c9⟩ := motOf M3.out
    have z := M3.out.lt
    go_wp2_with fail
    refine wp_region_past (by kernel_rfl) (by kernel_rfl) ?_
    repeat (go_big_quiet_step (first | (go_at_call 96; exact past_same (room_c u _ hu)) | (go_at_call 95; exact past_below (weaken_c m q s (Dv.roomV u) N _ HK.out hN hq hs hrm))))
    refine wpQuiet_nil ?_
    intro x
    have HB4 := Lib.hid (HB3.out.trans (x.far.mono HB3.out.size))
    generalize x.w = w4 at HB4 ⊢
    clear c0 c1 c2 c3 c4 c5 c6 c7 c8 c9 z
    go_wp2
    go_ret2
    exact ⟨rfl, HB4.out⟩

set_option maxHeartbeats 1000000 in
theorem WeakenR_no1 (m : Mot) (q s u n : Int) (w : World) (hC : Dv.chkB m = false) :
    Calls Try.prog 41 #[.agg #[.int .i64 m.r, .int .i64 m.ld, .int .i64 m.lq, .int .i64 m.fx, .int .i64 m.po, .int .i64 m.mi, .int .i64 m.sp, .int .i64 m.dr, .int .i64 m.cu, .int .i64 m.fa], .int .i64 q, .int .i64 s, .int .i64 u, .int .i64 n] w fun e w' => e = .returned (.tuple #[.int .i64 0, .int .i64 2]) ∧ Below w.heap.size w w' := by
  go_enter Try.func41, Try.ntmps41
  go_wp2_with fail
  refine (CheckR_no m _ hC).mono ?_
  rintro e w1 ⟨rfl, hb1⟩
  go_wp2
  go_ret2
  exact ⟨rfl, ((Below.refl _ _).alloc (Nat.le_refl _) _).trans (hb1.mono (by simp))⟩

set_option maxHeartbeats 1000000 in
theorem WeakenR_no20 (m : Mot) (q s u n : Int) (w : World) (hC : Dv.chkB m = true) (g0 : upB 1048576 [q] = false) :
    Calls Try.prog 41 #[.agg #[.int .i64 m.r, .int .i64 m.ld, .int .i64 m.lq, .int .i64 m.fx, .int .i64 m.po, .int .i64 m.mi, .int .i64 m.sp, .int .i64 m.dr, .int .i64 m.cu, .int .i64 m.fa], .int .i64 q, .int .i64 s, .int .i64 u, .int .i64 n] w fun e w' => e = .returned (.tuple #[.int .i64 0, .int .i64 3]) ∧ Below w.heap.size w w' := by
  go_enter Try.func41, Try.ntmps41
  go_wp2_with fail
  refine (CheckR_yes m _ hC).mono ?_
  rintro e w1 ⟨rfl, hb1⟩
  have HB := Lib.hid (((Below.refl _ _).alloc (Nat.le_refl _) _).trans (hb1.mono (by simp)))
  clear hb1
  go_wp2_with (first | (go_at_call 97; refine (current_c _ _).mono ?_; rintro e w' ⟨rfl, rfl⟩) | (go_at_call 98; refine (speed_c _ _).mono ?_; rintro e w' ⟨rfl, rfl⟩) | (go_at_call 87; refine (busR_c u _).mono ?_; rintro e w' ⟨rfl, rfl⟩) | (go_at_call 80; refine (within_c _ _ _ _).mono ?_; rintro e w' ⟨rfl, rfl⟩))
  go_ret2
  exact ⟨rfl, HB.out⟩

set_option maxHeartbeats 1000000 in
theorem WeakenR_no21 (m : Mot) (q s u n : Int) (w : World) (hC : Dv.chkB m = true) (g0 : upB 1048576 [q] = true) (g1 : Dv.spE s = 3) :
    Calls Try.prog 41 #[.agg #[.int .i64 m.r, .int .i64 m.ld, .int .i64 m.lq, .int .i64 m.fx, .int .i64 m.po, .int .i64 m.mi, .int .i64 m.sp, .int .i64 m.dr, .int .i64 m.cu, .int .i64 m.fa], .int .i64 q, .int .i64 s, .int .i64 u, .int .i64 n] w fun e w' => e = .returned (.tuple #[.int .i64 0, .int .i64 3]) ∧ Below w.heap.size w w' := by
  go_enter Try.func41, Try.ntmps41
  go_wp2_with fail
  refine (CheckR_yes m _ hC).mono ?_
  rintro e w1 ⟨rfl, hb1⟩
  have HB := Lib.hid (((Below.refl _ _).alloc (Nat.le_refl _) _).trans (hb1.mono (by simp)))
  clear hb1
  go_wp2_with (first | (go_at_call 97; refine (current_c _ _).mono ?_; rintro e w' ⟨rfl, rfl⟩) | (go_at_call 98; refine (speed_c _ _).mono ?_; rintro e w' ⟨rfl, rfl⟩) | (go_at_call 87; refine (busR_c u _).mono ?_; rintro e w' ⟨rfl, rfl⟩) | (go_at_call 80; refine (within_c _ _ _ _).mono ?_; rintro e w' ⟨rfl, rfl⟩))
  go_ret2
  exact ⟨rfl, HB.out⟩

set_option maxHeartbeats 1000000 in
theorem WeakenR_no22 (m : Mot) (q s u n : Int) (w : World) (hC : Dv.chkB m = true) (g0 : upB 1048576 [q] = true) (g1 : Dv.spE s = 0) (g2 : Dv.busE u = 3) :
    Calls Try.prog 41 #[.agg #[.int .i64 m.r, .int .i64 m.ld, .int .i64 m.lq, .int .i64 m.fx, .int .i64 m.po, .int .i64 m.mi, .int .i64 m.sp, .int .i64 m.dr, .int .i64 m.cu, .int .i64 m.fa], .int .i64 q, .int .i64 s, .int .i64 u, .int .i64 n] w fun e w' => e = .returned (.tuple #[.int .i64 0, .int .i64 3]) ∧ Below w.heap.size w w' := by
  go_enter Try.func41, Try.ntmps41
  go_wp2_with fail
  refine (CheckR_yes m _ hC).mono ?_
  rintro e w1 ⟨rfl, hb1⟩
  have HB := Lib.hid (((Below.refl _ _).alloc (Nat.le_refl _) _).trans (hb1.mono (by simp)))
  clear hb1
  go_wp2_with (first | (go_at_call 97; refine (current_c _ _).mono ?_; rintro e w' ⟨rfl, rfl⟩) | (go_at_call 98; refine (speed_c _ _).mono ?_; rintro e w' ⟨rfl, rfl⟩) | (go_at_call 87; refine (busR_c u _).mono ?_; rintro e w' ⟨rfl, rfl⟩) | (go_at_call 80; refine (within_c _ _ _ _).mono ?_; rintro e w' ⟨rfl, rfl⟩))
  go_ret2
  exact ⟨rfl, HB.out⟩

set_option maxHeartbeats 1000000 in
theorem WeakenR_no23 (m : Mot) (q s u n : Int) (w : World) (hC : Dv.chkB m = true) (g0 : upB 1048576 [q] = true) (g1 : Dv.spE s = 0) (g2 : Dv.busE u = 0) (g3 : Dv.inB n 0 1048576 = false) :
    Calls Try.prog 41 #[.agg #[.int .i64 m.r, .int .i64 m.ld, .int .i64 m.lq, .int .i64 m.fx, .int .i64 m.po, .int .i64 m.mi, .int .i64 m.sp, .int .i64 m.dr, .int .i64 m.cu, .int .i64 m.fa], .int .i64 q, .int .i64 s, .int .i64 u, .int .i64 n] w fun e w' => e = .returned (.tuple #[.int .i64 0, .int .i64 3]) ∧ Below w.heap.size w w' := by
  go_enter Try.func41, Try.ntmps41
  go_wp2_with fail
  refine (CheckR_yes m _ hC).mono ?_
  rintro e w1 ⟨rfl, hb1⟩
  have HB := Lib.hid (((Below.refl _ _).alloc (Nat.le_refl _) _).trans (hb1.mono (by simp)))
  clear hb1
  go_wp2_with (first | (go_at_call 97; refine (current_c _ _).mono ?_; rintro e w' ⟨rfl, rfl⟩) | (go_at_call 98; refine (speed_c _ _).mono ?_; rintro e w' ⟨rfl, rfl⟩) | (go_at_call 87; refine (busR_c u _).mono ?_; rintro e w' ⟨rfl, rfl⟩) | (go_at_call 80; refine (within_c _ _ _ _).mono ?_; rintro e w' ⟨rfl, rfl⟩))
  go_ret2
  exact ⟨rfl, HB.out⟩

set_option maxHeartbeats 1000000 in
theorem WeakenR_go (m : Mot) (q s u n : Int) (w : World) (N : Nat) (hn : n = N) (b : Bool) (hb : (Dv.wkO m q s (Dv.roomV u) N).isSome = b) (hC : Dv.chkB m = true) (g0 : upB 1048576 [q] = true) (g1 : Dv.spE s = 0) (g2 : Dv.busE u = 0) (g3 : Dv.inB (N : Int) 0 1048576 = true) (hq : -1048576 ≤ q ∧ q ≤ 1048576) (hs : -16384 ≤ s ∧ s ≤ 16384) (hu : 1 ≤ u ∧ u ≤ 1073741824) (hN : N ≤ 1048576) :
    Calls Try.prog 41 #[.agg #[.int .i64 m.r, .int .i64 m.ld, .int .i64 m.lq, .int .i64 m.fx, .int .i64 m.po, .int .i64 m.mi, .int .i64 m.sp, .int .i64 m.dr, .int .i64 m.cu, .int .i64 m.fa], .int .i64 q, .int .i64 s, .int .i64 u, .int .i64 n] w fun e w' => e = .returned (.tuple #[.int .i64 (if b = true then Dv.wkD (Dv.wkO m q s (Dv.roomV u) N) else 0), .int .i64 (if b = true then 0 else 17)]) ∧ Below w.heap.size w w' := by
  subst hn
  have HK := Lib.hid (Dv.chkB_iff.1 hC)
  have hrm := Dv.roomV_bd hu
  have RV := Lib.hid (show Dv.RoomV u = Dv.roomV u from by simp [Dv.RoomV, Dv.busB, Dv.inB, hu.1, hu.2])
  cases b
  all_goals
    go_enter Try.func41, Try.ntmps41
    go_wp2_with fail
    refine (CheckR_yes m _ hC).mono ?_
    rintro e w1 ⟨rfl, hb1⟩
    have HB := Lib.hid (((Below.refl _ _).alloc (Nat.le_refl _) _).trans (hb1.mono (by simp)))
    obtain ⟨c0, c1, c2, c3, c4, c5, c6, c7, c8, c9⟩ := (motAt_alloc w m 52).on hb1 (by simp)
    clear hb1
    go_wp2_with (first | (go_at_call 97; refine (current_c _ _).mono ?_; rintro e w' ⟨rfl, rfl⟩) | (go_at_call 98; refine (speed_c _ _).mono ?_; rintro e w' ⟨rfl, rfl⟩) | (go_at_call 87; refine (busR_c u _).mono ?_; rintro e w' ⟨rfl, rfl⟩) | (go_at_call 80; refine (within_c _ _ _ _).mono ?_; rintro e w' ⟨rfl, rfl⟩) | (go_at_call 56; refine (RoomR_c u _).mono ?_; rintro e w' ⟨rfl, rfl⟩; rw [RV.out]))
    refine (weakenR_c m q s (Dv.roomV u) N _ HK.out hN hq hs hrm).mono ?_
    rintro e w4 ⟨rfl, hb4⟩
    have HB4 := Lib.hid (HB.out.trans (hb4.mono HB.out.size))
    clear hb4
    go_wp2
    go_ret2
    exact ⟨rfl, HB4.out⟩
end Go.Proofs.Ytcneohhfnnelgaa
