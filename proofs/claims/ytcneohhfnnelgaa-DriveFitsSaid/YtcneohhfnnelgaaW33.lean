/- Contracts of Weaken and Strongest of drive and of coulombref06. -/
import Derived.Test.YtcneohhfnnelgaaW32
namespace Go.Proofs.Ytcneohhfnnelgaa
open Go.RowKit
set_option linter.unusedVariables false

theorem Dv.wkD_if (o : Option Nat) : (if o.isSome = true then Dv.wkD o else 0) = Dv.wkD o := by cases o <;> rfl
theorem Weaken_c (m : Mot) (q s u n : Int) (w : World) :
    Calls Try.prog 40 #[.agg #[.int .i64 m.r, .int .i64 m.ld, .int .i64 m.lq, .int .i64 m.fx, .int .i64 m.po, .int .i64 m.mi, .int .i64 m.sp, .int .i64 m.dr, .int .i64 m.cu, .int .i64 m.fa], .int .i64 q, .int .i64 s, .int .i64 u, .int .i64 n] w fun e w' => e = .returned (.tuple #[.int .i64 (Dv.WeD m q s u n), .int .i64 (Dv.WeE m q s u n)]) ∧ Below w.heap.size w w' := by
  cases hC : Dv.chkB m
  · exact (Weaken_no1 m q s u n w hC).mono fun _ _ ⟨h1, h2⟩ => ⟨by rw [h1]; simp [Dv.WeD, Dv.WeE, hC], h2⟩
  · cases g0 : upB 1048576 [q]
    · exact (Weaken_no20 m q s u n w hC g0).mono fun _ _ ⟨h, h'⟩ => ⟨by rw [h]; simp [Dv.WeD, Dv.WeE, Dv.weB, hC, g0], h'⟩
    · cases gs : upB 16384 [s]
      · exact (Weaken_no21 m q s u n w hC g0 gs).mono fun _ _ ⟨h, h'⟩ => ⟨by rw [h]; simp [Dv.WeD, Dv.WeE, Dv.weB, hC, g0, gs], h'⟩
      · by_cases g2 : 1 ≤ u
        · by_cases g3 : u ≤ 1073741824
          · by_cases g4 : 0 ≤ n
            · by_cases g5 : n ≤ 1048576
              · obtain ⟨N, rfl⟩ := Int.eq_ofNat_of_zero_le g4
                have hb : Dv.weB q s u N = true := by simp [Dv.weB, Dv.busB, Dv.inB, g0, gs, g2, g3, g5]
                exact (Weaken_go m q s u N w N rfl _ rfl hC g0 gs g2 g3 g4 g5 (upB1.1 g0) (upB1.1 gs) ⟨g2, g3⟩ (by omega)).mono fun _ _ ⟨h, h'⟩ => ⟨by
                  rw [h]
                  simp only [Dv.WeD, Dv.WeE, hC, hb, if_true, Int.toNat_natCast]
                  rw [Dv.wkD_if], h'⟩
              · exact (Weaken_no25 m q s u n w hC g0 gs g2 g3 g4 g5).mono fun _ _ ⟨h, h'⟩ => ⟨by rw [h]; simp [Dv.WeD, Dv.WeE, Dv.weB, Dv.inB, hC, g5], h'⟩
            · exact (Weaken_no24 m q s u n w hC g0 gs g2 g3 g4).mono fun _ _ ⟨h, h'⟩ => ⟨by rw [h]; simp [Dv.WeD, Dv.WeE, Dv.weB, Dv.inB, hC, g4], h'⟩
          · exact (Weaken_no23 m q s u n w hC g0 gs g2 g3).mono fun _ _ ⟨h, h'⟩ => ⟨by rw [h]; simp [Dv.WeD, Dv.WeE, Dv.weB, Dv.busB, Dv.inB, hC, g3], h'⟩
        · exact (Weaken_no22 m q s u n w hC g0 gs g2).mono fun _ _ ⟨h, h'⟩ => ⟨by rw [h]; simp [Dv.WeD, Dv.WeE, Dv.weB, Dv.busB, Dv.inB, hC, g2], h'⟩

theorem WeakenR_c (m : Mot) (q s u n : Int) (w : World) :
    Calls Try.prog 41 #[.agg #[.int .i64 m.r, .int .i64 m.ld, .int .i64 m.lq, .int .i64 m.fx, .int .i64 m.po, .int .i64 m.mi, .int .i64 m.sp, .int .i64 m.dr, .int .i64 m.cu, .int .i64 m.fa], .int .i64 q, .int .i64 s, .int .i64 u, .int .i64 n] w fun e w' => e = .returned (.tuple #[.int .i64 (Dv.WeD m q s u n), .int .i64 (Dv.WeE m q s u n)]) ∧ Below w.heap.size w w' := by
  cases hC : Dv.chkB m
  · exact (WeakenR_no1 m q s u n w hC).mono fun _ _ ⟨h1, h2⟩ => ⟨by rw [h1]; simp [Dv.WeD, Dv.WeE, hC], h2⟩
  · cases g0 : upB 1048576 [q]
    · exact (WeakenR_no20 m q s u n w hC g0).mono fun _ _ ⟨h, h'⟩ => ⟨by rw [h]; simp [Dv.WeD, Dv.WeE, Dv.weB, hC, g0], h'⟩
    · cases gs : upB 16384 [s]
      · exact (WeakenR_no21 m q s u n w hC g0 (by simp [Dv.spE, gs])).mono fun _ _ ⟨h, h'⟩ => ⟨by rw [h]; simp [Dv.WeD, Dv.WeE, Dv.weB, hC, g0, gs], h'⟩
      · cases g2 : Dv.busB u
        · exact (WeakenR_no22 m q s u n w hC g0 (by simp [Dv.spE, gs]) (by simp [Dv.busE, g2])).mono fun _ _ ⟨h, h'⟩ => ⟨by rw [h]; simp [Dv.WeD, Dv.WeE, Dv.weB, hC, g2], h'⟩
        · cases g3 : Dv.inB n 0 1048576
          · exact (WeakenR_no23 m q s u n w hC g0 (by simp [Dv.spE, gs]) (by simp [Dv.busE, g2]) g3).mono fun _ _ ⟨h, h'⟩ => ⟨by rw [h]; simp [Dv.WeD, Dv.WeE, Dv.weB, hC, g3], h'⟩
          · have hn : 0 ≤ n ∧ n ≤ 1048576 := by simpa [Dv.inB] using g3
            obtain ⟨N, rfl⟩ := Int.eq_ofNat_of_zero_le hn.1
            have hb : Dv.weB q s u N = true := by simp [Dv.weB, g0, gs, g2, g3]
            exact (WeakenR_go m q s u N w N rfl _ rfl hC g0 (by simp [Dv.spE, gs]) (by simp [Dv.busE, g2]) g3 (upB1.1 g0) (upB1.1 gs) (Dv.busB_iff.1 g2) (by omega)).mono fun _ _ ⟨h, h'⟩ => ⟨by
              rw [h]
              simp only [Dv.WeD, Dv.WeE, hC, hb, if_true, Int.toNat_natCast]
              rw [Dv.wkD_if], h'⟩

namespace Dv
/-- the greatest current, counted down from N -/
def srOk (m : Mot) (s room : Int) (N : Nat) (j : Nat) : Bool := match wkO m ((N : Int) - j) s room N with
  | some n => decide (-(n : Int) * -(n : Int) + ((N : Int) - j) * ((N : Int) - j) ≤ (N : Int) * N)
  | none => false
def srO (m : Mot) (s room : Int) (N : Nat) : Option Nat := wkV (srOk m s room N) N
def sr1 (N : Nat) (o : Option Nat) : Int := match o with | some j => (N : Int) - j | none => 0
def sr2 (m : Mot) (s room : Int) (N : Nat) (o : Option Nat) : Int := match o with | some j => wkD (wkO m ((N : Int) - j) s room N) | none => 0
def srE (o : Option Nat) : Int := match o with | some _ => 0 | none => 17
def srB (s u n : Int) : Bool := upB 16384 [s] && (busB u && inB n 0 1048576)
def SrQ (m : Mot) (s u n : Int) : Int := if chkB m = true then (if srB s u n = true then sr1 n.toNat (srO m s (roomV u) n.toNat) else 0) else 0
def SrD (m : Mot) (s u n : Int) : Int := if chkB m = true then (if srB s u n = true then sr2 m s (roomV u) n.toNat (srO m s (roomV u) n.toNat) else 0) else 0
def SrE (m : Mot) (s u n : Int) : Int := if chkB m = true then (if srB s u n = true then srE (srO m s (roomV u) n.toNat) else 3) else 2
theorem wkD_bd {m : Mot} {q s room : Int} {N n : Nat} (h : wkO m q s room N = some n) : n ≤ N := (wkV_spec h).2.1
theorem srOk_some {m : Mot} {s room : Int} {N j n : Nat} (h : wkO m ((N : Int) - j) s room N = some n) : srOk m s room N j = decide (-(n : Int) * -(n : Int) + ((N : Int) - j) * ((N : Int) - j) ≤ (N : Int) * N) := by unfold srOk; rw [h]
theorem srOk_none {m : Mot} {s room : Int} {N j : Nat} (h : wkO m ((N : Int) - j) s room N = none) : srOk m s room N j = false := by unfold srOk; rw [h]
end Dv

set_option maxHeartbeats 2000000 in
set_option maxRecDepth 100000 in
theorem Strongest_no1 (m : Mot) (s u n : Int) (w : World) (hC : Dv.chkB m = false) :
    Calls Try.prog 42 #[.agg #[.int .i64 m.r, .int .i64 m.ld, .int .i64 m.lq, .int .i64 m.fx, .int .i64 m.po, .int .i64 m.mi, .int .i64 m.sp, .int .i64 m.dr, .int .i64 m.cu, .int .i64 m.fa], .int .i64 s, .int .i64 u, .int .i64 n] w fun e w' => e = .returned (.tuple #[.int .i64 0, .int .i64 0, .int .i64 2]) ∧ Below w.heap.size w w' := by
  go_enter Try.func42, Try.ntmps42
  go_wp2_with fail
  refine (Check_no m _ hC).mono ?_
  rintro e w1 ⟨rfl, hb1⟩
  go_wp2
  go_ret3
  exact ⟨rfl, ((Below.refl _ _).alloc (Nat.le_refl _) _).trans (hb1.mono (by simp))⟩

set_option maxHeartbeats 2000000 in
set_option maxRecDepth 100000 in
theorem Strongest_no20 (m : Mot) (s u n : Int) (w : World) (hC : Dv.chkB m = true) (g0 : upB 16384 [s] = false) :
    Calls Try.prog 42 #[.agg #[.int .i64 m.r, .int .i64 m.ld, .int .i64 m.lq, .int .i64 m.fx, .int .i64 m.po, .int .i64 m.mi, .int .i64 m.sp, .int .i64 m.dr, .int .i64 m.cu, .int .i64 m.fa], .int .i64 s, .int .i64 u, .int .i64 n] w fun e w' => e = .returned (.tuple #[.int .i64 0, .int .i64 0, .int .i64 3]) ∧ Below w.heap.size w w' := by
  go_enter Try.func42, Try.ntmps42
  go_wp2_with fail
  refine (Check_yes m _ hC).mono ?_
  rintro e w1 ⟨rfl, hb1⟩
  have HB := Lib.hid (((Below.refl _ _).alloc (Nat.le_refl _) _).trans (hb1.mono (by simp)))
  clear hb1
  go_wp2_with (go_at_call 67; refine (up1 _ s _ _ (by simp) (by omega) (by omega)).mono ?_; rintro e w' ⟨rfl, rfl⟩)
  go_ret3
  exact ⟨rfl, HB.out.alloc HB.out.size _⟩

set_option maxHeartbeats 2000000 in
set_option maxRecDepth 100000 in
theorem Strongest_no21 (m : Mot) (s u n : Int) (w : World) (hC : Dv.chkB m = true) (g0 : upB 16384 [s] = true) (g1 : ¬ 1 ≤ u) :
    Calls Try.prog 42 #[.agg #[.int .i64 m.r, .int .i64 m.ld, .int .i64 m.lq, .int .i64 m.fx, .int .i64 m.po, .int .i64 m.mi, .int .i64 m.sp, .int .i64 m.dr, .int .i64 m.cu, .int .i64 m.fa], .int .i64 s, .int .i64 u, .int .i64 n] w fun e w' => e = .returned (.tuple #[.int .i64 0, .int .i64 0, .int .i64 3]) ∧ Below w.heap.size w w' := by
  go_enter Try.func42, Try.ntmps42
  go_wp2_with fail
  refine (Check_yes m _ hC).mono ?_
  rintro e w1 ⟨rfl, hb1⟩
  have HB := Lib.hid (((Below.refl _ _).alloc (Nat.le_refl _) _).trans (hb1.mono (by simp)))
  clear hb1
  go_wp2_with (go_at_call 67; refine (up1 _ s _ _ (by simp) (by omega) (by omega)).mono ?_; rintro e w' ⟨rfl, rfl⟩)
  go_ret3
  exact ⟨rfl, HB.out.alloc HB.out.size _⟩

set_option maxHeartbeats 2000000 in
set_option maxRecDepth 100000 in
theorem Strongest_no22 (m : Mot) (s u n : Int) (w : World) (hC : Dv.chkB m = true) (g0 : upB 16384 [s] = true) (g1 : 1 ≤ u) (g2 : ¬ u ≤ 1073741824) :
    Calls Try.prog 42 #[.agg #[.int .i64 m.r, .int .i64 m.ld, .int .i64 m.lq, .int .i64 m.fx, .int .i64 m.po, .int .i64 m.mi, .int .i64 m.sp, .int .i64 m.dr, .int .i64 m.cu, .int .i64 m.fa], .int .i64 s, .int .i64 u, .int .i64 n] w fun e w' => e = .returned (.tuple #[.int .i64 0, .int .i64 0, .int .i64 3]) ∧ Below w.heap.size w w' := by
  go_enter Try.func42, Try.ntmps42
  go_wp2_with fail
  refine (Check_yes m _ hC).mono ?_
  rintro e w1 ⟨rfl, hb1⟩
  have HB := Lib.hid (((Below.refl _ _).alloc (Nat.le_refl _) _).trans (hb1.mono (by simp)))
  clear hb1
  go_wp2_with (go_at_call 67; refine (up1 _ s _ _ (by simp) (by omega) (by omega)).mono ?_; rintro e w' ⟨rfl, rfl⟩)
  go_ret3
  exact ⟨rfl, HB.out.alloc HB.out.size _⟩

set_option maxHeartbeats 2000000 in
set_option maxRecDepth 100000 in
theorem Strongest_no23 (m : Mot) (s u n : Int) (w : World) (hC : Dv.chkB m = true) (g0 : upB 16384 [s] = true) (g1 : 1 ≤ u) (g2 : u ≤ 1073741824) (g3 : ¬ 0 ≤ n) :
    Calls Try.prog 42 #[.agg #[.int .i64 m.r, .int .i64 m.ld, .int .i64 m.lq, .int .i64 m.fx, .int .i64 m.po, .int .i64 m.mi, .int .i64 m.sp, .int .i64 m.dr, .int .i64 m.cu, .int .i64 m.fa], .int .i64 s, .int .i64 u, .int .i64 n] w fun e w' => e = .returned (.tuple #[.int .i64 0, .int .i64 0, .int .i64 3]) ∧ Below w.heap.size w w' := by
  go_enter Try.func42, Try.ntmps42
  go_wp2_with fail
  refine (Check_yes m _ hC).mono ?_
  rintro e w1 ⟨rfl, hb1⟩
  have HB := Lib.hid (((Below.refl _ _).alloc (Nat.le_refl _) _).trans (hb1.mono (by simp)))
  clear hb1
  go_wp2_with (go_at_call 67; refine (up1 _ s _ _ (by simp) (by omega) (by omega)).mono ?_; rintro e w' ⟨rfl, rfl⟩)
  go_ret3
  exact ⟨rfl, HB.out.alloc HB.out.size _⟩

set_option maxHeartbeats 2000000 in
set_option maxRecDepth 100000 in
theorem Strongest_no24 (m : Mot) (s u n : Int) (w : World) (hC : Dv.chkB m = true) (g0 : upB 16384 [s] = true) (g1 : 1 ≤ u) (g2 : u ≤ 1073741824) (g3 : 0 ≤ n) (g4 : ¬ n ≤ 1048576) :
    Calls Try.prog 42 #[.agg #[.int .i64 m.r, .int .i64 m.ld, .int .i64 m.lq, .int .i64 m.fx, .int .i64 m.po, .int .i64 m.mi, .int .i64 m.sp, .int .i64 m.dr, .int .i64 m.cu, .int .i64 m.fa], .int .i64 s, .int .i64 u, .int .i64 n] w fun e w' => e = .returned (.tuple #[.int .i64 0, .int .i64 0, .int .i64 3]) ∧ Below w.heap.size w w' := by
  go_enter Try.func42, Try.ntmps42
  go_wp2_with fail
  refine (Check_yes m _ hC).mono ?_
  rintro e w1 ⟨rfl, hb1⟩
  have HB := Lib.hid (((Below.refl _ _).alloc (Nat.le_refl _) _).trans (hb1.mono (by simp)))
  clear hb1
  go_wp2_with (go_at_call 67; refine (up1 _ s _ _ (by simp) (by omega) (by omega)).mono ?_; rintro e w' ⟨rfl, rfl⟩)
  go_ret3
  exact ⟨rfl, HB.out.alloc HB.out.size _⟩

set_option maxHeartbeats 2000000 in
set_option maxRecDepth 100000 in
theorem Strongest_go (m : Mot) (s u n : Int) (w : World) (N : Nat) (hn : n = N) (hC : Dv.chkB m = true) (g0 : upB 16384 [s] = true) (g1 : 1 ≤ u) (g2 : u ≤ 1073741824) (g3 : 0 ≤ (N : Int)) (g4 : (N : Int) ≤ 1048576) (hs : -16384 ≤ s ∧ s ≤ 16384) (hu : 1 ≤ u ∧ u ≤ 1073741824) (hN : N ≤ 1048576) :
    Calls Try.prog 42 #[.agg #[.int .i64 m.r, .int .i64 m.ld, .int .i64 m.lq, .int .i64 m.fx, .int .i64 m.po, .int .i64 m.mi, .int .i64 m.sp, .int .i64 m.dr, .int .i64 m.cu, .int .i64 m.fa], .int .i64 s, .int .i64 u, .int .i64 n] w fun e w' => e = .returned (.tuple #[.int .i64 (Dv.sr1 N (Dv.srO m s (Dv.roomV u) N)), .int .i64 (Dv.sr2 m s (Dv.roomV u) N (Dv.srO m s (Dv.roomV u) N)), .int .i64 (Dv.srE (Dv.srO m s (Dv.roomV u) N))]) ∧ Below w.heap.size w w' := by
  subst hn
  have HK := Lib.hid (Dv.chkB_iff.1 hC)
  have hrm := Dv.roomV_bd hu
  have hNN := Dv.mul_bd (x := (N : Int)) (y := (N : Int)) 1048576 1048576 (by omega) (by omega)
  go_enter Try.func42, Try.ntmps42
  go_wp2_with fail
  refine (Check_yes m _ hC).mono ?_
  rintro e w1 ⟨rfl, hb1⟩
  have HB := Lib.hid (((Below.refl _ _).alloc (Nat.le_refl _) _).trans (hb1.mono (by simp)))
  have M1 := Lib.hid ((Blk.new' w #[.int .i64 m.r, .int .i64 m.ld, .int .i64 m.lq, .int .i64 m.fx, .int .i64 m.po, .int .i64 m.mi, .int .i64 m.sp, .int .i64 m.dr, .int .i64 m.cu, .int .i64 m.fa] 52).below hb1 (by simp))
  clear hb1
  go_wp2_with fail
  refine (up1w _ s _ _ (by simp) (by omega) (by omega)).mono ?_
  rintro e w2 ⟨rfl, hb2⟩
  have HB2 := Lib.hid (HB.out.trans (hb2.mono HB.out.size))
  have M2 : Hid (Blk w2 w.heap.size 52 m.cs) := Lib.hid (M1.out.below hb2 M1.out.lt)
  clear hb2
  go_wp2_with fail
  go_loopw [12] (fun i wr => ∃ k : Nat, k ≤ N + 1 ∧ i = .int .i64 ((N : Int) - k) ∧ Hid (∀ j, j < k → Dv.srOk m s (Dv.roomV u) N j = false) ∧ Hid (Blk wr w.heap.size 52 m.cs ∧ Below w.heap.size w wr)) (fun i _ => (intOf i + 1).toNat)
  case atStart => exact ⟨0, by omega, by go_num, Lib.hid (fun j hj => absurd hj (Nat.not_lt_zero _)), Lib.hid ⟨M2.out, HB2.out⟩⟩
  case round =>
    obtain ⟨k, hk, rfl, HA, HB9⟩ := hrel
    obtain ⟨c0, c1, c2, c3, c4, c5, c6, c7, c8, c9⟩ := motOf HB9.out.1
    have z := HB9.out.1.lt
    by_cases hlt : k ≤ N
    · go_wp2_with fail
      refine wp_region_past (by kernel_rfl) (by kernel_rfl) ?_
      repeat (go_big_quiet_step (first | (go_at_call 96; exact past_same (room_c u _ hu)) | (go_at_call 95; exact past_below (weaken_c m ((N : Int) - k) s (Dv.roomV u) N _ HK.out hN (by omega) hs hrm))))
      refine wpQuiet_nil ?_
      intro x
      have HB1 := Lib.hid (And.intro (HB9.out.1.below x.far HB9.out.1.lt) (HB9.out.2.trans (x.far.mono HB9.out.2.size)))
      generalize x.w = w4 at HB1 ⊢
      clear c0 c1 c2 c3 c4 c5 c6 c7 c8 c9 z
      cases ho : Dv.wkO m ((N : Int) - k) s (Dv.roomV u) N with
      | none =>
        have HA1 : Hid (∀ j, j < k + 1 → Dv.srOk m s (Dv.roomV u) N j = false) := Lib.hid (fun j hj => by
          by_cases h : j < k
          · exact HA.out j h
          · obtain rfl : j = k := by omega
            exact Dv.srOk_none ho)
        have HO := Lib.hid ho
        clear ho
        simp only [Option.isSome_none, Dv.wkD]
        go_wp2
        go_roundw
        case rel => exact ⟨k + 1, by omega, by go_num, HA1, HB1⟩
        case measure => simp [intOf]; omega
      | some n =>
        have hnN := Dv.wkD_bd ho
        have hnn := Dv.mul_bd (x := -(n : Int)) (y := -(n : Int)) 1048576 1048576 (by omega) (by omega)
        have hqq := Dv.mul_bd (x := (N : Int) - k) (y := (N : Int) - k) 1048576 1048576 (by omega) (by omega)
        have HSO := Lib.hid (Dv.srOk_some ho)
        by_cases hle : -(n : Int) * -(n : Int) + ((N : Int) - k) * ((N : Int) - k) ≤ (N : Int) * N
        · have e : Dv.srO m s (Dv.roomV u) N = some k := Dv.wkV_some (by rw [HSO.out]; simpa using hle) (fun j hj => HA.out j hj) hlt
          have E := Lib.hid (show Dv.sr1 N (Dv.srO m s (Dv.roomV u) N) = (N : Int) - k ∧ Dv.sr2 m s (Dv.roomV u) N (Dv.srO m s (Dv.roomV u) N) = -(n : Int) ∧ Dv.srE (Dv.srO m s (Dv.roomV u) N) = 0 from by rw [e]; exact ⟨rfl, by simp only [Dv.sr2]; rw [ho]; rfl, rfl⟩)
          clear e ho
          simp only [Option.isSome_some, Dv.wkD]
          go_wp2
          go_ret3
          exact ⟨by rw [E.out.1, E.out.2.1, E.out.2.2]; rfl, HB1.out.2⟩
        · have HA1 : Hid (∀ j, j < k + 1 → Dv.srOk m s (Dv.roomV u) N j = false) := Lib.hid (fun j hj => by
            by_cases h : j < k
            · exact HA.out j h
            · obtain rfl : j = k := by omega
              rw [HSO.out]; simpa using hle)
          clear ho
          simp only [Option.isSome_some, Dv.wkD]
          go_wp2
          go_roundw
          case rel => exact ⟨k + 1, by omega, by go_num, HA1, HB1⟩
          case measure => simp [intOf]; omega
    · have e : Dv.srO m s (Dv.roomV u) N = none := Dv.wkV_none (fun j hj => HA.out j (by omega))
      have E := Lib.hid e
      clear e
      go_wp2
      go_ret3
      exact ⟨by rw [E.out]; rfl, HB9.out.2⟩

set_option maxHeartbeats 2000000 in
set_option maxRecDepth 100000 in
theorem StrongestR_no1 (m : Mot) (s u n : Int) (w : World) (hC : Dv.chkB m = false) :
    Calls Try.prog 43 #[.agg #[.int .i64 m.r, .int .i64 m.ld, .int .i64 m.lq, .int .i64 m.fx, .int .i64 m.po, .int .i64 m.mi, .int .i64 m.sp, .int .i64 m.dr, .int .i64 m.cu, .int .i64 m.fa], .int .i64 s, .int .i64 u, .int .i64 n] w fun e w' => e = .returned (.tuple #[.int .i64 0, .int .i64 0, .int .i64 2]) ∧ Below w.heap.size w w' := by
  go_enter Try.func43, Try.ntmps43
  go_wp2_with fail
  refine (CheckR_no m _ hC).mono ?_
  rintro e w1 ⟨rfl, hb1⟩
  go_wp2
  go_ret3
  exact ⟨rfl, ((Below.refl _ _).alloc (Nat.le_refl _) _).trans (hb1.mono (by simp))⟩

set_option maxHeartbeats 2000000 in
set_option maxRecDepth 100000 in
theorem StrongestR_no20 (m : Mot) (s u n : Int) (w : World) (hC : Dv.chkB m = true) (g0 : Dv.spE s = 3) :
    Calls Try.prog 43 #[.agg #[.int .i64 m.r, .int .i64 m.ld, .int .i64 m.lq, .int .i64 m.fx, .int .i64 m.po, .int .i64 m.mi, .int .i64 m.sp, .int .i64 m.dr, .int .i64 m.cu, .int .i64 m.fa], .int .i64 s, .int .i64 u, .int .i64 n] w fun e w' => e = .returned (.tuple #[.int .i64 0, .int .i64 0, .int .i64 3]) ∧ Below w.heap.size w w' := by
  go_enter Try.func43, Try.ntmps43
  go_wp2_with fail
  refine (CheckR_yes m _ hC).mono ?_
  rintro e w1 ⟨rfl, hb1⟩
  have HB := Lib.hid (((Below.refl _ _).alloc (Nat.le_refl _) _).trans (hb1.mono (by simp)))
  clear hb1
  go_wp2_with (first | (go_at_call 98; refine (speed_c _ _).mono ?_; rintro e w' ⟨rfl, rfl⟩) | (go_at_call 87; refine (busR_c u _).mono ?_; rintro e w' ⟨rfl, rfl⟩) | (go_at_call 80; refine (within_c _ _ _ _).mono ?_; rintro e w' ⟨rfl, rfl⟩))
  go_ret3
  exact ⟨rfl, HB.out⟩

set_option maxHeartbeats 2000000 in
set_option maxRecDepth 100000 in
theorem StrongestR_no21 (m : Mot) (s u n : Int) (w : World) (hC : Dv.chkB m = true) (g0 : Dv.spE s = 0) (g1 : Dv.busE u = 3) :
    Calls Try.prog 43 #[.agg #[.int .i64 m.r, .int .i64 m.ld, .int .i64 m.lq, .int .i64 m.fx, .int .i64 m.po, .int .i64 m.mi, .int .i64 m.sp, .int .i64 m.dr, .int .i64 m.cu, .int .i64 m.fa], .int .i64 s, .int .i64 u, .int .i64 n] w fun e w' => e = .returned (.tuple #[.int .i64 0, .int .i64 0, .int .i64 3]) ∧ Below w.heap.size w w' := by
  go_enter Try.func43, Try.ntmps43
  go_wp2_with fail
  refine (CheckR_yes m _ hC).mono ?_
  rintro e w1 ⟨rfl, hb1⟩
  have HB := Lib.hid (((Below.refl _ _).alloc (Nat.le_refl _) _).trans (hb1.mono (by simp)))
  clear hb1
  go_wp2_with (first | (go_at_call 98; refine (speed_c _ _).mono ?_; rintro e w' ⟨rfl, rfl⟩) | (go_at_call 87; refine (busR_c u _).mono ?_; rintro e w' ⟨rfl, rfl⟩) | (go_at_call 80; refine (within_c _ _ _ _).mono ?_; rintro e w' ⟨rfl, rfl⟩))
  go_ret3
  exact ⟨rfl, HB.out⟩

set_option maxHeartbeats 2000000 in
set_option maxRecDepth 100000 in
theorem StrongestR_no22 (m : Mot) (s u n : Int) (w : World) (hC : Dv.chkB m = true) (g0 : Dv.spE s = 0) (g1 : Dv.busE u = 0) (g2 : Dv.inB n 0 1048576 = false) :
    Calls Try.prog 43 #[.agg #[.int .i64 m.r, .int .i64 m.ld, .int .i64 m.lq, .int .i64 m.fx, .int .i64 m.po, .int .i64 m.mi, .int .i64 m.sp, .int .i64 m.dr, .int .i64 m.cu, .int .i64 m.fa], .int .i64 s, .int .i64 u, .int .i64 n] w fun e w' => e = .returned (.tuple #[.int .i64 0, .int .i64 0, .int .i64 3]) ∧ Below w.heap.size w w' := by
  go_enter Try.func43, Try.ntmps43
  go_wp2_with fail
  refine (CheckR_yes m _ hC).mono ?_
  rintro e w1 ⟨rfl, hb1⟩
  have HB := Lib.hid (((Below.refl _ _).alloc (Nat.le_refl _) _).trans (hb1.mono (by simp)))
  clear hb1
  go_wp2_with (first | (go_at_call 98; refine (speed_c _ _).mono ?_; rintro e w' ⟨rfl, rfl⟩) | (go_at_call 87; refine (busR_c u _).mono ?_; rintro e w' ⟨rfl, rfl⟩) | (go_at_call 80; refine (within_c _ _ _ _).mono ?_; rintro e w' ⟨rfl, rfl⟩))
  go_ret3
  exact ⟨rfl, HB.out⟩

set_option maxHeartbeats 2000000 in
set_option maxRecDepth 100000 in
theorem StrongestR_go (m : Mot) (s u n : Int) (w : World) (N : Nat) (hn : n = N) (hC : Dv.chkB m = true) (g0 : Dv.spE s = 0) (g1 : Dv.busE u = 0) (g2 : Dv.inB (N : Int) 0 1048576 = true) (hs : -16384 ≤ s ∧ s ≤ 16384) (hu : 1 ≤ u ∧ u ≤ 1073741824) (hN : N ≤ 1048576) :
    Calls Try.prog 43 #[.agg #[.int .i64 m.r, .int .i64 m.ld, .int .i64 m.lq, .int .i64 m.fx, .int .i64 m.po, .int .i64 m.mi, .int .i64 m.sp, .int .i64 m.dr, .int .i64 m.cu, .int .i64 m.fa], .int .i64 s, .int .i64 u, .int .i64 n] w fun e w' => e = .returned (.tuple #[.int .i64 (Dv.sr1 N (Dv.srO m s (Dv.roomV u) N)), .int .i64 (Dv.sr2 m s (Dv.roomV u) N (Dv.srO m s (Dv.roomV u) N)), .int .i64 (Dv.srE (Dv.srO m s (Dv.roomV u) N))]) ∧ Below w.heap.size w w' := by
  subst hn
  have HK := Lib.hid (Dv.chkB_iff.1 hC)
  have hrm := Dv.roomV_bd hu
  have hNN := Dv.mul_bd (x := (N : Int)) (y := (N : Int)) 1048576 1048576 (by omega) (by omega)
  go_enter Try.func43, Try.ntmps43
  go_wp2_with fail
  refine (CheckR_yes m _ hC).mono ?_
  rintro e w1 ⟨rfl, hb1⟩
  have HB := Lib.hid (((Below.refl _ _).alloc (Nat.le_refl _) _).trans (hb1.mono (by simp)))
  have M1 := Lib.hid ((Blk.new' w #[.int .i64 m.r, .int .i64 m.ld, .int .i64 m.lq, .int .i64 m.fx, .int .i64 m.po, .int .i64 m.mi, .int .i64 m.sp, .int .i64 m.dr, .int .i64 m.cu, .int .i64 m.fa] 52).below hb1 (by simp))
  clear hb1
  have M2 : Hid (Blk w1 w.heap.size 52 m.cs) := M1
  have RV := Lib.hid (show Dv.RoomV u = Dv.roomV u from by simp [Dv.RoomV, Dv.busB, Dv.inB, hu.1, hu.2])
  go_wp2_with (first | (go_at_call 98; refine (speed_c _ _).mono ?_; rintro e w' ⟨rfl, rfl⟩) | (go_at_call 87; refine (busR_c u _).mono ?_; rintro e w' ⟨rfl, rfl⟩) | (go_at_call 80; refine (within_c _ _ _ _).mono ?_; rintro e w' ⟨rfl, rfl⟩) | (go_at_call 56; refine (RoomR_c u _).mono ?_; rintro e w' ⟨rfl, rfl⟩; rw [RV.out]))
  go_loopw [13] (fun i wr => ∃ k : Nat, k ≤ N + 1 ∧ i = .int .i64 ((N : Int) - k) ∧ Hid (∀ j, j < k → Dv.srOk m s (Dv.roomV u) N j = false) ∧ Hid (Blk wr w.heap.size 52 m.cs ∧ Below w.heap.size w wr)) (fun i _ => (intOf i + 1).toNat)
  case atStart => exact ⟨0, by omega, by go_num, Lib.hid (fun j hj => absurd hj (Nat.not_lt_zero _)), Lib.hid ⟨M2.out, HB.out⟩⟩
  case round =>
    obtain ⟨k, hk, rfl, HA, HB9⟩ := hrel
    obtain ⟨c0, c1, c2, c3, c4, c5, c6, c7, c8, c9⟩ := motOf HB9.out.1
    have z := HB9.out.1.lt
    by_cases hlt : k ≤ N
    · go_wp2_with fail
      refine (weakenR_c m ((N : Int) - k) s (Dv.roomV u) N _ HK.out hN (by omega) hs hrm).mono ?_
      rintro e w4 ⟨rfl, hb4⟩
      have HB1 := Lib.hid (And.intro (HB9.out.1.below hb4 HB9.out.1.lt) (HB9.out.2.trans (hb4.mono HB9.out.2.size)))
      clear hb4
      clear c0 c1 c2 c3 c4 c5 c6 c7 c8 c9 z
      cases ho : Dv.wkO m ((N : Int) - k) s (Dv.roomV u) N with
      | none =>
        have HA1 : Hid (∀ j, j < k + 1 → Dv.srOk m s (Dv.roomV u) N j = false) := Lib.hid (fun j hj => by
          by_cases h : j < k
          · exact HA.out j h
          · obtain rfl : j = k := by omega
            exact Dv.srOk_none ho)
        have HO := Lib.hid ho
        clear ho
        simp only [Option.isSome_none, Dv.wkD]
        go_wp2
        go_roundw
        case rel => exact ⟨k + 1, by omega, by go_num, HA1, HB1⟩
        case measure => simp [intOf]; omega
      | some n =>
        have hnN := Dv.wkD_bd ho
        have hnn := Dv.mul_bd (x := -(n : Int)) (y := -(n : Int)) 1048576 1048576 (by omega) (by omega)
        have hqq := Dv.mul_bd (x := (N : Int) - k) (y := (N : Int) - k) 1048576 1048576 (by omega) (by omega)
        have HSO := Lib.hid (Dv.srOk_some ho)
        by_cases hle : -(n : Int) * -(n : Int) + ((N : Int) - k) * ((N : Int) - k) ≤ (N : Int) * N
        · have e : Dv.srO m s (Dv.roomV u) N = some k := Dv.wkV_some (by rw [HSO.out]; simpa using hle) (fun j hj => HA.out j hj) hlt
          have E := Lib.hid (show Dv.sr1 N (Dv.srO m s (Dv.roomV u) N) = (N : Int) - k ∧ Dv.sr2 m s (Dv.roomV u) N (Dv.srO m s (Dv.roomV u) N) = -(n : Int) ∧ Dv.srE (Dv.srO m s (Dv.roomV u) N) = 0 from by rw [e]; exact ⟨rfl, by simp only [Dv.sr2]; rw [ho]; rfl, rfl⟩)
          clear e ho
          simp only [Option.isSome_some, Dv.wkD]
          go_wp2
          go_ret3
          exact ⟨by rw [E.out.1, E.out.2.1, E.out.2.2]; rfl, HB1.out.2⟩
        · have HA1 : Hid (∀ j, j < k + 1 → Dv.srOk m s (Dv.roomV u) N j = false) := Lib.hid (fun j hj => by
            by_cases h : j < k
            · exact HA.out j h
            · obtain rfl : j = k := by omega
              rw [HSO.out]; simpa using hle)
          clear ho
          simp only [Option.isSome_some, Dv.wkD]
          go_wp2
          go_roundw
          case rel => exact ⟨k + 1, by omega, by go_num, HA1, HB1⟩
          case measure => simp [intOf]; omega
    · have e : Dv.srO m s (Dv.roomV u) N = none := Dv.wkV_none (fun j hj => HA.out j (by omega))
      have E := Lib.hid e
      clear e
      go_wp2
      go_ret3
      exact ⟨by rw [E.out]; rfl, HB9.out.2⟩

theorem Strongest_c (m : Mot) (s u n : Int) (w : World) :
    Calls Try.prog 42 #[.agg #[.int .i64 m.r, .int .i64 m.ld, .int .i64 m.lq, .int .i64 m.fx, .int .i64 m.po, .int .i64 m.mi, .int .i64 m.sp, .int .i64 m.dr, .int .i64 m.cu, .int .i64 m.fa], .int .i64 s, .int .i64 u, .int .i64 n] w fun e w' => e = .returned (.tuple #[.int .i64 (Dv.SrQ m s u n), .int .i64 (Dv.SrD m s u n), .int .i64 (Dv.SrE m s u n)]) ∧ Below w.heap.size w w' := by
  cases hC : Dv.chkB m
  · exact (Strongest_no1 m s u n w hC).mono fun _ _ ⟨h1, h2⟩ => ⟨by rw [h1]; simp [Dv.SrQ, Dv.SrD, Dv.SrE, hC], h2⟩
  · cases gs : upB 16384 [s]
    · exact (Strongest_no20 m s u n w hC gs).mono fun _ _ ⟨h, h'⟩ => ⟨by rw [h]; simp [Dv.SrQ, Dv.SrD, Dv.SrE, Dv.srB, hC, gs], h'⟩
    · by_cases g2 : 1 ≤ u
      · by_cases g3 : u ≤ 1073741824
        · by_cases g4 : 0 ≤ n
          · by_cases g5 : n ≤ 1048576
            · obtain ⟨N, rfl⟩ := Int.eq_ofNat_of_zero_le g4
              have hb : Dv.srB s u N = true := by simp [Dv.srB, Dv.busB, Dv.inB, gs, g2, g3, g5]
              exact (Strongest_go m s u N w N rfl hC gs g2 g3 g4 g5 (upB1.1 gs) ⟨g2, g3⟩ (by omega)).mono fun _ _ ⟨h, h'⟩ => ⟨by
                rw [h]
                simp only [Dv.SrQ, Dv.SrD, Dv.SrE, hC, hb, if_true, Int.toNat_natCast], h'⟩
            · exact (Strongest_no24 m s u n w hC gs g2 g3 g4 g5).mono fun _ _ ⟨h, h'⟩ => ⟨by rw [h]; simp [Dv.SrQ, Dv.SrD, Dv.SrE, Dv.srB, Dv.inB, hC, g5], h'⟩
          · exact (Strongest_no23 m s u n w hC gs g2 g3 g4).mono fun _ _ ⟨h, h'⟩ => ⟨by rw [h]; simp [Dv.SrQ, Dv.SrD, Dv.SrE, Dv.srB, Dv.inB, hC, g4], h'⟩
        · exact (Strongest_no22 m s u n w hC gs g2 g3).mono fun _ _ ⟨h, h'⟩ => ⟨by rw [h]; simp [Dv.SrQ, Dv.SrD, Dv.SrE, Dv.srB, Dv.busB, Dv.inB, hC, g3], h'⟩
      · exact (Strongest_no21 m s u n w hC gs g2).mono fun _ _ ⟨h, h'⟩ => ⟨by rw [h]; simp [Dv.SrQ, Dv.SrD, Dv.SrE, Dv.srB, Dv.busB, Dv.inB, hC, g2], h'⟩

theorem StrongestR_c (m : Mot) (s u n : Int) (w : World) :
    Calls Try.prog 43 #[.agg #[.int .i64 m.r, .int .i64 m.ld, .int .i64 m.lq, .int .i64 m.fx, .int .i64 m.po, .int .i64 m.mi, .int .i64 m.sp, .int .i64 m.dr, .int .i64 m.cu, .int .i64 m.fa], .int .i64 s, .int .i64 u, .int .i64 n] w fun e w' => e = .returned (.tuple #[.int .i64 (Dv.SrQ m s u n), .int .i64 (Dv.SrD m s u n), .int .i64 (Dv.SrE m s u n)]) ∧ Below w.heap.size w w' := by
  cases hC : Dv.chkB m
  · exact (StrongestR_no1 m s u n w hC).mono fun _ _ ⟨h1, h2⟩ => ⟨by rw [h1]; simp [Dv.SrQ, Dv.SrD, Dv.SrE, hC], h2⟩
  · cases gs : upB 16384 [s]
    · exact (StrongestR_no20 m s u n w hC (by simp [Dv.spE, gs])).mono fun _ _ ⟨h, h'⟩ => ⟨by rw [h]; simp [Dv.SrQ, Dv.SrD, Dv.SrE, Dv.srB, hC, gs], h'⟩
    · cases g2 : Dv.busB u
      · exact (StrongestR_no21 m s u n w hC (by simp [Dv.spE, gs]) (by simp [Dv.busE, g2])).mono fun _ _ ⟨h, h'⟩ => ⟨by rw [h]; simp [Dv.SrQ, Dv.SrD, Dv.SrE, Dv.srB, hC, g2], h'⟩
      · cases g3 : Dv.inB n 0 1048576
        · exact (StrongestR_no22 m s u n w hC (by simp [Dv.spE, gs]) (by simp [Dv.busE, g2]) g3).mono fun _ _ ⟨h, h'⟩ => ⟨by rw [h]; simp [Dv.SrQ, Dv.SrD, Dv.SrE, Dv.srB, hC, g3], h'⟩
        · have hn : 0 ≤ n ∧ n ≤ 1048576 := by simpa [Dv.inB] using g3
          obtain ⟨N, rfl⟩ := Int.eq_ofNat_of_zero_le hn.1
          have hb : Dv.srB s u N = true := by simp [Dv.srB, gs, g2, g3]
          exact (StrongestR_go m s u N w N rfl hC (by simp [Dv.spE, gs]) (by simp [Dv.busE, g2]) g3 (upB1.1 gs) (Dv.busB_iff.1 g2) (by omega)).mono fun _ _ ⟨h, h'⟩ => ⟨by
            rw [h]
            simp only [Dv.SrQ, Dv.SrD, Dv.SrE, hC, hb, if_true, Int.toNat_natCast], h'⟩
end Go.Proofs.Ytcneohhfnnelgaa
