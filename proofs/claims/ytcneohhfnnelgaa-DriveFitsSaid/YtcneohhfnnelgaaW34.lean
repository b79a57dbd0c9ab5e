/- The contract of fits of coulomblaw06 and the plain facts of DriveFits. -/
import Derived.Test.YtcneohhfnnelgaaLWeakens
namespace Go.Proofs.Ytcneohhfnnelgaa
open Go.RowKit
set_option linter.unusedVariables false
namespace Dv
def FtB (m : Mot) (d q s room : Int) : Bool := decide (InE m d q s = 0) && (decide (InD m d q s ≤ room) && (decide (-room ≤ InD m d q s) && (decide (InQ m d q s ≤ room) && decide (-room ≤ InQ m d q s))))
theorem FtB_fit {m : Mot} {d q s room : Int} (hC : chkB m = true) (hd : -1048576 ≤ d ∧ d ≤ 1048576) (hq : -1048576 ≤ q ∧ q ≤ 1048576) (hs : upB 16384 [s] = true) : FtB m d q s room = fitB m q s room d := by
  have h1 : upB 1048576 [d, q] = true := upB2.2 ⟨hd, hq⟩
  have hi : inOk m d q s = true := by simp [inOk, h1, hs]
  have e : (fitB m q s room d = true) = (FtB m d q s room = true) := by
    unfold fitB FtB
    rw [upB2]
    simp [InE, InD, InQ, hC, hi, and_assoc, and_comm, and_left_comm]
  cases h : FtB m d q s room <;> cases h' : fitB m q s room d <;> simp_all
theorem tmod_down (p : Int) (n : Nat) (hp : 0 ≤ p) (hn : 0 < n) : ∃ j : Nat, j < n ∧ -(p % n) = -(j : Int) := by
  obtain ⟨P, rfl⟩ := Int.eq_ofNat_of_zero_le hp
  refine ⟨P % n, Nat.mod_lt _ hn, ?_⟩
  rfl
/-- what Weaken answers -/
theorem WeE_zero {m : Mot} {q s u N : Int} (h : WeE m q s u N = 0) : chkB m = true ∧ weB q s u N = true ∧ ∃ n : Nat, wkO m q s (roomV u) N.toNat = some n ∧ WeD m q s u N = -(n : Int) := by
  unfold WeE at h
  split at h
  · rename_i hC
    split at h
    · rename_i hb
      split at h
      · rename_i ho
        obtain ⟨n, hn⟩ := Option.isSome_iff_exists.1 ho
        exact ⟨hC, hb, n, hn, by simp [WeD, hC, hb, hn, wkD]⟩
      · omega
    · omega
  · omega
theorem WeE_none {m : Mot} {q s u N : Int} (h : WeE m q s u N = 17) : chkB m = true ∧ weB q s u N = true ∧ wkO m q s (roomV u) N.toNat = none := by
  unfold WeE at h
  split at h
  · rename_i hC
    split at h
    · rename_i hb
      split at h
      · omega
      · rename_i ho
        exact ⟨hC, hb, by simpa using ho⟩
    · omega
  · omega
theorem WeE_or (m : Mot) (q s u N : Int) : WeE m q s u N = 0 ∨ WeE m q s u N = 17 ∨ (WeE m q s u N = 2 ∨ WeE m q s u N = 3) := by
  unfold WeE
  repeat' split
  all_goals omega
theorem SrE_or (m : Mot) (s u N : Int) : SrE m s u N = 0 ∨ (SrE m s u N = 2 ∨ SrE m s u N = 3 ∨ SrE m s u N = 17) := by
  unfold SrE srE
  repeat' split
  all_goals omega
theorem weB_iff {q s u N : Int} : weB q s u N = true ↔ upB 1048576 [q] = true ∧ upB 16384 [s] = true ∧ (1 ≤ u ∧ u ≤ 1073741824) ∧ (0 ≤ N ∧ N ≤ 1048576) := by
  unfold weB
  rw [Bool.and_eq_true, Bool.and_eq_true, Bool.and_eq_true, busB_iff]
  simp [inB]
/-- the case of a weakening that is found -/
theorem fits_found {m : Mot} {q s u N p : Int} (h : WeE m q s u N = 0) (hp : 0 ≤ p) : ∃ n : Nat, WeD m q s u N = -(n : Int) ∧ (n : Int) ≤ N ∧ N ≤ 1048576 ∧ RoomV u = roomV u ∧ FtB m (-(n : Int)) q s (roomV u) = true ∧ (n = 0 ∨ FtB m (-(p % n)) q s (roomV u) = false) ∧ (0 ≤ roomV u ∧ roomV u ≤ 1073741824) := by
  obtain ⟨hC, hb, n, ho, hD⟩ := WeE_zero h
  obtain ⟨h1, h2, h3, h4⟩ := weB_iff.1 hb
  obtain ⟨f1, f2, f3⟩ := wkV_spec ho
  have hn : (n : Int) ≤ N := by omega
  refine ⟨n, hD, hn, h4.2, by simp [RoomV, busB_iff.2 h3], ?_, ?_, roomV_bd h3⟩
  · rw [FtB_fit hC (by omega) (upB1.1 h1) h2]
    exact f1
  · by_cases h0 : n = 0
    · exact .inl h0
    · right
      obtain ⟨j, hj, e⟩ := tmod_down p n hp (by omega)
      rw [e, FtB_fit hC (by omega) (upB1.1 h1) h2]
      exact f3 j hj
theorem fits_none {m : Mot} {q s u N p : Int} (h : WeE m q s u N = 17) (hp : 0 ≤ p) : 0 ≤ N ∧ N ≤ 1048576 ∧ RoomV u = roomV u ∧ FtB m (-(p % (N + 1))) q s (roomV u) = false ∧ (0 ≤ roomV u ∧ roomV u ≤ 1073741824) := by
  obtain ⟨hC, hb, ho⟩ := WeE_none h
  obtain ⟨h1, h2, h3, h4⟩ := weB_iff.1 hb
  refine ⟨h4.1, h4.2, by simp [RoomV, busB_iff.2 h3], ?_, roomV_bd h3⟩
  obtain ⟨K, rfl⟩ := Int.eq_ofNat_of_zero_le h4.1
  obtain ⟨j, hj, e⟩ := tmod_down p (K + 1) hp (by omega)
  have e' : -(p % ((K : Int) + 1)) = -(j : Int) := e
  rw [e', FtB_fit hC (by omega) (upB1.1 h1) h2]
  exact wkV_spec_none ho j (by simp; omega)
/-- the greatest current is one that the weakening answers -/
theorem sr_found {m : Mot} {s u N : Int} (h : SrE m s u N = 0) : WeE m (SrQ m s u N) s u N = 0 ∧ WeD m (SrQ m s u N) s u N = SrD m s u N ∧ 0 ≤ SrQ m s u N ∧ SrQ m s u N ≤ 1048576 ∧ -1048576 ≤ SrD m s u N ∧ SrD m s u N ≤ 1048576 ∧ (-1048576 ≤ N ∧ N ≤ 1048576) ∧ SrQ m s u N * SrQ m s u N + SrD m s u N * SrD m s u N ≤ N * N := by
  cases hC : chkB m
  · simp [SrE, hC] at h
  · cases hb : srB s u N
    · simp [SrE, hC, hb] at h
    · have hb' := hb
      unfold srB at hb'
      rw [Bool.and_eq_true, Bool.and_eq_true, busB_iff] at hb'
      obtain ⟨h2, h3, h4⟩ := hb'
      have hN : 0 ≤ N ∧ N ≤ 1048576 := by simpa [inB] using h4
      obtain ⟨K, rfl⟩ := Int.eq_ofNat_of_zero_le hN.1
      cases ho : srO m s (roomV u) K with
      | none => simp [SrE, hC, hb, ho, srE] at h
      | some j =>
        obtain ⟨f1, f2, f3⟩ := wkV_spec ho
        cases hw : wkO m ((K : Int) - j) s (roomV u) K with
        | none => rw [srOk_none hw] at f1; cases f1
        | some n =>
          rw [srOk_some hw] at f1
          have f1 := of_decide_eq_true f1
          have hn := wkD_bd hw
          have eQ : SrQ m s u K = (K : Int) - j := by simp [SrQ, hC, hb, ho, sr1]
          have eD : SrD m s u K = -(n : Int) := by simp [SrD, hC, hb, ho, sr2, hw, wkD]
          have hbw : weB ((K : Int) - j) s u K = true := weB_iff.2 ⟨upB1.2 (by omega), h2, h3, hN⟩
          rw [eQ, eD]
          refine ⟨by simp [WeE, hC, hbw, hw], by simp [WeD, hC, hbw, hw, wkD], by omega, by omega, by omega, by omega, by omega, by omega⟩
end Dv

set_option maxHeartbeats 1000000 in
theorem fits_0 (m : Mot) (d q s room e x y : Int) (w : World) (he : Dv.InE m d q s = e) (hx : Dv.InD m d q s = x) (hy : Dv.InQ m d q s = y) (hr : 0 ≤ room ∧ room ≤ 1073741824) (h0 : ¬ e = 0) :
    Calls Try.prog 55 #[.agg #[.int .i64 m.r, .int .i64 m.ld, .int .i64 m.lq, .int .i64 m.fx, .int .i64 m.po, .int .i64 m.mi, .int .i64 m.sp, .int .i64 m.dr, .int .i64 m.cu, .int .i64 m.fa], .int .i64 d, .int .i64 q, .int .i64 s, .int .i64 room] w fun e w' => e = .returned (.bool false) ∧ Below w.heap.size w w' := by
  have IC := Lib.hid (Inner_c m d q s)
  rw [he, hx, hy] at IC
  clear he hx hy
  go_enter Try.func55, Try.ntmps55
  go_wp2_with fail
  refine (IC.out _).mono ?_
  rintro e w1 ⟨rfl, hb1⟩
  have HB := Lib.hid (((Below.refl _ _).alloc (Nat.le_refl _) _).trans (hb1.mono (by simp)))
  clear hb1
  go_wp2
  go_ret
  exact ⟨ret_bool (by first | rfl | simp [*]), HB.out⟩

set_option maxHeartbeats 1000000 in
theorem fits_1 (m : Mot) (d q s room e x y : Int) (w : World) (he : Dv.InE m d q s = e) (hx : Dv.InD m d q s = x) (hy : Dv.InQ m d q s = y) (hr : 0 ≤ room ∧ room ≤ 1073741824) (g0 : e = 0) (h1 : ¬ x ≤ room) :
    Calls Try.prog 55 #[.agg #[.int .i64 m.r, .int .i64 m.ld, .int .i64 m.lq, .int .i64 m.fx, .int .i64 m.po, .int .i64 m.mi, .int .i64 m.sp, .int .i64 m.dr, .int .i64 m.cu, .int .i64 m.fa], .int .i64 d, .int .i64 q, .int .i64 s, .int .i64 room] w fun e w' => e = .returned (.bool false) ∧ Below w.heap.size w w' := by
  have IC := Lib.hid (Inner_c m d q s)
  rw [he, hx, hy] at IC
  clear he hx hy
  go_enter Try.func55, Try.ntmps55
  go_wp2_with fail
  refine (IC.out _).mono ?_
  rintro e w1 ⟨rfl, hb1⟩
  have HB := Lib.hid (((Below.refl _ _).alloc (Nat.le_refl _) _).trans (hb1.mono (by simp)))
  clear hb1
  go_wp2
  go_ret
  exact ⟨ret_bool (by first | rfl | simp [*]), HB.out⟩

set_option maxHeartbeats 1000000 in
theorem fits_2 (m : Mot) (d q s room e x y : Int) (w : World) (he : Dv.InE m d q s = e) (hx : Dv.InD m d q s = x) (hy : Dv.InQ m d q s = y) (hr : 0 ≤ room ∧ room ≤ 1073741824) (g0 : e = 0) (g1 : x ≤ room) (h2 : ¬ -room ≤ x) :
    Calls Try.prog 55 #[.agg #[.int .i64 m.r, .int .i64 m.ld, .int .i64 m.lq, .int .i64 m.fx, .int .i64 m.po, .int .i64 m.mi, .int .i64 m.sp, .int .i64 m.dr, .int .i64 m.cu, .int .i64 m.fa], .int .i64 d, .int .i64 q, .int .i64 s, .int .i64 room] w fun e w' => e = .returned (.bool false) ∧ Below w.heap.size w w' := by
  have IC := Lib.hid (Inner_c m d q s)
  rw [he, hx, hy] at IC
  clear he hx hy
  go_enter Try.func55, Try.ntmps55
  go_wp2_with fail
  refine (IC.out _).mono ?_
  rintro e w1 ⟨rfl, hb1⟩
  have HB := Lib.hid (((Below.refl _ _).alloc (Nat.le_refl _) _).trans (hb1.mono (by simp)))
  clear hb1
  go_wp2
  go_ret
  exact ⟨ret_bool (by first | rfl | simp [*]), HB.out⟩

set_option maxHeartbeats 1000000 in
theorem fits_3 (m : Mot) (d q s room e x y : Int) (w : World) (he : Dv.InE m d q s = e) (hx : Dv.InD m d q s = x) (hy : Dv.InQ m d q s = y) (hr : 0 ≤ room ∧ room ≤ 1073741824) (g0 : e = 0) (g1 : x ≤ room) (g2 : -room ≤ x) (h3 : ¬ y ≤ room) :
    Calls Try.prog 55 #[.agg #[.int .i64 m.r, .int .i64 m.ld, .int .i64 m.lq, .int .i64 m.fx, .int .i64 m.po, .int .i64 m.mi, .int .i64 m.sp, .int .i64 m.dr, .int .i64 m.cu, .int .i64 m.fa], .int .i64 d, .int .i64 q, .int .i64 s, .int .i64 room] w fun e w' => e = .returned (.bool false) ∧ Below w.heap.size w w' := by
  have IC := Lib.hid (Inner_c m d q s)
  rw [he, hx, hy] at IC
  clear he hx hy
  go_enter Try.func55, Try.ntmps55
  go_wp2_with fail
  refine (IC.out _).mono ?_
  rintro e w1 ⟨rfl, hb1⟩
  have HB := Lib.hid (((Below.refl _ _).alloc (Nat.le_refl _) _).trans (hb1.mono (by simp)))
  clear hb1
  go_wp2
  go_ret
  exact ⟨ret_bool (by first | rfl | simp [*]), HB.out⟩

set_option maxHeartbeats 1000000 in
theorem fits_4 (m : Mot) (d q s room e x y : Int) (w : World) (he : Dv.InE m d q s = e) (hx : Dv.InD m d q s = x) (hy : Dv.InQ m d q s = y) (hr : 0 ≤ room ∧ room ≤ 1073741824) (g0 : e = 0) (g1 : x ≤ room) (g2 : -room ≤ x) (g3 : y ≤ room) :
    Calls Try.prog 55 #[.agg #[.int .i64 m.r, .int .i64 m.ld, .int .i64 m.lq, .int .i64 m.fx, .int .i64 m.po, .int .i64 m.mi, .int .i64 m.sp, .int .i64 m.dr, .int .i64 m.cu, .int .i64 m.fa], .int .i64 d, .int .i64 q, .int .i64 s, .int .i64 room] w fun e w' => e = .returned (.bool (decide (-room ≤ y))) ∧ Below w.heap.size w w' := by
  have IC := Lib.hid (Inner_c m d q s)
  rw [he, hx, hy] at IC
  clear he hx hy
  go_enter Try.func55, Try.ntmps55
  go_wp2_with fail
  refine (IC.out _).mono ?_
  rintro e w1 ⟨rfl, hb1⟩
  have HB := Lib.hid (((Below.refl _ _).alloc (Nat.le_refl _) _).trans (hb1.mono (by simp)))
  clear hb1
  go_wp2
  go_ret
  exact ⟨ret_bool (by first | rfl | simp [*]), HB.out⟩

theorem fits_c (m : Mot) (d q s room : Int) (w : World) (hr : 0 ≤ room ∧ room ≤ 1073741824) :
    Calls Try.prog 55 #[.agg #[.int .i64 m.r, .int .i64 m.ld, .int .i64 m.lq, .int .i64 m.fx, .int .i64 m.po, .int .i64 m.mi, .int .i64 m.sp, .int .i64 m.dr, .int .i64 m.cu, .int .i64 m.fa], .int .i64 d, .int .i64 q, .int .i64 s, .int .i64 room] w fun e w' => e = .returned (.bool (Dv.FtB m d q s room)) ∧ Below w.heap.size w w' := by
  by_cases g0 : Dv.InE m d q s = 0
  · by_cases g1 : Dv.InD m d q s ≤ room
    · by_cases g2 : -room ≤ Dv.InD m d q s
      · by_cases g3 : Dv.InQ m d q s ≤ room
        · have E := Lib.hid (show Dv.FtB m d q s room = decide (-room ≤ Dv.InQ m d q s) from by simp [Dv.FtB, g0, g1, g2, g3])
          rw [E.out]
          exact fits_4 m d q s room _ _ _ w rfl rfl rfl hr g0 g1 g2 g3
        · rw [show Dv.FtB m d q s room = false from by simp [Dv.FtB, g3]]
          exact fits_3 m d q s room _ _ _ w rfl rfl rfl hr g0 g1 g2 g3
      · rw [show Dv.FtB m d q s room = false from by simp [Dv.FtB, g2]]
        exact fits_2 m d q s room _ _ _ w rfl rfl rfl hr g0 g1 g2
    · rw [show Dv.FtB m d q s room = false from by simp [Dv.FtB, g1]]
      exact fits_1 m d q s room _ _ _ w rfl rfl rfl hr g0 g1
  · rw [show Dv.FtB m d q s room = false from by simp [Dv.FtB, g0]]
    exact fits_0 m d q s room _ _ _ w rfl rfl rfl hr g0
theorem fits_is (m : Mot) (d q s room : Int) (b : Bool) (w : World) (hr : 0 ≤ room ∧ room ≤ 1073741824) (h : Dv.FtB m d q s room = b) :
    Calls Try.prog 55 #[.agg #[.int .i64 m.r, .int .i64 m.ld, .int .i64 m.lq, .int .i64 m.fx, .int .i64 m.po, .int .i64 m.mi, .int .i64 m.sp, .int .i64 m.dr, .int .i64 m.cu, .int .i64 m.fa], .int .i64 d, .int .i64 q, .int .i64 s, .int .i64 room] w fun e w' => e = .returned (.bool b) ∧ Below w.heap.size w w' := by
  subst h
  exact fits_c m d q s room w hr
end Go.Proofs.Ytcneohhfnnelgaa
