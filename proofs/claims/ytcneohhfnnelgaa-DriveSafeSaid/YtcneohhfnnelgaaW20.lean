/- Contracts of Inner of drive and of coulombref06. -/
import Derived.Test.YtcneohhfnnelgaaW19
namespace Go.Proofs.Ytcneohhfnnelgaa
open Go.RowKit
set_option linter.unusedVariables false

set_option maxHeartbeats 1000000 in
theorem Inner_no1 (m : Mot) (d q s : Int) (w : World) (hC : Dv.chkB m = false) :
    Calls Try.prog 46 #[.agg #[.int .i64 m.r, .int .i64 m.ld, .int .i64 m.lq, .int .i64 m.fx, .int .i64 m.po, .int .i64 m.mi, .int .i64 m.sp, .int .i64 m.dr, .int .i64 m.cu, .int .i64 m.fa], .int .i64 d, .int .i64 q, .int .i64 s] w fun e w' => e = .returned (.tuple #[.int .i64 0, .int .i64 0, .int .i64 2]) ∧ Below w.heap.size w w' := by
  go_enter Try.func46, Try.ntmps46
  go_wp2_with fail
  refine (Check_no m _ hC).mono ?_
  rintro e w1 ⟨rfl, hb1⟩
  go_wp2
  go_ret3
  exact ⟨rfl, ((Below.refl _ _).alloc (Nat.le_refl _) _).trans (hb1.mono (by simp))⟩
set_option maxHeartbeats 1000000 in
theorem Inner_no20 (m : Mot) (d q s : Int) (w : World) (hC : Dv.chkB m = true) (h1 : upB 1048576 [d, q] = false) :
    Calls Try.prog 46 #[.agg #[.int .i64 m.r, .int .i64 m.ld, .int .i64 m.lq, .int .i64 m.fx, .int .i64 m.po, .int .i64 m.mi, .int .i64 m.sp, .int .i64 m.dr, .int .i64 m.cu, .int .i64 m.fa], .int .i64 d, .int .i64 q, .int .i64 s] w fun e w' => e = .returned (.tuple #[.int .i64 0, .int .i64 0, .int .i64 3]) ∧ Below w.heap.size w w' := by
  go_enter Try.func46, Try.ntmps46
  go_wp2_with fail
  refine (Check_yes m _ hC).mono ?_
  rintro e w1 ⟨rfl, hb1⟩
  have HB := Lib.hid (((Below.refl _ _).alloc (Nat.le_refl _) _).trans (hb1.mono (by simp)))
  clear hb1
  go_wp2_with (first | (go_at_call 67; (with_reducible refine (up2 _ _ _ _ _ (by simp) (by omega) (by omega)).mono ?_); rintro e w' ⟨rfl, rfl⟩) | (go_at_call 67; (with_reducible refine (up1 _ _ _ _ (by simp) (by omega) (by omega)).mono ?_); rintro e w' ⟨rfl, rfl⟩))
  go_ret3
  exact ⟨rfl, HB.out.alloc HB.out.size _⟩
set_option maxHeartbeats 1000000 in
theorem Inner_no21 (m : Mot) (d q s : Int) (w : World) (hC : Dv.chkB m = true) (h1 : upB 1048576 [d, q] = true) (h2 : upB 16384 [s] = false) :
    Calls Try.prog 46 #[.agg #[.int .i64 m.r, .int .i64 m.ld, .int .i64 m.lq, .int .i64 m.fx, .int .i64 m.po, .int .i64 m.mi, .int .i64 m.sp, .int .i64 m.dr, .int .i64 m.cu, .int .i64 m.fa], .int .i64 d, .int .i64 q, .int .i64 s] w fun e w' => e = .returned (.tuple #[.int .i64 0, .int .i64 0, .int .i64 3]) ∧ Below w.heap.size w w' := by
  go_enter Try.func46, Try.ntmps46
  go_wp2_with fail
  refine (Check_yes m _ hC).mono ?_
  rintro e w1 ⟨rfl, hb1⟩
  have HB := Lib.hid (((Below.refl _ _).alloc (Nat.le_refl _) _).trans (hb1.mono (by simp)))
  clear hb1
  go_wp2_with (first | (go_at_call 67; (with_reducible refine (up2 _ _ _ _ _ (by simp) (by omega) (by omega)).mono ?_); rintro e w' ⟨rfl, rfl⟩) | (go_at_call 67; (with_reducible refine (up1 _ _ _ _ (by simp) (by omega) (by omega)).mono ?_); rintro e w' ⟨rfl, rfl⟩))
  go_ret3
  exact ⟨rfl, (HB.out.alloc HB.out.size _).alloc (by have := HB.out.size; simp; omega) _⟩
set_option maxHeartbeats 1000000 in
theorem Inner_go (m : Mot) (d q s : Int) (w : World) (hC : Dv.chkB m = true) (h1 : upB 1048576 [d, q] = true) (h2 : upB 16384 [s] = true) (hd : -1048576 ≤ d ∧ d ≤ 1048576) (hq : -1048576 ≤ q ∧ q ≤ 1048576) (hs : -16384 ≤ s ∧ s ≤ 16384) :
    Calls Try.prog 46 #[.agg #[.int .i64 m.r, .int .i64 m.ld, .int .i64 m.lq, .int .i64 m.fx, .int .i64 m.po, .int .i64 m.mi, .int .i64 m.sp, .int .i64 m.dr, .int .i64 m.cu, .int .i64 m.fa], .int .i64 d, .int .i64 q, .int .i64 s] w fun e w' => e = .returned (.tuple #[.int .i64 (Dv.ibd m d q s), .int .i64 (Dv.ibq m d q s), .int .i64 0]) ∧ Below w.heap.size w w' := by
  have HK := Lib.hid (Dv.chkB_iff.1 hC)
  go_enter Try.func46, Try.ntmps46
  go_wp2_with fail
  refine (Check_yes m _ hC).mono ?_
  rintro e w1 ⟨rfl, hb1⟩
  obtain ⟨c0, c1, c2, c3, c4, c5, c6, c7, c8, c9⟩ := (motAt_alloc w m 52).on hb1 (by simp)
  have hz : w.heap.size < w1.heap.size := by have := hb1.size; simp at this; omega
  have HB := Lib.hid (((Below.refl _ _).alloc (Nat.le_refl _) _).trans (hb1.mono (by simp)))
  clear hb1
  go_wp2_with (first | (go_at_call 67; (with_reducible refine (up2 _ _ _ _ _ (by simp) (by omega) (by omega)).mono ?_); rintro e w' ⟨rfl, rfl⟩) | (go_at_call 67; (with_reducible refine (up1 _ _ _ _ (by simp) (by omega) (by omega)).mono ?_); rintro e w' ⟨rfl, rfl⟩) | (go_at_call 102; refine (inner_c m d q s _ HK.out hd hq hs).mono ?_; rintro e w2 ⟨rfl, hb2⟩; have HB2 := Lib.hid (((HB.out.alloc (by omega) _).alloc (by simp; omega) _).trans (hb2.mono (by simp; omega))); have hz2 := HB2.out.size; clear hb2))
  go_ret3
  exact ⟨rfl, HB2.out⟩
set_option maxHeartbeats 1000000 in
theorem InnerR_no1 (m : Mot) (d q s : Int) (w : World) (hC : Dv.chkB m = false) :
    Calls Try.prog 47 #[.agg #[.int .i64 m.r, .int .i64 m.ld, .int .i64 m.lq, .int .i64 m.fx, .int .i64 m.po, .int .i64 m.mi, .int .i64 m.sp, .int .i64 m.dr, .int .i64 m.cu, .int .i64 m.fa], .int .i64 d, .int .i64 q, .int .i64 s] w fun e w' => e = .returned (.tuple #[.int .i64 0, .int .i64 0, .int .i64 2]) ∧ Below w.heap.size w w' := by
  go_enter Try.func47, Try.ntmps47
  go_wp2_with fail
  refine (CheckR_no m _ hC).mono ?_
  rintro e w1 ⟨rfl, hb1⟩
  go_wp2
  go_ret3
  exact ⟨rfl, ((Below.refl _ _).alloc (Nat.le_refl _) _).trans (hb1.mono (by simp))⟩
set_option maxHeartbeats 1000000 in
theorem InnerR_no20 (m : Mot) (d q s : Int) (w : World) (hC : Dv.chkB m = true) (h1 : upB 1048576 [d] = false) :
    Calls Try.prog 47 #[.agg #[.int .i64 m.r, .int .i64 m.ld, .int .i64 m.lq, .int .i64 m.fx, .int .i64 m.po, .int .i64 m.mi, .int .i64 m.sp, .int .i64 m.dr, .int .i64 m.cu, .int .i64 m.fa], .int .i64 d, .int .i64 q, .int .i64 s] w fun e w' => e = .returned (.tuple #[.int .i64 0, .int .i64 0, .int .i64 3]) ∧ Below w.heap.size w w' := by
  go_enter Try.func47, Try.ntmps47
  go_wp2_with fail
  refine (CheckR_yes m _ hC).mono ?_
  rintro e w1 ⟨rfl, hb1⟩
  have HB := Lib.hid (((Below.refl _ _).alloc (Nat.le_refl _) _).trans (hb1.mono (by simp)))
  clear hb1
  go_wp2_with (first | (go_at_call 97; refine (current_c _ _).mono ?_; rintro e w' ⟨rfl, rfl⟩) | (go_at_call 98; refine (speed_c _ _).mono ?_; rintro e w' ⟨rfl, rfl⟩))
  go_ret3
  exact ⟨rfl, HB.out⟩
set_option maxHeartbeats 1000000 in
theorem InnerR_no21 (m : Mot) (d q s : Int) (w : World) (hC : Dv.chkB m = true) (h1 : upB 1048576 [d] = true) (h2 : upB 1048576 [q] = false) :
    Calls Try.prog 47 #[.agg #[.int .i64 m.r, .int .i64 m.ld, .int .i64 m.lq, .int .i64 m.fx, .int .i64 m.po, .int .i64 m.mi, .int .i64 m.sp, .int .i64 m.dr, .int .i64 m.cu, .int .i64 m.fa], .int .i64 d, .int .i64 q, .int .i64 s] w fun e w' => e = .returned (.tuple #[.int .i64 0, .int .i64 0, .int .i64 3]) ∧ Below w.heap.size w w' := by
  go_enter Try.func47, Try.ntmps47
  go_wp2_with fail
  refine (CheckR_yes m _ hC).mono ?_
  rintro e w1 ⟨rfl, hb1⟩
  have HB := Lib.hid (((Below.refl _ _).alloc (Nat.le_refl _) _).trans (hb1.mono (by simp)))
  clear hb1
  go_wp2_with (first | (go_at_call 97; refine (current_c _ _).mono ?_; rintro e w' ⟨rfl, rfl⟩) | (go_at_call 98; refine (speed_c _ _).mono ?_; rintro e w' ⟨rfl, rfl⟩))
  go_ret3
  exact ⟨rfl, HB.out⟩
set_option maxHeartbeats 1000000 in
theorem InnerR_no22 (m : Mot) (d q s : Int) (w : World) (hC : Dv.chkB m = true) (h1 : upB 1048576 [d] = true) (h2 : upB 1048576 [q] = true) (h3 : Dv.spE s = 3) :
    Calls Try.prog 47 #[.agg #[.int .i64 m.r, .int .i64 m.ld, .int .i64 m.lq, .int .i64 m.fx, .int .i64 m.po, .int .i64 m.mi, .int .i64 m.sp, .int .i64 m.dr, .int .i64 m.cu, .int .i64 m.fa], .int .i64 d, .int .i64 q, .int .i64 s] w fun e w' => e = .returned (.tuple #[.int .i64 0, .int .i64 0, .int .i64 3]) ∧ Below w.heap.size w w' := by
  go_enter Try.func47, Try.ntmps47
  go_wp2_with fail
  refine (CheckR_yes m _ hC).mono ?_
  rintro e w1 ⟨rfl, hb1⟩
  have HB := Lib.hid (((Below.refl _ _).alloc (Nat.le_refl _) _).trans (hb1.mono (by simp)))
  clear hb1
  go_wp2_with (first | (go_at_call 97; refine (current_c _ _).mono ?_; rintro e w' ⟨rfl, rfl⟩) | (go_at_call 98; refine (speed_c _ _).mono ?_; rintro e w' ⟨rfl, rfl⟩))
  go_ret3
  exact ⟨rfl, HB.out⟩
set_option maxHeartbeats 1000000 in
theorem InnerR_go (m : Mot) (d q s : Int) (w : World) (hC : Dv.chkB m = true) (h1 : upB 1048576 [d] = true) (h2 : upB 1048576 [q] = true) (h3 : Dv.spE s = 0) (hd : -1048576 ≤ d ∧ d ≤ 1048576) (hq : -1048576 ≤ q ∧ q ≤ 1048576) (hs : -16384 ≤ s ∧ s ≤ 16384) :
    Calls Try.prog 47 #[.agg #[.int .i64 m.r, .int .i64 m.ld, .int .i64 m.lq, .int .i64 m.fx, .int .i64 m.po, .int .i64 m.mi, .int .i64 m.sp, .int .i64 m.dr, .int .i64 m.cu, .int .i64 m.fa], .int .i64 d, .int .i64 q, .int .i64 s] w fun e w' => e = .returned (.tuple #[.int .i64 (Dv.ibd m d q s), .int .i64 (Dv.ibq m d q s), .int .i64 0]) ∧ Below w.heap.size w w' := by
  have HK := Lib.hid (Dv.chkB_iff.1 hC)
  go_enter Try.func47, Try.ntmps47
  go_wp2_with fail
  refine (CheckR_yes m _ hC).mono ?_
  rintro e w1 ⟨rfl, hb1⟩
  obtain ⟨c0, c1, c2, c3, c4, c5, c6, c7, c8, c9⟩ := (motAt_alloc w m 52).on hb1 (by simp)
  have hz : w.heap.size < w1.heap.size := by have := hb1.size; simp at this; omega
  have HB := Lib.hid (((Below.refl _ _).alloc (Nat.le_refl _) _).trans (hb1.mono (by simp)))
  clear hb1
  go_wp2_with (first | (go_at_call 97; refine (current_c _ _).mono ?_; rintro e w' ⟨rfl, rfl⟩) | (go_at_call 98; refine (speed_c _ _).mono ?_; rintro e w' ⟨rfl, rfl⟩) | (go_at_call 103; refine (innerR_c m d q s _ HK.out hd hq hs).mono ?_; rintro e w2 ⟨rfl, hb2⟩; have HB2 := Lib.hid (HB.out.trans (hb2.mono (by omega))); have hz2 := HB2.out.size; clear hb2))
  go_ret3
  exact ⟨rfl, HB2.out⟩

theorem Inner_c (m : Mot) (d q s : Int) (w : World) :
    Calls Try.prog 46 #[.agg #[.int .i64 m.r, .int .i64 m.ld, .int .i64 m.lq, .int .i64 m.fx, .int .i64 m.po, .int .i64 m.mi, .int .i64 m.sp, .int .i64 m.dr, .int .i64 m.cu, .int .i64 m.fa], .int .i64 d, .int .i64 q, .int .i64 s] w fun e w' => e = .returned (.tuple #[.int .i64 (Dv.InD m d q s), .int .i64 (Dv.InQ m d q s), .int .i64 (Dv.InE m d q s)]) ∧ Below w.heap.size w w' := by
  cases hC : Dv.chkB m
  · exact (Inner_no1 m d q s w hC).mono fun _ _ ⟨h1, h2⟩ => ⟨by rw [h1]; simp [Dv.InD, Dv.InQ, Dv.InE, hC], h2⟩
  · cases hu : upB 1048576 [d, q]
    · exact (Inner_no20 m d q s w hC hu).mono fun _ _ ⟨h1, h2⟩ => ⟨by rw [h1]; simp [Dv.InD, Dv.InQ, Dv.InE, Dv.inOk, hC, hu], h2⟩
    · cases hs : upB 16384 [s]
      · exact (Inner_no21 m d q s w hC hu hs).mono fun _ _ ⟨h1, h2⟩ => ⟨by rw [h1]; simp [Dv.InD, Dv.InQ, Dv.InE, Dv.inOk, hC, hu, hs], h2⟩
      · obtain ⟨hd, hq⟩ := upB2.1 hu
        exact (Inner_go m d q s w hC hu hs hd hq (upB1.1 hs)).mono fun _ _ ⟨h1, h2⟩ => ⟨by rw [h1]; simp [Dv.InD, Dv.InQ, Dv.InE, Dv.inOk, hC, hu, hs], h2⟩
theorem InnerR_c (m : Mot) (d q s : Int) (w : World) :
    Calls Try.prog 47 #[.agg #[.int .i64 m.r, .int .i64 m.ld, .int .i64 m.lq, .int .i64 m.fx, .int .i64 m.po, .int .i64 m.mi, .int .i64 m.sp, .int .i64 m.dr, .int .i64 m.cu, .int .i64 m.fa], .int .i64 d, .int .i64 q, .int .i64 s] w fun e w' => e = .returned (.tuple #[.int .i64 (Dv.InD m d q s), .int .i64 (Dv.InQ m d q s), .int .i64 (Dv.InE m d q s)]) ∧ Below w.heap.size w w' := by
  cases hC : Dv.chkB m
  · exact (InnerR_no1 m d q s w hC).mono fun _ _ ⟨h1, h2⟩ => ⟨by rw [h1]; simp [Dv.InD, Dv.InQ, Dv.InE, hC], h2⟩
  · cases h1 : upB 1048576 [d]
    · exact (InnerR_no20 m d q s w hC h1).mono fun _ _ ⟨h, h2⟩ => ⟨by rw [h]; simp [Dv.InD, Dv.InQ, Dv.InE, Dv.inOk, hC, upB_two, h1], h2⟩
    · cases h2 : upB 1048576 [q]
      · exact (InnerR_no21 m d q s w hC h1 h2).mono fun _ _ ⟨h, h3⟩ => ⟨by rw [h]; simp [Dv.InD, Dv.InQ, Dv.InE, Dv.inOk, hC, upB_two, h1, h2], h3⟩
      · cases hs : upB 16384 [s]
        · exact (InnerR_no22 m d q s w hC h1 h2 (by simp [Dv.spE, hs])).mono fun _ _ ⟨h, h3⟩ => ⟨by rw [h]; simp [Dv.InD, Dv.InQ, Dv.InE, Dv.inOk, hC, upB_two, h1, h2, hs], h3⟩
        · exact (InnerR_go m d q s w hC h1 h2 (by simp [Dv.spE, hs]) (upB1.1 h1) (upB1.1 h2) (upB1.1 hs)).mono fun _ _ ⟨h, h3⟩ => ⟨by rw [h]; simp [Dv.InD, Dv.InQ, Dv.InE, Dv.inOk, hC, upB_two, h1, h2, hs], h3⟩
end Go.Proofs.Ytcneohhfnnelgaa
