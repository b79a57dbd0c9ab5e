/- Contracts of Torque and Inner of drive and of coulombref06, and of valid and rotor. -/
import Derived.Test.YtcneohhfnnelgaaW18
import Derived.Test.YtcneohhfnnelgaaR3
namespace Go.Proofs.Ytcneohhfnnelgaa
open Go.RowKit
set_option linter.unusedVariables false

/-- a state's numbers -/
structure Rot where
  d : Int
  q : Int
  w : Int
  a : Int
namespace Dv
def TqV (m : Mot) (d q : Int) : Int := if chkB m = true then (if upB 1048576 [d, q] = true then (if upB 68719476736 [tq m d q] = true then tq m d q else 0) else 0) else 0
def TqE (m : Mot) (d q : Int) : Int := if chkB m = true then (if upB 1048576 [d, q] = true then (if upB 68719476736 [tq m d q] = true then 0 else 4) else 3) else 2
def inOk (m : Mot) (d q w : Int) : Bool := upB 1048576 [d, q] && upB 16384 [w]
def InD (m : Mot) (d q w : Int) : Int := if chkB m = true then (if inOk m d q w = true then ibd m d q w else 0) else 0
def InQ (m : Mot) (d q w : Int) : Int := if chkB m = true then (if inOk m d q w = true then ibq m d q w else 0) else 0
def InE (m : Mot) (d q w : Int) : Int := if chkB m = true then (if inOk m d q w = true then 0 else 3) else 2
def rotB (s : Rot) : Bool := upB 1048576 [s.d, s.q] && (upB 16384000 [s.w] && angB s.a)
theorem chkB_iff {m : Mot} : chkB m = true ↔ chk m := by simp [chkB]
end Dv
theorem upB_two (m a b : Int) : upB m [a, b] = (upB m [a] && upB m [b]) := by simp [upB]

set_option maxHeartbeats 1000000 in
theorem Torque_no1 (m : Mot) (d q : Int) (w : World) (hC : Dv.chkB m = false) :
    Calls Try.prog 44 #[.agg #[.int .i64 m.r, .int .i64 m.ld, .int .i64 m.lq, .int .i64 m.fx, .int .i64 m.po, .int .i64 m.mi, .int .i64 m.sp, .int .i64 m.dr, .int .i64 m.cu, .int .i64 m.fa], .int .i64 d, .int .i64 q] w fun e w' => e = .returned (.tuple #[.int .i64 0, .int .i64 2]) ∧ Below w.heap.size w w' := by
  go_enter Try.func44, Try.ntmps44
  go_wp2_with fail
  refine (Check_no m _ hC).mono ?_
  rintro e w1 ⟨rfl, hb1⟩
  go_wp2
  go_ret2
  exact ⟨rfl, ((Below.refl _ _).alloc (Nat.le_refl _) _).trans (hb1.mono (by simp))⟩
set_option maxHeartbeats 1000000 in
theorem Torque_no2 (m : Mot) (d q : Int) (w : World) (hC : Dv.chkB m = true) (hu : upB 1048576 [d, q] = false) :
    Calls Try.prog 44 #[.agg #[.int .i64 m.r, .int .i64 m.ld, .int .i64 m.lq, .int .i64 m.fx, .int .i64 m.po, .int .i64 m.mi, .int .i64 m.sp, .int .i64 m.dr, .int .i64 m.cu, .int .i64 m.fa], .int .i64 d, .int .i64 q] w fun e w' => e = .returned (.tuple #[.int .i64 0, .int .i64 3]) ∧ Below w.heap.size w w' := by
  go_enter Try.func44, Try.ntmps44
  go_wp2_with fail
  refine (Check_yes m _ hC).mono ?_
  rintro e w1 ⟨rfl, hb1⟩
  have HB := Lib.hid (((Below.refl _ _).alloc (Nat.le_refl _) _).trans (hb1.mono (by simp)))
  clear hb1
  go_wp2_with (go_at_call 67; (with_reducible refine (up2 _ _ _ _ _ (by simp) (by omega) (by omega)).mono ?_); rintro e w' ⟨rfl, rfl⟩)
  go_ret2
  exact ⟨rfl, HB.out.alloc HB.out.size _⟩
set_option maxHeartbeats 1000000 in
theorem Torque_go (m : Mot) (d q : Int) (w : World) (b : Bool) (hC : Dv.chkB m = true) (hu : upB 1048576 [d, q] = true) (ht : upB 68719476736 [Dv.tq m d q] = b) :
    Calls Try.prog 44 #[.agg #[.int .i64 m.r, .int .i64 m.ld, .int .i64 m.lq, .int .i64 m.fx, .int .i64 m.po, .int .i64 m.mi, .int .i64 m.sp, .int .i64 m.dr, .int .i64 m.cu, .int .i64 m.fa], .int .i64 d, .int .i64 q] w fun e w' => e = .returned (.tuple #[.int .i64 (if b = true then Dv.tq m d q else 0), .int .i64 (if b = true then 0 else 4)]) ∧ Below w.heap.size w w' := by
  obtain ⟨hd, hq⟩ := upB2.1 hu
  have HK := Lib.hid (Dv.chkB_iff.1 hC)
  cases b
  all_goals
    go_enter Try.func44, Try.ntmps44
    go_wp2_with fail
    refine (Check_yes m _ hC).mono ?_
    rintro e w1 ⟨rfl, hb1⟩
    obtain ⟨c0, c1, c2, c3, c4, c5, c6, c7, c8, c9⟩ := (motAt_alloc w m 52).on hb1 (by simp)
    have hz : w.heap.size < w1.heap.size := by have := hb1.size; simp at this; omega
    have HB := Lib.hid (((Below.refl _ _).alloc (Nat.le_refl _) _).trans (hb1.mono (by simp)))
    clear hb1
    go_wp2_with (first | (go_at_call 67; (with_reducible refine (up2 _ _ _ _ _ (by simp) (by omega) (by omega)).mono ?_); rintro e w' ⟨rfl, rfl⟩) | (go_at_call 100; refine (torque_c m d q _ HK.out hd hq).mono ?_; rintro e w2 ⟨rfl, hb2⟩; have HB2 := Lib.hid ((HB.out.alloc (by omega) _).trans (hb2.mono (by simp; omega))); have hz2 := HB2.out.size; clear hb2) | (go_at_call 67; (with_reducible refine (up1 _ _ _ _ (by simp) (by omega) (by omega)).mono ?_); rintro e w' ⟨rfl, rfl⟩))
    go_ret2
    exact ⟨rfl, HB2.out.alloc hz2 _⟩
theorem Torque_c (m : Mot) (d q : Int) (w : World) :
    Calls Try.prog 44 #[.agg #[.int .i64 m.r, .int .i64 m.ld, .int .i64 m.lq, .int .i64 m.fx, .int .i64 m.po, .int .i64 m.mi, .int .i64 m.sp, .int .i64 m.dr, .int .i64 m.cu, .int .i64 m.fa], .int .i64 d, .int .i64 q] w fun e w' => e = .returned (.tuple #[.int .i64 (Dv.TqV m d q), .int .i64 (Dv.TqE m d q)]) ∧ Below w.heap.size w w' := by
  cases hC : Dv.chkB m
  · exact (Torque_no1 m d q w hC).mono fun _ _ ⟨h1, h2⟩ => ⟨by rw [h1]; simp [Dv.TqV, Dv.TqE, hC], h2⟩
  · cases hu : upB 1048576 [d, q]
    · exact (Torque_no2 m d q w hC hu).mono fun _ _ ⟨h1, h2⟩ => ⟨by rw [h1]; simp [Dv.TqV, Dv.TqE, hC, hu], h2⟩
    · exact (Torque_go m d q w _ hC hu rfl).mono fun _ _ ⟨h1, h2⟩ => ⟨by rw [h1]; simp only [Dv.TqV, Dv.TqE, hC, hu, if_true], h2⟩

set_option maxHeartbeats 1000000 in
theorem TorqueR_no1 (m : Mot) (d q : Int) (w : World) (hC : Dv.chkB m = false) :
    Calls Try.prog 45 #[.agg #[.int .i64 m.r, .int .i64 m.ld, .int .i64 m.lq, .int .i64 m.fx, .int .i64 m.po, .int .i64 m.mi, .int .i64 m.sp, .int .i64 m.dr, .int .i64 m.cu, .int .i64 m.fa], .int .i64 d, .int .i64 q] w fun e w' => e = .returned (.tuple #[.int .i64 0, .int .i64 2]) ∧ Below w.heap.size w w' := by
  go_enter Try.func45, Try.ntmps45
  go_wp2_with fail
  refine (CheckR_no m _ hC).mono ?_
  rintro e w1 ⟨rfl, hb1⟩
  go_wp2
  go_ret2
  exact ⟨rfl, ((Below.refl _ _).alloc (Nat.le_refl _) _).trans (hb1.mono (by simp))⟩
set_option maxHeartbeats 1000000 in
theorem TorqueR_no2 (m : Mot) (d q : Int) (w : World) (hC : Dv.chkB m = true) (hu : upB 1048576 [d, q] = false) :
    Calls Try.prog 45 #[.agg #[.int .i64 m.r, .int .i64 m.ld, .int .i64 m.lq, .int .i64 m.fx, .int .i64 m.po, .int .i64 m.mi, .int .i64 m.sp, .int .i64 m.dr, .int .i64 m.cu, .int .i64 m.fa], .int .i64 d, .int .i64 q] w fun e w' => e = .returned (.tuple #[.int .i64 0, .int .i64 3]) ∧ Below w.heap.size w w' := by
  rw [upB_two, Bool.and_eq_false_iff] at hu
  cases h1 : upB 1048576 [d]
  · go_enter Try.func45, Try.ntmps45
    go_wp2_with fail
    refine (CheckR_yes m _ hC).mono ?_
    rintro e w1 ⟨rfl, hb1⟩
    have HB := Lib.hid (((Below.refl _ _).alloc (Nat.le_refl _) _).trans (hb1.mono (by simp)))
    clear hb1 hu
    go_wp2_with (go_at_call 97; refine (current_c _ _).mono ?_; rintro e w' ⟨rfl, rfl⟩)
    go_ret2
    exact ⟨rfl, HB.out⟩
  · have h2 : upB 1048576 [q] = false := hu.resolve_left (by rw [h1]; decide)
    go_enter Try.func45, Try.ntmps45
    go_wp2_with fail
    refine (CheckR_yes m _ hC).mono ?_
    rintro e w1 ⟨rfl, hb1⟩
    have HB := Lib.hid (((Below.refl _ _).alloc (Nat.le_refl _) _).trans (hb1.mono (by simp)))
    clear hb1 hu
    go_wp2_with (go_at_call 97; refine (current_c _ _).mono ?_; rintro e w' ⟨rfl, rfl⟩)
    go_ret2
    exact ⟨rfl, HB.out⟩
set_option maxHeartbeats 1000000 in
theorem TorqueR_go (m : Mot) (d q : Int) (w : World) (b : Bool) (hC : Dv.chkB m = true) (hu : upB 1048576 [d, q] = true) (ht : upB 68719476736 [Dv.tq m d q] = b) :
    Calls Try.prog 45 #[.agg #[.int .i64 m.r, .int .i64 m.ld, .int .i64 m.lq, .int .i64 m.fx, .int .i64 m.po, .int .i64 m.mi, .int .i64 m.sp, .int .i64 m.dr, .int .i64 m.cu, .int .i64 m.fa], .int .i64 d, .int .i64 q] w fun e w' => e = .returned (.tuple #[.int .i64 (if b = true then Dv.tq m d q else 0), .int .i64 (if b = true then 0 else 4)]) ∧ Below w.heap.size w w' := by
  obtain ⟨hd, hq⟩ := upB2.1 hu
  rw [upB_two, Bool.and_eq_true] at hu
  obtain ⟨h1, h2⟩ := hu
  have HK := Lib.hid (Dv.chkB_iff.1 hC)
  cases b
  · go_enter Try.func45, Try.ntmps45
    go_wp2_with fail
    refine (CheckR_yes m _ hC).mono ?_
    rintro e w1 ⟨rfl, hb1⟩
    obtain ⟨c0, c1, c2, c3, c4, c5, c6, c7, c8, c9⟩ := (motAt_alloc w m 52).on hb1 (by simp)
    have hz : w.heap.size < w1.heap.size := by have := hb1.size; simp at this; omega
    have HB := Lib.hid (((Below.refl _ _).alloc (Nat.le_refl _) _).trans (hb1.mono (by simp)))
    clear hb1
    go_wp2_with (first | (go_at_call 97; refine (current_c _ _).mono ?_; rintro e w' ⟨rfl, rfl⟩) | (go_at_call 101; refine (torqueR_c m d q _ HK.out hd hq).mono ?_; rintro e w2 ⟨rfl, hb2⟩; have HB2 := Lib.hid (HB.out.trans (hb2.mono (by omega))); have hz2 := HB2.out.size; clear hb2) | (go_at_call 89; refine (great_c _ _).mono ?_; rintro e w' ⟨rfl, rfl⟩))
    go_ret2
    exact ⟨rfl, HB2.out⟩
  · go_enter Try.func45, Try.ntmps45
    go_wp2_with fail
    refine (CheckR_yes m _ hC).mono ?_
    rintro e w1 ⟨rfl, hb1⟩
    have M := Lib.hid ((motAt_alloc w m 52).on hb1 (by simp))
    obtain ⟨c0, c1, c2, c3, c4, c5, c6, c7, c8, c9⟩ := M.out
    have hz : w.heap.size < w1.heap.size := by have := hb1.size; simp at this; omega
    have HB := Lib.hid (((Below.refl _ _).alloc (Nat.le_refl _) _).trans (hb1.mono (by simp)))
    clear hb1
    go_wp2_with (go_at_call 97; refine (current_c _ _).mono ?_; rintro e w' ⟨rfl, rfl⟩)
    refine (torqueR_c m d q _ HK.out hd hq).mono ?_
    rintro e w2 ⟨rfl, hb2⟩
    clear c0 c1 c2 c3 c4 c5 c6 c7 c8 c9
    obtain ⟨c0, c1, c2, c3, c4, c5, c6, c7, c8, c9⟩ := M.out.on hb2 hz
    have HB2 := Lib.hid (HB.out.trans (hb2.mono (by omega)))
    have hz2 := HB2.out.size
    clear hb2
    go_wp2_with (go_at_call 89; refine (great_c _ _).mono ?_; rintro e w' ⟨rfl, rfl⟩)
    refine (torqueR_c m d q _ HK.out hd hq).mono ?_
    rintro e w3 ⟨rfl, hb3⟩
    go_wp2
    go_ret2
    exact ⟨rfl, HB2.out.trans (hb3.mono (by omega))⟩
theorem TorqueR_c (m : Mot) (d q : Int) (w : World) :
    Calls Try.prog 45 #[.agg #[.int .i64 m.r, .int .i64 m.ld, .int .i64 m.lq, .int .i64 m.fx, .int .i64 m.po, .int .i64 m.mi, .int .i64 m.sp, .int .i64 m.dr, .int .i64 m.cu, .int .i64 m.fa], .int .i64 d, .int .i64 q] w fun e w' => e = .returned (.tuple #[.int .i64 (Dv.TqV m d q), .int .i64 (Dv.TqE m d q)]) ∧ Below w.heap.size w w' := by
  cases hC : Dv.chkB m
  · exact (TorqueR_no1 m d q w hC).mono fun _ _ ⟨h1, h2⟩ => ⟨by rw [h1]; simp [Dv.TqV, Dv.TqE, hC], h2⟩
  · cases hu : upB 1048576 [d, q]
    · exact (TorqueR_no2 m d q w hC hu).mono fun _ _ ⟨h1, h2⟩ => ⟨by rw [h1]; simp [Dv.TqV, Dv.TqE, hC, hu], h2⟩
    · exact (TorqueR_go m d q w _ hC hu rfl).mono fun _ _ ⟨h1, h2⟩ => ⟨by rw [h1]; simp only [Dv.TqV, Dv.TqE, hC, hu, if_true], h2⟩

set_option maxHeartbeats 1000000 in
theorem valid_c (s : Rot) (w : World) : Calls Try.prog 104 #[.agg #[.int .i64 s.d, .int .i64 s.q, .int .i64 s.w, .int .i64 s.a]] w fun e w' => e = .returned (.bool (Dv.rotB s)) ∧ Below w.heap.size w w' := by
  have E := Lib.hid (show Dv.rotB s = (upB 1048576 [s.d, s.q] && (upB 16384000 [s.w] && Dv.angB s.a)) from rfl)
  cases h1 : upB 1048576 [s.d, s.q]
  · rw [h1] at E
    go_enter Try.func104, Try.ntmps104
    go_wp2_with (first | (go_at_call 67; (with_reducible refine (up2 _ _ _ _ _ (by simp) (by omega) (by omega)).mono ?_); rintro e w' ⟨rfl, rfl⟩) | (go_at_call 67; (with_reducible refine (up1 _ _ _ _ (by simp) (by omega) (by omega)).mono ?_); rintro e w' ⟨rfl, rfl⟩) | (go_at_call 71; refine (angle_c _ _).mono ?_; rintro e w' ⟨rfl, rfl⟩))
    go_ret
    exact ⟨ret_bool E.out.symm, ((Below.refl _ _).alloc (Nat.le_refl _) _).alloc (by simp) _⟩
  · cases h2 : upB 16384000 [s.w]
    · rw [h1, h2] at E
      go_enter Try.func104, Try.ntmps104
      go_wp2_with (first | (go_at_call 67; (with_reducible refine (up2 _ _ _ _ _ (by simp) (by omega) (by omega)).mono ?_); rintro e w' ⟨rfl, rfl⟩) | (go_at_call 67; (with_reducible refine (up1 _ _ _ _ (by simp) (by omega) (by omega)).mono ?_); rintro e w' ⟨rfl, rfl⟩) | (go_at_call 71; refine (angle_c _ _).mono ?_; rintro e w' ⟨rfl, rfl⟩))
      go_ret
      exact ⟨ret_bool E.out.symm, (((Below.refl _ _).alloc (Nat.le_refl _) _).alloc (by simp) _).alloc (by simp; omega) _⟩
    · rw [h1, h2] at E
      go_enter Try.func104, Try.ntmps104
      go_wp2_with (first | (go_at_call 67; (with_reducible refine (up2 _ _ _ _ _ (by simp) (by omega) (by omega)).mono ?_); rintro e w' ⟨rfl, rfl⟩) | (go_at_call 67; (with_reducible refine (up1 _ _ _ _ (by simp) (by omega) (by omega)).mono ?_); rintro e w' ⟨rfl, rfl⟩) | (go_at_call 71; refine (angle_c _ _).mono ?_; rintro e w' ⟨rfl, rfl⟩))
      go_ret
      exact ⟨ret_bool E.out.symm, (((Below.refl _ _).alloc (Nat.le_refl _) _).alloc (by simp) _).alloc (by simp; omega) _⟩

set_option maxHeartbeats 1000000 in
theorem rotor_c (s : Rot) (w : World) : Calls Try.prog 105 #[.agg #[.int .i64 s.d, .int .i64 s.q, .int .i64 s.w, .int .i64 s.a]] w fun e w' => e = .returned (.bool (Dv.rotB s)) ∧ Below w.heap.size w w' := by
  have E := Lib.hid (show Dv.rotB s = ((upB 1048576 [s.d] && upB 1048576 [s.q]) && (Dv.inB s.w (-16384000) 16384000 && Dv.angB s.a)) from by rw [inB_up, ← upB_two]; rfl)
  cases h1 : upB 1048576 [s.d]
  · rw [h1] at E
    go_enter Try.func105, Try.ntmps105
    go_wp2_with (first | (go_at_call 97; refine (current_c _ _).mono ?_; rintro e w' ⟨rfl, rfl⟩) | (go_at_call 80; refine (within_c _ _ _ _).mono ?_; rintro e w' ⟨rfl, rfl⟩) | (go_at_call 82; refine (angleR_c _ _).mono ?_; rintro e w' ⟨rfl, rfl⟩))
    go_ret
    exact ⟨ret_bool E.out.symm, (Below.refl _ _).alloc (Nat.le_refl _) _⟩
  · cases h2 : upB 1048576 [s.q]
    · rw [h1, h2] at E
      go_enter Try.func105, Try.ntmps105
      go_wp2_with (first | (go_at_call 97; refine (current_c _ _).mono ?_; rintro e w' ⟨rfl, rfl⟩) | (go_at_call 80; refine (within_c _ _ _ _).mono ?_; rintro e w' ⟨rfl, rfl⟩) | (go_at_call 82; refine (angleR_c _ _).mono ?_; rintro e w' ⟨rfl, rfl⟩))
      go_ret
      exact ⟨ret_bool E.out.symm, (Below.refl _ _).alloc (Nat.le_refl _) _⟩
    · cases h3 : Dv.inB s.w (-16384000) 16384000
      · rw [h1, h2, h3] at E
        go_enter Try.func105, Try.ntmps105
        go_wp2_with (first | (go_at_call 97; refine (current_c _ _).mono ?_; rintro e w' ⟨rfl, rfl⟩) | (go_at_call 80; refine (within_c _ _ _ _).mono ?_; rintro e w' ⟨rfl, rfl⟩) | (go_at_call 82; refine (angleR_c _ _).mono ?_; rintro e w' ⟨rfl, rfl⟩))
        go_ret
        exact ⟨ret_bool E.out.symm, (Below.refl _ _).alloc (Nat.le_refl _) _⟩
      · rw [h1, h2, h3] at E
        go_enter Try.func105, Try.ntmps105
        go_wp2_with (first | (go_at_call 97; refine (current_c _ _).mono ?_; rintro e w' ⟨rfl, rfl⟩) | (go_at_call 80; refine (within_c _ _ _ _).mono ?_; rintro e w' ⟨rfl, rfl⟩) | (go_at_call 82; refine (angleR_c _ _).mono ?_; rintro e w' ⟨rfl, rfl⟩))
        go_ret
        exact ⟨ret_bool E.out.symm, (Below.refl _ _).alloc (Nat.le_refl _) _⟩
end Go.Proofs.Ytcneohhfnnelgaa
