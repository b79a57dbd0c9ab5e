/- The contract of Step of coulombref06. -/
import Derived.Test.YtcneohhfnnelgaaW23
import Derived.Test.YtcneohhfnnelgaaR5
namespace Go.Proofs.Ytcneohhfnnelgaa
open Go.RowKit
set_option linter.unusedVariables false

theorem Step_c (m : Mot) (s : Rot) (vd vq ld : Int) (w : World) :
    Calls Try.prog 50 #[.agg #[.int .i64 m.r, .int .i64 m.ld, .int .i64 m.lq, .int .i64 m.fx, .int .i64 m.po, .int .i64 m.mi, .int .i64 m.sp, .int .i64 m.dr, .int .i64 m.cu, .int .i64 m.fa], .agg #[.int .i64 s.d, .int .i64 s.q, .int .i64 s.w, .int .i64 s.a], .int .i64 vd, .int .i64 vq, .int .i64 ld] w fun e w' => e = .returned (.tuple #[.agg #[.int .i64 (Dv.stR m s vd vq ld).1.d, .int .i64 (Dv.stR m s vd vq ld).1.q, .int .i64 (Dv.stR m s vd vq ld).1.w, .int .i64 (Dv.stR m s vd vq ld).1.a], .int .i64 (Dv.stR m s vd vq ld).2]) ∧ Below w.heap.size w w' := by
  cases hC : Dv.chkB m
  · exact (Step_no1 m s vd vq ld w hC).mono fun _ _ ⟨h1, h2⟩ => ⟨by rw [h1]; simp [Dv.stR, hC], h2⟩
  · cases h1 : Dv.rotB s
    · exact (Step_no2 m s vd vq ld w hC h1).mono fun _ _ ⟨h, h2⟩ => ⟨by rw [h]; simp [Dv.stR, Dv.stB, hC, h1], h2⟩
    · cases h2 : upB 1073741824 [vd, vq]
      · exact (Step_no3 m s vd vq ld w hC h1 h2).mono fun _ _ ⟨h, h'⟩ => ⟨by rw [h]; simp [Dv.stR, Dv.stB, hC, h1, h2], h'⟩
      · cases h3 : upB 68719476736 [ld]
        · exact (Step_no4 m s vd vq ld w hC h1 h2 h3).mono fun _ _ ⟨h, h'⟩ => ⟨by rw [h]; simp [Dv.stR, Dv.stB, hC, h1, h2, h3], h'⟩
        · cases ht : upB 68719476736 [Dv.tq m s.d s.q]
          · exact (Step_no5 m s vd vq ld w hC h1 h2 h3 ht).mono fun _ _ ⟨h, h'⟩ => ⟨by rw [h]; simp [Dv.stR, Dv.stB, hC, h1, h2, h3, ht], h'⟩
          · cases hb : Dv.rotB (Dv.stN m s vd vq ld)
            · exact (Step_go m s vd vq ld w hC h1 h2 h3 ht _ hb).mono fun _ _ ⟨h, h'⟩ => ⟨by rw [h]; simp [Dv.stR, Dv.stB, hC, h1, h2, h3, ht, hb], h'⟩
            · exact (Step_go m s vd vq ld w hC h1 h2 h3 ht _ hb).mono fun _ _ ⟨h, h'⟩ => ⟨by rw [h]; simp [Dv.stR, Dv.stB, hC, h1, h2, h3, ht, hb], h'⟩

theorem StI.put {w : World} {m : Mot} {s : Rot} {W : World} (h : StI w m s W) {g : Nat} (hg : w.heap.size + 1 + 1 < g) (o : Nat) (v : Value) : StI w m s (W.setCell ⟨g, o, none⟩ v) :=
  ⟨h.1.setCell_ne (p := ⟨g, o, none⟩) (by show w.heap.size ≠ g; omega) v, h.2.1.setCell_ne (p := ⟨g, o, none⟩) (by show w.heap.size + 1 ≠ g; omega) v, h.2.2.1.setCell_ne (p := ⟨g, o, none⟩) (by show w.heap.size + 1 + 1 ≠ g; omega) v, h.2.2.2.setCell (p := ⟨g, o, none⟩) (by show w.heap.size ≤ g; omega) v⟩

set_option maxHeartbeats 2000000 in
set_option maxRecDepth 100000 in
theorem StepR_no1 (m : Mot) (s : Rot) (vd vq ld : Int) (w : World) (hC : Dv.chkB m = false) :
    Calls Try.prog 51 #[.agg #[.int .i64 m.r, .int .i64 m.ld, .int .i64 m.lq, .int .i64 m.fx, .int .i64 m.po, .int .i64 m.mi, .int .i64 m.sp, .int .i64 m.dr, .int .i64 m.cu, .int .i64 m.fa], .agg #[.int .i64 s.d, .int .i64 s.q, .int .i64 s.w, .int .i64 s.a], .int .i64 vd, .int .i64 vq, .int .i64 ld] w fun e w' => e = .returned (.tuple #[.agg #[.int .i64 rot0.d, .int .i64 rot0.q, .int .i64 rot0.w, .int .i64 rot0.a], .int .i64 2]) ∧ Below w.heap.size w w' := by
  go_enter Try.func51, Try.ntmps51
  go_wp2_with fail
  refine (CheckR_no m _ hC).mono ?_
  rintro e w1 ⟨rfl, hb1⟩
  have I1 : Hid (StI w m s w1) := Lib.hid (after3 hb1)
  clear hb1
  obtain ⟨r0, r1, r2, r3⟩ := I1.out.r
  obtain ⟨f0, f1, f2, f3⟩ := I1.out.f
  go_wp2
  exact bodyPost_ret (v := .tuple #[.agg #[.int .i64 rot0.d, .int .i64 rot0.q, .int .i64 rot0.w, .int .i64 rot0.a], .int .i64 2]) (by simp [results, Try.results51, go_sem, r0, r1, r2, r3]; exact ⟨rfl, rfl, rfl, rfl⟩) rfl ⟨rfl, below_put4 I1.out.2.2.2 (by omega) _ _ _ _⟩

set_option maxHeartbeats 2000000 in
set_option maxRecDepth 100000 in
theorem StepR_no2 (m : Mot) (s : Rot) (vd vq ld : Int) (w : World) (hC : Dv.chkB m = true) (h1 : Dv.rotB s = false) :
    Calls Try.prog 51 #[.agg #[.int .i64 m.r, .int .i64 m.ld, .int .i64 m.lq, .int .i64 m.fx, .int .i64 m.po, .int .i64 m.mi, .int .i64 m.sp, .int .i64 m.dr, .int .i64 m.cu, .int .i64 m.fa], .agg #[.int .i64 s.d, .int .i64 s.q, .int .i64 s.w, .int .i64 s.a], .int .i64 vd, .int .i64 vq, .int .i64 ld] w fun e w' => e = .returned (.tuple #[.agg #[.int .i64 rot0.d, .int .i64 rot0.q, .int .i64 rot0.w, .int .i64 rot0.a], .int .i64 3]) ∧ Below w.heap.size w w' := by
  go_enter Try.func51, Try.ntmps51
  go_wp2_with fail
  refine (CheckR_yes m _ hC).mono ?_
  rintro e w1 ⟨rfl, hb1⟩
  have I1 : Hid (StI w m s w1) := Lib.hid (after3 hb1)
  clear hb1
  obtain ⟨s0, s1, s2, s3⟩ := I1.out.s
  go_wp2_with fail
  refine (rotor_c s _).mono ?_
  rintro e w2 ⟨rfl, hb2⟩
  have I2 := Lib.hid (I1.out.below hb2)
  clear hb2 s0 s1 s2 s3
  obtain ⟨r0, r1, r2, r3⟩ := I2.out.r
  obtain ⟨f0, f1, f2, f3⟩ := I2.out.f
  go_wp2_with (first | (go_at_call 79; refine (volt_c _ _).mono ?_; rintro e w' ⟨rfl, rfl⟩) | (go_at_call 89; refine (great_c _ _).mono ?_; rintro e w' ⟨rfl, rfl⟩))
  exact bodyPost_ret (v := .tuple #[.agg #[.int .i64 rot0.d, .int .i64 rot0.q, .int .i64 rot0.w, .int .i64 rot0.a], .int .i64 3]) (by simp [results, Try.results51, go_sem, r0, r1, r2, r3]; exact ⟨rfl, rfl, rfl, rfl⟩) rfl ⟨rfl, below_put4 I2.out.2.2.2 (by omega) _ _ _ _⟩

set_option maxHeartbeats 2000000 in
set_option maxRecDepth 100000 in
theorem StepR_no3 (m : Mot) (s : Rot) (vd vq ld : Int) (w : World) (hC : Dv.chkB m = true) (h1 : Dv.rotB s = true) (h2 : upB 1073741824 [vd] = false) :
    Calls Try.prog 51 #[.agg #[.int .i64 m.r, .int .i64 m.ld, .int .i64 m.lq, .int .i64 m.fx, .int .i64 m.po, .int .i64 m.mi, .int .i64 m.sp, .int .i64 m.dr, .int .i64 m.cu, .int .i64 m.fa], .agg #[.int .i64 s.d, .int .i64 s.q, .int .i64 s.w, .int .i64 s.a], .int .i64 vd, .int .i64 vq, .int .i64 ld] w fun e w' => e = .returned (.tuple #[.agg #[.int .i64 rot0.d, .int .i64 rot0.q, .int .i64 rot0.w, .int .i64 rot0.a], .int .i64 3]) ∧ Below w.heap.size w w' := by
  go_enter Try.func51, Try.ntmps51
  go_wp2_with fail
  refine (CheckR_yes m _ hC).mono ?_
  rintro e w1 ⟨rfl, hb1⟩
  have I1 : Hid (StI w m s w1) := Lib.hid (after3 hb1)
  clear hb1
  obtain ⟨s0, s1, s2, s3⟩ := I1.out.s
  go_wp2_with fail
  refine (rotor_c s _).mono ?_
  rintro e w2 ⟨rfl, hb2⟩
  have I2 := Lib.hid (I1.out.below hb2)
  clear hb2 s0 s1 s2 s3
  obtain ⟨r0, r1, r2, r3⟩ := I2.out.r
  obtain ⟨f0, f1, f2, f3⟩ := I2.out.f
  go_wp2_with (first | (go_at_call 79; refine (volt_c _ _).mono ?_; rintro e w' ⟨rfl, rfl⟩) | (go_at_call 89; refine (great_c _ _).mono ?_; rintro e w' ⟨rfl, rfl⟩))
  exact bodyPost_ret (v := .tuple #[.agg #[.int .i64 rot0.d, .int .i64 rot0.q, .int .i64 rot0.w, .int .i64 rot0.a], .int .i64 3]) (by simp [results, Try.results51, go_sem, r0, r1, r2, r3]; exact ⟨rfl, rfl, rfl, rfl⟩) rfl ⟨rfl, below_put4 I2.out.2.2.2 (by omega) _ _ _ _⟩

set_option maxHeartbeats 2000000 in
set_option maxRecDepth 100000 in
theorem StepR_no4 (m : Mot) (s : Rot) (vd vq ld : Int) (w : World) (hC : Dv.chkB m = true) (h1 : Dv.rotB s = true) (h2 : upB 1073741824 [vd] = true) (h3 : upB 1073741824 [vq] = false) :
    Calls Try.prog 51 #[.agg #[.int .i64 m.r, .int .i64 m.ld, .int .i64 m.lq, .int .i64 m.fx, .int .i64 m.po, .int .i64 m.mi, .int .i64 m.sp, .int .i64 m.dr, .int .i64 m.cu, .int .i64 m.fa], .agg #[.int .i64 s.d, .int .i64 s.q, .int .i64 s.w, .int .i64 s.a], .int .i64 vd, .int .i64 vq, .int .i64 ld] w fun e w' => e = .returned (.tuple #[.agg #[.int .i64 rot0.d, .int .i64 rot0.q, .int .i64 rot0.w, .int .i64 rot0.a], .int .i64 3]) ∧ Below w.heap.size w w' := by
  go_enter Try.func51, Try.ntmps51
  go_wp2_with fail
  refine (CheckR_yes m _ hC).mono ?_
  rintro e w1 ⟨rfl, hb1⟩
  have I1 : Hid (StI w m s w1) := Lib.hid (after3 hb1)
  clear hb1
  obtain ⟨s0, s1, s2, s3⟩ := I1.out.s
  go_wp2_with fail
  refine (rotor_c s _).mono ?_
  rintro e w2 ⟨rfl, hb2⟩
  have I2 := Lib.hid (I1.out.below hb2)
  clear hb2 s0 s1 s2 s3
  obtain ⟨r0, r1, r2, r3⟩ := I2.out.r
  obtain ⟨f0, f1, f2, f3⟩ := I2.out.f
  go_wp2_with (first | (go_at_call 79; refine (volt_c _ _).mono ?_; rintro e w' ⟨rfl, rfl⟩) | (go_at_call 89; refine (great_c _ _).mono ?_; rintro e w' ⟨rfl, rfl⟩))
  exact bodyPost_ret (v := .tuple #[.agg #[.int .i64 rot0.d, .int .i64 rot0.q, .int .i64 rot0.w, .int .i64 rot0.a], .int .i64 3]) (by simp [results, Try.results51, go_sem, r0, r1, r2, r3]; exact ⟨rfl, rfl, rfl, rfl⟩) rfl ⟨rfl, below_put4 I2.out.2.2.2 (by omega) _ _ _ _⟩

set_option maxHeartbeats 2000000 in
set_option maxRecDepth 100000 in
theorem StepR_no5 (m : Mot) (s : Rot) (vd vq ld : Int) (w : World) (hC : Dv.chkB m = true) (h1 : Dv.rotB s = true) (h2 : upB 1073741824 [vd] = true) (h3 : upB 1073741824 [vq] = true) (h4 : upB 68719476736 [ld] = false) :
    Calls Try.prog 51 #[.agg #[.int .i64 m.r, .int .i64 m.ld, .int .i64 m.lq, .int .i64 m.fx, .int .i64 m.po, .int .i64 m.mi, .int .i64 m.sp, .int .i64 m.dr, .int .i64 m.cu, .int .i64 m.fa], .agg #[.int .i64 s.d, .int .i64 s.q, .int .i64 s.w, .int .i64 s.a], .int .i64 vd, .int .i64 vq, .int .i64 ld] w fun e w' => e = .returned (.tuple #[.agg #[.int .i64 rot0.d, .int .i64 rot0.q, .int .i64 rot0.w, .int .i64 rot0.a], .int .i64 3]) ∧ Below w.heap.size w w' := by
  go_enter Try.func51, Try.ntmps51
  go_wp2_with fail
  refine (CheckR_yes m _ hC).mono ?_
  rintro e w1 ⟨rfl, hb1⟩
  have I1 : Hid (StI w m s w1) := Lib.hid (after3 hb1)
  clear hb1
  obtain ⟨s0, s1, s2, s3⟩ := I1.out.s
  go_wp2_with fail
  refine (rotor_c s _).mono ?_
  rintro e w2 ⟨rfl, hb2⟩
  have I2 := Lib.hid (I1.out.below hb2)
  clear hb2 s0 s1 s2 s3
  obtain ⟨r0, r1, r2, r3⟩ := I2.out.r
  obtain ⟨f0, f1, f2, f3⟩ := I2.out.f
  go_wp2_with (first | (go_at_call 79; refine (volt_c _ _).mono ?_; rintro e w' ⟨rfl, rfl⟩) | (go_at_call 89; refine (great_c _ _).mono ?_; rintro e w' ⟨rfl, rfl⟩))
  exact bodyPost_ret (v := .tuple #[.agg #[.int .i64 rot0.d, .int .i64 rot0.q, .int .i64 rot0.w, .int .i64 rot0.a], .int .i64 3]) (by simp [results, Try.results51, go_sem, r0, r1, r2, r3]; exact ⟨rfl, rfl, rfl, rfl⟩) rfl ⟨rfl, below_put4 I2.out.2.2.2 (by omega) _ _ _ _⟩

set_option maxHeartbeats 2000000 in
set_option maxRecDepth 100000 in
theorem StepR_no6 (m : Mot) (s : Rot) (vd vq ld : Int) (w : World) (hC : Dv.chkB m = true) (h1 : Dv.rotB s = true) (h2 : upB 1073741824 [vd] = true) (h3 : upB 1073741824 [vq] = true) (h4 : upB 68719476736 [ld] = true) (ht : upB 68719476736 [Dv.tq m s.d s.q] = false) :
    Calls Try.prog 51 #[.agg #[.int .i64 m.r, .int .i64 m.ld, .int .i64 m.lq, .int .i64 m.fx, .int .i64 m.po, .int .i64 m.mi, .int .i64 m.sp, .int .i64 m.dr, .int .i64 m.cu, .int .i64 m.fa], .agg #[.int .i64 s.d, .int .i64 s.q, .int .i64 s.w, .int .i64 s.a], .int .i64 vd, .int .i64 vq, .int .i64 ld] w fun e w' => e = .returned (.tuple #[.agg #[.int .i64 rot0.d, .int .i64 rot0.q, .int .i64 rot0.w, .int .i64 rot0.a], .int .i64 4]) ∧ Below w.heap.size w w' := by
  have HK := Lib.hid (Dv.chkB_iff.1 hC)
  obtain ⟨q1, q2, q3, q4⟩ := Dv.rotB_iff.1 h1
  go_enter Try.func51, Try.ntmps51
  go_wp2_with fail
  refine (CheckR_yes m _ hC).mono ?_
  rintro e w1 ⟨rfl, hb1⟩
  have I1 : Hid (StI w m s w1) := Lib.hid (after3 hb1)
  clear hb1
  obtain ⟨s0, s1, s2, s3⟩ := I1.out.s
  go_wp2_with fail
  refine (rotor_c s _).mono ?_
  rintro e w2 ⟨rfl, hb2⟩
  have I2 := Lib.hid (I1.out.below hb2)
  clear hb2 s0 s1 s2 s3
  obtain ⟨s0, s1, s2, s3⟩ := I2.out.s
  obtain ⟨c0, c1, c2, c3, c4, c5, c6, c7, c8, c9⟩ := I2.out.m
  go_wp2_with (first | (go_at_call 79; refine (volt_c _ _).mono ?_; rintro e w' ⟨rfl, rfl⟩) | (go_at_call 85; refine (floor_c _ _ _ (by omega) (by omega) (by omega)).mono ?_; rintro e w' ⟨rfl, rfl⟩) | (go_at_call 89; refine (great_c _ _).mono ?_; rintro e w' ⟨rfl, rfl⟩))
  refine (torqueR_c m s.d s.q _ HK.out q1 q2).mono ?_
  rintro e w3 ⟨rfl, hb3⟩
  have I3 := Lib.hid (I2.out.below hb3)
  clear hb3 s0 s1 s2 s3 c0 c1 c2 c3 c4 c5 c6 c7 c8 c9
  obtain ⟨r0, r1, r2, r3⟩ := I3.out.r
  obtain ⟨f0, f1, f2, f3⟩ := I3.out.f
  go_wp2_with (go_at_call 89; refine (great_c _ _).mono ?_; rintro e w' ⟨rfl, rfl⟩)
  exact bodyPost_ret (v := .tuple #[.agg #[.int .i64 rot0.d, .int .i64 rot0.q, .int .i64 rot0.w, .int .i64 rot0.a], .int .i64 4]) (by simp [results, Try.results51, go_sem, r0, r1, r2, r3]; exact ⟨rfl, rfl, rfl, rfl⟩) rfl ⟨rfl, below_put4 I3.out.2.2.2 (by omega) _ _ _ _⟩

set_option maxHeartbeats 2000000 in
set_option maxRecDepth 100000 in
theorem StepR_go (m : Mot) (s : Rot) (vd vq ld : Int) (w : World) (hC : Dv.chkB m = true) (h1 : Dv.rotB s = true) (h2 : upB 1073741824 [vd] = true) (h3 : upB 1073741824 [vq] = true) (h4 : upB 68719476736 [ld] = true) (ht : upB 68719476736 [Dv.tq m s.d s.q] = true) (b : Bool) (hb2 : Dv.rotB (Dv.stN m s vd vq ld) = b) :
    Calls Try.prog 51 #[.agg #[.int .i64 m.r, .int .i64 m.ld, .int .i64 m.lq, .int .i64 m.fx, .int .i64 m.po, .int .i64 m.mi, .int .i64 m.sp, .int .i64 m.dr, .int .i64 m.cu, .int .i64 m.fa], .agg #[.int .i64 s.d, .int .i64 s.q, .int .i64 s.w, .int .i64 s.a], .int .i64 vd, .int .i64 vq, .int .i64 ld] w fun e w' => e = .returned (.tuple #[.agg #[.int .i64 (if b = true then Dv.stN m s vd vq ld else rot0).d, .int .i64 (if b = true then Dv.stN m s vd vq ld else rot0).q, .int .i64 (if b = true then Dv.stN m s vd vq ld else rot0).w, .int .i64 (if b = true then Dv.stN m s vd vq ld else rot0).a], .int .i64 (if b = true then 0 else 4)]) ∧ Below w.heap.size w w' := by
  have HK := Lib.hid (Dv.chkB_iff.1 hC)
  obtain ⟨q1, q2, q3, q4⟩ := Dv.rotB_iff.1 h1
  go_enter Try.func51, Try.ntmps51
  go_wp2_with fail
  refine (CheckR_yes m _ hC).mono ?_
  rintro e w1 ⟨rfl, hb1⟩
  have I1 : Hid (StI w m s w1) := Lib.hid (after3 hb1)
  clear hb1
  obtain ⟨s0, s1, s2, s3⟩ := I1.out.s
  go_wp2_with fail
  refine (rotor_c s _).mono ?_
  rintro e w2 ⟨rfl, hb2⟩
  have I2 := Lib.hid (I1.out.below hb2)
  clear hb2 s0 s1 s2 s3
  obtain ⟨s0, s1, s2, s3⟩ := I2.out.s
  obtain ⟨c0, c1, c2, c3, c4, c5, c6, c7, c8, c9⟩ := I2.out.m
  go_wp2_with (first | (go_at_call 79; refine (volt_c _ _).mono ?_; rintro e w' ⟨rfl, rfl⟩) | (go_at_call 85; refine (floor_c _ _ _ (by omega) (by omega) (by omega)).mono ?_; rintro e w' ⟨rfl, rfl⟩) | (go_at_call 89; refine (great_c _ _).mono ?_; rintro e w' ⟨rfl, rfl⟩))
  refine (torqueR_c m s.d s.q _ HK.out q1 q2).mono ?_
  rintro e w3 ⟨rfl, hb3⟩
  have I3 := Lib.hid (I2.out.below hb3)
  clear hb3 s0 s1 s2 s3 c0 c1 c2 c3 c4 c5 c6 c7 c8 c9
  obtain ⟨s0, s1, s2, s3⟩ := I3.out.s
  obtain ⟨c0, c1, c2, c3, c4, c5, c6, c7, c8, c9⟩ := I3.out.m
  go_wp2_with (go_at_call 89; refine (great_c _ _).mono ?_; rintro e w' ⟨rfl, rfl⟩)
  refine (innerR_c m s.d s.q (s.w / 1000) _ HK.out q1 q2 (by omega)).mono ?_
  rintro e w4 ⟨rfl, hb4⟩
  have I4 := Lib.hid (I3.out.below hb4)
  clear hb4 s0 s1 s2 s3 c0 c1 c2 c3 c4 c5 c6 c7 c8 c9
  go_wp2_with fail
  refine wp_region_float 25 _ (.cells #[.int .i64 0, .int .i64 0, .int .i64 0, .int .i64 0] 57) 16 ?af (by kernel_rfl) rfl rfl rfl (by kernel_rfl) (fun _ _ => by kernel_rfl) ?walk ?tail
  case walk =>
    intro V hV
    have IV := Lib.hid (I4.out.below hV)
    obtain ⟨s0, s1, s2, s3⟩ := IV.out.s
    obtain ⟨c0, c1, c2, c3, c4, c5, c6, c7, c8, c9⟩ := IV.out.m
    have z2 := IV.out.lt
    have z3 : w.heap.size + 1 < V.heap.size := by omega
    have z4 : w.heap.size < V.heap.size := by omega
    obtain ⟨p1, p2, p3, p4, p5, p6, p7, p8⟩ := Dv.st_prods HK.out h1 ⟨upB1.1 h2, upB1.1 h3⟩ (upB1.1 h4)
    have k1 := HK.out.2.1
    have k2 := HK.out.2.2.1
    have p10 := Dv.in_bd HK.out q1 q2 p1
    have p11 := upB1.1 h2
    have p12 := upB1.1 h3
    simp only [List.take_succ_cons, List.take_zero]
    repeat (go_big_quiet_step ((go_at_call 85; exact past_same (floor_c _ _ _ (by omega) (by omega) (by omega)))))
    refine wpQuiet_nil ?_
    rfl
  case tail =>
    intro g w5 hg hb5 hcell
    have H5 : Blk w5 g 57 rot0.cs := hcell
    have I5 := Lib.hid (I4.out.below hb5)
    have hgw : w.heap.size + 1 + 1 < g := by have := I4.out.lt; omega
    obtain ⟨g0, g1, g2, g3⟩ := rotOf H5
    obtain ⟨f0, f1, f2, f3⟩ := freeOf H5
    simp only [List.drop_succ_cons, List.drop_zero]
    simp only [Act.put, List.setIfInBounds_toArray, List.set_cons_zero, List.set_cons_succ]
    go_wp2_with fail
    refine gen_world (fun W => StI w m s W ∧ Blk W g 57 (Rot.mk (Dv.stN m s vd vq ld).d (Dv.stN m s vd vq ld).q 0 0).cs) ⟨(((I5.out.put hgw 0 _).put hgw 1 _).put hgw 2 _).put hgw 3 _, (((H5.setCell 0 (.int .i64 (Dv.stN m s vd vq ld).d)).setCell 1 (.int .i64 (Dv.stN m s vd vq ld).q)).setCell 2 (.int .i64 0)).setCell 3 (.int .i64 0)⟩ ?_
    clear g0 g1 g2 g3 f0 f1 f2 f3
    rintro w6 ⟨i6, h6⟩
    have I6 := Lib.hid i6
    have H6 := Lib.hid h6
    clear i6 h6
    refine wp_region_head 15 ?af2 (by kernel_rfl) (by kernel_rfl) ?walk2 ?tail2
    case walk2 =>
      intro V hV
      have IV := Lib.hid (I6.out.below hV)
      obtain ⟨s0, s1, s2, s3⟩ := IV.out.s
      obtain ⟨c0, c1, c2, c3, c4, c5, c6, c7, c8, c9⟩ := IV.out.m
      have z2 := IV.out.lt
      have z3 : w.heap.size + 1 < V.heap.size := by omega
      have z4 : w.heap.size < V.heap.size := by omega
      obtain ⟨p1, p2, p3, p4, p5, p6, p7, p8⟩ := Dv.st_prods HK.out h1 ⟨upB1.1 h2, upB1.1 h3⟩ (upB1.1 h4)
      have p9 := Dv.tq_bd HK.out q1 q2
      have p12 := upB1.1 h4
      simp only [List.take_succ_cons, List.take_zero]
      repeat (go_big_quiet_step ((go_at_call 85; exact past_same (floor_c _ _ _ (by omega) (by omega) (by omega)))))
      refine wpQuiet_nil ?_
      rfl
    case tail2 =>
      intro w7 hb7
      have I7 := Lib.hid (I6.out.below hb7)
      have H7 := Lib.hid (H6.out.below hb7 H6.out.lt)
      obtain ⟨g0, g1, g2, g3⟩ := rotOf H7.out
      obtain ⟨f0, f1, f2, f3⟩ := freeOf H7.out
      simp only [List.drop_succ_cons, List.drop_zero]
      go_wp2_with fail
      refine gen_world (fun W => StI w m s W ∧ Blk W g 57 (Rot.mk (Dv.stN m s vd vq ld).d (Dv.stN m s vd vq ld).q (Dv.stN m s vd vq ld).w 0).cs) ⟨I7.out.put hgw 2 _, H7.out.setCell 2 (.int .i64 (Dv.stN m s vd vq ld).w)⟩ ?_
      clear g0 g1 g2 g3 f0 f1 f2 f3
      rintro w8 ⟨i8, h8⟩
      have I8 := Lib.hid i8
      have H8 := Lib.hid h8
      clear i8 h8
      obtain ⟨s0, s1, s2, s3⟩ := I8.out.s
      obtain ⟨c0, c1, c2, c3, c4, c5, c6, c7, c8, c9⟩ := I8.out.m
      have z2 := I8.out.lt
      have z3 : w.heap.size + 1 < w8.heap.size := by omega
      have z4 : w.heap.size < w8.heap.size := by omega
      obtain ⟨p1, p2, p3, p4, p5, p6, p7, p8⟩ := Dv.st_prods HK.out h1 ⟨upB1.1 h2, upB1.1 h3⟩ (upB1.1 h4)
      refine wp_region_past (by kernel_rfl) (by kernel_rfl) ?_
      repeat (go_big_quiet_step ((go_at_call 85; exact past_same (floor_c _ _ _ (by omega) (by omega) (by omega)))))
      refine wpQuiet_nil ?_
      intro x
      have I9 := Lib.hid (I8.out.below x.far)
      have H9 := Lib.hid (H8.out.below x.far H8.out.lt)
      generalize x.w = w9 at I9 H9 ⊢
      clear s0 s1 s2 s3 c0 c1 c2 c3 c4 c5 c6 c7 c8 c9 z2 z3 z4
      obtain ⟨g0, g1, g2, g3⟩ := rotOf H9.out
      obtain ⟨f0, f1, f2, f3⟩ := freeOf H9.out
      have emod : s.a + s.w * m.mi * 10430378 / 1000000000000 - 65536 * ((s.a + s.w * m.mi * 10430378 / 1000000000000) / 65536) = (s.a + s.w * m.mi * 10430378 / 1000000000000) % 65536 := by omega
      go_wp2_with (go_at_call 85; refine (floor_c _ _ _ (by omega) (by omega) (by omega)).mono ?_; rintro e w' ⟨rfl, rfl⟩)
      refine (rotor_c (Dv.stN m s vd vq ld) _).mono ?_
      rintro e w10 ⟨rfl, hb10⟩
      have IA := Lib.hid ((I9.out.put hgw 3 _).below hb10)
      have HN := (H9.out.setCell 3 (.int .i64 (Dv.stN m s vd vq ld).a)).below hb10 (H9.out.setCell 3 (.int .i64 (Dv.stN m s vd vq ld).a)).lt
      have HN2 : Blk w10 g 57 (Dv.stN m s vd vq ld).cs := HN
      clear g0 g1 g2 g3 f0 f1 f2 f3 hb10 HN emod
      obtain ⟨g0, g1, g2, g3⟩ := rotOf HN2
      obtain ⟨r0, r1, r2, r3⟩ := IA.out.r
      obtain ⟨f0, f1, f2, f3⟩ := IA.out.f
      cases b
      · go_wp2
        exact bodyPost_ret (v := .tuple #[.agg #[.int .i64 rot0.d, .int .i64 rot0.q, .int .i64 rot0.w, .int .i64 rot0.a], .int .i64 4]) (by simp [results, Try.results51, go_sem, r0, r1, r2, r3]; exact ⟨rfl, rfl, rfl, rfl⟩) rfl ⟨rfl, below_put4 IA.out.2.2.2 (by omega) _ _ _ _⟩
      · go_wp2
        refine bodyPost_ret (v := .tuple #[.agg #[.int .i64 (Dv.stN m s vd vq ld).d, .int .i64 (Dv.stN m s vd vq ld).q, .int .i64 (Dv.stN m s vd vq ld).w, .int .i64 (Dv.stN m s vd vq ld).a], .int .i64 0]) (by simp [results, Try.results51, go_sem, r0, r1, r2, r3]) rfl ⟨rfl, below_put4 IA.out.2.2.2 (by omega) _ _ _ _⟩

theorem StepR_c (m : Mot) (s : Rot) (vd vq ld : Int) (w : World) :
    Calls Try.prog 51 #[.agg #[.int .i64 m.r, .int .i64 m.ld, .int .i64 m.lq, .int .i64 m.fx, .int .i64 m.po, .int .i64 m.mi, .int .i64 m.sp, .int .i64 m.dr, .int .i64 m.cu, .int .i64 m.fa], .agg #[.int .i64 s.d, .int .i64 s.q, .int .i64 s.w, .int .i64 s.a], .int .i64 vd, .int .i64 vq, .int .i64 ld] w fun e w' => e = .returned (.tuple #[.agg #[.int .i64 (Dv.stR m s vd vq ld).1.d, .int .i64 (Dv.stR m s vd vq ld).1.q, .int .i64 (Dv.stR m s vd vq ld).1.w, .int .i64 (Dv.stR m s vd vq ld).1.a], .int .i64 (Dv.stR m s vd vq ld).2]) ∧ Below w.heap.size w w' := by
  cases hC : Dv.chkB m
  · exact (StepR_no1 m s vd vq ld w hC).mono fun _ _ ⟨h1, h2⟩ => ⟨by rw [h1]; simp [Dv.stR, hC], h2⟩
  · cases h1 : Dv.rotB s
    · exact (StepR_no2 m s vd vq ld w hC h1).mono fun _ _ ⟨h, h2⟩ => ⟨by rw [h]; simp [Dv.stR, Dv.stB, hC, h1], h2⟩
    · cases h2 : upB 1073741824 [vd]
      · exact (StepR_no3 m s vd vq ld w hC h1 h2).mono fun _ _ ⟨h, h'⟩ => ⟨by rw [h]; simp [Dv.stR, Dv.stB, upB_two, hC, h1, h2], h'⟩
      · cases h3 : upB 1073741824 [vq]
        · exact (StepR_no4 m s vd vq ld w hC h1 h2 h3).mono fun _ _ ⟨h, h'⟩ => ⟨by rw [h]; simp [Dv.stR, Dv.stB, upB_two, hC, h1, h2, h3], h'⟩
        · cases h4 : upB 68719476736 [ld]
          · exact (StepR_no5 m s vd vq ld w hC h1 h2 h3 h4).mono fun _ _ ⟨h, h'⟩ => ⟨by rw [h]; simp [Dv.stR, Dv.stB, upB_two, hC, h1, h2, h3, h4], h'⟩
          · cases ht : upB 68719476736 [Dv.tq m s.d s.q]
            · exact (StepR_no6 m s vd vq ld w hC h1 h2 h3 h4 ht).mono fun _ _ ⟨h, h'⟩ => ⟨by rw [h]; simp [Dv.stR, Dv.stB, upB_two, hC, h1, h2, h3, h4, ht], h'⟩
            · cases hb : Dv.rotB (Dv.stN m s vd vq ld)
              · exact (StepR_go m s vd vq ld w hC h1 h2 h3 h4 ht _ hb).mono fun _ _ ⟨h, h'⟩ => ⟨by rw [h]; simp [Dv.stR, Dv.stB, upB_two, hC, h1, h2, h3, h4, ht, hb], h'⟩
              · exact (StepR_go m s vd vq ld w hC h1 h2 h3 h4 ht _ hb).mono fun _ _ ⟨h, h'⟩ => ⟨by rw [h]; simp [Dv.stR, Dv.stB, upB_two, hC, h1, h2, h3, h4, ht, hb], h'⟩
end Go.Proofs.Ytcneohhfnnelgaa
