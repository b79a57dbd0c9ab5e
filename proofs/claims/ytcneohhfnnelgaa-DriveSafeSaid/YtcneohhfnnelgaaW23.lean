/- The contract of Step of drive, the way on which it steps. -/
import Derived.Test.YtcneohhfnnelgaaW22
import Derived.Test.YtcneohhfnnelgaaR4
namespace Go.Proofs.Ytcneohhfnnelgaa
open Go.RowKit
set_option linter.unusedVariables false

set_option maxHeartbeats 2000000 in
set_option maxRecDepth 100000 in
theorem Step_go (m : Mot) (s : Rot) (vd vq ld : Int) (w : World) (hC : Dv.chkB m = true) (h1 : Dv.rotB s = true) (h2 : upB 1073741824 [vd, vq] = true) (h3 : upB 68719476736 [ld] = true) (ht : upB 68719476736 [Dv.tq m s.d s.q] = true) (b : Bool) (hb2 : Dv.rotB (Dv.stN m s vd vq ld) = b) :
    Calls Try.prog 50 #[.agg #[.int .i64 m.r, .int .i64 m.ld, .int .i64 m.lq, .int .i64 m.fx, .int .i64 m.po, .int .i64 m.mi, .int .i64 m.sp, .int .i64 m.dr, .int .i64 m.cu, .int .i64 m.fa], .agg #[.int .i64 s.d, .int .i64 s.q, .int .i64 s.w, .int .i64 s.a], .int .i64 vd, .int .i64 vq, .int .i64 ld] w fun e w' => e = .returned (.tuple #[.agg #[.int .i64 (if b = true then Dv.stN m s vd vq ld else rot0).d, .int .i64 (if b = true then Dv.stN m s vd vq ld else rot0).q, .int .i64 (if b = true then Dv.stN m s vd vq ld else rot0).w, .int .i64 (if b = true then Dv.stN m s vd vq ld else rot0).a], .int .i64 (if b = true then 0 else 4)]) ∧ Below w.heap.size w w' := by
  have HK := Lib.hid (Dv.chkB_iff.1 hC)
  obtain ⟨q1, q2, q3, q4⟩ := Dv.rotB_iff.1 h1
  go_enter Try.func50, Try.ntmps50
  go_wp2_with fail
  refine (Check_yes m _ hC).mono ?_
  rintro e w1 ⟨rfl, hb1⟩
  have I1 : Hid (StI w m s w1) := Lib.hid (after3 hb1)
  clear hb1
  obtain ⟨s0, s1, s2, s3⟩ := I1.out.s
  go_wp2_with fail
  refine (valid_c s _).mono ?_
  rintro e w2 ⟨rfl, hb2⟩
  have I2 := Lib.hid (I1.out.below hb2)
  clear hb2 s0 s1 s2 s3
  go_wp2_with fail
  refine (up2w _ vd vq _ _ (by simp) (by omega) (by omega)).mono ?_
  rintro e w3 ⟨rfl, hb3⟩
  have I3 := Lib.hid (I2.out.below hb3)
  clear hb3
  go_wp2_with fail
  refine (up1w _ ld _ _ (by simp) (by omega) (by omega)).mono ?_
  rintro e w4 ⟨rfl, hb4⟩
  have I4 := Lib.hid (I3.out.below hb4)
  clear hb4
  obtain ⟨c0, c1, c2, c3, c4, c5, c6, c7, c8, c9⟩ := I4.out.m
  go_wp2_with fail
  refine gen_world (fun W => StI w m s W ∧ Blk W w4.heap.size 110 m.cs) ⟨I4.out.alloc _, Blk.new' _ _ _⟩ ?_
  rintro w5 ⟨i5, g5⟩
  have I5 := Lib.hid (And.intro i5 g5)
  obtain ⟨s0, s1, s2, s3⟩ := I5.out.1.s
  have z1 := I5.out.2.lt
  have z2 := I5.out.1.lt
  have z3 : w.heap.size + 1 < w5.heap.size := by omega
  clear c0 c1 c2 c3 c4 c5 c6 c7 c8 c9 i5 g5
  obtain ⟨c0, c1, c2, c3, c4, c5, c6, c7, c8, c9⟩ := motOf I5.out.2
  refine wp_region_past (by kernel_rfl) (by kernel_rfl) ?_
  repeat (go_big_quiet_step (first | (go_at_call 69; exact past_same (div_c _ _ _ (by omega) (by omega) (by omega))) | (go_at_call 100; exact past_below (torque_c m s.d s.q _ HK.out q1 q2))))
  refine wpQuiet_nil ?_
  intro x
  have I6 := Lib.hid (And.intro (I5.out.1.below x.far) (I5.out.2.below x.far I5.out.2.lt))
  generalize x.w = w6 at I6 ⊢
  clear c0 c1 c2 c3 c4 c5 c6 c7 c8 c9 s0 s1 s2 s3 z1 z2 z3
  go_wp2_with fail
  refine (up1w _ (Dv.tq m s.d s.q) _ _ (by simp) (by omega) (by omega)).mono ?_
  rintro e w7 ⟨rfl, hb7⟩
  have I7 := Lib.hid (And.intro (I6.out.1.below hb7) (I6.out.2.below hb7 I6.out.2.lt))
  clear hb7
  obtain ⟨s0, s1, s2, s3⟩ := I7.out.1.s
  obtain ⟨c0, c1, c2, c3, c4, c5, c6, c7, c8, c9⟩ := motOf I7.out.2
  have z1 := I7.out.2.lt
  have z2 := I7.out.1.lt
  have z3 : w.heap.size + 1 < w7.heap.size := by omega
  go_wp2_with fail
  refine (inner_c m s.d s.q (s.w / 1000) _ HK.out q1 q2 (by omega)).mono ?_
  rintro e w8 ⟨rfl, hb8⟩
  have I8 := Lib.hid (And.intro (I7.out.1.below hb8) (I7.out.2.below hb8 I7.out.2.lt))
  clear hb8 c0 c1 c2 c3 c4 c5 c6 c7 c8 c9 s0 s1 s2 s3 z1 z2 z3
  go_wp2_with fail
  refine wp_region_float 58 _ (.cells #[.int .i64 0, .int .i64 0, .int .i64 0, .int .i64 0] 57) 18 ?af (by kernel_rfl) rfl rfl rfl (by kernel_rfl) (fun _ _ => by kernel_rfl) ?walk ?tail
  case walk =>
    intro V hV
    have IV := Lib.hid (And.intro (I8.out.1.below hV) (I8.out.2.below hV I8.out.2.lt))
    obtain ⟨s0, s1, s2, s3⟩ := IV.out.1.s
    obtain ⟨c0, c1, c2, c3, c4, c5, c6, c7, c8, c9⟩ := motOf IV.out.2
    have z1 := IV.out.2.lt
    have z2 := IV.out.1.lt
    have z3 : w.heap.size + 1 < V.heap.size := by omega
    obtain ⟨p1, p2, p3, p4, p5, p6, p7, p8⟩ := Dv.st_prods HK.out h1 (upB2.1 h2) (upB1.1 h3)
    have k1 := HK.out.2.1
    have k2 := HK.out.2.2.1
    have p9 := Dv.tq_bd HK.out q1 q2
    have p10 := Dv.in_bd HK.out q1 q2 p1
    have p11 := upB2.1 h2
    have p12 := upB1.1 h3
    have eand := i64_and65535 (s.a + s.w * m.mi * 10430378 / 1000000000000)
    simp only [List.take_succ_cons, List.take_zero]
    repeat (go_big_quiet_step ((go_at_call 69; exact past_same (div_c _ _ _ (by omega) (by omega) (by omega)))))
    refine wpQuiet_nil ?_
    rfl
  case tail =>
    intro g w9 hg hb9 hcell
    have H9 : Blk w9 g 57 rot0.cs := hcell
    have I9 := Lib.hid (And.intro (I8.out.1.below hb9) (I8.out.2.below hb9 I8.out.2.lt))
    obtain ⟨g0, g1, g2, g3⟩ := rotOf H9
    obtain ⟨f0, f1, f2, f3⟩ := freeOf H9
    simp only [List.drop_succ_cons, List.drop_zero]
    simp only [Act.put, List.setIfInBounds_toArray, List.set_cons_zero, List.set_cons_succ]
    go_wp2_with fail
    refine (valid_c (Dv.stN m s vd vq ld) _).mono ?_
    rintro e w10 ⟨rfl, hb10⟩
    have HN := (((((H9.setCell 0 (.int .i64 (Dv.stN m s vd vq ld).d)).setCell 1 (.int .i64 (Dv.stN m s vd vq ld).q)).setCell 2 (.int .i64 (Dv.stN m s vd vq ld).w)).setCell 3 (.int .i64 (Dv.stN m s vd vq ld).a)))
    have HN2 : Blk w10 g 57 (Dv.stN m s vd vq ld).cs := HN.below hb10 HN.lt
    have hgw : w.heap.size + 1 + 1 < g := by have := I8.out.1.lt; omega
    have HR : Blk w10 (w.heap.size + 1 + 1) 57 rot0.cs := ((((I9.out.1.2.2.1.setCell_ne (p := ⟨g, 0, none⟩) (by simp; omega) _).setCell_ne (p := ⟨g, 1, none⟩) (by simp; omega) _).setCell_ne (p := ⟨g, 2, none⟩) (by simp; omega) _).setCell_ne (p := ⟨g, 3, none⟩) (by simp; omega) _).below hb10 (by simp; have := I9.out.1.lt; omega)
    have HB := Lib.hid ((below_put4 I9.out.1.2.2.2 (by omega) _ _ _ _ : Below w.heap.size w ((((w9.setCell ⟨g, 0, none⟩ (.int .i64 (Dv.stN m s vd vq ld).d)).setCell ⟨g, 1, none⟩ (.int .i64 (Dv.stN m s vd vq ld).q)).setCell ⟨g, 2, none⟩ (.int .i64 (Dv.stN m s vd vq ld).w)).setCell ⟨g, 3, none⟩ (.int .i64 (Dv.stN m s vd vq ld).a))).trans (hb10.mono (by simp; have := I9.out.1.lt; omega)))
    clear g0 g1 g2 g3 f0 f1 f2 f3 hb10 HN
    obtain ⟨g0, g1, g2, g3⟩ := rotOf HN2
    obtain ⟨r0, r1, r2, r3⟩ := rotOf HR
    obtain ⟨f0, f1, f2, f3⟩ := freeOf HR
    cases b
    · go_wp2
      exact bodyPost_ret (v := .tuple #[.agg #[.int .i64 rot0.d, .int .i64 rot0.q, .int .i64 rot0.w, .int .i64 rot0.a], .int .i64 4]) (by simp [results, Try.results50, go_sem, r0, r1, r2, r3]; exact ⟨rfl, rfl, rfl, rfl⟩) rfl ⟨rfl, below_put4 HB.out (by omega) _ _ _ _⟩
    · go_wp2
      refine bodyPost_ret (v := .tuple #[.agg #[.int .i64 (Dv.stN m s vd vq ld).d, .int .i64 (Dv.stN m s vd vq ld).q, .int .i64 (Dv.stN m s vd vq ld).w, .int .i64 (Dv.stN m s vd vq ld).a], .int .i64 0]) (by simp [results, Try.results50, go_sem, r0, r1, r2, r3]) rfl ⟨rfl, below_put4 HB.out (by omega) _ _ _ _⟩
end Go.Proofs.Ytcneohhfnnelgaa
