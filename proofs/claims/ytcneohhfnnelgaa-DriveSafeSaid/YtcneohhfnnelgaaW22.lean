/- The contract of Step of drive, where it steps. -/
import Derived.Test.YtcneohhfnnelgaaW21
import Derived.Deep.RegionHeld3
namespace Go.Proofs.Ytcneohhfnnelgaa
open Go.RowKit
set_option linter.unusedVariables false

theorem i64_and65535 (n : Int) : bits .and .i64 n 65535 = n % 65536 := by
  have h : (BitVec.ofInt 64 65535).toNat = 2 ^ 16 - 1 := by decide
  have key : (BitVec.ofInt 64 n &&& BitVec.ofInt 64 65535).toNat = (n % ((2 ^ 64 : Nat) : Int)).toNat % 2 ^ 16 := by
    rw [BitVec.toNat_and, BitVec.toNat_ofInt, h, Nat.and_two_pow_sub_one_eq_mod]
  show IntKind.i64.wrap ((BitVec.ofInt 64 n &&& BitVec.ofInt 64 65535).toNat : Nat) = n % 65536
  rw [key, IntKind.wrap_i64]
  omega

set_option maxHeartbeats 2000000 in
set_option maxRecDepth 100000 in
theorem Step_no5 (m : Mot) (s : Rot) (vd vq ld : Int) (w : World) (hC : Dv.chkB m = true) (h1 : Dv.rotB s = true) (h2 : upB 1073741824 [vd, vq] = true) (h3 : upB 68719476736 [ld] = true) (ht : upB 68719476736 [Dv.tq m s.d s.q] = false) :
    Calls Try.prog 50 #[.agg #[.int .i64 m.r, .int .i64 m.ld, .int .i64 m.lq, .int .i64 m.fx, .int .i64 m.po, .int .i64 m.mi, .int .i64 m.sp, .int .i64 m.dr, .int .i64 m.cu, .int .i64 m.fa], .agg #[.int .i64 s.d, .int .i64 s.q, .int .i64 s.w, .int .i64 s.a], .int .i64 vd, .int .i64 vq, .int .i64 ld] w fun e w' => e = .returned (.tuple #[.agg #[.int .i64 rot0.d, .int .i64 rot0.q, .int .i64 rot0.w, .int .i64 rot0.a], .int .i64 4]) ∧ Below w.heap.size w w' := by
  have HK := Lib.hid (Dv.chkB_iff.1 hC)
  obtain ⟨q1, q2, q3, q4⟩ := Dv.rotB_iff.1 h1
  go_enter Try.func50, Try.ntmps50
  go_wp2_with fail
  refine (Check_yes m _ hC).mono ?_
  rintro e w1 ⟨rfl, hb1⟩
  have I1 : Hid (StI w m s w1) := Lib.hid (after3 hb1)
  clear hb1
  obtain ⟨s0, s1, s2, s3⟩ := I1.out.s
  go_wp2_with fail
  refine (valid_c s _).mono ?_
  rintro e w2 ⟨rfl, hb2⟩
  have I2 := Lib.hid (I1.out.below hb2)
  clear hb2 s0 s1 s2 s3
  go_wp2_with fail
  refine (up2w _ vd vq _ _ (by simp) (by omega) (by omega)).mono ?_
  rintro e w3 ⟨rfl, hb3⟩
  have I3 := Lib.hid (I2.out.below hb3)
  clear hb3
  go_wp2_with fail
  refine (up1w _ ld _ _ (by simp) (by omega) (by omega)).mono ?_
  rintro e w4 ⟨rfl, hb4⟩
  have I4 := Lib.hid (I3.out.below hb4)
  clear hb4
  obtain ⟨c0, c1, c2, c3, c4, c5, c6, c7, c8, c9⟩ := I4.out.m
  go_wp2_with fail
  refine gen_world (fun W => StI w m s W ∧ Blk W w4.heap.size 110 m.cs) ⟨I4.out.alloc _, Blk.new' _ _ _⟩ ?_
  rintro w5 ⟨i5, g5⟩
  have I5 := Lib.hid (And.intro i5 g5)
  obtain ⟨s0, s1, s2, s3⟩ := I5.out.1.s
  have z1 := I5.out.2.lt
  have z2 := I5.out.1.lt
  have z3 : w.heap.size + 1 < w5.heap.size := by omega
  clear c0 c1 c2 c3 c4 c5 c6 c7 c8 c9 i5 g5
  obtain ⟨c0, c1, c2, c3, c4, c5, c6, c7, c8, c9⟩ := motOf I5.out.2
  refine wp_region_past (by kernel_rfl) (by kernel_rfl) ?_
  repeat (go_big_quiet_step (first | (go_at_call 69; exact past_same (div_c _ _ _ (by omega) (by omega) (by omega))) | (go_at_call 100; exact past_below (torque_c m s.d s.q _ HK.out q1 q2))))
  refine wpQuiet_nil ?_
  intro x
  have I6 := Lib.hid (And.intro (I5.out.1.below x.far) (I5.out.2.below x.far I5.out.2.lt))
  generalize x.w = w6 at I6 ⊢
  clear c0 c1 c2 c3 c4 c5 c6 c7 c8 c9 s0 s1 s2 s3 z1 z2 z3
  go_wp2_with fail
  refine (up1w _ (Dv.tq m s.d s.q) _ _ (by simp) (by omega) (by omega)).mono ?_
  rintro e w7 ⟨rfl, hb7⟩
  have I7 := Lib.hid (And.intro (I6.out.1.below hb7) (I6.out.2.below hb7 I6.out.2.lt))
  clear hb7
  obtain ⟨r0, r1, r2, r3⟩ := I7.out.1.r
  obtain ⟨f0, f1, f2, f3⟩ := I7.out.1.f
  go_wp2
  exact bodyPost_ret (v := .tuple #[.agg #[.int .i64 rot0.d, .int .i64 rot0.q, .int .i64 rot0.w, .int .i64 rot0.a], .int .i64 4]) (by simp [results, Try.results50, go_sem, r0, r1, r2, r3]; exact ⟨rfl, rfl, rfl, rfl⟩) rfl ⟨rfl, below_put4 I7.out.1.2.2.2 (by omega) _ _ _ _⟩
end Go.Proofs.Ytcneohhfnnelgaa
