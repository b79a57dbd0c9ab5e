/- Contract of Apply of coulombref06; Apply of both. -/
import Derived.Test.YtcneohhfnnelgaaW26
namespace Go.Proofs.Ytcneohhfnnelgaa
open Go.RowKit
set_option linter.unusedVariables false
theorem upB_four (m a b c d : Int) : upB m [a, b, c, d] = (upB m [a] && (upB m [b] && (upB m [c] && upB m [d]))) := by simp [upB]

set_option maxHeartbeats 2000000 in
set_option maxRecDepth 100000 in
theorem ApplyR_no1 (m : Mot) (A : Option Addr) (xs : List Int) (cap : Nat) (w : World) (hx : IntsAt w A xs) (hC : Dv.chkB m = false) :
    Calls Try.prog 53 #[.agg #[.int .i64 m.r, .int .i64 m.ld, .int .i64 m.lq, .int .i64 m.fx, .int .i64 m.po, .int .i64 m.mi, .int .i64 m.sp, .int .i64 m.dr, .int .i64 m.cu, .int .i64 m.fa], .slice A xs.length cap] w fun e w' => e = .returned (.tuple #[.agg #[.int .i64 mot0.r, .int .i64 mot0.ld, .int .i64 mot0.lq, .int .i64 mot0.fx, .int .i64 mot0.po, .int .i64 mot0.mi, .int .i64 mot0.sp, .int .i64 mot0.dr, .int .i64 mot0.cu, .int .i64 mot0.fa], .int .i64 2]) ∧ Below w.heap.size w w' := by
  have HX := Lib.hid hx
  clear hx
  go_enter Try.func53, Try.ntmps53
  go_wp2_with fail
  refine (CheckR_no m _ hC).mono ?_
  rintro e w2 ⟨rfl, hb2⟩
  have I2 := Lib.hid ((ApI.start (mm := m) HX.out).below hb2)
  clear hb2
  obtain ⟨r0, r1, r2, r3, r4, r5, r6, r7, r8, r9⟩ := motOf I2.out.2.1
  obtain ⟨g0, g1, g2, g3, g4, g5, g6, g7, g8, g9⟩ := freeMot I2.out.2.1
  go_wp2
  exact bodyPost_ret (v := .tuple #[.agg #[.int .i64 mot0.r, .int .i64 mot0.ld, .int .i64 mot0.lq, .int .i64 mot0.fx, .int .i64 mot0.po, .int .i64 mot0.mi, .int .i64 mot0.sp, .int .i64 mot0.dr, .int .i64 mot0.cu, .int .i64 mot0.fa], .int .i64 2]) (by simp [results, Try.results53, go_sem, r0, r1, r2, r3, r4, r5, r6, r7, r8, r9]; exact ⟨rfl, rfl, rfl, rfl, rfl, rfl, rfl, rfl, rfl, rfl⟩) rfl ⟨rfl, below_put10 I2.out.2.2.2 (by omega) _ _ _ _ _ _ _ _ _ _⟩

set_option maxHeartbeats 2000000 in
set_option maxRecDepth 100000 in
theorem ApplyR_no2 (m : Mot) (A : Option Addr) (xs : List Int) (cap : Nat) (w : World) (hx : IntsAt w A xs) (hC : Dv.chkB m = true) (hl : ((xs.length : Int) != 4) = true) :
    Calls Try.prog 53 #[.agg #[.int .i64 m.r, .int .i64 m.ld, .int .i64 m.lq, .int .i64 m.fx, .int .i64 m.po, .int .i64 m.mi, .int .i64 m.sp, .int .i64 m.dr, .int .i64 m.cu, .int .i64 m.fa], .slice A xs.length cap] w fun e w' => e = .returned (.tuple #[.agg #[.int .i64 mot0.r, .int .i64 mot0.ld, .int .i64 mot0.lq, .int .i64 mot0.fx, .int .i64 mot0.po, .int .i64 mot0.mi, .int .i64 mot0.sp, .int .i64 mot0.dr, .int .i64 mot0.cu, .int .i64 mot0.fa], .int .i64 2]) ∧ Below w.heap.size w w' := by
  have HX := Lib.hid hx
  clear hx
  go_enter Try.func53, Try.ntmps53
  go_wp2_with fail
  refine (CheckR_yes m _ hC).mono ?_
  rintro e w2 ⟨rfl, hb2⟩
  have I2 := Lib.hid ((ApI.start (mm := m) HX.out).below hb2)
  clear hb2
  obtain ⟨r0, r1, r2, r3, r4, r5, r6, r7, r8, r9⟩ := motOf I2.out.2.1
  obtain ⟨g0, g1, g2, g3, g4, g5, g6, g7, g8, g9⟩ := freeMot I2.out.2.1
  go_wp2
  exact bodyPost_ret (v := .tuple #[.agg #[.int .i64 mot0.r, .int .i64 mot0.ld, .int .i64 mot0.lq, .int .i64 mot0.fx, .int .i64 mot0.po, .int .i64 mot0.mi, .int .i64 mot0.sp, .int .i64 mot0.dr, .int .i64 mot0.cu, .int .i64 mot0.fa], .int .i64 2]) (by simp [results, Try.results53, go_sem, r0, r1, r2, r3, r4, r5, r6, r7, r8, r9]; exact ⟨rfl, rfl, rfl, rfl, rfl, rfl, rfl, rfl, rfl, rfl⟩) rfl ⟨rfl, below_put10 I2.out.2.2.2 (by omega) _ _ _ _ _ _ _ _ _ _⟩

set_option maxHeartbeats 2000000 in
set_option maxRecDepth 100000 in
theorem ApplyR_no30 (m : Mot) (A : Option Addr) (a b c d : Int) (cap : Nat) (w : World) (hx : IntsAt w A [a, b, c, d]) (hC : Dv.chkB m = true) (h0 : upB 1099511627776 [a] = false) :
    Calls Try.prog 53 #[.agg #[.int .i64 m.r, .int .i64 m.ld, .int .i64 m.lq, .int .i64 m.fx, .int .i64 m.po, .int .i64 m.mi, .int .i64 m.sp, .int .i64 m.dr, .int .i64 m.cu, .int .i64 m.fa], .slice A 4 cap] w fun e w' => e = .returned (.tuple #[.agg #[.int .i64 mot0.r, .int .i64 mot0.ld, .int .i64 mot0.lq, .int .i64 mot0.fx, .int .i64 mot0.po, .int .i64 mot0.mi, .int .i64 mot0.sp, .int .i64 mot0.dr, .int .i64 mot0.cu, .int .i64 mot0.fa], .int .i64 2]) ∧ Below w.heap.size w w' := by
  have HX := Lib.hid hx
  clear hx
  go_enter Try.func53, Try.ntmps53
  go_wp2_with fail
  refine (CheckR_yes m _ hC).mono ?_
  rintro e w2 ⟨rfl, hb2⟩
  have I2 := Lib.hid ((ApI.start (mm := m) HX.out).below hb2)
  clear hb2
  obtain ⟨r0, r1, r2, r3, r4, r5, r6, r7, r8, r9⟩ := motOf I2.out.2.1
  obtain ⟨g0, g1, g2, g3, g4, g5, g6, g7, g8, g9⟩ := freeMot I2.out.2.1
  obtain ⟨ad, rfl, zad, x0, x1, x2, x3⟩ := I2.out.2.2.1.four
  go_wp2_with fail
  refine wp_loop_rounds 5 ?_
  rw [rounds_succ]
  go_wp2_with (go_at_call 78; refine (quantity_c _ _).mono ?_; rintro e w' ⟨rfl, rfl⟩)
  exact bodyPost_ret (v := .tuple #[.agg #[.int .i64 mot0.r, .int .i64 mot0.ld, .int .i64 mot0.lq, .int .i64 mot0.fx, .int .i64 mot0.po, .int .i64 mot0.mi, .int .i64 mot0.sp, .int .i64 mot0.dr, .int .i64 mot0.cu, .int .i64 mot0.fa], .int .i64 2]) (by simp [results, Try.results53, go_sem, r0, r1, r2, r3, r4, r5, r6, r7, r8, r9]; exact ⟨rfl, rfl, rfl, rfl, rfl, rfl, rfl, rfl, rfl, rfl⟩) rfl ⟨rfl, below_put10 I2.out.2.2.2 (by omega) _ _ _ _ _ _ _ _ _ _⟩

set_option maxHeartbeats 2000000 in
set_option maxRecDepth 100000 in
theorem ApplyR_no31 (m : Mot) (A : Option Addr) (a b c d : Int) (cap : Nat) (w : World) (hx : IntsAt w A [a, b, c, d]) (hC : Dv.chkB m = true) (h0 : upB 1099511627776 [a] = true) (h1 : upB 1099511627776 [b] = false) :
    Calls Try.prog 53 #[.agg #[.int .i64 m.r, .int .i64 m.ld, .int .i64 m.lq, .int .i64 m.fx, .int .i64 m.po, .int .i64 m.mi, .int .i64 m.sp, .int .i64 m.dr, .int .i64 m.cu, .int .i64 m.fa], .slice A 4 cap] w fun e w' => e = .returned (.tuple #[.agg #[.int .i64 mot0.r, .int .i64 mot0.ld, .int .i64 mot0.lq, .int .i64 mot0.fx, .int .i64 mot0.po, .int .i64 mot0.mi, .int .i64 mot0.sp, .int .i64 mot0.dr, .int .i64 mot0.cu, .int .i64 mot0.fa], .int .i64 2]) ∧ Below w.heap.size w w' := by
  have HX := Lib.hid hx
  clear hx
  go_enter Try.func53, Try.ntmps53
  go_wp2_with fail
  refine (CheckR_yes m _ hC).mono ?_
  rintro e w2 ⟨rfl, hb2⟩
  have I2 := Lib.hid ((ApI.start (mm := m) HX.out).below hb2)
  clear hb2
  obtain ⟨r0, r1, r2, r3, r4, r5, r6, r7, r8, r9⟩ := motOf I2.out.2.1
  obtain ⟨g0, g1, g2, g3, g4, g5, g6, g7, g8, g9⟩ := freeMot I2.out.2.1
  obtain ⟨ad, rfl, zad, x0, x1, x2, x3⟩ := I2.out.2.2.1.four
  go_wp2_with fail
  refine wp_loop_rounds 5 ?_
  rw [rounds_succ]
  go_wp2_with (go_at_call 78; refine (quantity_c _ _).mono ?_; rintro e w' ⟨rfl, rfl⟩)
  rw [rounds_succ]
  go_wp2_with (go_at_call 78; refine (quantity_c _ _).mono ?_; rintro e w' ⟨rfl, rfl⟩)
  exact bodyPost_ret (v := .tuple #[.agg #[.int .i64 mot0.r, .int .i64 mot0.ld, .int .i64 mot0.lq, .int .i64 mot0.fx, .int .i64 mot0.po, .int .i64 mot0.mi, .int .i64 mot0.sp, .int .i64 mot0.dr, .int .i64 mot0.cu, .int .i64 mot0.fa], .int .i64 2]) (by simp [results, Try.results53, go_sem, r0, r1, r2, r3, r4, r5, r6, r7, r8, r9]; exact ⟨rfl, rfl, rfl, rfl, rfl, rfl, rfl, rfl, rfl, rfl⟩) rfl ⟨rfl, below_put10 I2.out.2.2.2 (by omega) _ _ _ _ _ _ _ _ _ _⟩

set_option maxHeartbeats 2000000 in
set_option maxRecDepth 100000 in
theorem ApplyR_no32 (m : Mot) (A : Option Addr) (a b c d : Int) (cap : Nat) (w : World) (hx : IntsAt w A [a, b, c, d]) (hC : Dv.chkB m = true) (h0 : upB 1099511627776 [a] = true) (h1 : upB 1099511627776 [b] = true) (h2 : upB 1099511627776 [c] = false) :
    Calls Try.prog 53 #[.agg #[.int .i64 m.r, .int .i64 m.ld, .int .i64 m.lq, .int .i64 m.fx, .int .i64 m.po, .int .i64 m.mi, .int .i64 m.sp, .int .i64 m.dr, .int .i64 m.cu, .int .i64 m.fa], .slice A 4 cap] w fun e w' => e = .returned (.tuple #[.agg #[.int .i64 mot0.r, .int .i64 mot0.ld, .int .i64 mot0.lq, .int .i64 mot0.fx, .int .i64 mot0.po, .int .i64 mot0.mi, .int .i64 mot0.sp, .int .i64 mot0.dr, .int .i64 mot0.cu, .int .i64 mot0.fa], .int .i64 2]) ∧ Below w.heap.size w w' := by
  have HX := Lib.hid hx
  clear hx
  go_enter Try.func53, Try.ntmps53
  go_wp2_with fail
  refine (CheckR_yes m _ hC).mono ?_
  rintro e w2 ⟨rfl, hb2⟩
  have I2 := Lib.hid ((ApI.start (mm := m) HX.out).below hb2)
  clear hb2
  obtain ⟨r0, r1, r2, r3, r4, r5, r6, r7, r8, r9⟩ := motOf I2.out.2.1
  obtain ⟨g0, g1, g2, g3, g4, g5, g6, g7, g8, g9⟩ := freeMot I2.out.2.1
  obtain ⟨ad, rfl, zad, x0, x1, x2, x3⟩ := I2.out.2.2.1.four
  go_wp2_with fail
  refine wp_loop_rounds 5 ?_
  rw [rounds_succ]
  go_wp2_with (go_at_call 78; refine (quantity_c _ _).mono ?_; rintro e w' ⟨rfl, rfl⟩)
  rw [rounds_succ]
  go_wp2_with (go_at_call 78; refine (quantity_c _ _).mono ?_; rintro e w' ⟨rfl, rfl⟩)
  rw [rounds_succ]
  go_wp2_with (go_at_call 78; refine (quantity_c _ _).mono ?_; rintro e w' ⟨rfl, rfl⟩)
  exact bodyPost_ret (v := .tuple #[.agg #[.int .i64 mot0.r, .int .i64 mot0.ld, .int .i64 mot0.lq, .int .i64 mot0.fx, .int .i64 mot0.po, .int .i64 mot0.mi, .int .i64 mot0.sp, .int .i64 mot0.dr, .int .i64 mot0.cu, .int .i64 mot0.fa], .int .i64 2]) (by simp [results, Try.results53, go_sem, r0, r1, r2, r3, r4, r5, r6, r7, r8, r9]; exact ⟨rfl, rfl, rfl, rfl, rfl, rfl, rfl, rfl, rfl, rfl⟩) rfl ⟨rfl, below_put10 I2.out.2.2.2 (by omega) _ _ _ _ _ _ _ _ _ _⟩

set_option maxHeartbeats 2000000 in
set_option maxRecDepth 100000 in
theorem ApplyR_no33 (m : Mot) (A : Option Addr) (a b c d : Int) (cap : Nat) (w : World) (hx : IntsAt w A [a, b, c, d]) (hC : Dv.chkB m = true) (h0 : upB 1099511627776 [a] = true) (h1 : upB 1099511627776 [b] = true) (h2 : upB 1099511627776 [c] = true) (h3 : upB 1099511627776 [d] = false) :
    Calls Try.prog 53 #[.agg #[.int .i64 m.r, .int .i64 m.ld, .int .i64 m.lq, .int .i64 m.fx, .int .i64 m.po, .int .i64 m.mi, .int .i64 m.sp, .int .i64 m.dr, .int .i64 m.cu, .int .i64 m.fa], .slice A 4 cap] w fun e w' => e = .returned (.tuple #[.agg #[.int .i64 mot0.r, .int .i64 mot0.ld, .int .i64 mot0.lq, .int .i64 mot0.fx, .int .i64 mot0.po, .int .i64 mot0.mi, .int .i64 mot0.sp, .int .i64 mot0.dr, .int .i64 mot0.cu, .int .i64 mot0.fa], .int .i64 2]) ∧ Below w.heap.size w w' := by
  have HX := Lib.hid hx
  clear hx
  go_enter Try.func53, Try.ntmps53
  go_wp2_with fail
  refine (CheckR_yes m _ hC).mono ?_
  rintro e w2 ⟨rfl, hb2⟩
  have I2 := Lib.hid ((ApI.start (mm := m) HX.out).below hb2)
  clear hb2
  obtain ⟨r0, r1, r2, r3, r4, r5, r6, r7, r8, r9⟩ := motOf I2.out.2.1
  obtain ⟨g0, g1, g2, g3, g4, g5, g6, g7, g8, g9⟩ := freeMot I2.out.2.1
  obtain ⟨ad, rfl, zad, x0, x1, x2, x3⟩ := I2.out.2.2.1.four
  go_wp2_with fail
  refine wp_loop_rounds 5 ?_
  rw [rounds_succ]
  go_wp2_with (go_at_call 78; refine (quantity_c _ _).mono ?_; rintro e w' ⟨rfl, rfl⟩)
  rw [rounds_succ]
  go_wp2_with (go_at_call 78; refine (quantity_c _ _).mono ?_; rintro e w' ⟨rfl, rfl⟩)
  rw [rounds_succ]
  go_wp2_with (go_at_call 78; refine (quantity_c _ _).mono ?_; rintro e w' ⟨rfl, rfl⟩)
  rw [rounds_succ]
  go_wp2_with (go_at_call 78; refine (quantity_c _ _).mono ?_; rintro e w' ⟨rfl, rfl⟩)
  exact bodyPost_ret (v := .tuple #[.agg #[.int .i64 mot0.r, .int .i64 mot0.ld, .int .i64 mot0.lq, .int .i64 mot0.fx, .int .i64 mot0.po, .int .i64 mot0.mi, .int .i64 mot0.sp, .int .i64 mot0.dr, .int .i64 mot0.cu, .int .i64 mot0.fa], .int .i64 2]) (by simp [results, Try.results53, go_sem, r0, r1, r2, r3, r4, r5, r6, r7, r8, r9]; exact ⟨rfl, rfl, rfl, rfl, rfl, rfl, rfl, rfl, rfl, rfl⟩) rfl ⟨rfl, below_put10 I2.out.2.2.2 (by omega) _ _ _ _ _ _ _ _ _ _⟩

set_option maxHeartbeats 4000000 in
set_option maxRecDepth 100000 in
theorem ApplyR_go (m : Mot) (A : Option Addr) (a b c d : Int) (cap : Nat) (w : World) (hx : IntsAt w A [a, b, c, d]) (hC : Dv.chkB m = true) (h0 : upB 1099511627776 [a] = true) (h1 : upB 1099511627776 [b] = true) (h2 : upB 1099511627776 [c] = true) (h3 : upB 1099511627776 [d] = true) (q : Bool) (hq : Dv.chkB (m.plus a b c d) = q) :
    Calls Try.prog 53 #[.agg #[.int .i64 m.r, .int .i64 m.ld, .int .i64 m.lq, .int .i64 m.fx, .int .i64 m.po, .int .i64 m.mi, .int .i64 m.sp, .int .i64 m.dr, .int .i64 m.cu, .int .i64 m.fa], .slice A 4 cap] w fun e w' => e = .returned (.tuple #[.agg #[.int .i64 (if q = true then m.plus a b c d else mot0).r, .int .i64 (if q = true then m.plus a b c d else mot0).ld, .int .i64 (if q = true then m.plus a b c d else mot0).lq, .int .i64 (if q = true then m.plus a b c d else mot0).fx, .int .i64 (if q = true then m.plus a b c d else mot0).po, .int .i64 (if q = true then m.plus a b c d else mot0).mi, .int .i64 (if q = true then m.plus a b c d else mot0).sp, .int .i64 (if q = true then m.plus a b c d else mot0).dr, .int .i64 (if q = true then m.plus a b c d else mot0).cu, .int .i64 (if q = true then m.plus a b c d else mot0).fa], .int .i64 (if q = true then 0 else 3)]) ∧ Below w.heap.size w w' := by
  have HK := Lib.hid (Dv.chkB_iff.1 hC)
  have HX := Lib.hid hx
  clear hx
  go_enter Try.func53, Try.ntmps53
  go_wp2_with fail
  refine (CheckR_yes m _ hC).mono ?_
  rintro e w2 ⟨rfl, hb2⟩
  have I2 := Lib.hid ((ApI.start (mm := m) HX.out).below hb2)
  clear hb2
  obtain ⟨ad, rfl, i4⟩ := I2.out.2.2.1.four
  have X4 := Lib.hid i4
  obtain ⟨zad, x0, x1, x2, x3⟩ := i4
  obtain ⟨c0, c1, c2, c3, c4, c5, c6, c7, c8, c9⟩ := motOf I2.out.1
  go_wp2_with fail
  refine wp_loop_rounds 5 ?_
  rw [rounds_succ]
  go_wp2_with (go_at_call 78; refine (quantity_c _ _).mono ?_; rintro e w' ⟨rfl, rfl⟩)
  rw [rounds_succ]
  go_wp2_with (go_at_call 78; refine (quantity_c _ _).mono ?_; rintro e w' ⟨rfl, rfl⟩)
  rw [rounds_succ]
  go_wp2_with (go_at_call 78; refine (quantity_c _ _).mono ?_; rintro e w' ⟨rfl, rfl⟩)
  rw [rounds_succ]
  go_wp2_with (go_at_call 78; refine (quantity_c _ _).mono ?_; rintro e w' ⟨rfl, rfl⟩)
  rw [rounds_succ]
  go_wp2_with (go_at_call 78; refine (quantity_c _ _).mono ?_; rintro e w' ⟨rfl, rfl⟩)
  refine (plus_c m a b c d ad cap w2 HK.out X4.out (upB1.1 h0) (upB1.1 h1) (upB1.1 h2) (upB1.1 h3)).mono ?_
  rintro e w3 ⟨rfl, hb3⟩
  have I3 := Lib.hid (I2.out.below hb3)
  clear hb3 c0 c1 c2 c3 c4 c5 c6 c7 c8 c9 zad x0 x1 x2 x3 X4
  go_wp2_with fail
  cases q
  · refine (CheckR_no (m.plus a b c d) _ hq).mono ?_
    rintro e w4 ⟨rfl, hb4⟩
    have I4 := Lib.hid (I3.out.below hb4)
    clear hb4
    obtain ⟨r0, r1, r2, r3, r4, r5, r6, r7, r8, r9⟩ := motOf I4.out.2.1
    obtain ⟨g0, g1, g2, g3, g4, g5, g6, g7, g8, g9⟩ := freeMot I4.out.2.1
    go_wp2
    exact bodyPost_ret (v := .tuple #[.agg #[.int .i64 mot0.r, .int .i64 mot0.ld, .int .i64 mot0.lq, .int .i64 mot0.fx, .int .i64 mot0.po, .int .i64 mot0.mi, .int .i64 mot0.sp, .int .i64 mot0.dr, .int .i64 mot0.cu, .int .i64 mot0.fa], .int .i64 3]) (by simp [results, Try.results53, go_sem, r0, r1, r2, r3, r4, r5, r6, r7, r8, r9]; exact ⟨rfl, rfl, rfl, rfl, rfl, rfl, rfl, rfl, rfl, rfl⟩) rfl ⟨rfl, below_put10 I4.out.2.2.2 (by omega) _ _ _ _ _ _ _ _ _ _⟩
  · refine (CheckR_yes (m.plus a b c d) _ hq).mono ?_
    rintro e w4 ⟨rfl, hb4⟩
    have I4 := Lib.hid (I3.out.below hb4)
    clear hb4
    obtain ⟨c0, c1, c2, c3, c4, c5, c6, c7, c8, c9⟩ := motOf I4.out.1
    obtain ⟨ad', e', x4⟩ := I4.out.2.2.1.four
    cases e'
    have X4 := Lib.hid x4
    clear x4
    go_wp2_with fail
    refine (plus_c m a b c d ad cap w4 HK.out X4.out (upB1.1 h0) (upB1.1 h1) (upB1.1 h2) (upB1.1 h3)).mono ?_
    rintro e w5 ⟨rfl, hb5⟩
    have I5 := Lib.hid (I4.out.below hb5)
    clear hb5 c0 c1 c2 c3 c4 c5 c6 c7 c8 c9
    obtain ⟨r0, r1, r2, r3, r4, r5, r6, r7, r8, r9⟩ := motOf I5.out.2.1
    obtain ⟨g0, g1, g2, g3, g4, g5, g6, g7, g8, g9⟩ := freeMot I5.out.2.1
    go_wp2
    refine bodyPost_ret (v := .tuple #[.agg #[.int .i64 (m.plus a b c d).r, .int .i64 (m.plus a b c d).ld, .int .i64 (m.plus a b c d).lq, .int .i64 (m.plus a b c d).fx, .int .i64 (m.plus a b c d).po, .int .i64 (m.plus a b c d).mi, .int .i64 (m.plus a b c d).sp, .int .i64 (m.plus a b c d).dr, .int .i64 (m.plus a b c d).cu, .int .i64 (m.plus a b c d).fa], .int .i64 0]) (by simp [results, Try.results53, go_sem, r0, r1, r2, r3, r4, r5, r6, r7, r8, r9]; exact ⟨rfl, rfl, rfl, rfl, rfl, rfl⟩) rfl ⟨rfl, below_put10 I5.out.2.2.2 (by omega) _ _ _ _ _ _ _ _ _ _⟩

theorem Apply_c (m : Mot) (A : Option Addr) (xs : List Int) (cap : Nat) (w : World) (hx : IntsAt w A xs) (hll : xs.length ≤ 4611686018427387904) :
    Calls Try.prog 52 #[.agg #[.int .i64 m.r, .int .i64 m.ld, .int .i64 m.lq, .int .i64 m.fx, .int .i64 m.po, .int .i64 m.mi, .int .i64 m.sp, .int .i64 m.dr, .int .i64 m.cu, .int .i64 m.fa], .slice A xs.length cap] w fun e w' => e = .returned (.tuple #[.agg #[.int .i64 (Dv.apR m xs).1.r, .int .i64 (Dv.apR m xs).1.ld, .int .i64 (Dv.apR m xs).1.lq, .int .i64 (Dv.apR m xs).1.fx, .int .i64 (Dv.apR m xs).1.po, .int .i64 (Dv.apR m xs).1.mi, .int .i64 (Dv.apR m xs).1.sp, .int .i64 (Dv.apR m xs).1.dr, .int .i64 (Dv.apR m xs).1.cu, .int .i64 (Dv.apR m xs).1.fa], .int .i64 (Dv.apR m xs).2]) ∧ Below w.heap.size w w' := by
  cases hC : Dv.chkB m
  · exact (Apply_no1 m A xs cap w hx hC).mono fun _ _ ⟨h1, h2⟩ => ⟨by rw [h1]; simp [Dv.apR, Dv.apB, hC], h2⟩
  · by_cases hl : xs.length = 4
    · obtain ⟨a, b, c, d, rfl⟩ : ∃ a b c d, xs = [a, b, c, d] := by
        match xs, hl with
        | [a, b, c, d], _ => exact ⟨a, b, c, d, rfl⟩
      cases hu : upB 1099511627776 [a, b, c, d]
      · exact (Apply_no3 m A [a, b, c, d] cap w hx hC (by simp) (by simp) hu).mono fun _ _ ⟨h1, h2⟩ => ⟨by rw [h1]; simp [Dv.apR, Dv.apB, hC, hu], h2⟩
      · cases hq : Dv.chkB (m.plus a b c d)
        · exact (Apply_go m A a b c d cap w hx hC hu _ hq).mono fun _ _ ⟨h1, h2⟩ => ⟨by rw [h1]; simp [Dv.apR, Dv.apB, Dv.apM, hC, hu, hq], h2⟩
        · exact (Apply_go m A a b c d cap w hx hC hu _ hq).mono fun _ _ ⟨h1, h2⟩ => ⟨by rw [h1]; simp [Dv.apR, Dv.apB, Dv.apM, hC, hu, hq], h2⟩
    · exact (Apply_no2 m A xs cap w hx hC (by simp; omega)).mono fun _ _ ⟨h1, h2⟩ => ⟨by rw [h1]; simp [Dv.apR, Dv.apB, hC, hl], h2⟩

theorem ApplyR_c (m : Mot) (A : Option Addr) (xs : List Int) (cap : Nat) (w : World) (hx : IntsAt w A xs) (hll : xs.length ≤ 4611686018427387904) :
    Calls Try.prog 53 #[.agg #[.int .i64 m.r, .int .i64 m.ld, .int .i64 m.lq, .int .i64 m.fx, .int .i64 m.po, .int .i64 m.mi, .int .i64 m.sp, .int .i64 m.dr, .int .i64 m.cu, .int .i64 m.fa], .slice A xs.length cap] w fun e w' => e = .returned (.tuple #[.agg #[.int .i64 (Dv.apR m xs).1.r, .int .i64 (Dv.apR m xs).1.ld, .int .i64 (Dv.apR m xs).1.lq, .int .i64 (Dv.apR m xs).1.fx, .int .i64 (Dv.apR m xs).1.po, .int .i64 (Dv.apR m xs).1.mi, .int .i64 (Dv.apR m xs).1.sp, .int .i64 (Dv.apR m xs).1.dr, .int .i64 (Dv.apR m xs).1.cu, .int .i64 (Dv.apR m xs).1.fa], .int .i64 (Dv.apR m xs).2]) ∧ Below w.heap.size w w' := by
  cases hC : Dv.chkB m
  · exact (ApplyR_no1 m A xs cap w hx hC).mono fun _ _ ⟨h1, h2⟩ => ⟨by rw [h1]; simp [Dv.apR, Dv.apB, hC], h2⟩
  · by_cases hl : xs.length = 4
    · obtain ⟨a, b, c, d, rfl⟩ : ∃ a b c d, xs = [a, b, c, d] := by
        match xs, hl with
        | [a, b, c, d], _ => exact ⟨a, b, c, d, rfl⟩
      cases h0 : upB 1099511627776 [a]
      · exact (ApplyR_no30 m A a b c d cap w hx hC h0).mono fun _ _ ⟨h, h'⟩ => ⟨by rw [h]; simp [Dv.apR, Dv.apB, upB_four, hC, h0], h'⟩
      · skip
        cases h1 : upB 1099511627776 [b]
        · exact (ApplyR_no31 m A a b c d cap w hx hC h0 h1).mono fun _ _ ⟨h, h'⟩ => ⟨by rw [h]; simp [Dv.apR, Dv.apB, upB_four, hC, h0, h1], h'⟩
        · skip
          cases h2 : upB 1099511627776 [c]
          · exact (ApplyR_no32 m A a b c d cap w hx hC h0 h1 h2).mono fun _ _ ⟨h, h'⟩ => ⟨by rw [h]; simp [Dv.apR, Dv.apB, upB_four, hC, h0, h1, h2], h'⟩
          · skip
            cases h3 : upB 1099511627776 [d]
            · exact (ApplyR_no33 m A a b c d cap w hx hC h0 h1 h2 h3).mono fun _ _ ⟨h, h'⟩ => ⟨by rw [h]; simp [Dv.apR, Dv.apB, upB_four, hC, h0, h1, h2, h3], h'⟩
            · skip
              cases hq : Dv.chkB (m.plus a b c d)
              · exact (ApplyR_go m A a b c d cap w hx hC h0 h1 h2 h3 _ hq).mono fun _ _ ⟨h, h'⟩ => ⟨by rw [h]; simp [Dv.apR, Dv.apB, Dv.apM, upB_four, hC, h0, h1, h2, h3, hq], h'⟩
              · exact (ApplyR_go m A a b c d cap w hx hC h0 h1 h2 h3 _ hq).mono fun _ _ ⟨h, h'⟩ => ⟨by rw [h]; simp [Dv.apR, Dv.apB, Dv.apM, upB_four, hC, h0, h1, h2, h3, hq], h'⟩
    · exact (ApplyR_no2 m A xs cap w hx hC (by simp; omega)).mono fun _ _ ⟨h1, h2⟩ => ⟨by rw [h1]; simp [Dv.apR, Dv.apB, hC, hl], h2⟩
end Go.Proofs.Ytcneohhfnnelgaa
