/- Contracts of the closures of weaken. -/
import Derived.Test.YtcneohhfnnelgaaW28
namespace Go.Proofs.Ytcneohhfnnelgaa
open Go.RowKit
set_option linter.unusedVariables false
namespace Dv
/-- too far out, on the side on which it is at 0 -/
def outB (room x0 y0 x y : Int) : Bool := (decide (room < x0) && decide (room < x)) || ((decide (x0 < -room) && decide (x < -room)) || ((decide (room < y0) && decide (room < y)) || (decide (y0 < -room) && decide (y < -room))))
def fitB (m : Mot) (q s room d : Int) : Bool := upB room [ibd m d q s, ibq m d q s]
def outV (m : Mot) (q s room d : Int) : Bool := outB room (ibd m 0 q s) (ibq m 0 q s) (ibd m d q s) (ibq m d q s)
def holdP (m : Mot) (q s room N n : Int) : Bool := decide (n = 0) || (decide (n ≤ N) && outV m q s room (-n + 1))
end Dv

set_option maxHeartbeats 1000000 in
theorem fits1_c (m : Mot) (d q s room : Int) (bm bq bs br : Nat) (W : World) (hm : Dv.chk m) (hd : -1048576 ≤ d ∧ d ≤ 1048576) (hq : -1048576 ≤ q ∧ q ≤ 1048576) (hs : -16384 ≤ s ∧ s ≤ 16384) (hr : 0 ≤ room ∧ room ≤ 1073741824)
    (hM : MotAt W bm m) (cq : W.cell? ⟨bq, 0, none⟩ = some (.int .i64 q)) (cs : W.cell? ⟨bs, 0, none⟩ = some (.int .i64 s)) (cr : W.cell? ⟨br, 0, none⟩ = some (.int .i64 room)) (hbr : br < W.heap.size) :
    Calls Try.prog 120 #[.int .i64 d, .pointer (some ⟨bm, 0, none⟩), .pointer (some ⟨bq, 0, none⟩), .pointer (some ⟨bs, 0, none⟩), .pointer (some ⟨br, 0, none⟩)] W fun e W' => e = .returned (.bool (Dv.fitB m q s room d)) ∧ Below W.heap.size W W' := by
  obtain ⟨c0, c1, c2, c3, c4, c5, c6, c7, c8, c9⟩ := hM
  go_enter Try.func120, Try.ntmps120
  go_wp2_with fail
  refine (inner_c m d q s _ hm hd hq hs).mono ?_
  rintro e w1 ⟨rfl, hb1⟩
  have cr1 := below_cell hb1 hbr cr
  have HB := Lib.hid hb1
  clear hb1
  go_wp2_with fail
  refine (up2w room (Dv.ibd m d q s) (Dv.ibq m d q s) _ _ (by simp) (by omega) (by omega)).mono ?_
  rintro e w2 ⟨rfl, hb2⟩
  have HB2 := Lib.hid (HB.out.trans (hb2.mono HB.out.size))
  clear hb2
  go_wp2
  go_ret
  exact ⟨rfl, HB2.out⟩

set_option maxHeartbeats 1000000 in
theorem out_w0 (m : Mot) (d q s room x0 y0 : Int) (bm bq bs b0 br b1 : Nat) (W : World) (hm : Dv.chk m) (hd : -1048576 ≤ d ∧ d ≤ 1048576) (hq : -1048576 ≤ q ∧ q ≤ 1048576) (hs : -16384 ≤ s ∧ s ≤ 16384) (hr : 0 ≤ room ∧ room ≤ 1073741824)
    (hM : MotAt W bm m) (cq : W.cell? ⟨bq, 0, none⟩ = some (.int .i64 q)) (cs : W.cell? ⟨bs, 0, none⟩ = some (.int .i64 s)) (c0' : W.cell? ⟨b0, 0, none⟩ = some (.int .i64 x0)) (cr : W.cell? ⟨br, 0, none⟩ = some (.int .i64 room)) (c1' : W.cell? ⟨b1, 0, none⟩ = some (.int .i64 y0)) (hb0 : b0 < W.heap.size) (hbr : br < W.heap.size) (hb1 : b1 < W.heap.size) (g0 : room < x0) (g1 : room < (Dv.ibd m d q s)) :
    Calls Try.prog 121 #[.int .i64 d, .pointer (some ⟨bm, 0, none⟩), .pointer (some ⟨bq, 0, none⟩), .pointer (some ⟨bs, 0, none⟩), .pointer (some ⟨b0, 0, none⟩), .pointer (some ⟨br, 0, none⟩), .pointer (some ⟨b1, 0, none⟩)] W fun e W' => e = .returned (.bool (true)) ∧ Below W.heap.size W W' := by
  obtain ⟨c0, c1, c2, c3, c4, c5, c6, c7, c8, c9⟩ := hM
  go_enter Try.func121, Try.ntmps121
  go_wp2_with fail
  refine (inner_c m d q s _ hm hd hq hs).mono ?_
  rintro e w1 ⟨rfl, hbb⟩
  have k0 := below_cell hbb hb0 c0'
  have k1 := below_cell hbb hb1 c1'
  have kr := below_cell hbb hbr cr
  have HB := Lib.hid hbb
  clear hbb c0 c1 c2 c3 c4 c5 c6 c7 c8 c9 cq cs c0' cr c1'
  generalize Dv.ibd m d q s = x at *
  generalize Dv.ibq m d q s = y at *
  go_wp2
  go_ret
  exact ⟨ret_bool (by first | rfl | simp [*]), HB.out⟩

set_option maxHeartbeats 1000000 in
theorem out_w1 (m : Mot) (d q s room x0 y0 : Int) (bm bq bs b0 br b1 : Nat) (W : World) (hm : Dv.chk m) (hd : -1048576 ≤ d ∧ d ≤ 1048576) (hq : -1048576 ≤ q ∧ q ≤ 1048576) (hs : -16384 ≤ s ∧ s ≤ 16384) (hr : 0 ≤ room ∧ room ≤ 1073741824)
    (hM : MotAt W bm m) (cq : W.cell? ⟨bq, 0, none⟩ = some (.int .i64 q)) (cs : W.cell? ⟨bs, 0, none⟩ = some (.int .i64 s)) (c0' : W.cell? ⟨b0, 0, none⟩ = some (.int .i64 x0)) (cr : W.cell? ⟨br, 0, none⟩ = some (.int .i64 room)) (c1' : W.cell? ⟨b1, 0, none⟩ = some (.int .i64 y0)) (hb0 : b0 < W.heap.size) (hbr : br < W.heap.size) (hb1 : b1 < W.heap.size) (g0 : room < x0) (g1 : ¬ room < (Dv.ibd m d q s)) (g2 : ¬ x0 < -room) (g3 : room < y0) (g4 : room < (Dv.ibq m d q s)) :
    Calls Try.prog 121 #[.int .i64 d, .pointer (some ⟨bm, 0, none⟩), .pointer (some ⟨bq, 0, none⟩), .pointer (some ⟨bs, 0, none⟩), .pointer (some ⟨b0, 0, none⟩), .pointer (some ⟨br, 0, none⟩), .pointer (some ⟨b1, 0, none⟩)] W fun e W' => e = .returned (.bool (true)) ∧ Below W.heap.size W W' := by
  obtain ⟨c0, c1, c2, c3, c4, c5, c6, c7, c8, c9⟩ := hM
  go_enter Try.func121, Try.ntmps121
  go_wp2_with fail
  refine (inner_c m d q s _ hm hd hq hs).mono ?_
  rintro e w1 ⟨rfl, hbb⟩
  have k0 := below_cell hbb hb0 c0'
  have k1 := below_cell hbb hb1 c1'
  have kr := below_cell hbb hbr cr
  have HB := Lib.hid hbb
  clear hbb c0 c1 c2 c3 c4 c5 c6 c7 c8 c9 cq cs c0' cr c1'
  generalize Dv.ibd m d q s = x at *
  generalize Dv.ibq m d q s = y at *
  go_wp2
  go_ret
  exact ⟨ret_bool (by first | rfl | simp [*]), HB.out⟩

set_option maxHeartbeats 1000000 in
theorem out_w2 (m : Mot) (d q s room x0 y0 : Int) (bm bq bs b0 br b1 : Nat) (W : World) (hm : Dv.chk m) (hd : -1048576 ≤ d ∧ d ≤ 1048576) (hq : -1048576 ≤ q ∧ q ≤ 1048576) (hs : -16384 ≤ s ∧ s ≤ 16384) (hr : 0 ≤ room ∧ room ≤ 1073741824)
    (hM : MotAt W bm m) (cq : W.cell? ⟨bq, 0, none⟩ = some (.int .i64 q)) (cs : W.cell? ⟨bs, 0, none⟩ = some (.int .i64 s)) (c0' : W.cell? ⟨b0, 0, none⟩ = some (.int .i64 x0)) (cr : W.cell? ⟨br, 0, none⟩ = some (.int .i64 room)) (c1' : W.cell? ⟨b1, 0, none⟩ = some (.int .i64 y0)) (hb0 : b0 < W.heap.size) (hbr : br < W.heap.size) (hb1 : b1 < W.heap.size) (g0 : room < x0) (g1 : ¬ room < (Dv.ibd m d q s)) (g2 : ¬ x0 < -room) (g3 : room < y0) (g4 : ¬ room < (Dv.ibq m d q s)) (g5 : ¬ y0 < -room) :
    Calls Try.prog 121 #[.int .i64 d, .pointer (some ⟨bm, 0, none⟩), .pointer (some ⟨bq, 0, none⟩), .pointer (some ⟨bs, 0, none⟩), .pointer (some ⟨b0, 0, none⟩), .pointer (some ⟨br, 0, none⟩), .pointer (some ⟨b1, 0, none⟩)] W fun e W' => e = .returned (.bool (false)) ∧ Below W.heap.size W W' := by
  obtain ⟨c0, c1, c2, c3, c4, c5, c6, c7, c8, c9⟩ := hM
  go_enter Try.func121, Try.ntmps121
  go_wp2_with fail
  refine (inner_c m d q s _ hm hd hq hs).mono ?_
  rintro e w1 ⟨rfl, hbb⟩
  have k0 := below_cell hbb hb0 c0'
  have k1 := below_cell hbb hb1 c1'
  have kr := below_cell hbb hbr cr
  have HB := Lib.hid hbb
  clear hbb c0 c1 c2 c3 c4 c5 c6 c7 c8 c9 cq cs c0' cr c1'
  generalize Dv.ibd m d q s = x at *
  generalize Dv.ibq m d q s = y at *
  go_wp2
  go_ret
  exact ⟨ret_bool (by first | rfl | simp [*]), HB.out⟩

set_option maxHeartbeats 1000000 in
theorem out_w3 (m : Mot) (d q s room x0 y0 : Int) (bm bq bs b0 br b1 : Nat) (W : World) (hm : Dv.chk m) (hd : -1048576 ≤ d ∧ d ≤ 1048576) (hq : -1048576 ≤ q ∧ q ≤ 1048576) (hs : -16384 ≤ s ∧ s ≤ 16384) (hr : 0 ≤ room ∧ room ≤ 1073741824)
    (hM : MotAt W bm m) (cq : W.cell? ⟨bq, 0, none⟩ = some (.int .i64 q)) (cs : W.cell? ⟨bs, 0, none⟩ = some (.int .i64 s)) (c0' : W.cell? ⟨b0, 0, none⟩ = some (.int .i64 x0)) (cr : W.cell? ⟨br, 0, none⟩ = some (.int .i64 room)) (c1' : W.cell? ⟨b1, 0, none⟩ = some (.int .i64 y0)) (hb0 : b0 < W.heap.size) (hbr : br < W.heap.size) (hb1 : b1 < W.heap.size) (g0 : room < x0) (g1 : ¬ room < (Dv.ibd m d q s)) (g2 : ¬ x0 < -room) (g3 : ¬ room < y0) (g4 : y0 < -room) (g5 : (Dv.ibq m d q s) < -room) :
    Calls Try.prog 121 #[.int .i64 d, .pointer (some ⟨bm, 0, none⟩), .pointer (some ⟨bq, 0, none⟩), .pointer (some ⟨bs, 0, none⟩), .pointer (some ⟨b0, 0, none⟩), .pointer (some ⟨br, 0, none⟩), .pointer (some ⟨b1, 0, none⟩)] W fun e W' => e = .returned (.bool (true)) ∧ Below W.heap.size W W' := by
  obtain ⟨c0, c1, c2, c3, c4, c5, c6, c7, c8, c9⟩ := hM
  go_enter Try.func121, Try.ntmps121
  go_wp2_with fail
  refine (inner_c m d q s _ hm hd hq hs).mono ?_
  rintro e w1 ⟨rfl, hbb⟩
  have k0 := below_cell hbb hb0 c0'
  have k1 := below_cell hbb hb1 c1'
  have kr := below_cell hbb hbr cr
  have HB := Lib.hid hbb
  clear hbb c0 c1 c2 c3 c4 c5 c6 c7 c8 c9 cq cs c0' cr c1'
  generalize Dv.ibd m d q s = x at *
  generalize Dv.ibq m d q s = y at *
  go_wp2
  go_ret
  exact ⟨ret_bool (by first | rfl | simp [*]), HB.out⟩

set_option maxHeartbeats 1000000 in
theorem out_w4 (m : Mot) (d q s room x0 y0 : Int) (bm bq bs b0 br b1 : Nat) (W : World) (hm : Dv.chk m) (hd : -1048576 ≤ d ∧ d ≤ 1048576) (hq : -1048576 ≤ q ∧ q ≤ 1048576) (hs : -16384 ≤ s ∧ s ≤ 16384) (hr : 0 ≤ room ∧ room ≤ 1073741824)
    (hM : MotAt W bm m) (cq : W.cell? ⟨bq, 0, none⟩ = some (.int .i64 q)) (cs : W.cell? ⟨bs, 0, none⟩ = some (.int .i64 s)) (c0' : W.cell? ⟨b0, 0, none⟩ = some (.int .i64 x0)) (cr : W.cell? ⟨br, 0, none⟩ = some (.int .i64 room)) (c1' : W.cell? ⟨b1, 0, none⟩ = some (.int .i64 y0)) (hb0 : b0 < W.heap.size) (hbr : br < W.heap.size) (hb1 : b1 < W.heap.size) (g0 : room < x0) (g1 : ¬ room < (Dv.ibd m d q s)) (g2 : ¬ x0 < -room) (g3 : ¬ room < y0) (g4 : y0 < -room) (g5 : ¬ (Dv.ibq m d q s) < -room) :
    Calls Try.prog 121 #[.int .i64 d, .pointer (some ⟨bm, 0, none⟩), .pointer (some ⟨bq, 0, none⟩), .pointer (some ⟨bs, 0, none⟩), .pointer (some ⟨b0, 0, none⟩), .pointer (some ⟨br, 0, none⟩), .pointer (some ⟨b1, 0, none⟩)] W fun e W' => e = .returned (.bool (false)) ∧ Below W.heap.size W W' := by
  obtain ⟨c0, c1, c2, c3, c4, c5, c6, c7, c8, c9⟩ := hM
  go_enter Try.func121, Try.ntmps121
  go_wp2_with fail
  refine (inner_c m d q s _ hm hd hq hs).mono ?_
  rintro e w1 ⟨rfl, hbb⟩
  have k0 := below_cell hbb hb0 c0'
  have k1 := below_cell hbb hb1 c1'
  have kr := below_cell hbb hbr cr
  have HB := Lib.hid hbb
  clear hbb c0 c1 c2 c3 c4 c5 c6 c7 c8 c9 cq cs c0' cr c1'
  generalize Dv.ibd m d q s = x at *
  generalize Dv.ibq m d q s = y at *
  go_wp2
  go_ret
  exact ⟨ret_bool (by first | rfl | simp [*]), HB.out⟩

set_option maxHeartbeats 1000000 in
theorem out_w5 (m : Mot) (d q s room x0 y0 : Int) (bm bq bs b0 br b1 : Nat) (W : World) (hm : Dv.chk m) (hd : -1048576 ≤ d ∧ d ≤ 1048576) (hq : -1048576 ≤ q ∧ q ≤ 1048576) (hs : -16384 ≤ s ∧ s ≤ 16384) (hr : 0 ≤ room ∧ room ≤ 1073741824)
    (hM : MotAt W bm m) (cq : W.cell? ⟨bq, 0, none⟩ = some (.int .i64 q)) (cs : W.cell? ⟨bs, 0, none⟩ = some (.int .i64 s)) (c0' : W.cell? ⟨b0, 0, none⟩ = some (.int .i64 x0)) (cr : W.cell? ⟨br, 0, none⟩ = some (.int .i64 room)) (c1' : W.cell? ⟨b1, 0, none⟩ = some (.int .i64 y0)) (hb0 : b0 < W.heap.size) (hbr : br < W.heap.size) (hb1 : b1 < W.heap.size) (g0 : room < x0) (g1 : ¬ room < (Dv.ibd m d q s)) (g2 : ¬ x0 < -room) (g3 : ¬ room < y0) (g4 : ¬ y0 < -room) :
    Calls Try.prog 121 #[.int .i64 d, .pointer (some ⟨bm, 0, none⟩), .pointer (some ⟨bq, 0, none⟩), .pointer (some ⟨bs, 0, none⟩), .pointer (some ⟨b0, 0, none⟩), .pointer (some ⟨br, 0, none⟩), .pointer (some ⟨b1, 0, none⟩)] W fun e W' => e = .returned (.bool (false)) ∧ Below W.heap.size W W' := by
  obtain ⟨c0, c1, c2, c3, c4, c5, c6, c7, c8, c9⟩ := hM
  go_enter Try.func121, Try.ntmps121
  go_wp2_with fail
  refine (inner_c m d q s _ hm hd hq hs).mono ?_
  rintro e w1 ⟨rfl, hbb⟩
  have k0 := below_cell hbb hb0 c0'
  have k1 := below_cell hbb hb1 c1'
  have kr := below_cell hbb hbr cr
  have HB := Lib.hid hbb
  clear hbb c0 c1 c2 c3 c4 c5 c6 c7 c8 c9 cq cs c0' cr c1'
  generalize Dv.ibd m d q s = x at *
  generalize Dv.ibq m d q s = y at *
  go_wp2
  go_ret
  exact ⟨ret_bool (by first | rfl | simp [*]), HB.out⟩

set_option maxHeartbeats 1000000 in
theorem out_w6 (m : Mot) (d q s room x0 y0 : Int) (bm bq bs b0 br b1 : Nat) (W : World) (hm : Dv.chk m) (hd : -1048576 ≤ d ∧ d ≤ 1048576) (hq : -1048576 ≤ q ∧ q ≤ 1048576) (hs : -16384 ≤ s ∧ s ≤ 16384) (hr : 0 ≤ room ∧ room ≤ 1073741824)
    (hM : MotAt W bm m) (cq : W.cell? ⟨bq, 0, none⟩ = some (.int .i64 q)) (cs : W.cell? ⟨bs, 0, none⟩ = some (.int .i64 s)) (c0' : W.cell? ⟨b0, 0, none⟩ = some (.int .i64 x0)) (cr : W.cell? ⟨br, 0, none⟩ = some (.int .i64 room)) (c1' : W.cell? ⟨b1, 0, none⟩ = some (.int .i64 y0)) (hb0 : b0 < W.heap.size) (hbr : br < W.heap.size) (hb1 : b1 < W.heap.size) (g0 : ¬ room < x0) (g1 : x0 < -room) (g2 : (Dv.ibd m d q s) < -room) :
    Calls Try.prog 121 #[.int .i64 d, .pointer (some ⟨bm, 0, none⟩), .pointer (some ⟨bq, 0, none⟩), .pointer (some ⟨bs, 0, none⟩), .pointer (some ⟨b0, 0, none⟩), .pointer (some ⟨br, 0, none⟩), .pointer (some ⟨b1, 0, none⟩)] W fun e W' => e = .returned (.bool (true)) ∧ Below W.heap.size W W' := by
  obtain ⟨c0, c1, c2, c3, c4, c5, c6, c7, c8, c9⟩ := hM
  go_enter Try.func121, Try.ntmps121
  go_wp2_with fail
  refine (inner_c m d q s _ hm hd hq hs).mono ?_
  rintro e w1 ⟨rfl, hbb⟩
  have k0 := below_cell hbb hb0 c0'
  have k1 := below_cell hbb hb1 c1'
  have kr := below_cell hbb hbr cr
  have HB := Lib.hid hbb
  clear hbb c0 c1 c2 c3 c4 c5 c6 c7 c8 c9 cq cs c0' cr c1'
  generalize Dv.ibd m d q s = x at *
  generalize Dv.ibq m d q s = y at *
  go_wp2
  go_ret
  exact ⟨ret_bool (by first | rfl | simp [*]), HB.out⟩

set_option maxHeartbeats 1000000 in
theorem out_w7 (m : Mot) (d q s room x0 y0 : Int) (bm bq bs b0 br b1 : Nat) (W : World) (hm : Dv.chk m) (hd : -1048576 ≤ d ∧ d ≤ 1048576) (hq : -1048576 ≤ q ∧ q ≤ 1048576) (hs : -16384 ≤ s ∧ s ≤ 16384) (hr : 0 ≤ room ∧ room ≤ 1073741824)
    (hM : MotAt W bm m) (cq : W.cell? ⟨bq, 0, none⟩ = some (.int .i64 q)) (cs : W.cell? ⟨bs, 0, none⟩ = some (.int .i64 s)) (c0' : W.cell? ⟨b0, 0, none⟩ = some (.int .i64 x0)) (cr : W.cell? ⟨br, 0, none⟩ = some (.int .i64 room)) (c1' : W.cell? ⟨b1, 0, none⟩ = some (.int .i64 y0)) (hb0 : b0 < W.heap.size) (hbr : br < W.heap.size) (hb1 : b1 < W.heap.size) (g0 : ¬ room < x0) (g1 : x0 < -room) (g2 : ¬ (Dv.ibd m d q s) < -room) (g3 : room < y0) (g4 : room < (Dv.ibq m d q s)) :
    Calls Try.prog 121 #[.int .i64 d, .pointer (some ⟨bm, 0, none⟩), .pointer (some ⟨bq, 0, none⟩), .pointer (some ⟨bs, 0, none⟩), .pointer (some ⟨b0, 0, none⟩), .pointer (some ⟨br, 0, none⟩), .pointer (some ⟨b1, 0, none⟩)] W fun e W' => e = .returned (.bool (true)) ∧ Below W.heap.size W W' := by
  obtain ⟨c0, c1, c2, c3, c4, c5, c6, c7, c8, c9⟩ := hM
  go_enter Try.func121, Try.ntmps121
  go_wp2_with fail
  refine (inner_c m d q s _ hm hd hq hs).mono ?_
  rintro e w1 ⟨rfl, hbb⟩
  have k0 := below_cell hbb hb0 c0'
  have k1 := below_cell hbb hb1 c1'
  have kr := below_cell hbb hbr cr
  have HB := Lib.hid hbb
  clear hbb c0 c1 c2 c3 c4 c5 c6 c7 c8 c9 cq cs c0' cr c1'
  generalize Dv.ibd m d q s = x at *
  generalize Dv.ibq m d q s = y at *
  go_wp2
  go_ret
  exact ⟨ret_bool (by first | rfl | simp [*]), HB.out⟩

set_option maxHeartbeats 1000000 in
theorem out_w8 (m : Mot) (d q s room x0 y0 : Int) (bm bq bs b0 br b1 : Nat) (W : World) (hm : Dv.chk m) (hd : -1048576 ≤ d ∧ d ≤ 1048576) (hq : -1048576 ≤ q ∧ q ≤ 1048576) (hs : -16384 ≤ s ∧ s ≤ 16384) (hr : 0 ≤ room ∧ room ≤ 1073741824)
    (hM : MotAt W bm m) (cq : W.cell? ⟨bq, 0, none⟩ = some (.int .i64 q)) (cs : W.cell? ⟨bs, 0, none⟩ = some (.int .i64 s)) (c0' : W.cell? ⟨b0, 0, none⟩ = some (.int .i64 x0)) (cr : W.cell? ⟨br, 0, none⟩ = some (.int .i64 room)) (c1' : W.cell? ⟨b1, 0, none⟩ = some (.int .i64 y0)) (hb0 : b0 < W.heap.size) (hbr : br < W.heap.size) (hb1 : b1 < W.heap.size) (g0 : ¬ room < x0) (g1 : x0 < -room) (g2 : ¬ (Dv.ibd m d q s) < -room) (g3 : room < y0) (g4 : ¬ room < (Dv.ibq m d q s)) (g5 : ¬ y0 < -room) :
    Calls Try.prog 121 #[.int .i64 d, .pointer (some ⟨bm, 0, none⟩), .pointer (some ⟨bq, 0, none⟩), .pointer (some ⟨bs, 0, none⟩), .pointer (some ⟨b0, 0, none⟩), .pointer (some ⟨br, 0, none⟩), .pointer (some ⟨b1, 0, none⟩)] W fun e W' => e = .returned (.bool (false)) ∧ Below W.heap.size W W' := by
  obtain ⟨c0, c1, c2, c3, c4, c5, c6, c7, c8, c9⟩ := hM
  go_enter Try.func121, Try.ntmps121
  go_wp2_with fail
  refine (inner_c m d q s _ hm hd hq hs).mono ?_
  rintro e w1 ⟨rfl, hbb⟩
  have k0 := below_cell hbb hb0 c0'
  have k1 := below_cell hbb hb1 c1'
  have kr := below_cell hbb hbr cr
  have HB := Lib.hid hbb
  clear hbb c0 c1 c2 c3 c4 c5 c6 c7 c8 c9 cq cs c0' cr c1'
  generalize Dv.ibd m d q s = x at *
  generalize Dv.ibq m d q s = y at *
  go_wp2
  go_ret
  exact ⟨ret_bool (by first | rfl | simp [*]), HB.out⟩

set_option maxHeartbeats 1000000 in
theorem out_w9 (m : Mot) (d q s room x0 y0 : Int) (bm bq bs b0 br b1 : Nat) (W : World) (hm : Dv.chk m) (hd : -1048576 ≤ d ∧ d ≤ 1048576) (hq : -1048576 ≤ q ∧ q ≤ 1048576) (hs : -16384 ≤ s ∧ s ≤ 16384) (hr : 0 ≤ room ∧ room ≤ 1073741824)
    (hM : MotAt W bm m) (cq : W.cell? ⟨bq, 0, none⟩ = some (.int .i64 q)) (cs : W.cell? ⟨bs, 0, none⟩ = some (.int .i64 s)) (c0' : W.cell? ⟨b0, 0, none⟩ = some (.int .i64 x0)) (cr : W.cell? ⟨br, 0, none⟩ = some (.int .i64 room)) (c1' : W.cell? ⟨b1, 0, none⟩ = some (.int .i64 y0)) (hb0 : b0 < W.heap.size) (hbr : br < W.heap.size) (hb1 : b1 < W.heap.size) (g0 : ¬ room < x0) (g1 : x0 < -room) (g2 : ¬ (Dv.ibd m d q s) < -room) (g3 : ¬ room < y0) (g4 : y0 < -room) (g5 : (Dv.ibq m d q s) < -room) :
    Calls Try.prog 121 #[.int .i64 d, .pointer (some ⟨bm, 0, none⟩), .pointer (some ⟨bq, 0, none⟩), .pointer (some ⟨bs, 0, none⟩), .pointer (some ⟨b0, 0, none⟩), .pointer (some ⟨br, 0, none⟩), .pointer (some ⟨b1, 0, none⟩)] W fun e W' => e = .returned (.bool (true)) ∧ Below W.heap.size W W' := by
  obtain ⟨c0, c1, c2, c3, c4, c5, c6, c7, c8, c9⟩ := hM
  go_enter Try.func121, Try.ntmps121
  go_wp2_with fail
  refine (inner_c m d q s _ hm hd hq hs).mono ?_
  rintro e w1 ⟨rfl, hbb⟩
  have k0 := below_cell hbb hb0 c0'
  have k1 := below_cell hbb hb1 c1'
  have kr := below_cell hbb hbr cr
  have HB := Lib.hid hbb
  clear hbb c0 c1 c2 c3 c4 c5 c6 c7 c8 c9 cq cs c0' cr c1'
  generalize Dv.ibd m d q s = x at *
  generalize Dv.ibq m d q s = y at *
  go_wp2
  go_ret
  exact ⟨ret_bool (by first | rfl | simp [*]), HB.out⟩

set_option maxHeartbeats 1000000 in
theorem out_w10 (m : Mot) (d q s room x0 y0 : Int) (bm bq bs b0 br b1 : Nat) (W : World) (hm : Dv.chk m) (hd : -1048576 ≤ d ∧ d ≤ 1048576) (hq : -1048576 ≤ q ∧ q ≤ 1048576) (hs : -16384 ≤ s ∧ s ≤ 16384) (hr : 0 ≤ room ∧ room ≤ 1073741824)
    (hM : MotAt W bm m) (cq : W.cell? ⟨bq, 0, none⟩ = some (.int .i64 q)) (cs : W.cell? ⟨bs, 0, none⟩ = some (.int .i64 s)) (c0' : W.cell? ⟨b0, 0, none⟩ = some (.int .i64 x0)) (cr : W.cell? ⟨br, 0, none⟩ = some (.int .i64 room)) (c1' : W.cell? ⟨b1, 0, none⟩ = some (.int .i64 y0)) (hb0 : b0 < W.heap.size) (hbr : br < W.heap.size) (hb1 : b1 < W.heap.size) (g0 : ¬ room < x0) (g1 : x0 < -room) (g2 : ¬ (Dv.ibd m d q s) < -room) (g3 : ¬ room < y0) (g4 : y0 < -room) (g5 : ¬ (Dv.ibq m d q s) < -room) :
    Calls Try.prog 121 #[.int .i64 d, .pointer (some ⟨bm, 0, none⟩), .pointer (some ⟨bq, 0, none⟩), .pointer (some ⟨bs, 0, none⟩), .pointer (some ⟨b0, 0, none⟩), .pointer (some ⟨br, 0, none⟩), .pointer (some ⟨b1, 0, none⟩)] W fun e W' => e = .returned (.bool (false)) ∧ Below W.heap.size W W' := by
  obtain ⟨c0, c1, c2, c3, c4, c5, c6, c7, c8, c9⟩ := hM
  go_enter Try.func121, Try.ntmps121
  go_wp2_with fail
  refine (inner_c m d q s _ hm hd hq hs).mono ?_
  rintro e w1 ⟨rfl, hbb⟩
  have k0 := below_cell hbb hb0 c0'
  have k1 := below_cell hbb hb1 c1'
  have kr := below_cell hbb hbr cr
  have HB := Lib.hid hbb
  clear hbb c0 c1 c2 c3 c4 c5 c6 c7 c8 c9 cq cs c0' cr c1'
  generalize Dv.ibd m d q s = x at *
  generalize Dv.ibq m d q s = y at *
  go_wp2
  go_ret
  exact ⟨ret_bool (by first | rfl | simp [*]), HB.out⟩

set_option maxHeartbeats 1000000 in
theorem out_w11 (m : Mot) (d q s room x0 y0 : Int) (bm bq bs b0 br b1 : Nat) (W : World) (hm : Dv.chk m) (hd : -1048576 ≤ d ∧ d ≤ 1048576) (hq : -1048576 ≤ q ∧ q ≤ 1048576) (hs : -16384 ≤ s ∧ s ≤ 16384) (hr : 0 ≤ room ∧ room ≤ 1073741824)
    (hM : MotAt W bm m) (cq : W.cell? ⟨bq, 0, none⟩ = some (.int .i64 q)) (cs : W.cell? ⟨bs, 0, none⟩ = some (.int .i64 s)) (c0' : W.cell? ⟨b0, 0, none⟩ = some (.int .i64 x0)) (cr : W.cell? ⟨br, 0, none⟩ = some (.int .i64 room)) (c1' : W.cell? ⟨b1, 0, none⟩ = some (.int .i64 y0)) (hb0 : b0 < W.heap.size) (hbr : br < W.heap.size) (hb1 : b1 < W.heap.size) (g0 : ¬ room < x0) (g1 : x0 < -room) (g2 : ¬ (Dv.ibd m d q s) < -room) (g3 : ¬ room < y0) (g4 : ¬ y0 < -room) :
    Calls Try.prog 121 #[.int .i64 d, .pointer (some ⟨bm, 0, none⟩), .pointer (some ⟨bq, 0, none⟩), .pointer (some ⟨bs, 0, none⟩), .pointer (some ⟨b0, 0, none⟩), .pointer (some ⟨br, 0, none⟩), .pointer (some ⟨b1, 0, none⟩)] W fun e W' => e = .returned (.bool (false)) ∧ Below W.heap.size W W' := by
  obtain ⟨c0, c1, c2, c3, c4, c5, c6, c7, c8, c9⟩ := hM
  go_enter Try.func121, Try.ntmps121
  go_wp2_with fail
  refine (inner_c m d q s _ hm hd hq hs).mono ?_
  rintro e w1 ⟨rfl, hbb⟩
  have k0 := below_cell hbb hb0 c0'
  have k1 := below_cell hbb hb1 c1'
  have kr := below_cell hbb hbr cr
  have HB := Lib.hid hbb
  clear hbb c0 c1 c2 c3 c4 c5 c6 c7 c8 c9 cq cs c0' cr c1'
  generalize Dv.ibd m d q s = x at *
  generalize Dv.ibq m d q s = y at *
  go_wp2
  go_ret
  exact ⟨ret_bool (by first | rfl | simp [*]), HB.out⟩

set_option maxHeartbeats 1000000 in
theorem out_w12 (m : Mot) (d q s room x0 y0 : Int) (bm bq bs b0 br b1 : Nat) (W : World) (hm : Dv.chk m) (hd : -1048576 ≤ d ∧ d ≤ 1048576) (hq : -1048576 ≤ q ∧ q ≤ 1048576) (hs : -16384 ≤ s ∧ s ≤ 16384) (hr : 0 ≤ room ∧ room ≤ 1073741824)
    (hM : MotAt W bm m) (cq : W.cell? ⟨bq, 0, none⟩ = some (.int .i64 q)) (cs : W.cell? ⟨bs, 0, none⟩ = some (.int .i64 s)) (c0' : W.cell? ⟨b0, 0, none⟩ = some (.int .i64 x0)) (cr : W.cell? ⟨br, 0, none⟩ = some (.int .i64 room)) (c1' : W.cell? ⟨b1, 0, none⟩ = some (.int .i64 y0)) (hb0 : b0 < W.heap.size) (hbr : br < W.heap.size) (hb1 : b1 < W.heap.size) (g0 : ¬ room < x0) (g1 : ¬ x0 < -room) (g2 : room < y0) (g3 : room < (Dv.ibq m d q s)) :
    Calls Try.prog 121 #[.int .i64 d, .pointer (some ⟨bm, 0, none⟩), .pointer (some ⟨bq, 0, none⟩), .pointer (some ⟨bs, 0, none⟩), .pointer (some ⟨b0, 0, none⟩), .pointer (some ⟨br, 0, none⟩), .pointer (some ⟨b1, 0, none⟩)] W fun e W' => e = .returned (.bool (true)) ∧ Below W.heap.size W W' := by
  obtain ⟨c0, c1, c2, c3, c4, c5, c6, c7, c8, c9⟩ := hM
  go_enter Try.func121, Try.ntmps121
  go_wp2_with fail
  refine (inner_c m d q s _ hm hd hq hs).mono ?_
  rintro e w1 ⟨rfl, hbb⟩
  have k0 := below_cell hbb hb0 c0'
  have k1 := below_cell hbb hb1 c1'
  have kr := below_cell hbb hbr cr
  have HB := Lib.hid hbb
  clear hbb c0 c1 c2 c3 c4 c5 c6 c7 c8 c9 cq cs c0' cr c1'
  generalize Dv.ibd m d q s = x at *
  generalize Dv.ibq m d q s = y at *
  go_wp2
  go_ret
  exact ⟨ret_bool (by first | rfl | simp [*]), HB.out⟩

set_option maxHeartbeats 1000000 in
theorem out_w13 (m : Mot) (d q s room x0 y0 : Int) (bm bq bs b0 br b1 : Nat) (W : World) (hm : Dv.chk m) (hd : -1048576 ≤ d ∧ d ≤ 1048576) (hq : -1048576 ≤ q ∧ q ≤ 1048576) (hs : -16384 ≤ s ∧ s ≤ 16384) (hr : 0 ≤ room ∧ room ≤ 1073741824)
    (hM : MotAt W bm m) (cq : W.cell? ⟨bq, 0, none⟩ = some (.int .i64 q)) (cs : W.cell? ⟨bs, 0, none⟩ = some (.int .i64 s)) (c0' : W.cell? ⟨b0, 0, none⟩ = some (.int .i64 x0)) (cr : W.cell? ⟨br, 0, none⟩ = some (.int .i64 room)) (c1' : W.cell? ⟨b1, 0, none⟩ = some (.int .i64 y0)) (hb0 : b0 < W.heap.size) (hbr : br < W.heap.size) (hb1 : b1 < W.heap.size) (g0 : ¬ room < x0) (g1 : ¬ x0 < -room) (g2 : room < y0) (g3 : ¬ room < (Dv.ibq m d q s)) (g4 : ¬ y0 < -room) :
    Calls Try.prog 121 #[.int .i64 d, .pointer (some ⟨bm, 0, none⟩), .pointer (some ⟨bq, 0, none⟩), .pointer (some ⟨bs, 0, none⟩), .pointer (some ⟨b0, 0, none⟩), .pointer (some ⟨br, 0, none⟩), .pointer (some ⟨b1, 0, none⟩)] W fun e W' => e = .returned (.bool (false)) ∧ Below W.heap.size W W' := by
  obtain ⟨c0, c1, c2, c3, c4, c5, c6, c7, c8, c9⟩ := hM
  go_enter Try.func121, Try.ntmps121
  go_wp2_with fail
  refine (inner_c m d q s _ hm hd hq hs).mono ?_
  rintro e w1 ⟨rfl, hbb⟩
  have k0 := below_cell hbb hb0 c0'
  have k1 := below_cell hbb hb1 c1'
  have kr := below_cell hbb hbr cr
  have HB := Lib.hid hbb
  clear hbb c0 c1 c2 c3 c4 c5 c6 c7 c8 c9 cq cs c0' cr c1'
  generalize Dv.ibd m d q s = x at *
  generalize Dv.ibq m d q s = y at *
  go_wp2
  go_ret
  exact ⟨ret_bool (by first | rfl | simp [*]), HB.out⟩

set_option maxHeartbeats 1000000 in
theorem out_w14 (m : Mot) (d q s room x0 y0 : Int) (bm bq bs b0 br b1 : Nat) (W : World) (hm : Dv.chk m) (hd : -1048576 ≤ d ∧ d ≤ 1048576) (hq : -1048576 ≤ q ∧ q ≤ 1048576) (hs : -16384 ≤ s ∧ s ≤ 16384) (hr : 0 ≤ room ∧ room ≤ 1073741824)
    (hM : MotAt W bm m) (cq : W.cell? ⟨bq, 0, none⟩ = some (.int .i64 q)) (cs : W.cell? ⟨bs, 0, none⟩ = some (.int .i64 s)) (c0' : W.cell? ⟨b0, 0, none⟩ = some (.int .i64 x0)) (cr : W.cell? ⟨br, 0, none⟩ = some (.int .i64 room)) (c1' : W.cell? ⟨b1, 0, none⟩ = some (.int .i64 y0)) (hb0 : b0 < W.heap.size) (hbr : br < W.heap.size) (hb1 : b1 < W.heap.size) (g0 : ¬ room < x0) (g1 : ¬ x0 < -room) (g2 : ¬ room < y0) (g3 : y0 < -room) (g4 : (Dv.ibq m d q s) < -room) :
    Calls Try.prog 121 #[.int .i64 d, .pointer (some ⟨bm, 0, none⟩), .pointer (some ⟨bq, 0, none⟩), .pointer (some ⟨bs, 0, none⟩), .pointer (some ⟨b0, 0, none⟩), .pointer (some ⟨br, 0, none⟩), .pointer (some ⟨b1, 0, none⟩)] W fun e W' => e = .returned (.bool (true)) ∧ Below W.heap.size W W' := by
  obtain ⟨c0, c1, c2, c3, c4, c5, c6, c7, c8, c9⟩ := hM
  go_enter Try.func121, Try.ntmps121
  go_wp2_with fail
  refine (inner_c m d q s _ hm hd hq hs).mono ?_
  rintro e w1 ⟨rfl, hbb⟩
  have k0 := below_cell hbb hb0 c0'
  have k1 := below_cell hbb hb1 c1'
  have kr := below_cell hbb hbr cr
  have HB := Lib.hid hbb
  clear hbb c0 c1 c2 c3 c4 c5 c6 c7 c8 c9 cq cs c0' cr c1'
  generalize Dv.ibd m d q s = x at *
  generalize Dv.ibq m d q s = y at *
  go_wp2
  go_ret
  exact ⟨ret_bool (by first | rfl | simp [*]), HB.out⟩

set_option maxHeartbeats 1000000 in
theorem out_w15 (m : Mot) (d q s room x0 y0 : Int) (bm bq bs b0 br b1 : Nat) (W : World) (hm : Dv.chk m) (hd : -1048576 ≤ d ∧ d ≤ 1048576) (hq : -1048576 ≤ q ∧ q ≤ 1048576) (hs : -16384 ≤ s ∧ s ≤ 16384) (hr : 0 ≤ room ∧ room ≤ 1073741824)
    (hM : MotAt W bm m) (cq : W.cell? ⟨bq, 0, none⟩ = some (.int .i64 q)) (cs : W.cell? ⟨bs, 0, none⟩ = some (.int .i64 s)) (c0' : W.cell? ⟨b0, 0, none⟩ = some (.int .i64 x0)) (cr : W.cell? ⟨br, 0, none⟩ = some (.int .i64 room)) (c1' : W.cell? ⟨b1, 0, none⟩ = some (.int .i64 y0)) (hb0 : b0 < W.heap.size) (hbr : br < W.heap.size) (hb1 : b1 < W.heap.size) (g0 : ¬ room < x0) (g1 : ¬ x0 < -room) (g2 : ¬ room < y0) (g3 : y0 < -room) (g4 : ¬ (Dv.ibq m d q s) < -room) :
    Calls Try.prog 121 #[.int .i64 d, .pointer (some ⟨bm, 0, none⟩), .pointer (some ⟨bq, 0, none⟩), .pointer (some ⟨bs, 0, none⟩), .pointer (some ⟨b0, 0, none⟩), .pointer (some ⟨br, 0, none⟩), .pointer (some ⟨b1, 0, none⟩)] W fun e W' => e = .returned (.bool (false)) ∧ Below W.heap.size W W' := by
  obtain ⟨c0, c1, c2, c3, c4, c5, c6, c7, c8, c9⟩ := hM
  go_enter Try.func121, Try.ntmps121
  go_wp2_with fail
  refine (inner_c m d q s _ hm hd hq hs).mono ?_
  rintro e w1 ⟨rfl, hbb⟩
  have k0 := below_cell hbb hb0 c0'
  have k1 := below_cell hbb hb1 c1'
  have kr := below_cell hbb hbr cr
  have HB := Lib.hid hbb
  clear hbb c0 c1 c2 c3 c4 c5 c6 c7 c8 c9 cq cs c0' cr c1'
  generalize Dv.ibd m d q s = x at *
  generalize Dv.ibq m d q s = y at *
  go_wp2
  go_ret
  exact ⟨ret_bool (by first | rfl | simp [*]), HB.out⟩

set_option maxHeartbeats 1000000 in
theorem out_w16 (m : Mot) (d q s room x0 y0 : Int) (bm bq bs b0 br b1 : Nat) (W : World) (hm : Dv.chk m) (hd : -1048576 ≤ d ∧ d ≤ 1048576) (hq : -1048576 ≤ q ∧ q ≤ 1048576) (hs : -16384 ≤ s ∧ s ≤ 16384) (hr : 0 ≤ room ∧ room ≤ 1073741824)
    (hM : MotAt W bm m) (cq : W.cell? ⟨bq, 0, none⟩ = some (.int .i64 q)) (cs : W.cell? ⟨bs, 0, none⟩ = some (.int .i64 s)) (c0' : W.cell? ⟨b0, 0, none⟩ = some (.int .i64 x0)) (cr : W.cell? ⟨br, 0, none⟩ = some (.int .i64 room)) (c1' : W.cell? ⟨b1, 0, none⟩ = some (.int .i64 y0)) (hb0 : b0 < W.heap.size) (hbr : br < W.heap.size) (hb1 : b1 < W.heap.size) (g0 : ¬ room < x0) (g1 : ¬ x0 < -room) (g2 : ¬ room < y0) (g3 : ¬ y0 < -room) :
    Calls Try.prog 121 #[.int .i64 d, .pointer (some ⟨bm, 0, none⟩), .pointer (some ⟨bq, 0, none⟩), .pointer (some ⟨bs, 0, none⟩), .pointer (some ⟨b0, 0, none⟩), .pointer (some ⟨br, 0, none⟩), .pointer (some ⟨b1, 0, none⟩)] W fun e W' => e = .returned (.bool (false)) ∧ Below W.heap.size W W' := by
  obtain ⟨c0, c1, c2, c3, c4, c5, c6, c7, c8, c9⟩ := hM
  go_enter Try.func121, Try.ntmps121
  go_wp2_with fail
  refine (inner_c m d q s _ hm hd hq hs).mono ?_
  rintro e w1 ⟨rfl, hbb⟩
  have k0 := below_cell hbb hb0 c0'
  have k1 := below_cell hbb hb1 c1'
  have kr := below_cell hbb hbr cr
  have HB := Lib.hid hbb
  clear hbb c0 c1 c2 c3 c4 c5 c6 c7 c8 c9 cq cs c0' cr c1'
  generalize Dv.ibd m d q s = x at *
  generalize Dv.ibq m d q s = y at *
  go_wp2
  go_ret
  exact ⟨ret_bool (by first | rfl | simp [*]), HB.out⟩

theorem out_c (m : Mot) (d q s room x0 y0 : Int) (bm bq bs b0 br b1 : Nat) (W : World) (hm : Dv.chk m) (hd : -1048576 ≤ d ∧ d ≤ 1048576) (hq : -1048576 ≤ q ∧ q ≤ 1048576) (hs : -16384 ≤ s ∧ s ≤ 16384) (hr : 0 ≤ room ∧ room ≤ 1073741824)
    (hM : MotAt W bm m) (cq : W.cell? ⟨bq, 0, none⟩ = some (.int .i64 q)) (cs : W.cell? ⟨bs, 0, none⟩ = some (.int .i64 s)) (c0' : W.cell? ⟨b0, 0, none⟩ = some (.int .i64 x0)) (cr : W.cell? ⟨br, 0, none⟩ = some (.int .i64 room)) (c1' : W.cell? ⟨b1, 0, none⟩ = some (.int .i64 y0)) (hb0 : b0 < W.heap.size) (hbr : br < W.heap.size) (hb1 : b1 < W.heap.size) :
    Calls Try.prog 121 #[.int .i64 d, .pointer (some ⟨bm, 0, none⟩), .pointer (some ⟨bq, 0, none⟩), .pointer (some ⟨bs, 0, none⟩), .pointer (some ⟨b0, 0, none⟩), .pointer (some ⟨br, 0, none⟩), .pointer (some ⟨b1, 0, none⟩)] W fun e W' => e = .returned (.bool (Dv.outB room x0 y0 (Dv.ibd m d q s) (Dv.ibq m d q s))) ∧ Below W.heap.size W W' := by
  by_cases g0 : room < x0
  · skip
    by_cases g1 : room < (Dv.ibd m d q s)
    · skip
      exact (out_w0 m d q s room x0 y0 bm bq bs b0 br b1 W hm hd hq hs hr hM cq cs c0' cr c1' hb0 hbr hb1 g0 g1).mono fun _ _ ⟨h, h'⟩ => ⟨by rw [h]; exact ret_bool (by simp [Dv.outB, g0, g1]), h'⟩
    · skip
      have g2 : ¬ x0 < -room := by omega
      by_cases g3 : room < y0
      · skip
        by_cases g4 : room < (Dv.ibq m d q s)
        · skip
          exact (out_w1 m d q s room x0 y0 bm bq bs b0 br b1 W hm hd hq hs hr hM cq cs c0' cr c1' hb0 hbr hb1 g0 g1 g2 g3 g4).mono fun _ _ ⟨h, h'⟩ => ⟨by rw [h]; exact ret_bool (by simp [Dv.outB, g0, g1, g2, g3, g4]), h'⟩
        · skip
          have g5 : ¬ y0 < -room := by omega
          exact (out_w2 m d q s room x0 y0 bm bq bs b0 br b1 W hm hd hq hs hr hM cq cs c0' cr c1' hb0 hbr hb1 g0 g1 g2 g3 g4 g5).mono fun _ _ ⟨h, h'⟩ => ⟨by rw [h]; exact ret_bool (by simp [Dv.outB, g0, g1, g2, g3, g4, g5]), h'⟩
      · skip
        by_cases g4 : y0 < -room
        · skip
          by_cases g5 : (Dv.ibq m d q s) < -room
          · skip
            exact (out_w3 m d q s room x0 y0 bm bq bs b0 br b1 W hm hd hq hs hr hM cq cs c0' cr c1' hb0 hbr hb1 g0 g1 g2 g3 g4 g5).mono fun _ _ ⟨h, h'⟩ => ⟨by rw [h]; exact ret_bool (by simp [Dv.outB, g0, g1, g2, g3, g4, g5]), h'⟩
          · skip
            exact (out_w4 m d q s room x0 y0 bm bq bs b0 br b1 W hm hd hq hs hr hM cq cs c0' cr c1' hb0 hbr hb1 g0 g1 g2 g3 g4 g5).mono fun _ _ ⟨h, h'⟩ => ⟨by rw [h]; exact ret_bool (by simp [Dv.outB, g0, g1, g2, g3, g4, g5]), h'⟩
        · skip
          exact (out_w5 m d q s room x0 y0 bm bq bs b0 br b1 W hm hd hq hs hr hM cq cs c0' cr c1' hb0 hbr hb1 g0 g1 g2 g3 g4).mono fun _ _ ⟨h, h'⟩ => ⟨by rw [h]; exact ret_bool (by simp [Dv.outB, g0, g1, g2, g3, g4]), h'⟩
  · skip
    by_cases g1 : x0 < -room
    · skip
      by_cases g2 : (Dv.ibd m d q s) < -room
      · skip
        exact (out_w6 m d q s room x0 y0 bm bq bs b0 br b1 W hm hd hq hs hr hM cq cs c0' cr c1' hb0 hbr hb1 g0 g1 g2).mono fun _ _ ⟨h, h'⟩ => ⟨by rw [h]; exact ret_bool (by simp [Dv.outB, g0, g1, g2]), h'⟩
      · skip
        by_cases g3 : room < y0
        · skip
          by_cases g4 : room < (Dv.ibq m d q s)
          · skip
            exact (out_w7 m d q s room x0 y0 bm bq bs b0 br b1 W hm hd hq hs hr hM cq cs c0' cr c1' hb0 hbr hb1 g0 g1 g2 g3 g4).mono fun _ _ ⟨h, h'⟩ => ⟨by rw [h]; exact ret_bool (by simp [Dv.outB, g0, g1, g2, g3, g4]), h'⟩
          · skip
            have g5 : ¬ y0 < -room := by omega
            exact (out_w8 m d q s room x0 y0 bm bq bs b0 br b1 W hm hd hq hs hr hM cq cs c0' cr c1' hb0 hbr hb1 g0 g1 g2 g3 g4 g5).mono fun _ _ ⟨h, h'⟩ => ⟨by rw [h]; exact ret_bool (by simp [Dv.outB, g0, g1, g2, g3, g4, g5]), h'⟩
        · skip
          by_cases g4 : y0 < -room
          · skip
            by_cases g5 : (Dv.ibq m d q s) < -room
            · skip
              exact (out_w9 m d q s room x0 y0 bm bq bs b0 br b1 W hm hd hq hs hr hM cq cs c0' cr c1' hb0 hbr hb1 g0 g1 g2 g3 g4 g5).mono fun _ _ ⟨h, h'⟩ => ⟨by rw [h]; exact ret_bool (by simp [Dv.outB, g0, g1, g2, g3, g4, g5]), h'⟩
            · skip
              exact (out_w10 m d q s room x0 y0 bm bq bs b0 br b1 W hm hd hq hs hr hM cq cs c0' cr c1' hb0 hbr hb1 g0 g1 g2 g3 g4 g5).mono fun _ _ ⟨h, h'⟩ => ⟨by rw [h]; exact ret_bool (by simp [Dv.outB, g0, g1, g2, g3, g4, g5]), h'⟩
          · skip
            exact (out_w11 m d q s room x0 y0 bm bq bs b0 br b1 W hm hd hq hs hr hM cq cs c0' cr c1' hb0 hbr hb1 g0 g1 g2 g3 g4).mono fun _ _ ⟨h, h'⟩ => ⟨by rw [h]; exact ret_bool (by simp [Dv.outB, g0, g1, g2, g3, g4]), h'⟩
    · skip
      by_cases g2 : room < y0
      · skip
        by_cases g3 : room < (Dv.ibq m d q s)
        · skip
          exact (out_w12 m d q s room x0 y0 bm bq bs b0 br b1 W hm hd hq hs hr hM cq cs c0' cr c1' hb0 hbr hb1 g0 g1 g2 g3).mono fun _ _ ⟨h, h'⟩ => ⟨by rw [h]; exact ret_bool (by simp [Dv.outB, g0, g1, g2, g3]), h'⟩
        · skip
          have g4 : ¬ y0 < -room := by omega
          exact (out_w13 m d q s room x0 y0 bm bq bs b0 br b1 W hm hd hq hs hr hM cq cs c0' cr c1' hb0 hbr hb1 g0 g1 g2 g3 g4).mono fun _ _ ⟨h, h'⟩ => ⟨by rw [h]; exact ret_bool (by simp [Dv.outB, g0, g1, g2, g3, g4]), h'⟩
      · skip
        by_cases g3 : y0 < -room
        · skip
          by_cases g4 : (Dv.ibq m d q s) < -room
          · skip
            exact (out_w14 m d q s room x0 y0 bm bq bs b0 br b1 W hm hd hq hs hr hM cq cs c0' cr c1' hb0 hbr hb1 g0 g1 g2 g3 g4).mono fun _ _ ⟨h, h'⟩ => ⟨by rw [h]; exact ret_bool (by simp [Dv.outB, g0, g1, g2, g3, g4]), h'⟩
          · skip
            exact (out_w15 m d q s room x0 y0 bm bq bs b0 br b1 W hm hd hq hs hr hM cq cs c0' cr c1' hb0 hbr hb1 g0 g1 g2 g3 g4).mono fun _ _ ⟨h, h'⟩ => ⟨by rw [h]; exact ret_bool (by simp [Dv.outB, g0, g1, g2, g3, g4]), h'⟩
        · skip
          exact (out_w16 m d q s room x0 y0 bm bq bs b0 br b1 W hm hd hq hs hr hM cq cs c0' cr c1' hb0 hbr hb1 g0 g1 g2 g3).mono fun _ _ ⟨h, h'⟩ => ⟨by rw [h]; exact ret_bool (by simp [Dv.outB, g0, g1, g2, g3]), h'⟩
end Go.Proofs.Ytcneohhfnnelgaa
