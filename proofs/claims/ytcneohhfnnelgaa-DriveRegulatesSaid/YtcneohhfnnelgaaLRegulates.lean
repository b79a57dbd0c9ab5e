/- The walk of coulomblaw06.DriveRegulates: it returns true for all gains, sums, errors and spans. -/
import Derived.Test.YtcneohhfnnelgaaW12
namespace Go.Proofs.Ytcneohhfnnelgaa
open Go.RowKit
set_option linter.unusedVariables false

/-- what both Regulates return -/
def RegIs (p i s e lo hi V N E : Int) : Prop := (Dv.rgV p i s e lo hi = V ∧ Dv.rgN p i s e lo hi = N ∧ Dv.rgE p i s e lo hi = E)
theorem reg1 {p i s e lo hi V N E : Int} (h : RegIs p i s e lo hi V N E) (w : World) :
    Calls Try.prog 23 #[.agg #[.int .i64 p, .int .i64 i], .int .i64 s, .int .i64 e, .agg #[.int .i64 lo, .int .i64 hi]] w fun en w' => en = .returned (.tuple #[.int .i64 V, .int .i64 N, .int .i64 E]) ∧ Below w.heap.size w w' :=
  (Regulate_c p i s e lo hi w).mono fun _ _ ⟨he, hw⟩ => ⟨he.trans (ret3_int h.1 h.2.1 h.2.2), hw⟩
theorem reg2 {p i s e lo hi V N E : Int} (h : RegIs p i s e lo hi V N E) (w : World) :
    Calls Try.prog 24 #[.agg #[.int .i64 p, .int .i64 i], .int .i64 s, .int .i64 e, .agg #[.int .i64 lo, .int .i64 hi]] w fun en w' => en = .returned (.tuple #[.int .i64 V, .int .i64 N, .int .i64 E]) ∧ Below w.heap.size w w' :=
  (RegulateR_c p i s e lo hi w).mono fun _ _ ⟨he, hw⟩ => ⟨he.trans (ret3_int h.1 h.2.1 h.2.2), hw⟩

set_option maxHeartbeats 1000000 in
theorem lreg_Pa (p i s e lo hi V N : Int) (w : World) (H : RegIs p i s e lo hi V N 0) (v1 : lo ≤ V) (v2 : V ≤ hi) (n1 : -1073741824 ≤ N) (n2 : N ≤ 1073741824) (hs : -1073741824 ≤ s ∧ s ≤ 1073741824) (m : -35184372088832 ≤ p * e ∧ p * e ≤ 35184372088832) (g0 : 0 ≤ p * e) (g1 : 0 ≤ p * e % 65536) (g2 : 0 ≤ p * e / 65536 ∧ p * e / 65536 ≤ 35184372088832) (r1 : lo ≤ p * e / 65536 + s) (r2 : p * e / 65536 + s ≤ hi) :
    Calls Try.prog 6 #[.agg #[.int .i64 p, .int .i64 i], .int .i64 s, .int .i64 e, .agg #[.int .i64 lo, .int .i64 hi]] w fun en w' => en = .returned (.bool true) ∧ Below w.heap.size w w' := by
  go_enter Try.func6, Try.ntmps6
  go_wp2_with fail
  refine (reg1 H _).mono ?_
  rintro en w1 ⟨rfl, hb1⟩
  have a0 : w1.cell? ⟨w.heap.size, 0, none⟩ = some (.int .i64 p) := below_cell hb1 (by simp; omega) (by go_simp)
  have a1 : w1.cell? ⟨w.heap.size, 1, none⟩ = some (.int .i64 i) := below_cell hb1 (by simp; omega) (by go_simp)
  have a2 : w1.cell? ⟨w.heap.size + 1, 0, none⟩ = some (.int .i64 lo) := below_cell hb1 (by simp) (by go_simp)
  have a3 : w1.cell? ⟨w.heap.size + 1, 1, none⟩ = some (.int .i64 hi) := below_cell hb1 (by simp) (by go_simp)
  have hz1 : w.heap.size + 1 < w1.heap.size := by have := hb1.size; simp at this; omega
  have HB1 := Lib.hid (show Below w.heap.size w w1 from (((Below.refl _ _).alloc (Nat.le_refl _) _).alloc (by simp) _).trans (hb1.mono (by simp; omega)))
  clear hb1
  go_wp2_with fail
  refine (reg2 H _).mono ?_
  rintro en w2 ⟨rfl, hb2⟩
  have c0 : w2.cell? ⟨w.heap.size, 0, none⟩ = some (.int .i64 p) := below_cell hb2 (by omega) a0
  have c2 : w2.cell? ⟨w.heap.size + 1, 0, none⟩ = some (.int .i64 lo) := below_cell hb2 hz1 a2
  have c3 : w2.cell? ⟨w.heap.size + 1, 1, none⟩ = some (.int .i64 hi) := below_cell hb2 hz1 a3
  have hz2 : w.heap.size ≤ w2.heap.size := by have := hb2.size; omega
  have HB2 := Lib.hid (show Below w.heap.size w w2 from HB1.out.trans (hb2.mono (by omega)))
  clear hb2 a0 a1 a2 a3 hz1
  go_wp2_with (go_at_call 19; refine (known_c _).mono ?_; rintro e' w3 ⟨rfl, hb3⟩)
  go_ret
  exact ⟨rfl, HB2.out.trans (hb3.mono hz2)⟩

set_option maxHeartbeats 1000000 in
theorem lreg_Pb (p i s e lo hi V N : Int) (w : World) (H : RegIs p i s e lo hi V N 0) (v1 : lo ≤ V) (v2 : V ≤ hi) (n1 : -1073741824 ≤ N) (n2 : N ≤ 1073741824) (hs : -1073741824 ≤ s ∧ s ≤ 1073741824) (m : -35184372088832 ≤ p * e ∧ p * e ≤ 35184372088832) (g0 : 0 ≤ p * e) (g1 : 0 ≤ p * e % 65536) (g2 : 0 ≤ p * e / 65536 ∧ p * e / 65536 ≤ 35184372088832) (r1 : hi < p * e / 65536 + s) (r3 : lo ≤ p * e / 65536 + s) (r2 : N ≤ s) :
    Calls Try.prog 6 #[.agg #[.int .i64 p, .int .i64 i], .int .i64 s, .int .i64 e, .agg #[.int .i64 lo, .int .i64 hi]] w fun en w' => en = .returned (.bool true) ∧ Below w.heap.size w w' := by
  go_enter Try.func6, Try.ntmps6
  go_wp2_with fail
  refine (reg1 H _).mono ?_
  rintro en w1 ⟨rfl, hb1⟩
  have a0 : w1.cell? ⟨w.heap.size, 0, none⟩ = some (.int .i64 p) := below_cell hb1 (by simp; omega) (by go_simp)
  have a1 : w1.cell? ⟨w.heap.size, 1, none⟩ = some (.int .i64 i) := below_cell hb1 (by simp; omega) (by go_simp)
  have a2 : w1.cell? ⟨w.heap.size + 1, 0, none⟩ = some (.int .i64 lo) := below_cell hb1 (by simp) (by go_simp)
  have a3 : w1.cell? ⟨w.heap.size + 1, 1, none⟩ = some (.int .i64 hi) := below_cell hb1 (by simp) (by go_simp)
  have hz1 : w.heap.size + 1 < w1.heap.size := by have := hb1.size; simp at this; omega
  have HB1 := Lib.hid (show Below w.heap.size w w1 from (((Below.refl _ _).alloc (Nat.le_refl _) _).alloc (by simp) _).trans (hb1.mono (by simp; omega)))
  clear hb1
  go_wp2_with fail
  refine (reg2 H _).mono ?_
  rintro en w2 ⟨rfl, hb2⟩
  have c0 : w2.cell? ⟨w.heap.size, 0, none⟩ = some (.int .i64 p) := below_cell hb2 (by omega) a0
  have c2 : w2.cell? ⟨w.heap.size + 1, 0, none⟩ = some (.int .i64 lo) := below_cell hb2 hz1 a2
  have c3 : w2.cell? ⟨w.heap.size + 1, 1, none⟩ = some (.int .i64 hi) := below_cell hb2 hz1 a3
  have hz2 : w.heap.size ≤ w2.heap.size := by have := hb2.size; omega
  have HB2 := Lib.hid (show Below w.heap.size w w2 from HB1.out.trans (hb2.mono (by omega)))
  clear hb2 a0 a1 a2 a3 hz1
  go_wp2_with (go_at_call 19; refine (known_c _).mono ?_; rintro e' w3 ⟨rfl, hb3⟩)
  go_ret
  exact ⟨rfl, HB2.out.trans (hb3.mono hz2)⟩

set_option maxHeartbeats 1000000 in
theorem lreg_Pc (p i s e lo hi V N : Int) (w : World) (H : RegIs p i s e lo hi V N 0) (v1 : lo ≤ V) (v2 : V ≤ hi) (n1 : -1073741824 ≤ N) (n2 : N ≤ 1073741824) (hs : -1073741824 ≤ s ∧ s ≤ 1073741824) (m : -35184372088832 ≤ p * e ∧ p * e ≤ 35184372088832) (g0 : 0 ≤ p * e) (g1 : 0 ≤ p * e % 65536) (g2 : 0 ≤ p * e / 65536 ∧ p * e / 65536 ≤ 35184372088832) (r1 : p * e / 65536 + s < lo) (r3 : p * e / 65536 + s ≤ hi) (r2 : s ≤ N) :
    Calls Try.prog 6 #[.agg #[.int .i64 p, .int .i64 i], .int .i64 s, .int .i64 e, .agg #[.int .i64 lo, .int .i64 hi]] w fun en w' => en = .returned (.bool true) ∧ Below w.heap.size w w' := by
  go_enter Try.func6, Try.ntmps6
  go_wp2_with fail
  refine (reg1 H _).mono ?_
  rintro en w1 ⟨rfl, hb1⟩
  have a0 : w1.cell? ⟨w.heap.size, 0, none⟩ = some (.int .i64 p) := below_cell hb1 (by simp; omega) (by go_simp)
  have a1 : w1.cell? ⟨w.heap.size, 1, none⟩ = some (.int .i64 i) := below_cell hb1 (by simp; omega) (by go_simp)
  have a2 : w1.cell? ⟨w.heap.size + 1, 0, none⟩ = some (.int .i64 lo) := below_cell hb1 (by simp) (by go_simp)
  have a3 : w1.cell? ⟨w.heap.size + 1, 1, none⟩ = some (.int .i64 hi) := below_cell hb1 (by simp) (by go_simp)
  have hz1 : w.heap.size + 1 < w1.heap.size := by have := hb1.size; simp at this; omega
  have HB1 := Lib.hid (show Below w.heap.size w w1 from (((Below.refl _ _).alloc (Nat.le_refl _) _).alloc (by simp) _).trans (hb1.mono (by simp; omega)))
  clear hb1
  go_wp2_with fail
  refine (reg2 H _).mono ?_
  rintro en w2 ⟨rfl, hb2⟩
  have c0 : w2.cell? ⟨w.heap.size, 0, none⟩ = some (.int .i64 p) := below_cell hb2 (by omega) a0
  have c2 : w2.cell? ⟨w.heap.size + 1, 0, none⟩ = some (.int .i64 lo) := below_cell hb2 hz1 a2
  have c3 : w2.cell? ⟨w.heap.size + 1, 1, none⟩ = some (.int .i64 hi) := below_cell hb2 hz1 a3
  have hz2 : w.heap.size ≤ w2.heap.size := by have := hb2.size; omega
  have HB2 := Lib.hid (show Below w.heap.size w w2 from HB1.out.trans (hb2.mono (by omega)))
  clear hb2 a0 a1 a2 a3 hz1
  go_wp2_with (go_at_call 19; refine (known_c _).mono ?_; rintro e' w3 ⟨rfl, hb3⟩)
  go_ret
  exact ⟨rfl, HB2.out.trans (hb3.mono hz2)⟩

set_option maxHeartbeats 1000000 in
theorem lreg_Qa (p i s e lo hi V N : Int) (w : World) (H : RegIs p i s e lo hi V N 0) (v1 : lo ≤ V) (v2 : V ≤ hi) (n1 : -1073741824 ≤ N) (n2 : N ≤ 1073741824) (hs : -1073741824 ≤ s ∧ s ≤ 1073741824) (m : -35184372088832 ≤ p * e ∧ p * e ≤ 35184372088832) (g0 : p * e < 0) (g1 : (p * e).tmod 65536 < 0) (g2 : -35184372088832 ≤ (p * e).tdiv 65536 ∧ (p * e).tdiv 65536 ≤ 35184372088832) (r1 : lo ≤ (p * e).tdiv 65536 - 1 + s) (r2 : (p * e).tdiv 65536 - 1 + s ≤ hi) :
    Calls Try.prog 6 #[.agg #[.int .i64 p, .int .i64 i], .int .i64 s, .int .i64 e, .agg #[.int .i64 lo, .int .i64 hi]] w fun en w' => en = .returned (.bool true) ∧ Below w.heap.size w w' := by
  go_enter Try.func6, Try.ntmps6
  go_wp2_with fail
  refine (reg1 H _).mono ?_
  rintro en w1 ⟨rfl, hb1⟩
  have a0 : w1.cell? ⟨w.heap.size, 0, none⟩ = some (.int .i64 p) := below_cell hb1 (by simp; omega) (by go_simp)
  have a1 : w1.cell? ⟨w.heap.size, 1, none⟩ = some (.int .i64 i) := below_cell hb1 (by simp; omega) (by go_simp)
  have a2 : w1.cell? ⟨w.heap.size + 1, 0, none⟩ = some (.int .i64 lo) := below_cell hb1 (by simp) (by go_simp)
  have a3 : w1.cell? ⟨w.heap.size + 1, 1, none⟩ = some (.int .i64 hi) := below_cell hb1 (by simp) (by go_simp)
  have hz1 : w.heap.size + 1 < w1.heap.size := by have := hb1.size; simp at this; omega
  have HB1 := Lib.hid (show Below w.heap.size w w1 from (((Below.refl _ _).alloc (Nat.le_refl _) _).alloc (by simp) _).trans (hb1.mono (by simp; omega)))
  clear hb1
  go_wp2_with fail
  refine (reg2 H _).mono ?_
  rintro en w2 ⟨rfl, hb2⟩
  have c0 : w2.cell? ⟨w.heap.size, 0, none⟩ = some (.int .i64 p) := below_cell hb2 (by omega) a0
  have c2 : w2.cell? ⟨w.heap.size + 1, 0, none⟩ = some (.int .i64 lo) := below_cell hb2 hz1 a2
  have c3 : w2.cell? ⟨w.heap.size + 1, 1, none⟩ = some (.int .i64 hi) := below_cell hb2 hz1 a3
  have hz2 : w.heap.size ≤ w2.heap.size := by have := hb2.size; omega
  have HB2 := Lib.hid (show Below w.heap.size w w2 from HB1.out.trans (hb2.mono (by omega)))
  clear hb2 a0 a1 a2 a3 hz1
  go_wp2_with (go_at_call 19; refine (known_c _).mono ?_; rintro e' w3 ⟨rfl, hb3⟩)
  go_ret
  exact ⟨rfl, HB2.out.trans (hb3.mono hz2)⟩

set_option maxHeartbeats 1000000 in
theorem lreg_Qb (p i s e lo hi V N : Int) (w : World) (H : RegIs p i s e lo hi V N 0) (v1 : lo ≤ V) (v2 : V ≤ hi) (n1 : -1073741824 ≤ N) (n2 : N ≤ 1073741824) (hs : -1073741824 ≤ s ∧ s ≤ 1073741824) (m : -35184372088832 ≤ p * e ∧ p * e ≤ 35184372088832) (g0 : p * e < 0) (g1 : (p * e).tmod 65536 < 0) (g2 : -35184372088832 ≤ (p * e).tdiv 65536 ∧ (p * e).tdiv 65536 ≤ 35184372088832) (r1 : hi < (p * e).tdiv 65536 - 1 + s) (r3 : lo ≤ (p * e).tdiv 65536 - 1 + s) (r2 : N ≤ s) :
    Calls Try.prog 6 #[.agg #[.int .i64 p, .int .i64 i], .int .i64 s, .int .i64 e, .agg #[.int .i64 lo, .int .i64 hi]] w fun en w' => en = .returned (.bool true) ∧ Below w.heap.size w w' := by
  go_enter Try.func6, Try.ntmps6
  go_wp2_with fail
  refine (reg1 H _).mono ?_
  rintro en w1 ⟨rfl, hb1⟩
  have a0 : w1.cell? ⟨w.heap.size, 0, none⟩ = some (.int .i64 p) := below_cell hb1 (by simp; omega) (by go_simp)
  have a1 : w1.cell? ⟨w.heap.size, 1, none⟩ = some (.int .i64 i) := below_cell hb1 (by simp; omega) (by go_simp)
  have a2 : w1.cell? ⟨w.heap.size + 1, 0, none⟩ = some (.int .i64 lo) := below_cell hb1 (by simp) (by go_simp)
  have a3 : w1.cell? ⟨w.heap.size + 1, 1, none⟩ = some (.int .i64 hi) := below_cell hb1 (by simp) (by go_simp)
  have hz1 : w.heap.size + 1 < w1.heap.size := by have := hb1.size; simp at this; omega
  have HB1 := Lib.hid (show Below w.heap.size w w1 from (((Below.refl _ _).alloc (Nat.le_refl _) _).alloc (by simp) _).trans (hb1.mono (by simp; omega)))
  clear hb1
  go_wp2_with fail
  refine (reg2 H _).mono ?_
  rintro en w2 ⟨rfl, hb2⟩
  have c0 : w2.cell? ⟨w.heap.size, 0, none⟩ = some (.int .i64 p) := below_cell hb2 (by omega) a0
  have c2 : w2.cell? ⟨w.heap.size + 1, 0, none⟩ = some (.int .i64 lo) := below_cell hb2 hz1 a2
  have c3 : w2.cell? ⟨w.heap.size + 1, 1, none⟩ = some (.int .i64 hi) := below_cell hb2 hz1 a3
  have hz2 : w.heap.size ≤ w2.heap.size := by have := hb2.size; omega
  have HB2 := Lib.hid (show Below w.heap.size w w2 from HB1.out.trans (hb2.mono (by omega)))
  clear hb2 a0 a1 a2 a3 hz1
  go_wp2_with (go_at_call 19; refine (known_c _).mono ?_; rintro e' w3 ⟨rfl, hb3⟩)
  go_ret
  exact ⟨rfl, HB2.out.trans (hb3.mono hz2)⟩

set_option maxHeartbeats 1000000 in
theorem lreg_Qc (p i s e lo hi V N : Int) (w : World) (H : RegIs p i s e lo hi V N 0) (v1 : lo ≤ V) (v2 : V ≤ hi) (n1 : -1073741824 ≤ N) (n2 : N ≤ 1073741824) (hs : -1073741824 ≤ s ∧ s ≤ 1073741824) (m : -35184372088832 ≤ p * e ∧ p * e ≤ 35184372088832) (g0 : p * e < 0) (g1 : (p * e).tmod 65536 < 0) (g2 : -35184372088832 ≤ (p * e).tdiv 65536 ∧ (p * e).tdiv 65536 ≤ 35184372088832) (r1 : (p * e).tdiv 65536 - 1 + s < lo) (r3 : (p * e).tdiv 65536 - 1 + s ≤ hi) (r2 : s ≤ N) :
    Calls Try.prog 6 #[.agg #[.int .i64 p, .int .i64 i], .int .i64 s, .int .i64 e, .agg #[.int .i64 lo, .int .i64 hi]] w fun en w' => en = .returned (.bool true) ∧ Below w.heap.size w w' := by
  go_enter Try.func6, Try.ntmps6
  go_wp2_with fail
  refine (reg1 H _).mono ?_
  rintro en w1 ⟨rfl, hb1⟩
  have a0 : w1.cell? ⟨w.heap.size, 0, none⟩ = some (.int .i64 p) := below_cell hb1 (by simp; omega) (by go_simp)
  have a1 : w1.cell? ⟨w.heap.size, 1, none⟩ = some (.int .i64 i) := below_cell hb1 (by simp; omega) (by go_simp)
  have a2 : w1.cell? ⟨w.heap.size + 1, 0, none⟩ = some (.int .i64 lo) := below_cell hb1 (by simp) (by go_simp)
  have a3 : w1.cell? ⟨w.heap.size + 1, 1, none⟩ = some (.int .i64 hi) := below_cell hb1 (by simp) (by go_simp)
  have hz1 : w.heap.size + 1 < w1.heap.size := by have := hb1.size; simp at this; omega
  have HB1 := Lib.hid (show Below w.heap.size w w1 from (((Below.refl _ _).alloc (Nat.le_refl _) _).alloc (by simp) _).trans (hb1.mono (by simp; omega)))
  clear hb1
  go_wp2_with fail
  refine (reg2 H _).mono ?_
  rintro en w2 ⟨rfl, hb2⟩
  have c0 : w2.cell? ⟨w.heap.size, 0, none⟩ = some (.int .i64 p) := below_cell hb2 (by omega) a0
  have c2 : w2.cell? ⟨w.heap.size + 1, 0, none⟩ = some (.int .i64 lo) := below_cell hb2 hz1 a2
  have c3 : w2.cell? ⟨w.heap.size + 1, 1, none⟩ = some (.int .i64 hi) := below_cell hb2 hz1 a3
  have hz2 : w.heap.size ≤ w2.heap.size := by have := hb2.size; omega
  have HB2 := Lib.hid (show Below w.heap.size w w2 from HB1.out.trans (hb2.mono (by omega)))
  clear hb2 a0 a1 a2 a3 hz1
  go_wp2_with (go_at_call 19; refine (known_c _).mono ?_; rintro e' w3 ⟨rfl, hb3⟩)
  go_ret
  exact ⟨rfl, HB2.out.trans (hb3.mono hz2)⟩

set_option maxHeartbeats 1000000 in
theorem lreg_Ta (p i s e lo hi V N : Int) (w : World) (H : RegIs p i s e lo hi V N 0) (v1 : lo ≤ V) (v2 : V ≤ hi) (n1 : -1073741824 ≤ N) (n2 : N ≤ 1073741824) (hs : -1073741824 ≤ s ∧ s ≤ 1073741824) (m : -35184372088832 ≤ p * e ∧ p * e ≤ 35184372088832) (g0 : p * e < 0) (g1 : 0 ≤ (p * e).tmod 65536) (g2 : -35184372088832 ≤ (p * e).tdiv 65536 ∧ (p * e).tdiv 65536 ≤ 35184372088832) (r1 : lo ≤ (p * e).tdiv 65536 + s) (r2 : (p * e).tdiv 65536 + s ≤ hi) :
    Calls Try.prog 6 #[.agg #[.int .i64 p, .int .i64 i], .int .i64 s, .int .i64 e, .agg #[.int .i64 lo, .int .i64 hi]] w fun en w' => en = .returned (.bool true) ∧ Below w.heap.size w w' := by
  go_enter Try.func6, Try.ntmps6
  go_wp2_with fail
  refine (reg1 H _).mono ?_
  rintro en w1 ⟨rfl, hb1⟩
  have a0 : w1.cell? ⟨w.heap.size, 0, none⟩ = some (.int .i64 p) := below_cell hb1 (by simp; omega) (by go_simp)
  have a1 : w1.cell? ⟨w.heap.size, 1, none⟩ = some (.int .i64 i) := below_cell hb1 (by simp; omega) (by go_simp)
  have a2 : w1.cell? ⟨w.heap.size + 1, 0, none⟩ = some (.int .i64 lo) := below_cell hb1 (by simp) (by go_simp)
  have a3 : w1.cell? ⟨w.heap.size + 1, 1, none⟩ = some (.int .i64 hi) := below_cell hb1 (by simp) (by go_simp)
  have hz1 : w.heap.size + 1 < w1.heap.size := by have := hb1.size; simp at this; omega
  have HB1 := Lib.hid (show Below w.heap.size w w1 from (((Below.refl _ _).alloc (Nat.le_refl _) _).alloc (by simp) _).trans (hb1.mono (by simp; omega)))
  clear hb1
  go_wp2_with fail
  refine (reg2 H _).mono ?_
  rintro en w2 ⟨rfl, hb2⟩
  have c0 : w2.cell? ⟨w.heap.size, 0, none⟩ = some (.int .i64 p) := below_cell hb2 (by omega) a0
  have c2 : w2.cell? ⟨w.heap.size + 1, 0, none⟩ = some (.int .i64 lo) := below_cell hb2 hz1 a2
  have c3 : w2.cell? ⟨w.heap.size + 1, 1, none⟩ = some (.int .i64 hi) := below_cell hb2 hz1 a3
  have hz2 : w.heap.size ≤ w2.heap.size := by have := hb2.size; omega
  have HB2 := Lib.hid (show Below w.heap.size w w2 from HB1.out.trans (hb2.mono (by omega)))
  clear hb2 a0 a1 a2 a3 hz1
  go_wp2_with (go_at_call 19; refine (known_c _).mono ?_; rintro e' w3 ⟨rfl, hb3⟩)
  go_ret
  exact ⟨rfl, HB2.out.trans (hb3.mono hz2)⟩

set_option maxHeartbeats 1000000 in
theorem lreg_Tb (p i s e lo hi V N : Int) (w : World) (H : RegIs p i s e lo hi V N 0) (v1 : lo ≤ V) (v2 : V ≤ hi) (n1 : -1073741824 ≤ N) (n2 : N ≤ 1073741824) (hs : -1073741824 ≤ s ∧ s ≤ 1073741824) (m : -35184372088832 ≤ p * e ∧ p * e ≤ 35184372088832) (g0 : p * e < 0) (g1 : 0 ≤ (p * e).tmod 65536) (g2 : -35184372088832 ≤ (p * e).tdiv 65536 ∧ (p * e).tdiv 65536 ≤ 35184372088832) (r1 : hi < (p * e).tdiv 65536 + s) (r3 : lo ≤ (p * e).tdiv 65536 + s) (r2 : N ≤ s) :
    Calls Try.prog 6 #[.agg #[.int .i64 p, .int .i64 i], .int .i64 s, .int .i64 e, .agg #[.int .i64 lo, .int .i64 hi]] w fun en w' => en = .returned (.bool true) ∧ Below w.heap.size w w' := by
  go_enter Try.func6, Try.ntmps6
  go_wp2_with fail
  refine (reg1 H _).mono ?_
  rintro en w1 ⟨rfl, hb1⟩
  have a0 : w1.cell? ⟨w.heap.size, 0, none⟩ = some (.int .i64 p) := below_cell hb1 (by simp; omega) (by go_simp)
  have a1 : w1.cell? ⟨w.heap.size, 1, none⟩ = some (.int .i64 i) := below_cell hb1 (by simp; omega) (by go_simp)
  have a2 : w1.cell? ⟨w.heap.size + 1, 0, none⟩ = some (.int .i64 lo) := below_cell hb1 (by simp) (by go_simp)
  have a3 : w1.cell? ⟨w.heap.size + 1, 1, none⟩ = some (.int .i64 hi) := below_cell hb1 (by simp) (by go_simp)
  have hz1 : w.heap.size + 1 < w1.heap.size := by have := hb1.size; simp at this; omega
  have HB1 := Lib.hid (show Below w.heap.size w w1 from (((Below.refl _ _).alloc (Nat.le_refl _) _).alloc (by simp) _).trans (hb1.mono (by simp; omega)))
  clear hb1
  go_wp2_with fail
  refine (reg2 H _).mono ?_
  rintro en w2 ⟨rfl, hb2⟩
  have c0 : w2.cell? ⟨w.heap.size, 0, none⟩ = some (.int .i64 p) := below_cell hb2 (by omega) a0
  have c2 : w2.cell? ⟨w.heap.size + 1, 0, none⟩ = some (.int .i64 lo) := below_cell hb2 hz1 a2
  have c3 : w2.cell? ⟨w.heap.size + 1, 1, none⟩ = some (.int .i64 hi) := below_cell hb2 hz1 a3
  have hz2 : w.heap.size ≤ w2.heap.size := by have := hb2.size; omega
  have HB2 := Lib.hid (show Below w.heap.size w w2 from HB1.out.trans (hb2.mono (by omega)))
  clear hb2 a0 a1 a2 a3 hz1
  go_wp2_with (go_at_call 19; refine (known_c _).mono ?_; rintro e' w3 ⟨rfl, hb3⟩)
  go_ret
  exact ⟨rfl, HB2.out.trans (hb3.mono hz2)⟩

set_option maxHeartbeats 1000000 in
theorem lreg_Tc (p i s e lo hi V N : Int) (w : World) (H : RegIs p i s e lo hi V N 0) (v1 : lo ≤ V) (v2 : V ≤ hi) (n1 : -1073741824 ≤ N) (n2 : N ≤ 1073741824) (hs : -1073741824 ≤ s ∧ s ≤ 1073741824) (m : -35184372088832 ≤ p * e ∧ p * e ≤ 35184372088832) (g0 : p * e < 0) (g1 : 0 ≤ (p * e).tmod 65536) (g2 : -35184372088832 ≤ (p * e).tdiv 65536 ∧ (p * e).tdiv 65536 ≤ 35184372088832) (r1 : (p * e).tdiv 65536 + s < lo) (r3 : (p * e).tdiv 65536 + s ≤ hi) (r2 : s ≤ N) :
    Calls Try.prog 6 #[.agg #[.int .i64 p, .int .i64 i], .int .i64 s, .int .i64 e, .agg #[.int .i64 lo, .int .i64 hi]] w fun en w' => en = .returned (.bool true) ∧ Below w.heap.size w w' := by
  go_enter Try.func6, Try.ntmps6
  go_wp2_with fail
  refine (reg1 H _).mono ?_
  rintro en w1 ⟨rfl, hb1⟩
  have a0 : w1.cell? ⟨w.heap.size, 0, none⟩ = some (.int .i64 p) := below_cell hb1 (by simp; omega) (by go_simp)
  have a1 : w1.cell? ⟨w.heap.size, 1, none⟩ = some (.int .i64 i) := below_cell hb1 (by simp; omega) (by go_simp)
  have a2 : w1.cell? ⟨w.heap.size + 1, 0, none⟩ = some (.int .i64 lo) := below_cell hb1 (by simp) (by go_simp)
  have a3 : w1.cell? ⟨w.heap.size + 1, 1, none⟩ = some (.int .i64 hi) := below_cell hb1 (by simp) (by go_simp)
  have hz1 : w.heap.size + 1 < w1.heap.size := by have := hb1.size; simp at this; omega
  have HB1 := Lib.hid (show Below w.heap.size w w1 from (((Below.refl _ _).alloc (Nat.le_refl _) _).alloc (by simp) _).trans (hb1.mono (by simp; omega)))
  clear hb1
  go_wp2_with fail
  refine (reg2 H _).mono ?_
  rintro en w2 ⟨rfl, hb2⟩
  have c0 : w2.cell? ⟨w.heap.size, 0, none⟩ = some (.int .i64 p) := below_cell hb2 (by omega) a0
  have c2 : w2.cell? ⟨w.heap.size + 1, 0, none⟩ = some (.int .i64 lo) := below_cell hb2 hz1 a2
  have c3 : w2.cell? ⟨w.heap.size + 1, 1, none⟩ = some (.int .i64 hi) := below_cell hb2 hz1 a3
  have hz2 : w.heap.size ≤ w2.heap.size := by have := hb2.size; omega
  have HB2 := Lib.hid (show Below w.heap.size w w2 from HB1.out.trans (hb2.mono (by omega)))
  clear hb2 a0 a1 a2 a3 hz1
  go_wp2_with (go_at_call 19; refine (known_c _).mono ?_; rintro e' w3 ⟨rfl, hb3⟩)
  go_ret
  exact ⟨rfl, HB2.out.trans (hb3.mono hz2)⟩

set_option maxHeartbeats 1000000 in
theorem lreg_no (p i s e lo hi E : Int) (w : World) (hE : E = 2 ∨ E = 3) (H : RegIs p i s e lo hi 0 0 E) :
    Calls Try.prog 6 #[.agg #[.int .i64 p, .int .i64 i], .int .i64 s, .int .i64 e, .agg #[.int .i64 lo, .int .i64 hi]] w fun en w' => en = .returned (.bool true) ∧ Below w.heap.size w w' := by
  rcases hE with rfl | rfl
  all_goals
    go_enter Try.func6, Try.ntmps6
    go_wp2_with fail
    refine (reg1 H _).mono ?_
    rintro en w1 ⟨rfl, hb1⟩
    have a0 : w1.cell? ⟨w.heap.size, 0, none⟩ = some (.int .i64 p) := below_cell hb1 (by simp; omega) (by go_simp)
    have a1 : w1.cell? ⟨w.heap.size, 1, none⟩ = some (.int .i64 i) := below_cell hb1 (by simp; omega) (by go_simp)
    have a2 : w1.cell? ⟨w.heap.size + 1, 0, none⟩ = some (.int .i64 lo) := below_cell hb1 (by simp) (by go_simp)
    have a3 : w1.cell? ⟨w.heap.size + 1, 1, none⟩ = some (.int .i64 hi) := below_cell hb1 (by simp) (by go_simp)
    have hz1 : w.heap.size + 1 < w1.heap.size := by have := hb1.size; simp at this; omega
    have HB1 := Lib.hid (show Below w.heap.size w w1 from (((Below.refl _ _).alloc (Nat.le_refl _) _).alloc (by simp) _).trans (hb1.mono (by simp; omega)))
    clear hb1
    go_wp2_with fail
    refine (reg2 H _).mono ?_
    rintro en w2 ⟨rfl, hb2⟩
    have c0 : w2.cell? ⟨w.heap.size, 0, none⟩ = some (.int .i64 p) := below_cell hb2 (by omega) a0
    have c2 : w2.cell? ⟨w.heap.size + 1, 0, none⟩ = some (.int .i64 lo) := below_cell hb2 hz1 a2
    have c3 : w2.cell? ⟨w.heap.size + 1, 1, none⟩ = some (.int .i64 hi) := below_cell hb2 hz1 a3
    have hz2 : w.heap.size ≤ w2.heap.size := by have := hb2.size; omega
    have HB2 := Lib.hid (show Below w.heap.size w w2 from HB1.out.trans (hb2.mono (by omega)))
    clear hb2 a0 a1 a2 a3 hz1
    go_wp2_with (go_at_call 19; refine (known_c _).mono ?_; rintro e' w3 ⟨rfl, hb3⟩)
    go_ret
    exact ⟨rfl, HB2.out.trans (hb3.mono hz2)⟩

theorem DriveRegulates_any (p i s e lo hi : Int) (w : World) :
    Calls Try.prog 6 #[.agg #[.int .i64 p, .int .i64 i], .int .i64 s, .int .i64 e, .agg #[.int .i64 lo, .int .i64 hi]] w fun en w' => en = .returned (.bool true) ∧ Below w.heap.size w w' := by
  cases hA : Dv.rgA p i lo hi
  · exact lreg_no p i s e lo hi 2 w (.inl rfl) ⟨by simp [Dv.rgV, hA], by simp [Dv.rgN, hA], by simp [Dv.rgE, hA]⟩
  · cases hB : Dv.rgB s e
    · exact lreg_no p i s e lo hi 3 w (.inr rfl) ⟨by simp [Dv.rgV, hB], by simp [Dv.rgN, hB], by simp [Dv.rgE, hA, hB]⟩
    · have ht : 0 ≤ p ∧ p ≤ 16777216 ∧ 0 ≤ i ∧ i ≤ 16777216 := by
        have := hA; unfold Dv.rgA at this; rw [Bool.and_eq_true] at this; simpa [Dv.tunB] using this.1
      have hlh : lo ≤ hi := by
        have := hA; unfold Dv.rgA Dv.spanB at this; rw [Bool.and_eq_true, Bool.and_eq_true] at this; simpa using this.2.2
      have hs : -1073741824 ≤ s ∧ s ≤ 1073741824 := by
        have := hB; unfold Dv.rgB at this; rw [Bool.and_eq_true] at this; exact upB1.1 this.1
      have he : -2097152 ≤ e ∧ e ≤ 2097152 := by
        have := hB; unfold Dv.rgB at this; rw [Bool.and_eq_true] at this; exact upB1.1 this.2
      have H : RegIs p i s e lo hi (Dv.clip (Dv.raw p s e) lo hi) (Dv.regS i s e (Dv.regC (Dv.raw p s e) e lo hi)) 0 := ⟨by simp [Dv.rgV, hA, hB], by simp [Dv.rgN, hA, hB], by simp [Dv.rgE, hA, hB]⟩
      have v1 : lo ≤ Dv.clip (Dv.raw p s e) lo hi := by unfold Dv.clip; omega
      have v2 : Dv.clip (Dv.raw p s e) lo hi ≤ hi := by unfold Dv.clip; omega
      have n1 : -1073741824 ≤ Dv.regS i s e (Dv.regC (Dv.raw p s e) e lo hi) := by unfold Dv.regS Dv.clip; omega
      have n2 : Dv.regS i s e (Dv.regC (Dv.raw p s e) e lo hi) ≤ 1073741824 := by unfold Dv.regS Dv.clip; omega
      obtain ⟨m0, m1⟩ := Dv.mul_bd (x := p) (y := e) 16777216 2097152 (by omega) he
      have q := Dv.ediv_bd (p * e) 65536 (by omega) 35184372088832 (by omega) (by omega) (by omega)
      have hb : hi < Dv.raw p s e → Dv.regS i s e (Dv.regC (Dv.raw p s e) e lo hi) ≤ s := by
        intro h
        by_cases h0 : e < 0
        · have : Dv.regC (Dv.raw p s e) e lo hi = true := by simp [Dv.regC]; omega
          have hie : i * e / 65536 ≤ 0 := by
            have : i * e ≤ 0 := Int.mul_nonpos_of_nonneg_of_nonpos (by omega) (by omega)
            have := Int.ediv_le_ediv (a := i * e) (b := 0) (c := 65536) (by omega) this
            simpa using this
          rw [this]; unfold Dv.regS Dv.clip; rw [if_pos rfl]; omega
        · have : Dv.regC (Dv.raw p s e) e lo hi = false := by simp [Dv.regC]; omega
          rw [this]; unfold Dv.regS Dv.clip; rw [if_neg (by simp)]; omega
      have hc : Dv.raw p s e < lo → s ≤ Dv.regS i s e (Dv.regC (Dv.raw p s e) e lo hi) := by
        intro h
        by_cases h0 : 0 < e
        · have : Dv.regC (Dv.raw p s e) e lo hi = true := by simp [Dv.regC]; omega
          have hie : 0 ≤ i * e / 65536 := Int.ediv_nonneg (Int.mul_nonneg (by omega) (by omega)) (by omega)
          rw [this]; unfold Dv.regS Dv.clip; rw [if_pos rfl]; omega
        · have : Dv.regC (Dv.raw p s e) e lo hi = false := by simp [Dv.regC]; omega
          rw [this]; unfold Dv.regS Dv.clip; rw [if_neg (by simp)]; omega
      have hraw : Dv.raw p s e = p * e / 65536 + s := rfl
      generalize Dv.clip (Dv.raw p s e) lo hi = V at *
      generalize Dv.regS i s e (Dv.regC (Dv.raw p s e) e lo hi) = N at *
      rw [hraw] at hb hc
      by_cases g0 : 0 ≤ p * e
      · have g1 : 0 ≤ p * e % 65536 := Int.emod_nonneg _ (by omega)
        have g2 : 0 ≤ p * e / 65536 := Int.ediv_nonneg g0 (by omega)
        by_cases k1 : hi < p * e / 65536 + s
        · exact lreg_Pb p i s e lo hi V N w H v1 v2 n1 n2 hs ⟨by omega, by omega⟩ g0 g1 ⟨g2, q.2⟩ k1 (by omega) (hb k1)
        · by_cases k2 : p * e / 65536 + s < lo
          · exact lreg_Pc p i s e lo hi V N w H v1 v2 n1 n2 hs ⟨by omega, by omega⟩ g0 g1 ⟨g2, q.2⟩ k2 (by omega) (hc k2)
          · exact lreg_Pa p i s e lo hi V N w H v1 v2 n1 n2 hs ⟨by omega, by omega⟩ g0 g1 ⟨g2, q.2⟩ (by omega) (by omega)
      · by_cases g1 : (p * e).tmod 65536 < 0
        · have et := Dv.tdiv_neg_low (p * e) 65536 (by omega) (by omega) g1
          by_cases k1 : hi < p * e / 65536 + s
          · exact lreg_Qb p i s e lo hi V N w H v1 v2 n1 n2 hs ⟨by omega, by omega⟩ (by omega) g1 ⟨by omega, by omega⟩ (by omega) (by omega) (hb k1)
          · by_cases k2 : p * e / 65536 + s < lo
            · exact lreg_Qc p i s e lo hi V N w H v1 v2 n1 n2 hs ⟨by omega, by omega⟩ (by omega) g1 ⟨by omega, by omega⟩ (by omega) (by omega) (hc k2)
            · exact lreg_Qa p i s e lo hi V N w H v1 v2 n1 n2 hs ⟨by omega, by omega⟩ (by omega) g1 ⟨by omega, by omega⟩ (by omega) (by omega)
        · have et := Dv.tdiv_neg_even (p * e) 65536 (by omega) (by omega) (by omega)
          by_cases k1 : hi < p * e / 65536 + s
          · exact lreg_Tb p i s e lo hi V N w H v1 v2 n1 n2 hs ⟨by omega, by omega⟩ (by omega) (by omega) ⟨by omega, by omega⟩ (by omega) (by omega) (hb k1)
          · by_cases k2 : p * e / 65536 + s < lo
            · exact lreg_Tc p i s e lo hi V N w H v1 v2 n1 n2 hs ⟨by omega, by omega⟩ (by omega) (by omega) ⟨by omega, by omega⟩ (by omega) (by omega) (hc k2)
            · exact lreg_Ta p i s e lo hi V N w H v1 v2 n1 n2 hs ⟨by omega, by omega⟩ (by omega) (by omega) ⟨by omega, by omega⟩ (by omega) (by omega)
end Go.Proofs.Ytcneohhfnnelgaa
