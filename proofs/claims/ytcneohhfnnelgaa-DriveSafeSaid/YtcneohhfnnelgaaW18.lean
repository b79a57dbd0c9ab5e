/- Contracts of torque and inner of drive and of coulombref06, and of current, great, speed. -/
import Derived.Test.YtcneohhfnnelgaaW17
import Derived.Test.YtcneohhfnnelgaaS0
import Derived.Test.YtcneohhfnnelgaaW16
namespace Go.Proofs.Ytcneohhfnnelgaa
open Go.RowKit
set_option linter.unusedVariables false

namespace Dv
def tqX (m : Mot) (d q : Int) : Int := m.fx * q + (m.ld - m.lq) * d * q / 1000000
def tq (m : Mot) (d q : Int) : Int := 3 * m.po * tqX m d q / 2000
def ibd (m : Mot) (d q w : Int) : Int := w * m.lq * q / 1000000 - m.r * d / 1000
def ibq (m : Mot) (d q w : Int) : Int := -(m.r * q / 1000) - w * m.ld * d / 1000000 - w * m.fx
/-- the products of torque -/
theorem tq_prods {m : Mot} {d q : Int} (hm : chk m) (hd : -1048576 ≤ d ∧ d ≤ 1048576) (hq : -1048576 ≤ q ∧ q ≤ 1048576) :
    (-(4194304 * 1048576) ≤ m.fx * q ∧ m.fx * q ≤ 4194304 * 1048576) ∧ (-(4194304 * 1048576) ≤ (m.ld - m.lq) * d ∧ (m.ld - m.lq) * d ≤ 4194304 * 1048576) ∧
    (-(4398046511104 * 1048576) ≤ (m.ld - m.lq) * d * q ∧ (m.ld - m.lq) * d * q ≤ 4398046511104 * 1048576) ∧
    (-4611686018428 ≤ (m.ld - m.lq) * d * q / 1000000 ∧ (m.ld - m.lq) * d * q / 1000000 ≤ 4611686018428) ∧
    (-(48 * 10000000000000) ≤ 3 * m.po * tqX m d q ∧ 3 * m.po * tqX m d q ≤ 48 * 10000000000000) ∧ (-10000000000000 ≤ tqX m d q ∧ tqX m d q ≤ 10000000000000) := by
  unfold chk at hm
  have p1 := mul_bd (x := m.fx) (y := q) 4194304 1048576 (by omega) hq
  have p2 := mul_bd (x := m.ld - m.lq) (y := d) 4194304 1048576 (by omega) hd
  have p3 := mul_bd (x := (m.ld - m.lq) * d) (y := q) 4398046511104 1048576 (by omega) hq
  have p4 : -4611686018428 ≤ (m.ld - m.lq) * d * q / 1000000 ∧ (m.ld - m.lq) * d * q / 1000000 ≤ 4611686018428 := by omega
  have p5 : -10000000000000 ≤ tqX m d q ∧ tqX m d q ≤ 10000000000000 := by unfold tqX; omega
  exact ⟨p1, p2, p3, p4, mul_bd (x := 3 * m.po) (y := tqX m d q) 48 10000000000000 (by omega) p5, p5⟩
theorem tq_bd {m : Mot} {d q : Int} (hm : chk m) (hd : -1048576 ≤ d ∧ d ≤ 1048576) (hq : -1048576 ≤ q ∧ q ≤ 1048576) : -480000000000 ≤ tq m d q ∧ tq m d q ≤ 480000000000 := by
  obtain ⟨_, _, _, _, h, _⟩ := tq_prods hm hd hq
  unfold tq
  omega
/-- the products of inner -/
theorem in_prods {m : Mot} {d q w : Int} (hm : chk m) (hd : -1048576 ≤ d ∧ d ≤ 1048576) (hq : -1048576 ≤ q ∧ q ≤ 1048576) (hw : -16384 ≤ w ∧ w ≤ 16384) :
    (-(16384 * 4194304) ≤ w * m.lq ∧ w * m.lq ≤ 16384 * 4194304) ∧ (-(68719476736 * 1048576) ≤ w * m.lq * q ∧ w * m.lq * q ≤ 68719476736 * 1048576) ∧ (-(1048576 * 1048576) ≤ m.r * d ∧ m.r * d ≤ 1048576 * 1048576) ∧
    (-(1048576 * 1048576) ≤ m.r * q ∧ m.r * q ≤ 1048576 * 1048576) ∧ (-(16384 * 4194304) ≤ w * m.ld ∧ w * m.ld ≤ 16384 * 4194304) ∧ (-(68719476736 * 1048576) ≤ w * m.ld * d ∧ w * m.ld * d ≤ 68719476736 * 1048576) ∧
    (-(16384 * 4194304) ≤ w * m.fx ∧ w * m.fx ≤ 16384 * 4194304) := by
  unfold chk at hm
  have p1 := mul_bd (x := w) (y := m.lq) 16384 4194304 hw (by omega)
  have p2 := mul_bd (x := w) (y := m.ld) 16384 4194304 hw (by omega)
  exact ⟨p1, mul_bd (x := w * m.lq) (y := q) 68719476736 1048576 (by omega) hq, mul_bd (x := m.r) (y := d) 1048576 1048576 (by omega) hd, mul_bd (x := m.r) (y := q) 1048576 1048576 (by omega) hq, p2,
    mul_bd (x := w * m.ld) (y := d) 68719476736 1048576 (by omega) hd, mul_bd (x := w) (y := m.fx) 16384 4194304 hw (by omega)⟩
theorem in_bd {m : Mot} {d q w : Int} (hm : chk m) (hd : -1048576 ≤ d ∧ d ≤ 1048576) (hq : -1048576 ≤ q ∧ q ≤ 1048576) (hw : -16384 ≤ w ∧ w ≤ 16384) :
    (-80000000000 ≤ ibd m d q w ∧ ibd m d q w ≤ 80000000000) ∧ (-150000000000 ≤ ibq m d q w ∧ ibq m d q w ≤ 150000000000) := by
  obtain ⟨_, h2, h3, h4, _, h6, h7⟩ := in_prods hm hd hq hw
  unfold ibd ibq
  omega
end Dv

set_option maxHeartbeats 1000000 in
theorem torque_c (m : Mot) (d q : Int) (w : World) (hm : Dv.chk m) (hd : -1048576 ≤ d ∧ d ≤ 1048576) (hq : -1048576 ≤ q ∧ q ≤ 1048576) :
    Calls Try.prog 100 #[.agg #[.int .i64 m.r, .int .i64 m.ld, .int .i64 m.lq, .int .i64 m.fx, .int .i64 m.po, .int .i64 m.mi, .int .i64 m.sp, .int .i64 m.dr, .int .i64 m.cu, .int .i64 m.fa], .int .i64 d, .int .i64 q] w fun e w' => e = .returned (.int .i64 (Dv.tq m d q)) ∧ Below w.heap.size w w' := by
  obtain ⟨p1, p2, p3, p4, p5, p6⟩ := Dv.tq_prods hm hd hq
  unfold Dv.chk at hm
  unfold Dv.tqX at p5 p6
  go_enter Try.func100, Try.ntmps100
  go_wp2_with fail
  go_quiet ((go_at_call 69; exact quiet_left (div_c _ _ _ (by omega) (by omega) (by omega))))
  go_wp2
  go_ret
  exact ⟨rfl, below_drewN ((Below.refl _ _).alloc (Nat.le_refl _) _) _⟩

set_option maxHeartbeats 1000000 in
theorem torqueR_c (m : Mot) (d q : Int) (w : World) (hm : Dv.chk m) (hd : -1048576 ≤ d ∧ d ≤ 1048576) (hq : -1048576 ≤ q ∧ q ≤ 1048576) :
    Calls Try.prog 101 #[.agg #[.int .i64 m.r, .int .i64 m.ld, .int .i64 m.lq, .int .i64 m.fx, .int .i64 m.po, .int .i64 m.mi, .int .i64 m.sp, .int .i64 m.dr, .int .i64 m.cu, .int .i64 m.fa], .int .i64 d, .int .i64 q] w fun e w' => e = .returned (.int .i64 (Dv.tq m d q)) ∧ Below w.heap.size w w' := by
  obtain ⟨p1, p2, p3, p4, p5, p6⟩ := Dv.tq_prods hm hd hq
  unfold Dv.chk at hm
  unfold Dv.tqX at p5 p6
  go_enter Try.func101, Try.ntmps101
  go_wp2_with fail
  go_quiet ((go_at_call 85; first | exact quiet_left (floor_c _ _ _ (by omega) (by omega) (by omega)) | exact quiet_add_left (floor_c _ _ _ (by omega) (by omega) (by omega))))
  go_wp2_with (go_at_call 85; refine (floor_c _ _ _ (by omega) (by omega) (by omega)).mono ?_; rintro e w' ⟨rfl, rfl⟩)
  go_ret
  exact ⟨rfl, below_drewN ((Below.refl _ _).alloc (Nat.le_refl _) _) _⟩

set_option maxHeartbeats 1000000 in
theorem inner_c (m : Mot) (d q s : Int) (w : World) (hm : Dv.chk m) (hd : -1048576 ≤ d ∧ d ≤ 1048576) (hq : -1048576 ≤ q ∧ q ≤ 1048576) (hs : -16384 ≤ s ∧ s ≤ 16384) :
    Calls Try.prog 102 #[.agg #[.int .i64 m.r, .int .i64 m.ld, .int .i64 m.lq, .int .i64 m.fx, .int .i64 m.po, .int .i64 m.mi, .int .i64 m.sp, .int .i64 m.dr, .int .i64 m.cu, .int .i64 m.fa], .int .i64 d, .int .i64 q, .int .i64 s] w fun e w' => e = .returned (.tuple #[.int .i64 (Dv.ibd m d q s), .int .i64 (Dv.ibq m d q s)]) ∧ Below w.heap.size w w' := by
  obtain ⟨p1, p2, p3, p4, p5, p6, p7⟩ := Dv.in_prods hm hd hq hs
  unfold Dv.chk at hm
  go_enter Try.func102, Try.ntmps102
  go_wp2_with fail
  go_quiet ((go_at_call 69; exact quiet_left (div_c _ _ _ (by omega) (by omega) (by omega))))
  go_wp2
  go_ret2
  exact ⟨rfl, below_drewN ((Below.refl _ _).alloc (Nat.le_refl _) _) _⟩

set_option maxHeartbeats 1000000 in
theorem innerR_c (m : Mot) (d q s : Int) (w : World) (hm : Dv.chk m) (hd : -1048576 ≤ d ∧ d ≤ 1048576) (hq : -1048576 ≤ q ∧ q ≤ 1048576) (hs : -16384 ≤ s ∧ s ≤ 16384) :
    Calls Try.prog 103 #[.agg #[.int .i64 m.r, .int .i64 m.ld, .int .i64 m.lq, .int .i64 m.fx, .int .i64 m.po, .int .i64 m.mi, .int .i64 m.sp, .int .i64 m.dr, .int .i64 m.cu, .int .i64 m.fa], .int .i64 d, .int .i64 q, .int .i64 s] w fun e w' => e = .returned (.tuple #[.int .i64 (Dv.ibd m d q s), .int .i64 (Dv.ibq m d q s)]) ∧ Below w.heap.size w w' := by
  obtain ⟨p1, p2, p3, p4, p5, p6, p7⟩ := Dv.in_prods hm hd hq hs
  unfold Dv.chk at hm
  go_enter Try.func103, Try.ntmps103
  go_wp2_with fail
  go_quiet ((go_at_call 85; first | exact quiet_left (floor_c _ _ _ (by omega) (by omega) (by omega)) | exact quiet_add_left (floor_c _ _ _ (by omega) (by omega) (by omega))))
  go_wp2_with fail
  go_quiet ((go_at_call 85; first | exact quiet_left (floor_c _ _ _ (by omega) (by omega) (by omega)) | exact quiet_add_left (floor_c _ _ _ (by omega) (by omega) (by omega))))
  go_wp2
  go_ret2
  exact ⟨ret2_int (by unfold Dv.ibd; omega) rfl, below_drewN (below_drewN ((Below.refl _ _).alloc (Nat.le_refl _) _) _) _⟩

theorem current_c (x : Int) (w : World) : Calls Try.prog 97 #[.int .i64 x] w fun e w' => e = .returned (.bool (upB 1048576 [x])) ∧ w = w' := by
  go_enter Try.func97, Try.ntmps97
  go_wp2_with (go_at_call 80; refine (within_c _ _ _ _).mono ?_; rintro e w' ⟨rfl, rfl⟩)
  go_ret
  exact ⟨ret_bool (inB_up _ _), rfl⟩
namespace Dv
def spE (x : Int) : Int := if upB 16384 [x] = true then 0 else 3
end Dv
theorem speed_c (x : Int) (w : World) : Calls Try.prog 98 #[.int .i64 x] w fun e w' => e = .returned (.int .i64 (Dv.spE x)) ∧ w = w' := by
  cases h : Dv.inB x (-16384) 16384
  · have E := Lib.hid (show Dv.spE x = 3 from by rw [inB_up] at h; simp [Dv.spE, h])
    go_enter Try.func98, Try.ntmps98
    go_wp2_with (go_at_call 80; refine (within_c _ _ _ _).mono ?_; rintro e w' ⟨rfl, rfl⟩)
    go_ret
    exact ⟨ret_int E.out.symm, rfl⟩
  · have E := Lib.hid (show Dv.spE x = 0 from by rw [inB_up] at h; simp [Dv.spE, h])
    go_enter Try.func98, Try.ntmps98
    go_wp2_with (go_at_call 80; refine (within_c _ _ _ _).mono ?_; rintro e w' ⟨rfl, rfl⟩)
    go_ret
    exact ⟨ret_int E.out.symm, rfl⟩

/-- a motor in memory -/
def MotAt (w : World) (b : Nat) (m : Mot) : Prop := w.cell? ⟨b, 0, none⟩ = some (.int .i64 m.r) ∧ w.cell? ⟨b, 1, none⟩ = some (.int .i64 m.ld) ∧ w.cell? ⟨b, 2, none⟩ = some (.int .i64 m.lq) ∧ w.cell? ⟨b, 3, none⟩ = some (.int .i64 m.fx) ∧ w.cell? ⟨b, 4, none⟩ = some (.int .i64 m.po) ∧ w.cell? ⟨b, 5, none⟩ = some (.int .i64 m.mi) ∧ w.cell? ⟨b, 6, none⟩ = some (.int .i64 m.sp) ∧ w.cell? ⟨b, 7, none⟩ = some (.int .i64 m.dr) ∧ w.cell? ⟨b, 8, none⟩ = some (.int .i64 m.cu) ∧ w.cell? ⟨b, 9, none⟩ = some (.int .i64 m.fa)
theorem motAt_alloc (w : World) (m : Mot) (T : TypeId) : MotAt (w.alloc (.cells #[.int .i64 m.r, .int .i64 m.ld, .int .i64 m.lq, .int .i64 m.fx, .int .i64 m.po, .int .i64 m.mi, .int .i64 m.sp, .int .i64 m.dr, .int .i64 m.cu, .int .i64 m.fa] T)) w.heap.size m := by
  refine ⟨?_, ?_, ?_, ?_, ?_, ?_, ?_, ?_, ?_, ?_⟩ <;> go_simp
theorem MotAt.on {w w1 : World} {b B : Nat} {m : Mot} (h : MotAt w b m) (hb : Below B w w1) (hlt : b < B) : MotAt w1 b m := by
  obtain ⟨c0, c1, c2, c3, c4, c5, c6, c7, c8, c9⟩ := h
  exact ⟨below_cell hb hlt c0, below_cell hb hlt c1, below_cell hb hlt c2, below_cell hb hlt c3, below_cell hb hlt c4, below_cell hb hlt c5, below_cell hb hlt c6, below_cell hb hlt c7, below_cell hb hlt c8, below_cell hb hlt c9⟩
theorem Check_no (m : Mot) (w : World) (h : Dv.chkB m = false) : Calls Try.prog 48 #[.agg #[.int .i64 m.r, .int .i64 m.ld, .int .i64 m.lq, .int .i64 m.fx, .int .i64 m.po, .int .i64 m.mi, .int .i64 m.sp, .int .i64 m.dr, .int .i64 m.cu, .int .i64 m.fa]] w fun e w' => e = .returned (.int .i64 2) ∧ Below w.heap.size w w' :=
  (Check_c m w).mono fun _ _ ⟨h1, h2⟩ => ⟨by rw [h1, Dv.chkE, h]; rfl, h2⟩
theorem Check_yes (m : Mot) (w : World) (h : Dv.chkB m = true) : Calls Try.prog 48 #[.agg #[.int .i64 m.r, .int .i64 m.ld, .int .i64 m.lq, .int .i64 m.fx, .int .i64 m.po, .int .i64 m.mi, .int .i64 m.sp, .int .i64 m.dr, .int .i64 m.cu, .int .i64 m.fa]] w fun e w' => e = .returned (.int .i64 0) ∧ Below w.heap.size w w' :=
  (Check_c m w).mono fun _ _ ⟨h1, h2⟩ => ⟨by rw [h1, Dv.chkE, h]; rfl, h2⟩
theorem CheckR_no (m : Mot) (w : World) (h : Dv.chkB m = false) : Calls Try.prog 49 #[.agg #[.int .i64 m.r, .int .i64 m.ld, .int .i64 m.lq, .int .i64 m.fx, .int .i64 m.po, .int .i64 m.mi, .int .i64 m.sp, .int .i64 m.dr, .int .i64 m.cu, .int .i64 m.fa]] w fun e w' => e = .returned (.int .i64 2) ∧ Below w.heap.size w w' :=
  (CheckR_c m w).mono fun _ _ ⟨h1, h2⟩ => ⟨by rw [h1, Dv.chkE, h]; rfl, h2⟩
theorem CheckR_yes (m : Mot) (w : World) (h : Dv.chkB m = true) : Calls Try.prog 49 #[.agg #[.int .i64 m.r, .int .i64 m.ld, .int .i64 m.lq, .int .i64 m.fx, .int .i64 m.po, .int .i64 m.mi, .int .i64 m.sp, .int .i64 m.dr, .int .i64 m.cu, .int .i64 m.fa]] w fun e w' => e = .returned (.int .i64 0) ∧ Below w.heap.size w w' :=
  (CheckR_c m w).mono fun _ _ ⟨h1, h2⟩ => ⟨by rw [h1, Dv.chkE, h]; rfl, h2⟩
end Go.Proofs.Ytcneohhfnnelgaa
