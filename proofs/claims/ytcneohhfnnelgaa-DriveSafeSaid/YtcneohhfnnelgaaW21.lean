/- The contract of Step of drive. -/
import Derived.Test.YtcneohhfnnelgaaW20
import Derived.Test.YtcneohhfnnelgaaH1
import Derived.Deep.RegionHeld3
namespace Go.Proofs.Ytcneohhfnnelgaa
open Go.RowKit
set_option linter.unusedVariables false
def Rot.cs (s : Rot) : List Value := [.int .i64 s.d, .int .i64 s.q, .int .i64 s.w, .int .i64 s.a]
def Mot.cs (m : Mot) : List Value := [.int .i64 m.r, .int .i64 m.ld, .int .i64 m.lq, .int .i64 m.fx, .int .i64 m.po, .int .i64 m.mi, .int .i64 m.sp, .int .i64 m.dr, .int .i64 m.cu, .int .i64 m.fa]
def rot0 : Rot := ⟨0, 0, 0, 0⟩
theorem motOf {w : World} {b : Nat} {m : Mot} {T : TypeId} (h : Blk w b T m.cs) : MotAt w b m :=
  ⟨h.cell 0 rfl, h.cell 1 rfl, h.cell 2 rfl, h.cell 3 rfl, h.cell 4 rfl, h.cell 5 rfl, h.cell 6 rfl, h.cell 7 rfl, h.cell 8 rfl, h.cell 9 rfl⟩
theorem rotOf {w : World} {b : Nat} {s : Rot} {T : TypeId} (h : Blk w b T s.cs) : w.cell? ⟨b, 0, none⟩ = some (.int .i64 s.d) ∧ w.cell? ⟨b, 1, none⟩ = some (.int .i64 s.q) ∧ w.cell? ⟨b, 2, none⟩ = some (.int .i64 s.w) ∧ w.cell? ⟨b, 3, none⟩ = some (.int .i64 s.a) :=
  ⟨h.cell 0 rfl, h.cell 1 rfl, h.cell 2 rfl, h.cell 3 rfl⟩
theorem freeOf {w : World} {b : Nat} {s : Rot} {T : TypeId} (h : Blk w b T s.cs) : w.frozen? ⟨b, 0, none⟩ = false ∧ w.frozen? ⟨b, 1, none⟩ = false ∧ w.frozen? ⟨b, 2, none⟩ = false ∧ w.frozen? ⟨b, 3, none⟩ = false :=
  ⟨h.free 0, h.free 1, h.free 2, h.free 3⟩

/-- behind a call that came after three new blocks -/
theorem after3 {w w1 : World} {c1 c2 c3 : List Value} {T1 T2 T3 : TypeId} (hb : Below (((w.alloc (.cells c1.toArray T1)).alloc (.cells c2.toArray T2)).alloc (.cells c3.toArray T3)).heap.size (((w.alloc (.cells c1.toArray T1)).alloc (.cells c2.toArray T2)).alloc (.cells c3.toArray T3)) w1) :
    Blk w1 w.heap.size T1 c1 ∧ Blk w1 (w.heap.size + 1) T2 c2 ∧ Blk w1 (w.heap.size + 1 + 1) T3 c3 ∧ Below w.heap.size w w1 := by
  refine ⟨(((Blk.new w c1 T1).alloc _).alloc _).below hb (by simp; omega), ?_, ?_, (((Below.refl _ w).alloc (Nat.le_refl _) _).alloc (by simp) _ |>.alloc (by simp; omega) _).trans (hb.mono (by simp; omega))⟩
  · have := ((Blk.new (w.alloc (.cells c1.toArray T1)) c2 T2).alloc (.cells c3.toArray T3)).below hb (by simp)
    simpa using this
  · have := (Blk.new ((w.alloc (.cells c1.toArray T1)).alloc (.cells c2.toArray T2)) c3 T3).below hb (by simp)
    simpa using this
/-- what lies in memory while Step runs -/
def StI (w : World) (m : Mot) (s : Rot) (W : World) : Prop := Blk W w.heap.size 52 m.cs ∧ Blk W (w.heap.size + 1) 57 s.cs ∧ Blk W (w.heap.size + 1 + 1) 57 rot0.cs ∧ Below w.heap.size w W
theorem StI.below {w : World} {m : Mot} {s : Rot} {W W' : World} (h : StI w m s W) (hb : Below W.heap.size W W') : StI w m s W' :=
  ⟨h.1.below hb h.1.lt, h.2.1.below hb h.2.1.lt, h.2.2.1.below hb h.2.2.1.lt, h.2.2.2.trans (hb.mono h.2.2.2.size)⟩
theorem StI.alloc {w : World} {m : Mot} {s : Rot} {W : World} (h : StI w m s W) (o : Obj) : StI w m s (W.alloc o) := h.below ((Below.refl _ _).alloc (Nat.le_refl _) _)
theorem StI.m {w : World} {m : Mot} {s : Rot} {W : World} (h : StI w m s W) : MotAt W w.heap.size m := motOf h.1
theorem StI.s {w : World} {m : Mot} {s : Rot} {W : World} (h : StI w m s W) : W.cell? ⟨w.heap.size + 1, 0, none⟩ = some (.int .i64 s.d) ∧ W.cell? ⟨w.heap.size + 1, 1, none⟩ = some (.int .i64 s.q) ∧ W.cell? ⟨w.heap.size + 1, 2, none⟩ = some (.int .i64 s.w) ∧ W.cell? ⟨w.heap.size + 1, 3, none⟩ = some (.int .i64 s.a) := rotOf h.2.1
theorem StI.r {w : World} {m : Mot} {s : Rot} {W : World} (h : StI w m s W) : W.cell? ⟨w.heap.size + 1 + 1, 0, none⟩ = some (.int .i64 rot0.d) ∧ W.cell? ⟨w.heap.size + 1 + 1, 1, none⟩ = some (.int .i64 rot0.q) ∧ W.cell? ⟨w.heap.size + 1 + 1, 2, none⟩ = some (.int .i64 rot0.w) ∧ W.cell? ⟨w.heap.size + 1 + 1, 3, none⟩ = some (.int .i64 rot0.a) := rotOf h.2.2.1
theorem StI.f {w : World} {m : Mot} {s : Rot} {W : World} (h : StI w m s W) : W.frozen? ⟨w.heap.size + 1 + 1, 0, none⟩ = false ∧ W.frozen? ⟨w.heap.size + 1 + 1, 1, none⟩ = false ∧ W.frozen? ⟨w.heap.size + 1 + 1, 2, none⟩ = false ∧ W.frozen? ⟨w.heap.size + 1 + 1, 3, none⟩ = false := freeOf h.2.2.1
theorem StI.lt {w : World} {m : Mot} {s : Rot} {W : World} (h : StI w m s W) : w.heap.size + 1 + 1 < W.heap.size := h.2.2.1.lt
theorem below_put4 {w W : World} {b : Nat} (h : Below w.heap.size w W) (hb : w.heap.size ≤ b) (v0 v1 v2 v3 : Value) : Below w.heap.size w ((((W.setCell ⟨b, 0, none⟩ v0).setCell ⟨b, 1, none⟩ v1).setCell ⟨b, 2, none⟩ v2).setCell ⟨b, 3, none⟩ v3) :=
  (((h.setCell hb _).setCell hb _).setCell hb _).setCell hb _

/-- upTo of one or two numbers, where it is said of the world only that all that was there stays -/
theorem up2w (m a b : Int) (W : World) (g : Nat) (hg : W.heap.size = g) (hm0 : 0 ≤ m) (hm1 : m ≤ 4611686018427387904) :
    Calls Try.prog 67 #[.int .i64 m, .slice (some ⟨g, 0, none⟩) 2 2] (W.alloc (.cells #[.int .i64 a, .int .i64 b] 2)) fun e w' => e = .returned (.bool (upB m [a, b])) ∧ Below W.heap.size W w' :=
  (up2 m a b W g hg hm0 hm1).mono fun _ _ ⟨h1, h2⟩ => ⟨h1, h2 ▸ (Below.refl _ _).alloc (Nat.le_refl _) _⟩

namespace Dv
def stW (s : Rot) : Int := s.w / 1000
def stN (m : Mot) (s : Rot) (vd vq ld : Int) : Rot :=
  ⟨s.d + (vd + ibd m s.d s.q (stW s)) * m.mi / m.ld, s.q + (vq + ibq m s.d s.q (stW s)) * m.mi / m.lq, s.w + (tq m s.d s.q - ld - m.dr * stW s) * m.sp / 1048576, (s.a + s.w * m.mi * 10430378 / 1000000000000) % 65536⟩
def stB (s : Rot) (vd vq ld : Int) : Bool := rotB s && (upB 1073741824 [vd, vq] && upB 68719476736 [ld])
def stR (m : Mot) (s : Rot) (vd vq ld : Int) : Rot × Int :=
  if chkB m = true then (if stB s vd vq ld = true then (if upB 68719476736 [tq m s.d s.q] = true ∧ rotB (stN m s vd vq ld) = true then (stN m s vd vq ld, 0) else (rot0, 4)) else (rot0, 3)) else (rot0, 2)
theorem rotB_iff {s : Rot} : rotB s = true ↔ (-1048576 ≤ s.d ∧ s.d ≤ 1048576) ∧ (-1048576 ≤ s.q ∧ s.q ≤ 1048576) ∧ (-16384000 ≤ s.w ∧ s.w ≤ 16384000) ∧ (0 ≤ s.a ∧ s.a < 65536) := by
  unfold rotB
  rw [Bool.and_eq_true, Bool.and_eq_true, upB2, upB1]
  simp only [angB, decide_eq_true_eq]
  exact ⟨fun ⟨⟨a, b⟩, c, d⟩ => ⟨a, b, c, d⟩, fun ⟨a, b, c, d⟩ => ⟨⟨a, b⟩, c, d⟩⟩
/-- the products of Step -/
theorem st_prods {m : Mot} {s : Rot} {vd vq ld : Int} (hm : chk m) (hs : rotB s = true) (hv : (-1073741824 ≤ vd ∧ vd ≤ 1073741824) ∧ (-1073741824 ≤ vq ∧ vq ≤ 1073741824)) (hl : -68719476736 ≤ ld ∧ ld ≤ 68719476736) :
    (-16384 ≤ s.w / 1000 ∧ s.w / 1000 ≤ 16384) ∧
    (-(100000000000 * 1000) ≤ (vd + ibd m s.d s.q (s.w / 1000)) * m.mi ∧ (vd + ibd m s.d s.q (s.w / 1000)) * m.mi ≤ 100000000000 * 1000) ∧
    (-(200000000000 * 1000) ≤ (vq + ibq m s.d s.q (s.w / 1000)) * m.mi ∧ (vq + ibq m s.d s.q (s.w / 1000)) * m.mi ≤ 200000000000 * 1000) ∧
    (-(100000000000 * 1000) ≤ (vd + ibd m s.d s.q (s.w / 1000)) * m.mi / m.ld ∧ (vd + ibd m s.d s.q (s.w / 1000)) * m.mi / m.ld ≤ 100000000000 * 1000) ∧
    (-(200000000000 * 1000) ≤ (vq + ibq m s.d s.q (s.w / 1000)) * m.mi / m.lq ∧ (vq + ibq m s.d s.q (s.w / 1000)) * m.mi / m.lq ≤ 200000000000 * 1000) ∧
    (-(1048576 * 16384) ≤ m.dr * (s.w / 1000) ∧ m.dr * (s.w / 1000) ≤ 1048576 * 16384) ∧
    (-(1000000000000 * 1048576) ≤ (tq m s.d s.q - ld - m.dr * (s.w / 1000)) * m.sp ∧ (tq m s.d s.q - ld - m.dr * (s.w / 1000)) * m.sp ≤ 1000000000000 * 1048576) ∧
    (-(16384000 * 1000) ≤ s.w * m.mi ∧ s.w * m.mi ≤ 16384000 * 1000) := by
  obtain ⟨h1, h2, h3, h4⟩ := rotB_iff.1 hs
  have hw : -16384 ≤ s.w / 1000 ∧ s.w / 1000 ≤ 16384 := by omega
  obtain ⟨b1, b2⟩ := in_bd hm h1 h2 hw
  have b3 := tq_bd hm h1 h2
  unfold chk at hm
  obtain ⟨k0, k1, k2, k3, k4, k5, k6, k7, k8, k9⟩ := hm
  have p1 := mul_bd (x := vd + ibd m s.d s.q (s.w / 1000)) (y := m.mi) 100000000000 1000 (by omega) (by omega)
  have p2 := mul_bd (x := vq + ibq m s.d s.q (s.w / 1000)) (y := m.mi) 200000000000 1000 (by omega) (by omega)
  have p5 := mul_bd (x := m.dr) (y := s.w / 1000) 1048576 16384 (by omega) hw
  exact ⟨hw, p1, p2, ediv_bd _ _ k1.1 _ p1.1 p1.2 (by omega), ediv_bd _ _ k2.1 _ p2.1 p2.2 (by omega), p5, mul_bd (x := tq m s.d s.q - ld - m.dr * (s.w / 1000)) (y := m.sp) 1000000000000 1048576 (by omega) (by omega), mul_bd (x := s.w) (y := m.mi) 16384000 1000 h3 (by omega)⟩
end Dv

set_option maxHeartbeats 1000000 in
theorem Step_no1 (m : Mot) (s : Rot) (vd vq ld : Int) (w : World) (hC : Dv.chkB m = false) :
    Calls Try.prog 50 #[.agg #[.int .i64 m.r, .int .i64 m.ld, .int .i64 m.lq, .int .i64 m.fx, .int .i64 m.po, .int .i64 m.mi, .int .i64 m.sp, .int .i64 m.dr, .int .i64 m.cu, .int .i64 m.fa], .agg #[.int .i64 s.d, .int .i64 s.q, .int .i64 s.w, .int .i64 s.a], .int .i64 vd, .int .i64 vq, .int .i64 ld] w fun e w' => e = .returned (.tuple #[.agg #[.int .i64 rot0.d, .int .i64 rot0.q, .int .i64 rot0.w, .int .i64 rot0.a], .int .i64 2]) ∧ Below w.heap.size w w' := by
  go_enter Try.func50, Try.ntmps50
  go_wp2_with fail
  refine (Check_no m _ hC).mono ?_
  rintro e w1 ⟨rfl, hb1⟩
  obtain ⟨HM, HS, HR, hB⟩ := after3 hb1
  have HR' : Blk w1 (w.heap.size + 1 + 1) 57 rot0.cs := HR
  obtain ⟨r0, r1, r2, r3⟩ := rotOf HR'
  obtain ⟨f0, f1, f2, f3⟩ := freeOf HR'
  have HB := Lib.hid hB
  clear hb1 HR HR' HM HS hB
  go_wp2
  exact bodyPost_ret (v := .tuple #[.agg #[.int .i64 rot0.d, .int .i64 rot0.q, .int .i64 rot0.w, .int .i64 rot0.a], .int .i64 2]) (by simp [results, Try.results50, go_sem, r0, r1, r2, r3]; exact ⟨rfl, rfl, rfl, rfl⟩) rfl ⟨rfl, ((((HB.out.setCell (by simp; omega) _).setCell (by simp; omega) _).setCell (by simp; omega) _).setCell (by simp; omega) _)⟩

set_option maxHeartbeats 1000000 in
theorem Step_no2 (m : Mot) (s : Rot) (vd vq ld : Int) (w : World) (hC : Dv.chkB m = true) (h1 : Dv.rotB s = false) :
    Calls Try.prog 50 #[.agg #[.int .i64 m.r, .int .i64 m.ld, .int .i64 m.lq, .int .i64 m.fx, .int .i64 m.po, .int .i64 m.mi, .int .i64 m.sp, .int .i64 m.dr, .int .i64 m.cu, .int .i64 m.fa], .agg #[.int .i64 s.d, .int .i64 s.q, .int .i64 s.w, .int .i64 s.a], .int .i64 vd, .int .i64 vq, .int .i64 ld] w fun e w' => e = .returned (.tuple #[.agg #[.int .i64 rot0.d, .int .i64 rot0.q, .int .i64 rot0.w, .int .i64 rot0.a], .int .i64 3]) ∧ Below w.heap.size w w' := by
  go_enter Try.func50, Try.ntmps50
  go_wp2_with fail
  refine (Check_yes m _ hC).mono ?_
  rintro e w1 ⟨rfl, hb1⟩
  have I1 : Hid (StI w m s w1) := Lib.hid (after3 hb1)
  clear hb1
  obtain ⟨s0, s1, s2, s3⟩ := I1.out.s
  go_wp2_with fail
  refine (valid_c s _).mono ?_
  rintro e w2 ⟨rfl, hb2⟩
  have I2 := Lib.hid (I1.out.below hb2)
  clear hb2
  obtain ⟨r0, r1, r2, r3⟩ := I2.out.r
  obtain ⟨f0, f1, f2, f3⟩ := I2.out.f
  go_wp2
  exact bodyPost_ret (v := .tuple #[.agg #[.int .i64 rot0.d, .int .i64 rot0.q, .int .i64 rot0.w, .int .i64 rot0.a], .int .i64 3]) (by simp [results, Try.results50, go_sem, r0, r1, r2, r3]; exact ⟨rfl, rfl, rfl, rfl⟩) rfl ⟨rfl, below_put4 I2.out.2.2.2 (by omega) _ _ _ _⟩

set_option maxHeartbeats 1000000 in
theorem Step_no3 (m : Mot) (s : Rot) (vd vq ld : Int) (w : World) (hC : Dv.chkB m = true) (h1 : Dv.rotB s = true) (h2 : upB 1073741824 [vd, vq] = false) :
    Calls Try.prog 50 #[.agg #[.int .i64 m.r, .int .i64 m.ld, .int .i64 m.lq, .int .i64 m.fx, .int .i64 m.po, .int .i64 m.mi, .int .i64 m.sp, .int .i64 m.dr, .int .i64 m.cu, .int .i64 m.fa], .agg #[.int .i64 s.d, .int .i64 s.q, .int .i64 s.w, .int .i64 s.a], .int .i64 vd, .int .i64 vq, .int .i64 ld] w fun e w' => e = .returned (.tuple #[.agg #[.int .i64 rot0.d, .int .i64 rot0.q, .int .i64 rot0.w, .int .i64 rot0.a], .int .i64 3]) ∧ Below w.heap.size w w' := by
  go_enter Try.func50, Try.ntmps50
  go_wp2_with fail
  refine (Check_yes m _ hC).mono ?_
  rintro e w1 ⟨rfl, hb1⟩
  have I1 : Hid (StI w m s w1) := Lib.hid (after3 hb1)
  clear hb1
  obtain ⟨s0, s1, s2, s3⟩ := I1.out.s
  go_wp2_with fail
  refine (valid_c s _).mono ?_
  rintro e w2 ⟨rfl, hb2⟩
  have I2 := Lib.hid (I1.out.below hb2)
  clear hb2 s0 s1 s2 s3
  go_wp2_with fail
  refine (up2w _ vd vq _ _ (by simp) (by omega) (by omega)).mono ?_
  rintro e w3 ⟨rfl, hb3⟩
  have I3 := Lib.hid (I2.out.below hb3)
  clear hb3
  obtain ⟨r0, r1, r2, r3⟩ := I3.out.r
  obtain ⟨f0, f1, f2, f3⟩ := I3.out.f
  go_wp2
  exact bodyPost_ret (v := .tuple #[.agg #[.int .i64 rot0.d, .int .i64 rot0.q, .int .i64 rot0.w, .int .i64 rot0.a], .int .i64 3]) (by simp [results, Try.results50, go_sem, r0, r1, r2, r3]; exact ⟨rfl, rfl, rfl, rfl⟩) rfl ⟨rfl, below_put4 I3.out.2.2.2 (by omega) _ _ _ _⟩

set_option maxHeartbeats 1000000 in
theorem Step_no4 (m : Mot) (s : Rot) (vd vq ld : Int) (w : World) (hC : Dv.chkB m = true) (h1 : Dv.rotB s = true) (h2 : upB 1073741824 [vd, vq] = true) (h3 : upB 68719476736 [ld] = false) :
    Calls Try.prog 50 #[.agg #[.int .i64 m.r, .int .i64 m.ld, .int .i64 m.lq, .int .i64 m.fx, .int .i64 m.po, .int .i64 m.mi, .int .i64 m.sp, .int .i64 m.dr, .int .i64 m.cu, .int .i64 m.fa], .agg #[.int .i64 s.d, .int .i64 s.q, .int .i64 s.w, .int .i64 s.a], .int .i64 vd, .int .i64 vq, .int .i64 ld] w fun e w' => e = .returned (.tuple #[.agg #[.int .i64 rot0.d, .int .i64 rot0.q, .int .i64 rot0.w, .int .i64 rot0.a], .int .i64 3]) ∧ Below w.heap.size w w' := by
  go_enter Try.func50, Try.ntmps50
  go_wp2_with fail
  refine (Check_yes m _ hC).mono ?_
  rintro e w1 ⟨rfl, hb1⟩
  have I1 : Hid (StI w m s w1) := Lib.hid (after3 hb1)
  clear hb1
  obtain ⟨s0, s1, s2, s3⟩ := I1.out.s
  go_wp2_with fail
  refine (valid_c s _).mono ?_
  rintro e w2 ⟨rfl, hb2⟩
  have I2 := Lib.hid (I1.out.below hb2)
  clear hb2 s0 s1 s2 s3
  go_wp2_with fail
  refine (up2w _ vd vq _ _ (by simp) (by omega) (by omega)).mono ?_
  rintro e w3 ⟨rfl, hb3⟩
  have I3 := Lib.hid (I2.out.below hb3)
  clear hb3
  go_wp2_with fail
  refine (up1w _ ld _ _ (by simp) (by omega) (by omega)).mono ?_
  rintro e w4 ⟨rfl, hb4⟩
  have I4 := Lib.hid (I3.out.below hb4)
  clear hb4
  obtain ⟨r0, r1, r2, r3⟩ := I4.out.r
  obtain ⟨f0, f1, f2, f3⟩ := I4.out.f
  go_wp2
  exact bodyPost_ret (v := .tuple #[.agg #[.int .i64 rot0.d, .int .i64 rot0.q, .int .i64 rot0.w, .int .i64 rot0.a], .int .i64 3]) (by simp [results, Try.results50, go_sem, r0, r1, r2, r3]; exact ⟨rfl, rfl, rfl, rfl⟩) rfl ⟨rfl, below_put4 I4.out.2.2.2 (by omega) _ _ _ _⟩

end Go.Proofs.Ytcneohhfnnelgaa
