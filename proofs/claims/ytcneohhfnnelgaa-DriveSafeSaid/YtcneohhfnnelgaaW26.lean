/- Contracts of Apply of drive and of coulombref06. -/
import Derived.Test.YtcneohhfnnelgaaW25
namespace Go.Proofs.Ytcneohhfnnelgaa
open Go.RowKit
set_option linter.unusedVariables false

theorem IntsAt.four {w : World} {A : Option Addr} {a b c d : Int} (h : IntsAt w A [a, b, c, d]) : ∃ ad, A = some ad ∧ Int4 w ad a b c d := by
  obtain ⟨ad, rfl, h0⟩ := h 0 (by simp)
  obtain ⟨ad1, e1, h1⟩ := h 1 (by simp)
  obtain ⟨ad2, e2, h2⟩ := h 2 (by simp)
  obtain ⟨ad3, e3, h3⟩ := h 3 (by simp)
  cases e1; cases e2; cases e3
  have h0' : w.cell? ad = some (.int .i64 a) := by simpa [Addr.add] using h0
  exact ⟨ad, rfl, World.block_lt_of_cell? w _ h0', h0', by simpa [Addr.add] using h1, by simpa [Addr.add] using h2, by simpa [Addr.add] using h3⟩
namespace Dv
def apB (m : Mot) (xs : List Int) : Bool := chkB m && (decide (xs.length = 4) && upB 1099511627776 xs)
def apM (m : Mot) (xs : List Int) : Mot := m.plus (xs.getD 0 0) (xs.getD 1 0) (xs.getD 2 0) (xs.getD 3 0)
def apR (m : Mot) (xs : List Int) : Mot × Int := if apB m xs = true then (if chkB (apM m xs) = true then (apM m xs, 0) else (mot0, 3)) else (mot0, 2)
end Dv
/-- what lies in memory while Apply runs -/
def ApI (w : World) (mm : Mot) (A : Option Addr) (xs : List Int) (W : World) : Prop := Blk W w.heap.size 52 mm.cs ∧ Blk W (w.heap.size + 1) 52 mot0.cs ∧ IntsAt W A xs ∧ Below w.heap.size w W
theorem ApI.below {w : World} {mm : Mot} {A : Option Addr} {xs : List Int} {W W' : World} (h : ApI w mm A xs W) (hb : Below W.heap.size W W') : ApI w mm A xs W' :=
  ⟨h.1.below hb h.1.lt, h.2.1.below hb h.2.1.lt, h.2.2.1.below hb, h.2.2.2.trans (hb.mono h.2.2.2.size)⟩
theorem ApI.start {w : World} {mm : Mot} {A : Option Addr} {xs : List Int} (h : IntsAt w A xs) : ApI w mm A xs ((w.alloc (.cells #[.int .i64 mm.r, .int .i64 mm.ld, .int .i64 mm.lq, .int .i64 mm.fx, .int .i64 mm.po, .int .i64 mm.mi, .int .i64 mm.sp, .int .i64 mm.dr, .int .i64 mm.cu, .int .i64 mm.fa] 52)).alloc (.cells #[.int .i64 0, .int .i64 0, .int .i64 0, .int .i64 0, .int .i64 0, .int .i64 0, .int .i64 0, .int .i64 0, .int .i64 0, .int .i64 0] 52)) :=
  ⟨(Blk.new' _ _ _).alloc _, by have := Blk.new' (w.alloc (.cells #[.int .i64 mm.r, .int .i64 mm.ld, .int .i64 mm.lq, .int .i64 mm.fx, .int .i64 mm.po, .int .i64 mm.mi, .int .i64 mm.sp, .int .i64 mm.dr, .int .i64 mm.cu, .int .i64 mm.fa] 52)) #[.int .i64 0, .int .i64 0, .int .i64 0, .int .i64 0, .int .i64 0, .int .i64 0, .int .i64 0, .int .i64 0, .int .i64 0, .int .i64 0] 52; simp at this; exact this,
    h.below (((Below.refl _ _).alloc (Nat.le_refl _) _).alloc (by simp) _), (((Below.refl _ _).alloc (Nat.le_refl _) _).alloc (by simp) _)⟩
/-- the numbers of the array of pointers -/
theorem ptrsOf {w : World} {b g : Nat} {T : TypeId} (h : Blk w g T (ptrs b)) : w.cell? ⟨g, 0, none⟩ = some (.pointer (some ⟨b, 0, none⟩)) ∧ w.cell? ⟨g, 1, none⟩ = some (.pointer (some ⟨b, 1, none⟩)) ∧ w.cell? ⟨g, 2, none⟩ = some (.pointer (some ⟨b, 2, none⟩)) ∧ w.cell? ⟨g, 3, none⟩ = some (.pointer (some ⟨b, 3, none⟩)) :=
  ⟨h.cell 0 rfl, h.cell 1 rfl, h.cell 2 rfl, h.cell 3 rfl⟩

set_option maxHeartbeats 2000000 in
set_option maxRecDepth 100000 in
theorem Apply_no1 (m : Mot) (A : Option Addr) (xs : List Int) (cap : Nat) (w : World) (hx : IntsAt w A xs) (hC : Dv.chkB m = false) :
    Calls Try.prog 52 #[.agg #[.int .i64 m.r, .int .i64 m.ld, .int .i64 m.lq, .int .i64 m.fx, .int .i64 m.po, .int .i64 m.mi, .int .i64 m.sp, .int .i64 m.dr, .int .i64 m.cu, .int .i64 m.fa], .slice A xs.length cap] w fun e w' => e = .returned (.tuple #[.agg #[.int .i64 mot0.r, .int .i64 mot0.ld, .int .i64 mot0.lq, .int .i64 mot0.fx, .int .i64 mot0.po, .int .i64 mot0.mi, .int .i64 mot0.sp, .int .i64 mot0.dr, .int .i64 mot0.cu, .int .i64 mot0.fa], .int .i64 2]) ∧ Below w.heap.size w w' := by
  have HX := Lib.hid hx
  clear hx
  go_enter Try.func52, Try.ntmps52
  go_wp2_with fail
  refine (parts_c w.heap.size _).mono ?_
  rintro e w1 ⟨rfl, hb1⟩
  have I1 := Lib.hid ((ApI.start (mm := m) HX.out).below hb1)
  clear hb1
  obtain ⟨c0, c1, c2, c3, c4, c5, c6, c7, c8, c9⟩ := motOf I1.out.1
  have z1 := I1.out.2.1.lt
  have z2 := I1.out.1.lt
  go_wp2_with fail
  refine (Check_no m _ hC).mono ?_
  rintro e w2 ⟨rfl, hb2⟩
  have G2 : Hid (Blk w2 w1.heap.size 119 (ptrs w.heap.size)) := Lib.hid ((Blk.new' _ _ _).below hb2 (by simp))
  have I2 := Lib.hid ((I1.out.below ((Below.refl _ _).alloc (Nat.le_refl _) _)).below hb2)
  clear hb2 c0 c1 c2 c3 c4 c5 c6 c7 c8 c9 z1 z2
  obtain ⟨r0, r1, r2, r3, r4, r5, r6, r7, r8, r9⟩ := motOf I2.out.2.1
  obtain ⟨g0, g1, g2, g3, g4, g5, g6, g7, g8, g9⟩ := freeMot I2.out.2.1
  go_wp2
  exact bodyPost_ret (v := .tuple #[.agg #[.int .i64 mot0.r, .int .i64 mot0.ld, .int .i64 mot0.lq, .int .i64 mot0.fx, .int .i64 mot0.po, .int .i64 mot0.mi, .int .i64 mot0.sp, .int .i64 mot0.dr, .int .i64 mot0.cu, .int .i64 mot0.fa], .int .i64 2]) (by simp [results, Try.results52, go_sem, r0, r1, r2, r3, r4, r5, r6, r7, r8, r9]; exact ⟨rfl, rfl, rfl, rfl, rfl, rfl, rfl, rfl, rfl, rfl⟩) rfl ⟨rfl, below_put10 I2.out.2.2.2 (by omega) _ _ _ _ _ _ _ _ _ _⟩

set_option maxHeartbeats 2000000 in
set_option maxRecDepth 100000 in
theorem Apply_no2 (m : Mot) (A : Option Addr) (xs : List Int) (cap : Nat) (w : World) (hx : IntsAt w A xs) (hC : Dv.chkB m = true) (hl : ((xs.length : Int) != 4) = true) :
    Calls Try.prog 52 #[.agg #[.int .i64 m.r, .int .i64 m.ld, .int .i64 m.lq, .int .i64 m.fx, .int .i64 m.po, .int .i64 m.mi, .int .i64 m.sp, .int .i64 m.dr, .int .i64 m.cu, .int .i64 m.fa], .slice A xs.length cap] w fun e w' => e = .returned (.tuple #[.agg #[.int .i64 mot0.r, .int .i64 mot0.ld, .int .i64 mot0.lq, .int .i64 mot0.fx, .int .i64 mot0.po, .int .i64 mot0.mi, .int .i64 mot0.sp, .int .i64 mot0.dr, .int .i64 mot0.cu, .int .i64 mot0.fa], .int .i64 2]) ∧ Below w.heap.size w w' := by
  have HX := Lib.hid hx
  clear hx
  go_enter Try.func52, Try.ntmps52
  go_wp2_with fail
  refine (parts_c w.heap.size _).mono ?_
  rintro e w1 ⟨rfl, hb1⟩
  have I1 := Lib.hid ((ApI.start (mm := m) HX.out).below hb1)
  clear hb1
  obtain ⟨c0, c1, c2, c3, c4, c5, c6, c7, c8, c9⟩ := motOf I1.out.1
  have z1 := I1.out.2.1.lt
  have z2 := I1.out.1.lt
  go_wp2_with fail
  refine (Check_yes m _ hC).mono ?_
  rintro e w2 ⟨rfl, hb2⟩
  have G2 : Hid (Blk w2 w1.heap.size 119 (ptrs w.heap.size)) := Lib.hid ((Blk.new' _ _ _).below hb2 (by simp))
  have I2 := Lib.hid ((I1.out.below ((Below.refl _ _).alloc (Nat.le_refl _) _)).below hb2)
  clear hb2 c0 c1 c2 c3 c4 c5 c6 c7 c8 c9 z1 z2
  obtain ⟨r0, r1, r2, r3, r4, r5, r6, r7, r8, r9⟩ := motOf I2.out.2.1
  obtain ⟨g0, g1, g2, g3, g4, g5, g6, g7, g8, g9⟩ := freeMot I2.out.2.1
  go_wp2
  exact bodyPost_ret (v := .tuple #[.agg #[.int .i64 mot0.r, .int .i64 mot0.ld, .int .i64 mot0.lq, .int .i64 mot0.fx, .int .i64 mot0.po, .int .i64 mot0.mi, .int .i64 mot0.sp, .int .i64 mot0.dr, .int .i64 mot0.cu, .int .i64 mot0.fa], .int .i64 2]) (by simp [results, Try.results52, go_sem, r0, r1, r2, r3, r4, r5, r6, r7, r8, r9]; exact ⟨rfl, rfl, rfl, rfl, rfl, rfl, rfl, rfl, rfl, rfl⟩) rfl ⟨rfl, below_put10 I2.out.2.2.2 (by omega) _ _ _ _ _ _ _ _ _ _⟩

set_option maxHeartbeats 2000000 in
set_option maxRecDepth 100000 in
theorem Apply_no3 (m : Mot) (A : Option Addr) (xs : List Int) (cap : Nat) (w : World) (hx : IntsAt w A xs) (hC : Dv.chkB m = true) (hl : ((xs.length : Int) != 4) = false) (hll : xs.length ≤ 4611686018427387904) (hu : upB 1099511627776 xs = false) :
    Calls Try.prog 52 #[.agg #[.int .i64 m.r, .int .i64 m.ld, .int .i64 m.lq, .int .i64 m.fx, .int .i64 m.po, .int .i64 m.mi, .int .i64 m.sp, .int .i64 m.dr, .int .i64 m.cu, .int .i64 m.fa], .slice A xs.length cap] w fun e w' => e = .returned (.tuple #[.agg #[.int .i64 mot0.r, .int .i64 mot0.ld, .int .i64 mot0.lq, .int .i64 mot0.fx, .int .i64 mot0.po, .int .i64 mot0.mi, .int .i64 mot0.sp, .int .i64 mot0.dr, .int .i64 mot0.cu, .int .i64 mot0.fa], .int .i64 2]) ∧ Below w.heap.size w w' := by
  have HX := Lib.hid hx
  clear hx
  go_enter Try.func52, Try.ntmps52
  go_wp2_with fail
  refine (parts_c w.heap.size _).mono ?_
  rintro e w1 ⟨rfl, hb1⟩
  have I1 := Lib.hid ((ApI.start (mm := m) HX.out).below hb1)
  clear hb1
  obtain ⟨c0, c1, c2, c3, c4, c5, c6, c7, c8, c9⟩ := motOf I1.out.1
  have z1 := I1.out.2.1.lt
  have z2 := I1.out.1.lt
  go_wp2_with fail
  refine (Check_yes m _ hC).mono ?_
  rintro e w2 ⟨rfl, hb2⟩
  have G2 : Hid (Blk w2 w1.heap.size 119 (ptrs w.heap.size)) := Lib.hid ((Blk.new' _ _ _).below hb2 (by simp))
  have I2 := Lib.hid ((I1.out.below ((Below.refl _ _).alloc (Nat.le_refl _) _)).below hb2)
  clear hb2 c0 c1 c2 c3 c4 c5 c6 c7 c8 c9 z1 z2
  obtain ⟨r0, r1, r2, r3, r4, r5, r6, r7, r8, r9⟩ := motOf I2.out.2.1
  obtain ⟨g0, g1, g2, g3, g4, g5, g6, g7, g8, g9⟩ := freeMot I2.out.2.1
  go_wp2_with (go_at_call 67; refine (upTo_c _ _ xs _ _ (by omega) (by omega) hll I2.out.2.2.1).mono ?_; rintro e w' ⟨rfl, rfl⟩)
  exact bodyPost_ret (v := .tuple #[.agg #[.int .i64 mot0.r, .int .i64 mot0.ld, .int .i64 mot0.lq, .int .i64 mot0.fx, .int .i64 mot0.po, .int .i64 mot0.mi, .int .i64 mot0.sp, .int .i64 mot0.dr, .int .i64 mot0.cu, .int .i64 mot0.fa], .int .i64 2]) (by simp [results, Try.results52, go_sem, r0, r1, r2, r3, r4, r5, r6, r7, r8, r9]; exact ⟨rfl, rfl, rfl, rfl, rfl, rfl, rfl, rfl, rfl, rfl⟩) rfl ⟨rfl, below_put10 I2.out.2.2.2 (by omega) _ _ _ _ _ _ _ _ _ _⟩

set_option maxHeartbeats 4000000 in
set_option maxRecDepth 100000 in
theorem Apply_go (m : Mot) (A : Option Addr) (a b c d : Int) (cap : Nat) (w : World) (hx : IntsAt w A [a, b, c, d]) (hC : Dv.chkB m = true) (hu : upB 1099511627776 [a, b, c, d] = true) (q : Bool) (hq : Dv.chkB (m.plus a b c d) = q) :
    Calls Try.prog 52 #[.agg #[.int .i64 m.r, .int .i64 m.ld, .int .i64 m.lq, .int .i64 m.fx, .int .i64 m.po, .int .i64 m.mi, .int .i64 m.sp, .int .i64 m.dr, .int .i64 m.cu, .int .i64 m.fa], .slice A 4 cap] w fun e w' => e = .returned (.tuple #[.agg #[.int .i64 (if q = true then m.plus a b c d else mot0).r, .int .i64 (if q = true then m.plus a b c d else mot0).ld, .int .i64 (if q = true then m.plus a b c d else mot0).lq, .int .i64 (if q = true then m.plus a b c d else mot0).fx, .int .i64 (if q = true then m.plus a b c d else mot0).po, .int .i64 (if q = true then m.plus a b c d else mot0).mi, .int .i64 (if q = true then m.plus a b c d else mot0).sp, .int .i64 (if q = true then m.plus a b c d else mot0).dr, .int .i64 (if q = true then m.plus a b c d else mot0).cu, .int .i64 (if q = true then m.plus a b c d else mot0).fa], .int .i64 (if q = true then 0 else 3)]) ∧ Below w.heap.size w w' := by
  obtain ⟨u1, u2, u3, u4⟩ := upB4.1 hu
  have hK := Dv.chkB_iff.1 hC
  unfold Dv.chk at hK
  have HX := Lib.hid hx
  clear hx
  go_enter Try.func52, Try.ntmps52
  go_wp2_with fail
  refine (parts_c w.heap.size _).mono ?_
  rintro e w1 ⟨rfl, hb1⟩
  have I1 := Lib.hid ((ApI.start (mm := m) HX.out).below hb1)
  clear hb1
  obtain ⟨c0, c1, c2, c3, c4, c5, c6, c7, c8, c9⟩ := motOf I1.out.1
  have z1 := I1.out.2.1.lt
  have z2 := I1.out.1.lt
  go_wp2_with fail
  refine (Check_yes m _ hC).mono ?_
  rintro e w2 ⟨rfl, hb2⟩
  have G2 : Hid (Blk w2 w1.heap.size 119 (ptrs w.heap.size)) := Lib.hid ((Blk.new' _ _ _).below hb2 (by simp))
  have I2 := Lib.hid ((I1.out.below ((Below.refl _ _).alloc (Nat.le_refl _) _)).below hb2)
  clear hb2 c0 c1 c2 c3 c4 c5 c6 c7 c8 c9 z1 z2
  have hlen : [a, b, c, d].length ≤ 4611686018427387904 := by simp
  go_wp2_with fail
  refine (upTo_c 1099511627776 A [a, b, c, d] cap w2 (by omega) (by omega) hlen I2.out.2.2.1).mono ?_
  rintro e w' ⟨rfl, rfl⟩
  obtain ⟨ad, rfl, zad, x0, x1, x2, x3⟩ := I2.out.2.2.1.four
  obtain ⟨c0, c1, c2, c3, c4, c5, c6, c7, c8, c9⟩ := motOf I2.out.1
  obtain ⟨p0, p1, p2, p3⟩ := ptrsOf G2.out
  obtain ⟨f0, f1, f2, f3, f4, f5, f6, f7, f8, f9⟩ := freeMot I2.out.1
  have hadw : ad.block < w.heap.size := (HX.out.four.elim fun ad' h => by cases h.1; exact h.2.1)
  have hne : ad.block ≠ w.heap.size := by omega
  have hne2 : w.heap.size ≠ ad.block := by omega
  have hg1 : w1.heap.size ≠ w.heap.size := by have := I1.out.1.lt; omega
  have hg2 : w.heap.size ≠ w1.heap.size := by omega
  go_wp2_with fail
  refine wp_loop_rounds 5 ?_
  rw [rounds_succ]
  go_wp2_with fail
  rw [rounds_succ]
  go_wp2_with fail
  rw [rounds_succ]
  go_wp2_with fail
  rw [rounds_succ]
  go_wp2_with fail
  rw [rounds_succ]
  go_wp2_with fail
  have P3 : ApI w (m.plus a b c d) (some ad) [a, b, c, d] ((((w2.setCell ⟨w.heap.size, 0, none⟩ (.int .i64 (m.r + a))).setCell ⟨w.heap.size, 1, none⟩ (.int .i64 (m.ld + b))).setCell ⟨w.heap.size, 2, none⟩ (.int .i64 (m.lq + c))).setCell ⟨w.heap.size, 3, none⟩ (.int .i64 (m.fx + d))) := by
    have hw1 : w.heap.size + 1 ≠ w.heap.size := by omega
    refine ⟨(((I2.out.1.setCell 0 _).setCell 1 _).setCell 2 _).setCell 3 _, (((I2.out.2.1.setCell_ne hw1 _).setCell_ne hw1 _).setCell_ne hw1 _).setCell_ne hw1 _, ?_, below_put4 I2.out.2.2.2 (Nat.le_refl _) _ _ _ _⟩
    intro i hi
    obtain ⟨ad', e, hc⟩ := I2.out.2.2.1 i hi
    cases e
    refine ⟨ad, rfl, ?_⟩
    have hbl : ∀ j, (ad.add j).block = ad.block := fun j => by unfold Addr.add; split <;> rfl
    have k0 : (ad.add i).block ≠ w.heap.size := by rw [hbl]; exact hne
    refine Eq.trans ?_ hc
    refine (World.cell?_of_block (Below.heap_setCell _ _ _ _ k0)).trans ?_
    refine (World.cell?_of_block (Below.heap_setCell _ _ _ _ k0)).trans ?_
    refine (World.cell?_of_block (Below.heap_setCell _ _ _ _ k0)).trans ?_
    exact World.cell?_of_block (Below.heap_setCell _ _ _ _ k0)
  cases q
  · refine (Check_no (m.plus a b c d) _ hq).mono ?_
    rintro e w4 ⟨rfl, hb4⟩
    have I4 := Lib.hid (P3.below hb4)
    clear hb4 P3
    obtain ⟨r0, r1, r2, r3, r4, r5, r6, r7, r8, r9⟩ := motOf I4.out.2.1
    obtain ⟨g0, g1, g2, g3, g4, g5, g6, g7, g8, g9⟩ := freeMot I4.out.2.1
    go_wp2
    exact bodyPost_ret (v := .tuple #[.agg #[.int .i64 mot0.r, .int .i64 mot0.ld, .int .i64 mot0.lq, .int .i64 mot0.fx, .int .i64 mot0.po, .int .i64 mot0.mi, .int .i64 mot0.sp, .int .i64 mot0.dr, .int .i64 mot0.cu, .int .i64 mot0.fa], .int .i64 3]) (by simp [results, Try.results52, go_sem, r0, r1, r2, r3, r4, r5, r6, r7, r8, r9]; exact ⟨rfl, rfl, rfl, rfl, rfl, rfl, rfl, rfl, rfl, rfl⟩) rfl ⟨rfl, below_put10 I4.out.2.2.2 (by omega) _ _ _ _ _ _ _ _ _ _⟩
  · refine (Check_yes (m.plus a b c d) _ hq).mono ?_
    rintro e w4 ⟨rfl, hb4⟩
    have I4 := Lib.hid (P3.below hb4)
    clear hb4 P3 c0 c1 c2 c3 c4 c5 c6 c7 c8 c9
    obtain ⟨c0, c1, c2, c3, c4, c5, c6, c7, c8, c9⟩ := motOf I4.out.1
    obtain ⟨r0, r1, r2, r3, r4, r5, r6, r7, r8, r9⟩ := motOf I4.out.2.1
    obtain ⟨g0, g1, g2, g3, g4, g5, g6, g7, g8, g9⟩ := freeMot I4.out.2.1
    go_wp2
    refine bodyPost_ret (v := .tuple #[.agg #[.int .i64 (m.plus a b c d).r, .int .i64 (m.plus a b c d).ld, .int .i64 (m.plus a b c d).lq, .int .i64 (m.plus a b c d).fx, .int .i64 (m.plus a b c d).po, .int .i64 (m.plus a b c d).mi, .int .i64 (m.plus a b c d).sp, .int .i64 (m.plus a b c d).dr, .int .i64 (m.plus a b c d).cu, .int .i64 (m.plus a b c d).fa], .int .i64 0]) (by simp [results, Try.results52, go_sem, r0, r1, r2, r3, r4, r5, r6, r7, r8, r9]) rfl ⟨rfl, below_put10 I4.out.2.2.2 (by omega) _ _ _ _ _ _ _ _ _ _⟩
end Go.Proofs.Ytcneohhfnnelgaa
