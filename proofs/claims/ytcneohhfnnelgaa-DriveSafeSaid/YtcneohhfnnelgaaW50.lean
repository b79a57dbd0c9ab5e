/- The limiter of drive in memory; its parts; plain words for a motor with tolerances. -/
import Derived.Test.YtcneohhfnnelgaaW28
import Derived.Test.YtcneohhfnnelgaaW49
import Derived.Test.YtcneohhfnnelgaaO7
import Derived.Test.YtcneohhfnnelgaaR8
namespace Go.Proofs.Ytcneohhfnnelgaa
open Go.RowKit
set_option linter.unusedVariables false
namespace Dv
def spV (s : Sp) : Bool := spanB s.lo s.hi
def lmLo (m : Mot) (l : List Sp) : Mot := m.plus (l.getD 0 default).lo (l.getD 1 default).lo (l.getD 2 default).lo (l.getD 3 default).lo
def lmHi (m : Mot) (l : List Sp) : Mot := m.plus (l.getD 0 default).hi (l.getD 1 default).hi (l.getD 2 default).hi (l.getD 3 default).hi
def lmS (l : List Sp) : Sp := l.getD 4 default
def lmA (m : Mot) (l : List Sp) : Bool := chkB m && (decide (l.length = 5) && l.all spV)
def lmB (m : Mot) (l : List Sp) : Bool := chkB (lmLo m l) && (chkB (lmHi m l) && upB 16384 [(lmS l).lo, (lmS l).hi])
def lmE (m : Mot) (l : List Sp) : Int := if lmA m l = true then (if lmB m l = true then 0 else 3) else 2
end Dv
def lmC (m lo hi : Mot) (a b : Int) : List Value := m.cs ++ lo.cs ++ hi.cs ++ [.int .i64 a, .int .i64 b]
/-- what newLimiter leaves -/
def LmP (m : Mot) (l : List Sp) (w : World) (e : Ending) (w' : World) : Prop := Below w.heap.size w w' ∧
  ((Dv.lmE m l ≠ 0 ∧ e = .returned (.tuple #[.pointer none, .int .i64 (Dv.lmE m l)])) ∨
   (Dv.lmE m l = 0 ∧ ∃ g, w.heap.size ≤ g ∧ e = .returned (.tuple #[.pointer (some ⟨g, 0, none⟩), .int .i64 0]) ∧ Blk w' g 131 (lmC m (Dv.lmLo m l) (Dv.lmHi m l) (Dv.lmS l).lo (Dv.lmS l).hi)))

def ptrsAt (b o : Nat) : List Value := [.pointer (some ⟨b, o, none⟩), .pointer (some ⟨b, o + 1, none⟩), .pointer (some ⟨b, o + 2, none⟩), .pointer (some ⟨b, o + 3, none⟩)]
set_option maxHeartbeats 1000000 in
theorem parts10_c (b : Nat) (w : World) : Calls Try.prog 106 #[.pointer (some ⟨b, 10, none⟩)] w fun e w' => e = .returned (.agg #[.pointer (some ⟨b, 10, none⟩), .pointer (some ⟨b, 11, none⟩), .pointer (some ⟨b, 12, none⟩), .pointer (some ⟨b, 13, none⟩)]) ∧ Below w.heap.size w w' := by
  go_enter Try.func106, Try.ntmps106
  go_wp2_with fail
  refine gen_world (fun W => Blk W w.heap.size 119 [.pointer none, .pointer none, .pointer none, .pointer none] ∧ Below w.heap.size w W) ⟨Blk.new' _ _ _, (Below.refl _ _).alloc (Nat.le_refl _) _⟩ ?_
  rintro w1 ⟨H1, hB⟩
  refine wp_region_head 13 ?af (by kernel_rfl) (by kernel_rfl) ?walk ?tail
  case walk =>
    intro V hV
    simp only [List.take_succ_cons, List.take_zero]
    repeat (go_big_quiet_step (fail))
    refine wpQuiet_nil ?_
    rfl
  case tail =>
    intro w2 hb2
    have H2 := H1.below hb2 H1.lt
    have f0 := H2.free 0
    have f1 := H2.free 1
    have f2 := H2.free 2
    have f3 := H2.free 3
    have c0 : w2.cell? ⟨w.heap.size, 0, none⟩ = some (.pointer none) := H2.cell 0 rfl
    have c1 : w2.cell? ⟨w.heap.size, 1, none⟩ = some (.pointer none) := H2.cell 1 rfl
    have c2 : w2.cell? ⟨w.heap.size, 2, none⟩ = some (.pointer none) := H2.cell 2 rfl
    have c3 : w2.cell? ⟨w.heap.size, 3, none⟩ = some (.pointer none) := H2.cell 3 rfl
    have HB := Lib.hid (hB.trans (hb2.mono hB.size))
    clear hb2 H1 H2 hB
    simp only [List.drop_succ_cons, List.drop_zero]
    go_wp2
    exact bodyPost_ret (v := .agg #[.pointer (some ⟨b, 10, none⟩), .pointer (some ⟨b, 11, none⟩), .pointer (some ⟨b, 12, none⟩), .pointer (some ⟨b, 13, none⟩)]) (by simp [results, Try.results106, go_sem, c0, c1, c2, c3]) rfl ⟨rfl, below_put4 HB.out (Nat.le_refl _) _ _ _ _⟩
set_option maxHeartbeats 1000000 in
theorem parts20_c (b : Nat) (w : World) : Calls Try.prog 106 #[.pointer (some ⟨b, 20, none⟩)] w fun e w' => e = .returned (.agg #[.pointer (some ⟨b, 20, none⟩), .pointer (some ⟨b, 21, none⟩), .pointer (some ⟨b, 22, none⟩), .pointer (some ⟨b, 23, none⟩)]) ∧ Below w.heap.size w w' := by
  go_enter Try.func106, Try.ntmps106
  go_wp2_with fail
  refine gen_world (fun W => Blk W w.heap.size 119 [.pointer none, .pointer none, .pointer none, .pointer none] ∧ Below w.heap.size w W) ⟨Blk.new' _ _ _, (Below.refl _ _).alloc (Nat.le_refl _) _⟩ ?_
  rintro w1 ⟨H1, hB⟩
  refine wp_region_head 13 ?af (by kernel_rfl) (by kernel_rfl) ?walk ?tail
  case walk =>
    intro V hV
    simp only [List.take_succ_cons, List.take_zero]
    repeat (go_big_quiet_step (fail))
    refine wpQuiet_nil ?_
    rfl
  case tail =>
    intro w2 hb2
    have H2 := H1.below hb2 H1.lt
    have f0 := H2.free 0
    have f1 := H2.free 1
    have f2 := H2.free 2
    have f3 := H2.free 3
    have c0 : w2.cell? ⟨w.heap.size, 0, none⟩ = some (.pointer none) := H2.cell 0 rfl
    have c1 : w2.cell? ⟨w.heap.size, 1, none⟩ = some (.pointer none) := H2.cell 1 rfl
    have c2 : w2.cell? ⟨w.heap.size, 2, none⟩ = some (.pointer none) := H2.cell 2 rfl
    have c3 : w2.cell? ⟨w.heap.size, 3, none⟩ = some (.pointer none) := H2.cell 3 rfl
    have HB := Lib.hid (hB.trans (hb2.mono hB.size))
    clear hb2 H1 H2 hB
    simp only [List.drop_succ_cons, List.drop_zero]
    go_wp2
    exact bodyPost_ret (v := .agg #[.pointer (some ⟨b, 20, none⟩), .pointer (some ⟨b, 21, none⟩), .pointer (some ⟨b, 22, none⟩), .pointer (some ⟨b, 23, none⟩)]) (by simp [results, Try.results106, go_sem, c0, c1, c2, c3]) rfl ⟨rfl, below_put4 HB.out (Nat.le_refl _) _ _ _ _⟩
/-- what lies in memory while newLimiter runs -/
def LmI (w : World) (g p1 p2 : Nat) (cs : List Value) (W : World) : Prop := w.heap.size ≤ g ∧ Blk W g 131 cs ∧ Blk W p1 119 (ptrsAt g 10) ∧ Blk W p2 119 (ptrsAt g 20) ∧ Below w.heap.size w W
theorem LmI.below {w : World} {g p1 p2 : Nat} {cs : List Value} {W W' : World} (h : LmI w g p1 p2 cs W) (hb : Below W.heap.size W W') : LmI w g p1 p2 cs W' :=
  ⟨h.1, h.2.1.below hb h.2.1.lt, h.2.2.1.below hb h.2.2.1.lt, h.2.2.2.1.below hb h.2.2.2.1.lt, h.2.2.2.2.trans (hb.mono h.2.2.2.2.size)⟩
theorem blk_type_ne {W : World} {g g' : Nat} {t t' : TypeId} {cs cs' : List Value} (h : Blk W g t cs) (h' : Blk W g' t' cs') (hn : t ≠ t') : g' ≠ g := by
  intro e
  subst e
  unfold Blk at h h'
  rw [h] at h'
  simp only [Option.some.injEq, Obj.cells.injEq] at h'
  exact hn h'.2.1
theorem LmI.put {w : World} {g p1 p2 : Nat} {cs cs' : List Value} {W : World} (h : LmI w g p1 p2 cs W) (o : Nat) (v : Value) (he : cs.set o v = cs') : LmI w g p1 p2 cs' (W.setCell ⟨g, o, none⟩ v) :=
  ⟨h.1, he ▸ h.2.1.setCell o v, h.2.2.1.setCell_ne (p := ⟨g, o, none⟩) (blk_type_ne h.2.1 h.2.2.1 (by decide)) v, h.2.2.2.1.setCell_ne (p := ⟨g, o, none⟩) (blk_type_ne h.2.1 h.2.2.2.1 (by decide)) v, h.2.2.2.2.setCell h.1 v⟩
theorem blk_ints {W : World} {g : Nat} {t : TypeId} {ys : List Int} (h : Blk W g t (ys.map (Value.int .i64))) : IntsAt W (some ⟨g, 0, none⟩) ys := fun i hi => ⟨_, rfl, by
  have := h.cell i (v := .int .i64 (ys.getD i 0)) (by simp [List.getD, hi])
  cases i with
  | zero => exact this
  | succ i => simpa [Addr.add] using this⟩
theorem upTo2_at (mo a b : Int) (g : Nat) (W : World) (h : Blk W g 2 [.int .i64 a, .int .i64 b]) (hm0 : 0 ≤ mo) (hm1 : mo ≤ 4611686018427387904) :
    Calls Try.prog 67 #[.int .i64 mo, .slice (some ⟨g, 0, none⟩) 2 2] W fun e w' => e = .returned (.bool (upB mo [a, b])) ∧ W = w' :=
  upTo_c mo (some ⟨g, 0, none⟩) [a, b] 2 W hm0 hm1 (by simp) (blk_ints (ys := [a, b]) h)
/-- five spans in memory -/
def Sp5 (w : World) (ad : Addr) (s0 s1 s2 s3 s4 : Sp) : Prop := ad.block < w.heap.size ∧ w.cell? ad = some (.int .i64 s0.lo) ∧ w.cell? ⟨ad.block, ad.off + 1, none⟩ = some (.int .i64 s0.hi)
  ∧ w.cell? ⟨ad.block, ad.off + 2, none⟩ = some (.int .i64 s1.lo) ∧ w.cell? ⟨ad.block, ad.off + 3, none⟩ = some (.int .i64 s1.hi)
  ∧ w.cell? ⟨ad.block, ad.off + 4, none⟩ = some (.int .i64 s2.lo) ∧ w.cell? ⟨ad.block, ad.off + 5, none⟩ = some (.int .i64 s2.hi)
  ∧ w.cell? ⟨ad.block, ad.off + 6, none⟩ = some (.int .i64 s3.lo) ∧ w.cell? ⟨ad.block, ad.off + 7, none⟩ = some (.int .i64 s3.hi)
  ∧ w.cell? ⟨ad.block, ad.off + 8, none⟩ = some (.int .i64 s4.lo) ∧ w.cell? ⟨ad.block, ad.off + 9, none⟩ = some (.int .i64 s4.hi)
theorem SpAt.five {w : World} {A : Option Addr} {s0 s1 s2 s3 s4 : Sp} (h : SpAt w A [s0, s1, s2, s3, s4]) : ∃ ad, A = some ad ∧ Sp5 w ad s0 s1 s2 s3 s4 := by
  obtain ⟨ad, rfl, hb, h0, k0⟩ := h 0 (by simp)
  obtain ⟨ad1, e1, _, h1, k1⟩ := h 1 (by simp)
  obtain ⟨ad2, e2, _, h2, k2⟩ := h 2 (by simp)
  obtain ⟨ad3, e3, _, h3, k3⟩ := h 3 (by simp)
  obtain ⟨ad4, e4, _, h4, k4⟩ := h 4 (by simp)
  cases e1; cases e2; cases e3; cases e4
  exact ⟨ad, rfl, hb, by simpa [Addr.add] using h0, by simpa [Addr.add] using k0, by simpa [Addr.add] using h1, by simpa [Addr.add] using k1, by simpa [Addr.add] using h2, by simpa [Addr.add] using k2, by simpa [Addr.add] using h3, by simpa [Addr.add] using k3, by simpa [Addr.add] using h4, by simpa [Addr.add] using k4⟩
theorem Sp5.below {w w1 : World} {ad : Addr} {s0 s1 s2 s3 s4 : Sp} (h : Sp5 w ad s0 s1 s2 s3 s4) {B : Nat} (hb : Below B w w1) (hB : ad.block < B) : Sp5 w1 ad s0 s1 s2 s3 s4 := by
  obtain ⟨hlt, h0, h1, h2, h3, h4, h5, h6, h7, h8, h9⟩ := h
  exact ⟨Nat.lt_of_lt_of_le hlt hb.size, (hb.cell hB).trans h0, below_cell hb hB h1, below_cell hb hB h2, below_cell hb hB h3, below_cell hb hB h4, below_cell hb hB h5, below_cell hb hB h6, below_cell hb hB h7, below_cell hb hB h8, below_cell hb hB h9⟩
theorem spV_bd {s : Sp} (h : Dv.spV s = true) : (-1099511627776 ≤ s.lo ∧ s.lo ≤ 1099511627776) ∧ (-1099511627776 ≤ s.hi ∧ s.hi ≤ 1099511627776) ∧ s.lo ≤ s.hi := by
  unfold Dv.spV Dv.spanB at h
  simp only [Bool.and_eq_true, decide_eq_true_eq] at h
  exact ⟨(upB2.1 h.1).1, (upB2.1 h.1).2, h.2⟩
end Go.Proofs.Ytcneohhfnnelgaa
