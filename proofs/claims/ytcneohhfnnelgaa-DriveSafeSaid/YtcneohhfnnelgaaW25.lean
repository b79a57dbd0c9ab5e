/- Contracts of parts and Apply of drive, of plus and Apply of coulombref06. -/
import Derived.Test.YtcneohhfnnelgaaW24
namespace Go.Proofs.Ytcneohhfnnelgaa
open Go.RowKit
set_option linter.unusedVariables false

@[simp, go_sem] theorem Past.cellA {W : World} (x : Past W) (p : Addr) (h : p.block < W.heap.size) : x.w.cell? p = W.cell? p := x.far.cell h

def ptrs (b : Nat) : List Value := [.pointer (some ⟨b, 0, none⟩), .pointer (some ⟨b, 1, none⟩), .pointer (some ⟨b, 2, none⟩), .pointer (some ⟨b, 3, none⟩)]
set_option maxHeartbeats 1000000 in
theorem parts_c (b : Nat) (w : World) : Calls Try.prog 106 #[.pointer (some ⟨b, 0, none⟩)] w fun e w' => e = .returned (.agg #[.pointer (some ⟨b, 0, none⟩), .pointer (some ⟨b, 1, none⟩), .pointer (some ⟨b, 2, none⟩), .pointer (some ⟨b, 3, none⟩)]) ∧ Below w.heap.size w w' := by
  go_enter Try.func106, Try.ntmps106
  go_wp2_with fail
  refine gen_world (fun W => Blk W w.heap.size 119 [.pointer none, .pointer none, .pointer none, .pointer none] ∧ Below w.heap.size w W) ⟨Blk.new' _ _ _, (Below.refl _ _).alloc (Nat.le_refl _) _⟩ ?_
  rintro w1 ⟨H1, hB⟩
  refine wp_region_head 13 ?af (by kernel_rfl) (by kernel_rfl) ?walk ?tail
  case walk =>
    intro V hV
    simp only [List.take_succ_cons, List.take_zero]
    repeat (go_big_quiet_step (fail))
    refine wpQuiet_nil ?_
    rfl
  case tail =>
    intro w2 hb2
    have H2 := H1.below hb2 H1.lt
    have f0 := H2.free 0
    have f1 := H2.free 1
    have f2 := H2.free 2
    have f3 := H2.free 3
    have c0 : w2.cell? ⟨w.heap.size, 0, none⟩ = some (.pointer none) := H2.cell 0 rfl
    have c1 : w2.cell? ⟨w.heap.size, 1, none⟩ = some (.pointer none) := H2.cell 1 rfl
    have c2 : w2.cell? ⟨w.heap.size, 2, none⟩ = some (.pointer none) := H2.cell 2 rfl
    have c3 : w2.cell? ⟨w.heap.size, 3, none⟩ = some (.pointer none) := H2.cell 3 rfl
    have HB := Lib.hid (hB.trans (hb2.mono hB.size))
    clear hb2 H1 H2 hB
    simp only [List.drop_succ_cons, List.drop_zero]
    go_wp2
    exact bodyPost_ret (v := .agg #[.pointer (some ⟨b, 0, none⟩), .pointer (some ⟨b, 1, none⟩), .pointer (some ⟨b, 2, none⟩), .pointer (some ⟨b, 3, none⟩)]) (by simp [results, Try.results106, go_sem, c0, c1, c2, c3]) rfl ⟨rfl, below_put4 HB.out (Nat.le_refl _) _ _ _ _⟩

/-- a motor with offsets -/
def Mot.plus (m : Mot) (a b c d : Int) : Mot := ⟨m.r + a, m.ld + b, m.lq + c, m.fx + d, m.po, m.mi, m.sp, m.dr, m.cu, m.fa⟩
def mot0 : Mot := ⟨0, 0, 0, 0, 0, 0, 0, 0, 0, 0⟩
def Int4 (w : World) (ad : Addr) (a b c d : Int) : Prop := ad.block < w.heap.size ∧ w.cell? ad = some (.int .i64 a) ∧ w.cell? ⟨ad.block, ad.off + 1, none⟩ = some (.int .i64 b) ∧ w.cell? ⟨ad.block, ad.off + 2, none⟩ = some (.int .i64 c) ∧ w.cell? ⟨ad.block, ad.off + 3, none⟩ = some (.int .i64 d)
theorem Int4.below {w w1 : World} {ad : Addr} {a b c d : Int} (h : Int4 w ad a b c d) {B : Nat} (hb : Below B w w1) (hB : ad.block < B) : Int4 w1 ad a b c d :=
  ⟨Nat.lt_of_lt_of_le h.1 hb.size, (hb.cell hB).trans h.2.1, below_cell hb hB h.2.2.1, below_cell hb hB h.2.2.2.1, below_cell hb hB h.2.2.2.2⟩
theorem below_put10 {w W : World} {b : Nat} (h : Below w.heap.size w W) (hb : w.heap.size ≤ b) (v0 v1 v2 v3 v4 v5 v6 v7 v8 v9 : Value) : Below w.heap.size w ((((((((((W.setCell ⟨b, 0, none⟩ v0).setCell ⟨b, 1, none⟩ v1).setCell ⟨b, 2, none⟩ v2).setCell ⟨b, 3, none⟩ v3).setCell ⟨b, 4, none⟩ v4).setCell ⟨b, 5, none⟩ v5).setCell ⟨b, 6, none⟩ v6).setCell ⟨b, 7, none⟩ v7).setCell ⟨b, 8, none⟩ v8).setCell ⟨b, 9, none⟩ v9) :=
  (((((((((h.setCell hb _).setCell hb _).setCell hb _).setCell hb _).setCell hb _).setCell hb _).setCell hb _).setCell hb _).setCell hb _).setCell hb _
theorem freeMot {w : World} {b : Nat} {m : Mot} {T : TypeId} (h : Blk w b T m.cs) : w.frozen? ⟨b, 0, none⟩ = false ∧ w.frozen? ⟨b, 1, none⟩ = false ∧ w.frozen? ⟨b, 2, none⟩ = false ∧ w.frozen? ⟨b, 3, none⟩ = false ∧ w.frozen? ⟨b, 4, none⟩ = false ∧ w.frozen? ⟨b, 5, none⟩ = false ∧ w.frozen? ⟨b, 6, none⟩ = false ∧ w.frozen? ⟨b, 7, none⟩ = false ∧ w.frozen? ⟨b, 8, none⟩ = false ∧ w.frozen? ⟨b, 9, none⟩ = false :=
  ⟨h.free 0, h.free 1, h.free 2, h.free 3, h.free 4, h.free 5, h.free 6, h.free 7, h.free 8, h.free 9⟩
/-- what lies in memory while plus runs -/
def PlI (w : World) (ad : Addr) (a b c d : Int) (mm : Mot) (W : World) : Prop := Blk W w.heap.size 52 mm.cs ∧ Blk W (w.heap.size + 1) 52 mot0.cs ∧ Int4 W ad a b c d ∧ Below w.heap.size w W ∧ ad.block < w.heap.size
theorem PlI.below {w : World} {ad : Addr} {a b c d : Int} {mm : Mot} {W W' : World} (h : PlI w ad a b c d mm W) (hb : Below W.heap.size W W') : PlI w ad a b c d mm W' :=
  ⟨h.1.below hb h.1.lt, h.2.1.below hb h.2.1.lt, h.2.2.1.below hb h.2.2.1.1, h.2.2.2.1.trans (hb.mono h.2.2.2.1.size), h.2.2.2.2⟩
theorem PlI.put {w : World} {ad : Addr} {a b c d : Int} {mm : Mot} {W : World} (h : PlI w ad a b c d mm W) (o : Nat) (v : Value) (mm' : Mot) (he : mm.cs.set o v = mm'.cs) : PlI w ad a b c d mm' (W.setCell ⟨w.heap.size, o, none⟩ v) := by
  have hadne : ad.block ≠ w.heap.size := by have := h.2.2.2.2; omega
  refine ⟨he ▸ h.1.setCell o v, h.2.1.setCell_ne (p := ⟨w.heap.size, o, none⟩) (by show w.heap.size + 1 ≠ w.heap.size; omega) v, ⟨by simpa [World.setCell] using h.2.2.1.1, ?_, ?_, ?_, ?_⟩, h.2.2.2.1.setCell (Nat.le_refl _) v, h.2.2.2.2⟩
  all_goals
    refine (World.cell?_of_block (w := W) (Below.heap_setCell _ _ _ _ hadne)).trans ?_
  · exact h.2.2.1.2.1
  · exact h.2.2.1.2.2.1
  · exact h.2.2.1.2.2.2.1
  · exact h.2.2.1.2.2.2.2

set_option maxHeartbeats 2000000 in
theorem plus_c (m : Mot) (a b c d : Int) (ad : Addr) (cap : Nat) (w : World) (hm : Dv.chk m) (h : Int4 w ad a b c d) (ha : -1099511627776 ≤ a ∧ a ≤ 1099511627776) (hb : -1099511627776 ≤ b ∧ b ≤ 1099511627776) (hc : -1099511627776 ≤ c ∧ c ≤ 1099511627776) (hd : -1099511627776 ≤ d ∧ d ≤ 1099511627776) :
    Calls Try.prog 107 #[.agg #[.int .i64 m.r, .int .i64 m.ld, .int .i64 m.lq, .int .i64 m.fx, .int .i64 m.po, .int .i64 m.mi, .int .i64 m.sp, .int .i64 m.dr, .int .i64 m.cu, .int .i64 m.fa], .slice (some ad) 4 cap] w fun e w' => e = .returned (.agg #[.int .i64 (m.plus a b c d).r, .int .i64 (m.plus a b c d).ld, .int .i64 (m.plus a b c d).lq, .int .i64 (m.plus a b c d).fx, .int .i64 m.po, .int .i64 m.mi, .int .i64 m.sp, .int .i64 m.dr, .int .i64 m.cu, .int .i64 m.fa]) ∧ Below w.heap.size w w' := by
  have HM := Lib.hid hm
  have H := Lib.hid h
  clear h
  unfold Dv.chk at hm
  go_enter Try.func107, Try.ntmps107
  go_wp2_with fail
  refine gen_world (fun W => PlI w ad a b c d m W) ⟨(Blk.new' _ _ _).alloc _, by have := Blk.new' (w.alloc (.cells #[.int .i64 m.r, .int .i64 m.ld, .int .i64 m.lq, .int .i64 m.fx, .int .i64 m.po, .int .i64 m.mi, .int .i64 m.sp, .int .i64 m.dr, .int .i64 m.cu, .int .i64 m.fa] 52)) #[.int .i64 0, .int .i64 0, .int .i64 0, .int .i64 0, .int .i64 0, .int .i64 0, .int .i64 0, .int .i64 0, .int .i64 0, .int .i64 0] 52; simp at this; exact this, (H.out.below ((Below.refl _ _).alloc (Nat.le_refl _) _) H.out.1).below ((Below.refl _ _).alloc (Nat.le_refl _) _) (by have := H.out.1; simp; omega), (((Below.refl _ _).alloc (Nat.le_refl _) _).alloc (by simp) _), H.out.1⟩ ?_
  intro w0 i0
  refine wp_region_head 6 ?af0 (by kernel_rfl) (by kernel_rfl) ?walk0 ?tail0
  case walk0 =>
    intro V hV
    have IV := Lib.hid (i0.below hV)
    obtain ⟨c0, c1, c2, c3, c4, c5, c6, c7, c8, c9⟩ := motOf IV.out.1
    obtain ⟨zad, x0, x1, x2, x3⟩ := IV.out.2.2.1
    have z1 := IV.out.1.lt
    simp only [List.take_succ_cons, List.take_zero]
    repeat (go_big_quiet_step (fail))
    refine wpQuiet_nil ?_
    rfl
  case tail0 =>
  intro w1 hb1
  have i1 := i0.below hb1
  clear hb1 i0
  obtain ⟨c0, c1, c2, c3, c4, c5, c6, c7, c8, c9⟩ := motOf i1.1
  have f := i1.1.free 0
  have I1 := Lib.hid i1
  clear i1
  simp only [List.drop_succ_cons, List.drop_zero]
  go_wp2_with fail
  refine gen_world (fun W => PlI w ad a b c d (Mot.mk (m.r + a) m.ld m.lq m.fx m.po m.mi m.sp m.dr m.cu m.fa) W) (I1.out.put 0 (.int .i64 (m.r + a)) _ rfl) ?_
  clear c0 c1 c2 c3 c4 c5 c6 c7 c8 c9 f I1 w1
  intro w0 i0
  refine wp_region_head 6 ?af1 (by kernel_rfl) (by kernel_rfl) ?walk1 ?tail1
  case walk1 =>
    intro V hV
    have IV := Lib.hid (i0.below hV)
    obtain ⟨c0, c1, c2, c3, c4, c5, c6, c7, c8, c9⟩ := motOf IV.out.1
    obtain ⟨zad, x0, x1, x2, x3⟩ := IV.out.2.2.1
    have z1 := IV.out.1.lt
    simp only [List.take_succ_cons, List.take_zero]
    repeat (go_big_quiet_step (fail))
    refine wpQuiet_nil ?_
    rfl
  case tail1 =>
  intro w1 hb1
  have i1 := i0.below hb1
  clear hb1 i0
  obtain ⟨c0, c1, c2, c3, c4, c5, c6, c7, c8, c9⟩ := motOf i1.1
  have f := i1.1.free 1
  have I1 := Lib.hid i1
  clear i1
  simp only [List.drop_succ_cons, List.drop_zero]
  go_wp2_with fail
  refine gen_world (fun W => PlI w ad a b c d (Mot.mk (m.r + a) (m.ld + b) m.lq m.fx m.po m.mi m.sp m.dr m.cu m.fa) W) (I1.out.put 1 (.int .i64 (m.ld + b)) _ rfl) ?_
  clear c0 c1 c2 c3 c4 c5 c6 c7 c8 c9 f I1 w1
  intro w0 i0
  refine wp_region_head 6 ?af2 (by kernel_rfl) (by kernel_rfl) ?walk2 ?tail2
  case walk2 =>
    intro V hV
    have IV := Lib.hid (i0.below hV)
    obtain ⟨c0, c1, c2, c3, c4, c5, c6, c7, c8, c9⟩ := motOf IV.out.1
    obtain ⟨zad, x0, x1, x2, x3⟩ := IV.out.2.2.1
    have z1 := IV.out.1.lt
    simp only [List.take_succ_cons, List.take_zero]
    repeat (go_big_quiet_step (fail))
    refine wpQuiet_nil ?_
    rfl
  case tail2 =>
  intro w1 hb1
  have i1 := i0.below hb1
  clear hb1 i0
  obtain ⟨c0, c1, c2, c3, c4, c5, c6, c7, c8, c9⟩ := motOf i1.1
  have f := i1.1.free 2
  have I1 := Lib.hid i1
  clear i1
  simp only [List.drop_succ_cons, List.drop_zero]
  go_wp2_with fail
  refine gen_world (fun W => PlI w ad a b c d (Mot.mk (m.r + a) (m.ld + b) (m.lq + c) m.fx m.po m.mi m.sp m.dr m.cu m.fa) W) (I1.out.put 2 (.int .i64 (m.lq + c)) _ rfl) ?_
  clear c0 c1 c2 c3 c4 c5 c6 c7 c8 c9 f I1 w1
  intro w0 i0
  refine wp_region_head 6 ?af3 (by kernel_rfl) (by kernel_rfl) ?walk3 ?tail3
  case walk3 =>
    intro V hV
    have IV := Lib.hid (i0.below hV)
    obtain ⟨c0, c1, c2, c3, c4, c5, c6, c7, c8, c9⟩ := motOf IV.out.1
    obtain ⟨zad, x0, x1, x2, x3⟩ := IV.out.2.2.1
    have z1 := IV.out.1.lt
    simp only [List.take_succ_cons, List.take_zero]
    repeat (go_big_quiet_step (fail))
    refine wpQuiet_nil ?_
    rfl
  case tail3 =>
  intro w1 hb1
  have i1 := i0.below hb1
  clear hb1 i0
  obtain ⟨c0, c1, c2, c3, c4, c5, c6, c7, c8, c9⟩ := motOf i1.1
  have f := i1.1.free 3
  have I1 := Lib.hid i1
  clear i1
  obtain ⟨r0, r1, r2, r3, r4, r5, r6, r7, r8, r9⟩ := motOf I1.out.2.1
  obtain ⟨g0, g1, g2, g3, g4, g5, g6, g7, g8, g9⟩ := freeMot I1.out.2.1
  simp only [List.drop_succ_cons, List.drop_zero]
  go_wp2
  exact bodyPost_ret (v := .agg #[.int .i64 (m.plus a b c d).r, .int .i64 (m.plus a b c d).ld, .int .i64 (m.plus a b c d).lq, .int .i64 (m.plus a b c d).fx, .int .i64 m.po, .int .i64 m.mi, .int .i64 m.sp, .int .i64 m.dr, .int .i64 m.cu, .int .i64 m.fa]) (by simp [results, Try.results107, go_sem, r0, r1, r2, r3, r4, r5, r6, r7, r8, r9]; exact ⟨rfl, rfl, rfl, rfl⟩) rfl ⟨rfl, below_put10 (I1.out.2.2.2.1.setCell (Nat.le_refl _) _) (by omega) _ _ _ _ _ _ _ _ _ _⟩
end Go.Proofs.Ytcneohhfnnelgaa
