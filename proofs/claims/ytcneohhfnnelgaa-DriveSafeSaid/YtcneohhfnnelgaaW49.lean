/- Contracts of the limiter's allowed of drive and of span of coulombref06. -/
import Derived.Test.YtcneohhfnnelgaaV44
namespace Go.Proofs.Ytcneohhfnnelgaa
open Go.RowKit
set_option linter.unusedVariables false
namespace Dv
def alLo (cu i l mi lo : Int) : Int := -((cu + i) * l / mi) - lo
def alHi (cu i l mi hi : Int) : Int := ((cu - i + 1) * l - 1) / mi - hi
end Dv

set_option maxHeartbeats 2000000 in
theorem spanR_c (cu i l mi lo hi : Int) (w : World) (hm : 1 ≤ mi) (hcu : -1073741824 ≤ cu ∧ cu ≤ 1073741824) (hi' : -1073741824 ≤ i ∧ i ≤ 1073741824) (b1 : -1152921504606846976 ≤ (cu + i) * l ∧ (cu + i) * l ≤ 1152921504606846976) (b2 : -1152921504606846976 ≤ (cu - i + 1) * l ∧ (cu - i + 1) * l ≤ 1152921504606846976) (hlo : -1152921504606846976 ≤ lo ∧ lo ≤ 1152921504606846976) (hhi : -1152921504606846976 ≤ hi ∧ hi ≤ 1152921504606846976) :
    Calls Try.prog 127 #[.int .i64 cu, .int .i64 i, .int .i64 l, .int .i64 mi, .agg #[.int .i64 lo, .int .i64 hi]] w fun e w' => e = .returned (.agg #[.int .i64 (Dv.alLo cu i l mi lo), .int .i64 (Dv.alHi cu i l mi hi)]) ∧ Below w.heap.size w w' := by
  have d1 := Dv.ediv_bd ((cu + i) * l) mi hm 1152921504606846976 (by omega) (by omega) (by omega)
  have d2 := Dv.ediv_bd ((cu - i + 1) * l - 1) mi hm 1152921504606846977 (by omega) (by omega) (by omega)
  go_enter Try.func127, Try.ntmps127
  go_wp2_with fail
  refine gen_world (fun W => Blk W w.heap.size 29 [.int .i64 lo, .int .i64 hi] ∧ Blk W (w.heap.size + 1) 29 [.int .i64 0, .int .i64 0] ∧ Below w.heap.size w W) ⟨(Blk.new' _ _ _).alloc _, by have := Blk.new' (w.alloc (.cells #[.int .i64 lo, .int .i64 hi] 29)) #[.int .i64 0, .int .i64 0] 29; simpa using this, ((Below.refl _ _).alloc (Nat.le_refl _) _).alloc (by simp) _⟩ ?_
  rintro w1 ⟨x1, x2, x3⟩
  have I1 := Lib.hid (And.intro x1 (And.intro x2 x3))
  clear x1 x2 x3
  refine wp_region_head 24 ?af (by kernel_rfl) (by kernel_rfl) ?walk ?tail
  case walk =>
    intro V hV
    have x1 := I1.out.1.below hV I1.out.1.lt
    have p0 := x1.cell 0 rfl
    have p1 := x1.cell 1 rfl
    have z1 := x1.lt
    clear x1
    simp only [List.take_succ_cons, List.take_zero]
    repeat (go_big_quiet_step ((go_at_call 85; exact past_same (floor_c _ _ _ hm (by omega) (by omega)))))
    refine wpQuiet_nil ?_
    rfl
  case tail =>
    intro w2 hb2
    have I2 := Lib.hid (And.intro (I1.out.2.1.below hb2 I1.out.2.1.lt) (I1.out.2.2.trans (hb2.mono I1.out.2.2.size)))
    clear hb2
    have c0 := I2.out.1.cell 0 rfl
    have c1 := I2.out.1.cell 1 rfl
    have f0 := I2.out.1.free 0
    have f1 := I2.out.1.free 1
    have z := I2.out.1.lt
    simp only [List.drop_succ_cons, List.drop_zero]
    go_wp2
    exact bodyPost_ret (v := .agg #[.int .i64 (Dv.alLo cu i l mi lo), .int .i64 (Dv.alHi cu i l mi hi)]) (by simp [results, Try.results127, go_sem, c0, c1, Dv.alLo, Dv.alHi]) rfl ⟨rfl, (I2.out.2.setCell (by simp) _).setCell (by simp) _⟩

set_option maxHeartbeats 2000000 in
theorem allowed1_c (cu i l mi lo hi : Int) (g : Nat) (w : World) (q1 : w.cell? ⟨g, 8, none⟩ = some (.int .i64 cu)) (q2 : w.cell? ⟨g, 5, none⟩ = some (.int .i64 mi)) (hm : 1 ≤ mi) (hcu : -1073741824 ≤ cu ∧ cu ≤ 1073741824) (hi' : -1073741824 ≤ i ∧ i ≤ 1073741824) (b1 : -1152921504606846976 ≤ (cu + i) * l ∧ (cu + i) * l ≤ 1152921504606846976) (b2 : -1152921504606846976 ≤ (cu - i + 1) * l ∧ (cu - i + 1) * l ≤ 1152921504606846976) (hlo : -1152921504606846976 ≤ lo ∧ lo ≤ 1152921504606846976) (hhi : -1152921504606846976 ≤ hi ∧ hi ≤ 1152921504606846976) :
    Calls Try.prog 125 #[.pointer (some ⟨g, 0, none⟩), .int .i64 i, .int .i64 l, .agg #[.int .i64 lo, .int .i64 hi]] w fun e w' => e = .returned (.agg #[.int .i64 (Dv.alLo cu i l mi lo), .int .i64 (Dv.alHi cu i l mi hi)]) ∧ Below w.heap.size w w' := by
  have d1 := Dv.ediv_bd ((cu + i) * l) mi hm 1152921504606846976 (by omega) (by omega) (by omega)
  have d2 := Dv.ediv_bd ((cu - i + 1) * l - 1) mi hm 1152921504606846977 (by omega) (by omega) (by omega)
  have zg : g < w.heap.size := World.block_lt_of_cell? w _ q1
  have Q1 := Lib.hid q1
  have Q2 := Lib.hid q2
  clear q1 q2
  go_enter Try.func125, Try.ntmps125
  go_wp2_with fail
  refine gen_world (fun W => Blk W w.heap.size 29 [.int .i64 lo, .int .i64 hi] ∧ Blk W (w.heap.size + 1) 29 [.int .i64 0, .int .i64 0] ∧ Below w.heap.size w W) ⟨(Blk.new' _ _ _).alloc _, by have := Blk.new' (w.alloc (.cells #[.int .i64 lo, .int .i64 hi] 29)) #[.int .i64 0, .int .i64 0] 29; simpa using this, ((Below.refl _ _).alloc (Nat.le_refl _) _).alloc (by simp) _⟩ ?_
  rintro w1 ⟨x1, x2, x3⟩
  have I1 := Lib.hid (And.intro x1 (And.intro x2 x3))
  clear x1 x2 x3
  refine wp_region_head 44 ?af (by kernel_rfl) (by kernel_rfl) ?walk ?tail
  case walk =>
    intro V hV
    have x1 := I1.out.1.below hV I1.out.1.lt
    have hb := I1.out.2.2.trans (hV.mono I1.out.2.2.size)
    have p0 := x1.cell 0 rfl
    have p1 := x1.cell 1 rfl
    have z1 := x1.lt
    have q1 := (hb.cell (p := ⟨g, 8, none⟩) zg).trans Q1.out
    have q2 := (hb.cell (p := ⟨g, 5, none⟩) zg).trans Q2.out
    have z2 : g < V.heap.size := by have := hb.size; omega
    clear x1 hb
    simp only [List.take_succ_cons, List.take_zero]
    repeat (go_big_quiet_step ((go_at_call 69; exact past_same (div_c _ _ _ hm (by omega) (by omega)))))
    refine wpQuiet_nil ?_
    rfl
  case tail =>
    intro w2 hb2
    have I2 := Lib.hid (And.intro (I1.out.2.1.below hb2 I1.out.2.1.lt) (I1.out.2.2.trans (hb2.mono I1.out.2.2.size)))
    clear hb2
    have c0 := I2.out.1.cell 0 rfl
    have c1 := I2.out.1.cell 1 rfl
    have f0 := I2.out.1.free 0
    have f1 := I2.out.1.free 1
    have z := I2.out.1.lt
    simp only [List.drop_succ_cons, List.drop_zero]
    go_wp2
    exact bodyPost_ret (v := .agg #[.int .i64 (Dv.alLo cu i l mi lo), .int .i64 (Dv.alHi cu i l mi hi)]) (by simp [results, Try.results125, go_sem, c0, c1, Dv.alLo, Dv.alHi]) rfl ⟨rfl, (I2.out.2.setCell (by simp) _).setCell (by simp) _⟩
end Go.Proofs.Ytcneohhfnnelgaa
