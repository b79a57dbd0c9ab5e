/- The contract of product of drive, at two and three spans. The contract of product of drive at three spans. -/
import Derived.Test.YtcneohhfnnelgaaV44
namespace Go.Proofs.Ytcneohhfnnelgaa
open Go.RowKit
set_option linter.unusedVariables false

theorem ends4_c (p q r s : Int) (W : World) (g : Nat) (hg : W.heap.size = g) :
    Calls Try.prog 68 #[.slice (some ⟨g, 0, none⟩) 4 4] (W.alloc (.cells #[.int .i64 p, .int .i64 q, .int .i64 r, .int .i64 s] 2)) fun e w' => e = .returned (.tuple #[.int .i64 (Dv.mn4 p q r s), .int .i64 (Dv.mx4 p q r s)]) ∧ Below W.heap.size W w' := by
  subst hg
  refine (ends_c (some ⟨W.heap.size, 0, none⟩) [p, q, r, s] 4 _ (by simp) (by simp) (by omega) (intsAt_alloc W 2 [p, q, r, s])).mono ?_
  rintro e w' ⟨rfl, n, rfl⟩
  exact ⟨rfl, below_drewN ((Below.refl _ _).alloc (Nat.le_refl _) _) n⟩

/-- what lies in memory while product runs: the spans, the result, the product so far -/
def PrI (w : World) (g : Nat) (cs : List Value) (lo hi : Int) (W : World) : Prop := Blk W g 29 cs ∧ Blk W w.heap.size 29 [.int .i64 0, .int .i64 0] ∧ Blk W (w.heap.size + 1) 29 [.int .i64 lo, .int .i64 hi] ∧ Below w.heap.size w W
theorem PrI.below {w : World} {g : Nat} {cs : List Value} {lo hi : Int} {W W' : World} (h : PrI w g cs lo hi W) (hb : Below W.heap.size W W') : PrI w g cs lo hi W' :=
  ⟨h.1.below hb h.1.lt, h.2.1.below hb h.2.1.lt, h.2.2.1.below hb h.2.2.1.lt, h.2.2.2.trans (hb.mono h.2.2.2.size)⟩
theorem PrI.start {w : World} {g : Nat} {cs : List Value} {lo hi : Int} (h : Blk w g 29 cs) : PrI w g cs lo hi ((w.alloc (.cells #[.int .i64 0, .int .i64 0] 29)).alloc (.cells #[.int .i64 lo, .int .i64 hi] 29)) :=
  ⟨(h.alloc _).alloc _, (Blk.new' _ _ _).alloc _, by have := Blk.new' (w.alloc (.cells #[.int .i64 0, .int .i64 0] 29)) #[.int .i64 lo, .int .i64 hi] 29; simpa using this, ((Below.refl _ _).alloc (Nat.le_refl _) _).alloc (by simp) _⟩
theorem PrI.put {w : World} {g : Nat} {cs : List Value} {lo hi lo' hi' : Int} {W : World} (hg : g < w.heap.size) (h : PrI w g cs lo hi W) : PrI w g cs lo' hi' ((W.setCell ⟨w.heap.size + 1, 0, none⟩ (.int .i64 lo')).setCell ⟨w.heap.size + 1, 1, none⟩ (.int .i64 hi')) :=
  ⟨(h.1.setCell_ne (by simp; omega) _).setCell_ne (by simp; omega) _, (h.2.1.setCell_ne (by simp) _).setCell_ne (by simp) _, (h.2.2.1.setCell 0 _).setCell 1 _, (h.2.2.2.setCell (by simp) _).setCell (by simp) _⟩

set_option maxHeartbeats 2000000 in
theorem product2_c (a b c d : Int) (g : Nat) (w : World) (hg : Blk w g 29 [.int .i64 a, .int .i64 b, .int .i64 c, .int .i64 d]) (h1 : -4611686018427387904 ≤ a * c ∧ a * c ≤ 4611686018427387904) (h2 : -4611686018427387904 ≤ a * d ∧ a * d ≤ 4611686018427387904) (h3 : -4611686018427387904 ≤ b * c ∧ b * c ≤ 4611686018427387904) (h4 : -4611686018427387904 ≤ b * d ∧ b * d ≤ 4611686018427387904) :
    Calls Try.prog 130 #[.slice (some ⟨g, 0, none⟩) 2 2] w fun e w' => e = .returned (.agg #[.int .i64 (Dv.mn4 (a * c) (a * d) (b * c) (b * d)), .int .i64 (Dv.mx4 (a * c) (a * d) (b * c) (b * d))]) ∧ Below w.heap.size w w' := by
  have I0 := Lib.hid (PrI.start (lo := a) (hi := b) hg)
  have zg := hg.lt
  have e0 := hg.cell 0 rfl
  have e1 := hg.cell 1 rfl
  clear hg
  go_enter Try.func130, Try.ntmps130
  go_wp2_with fail
  clear e0 e1
  refine gen_world (fun W => PrI w g [.int .i64 a, .int .i64 b, .int .i64 c, .int .i64 d] a b W) I0.out ?_
  clear I0
  rintro w1 i1
  have I1 := Lib.hid i1
  have e2 := i1.1.cell 2 rfl
  have e3 := i1.1.cell 3 rfl
  have q0 := i1.2.2.1.cell 0 rfl
  have q1 := i1.2.2.1.cell 1 rfl
  have z1 := i1.2.2.1.lt
  have z2 := i1.1.lt
  clear i1
  refine wp_loop_rounds 2 ?_
  rw [rounds_succ]
  go_wp2_with fail
  refine (ends4_c (a * c) (a * d) (b * c) (b * d) _ _ (by simp)).mono ?_
  rintro e w2 ⟨rfl, hb2⟩
  have I2 := Lib.hid ((I1.out.below ((Below.refl _ _).alloc (Nat.le_refl _) (.cells #[.int .i64 c, .int .i64 d] 29))).below hb2)
  clear hb2 e2 e3 q0 q1 z1 z2
  have f0 := I2.out.2.2.1.free 0
  have f1 := I2.out.2.2.1.free 1
  have q0 := I2.out.2.2.1.cell 0 rfl
  have q1 := I2.out.2.2.1.cell 1 rfl
  have z1 := I2.out.2.2.1.lt
  have HP := Lib.hid (I2.out.put (lo' := Dv.mn4 (a * c) (a * d) (b * c) (b * d)) (hi' := Dv.mx4 (a * c) (a * d) (b * c) (b * d)) zg)
  go_wp2_with fail
  clear f0 f1 q0 q1 z1
  refine gen_world (fun W => PrI w g [.int .i64 a, .int .i64 b, .int .i64 c, .int .i64 d] (Dv.mn4 (a * c) (a * d) (b * c) (b * d)) (Dv.mx4 (a * c) (a * d) (b * c) (b * d)) W) HP.out ?_
  rintro w3 i3
  have I3 := Lib.hid i3
  have r0 := i3.2.1.cell 0 rfl
  have r1 := i3.2.1.cell 1 rfl
  have g0 := i3.2.1.free 0
  have g1 := i3.2.1.free 1
  have q0 := i3.2.2.1.cell 0 rfl
  have q1 := i3.2.2.1.cell 1 rfl
  have z1 := i3.2.2.1.lt
  clear i3
  go_wp2
  exact bodyPost_ret (v := .agg #[.int .i64 (Dv.mn4 (a * c) (a * d) (b * c) (b * d)), .int .i64 (Dv.mx4 (a * c) (a * d) (b * c) (b * d))]) (by simp [results, Try.results130, go_sem, r0, r1]) rfl ⟨rfl, (I3.out.2.2.2.setCell (by simp) _).setCell (by simp) _⟩
end Go.Proofs.Ytcneohhfnnelgaa
namespace Go.Proofs.Ytcneohhfnnelgaa
open Go.RowKit
set_option linter.unusedVariables false

set_option maxHeartbeats 4000000 in
theorem product3_c (a b c d e f l h l2 h2 : Int) (g : Nat) (w : World) (hg : Blk w g 29 [.int .i64 a, .int .i64 b, .int .i64 c, .int .i64 d, .int .i64 e, .int .i64 f]) (b1 : -4611686018427387904 ≤ a * c ∧ a * c ≤ 4611686018427387904) (b2 : -4611686018427387904 ≤ a * d ∧ a * d ≤ 4611686018427387904) (b3 : -4611686018427387904 ≤ b * c ∧ b * c ≤ 4611686018427387904) (b4 : -4611686018427387904 ≤ b * d ∧ b * d ≤ 4611686018427387904) (hl1 : Dv.mn4 (a * c) (a * d) (b * c) (b * d) = l) (hh1 : Dv.mx4 (a * c) (a * d) (b * c) (b * d) = h) (b5 : -4611686018427387904 ≤ l * e ∧ l * e ≤ 4611686018427387904) (b6 : -4611686018427387904 ≤ l * f ∧ l * f ≤ 4611686018427387904) (b7 : -4611686018427387904 ≤ h * e ∧ h * e ≤ 4611686018427387904) (b8 : -4611686018427387904 ≤ h * f ∧ h * f ≤ 4611686018427387904) (hl2 : Dv.mn4 (l * e) (l * f) (h * e) (h * f) = l2) (hh2 : Dv.mx4 (l * e) (l * f) (h * e) (h * f) = h2) :
    Calls Try.prog 130 #[.slice (some ⟨g, 0, none⟩) 3 3] w fun e w' => e = .returned (.agg #[.int .i64 l2, .int .i64 h2]) ∧ Below w.heap.size w w' := by
  have I0 := Lib.hid (PrI.start (lo := a) (hi := b) hg)
  have zg := hg.lt
  have e0 := hg.cell 0 rfl
  have e1 := hg.cell 1 rfl
  clear hg
  go_enter Try.func130, Try.ntmps130
  go_wp2_with fail
  clear e0 e1
  refine gen_world (fun W => PrI w g [.int .i64 a, .int .i64 b, .int .i64 c, .int .i64 d, .int .i64 e, .int .i64 f] a b W) I0.out ?_
  clear I0
  rintro w1 i1
  have I1 := Lib.hid i1
  have e2 := i1.1.cell 2 rfl
  have e3 := i1.1.cell 3 rfl
  have q0 := i1.2.2.1.cell 0 rfl
  have q1 := i1.2.2.1.cell 1 rfl
  have z1 := i1.2.2.1.lt
  have z2 := i1.1.lt
  clear i1
  refine wp_loop_rounds 3 ?_
  rw [rounds_succ]
  go_wp2_with fail
  refine (ends4_c (a * c) (a * d) (b * c) (b * d) _ _ (by simp)).mono ?_
  rintro e w2 ⟨rfl, hb2⟩
  have I2 := Lib.hid ((I1.out.below ((Below.refl _ _).alloc (Nat.le_refl _) (.cells #[.int .i64 c, .int .i64 d] 29))).below hb2)
  clear hb2 e2 e3 q0 q1 z1 z2
  have f0 := I2.out.2.2.1.free 0
  have f1 := I2.out.2.2.1.free 1
  have q0 := I2.out.2.2.1.cell 0 rfl
  have q1 := I2.out.2.2.1.cell 1 rfl
  have z1 := I2.out.2.2.1.lt
  rw [hl1, hh1]
  have HP := Lib.hid (I2.out.put (lo' := l) (hi' := h) zg)
  go_wp2_with fail
  clear f0 f1 q0 q1 z1
  refine gen_world (fun W => PrI w g [.int .i64 a, .int .i64 b, .int .i64 c, .int .i64 d, .int .i64 e, .int .i64 f] l h W) HP.out ?_
  clear HP
  rintro w3 i3
  have I3 := Lib.hid i3
  have e2 := i3.1.cell 4 rfl
  have e3 := i3.1.cell 5 rfl
  have q0 := i3.2.2.1.cell 0 rfl
  have q1 := i3.2.2.1.cell 1 rfl
  have z1 := i3.2.2.1.lt
  have z2 := i3.1.lt
  clear i3
  try rw [rounds_succ]
  go_wp2_with fail
  refine (ends4_c (l * e) (l * f) (h * e) (h * f) _ _ (by simp)).mono ?_
  rintro e w4 ⟨rfl, hb4⟩
  have I4 := Lib.hid ((I3.out.below ((Below.refl _ _).alloc (Nat.le_refl _) (.cells #[.int .i64 e, .int .i64 f] 29))).below hb4)
  clear hb4 e2 e3 q0 q1 z1 z2
  have f0 := I4.out.2.2.1.free 0
  have f1 := I4.out.2.2.1.free 1
  have q0 := I4.out.2.2.1.cell 0 rfl
  have q1 := I4.out.2.2.1.cell 1 rfl
  have z1 := I4.out.2.2.1.lt
  rw [hl2, hh2]
  have HP := Lib.hid (I4.out.put (lo' := l2) (hi' := h2) zg)
  go_wp2_with fail
  clear f0 f1 q0 q1 z1
  refine gen_world (fun W => PrI w g [.int .i64 a, .int .i64 b, .int .i64 c, .int .i64 d, .int .i64 e, .int .i64 f] l2 h2 W) HP.out ?_
  clear HP
  rintro w5 i5
  have I5 := Lib.hid i5
  have r0 := i5.2.1.cell 0 rfl
  have r1 := i5.2.1.cell 1 rfl
  have g0 := i5.2.1.free 0
  have g1 := i5.2.1.free 1
  have q0 := i5.2.2.1.cell 0 rfl
  have q1 := i5.2.2.1.cell 1 rfl
  have z1 := i5.2.2.1.lt
  clear i5
  go_wp2
  exact bodyPost_ret (v := .agg #[.int .i64 l2, .int .i64 h2]) (by simp [results, Try.results130, go_sem, r0, r1]) rfl ⟨rfl, (I5.out.2.2.2.setCell (by simp) _).setCell (by simp) _⟩
end Go.Proofs.Ytcneohhfnnelgaa
