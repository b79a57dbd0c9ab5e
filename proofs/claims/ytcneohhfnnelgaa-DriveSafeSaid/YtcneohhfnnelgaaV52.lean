/- The contract of the limiter's inners of drive. The contract of inners of coulombref06. The contracts of the limiter's inners and both of drive, and of inners of coulombref06, by plain words. -/
import Derived.Test.YtcneohhfnnelgaaW51
import Derived.Test.YtcneohhfnnelgaaV47
import Derived.Test.YtcneohhfnnelgaaR9
namespace Go.Proofs.Ytcneohhfnnelgaa
open Go.RowKit
set_option linter.unusedVariables false
namespace Dv
def tmLo (a b c d : Int) : Int := mn4 (a * c) (a * d) (b * c) (b * d)
def tmHi (a b c d : Int) : Int := mx4 (a * c) (a * d) (b * c) (b * d)
end Dv
theorem Blk.put2 {W : World} {g g' : Nat} {t : TypeId} {cs : List Value} (h : Blk W g t cs) (hn : g ≠ g') (u v : Value) : Blk ((W.setCell ⟨g', 0, none⟩ u).setCell ⟨g', 1, none⟩ v) g t cs :=
  (h.setCell_ne (p := ⟨g', 0, none⟩) hn _).setCell_ne (p := ⟨g', 1, none⟩) hn _
theorem Blk.lay2 {W : World} {g : Nat} {t : TypeId} {x y : Value} (h : Blk W g t [x, y]) (u v : Value) : Blk ((W.setCell ⟨g, 0, none⟩ u).setCell ⟨g, 1, none⟩ v) g t [u, v] := (h.setCell 0 u).setCell 1 v
theorem below_put2 {n : Nat} {w W : World} (h : Below n w W) {g : Nat} (hg : n ≤ g) (u v : Value) : Below n w ((W.setCell ⟨g, 0, none⟩ u).setCell ⟨g, 1, none⟩ v) := (h.setCell hg u).setCell hg v
def z2 : List Value := [.int .i64 0, .int .i64 0]
def i2 (a b : Int) : List Value := [.int .i64 a, .int .i64 b]
/-- what lies in memory while inners runs -/
def InI (w : World) (g : Nat) (cs : List Value) (W : World) : Prop := Blk W g 131 cs ∧ Blk W w.heap.size 29 z2 ∧ Blk W (w.heap.size + 1) 29 z2 ∧ Below w.heap.size w W ∧ g < w.heap.size ∧ w.heap.size + 2 ≤ W.heap.size
theorem InI.below {w : World} {g : Nat} {cs : List Value} {W W' : World} (h : InI w g cs W) (hb : Below W.heap.size W W') : InI w g cs W' :=
  ⟨h.1.below hb h.1.lt, h.2.1.below hb h.2.1.lt, h.2.2.1.below hb h.2.2.1.lt, h.2.2.2.1.trans (hb.mono h.2.2.2.1.size), h.2.2.2.2.1, Nat.le_trans h.2.2.2.2.2 hb.size⟩
theorem InI.put {w : World} {g g' : Nat} {cs : List Value} {W : World} (h : InI w g cs W) (hg : w.heap.size + 2 ≤ g') (u v : Value) : InI w g cs ((W.setCell ⟨g', 0, none⟩ u).setCell ⟨g', 1, none⟩ v) := by
  have h5 := h.2.2.2.2.1
  exact ⟨h.1.put2 (by omega) u v, h.2.1.put2 (by omega) u v, h.2.2.1.put2 (by omega) u v, below_put2 h.2.2.2.1 (by omega) u v, h5, by have := h.2.2.2.2.2; simpa [World.setCell] using this⟩

set_option maxHeartbeats 4000000 in
set_option maxRecDepth 100000 in
theorem inners_go (m lo hi : Mot) (sl sh al ah d q s : Int) {A1 B1 A2 B2 A3 B3 A4 B4 A5 B5 A6 B6 A7 B7 : Int} (eA1 : Dv.tmLo al ah lo.lq hi.lq = A1) (eB1 : Dv.tmHi al ah lo.lq hi.lq = B1) (bA1 : -137438953472 ≤ A1 ∧ A1 ≤ 137438953472) (bB1 : -137438953472 ≤ B1 ∧ B1 ≤ 137438953472) (p00 : -4611686018427387904 ≤ al * lo.lq ∧ al * lo.lq ≤ 4611686018427387904) (p01 : -4611686018427387904 ≤ al * hi.lq ∧ al * hi.lq ≤ 4611686018427387904) (p02 : -4611686018427387904 ≤ ah * lo.lq ∧ ah * lo.lq ≤ 4611686018427387904) (p03 : -4611686018427387904 ≤ ah * hi.lq ∧ ah * hi.lq ≤ 4611686018427387904) (eA2 : Dv.tmLo A1 B1 q q = A2) (eB2 : Dv.tmHi A1 B1 q q = B2) (bA2 : -144115188075855872 ≤ A2 ∧ A2 ≤ 144115188075855872) (bB2 : -144115188075855872 ≤ B2 ∧ B2 ≤ 144115188075855872) (p10 : -4611686018427387904 ≤ A1 * q ∧ A1 * q ≤ 4611686018427387904) (p11 : -4611686018427387904 ≤ B1 * q ∧ B1 * q ≤ 4611686018427387904) (eA3 : Dv.tmLo lo.r hi.r d d = A3) (eB3 : Dv.tmHi lo.r hi.r d d = B3) (bA3 : -1099511627776 ≤ A3 ∧ A3 ≤ 1099511627776) (bB3 : -1099511627776 ≤ B3 ∧ B3 ≤ 1099511627776) (p20 : -4611686018427387904 ≤ lo.r * d ∧ lo.r * d ≤ 4611686018427387904) (p21 : -4611686018427387904 ≤ hi.r * d ∧ hi.r * d ≤ 4611686018427387904) (eA4 : Dv.tmLo lo.r hi.r q q = A4) (eB4 : Dv.tmHi lo.r hi.r q q = B4) (bA4 : -1099511627776 ≤ A4 ∧ A4 ≤ 1099511627776) (bB4 : -1099511627776 ≤ B4 ∧ B4 ≤ 1099511627776) (p30 : -4611686018427387904 ≤ lo.r * q ∧ lo.r * q ≤ 4611686018427387904) (p31 : -4611686018427387904 ≤ hi.r * q ∧ hi.r * q ≤ 4611686018427387904) (eA5 : Dv.tmLo al ah lo.ld hi.ld = A5) (eB5 : Dv.tmHi al ah lo.ld hi.ld = B5) (bA5 : -137438953472 ≤ A5 ∧ A5 ≤ 137438953472) (bB5 : -137438953472 ≤ B5 ∧ B5 ≤ 137438953472) (p40 : -4611686018427387904 ≤ al * lo.ld ∧ al * lo.ld ≤ 4611686018427387904) (p41 : -4611686018427387904 ≤ al * hi.ld ∧ al * hi.ld ≤ 4611686018427387904) (p42 : -4611686018427387904 ≤ ah * lo.ld ∧ ah * lo.ld ≤ 4611686018427387904) (p43 : -4611686018427387904 ≤ ah * hi.ld ∧ ah * hi.ld ≤ 4611686018427387904) (eA6 : Dv.tmLo A5 B5 d d = A6) (eB6 : Dv.tmHi A5 B5 d d = B6) (bA6 : -144115188075855872 ≤ A6 ∧ A6 ≤ 144115188075855872) (bB6 : -144115188075855872 ≤ B6 ∧ B6 ≤ 144115188075855872) (p50 : -4611686018427387904 ≤ A5 * d ∧ A5 * d ≤ 4611686018427387904) (p51 : -4611686018427387904 ≤ B5 * d ∧ B5 * d ≤ 4611686018427387904) (eA7 : Dv.tmLo al ah lo.fx hi.fx = A7) (eB7 : Dv.tmHi al ah lo.fx hi.fx = B7) (bA7 : -137438953472 ≤ A7 ∧ A7 ≤ 137438953472) (bB7 : -137438953472 ≤ B7 ∧ B7 ≤ 137438953472) (p60 : -4611686018427387904 ≤ al * lo.fx ∧ al * lo.fx ≤ 4611686018427387904) (p61 : -4611686018427387904 ≤ al * hi.fx ∧ al * hi.fx ≤ 4611686018427387904) (p62 : -4611686018427387904 ≤ ah * lo.fx ∧ ah * lo.fx ≤ 4611686018427387904) (p63 : -4611686018427387904 ≤ ah * hi.fx ∧ ah * hi.fx ≤ 4611686018427387904) (g : Nat) (w : World) (hg : Blk w g 131 (lmC m lo hi sl sh)) (hlo : Dv.chk lo) (hhi : Dv.chk hi) (hs : -16384 ≤ s ∧ s ≤ 16384) (hsl : -16384 ≤ sl ∧ sl ≤ 16384) (hsh : -16384 ≤ sh ∧ sh ≤ 16384) (hd : -1048576 ≤ d ∧ d ≤ 1048576) (hq : -1048576 ≤ q ∧ q ≤ 1048576) (eal : s + sl = al) (eah : s + sh = ah) :
    Calls Try.prog 124 #[.pointer (some ⟨g, 0, none⟩), .int .i64 d, .int .i64 q, .int .i64 s] w fun e w' => e = .returned (.tuple #[.agg #[.int .i64 (A2 / 1000000 - B3 / 1000), .int .i64 (B2 / 1000000 - A3 / 1000)], .agg #[.int .i64 (-(B4 / 1000) - B6 / 1000000 - B7), .int .i64 (-(A4 / 1000) - A6 / 1000000 - A7)]]) ∧ Below w.heap.size w w' := by
  have K1 := Lib.hid (show ∀ (g' : Nat) (W : World), Blk W g' 29 [.int .i64 al, .int .i64 ah, .int .i64 (lo.lq), .int .i64 (hi.lq), .int .i64 q, .int .i64 q] → Calls Try.prog 130 #[.slice (some ⟨g', 0, none⟩) 3 3] W fun e w' => e = .returned (.agg #[.int .i64 A2, .int .i64 B2]) ∧ Below W.heap.size W w' from fun g' W h => product3_c al ah lo.lq hi.lq q q A1 B1 A2 B2 g' W h p00 p01 p02 p03 eA1 eB1 p10 p10 p11 p11 eA2 eB2)
  have K2 := Lib.hid (show ∀ (g' : Nat) (W : World), Blk W g' 29 [.int .i64 (lo.r), .int .i64 (hi.r), .int .i64 (d), .int .i64 (d)] → Calls Try.prog 130 #[.slice (some ⟨g', 0, none⟩) 2 2] W fun e w' => e = .returned (.agg #[.int .i64 A3, .int .i64 B3]) ∧ Below W.heap.size W w' from fun g' W h => by rw [← eA3, ← eB3]; exact product2_c lo.r hi.r d d g' W h p20 p20 p21 p21)
  have K3 := Lib.hid (show ∀ (g' : Nat) (W : World), Blk W g' 29 [.int .i64 (lo.r), .int .i64 (hi.r), .int .i64 (q), .int .i64 (q)] → Calls Try.prog 130 #[.slice (some ⟨g', 0, none⟩) 2 2] W fun e w' => e = .returned (.agg #[.int .i64 A4, .int .i64 B4]) ∧ Below W.heap.size W w' from fun g' W h => by rw [← eA4, ← eB4]; exact product2_c lo.r hi.r q q g' W h p30 p30 p31 p31)
  have K4 := Lib.hid (show ∀ (g' : Nat) (W : World), Blk W g' 29 [.int .i64 al, .int .i64 ah, .int .i64 (lo.ld), .int .i64 (hi.ld), .int .i64 d, .int .i64 d] → Calls Try.prog 130 #[.slice (some ⟨g', 0, none⟩) 3 3] W fun e w' => e = .returned (.agg #[.int .i64 A6, .int .i64 B6]) ∧ Below W.heap.size W w' from fun g' W h => product3_c al ah lo.ld hi.ld d d A5 B5 A6 B6 g' W h p40 p41 p42 p43 eA5 eB5 p50 p50 p51 p51 eA6 eB6)
  have K5 := Lib.hid (show ∀ (g' : Nat) (W : World), Blk W g' 29 [.int .i64 (al), .int .i64 (ah), .int .i64 (lo.fx), .int .i64 (hi.fx)] → Calls Try.prog 130 #[.slice (some ⟨g', 0, none⟩) 2 2] W fun e w' => e = .returned (.agg #[.int .i64 A7, .int .i64 B7]) ∧ Below W.heap.size W w' from fun g' W h => by rw [← eA7, ← eB7]; exact product2_c al ah lo.fx hi.fx g' W h p60 p61 p62 p63)
  clear eA1 eB1 eA2 eB2 eA3 eB3 eA4 eB4 eA5 eB5 eA6 eB6 eA7 eB7 p00 p01 p02 p03 p10 p11 p20 p21 p30 p31 p40 p41 p42 p43 p50 p51 p60 p61 p62 p63
  have I0 := Lib.hid (show InI w g (lmC m lo hi sl sh) ((w.alloc (.cells #[.int .i64 0, .int .i64 0] 29)).alloc (.cells #[.int .i64 0, .int .i64 0] 29)) from ⟨(hg.alloc _).alloc _, (Blk.new' _ _ _).alloc _, by have := Blk.new' (w.alloc (.cells #[.int .i64 0, .int .i64 0] 29)) #[.int .i64 0, .int .i64 0] 29; simp at this; exact this, ((Below.refl _ _).alloc (Nat.le_refl _) _).alloc (by simp) _, hg.lt, by simp⟩)
  clear hg
  unfold Dv.chk at hlo hhi
  have hal := Lib.hid eal
  have hah := Lib.hid eah
  clear eal eah
  go_enter Try.func124, Try.ntmps124
  go_wp2_with fail
  refine gen_world (fun W => InI w g (lmC m lo hi sl sh) W) I0.out ?_
  clear I0
  rintro w1 i1
  have I1 := Lib.hid i1
  clear i1
  refine wp_region_priv 16 [.q, .q, .q, .q, .q, .q, .q, .q, .q, .q, .q, .q, .q, .q, .q, .p] (fun _ => (.cells #[.int .i64 0, .int .i64 0] 29, fun b => .pointer (some ⟨b, 0, none⟩))) ?af1 (by kernel_rfl) (by kernel_rfl) ?walk1 ?tail1
  case walk1 =>
    intro V hV
    have IV := Lib.hid (I1.out.below hV)
    obtain ⟨_, _, _, ⟨d0, d1⟩⟩ := lmCells IV.out.1
    have zg := IV.out.1.lt
    simp only [List.take_succ_cons, List.take_zero]
    repeat (refine wpP_q ?_; go_big_quiet_step (fail); refine wpQuiet_nil ?_)
    refine wpP_p (by kernel_rfl) (fun _ => by kernel_rfl) ?_
    (try simp only [Act.put, List.setIfInBounds_toArray, List.set_cons_zero, List.set_cons_succ])
    refine wpP_nil ?_
    rfl
  case tail1 =>
  intro gs w2 hb2 hP hD
  obtain ⟨hg1, k1⟩ := hP 15 rfl
  simp only [List.take_succ_cons, List.take_zero, fillP]
  (try simp only [Act.put, List.setIfInBounds_toArray, List.set_cons_zero, List.set_cons_succ])
  generalize gs 15 = g1 at hg1 k1 ⊢
  clear hP hD
  have n1 : w.heap.size + 2 ≤ g1 := Nat.le_trans I1.out.2.2.2.2.2 hg1
  have f0 := Blk.free (t := 29) (cs := z2) k1 0
  have f1 := Blk.free (t := 29) (cs := z2) k1 1
  have d0 := Blk.cell (t := 29) (cs := z2) k1 0 rfl
  have d1 := Blk.cell (t := 29) (cs := z2) k1 1 rfl
  have J1 := Lib.hid (And.intro ((I1.out.below hb2).put n1 (.int .i64 (s + sl)) (.int .i64 (s + sh))) (Blk.lay2 (show Blk w2 g1 29 z2 from k1) (.int .i64 (s + sl)) (.int .i64 (s + sh))))
  clear hb2 k1 hg1 I1
  simp only [List.drop_succ_cons, List.drop_zero]
  go_wp2_with fail
  refine gen_world (fun W => InI w g (lmC m lo hi sl sh) W ∧ Blk W g1 29 (i2 (s + sl) (s + sh))) J1.out ?_
  clear J1 f0 f1 d0 d1
  rintro w3 i3
  have I3 := Lib.hid i3
  clear i3
  refine wp_region_priv 12 [.q, .q, .q, .q, .q, .q, .q, .q, .q, .q, .q, .p] (fun _ => (.cells #[.int .i64 0, .int .i64 0] 29, fun b => .pointer (some ⟨b, 0, none⟩))) ?af2 (by kernel_rfl) (by kernel_rfl) ?walk2 ?tail2
  case walk2 =>
    intro V hV
    have IV := Lib.hid (I3.out.1.below hV)
    obtain ⟨_, ⟨b0, _⟩, ⟨c0, _⟩, _⟩ := lmCells IV.out.1
    have zg := IV.out.1.lt
    simp only [List.take_succ_cons, List.take_zero]
    repeat (refine wpP_q ?_; go_big_quiet_step (fail); refine wpQuiet_nil ?_)
    refine wpP_p (by kernel_rfl) (fun _ => by kernel_rfl) ?_
    (try simp only [Act.put, List.setIfInBounds_toArray, List.set_cons_zero, List.set_cons_succ])
    refine wpP_nil ?_
    rfl
  case tail2 =>
  intro gs w4 hb4 hP hD
  obtain ⟨hg2, k2⟩ := hP 11 rfl
  simp only [List.take_succ_cons, List.take_zero, fillP]
  (try simp only [Act.put, List.setIfInBounds_toArray, List.set_cons_zero, List.set_cons_succ])
  generalize gs 11 = g2 at hg2 k2 ⊢
  clear hP hD
  have n2 : w.heap.size + 2 ≤ g2 := Nat.le_trans I3.out.1.2.2.2.2.2 hg2
  have n12 : g1 ≠ g2 := by have := I3.out.2.lt; omega
  have f0 := Blk.free (t := 29) (cs := z2) k2 0
  have f1 := Blk.free (t := 29) (cs := z2) k2 1
  have d0 := Blk.cell (t := 29) (cs := z2) k2 0 rfl
  have d1 := Blk.cell (t := 29) (cs := z2) k2 1 rfl
  have J2 := Lib.hid (And.intro ((I3.out.1.below hb4).put n2 (.int .i64 lo.r) (.int .i64 hi.r)) (And.intro ((I3.out.2.below hb4 I3.out.2.lt).put2 n12 (.int .i64 lo.r) (.int .i64 hi.r)) (Blk.lay2 (show Blk w4 g2 29 z2 from k2) (.int .i64 lo.r) (.int .i64 hi.r))))
  clear hb4 k2 hg2 I3
  simp only [List.drop_succ_cons, List.drop_zero]
  go_wp2_with fail
  refine gen_world (fun W => InI w g (lmC m lo hi sl sh) W ∧ Blk W g1 29 (i2 al ah) ∧ Blk W g2 29 (i2 lo.r hi.r)) (by rw [← hal.out, ← hah.out]; exact J2.out) ?_
  clear J2 f0 f1 d0 d1
  rintro w5 i5
  have I5 := Lib.hid i5
  clear i5
  refine wp_region_priv 25 [.q, .q, .q, .q, .q, .q, .q, .q, .q, .q, .q, .q, .q, .q, .p, .c 14 54, .q, .q, .q, .q, .p, .c 20 60, .q, .q, .p] (fun n => (if n = 20 then (.cells #[.int .i64 lo.r, .int .i64 hi.r, .int .i64 d, .int .i64 d] 29, fun b => .slice (some ⟨b, 0, none⟩) 2 2) else (if n = 14 then (.cells #[.int .i64 al, .int .i64 ah, .int .i64 lo.lq, .int .i64 hi.lq, .int .i64 q, .int .i64 q] 29, fun b => .slice (some ⟨b, 0, none⟩) 3 3) else (.cells #[.int .i64 0, .int .i64 0] 29, fun b => .pointer (some ⟨b, 0, none⟩))))) ?af3 (by kernel_rfl) (by kernel_rfl) ?walk3 ?tail3
  case walk3 =>
    intro V hV
    have IV := Lib.hid (I5.out.1.below hV)
    have X1 := I5.out.2.1.below hV I5.out.2.1.lt
    have X2 := I5.out.2.2.below hV I5.out.2.2.lt
    obtain ⟨_, ⟨_, b1, b2, b3, _⟩, ⟨_, c1, c2, c3, _⟩, _⟩ := lmCells IV.out.1
    have zg := IV.out.1.lt
    have zx1 := X1.lt
    have zx2 := X2.lt
    have e0 := X1.cell 0 rfl
    have e1 := X1.cell 1 rfl
    have r0 := X2.cell 0 rfl
    have r1 := X2.cell 1 rfl
    clear X1 X2
    simp only [List.take_succ_cons, List.take_zero]
    repeat (refine wpP_q ?_; go_big_quiet_step (first | (go_at_call 129; with_reducible exact past_below (per_c _ _ _ _ (by omega) (by omega) (by omega))) | (go_at_call 131; with_reducible exact past_below (one_c _ _)) | (go_at_call 128; with_reducible exact past_below (less_c _ _ _ _ _ (by omega) (by omega) (by omega) (by omega) (by omega)))); refine wpQuiet_nil ?_)
    refine wpP_p (by kernel_rfl) (fun _ => by kernel_rfl) ?_
    (try simp only [Act.put, List.setIfInBounds_toArray, List.set_cons_zero, List.set_cons_succ])
    refine wpP_c (.agg #[.int .i64 A2, .int .i64 B2]) (fun V' g' hV' hg' => ?_) ?_
    · (try simp only [Act.put, List.setIfInBounds_toArray, List.set_cons_zero, List.set_cons_succ])
      have hbb : Blk V' g' 29 [.int .i64 al, .int .i64 ah, .int .i64 lo.lq, .int .i64 hi.lq, .int .i64 q, .int .i64 q] := hg'
      have zz := hbb.lt
      go_big_quiet_step ((go_at_call 130; exact past_below (K1.out g' _ (hbb.below (Past.far _) hbb.lt))))
      refine wpQuiet_nil ?_
      rfl
    (try simp only [Act.put, List.setIfInBounds_toArray, List.set_cons_zero, List.set_cons_succ])
    repeat (refine wpP_q ?_; go_big_quiet_step (first | (go_at_call 129; with_reducible exact past_below (per_c _ _ _ _ (by omega) (by omega) (by omega))) | (go_at_call 131; with_reducible exact past_below (one_c _ _)) | (go_at_call 128; with_reducible exact past_below (less_c _ _ _ _ _ (by omega) (by omega) (by omega) (by omega) (by omega)))); refine wpQuiet_nil ?_)
    refine wpP_p (by kernel_rfl) (fun _ => by kernel_rfl) ?_
    (try simp only [Act.put, List.setIfInBounds_toArray, List.set_cons_zero, List.set_cons_succ])
    refine wpP_c (.agg #[.int .i64 A3, .int .i64 B3]) (fun V' g' hV' hg' => ?_) ?_
    · (try simp only [Act.put, List.setIfInBounds_toArray, List.set_cons_zero, List.set_cons_succ])
      have hbb : Blk V' g' 29 [.int .i64 lo.r, .int .i64 hi.r, .int .i64 d, .int .i64 d] := hg'
      have zz := hbb.lt
      go_big_quiet_step ((go_at_call 130; exact past_below (K2.out g' _ (hbb.below (Past.far _) hbb.lt))))
      refine wpQuiet_nil ?_
      rfl
    (try simp only [Act.put, List.setIfInBounds_toArray, List.set_cons_zero, List.set_cons_succ])
    repeat (refine wpP_q ?_; go_big_quiet_step (first | (go_at_call 129; with_reducible exact past_below (per_c _ _ _ _ (by omega) (by omega) (by omega))) | (go_at_call 131; with_reducible exact past_below (one_c _ _)) | (go_at_call 128; with_reducible exact past_below (less_c _ _ _ _ _ (by omega) (by omega) (by omega) (by omega) (by omega)))); refine wpQuiet_nil ?_)
    refine wpP_p (by kernel_rfl) (fun _ => by kernel_rfl) ?_
    (try simp only [Act.put, List.setIfInBounds_toArray, List.set_cons_zero, List.set_cons_succ])
    refine wpP_nil ?_
    rfl
  case tail3 =>
  intro gs w6 hb6 hP hD
  obtain ⟨ng3, k3⟩ := hP 24 rfl
  simp only [List.drop_succ_cons, List.drop_zero, List.take_succ_cons, List.take_zero, fillP]
  (try simp only [Act.put, List.setIfInBounds_toArray, List.set_cons_zero, List.set_cons_succ])
  generalize gs 24 = g3 at ng3 k3 ⊢
  generalize gs 14 = ga
  generalize gs 20 = gb
  clear hP hD
  have n3 : w.heap.size + 2 ≤ g3 := Nat.le_trans I5.out.1.2.2.2.2.2 ng3
  have n13 : g1 ≠ g3 := by have := I5.out.2.1.lt; omega
  have n23 : g2 ≠ g3 := by have := I5.out.2.2.lt; omega
  have f0 := Blk.free (t := 29) (cs := z2) k3 0
  have f1 := Blk.free (t := 29) (cs := z2) k3 1
  have d0 := Blk.cell (t := 29) (cs := z2) k3 0 rfl
  have d1 := Blk.cell (t := 29) (cs := z2) k3 1 rfl
  have J3 := Lib.hid (And.intro ((I5.out.1.below hb6).put n3 (.int .i64 (A2 / 1000000 - B3 / 1000)) (.int .i64 (B2 / 1000000 - A3 / 1000))) (And.intro ((I5.out.2.1.below hb6 I5.out.2.1.lt).put2 n13 (.int .i64 (A2 / 1000000 - B3 / 1000)) (.int .i64 (B2 / 1000000 - A3 / 1000))) (And.intro ((I5.out.2.2.below hb6 I5.out.2.2.lt).put2 n23 (.int .i64 (A2 / 1000000 - B3 / 1000)) (.int .i64 (B2 / 1000000 - A3 / 1000))) (Blk.lay2 (show Blk w6 g3 29 z2 from k3) (.int .i64 (A2 / 1000000 - B3 / 1000)) (.int .i64 (B2 / 1000000 - A3 / 1000))))))
  clear hb6 k3 ng3 I5
  go_wp2_with fail
  refine gen_world (fun W => InI w g (lmC m lo hi sl sh) W ∧ Blk W g1 29 (i2 al ah) ∧ Blk W g2 29 (i2 lo.r hi.r) ∧ Blk W g3 29 (i2 (A2 / 1000000 - B3 / 1000) (B2 / 1000000 - A3 / 1000))) J3.out ?_
  clear J3 f0 f1 d0 d1
  rintro w5 i5
  have I5 := Lib.hid i5
  clear i5
  refine wp_region_priv 42 [.q, .q, .q, .q, .p, .c 4 68, .q, .q, .q, .q, .q, .q, .q, .q, .q, .q, .q, .q, .q, .q, .q, .q, .p, .c 22 86, .q, .q, .q, .q, .q, .q, .q, .q, .q, .q, .q, .q, .q, .q, .p, .c 38 102, .q, .p] (fun n => (if n = 38 then (.cells #[.int .i64 al, .int .i64 ah, .int .i64 lo.fx, .int .i64 hi.fx] 29, fun b => .slice (some ⟨b, 0, none⟩) 2 2) else (if n = 22 then (.cells #[.int .i64 al, .int .i64 ah, .int .i64 lo.ld, .int .i64 hi.ld, .int .i64 d, .int .i64 d] 29, fun b => .slice (some ⟨b, 0, none⟩) 3 3) else (if n = 4 then (.cells #[.int .i64 lo.r, .int .i64 hi.r, .int .i64 q, .int .i64 q] 29, fun b => .slice (some ⟨b, 0, none⟩) 2 2) else (.cells #[.int .i64 0, .int .i64 0] 29, fun b => .pointer (some ⟨b, 0, none⟩)))))) ?af4 (by kernel_rfl) (by kernel_rfl) ?walk4 ?tail4
  case walk4 =>
    intro V hV
    have IV := Lib.hid (I5.out.1.below hV)
    have X1 := I5.out.2.1.below hV I5.out.2.1.lt
    have X2 := I5.out.2.2.1.below hV I5.out.2.2.1.lt
    obtain ⟨_, ⟨_, b1, b2, b3, _⟩, ⟨_, c1, c2, c3, _⟩, _⟩ := lmCells IV.out.1
    have zg := IV.out.1.lt
    have zx1 := X1.lt
    have zx2 := X2.lt
    have e0 := X1.cell 0 rfl
    have e1 := X1.cell 1 rfl
    have r0 := X2.cell 0 rfl
    have r1 := X2.cell 1 rfl
    clear X1 X2
    simp only [List.take_succ_cons, List.take_zero]
    repeat (refine wpP_q ?_; go_big_quiet_step (first | (go_at_call 129; with_reducible exact past_below (per_c _ _ _ _ (by omega) (by omega) (by omega))) | (go_at_call 131; with_reducible exact past_below (one_c _ _)) | (go_at_call 128; with_reducible exact past_below (less_c _ _ _ _ _ (by omega) (by omega) (by omega) (by omega) (by omega)))); refine wpQuiet_nil ?_)
    refine wpP_p (by kernel_rfl) (fun _ => by kernel_rfl) ?_
    (try simp only [Act.put, List.setIfInBounds_toArray, List.set_cons_zero, List.set_cons_succ])
    refine wpP_c (.agg #[.int .i64 A4, .int .i64 B4]) (fun V' g' hV' hg' => ?_) ?_
    · (try simp only [Act.put, List.setIfInBounds_toArray, List.set_cons_zero, List.set_cons_succ])
      have hbb : Blk V' g' 29 [.int .i64 lo.r, .int .i64 hi.r, .int .i64 q, .int .i64 q] := hg'
      have zz := hbb.lt
      go_big_quiet_step ((go_at_call 130; exact past_below (K3.out g' _ (hbb.below (Past.far _) hbb.lt))))
      refine wpQuiet_nil ?_
      rfl
    (try simp only [Act.put, List.setIfInBounds_toArray, List.set_cons_zero, List.set_cons_succ])
    repeat (refine wpP_q ?_; go_big_quiet_step (first | (go_at_call 129; with_reducible exact past_below (per_c _ _ _ _ (by omega) (by omega) (by omega))) | (go_at_call 131; with_reducible exact past_below (one_c _ _)) | (go_at_call 128; with_reducible exact past_below (less_c _ _ _ _ _ (by omega) (by omega) (by omega) (by omega) (by omega)))); refine wpQuiet_nil ?_)
    refine wpP_p (by kernel_rfl) (fun _ => by kernel_rfl) ?_
    (try simp only [Act.put, List.setIfInBounds_toArray, List.set_cons_zero, List.set_cons_succ])
    refine wpP_c (.agg #[.int .i64 A6, .int .i64 B6]) (fun V' g' hV' hg' => ?_) ?_
    · (try simp only [Act.put, List.setIfInBounds_toArray, List.set_cons_zero, List.set_cons_succ])
      have hbb : Blk V' g' 29 [.int .i64 al, .int .i64 ah, .int .i64 lo.ld, .int .i64 hi.ld, .int .i64 d, .int .i64 d] := hg'
      have zz := hbb.lt
      go_big_quiet_step ((go_at_call 130; exact past_below (K4.out g' _ (hbb.below (Past.far _) hbb.lt))))
      refine wpQuiet_nil ?_
      rfl
    (try simp only [Act.put, List.setIfInBounds_toArray, List.set_cons_zero, List.set_cons_succ])
    repeat (refine wpP_q ?_; go_big_quiet_step (first | (go_at_call 129; with_reducible exact past_below (per_c _ _ _ _ (by omega) (by omega) (by omega))) | (go_at_call 131; with_reducible exact past_below (one_c _ _)) | (go_at_call 128; with_reducible exact past_below (less_c _ _ _ _ _ (by omega) (by omega) (by omega) (by omega) (by omega)))); refine wpQuiet_nil ?_)
    refine wpP_p (by kernel_rfl) (fun _ => by kernel_rfl) ?_
    (try simp only [Act.put, List.setIfInBounds_toArray, List.set_cons_zero, List.set_cons_succ])
    refine wpP_c (.agg #[.int .i64 A7, .int .i64 B7]) (fun V' g' hV' hg' => ?_) ?_
    · (try simp only [Act.put, List.setIfInBounds_toArray, List.set_cons_zero, List.set_cons_succ])
      have hbb : Blk V' g' 29 [.int .i64 al, .int .i64 ah, .int .i64 lo.fx, .int .i64 hi.fx] := hg'
      have zz := hbb.lt
      go_big_quiet_step ((go_at_call 130; exact past_below (K5.out g' _ (hbb.below (Past.far _) hbb.lt))))
      refine wpQuiet_nil ?_
      rfl
    (try simp only [Act.put, List.setIfInBounds_toArray, List.set_cons_zero, List.set_cons_succ])
    repeat (refine wpP_q ?_; go_big_quiet_step (first | (go_at_call 129; with_reducible exact past_below (per_c _ _ _ _ (by omega) (by omega) (by omega))) | (go_at_call 131; with_reducible exact past_below (one_c _ _)) | (go_at_call 128; with_reducible exact past_below (less_c _ _ _ _ _ (by omega) (by omega) (by omega) (by omega) (by omega)))); refine wpQuiet_nil ?_)
    refine wpP_p (by kernel_rfl) (fun _ => by kernel_rfl) ?_
    (try simp only [Act.put, List.setIfInBounds_toArray, List.set_cons_zero, List.set_cons_succ])
    refine wpP_nil ?_
    rfl
  case tail4 =>
  intro gs w6 hb6 hP hD
  obtain ⟨ng4, k4⟩ := hP 41 rfl
  simp only [List.drop_succ_cons, List.drop_zero, List.take_succ_cons, List.take_zero, fillP]
  (try simp only [Act.put, List.setIfInBounds_toArray, List.set_cons_zero, List.set_cons_succ])
  generalize gs 41 = g4 at ng4 k4 ⊢
  generalize gs 4 = gc
  generalize gs 22 = gd
  generalize gs 38 = ge
  clear hP hD
  have n4 : w.heap.size + 2 ≤ g4 := Nat.le_trans I5.out.1.2.2.2.2.2 ng4
  have n34 : g3 ≠ g4 := by have := I5.out.2.2.2.lt; omega
  have f0 := Blk.free (t := 29) (cs := z2) k4 0
  have f1 := Blk.free (t := 29) (cs := z2) k4 1
  have d0 := Blk.cell (t := 29) (cs := z2) k4 0 rfl
  have d1 := Blk.cell (t := 29) (cs := z2) k4 1 rfl
  have J4 := Lib.hid (And.intro ((I5.out.1.below hb6).put n4 (.int .i64 (-(B4 / 1000) - B6 / 1000000 - B7)) (.int .i64 (-(A4 / 1000) - A6 / 1000000 - A7))) (And.intro ((I5.out.2.2.2.below hb6 I5.out.2.2.2.lt).put2 n34 (.int .i64 (-(B4 / 1000) - B6 / 1000000 - B7)) (.int .i64 (-(A4 / 1000) - A6 / 1000000 - A7))) (Blk.lay2 (show Blk w6 g4 29 z2 from k4) (.int .i64 (-(B4 / 1000) - B6 / 1000000 - B7)) (.int .i64 (-(A4 / 1000) - A6 / 1000000 - A7)))))
  clear hb6 k4 ng4 I5
  go_wp2_with fail
  refine gen_world (fun W => InI w g (lmC m lo hi sl sh) W ∧ Blk W g3 29 (i2 (A2 / 1000000 - B3 / 1000) (B2 / 1000000 - A3 / 1000)) ∧ Blk W g4 29 (i2 (-(B4 / 1000) - B6 / 1000000 - B7) (-(A4 / 1000) - A6 / 1000000 - A7))) J4.out ?_
  clear J4 f0 f1 d0 d1
  rintro w5 i5
  have I5 := Lib.hid i5
  clear i5
  have x1 := I5.out.2.1
  have x2 := I5.out.2.2
  have ne1 : ¬ g3 = w.heap.size := by omega
  have ne2 : ¬ g3 = w.heap.size + 1 := by omega
  have ne3 : ¬ g4 = w.heap.size := by omega
  have ne4 : ¬ g4 = w.heap.size + 1 := by omega
  have ne5 : ¬ w.heap.size = g3 := by omega
  have ne6 : ¬ w.heap.size + 1 = g3 := by omega
  have ne7 : ¬ w.heap.size = g4 := by omega
  have ne8 : ¬ w.heap.size + 1 = g4 := by omega
  have zx1 := x1.lt
  have zx2 := x2.lt
  have e0 := x1.cell 0 rfl
  have e1 := x1.cell 1 rfl
  have r0 := x2.cell 0 rfl
  have r1 := x2.cell 1 rfl
  have f0 := I5.out.1.2.1.free 0
  have f1 := I5.out.1.2.1.free 1
  have f2 := I5.out.1.2.2.1.free 0
  have f3 := I5.out.1.2.2.1.free 1
  have y0 := I5.out.1.2.1.cell 0 rfl
  have y1 := I5.out.1.2.1.cell 1 rfl
  have y2 := I5.out.1.2.2.1.cell 0 rfl
  have y3 := I5.out.1.2.2.1.cell 1 rfl
  have zy := I5.out.1.2.2.1.lt
  clear x1 x2
  go_region
  all_goals
    go_wp2
    exact bodyPost_ret (v := .tuple #[.agg #[.int .i64 (A2 / 1000000 - B3 / 1000), .int .i64 (B2 / 1000000 - A3 / 1000)], .agg #[.int .i64 (-(B4 / 1000) - B6 / 1000000 - B7), .int .i64 (-(A4 / 1000) - A6 / 1000000 - A7)]]) (by simp [results, Try.results124, go_sem, y0, y1, y2, y3]) rfl ⟨rfl, below_put2 (below_put2 I5.out.1.2.2.2.1.drew (Nat.le_refl _) _ _) (by omega) _ _⟩
end Go.Proofs.Ytcneohhfnnelgaa
namespace Go.Proofs.Ytcneohhfnnelgaa
open Go.RowKit
set_option linter.unusedVariables false

set_option maxHeartbeats 4000000 in
set_option maxRecDepth 100000 in
theorem innersR_go (lo hi : Mot) (al ah d q : Int) {A1 B1 A2 B2 A3 B3 A4 B4 A5 B5 A6 B6 A7 B7 : Int} (eA1 : Dv.tmLo al ah lo.lq hi.lq = A1) (eB1 : Dv.tmHi al ah lo.lq hi.lq = B1) (bA1 : -137438953472 ≤ A1 ∧ A1 ≤ 137438953472) (bB1 : -137438953472 ≤ B1 ∧ B1 ≤ 137438953472) (p00 : -4611686018427387904 ≤ al * lo.lq ∧ al * lo.lq ≤ 4611686018427387904) (p01 : -4611686018427387904 ≤ al * hi.lq ∧ al * hi.lq ≤ 4611686018427387904) (p02 : -4611686018427387904 ≤ ah * lo.lq ∧ ah * lo.lq ≤ 4611686018427387904) (p03 : -4611686018427387904 ≤ ah * hi.lq ∧ ah * hi.lq ≤ 4611686018427387904) (eA2 : Dv.tmLo A1 B1 q q = A2) (eB2 : Dv.tmHi A1 B1 q q = B2) (bA2 : -144115188075855872 ≤ A2 ∧ A2 ≤ 144115188075855872) (bB2 : -144115188075855872 ≤ B2 ∧ B2 ≤ 144115188075855872) (p10 : -4611686018427387904 ≤ A1 * q ∧ A1 * q ≤ 4611686018427387904) (p11 : -4611686018427387904 ≤ B1 * q ∧ B1 * q ≤ 4611686018427387904) (eA3 : Dv.tmLo lo.r hi.r d d = A3) (eB3 : Dv.tmHi lo.r hi.r d d = B3) (bA3 : -1099511627776 ≤ A3 ∧ A3 ≤ 1099511627776) (bB3 : -1099511627776 ≤ B3 ∧ B3 ≤ 1099511627776) (p20 : -4611686018427387904 ≤ lo.r * d ∧ lo.r * d ≤ 4611686018427387904) (p21 : -4611686018427387904 ≤ hi.r * d ∧ hi.r * d ≤ 4611686018427387904) (eA4 : Dv.tmLo lo.r hi.r q q = A4) (eB4 : Dv.tmHi lo.r hi.r q q = B4) (bA4 : -1099511627776 ≤ A4 ∧ A4 ≤ 1099511627776) (bB4 : -1099511627776 ≤ B4 ∧ B4 ≤ 1099511627776) (p30 : -4611686018427387904 ≤ lo.r * q ∧ lo.r * q ≤ 4611686018427387904) (p31 : -4611686018427387904 ≤ hi.r * q ∧ hi.r * q ≤ 4611686018427387904) (eA5 : Dv.tmLo al ah lo.ld hi.ld = A5) (eB5 : Dv.tmHi al ah lo.ld hi.ld = B5) (bA5 : -137438953472 ≤ A5 ∧ A5 ≤ 137438953472) (bB5 : -137438953472 ≤ B5 ∧ B5 ≤ 137438953472) (p40 : -4611686018427387904 ≤ al * lo.ld ∧ al * lo.ld ≤ 4611686018427387904) (p41 : -4611686018427387904 ≤ al * hi.ld ∧ al * hi.ld ≤ 4611686018427387904) (p42 : -4611686018427387904 ≤ ah * lo.ld ∧ ah * lo.ld ≤ 4611686018427387904) (p43 : -4611686018427387904 ≤ ah * hi.ld ∧ ah * hi.ld ≤ 4611686018427387904) (eA6 : Dv.tmLo A5 B5 d d = A6) (eB6 : Dv.tmHi A5 B5 d d = B6) (bA6 : -144115188075855872 ≤ A6 ∧ A6 ≤ 144115188075855872) (bB6 : -144115188075855872 ≤ B6 ∧ B6 ≤ 144115188075855872) (p50 : -4611686018427387904 ≤ A5 * d ∧ A5 * d ≤ 4611686018427387904) (p51 : -4611686018427387904 ≤ B5 * d ∧ B5 * d ≤ 4611686018427387904) (eA7 : Dv.tmLo al ah lo.fx hi.fx = A7) (eB7 : Dv.tmHi al ah lo.fx hi.fx = B7) (bA7 : -137438953472 ≤ A7 ∧ A7 ≤ 137438953472) (bB7 : -137438953472 ≤ B7 ∧ B7 ≤ 137438953472) (p60 : -4611686018427387904 ≤ al * lo.fx ∧ al * lo.fx ≤ 4611686018427387904) (p61 : -4611686018427387904 ≤ al * hi.fx ∧ al * hi.fx ≤ 4611686018427387904) (p62 : -4611686018427387904 ≤ ah * lo.fx ∧ ah * lo.fx ≤ 4611686018427387904) (p63 : -4611686018427387904 ≤ ah * hi.fx ∧ ah * hi.fx ≤ 4611686018427387904) (w : World) (hlo : Dv.chk lo) (hhi : Dv.chk hi) (hd : -1048576 ≤ d ∧ d ≤ 1048576) (hq : -1048576 ≤ q ∧ q ≤ 1048576) :
    Calls Try.prog 126 #[.agg #[.int .i64 lo.r, .int .i64 lo.ld, .int .i64 lo.lq, .int .i64 lo.fx, .int .i64 lo.po, .int .i64 lo.mi, .int .i64 lo.sp, .int .i64 lo.dr, .int .i64 lo.cu, .int .i64 lo.fa], .agg #[.int .i64 hi.r, .int .i64 hi.ld, .int .i64 hi.lq, .int .i64 hi.fx, .int .i64 hi.po, .int .i64 hi.mi, .int .i64 hi.sp, .int .i64 hi.dr, .int .i64 hi.cu, .int .i64 hi.fa], .int .i64 d, .int .i64 q, .agg #[.int .i64 al, .int .i64 ah]] w fun e w' => e = .returned (.tuple #[.agg #[.int .i64 (A2 / 1000000 - B3 / 1000), .int .i64 (B2 / 1000000 - A3 / 1000)], .agg #[.int .i64 (-(B4 / 1000) - B6 / 1000000 - B7), .int .i64 (-(A4 / 1000) - A6 / 1000000 - A7)]]) ∧ Below w.heap.size w w' := by
  have K1 := Lib.hid (show ∀ (W : World), Calls Try.prog 132 #[.agg #[.int .i64 (al), .int .i64 (ah)], .agg #[.int .i64 (lo.lq), .int .i64 (hi.lq)]] W fun e w' => e = .returned (.agg #[.int .i64 A1, .int .i64 B1]) ∧ Below W.heap.size W w' from fun W => by rw [← eA1, ← eB1]; exact times_c al ah (lo.lq) (hi.lq) W p00 p01 p02 p03)
  have K2 := Lib.hid (show ∀ (W : World), Calls Try.prog 132 #[.agg #[.int .i64 (A1), .int .i64 (B1)], .agg #[.int .i64 (q), .int .i64 (q)]] W fun e w' => e = .returned (.agg #[.int .i64 A2, .int .i64 B2]) ∧ Below W.heap.size W w' from fun W => by rw [← eA2, ← eB2]; exact times_c A1 B1 q q W p10 p10 p11 p11)
  have K3 := Lib.hid (show ∀ (W : World), Calls Try.prog 132 #[.agg #[.int .i64 (lo.r), .int .i64 (hi.r)], .agg #[.int .i64 (d), .int .i64 (d)]] W fun e w' => e = .returned (.agg #[.int .i64 A3, .int .i64 B3]) ∧ Below W.heap.size W w' from fun W => by rw [← eA3, ← eB3]; exact times_c lo.r hi.r d d W p20 p20 p21 p21)
  have K4 := Lib.hid (show ∀ (W : World), Calls Try.prog 132 #[.agg #[.int .i64 (lo.r), .int .i64 (hi.r)], .agg #[.int .i64 (q), .int .i64 (q)]] W fun e w' => e = .returned (.agg #[.int .i64 A4, .int .i64 B4]) ∧ Below W.heap.size W w' from fun W => by rw [← eA4, ← eB4]; exact times_c lo.r hi.r q q W p30 p30 p31 p31)
  have K5 := Lib.hid (show ∀ (W : World), Calls Try.prog 132 #[.agg #[.int .i64 (al), .int .i64 (ah)], .agg #[.int .i64 (lo.ld), .int .i64 (hi.ld)]] W fun e w' => e = .returned (.agg #[.int .i64 A5, .int .i64 B5]) ∧ Below W.heap.size W w' from fun W => by rw [← eA5, ← eB5]; exact times_c al ah (lo.ld) (hi.ld) W p40 p41 p42 p43)
  have K6 := Lib.hid (show ∀ (W : World), Calls Try.prog 132 #[.agg #[.int .i64 (A5), .int .i64 (B5)], .agg #[.int .i64 (d), .int .i64 (d)]] W fun e w' => e = .returned (.agg #[.int .i64 A6, .int .i64 B6]) ∧ Below W.heap.size W w' from fun W => by rw [← eA6, ← eB6]; exact times_c A5 B5 d d W p50 p50 p51 p51)
  have K7 := Lib.hid (show ∀ (W : World), Calls Try.prog 132 #[.agg #[.int .i64 (al), .int .i64 (ah)], .agg #[.int .i64 (lo.fx), .int .i64 (hi.fx)]] W fun e w' => e = .returned (.agg #[.int .i64 A7, .int .i64 B7]) ∧ Below W.heap.size W w' from fun W => by rw [← eA7, ← eB7]; exact times_c al ah (lo.fx) (hi.fx) W p60 p61 p62 p63)
  clear eA1 eB1 eA2 eB2 eA3 eB3 eA4 eB4 eA5 eB5 eA6 eB6 eA7 eB7 p00 p01 p02 p03 p10 p11 p20 p21 p30 p31 p40 p41 p42 p43 p50 p51 p60 p61 p62 p63
  have E1 := Lib.hid (show -(B3 / 1000) + A2 / 1000000 = A2 / 1000000 - B3 / 1000 by omega)
  have E2 := Lib.hid (show -(A3 / 1000) + B2 / 1000000 = B2 / 1000000 - A3 / 1000 by omega)
  have S0 := Lib.hid (show St w [(w.heap.size + 1 + 1 + 1 + 1, 29, [.int .i64 0, .int .i64 0]), (w.heap.size + 1 + 1 + 1, 29, [.int .i64 0, .int .i64 0]), (w.heap.size + 1 + 1, 29, [.int .i64 al, .int .i64 ah]), (w.heap.size + 1, 52, [.int .i64 hi.r, .int .i64 hi.ld, .int .i64 hi.lq, .int .i64 hi.fx, .int .i64 hi.po, .int .i64 hi.mi, .int .i64 hi.sp, .int .i64 hi.dr, .int .i64 hi.cu, .int .i64 hi.fa]), (w.heap.size, 52, [.int .i64 lo.r, .int .i64 lo.ld, .int .i64 lo.lq, .int .i64 lo.fx, .int .i64 lo.po, .int .i64 lo.mi, .int .i64 lo.sp, .int .i64 lo.dr, .int .i64 lo.cu, .int .i64 lo.fa])] (((((w.alloc (.cells #[.int .i64 lo.r, .int .i64 lo.ld, .int .i64 lo.lq, .int .i64 lo.fx, .int .i64 lo.po, .int .i64 lo.mi, .int .i64 lo.sp, .int .i64 lo.dr, .int .i64 lo.cu, .int .i64 lo.fa] 52)).alloc (.cells #[.int .i64 hi.r, .int .i64 hi.ld, .int .i64 hi.lq, .int .i64 hi.fx, .int .i64 hi.po, .int .i64 hi.mi, .int .i64 hi.sp, .int .i64 hi.dr, .int .i64 hi.cu, .int .i64 hi.fa] 52)).alloc (.cells #[.int .i64 al, .int .i64 ah] 29)).alloc (.cells #[.int .i64 0, .int .i64 0] 29)).alloc (.cells #[.int .i64 0, .int .i64 0] 29)) from by
    have := (((((St.start w).alloc [.int .i64 lo.r, .int .i64 lo.ld, .int .i64 lo.lq, .int .i64 lo.fx, .int .i64 lo.po, .int .i64 lo.mi, .int .i64 lo.sp, .int .i64 lo.dr, .int .i64 lo.cu, .int .i64 lo.fa] 52).alloc [.int .i64 hi.r, .int .i64 hi.ld, .int .i64 hi.lq, .int .i64 hi.fx, .int .i64 hi.po, .int .i64 hi.mi, .int .i64 hi.sp, .int .i64 hi.dr, .int .i64 hi.cu, .int .i64 hi.fa] 52).alloc [.int .i64 al, .int .i64 ah] 29).alloc [.int .i64 0, .int .i64 0] 29).alloc [.int .i64 0, .int .i64 0] 29
    simp at this
    exact this)
  unfold Dv.chk at hlo hhi
  go_enter Try.func126, Try.ntmps126
  go_upto_region 1 with (fail)
  refine gen_world (fun W => St w [(w.heap.size + 1 + 1 + 1 + 1, 29, [.int .i64 0, .int .i64 0]), (w.heap.size + 1 + 1 + 1, 29, [.int .i64 0, .int .i64 0]), (w.heap.size + 1 + 1, 29, [.int .i64 al, .int .i64 ah]), (w.heap.size + 1, 52, [.int .i64 hi.r, .int .i64 hi.ld, .int .i64 hi.lq, .int .i64 hi.fx, .int .i64 hi.po, .int .i64 hi.mi, .int .i64 hi.sp, .int .i64 hi.dr, .int .i64 hi.cu, .int .i64 hi.fa]), (w.heap.size, 52, [.int .i64 lo.r, .int .i64 lo.ld, .int .i64 lo.lq, .int .i64 lo.fx, .int .i64 lo.po, .int .i64 lo.mi, .int .i64 lo.sp, .int .i64 lo.dr, .int .i64 lo.cu, .int .i64 lo.fa])] W) (S0.out) ?_
  clear S0
  rintro w2 i_
  have I1 := Lib.hid i_
  clear i_
  have z_lo := (I1.out.get 4 rfl).lt
  have c_lo0 := (I1.out.get 4 rfl).cell 0 rfl
  have z_hi := (I1.out.get 3 rfl).lt
  have c_hi0 := (I1.out.get 3 rfl).cell 0 rfl
  go_upto_region 2 with (fail)
  have gz_r := I1.out.1.size
  refine gen_world (fun W => St w [(w2.heap.size, 29, [.int .i64 lo.r, .int .i64 hi.r]), (w.heap.size + 1 + 1 + 1 + 1, 29, [.int .i64 0, .int .i64 0]), (w.heap.size + 1 + 1 + 1, 29, [.int .i64 0, .int .i64 0]), (w.heap.size + 1 + 1, 29, [.int .i64 al, .int .i64 ah]), (w.heap.size + 1, 52, [.int .i64 hi.r, .int .i64 hi.ld, .int .i64 hi.lq, .int .i64 hi.fx, .int .i64 hi.po, .int .i64 hi.mi, .int .i64 hi.sp, .int .i64 hi.dr, .int .i64 hi.cu, .int .i64 hi.fa]), (w.heap.size, 52, [.int .i64 lo.r, .int .i64 lo.ld, .int .i64 lo.lq, .int .i64 lo.fx, .int .i64 lo.po, .int .i64 lo.mi, .int .i64 lo.sp, .int .i64 lo.dr, .int .i64 lo.cu, .int .i64 lo.fa])] W) (I1.out.alloc [.int .i64 lo.r, .int .i64 hi.r] 29) ?_
  clear I1 z_lo c_lo0 z_hi c_hi0
  rintro w4 i_
  have I3 := Lib.hid i_
  clear i_
  generalize w2.heap.size = g_r at gz_r I3 ⊢
  refine wp_region_priv 10 [.q, .q, .q, .q, .q, .q, .q, .q, .p, .p] (fun _ => (.cells #[.int .i64 0, .int .i64 0] 29, fun b => .pointer (some ⟨b, 0, none⟩))) ?afr5 (by kernel_rfl) (by kernel_rfl) ?walkr5 ?tailr5
  case walkr5 =>
    intro V hV
    have IV := Lib.hid (I3.out.below hV)
    have z_r := (IV.out.get 0 rfl).lt
    have c_r0 := (IV.out.get 0 rfl).cell 0 rfl
    have c_r1 := (IV.out.get 0 rfl).cell 1 rfl
    simp only [List.take_succ_cons, List.take_zero]
    repeat (refine wpP_q ?_; go_big_quiet_step (first | (go_at_call 133; with_reducible exact past_below (point_c _ _)) | (go_at_call 132; with_reducible exact past_below (K3.out _)) | (go_at_call 132; with_reducible exact past_below (K4.out _))); refine wpQuiet_nil ?_)
    refine wpP_p (by kernel_rfl) (fun _ => by kernel_rfl) ?_
    (try simp only [Act.put, List.setIfInBounds_toArray, List.set_cons_zero, List.set_cons_succ])
    refine wpP_p (by kernel_rfl) (fun _ => by kernel_rfl) ?_
    (try simp only [Act.put, List.setIfInBounds_toArray, List.set_cons_zero, List.set_cons_succ])
    refine wpP_nil ?_
    rfl
  case tailr5 =>
  intro gs w6 hb7 hP hD
  obtain ⟨hg_rd, k_rd⟩ := hP 8 rfl
  obtain ⟨hg_rq, k_rq⟩ := hP 9 rfl
  have hne := hD 8 9 rfl rfl (by decide)
  simp only [List.take_succ_cons, List.take_zero, fillP]
  (try simp only [Act.put, List.setIfInBounds_toArray, List.set_cons_zero, List.set_cons_succ])
  generalize gs 8 = g_rd at hg_rd k_rd hne ⊢
  generalize gs 9 = g_rq at hg_rq k_rq hne ⊢
  clear hP hD
  have k2_rd : Blk w6 g_rd 29 [.int .i64 0, .int .i64 0] := k_rd
  have gz_rd : w.heap.size ≤ g_rd := Nat.le_trans I3.out.1.size hg_rd
  have f_rd0 := k2_rd.free 0
  have d_rd0 := k2_rd.cell 0 rfl
  have f_rd1 := k2_rd.free 1
  have d_rd1 := k2_rd.cell 1 rfl
  have k2_rq : Blk w6 g_rq 29 [.int .i64 0, .int .i64 0] := k_rq
  have gz_rq : w.heap.size ≤ g_rq := Nat.le_trans I3.out.1.size hg_rq
  have f_rq0 := k2_rq.free 0
  have d_rq0 := k2_rq.cell 0 rfl
  have f_rq1 := k2_rq.free 1
  have d_rq1 := k2_rq.cell 1 rfl
  have J8 := Lib.hid (I3.out.lay2 hb7 hg_rd hg_rq hne k2_rd k2_rq [.int .i64 A3, .int .i64 B3] [.int .i64 A4, .int .i64 B4] rfl rfl)
  have hn1 : ¬ g_rd = g_rq := hne
  have hn2 : ¬ g_rq = g_rd := fun e => hne e.symm
  clear hb7 I3 hg_rd k_rd k2_rd hg_rq k_rq k2_rq hne
  simp only [List.drop_succ_cons, List.drop_zero]
  go_upto_region 3 with (fail)
  refine gen_world (fun W => St w [(g_rq, 29, [.int .i64 A4, .int .i64 B4]), (g_rd, 29, [.int .i64 A3, .int .i64 B3]), (g_r, 29, [.int .i64 lo.r, .int .i64 hi.r]), (w.heap.size + 1 + 1 + 1 + 1, 29, [.int .i64 0, .int .i64 0]), (w.heap.size + 1 + 1 + 1, 29, [.int .i64 0, .int .i64 0]), (w.heap.size + 1 + 1, 29, [.int .i64 al, .int .i64 ah]), (w.heap.size + 1, 52, [.int .i64 hi.r, .int .i64 hi.ld, .int .i64 hi.lq, .int .i64 hi.fx, .int .i64 hi.po, .int .i64 hi.mi, .int .i64 hi.sp, .int .i64 hi.dr, .int .i64 hi.cu, .int .i64 hi.fa]), (w.heap.size, 52, [.int .i64 lo.r, .int .i64 lo.ld, .int .i64 lo.lq, .int .i64 lo.fx, .int .i64 lo.po, .int .i64 lo.mi, .int .i64 lo.sp, .int .i64 lo.dr, .int .i64 lo.cu, .int .i64 lo.fa])] W) (J8.out) ?_
  clear J8 f_rd0 d_rd0 f_rd1 d_rd1 f_rq0 d_rq0 f_rq1 d_rq1 hn1 hn2
  rintro w10 i_
  have I9 := Lib.hid i_
  clear i_
  have z_at := (I9.out.get 5 rfl).lt
  have c_at0 := (I9.out.get 5 rfl).cell 0 rfl
  have c_at1 := (I9.out.get 5 rfl).cell 1 rfl
  have z_lo := (I9.out.get 7 rfl).lt
  have c_lo2 := (I9.out.get 7 rfl).cell 2 rfl
  have z_hi := (I9.out.get 6 rfl).lt
  have c_hi2 := (I9.out.get 6 rfl).cell 2 rfl
  go_wp2_with fail
  refine (K1.out _).mono ?_
  rintro e w11 ⟨rfl, hb12⟩
  have I13 := Lib.hid (I9.out.below hb12)
  clear hb12 I9 z_at c_at0 c_at1 z_lo c_lo2 z_hi c_hi2
  go_wp2_with fail
  refine (point_c q _).mono ?_
  rintro e w14 ⟨rfl, hb15⟩
  have I16 := Lib.hid (I13.out.below hb15)
  clear hb15 I13
  go_wp2_with fail
  refine (K2.out _).mono ?_
  rintro e w17 ⟨rfl, hb18⟩
  have I19 := Lib.hid (I16.out.below hb18)
  clear hb18 I16
  go_upto_region 4 with (fail)
  have gz_wq := I19.out.1.size
  refine gen_world (fun W => St w [(w17.heap.size, 29, [.int .i64 A2, .int .i64 B2]), (g_rq, 29, [.int .i64 A4, .int .i64 B4]), (g_rd, 29, [.int .i64 A3, .int .i64 B3]), (g_r, 29, [.int .i64 lo.r, .int .i64 hi.r]), (w.heap.size + 1 + 1 + 1 + 1, 29, [.int .i64 0, .int .i64 0]), (w.heap.size + 1 + 1 + 1, 29, [.int .i64 0, .int .i64 0]), (w.heap.size + 1 + 1, 29, [.int .i64 al, .int .i64 ah]), (w.heap.size + 1, 52, [.int .i64 hi.r, .int .i64 hi.ld, .int .i64 hi.lq, .int .i64 hi.fx, .int .i64 hi.po, .int .i64 hi.mi, .int .i64 hi.sp, .int .i64 hi.dr, .int .i64 hi.cu, .int .i64 hi.fa]), (w.heap.size, 52, [.int .i64 lo.r, .int .i64 lo.ld, .int .i64 lo.lq, .int .i64 lo.fx, .int .i64 lo.po, .int .i64 lo.mi, .int .i64 lo.sp, .int .i64 lo.dr, .int .i64 lo.cu, .int .i64 lo.fa])] W) (I19.out.alloc [.int .i64 A2, .int .i64 B2] 29) ?_
  clear I19
  rintro w21 i_
  have I20 := Lib.hid i_
  clear i_
  generalize w17.heap.size = g_wq at gz_wq I20 ⊢
  have z_at := (I20.out.get 6 rfl).lt
  have c_at0 := (I20.out.get 6 rfl).cell 0 rfl
  have c_at1 := (I20.out.get 6 rfl).cell 1 rfl
  have z_lo := (I20.out.get 8 rfl).lt
  have c_lo1 := (I20.out.get 8 rfl).cell 1 rfl
  have z_hi := (I20.out.get 7 rfl).lt
  have c_hi1 := (I20.out.get 7 rfl).cell 1 rfl
  go_wp2_with fail
  refine (K5.out _).mono ?_
  rintro e w22 ⟨rfl, hb23⟩
  have I24 := Lib.hid (I20.out.below hb23)
  clear hb23 I20 z_at c_at0 c_at1 z_lo c_lo1 z_hi c_hi1
  go_wp2_with fail
  refine (point_c d _).mono ?_
  rintro e w25 ⟨rfl, hb26⟩
  have I27 := Lib.hid (I24.out.below hb26)
  clear hb26 I24
  go_wp2_with fail
  refine (K6.out _).mono ?_
  rintro e w28 ⟨rfl, hb29⟩
  have I30 := Lib.hid (I27.out.below hb29)
  clear hb29 I27
  go_upto_region 5 with (fail)
  have gz_wd := I30.out.1.size
  refine gen_world (fun W => St w [(w28.heap.size, 29, [.int .i64 A6, .int .i64 B6]), (g_wq, 29, [.int .i64 A2, .int .i64 B2]), (g_rq, 29, [.int .i64 A4, .int .i64 B4]), (g_rd, 29, [.int .i64 A3, .int .i64 B3]), (g_r, 29, [.int .i64 lo.r, .int .i64 hi.r]), (w.heap.size + 1 + 1 + 1 + 1, 29, [.int .i64 0, .int .i64 0]), (w.heap.size + 1 + 1 + 1, 29, [.int .i64 0, .int .i64 0]), (w.heap.size + 1 + 1, 29, [.int .i64 al, .int .i64 ah]), (w.heap.size + 1, 52, [.int .i64 hi.r, .int .i64 hi.ld, .int .i64 hi.lq, .int .i64 hi.fx, .int .i64 hi.po, .int .i64 hi.mi, .int .i64 hi.sp, .int .i64 hi.dr, .int .i64 hi.cu, .int .i64 hi.fa]), (w.heap.size, 52, [.int .i64 lo.r, .int .i64 lo.ld, .int .i64 lo.lq, .int .i64 lo.fx, .int .i64 lo.po, .int .i64 lo.mi, .int .i64 lo.sp, .int .i64 lo.dr, .int .i64 lo.cu, .int .i64 lo.fa])] W) (I30.out.alloc [.int .i64 A6, .int .i64 B6] 29) ?_
  clear I30
  rintro w32 i_
  have I31 := Lib.hid i_
  clear i_
  generalize w28.heap.size = g_wd at gz_wd I31 ⊢
  have z_at := (I31.out.get 7 rfl).lt
  have c_at0 := (I31.out.get 7 rfl).cell 0 rfl
  have c_at1 := (I31.out.get 7 rfl).cell 1 rfl
  have z_lo := (I31.out.get 9 rfl).lt
  have c_lo3 := (I31.out.get 9 rfl).cell 3 rfl
  have z_hi := (I31.out.get 8 rfl).lt
  have c_hi3 := (I31.out.get 8 rfl).cell 3 rfl
  go_wp2_with fail
  refine (K7.out _).mono ?_
  rintro e w33 ⟨rfl, hb34⟩
  have I35 := Lib.hid (I31.out.below hb34)
  clear hb34 I31 z_at c_at0 c_at1 z_lo c_lo3 z_hi c_hi3
  go_upto_region 6 with (fail)
  have gz_f := I35.out.1.size
  refine gen_world (fun W => St w [(w33.heap.size, 29, [.int .i64 A7, .int .i64 B7]), (g_wd, 29, [.int .i64 A6, .int .i64 B6]), (g_wq, 29, [.int .i64 A2, .int .i64 B2]), (g_rq, 29, [.int .i64 A4, .int .i64 B4]), (g_rd, 29, [.int .i64 A3, .int .i64 B3]), (g_r, 29, [.int .i64 lo.r, .int .i64 hi.r]), (w.heap.size + 1 + 1 + 1 + 1, 29, [.int .i64 0, .int .i64 0]), (w.heap.size + 1 + 1 + 1, 29, [.int .i64 0, .int .i64 0]), (w.heap.size + 1 + 1, 29, [.int .i64 al, .int .i64 ah]), (w.heap.size + 1, 52, [.int .i64 hi.r, .int .i64 hi.ld, .int .i64 hi.lq, .int .i64 hi.fx, .int .i64 hi.po, .int .i64 hi.mi, .int .i64 hi.sp, .int .i64 hi.dr, .int .i64 hi.cu, .int .i64 hi.fa]), (w.heap.size, 52, [.int .i64 lo.r, .int .i64 lo.ld, .int .i64 lo.lq, .int .i64 lo.fx, .int .i64 lo.po, .int .i64 lo.mi, .int .i64 lo.sp, .int .i64 lo.dr, .int .i64 lo.cu, .int .i64 lo.fa])] W) (I35.out.alloc [.int .i64 A7, .int .i64 B7] 29) ?_
  clear I35
  rintro w37 i_
  have I36 := Lib.hid i_
  clear i_
  generalize w33.heap.size = g_f at gz_f I36 ⊢
  refine wp_region_priv 18 [.q, .q, .q, .q, .q, .q, .q, .q, .q, .q, .q, .q, .q, .q, .q, .q, .q, .p] (fun _ => (.cells #[.int .i64 0, .int .i64 0] 29, fun b => .pointer (some ⟨b, 0, none⟩))) ?afr38 (by kernel_rfl) (by kernel_rfl) ?walkr38 ?tailr38
  case walkr38 =>
    intro V hV
    have IV := Lib.hid (I36.out.below hV)
    have z_rd := (IV.out.get 4 rfl).lt
    have c_rd0 := (IV.out.get 4 rfl).cell 0 rfl
    have c_rd1 := (IV.out.get 4 rfl).cell 1 rfl
    have z_wq := (IV.out.get 2 rfl).lt
    have c_wq0 := (IV.out.get 2 rfl).cell 0 rfl
    have c_wq1 := (IV.out.get 2 rfl).cell 1 rfl
    simp only [List.take_succ_cons, List.take_zero]
    repeat (refine wpP_q ?_; go_big_quiet_step (first | (go_at_call 85; exact past_same (floor_c _ _ _ (by omega) (by omega) (by omega)))); refine wpQuiet_nil ?_)
    refine wpP_p (by kernel_rfl) (fun _ => by kernel_rfl) ?_
    (try simp only [Act.put, List.setIfInBounds_toArray, List.set_cons_zero, List.set_cons_succ])
    refine wpP_nil ?_
    rfl
  case tailr38 =>
  intro gs w39 hb40 hP hD
  obtain ⟨hg_bd, k_bd⟩ := hP 17 rfl
  simp only [List.take_succ_cons, List.take_zero, fillP]
  (try simp only [Act.put, List.setIfInBounds_toArray, List.set_cons_zero, List.set_cons_succ])
  generalize gs 17 = g_bd at hg_bd k_bd ⊢
  clear hP hD
  have k2_bd : Blk w39 g_bd 29 [.int .i64 0, .int .i64 0] := k_bd
  have gz_bd : w.heap.size ≤ g_bd := Nat.le_trans I36.out.1.size hg_bd
  have f_bd0 := k2_bd.free 0
  have d_bd0 := k2_bd.cell 0 rfl
  have f_bd1 := k2_bd.free 1
  have d_bd1 := k2_bd.cell 1 rfl
  have J41 := Lib.hid (I36.out.lay hb40 hg_bd k2_bd [.int .i64 (-(B3 / 1000) + A2 / 1000000), .int .i64 (-(A3 / 1000) + B2 / 1000000)] rfl)
  clear hb40 I36 hg_bd k_bd k2_bd
  simp only [List.drop_succ_cons, List.drop_zero]
  go_upto_region 7 with (fail)
  refine gen_world (fun W => St w [(g_bd, 29, [.int .i64 (A2 / 1000000 - B3 / 1000), .int .i64 (B2 / 1000000 - A3 / 1000)]), (g_f, 29, [.int .i64 A7, .int .i64 B7]), (g_wd, 29, [.int .i64 A6, .int .i64 B6]), (g_wq, 29, [.int .i64 A2, .int .i64 B2]), (g_rq, 29, [.int .i64 A4, .int .i64 B4]), (g_rd, 29, [.int .i64 A3, .int .i64 B3]), (g_r, 29, [.int .i64 lo.r, .int .i64 hi.r]), (w.heap.size + 1 + 1 + 1 + 1, 29, [.int .i64 0, .int .i64 0]), (w.heap.size + 1 + 1 + 1, 29, [.int .i64 0, .int .i64 0]), (w.heap.size + 1 + 1, 29, [.int .i64 al, .int .i64 ah]), (w.heap.size + 1, 52, [.int .i64 hi.r, .int .i64 hi.ld, .int .i64 hi.lq, .int .i64 hi.fx, .int .i64 hi.po, .int .i64 hi.mi, .int .i64 hi.sp, .int .i64 hi.dr, .int .i64 hi.cu, .int .i64 hi.fa]), (w.heap.size, 52, [.int .i64 lo.r, .int .i64 lo.ld, .int .i64 lo.lq, .int .i64 lo.fx, .int .i64 lo.po, .int .i64 lo.mi, .int .i64 lo.sp, .int .i64 lo.dr, .int .i64 lo.cu, .int .i64 lo.fa])] W) (by rw [← E1.out, ← E2.out]; exact J41.out) ?_
  clear J41 f_bd0 d_bd0 f_bd1 d_bd1
  rintro w43 i_
  have I42 := Lib.hid i_
  clear i_
  refine wp_region_priv 24 [.q, .q, .q, .q, .q, .q, .q, .q, .q, .q, .q, .q, .q, .q, .q, .q, .q, .q, .q, .q, .q, .q, .q, .p] (fun _ => (.cells #[.int .i64 0, .int .i64 0] 29, fun b => .pointer (some ⟨b, 0, none⟩))) ?afr44 (by kernel_rfl) (by kernel_rfl) ?walkr44 ?tailr44
  case walkr44 =>
    intro V hV
    have IV := Lib.hid (I42.out.below hV)
    have z_rq := (IV.out.get 4 rfl).lt
    have c_rq0 := (IV.out.get 4 rfl).cell 0 rfl
    have c_rq1 := (IV.out.get 4 rfl).cell 1 rfl
    have z_wd := (IV.out.get 2 rfl).lt
    have c_wd0 := (IV.out.get 2 rfl).cell 0 rfl
    have c_wd1 := (IV.out.get 2 rfl).cell 1 rfl
    have z_f := (IV.out.get 1 rfl).lt
    have c_f0 := (IV.out.get 1 rfl).cell 0 rfl
    have c_f1 := (IV.out.get 1 rfl).cell 1 rfl
    simp only [List.take_succ_cons, List.take_zero]
    repeat (refine wpP_q ?_; go_big_quiet_step (first | (go_at_call 85; exact past_same (floor_c _ _ _ (by omega) (by omega) (by omega)))); refine wpQuiet_nil ?_)
    refine wpP_p (by kernel_rfl) (fun _ => by kernel_rfl) ?_
    (try simp only [Act.put, List.setIfInBounds_toArray, List.set_cons_zero, List.set_cons_succ])
    refine wpP_nil ?_
    rfl
  case tailr44 =>
  intro gs w45 hb46 hP hD
  obtain ⟨hg_bq, k_bq⟩ := hP 23 rfl
  simp only [List.take_succ_cons, List.take_zero, fillP]
  (try simp only [Act.put, List.setIfInBounds_toArray, List.set_cons_zero, List.set_cons_succ])
  generalize gs 23 = g_bq at hg_bq k_bq ⊢
  clear hP hD
  have k2_bq : Blk w45 g_bq 29 [.int .i64 0, .int .i64 0] := k_bq
  have gz_bq : w.heap.size ≤ g_bq := Nat.le_trans I42.out.1.size hg_bq
  have f_bq0 := k2_bq.free 0
  have d_bq0 := k2_bq.cell 0 rfl
  have f_bq1 := k2_bq.free 1
  have d_bq1 := k2_bq.cell 1 rfl
  have J47 := Lib.hid (I42.out.lay hb46 hg_bq k2_bq [.int .i64 (-(B4 / 1000) - B6 / 1000000 - B7), .int .i64 (-(A4 / 1000) - A6 / 1000000 - A7)] rfl)
  clear hb46 I42 hg_bq k_bq k2_bq
  simp only [List.drop_succ_cons, List.drop_zero]
  go_upto_region 8 with (fail)
  refine gen_world (fun W => St w [(g_bq, 29, [.int .i64 (-(B4 / 1000) - B6 / 1000000 - B7), .int .i64 (-(A4 / 1000) - A6 / 1000000 - A7)]), (g_bd, 29, [.int .i64 (A2 / 1000000 - B3 / 1000), .int .i64 (B2 / 1000000 - A3 / 1000)]), (g_f, 29, [.int .i64 A7, .int .i64 B7]), (g_wd, 29, [.int .i64 A6, .int .i64 B6]), (g_wq, 29, [.int .i64 A2, .int .i64 B2]), (g_rq, 29, [.int .i64 A4, .int .i64 B4]), (g_rd, 29, [.int .i64 A3, .int .i64 B3]), (g_r, 29, [.int .i64 lo.r, .int .i64 hi.r]), (w.heap.size + 1 + 1 + 1 + 1, 29, [.int .i64 0, .int .i64 0]), (w.heap.size + 1 + 1 + 1, 29, [.int .i64 0, .int .i64 0]), (w.heap.size + 1 + 1, 29, [.int .i64 al, .int .i64 ah]), (w.heap.size + 1, 52, [.int .i64 hi.r, .int .i64 hi.ld, .int .i64 hi.lq, .int .i64 hi.fx, .int .i64 hi.po, .int .i64 hi.mi, .int .i64 hi.sp, .int .i64 hi.dr, .int .i64 hi.cu, .int .i64 hi.fa]), (w.heap.size, 52, [.int .i64 lo.r, .int .i64 lo.ld, .int .i64 lo.lq, .int .i64 lo.fx, .int .i64 lo.po, .int .i64 lo.mi, .int .i64 lo.sp, .int .i64 lo.dr, .int .i64 lo.cu, .int .i64 lo.fa])] W) (J47.out) ?_
  clear J47 f_bq0 d_bq0 f_bq1 d_bq1
  rintro w49 i_
  have I48 := Lib.hid i_
  clear i_
  have z_bd := (I48.out.get 1 rfl).lt
  have c_bd0 := (I48.out.get 1 rfl).cell 0 rfl
  have c_bd1 := (I48.out.get 1 rfl).cell 1 rfl
  have z_bq := (I48.out.get 0 rfl).lt
  have c_bq0 := (I48.out.get 0 rfl).cell 0 rfl
  have c_bq1 := (I48.out.get 0 rfl).cell 1 rfl
  have z_r0 := (I48.out.get 9 rfl).lt
  have c_r00 := (I48.out.get 9 rfl).cell 0 rfl
  have c_r01 := (I48.out.get 9 rfl).cell 1 rfl
  have z_r1 := (I48.out.get 8 rfl).lt
  have c_r10 := (I48.out.get 8 rfl).cell 0 rfl
  have c_r11 := (I48.out.get 8 rfl).cell 1 rfl
  have f_r00 := (I48.out.get 9 rfl).free 0
  have f_r01 := (I48.out.get 9 rfl).free 1
  have f_r10 := (I48.out.get 8 rfl).free 0
  have f_r11 := (I48.out.get 8 rfl).free 1
  have n_bd_r0 := I48.out.ne 1 9 rfl rfl (by decide)
  have n_r0_bd := I48.out.ne 9 1 rfl rfl (by decide)
  have n_bd_r1 := I48.out.ne 1 8 rfl rfl (by decide)
  have n_r1_bd := I48.out.ne 8 1 rfl rfl (by decide)
  have n_bq_r0 := I48.out.ne 0 9 rfl rfl (by decide)
  have n_r0_bq := I48.out.ne 9 0 rfl rfl (by decide)
  have n_bq_r1 := I48.out.ne 0 8 rfl rfl (by decide)
  have n_r1_bq := I48.out.ne 8 0 rfl rfl (by decide)
  have n_r0_r1 := I48.out.ne 9 8 rfl rfl (by decide)
  have n_r1_r0 := I48.out.ne 8 9 rfl rfl (by decide)
  go_region
  all_goals
    go_wp2
    exact bodyPost_ret (v := .tuple #[.agg #[.int .i64 (A2 / 1000000 - B3 / 1000), .int .i64 (B2 / 1000000 - A3 / 1000)], .agg #[.int .i64 (-(B4 / 1000) - B6 / 1000000 - B7), .int .i64 (-(A4 / 1000) - A6 / 1000000 - A7)]]) (by simp [results, Try.results126, go_sem, c_r00, c_r01, c_r10, c_r11]) rfl ⟨rfl, below_put2 (below_put2 I48.out.1.drew (by omega) _ _) (by omega) _ _⟩
end Go.Proofs.Ytcneohhfnnelgaa
namespace Go.Proofs.Ytcneohhfnnelgaa
open Go.RowKit
set_option linter.unusedVariables false
namespace Dv
def bdLo (lo hi : Mot) (d q al ah : Int) : Int := tmLo (tmLo al ah lo.lq hi.lq) (tmHi al ah lo.lq hi.lq) q q / 1000000 - tmHi lo.r hi.r d d / 1000
def bdHi (lo hi : Mot) (d q al ah : Int) : Int := tmHi (tmLo al ah lo.lq hi.lq) (tmHi al ah lo.lq hi.lq) q q / 1000000 - tmLo lo.r hi.r d d / 1000
def bqLo (lo hi : Mot) (d q al ah : Int) : Int := -(tmHi lo.r hi.r q q / 1000) - tmHi (tmLo al ah lo.ld hi.ld) (tmHi al ah lo.ld hi.ld) d d / 1000000 - tmHi al ah lo.fx hi.fx
def bqHi (lo hi : Mot) (d q al ah : Int) : Int := -(tmLo lo.r hi.r q q / 1000) - tmLo (tmLo al ah lo.ld hi.ld) (tmHi al ah lo.ld hi.ld) d d / 1000000 - tmLo al ah lo.fx hi.fx
theorem tm_bd {a b c d : Int} (A B C : Int) (ha : -A ≤ a ∧ a ≤ A) (hb : -A ≤ b ∧ b ≤ A) (hc : -B ≤ c ∧ c ≤ B) (hd : -B ≤ d ∧ d ≤ B) (hC : A * B = C) :
    ((-C ≤ a * c ∧ a * c ≤ C) ∧ (-C ≤ a * d ∧ a * d ≤ C) ∧ (-C ≤ b * c ∧ b * c ≤ C) ∧ (-C ≤ b * d ∧ b * d ≤ C)) ∧ (-C ≤ tmLo a b c d ∧ tmLo a b c d ≤ C) ∧ (-C ≤ tmHi a b c d ∧ tmHi a b c d ≤ C) := by
  have h1 := mul_bd A B ha hc
  have h2 := mul_bd A B ha hd
  have h3 := mul_bd A B hb hc
  have h4 := mul_bd A B hb hd
  rw [hC] at h1 h2 h3 h4
  refine ⟨⟨h1, h2, h3, h4⟩, ?_, ?_⟩
  · unfold tmLo mn4; omega
  · unfold tmHi mx4; omega
/-- the bounds of all products of inners -/
theorem inn_bd (lo hi : Mot) (d q al ah : Int) (hlo : chk lo) (hhi : chk hi) (hd : -1048576 ≤ d ∧ d ≤ 1048576) (hq : -1048576 ≤ q ∧ q ≤ 1048576) (hal : -32768 ≤ al ∧ al ≤ 32768) (hah : -32768 ≤ ah ∧ ah ≤ 32768) :
    (-1152921504606846976 ≤ bdLo lo hi d q al ah ∧ bdLo lo hi d q al ah ≤ 1152921504606846976) ∧ (-1152921504606846976 ≤ bdHi lo hi d q al ah ∧ bdHi lo hi d q al ah ≤ 1152921504606846976) ∧ (-1152921504606846976 ≤ bqLo lo hi d q al ah ∧ bqLo lo hi d q al ah ≤ 1152921504606846976) ∧ (-1152921504606846976 ≤ bqHi lo hi d q al ah ∧ bqHi lo hi d q al ah ≤ 1152921504606846976) := by
  obtain ⟨⟨r1, r2⟩, ⟨d1, d2⟩, ⟨q1, q2⟩, ⟨f1, f2⟩, _⟩ := hlo
  obtain ⟨⟨r3, r4⟩, ⟨d3, d4⟩, ⟨q3, q4⟩, ⟨f3, f4⟩, _⟩ := hhi
  have t1 := tm_bd 32768 4194304 137438953472 hal hah (c := lo.lq) (d := hi.lq) (by omega) (by omega) (by decide)
  have t2 := tm_bd 137438953472 1048576 144115188075855872 t1.2.1 t1.2.2 hq hq (by decide)
  have t3 := tm_bd 1048576 1048576 1099511627776 (a := lo.r) (b := hi.r) (by omega) (by omega) hd hd (by decide)
  have t4 := tm_bd 1048576 1048576 1099511627776 (a := lo.r) (b := hi.r) (by omega) (by omega) hq hq (by decide)
  have t5 := tm_bd 32768 4194304 137438953472 hal hah (c := lo.ld) (d := hi.ld) (by omega) (by omega) (by decide)
  have t6 := tm_bd 137438953472 1048576 144115188075855872 t5.2.1 t5.2.2 hd hd (by decide)
  have t7 := tm_bd 32768 4194304 137438953472 hal hah (c := lo.fx) (d := hi.fx) (by omega) (by omega) (by decide)
  have := t2.2; have := t3.2; have := t4.2; have := t6.2; have := t7.2
  unfold bdLo bdHi bqLo bqHi
  omega
end Dv

theorem inners_c (m lo hi : Mot) (sl sh d q s : Int) (g : Nat) (w : World) (hg : Blk w g 131 (lmC m lo hi sl sh)) (hlo : Dv.chk lo) (hhi : Dv.chk hi) (hs : -16384 ≤ s ∧ s ≤ 16384) (hsl : -16384 ≤ sl ∧ sl ≤ 16384) (hsh : -16384 ≤ sh ∧ sh ≤ 16384) (hd : -1048576 ≤ d ∧ d ≤ 1048576) (hq : -1048576 ≤ q ∧ q ≤ 1048576) :
    Calls Try.prog 124 #[.pointer (some ⟨g, 0, none⟩), .int .i64 d, .int .i64 q, .int .i64 s] w fun e w' => e = .returned (.tuple #[.agg #[.int .i64 (Dv.bdLo lo hi d q (s + sl) (s + sh)), .int .i64 (Dv.bdHi lo hi d q (s + sl) (s + sh))], .agg #[.int .i64 (Dv.bqLo lo hi d q (s + sl) (s + sh)), .int .i64 (Dv.bqHi lo hi d q (s + sl) (s + sh))]]) ∧ Below w.heap.size w w' := by
  have hal : -32768 ≤ s + sl ∧ s + sl ≤ 32768 := by omega
  have hah : -32768 ≤ s + sh ∧ s + sh ≤ 32768 := by omega
  have hlo' := hlo
  have hhi' := hhi
  obtain ⟨⟨r1, r2⟩, ⟨d1, d2⟩, ⟨q1, q2⟩, ⟨f1, f2⟩, _⟩ := hlo
  obtain ⟨⟨r3, r4⟩, ⟨d3, d4⟩, ⟨q3, q4⟩, ⟨f3, f4⟩, _⟩ := hhi
  have t1 := Dv.tm_bd 32768 4194304 137438953472 hal hah (c := lo.lq) (d := hi.lq) (by omega) (by omega) (by decide)
  have t2 := Dv.tm_bd 137438953472 1048576 144115188075855872 t1.2.1 t1.2.2 hq hq (by decide)
  have t3 := Dv.tm_bd 1048576 1048576 1099511627776 (a := lo.r) (b := hi.r) (by omega) (by omega) hd hd (by decide)
  have t4 := Dv.tm_bd 1048576 1048576 1099511627776 (a := lo.r) (b := hi.r) (by omega) (by omega) hq hq (by decide)
  have t5 := Dv.tm_bd 32768 4194304 137438953472 hal hah (c := lo.ld) (d := hi.ld) (by omega) (by omega) (by decide)
  have t6 := Dv.tm_bd 137438953472 1048576 144115188075855872 t5.2.1 t5.2.2 hd hd (by decide)
  have t7 := Dv.tm_bd 32768 4194304 137438953472 hal hah (c := lo.fx) (d := hi.fx) (by omega) (by omega) (by decide)
  clear r1 r2 d1 d2 q1 q2 f1 f2 r3 r4 d3 d4 q3 q4 f3 f4
  exact inners_go m lo hi sl sh (s + sl) (s + sh) d q s rfl rfl t1.2.1 t1.2.2 ⟨by have := t1.1.1; omega, by have := t1.1.1; omega⟩ ⟨by have := t1.1.2.1; omega, by have := t1.1.2.1; omega⟩ ⟨by have := t1.1.2.2.1; omega, by have := t1.1.2.2.1; omega⟩ ⟨by have := t1.1.2.2.2; omega, by have := t1.1.2.2.2; omega⟩ rfl rfl t2.2.1 t2.2.2 ⟨by have := t2.1.1; omega, by have := t2.1.1; omega⟩ ⟨by have := t2.1.2.2.1; omega, by have := t2.1.2.2.1; omega⟩ rfl rfl t3.2.1 t3.2.2 ⟨by have := t3.1.1; omega, by have := t3.1.1; omega⟩ ⟨by have := t3.1.2.2.1; omega, by have := t3.1.2.2.1; omega⟩ rfl rfl t4.2.1 t4.2.2 ⟨by have := t4.1.1; omega, by have := t4.1.1; omega⟩ ⟨by have := t4.1.2.2.1; omega, by have := t4.1.2.2.1; omega⟩ rfl rfl t5.2.1 t5.2.2 ⟨by have := t5.1.1; omega, by have := t5.1.1; omega⟩ ⟨by have := t5.1.2.1; omega, by have := t5.1.2.1; omega⟩ ⟨by have := t5.1.2.2.1; omega, by have := t5.1.2.2.1; omega⟩ ⟨by have := t5.1.2.2.2; omega, by have := t5.1.2.2.2; omega⟩ rfl rfl t6.2.1 t6.2.2 ⟨by have := t6.1.1; omega, by have := t6.1.1; omega⟩ ⟨by have := t6.1.2.2.1; omega, by have := t6.1.2.2.1; omega⟩ rfl rfl t7.2.1 t7.2.2 ⟨by have := t7.1.1; omega, by have := t7.1.1; omega⟩ ⟨by have := t7.1.2.1; omega, by have := t7.1.2.1; omega⟩ ⟨by have := t7.1.2.2.1; omega, by have := t7.1.2.2.1; omega⟩ ⟨by have := t7.1.2.2.2; omega, by have := t7.1.2.2.2; omega⟩ g w hg hlo' hhi' hs hsl hsh hd hq rfl rfl
theorem innersR_c (lo hi : Mot) (al ah d q : Int) (w : World) (hlo : Dv.chk lo) (hhi : Dv.chk hi) (hal : -32768 ≤ al ∧ al ≤ 32768) (hah : -32768 ≤ ah ∧ ah ≤ 32768) (hd : -1048576 ≤ d ∧ d ≤ 1048576) (hq : -1048576 ≤ q ∧ q ≤ 1048576) :
    Calls Try.prog 126 #[.agg #[.int .i64 lo.r, .int .i64 lo.ld, .int .i64 lo.lq, .int .i64 lo.fx, .int .i64 lo.po, .int .i64 lo.mi, .int .i64 lo.sp, .int .i64 lo.dr, .int .i64 lo.cu, .int .i64 lo.fa], .agg #[.int .i64 hi.r, .int .i64 hi.ld, .int .i64 hi.lq, .int .i64 hi.fx, .int .i64 hi.po, .int .i64 hi.mi, .int .i64 hi.sp, .int .i64 hi.dr, .int .i64 hi.cu, .int .i64 hi.fa], .int .i64 d, .int .i64 q, .agg #[.int .i64 al, .int .i64 ah]] w fun e w' => e = .returned (.tuple #[.agg #[.int .i64 (Dv.bdLo lo hi d q al ah), .int .i64 (Dv.bdHi lo hi d q al ah)], .agg #[.int .i64 (Dv.bqLo lo hi d q al ah), .int .i64 (Dv.bqHi lo hi d q al ah)]]) ∧ Below w.heap.size w w' := by
  have hlo' := hlo
  have hhi' := hhi
  obtain ⟨⟨r1, r2⟩, ⟨d1, d2⟩, ⟨q1, q2⟩, ⟨f1, f2⟩, _⟩ := hlo
  obtain ⟨⟨r3, r4⟩, ⟨d3, d4⟩, ⟨q3, q4⟩, ⟨f3, f4⟩, _⟩ := hhi
  have t1 := Dv.tm_bd 32768 4194304 137438953472 hal hah (c := lo.lq) (d := hi.lq) (by omega) (by omega) (by decide)
  have t2 := Dv.tm_bd 137438953472 1048576 144115188075855872 t1.2.1 t1.2.2 hq hq (by decide)
  have t3 := Dv.tm_bd 1048576 1048576 1099511627776 (a := lo.r) (b := hi.r) (by omega) (by omega) hd hd (by decide)
  have t4 := Dv.tm_bd 1048576 1048576 1099511627776 (a := lo.r) (b := hi.r) (by omega) (by omega) hq hq (by decide)
  have t5 := Dv.tm_bd 32768 4194304 137438953472 hal hah (c := lo.ld) (d := hi.ld) (by omega) (by omega) (by decide)
  have t6 := Dv.tm_bd 137438953472 1048576 144115188075855872 t5.2.1 t5.2.2 hd hd (by decide)
  have t7 := Dv.tm_bd 32768 4194304 137438953472 hal hah (c := lo.fx) (d := hi.fx) (by omega) (by omega) (by decide)
  clear r1 r2 d1 d2 q1 q2 f1 f2 r3 r4 d3 d4 q3 q4 f3 f4
  exact innersR_go lo hi al ah d q rfl rfl t1.2.1 t1.2.2 ⟨by have := t1.1.1; omega, by have := t1.1.1; omega⟩ ⟨by have := t1.1.2.1; omega, by have := t1.1.2.1; omega⟩ ⟨by have := t1.1.2.2.1; omega, by have := t1.1.2.2.1; omega⟩ ⟨by have := t1.1.2.2.2; omega, by have := t1.1.2.2.2; omega⟩ rfl rfl t2.2.1 t2.2.2 ⟨by have := t2.1.1; omega, by have := t2.1.1; omega⟩ ⟨by have := t2.1.2.2.1; omega, by have := t2.1.2.2.1; omega⟩ rfl rfl t3.2.1 t3.2.2 ⟨by have := t3.1.1; omega, by have := t3.1.1; omega⟩ ⟨by have := t3.1.2.2.1; omega, by have := t3.1.2.2.1; omega⟩ rfl rfl t4.2.1 t4.2.2 ⟨by have := t4.1.1; omega, by have := t4.1.1; omega⟩ ⟨by have := t4.1.2.2.1; omega, by have := t4.1.2.2.1; omega⟩ rfl rfl t5.2.1 t5.2.2 ⟨by have := t5.1.1; omega, by have := t5.1.1; omega⟩ ⟨by have := t5.1.2.1; omega, by have := t5.1.2.1; omega⟩ ⟨by have := t5.1.2.2.1; omega, by have := t5.1.2.2.1; omega⟩ ⟨by have := t5.1.2.2.2; omega, by have := t5.1.2.2.2; omega⟩ rfl rfl t6.2.1 t6.2.2 ⟨by have := t6.1.1; omega, by have := t6.1.1; omega⟩ ⟨by have := t6.1.2.2.1; omega, by have := t6.1.2.2.1; omega⟩ rfl rfl t7.2.1 t7.2.2 ⟨by have := t7.1.1; omega, by have := t7.1.1; omega⟩ ⟨by have := t7.1.2.1; omega, by have := t7.1.2.1; omega⟩ ⟨by have := t7.1.2.2.1; omega, by have := t7.1.2.2.1; omega⟩ ⟨by have := t7.1.2.2.2; omega, by have := t7.1.2.2.2; omega⟩ w hlo' hhi' hd hq

theorem al_bd {x l : Int} (hx : -2097153 ≤ x ∧ x ≤ 2097153) (hl : -4194304 ≤ l ∧ l ≤ 4194304) : -1152921504606846976 ≤ x * l ∧ x * l ≤ 1152921504606846976 := by
  have := Dv.mul_bd 2097153 4194304 hx hl
  omega
set_option maxHeartbeats 4000000 in
set_option maxRecDepth 100000 in
theorem both_go (m lo hi : Mot) (sl sh d q s : Int) {x1 x2 x3 x4 : Int} (g : Nat) (w : World) (hg : Blk w g 131 (lmC m lo hi sl sh)) (hm : Dv.chk m) (hlo : Dv.chk lo) (hhi : Dv.chk hi) (hs : -16384 ≤ s ∧ s ≤ 16384) (hsl : -16384 ≤ sl ∧ sl ≤ 16384) (hsh : -16384 ≤ sh ∧ sh ≤ 16384) (hd : -1048576 ≤ d ∧ d ≤ 1048576) (hq : -1048576 ≤ q ∧ q ≤ 1048576)
    (e1 : Dv.bdLo lo hi d q (s + sl) (s + sh) = x1) (e2 : Dv.bdHi lo hi d q (s + sl) (s + sh) = x2) (e3 : Dv.bqLo lo hi d q (s + sl) (s + sh) = x3) (e4 : Dv.bqHi lo hi d q (s + sl) (s + sh) = x4) :
    Calls Try.prog 109 #[.pointer (some ⟨g, 0, none⟩), .int .i64 d, .int .i64 q, .int .i64 s] w fun e w' => e = .returned (.tuple #[.agg #[.int .i64 (Dv.alLo m.cu d lo.ld m.mi x1), .int .i64 (Dv.alHi m.cu d lo.ld m.mi x2)], .agg #[.int .i64 (Dv.alLo m.cu q lo.lq m.mi x3), .int .i64 (Dv.alHi m.cu q lo.lq m.mi x4)]]) ∧ Below w.heap.size w w' := by
  have hib := Dv.inn_bd lo hi d q (s + sl) (s + sh) hlo hhi hd hq (by omega) (by omega)
  rw [e1, e2, e3, e4] at hib
  have KI := Lib.hid (show ∀ W : World, Blk W g 131 (lmC m lo hi sl sh) → Calls Try.prog 124 #[.pointer (some ⟨g, 0, none⟩), .int .i64 d, .int .i64 q, .int .i64 s] W fun e w' => e = .returned (.tuple #[.agg #[.int .i64 x1, .int .i64 x2], .agg #[.int .i64 x3, .int .i64 x4]]) ∧ Below W.heap.size W w' from fun W hW => by rw [← e1, ← e2, ← e3, ← e4]; exact inners_c m lo hi sl sh d q s g W hW hlo hhi hs hsl hsh hd hq)
  clear e1 e2 e3 e4
  have hgl := hg.lt
  unfold Dv.chk at hm hlo hhi
  have ab1 := al_bd (x := m.cu + d) (l := lo.ld) (by omega) (by omega)
  have ab2 := al_bd (x := m.cu - d + 1) (l := lo.ld) (by omega) (by omega)
  have ab3 := al_bd (x := m.cu + q) (l := lo.lq) (by omega) (by omega)
  have ab4 := al_bd (x := m.cu - q + 1) (l := lo.lq) (by omega) (by omega)
  have KA := Lib.hid (show ∀ W : World, Blk W g 131 (lmC m lo hi sl sh) → Calls Try.prog 125 #[.pointer (some ⟨g, 0, none⟩), .int .i64 d, .int .i64 lo.ld, .agg #[.int .i64 x1, .int .i64 x2]] W fun e w' => e = .returned (.agg #[.int .i64 (Dv.alLo m.cu d lo.ld m.mi x1), .int .i64 (Dv.alHi m.cu d lo.ld m.mi x2)]) ∧ Below W.heap.size W w' from fun W hW => allowed1_c m.cu d lo.ld m.mi x1 x2 g W (hW.cell 8 rfl) (hW.cell 5 rfl) (by omega) (by omega) (by omega) ab1 ab2 hib.1 hib.2.1)
  have KB := Lib.hid (show ∀ W : World, Blk W g 131 (lmC m lo hi sl sh) → Calls Try.prog 125 #[.pointer (some ⟨g, 0, none⟩), .int .i64 q, .int .i64 lo.lq, .agg #[.int .i64 x3, .int .i64 x4]] W fun e w' => e = .returned (.agg #[.int .i64 (Dv.alLo m.cu q lo.lq m.mi x3), .int .i64 (Dv.alHi m.cu q lo.lq m.mi x4)]) ∧ Below W.heap.size W w' from fun W hW => allowed1_c m.cu q lo.lq m.mi x3 x4 g W (hW.cell 8 rfl) (hW.cell 5 rfl) (by omega) (by omega) (by omega) ab3 ab4 hib.2.2.1 hib.2.2.2)
  clear ab1 ab2 ab3 ab4 hib
  have S0 := Lib.hid (show St w [(w.heap.size + 1, 29, [.int .i64 0, .int .i64 0]), (w.heap.size, 29, [.int .i64 0, .int .i64 0]), (g, 131, lmC m lo hi sl sh)] ((w.alloc (.cells #[.int .i64 0, .int .i64 0] 29)).alloc (.cells #[.int .i64 0, .int .i64 0] 29)) from by
    have := ((St.start1 hg).alloc [.int .i64 0, .int .i64 0] 29).alloc [.int .i64 0, .int .i64 0] 29
    simp at this
    exact this)
  clear hg
  go_enter Try.func109, Try.ntmps109
  go_wp2_with fail
  refine (KI.out _ (S0.out.get 2 rfl)).mono ?_
  rintro e w1 ⟨rfl, hb1⟩
  have S1 := Lib.hid ((((S0.out.below hb1).alloc [.int .i64 x1, .int .i64 x2] 29).alloc [.int .i64 x3, .int .i64 x4] 29))
  have hz1 := S0.out.below hb1 |>.1.size
  clear hb1 S0
  go_upto_region 2 with (fail)
  refine gen_world (fun W => St w [(w1.heap.size + 1, 29, [.int .i64 x3, .int .i64 x4]), (w1.heap.size, 29, [.int .i64 x1, .int .i64 x2]), (w.heap.size + 1, 29, [.int .i64 0, .int .i64 0]), (w.heap.size, 29, [.int .i64 0, .int .i64 0]), (g, 131, lmC m lo hi sl sh)] W) (by have := S1.out; simp at this; exact this) ?_
  clear S1
  rintro w2 i_
  have I1 := Lib.hid i_
  clear i_
  generalize w1.heap.size = ga at hz1 I1 ⊢
  refine wp_region_priv 18 [.q, .q, .q, .q, .q, .q, .q, .q, .q, .q, .q, .q, .q, .q, .q, .q, .q, .q] (fun _ => (.cells #[] 29, fun b => .pointer none)) ?af (by kernel_rfl) (by kernel_rfl) ?walk ?tail
  case walk =>
    intro V hV
    have IV := Lib.hid (I1.out.below hV)
    have z_a := (IV.out.get 1 rfl).lt
    have c_a0 := (IV.out.get 1 rfl).cell 0 rfl
    have c_a1 := (IV.out.get 1 rfl).cell 1 rfl
    have z_b := (IV.out.get 0 rfl).lt
    have c_b0 := (IV.out.get 0 rfl).cell 0 rfl
    have c_b1 := (IV.out.get 0 rfl).cell 1 rfl
    have zg := (IV.out.get 4 rfl).lt
    obtain ⟨_, ⟨_, b1, b2, _⟩, _, _⟩ := lmCells (IV.out.get 4 rfl)
    have KA2 := Lib.hid (show ∀ x : Past V, Blk x.w g 131 (lmC m lo hi sl sh) from fun x => (IV.out.get 4 rfl).below x.far zg)
    simp only [List.take_succ_cons, List.take_zero]
    repeat (refine wpP_q ?_; go_big_quiet_step (first | (go_at_call 125; with_reducible exact past_below (KA.out _ (KA2.out _))) | (go_at_call 125; with_reducible exact past_below (KB.out _ (KA2.out _)))); refine wpQuiet_nil ?_)
    refine wpP_nil ?_
    rfl
  case tail =>
  intro gs w3 hb3 _ _
  have S3 := Lib.hid (I1.out.below hb3)
  clear hb3 I1
  simp only [List.drop_succ_cons, List.drop_zero, List.take_succ_cons, List.take_zero, fillP]
  have z_r0 := (S3.out.get 3 rfl).lt
  have c_r00 := (S3.out.get 3 rfl).cell 0 rfl
  have c_r01 := (S3.out.get 3 rfl).cell 1 rfl
  have z_r1 := (S3.out.get 2 rfl).lt
  have c_r10 := (S3.out.get 2 rfl).cell 0 rfl
  have c_r11 := (S3.out.get 2 rfl).cell 1 rfl
  have f_r00 := (S3.out.get 3 rfl).free 0
  have f_r01 := (S3.out.get 3 rfl).free 1
  have f_r10 := (S3.out.get 2 rfl).free 0
  have f_r11 := (S3.out.get 2 rfl).free 1
  go_wp2
  exact bodyPost_ret (v := .tuple #[.agg #[.int .i64 (Dv.alLo m.cu d lo.ld m.mi x1), .int .i64 (Dv.alHi m.cu d lo.ld m.mi x2)], .agg #[.int .i64 (Dv.alLo m.cu q lo.lq m.mi x3), .int .i64 (Dv.alHi m.cu q lo.lq m.mi x4)]]) (by simp [results, Try.results109, go_sem, c_r00, c_r01, c_r10, c_r11]) rfl ⟨rfl, below_put2 (below_put2 S3.out.1 (Nat.le_refl _) _ _) (by omega) _ _⟩

theorem both_c (m lo hi : Mot) (sl sh d q s : Int) (g : Nat) (w : World) (hg : Blk w g 131 (lmC m lo hi sl sh)) (hm : Dv.chk m) (hlo : Dv.chk lo) (hhi : Dv.chk hi) (hs : -16384 ≤ s ∧ s ≤ 16384) (hsl : -16384 ≤ sl ∧ sl ≤ 16384) (hsh : -16384 ≤ sh ∧ sh ≤ 16384) (hd : -1048576 ≤ d ∧ d ≤ 1048576) (hq : -1048576 ≤ q ∧ q ≤ 1048576) :
    Calls Try.prog 109 #[.pointer (some ⟨g, 0, none⟩), .int .i64 d, .int .i64 q, .int .i64 s] w fun e w' => e = .returned (.tuple #[.agg #[.int .i64 (Dv.alLo m.cu d lo.ld m.mi (Dv.bdLo lo hi d q (s + sl) (s + sh))), .int .i64 (Dv.alHi m.cu d lo.ld m.mi (Dv.bdHi lo hi d q (s + sl) (s + sh)))], .agg #[.int .i64 (Dv.alLo m.cu q lo.lq m.mi (Dv.bqLo lo hi d q (s + sl) (s + sh))), .int .i64 (Dv.alHi m.cu q lo.lq m.mi (Dv.bqHi lo hi d q (s + sl) (s + sh)))]]) ∧ Below w.heap.size w w' :=
  both_go m lo hi sl sh d q s g w hg hm hlo hhi hs hsl hsh hd hq rfl rfl rfl rfl
end Go.Proofs.Ytcneohhfnnelgaa
