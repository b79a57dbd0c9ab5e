/- The walk of coulomblaw06.DriveBlends. -/
import Derived.Test.YtcneohhfnnelgaaW41
import Derived.Test.YtcneohhfnnelgaaW7
namespace Go.Proofs.Ytcneohhfnnelgaa
open Go.RowKit
set_option linter.unusedVariables false

def BlI (w : World) (lo hi : Int) (A : Option Addr) (xs : List Int) (W : World) : Prop := Blk W w.heap.size 29 [.int .i64 lo, .int .i64 hi] ∧ IntsAt W A xs ∧ Below w.heap.size w W
theorem BlI.below {w : World} {lo hi : Int} {A : Option Addr} {xs : List Int} {W W' : World} (h : BlI w lo hi A xs W) (hb : Below W.heap.size W W') : BlI w lo hi A xs W' :=
  ⟨h.1.below hb h.1.lt, h.2.1.below hb, h.2.2.trans (hb.mono h.2.2.size)⟩
theorem BlI.start {w : World} {lo hi : Int} {A : Option Addr} {xs : List Int} (h : IntsAt w A xs) : BlI w lo hi A xs (w.alloc (.cells #[.int .i64 lo, .int .i64 hi] 29)) :=
  ⟨Blk.new' _ _ _, h.below ((Below.refl _ _).alloc (Nat.le_refl _) _), (Below.refl _ _).alloc (Nat.le_refl _) _⟩
theorem BlI.cells {w : World} {lo hi : Int} {A : Option Addr} {xs : List Int} {W : World} (h : BlI w lo hi A xs W) : W.cell? ⟨w.heap.size, 0, none⟩ = some (.int .i64 lo) ∧ W.cell? ⟨w.heap.size, 1, none⟩ = some (.int .i64 hi) := ⟨h.1.cell 0 rfl, h.1.cell 1 rfl⟩

set_option maxHeartbeats 1000000 in
theorem Blends_long (d lo hi br T : Int) (A : Option Addr) (xs : List Int) (cap : Nat) (w : World) (hx : IntsAt w A xs) (hl : decide ((20 : Int) < (xs.length : Int)) = true) :
    Calls Try.prog 8 #[.int .i64 d, .agg #[.int .i64 lo, .int .i64 hi], .int .i64 br, .int .i64 T, .slice A xs.length cap] w fun e w' => e = .returned (.bool true) ∧ Below w.heap.size w w' := by
  have I0 := Lib.hid (BlI.start (lo := lo) (hi := hi) hx)
  clear hx
  go_enter Try.func8, Try.ntmps8
  go_wp2_with fail
  refine (known_c _).mono ?_
  rintro e w1 ⟨rfl, hb1⟩
  go_wp2
  go_ret
  exact ⟨rfl, (I0.out.below hb1).2.2⟩

set_option maxHeartbeats 4000000 in
set_option maxRecDepth 100000 in
theorem Blends_go (d lo hi br T : Int) (A : Option Addr) (xs : List Int) (cap : Nat) (w : World) (hx : IntsAt w A xs) (hl : decide ((20 : Int) < (xs.length : Int)) = false) (hll : xs.length ≤ 20) :
    Calls Try.prog 8 #[.int .i64 d, .agg #[.int .i64 lo, .int .i64 hi], .int .i64 br, .int .i64 T, .slice A xs.length cap] w fun e w' => e = .returned (.bool true) ∧ Below w.heap.size w w' := by
  have I0 := Lib.hid (BlI.start (lo := lo) (hi := hi) hx)
  have HLL := Lib.hid hll
  clear hx hll
  go_enter Try.func8, Try.ntmps8
  go_wp2_with fail
  refine (Blend_c d lo hi br _).mono ?_
  rintro e w1 ⟨rfl, hb1⟩
  have I1 := Lib.hid (I0.out.below hb1)
  clear hb1
  obtain ⟨c0, c1⟩ := I1.out.cells
  go_wp2_with fail
  refine (BlendR_c d lo hi br _).mono ?_
  rintro e w2 ⟨rfl, hb2⟩
  have I2 := Lib.hid (I1.out.below hb2)
  clear hb2 c0 c1
  go_wp2_with fail
  refine (Shares_c T A xs cap _ I2.out.2.1).mono ?_
  rintro e w3 ⟨hb3, A3, cap3, ys, er, rfl, hy3, ho3⟩
  have I3 := Lib.hid (I2.out.below hb3)
  have Y3 := Lib.hid hy3
  have O3 := Lib.hid ho3
  clear hb3 hy3 ho3
  go_wp2_with fail
  refine (SharesR_c T A xs cap _ I3.out.2.1).mono ?_
  rintro e w4 ⟨hb4, A4, cap4, ys', er', rfl, hy4, ho4⟩
  obtain ⟨rfl, rfl⟩ := O3.out.unique ho4
  have I4 := Lib.hid (I3.out.below hb4)
  have Y4 := Lib.hid hy4
  have Y3' := Lib.hid (Y3.out.below hb4)
  have hyl : ys.length ≤ 20 := by
    rcases O3.out with ⟨_, _, e⟩ | ⟨_, _, _, e⟩ | ⟨_, _, L, _, e⟩
    · rw [e]; simp
    · rw [e]; simp
    · rw [e, Dv.shR_length]; exact HLL.out
  have HYL := Lib.hid hyl
  clear hb4 hy4 ho4 hyl O3 Y3
  go_wp2_with fail
  refine (same_c A3 A4 ys cap3 cap4 _ Y3'.out Y4.out (by have := HYL.out; omega)).mono ?_
  rintro e w5 ⟨rfl, hb5⟩
  have I5 := Lib.hid (I4.out.below hb5)
  clear hb5
  go_wp2_with fail
  refine (known_c _).mono ?_
  rintro e w6 ⟨rfl, hb6⟩
  have I6 := Lib.hid (I5.out.below hb6)
  clear hb6
  go_wp2
  go_ret
  exact ⟨rfl, I6.out.2.2⟩

theorem DriveBlends_any (d lo hi br T : Int) (A : Option Addr) (xs : List Int) (cap : Nat) (w : World) (hx : IntsAt w A xs) :
    Calls Try.prog 8 #[.int .i64 d, .agg #[.int .i64 lo, .int .i64 hi], .int .i64 br, .int .i64 T, .slice A xs.length cap] w fun e w' => e = .returned (.bool true) ∧ Below w.heap.size w w' := by
  cases hl : decide ((20 : Int) < (xs.length : Int))
  · exact Blends_go d lo hi br T A xs cap w hx hl (by simp at hl; omega)
  · exact Blends_long d lo hi br T A xs cap w hx hl
end Go.Proofs.Ytcneohhfnnelgaa
