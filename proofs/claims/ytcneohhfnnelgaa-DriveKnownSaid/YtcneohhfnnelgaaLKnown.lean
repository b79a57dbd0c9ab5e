/- The walk of coulomblaw06.DriveKnown. -/
import Derived.Test.YtcneohhfnnelgaaW42
import Derived.Test.YtcneohhfnnelgaaW24
namespace Go.Proofs.Ytcneohhfnnelgaa
open Go.RowKit
set_option linter.unusedVariables false

def exM : Mot := ⟨10000, 100000, 200000, 20000, 4, 100, 4000, 10, 400000, 2000⟩
def exS : Rot := ⟨0, 0, 0, 0⟩
theorem k_step (w : World) : Calls Try.prog 50 #[.agg #[.int .i64 10000, .int .i64 100000, .int .i64 200000, .int .i64 20000, .int .i64 4, .int .i64 100, .int .i64 4000, .int .i64 10, .int .i64 400000, .int .i64 2000], .agg #[.int .i64 0, .int .i64 0, .int .i64 0, .int .i64 0], .int .i64 1000000, .int .i64 1000000, .int .i64 0] w fun e w' => e = .returned (.tuple #[.agg #[.int .i64 1000, .int .i64 500, .int .i64 0, .int .i64 0], .int .i64 0]) ∧ Below w.heap.size w w' :=
  (Step_c exM exS 1000000 1000000 0 w).mono fun _ _ ⟨h, h'⟩ => ⟨by rw [h, show (Dv.stR exM exS 1000000 1000000 0).1.d = 1000 by decide +kernel, show (Dv.stR exM exS 1000000 1000000 0).1.q = 500 by decide +kernel, show (Dv.stR exM exS 1000000 1000000 0).1.w = 0 by decide +kernel, show (Dv.stR exM exS 1000000 1000000 0).1.a = 0 by decide +kernel, show (Dv.stR exM exS 1000000 1000000 0).2 = 0 by decide +kernel], h'⟩
theorem k_eq57 : ∀ w : World, (binOp .neq 57 (.agg #[.int .i64 1000, .int .i64 500, .int .i64 0, .int .i64 0]) (.agg #[.int .i64 1000, .int .i64 500, .int .i64 0, .int .i64 0])).run Try.prog w = .ok (.bool false) w := fun w => by kernel_rfl

set_option maxHeartbeats 4000000 in
set_option maxRecDepth 100000 in
theorem DriveKnown_any (w : World) : Calls Try.prog 14 #[] w fun e w' => e = .returned (.bool true) ∧ Below w.heap.size w w' := by
  go_enter Try.func14, Try.ntmps14
  go_wp2_with (first | (go_at_call 21; (first | (with_reducible refine (k_sin0 _).mono ?_) | (with_reducible refine (k_sin1 _).mono ?_) | (with_reducible refine (k_sin2 _).mono ?_)); rintro e w' ⟨rfl, rfl⟩) | (go_at_call 22; refine (k_cos0 _).mono ?_; rintro e w' ⟨rfl, rfl⟩))
  refine (k_two0 _).mono ?_
  rintro e w1 ⟨rfl, hb1⟩
  have B1 := Lib.hid hb1
  clear hb1
  go_wp2_with fail
  refine (k_two1 _).mono ?_
  rintro e w2 ⟨rfl, hb2⟩
  have B2 := Lib.hid (B1.out.trans (hb2.mono B1.out.size))
  clear hb2
  go_wp2_with fail
  refine (k_phases _).mono ?_
  rintro e w3 ⟨rfl, hb3⟩
  have B3 := Lib.hid (B2.out.trans (hb3.mono B2.out.size))
  clear hb3
  go_wp2_with fail
  refine (k_duties _).mono ?_
  rintro e w4 ⟨rfl, hb4⟩
  have G4 : Hid (Blk w4 w3.heap.size 22 [.int .i64 1000, .int .i64 (-500), .int .i64 (-500)]) := Lib.hid ((Blk.new' _ _ _).below hb4 (by simp))
  have B4 := Lib.hid ((B3.out.alloc B3.out.size (.cells #[.int .i64 1000, .int .i64 (-500), .int .i64 (-500)] 22)).trans (hb4.mono (by have := B3.out.size; simp; omega)))
  clear hb4
  have c0 := G4.out.cell 0 rfl
  have c1 := G4.out.cell 1 rfl
  have c2 := G4.out.cell 2 rfl
  have z4 := G4.out.lt
  go_wp2_with fail
  refine (Example_c _).mono ?_
  rintro e w5 ⟨rfl, hb5⟩
  have B5 := Lib.hid ((B4.out.alloc B4.out.size (.cells #[.int .i64 65536, .int .i64 0, .int .i64 0] 22)).trans (hb5.mono (by have := B4.out.size; simp; omega)))
  clear hb5 c0 c1 c2 z4
  go_wp2_with fail
  refine (k_step _).mono ?_
  rintro e w6 ⟨rfl, hb6⟩
  have B6 := Lib.hid (B5.out.trans (hb6.mono B5.out.size))
  clear hb6
  have k57 := k_eq57
  go_wp2_with fail
  refine (k_blend _).mono ?_
  rintro e w7 ⟨rfl, hb7⟩
  have B7 := Lib.hid ((B6.out.alloc B6.out.size (.cells #[.int .i64 1000, .int .i64 500, .int .i64 0, .int .i64 0] 57)).trans (hb7.mono (by have := B6.out.size; simp; omega)))
  clear hb7
  go_wp2_with fail
  refine (k_shares 10 4 [2, 9, 9] [2, 4, 4] (some ⟨w7.heap.size, 0, none⟩) 3 _ (intsAt_alloc w7 2 [2, 9, 9]) (by decide) (by decide) (by omega) k_ok k_lev1 k_sh1).mono ?_
  rintro e w8 ⟨hb8, g8, rfl, hy8⟩
  have B8 := Lib.hid ((B7.out.alloc B7.out.size (.cells #[.int .i64 2, .int .i64 9, .int .i64 9] 2)).trans (hb8.mono (by have := B7.out.size; simp; omega)))
  have Y8 := Lib.hid hy8
  clear hb8 hy8
  go_wp2_with fail
  refine (k_shares 100 68719476736 [2, 9, 9] [2, 9, 9] (some ⟨w8.heap.size, 0, none⟩) 3 _ (intsAt_alloc w8 2 [2, 9, 9]) (by decide) (by decide) (by omega) k_ok k_lev2 k_sh2).mono ?_
  rintro e w9 ⟨hb9, g9, rfl, hy9⟩
  have B9 := Lib.hid ((B8.out.alloc B8.out.size (.cells #[.int .i64 2, .int .i64 9, .int .i64 9] 2)).trans (hb9.mono (by have := B8.out.size; simp; omega)))
  have Y9 := Lib.hid hy9
  have Y8' := Lib.hid ((Y8.out.below ((Below.refl _ _).alloc (Nat.le_refl _) _)).below hb9)
  clear hb9 hy9 Y8
  go_wp2_with fail
  refine (same_c (some ⟨g8, 0, none⟩) (some ⟨w9.heap.size, 0, none⟩) [2, 4, 4] 3 3 _ (Y8'.out.below ((Below.refl _ _).alloc (Nat.le_refl _) _)) (intsAt_alloc w9 2 [2, 4, 4]) (by decide)).mono ?_
  rintro e w10 ⟨rfl, hb10⟩
  have B10 := Lib.hid ((B9.out.alloc B9.out.size (.cells #[.int .i64 2, .int .i64 4, .int .i64 4] 2)).trans (hb10.mono (by have := B9.out.size; simp; omega)))
  have Y9' := Lib.hid ((Y9.out.below ((Below.refl _ _).alloc (Nat.le_refl _) _)).below hb10)
  clear hb10 Y9
  go_wp2_with fail
  refine (same_c (some ⟨g9, 0, none⟩) (some ⟨w10.heap.size, 0, none⟩) [2, 9, 9] 3 3 _ (Y9'.out.below ((Below.refl _ _).alloc (Nat.le_refl _) _)) (intsAt_alloc w10 2 [2, 9, 9]) (by decide)).mono ?_
  rintro e w11 ⟨rfl, hb11⟩
  have B11 := Lib.hid ((B10.out.alloc B10.out.size (.cells #[.int .i64 2, .int .i64 9, .int .i64 9] 2)).trans (hb11.mono (by have := B10.out.size; simp; omega)))
  clear hb11
  go_wp2_with fail
  refine (known_c _).mono ?_
  rintro e w12 ⟨rfl, hb12⟩
  have B12 := Lib.hid (B11.out.trans (hb12.mono B11.out.size))
  clear hb12
  go_wp2
  go_ret
  exact ⟨rfl, B12.out⟩
end Go.Proofs.Ytcneohhfnnelgaa
