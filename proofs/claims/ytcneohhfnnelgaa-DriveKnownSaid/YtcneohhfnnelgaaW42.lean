/- Contracts at the numbers of the examples, for DriveKnown. -/
import Derived.Test.YtcneohhfnnelgaaW41
import Derived.Test.YtcneohhfnnelgaaW13
import Derived.Test.YtcneohhfnnelgaaW7
namespace Go.Proofs.Ytcneohhfnnelgaa
open Go.RowKit
set_option linter.unusedVariables false

theorem k_sin0 (w : World) : Calls Try.prog 21 #[.int .i64 0] w fun e w' => e = .returned (.tuple #[.int .i64 0, .int .i64 0]) ∧ w = w' := (Sin_c 0 w).mono fun _ _ ⟨h, h'⟩ => ⟨by rw [h, show Dv.sinV 0 = 0 by decide +kernel, show Dv.sinE 0 = 0 by decide +kernel], h'⟩
theorem k_sin1 (w : World) : Calls Try.prog 21 #[.int .i64 16384] w fun e w' => e = .returned (.tuple #[.int .i64 16384, .int .i64 0]) ∧ w = w' := (Sin_c 16384 w).mono fun _ _ ⟨h, h'⟩ => ⟨by rw [h, show Dv.sinV 16384 = 16384 by decide +kernel, show Dv.sinE 16384 = 0 by decide +kernel], h'⟩
theorem k_sin2 (w : World) : Calls Try.prog 21 #[.int .i64 32768] w fun e w' => e = .returned (.tuple #[.int .i64 0, .int .i64 0]) ∧ w = w' := (Sin_c 32768 w).mono fun _ _ ⟨h, h'⟩ => ⟨by rw [h, show Dv.sinV 32768 = 0 by decide +kernel, show Dv.sinE 32768 = 0 by decide +kernel], h'⟩
theorem k_cos0 (w : World) : Calls Try.prog 22 #[.int .i64 0] w fun e w' => e = .returned (.tuple #[.int .i64 16384, .int .i64 0]) ∧ w = w' := (Cos_c 0 w).mono fun _ _ ⟨h, h'⟩ => ⟨by rw [h, show Dv.cosV 0 = 16384 by decide +kernel, show Dv.sinE 0 = 0 by decide +kernel], h'⟩
theorem k_two0 (w : World) : Calls Try.prog 27 #[.int .i64 1000, .int .i64 (-500), .int .i64 (-500)] w fun e w' => e = .returned (.tuple #[.int .i64 1000, .int .i64 0, .int .i64 0]) ∧ Below w.heap.size w w' := (Two_c 1000 (-500) (-500) w).mono fun _ _ ⟨h, h'⟩ => ⟨by rw [h, show Dv.two1 1000 (-500) (-500) = 1000 by decide +kernel, show Dv.two2 1000 (-500) (-500) = 0 by decide +kernel, show Dv.twoE 1000 (-500) (-500) = 0 by decide +kernel], h'⟩
theorem k_two1 (w : World) : Calls Try.prog 27 #[.int .i64 1, .int .i64 2, .int .i64 3] w fun e w' => e = .returned (.tuple #[.int .i64 0, .int .i64 0, .int .i64 20]) ∧ Below w.heap.size w w' := (Two_c 1 2 3 w).mono fun _ _ ⟨h, h'⟩ => ⟨by rw [h, show Dv.two1 1 2 3 = 0 by decide +kernel, show Dv.two2 1 2 3 = 0 by decide +kernel, show Dv.twoE 1 2 3 = 20 by decide +kernel], h'⟩
theorem k_phases (w : World) : Calls Try.prog 33 #[.int .i64 1000, .int .i64 0] w fun e w' => e = .returned (.tuple #[.agg #[.int .i64 1000, .int .i64 (-500), .int .i64 (-500)], .int .i64 0]) ∧ Below w.heap.size w w' := (Phases_c 1000 0 w).mono fun _ _ ⟨h, h'⟩ => ⟨by rw [h, show Dv.ph1 1000 0 = 1000 by decide +kernel, show Dv.ph2 1000 0 = -500 by decide +kernel, show Dv.ph3 1000 0 = -500 by decide +kernel, show Dv.phE 1000 0 = 0 by decide +kernel], h'⟩
theorem k_duties (w : World) : Calls Try.prog 18 #[.agg #[.int .i64 1000, .int .i64 (-500), .int .i64 (-500)], .int .i64 1000] w fun e w' => e = .returned (.tuple #[.agg #[.int .i64 65536, .int .i64 0, .int .i64 0], .bool true, .int .i64 0]) ∧ Below w.heap.size w w' := (Duties_c 1000 (-500) (-500) 1000 w).mono fun _ _ ⟨h, h'⟩ => ⟨by rw [h, show Dv.duV 1000 (-500) (-500) 1000 1000 = 65536 by decide +kernel, show Dv.duV 1000 (-500) (-500) 1000 (-500) = 0 by decide +kernel, show Dv.duC 1000 (-500) (-500) 1000 = true by decide +kernel, show Dv.duE 1000 (-500) (-500) 1000 = 0 by decide +kernel], h'⟩
theorem k_blend (w : World) : Calls Try.prog 20 #[.int .i64 100, .agg #[.int .i64 (-60), .int .i64 80], .int .i64 30] w fun e w' => e = .returned (.tuple #[.int .i64 80, .int .i64 0, .int .i64 0]) ∧ Below w.heap.size w w' := (Blend_c 100 (-60) 80 30 w).mono fun _ _ ⟨h, h'⟩ => ⟨by rw [h, show Dv.bl1 100 (-60) 80 30 = 80 by decide +kernel, show Dv.bl2 100 (-60) 80 30 = 0 by decide +kernel, show Dv.bl3 100 (-60) 80 30 = 0 by decide +kernel], h'⟩
/-- Shares at numbers: the level is known -/
theorem k_shares (T L : Int) (xs ys : List Int) (A : Option Addr) (cap : Nat) (w : World) (hx : IntsAt w A xs) (h1 : 1 ≤ xs.length) (h8 : xs.length ≤ 8) (hT : 0 ≤ T ∧ T ≤ 68719476736) (ho : Dv.okS xs) (hL : Dv.Lev T xs L) (hy : Dv.shR L (T - Dv.pour L xs) xs = ys) :
    Calls Try.prog 37 #[.int .i64 T, .slice A xs.length cap] w fun e w' => Below w.heap.size w w' ∧ ∃ g, e = .returned (.tuple #[.slice (some ⟨g, 0, none⟩) xs.length xs.length, .int .i64 0]) ∧ IntsAt w' (some ⟨g, 0, none⟩) ys := by
  refine (Shares_go T A xs cap w hx h1 h8 hT ho).mono ?_
  rintro e w' ⟨L', g, hL', rfl, hb, hg⟩
  obtain rfl := Dv.lev_unique hL hL'
  rw [hy] at hg
  exact ⟨hb, g, rfl, intsAt_blk hg⟩
theorem k_ok : Dv.okS [2, 9, 9] := by intro x hx; simp at hx; omega
theorem k_lev1 : Dv.Lev 10 [2, 9, 9] 4 := by refine ⟨by omega, by omega, by decide +kernel, .inr (by decide +kernel)⟩
theorem k_lev2 : Dv.Lev 100 [2, 9, 9] 68719476736 := by refine ⟨by omega, by omega, by decide +kernel, .inl rfl⟩
theorem k_sh1 : Dv.shR 4 (10 - Dv.pour 4 [2, 9, 9]) [2, 9, 9] = [2, 4, 4] := by decide +kernel
theorem k_sh2 : Dv.shR 68719476736 (100 - Dv.pour 68719476736 [2, 9, 9]) [2, 9, 9] = [2, 9, 9] := by decide +kernel

set_option maxHeartbeats 1000000 in
theorem Example_c (w : World) : Calls Try.prog 61 #[] w fun e w' => e = .returned (.agg #[.int .i64 10000, .int .i64 100000, .int .i64 200000, .int .i64 20000, .int .i64 4, .int .i64 100, .int .i64 4000, .int .i64 10, .int .i64 400000, .int .i64 2000]) ∧ Below w.heap.size w w' := by
  go_enter Try.func61, Try.ntmps61
  go_wp2
  exact bodyPost_ret (v := .agg #[.int .i64 10000, .int .i64 100000, .int .i64 200000, .int .i64 20000, .int .i64 4, .int .i64 100, .int .i64 4000, .int .i64 10, .int .i64 400000, .int .i64 2000]) (by simp [results, Try.results61, go_sem]) rfl ⟨rfl, (Below.refl _ _).alloc (Nat.le_refl _) _⟩
end Go.Proofs.Ytcneohhfnnelgaa
