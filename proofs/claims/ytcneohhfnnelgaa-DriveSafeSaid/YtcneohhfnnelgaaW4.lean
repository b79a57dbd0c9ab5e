/- Contracts of clip and Blend of drive, of Into and into of the references. -/
import Derived.Test.YtcneohhfnnelgaaW3
namespace Go.Proofs.Ytcneohhfnnelgaa
open Go.RowKit

namespace Dv
def clip (x lo hi : Int) : Int := max lo (min x hi)
def blR (d lo hi br : Int) : Bool := upB 68719476736 [d, lo, hi, br] && decide (0 ≤ br)
def blA (lo hi : Int) : Bool := decide (lo ≤ 0 ∧ 0 ≤ hi)
def bl1 (d lo hi br : Int) : Int := if blR d lo hi br = true then (if blA lo hi = true then clip d lo hi else 0) else 0
def bl2 (d lo hi br : Int) : Int := if blR d lo hi br = true then (if blA lo hi = true then (if clip d lo hi < d then 0 else min br (clip d lo hi - d)) else 0) else 0
def bl3 (d lo hi br : Int) : Int := if blR d lo hi br = true then (if blA lo hi = true then 0 else 2) else 3
end Dv

set_option maxHeartbeats 400000 in
theorem clip_c (x lo hi : Int) (w : World) : Calls Try.prog 70 #[.int .i64 x, .int .i64 lo, .int .i64 hi] w fun e w' => e = .returned (.int .i64 (Dv.clip x lo hi)) ∧ w = w' := by
  have E := Lib.hid (show Dv.clip x lo hi = max lo (min x hi) from rfl)
  go_enter Try.func70, Try.ntmps70
  go_wp2
  all_goals
    go_ret
    exact ⟨ret_int (by rw [E.out]; omega), rfl⟩

set_option maxHeartbeats 400000 in
theorem Into_c (x lo hi : Int) (w : World) : Calls Try.prog 118 #[.int .i64 x, .int .i64 lo, .int .i64 hi] w fun e w' => e = .returned (.int .i64 (Dv.clip x lo hi)) ∧ w = w' := by
  have E := Lib.hid (show Dv.clip x lo hi = max lo (min x hi) from rfl)
  go_enter Try.func118, Try.ntmps118
  go_wp2
  all_goals
    go_ret
    exact ⟨ret_int (by rw [E.out]; omega), rfl⟩

set_option maxHeartbeats 400000 in
theorem into_c (x lo hi : Int) (w : World) : Calls Try.prog 88 #[.int .i64 x, .int .i64 lo, .int .i64 hi] w fun e w' => e = .returned (.int .i64 (Dv.clip x lo hi)) ∧ w = w' := by
  go_enter Try.func88, Try.ntmps88
  go_wp2_with (go_at_call 118; refine (Into_c _ _ _ _).mono ?_; rintro e w' ⟨rfl, rfl⟩)
  go_ret
  exact ⟨rfl, rfl⟩

set_option maxHeartbeats 400000 in
theorem Blend_c (d lo hi br : Int) (w : World) : Calls Try.prog 20 #[.int .i64 d, .agg #[.int .i64 lo, .int .i64 hi], .int .i64 br] w fun e w' => e = .returned (.tuple #[.int .i64 (Dv.bl1 d lo hi br), .int .i64 (Dv.bl2 d lo hi br), .int .i64 (Dv.bl3 d lo hi br)]) ∧ Below w.heap.size w w' := by
  by_cases hu : upB 68719476736 [d, lo, hi, br] = true
  · obtain ⟨u1, u2, u3, u4⟩ := upB4.1 hu
    by_cases h0 : 0 ≤ br
    · have hR : Dv.blR d lo hi br = true := by simp [Dv.blR, hu, h0]
      by_cases hl : lo ≤ 0
      · by_cases hh : 0 ≤ hi
        · have hA : Dv.blA lo hi = true := by simp [Dv.blA, hl, hh]
          by_cases hc : Dv.clip d lo hi < d
          · have E := Lib.hid (show Dv.bl1 d lo hi br = Dv.clip d lo hi ∧ Dv.bl2 d lo hi br = 0 ∧ Dv.bl3 d lo hi br = 0 from by simp [Dv.bl1, Dv.bl2, Dv.bl3, hR, hA, hc])
            clear hR hA
            go_enter Try.func20, Try.ntmps20
            go_wp2_with (first | (go_at_call 67; refine (up4 _ _ _ _ _ _ _ (by simp) (by omega) (by omega)).mono ?_; rintro e w' ⟨rfl, rfl⟩) | (go_at_call 70; refine (clip_c _ _ _ _).mono ?_; rintro e w' ⟨rfl, rfl⟩))
            go_ret3
            exact ⟨ret3_int E.out.1.symm E.out.2.1.symm E.out.2.2.symm, (((Below.refl _ _).alloc (Nat.le_refl _) _).alloc (by simp) _)⟩
          · have E := Lib.hid (show Dv.bl1 d lo hi br = Dv.clip d lo hi ∧ Dv.bl2 d lo hi br = min br (Dv.clip d lo hi - d) ∧ Dv.bl3 d lo hi br = 0 from by simp [Dv.bl1, Dv.bl2, Dv.bl3, hR, hA, hc])
            clear hR hA
            have hcb : -68719476736 ≤ Dv.clip d lo hi ∧ Dv.clip d lo hi ≤ 68719476736 := by unfold Dv.clip; omega
            go_enter Try.func20, Try.ntmps20
            go_wp2_with (first | (go_at_call 67; refine (up4 _ _ _ _ _ _ _ (by simp) (by omega) (by omega)).mono ?_; rintro e w' ⟨rfl, rfl⟩) | (go_at_call 70; refine (clip_c _ _ _ _).mono ?_; rintro e w' ⟨rfl, rfl⟩))
            all_goals
              go_ret3
              exact ⟨ret3_int E.out.1.symm (by rw [E.out.2.1]; omega) E.out.2.2.symm, (((Below.refl _ _).alloc (Nat.le_refl _) _).alloc (by simp) _)⟩
        · have hA : Dv.blA lo hi = false := by simp [Dv.blA, hh]
          have E := Lib.hid (show Dv.bl1 d lo hi br = 0 ∧ Dv.bl2 d lo hi br = 0 ∧ Dv.bl3 d lo hi br = 2 from by simp [Dv.bl1, Dv.bl2, Dv.bl3, hR, hA])
          clear hR hA
          go_enter Try.func20, Try.ntmps20
          go_wp2_with (first | (go_at_call 67; refine (up4 _ _ _ _ _ _ _ (by simp) (by omega) (by omega)).mono ?_; rintro e w' ⟨rfl, rfl⟩) | (go_at_call 70; refine (clip_c _ _ _ _).mono ?_; rintro e w' ⟨rfl, rfl⟩))
          go_ret3
          exact ⟨ret3_int E.out.1.symm E.out.2.1.symm E.out.2.2.symm, (((Below.refl _ _).alloc (Nat.le_refl _) _).alloc (by simp) _)⟩
      · have hA : Dv.blA lo hi = false := by simp [Dv.blA, hl]
        have E := Lib.hid (show Dv.bl1 d lo hi br = 0 ∧ Dv.bl2 d lo hi br = 0 ∧ Dv.bl3 d lo hi br = 2 from by simp [Dv.bl1, Dv.bl2, Dv.bl3, hR, hA])
        clear hR hA
        go_enter Try.func20, Try.ntmps20
        go_wp2_with (first | (go_at_call 67; refine (up4 _ _ _ _ _ _ _ (by simp) (by omega) (by omega)).mono ?_; rintro e w' ⟨rfl, rfl⟩) | (go_at_call 70; refine (clip_c _ _ _ _).mono ?_; rintro e w' ⟨rfl, rfl⟩))
        go_ret3
        exact ⟨ret3_int E.out.1.symm E.out.2.1.symm E.out.2.2.symm, (((Below.refl _ _).alloc (Nat.le_refl _) _).alloc (by simp) _)⟩
    · have E := Lib.hid (show Dv.bl1 d lo hi br = 0 ∧ Dv.bl2 d lo hi br = 0 ∧ Dv.bl3 d lo hi br = 3 from by simp [Dv.bl1, Dv.bl2, Dv.bl3, Dv.blR, h0])
      go_enter Try.func20, Try.ntmps20
      go_wp2_with (first | (go_at_call 67; refine (up4 _ _ _ _ _ _ _ (by simp) (by omega) (by omega)).mono ?_; rintro e w' ⟨rfl, rfl⟩) | (go_at_call 70; refine (clip_c _ _ _ _).mono ?_; rintro e w' ⟨rfl, rfl⟩))
      go_ret3
      exact ⟨ret3_int E.out.1.symm E.out.2.1.symm E.out.2.2.symm, (((Below.refl _ _).alloc (Nat.le_refl _) _).alloc (by simp) _)⟩
  · have hu : upB 68719476736 [d, lo, hi, br] = false := by simpa using hu
    have E := Lib.hid (show Dv.bl1 d lo hi br = 0 ∧ Dv.bl2 d lo hi br = 0 ∧ Dv.bl3 d lo hi br = 3 from by simp [Dv.bl1, Dv.bl2, Dv.bl3, Dv.blR, hu])
    go_enter Try.func20, Try.ntmps20
    go_wp2_with (first | (go_at_call 67; refine (up4 _ _ _ _ _ _ _ (by simp) (by omega) (by omega)).mono ?_; rintro e w' ⟨rfl, rfl⟩) | (go_at_call 70; refine (clip_c _ _ _ _).mono ?_; rintro e w' ⟨rfl, rfl⟩))
    go_ret3
    exact ⟨ret3_int E.out.1.symm E.out.2.1.symm E.out.2.2.symm, (((Below.refl _ _).alloc (Nat.le_refl _) _).alloc (by simp) _)⟩
end Go.Proofs.Ytcneohhfnnelgaa
