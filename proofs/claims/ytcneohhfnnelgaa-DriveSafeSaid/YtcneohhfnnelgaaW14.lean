/- Contracts of angle, sine, cosine, Sin, Cos, Two, TurnTo, TurnBack, Phases and bus of coulombref06. -/
import Derived.Test.YtcneohhfnnelgaaW13
namespace Go.Proofs.Ytcneohhfnnelgaa
open Go.RowKit
set_option linter.unusedVariables false

set_option maxHeartbeats 400000 in
theorem angleR_c (a : Int) (w : World) : Calls Try.prog 82 #[.int .i64 a] w fun e w' => e = .returned (.bool (Dv.angB a)) ∧ w = w' := by
  go_enter Try.func82, Try.ntmps82
  go_wp2_with (go_at_call 80; refine (within_c _ _ _ _).mono ?_; rintro e w' ⟨rfl, rfl⟩)
  go_ret
  exact ⟨ret_bool (by rw [Bool.eq_iff_iff]; simp [Dv.inB, Dv.angB]; omega), rfl⟩

set_option maxHeartbeats 400000 in
theorem sineR_lo (a : Int) (w : World) (h0 : 0 ≤ a) (h1 : a < 32768) : Calls Try.prog 83 #[.int .i64 a] w fun e w' => e = .returned (.int .i64 (Dv.sineP a)) ∧ w = w' := by
  obtain ⟨p0, p1⟩ := Dv.prod_bd a (by omega) (by omega)
  go_enter Try.func83, Try.ntmps83
  go_wp2_with (go_at_call 85; refine (floor_c _ _ _ (by omega) (by omega) (by omega)).mono ?_; rintro e w' ⟨rfl, rfl⟩)
  go_ret
  exact ⟨rfl, rfl⟩

set_option maxHeartbeats 400000 in
theorem sineR_c (a : Int) (w : World) (h0 : 0 ≤ a) (h1 : a < 65536) : Calls Try.prog 83 #[.int .i64 a] w fun e w' => e = .returned (.int .i64 (Dv.sine a)) ∧ w = w' := by
  by_cases h : 32768 ≤ a
  · obtain ⟨q0, q1⟩ := Dv.sineP_bd (a - 32768) (by omega) (by omega)
    have E := Lib.hid (show Dv.sine a = -Dv.sineP (a - 32768) from by unfold Dv.sine; rw [if_pos h])
    go_enter Try.func83, Try.ntmps83
    go_wp2_with (go_at_call 83; refine (sineR_lo (a - 32768) _ (by omega) (by omega)).mono ?_; rintro e w' ⟨rfl, rfl⟩)
    go_ret
    exact ⟨ret_int E.out.symm, rfl⟩
  · have E : Dv.sine a = Dv.sineP a := by unfold Dv.sine; rw [if_neg h]
    rw [E]
    exact sineR_lo a w h0 (by omega)

set_option maxHeartbeats 400000 in
theorem cosineR_c (a : Int) (w : World) (h0 : 0 ≤ a) (h1 : a < 65536) : Calls Try.prog 84 #[.int .i64 a] w fun e w' => e = .returned (.int .i64 (Dv.cosine a)) ∧ w = w' := by
  have hm0 : 0 ≤ (a + 16384) % 65536 := by omega
  have hm1 : (a + 16384) % 65536 < 65536 := by omega
  go_enter Try.func84, Try.ntmps84
  go_wp2_with (go_at_call 83; refine (sineR_c _ _ hm0 hm1).mono ?_; rintro e w' ⟨rfl, rfl⟩)
  go_ret
  exact ⟨rfl, rfl⟩

set_option maxHeartbeats 400000 in
theorem SinR_c (a : Int) (w : World) : Calls Try.prog 25 #[.int .i64 a] w fun e w' => e = .returned (.tuple #[.int .i64 (Dv.sinV a), .int .i64 (Dv.sinE a)]) ∧ w = w' := by
  by_cases h : Dv.angB a = true
  · have h' : 0 ≤ a ∧ a < 65536 := by simpa [Dv.angB] using h
    obtain ⟨h0, h1⟩ := h'
    have E := Lib.hid (show Dv.sinV a = Dv.sine a ∧ Dv.sinE a = 0 from by simp [Dv.sinV, Dv.sinE, h])
    go_enter Try.func25, Try.ntmps25
    go_wp2_with (first | (go_at_call 82; refine (angleR_c _ _).mono ?_; rintro e w' ⟨rfl, rfl⟩) | (go_at_call 83; refine (sineR_c _ _ h0 h1).mono ?_; rintro e w' ⟨rfl, rfl⟩))
    go_ret2
    exact ⟨ret2_int E.out.1.symm E.out.2.symm, rfl⟩
  · have h : Dv.angB a = false := by simpa using h
    have E := Lib.hid (show Dv.sinV a = 0 ∧ Dv.sinE a = 3 from by simp [Dv.sinV, Dv.sinE, h])
    go_enter Try.func25, Try.ntmps25
    go_wp2_with (first | (go_at_call 82; refine (angleR_c _ _).mono ?_; rintro e w' ⟨rfl, rfl⟩))
    go_ret2
    exact ⟨ret2_int E.out.1.symm E.out.2.symm, rfl⟩

set_option maxHeartbeats 400000 in
theorem CosR_c (a : Int) (w : World) : Calls Try.prog 26 #[.int .i64 a] w fun e w' => e = .returned (.tuple #[.int .i64 (Dv.cosV a), .int .i64 (Dv.sinE a)]) ∧ w = w' := by
  by_cases h : Dv.angB a = true
  · have h' : 0 ≤ a ∧ a < 65536 := by simpa [Dv.angB] using h
    obtain ⟨h0, h1⟩ := h'
    have E := Lib.hid (show Dv.cosV a = Dv.cosine a ∧ Dv.sinE a = 0 from by simp [Dv.cosV, Dv.sinE, h])
    go_enter Try.func26, Try.ntmps26
    go_wp2_with (first | (go_at_call 82; refine (angleR_c _ _).mono ?_; rintro e w' ⟨rfl, rfl⟩) | (go_at_call 84; refine (cosineR_c _ _ h0 h1).mono ?_; rintro e w' ⟨rfl, rfl⟩))
    go_ret2
    exact ⟨ret2_int E.out.1.symm E.out.2.symm, rfl⟩
  · have h : Dv.angB a = false := by simpa using h
    have E := Lib.hid (show Dv.cosV a = 0 ∧ Dv.sinE a = 3 from by simp [Dv.cosV, Dv.sinE, h])
    go_enter Try.func26, Try.ntmps26
    go_wp2_with (first | (go_at_call 82; refine (angleR_c _ _).mono ?_; rintro e w' ⟨rfl, rfl⟩))
    go_ret2
    exact ⟨ret2_int E.out.1.symm E.out.2.symm, rfl⟩

theorem up3_and (m a b c : Int) : upB m [a, b, c] = (upB m [a] && (upB m [b] && upB m [c])) := by simp [upB]
theorem up2_and (m a b : Int) : upB m [a, b] = (upB m [a] && upB m [b]) := by simp [upB]

set_option maxHeartbeats 400000 in
theorem TwoR_c (a b c : Int) (w : World) : Calls Try.prog 28 #[.int .i64 a, .int .i64 b, .int .i64 c] w fun e w' => e = .returned (.tuple #[.int .i64 (Dv.two1 a b c), .int .i64 (Dv.two2 a b c), .int .i64 (Dv.twoE a b c)]) ∧ w = w' := by
  cases hu : upB 1073741824 [a, b, c]
  · have E := Lib.hid (show Dv.two1 a b c = 0 ∧ Dv.two2 a b c = 0 ∧ Dv.twoE a b c = 3 from by simp [Dv.two1, Dv.two2, Dv.twoE, Dv.twoB, hu])
    rw [up3_and] at hu
    cases ha : upB 1073741824 [a]
    · go_enter Try.func28, Try.ntmps28
      go_wp2_with (go_at_call 79; refine (volt_c _ _).mono ?_; rintro e w' ⟨rfl, rfl⟩)
      go_ret3
      exact ⟨ret3_int E.out.1.symm E.out.2.1.symm E.out.2.2.symm, rfl⟩
    · cases hb : upB 1073741824 [b]
      · go_enter Try.func28, Try.ntmps28
        go_wp2_with (go_at_call 79; refine (volt_c _ _).mono ?_; rintro e w' ⟨rfl, rfl⟩)
        go_ret3
        exact ⟨ret3_int E.out.1.symm E.out.2.1.symm E.out.2.2.symm, rfl⟩
      · have hc : upB 1073741824 [c] = false := by simpa [ha, hb] using hu
        clear hu
        go_enter Try.func28, Try.ntmps28
        go_wp2_with (go_at_call 79; refine (volt_c _ _).mono ?_; rintro e w' ⟨rfl, rfl⟩)
        go_ret3
        exact ⟨ret3_int E.out.1.symm E.out.2.1.symm E.out.2.2.symm, rfl⟩
  · obtain ⟨ba, bb, bc⟩ := upB3.1 hu
    have ua := upB1.2 ba
    have ub := upB1.2 bb
    have uc := upB1.2 bc
    by_cases hs : a + b + c = 0
    · have E := Lib.hid (show Dv.two1 a b c = a ∧ Dv.two2 a b c = (a + 2 * b) * 37837 / 65536 ∧ Dv.twoE a b c = 0 from by simp [Dv.two1, Dv.two2, Dv.twoE, Dv.twoB, hu, hs])
      have hs' : (a + b + c != 0) = false := by simpa using hs
      clear hs hu
      go_enter Try.func28, Try.ntmps28
      go_wp2_with (first | (go_at_call 79; refine (volt_c _ _).mono ?_; rintro e w' ⟨rfl, rfl⟩) | (go_at_call 85; refine (floor_c _ _ _ (by omega) (by omega) (by omega)).mono ?_; rintro e w' ⟨rfl, rfl⟩))
      go_ret3
      exact ⟨ret3_int E.out.1.symm E.out.2.1.symm E.out.2.2.symm, rfl⟩
    · have E := Lib.hid (show Dv.two1 a b c = 0 ∧ Dv.two2 a b c = 0 ∧ Dv.twoE a b c = 20 from by simp [Dv.two1, Dv.two2, Dv.twoE, Dv.twoB, hu, hs])
      have hs' : (a + b + c != 0) = true := by simpa using hs
      clear hs hu
      go_enter Try.func28, Try.ntmps28
      go_wp2_with (first | (go_at_call 79; refine (volt_c _ _).mono ?_; rintro e w' ⟨rfl, rfl⟩))
      go_ret3
      exact ⟨ret3_int E.out.1.symm E.out.2.1.symm E.out.2.2.symm, rfl⟩

theorem turn_cases {a b x : Int} (h : Dv.turnB a b x = false) : upB 1073741824 [a] = false ∨ (upB 1073741824 [a] = true ∧ upB 1073741824 [b] = false) ∨ (upB 1073741824 [a] = true ∧ upB 1073741824 [b] = true ∧ Dv.angB x = false) := by
  unfold Dv.turnB at h
  rw [up2_and] at h
  cases ha : upB 1073741824 [a] <;> cases hb : upB 1073741824 [b] <;> cases hx : Dv.angB x <;> simp_all

set_option maxHeartbeats 400000 in
theorem TurnToR_c (a b x : Int) (w : World) : Calls Try.prog 30 #[.int .i64 a, .int .i64 b, .int .i64 x] w fun e w' => e = .returned (.tuple #[.int .i64 (Dv.turnTo1 a b x), .int .i64 (Dv.turnTo2 a b x), .int .i64 (Dv.turnE a b x)]) ∧ w = w' := by
  cases h : Dv.turnB a b x
  · have E := Lib.hid (show Dv.turnTo1 a b x = 0 ∧ Dv.turnTo2 a b x = 0 ∧ Dv.turnE a b x = 3 from by simp [Dv.turnTo1, Dv.turnTo2, Dv.turnE, h])
    rcases turn_cases h with h1 | ⟨h1, h2⟩ | ⟨h1, h2, h3⟩
    all_goals
      clear h
      go_enter Try.func30, Try.ntmps30
      go_wp2_with (first | (go_at_call 79; refine (volt_c _ _).mono ?_; rintro e w' ⟨rfl, rfl⟩) | (go_at_call 82; refine (angleR_c _ _).mono ?_; rintro e w' ⟨rfl, rfl⟩))
      go_ret3
      exact ⟨ret3_int E.out.1.symm E.out.2.1.symm E.out.2.2.symm, rfl⟩
  · have h' := h
    unfold Dv.turnB at h'
    rw [Bool.and_eq_true] at h'
    obtain ⟨hup, hang⟩ := h'
    have E := Lib.hid (show Dv.turnTo1 a b x = Dv.turnX a b (Dv.sine x) (Dv.cosine x) ∧ Dv.turnTo2 a b x = Dv.turnY a b (Dv.sine x) (Dv.cosine x) ∧ Dv.turnE a b x = 0 from by simp [Dv.turnTo1, Dv.turnTo2, Dv.turnE, h])
    obtain ⟨ha, hb⟩ := upB2.1 hup
    have ua := upB1.2 ha
    have ub := upB1.2 hb
    have h' : 0 ≤ x ∧ x < 65536 := by simpa [Dv.angB] using hang
    obtain ⟨h0, h1⟩ := h'
    have hs := Dv.sine_bd x h0 h1
    have hc : -16384 ≤ Dv.cosine x ∧ Dv.cosine x ≤ 16384 := Dv.sine_bd _ (by omega) (by omega)
    obtain ⟨a0, a1⟩ := Dv.mul_bd _ _ ha hc
    obtain ⟨b0, b1⟩ := Dv.mul_bd _ _ hb hs
    obtain ⟨c0, c1⟩ := Dv.mul_bd _ _ hb hc
    obtain ⟨d0, d1⟩ := Dv.mul_bd _ _ ha hs
    clear h hup
    go_enter Try.func30, Try.ntmps30
    go_wp2_with (first | (go_at_call 79; refine (volt_c _ _).mono ?_; rintro e w' ⟨rfl, rfl⟩) | (go_at_call 82; refine (angleR_c _ _).mono ?_; rintro e w' ⟨rfl, rfl⟩) | (go_at_call 83; refine (sineR_c _ _ h0 h1).mono ?_; rintro e w' ⟨rfl, rfl⟩) | (go_at_call 84; refine (cosineR_c _ _ h0 h1).mono ?_; rintro e w' ⟨rfl, rfl⟩) | (go_at_call 85; refine (floor_c _ _ _ (by omega) (by omega) (by omega)).mono ?_; rintro e w' ⟨rfl, rfl⟩))
    go_ret3
    exact ⟨ret3_int E.out.1.symm E.out.2.1.symm E.out.2.2.symm, rfl⟩

set_option maxHeartbeats 400000 in
theorem TurnBackR_c (a b x : Int) (w : World) : Calls Try.prog 32 #[.int .i64 a, .int .i64 b, .int .i64 x] w fun e w' => e = .returned (.tuple #[.int .i64 (Dv.back1 a b x), .int .i64 (Dv.back2 a b x), .int .i64 (Dv.turnE a b x)]) ∧ w = w' := by
  cases h : Dv.turnB a b x
  · have E := Lib.hid (show Dv.back1 a b x = 0 ∧ Dv.back2 a b x = 0 ∧ Dv.turnE a b x = 3 from by simp [Dv.back1, Dv.back2, Dv.turnE, h])
    rcases turn_cases h with h1 | ⟨h1, h2⟩ | ⟨h1, h2, h3⟩
    all_goals
      clear h
      go_enter Try.func32, Try.ntmps32
      go_wp2_with (first | (go_at_call 79; refine (volt_c _ _).mono ?_; rintro e w' ⟨rfl, rfl⟩) | (go_at_call 82; refine (angleR_c _ _).mono ?_; rintro e w' ⟨rfl, rfl⟩))
      go_ret3
      exact ⟨ret3_int E.out.1.symm E.out.2.1.symm E.out.2.2.symm, rfl⟩
  · have h' := h
    unfold Dv.turnB at h'
    rw [Bool.and_eq_true] at h'
    obtain ⟨hup, hang⟩ := h'
    have E := Lib.hid (show Dv.back1 a b x = (a * Dv.cosine x - b * Dv.sine x) / 16384 ∧ Dv.back2 a b x = (a * Dv.sine x + b * Dv.cosine x) / 16384 ∧ Dv.turnE a b x = 0 from by
      refine ⟨?_, ?_, by simp [Dv.turnE, h]⟩
      · simp only [Dv.back1, h, if_true, Dv.turnX]; rw [Int.mul_neg, ← Int.sub_eq_add_neg]
      · simp only [Dv.back2, h, if_true, Dv.turnY]; rw [Int.mul_neg, Int.sub_neg, Int.add_comm])
    obtain ⟨ha, hb⟩ := upB2.1 hup
    have ua := upB1.2 ha
    have ub := upB1.2 hb
    have h' : 0 ≤ x ∧ x < 65536 := by simpa [Dv.angB] using hang
    obtain ⟨h0, h1⟩ := h'
    have hs := Dv.sine_bd x h0 h1
    have hc : -16384 ≤ Dv.cosine x ∧ Dv.cosine x ≤ 16384 := Dv.sine_bd _ (by omega) (by omega)
    obtain ⟨a0, a1⟩ := Dv.mul_bd _ _ ha hc
    obtain ⟨b0, b1⟩ := Dv.mul_bd _ _ hb hs
    obtain ⟨c0, c1⟩ := Dv.mul_bd _ _ hb hc
    obtain ⟨d0, d1⟩ := Dv.mul_bd _ _ ha hs
    clear h hup
    go_enter Try.func32, Try.ntmps32
    go_wp2_with (first | (go_at_call 79; refine (volt_c _ _).mono ?_; rintro e w' ⟨rfl, rfl⟩) | (go_at_call 82; refine (angleR_c _ _).mono ?_; rintro e w' ⟨rfl, rfl⟩) | (go_at_call 83; refine (sineR_c _ _ h0 h1).mono ?_; rintro e w' ⟨rfl, rfl⟩) | (go_at_call 84; refine (cosineR_c _ _ h0 h1).mono ?_; rintro e w' ⟨rfl, rfl⟩) | (go_at_call 85; refine (floor_c _ _ _ (by omega) (by omega) (by omega)).mono ?_; rintro e w' ⟨rfl, rfl⟩))
    go_ret3
    exact ⟨ret3_int E.out.1.symm E.out.2.1.symm E.out.2.2.symm, rfl⟩

set_option maxHeartbeats 400000 in
theorem PhasesR_c (a b : Int) (w : World) : Calls Try.prog 34 #[.int .i64 a, .int .i64 b] w fun e w' => e = .returned (.tuple #[.agg #[.int .i64 (Dv.ph1 a b), .int .i64 (Dv.ph2 a b), .int .i64 (Dv.ph3 a b)], .int .i64 (Dv.phE a b)]) ∧ Below w.heap.size w w' := by
  cases hu : upB 1073741824 [a, b]
  · have E := Lib.hid (show Dv.ph1 a b = 0 ∧ Dv.ph2 a b = 0 ∧ Dv.ph3 a b = 0 ∧ Dv.phE a b = 3 from by simp [Dv.ph1, Dv.ph2, Dv.ph3, Dv.phE, Dv.phB, hu])
    rw [up2_and] at hu
    cases ha : upB 1073741824 [a]
    · go_enter Try.func34, Try.ntmps34
      go_wp2_with (go_at_call 79; refine (volt_c _ _).mono ?_; rintro e w' ⟨rfl, rfl⟩)
      exact bodyPost_ret (v := .tuple #[.agg #[.int .i64 0, .int .i64 0, .int .i64 0], .int .i64 3]) (by simp [results, Try.results34, go_sem]) rfl ⟨retPh E.out.1.symm E.out.2.1.symm E.out.2.2.1.symm E.out.2.2.2.symm, ((Below.refl _ _).alloc (Nat.le_refl _) _)⟩
    · have hb : upB 1073741824 [b] = false := by simpa [ha] using hu
      clear hu
      go_enter Try.func34, Try.ntmps34
      go_wp2_with (go_at_call 79; refine (volt_c _ _).mono ?_; rintro e w' ⟨rfl, rfl⟩)
      exact bodyPost_ret (v := .tuple #[.agg #[.int .i64 0, .int .i64 0, .int .i64 0], .int .i64 3]) (by simp [results, Try.results34, go_sem]) rfl ⟨retPh E.out.1.symm E.out.2.1.symm E.out.2.2.1.symm E.out.2.2.2.symm, ((Below.refl _ _).alloc (Nat.le_refl _) _)⟩
  · obtain ⟨ba, bb⟩ := upB2.1 hu
    have ua := upB1.2 ba
    have ub := upB1.2 bb
    have hw := Dv.ediv_bd (b * 113512) 65536 (by omega) 121882616823808 (by omega) (by omega) (by omega)
    have E := Lib.hid (show Dv.ph1 a b = a ∧ Dv.ph2 a b = (b * 113512 / 65536 - a) / 2 ∧ Dv.ph3 a b = (-(b * 113512 / 65536) - a) / 2 ∧ Dv.phE a b = 0 from by simp [Dv.ph1, Dv.ph2, Dv.ph3, Dv.phE, Dv.phB, Dv.phW, hu])
    clear hu
    go_enter Try.func34, Try.ntmps34
    go_wp2_with (first | (go_at_call 79; refine (volt_c _ _).mono ?_; rintro e w' ⟨rfl, rfl⟩) | (go_at_call 85; refine (floor_c _ _ _ (by omega) (by omega) (by omega)).mono ?_; rintro e w' ⟨rfl, rfl⟩))
    exact bodyPost_ret (v := .tuple #[.agg #[.int .i64 a, .int .i64 ((b * 113512 / 65536 - a) / 2), .int .i64 ((-(b * 113512 / 65536) - a) / 2)], .int .i64 0]) (by simp [results, Try.results34, go_sem]) rfl ⟨retPh E.out.1.symm E.out.2.1.symm E.out.2.2.1.symm E.out.2.2.2.symm, ((Below.refl _ _).alloc (Nat.le_refl _) _)⟩

namespace Dv
def busB (u : Int) : Bool := inB u 1 1073741824
def busE (u : Int) : Int := if busB u = true then 0 else 3
end Dv
set_option maxHeartbeats 400000 in
theorem busR_c (u : Int) (w : World) : Calls Try.prog 87 #[.int .i64 u] w fun e w' => e = .returned (.int .i64 (Dv.busE u)) ∧ w = w' := by
  cases h : Dv.inB u 1 1073741824
  all_goals
    have E := Lib.hid (show Dv.busE u = _ from by unfold Dv.busE Dv.busB; rw [h])
    go_enter Try.func87, Try.ntmps87
    go_wp2_with (go_at_call 80; refine (within_c _ _ _ _).mono ?_; rintro e w' ⟨rfl, rfl⟩)
    go_ret
    exact ⟨ret_int E.out.symm, rfl⟩
end Go.Proofs.Ytcneohhfnnelgaa
