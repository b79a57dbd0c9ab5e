/- Contracts of Two, TurnBack and Phases of drive, and of angle, sine, cosine, Sin, Cos, Two, TurnTo, TurnBack, Phases, bus of coulombref06. -/
import Derived.Test.YtcneohhfnnelgaaW12
namespace Go.Proofs.Ytcneohhfnnelgaa
open Go.RowKit
set_option linter.unusedVariables false

namespace Dv
def twoB (a b c : Int) : Bool := upB 1073741824 [a, b, c]
def two1 (a b c : Int) : Int := if twoB a b c = true ∧ a + b + c = 0 then a else 0
def two2 (a b c : Int) : Int := if twoB a b c = true ∧ a + b + c = 0 then (a + 2 * b) * 37837 / 65536 else 0
def twoE (a b c : Int) : Int := if twoB a b c = true then (if a + b + c = 0 then 0 else 20) else 3
def back1 (d q x : Int) : Int := if turnB d q x = true then turnX d q (-sine x) (cosine x) else 0
def back2 (d q x : Int) : Int := if turnB d q x = true then turnY d q (-sine x) (cosine x) else 0
def phB (a b : Int) : Bool := upB 1073741824 [a, b]
def phW (b : Int) : Int := b * 113512 / 65536
def ph1 (a b : Int) : Int := if phB a b = true then a else 0
def ph2 (a b : Int) : Int := if phB a b = true then (phW b - a) / 2 else 0
def ph3 (a b : Int) : Int := if phB a b = true then (-phW b - a) / 2 else 0
def phE (a b : Int) : Int := if phB a b = true then 0 else 3
end Dv

set_option maxHeartbeats 400000 in
theorem Two_c (a b c : Int) (w : World) : Calls Try.prog 27 #[.int .i64 a, .int .i64 b, .int .i64 c] w fun e w' => e = .returned (.tuple #[.int .i64 (Dv.two1 a b c), .int .i64 (Dv.two2 a b c), .int .i64 (Dv.twoE a b c)]) ∧ Below w.heap.size w w' := by
  cases hu : upB 1073741824 [a, b, c]
  · have E := Lib.hid (show Dv.two1 a b c = 0 ∧ Dv.two2 a b c = 0 ∧ Dv.twoE a b c = 3 from by simp [Dv.two1, Dv.two2, Dv.twoE, Dv.twoB, hu])
    go_enter Try.func27, Try.ntmps27
    go_wp2_with (go_at_call 67; refine (up3 _ _ _ _ _ _ rfl (by omega) (by omega)).mono ?_; rintro e w' ⟨rfl, rfl⟩)
    go_ret3
    exact ⟨ret3_int E.out.1.symm E.out.2.1.symm E.out.2.2.symm, (Below.refl _ _).alloc (Nat.le_refl _) _⟩
  · obtain ⟨ba, bb, bc⟩ := upB3.1 hu
    by_cases hs : a + b + c = 0
    · have E := Lib.hid (show Dv.two1 a b c = a ∧ Dv.two2 a b c = (a + 2 * b) * 37837 / 65536 ∧ Dv.twoE a b c = 0 from by simp [Dv.two1, Dv.two2, Dv.twoE, Dv.twoB, hu, hs])
      have hs' : (a + b + c != 0) = false := by simpa using hs
      clear hs
      go_enter Try.func27, Try.ntmps27
      go_wp2_with (first | (go_at_call 67; refine (up3 _ _ _ _ _ _ rfl (by omega) (by omega)).mono ?_; rintro e w' ⟨rfl, rfl⟩) | (go_at_call 69; refine (div_c _ _ _ (by omega) (by omega) (by omega)).mono ?_; rintro e w' ⟨rfl, rfl⟩))
      go_ret3
      exact ⟨ret3_int E.out.1.symm E.out.2.1.symm E.out.2.2.symm, (Below.refl _ _).alloc (Nat.le_refl _) _⟩
    · have E := Lib.hid (show Dv.two1 a b c = 0 ∧ Dv.two2 a b c = 0 ∧ Dv.twoE a b c = 20 from by simp [Dv.two1, Dv.two2, Dv.twoE, Dv.twoB, hu, hs])
      have hs' : (a + b + c != 0) = true := by simpa using hs
      clear hs
      go_enter Try.func27, Try.ntmps27
      go_wp2_with (first | (go_at_call 67; refine (up3 _ _ _ _ _ _ rfl (by omega) (by omega)).mono ?_; rintro e w' ⟨rfl, rfl⟩))
      go_ret3
      exact ⟨ret3_int E.out.1.symm E.out.2.1.symm E.out.2.2.symm, (Below.refl _ _).alloc (Nat.le_refl _) _⟩

set_option maxHeartbeats 400000 in
theorem TurnBack_c (a b x : Int) (w : World) : Calls Try.prog 31 #[.int .i64 a, .int .i64 b, .int .i64 x] w fun e w' => e = .returned (.tuple #[.int .i64 (Dv.back1 a b x), .int .i64 (Dv.back2 a b x), .int .i64 (Dv.turnE a b x)]) ∧ Below w.heap.size w w' := by
  by_cases h : Dv.turnB a b x = true
  · have h' := h
    unfold Dv.turnB at h'
    rw [Bool.and_eq_true] at h'
    obtain ⟨hup, hang⟩ := h'
    have E := Lib.hid (show Dv.back1 a b x = Dv.turnX a b (-Dv.sine x) (Dv.cosine x) ∧ Dv.back2 a b x = Dv.turnY a b (-Dv.sine x) (Dv.cosine x) ∧ Dv.turnE a b x = 0 from by simp [Dv.back1, Dv.back2, Dv.turnE, h])
    obtain ⟨ha, hb⟩ := upB2.1 hup
    have h' : 0 ≤ x ∧ x < 65536 := by simpa [Dv.angB] using hang
    obtain ⟨h0, h1⟩ := h'
    have hs := Dv.sine_bd x h0 h1
    have hs' : -16384 ≤ -Dv.sine x ∧ -Dv.sine x ≤ 16384 := by omega
    have hc : -16384 ≤ Dv.cosine x ∧ Dv.cosine x ≤ 16384 := Dv.sine_bd _ (by omega) (by omega)
    clear h
    go_enter Try.func31, Try.ntmps31
    go_wp2_with (first | (go_at_call 67; refine (up2 _ _ _ _ _ rfl (by omega) (by omega)).mono ?_; rintro e w' ⟨rfl, rfl⟩) | (go_at_call 71; refine (angle_c _ _).mono ?_; rintro e w' ⟨rfl, rfl⟩) | (go_at_call 72; refine (sine_c _ _ h0 h1).mono ?_; rintro e w' ⟨rfl, rfl⟩) | (go_at_call 73; refine (cosine_c _ _ h0 h1).mono ?_; rintro e w' ⟨rfl, rfl⟩) | (go_at_call 86; refine (turned_c _ _ _ _ _ ha hb hs' hc).mono ?_; rintro e w' ⟨rfl, rfl⟩))
    go_ret3
    exact ⟨ret3_int E.out.1.symm E.out.2.1.symm E.out.2.2.symm, (Below.refl _ _).alloc (Nat.le_refl _) _⟩
  · have E := Lib.hid (show Dv.back1 a b x = 0 ∧ Dv.back2 a b x = 0 ∧ Dv.turnE a b x = 3 from by simp [Dv.back1, Dv.back2, Dv.turnE, h])
    by_cases hup : upB 1073741824 [a, b] = true
    · have hang : Dv.angB x = false := by
        cases hx : Dv.angB x
        · rfl
        · exact absurd (by rw [Dv.turnB, hup, hx]; rfl) h
      clear h
      go_enter Try.func31, Try.ntmps31
      go_wp2_with (first | (go_at_call 67; refine (up2 _ _ _ _ _ rfl (by omega) (by omega)).mono ?_; rintro e w' ⟨rfl, rfl⟩) | (go_at_call 71; refine (angle_c _ _).mono ?_; rintro e w' ⟨rfl, rfl⟩))
      go_ret3
      exact ⟨ret3_int E.out.1.symm E.out.2.1.symm E.out.2.2.symm, (Below.refl _ _).alloc (Nat.le_refl _) _⟩
    · have hup : upB 1073741824 [a, b] = false := by simpa using hup
      clear h
      go_enter Try.func31, Try.ntmps31
      go_wp2_with (first | (go_at_call 67; refine (up2 _ _ _ _ _ rfl (by omega) (by omega)).mono ?_; rintro e w' ⟨rfl, rfl⟩))
      go_ret3
      exact ⟨ret3_int E.out.1.symm E.out.2.1.symm E.out.2.2.symm, (Below.refl _ _).alloc (Nat.le_refl _) _⟩

theorem retPh {k : IntKind} {a b c a' b' c' e e' : Int} (h1 : a = a') (h2 : b = b') (h3 : c = c') (h5 : e = e') :
    Ending.returned (.tuple #[.agg #[.int k a, .int k b, .int k c], .int k e]) = .returned (.tuple #[.agg #[.int k a', .int k b', .int k c'], .int k e']) := by rw [h1, h2, h3, h5]

set_option maxHeartbeats 400000 in
theorem Phases_c (a b : Int) (w : World) : Calls Try.prog 33 #[.int .i64 a, .int .i64 b] w fun e w' => e = .returned (.tuple #[.agg #[.int .i64 (Dv.ph1 a b), .int .i64 (Dv.ph2 a b), .int .i64 (Dv.ph3 a b)], .int .i64 (Dv.phE a b)]) ∧ Below w.heap.size w w' := by
  cases hu : upB 1073741824 [a, b]
  · have E := Lib.hid (show Dv.ph1 a b = 0 ∧ Dv.ph2 a b = 0 ∧ Dv.ph3 a b = 0 ∧ Dv.phE a b = 3 from by simp [Dv.ph1, Dv.ph2, Dv.ph3, Dv.phE, Dv.phB, hu])
    go_enter Try.func33, Try.ntmps33
    go_wp2_with (go_at_call 67; refine (up2 _ _ _ _ _ (by simp) (by omega) (by omega)).mono ?_; rintro e w' ⟨rfl, rfl⟩)
    exact bodyPost_ret (v := .tuple #[.agg #[.int .i64 0, .int .i64 0, .int .i64 0], .int .i64 3]) (by simp [results, Try.results33, go_sem]) rfl ⟨retPh E.out.1.symm E.out.2.1.symm E.out.2.2.1.symm E.out.2.2.2.symm, ((Below.refl _ _).alloc (Nat.le_refl _) _).alloc (by simp) _⟩
  · obtain ⟨ba, bb⟩ := upB2.1 hu
    have hw := Dv.ediv_bd (b * 113512) 65536 (by omega) 121882616823808 (by omega) (by omega) (by omega)
    have E := Lib.hid (show Dv.ph1 a b = a ∧ Dv.ph2 a b = (b * 113512 / 65536 - a) / 2 ∧ Dv.ph3 a b = (-(b * 113512 / 65536) - a) / 2 ∧ Dv.phE a b = 0 from by simp [Dv.ph1, Dv.ph2, Dv.ph3, Dv.phE, Dv.phB, Dv.phW, hu])
    go_enter Try.func33, Try.ntmps33
    go_wp2_with (first | (go_at_call 67; refine (up2 _ _ _ _ _ (by simp) (by omega) (by omega)).mono ?_; rintro e w' ⟨rfl, rfl⟩) | (go_at_call 69; refine (div_c _ _ _ (by omega) (by omega) (by omega)).mono ?_; rintro e w' ⟨rfl, rfl⟩))
    exact bodyPost_ret (v := .tuple #[.agg #[.int .i64 a, .int .i64 ((b * 113512 / 65536 - a) / 2), .int .i64 ((-(b * 113512 / 65536) - a) / 2)], .int .i64 0]) (by simp [results, Try.results33, go_sem]) rfl ⟨retPh E.out.1.symm E.out.2.1.symm E.out.2.2.1.symm E.out.2.2.2.symm, ((Below.refl _ _).alloc (Nat.le_refl _) _).alloc (by simp) _⟩
end Go.Proofs.Ytcneohhfnnelgaa
