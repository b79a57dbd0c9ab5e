/- The walk of coulomblaw06.DriveSines: it returns true at each angle. -/
import Derived.Test.YtcneohhfnnelgaaW7
namespace Go.Proofs.Ytcneohhfnnelgaa
open Go.RowKit

theorem Sin_ok (a : Int) (w : World) (h0 : 0 ≤ a) (h1 : a < 65536) : Calls Try.prog 21 #[.int .i64 a] w fun e w' => e = .returned (.tuple #[.int .i64 (Dv.sine a), .int .i64 0]) ∧ w = w' :=
  (Sin_c a w).mono fun _ _ ⟨he, hw⟩ => ⟨he.trans (ret2_int (by simp [Dv.sinV, Dv.angB, h0, h1]) (by simp [Dv.sinE, Dv.angB, h0, h1])), hw⟩
theorem Cos_ok (a : Int) (w : World) (h0 : 0 ≤ a) (h1 : a < 65536) : Calls Try.prog 22 #[.int .i64 a] w fun e w' => e = .returned (.tuple #[.int .i64 (Dv.cosine a), .int .i64 0]) ∧ w = w' :=
  (Cos_c a w).mono fun _ _ ⟨he, hw⟩ => ⟨he.trans (ret2_int (by simp [Dv.cosV, Dv.angB, h0, h1]) (by simp [Dv.sinE, Dv.angB, h0, h1])), hw⟩
theorem Sin_half (a : Int) (w : World) (h0 : 0 ≤ a) (h1 : a < 65536) : Calls Try.prog 21 #[.int .i64 ((a + 32768) % 65536)] w fun e w' => e = .returned (.tuple #[.int .i64 (-Dv.sine a), .int .i64 0]) ∧ w = w' :=
  (Sin_ok _ w (by omega) (by omega)).mono fun _ _ ⟨he, hw⟩ => ⟨he.trans (ret2_int (Dv.sine_half a h0 h1) rfl), hw⟩

set_option maxHeartbeats 1000000 in
theorem DriveSines_any (a : Int) (w : World) (h0 : 0 ≤ a) (h1 : a < 65536) :
    Calls Try.prog 5 #[.int .u16 a] w fun e w' => e = .returned (.bool true) ∧ Below w.heap.size w w' := by
  have hs := Dv.sine_bd a h0 h1
  have hc : -16384 ≤ Dv.cosine a ∧ Dv.cosine a ≤ 16384 := Dv.sine_bd _ (by omega) (by omega)
  have hq := Dv.sine_sq a h0 h1
  obtain ⟨s0, s1⟩ := Dv.mul_bd _ _ hs hs
  obtain ⟨c0, c1⟩ := Dv.mul_bd _ _ hc hc
  go_enter Try.func5, Try.ntmps5
  go_wp2_with fail
  refine (Sin_ok _ _ h0 h1).mono ?_
  rintro e w' ⟨rfl, rfl⟩
  go_wp2_with fail
  refine (Cos_ok _ _ h0 h1).mono ?_
  rintro e w' ⟨rfl, rfl⟩
  go_wp2_with fail
  refine (Sin_half _ _ h0 h1).mono ?_
  rintro e w' ⟨rfl, rfl⟩
  go_wp2_with fail
  refine (known_c _).mono ?_
  rintro e w1 ⟨rfl, hb⟩
  go_wp2
  go_ret
  exact ⟨rfl, hb⟩
end Go.Proofs.Ytcneohhfnnelgaa
