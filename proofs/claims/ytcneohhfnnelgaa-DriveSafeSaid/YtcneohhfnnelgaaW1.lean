/- Contracts of the small functions of drive and coulombref06: quotients rounded down, clips, sines. -/
import Derived.Test.YtcneohhfnnelgaaRows
import Derived.Test.YtcneohhfnnelgaaM1
import Derived.WalkKit
import Derived.WalkSpells
import Derived.WalkLawsBesides
import Derived.IntWalk
import Derived.Lib.Hide
namespace Go.Proofs.Ytcneohhfnnelgaa
open Go.RowKit

theorem ret_int {k : IntKind} {a b : Int} (h : a = b) : Ending.returned (.int k a) = .returned (.int k b) := by rw [h]

set_option maxHeartbeats 400000 in
theorem div_c (n d : Int) (w : World) (hd : 1 ≤ d) (h0 : -4611686018427387904 ≤ n) (h1 : n ≤ 4611686018427387904) :
    Calls Try.prog 69 #[.int .i64 n, .int .i64 d] w fun e w' => e = .returned (.int .i64 (n / d)) ∧ w = w' := by
  have hb := Dv.ediv_bd n d hd 4611686018427387904 (by omega) (by omega) (by omega)
  by_cases hn : 0 ≤ n
  · have h2 : 0 ≤ n % d := Int.emod_nonneg _ (by omega)
    clear hb
    go_enter Try.func69, Try.ntmps69
    go_wp2
    go_ret
    exact ⟨rfl, rfl⟩
  · go_enter Try.func69, Try.ntmps69
    go_wp2
    · have hlt : n.tmod d < 0 := by assumption
      have e := Dv.tdiv_neg_low n d hd (by omega) hlt
      go_ret
      exact ⟨ret_int (by rw [e, IntWalk.wrap64_in _ ⟨by omega, by omega⟩]), rfl⟩
    · have hge : 0 ≤ n.tmod d := by assumption
      go_ret
      exact ⟨ret_int (Dv.tdiv_neg_even n d hd (by omega) hge), rfl⟩

set_option maxHeartbeats 400000 in
theorem Floor_c (n d : Int) (w : World) (hd : 1 ≤ d) (h0 : -4611686018427387904 ≤ n) (h1 : n ≤ 4611686018427387904) :
    Calls Try.prog 117 #[.int .i64 n, .int .i64 d] w fun e w' => e = .returned (.int .i64 (n / d)) ∧ w = w' := by
  have hb := Dv.ediv_bd n d hd 4611686018427387904 (by omega) (by omega) (by omega)
  by_cases hn : 0 ≤ n
  · have h2 : 0 ≤ n % d := Int.emod_nonneg _ (by omega)
    clear hb
    go_enter Try.func117, Try.ntmps117
    go_wp2
    go_ret
    exact ⟨rfl, rfl⟩
  · go_enter Try.func117, Try.ntmps117
    go_wp2
    · have hlt : n.tmod d < 0 := by assumption
      have e := Dv.tdiv_neg_low n d hd (by omega) hlt
      go_ret
      exact ⟨ret_int (by rw [e, IntWalk.wrap64_in _ ⟨by omega, by omega⟩]), rfl⟩
    · have hge : 0 ≤ n.tmod d := by assumption
      go_ret
      exact ⟨ret_int (Dv.tdiv_neg_even n d hd (by omega) hge), rfl⟩

set_option maxHeartbeats 400000 in
theorem floor_c (n d : Int) (w : World) (hd : 1 ≤ d) (h0 : -4611686018427387904 ≤ n) (h1 : n ≤ 4611686018427387904) :
    Calls Try.prog 85 #[.int .i64 n, .int .i64 d] w fun e w' => e = .returned (.int .i64 (n / d)) ∧ w = w' := by
  go_enter Try.func85, Try.ntmps85
  go_wp2_with (go_at_call 117; refine (Floor_c _ _ _ hd h0 h1).mono ?_; rintro e w' ⟨rfl, rfl⟩)
  go_ret
  exact ⟨rfl, rfl⟩

set_option maxHeartbeats 400000 in
theorem sine_c (a : Int) (w : World) (h0 : 0 ≤ a) (h1 : a < 65536) :
    Calls Try.prog 72 #[.int .i64 a] w fun e w' => e = .returned (.int .i64 (Dv.sine a)) ∧ w = w' := by
  by_cases h : 32768 ≤ a
  · obtain ⟨p0, p1⟩ := Dv.prod_bd (a - 32768) (by omega) (by omega)
    obtain ⟨q0, q1⟩ := Dv.sineP_bd (a - 32768) (by omega) (by omega)
    have e : Dv.sine a = -Dv.sineP (a - 32768) := by unfold Dv.sine; rw [if_pos h]
    have E := Lib.hid e
    clear e
    unfold Dv.sineP at q0 q1
    go_enter Try.func72, Try.ntmps72
    go_wp2
    go_ret
    exact ⟨ret_int (by rw [E.out]; rfl), rfl⟩
  · obtain ⟨p0, p1⟩ := Dv.prod_bd a (by omega) (by omega)
    obtain ⟨q0, q1⟩ := Dv.sineP_bd a (by omega) (by omega)
    have e : Dv.sine a = Dv.sineP a := by unfold Dv.sine; rw [if_neg h]
    have E := Lib.hid e
    clear e
    unfold Dv.sineP at q0 q1
    go_enter Try.func72, Try.ntmps72
    go_wp2
    go_ret
    exact ⟨ret_int (by rw [E.out]; rfl), rfl⟩
end Go.Proofs.Ytcneohhfnnelgaa
