/- The contracts of Shares and Blend of coulombref06, and of same of coulomblaw06. -/
import Derived.Test.YtcneohhfnnelgaaW40
namespace Go.Proofs.Ytcneohhfnnelgaa
open Go.RowKit
set_option linter.unusedVariables false

set_option maxHeartbeats 1000000 in
theorem SharesR_no60 (T : Int) (A : Option Addr) (xs : List Int) (cap : Nat) (w : World) (hx : IntsAt w A xs) (h : xs.length < 1) :
    Calls Try.prog 38 #[.int .i64 T, .slice A xs.length cap] w (ShRes T xs w) := by
  have E := Lib.hid (show Dv.ShOut T xs [] 6 from .inl ⟨by omega, rfl, rfl⟩)
  clear hx
  go_enter Try.func38, Try.ntmps38
  go_wp2
  go_ret2
  exact ShRes.no (Below.refl _ _) E.out

set_option maxHeartbeats 1000000 in
theorem SharesR_no61 (T : Int) (A : Option Addr) (xs : List Int) (cap : Nat) (w : World) (hx : IntsAt w A xs) (h : 8 < xs.length) :
    Calls Try.prog 38 #[.int .i64 T, .slice A xs.length cap] w (ShRes T xs w) := by
  have E := Lib.hid (show Dv.ShOut T xs [] 6 from .inl ⟨by omega, rfl, rfl⟩)
  clear hx
  go_enter Try.func38, Try.ntmps38
  go_wp2
  go_ret2
  exact ShRes.no (Below.refl _ _) E.out

set_option maxHeartbeats 1000000 in
theorem SharesR_no30 (T : Int) (A : Option Addr) (xs : List Int) (cap : Nat) (w : World) (hx : IntsAt w A xs) (h1 : 1 ≤ xs.length) (h8 : xs.length ≤ 8) (h : T < 0) :
    Calls Try.prog 38 #[.int .i64 T, .slice A xs.length cap] w (ShRes T xs w) := by
  have E := Lib.hid (show Dv.ShOut T xs [] 3 from .inr (.inl ⟨⟨h1, h8⟩, fun h' => by omega, rfl, rfl⟩))
  clear hx
  go_enter Try.func38, Try.ntmps38
  go_wp2
  go_ret2
  exact ShRes.no (Below.refl _ _) E.out

set_option maxHeartbeats 1000000 in
theorem SharesR_no31 (T : Int) (A : Option Addr) (xs : List Int) (cap : Nat) (w : World) (hx : IntsAt w A xs) (h1 : 1 ≤ xs.length) (h8 : xs.length ≤ 8) (h : 0 ≤ T) (hu : upB 68719476736 [T] = false) :
    Calls Try.prog 38 #[.int .i64 T, .slice A xs.length cap] w (ShRes T xs w) := by
  have E := Lib.hid (show Dv.ShOut T xs [] 3 from .inr (.inl ⟨⟨h1, h8⟩, (fun h' => by have h2 := h'.1; rw [upB1.2 (show -68719476736 ≤ T ∧ T ≤ 68719476736 by omega)] at hu; cases hu), rfl, rfl⟩))
  clear hx
  go_enter Try.func38, Try.ntmps38
  go_wp2_with (go_at_call 89; refine (great_c T _).mono ?_; rintro e w' ⟨rfl, rfl⟩; rw [hu])
  go_ret2
  exact ShRes.no (Below.refl _ _) E.out

set_option maxHeartbeats 1000000 in
theorem SharesR_no32 (T : Int) (A : Option Addr) (xs : List Int) (cap : Nat) (w : World) (hx : IntsAt w A xs) (h1 : 1 ≤ xs.length) (h8 : xs.length ≤ 8) (h : 0 ≤ T) (hu : upB 68719476736 [T] = true) (hno : ¬ Dv.okS xs) :
    Calls Try.prog 38 #[.int .i64 T, .slice A xs.length cap] w (ShRes T xs w) := by
  have E := Lib.hid (show Dv.ShOut T xs [] 3 from .inr (.inl ⟨⟨h1, h8⟩, fun h' => hno h'.2, rfl, rfl⟩))
  have HN := Lib.hid hno
  have HX := Lib.hid hx
  clear hno hx
  go_enter Try.func38, Try.ntmps38
  go_wp2_with (go_at_call 89; refine (great_c T _).mono ?_; rintro e w' ⟨rfl, rfl⟩; rw [hu])
  go_loop [6] (fun i => ∃ k : Nat, k ≤ xs.length ∧ i = .int .i64 k ∧ Hid (∀ j, j < k → 0 ≤ xs.getD j 0 ∧ xs.getD j 0 ≤ 68719476736)) (fun i => xs.length - (intOf i).toNat)
  case atStart => exact ⟨0, Nat.zero_le _, rfl, Lib.hid (fun j hj => absurd hj (Nat.not_lt_zero _))⟩
  case round =>
    obtain ⟨k, hk, rfl, HA⟩ := hrel
    by_cases hlt : k < xs.length
    · obtain ⟨ad, rfl, hcell⟩ := HX.out k hlt
      have HK := Lib.hid (fun (h : 0 ≤ xs.getD k 0 ∧ xs.getD k 0 ≤ 68719476736) (j : Nat) (hj : j < k + 1) => (show 0 ≤ xs.getD j 0 ∧ xs.getD j 0 ≤ 68719476736 from by
        by_cases h' : j < k
        · exact HA.out j h'
        · obtain rfl : j = k := by omega
          exact h))
      generalize hxx : xs.getD k 0 = x at hcell HK
      clear hxx
      by_cases g1 : 0 ≤ x
      · cases g2 : upB 68719476736 [x]
        · go_wp2_with (go_at_call 89; refine (great_c x _).mono ?_; rintro e w' ⟨rfl, rfl⟩; rw [g2])
          go_ret2
          exact ShRes.no (Below.refl _ _) E.out
        · have g3 := upB1.1 g2
          go_wp2_with (go_at_call 89; refine (great_c x _).mono ?_; rintro e w' ⟨rfl, rfl⟩; rw [g2])
          go_round
          case rel => exact ⟨k + 1, by omega, by go_num, Lib.hid (HK.out ⟨g1, g3.2⟩)⟩
          case measure => simp [intOf]; omega
      · go_wp2
        go_ret2
        exact ShRes.no (Below.refl _ _) E.out
    · exact absurd (Dv.okS_of fun j hj => HA.out j (by omega)) HN.out

theorem SharesR_c (T : Int) (A : Option Addr) (xs : List Int) (cap : Nat) (w : World) (hx : IntsAt w A xs) : Calls Try.prog 38 #[.int .i64 T, .slice A xs.length cap] w (ShRes T xs w) := by
  by_cases h1 : 1 ≤ xs.length
  · by_cases h8 : xs.length ≤ 8
    · by_cases h : 0 ≤ T
      · cases hu : upB 68719476736 [T]
        · exact SharesR_no31 T A xs cap w hx h1 h8 h hu
        · by_cases ho : Dv.okS xs
          · exact SharesR_go T A xs cap w hx h1 h8 ⟨h, (upB1.1 hu).2⟩ ho
          · exact SharesR_no32 T A xs cap w hx h1 h8 h hu ho
      · exact SharesR_no30 T A xs cap w hx h1 h8 (by omega)
    · exact SharesR_no61 T A xs cap w hx (by omega)
  · exact SharesR_no60 T A xs cap w hx (by omega)

theorem ret3_int' {a a' b b' c c' : Int} (h1 : a = a') (h2 : b = b') (h3 : c = c') : Ending.returned (.tuple #[.int .i64 a, .int .i64 b, .int .i64 c]) = .returned (.tuple #[.int .i64 a', .int .i64 b', .int .i64 c']) := by rw [h1, h2, h3]

set_option maxHeartbeats 1000000 in
theorem BlendR_n0 (d lo hi br : Int) (w : World) (u0 : upB 68719476736 [d] = false) (E : Hid (Dv.bl1 d lo hi br = 0 ∧ Dv.bl2 d lo hi br = 0 ∧ Dv.bl3 d lo hi br = 3)) :
    Calls Try.prog 36 #[.int .i64 d, .agg #[.int .i64 lo, .int .i64 hi], .int .i64 br] w fun e w' => e = .returned (.tuple #[.int .i64 (Dv.bl1 d lo hi br), .int .i64 (Dv.bl2 d lo hi br), .int .i64 (Dv.bl3 d lo hi br)]) ∧ Below w.heap.size w w' := by
  have GM := gmin_eq
  have GX := gmax_eq
  go_enter Try.func36, Try.ntmps36
  go_wp2_with (first | (go_at_call 89; (with_reducible refine (great_c d _).mono ?_); rintro e w' ⟨rfl, rfl⟩; rw [u0]))
  go_ret3
  exact ⟨by rw [E.out.1, E.out.2.1, E.out.2.2]; first | rfl | simp [*], (Below.refl _ _).alloc (Nat.le_refl _) _⟩

set_option maxHeartbeats 1000000 in
theorem BlendR_n1 (d lo hi br : Int) (w : World) (u0 : upB 68719476736 [d] = true) (u1 : upB 68719476736 [lo] = false) (E : Hid (Dv.bl1 d lo hi br = 0 ∧ Dv.bl2 d lo hi br = 0 ∧ Dv.bl3 d lo hi br = 3)) :
    Calls Try.prog 36 #[.int .i64 d, .agg #[.int .i64 lo, .int .i64 hi], .int .i64 br] w fun e w' => e = .returned (.tuple #[.int .i64 (Dv.bl1 d lo hi br), .int .i64 (Dv.bl2 d lo hi br), .int .i64 (Dv.bl3 d lo hi br)]) ∧ Below w.heap.size w w' := by
  have GM := gmin_eq
  have GX := gmax_eq
  go_enter Try.func36, Try.ntmps36
  go_wp2_with (first | (go_at_call 89; (with_reducible refine (great_c d _).mono ?_); rintro e w' ⟨rfl, rfl⟩; rw [u0]) | (go_at_call 89; (with_reducible refine (great_c lo _).mono ?_); rintro e w' ⟨rfl, rfl⟩; rw [u1]))
  go_ret3
  exact ⟨by rw [E.out.1, E.out.2.1, E.out.2.2]; first | rfl | simp [*], (Below.refl _ _).alloc (Nat.le_refl _) _⟩

set_option maxHeartbeats 1000000 in
theorem BlendR_n2 (d lo hi br : Int) (w : World) (u0 : upB 68719476736 [d] = true) (u1 : upB 68719476736 [lo] = true) (u2 : upB 68719476736 [hi] = false) (E : Hid (Dv.bl1 d lo hi br = 0 ∧ Dv.bl2 d lo hi br = 0 ∧ Dv.bl3 d lo hi br = 3)) :
    Calls Try.prog 36 #[.int .i64 d, .agg #[.int .i64 lo, .int .i64 hi], .int .i64 br] w fun e w' => e = .returned (.tuple #[.int .i64 (Dv.bl1 d lo hi br), .int .i64 (Dv.bl2 d lo hi br), .int .i64 (Dv.bl3 d lo hi br)]) ∧ Below w.heap.size w w' := by
  have GM := gmin_eq
  have GX := gmax_eq
  go_enter Try.func36, Try.ntmps36
  go_wp2_with (first | (go_at_call 89; (with_reducible refine (great_c d _).mono ?_); rintro e w' ⟨rfl, rfl⟩; rw [u0]) | (go_at_call 89; (with_reducible refine (great_c lo _).mono ?_); rintro e w' ⟨rfl, rfl⟩; rw [u1]) | (go_at_call 89; (with_reducible refine (great_c hi _).mono ?_); rintro e w' ⟨rfl, rfl⟩; rw [u2]))
  go_ret3
  exact ⟨by rw [E.out.1, E.out.2.1, E.out.2.2]; first | rfl | simp [*], (Below.refl _ _).alloc (Nat.le_refl _) _⟩

set_option maxHeartbeats 1000000 in
theorem BlendR_n3 (d lo hi br : Int) (w : World) (u0 : upB 68719476736 [d] = true) (u1 : upB 68719476736 [lo] = true) (u2 : upB 68719476736 [hi] = true) (h : br < 0) (E : Hid (Dv.bl1 d lo hi br = 0 ∧ Dv.bl2 d lo hi br = 0 ∧ Dv.bl3 d lo hi br = 3)) :
    Calls Try.prog 36 #[.int .i64 d, .agg #[.int .i64 lo, .int .i64 hi], .int .i64 br] w fun e w' => e = .returned (.tuple #[.int .i64 (Dv.bl1 d lo hi br), .int .i64 (Dv.bl2 d lo hi br), .int .i64 (Dv.bl3 d lo hi br)]) ∧ Below w.heap.size w w' := by
  have GM := gmin_eq
  have GX := gmax_eq
  go_enter Try.func36, Try.ntmps36
  go_wp2_with (first | (go_at_call 89; (with_reducible refine (great_c d _).mono ?_); rintro e w' ⟨rfl, rfl⟩; rw [u0]) | (go_at_call 89; (with_reducible refine (great_c lo _).mono ?_); rintro e w' ⟨rfl, rfl⟩; rw [u1]) | (go_at_call 89; (with_reducible refine (great_c hi _).mono ?_); rintro e w' ⟨rfl, rfl⟩; rw [u2]))
  go_ret3
  exact ⟨by rw [E.out.1, E.out.2.1, E.out.2.2]; first | rfl | simp [*], (Below.refl _ _).alloc (Nat.le_refl _) _⟩

set_option maxHeartbeats 1000000 in
theorem BlendR_n4 (d lo hi br : Int) (w : World) (u0 : upB 68719476736 [d] = true) (u1 : upB 68719476736 [lo] = true) (u2 : upB 68719476736 [hi] = true) (h : 0 ≤ br) (u3 : upB 68719476736 [br] = false) (E : Hid (Dv.bl1 d lo hi br = 0 ∧ Dv.bl2 d lo hi br = 0 ∧ Dv.bl3 d lo hi br = 3)) :
    Calls Try.prog 36 #[.int .i64 d, .agg #[.int .i64 lo, .int .i64 hi], .int .i64 br] w fun e w' => e = .returned (.tuple #[.int .i64 (Dv.bl1 d lo hi br), .int .i64 (Dv.bl2 d lo hi br), .int .i64 (Dv.bl3 d lo hi br)]) ∧ Below w.heap.size w w' := by
  have GM := gmin_eq
  have GX := gmax_eq
  go_enter Try.func36, Try.ntmps36
  go_wp2_with (first | (go_at_call 89; (with_reducible refine (great_c d _).mono ?_); rintro e w' ⟨rfl, rfl⟩; rw [u0]) | (go_at_call 89; (with_reducible refine (great_c lo _).mono ?_); rintro e w' ⟨rfl, rfl⟩; rw [u1]) | (go_at_call 89; (with_reducible refine (great_c hi _).mono ?_); rintro e w' ⟨rfl, rfl⟩; rw [u2]) | (go_at_call 89; (with_reducible refine (great_c br _).mono ?_); rintro e w' ⟨rfl, rfl⟩; rw [u3]))
  go_ret3
  exact ⟨by rw [E.out.1, E.out.2.1, E.out.2.2]; first | rfl | simp [*], (Below.refl _ _).alloc (Nat.le_refl _) _⟩

set_option maxHeartbeats 1000000 in
theorem BlendR_n5 (d lo hi br : Int) (w : World) (u0 : upB 68719476736 [d] = true) (u1 : upB 68719476736 [lo] = true) (u2 : upB 68719476736 [hi] = true) (h : 0 ≤ br) (u3 : upB 68719476736 [br] = true) (g : 0 < lo) (E : Hid (Dv.bl1 d lo hi br = 0 ∧ Dv.bl2 d lo hi br = 0 ∧ Dv.bl3 d lo hi br = 2)) :
    Calls Try.prog 36 #[.int .i64 d, .agg #[.int .i64 lo, .int .i64 hi], .int .i64 br] w fun e w' => e = .returned (.tuple #[.int .i64 (Dv.bl1 d lo hi br), .int .i64 (Dv.bl2 d lo hi br), .int .i64 (Dv.bl3 d lo hi br)]) ∧ Below w.heap.size w w' := by
  have GM := gmin_eq
  have GX := gmax_eq
  go_enter Try.func36, Try.ntmps36
  go_wp2_with (first | (go_at_call 89; (with_reducible refine (great_c d _).mono ?_); rintro e w' ⟨rfl, rfl⟩; rw [u0]) | (go_at_call 89; (with_reducible refine (great_c lo _).mono ?_); rintro e w' ⟨rfl, rfl⟩; rw [u1]) | (go_at_call 89; (with_reducible refine (great_c hi _).mono ?_); rintro e w' ⟨rfl, rfl⟩; rw [u2]) | (go_at_call 89; (with_reducible refine (great_c br _).mono ?_); rintro e w' ⟨rfl, rfl⟩; rw [u3]))
  go_ret3
  exact ⟨by rw [E.out.1, E.out.2.1, E.out.2.2]; first | rfl | simp [*], (Below.refl _ _).alloc (Nat.le_refl _) _⟩

set_option maxHeartbeats 1000000 in
theorem BlendR_n6 (d lo hi br : Int) (w : World) (u0 : upB 68719476736 [d] = true) (u1 : upB 68719476736 [lo] = true) (u2 : upB 68719476736 [hi] = true) (h : 0 ≤ br) (u3 : upB 68719476736 [br] = true) (g : lo ≤ 0) (g2 : hi < 0) (E : Hid (Dv.bl1 d lo hi br = 0 ∧ Dv.bl2 d lo hi br = 0 ∧ Dv.bl3 d lo hi br = 2)) :
    Calls Try.prog 36 #[.int .i64 d, .agg #[.int .i64 lo, .int .i64 hi], .int .i64 br] w fun e w' => e = .returned (.tuple #[.int .i64 (Dv.bl1 d lo hi br), .int .i64 (Dv.bl2 d lo hi br), .int .i64 (Dv.bl3 d lo hi br)]) ∧ Below w.heap.size w w' := by
  have GM := gmin_eq
  have GX := gmax_eq
  go_enter Try.func36, Try.ntmps36
  go_wp2_with (first | (go_at_call 89; (with_reducible refine (great_c d _).mono ?_); rintro e w' ⟨rfl, rfl⟩; rw [u0]) | (go_at_call 89; (with_reducible refine (great_c lo _).mono ?_); rintro e w' ⟨rfl, rfl⟩; rw [u1]) | (go_at_call 89; (with_reducible refine (great_c hi _).mono ?_); rintro e w' ⟨rfl, rfl⟩; rw [u2]) | (go_at_call 89; (with_reducible refine (great_c br _).mono ?_); rintro e w' ⟨rfl, rfl⟩; rw [u3]))
  go_ret3
  exact ⟨by rw [E.out.1, E.out.2.1, E.out.2.2]; first | rfl | simp [*], (Below.refl _ _).alloc (Nat.le_refl _) _⟩

set_option maxHeartbeats 1000000 in
theorem BlendR_up (d lo hi br : Int) (w : World) (u0 : upB 68719476736 [d] = true) (u1 : upB 68719476736 [lo] = true) (u2 : upB 68719476736 [hi] = true) (h : 0 ≤ br) (u3 : upB 68719476736 [br] = true) (g : lo ≤ 0) (g2 : 0 ≤ hi) (g3 : 0 ≤ d) (E : Hid (Dv.bl1 d lo hi br = min d hi ∧ Dv.bl2 d lo hi br = 0 ∧ Dv.bl3 d lo hi br = 0)) :
    Calls Try.prog 36 #[.int .i64 d, .agg #[.int .i64 lo, .int .i64 hi], .int .i64 br] w fun e w' => e = .returned (.tuple #[.int .i64 (Dv.bl1 d lo hi br), .int .i64 (Dv.bl2 d lo hi br), .int .i64 (Dv.bl3 d lo hi br)]) ∧ Below w.heap.size w w' := by
  have GM := gmin_eq
  have GX := gmax_eq
  go_enter Try.func36, Try.ntmps36
  go_wp2_with (first | (go_at_call 89; (with_reducible refine (great_c d _).mono ?_); rintro e w' ⟨rfl, rfl⟩; rw [u0]) | (go_at_call 89; (with_reducible refine (great_c lo _).mono ?_); rintro e w' ⟨rfl, rfl⟩; rw [u1]) | (go_at_call 89; (with_reducible refine (great_c hi _).mono ?_); rintro e w' ⟨rfl, rfl⟩; rw [u2]) | (go_at_call 89; (with_reducible refine (great_c br _).mono ?_); rintro e w' ⟨rfl, rfl⟩; rw [u3]))
  go_ret3
  exact ⟨by rw [E.out.1, E.out.2.1, E.out.2.2]; first | rfl | simp [*], (Below.refl _ _).alloc (Nat.le_refl _) _⟩

set_option maxHeartbeats 1000000 in
theorem BlendR_dn (d lo hi br : Int) (w : World) (u0 : upB 68719476736 [d] = true) (u1 : upB 68719476736 [lo] = true) (u2 : upB 68719476736 [hi] = true) (h : 0 ≤ br) (u3 : upB 68719476736 [br] = true) (g : lo ≤ 0) (g2 : 0 ≤ hi) (g3 : d < 0) (k : 0 ≤ max d lo - d ∧ max d lo - d ≤ 68719476736) (E : Hid (Dv.bl1 d lo hi br = max d lo ∧ Dv.bl2 d lo hi br = min br (max d lo - d) ∧ Dv.bl3 d lo hi br = 0)) :
    Calls Try.prog 36 #[.int .i64 d, .agg #[.int .i64 lo, .int .i64 hi], .int .i64 br] w fun e w' => e = .returned (.tuple #[.int .i64 (Dv.bl1 d lo hi br), .int .i64 (Dv.bl2 d lo hi br), .int .i64 (Dv.bl3 d lo hi br)]) ∧ Below w.heap.size w w' := by
  have GM := gmin_eq
  have GX := gmax_eq
  go_enter Try.func36, Try.ntmps36
  go_wp2_with (first | (go_at_call 89; (with_reducible refine (great_c d _).mono ?_); rintro e w' ⟨rfl, rfl⟩; rw [u0]) | (go_at_call 89; (with_reducible refine (great_c lo _).mono ?_); rintro e w' ⟨rfl, rfl⟩; rw [u1]) | (go_at_call 89; (with_reducible refine (great_c hi _).mono ?_); rintro e w' ⟨rfl, rfl⟩; rw [u2]) | (go_at_call 89; (with_reducible refine (great_c br _).mono ?_); rintro e w' ⟨rfl, rfl⟩; rw [u3]))
  go_ret3
  exact ⟨by rw [E.out.1, E.out.2.1, E.out.2.2]; first | rfl | simp [*], (Below.refl _ _).alloc (Nat.le_refl _) _⟩

theorem upB_4 {m a b c d : Int} : upB m [a, b, c, d] = (upB m [a] && (upB m [b] && (upB m [c] && upB m [d]))) := by simp [upB]
theorem BlendR_c (d lo hi br : Int) (w : World) : Calls Try.prog 36 #[.int .i64 d, .agg #[.int .i64 lo, .int .i64 hi], .int .i64 br] w fun e w' => e = .returned (.tuple #[.int .i64 (Dv.bl1 d lo hi br), .int .i64 (Dv.bl2 d lo hi br), .int .i64 (Dv.bl3 d lo hi br)]) ∧ Below w.heap.size w w' := by
  cases u0 : upB 68719476736 [d]
  · exact BlendR_n0 d lo hi br w u0 (Lib.hid (by simp [Dv.bl1, Dv.bl2, Dv.bl3, Dv.blR, upB_4, u0]))
  · cases u1 : upB 68719476736 [lo]
    · exact BlendR_n1 d lo hi br w u0 u1 (Lib.hid (by simp [Dv.bl1, Dv.bl2, Dv.bl3, Dv.blR, upB_4, u1]))
    · cases u2 : upB 68719476736 [hi]
      · exact BlendR_n2 d lo hi br w u0 u1 u2 (Lib.hid (by simp [Dv.bl1, Dv.bl2, Dv.bl3, Dv.blR, upB_4, u2]))
      · by_cases h : 0 ≤ br
        · cases u3 : upB 68719476736 [br]
          · exact BlendR_n4 d lo hi br w u0 u1 u2 h u3 (Lib.hid (by simp [Dv.bl1, Dv.bl2, Dv.bl3, Dv.blR, upB_4, u3]))
          · have hR : Dv.blR d lo hi br = true := by simp [Dv.blR, upB_4, u0, u1, u2, u3, h]
            have b0 := upB1.1 u0
            have b1 := upB1.1 u1
            by_cases g : lo ≤ 0
            · by_cases g2 : 0 ≤ hi
              · have hA : Dv.blA lo hi = true := by simp [Dv.blA, g, g2]
                by_cases g3 : 0 ≤ d
                · have e : Dv.clip d lo hi = min d hi := by unfold Dv.clip; omega
                  refine BlendR_up d lo hi br w u0 u1 u2 h u3 g g2 g3 (Lib.hid ⟨by simp [Dv.bl1, hR, hA, e], ?_, by simp [Dv.bl3, hR, hA]⟩)
                  simp only [Dv.bl2, hR, hA, if_true, e]
                  split <;> omega
                · have e : Dv.clip d lo hi = max d lo := by unfold Dv.clip; omega
                  refine BlendR_dn d lo hi br w u0 u1 u2 h u3 g g2 (by omega) (by omega) (Lib.hid ⟨by simp [Dv.bl1, hR, hA, e], ?_, by simp [Dv.bl3, hR, hA]⟩)
                  simp only [Dv.bl2, hR, hA, if_true, e]
                  split <;> omega
              · have hA : Dv.blA lo hi = false := by simp [Dv.blA, g2]
                exact BlendR_n6 d lo hi br w u0 u1 u2 h u3 g (by omega) (Lib.hid (by simp [Dv.bl1, Dv.bl2, Dv.bl3, hR, hA]))
            · have hA : Dv.blA lo hi = false := by simp [Dv.blA, g]
              exact BlendR_n5 d lo hi br w u0 u1 u2 h u3 (by omega) (Lib.hid (by simp [Dv.bl1, Dv.bl2, Dv.bl3, hR, hA]))
        · exact BlendR_n3 d lo hi br w u0 u1 u2 (by omega) (Lib.hid (by simp [Dv.bl1, Dv.bl2, Dv.bl3, Dv.blR, h]))

set_option maxHeartbeats 1000000 in
theorem same_c (A B : Option Addr) (ys : List Int) (c c' : Nat) (w : World) (ha : IntsAt w A ys) (hb : IntsAt w B ys) (hl : ys.length ≤ 4611686018427387904) :
    Calls Try.prog 39 #[.slice A ys.length c, .slice B ys.length c'] w fun e w' => e = .returned (.bool true) ∧ Below w.heap.size w w' := by
  have HA := Lib.hid ha
  have HB := Lib.hid hb
  clear ha hb
  go_enter Try.func39, Try.ntmps39
  go_wp2
  go_loopw [5] (fun i wr => ∃ k : Nat, k ≤ ys.length ∧ i = .int .i64 k ∧ Hid (Below w.heap.size w wr)) (fun i _ => ys.length - (intOf i).toNat)
  case atStart => exact ⟨0, Nat.zero_le _, rfl, Lib.hid (Below.refl _ _)⟩
  case round =>
    obtain ⟨k, hk, rfl, HW⟩ := hrel
    by_cases hlt : k < ys.length
    · obtain ⟨ad, rfl, hc⟩ := HA.out.below HW.out k hlt
      obtain ⟨bd, rfl, hd⟩ := HB.out.below HW.out k hlt
      have z1 := World.block_lt_of_cell? _ _ hc
      have z2 := World.block_lt_of_cell? _ _ hd
      generalize ys.getD k 0 = x at hc hd
      have hpc : ∀ y : Past wr, y.w.cell? (ad.add k) = some (.int .i64 x) := fun y => (y.far.cell z1).trans hc
      have hpd : ∀ y : Past wr, y.w.cell? (bd.add k) = some (.int .i64 x) := fun y => (y.far.cell z2).trans hd
      go_wp2_with fail
      refine wp_region_past (by kernel_rfl) (by kernel_rfl) ?_
      repeat (go_big_quiet_step (fail))
      refine wpQuiet_nil ?_
      intro y
      have HW2 := Lib.hid (HW.out.trans (y.far.mono HW.out.size))
      clear hpc hpd
      generalize y.w = w4 at HW2 ⊢
      go_wp2
      go_roundw
      case rel => exact ⟨k + 1, by omega, by go_num, HW2⟩
      case measure => simp [intOf]; omega
    · go_wp2
      go_ret
      exact ⟨rfl, HW.out⟩
end Go.Proofs.Ytcneohhfnnelgaa
