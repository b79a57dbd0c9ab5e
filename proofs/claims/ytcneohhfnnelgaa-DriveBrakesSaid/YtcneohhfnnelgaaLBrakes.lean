/- The walk of coulomblaw06.DriveBrakes: it returns true at each demand, span and brake. -/
import Derived.Test.YtcneohhfnnelgaaW7
namespace Go.Proofs.Ytcneohhfnnelgaa
open Go.RowKit

/-- what Blend returns, as a case of the law needs it -/
def BlendIs (d lo hi br x b e : Int) : Prop := ∀ w : World, Calls Try.prog 20 #[.int .i64 d, .agg #[.int .i64 lo, .int .i64 hi], .int .i64 br] w fun en w' => en = .returned (.tuple #[.int .i64 x, .int .i64 b, .int .i64 e]) ∧ Below w.heap.size w w'
theorem blendIs_of {d lo hi br x b e : Int} (h1 : Dv.bl1 d lo hi br = x) (h2 : Dv.bl2 d lo hi br = b) (h3 : Dv.bl3 d lo hi br = e) : BlendIs d lo hi br x b e :=
  fun w => (Blend_c d lo hi br w).mono fun _ _ ⟨he, hw⟩ => ⟨he.trans (ret3_int h1 h2 h3), hw⟩

set_option maxHeartbeats 1000000 in
theorem br3 (d lo hi br : Int) (e : Int) (he : e = 3 ∨ e = 2) (H : BlendIs d lo hi br 0 0 e) (w : World) :
    Calls Try.prog 4 #[.int .i64 d, .agg #[.int .i64 lo, .int .i64 hi], .int .i64 br] w fun e w' => e = .returned (.bool true) ∧ Below w.heap.size w w' := by
  rcases he with rfl | rfl
  all_goals
    go_enter Try.func4, Try.ntmps4
    go_wp2_with fail
    refine (H _).mono ?_
    rintro en w1 ⟨rfl, hb1⟩
    obtain ⟨hc, hf⟩ := bcell hb1
    have c0 : w1.cell? ⟨w.heap.size, 0, none⟩ = some (.int .i64 lo) := (hc _ _ (by simp)).trans (by go_simp)
    have c1 : w1.cell? ⟨w.heap.size, 1, none⟩ = some (.int .i64 hi) := (hc _ _ (by simp)).trans (by go_simp)
    have HB := Lib.hid (show Below w.heap.size w w1 from ((Below.refl _ _).alloc (Nat.le_refl _) _).trans (hb1.mono (by simp)))
    have hz := HB.out.size
    clear hc hf hb1
    go_wp2_with (go_at_call 19; refine (known_c _).mono ?_; rintro e w2 ⟨rfl, hb2⟩)
    all_goals
      go_ret
      exact ⟨rfl, HB.out.trans (hb2.mono hz)⟩

set_option maxHeartbeats 1000000 in
theorem brA (d lo hi br : Int) (hl : lo ≤ 0) (hh : 0 ≤ hi) (h0 : 0 ≤ br) (b1 : br ≤ 68719476736) (b2 : -68719476736 ≤ lo) (b3 : hi ≤ 68719476736) (hc : hi < d) (H : BlendIs d lo hi br hi 0 0) (w : World) :
    Calls Try.prog 4 #[.int .i64 d, .agg #[.int .i64 lo, .int .i64 hi], .int .i64 br] w fun e w' => e = .returned (.bool true) ∧ Below w.heap.size w w' := by
  go_enter Try.func4, Try.ntmps4
  go_wp2_with fail
  refine (H _).mono ?_
  rintro en w1 ⟨rfl, hb1⟩
  obtain ⟨hc, hf⟩ := bcell hb1
  have c0 : w1.cell? ⟨w.heap.size, 0, none⟩ = some (.int .i64 lo) := (hc _ _ (by simp)).trans (by go_simp)
  have c1 : w1.cell? ⟨w.heap.size, 1, none⟩ = some (.int .i64 hi) := (hc _ _ (by simp)).trans (by go_simp)
  have HB := Lib.hid (show Below w.heap.size w w1 from ((Below.refl _ _).alloc (Nat.le_refl _) _).trans (hb1.mono (by simp)))
  have hz := HB.out.size
  clear hc hf hb1
  go_wp2_with (go_at_call 19; refine (known_c _).mono ?_; rintro e w2 ⟨rfl, hb2⟩)
  all_goals
    go_ret
    exact ⟨rfl, HB.out.trans (hb2.mono hz)⟩

set_option maxHeartbeats 1000000 in
theorem brB (d lo hi br : Int) (hl : lo ≤ 0) (hh : 0 ≤ hi) (h0 : 0 ≤ br) (b1 : br ≤ 68719476736) (b2 : -68719476736 ≤ lo) (b3 : hi ≤ 68719476736) (hc : lo ≤ d) (hc2 : d ≤ hi) (H : BlendIs d lo hi br d 0 0) (w : World) :
    Calls Try.prog 4 #[.int .i64 d, .agg #[.int .i64 lo, .int .i64 hi], .int .i64 br] w fun e w' => e = .returned (.bool true) ∧ Below w.heap.size w w' := by
  go_enter Try.func4, Try.ntmps4
  go_wp2_with fail
  refine (H _).mono ?_
  rintro en w1 ⟨rfl, hb1⟩
  obtain ⟨hc, hf⟩ := bcell hb1
  have c0 : w1.cell? ⟨w.heap.size, 0, none⟩ = some (.int .i64 lo) := (hc _ _ (by simp)).trans (by go_simp)
  have c1 : w1.cell? ⟨w.heap.size, 1, none⟩ = some (.int .i64 hi) := (hc _ _ (by simp)).trans (by go_simp)
  have HB := Lib.hid (show Below w.heap.size w w1 from ((Below.refl _ _).alloc (Nat.le_refl _) _).trans (hb1.mono (by simp)))
  have hz := HB.out.size
  clear hc hf hb1
  go_wp2_with (go_at_call 19; refine (known_c _).mono ?_; rintro e w2 ⟨rfl, hb2⟩)
  all_goals
    go_ret
    exact ⟨rfl, HB.out.trans (hb2.mono hz)⟩

set_option maxHeartbeats 1000000 in
theorem brC (d lo hi br : Int) (hl : lo ≤ 0) (hh : 0 ≤ hi) (h0 : 0 ≤ br) (b1 : br ≤ 68719476736) (b2 : -68719476736 ≤ lo) (b3 : hi ≤ 68719476736) (b4 : -68719476736 ≤ d) (hc : d < lo) (hc2 : br ≤ lo - d) (H : BlendIs d lo hi br lo br 0) (w : World) :
    Calls Try.prog 4 #[.int .i64 d, .agg #[.int .i64 lo, .int .i64 hi], .int .i64 br] w fun e w' => e = .returned (.bool true) ∧ Below w.heap.size w w' := by
  go_enter Try.func4, Try.ntmps4
  go_wp2_with fail
  refine (H _).mono ?_
  rintro en w1 ⟨rfl, hb1⟩
  obtain ⟨hc, hf⟩ := bcell hb1
  have c0 : w1.cell? ⟨w.heap.size, 0, none⟩ = some (.int .i64 lo) := (hc _ _ (by simp)).trans (by go_simp)
  have c1 : w1.cell? ⟨w.heap.size, 1, none⟩ = some (.int .i64 hi) := (hc _ _ (by simp)).trans (by go_simp)
  have HB := Lib.hid (show Below w.heap.size w w1 from ((Below.refl _ _).alloc (Nat.le_refl _) _).trans (hb1.mono (by simp)))
  have hz := HB.out.size
  clear hc hf hb1
  go_wp2_with (go_at_call 19; refine (known_c _).mono ?_; rintro e w2 ⟨rfl, hb2⟩)
  all_goals
    go_ret
    exact ⟨rfl, HB.out.trans (hb2.mono hz)⟩

set_option maxHeartbeats 1000000 in
theorem brD (d lo hi br : Int) (hl : lo ≤ 0) (hh : 0 ≤ hi) (h0 : 0 ≤ br) (b1 : br ≤ 68719476736) (b2 : -68719476736 ≤ lo) (b3 : hi ≤ 68719476736) (b4 : -68719476736 ≤ d) (hc : d < lo) (hc2 : lo - d < br) (H : BlendIs d lo hi br lo (lo - d) 0) (w : World) :
    Calls Try.prog 4 #[.int .i64 d, .agg #[.int .i64 lo, .int .i64 hi], .int .i64 br] w fun e w' => e = .returned (.bool true) ∧ Below w.heap.size w w' := by
  go_enter Try.func4, Try.ntmps4
  go_wp2_with fail
  refine (H _).mono ?_
  rintro en w1 ⟨rfl, hb1⟩
  obtain ⟨hc, hf⟩ := bcell hb1
  have c0 : w1.cell? ⟨w.heap.size, 0, none⟩ = some (.int .i64 lo) := (hc _ _ (by simp)).trans (by go_simp)
  have c1 : w1.cell? ⟨w.heap.size, 1, none⟩ = some (.int .i64 hi) := (hc _ _ (by simp)).trans (by go_simp)
  have HB := Lib.hid (show Below w.heap.size w w1 from ((Below.refl _ _).alloc (Nat.le_refl _) _).trans (hb1.mono (by simp)))
  have hz := HB.out.size
  clear hc hf hb1
  go_wp2_with (go_at_call 19; refine (known_c _).mono ?_; rintro e w2 ⟨rfl, hb2⟩)
  all_goals
    go_ret
    exact ⟨rfl, HB.out.trans (hb2.mono hz)⟩

theorem DriveBrakes_any (d lo hi br : Int) (w : World) :
    Calls Try.prog 4 #[.int .i64 d, .agg #[.int .i64 lo, .int .i64 hi], .int .i64 br] w fun e w' => e = .returned (.bool true) ∧ Below w.heap.size w w' := by
  by_cases hR : Dv.blR d lo hi br = true
  · have hR' := hR
    unfold Dv.blR at hR'
    rw [Bool.and_eq_true, upB4] at hR'
    obtain ⟨⟨u1, u2, u3, u4⟩, h0⟩ := hR'
    have h0 : 0 ≤ br := by simpa using h0
    by_cases hA : Dv.blA lo hi = true
    · have hA' : lo ≤ 0 ∧ 0 ≤ hi := by simpa [Dv.blA] using hA
      have h3 : Dv.bl3 d lo hi br = 0 := by simp [Dv.bl3, hR, hA]
      have h1 : Dv.bl1 d lo hi br = Dv.clip d lo hi := by simp [Dv.bl1, hR, hA]
      have h2 : Dv.bl2 d lo hi br = if Dv.clip d lo hi < d then 0 else min br (Dv.clip d lo hi - d) := by simp [Dv.bl2, hR, hA]
      by_cases c1 : hi < d
      · have e : Dv.clip d lo hi = hi := by unfold Dv.clip; omega
        exact brA d lo hi br hA'.1 hA'.2 h0 (by omega) (by omega) (by omega) c1 (blendIs_of (h1.trans e) (by rw [h2, e, if_pos c1]) h3) w
      · by_cases c2 : lo ≤ d
        · have e : Dv.clip d lo hi = d := by unfold Dv.clip; omega
          exact brB d lo hi br hA'.1 hA'.2 h0 (by omega) (by omega) (by omega) c2 (by omega) (blendIs_of (h1.trans e) (by rw [h2, e, if_neg (by omega)]; omega) h3) w
        · have e : Dv.clip d lo hi = lo := by unfold Dv.clip; omega
          by_cases c3 : br ≤ lo - d
          · exact brC d lo hi br hA'.1 hA'.2 h0 (by omega) (by omega) (by omega) (by omega) (by omega) c3 (blendIs_of (h1.trans e) (by rw [h2, e, if_neg (by omega)]; omega) h3) w
          · exact brD d lo hi br hA'.1 hA'.2 h0 (by omega) (by omega) (by omega) (by omega) (by omega) (by omega) (blendIs_of (h1.trans e) (by rw [h2, e, if_neg (by omega)]; omega) h3) w
    · exact br3 d lo hi br 2 (.inr rfl) (blendIs_of (by simp [Dv.bl1, hA]) (by simp [Dv.bl2, hA]) (by simp [Dv.bl3, hR, hA])) w
  · exact br3 d lo hi br 3 (.inl rfl) (blendIs_of (by simp [Dv.bl1, hR]) (by simp [Dv.bl2, hR]) (by simp [Dv.bl3, hR])) w
end Go.Proofs.Ytcneohhfnnelgaa
