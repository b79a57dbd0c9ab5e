/- Contracts of the regulator's step, in each of its five cases. -/
import Derived.Test.YtcneohhfnnelgaaW8
namespace Go.Proofs.Ytcneohhfnnelgaa
open Go.RowKit
set_option linter.unusedVariables false

set_option maxHeartbeats 1000000 in
theorem step_A (b : Nat) (p i s e lo hi : Int) (w : World) (hb : b < w.heap.size) (c0 : w.cell? ⟨b, 0, none⟩ = some (.int .i64 p)) (c1 : w.cell? ⟨b, 1, none⟩ = some (.int .i64 i)) (c2 : w.cell? ⟨b, 2, none⟩ = some (.int .i64 s)) (f2 : w.frozen? ⟨b, 2, none⟩ = false)
    (hp : 0 ≤ p ∧ p ≤ 16777216) (hi' : 0 ≤ i ∧ i ≤ 16777216) (hs : -1073741824 ≤ s ∧ s ≤ 1073741824) (he : -2097152 ≤ e ∧ e ≤ 2097152) (hlh : lo ≤ hi) (hr : lo ≤ p * e / 65536 + s ∧ p * e / 65536 + s ≤ hi)  :
    Calls Try.prog 76 #[.pointer (some ⟨b, 0, none⟩), .int .i64 e, .agg #[.int .i64 lo, .int .i64 hi]] w fun en w' => en = .returned (.int .i64 (p * e / 65536 + s)) ∧ StepW w b p i (Dv.regS i s e true) w' := by
  obtain ⟨m0, m1⟩ := Dv.mul_bd (x := p) (y := e) 16777216 2097152 (by omega) he
  obtain ⟨k0, k1⟩ := Dv.mul_bd (x := i) (y := e) 16777216 2097152 (by omega) he
  have q := Dv.ediv_bd (p * e) 65536 (by omega) (16777216 * 2097152) m0 m1 (by omega)
  have q2 := Dv.ediv_bd (i * e) 65536 (by omega) (16777216 * 2097152) k0 k1 (by omega)
  have HC := Lib.hid (show Dv.clip (p * e / 65536 + s) lo hi = p * e / 65536 + s from by unfold Dv.clip; omega)
  have HB := Lib.hid hb
  go_enter Try.func76, Try.ntmps76
  go_wp2_with fail
  go_quiet ((go_at_call 69; exact quiet_left (div_c _ _ _ (by omega) (by omega) (by omega))))
  go_wp2_with fail
  refine (clip_c _ _ _ _).mono ?_
  rintro e1 w' ⟨rfl, rfl⟩
  rw [HC.out]
  go_wp2_with fail
  have r1 : IntKind.i64.wrap (i * e) = i * e := IntWalk.i64_in _ (by omega)
  have r2 : IntKind.i64.wrap (s + i * e / 65536) = s + i * e / 65536 := IntWalk.i64_in _ (by omega)
  go_region_with (go_at_call 69; refine (div_c _ _ _ (by omega) (by omega) (by omega)).mono ?_; rintro e w' ⟨rfl, rfl⟩)
  all_goals
    clear r1 r2
    go_wp2_with (go_at_call 70; refine (clip_c _ _ _ _).mono ?_; rintro e1 w' ⟨rfl, rfl⟩)
    go_ret
    exact ⟨rfl, stepW_two hb c0 c1 c2 f2 _ _ _ _⟩

set_option maxHeartbeats 1000000 in
theorem step_B (b : Nat) (p i s e lo hi : Int) (w : World) (hb : b < w.heap.size) (c0 : w.cell? ⟨b, 0, none⟩ = some (.int .i64 p)) (c1 : w.cell? ⟨b, 1, none⟩ = some (.int .i64 i)) (c2 : w.cell? ⟨b, 2, none⟩ = some (.int .i64 s)) (f2 : w.frozen? ⟨b, 2, none⟩ = false)
    (hp : 0 ≤ p ∧ p ≤ 16777216) (hi' : 0 ≤ i ∧ i ≤ 16777216) (hs : -1073741824 ≤ s ∧ s ≤ 1073741824) (he : -2097152 ≤ e ∧ e ≤ 2097152) (hlh : lo ≤ hi) (hr : hi < p * e / 65536 + s) (hsg : e < 0) :
    Calls Try.prog 76 #[.pointer (some ⟨b, 0, none⟩), .int .i64 e, .agg #[.int .i64 lo, .int .i64 hi]] w fun en w' => en = .returned (.int .i64 (hi)) ∧ StepW w b p i (Dv.regS i s e true) w' := by
  obtain ⟨m0, m1⟩ := Dv.mul_bd (x := p) (y := e) 16777216 2097152 (by omega) he
  obtain ⟨k0, k1⟩ := Dv.mul_bd (x := i) (y := e) 16777216 2097152 (by omega) he
  have q := Dv.ediv_bd (p * e) 65536 (by omega) (16777216 * 2097152) m0 m1 (by omega)
  have q2 := Dv.ediv_bd (i * e) 65536 (by omega) (16777216 * 2097152) k0 k1 (by omega)
  have HC := Lib.hid (show Dv.clip (p * e / 65536 + s) lo hi = hi from by unfold Dv.clip; omega)
  have HB := Lib.hid hb
  go_enter Try.func76, Try.ntmps76
  go_wp2_with fail
  go_quiet ((go_at_call 69; exact quiet_left (div_c _ _ _ (by omega) (by omega) (by omega))))
  go_wp2_with fail
  refine (clip_c _ _ _ _).mono ?_
  rintro e1 w' ⟨rfl, rfl⟩
  rw [HC.out]
  have hne : (p * e / 65536 + s == hi) = false := by simp; omega
  go_wp2_with fail
  have r1 : IntKind.i64.wrap (i * e) = i * e := IntWalk.i64_in _ (by omega)
  have r2 : IntKind.i64.wrap (s + i * e / 65536) = s + i * e / 65536 := IntWalk.i64_in _ (by omega)
  go_region_with (go_at_call 69; refine (div_c _ _ _ (by omega) (by omega) (by omega)).mono ?_; rintro e w' ⟨rfl, rfl⟩)
  all_goals
    clear r1 r2
    go_wp2_with (go_at_call 70; refine (clip_c _ _ _ _).mono ?_; rintro e1 w' ⟨rfl, rfl⟩)
    go_ret
    exact ⟨rfl, stepW_two hb c0 c1 c2 f2 _ _ _ _⟩

set_option maxHeartbeats 1000000 in
theorem step_C (b : Nat) (p i s e lo hi : Int) (w : World) (hb : b < w.heap.size) (c0 : w.cell? ⟨b, 0, none⟩ = some (.int .i64 p)) (c1 : w.cell? ⟨b, 1, none⟩ = some (.int .i64 i)) (c2 : w.cell? ⟨b, 2, none⟩ = some (.int .i64 s)) (f2 : w.frozen? ⟨b, 2, none⟩ = false)
    (hp : 0 ≤ p ∧ p ≤ 16777216) (hi' : 0 ≤ i ∧ i ≤ 16777216) (hs : -1073741824 ≤ s ∧ s ≤ 1073741824) (he : -2097152 ≤ e ∧ e ≤ 2097152) (hlh : lo ≤ hi) (hr : p * e / 65536 + s < lo) (hsg : 0 < e) :
    Calls Try.prog 76 #[.pointer (some ⟨b, 0, none⟩), .int .i64 e, .agg #[.int .i64 lo, .int .i64 hi]] w fun en w' => en = .returned (.int .i64 (lo)) ∧ StepW w b p i (Dv.regS i s e true) w' := by
  obtain ⟨m0, m1⟩ := Dv.mul_bd (x := p) (y := e) 16777216 2097152 (by omega) he
  obtain ⟨k0, k1⟩ := Dv.mul_bd (x := i) (y := e) 16777216 2097152 (by omega) he
  have q := Dv.ediv_bd (p * e) 65536 (by omega) (16777216 * 2097152) m0 m1 (by omega)
  have q2 := Dv.ediv_bd (i * e) 65536 (by omega) (16777216 * 2097152) k0 k1 (by omega)
  have HC := Lib.hid (show Dv.clip (p * e / 65536 + s) lo hi = lo from by unfold Dv.clip; omega)
  have HB := Lib.hid hb
  go_enter Try.func76, Try.ntmps76
  go_wp2_with fail
  go_quiet ((go_at_call 69; exact quiet_left (div_c _ _ _ (by omega) (by omega) (by omega))))
  go_wp2_with fail
  refine (clip_c _ _ _ _).mono ?_
  rintro e1 w' ⟨rfl, rfl⟩
  rw [HC.out]
  have hne : (p * e / 65536 + s == lo) = false := by simp; omega
  go_wp2_with fail
  have r1 : IntKind.i64.wrap (i * e) = i * e := IntWalk.i64_in _ (by omega)
  have r2 : IntKind.i64.wrap (s + i * e / 65536) = s + i * e / 65536 := IntWalk.i64_in _ (by omega)
  go_region_with (go_at_call 69; refine (div_c _ _ _ (by omega) (by omega) (by omega)).mono ?_; rintro e w' ⟨rfl, rfl⟩)
  all_goals
    clear r1 r2
    go_wp2_with (go_at_call 70; refine (clip_c _ _ _ _).mono ?_; rintro e1 w' ⟨rfl, rfl⟩)
    go_ret
    exact ⟨rfl, stepW_two hb c0 c1 c2 f2 _ _ _ _⟩

set_option maxHeartbeats 1000000 in
theorem step_D (b : Nat) (p i s e lo hi : Int) (w : World) (hb : b < w.heap.size) (c0 : w.cell? ⟨b, 0, none⟩ = some (.int .i64 p)) (c1 : w.cell? ⟨b, 1, none⟩ = some (.int .i64 i)) (c2 : w.cell? ⟨b, 2, none⟩ = some (.int .i64 s)) (f2 : w.frozen? ⟨b, 2, none⟩ = false)
    (hp : 0 ≤ p ∧ p ≤ 16777216) (hi' : 0 ≤ i ∧ i ≤ 16777216) (hs : -1073741824 ≤ s ∧ s ≤ 1073741824) (he : -2097152 ≤ e ∧ e ≤ 2097152) (hlh : lo ≤ hi) (hr : hi < p * e / 65536 + s) (hsg : 0 ≤ e) :
    Calls Try.prog 76 #[.pointer (some ⟨b, 0, none⟩), .int .i64 e, .agg #[.int .i64 lo, .int .i64 hi]] w fun en w' => en = .returned (.int .i64 (hi)) ∧ StepW w b p i (Dv.regS i s e false) w' := by
  obtain ⟨m0, m1⟩ := Dv.mul_bd (x := p) (y := e) 16777216 2097152 (by omega) he
  obtain ⟨k0, k1⟩ := Dv.mul_bd (x := i) (y := e) 16777216 2097152 (by omega) he
  have q := Dv.ediv_bd (p * e) 65536 (by omega) (16777216 * 2097152) m0 m1 (by omega)
  have q2 := Dv.ediv_bd (i * e) 65536 (by omega) (16777216 * 2097152) k0 k1 (by omega)
  have HC := Lib.hid (show Dv.clip (p * e / 65536 + s) lo hi = hi from by unfold Dv.clip; omega)
  have HB := Lib.hid hb
  go_enter Try.func76, Try.ntmps76
  go_wp2_with fail
  go_quiet ((go_at_call 69; exact quiet_left (div_c _ _ _ (by omega) (by omega) (by omega))))
  go_wp2_with fail
  refine (clip_c _ _ _ _).mono ?_
  rintro e1 w' ⟨rfl, rfl⟩
  rw [HC.out]
  have hne : (p * e / 65536 + s == hi) = false := by simp; omega
  go_wp2_with fail
  refine (clip_c _ _ _ _).mono ?_
  rintro e1 w' ⟨rfl, rfl⟩
  go_wp2
  go_ret
  exact ⟨rfl, stepW_one hb c0 c1 c2 f2 _ _ _⟩

set_option maxHeartbeats 1000000 in
theorem step_E (b : Nat) (p i s e lo hi : Int) (w : World) (hb : b < w.heap.size) (c0 : w.cell? ⟨b, 0, none⟩ = some (.int .i64 p)) (c1 : w.cell? ⟨b, 1, none⟩ = some (.int .i64 i)) (c2 : w.cell? ⟨b, 2, none⟩ = some (.int .i64 s)) (f2 : w.frozen? ⟨b, 2, none⟩ = false)
    (hp : 0 ≤ p ∧ p ≤ 16777216) (hi' : 0 ≤ i ∧ i ≤ 16777216) (hs : -1073741824 ≤ s ∧ s ≤ 1073741824) (he : -2097152 ≤ e ∧ e ≤ 2097152) (hlh : lo ≤ hi) (hr : p * e / 65536 + s < lo) (hsg : e < 0) :
    Calls Try.prog 76 #[.pointer (some ⟨b, 0, none⟩), .int .i64 e, .agg #[.int .i64 lo, .int .i64 hi]] w fun en w' => en = .returned (.int .i64 (lo)) ∧ StepW w b p i (Dv.regS i s e false) w' := by
  obtain ⟨m0, m1⟩ := Dv.mul_bd (x := p) (y := e) 16777216 2097152 (by omega) he
  obtain ⟨k0, k1⟩ := Dv.mul_bd (x := i) (y := e) 16777216 2097152 (by omega) he
  have q := Dv.ediv_bd (p * e) 65536 (by omega) (16777216 * 2097152) m0 m1 (by omega)
  have q2 := Dv.ediv_bd (i * e) 65536 (by omega) (16777216 * 2097152) k0 k1 (by omega)
  have HC := Lib.hid (show Dv.clip (p * e / 65536 + s) lo hi = lo from by unfold Dv.clip; omega)
  have HB := Lib.hid hb
  go_enter Try.func76, Try.ntmps76
  go_wp2_with fail
  go_quiet ((go_at_call 69; exact quiet_left (div_c _ _ _ (by omega) (by omega) (by omega))))
  go_wp2_with fail
  refine (clip_c _ _ _ _).mono ?_
  rintro e1 w' ⟨rfl, rfl⟩
  rw [HC.out]
  have hne : (p * e / 65536 + s == lo) = false := by simp; omega
  go_wp2_with fail
  refine (clip_c _ _ _ _).mono ?_
  rintro e1 w' ⟨rfl, rfl⟩
  go_wp2
  go_ret
  exact ⟨rfl, stepW_one hb c0 c1 c2 f2 _ _ _⟩

set_option maxHeartbeats 1000000 in
theorem step_F (b : Nat) (p i s e lo hi : Int) (w : World) (hb : b < w.heap.size) (c0 : w.cell? ⟨b, 0, none⟩ = some (.int .i64 p)) (c1 : w.cell? ⟨b, 1, none⟩ = some (.int .i64 i)) (c2 : w.cell? ⟨b, 2, none⟩ = some (.int .i64 s)) (f2 : w.frozen? ⟨b, 2, none⟩ = false)
    (hp : 0 ≤ p ∧ p ≤ 16777216) (hi' : 0 ≤ i ∧ i ≤ 16777216) (hs : -1073741824 ≤ s ∧ s ≤ 1073741824) (he : -2097152 ≤ e ∧ e ≤ 2097152) (hlh : lo ≤ hi) (hr : p * e / 65536 + s < lo) (hsg : 0 ≤ e) (hne0 : (e != 0) = false) :
    Calls Try.prog 76 #[.pointer (some ⟨b, 0, none⟩), .int .i64 e, .agg #[.int .i64 lo, .int .i64 hi]] w fun en w' => en = .returned (.int .i64 (lo)) ∧ StepW w b p i (Dv.regS i s e false) w' := by
  obtain ⟨m0, m1⟩ := Dv.mul_bd (x := p) (y := e) 16777216 2097152 (by omega) he
  obtain ⟨k0, k1⟩ := Dv.mul_bd (x := i) (y := e) 16777216 2097152 (by omega) he
  have q := Dv.ediv_bd (p * e) 65536 (by omega) (16777216 * 2097152) m0 m1 (by omega)
  have q2 := Dv.ediv_bd (i * e) 65536 (by omega) (16777216 * 2097152) k0 k1 (by omega)
  have HC := Lib.hid (show Dv.clip (p * e / 65536 + s) lo hi = lo from by unfold Dv.clip; omega)
  have HB := Lib.hid hb
  go_enter Try.func76, Try.ntmps76
  go_wp2_with fail
  go_quiet ((go_at_call 69; exact quiet_left (div_c _ _ _ (by omega) (by omega) (by omega))))
  go_wp2_with fail
  refine (clip_c _ _ _ _).mono ?_
  rintro e1 w' ⟨rfl, rfl⟩
  rw [HC.out]
  have hne : (p * e / 65536 + s == lo) = false := by simp; omega
  go_wp2_with fail
  refine (clip_c _ _ _ _).mono ?_
  rintro e1 w' ⟨rfl, rfl⟩
  go_wp2
  go_ret
  exact ⟨rfl, stepW_one hb c0 c1 c2 f2 _ _ _⟩

theorem step_c (b : Nat) (p i s e lo hi : Int) (w : World) (hb : b < w.heap.size) (c0 : w.cell? ⟨b, 0, none⟩ = some (.int .i64 p)) (c1 : w.cell? ⟨b, 1, none⟩ = some (.int .i64 i)) (c2 : w.cell? ⟨b, 2, none⟩ = some (.int .i64 s)) (f2 : w.frozen? ⟨b, 2, none⟩ = false)
    (hp : 0 ≤ p ∧ p ≤ 16777216) (hi' : 0 ≤ i ∧ i ≤ 16777216) (hs : -1073741824 ≤ s ∧ s ≤ 1073741824) (he : -2097152 ≤ e ∧ e ≤ 2097152) (hlh : lo ≤ hi) :
    Calls Try.prog 76 #[.pointer (some ⟨b, 0, none⟩), .int .i64 e, .agg #[.int .i64 lo, .int .i64 hi]] w fun en w' => en = .returned (.int .i64 (Dv.clip (Dv.raw p s e) lo hi)) ∧ StepW w b p i (Dv.regS i s e (Dv.regC (Dv.raw p s e) e lo hi)) w' := by
  have hraw : Dv.raw p s e = p * e / 65536 + s := rfl
  rw [hraw]
  have fin : ∀ (v : Int) (c : Bool), Dv.clip (p * e / 65536 + s) lo hi = v → Dv.regC (p * e / 65536 + s) e lo hi = c →
      Calls Try.prog 76 #[.pointer (some ⟨b, 0, none⟩), .int .i64 e, .agg #[.int .i64 lo, .int .i64 hi]] w (fun en w' => en = .returned (.int .i64 v) ∧ StepW w b p i (Dv.regS i s e c) w') →
      Calls Try.prog 76 #[.pointer (some ⟨b, 0, none⟩), .int .i64 e, .agg #[.int .i64 lo, .int .i64 hi]] w fun en w' => en = .returned (.int .i64 (Dv.clip (p * e / 65536 + s) lo hi)) ∧ StepW w b p i (Dv.regS i s e (Dv.regC (p * e / 65536 + s) e lo hi)) w' := by
    intro v c h1 h2 h
    rw [h1, h2]
    exact h
  by_cases h1 : p * e / 65536 + s < lo
  · by_cases h2 : 0 < e
    · exact fin lo true (by unfold Dv.clip; omega) (by simp [Dv.regC]; omega) (step_C b p i s e lo hi w hb c0 c1 c2 f2 hp hi' hs he hlh h1 h2)
    · by_cases h3 : e < 0
      · exact fin lo false (by unfold Dv.clip; omega) (by simp [Dv.regC]; omega) (step_E b p i s e lo hi w hb c0 c1 c2 f2 hp hi' hs he hlh h1 h3)
      · exact fin lo false (by unfold Dv.clip; omega) (by simp [Dv.regC]; omega) (step_F b p i s e lo hi w hb c0 c1 c2 f2 hp hi' hs he hlh h1 (by omega) (by simp; omega))
  · by_cases h4 : hi < p * e / 65536 + s
    · by_cases h2 : e < 0
      · exact fin hi true (by unfold Dv.clip; omega) (by simp [Dv.regC]; omega) (step_B b p i s e lo hi w hb c0 c1 c2 f2 hp hi' hs he hlh h4 h2)
      · exact fin hi false (by unfold Dv.clip; omega) (by simp [Dv.regC]; omega) (step_D b p i s e lo hi w hb c0 c1 c2 f2 hp hi' hs he hlh h4 (by omega))
    · exact fin _ true (by unfold Dv.clip; omega) (by simp [Dv.regC]; omega) (step_A b p i s e lo hi w hb c0 c1 c2 f2 hp hi' hs he hlh (by omega))
end Go.Proofs.Ytcneohhfnnelgaa
