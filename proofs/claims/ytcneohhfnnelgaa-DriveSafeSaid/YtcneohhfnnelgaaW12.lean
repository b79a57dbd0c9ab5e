/- Contracts of gains, regulate and Regulate of coulombref06. -/
import Derived.Test.YtcneohhfnnelgaaW11
namespace Go.Proofs.Ytcneohhfnnelgaa
open Go.RowKit
set_option linter.unusedVariables false

theorem inB_true {x lo hi : Int} (h1 : lo ≤ x) (h2 : x ≤ hi) : Dv.inB x lo hi = true := by simp [Dv.inB, h1, h2]
theorem inB_false {x lo hi : Int} (h : ¬ (lo ≤ x ∧ x ≤ hi)) : Dv.inB x lo hi = false := by simp only [Dv.inB, decide_eq_false_iff_not]; exact h

set_option maxHeartbeats 400000 in
theorem gains_c (p i : Int) (w : World) : Calls Try.prog 77 #[.agg #[.int .i64 p, .int .i64 i]] w fun e w' => e = .returned (.bool (Dv.tunB p i)) ∧ Below w.heap.size w w' := by
  cases h1 : Dv.inB p 0 16777216
  · go_enter Try.func77, Try.ntmps77
    go_wp2_with (go_at_call 80; refine (within_c _ _ _ _).mono ?_; rintro e w' ⟨rfl, rfl⟩)
    go_ret
    exact ⟨ret_bool (by
      have : ¬ (0 ≤ p ∧ p ≤ 16777216) := by simpa [Dv.inB] using h1
      rw [Bool.eq_iff_iff]; simp [Dv.tunB]; omega), ((Below.refl _ _).alloc (Nat.le_refl _) _)⟩
  · go_enter Try.func77, Try.ntmps77
    go_wp2_with (go_at_call 80; refine (within_c _ _ _ _).mono ?_; rintro e w' ⟨rfl, rfl⟩)
    go_ret
    exact ⟨ret_bool (by
      have : (0 ≤ p ∧ p ≤ 16777216) := by simpa [Dv.inB] using h1
      rw [Bool.eq_iff_iff]; simp [Dv.tunB, Dv.inB]; omega), ((Below.refl _ _).alloc (Nat.le_refl _) _)⟩

set_option maxHeartbeats 1000000 in
theorem regulate_A (p i s e lo hi : Int) (w : World)
    (hp : 0 ≤ p ∧ p ≤ 16777216) (hi' : 0 ≤ i ∧ i ≤ 16777216) (hs : -1073741824 ≤ s ∧ s ≤ 1073741824) (he : -2097152 ≤ e ∧ e ≤ 2097152) (hlh : lo ≤ hi) (hr : lo ≤ p * e / 65536 + s ∧ p * e / 65536 + s ≤ hi) (hin : Dv.inB (p * e / 65536 + s) lo hi = true)  :
    Calls Try.prog 81 #[.agg #[.int .i64 p, .int .i64 i], .int .i64 s, .int .i64 e, .agg #[.int .i64 lo, .int .i64 hi]] w fun en w' => en = .returned (.tuple #[.int .i64 (Dv.clip (Dv.raw p s e) lo hi), .int .i64 (Dv.regS i s e true)]) ∧ Below w.heap.size w w' := by
  obtain ⟨m0, m1⟩ := Dv.mul_bd (x := p) (y := e) 16777216 2097152 (by omega) he
  obtain ⟨k0, k1⟩ := Dv.mul_bd (x := i) (y := e) 16777216 2097152 (by omega) he
  have q := Dv.ediv_bd (p * e) 65536 (by omega) (16777216 * 2097152) m0 m1 (by omega)
  have q2 := Dv.ediv_bd (i * e) 65536 (by omega) (16777216 * 2097152) k0 k1 (by omega)
  go_enter Try.func81, Try.ntmps81
  go_wp2_with (first | (go_at_call 80; refine (within_c _ _ _ _).mono ?_; rintro e w' ⟨rfl, rfl⟩) | (go_at_call 85; refine (floor_c _ _ _ (by omega) (by omega) (by omega)).mono ?_; rintro e w' ⟨rfl, rfl⟩) | (go_at_call 88; refine (into_c _ _ _ _).mono ?_; rintro e w' ⟨rfl, rfl⟩))
  go_ret2
  exact ⟨rfl, ((Below.refl _ _).alloc (Nat.le_refl _) _).alloc (by simp) _⟩

set_option maxHeartbeats 1000000 in
theorem regulate_B (p i s e lo hi : Int) (w : World)
    (hp : 0 ≤ p ∧ p ≤ 16777216) (hi' : 0 ≤ i ∧ i ≤ 16777216) (hs : -1073741824 ≤ s ∧ s ≤ 1073741824) (he : -2097152 ≤ e ∧ e ≤ 2097152) (hlh : lo ≤ hi) (hr : hi < p * e / 65536 + s) (hin : Dv.inB (p * e / 65536 + s) lo hi = false) (hsg : e < 0) :
    Calls Try.prog 81 #[.agg #[.int .i64 p, .int .i64 i], .int .i64 s, .int .i64 e, .agg #[.int .i64 lo, .int .i64 hi]] w fun en w' => en = .returned (.tuple #[.int .i64 (Dv.clip (Dv.raw p s e) lo hi), .int .i64 (Dv.regS i s e true)]) ∧ Below w.heap.size w w' := by
  obtain ⟨m0, m1⟩ := Dv.mul_bd (x := p) (y := e) 16777216 2097152 (by omega) he
  obtain ⟨k0, k1⟩ := Dv.mul_bd (x := i) (y := e) 16777216 2097152 (by omega) he
  have q := Dv.ediv_bd (p * e) 65536 (by omega) (16777216 * 2097152) m0 m1 (by omega)
  have q2 := Dv.ediv_bd (i * e) 65536 (by omega) (16777216 * 2097152) k0 k1 (by omega)
  go_enter Try.func81, Try.ntmps81
  go_wp2_with (first | (go_at_call 80; refine (within_c _ _ _ _).mono ?_; rintro e w' ⟨rfl, rfl⟩) | (go_at_call 85; refine (floor_c _ _ _ (by omega) (by omega) (by omega)).mono ?_; rintro e w' ⟨rfl, rfl⟩) | (go_at_call 88; refine (into_c _ _ _ _).mono ?_; rintro e w' ⟨rfl, rfl⟩))
  go_ret2
  exact ⟨rfl, ((Below.refl _ _).alloc (Nat.le_refl _) _).alloc (by simp) _⟩

set_option maxHeartbeats 1000000 in
theorem regulate_C (p i s e lo hi : Int) (w : World)
    (hp : 0 ≤ p ∧ p ≤ 16777216) (hi' : 0 ≤ i ∧ i ≤ 16777216) (hs : -1073741824 ≤ s ∧ s ≤ 1073741824) (he : -2097152 ≤ e ∧ e ≤ 2097152) (hlh : lo ≤ hi) (hr : p * e / 65536 + s < lo) (hin : Dv.inB (p * e / 65536 + s) lo hi = false) (hsg : 0 < e) :
    Calls Try.prog 81 #[.agg #[.int .i64 p, .int .i64 i], .int .i64 s, .int .i64 e, .agg #[.int .i64 lo, .int .i64 hi]] w fun en w' => en = .returned (.tuple #[.int .i64 (Dv.clip (Dv.raw p s e) lo hi), .int .i64 (Dv.regS i s e true)]) ∧ Below w.heap.size w w' := by
  obtain ⟨m0, m1⟩ := Dv.mul_bd (x := p) (y := e) 16777216 2097152 (by omega) he
  obtain ⟨k0, k1⟩ := Dv.mul_bd (x := i) (y := e) 16777216 2097152 (by omega) he
  have q := Dv.ediv_bd (p * e) 65536 (by omega) (16777216 * 2097152) m0 m1 (by omega)
  have q2 := Dv.ediv_bd (i * e) 65536 (by omega) (16777216 * 2097152) k0 k1 (by omega)
  go_enter Try.func81, Try.ntmps81
  go_wp2_with (first | (go_at_call 80; refine (within_c _ _ _ _).mono ?_; rintro e w' ⟨rfl, rfl⟩) | (go_at_call 85; refine (floor_c _ _ _ (by omega) (by omega) (by omega)).mono ?_; rintro e w' ⟨rfl, rfl⟩) | (go_at_call 88; refine (into_c _ _ _ _).mono ?_; rintro e w' ⟨rfl, rfl⟩))
  go_ret2
  exact ⟨rfl, ((Below.refl _ _).alloc (Nat.le_refl _) _).alloc (by simp) _⟩

set_option maxHeartbeats 1000000 in
theorem regulate_D (p i s e lo hi : Int) (w : World)
    (hp : 0 ≤ p ∧ p ≤ 16777216) (hi' : 0 ≤ i ∧ i ≤ 16777216) (hs : -1073741824 ≤ s ∧ s ≤ 1073741824) (he : -2097152 ≤ e ∧ e ≤ 2097152) (hlh : lo ≤ hi) (hr : hi < p * e / 65536 + s) (hin : Dv.inB (p * e / 65536 + s) lo hi = false) (hsg : 0 ≤ e) :
    Calls Try.prog 81 #[.agg #[.int .i64 p, .int .i64 i], .int .i64 s, .int .i64 e, .agg #[.int .i64 lo, .int .i64 hi]] w fun en w' => en = .returned (.tuple #[.int .i64 (Dv.clip (Dv.raw p s e) lo hi), .int .i64 (Dv.regS i s e false)]) ∧ Below w.heap.size w w' := by
  obtain ⟨m0, m1⟩ := Dv.mul_bd (x := p) (y := e) 16777216 2097152 (by omega) he
  obtain ⟨k0, k1⟩ := Dv.mul_bd (x := i) (y := e) 16777216 2097152 (by omega) he
  have q := Dv.ediv_bd (p * e) 65536 (by omega) (16777216 * 2097152) m0 m1 (by omega)
  have q2 := Dv.ediv_bd (i * e) 65536 (by omega) (16777216 * 2097152) k0 k1 (by omega)
  go_enter Try.func81, Try.ntmps81
  go_wp2_with (first | (go_at_call 80; refine (within_c _ _ _ _).mono ?_; rintro e w' ⟨rfl, rfl⟩) | (go_at_call 85; refine (floor_c _ _ _ (by omega) (by omega) (by omega)).mono ?_; rintro e w' ⟨rfl, rfl⟩) | (go_at_call 88; refine (into_c _ _ _ _).mono ?_; rintro e w' ⟨rfl, rfl⟩))
  go_ret2
  exact ⟨rfl, ((Below.refl _ _).alloc (Nat.le_refl _) _).alloc (by simp) _⟩

set_option maxHeartbeats 1000000 in
theorem regulate_E (p i s e lo hi : Int) (w : World)
    (hp : 0 ≤ p ∧ p ≤ 16777216) (hi' : 0 ≤ i ∧ i ≤ 16777216) (hs : -1073741824 ≤ s ∧ s ≤ 1073741824) (he : -2097152 ≤ e ∧ e ≤ 2097152) (hlh : lo ≤ hi) (hr : p * e / 65536 + s < lo) (hin : Dv.inB (p * e / 65536 + s) lo hi = false) (hsg : e ≤ 0) :
    Calls Try.prog 81 #[.agg #[.int .i64 p, .int .i64 i], .int .i64 s, .int .i64 e, .agg #[.int .i64 lo, .int .i64 hi]] w fun en w' => en = .returned (.tuple #[.int .i64 (Dv.clip (Dv.raw p s e) lo hi), .int .i64 (Dv.regS i s e false)]) ∧ Below w.heap.size w w' := by
  obtain ⟨m0, m1⟩ := Dv.mul_bd (x := p) (y := e) 16777216 2097152 (by omega) he
  obtain ⟨k0, k1⟩ := Dv.mul_bd (x := i) (y := e) 16777216 2097152 (by omega) he
  have q := Dv.ediv_bd (p * e) 65536 (by omega) (16777216 * 2097152) m0 m1 (by omega)
  have q2 := Dv.ediv_bd (i * e) 65536 (by omega) (16777216 * 2097152) k0 k1 (by omega)
  go_enter Try.func81, Try.ntmps81
  go_wp2_with (first | (go_at_call 80; refine (within_c _ _ _ _).mono ?_; rintro e w' ⟨rfl, rfl⟩) | (go_at_call 85; refine (floor_c _ _ _ (by omega) (by omega) (by omega)).mono ?_; rintro e w' ⟨rfl, rfl⟩) | (go_at_call 88; refine (into_c _ _ _ _).mono ?_; rintro e w' ⟨rfl, rfl⟩))
  go_ret2
  exact ⟨rfl, ((Below.refl _ _).alloc (Nat.le_refl _) _).alloc (by simp) _⟩

theorem regulate_c (p i s e lo hi : Int) (w : World)
    (hp : 0 ≤ p ∧ p ≤ 16777216) (hi' : 0 ≤ i ∧ i ≤ 16777216) (hs : -1073741824 ≤ s ∧ s ≤ 1073741824) (he : -2097152 ≤ e ∧ e ≤ 2097152) (hlh : lo ≤ hi) :
    Calls Try.prog 81 #[.agg #[.int .i64 p, .int .i64 i], .int .i64 s, .int .i64 e, .agg #[.int .i64 lo, .int .i64 hi]] w fun en w' => en = .returned (.tuple #[.int .i64 (Dv.clip (Dv.raw p s e) lo hi), .int .i64 (Dv.regS i s e (Dv.regC (Dv.raw p s e) e lo hi))]) ∧ Below w.heap.size w w' := by
  have hraw : Dv.raw p s e = p * e / 65536 + s := rfl
  have fin : ∀ (c : Bool), Dv.regC (Dv.raw p s e) e lo hi = c →
      Calls Try.prog 81 #[.agg #[.int .i64 p, .int .i64 i], .int .i64 s, .int .i64 e, .agg #[.int .i64 lo, .int .i64 hi]] w (fun en w' => en = .returned (.tuple #[.int .i64 (Dv.clip (Dv.raw p s e) lo hi), .int .i64 (Dv.regS i s e c)]) ∧ Below w.heap.size w w') →
      Calls Try.prog 81 #[.agg #[.int .i64 p, .int .i64 i], .int .i64 s, .int .i64 e, .agg #[.int .i64 lo, .int .i64 hi]] w fun en w' => en = .returned (.tuple #[.int .i64 (Dv.clip (Dv.raw p s e) lo hi), .int .i64 (Dv.regS i s e (Dv.regC (Dv.raw p s e) e lo hi))]) ∧ Below w.heap.size w w' := by
    intro c h2 h
    rw [h2]
    exact h
  by_cases h1 : p * e / 65536 + s < lo
  · have hin : Dv.inB (p * e / 65536 + s) lo hi = false := inB_false (by omega)
    by_cases h2 : 0 < e
    · exact fin true (by rw [hraw]; simp [Dv.regC]; omega) (regulate_C p i s e lo hi w hp hi' hs he hlh h1 hin h2)
    · exact fin false (by rw [hraw]; simp [Dv.regC]; omega) (regulate_E p i s e lo hi w hp hi' hs he hlh h1 hin (by omega))
  · by_cases h4 : hi < p * e / 65536 + s
    · have hin : Dv.inB (p * e / 65536 + s) lo hi = false := inB_false (by omega)
      by_cases h2 : e < 0
      · exact fin true (by rw [hraw]; simp [Dv.regC]; omega) (regulate_B p i s e lo hi w hp hi' hs he hlh h4 hin h2)
      · exact fin false (by rw [hraw]; simp [Dv.regC]; omega) (regulate_D p i s e lo hi w hp hi' hs he hlh h4 hin (by omega))
    · have hin : Dv.inB (p * e / 65536 + s) lo hi = true := inB_true (by omega) (by omega)
      exact fin true (by rw [hraw]; simp [Dv.regC]; omega) (regulate_A p i s e lo hi w hp hi' hs he hlh (by omega) hin)

set_option maxHeartbeats 1000000 in
theorem RegulateR_no1 (p i s e lo hi : Int) (w : World) (ht : Dv.tunB p i = false) :
    Calls Try.prog 24 #[.agg #[.int .i64 p, .int .i64 i], .int .i64 s, .int .i64 e, .agg #[.int .i64 lo, .int .i64 hi]] w fun en w' => en = .returned (.tuple #[.int .i64 0, .int .i64 0, .int .i64 2]) ∧ Below w.heap.size w w' := by
  go_enter Try.func24, Try.ntmps24
  go_wp2_with fail
  refine (gains_c _ _ _).mono ?_
  rintro en w1 ⟨rfl, hb1⟩
  rw [ht]
  have a2 : w1.cell? ⟨w.heap.size + 1, 0, none⟩ = some (.int .i64 lo) := below_cell hb1 (by simp) (by go_simp)
  have a3 : w1.cell? ⟨w.heap.size + 1, 1, none⟩ = some (.int .i64 hi) := below_cell hb1 (by simp) (by go_simp)
  have HB1 := Lib.hid (show Below w.heap.size w w1 from (((Below.refl _ _).alloc (Nat.le_refl _) _).alloc (by simp) _).trans (hb1.mono (by simp; omega)))
  clear hb1
  go_wp2_with (first | (go_at_call 78; refine (quantity_c _ _).mono ?_; rintro e w' ⟨rfl, rfl⟩) | (go_at_call 79; refine (volt_c _ _).mono ?_; rintro e w' ⟨rfl, rfl⟩) | (go_at_call 80; refine (within_c _ _ _ _).mono ?_; rintro e w' ⟨rfl, rfl⟩))
  go_ret3
  exact ⟨rfl, HB1.out⟩

set_option maxHeartbeats 1000000 in
theorem RegulateR_no2 (p i s e lo hi : Int) (w : World) (ht : Dv.tunB p i = true) (h0 : upB 1099511627776 [lo] = false) :
    Calls Try.prog 24 #[.agg #[.int .i64 p, .int .i64 i], .int .i64 s, .int .i64 e, .agg #[.int .i64 lo, .int .i64 hi]] w fun en w' => en = .returned (.tuple #[.int .i64 0, .int .i64 0, .int .i64 2]) ∧ Below w.heap.size w w' := by
  go_enter Try.func24, Try.ntmps24
  go_wp2_with fail
  refine (gains_c _ _ _).mono ?_
  rintro en w1 ⟨rfl, hb1⟩
  rw [ht]
  have a2 : w1.cell? ⟨w.heap.size + 1, 0, none⟩ = some (.int .i64 lo) := below_cell hb1 (by simp) (by go_simp)
  have a3 : w1.cell? ⟨w.heap.size + 1, 1, none⟩ = some (.int .i64 hi) := below_cell hb1 (by simp) (by go_simp)
  have HB1 := Lib.hid (show Below w.heap.size w w1 from (((Below.refl _ _).alloc (Nat.le_refl _) _).alloc (by simp) _).trans (hb1.mono (by simp; omega)))
  clear hb1
  go_wp2_with (first | (go_at_call 78; refine (quantity_c _ _).mono ?_; rintro e w' ⟨rfl, rfl⟩) | (go_at_call 79; refine (volt_c _ _).mono ?_; rintro e w' ⟨rfl, rfl⟩) | (go_at_call 80; refine (within_c _ _ _ _).mono ?_; rintro e w' ⟨rfl, rfl⟩))
  go_ret3
  exact ⟨rfl, HB1.out⟩

set_option maxHeartbeats 1000000 in
theorem RegulateR_no3 (p i s e lo hi : Int) (w : World) (ht : Dv.tunB p i = true) (h0 : upB 1099511627776 [lo] = true) (h1 : upB 1099511627776 [hi] = false) :
    Calls Try.prog 24 #[.agg #[.int .i64 p, .int .i64 i], .int .i64 s, .int .i64 e, .agg #[.int .i64 lo, .int .i64 hi]] w fun en w' => en = .returned (.tuple #[.int .i64 0, .int .i64 0, .int .i64 2]) ∧ Below w.heap.size w w' := by
  go_enter Try.func24, Try.ntmps24
  go_wp2_with fail
  refine (gains_c _ _ _).mono ?_
  rintro en w1 ⟨rfl, hb1⟩
  rw [ht]
  have a2 : w1.cell? ⟨w.heap.size + 1, 0, none⟩ = some (.int .i64 lo) := below_cell hb1 (by simp) (by go_simp)
  have a3 : w1.cell? ⟨w.heap.size + 1, 1, none⟩ = some (.int .i64 hi) := below_cell hb1 (by simp) (by go_simp)
  have HB1 := Lib.hid (show Below w.heap.size w w1 from (((Below.refl _ _).alloc (Nat.le_refl _) _).alloc (by simp) _).trans (hb1.mono (by simp; omega)))
  clear hb1
  go_wp2_with (first | (go_at_call 78; refine (quantity_c _ _).mono ?_; rintro e w' ⟨rfl, rfl⟩) | (go_at_call 79; refine (volt_c _ _).mono ?_; rintro e w' ⟨rfl, rfl⟩) | (go_at_call 80; refine (within_c _ _ _ _).mono ?_; rintro e w' ⟨rfl, rfl⟩))
  go_ret3
  exact ⟨rfl, HB1.out⟩

set_option maxHeartbeats 1000000 in
theorem RegulateR_no4 (p i s e lo hi : Int) (w : World) (ht : Dv.tunB p i = true) (h0 : upB 1099511627776 [lo] = true) (h1 : upB 1099511627776 [hi] = true) (h2 : hi < lo) :
    Calls Try.prog 24 #[.agg #[.int .i64 p, .int .i64 i], .int .i64 s, .int .i64 e, .agg #[.int .i64 lo, .int .i64 hi]] w fun en w' => en = .returned (.tuple #[.int .i64 0, .int .i64 0, .int .i64 2]) ∧ Below w.heap.size w w' := by
  go_enter Try.func24, Try.ntmps24
  go_wp2_with fail
  refine (gains_c _ _ _).mono ?_
  rintro en w1 ⟨rfl, hb1⟩
  rw [ht]
  have a2 : w1.cell? ⟨w.heap.size + 1, 0, none⟩ = some (.int .i64 lo) := below_cell hb1 (by simp) (by go_simp)
  have a3 : w1.cell? ⟨w.heap.size + 1, 1, none⟩ = some (.int .i64 hi) := below_cell hb1 (by simp) (by go_simp)
  have HB1 := Lib.hid (show Below w.heap.size w w1 from (((Below.refl _ _).alloc (Nat.le_refl _) _).alloc (by simp) _).trans (hb1.mono (by simp; omega)))
  clear hb1
  go_wp2_with (first | (go_at_call 78; refine (quantity_c _ _).mono ?_; rintro e w' ⟨rfl, rfl⟩) | (go_at_call 79; refine (volt_c _ _).mono ?_; rintro e w' ⟨rfl, rfl⟩) | (go_at_call 80; refine (within_c _ _ _ _).mono ?_; rintro e w' ⟨rfl, rfl⟩))
  go_ret3
  exact ⟨rfl, HB1.out⟩

set_option maxHeartbeats 1000000 in
theorem RegulateR_no5 (p i s e lo hi : Int) (w : World) (ht : Dv.tunB p i = true) (h0 : upB 1099511627776 [lo] = true) (h1 : upB 1099511627776 [hi] = true) (h2 : lo ≤ hi) (h3 : upB 1073741824 [s] = false) :
    Calls Try.prog 24 #[.agg #[.int .i64 p, .int .i64 i], .int .i64 s, .int .i64 e, .agg #[.int .i64 lo, .int .i64 hi]] w fun en w' => en = .returned (.tuple #[.int .i64 0, .int .i64 0, .int .i64 3]) ∧ Below w.heap.size w w' := by
  go_enter Try.func24, Try.ntmps24
  go_wp2_with fail
  refine (gains_c _ _ _).mono ?_
  rintro en w1 ⟨rfl, hb1⟩
  rw [ht]
  have a2 : w1.cell? ⟨w.heap.size + 1, 0, none⟩ = some (.int .i64 lo) := below_cell hb1 (by simp) (by go_simp)
  have a3 : w1.cell? ⟨w.heap.size + 1, 1, none⟩ = some (.int .i64 hi) := below_cell hb1 (by simp) (by go_simp)
  have HB1 := Lib.hid (show Below w.heap.size w w1 from (((Below.refl _ _).alloc (Nat.le_refl _) _).alloc (by simp) _).trans (hb1.mono (by simp; omega)))
  clear hb1
  go_wp2_with (first | (go_at_call 78; refine (quantity_c _ _).mono ?_; rintro e w' ⟨rfl, rfl⟩) | (go_at_call 79; refine (volt_c _ _).mono ?_; rintro e w' ⟨rfl, rfl⟩) | (go_at_call 80; refine (within_c _ _ _ _).mono ?_; rintro e w' ⟨rfl, rfl⟩))
  go_ret3
  exact ⟨rfl, HB1.out⟩

set_option maxHeartbeats 1000000 in
theorem RegulateR_no6 (p i s e lo hi : Int) (w : World) (ht : Dv.tunB p i = true) (h0 : upB 1099511627776 [lo] = true) (h1 : upB 1099511627776 [hi] = true) (h2 : lo ≤ hi) (h3 : upB 1073741824 [s] = true) (h4 : Dv.inB e (-2097152) 2097152 = false) :
    Calls Try.prog 24 #[.agg #[.int .i64 p, .int .i64 i], .int .i64 s, .int .i64 e, .agg #[.int .i64 lo, .int .i64 hi]] w fun en w' => en = .returned (.tuple #[.int .i64 0, .int .i64 0, .int .i64 3]) ∧ Below w.heap.size w w' := by
  go_enter Try.func24, Try.ntmps24
  go_wp2_with fail
  refine (gains_c _ _ _).mono ?_
  rintro en w1 ⟨rfl, hb1⟩
  rw [ht]
  have a2 : w1.cell? ⟨w.heap.size + 1, 0, none⟩ = some (.int .i64 lo) := below_cell hb1 (by simp) (by go_simp)
  have a3 : w1.cell? ⟨w.heap.size + 1, 1, none⟩ = some (.int .i64 hi) := below_cell hb1 (by simp) (by go_simp)
  have HB1 := Lib.hid (show Below w.heap.size w w1 from (((Below.refl _ _).alloc (Nat.le_refl _) _).alloc (by simp) _).trans (hb1.mono (by simp; omega)))
  clear hb1
  go_wp2_with (first | (go_at_call 78; refine (quantity_c _ _).mono ?_; rintro e w' ⟨rfl, rfl⟩) | (go_at_call 79; refine (volt_c _ _).mono ?_; rintro e w' ⟨rfl, rfl⟩) | (go_at_call 80; refine (within_c _ _ _ _).mono ?_; rintro e w' ⟨rfl, rfl⟩))
  go_ret3
  exact ⟨rfl, HB1.out⟩

set_option maxHeartbeats 1000000 in
theorem RegulateR_ok (p i s e lo hi : Int) (w : World) (ht : Dv.tunB p i = true) (h0 : upB 1099511627776 [lo] = true) (h1 : upB 1099511627776 [hi] = true) (h2 : lo ≤ hi) (h3 : upB 1073741824 [s] = true) (h4 : Dv.inB e (-2097152) 2097152 = true) :
    Calls Try.prog 24 #[.agg #[.int .i64 p, .int .i64 i], .int .i64 s, .int .i64 e, .agg #[.int .i64 lo, .int .i64 hi]] w fun en w' => en = .returned (.tuple #[.int .i64 (Dv.clip (Dv.raw p s e) lo hi), .int .i64 (Dv.regS i s e (Dv.regC (Dv.raw p s e) e lo hi)), .int .i64 0]) ∧ Below w.heap.size w w' := by
  have ht' : 0 ≤ p ∧ p ≤ 16777216 ∧ 0 ≤ i ∧ i ≤ 16777216 := by simpa [Dv.tunB] using ht
  have b1 := upB1.1 h3
  have b2 : -2097152 ≤ e ∧ e ≤ 2097152 := by simpa [Dv.inB] using h4
  go_enter Try.func24, Try.ntmps24
  go_wp2_with fail
  refine (gains_c _ _ _).mono ?_
  rintro en w1 ⟨rfl, hb1⟩
  rw [ht]
  have a0 : w1.cell? ⟨w.heap.size, 0, none⟩ = some (.int .i64 p) := below_cell hb1 (by simp; omega) (by go_simp)
  have a1 : w1.cell? ⟨w.heap.size, 1, none⟩ = some (.int .i64 i) := below_cell hb1 (by simp; omega) (by go_simp)
  have a2 : w1.cell? ⟨w.heap.size + 1, 0, none⟩ = some (.int .i64 lo) := below_cell hb1 (by simp) (by go_simp)
  have a3 : w1.cell? ⟨w.heap.size + 1, 1, none⟩ = some (.int .i64 hi) := below_cell hb1 (by simp) (by go_simp)
  have HB1 := Lib.hid (show Below w.heap.size w w1 from (((Below.refl _ _).alloc (Nat.le_refl _) _).alloc (by simp) _).trans (hb1.mono (by simp; omega)))
  have hz := HB1.out.size
  clear hb1
  go_wp2_with (first | (go_at_call 78; refine (quantity_c _ _).mono ?_; rintro e w' ⟨rfl, rfl⟩) | (go_at_call 79; refine (volt_c _ _).mono ?_; rintro e w' ⟨rfl, rfl⟩) | (go_at_call 80; refine (within_c _ _ _ _).mono ?_; rintro e w' ⟨rfl, rfl⟩))
  refine (regulate_c p i s e lo hi _ ⟨ht'.1, ht'.2.1⟩ ht'.2.2 b1 b2 h2).mono ?_
  rintro en w2 ⟨rfl, hb2⟩
  have HB2 := Lib.hid (show Below w.heap.size w w2 from HB1.out.trans (hb2.mono hz))
  clear hb2
  go_wp2
  go_ret3
  exact ⟨rfl, HB2.out⟩

theorem RegulateR_c (p i s e lo hi : Int) (w : World) :
    Calls Try.prog 24 #[.agg #[.int .i64 p, .int .i64 i], .int .i64 s, .int .i64 e, .agg #[.int .i64 lo, .int .i64 hi]] w fun en w' => en = .returned (.tuple #[.int .i64 (Dv.rgV p i s e lo hi), .int .i64 (Dv.rgN p i s e lo hi), .int .i64 (Dv.rgE p i s e lo hi)]) ∧ Below w.heap.size w w' := by
  have fin : ∀ {x y z : Int}, Dv.rgV p i s e lo hi = x → Dv.rgN p i s e lo hi = y → Dv.rgE p i s e lo hi = z →
      Calls Try.prog 24 #[.agg #[.int .i64 p, .int .i64 i], .int .i64 s, .int .i64 e, .agg #[.int .i64 lo, .int .i64 hi]] w (fun en w' => en = .returned (.tuple #[.int .i64 x, .int .i64 y, .int .i64 z]) ∧ Below w.heap.size w w') →
      Calls Try.prog 24 #[.agg #[.int .i64 p, .int .i64 i], .int .i64 s, .int .i64 e, .agg #[.int .i64 lo, .int .i64 hi]] w fun en w' => en = .returned (.tuple #[.int .i64 (Dv.rgV p i s e lo hi), .int .i64 (Dv.rgN p i s e lo hi), .int .i64 (Dv.rgE p i s e lo hi)]) ∧ Below w.heap.size w w' := by
    intro x y z hx hy hz h
    rw [hx, hy, hz]
    exact h
  cases ht : Dv.tunB p i
  · exact fin (by simp [Dv.rgV, Dv.rgA, ht]) (by simp [Dv.rgN, Dv.rgA, ht]) (by simp [Dv.rgE, Dv.rgA, ht]) (RegulateR_no1 p i s e lo hi w ht)
  · have hup : upB 1099511627776 [lo, hi] = (upB 1099511627776 [lo] && upB 1099511627776 [hi]) := by simp [upB]
    cases h0 : upB 1099511627776 [lo]
    · have hsp : Dv.spanB lo hi = false := by simp [Dv.spanB, hup, h0]
      exact fin (by simp [Dv.rgV, Dv.rgA, hsp]) (by simp [Dv.rgN, Dv.rgA, hsp]) (by simp [Dv.rgE, Dv.rgA, hsp]) (RegulateR_no2 p i s e lo hi w ht h0)
    · cases h1 : upB 1099511627776 [hi]
      · have hsp : Dv.spanB lo hi = false := by simp [Dv.spanB, hup, h1]
        exact fin (by simp [Dv.rgV, Dv.rgA, hsp]) (by simp [Dv.rgN, Dv.rgA, hsp]) (by simp [Dv.rgE, Dv.rgA, hsp]) (RegulateR_no3 p i s e lo hi w ht h0 h1)
      · by_cases h2 : lo ≤ hi
        · have hsp : Dv.spanB lo hi = true := by simp [Dv.spanB, hup, h0, h1, h2]
          cases h3 : upB 1073741824 [s]
          · exact fin (by simp [Dv.rgV, Dv.rgB, h3]) (by simp [Dv.rgN, Dv.rgB, h3]) (by simp [Dv.rgE, Dv.rgA, Dv.rgB, ht, hsp, h3]) (RegulateR_no5 p i s e lo hi w ht h0 h1 h2 h3)
          · have hee : upB 2097152 [e] = Dv.inB e (-2097152) 2097152 := by rw [Bool.eq_iff_iff, upB1]; simp [Dv.inB]
            cases h4 : Dv.inB e (-2097152) 2097152
            · rw [h4] at hee
              exact fin (by simp [Dv.rgV, Dv.rgB, hee]) (by simp [Dv.rgN, Dv.rgB, hee]) (by simp [Dv.rgE, Dv.rgA, Dv.rgB, ht, hsp, hee]) (RegulateR_no6 p i s e lo hi w ht h0 h1 h2 h3 h4)
            · rw [h4] at hee
              exact fin (by simp [Dv.rgV, Dv.rgA, Dv.rgB, ht, hsp, h3, hee]) (by simp [Dv.rgN, Dv.rgA, Dv.rgB, ht, hsp, h3, hee]) (by simp [Dv.rgE, Dv.rgA, Dv.rgB, ht, hsp, h3, hee]) (RegulateR_ok p i s e lo hi w ht h0 h1 h2 h3 h4)
        · have hsp : Dv.spanB lo hi = false := by simp [Dv.spanB, h2]
          exact fin (by simp [Dv.rgV, Dv.rgA, hsp]) (by simp [Dv.rgN, Dv.rgA, hsp]) (by simp [Dv.rgE, Dv.rgA, hsp]) (RegulateR_no4 p i s e lo hi w ht h0 h1 (by omega))
end Go.Proofs.Ytcneohhfnnelgaa
