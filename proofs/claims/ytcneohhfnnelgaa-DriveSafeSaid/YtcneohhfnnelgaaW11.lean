/- Contracts of Regulate of drive, refused inputs too; of gains, quantity, volt, within, regulate and Regulate of coulombref06. -/
import Derived.Test.YtcneohhfnnelgaaW10
namespace Go.Proofs.Ytcneohhfnnelgaa
open Go.RowKit
set_option linter.unusedVariables false

theorem below_cell {B : Nat} {w w1 : World} (hb : Below B w w1) {b o : Nat} {v : Option Value} (hlt : b < B) (h : w.cell? ⟨b, o, none⟩ = v) : w1.cell? ⟨b, o, none⟩ = v :=
  (hb.cell (p := ⟨b, o, none⟩) hlt).trans h

set_option maxHeartbeats 1000000 in
theorem Regulate_no1 (p i s e lo hi : Int) (w : World) (ht : Dv.tunB p i = false) :
    Calls Try.prog 23 #[.agg #[.int .i64 p, .int .i64 i], .int .i64 s, .int .i64 e, .agg #[.int .i64 lo, .int .i64 hi]] w fun en w' => en = .returned (.tuple #[.int .i64 0, .int .i64 0, .int .i64 2]) ∧ Below w.heap.size w w' := by
  go_enter Try.func23, Try.ntmps23
  go_wp2_with fail
  refine (tuned_c _ _ _).mono ?_
  rintro en w1 ⟨rfl, hb1⟩
  rw [ht]
  have a2 : w1.cell? ⟨w.heap.size + 1, 0, none⟩ = some (.int .i64 lo) := below_cell hb1 (by simp) (by go_simp)
  have a3 : w1.cell? ⟨w.heap.size + 1, 1, none⟩ = some (.int .i64 hi) := below_cell hb1 (by simp) (by go_simp)
  have hz1 : w.heap.size + 1 < w1.heap.size := by have := hb1.size; simp at this; omega
  have hz0 : w.heap.size < w1.heap.size := by omega
  have HB1 := Lib.hid (show Below w.heap.size w w1 from (((Below.refl _ _).alloc (Nat.le_refl _) _).alloc (by simp) _).trans (hb1.mono (by simp; omega)))
  clear hb1
  go_wp2
  go_ret3
  exact ⟨rfl, HB1.out⟩

set_option maxHeartbeats 1000000 in
theorem Regulate_no2 (p i s e lo hi : Int) (w : World) (ht : Dv.tunB p i = true) (hsp : Dv.spanB lo hi = false) :
    Calls Try.prog 23 #[.agg #[.int .i64 p, .int .i64 i], .int .i64 s, .int .i64 e, .agg #[.int .i64 lo, .int .i64 hi]] w fun en w' => en = .returned (.tuple #[.int .i64 0, .int .i64 0, .int .i64 2]) ∧ Below w.heap.size w w' := by
  go_enter Try.func23, Try.ntmps23
  go_wp2_with fail
  refine (tuned_c _ _ _).mono ?_
  rintro en w1 ⟨rfl, hb1⟩
  rw [ht]
  have a2 : w1.cell? ⟨w.heap.size + 1, 0, none⟩ = some (.int .i64 lo) := below_cell hb1 (by simp) (by go_simp)
  have a3 : w1.cell? ⟨w.heap.size + 1, 1, none⟩ = some (.int .i64 hi) := below_cell hb1 (by simp) (by go_simp)
  have hz1 : w.heap.size + 1 < w1.heap.size := by have := hb1.size; simp at this; omega
  have hz0 : w.heap.size < w1.heap.size := by omega
  have HB1 := Lib.hid (show Below w.heap.size w w1 from (((Below.refl _ _).alloc (Nat.le_refl _) _).alloc (by simp) _).trans (hb1.mono (by simp; omega)))
  clear hb1
  go_wp2_with fail
  refine (span_c _ _ _).mono ?_
  rintro en w2 ⟨rfl, hb2⟩
  rw [hsp]
  have hz2 : w.heap.size ≤ w2.heap.size := by have := hb2.size; omega
  have HB2 := Lib.hid (show Below w.heap.size w w2 from HB1.out.trans (hb2.mono (by omega)))
  clear hb2 a2 a3 hz1 hz0
  go_wp2
  go_ret3
  exact ⟨rfl, HB2.out⟩

set_option maxHeartbeats 1000000 in
theorem Regulate_no3 (p i s e lo hi : Int) (w : World) (ht : Dv.tunB p i = true) (hsp : Dv.spanB lo hi = true) (h1 : upB 1073741824 [s] = false) :
    Calls Try.prog 23 #[.agg #[.int .i64 p, .int .i64 i], .int .i64 s, .int .i64 e, .agg #[.int .i64 lo, .int .i64 hi]] w fun en w' => en = .returned (.tuple #[.int .i64 0, .int .i64 0, .int .i64 3]) ∧ Below w.heap.size w w' := by
  go_enter Try.func23, Try.ntmps23
  go_wp2_with fail
  refine (tuned_c _ _ _).mono ?_
  rintro en w1 ⟨rfl, hb1⟩
  rw [ht]
  have a2 : w1.cell? ⟨w.heap.size + 1, 0, none⟩ = some (.int .i64 lo) := below_cell hb1 (by simp) (by go_simp)
  have a3 : w1.cell? ⟨w.heap.size + 1, 1, none⟩ = some (.int .i64 hi) := below_cell hb1 (by simp) (by go_simp)
  have hz1 : w.heap.size + 1 < w1.heap.size := by have := hb1.size; simp at this; omega
  have hz0 : w.heap.size < w1.heap.size := by omega
  have HB1 := Lib.hid (show Below w.heap.size w w1 from (((Below.refl _ _).alloc (Nat.le_refl _) _).alloc (by simp) _).trans (hb1.mono (by simp; omega)))
  clear hb1
  go_wp2_with fail
  refine (span_c _ _ _).mono ?_
  rintro en w2 ⟨rfl, hb2⟩
  rw [hsp]
  have hz2 : w.heap.size ≤ w2.heap.size := by have := hb2.size; omega
  have HB2 := Lib.hid (show Below w.heap.size w w2 from HB1.out.trans (hb2.mono (by omega)))
  clear hb2 a2 a3 hz1 hz0
  go_wp2_with fail
  refine (up1 _ _ _ _ rfl (by omega) (by omega)).mono ?_
  rintro en w' ⟨rfl, rfl⟩
  rw [h1]
  go_wp2
  go_ret3
  exact ⟨rfl, HB2.out.alloc hz2 _⟩

set_option maxHeartbeats 1000000 in
theorem Regulate_no4 (p i s e lo hi : Int) (w : World) (ht : Dv.tunB p i = true) (hsp : Dv.spanB lo hi = true) (h1 : upB 1073741824 [s] = true) (h2 : upB 2097152 [e] = false) :
    Calls Try.prog 23 #[.agg #[.int .i64 p, .int .i64 i], .int .i64 s, .int .i64 e, .agg #[.int .i64 lo, .int .i64 hi]] w fun en w' => en = .returned (.tuple #[.int .i64 0, .int .i64 0, .int .i64 3]) ∧ Below w.heap.size w w' := by
  go_enter Try.func23, Try.ntmps23
  go_wp2_with fail
  refine (tuned_c _ _ _).mono ?_
  rintro en w1 ⟨rfl, hb1⟩
  rw [ht]
  have a2 : w1.cell? ⟨w.heap.size + 1, 0, none⟩ = some (.int .i64 lo) := below_cell hb1 (by simp) (by go_simp)
  have a3 : w1.cell? ⟨w.heap.size + 1, 1, none⟩ = some (.int .i64 hi) := below_cell hb1 (by simp) (by go_simp)
  have hz1 : w.heap.size + 1 < w1.heap.size := by have := hb1.size; simp at this; omega
  have hz0 : w.heap.size < w1.heap.size := by omega
  have HB1 := Lib.hid (show Below w.heap.size w w1 from (((Below.refl _ _).alloc (Nat.le_refl _) _).alloc (by simp) _).trans (hb1.mono (by simp; omega)))
  clear hb1
  go_wp2_with fail
  refine (span_c _ _ _).mono ?_
  rintro en w2 ⟨rfl, hb2⟩
  rw [hsp]
  have hz2 : w.heap.size ≤ w2.heap.size := by have := hb2.size; omega
  have HB2 := Lib.hid (show Below w.heap.size w w2 from HB1.out.trans (hb2.mono (by omega)))
  clear hb2 a2 a3 hz1 hz0
  go_wp2_with fail
  refine (up1 _ _ _ _ rfl (by omega) (by omega)).mono ?_
  rintro en w' ⟨rfl, rfl⟩
  rw [h1]
  go_wp2_with fail
  refine (up1 _ _ _ _ (by simp) (by omega) (by omega)).mono ?_
  rintro en w' ⟨rfl, rfl⟩
  rw [h2]
  go_wp2
  go_ret3
  exact ⟨rfl, (HB2.out.alloc hz2 _).alloc (by simp; omega) _⟩

theorem Regulate_c (p i s e lo hi : Int) (w : World) :
    Calls Try.prog 23 #[.agg #[.int .i64 p, .int .i64 i], .int .i64 s, .int .i64 e, .agg #[.int .i64 lo, .int .i64 hi]] w fun en w' => en = .returned (.tuple #[.int .i64 (Dv.rgV p i s e lo hi), .int .i64 (Dv.rgN p i s e lo hi), .int .i64 (Dv.rgE p i s e lo hi)]) ∧ Below w.heap.size w w' := by
  have fin : ∀ {x y z : Int}, Dv.rgV p i s e lo hi = x → Dv.rgN p i s e lo hi = y → Dv.rgE p i s e lo hi = z →
      Calls Try.prog 23 #[.agg #[.int .i64 p, .int .i64 i], .int .i64 s, .int .i64 e, .agg #[.int .i64 lo, .int .i64 hi]] w (fun en w' => en = .returned (.tuple #[.int .i64 x, .int .i64 y, .int .i64 z]) ∧ Below w.heap.size w w') →
      Calls Try.prog 23 #[.agg #[.int .i64 p, .int .i64 i], .int .i64 s, .int .i64 e, .agg #[.int .i64 lo, .int .i64 hi]] w fun en w' => en = .returned (.tuple #[.int .i64 (Dv.rgV p i s e lo hi), .int .i64 (Dv.rgN p i s e lo hi), .int .i64 (Dv.rgE p i s e lo hi)]) ∧ Below w.heap.size w w' := by
    intro x y z hx hy hz h
    rw [hx, hy, hz]
    exact h
  cases ht : Dv.tunB p i
  · exact fin (by simp [Dv.rgV, Dv.rgA, ht]) (by simp [Dv.rgN, Dv.rgA, ht]) (by simp [Dv.rgE, Dv.rgA, ht]) (Regulate_no1 p i s e lo hi w ht)
  · cases hsp : Dv.spanB lo hi
    · exact fin (by simp [Dv.rgV, Dv.rgA, hsp]) (by simp [Dv.rgN, Dv.rgA, hsp]) (by simp [Dv.rgE, Dv.rgA, hsp]) (Regulate_no2 p i s e lo hi w ht hsp)
    · cases h1 : upB 1073741824 [s]
      · exact fin (by simp [Dv.rgV, Dv.rgB, h1]) (by simp [Dv.rgN, Dv.rgB, h1]) (by simp [Dv.rgE, Dv.rgA, Dv.rgB, ht, hsp, h1]) (Regulate_no3 p i s e lo hi w ht hsp h1)
      · cases h2 : upB 2097152 [e]
        · exact fin (by simp [Dv.rgV, Dv.rgB, h2]) (by simp [Dv.rgN, Dv.rgB, h2]) (by simp [Dv.rgE, Dv.rgA, Dv.rgB, ht, hsp, h2]) (Regulate_no4 p i s e lo hi w ht hsp h1 h2)
        · exact fin (by simp [Dv.rgV, Dv.rgA, Dv.rgB, ht, hsp, h1, h2]) (by simp [Dv.rgN, Dv.rgA, Dv.rgB, ht, hsp, h1, h2]) (by simp [Dv.rgE, Dv.rgA, Dv.rgB, ht, hsp, h1, h2]) (Regulate_ok p i s e lo hi w ht hsp h1 h2)

set_option maxHeartbeats 400000 in
theorem within_c (x lo hi : Int) (w : World) : Calls Try.prog 80 #[.int .i64 x, .int .i64 lo, .int .i64 hi] w fun e w' => e = .returned (.bool (Dv.inB x lo hi)) ∧ w = w' := by
  by_cases h1 : lo ≤ x
  · by_cases h2 : x ≤ hi
    all_goals
      go_enter Try.func80, Try.ntmps80
      go_wp2
      go_ret
      exact ⟨ret_bool (by rw [Bool.eq_iff_iff]; simp [Dv.inB]; omega), rfl⟩
  · go_enter Try.func80, Try.ntmps80
    go_wp2
    go_ret
    exact ⟨ret_bool (by rw [Bool.eq_iff_iff]; simp [Dv.inB]; omega), rfl⟩
theorem volt_c (x : Int) (w : World) : Calls Try.prog 79 #[.int .i64 x] w fun e w' => e = .returned (.bool (upB 1073741824 [x])) ∧ w = w' := by
  go_enter Try.func79, Try.ntmps79
  go_wp2_with (go_at_call 80; refine (within_c _ _ _ _).mono ?_; rintro e w' ⟨rfl, rfl⟩)
  go_ret
  exact ⟨ret_bool (by rw [Bool.eq_iff_iff, upB1]; simp [Dv.inB]), rfl⟩
theorem quantity_c (x : Int) (w : World) : Calls Try.prog 78 #[.int .i64 x] w fun e w' => e = .returned (.bool (upB 1099511627776 [x])) ∧ w = w' := by
  go_enter Try.func78, Try.ntmps78
  go_wp2_with (go_at_call 80; refine (within_c _ _ _ _).mono ?_; rintro e w' ⟨rfl, rfl⟩)
  go_ret
  exact ⟨ret_bool (by rw [Bool.eq_iff_iff, upB1]; simp [Dv.inB]), rfl⟩
end Go.Proofs.Ytcneohhfnnelgaa
