/- The contract of the examples of coulomblaw06: they hold. -/
import Derived.Test.YtcneohhfnnelgaaW6
namespace Go.Proofs.Ytcneohhfnnelgaa
open Go.RowKit

theorem elInt (d : Nat) (w : World) (a b : Int) : (Op.equalIn (d + 1) 2 (.int .i64 a) (.int .i64 b)).run Try.prog w = .ok (a == b) w := run_equalIn_int w d 2 .i64 .i64 a b Try.underlying2
theorem size2 (w : World) : (sizeOf 2).run Try.prog w = .ok 1 w := by kernel_rfl
theorem partAt (w : World) (cs : Array Value) (i : Nat) (v : Value) (h : cs[i]? = some v) : (part 2 cs i).run Try.prog w = .ok v w := by
  have hag : (isAgg 2).run Try.prog w = .ok false w := by kernel_rfl
  simp [part, Sem.run_bind, hag, h]
theorem eqArr (d : Nat) (w : World) (a b c a' b' c' : Int) : (Op.equalIn (d + 2) 22 (.agg #[.int .i64 a, .int .i64 b, .int .i64 c]) (.agg #[.int .i64 a', .int .i64 b', .int .i64 c'])).run Try.prog w = .ok (a == a' && b == b' && c == c') w := by
  rw [Op.equalIn]
  simp only [Sem.run_bind, run_underlying Try.underlying22, Result.andThen_ok, size2]
  simp [Std.Legacy.Range.forIn_eq_forIn_range', Std.Legacy.Range.size, List.range', Sem.run_bind]
  simp [partAt, elInt]
  by_cases h1 : a = a' <;> by_cases h2 : b = b' <;> by_cases h3 : c = c' <;> simp [h1, h2, h3]
/-- two arrays of three numbers are equal -/
@[go_sem] theorem eqArr3 (w : World) (a b c a' b' c' : Int) : (Op.equalIn 10000 22 (.agg #[.int .i64 a, .int .i64 b, .int .i64 c]) (.agg #[.int .i64 a', .int .i64 b', .int .i64 c'])).run Try.prog w = .ok (a == a' && b == b' && c == c') w :=
  eqArr 9998 w a b c a' b' c'

theorem kSin (w : World) : Calls Try.prog 21 #[.int .i64 8192] w fun e w' => e = .returned (.tuple #[.int .i64 11565, .int .i64 0]) ∧ w = w' :=
  (Sin_c 8192 w).mono fun _ _ ⟨he, hw⟩ => ⟨he.trans (ret2_int (by decide) (by decide)), hw⟩
theorem kTurn (w : World) : Calls Try.prog 29 #[.int .i64 1000, .int .i64 0, .int .i64 16384] w fun e w' => e = .returned (.tuple #[.int .i64 0, .int .i64 (-1000), .int .i64 0]) ∧ Below w.heap.size w w' :=
  (TurnTo_c 1000 0 16384 w).mono fun _ _ ⟨he, hw⟩ => ⟨he.trans (ret3_int (by decide) (by decide) (by decide)), hw⟩
theorem kDuties (w : World) : Calls Try.prog 18 #[.agg #[.int .i64 1000, .int .i64 (-500), .int .i64 (-500)], .int .i64 2000] w fun e w' => e = .returned (.tuple #[.agg #[.int .i64 57344, .int .i64 8192, .int .i64 8192], .bool false, .int .i64 0]) ∧ Below w.heap.size w w' :=
  (Duties_c 1000 (-500) (-500) 2000 w).mono fun _ _ ⟨he, hw⟩ => ⟨he.trans (retDu (by decide) (by decide) (by decide) (by decide) (by decide)), hw⟩
theorem kBlend (w : World) : Calls Try.prog 20 #[.int .i64 (-100), .agg #[.int .i64 (-60), .int .i64 80], .int .i64 30] w fun e w' => e = .returned (.tuple #[.int .i64 (-60), .int .i64 30, .int .i64 0]) ∧ Below w.heap.size w w' :=
  (Blend_c (-100) (-60) 80 30 w).mono fun _ _ ⟨he, hw⟩ => ⟨he.trans (ret3_int (by decide) (by decide) (by decide)), hw⟩

set_option maxHeartbeats 1000000 in
set_option maxRecDepth 100000 in
theorem known_c (w : World) : Calls Try.prog 19 #[] w fun e w' => e = .returned (.bool true) ∧ Below w.heap.size w w' := by
  go_enter Try.func19, Try.ntmps19
  go_wp2_with fail
  refine (kSin _).mono ?_
  rintro e w' ⟨rfl, rfl⟩
  go_wp2_with fail
  refine (kTurn _).mono ?_
  rintro e w1 ⟨rfl, hb1⟩
  go_wp2_with fail
  refine (kDuties _).mono ?_
  rintro e w2 ⟨rfl, hb2⟩
  go_wp2_with fail
  refine (kBlend _).mono ?_
  rintro e w3 ⟨rfl, hb3⟩
  have c0 : w3.cell? ⟨w2.heap.size, 0, none⟩ = some (.int .i64 57344) := (hb3.cell (p := ⟨w2.heap.size, 0, none⟩) (by simp)).trans (by go_simp)
  have c1 : w3.cell? ⟨w2.heap.size, 1, none⟩ = some (.int .i64 8192) := (hb3.cell (p := ⟨w2.heap.size, 1, none⟩) (by simp)).trans (by go_simp)
  have c2 : w3.cell? ⟨w2.heap.size, 2, none⟩ = some (.int .i64 8192) := (hb3.cell (p := ⟨w2.heap.size, 2, none⟩) (by simp)).trans (by go_simp)
  have HB := Lib.hid (show Below w.heap.size w w3 from (hb1.trans (hb2.mono hb1.size)).trans (((Below.refl _ _).alloc (Nat.le_trans hb1.size hb2.size) _).trans (hb3.mono (by simp; have := hb1.size; have := hb2.size; omega))))
  clear hb1 hb2 hb3
  go_wp2
  go_ret
  exact ⟨rfl, HB.out⟩
end Go.Proofs.Ytcneohhfnnelgaa
