/- The walk of coulomblaw06.DriveTurns: it returns true for all numbers. -/
import Derived.Test.YtcneohhfnnelgaaW16
namespace Go.Proofs.Ytcneohhfnnelgaa
open Go.RowKit
set_option linter.unusedVariables false

set_option maxHeartbeats 2000000 in
set_option maxRecDepth 100000 in
theorem DriveTurns_any (x a b c u : Int) (w : World) :
    Calls Try.prog 7 #[.int .i64 x, .int .i64 a, .int .i64 b, .int .i64 c, .int .i64 u] w fun e w' => e = .returned (.bool true) ∧ Below w.heap.size w w' := by
  go_enter Try.func7, Try.ntmps7
  go_wp2_with fail
  refine (Sin_c _ _).mono ?_
  rintro e w' ⟨rfl, rfl⟩
  go_wp2_with fail
  refine (Cos_c _ _).mono ?_
  rintro e w' ⟨rfl, rfl⟩
  go_wp2_with fail
  refine (SinR_c _ _).mono ?_
  rintro e w' ⟨rfl, rfl⟩
  go_wp2_with fail
  refine (CosR_c _ _).mono ?_
  rintro e w' ⟨rfl, rfl⟩
  go_wp2_with fail
  refine (Two_c _ _ _ _).mono ?_
  rintro e w1 ⟨rfl, hb1⟩
  have HB1 := Lib.hid hb1
  clear hb1
  go_wp2_with fail
  refine (TwoR_c _ _ _ _).mono ?_
  rintro e w' ⟨rfl, rfl⟩
  go_wp2_with fail
  refine (TurnTo_c _ _ _ _).mono ?_
  rintro e w2 ⟨rfl, hb2⟩
  have HB2 := Lib.hid (HB1.out.trans (hb2.mono HB1.out.size))
  clear hb2 HB1
  go_wp2_with fail
  refine (TurnToR_c _ _ _ _).mono ?_
  rintro e w' ⟨rfl, rfl⟩
  go_wp2_with fail
  refine (TurnBack_c _ _ _ _).mono ?_
  rintro e w3 ⟨rfl, hb3⟩
  have HB3 := Lib.hid (HB2.out.trans (hb3.mono HB2.out.size))
  clear hb3 HB2
  go_wp2_with fail
  refine (TurnBackR_c _ _ _ _).mono ?_
  rintro e w' ⟨rfl, rfl⟩
  go_wp2_with fail
  refine (Phases_c _ _ _).mono ?_
  rintro e w4 ⟨rfl, hb4⟩
  have HB4 := Lib.hid (HB3.out.trans (hb4.mono HB3.out.size))
  have hz4 := HB4.out.size
  clear hb4 HB3
  go_wp2_with fail
  refine (PhasesR_c _ _ _).mono ?_
  rintro e w5 ⟨rfl, hb5⟩
  have p0 : w5.cell? ⟨w4.heap.size, 0, none⟩ = some (.int .i64 (Dv.ph1 a b)) := below_cell hb5 (by simp) (by go_simp)
  have p1 : w5.cell? ⟨w4.heap.size, 1, none⟩ = some (.int .i64 (Dv.ph2 a b)) := below_cell hb5 (by simp) (by go_simp)
  have p2 : w5.cell? ⟨w4.heap.size, 2, none⟩ = some (.int .i64 (Dv.ph3 a b)) := below_cell hb5 (by simp) (by go_simp)
  have hz5 : w4.heap.size < w5.heap.size := by have := hb5.size; simp at this; omega
  have HB5 := Lib.hid (show Below w.heap.size w w5 from (HB4.out.alloc hz4 _).trans (hb5.mono (by simp; omega)))
  have hz5' := HB5.out.size
  clear hb5 HB4
  go_wp2_with fail
  refine (Duties_c _ _ _ _ _).mono ?_
  rintro e w6 ⟨rfl, hb6⟩
  have HB6 := Lib.hid (show Below w.heap.size w w6 from (HB5.out.alloc hz5' _).trans (hb6.mono (by simp; omega)))
  have hz6' := HB6.out.size
  clear hb6 HB5 p0 p1 p2
  go_wp2_with fail
  refine (DutiesR_c _ _ _ _ _).mono ?_
  rintro e w7 ⟨rfl, hb7⟩
  have q0 : w7.cell? ⟨w6.heap.size, 0, none⟩ = some (.int .i64 (Dv.duV a b c u a)) := below_cell hb7 (by simp) (by go_simp)
  have q1 : w7.cell? ⟨w6.heap.size, 1, none⟩ = some (.int .i64 (Dv.duV a b c u b)) := below_cell hb7 (by simp) (by go_simp)
  have q2 : w7.cell? ⟨w6.heap.size, 2, none⟩ = some (.int .i64 (Dv.duV a b c u c)) := below_cell hb7 (by simp) (by go_simp)
  have hz7 : w6.heap.size < w7.heap.size := by have := hb7.size; simp at this; omega
  have HB7 := Lib.hid (show Below w.heap.size w w7 from (HB6.out.alloc hz6' _).trans (hb7.mono (by simp; omega)))
  have hz7' := HB7.out.size
  clear hb7 HB6
  go_wp2_with fail
  refine (known_c _).mono ?_
  rintro e w8 ⟨rfl, hb8⟩
  go_wp2
  go_ret
  exact ⟨rfl, (HB7.out.alloc hz7' _).trans (hb8.mono (by simp; omega))⟩
end Go.Proofs.Ytcneohhfnnelgaa
