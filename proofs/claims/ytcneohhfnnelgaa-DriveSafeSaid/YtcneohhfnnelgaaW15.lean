/- The contract of Duties of coulombref06. -/
import Derived.Test.YtcneohhfnnelgaaW14
import Derived.Test.YtcneohhfnnelgaaLDuties
namespace Go.Proofs.Ytcneohhfnnelgaa
open Go.RowKit
set_option linter.unusedVariables false

set_option maxHeartbeats 1000000 in
theorem DutiesR_no (a b c u : Int) (w : World) (hR : Dv.duR a b c u = false) : Calls Try.prog 35 #[.agg #[.int .i64 a, .int .i64 b, .int .i64 c], .int .i64 u] w fun e w' => e = .returned (.tuple #[.agg #[.int .i64 (Dv.duV a b c u a), .int .i64 (Dv.duV a b c u b), .int .i64 (Dv.duV a b c u c)], .bool (Dv.duC a b c u), .int .i64 (Dv.duE a b c u)]) ∧ Below w.heap.size w w' := by
  have E := Lib.hid (show Dv.duV a b c u a = 0 ∧ Dv.duV a b c u b = 0 ∧ Dv.duV a b c u c = 0 ∧ Dv.duC a b c u = false ∧ Dv.duE a b c u = 3 from by simp [Dv.duV, Dv.duC, Dv.duE, hR])
  have hcases : upB 1073741824 [a] = false ∨ (upB 1073741824 [a] = true ∧ upB 1073741824 [b] = false) ∨ (upB 1073741824 [a] = true ∧ upB 1073741824 [b] = true ∧ upB 1073741824 [c] = false) ∨ (upB 1073741824 [a] = true ∧ upB 1073741824 [b] = true ∧ upB 1073741824 [c] = true ∧ Dv.busE u = 3) := by
    unfold Dv.duR at hR
    rw [up3_and] at hR
    cases ha : upB 1073741824 [a]
    · exact .inl rfl
    · cases hb : upB 1073741824 [b]
      · exact .inr (.inl ⟨rfl, rfl⟩)
      · cases hc : upB 1073741824 [c]
        · exact .inr (.inr (.inl ⟨rfl, rfl, rfl⟩))
        · refine .inr (.inr (.inr ⟨rfl, rfl, rfl, ?_⟩))
          rw [ha, hb, hc] at hR
          have : Dv.busB u = false := by simpa [Dv.busB, Dv.inB] using hR
          simp [Dv.busE, this]
  clear hR
  rcases hcases with h1 | ⟨h1, h2⟩ | ⟨h1, h2, h3⟩ | ⟨h1, h2, h3, h4⟩
  all_goals
    go_enter Try.func35, Try.ntmps35
    go_wp2_with (first | (go_at_call 79; refine (volt_c _ _).mono ?_; rintro e w' ⟨rfl, rfl⟩) | (go_at_call 87; refine (busR_c _ _).mono ?_; rintro e w' ⟨rfl, rfl⟩))
    exact bodyPost_ret (v := .tuple #[.agg #[.int .i64 0, .int .i64 0, .int .i64 0], .bool false, .int .i64 3]) (by simp [results, Try.results35, go_sem]) rfl ⟨retDu E.out.1.symm E.out.2.1.symm E.out.2.2.1.symm E.out.2.2.2.1.symm E.out.2.2.2.2.symm, ((Below.refl _ _).alloc (Nat.le_refl _) _).alloc (by simp) _⟩

set_option maxHeartbeats 1000000 in
set_option maxRecDepth 100000 in
theorem DutiesR_plain (a b c u : Int) (w : World) (hu : upB 1073741824 [a, b, c] = true) (h0 : 1 ≤ u) (h1 : u ≤ 1073741824) (hc : ¬ u < Dv.mx3 a b c - Dv.mn3 a b c) : Calls Try.prog 35 #[.agg #[.int .i64 a, .int .i64 b, .int .i64 c], .int .i64 u] w fun e w' => e = .returned (.tuple #[.agg #[.int .i64 (Dv.duV a b c u a), .int .i64 (Dv.duV a b c u b), .int .i64 (Dv.duV a b c u c)], .bool (Dv.duC a b c u), .int .i64 (Dv.duE a b c u)]) ∧ Below w.heap.size w w' := by
  obtain ⟨u1, u2, u3⟩ := upB3.1 hu
  have ua := upB1.2 u1
  have ub := upB1.2 u2
  have uc := upB1.2 u3
  have hbe : Dv.busE u = 0 := by simp [Dv.busE, Dv.busB, Dv.inB, h0, h1]
  have hR : Dv.duR a b c u = true := by simp [Dv.duR, hu, h0, h1]
  have hC : Dv.duCut a b c u = false := by simpa [Dv.duCut] using hc
  have hP : ∀ x, Dv.duP a b c u x = x := by intro x; simp [Dv.duP, hC]
  have E := Lib.hid (show (∀ x, Dv.duV a b c u x = Dv.duD (Dv.mn3 a b c) (Dv.mx3 a b c) u x) ∧ Dv.duC a b c u = false ∧ Dv.duE a b c u = 0 from ⟨fun x => by simp [Dv.duV, hR, Dv.duLo, Dv.duHi, hP], by simp [Dv.duC, hC], by simp [Dv.duE, hR]⟩)
  clear hR hC hP hu
  obtain ⟨n1, n2, n3, n4⟩ := Dv.mn3_bd a b c
  obtain ⟨m1, m2, m3, m4⟩ := Dv.mx3_bd a b c
  have nb : -1073741824 ≤ Dv.mn3 a b c ∧ Dv.mn3 a b c ≤ 1073741824 := by omega
  have mb : -1073741824 ≤ Dv.mx3 a b c ∧ Dv.mx3 a b c ≤ 1073741824 := by omega
  clear n4 m4
  have pmx := fun ts t W => max3_run ts t a b c W
  have pmn := fun ts t W => min3_run ts t a b c W
  go_enter Try.func35, Try.ntmps35
  go_wp2_with (first | (go_at_call 79; refine (volt_c _ _).mono ?_; rintro e w' ⟨rfl, rfl⟩) | (go_at_call 87; refine (busR_c _ _).mono ?_; rintro e w' ⟨rfl, rfl⟩))
  go_quiet (fail)
  go_wp2_with fail
  refine wp_loop_rounds 4 ?_
  rw [rounds_succ]
  go_wp2_with (first | (go_at_call 85; refine (floor_c _ _ _ (by omega) (by omega) (by omega)).mono ?_; rintro e w' ⟨rfl, rfl⟩) | (go_at_call 88; refine (into_c _ _ _ _).mono ?_; rintro e w' ⟨rfl, rfl⟩))
  rw [rounds_succ]
  go_wp2_with (first | (go_at_call 85; refine (floor_c _ _ _ (by omega) (by omega) (by omega)).mono ?_; rintro e w' ⟨rfl, rfl⟩) | (go_at_call 88; refine (into_c _ _ _ _).mono ?_; rintro e w' ⟨rfl, rfl⟩))
  rw [rounds_succ]
  go_wp2_with (first | (go_at_call 85; refine (floor_c _ _ _ (by omega) (by omega) (by omega)).mono ?_; rintro e w' ⟨rfl, rfl⟩) | (go_at_call 88; refine (into_c _ _ _ _).mono ?_; rintro e w' ⟨rfl, rfl⟩))
  rw [rounds_succ]
  go_wp2_with fail
  refine bodyPost_ret (v := .tuple #[.agg #[.int .i64 (Dv.duD (Dv.mn3 a b c) (Dv.mx3 a b c) u a), .int .i64 (Dv.duD (Dv.mn3 a b c) (Dv.mx3 a b c) u b), .int .i64 (Dv.duD (Dv.mn3 a b c) (Dv.mx3 a b c) u c)], .bool (decide (u < Dv.mx3 a b c - Dv.mn3 a b c)), .int .i64 0]) (by simp [results, Try.results35, go_sem, Dv.duD]) rfl ⟨?_, ?_⟩
  · exact retDu (E.out.1 a).symm (E.out.1 b).symm (E.out.1 c).symm (by rw [E.out.2.1]; simp; omega) E.out.2.2.symm
  · exact ((((below_drewN (((Below.refl _ _).alloc (Nat.le_refl _) _).alloc (by simp) _) nq).setCell (by simp) _).setCell (by simp) _).setCell (by simp) _).alloc (by simp; omega) _
end Go.Proofs.Ytcneohhfnnelgaa
