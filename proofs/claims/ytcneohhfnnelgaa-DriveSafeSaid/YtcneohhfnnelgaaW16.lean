/- The contract of Duties of coulombref06, where it cuts. -/
import Derived.Test.YtcneohhfnnelgaaW15
namespace Go.Proofs.Ytcneohhfnnelgaa
open Go.RowKit
set_option linter.unusedVariables false

set_option maxHeartbeats 2000000 in
set_option maxRecDepth 100000 in
theorem DutiesR_cut (a b c u : Int) (w : World) (hu : upB 1073741824 [a, b, c] = true) (h0 : 1 ≤ u) (h1 : u ≤ 1073741824) (hc : u < Dv.mx3 a b c - Dv.mn3 a b c) : Calls Try.prog 35 #[.agg #[.int .i64 a, .int .i64 b, .int .i64 c], .int .i64 u] w fun e w' => e = .returned (.tuple #[.agg #[.int .i64 (Dv.duV a b c u a), .int .i64 (Dv.duV a b c u b), .int .i64 (Dv.duV a b c u c)], .bool (Dv.duC a b c u), .int .i64 (Dv.duE a b c u)]) ∧ Below w.heap.size w w' := by
  obtain ⟨u1, u2, u3⟩ := upB3.1 hu
  have hR : Dv.duR a b c u = true := by simp [Dv.duR, hu, h0, h1]
  have hC : Dv.duCut a b c u = true := by simpa [Dv.duCut] using hc
  obtain ⟨n1, n2, n3, n4⟩ := Dv.mn3_bd a b c
  obtain ⟨m1, m2, m3, m4⟩ := Dv.mx3_bd a b c
  have nb : -1073741824 ≤ Dv.mn3 a b c ∧ Dv.mn3 a b c ≤ 1073741824 := by omega
  have mb : -1073741824 ≤ Dv.mx3 a b c ∧ Dv.mx3 a b c ≤ 1073741824 := by omega
  clear n4 m4
  have hP : ∀ x, Dv.duP a b c u x = x * u / (Dv.mx3 a b c - Dv.mn3 a b c) := by intro x; simp [Dv.duP, hC]
  have EV := Lib.hid (show (∀ x, Dv.duV a b c u x = Dv.duD (Dv.duLo a b c u) (Dv.duHi a b c u) u (Dv.duP a b c u x)) ∧ Dv.duC a b c u = true ∧ Dv.duE a b c u = 0 from ⟨fun x => by simp [Dv.duV, hR], by simp [Dv.duC, hC, hR], by simp [Dv.duE, hR]⟩)
  have hPb : ∀ x, -1073741824 ≤ x ∧ x ≤ 1073741824 → -1073741824 ≤ Dv.duP a b c u x ∧ Dv.duP a b c u x ≤ 1073741824 := fun x hx => by rw [hP]; exact Dv.div_span x u _ (by omega) (by omega) (by omega) hx
  obtain ⟨pa0, pa1⟩ := hPb a u1
  obtain ⟨pb0, pb1⟩ := hPb b u2
  obtain ⟨pc0, pc1⟩ := hPb c u3
  have EP := Lib.hid hP
  have EL := Lib.hid (show Dv.mn3 (Dv.duP a b c u a) (Dv.duP a b c u b) (Dv.duP a b c u c) = Dv.duLo a b c u ∧ Dv.mx3 (Dv.duP a b c u a) (Dv.duP a b c u b) (Dv.duP a b c u c) = Dv.duHi a b c u from ⟨rfl, rfl⟩)
  obtain ⟨ln1, ln2, ln3, ln4⟩ := Dv.mn3_bd (Dv.duP a b c u a) (Dv.duP a b c u b) (Dv.duP a b c u c)
  obtain ⟨lm1, lm2, lm3, lm4⟩ := Dv.mx3_bd (Dv.duP a b c u a) (Dv.duP a b c u b) (Dv.duP a b c u c)
  have lb : -1073741824 ≤ Dv.mn3 (Dv.duP a b c u a) (Dv.duP a b c u b) (Dv.duP a b c u c) ∧ Dv.mn3 (Dv.duP a b c u a) (Dv.duP a b c u b) (Dv.duP a b c u c) ≤ 1073741824 := by omega
  have lh : -1073741824 ≤ Dv.mx3 (Dv.duP a b c u a) (Dv.duP a b c u b) (Dv.duP a b c u c) ∧ Dv.mx3 (Dv.duP a b c u a) (Dv.duP a b c u b) (Dv.duP a b c u c) ≤ 1073741824 := by omega
  rw [EL.out.1] at lb
  rw [EL.out.2] at lh
  obtain ⟨xa0, xa1⟩ := Dv.mul_bd (x := a) (y := u) 1073741824 1073741824 u1 (by omega)
  obtain ⟨xb0, xb1⟩ := Dv.mul_bd (x := b) (y := u) 1073741824 1073741824 u2 (by omega)
  obtain ⟨xc0, xc1⟩ := Dv.mul_bd (x := c) (y := u) 1073741824 1073741824 u3 (by omega)
  clear hR hC hP hPb ln1 ln2 ln3 ln4 lm1 lm2 lm3 lm4
  have hbe : Dv.busE u = 0 := by simp [Dv.busE, Dv.busB, Dv.inB, h0, h1]
  have ua := upB1.2 u1
  have ub := upB1.2 u2
  have uc := upB1.2 u3
  clear hu
  have dv : ∀ (x : Int) (W : World), -1073741824 * 1073741824 ≤ x * u ∧ x * u ≤ 1073741824 * 1073741824 → Calls Try.prog 85 #[.int .i64 (x * u), .int .i64 (Dv.mx3 a b c - Dv.mn3 a b c)] W fun e w' => e = .returned (.int .i64 (Dv.duP a b c u x)) ∧ W = w' := by
    intro x W hx
    refine (floor_c (x * u) _ W (by omega) (by omega) (by omega)).mono ?_
    intro e w' h
    rw [EP.out x]
    exact h
  have DV := Lib.hid dv
  clear dv
  have pmx := fun ts t W => max3_run ts t a b c W
  have pmn := fun ts t W => min3_run ts t a b c W
  have qmx : ∀ (ts : Array TypeId) (t : TypeId) (W : World), (Builtin.max_ ts t #[.int .i64 (Dv.duP a b c u a), .int .i64 (Dv.duP a b c u b), .int .i64 (Dv.duP a b c u c)]).run Try.prog W = .ok (.int .i64 (Dv.duHi a b c u)) W := fun ts t W => max3_run ts t _ _ _ W
  have qmn : ∀ (ts : Array TypeId) (t : TypeId) (W : World), (Builtin.min_ ts t #[.int .i64 (Dv.duP a b c u a), .int .i64 (Dv.duP a b c u b), .int .i64 (Dv.duP a b c u c)]).run Try.prog W = .ok (.int .i64 (Dv.duLo a b c u)) W := fun ts t W => min3_run ts t _ _ _ W
  go_enter Try.func35, Try.ntmps35
  go_wp2_with (first | (go_at_call 79; refine (volt_c _ _).mono ?_; rintro e w' ⟨rfl, rfl⟩) | (go_at_call 87; refine (busR_c _ _).mono ?_; rintro e w' ⟨rfl, rfl⟩))
  go_quiet (fail)
  obtain ⟨nA, rfl⟩ : ∃ n, n = nq := ⟨_, rfl⟩
  go_wp2_with fail
  refine wp_loop_rounds 4 ?_
  rw [rounds_succ]
  go_wp2_with (first | (go_at_call 85; refine (DV.out _ _ (by omega)).mono ?_; rintro e w' ⟨rfl, rfl⟩))
  rw [rounds_succ]
  go_wp2_with (first | (go_at_call 85; refine (DV.out _ _ (by omega)).mono ?_; rintro e w' ⟨rfl, rfl⟩))
  rw [rounds_succ]
  go_wp2_with (first | (go_at_call 85; refine (DV.out _ _ (by omega)).mono ?_; rintro e w' ⟨rfl, rfl⟩))
  rw [rounds_succ]
  go_wp2_with fail
  go_quiet (fail)
  generalize hw1 : (((((((w.alloc (.cells #[.int .i64 a, .int .i64 b, .int .i64 c] 22)).alloc (.cells #[.int .i64 0, .int .i64 0, .int .i64 0] 22)).drewN nA).setCell ⟨w.heap.size, 0, none⟩ (.int .i64 (Dv.duP a b c u a))).setCell ⟨w.heap.size, 1, none⟩ (.int .i64 (Dv.duP a b c u b))).setCell ⟨w.heap.size, 2, none⟩ (.int .i64 (Dv.duP a b c u c))).drewN nq) = w1
  replace hw1 := hw1.symm
  have c0 : w1.cell? ⟨w.heap.size, 0, none⟩ = some (.int .i64 (Dv.duP a b c u a)) := by rw [hw1]; go_simp
  have c1 : w1.cell? ⟨w.heap.size, 1, none⟩ = some (.int .i64 (Dv.duP a b c u b)) := by rw [hw1]; go_simp
  have c2 : w1.cell? ⟨w.heap.size, 2, none⟩ = some (.int .i64 (Dv.duP a b c u c)) := by rw [hw1]; go_simp
  have d0 : w1.cell? ⟨w.heap.size + 1, 0, none⟩ = some (.int .i64 0) := by rw [hw1]; go_simp
  have d1 : w1.cell? ⟨w.heap.size + 1, 1, none⟩ = some (.int .i64 0) := by rw [hw1]; go_simp
  have d2 : w1.cell? ⟨w.heap.size + 1, 2, none⟩ = some (.int .i64 0) := by rw [hw1]; go_simp
  have k0 : w1.frozen? ⟨w.heap.size + 1, 0, none⟩ = false := by rw [hw1]; go_simp
  have k1 : w1.frozen? ⟨w.heap.size + 1, 1, none⟩ = false := by rw [hw1]; go_simp
  have k2 : w1.frozen? ⟨w.heap.size + 1, 2, none⟩ = false := by rw [hw1]; go_simp
  have hz : w.heap.size + 1 < w1.heap.size := by rw [hw1]; simp
  have hz0 : w.heap.size < w1.heap.size := by omega
  have HB := Lib.hid (show Below w.heap.size w w1 from by
    rw [hw1]
    exact below_drewN ((((below_drewN (((Below.refl _ _).alloc (Nat.le_refl _) _).alloc (by simp) _) nA).setCell (by simp) _).setCell (by simp) _).setCell (by simp) _) nq)
  clear hw1
  go_wp2_with fail
  refine wp_loop_rounds 4 ?_
  rw [rounds_succ]
  go_wp2_with (first | (go_at_call 85; refine (floor_c _ _ _ (by omega) (by omega) (by omega)).mono ?_; rintro e w' ⟨rfl, rfl⟩) | (go_at_call 88; refine (into_c _ _ _ _).mono ?_; rintro e w' ⟨rfl, rfl⟩))
  rw [rounds_succ]
  go_wp2_with (first | (go_at_call 85; refine (floor_c _ _ _ (by omega) (by omega) (by omega)).mono ?_; rintro e w' ⟨rfl, rfl⟩) | (go_at_call 88; refine (into_c _ _ _ _).mono ?_; rintro e w' ⟨rfl, rfl⟩))
  rw [rounds_succ]
  go_wp2_with (first | (go_at_call 85; refine (floor_c _ _ _ (by omega) (by omega) (by omega)).mono ?_; rintro e w' ⟨rfl, rfl⟩) | (go_at_call 88; refine (into_c _ _ _ _).mono ?_; rintro e w' ⟨rfl, rfl⟩))
  rw [rounds_succ]
  go_wp2_with fail
  refine bodyPost_ret (v := .tuple #[.agg #[.int .i64 (Dv.duD (Dv.duLo a b c u) (Dv.duHi a b c u) u (Dv.duP a b c u a)), .int .i64 (Dv.duD (Dv.duLo a b c u) (Dv.duHi a b c u) u (Dv.duP a b c u b)), .int .i64 (Dv.duD (Dv.duLo a b c u) (Dv.duHi a b c u) u (Dv.duP a b c u c))], .bool true, .int .i64 0]) (by simp [results, Try.results35, go_sem, Dv.duD, d0, d1, d2, hz]) rfl ⟨?_, ?_⟩
  · exact retDu (EV.out.1 a).symm (EV.out.1 b).symm (EV.out.1 c).symm EV.out.2.1.symm EV.out.2.2.symm
  · exact (((HB.out.setCell (by simp) _).setCell (by simp) _).setCell (by simp) _).alloc (by simp; omega) _

theorem DutiesR_c (a b c u : Int) (w : World) : Calls Try.prog 35 #[.agg #[.int .i64 a, .int .i64 b, .int .i64 c], .int .i64 u] w fun e w' => e = .returned (.tuple #[.agg #[.int .i64 (Dv.duV a b c u a), .int .i64 (Dv.duV a b c u b), .int .i64 (Dv.duV a b c u c)], .bool (Dv.duC a b c u), .int .i64 (Dv.duE a b c u)]) ∧ Below w.heap.size w w' := by
  cases hR : Dv.duR a b c u
  · exact DutiesR_no a b c u w hR
  · have h : upB 1073741824 [a, b, c] = true ∧ (1 ≤ u ∧ u ≤ 1073741824) := by simpa [Dv.duR] using hR
    by_cases hc : u < Dv.mx3 a b c - Dv.mn3 a b c
    · exact DutiesR_cut a b c u w h.1 h.2.1 h.2.2 hc
    · exact DutiesR_plain a b c u w h.1 h.2.1 h.2.2 hc
end Go.Proofs.Ytcneohhfnnelgaa
