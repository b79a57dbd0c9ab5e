/- The contract of Duties of drive, where it cuts. -/
import Derived.Test.YtcneohhfnnelgaaW5
namespace Go.Proofs.Ytcneohhfnnelgaa
open Go.RowKit

set_option maxHeartbeats 2000000 in
set_option maxRecDepth 100000 in
theorem Duties_cut (a b c u : Int) (w : World) (hu : upB 1073741824 [a, b, c] = true) (h0 : 1 ≤ u) (h1 : u ≤ 1073741824) (hc : u < Dv.mx3 a b c - Dv.mn3 a b c) : Calls Try.prog 18 #[.agg #[.int .i64 a, .int .i64 b, .int .i64 c], .int .i64 u] w fun e w' => e = .returned (.tuple #[.agg #[.int .i64 (Dv.duV a b c u a), .int .i64 (Dv.duV a b c u b), .int .i64 (Dv.duV a b c u c)], .bool (Dv.duC a b c u), .int .i64 (Dv.duE a b c u)]) ∧ Below w.heap.size w w' := by
  obtain ⟨u1, u2, u3⟩ := upB3.1 hu
  have hR : Dv.duR a b c u = true := by simp [Dv.duR, hu, h0, h1]
  have hC : Dv.duCut a b c u = true := by simpa [Dv.duCut] using hc
  obtain ⟨n1, n2, n3, n4⟩ := Dv.mn3_bd a b c
  obtain ⟨m1, m2, m3, m4⟩ := Dv.mx3_bd a b c
  have nb : -1073741824 ≤ Dv.mn3 a b c ∧ Dv.mn3 a b c ≤ 1073741824 := by omega
  have mb : -1073741824 ≤ Dv.mx3 a b c ∧ Dv.mx3 a b c ≤ 1073741824 := by omega
  clear n4 m4
  have hP : ∀ x, Dv.duP a b c u x = x * u / (Dv.mx3 a b c - Dv.mn3 a b c) := by intro x; simp [Dv.duP, hC]
  have EV := Lib.hid (show (∀ x, Dv.duV a b c u x = Dv.duD (Dv.duLo a b c u) (Dv.duHi a b c u) u (Dv.duP a b c u x)) ∧ Dv.duC a b c u = true ∧ Dv.duE a b c u = 0 from ⟨fun x => by simp [Dv.duV, hR], by simp [Dv.duC, hC, hR], by simp [Dv.duE, hR]⟩)
  have hPb : ∀ x, -1073741824 ≤ x ∧ x ≤ 1073741824 → -1073741824 ≤ Dv.duP a b c u x ∧ Dv.duP a b c u x ≤ 1073741824 := fun x hx => by rw [hP]; exact Dv.div_span x u _ (by omega) (by omega) (by omega) hx
  obtain ⟨pa0, pa1⟩ := hPb a u1
  obtain ⟨pb0, pb1⟩ := hPb b u2
  obtain ⟨pc0, pc1⟩ := hPb c u3
  have EP := Lib.hid hP
  have EL := Lib.hid (show Dv.mn3 (Dv.duP a b c u a) (Dv.duP a b c u b) (Dv.duP a b c u c) = Dv.duLo a b c u ∧ Dv.mx3 (Dv.duP a b c u a) (Dv.duP a b c u b) (Dv.duP a b c u c) = Dv.duHi a b c u from ⟨rfl, rfl⟩)
  obtain ⟨ln1, ln2, ln3, ln4⟩ := Dv.mn3_bd (Dv.duP a b c u a) (Dv.duP a b c u b) (Dv.duP a b c u c)
  obtain ⟨lm1, lm2, lm3, lm4⟩ := Dv.mx3_bd (Dv.duP a b c u a) (Dv.duP a b c u b) (Dv.duP a b c u c)
  have lb : -1073741824 ≤ Dv.mn3 (Dv.duP a b c u a) (Dv.duP a b c u b) (Dv.duP a b c u c) ∧ Dv.mn3 (Dv.duP a b c u a) (Dv.duP a b c u b) (Dv.duP a b c u c) ≤ 1073741824 := by omega
  have lh : -1073741824 ≤ Dv.mx3 (Dv.duP a b c u a) (Dv.duP a b c u b) (Dv.duP a b c u c) ∧ Dv.mx3 (Dv.duP a b c u a) (Dv.duP a b c u b) (Dv.duP a b c u c) ≤ 1073741824 := by omega
  rw [EL.out.1] at lb
  rw [EL.out.2] at lh
  obtain ⟨xa0, xa1⟩ := Dv.mul_bd (x := a) (y := u) 1073741824 1073741824 u1 (by omega)
  obtain ⟨xb0, xb1⟩ := Dv.mul_bd (x := b) (y := u) 1073741824 1073741824 u2 (by omega)
  obtain ⟨xc0, xc1⟩ := Dv.mul_bd (x := c) (y := u) 1073741824 1073741824 u3 (by omega)
  clear hR hC hP hPb ln1 ln2 ln3 ln4 lm1 lm2 lm3 lm4
  have dv : ∀ (x : Int) (W : World), -1073741824 * 1073741824 ≤ x * u ∧ x * u ≤ 1073741824 * 1073741824 → Calls Try.prog 69 #[.int .i64 (x * u), .int .i64 (Dv.mx3 a b c - Dv.mn3 a b c)] W fun e w' => e = .returned (.int .i64 (Dv.duP a b c u x)) ∧ W = w' := by
    intro x W hx
    refine (div_c (x * u) _ W (by omega) (by omega) (by omega)).mono ?_
    intro e w' h
    rw [EP.out x]
    exact h
  have en : ∀ (W : World) (g : Nat), W.cell? ⟨g, 0, none⟩ = some (.int .i64 (Dv.duP a b c u a)) → W.cell? ⟨g, 1, none⟩ = some (.int .i64 (Dv.duP a b c u b)) → W.cell? ⟨g, 2, none⟩ = some (.int .i64 (Dv.duP a b c u c)) → Calls Try.prog 68 #[.slice (some ⟨g, 0, none⟩) 3 3] W fun e w' => e = .returned (.tuple #[.int .i64 (Dv.duLo a b c u), .int .i64 (Dv.duHi a b c u)]) ∧ ∃ n, w' = W.drewN n := by
    intro W g c0 c1 c2
    exact endsAt3 _ _ _ W g c0 c1 c2
  have DV := Lib.hid dv
  have EN := Lib.hid en
  clear dv en
  go_enter Try.func18, Try.ntmps18
  go_wp2_with (first | (go_at_call 67; refine (upAt3 _ a b c _ _ (by omega) (by omega) (by go_simp) (by go_simp) (by go_simp)).mono ?_; rintro e w' ⟨rfl, rfl⟩) | (go_at_call 68; refine (endsAt3 a b c _ _ (by go_simp) (by go_simp) (by go_simp)).mono ?_; rintro e w' ⟨rfl, nd, rfl⟩))
  refine wp_loop_rounds 4 ?_
  rw [rounds_succ]
  go_wp2_with (first | (go_at_call 69; refine (DV.out _ _ (by omega)).mono ?_; rintro e w' ⟨rfl, rfl⟩))
  rw [rounds_succ]
  go_wp2_with (first | (go_at_call 69; refine (DV.out _ _ (by omega)).mono ?_; rintro e w' ⟨rfl, rfl⟩))
  rw [rounds_succ]
  go_wp2_with (first | (go_at_call 69; refine (DV.out _ _ (by omega)).mono ?_; rintro e w' ⟨rfl, rfl⟩))
  rw [rounds_succ]
  go_wp2_with fail
  refine (EN.out _ _ (by go_simp) (by go_simp) (by go_simp)).mono ?_
  rintro e w1 ⟨rfl, nd2, hw1⟩
  have c0 : w1.cell? ⟨w.heap.size, 0, none⟩ = some (.int .i64 (Dv.duP a b c u a)) := by rw [hw1]; go_simp
  have c1 : w1.cell? ⟨w.heap.size, 1, none⟩ = some (.int .i64 (Dv.duP a b c u b)) := by rw [hw1]; go_simp
  have c2 : w1.cell? ⟨w.heap.size, 2, none⟩ = some (.int .i64 (Dv.duP a b c u c)) := by rw [hw1]; go_simp
  have d0 : w1.cell? ⟨w.heap.size + 1, 0, none⟩ = some (.int .i64 0) := by rw [hw1]; go_simp
  have d1 : w1.cell? ⟨w.heap.size + 1, 1, none⟩ = some (.int .i64 0) := by rw [hw1]; go_simp
  have d2 : w1.cell? ⟨w.heap.size + 1, 2, none⟩ = some (.int .i64 0) := by rw [hw1]; go_simp
  have f0 : w1.frozen? ⟨w.heap.size, 0, none⟩ = false := by rw [hw1]; go_simp
  have f1 : w1.frozen? ⟨w.heap.size, 1, none⟩ = false := by rw [hw1]; go_simp
  have f2 : w1.frozen? ⟨w.heap.size, 2, none⟩ = false := by rw [hw1]; go_simp
  have k0 : w1.frozen? ⟨w.heap.size + 1, 0, none⟩ = false := by rw [hw1]; go_simp
  have k1 : w1.frozen? ⟨w.heap.size + 1, 1, none⟩ = false := by rw [hw1]; go_simp
  have k2 : w1.frozen? ⟨w.heap.size + 1, 2, none⟩ = false := by rw [hw1]; go_simp
  have hz : w.heap.size + 1 < w1.heap.size := by rw [hw1]; simp
  have HB := Lib.hid (show Below w.heap.size w w1 from by
    rw [hw1]
    exact below_drewN ((((below_drewN (((Below.refl _ _).alloc (Nat.le_refl _) _).alloc (by simp) _) nd).setCell (by simp) _).setCell (by simp) _).setCell (by simp) _) nd2)
  clear hw1
  go_wp2
  refine wp_loop_rounds 4 ?_
  rw [rounds_succ]
  go_wp2_with (first | (go_at_call 69; refine (div_c _ _ _ (by omega) (by omega) (by omega)).mono ?_; rintro e w' ⟨rfl, rfl⟩) | (go_at_call 70; refine (clip_c _ _ _ _).mono ?_; rintro e w' ⟨rfl, rfl⟩))
  rw [rounds_succ]
  go_wp2_with (first | (go_at_call 69; refine (div_c _ _ _ (by omega) (by omega) (by omega)).mono ?_; rintro e w' ⟨rfl, rfl⟩) | (go_at_call 70; refine (clip_c _ _ _ _).mono ?_; rintro e w' ⟨rfl, rfl⟩))
  rw [rounds_succ]
  go_wp2_with (first | (go_at_call 69; refine (div_c _ _ _ (by omega) (by omega) (by omega)).mono ?_; rintro e w' ⟨rfl, rfl⟩) | (go_at_call 70; refine (clip_c _ _ _ _).mono ?_; rintro e w' ⟨rfl, rfl⟩))
  rw [rounds_succ]
  go_wp2_with (first | (go_at_call 69; refine (div_c _ _ _ (by omega) (by omega) (by omega)).mono ?_; rintro e w' ⟨rfl, rfl⟩) | (go_at_call 70; refine (clip_c _ _ _ _).mono ?_; rintro e w' ⟨rfl, rfl⟩))
  refine bodyPost_ret (v := .tuple #[.agg #[.int .i64 (Dv.duD (Dv.duLo a b c u) (Dv.duHi a b c u) u (Dv.duP a b c u a)), .int .i64 (Dv.duD (Dv.duLo a b c u) (Dv.duHi a b c u) u (Dv.duP a b c u b)), .int .i64 (Dv.duD (Dv.duLo a b c u) (Dv.duHi a b c u) u (Dv.duP a b c u c))], .bool true, .int .i64 0]) (by simp [results, Try.results18, go_sem, Dv.duD, d0, d1, d2]) rfl ⟨?_, ?_⟩
  · exact retDu (EV.out.1 a).symm (EV.out.1 b).symm (EV.out.1 c).symm EV.out.2.1.symm EV.out.2.2.symm
  · exact (((((HB.out.setCell (by simp) _).setCell (by simp) _).setCell (by simp) _).setCell (by simp) _).setCell (by simp) _).setCell (by simp) _

theorem Duties_c (a b c u : Int) (w : World) : Calls Try.prog 18 #[.agg #[.int .i64 a, .int .i64 b, .int .i64 c], .int .i64 u] w fun e w' => e = .returned (.tuple #[.agg #[.int .i64 (Dv.duV a b c u a), .int .i64 (Dv.duV a b c u b), .int .i64 (Dv.duV a b c u c)], .bool (Dv.duC a b c u), .int .i64 (Dv.duE a b c u)]) ∧ Below w.heap.size w w' := by
  cases hR : Dv.duR a b c u
  · exact Duties_no a b c u w hR
  · have h : upB 1073741824 [a, b, c] = true ∧ (1 ≤ u ∧ u ≤ 1073741824) := by simpa [Dv.duR] using hR
    by_cases hc : u < Dv.mx3 a b c - Dv.mn3 a b c
    · exact Duties_cut a b c u w h.1 h.2.1 h.2.2 hc
    · exact Duties_plain a b c u w h.1 h.2.1 h.2.2 hc
end Go.Proofs.Ytcneohhfnnelgaa
