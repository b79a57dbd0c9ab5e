/- The contract of Duties of drive. -/
import Derived.Test.YtcneohhfnnelgaaW4
import Derived.LoopN
namespace Go.Proofs.Ytcneohhfnnelgaa
open Go.RowKit

namespace Dv
def mn3 (a b c : Int) : Int := min (min a b) c
def mx3 (a b c : Int) : Int := max (max a b) c
theorem mn3_bd (a b c : Int) : mn3 a b c ≤ a ∧ mn3 a b c ≤ b ∧ mn3 a b c ≤ c ∧ (mn3 a b c = a ∨ mn3 a b c = b ∨ mn3 a b c = c) := by unfold mn3; omega
theorem mx3_bd (a b c : Int) : a ≤ mx3 a b c ∧ b ≤ mx3 a b c ∧ c ≤ mx3 a b c ∧ (mx3 a b c = a ∨ mx3 a b c = b ∨ mx3 a b c = c) := by unfold mx3; omega
def duR (a b c u : Int) : Bool := upB 1073741824 [a, b, c] && decide (1 ≤ u ∧ u ≤ 1073741824)
def duCut (a b c u : Int) : Bool := decide (u < mx3 a b c - mn3 a b c)
def duP (a b c u x : Int) : Int := if duCut a b c u = true then x * u / (mx3 a b c - mn3 a b c) else x
def duD (lo hi u x : Int) : Int := clip ((2 * x - hi - lo + u) * 65536 / (2 * u)) 0 65536
def duLo (a b c u : Int) : Int := mn3 (duP a b c u a) (duP a b c u b) (duP a b c u c)
def duHi (a b c u : Int) : Int := mx3 (duP a b c u a) (duP a b c u b) (duP a b c u c)
def duV (a b c u x : Int) : Int := if duR a b c u = true then duD (duLo a b c u) (duHi a b c u) u (duP a b c u x) else 0
def duC (a b c u : Int) : Bool := duR a b c u && duCut a b c u
def duE (a b c u : Int) : Int := if duR a b c u = true then 0 else 3
theorem div_span (x u wide : Int) (hw : 1 ≤ wide) (hu : 0 ≤ u) (huw : u ≤ wide) (hx : -1073741824 ≤ x ∧ x ≤ 1073741824) : -1073741824 ≤ x * u / wide ∧ x * u / wide ≤ 1073741824 := by
  constructor
  · apply (Int.le_ediv_iff_mul_le (by omega)).2
    have h1 : -1073741824 * wide ≤ -1073741824 * u := Int.mul_le_mul_of_nonpos_left (by omega) huw
    have h2 : -1073741824 * u ≤ x * u := Int.mul_le_mul_of_nonneg_right (by omega) hu
    omega
  · have h : x * u / wide < 1073741825 := by
      apply Int.ediv_lt_of_lt_mul (by omega)
      have h1 : x * u ≤ 1073741824 * u := Int.mul_le_mul_of_nonneg_right (by omega) hu
      have h2 : 1073741824 * u ≤ 1073741824 * wide := Int.mul_le_mul_of_nonneg_left huw (by omega)
      omega
    omega
end Dv

theorem below_drewN {B : Nat} {a w : World} (h : Below B a w) (n : Nat) : Below B a (w.drewN n) := ⟨h.os, h.tape, h.output, h.size, h.block⟩
theorem intsAt3 {a b c : Int} {W : World} {g : Nat} (c0 : W.cell? ⟨g, 0, none⟩ = some (.int .i64 a)) (c1 : W.cell? ⟨g, 1, none⟩ = some (.int .i64 b)) (c2 : W.cell? ⟨g, 2, none⟩ = some (.int .i64 c)) : IntsAt W (some ⟨g, 0, none⟩) [a, b, c] := by
  intro i hi
  refine ⟨_, rfl, ?_⟩
  have e : (Addr.add ⟨g, 0, none⟩ i) = ⟨g, i, none⟩ := by unfold Addr.add; split <;> simp_all
  rw [e]
  simp at hi
  rcases i with _ | _ | _ | i
  · simpa using c0
  · simpa using c1
  · simpa using c2
  · omega
theorem upAt3 (m a b c : Int) (W : World) (g : Nat) (hm0 : 0 ≤ m) (hm1 : m ≤ 4611686018427387904) (c0 : W.cell? ⟨g, 0, none⟩ = some (.int .i64 a)) (c1 : W.cell? ⟨g, 1, none⟩ = some (.int .i64 b)) (c2 : W.cell? ⟨g, 2, none⟩ = some (.int .i64 c)) :
    Calls Try.prog 67 #[.int .i64 m, .slice (some ⟨g, 0, none⟩) 3 3] W fun e w' => e = .returned (.bool (upB m [a, b, c])) ∧ W = w' :=
  upTo_c m _ [a, b, c] 3 _ hm0 hm1 (by simp) (intsAt3 c0 c1 c2)
theorem endsAt3 (a b c : Int) (W : World) (g : Nat) (c0 : W.cell? ⟨g, 0, none⟩ = some (.int .i64 a)) (c1 : W.cell? ⟨g, 1, none⟩ = some (.int .i64 b)) (c2 : W.cell? ⟨g, 2, none⟩ = some (.int .i64 c)) :
    Calls Try.prog 68 #[.slice (some ⟨g, 0, none⟩) 3 3] W fun e w' => e = .returned (.tuple #[.int .i64 (Dv.mn3 a b c), .int .i64 (Dv.mx3 a b c)]) ∧ ∃ n, w' = W.drewN n :=
  ends_c _ [a, b, c] 3 W (by simp) (by simp) (by omega) (intsAt3 c0 c1 c2)

theorem retDu {k : IntKind} {a b c a' b' c' e e' : Int} {x x' : Bool} (h1 : a = a') (h2 : b = b') (h3 : c = c') (h4 : x = x') (h5 : e = e') :
    Ending.returned (.tuple #[.agg #[.int k a, .int k b, .int k c], .bool x, .int k e]) = .returned (.tuple #[.agg #[.int k a', .int k b', .int k c'], .bool x', .int k e']) := by rw [h1, h2, h3, h4, h5]

set_option maxHeartbeats 400000 in
theorem Duties_no (a b c u : Int) (w : World) (hR : Dv.duR a b c u = false) : Calls Try.prog 18 #[.agg #[.int .i64 a, .int .i64 b, .int .i64 c], .int .i64 u] w fun e w' => e = .returned (.tuple #[.agg #[.int .i64 (Dv.duV a b c u a), .int .i64 (Dv.duV a b c u b), .int .i64 (Dv.duV a b c u c)], .bool (Dv.duC a b c u), .int .i64 (Dv.duE a b c u)]) ∧ Below w.heap.size w w' := by
  have E := Lib.hid (show Dv.duV a b c u a = 0 ∧ Dv.duV a b c u b = 0 ∧ Dv.duV a b c u c = 0 ∧ Dv.duC a b c u = false ∧ Dv.duE a b c u = 3 from by simp [Dv.duV, Dv.duC, Dv.duE, hR])
  unfold Dv.duR at hR
  cases hu : upB 1073741824 [a, b, c]
  · clear hR
    go_enter Try.func18, Try.ntmps18
    go_wp2_with (first | (go_at_call 67; refine (upAt3 _ a b c _ _ (by omega) (by omega) (by go_simp) (by go_simp) (by go_simp)).mono ?_; rintro e w' ⟨rfl, rfl⟩))
    exact bodyPost_ret (v := .tuple #[.agg #[.int .i64 0, .int .i64 0, .int .i64 0], .bool false, .int .i64 3]) (by simp [results, Try.results18, go_sem]) rfl ⟨retDu E.out.1.symm E.out.2.1.symm E.out.2.2.1.symm E.out.2.2.2.1.symm E.out.2.2.2.2.symm, ((Below.refl _ _).alloc (Nat.le_refl _) _).alloc (by simp) _⟩
  · rw [hu, Bool.true_and] at hR
    by_cases h1 : 1 ≤ u
    · have h2 : ¬ u ≤ 1073741824 := by simpa [h1] using hR
      clear hR
      go_enter Try.func18, Try.ntmps18
      go_wp2_with (first | (go_at_call 67; refine (upAt3 _ a b c _ _ (by omega) (by omega) (by go_simp) (by go_simp) (by go_simp)).mono ?_; rintro e w' ⟨rfl, rfl⟩))
      exact bodyPost_ret (v := .tuple #[.agg #[.int .i64 0, .int .i64 0, .int .i64 0], .bool false, .int .i64 3]) (by simp [results, Try.results18, go_sem]) rfl ⟨retDu E.out.1.symm E.out.2.1.symm E.out.2.2.1.symm E.out.2.2.2.1.symm E.out.2.2.2.2.symm, ((Below.refl _ _).alloc (Nat.le_refl _) _).alloc (by simp) _⟩
    · clear hR
      go_enter Try.func18, Try.ntmps18
      go_wp2_with (first | (go_at_call 67; refine (upAt3 _ a b c _ _ (by omega) (by omega) (by go_simp) (by go_simp) (by go_simp)).mono ?_; rintro e w' ⟨rfl, rfl⟩))
      exact bodyPost_ret (v := .tuple #[.agg #[.int .i64 0, .int .i64 0, .int .i64 0], .bool false, .int .i64 3]) (by simp [results, Try.results18, go_sem]) rfl ⟨retDu E.out.1.symm E.out.2.1.symm E.out.2.2.1.symm E.out.2.2.2.1.symm E.out.2.2.2.2.symm, ((Below.refl _ _).alloc (Nat.le_refl _) _).alloc (by simp) _⟩

set_option maxHeartbeats 1000000 in
set_option maxRecDepth 100000 in
theorem Duties_plain (a b c u : Int) (w : World) (hu : upB 1073741824 [a, b, c] = true) (h0 : 1 ≤ u) (h1 : u ≤ 1073741824) (hc : ¬ u < Dv.mx3 a b c - Dv.mn3 a b c) : Calls Try.prog 18 #[.agg #[.int .i64 a, .int .i64 b, .int .i64 c], .int .i64 u] w fun e w' => e = .returned (.tuple #[.agg #[.int .i64 (Dv.duV a b c u a), .int .i64 (Dv.duV a b c u b), .int .i64 (Dv.duV a b c u c)], .bool (Dv.duC a b c u), .int .i64 (Dv.duE a b c u)]) ∧ Below w.heap.size w w' := by
  obtain ⟨u1, u2, u3⟩ := upB3.1 hu
  have hR : Dv.duR a b c u = true := by simp [Dv.duR, hu, h0, h1]
  have hC : Dv.duCut a b c u = false := by simpa [Dv.duCut] using hc
  have hP : ∀ x, Dv.duP a b c u x = x := by intro x; simp [Dv.duP, hC]
  have E := Lib.hid (show (∀ x, Dv.duV a b c u x = Dv.duD (Dv.mn3 a b c) (Dv.mx3 a b c) u x) ∧ Dv.duC a b c u = false ∧ Dv.duE a b c u = 0 from ⟨fun x => by simp [Dv.duV, hR, Dv.duLo, Dv.duHi, hP], by simp [Dv.duC, hC], by simp [Dv.duE, hR]⟩)
  clear hR hC hP
  obtain ⟨n1, n2, n3, n4⟩ := Dv.mn3_bd a b c
  obtain ⟨m1, m2, m3, m4⟩ := Dv.mx3_bd a b c
  have nb : -1073741824 ≤ Dv.mn3 a b c ∧ Dv.mn3 a b c ≤ 1073741824 := by omega
  have mb : -1073741824 ≤ Dv.mx3 a b c ∧ Dv.mx3 a b c ≤ 1073741824 := by omega
  clear n4 m4
  go_enter Try.func18, Try.ntmps18
  go_wp2_with (first | (go_at_call 67; refine (upAt3 _ a b c _ _ (by omega) (by omega) (by go_simp) (by go_simp) (by go_simp)).mono ?_; rintro e w' ⟨rfl, rfl⟩) | (go_at_call 68; refine (endsAt3 a b c _ _ (by go_simp) (by go_simp) (by go_simp)).mono ?_; rintro e w' ⟨rfl, nd, rfl⟩))
  refine wp_loop_rounds 4 ?_
  rw [rounds_succ]
  go_wp2_with (first | (go_at_call 69; refine (div_c _ _ _ (by omega) (by omega) (by omega)).mono ?_; rintro e w' ⟨rfl, rfl⟩) | (go_at_call 70; refine (clip_c _ _ _ _).mono ?_; rintro e w' ⟨rfl, rfl⟩))
  rw [rounds_succ]
  go_wp2_with (first | (go_at_call 69; refine (div_c _ _ _ (by omega) (by omega) (by omega)).mono ?_; rintro e w' ⟨rfl, rfl⟩) | (go_at_call 70; refine (clip_c _ _ _ _).mono ?_; rintro e w' ⟨rfl, rfl⟩))
  rw [rounds_succ]
  go_wp2_with (first | (go_at_call 69; refine (div_c _ _ _ (by omega) (by omega) (by omega)).mono ?_; rintro e w' ⟨rfl, rfl⟩) | (go_at_call 70; refine (clip_c _ _ _ _).mono ?_; rintro e w' ⟨rfl, rfl⟩))
  rw [rounds_succ]
  go_wp2_with (first | (go_at_call 69; refine (div_c _ _ _ (by omega) (by omega) (by omega)).mono ?_; rintro e w' ⟨rfl, rfl⟩) | (go_at_call 70; refine (clip_c _ _ _ _).mono ?_; rintro e w' ⟨rfl, rfl⟩))
  refine bodyPost_ret (v := .tuple #[.agg #[.int .i64 (Dv.duD (Dv.mn3 a b c) (Dv.mx3 a b c) u a), .int .i64 (Dv.duD (Dv.mn3 a b c) (Dv.mx3 a b c) u b), .int .i64 (Dv.duD (Dv.mn3 a b c) (Dv.mx3 a b c) u c)], .bool (decide (u < Dv.mx3 a b c - Dv.mn3 a b c)), .int .i64 0]) (by simp [results, Try.results18, go_sem, Dv.duD]) rfl ⟨?_, ?_⟩
  · exact retDu (E.out.1 a).symm (E.out.1 b).symm (E.out.1 c).symm (by rw [E.out.2.1]; simp; omega) E.out.2.2.symm
  · exact ((((((below_drewN (((Below.refl _ _).alloc (Nat.le_refl _) _).alloc (by simp) _) nd).setCell (by simp) _).setCell (by simp) _).setCell (by simp) _).setCell (by simp) _).setCell (by simp) _).setCell (by simp) _

end Go.Proofs.Ytcneohhfnnelgaa
