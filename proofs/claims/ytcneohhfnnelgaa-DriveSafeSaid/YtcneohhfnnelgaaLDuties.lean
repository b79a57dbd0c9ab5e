/- The walk of coulomblaw06.DriveDuties: it returns true for all phases and bus voltages. -/
import Derived.Test.YtcneohhfnnelgaaW7
import Derived.Test.YtcneohhfnnelgaaM2
namespace Go.Proofs.Ytcneohhfnnelgaa
open Go.RowKit
set_option linter.unusedVariables false

theorem max3_run (ts : Array TypeId) (t : TypeId) (x y z : Int) (w : World) : (Builtin.max_ ts t #[.int .i64 x, .int .i64 y, .int .i64 z]).run Try.prog w = .ok (.int .i64 (Dv.mx3 x y z)) w := by
  rw [run_max_int3]
  congr 2
  unfold Dv.mx3
  by_cases h : x < y
  · rw [if_pos h]; split <;> omega
  · rw [if_neg h]; split <;> omega
theorem min3_run (ts : Array TypeId) (t : TypeId) (x y z : Int) (w : World) : (Builtin.min_ ts t #[.int .i64 x, .int .i64 y, .int .i64 z]).run Try.prog w = .ok (.int .i64 (Dv.mn3 x y z)) w := by
  rw [run_min_int3]
  congr 2
  unfold Dv.mn3
  by_cases h : y < x
  · rw [if_pos h]; split <;> omega
  · rw [if_neg h]; split <;> omega

/-- what Duties returns, as a case of the law needs it -/
def DutiesIs (a b c u A B C : Int) (cut : Bool) (x : Int) : Prop := ∀ w : World, Calls Try.prog 18 #[.agg #[.int .i64 a, .int .i64 b, .int .i64 c], .int .i64 u] w fun en w' => en = .returned (.tuple #[.agg #[.int .i64 A, .int .i64 B, .int .i64 C], .bool cut, .int .i64 x]) ∧ Below w.heap.size w w'

set_option maxHeartbeats 1000000 in
theorem duties_refused (a b c u : Int) (H : DutiesIs a b c u 0 0 0 false 3) (w : World) :
    Calls Try.prog 3 #[.agg #[.int .i64 a, .int .i64 b, .int .i64 c], .int .i64 u] w fun e w' => e = .returned (.bool true) ∧ Below w.heap.size w w' := by
  go_enter Try.func3, Try.ntmps3
  go_wp2_with fail
  refine (H _).mono ?_
  rintro en w1 ⟨rfl, hb1⟩
  have HB := Lib.hid (show Below w.heap.size w w1 from ((Below.refl _ _).alloc (Nat.le_refl _) _).trans (hb1.mono (by simp)))
  have hz := HB.out.size
  clear hb1
  go_wp2_with (go_at_call 19; refine (known_c _).mono ?_; rintro e w2 ⟨rfl, hb2⟩)
  go_ret
  exact ⟨rfl, HB.out.trans (((Below.refl _ _).alloc hz _).trans (hb2.mono (by simp; omega)))⟩

set_option maxHeartbeats 1000000 in
theorem duties_cut (a b c u A B C : Int) (H : DutiesIs a b c u A B C true 0) (w : World) (g1 : 0 ≤ Dv.mn3 A B C) (g2 : Dv.mx3 A B C ≤ 65536) (g3 : Dv.mx3 A B C + Dv.mn3 A B C = 65536 ∨ Dv.mx3 A B C + Dv.mn3 A B C = 65535)
    (h1 : -1073741824 ≤ Dv.mn3 a b c) (h2 : Dv.mx3 a b c ≤ 1073741824) (hcu : u < Dv.mx3 a b c - Dv.mn3 a b c) (h3 : Dv.mn3 a b c ≤ Dv.mx3 a b c) (h4 : Dv.mn3 A B C ≤ Dv.mx3 A B C) :
    Calls Try.prog 3 #[.agg #[.int .i64 a, .int .i64 b, .int .i64 c], .int .i64 u] w fun e w' => e = .returned (.bool true) ∧ Below w.heap.size w w' := by
  rcases g3 with g3 | g3
  all_goals
    go_enter Try.func3, Try.ntmps3
    go_wp2_with fail
    refine (H _).mono ?_
    rintro en w1 ⟨rfl, hb1⟩
    obtain ⟨hc, hf⟩ := bcell hb1
    have c0 : w1.cell? ⟨w.heap.size, 0, none⟩ = some (.int .i64 a) := (hc _ _ (by simp)).trans (by go_simp)
    have c1 : w1.cell? ⟨w.heap.size, 1, none⟩ = some (.int .i64 b) := (hc _ _ (by simp)).trans (by go_simp)
    have c2 : w1.cell? ⟨w.heap.size, 2, none⟩ = some (.int .i64 c) := (hc _ _ (by simp)).trans (by go_simp)
    have HB := Lib.hid (show Below w.heap.size w w1 from ((Below.refl _ _).alloc (Nat.le_refl _) _).trans (hb1.mono (by simp)))
    have hz := HB.out.size
    have hz2 : w.heap.size < w1.heap.size := by have := hb1.size; simp at this; omega
    clear hc hf hb1
    have hmx := fun ts t W => max3_run ts t A B C W
    have hmn := fun ts t W => min3_run ts t A B C W
    have pmx := fun ts t W => max3_run ts t a b c W
    have pmn := fun ts t W => min3_run ts t a b c W
    go_wp2_with fail
    go_quiet (fail)
    go_wp2_with fail
    refine wp_loop_rounds 1 ?_
    rw [rounds_succ]
    go_wp2_with (go_at_call 19; refine (known_c _).mono ?_; rintro e w2 ⟨rfl, hb2⟩)
    go_ret
    exact ⟨rfl, HB.out.trans ((below_drewN ((Below.refl _ _).alloc hz _) _).trans (hb2.mono (by simp; omega)))⟩

def pick3 (a b c : Int) (j : Nat) : Int := if j = 0 then a else if j = 1 then b else c
theorem pick3_or (a b c : Int) (j : Nat) (h : j < 3) : (pick3 a b c j = a ∧ j = 0) ∨ (pick3 a b c j = b ∧ j = 1) ∨ (pick3 a b c j = c ∧ j = 2) := by
  unfold pick3
  rcases j with _ | _ | _ | j
  · simp
  · simp
  · simp
  · omega
/-- what the loops know of the world -/
def DuW (w : World) (g g1 : Nat) (a b c A B C : Int) (wr : World) : Prop :=
  (∀ j, j < 3 → wr.cell? ⟨g, j, none⟩ = some (.int .i64 (pick3 a b c j))) ∧ (∀ j, j < 3 → wr.cell? ⟨g1, j, none⟩ = some (.int .i64 (pick3 A B C j))) ∧ Below w.heap.size w wr
theorem DuW.drewN {w : World} {g g1 : Nat} {a b c A B C : Int} {wr : World} (h : DuW w g g1 a b c A B C wr) (n : Nat) : DuW w g g1 a b c A B C (wr.drewN n) :=
  ⟨fun j hj => by have := h.1 j hj; simpa using this, fun j hj => by have := h.2.1 j hj; simpa using this, below_drewN h.2.2 n⟩
theorem duW_mk {w : World} {g g1 : Nat} {a b c A B C : Int} {wr : World} (c0 : wr.cell? ⟨g, 0, none⟩ = some (.int .i64 a)) (c1 : wr.cell? ⟨g, 1, none⟩ = some (.int .i64 b)) (c2 : wr.cell? ⟨g, 2, none⟩ = some (.int .i64 c))
    (d0 : wr.cell? ⟨g1, 0, none⟩ = some (.int .i64 A)) (d1 : wr.cell? ⟨g1, 1, none⟩ = some (.int .i64 B)) (d2 : wr.cell? ⟨g1, 2, none⟩ = some (.int .i64 C)) (hb : Below w.heap.size w wr) : DuW w g g1 a b c A B C wr := by
  refine ⟨fun j hj => ?_, fun j hj => ?_, hb⟩
  · rcases j with _ | _ | _ | j
    · exact c0
    · exact c1
    · exact c2
    · omega
  · rcases j with _ | _ | _ | j
    · exact d0
    · exact d1
    · exact d2
    · omega

set_option maxHeartbeats 1000000 in
theorem duties_plain (a b c u A B C : Int) (H : DutiesIs a b c u A B C false 0) (w : World) (hu : 1 ≤ u) (hu2 : u ≤ 1073741824) (g1 : 0 ≤ Dv.mn3 A B C) (g2 : Dv.mx3 A B C ≤ 65536) (g3 : Dv.mx3 A B C + Dv.mn3 A B C = 65536 ∨ Dv.mx3 A B C + Dv.mn3 A B C = 65535)
    (h1 : -1073741824 ≤ Dv.mn3 a b c) (h2 : Dv.mx3 a b c ≤ 1073741824) (hcu : ¬ u < Dv.mx3 a b c - Dv.mn3 a b c) (h3 : Dv.mn3 a b c ≤ Dv.mx3 a b c) (h4 : Dv.mn3 A B C ≤ Dv.mx3 A B C)
    (hP : Hid (∀ j, j < 3 → -1073741824 ≤ pick3 a b c j ∧ pick3 a b c j ≤ 1073741824)) (hD : Hid (∀ j, j < 3 → 0 ≤ pick3 A B C j ∧ pick3 A B C j ≤ 65536))
    (hX : Hid (∀ i k, i < 3 → k < 3 → (pick3 A B C i - pick3 A B C k) * u - (pick3 a b c i - pick3 a b c k) * 65536 < u ∧ -u < (pick3 A B C i - pick3 A B C k) * u - (pick3 a b c i - pick3 a b c k) * 65536)) :
    Calls Try.prog 3 #[.agg #[.int .i64 a, .int .i64 b, .int .i64 c], .int .i64 u] w fun e w' => e = .returned (.bool true) ∧ Below w.heap.size w w' := by
  rcases g3 with g3 | g3
  all_goals
    go_enter Try.func3, Try.ntmps3
    go_wp2_with fail
    refine (H _).mono ?_
    rintro en w1 ⟨rfl, hb1⟩
    obtain ⟨hc, hf⟩ := bcell hb1
    have c0 : w1.cell? ⟨w.heap.size, 0, none⟩ = some (.int .i64 a) := (hc _ _ (by simp)).trans (by go_simp)
    have c1 : w1.cell? ⟨w.heap.size, 1, none⟩ = some (.int .i64 b) := (hc _ _ (by simp)).trans (by go_simp)
    have c2 : w1.cell? ⟨w.heap.size, 2, none⟩ = some (.int .i64 c) := (hc _ _ (by simp)).trans (by go_simp)
    have HB := Lib.hid (show Below w.heap.size w w1 from ((Below.refl _ _).alloc (Nat.le_refl _) _).trans (hb1.mono (by simp)))
    have hz := HB.out.size
    have hz2 : w.heap.size < w1.heap.size := by have := hb1.size; simp at this; omega
    clear hc hf hb1
    have hmx := fun ts t W => max3_run ts t A B C W
    have hmn := fun ts t W => min3_run ts t A B C W
    have pmx := fun ts t W => max3_run ts t a b c W
    have pmn := fun ts t W => min3_run ts t a b c W
    go_wp2_with fail
    go_quiet (fail)
    go_wp2_with fail
    have HW : DuW w w.heap.size w1.heap.size a b c A B C ((w1.alloc (.cells #[.int .i64 A, .int .i64 B, .int .i64 C] 22)).drewN nq) :=
      duW_mk (by go_simp) (by go_simp) (by go_simp) (by go_simp) (by go_simp) (by go_simp) (below_drewN (HB.out.alloc hz _) _)
    generalize ((w1.alloc (.cells #[.int .i64 A, .int .i64 B, .int .i64 C] 22)).drewN nq) = W2 at HW ⊢
    have HH := Lib.hid HW
    clear HW c0 c1 c2 hmx hmn pmx pmn g1 g2 g3 h1 h2 hcu h3 h4
    go_loopw [10] (fun i wr => ∃ k : Nat, k ≤ 3 ∧ i = .int .i64 k ∧ DuW w w.heap.size w1.heap.size a b c A B C wr) (fun i _ => 3 - (intOf i).toNat)
    case atStart => exact ⟨0, by omega, rfl, HH.out⟩
    case round =>
      obtain ⟨i, hi, rfl, hw0⟩ := hrel
      have HI := Lib.hid hw0
      clear hw0
      by_cases hlt : i < 3
      · go_wp2_with fail
        go_loopw [11] (fun k wx => ∃ j : Nat, j ≤ 3 ∧ k = .int .i64 j ∧ DuW w w.heap.size w1.heap.size a b c A B C wx) (fun k _ => 3 - (intOf k).toNat)
        case atStart => exact ⟨0, by omega, rfl, HI.out⟩
        case round =>
          obtain ⟨j, hj, rfl, hw0⟩ := hrel
          have HJ := Lib.hid hw0
          clear hw0
          by_cases hlt2 : j < 3
          · have hx := hX.out i j hlt hlt2
            have hp1 := hP.out i hlt
            have hp2 := hP.out j hlt2
            have hd1 := hD.out i hlt
            have hd2 := hD.out j hlt2
            have e1 := HJ.out.1 i hlt
            have e2 := HJ.out.1 j hlt2
            have e3 := HJ.out.2.1 i hlt
            have e4 := HJ.out.2.1 j hlt2
            generalize pick3 a b c i = pi at *
            generalize pick3 a b c j = pj at *
            generalize pick3 A B C i = di at *
            generalize pick3 A B C j = dj at *
            obtain ⟨m0, m1⟩ := Dv.mul_bd (x := di - dj) (y := u) 65536 1073741824 (by omega) (by omega)
            go_wp2_with fail
            go_quiet (fail)
            go_wp2_with fail
            go_roundw
            case rel => exact ⟨j + 1, by omega, by go_num, HJ.out.drewN _⟩
            case measure => simp [intOf]; omega
          · go_wp2_with fail
            go_roundw
            case rel => exact ⟨i + 1, by omega, by go_num, HJ.out⟩
            case measure => simp [intOf]; omega
      · go_wp2_with (go_at_call 19; refine (known_c _).mono ?_; rintro e w2 ⟨rfl, hb2⟩)
        go_ret
        exact ⟨rfl, HI.out.2.2.trans (hb2.mono HI.out.2.2.size)⟩

theorem dutiesIs_of {a b c u A B C x : Int} {cut : Bool} (h1 : Dv.duV a b c u a = A) (h2 : Dv.duV a b c u b = B) (h3 : Dv.duV a b c u c = C) (h4 : Dv.duC a b c u = cut) (h5 : Dv.duE a b c u = x) : DutiesIs a b c u A B C cut x :=
  fun w => (Duties_c a b c u w).mono fun _ _ ⟨he, hw⟩ => ⟨he.trans (retDu h1 h2 h3 h4 h5), hw⟩

theorem DriveDuties_any (a b c u : Int) (w : World) :
    Calls Try.prog 3 #[.agg #[.int .i64 a, .int .i64 b, .int .i64 c], .int .i64 u] w fun e w' => e = .returned (.bool true) ∧ Below w.heap.size w w' := by
  cases hR : Dv.duR a b c u
  · exact duties_refused a b c u (dutiesIs_of (by simp [Dv.duV, hR]) (by simp [Dv.duV, hR]) (by simp [Dv.duV, hR]) (by simp [Dv.duC, hR]) (by simp [Dv.duE, hR])) w
  · have h : upB 1073741824 [a, b, c] = true ∧ (1 ≤ u ∧ u ≤ 1073741824) := by simpa [Dv.duR] using hR
    obtain ⟨hu, u0, u1⟩ := h
    obtain ⟨ba, bb, bc⟩ := upB3.1 hu
    obtain ⟨n1, n2, n3, n4⟩ := Dv.mn3_bd a b c
    obtain ⟨m1, m2, m3, m4⟩ := Dv.mx3_bd a b c
    obtain ⟨g1, g2, g3, g4⟩ := Dv.du_good hR
    generalize hA : Dv.duV a b c u a = A at *
    generalize hB : Dv.duV a b c u b = B at *
    generalize hC : Dv.duV a b c u c = C at *
    obtain ⟨N1, N2, N3, N4⟩ := Dv.mn3_bd A B C
    obtain ⟨M1, M2, M3, M4⟩ := Dv.mx3_bd A B C
    cases hc : Dv.duC a b c u
    · have hcut : ¬ u < Dv.mx3 a b c - Dv.mn3 a b c := by simpa [Dv.duC, hR, Dv.duCut] using hc
      refine duties_plain a b c u A B C (dutiesIs_of hA hB hC hc (by simp [Dv.duE, hR])) w u0 u1 g1 g2 g3 (by omega) (by omega) hcut (by omega) (by omega) ?_ ?_ ?_
      · intro j hj
        rcases pick3_or a b c j hj with ⟨e, _⟩ | ⟨e, _⟩ | ⟨e, _⟩ <;> rw [e] <;> omega
      · intro j hj
        rcases pick3_or A B C j hj with ⟨e, _⟩ | ⟨e, _⟩ | ⟨e, _⟩ <;> rw [e] <;> omega
      · intro i k hi hk
        refine g4 hc _ _ _ _ ?_ ?_
        · rcases i with _ | _ | _ | i
          · exact .inl ⟨rfl, rfl⟩
          · exact .inr (.inl ⟨rfl, rfl⟩)
          · exact .inr (.inr ⟨rfl, rfl⟩)
          · omega
        · rcases k with _ | _ | _ | k
          · exact .inl ⟨rfl, rfl⟩
          · exact .inr (.inl ⟨rfl, rfl⟩)
          · exact .inr (.inr ⟨rfl, rfl⟩)
          · omega
    · have hcut : u < Dv.mx3 a b c - Dv.mn3 a b c := by simpa [Dv.duC, hR, Dv.duCut] using hc
      exact duties_cut a b c u A B C (dutiesIs_of hA hB hC hc (by simp [Dv.duE, hR])) w g1 g2 g3 (by omega) (by omega) hcut (by omega) (by omega)
end Go.Proofs.Ytcneohhfnnelgaa
