/- Motors: whether one is valid. Contracts of Check of drive and of coulombref06. -/
import Derived.Test.YtcneohhfnnelgaaW12
namespace Go.Proofs.Ytcneohhfnnelgaa
open Go.RowKit
set_option linter.unusedVariables false

/-- a motor's numbers -/
structure Mot where
  r : Int
  ld : Int
  lq : Int
  fx : Int
  po : Int
  mi : Int
  sp : Int
  dr : Int
  cu : Int
  fa : Int

namespace Dv
def chk (m : Mot) : Prop := (0 ≤ m.r ∧ m.r ≤ 1048576) ∧ (1 ≤ m.ld ∧ m.ld ≤ 4194304) ∧ (1 ≤ m.lq ∧ m.lq ≤ 4194304) ∧ (0 ≤ m.fx ∧ m.fx ≤ 4194304) ∧ (1 ≤ m.po ∧ m.po ≤ 16) ∧ (1 ≤ m.mi ∧ m.mi ≤ 1000) ∧ (0 ≤ m.sp ∧ m.sp ≤ 1048576) ∧ (0 ≤ m.dr ∧ m.dr ≤ 1048576) ∧ (1 ≤ m.cu ∧ m.cu ≤ 1048576) ∧ (0 ≤ m.fa ∧ m.fa ≤ 16384)
instance (m : Mot) : Decidable (chk m) := by unfold chk; infer_instance
def chkB (m : Mot) : Bool := decide (chk m)
def chkE (m : Mot) : Int := if chkB m = true then 0 else 2
def motX (m : Mot) (k : Nat) : Int := [m.r, m.ld, m.lq, m.fx, m.po, m.mi, m.sp, m.dr, m.cu, m.fa].getD k 0
def motL (k : Nat) : Int := [0, 1, 1, 0, 1, 1, 0, 0, 1, 0].getD k 0
def motH (k : Nat) : Int := [1048576, 4194304, 4194304, 4194304, 16, 1000, 1048576, 1048576, 1048576, 16384].getD k 0
theorem chk_iff (m : Mot) : chk m ↔ ∀ k, k < 10 → motL k ≤ motX m k ∧ motX m k ≤ motH k := by
  constructor
  · intro h k hk
    unfold chk at h
    obtain ⟨h0, h1, h2, h3, h4, h5, h6, h7, h8, h9⟩ := h
    rcases k with _ | _ | _ | _ | _ | _ | _ | _ | _ | _ | k
    · exact h0
    · exact h1
    · exact h2
    · exact h3
    · exact h4
    · exact h5
    · exact h6
    · exact h7
    · exact h8
    · exact h9
    · omega
  · intro h
    exact ⟨h 0 (by omega), h 1 (by omega), h 2 (by omega), h 3 (by omega), h 4 (by omega), h 5 (by omega), h 6 (by omega), h 7 (by omega), h 8 (by omega), h 9 (by omega)⟩
end Dv

theorem chk_index (m : Mot) (k : Nat) (hk : k < 10) (w : World) : (Instr.index 116 (.agg #[.int .i64 m.r, .int .i64 0, .int .i64 1048576, .int .i64 m.ld, .int .i64 1, .int .i64 4194304, .int .i64 m.lq, .int .i64 1, .int .i64 4194304, .int .i64 m.fx, .int .i64 0, .int .i64 4194304, .int .i64 m.po, .int .i64 1, .int .i64 16, .int .i64 m.mi, .int .i64 1, .int .i64 1000, .int .i64 m.sp, .int .i64 0, .int .i64 1048576, .int .i64 m.dr, .int .i64 0, .int .i64 1048576, .int .i64 m.cu, .int .i64 1, .int .i64 1048576, .int .i64 m.fa, .int .i64 0, .int .i64 16384]) (.int .i64 (k : Int))).run Try.prog w = .ok (.agg #[.int .i64 (Dv.motX m k), .int .i64 (Dv.motL k), .int .i64 (Dv.motH k)]) w := by
  rcases k with _ | _ | _ | _ | _ | _ | _ | _ | _ | _ | k
  · kernel_rfl
  · kernel_rfl
  · kernel_rfl
  · kernel_rfl
  · kernel_rfl
  · kernel_rfl
  · kernel_rfl
  · kernel_rfl
  · kernel_rfl
  · kernel_rfl
  · omega

set_option maxHeartbeats 1000000 in
theorem Check_c (m : Mot) (w : World) : Calls Try.prog 48 #[.agg #[.int .i64 m.r, .int .i64 m.ld, .int .i64 m.lq, .int .i64 m.fx, .int .i64 m.po, .int .i64 m.mi, .int .i64 m.sp, .int .i64 m.dr, .int .i64 m.cu, .int .i64 m.fa]] w fun e w' => e = .returned (.int .i64 (Dv.chkE m)) ∧ Below w.heap.size w w' := by
  have HI := Lib.hid (chk_index m)
  go_enter Try.func48, Try.ntmps48
  go_wp2_with fail
  go_loopw [36] (fun i wr => ∃ k : Nat, k ≤ 10 ∧ i = .int .i64 k ∧ Below w.heap.size w wr ∧ ∀ j, j < k → Dv.motL j ≤ Dv.motX m j ∧ Dv.motX m j ≤ Dv.motH j) (fun i _ => 10 - (intOf i).toNat)
  case atStart => exact ⟨0, by omega, rfl, (Below.refl _ _).alloc (Nat.le_refl _) _, fun j hj => absurd hj (Nat.not_lt_zero _)⟩
  case round =>
    obtain ⟨k, hk, rfl, hb, hall⟩ := hrel
    have HB := Lib.hid hb
    have HA := Lib.hid hall
    have hz := hb.size
    clear hb hall
    by_cases hlt : k < 10
    · have hidx := fun W => HI.out k hlt W
      have HX := Lib.hid (show (Dv.motL k ≤ Dv.motX m k ∧ Dv.motX m k ≤ Dv.motH k) ↔ (Dv.motL k ≤ Dv.motX m k ∧ Dv.motX m k ≤ Dv.motH k) from Iff.rfl)
      generalize hx : Dv.motX m k = x at hidx
      generalize hl : Dv.motL k = l at hidx
      generalize hh : Dv.motH k = h at hidx
      have HE := Lib.hid (And.intro hx (And.intro hl hh))
      clear hx hl hh
      by_cases h1 : l ≤ x
      · by_cases h2 : x ≤ h
        · go_wp2_with fail
          go_roundw
          case rel =>
            refine ⟨k + 1, by omega, by go_num, HB.out.alloc hz _, fun j hj => ?_⟩
            by_cases hjk : j < k
            · exact HA.out j hjk
            · obtain rfl : j = k := by omega
              rw [HE.out.1, HE.out.2.1, HE.out.2.2]
              exact ⟨h1, h2⟩
          case measure => simp [intOf]; omega
        · go_wp2_with fail
          go_ret
          refine ⟨ret_int ?_, HB.out.alloc hz _⟩
          have : Dv.chkB m = false := by
            simp only [Dv.chkB, decide_eq_false_iff_not, Dv.chk_iff]
            intro hc
            have := hc k hlt
            rw [HE.out.1, HE.out.2.1, HE.out.2.2] at this
            omega
          simp [Dv.chkE, this]
      · go_wp2_with fail
        go_ret
        refine ⟨ret_int ?_, HB.out.alloc hz _⟩
        have : Dv.chkB m = false := by
          simp only [Dv.chkB, decide_eq_false_iff_not, Dv.chk_iff]
          intro hc
          have := hc k hlt
          rw [HE.out.1, HE.out.2.1, HE.out.2.2] at this
          omega
        simp [Dv.chkE, this]
    · go_wp2_with fail
      go_ret
      refine ⟨ret_int ?_, HB.out⟩
      have : Dv.chkB m = true := by
        simp only [Dv.chkB, decide_eq_true_eq, Dv.chk_iff]
        intro j hj
        exact HA.out j (by omega)
      simp [Dv.chkE, this]

set_option maxHeartbeats 400000 in
theorem CheckR_no0 (m : Mot) (w : World) (h0 : Dv.inB m.r 0 1048576 = false) : Calls Try.prog 49 #[.agg #[.int .i64 m.r, .int .i64 m.ld, .int .i64 m.lq, .int .i64 m.fx, .int .i64 m.po, .int .i64 m.mi, .int .i64 m.sp, .int .i64 m.dr, .int .i64 m.cu, .int .i64 m.fa]] w fun e w' => e = .returned (.int .i64 2) ∧ Below w.heap.size w w' := by
  go_enter Try.func49, Try.ntmps49
  go_wp2_with (go_at_call 80; refine (within_c _ _ _ _).mono ?_; rintro e w' ⟨rfl, rfl⟩)
  go_ret
  exact ⟨rfl, (Below.refl _ _).alloc (Nat.le_refl _) _⟩

set_option maxHeartbeats 400000 in
theorem CheckR_no1 (m : Mot) (w : World) (h0 : Dv.inB m.r 0 1048576 = true) (h1 : Dv.inB m.ld 1 4194304 = false) : Calls Try.prog 49 #[.agg #[.int .i64 m.r, .int .i64 m.ld, .int .i64 m.lq, .int .i64 m.fx, .int .i64 m.po, .int .i64 m.mi, .int .i64 m.sp, .int .i64 m.dr, .int .i64 m.cu, .int .i64 m.fa]] w fun e w' => e = .returned (.int .i64 2) ∧ Below w.heap.size w w' := by
  go_enter Try.func49, Try.ntmps49
  go_wp2_with (go_at_call 80; refine (within_c _ _ _ _).mono ?_; rintro e w' ⟨rfl, rfl⟩)
  go_ret
  exact ⟨rfl, (Below.refl _ _).alloc (Nat.le_refl _) _⟩

set_option maxHeartbeats 400000 in
theorem CheckR_no2 (m : Mot) (w : World) (h0 : Dv.inB m.r 0 1048576 = true) (h1 : Dv.inB m.ld 1 4194304 = true) (h2 : Dv.inB m.lq 1 4194304 = false) : Calls Try.prog 49 #[.agg #[.int .i64 m.r, .int .i64 m.ld, .int .i64 m.lq, .int .i64 m.fx, .int .i64 m.po, .int .i64 m.mi, .int .i64 m.sp, .int .i64 m.dr, .int .i64 m.cu, .int .i64 m.fa]] w fun e w' => e = .returned (.int .i64 2) ∧ Below w.heap.size w w' := by
  go_enter Try.func49, Try.ntmps49
  go_wp2_with (go_at_call 80; refine (within_c _ _ _ _).mono ?_; rintro e w' ⟨rfl, rfl⟩)
  go_ret
  exact ⟨rfl, (Below.refl _ _).alloc (Nat.le_refl _) _⟩

set_option maxHeartbeats 400000 in
theorem CheckR_no3 (m : Mot) (w : World) (h0 : Dv.inB m.r 0 1048576 = true) (h1 : Dv.inB m.ld 1 4194304 = true) (h2 : Dv.inB m.lq 1 4194304 = true) (h3 : Dv.inB m.fx 0 4194304 = false) : Calls Try.prog 49 #[.agg #[.int .i64 m.r, .int .i64 m.ld, .int .i64 m.lq, .int .i64 m.fx, .int .i64 m.po, .int .i64 m.mi, .int .i64 m.sp, .int .i64 m.dr, .int .i64 m.cu, .int .i64 m.fa]] w fun e w' => e = .returned (.int .i64 2) ∧ Below w.heap.size w w' := by
  go_enter Try.func49, Try.ntmps49
  go_wp2_with (go_at_call 80; refine (within_c _ _ _ _).mono ?_; rintro e w' ⟨rfl, rfl⟩)
  go_ret
  exact ⟨rfl, (Below.refl _ _).alloc (Nat.le_refl _) _⟩

set_option maxHeartbeats 400000 in
theorem CheckR_no4 (m : Mot) (w : World) (h0 : Dv.inB m.r 0 1048576 = true) (h1 : Dv.inB m.ld 1 4194304 = true) (h2 : Dv.inB m.lq 1 4194304 = true) (h3 : Dv.inB m.fx 0 4194304 = true) (h4 : Dv.inB m.po 1 16 = false) : Calls Try.prog 49 #[.agg #[.int .i64 m.r, .int .i64 m.ld, .int .i64 m.lq, .int .i64 m.fx, .int .i64 m.po, .int .i64 m.mi, .int .i64 m.sp, .int .i64 m.dr, .int .i64 m.cu, .int .i64 m.fa]] w fun e w' => e = .returned (.int .i64 2) ∧ Below w.heap.size w w' := by
  go_enter Try.func49, Try.ntmps49
  go_wp2_with (go_at_call 80; refine (within_c _ _ _ _).mono ?_; rintro e w' ⟨rfl, rfl⟩)
  go_ret
  exact ⟨rfl, (Below.refl _ _).alloc (Nat.le_refl _) _⟩

set_option maxHeartbeats 400000 in
theorem CheckR_no5 (m : Mot) (w : World) (h0 : Dv.inB m.r 0 1048576 = true) (h1 : Dv.inB m.ld 1 4194304 = true) (h2 : Dv.inB m.lq 1 4194304 = true) (h3 : Dv.inB m.fx 0 4194304 = true) (h4 : Dv.inB m.po 1 16 = true) (h5 : Dv.inB m.mi 1 1000 = false) : Calls Try.prog 49 #[.agg #[.int .i64 m.r, .int .i64 m.ld, .int .i64 m.lq, .int .i64 m.fx, .int .i64 m.po, .int .i64 m.mi, .int .i64 m.sp, .int .i64 m.dr, .int .i64 m.cu, .int .i64 m.fa]] w fun e w' => e = .returned (.int .i64 2) ∧ Below w.heap.size w w' := by
  go_enter Try.func49, Try.ntmps49
  go_wp2_with (go_at_call 80; refine (within_c _ _ _ _).mono ?_; rintro e w' ⟨rfl, rfl⟩)
  go_ret
  exact ⟨rfl, (Below.refl _ _).alloc (Nat.le_refl _) _⟩

set_option maxHeartbeats 400000 in
theorem CheckR_no6 (m : Mot) (w : World) (h0 : Dv.inB m.r 0 1048576 = true) (h1 : Dv.inB m.ld 1 4194304 = true) (h2 : Dv.inB m.lq 1 4194304 = true) (h3 : Dv.inB m.fx 0 4194304 = true) (h4 : Dv.inB m.po 1 16 = true) (h5 : Dv.inB m.mi 1 1000 = true) (h6 : Dv.inB m.sp 0 1048576 = false) : Calls Try.prog 49 #[.agg #[.int .i64 m.r, .int .i64 m.ld, .int .i64 m.lq, .int .i64 m.fx, .int .i64 m.po, .int .i64 m.mi, .int .i64 m.sp, .int .i64 m.dr, .int .i64 m.cu, .int .i64 m.fa]] w fun e w' => e = .returned (.int .i64 2) ∧ Below w.heap.size w w' := by
  go_enter Try.func49, Try.ntmps49
  go_wp2_with (go_at_call 80; refine (within_c _ _ _ _).mono ?_; rintro e w' ⟨rfl, rfl⟩)
  go_ret
  exact ⟨rfl, (Below.refl _ _).alloc (Nat.le_refl _) _⟩

set_option maxHeartbeats 400000 in
theorem CheckR_no7 (m : Mot) (w : World) (h0 : Dv.inB m.r 0 1048576 = true) (h1 : Dv.inB m.ld 1 4194304 = true) (h2 : Dv.inB m.lq 1 4194304 = true) (h3 : Dv.inB m.fx 0 4194304 = true) (h4 : Dv.inB m.po 1 16 = true) (h5 : Dv.inB m.mi 1 1000 = true) (h6 : Dv.inB m.sp 0 1048576 = true) (h7 : Dv.inB m.dr 0 1048576 = false) : Calls Try.prog 49 #[.agg #[.int .i64 m.r, .int .i64 m.ld, .int .i64 m.lq, .int .i64 m.fx, .int .i64 m.po, .int .i64 m.mi, .int .i64 m.sp, .int .i64 m.dr, .int .i64 m.cu, .int .i64 m.fa]] w fun e w' => e = .returned (.int .i64 2) ∧ Below w.heap.size w w' := by
  go_enter Try.func49, Try.ntmps49
  go_wp2_with (go_at_call 80; refine (within_c _ _ _ _).mono ?_; rintro e w' ⟨rfl, rfl⟩)
  go_ret
  exact ⟨rfl, (Below.refl _ _).alloc (Nat.le_refl _) _⟩

set_option maxHeartbeats 400000 in
theorem CheckR_no8 (m : Mot) (w : World) (h0 : Dv.inB m.r 0 1048576 = true) (h1 : Dv.inB m.ld 1 4194304 = true) (h2 : Dv.inB m.lq 1 4194304 = true) (h3 : Dv.inB m.fx 0 4194304 = true) (h4 : Dv.inB m.po 1 16 = true) (h5 : Dv.inB m.mi 1 1000 = true) (h6 : Dv.inB m.sp 0 1048576 = true) (h7 : Dv.inB m.dr 0 1048576 = true) (h8 : Dv.inB m.cu 1 1048576 = false) : Calls Try.prog 49 #[.agg #[.int .i64 m.r, .int .i64 m.ld, .int .i64 m.lq, .int .i64 m.fx, .int .i64 m.po, .int .i64 m.mi, .int .i64 m.sp, .int .i64 m.dr, .int .i64 m.cu, .int .i64 m.fa]] w fun e w' => e = .returned (.int .i64 2) ∧ Below w.heap.size w w' := by
  go_enter Try.func49, Try.ntmps49
  go_wp2_with (go_at_call 80; refine (within_c _ _ _ _).mono ?_; rintro e w' ⟨rfl, rfl⟩)
  go_ret
  exact ⟨rfl, (Below.refl _ _).alloc (Nat.le_refl _) _⟩

set_option maxHeartbeats 400000 in
theorem CheckR_no9 (m : Mot) (w : World) (h0 : Dv.inB m.r 0 1048576 = true) (h1 : Dv.inB m.ld 1 4194304 = true) (h2 : Dv.inB m.lq 1 4194304 = true) (h3 : Dv.inB m.fx 0 4194304 = true) (h4 : Dv.inB m.po 1 16 = true) (h5 : Dv.inB m.mi 1 1000 = true) (h6 : Dv.inB m.sp 0 1048576 = true) (h7 : Dv.inB m.dr 0 1048576 = true) (h8 : Dv.inB m.cu 1 1048576 = true) (h9 : Dv.inB m.fa 0 16384 = false) : Calls Try.prog 49 #[.agg #[.int .i64 m.r, .int .i64 m.ld, .int .i64 m.lq, .int .i64 m.fx, .int .i64 m.po, .int .i64 m.mi, .int .i64 m.sp, .int .i64 m.dr, .int .i64 m.cu, .int .i64 m.fa]] w fun e w' => e = .returned (.int .i64 2) ∧ Below w.heap.size w w' := by
  go_enter Try.func49, Try.ntmps49
  go_wp2_with (go_at_call 80; refine (within_c _ _ _ _).mono ?_; rintro e w' ⟨rfl, rfl⟩)
  go_ret
  exact ⟨rfl, (Below.refl _ _).alloc (Nat.le_refl _) _⟩

set_option maxHeartbeats 400000 in
theorem CheckR_ok (m : Mot) (w : World) (h0 : Dv.inB m.r 0 1048576 = true) (h1 : Dv.inB m.ld 1 4194304 = true) (h2 : Dv.inB m.lq 1 4194304 = true) (h3 : Dv.inB m.fx 0 4194304 = true) (h4 : Dv.inB m.po 1 16 = true) (h5 : Dv.inB m.mi 1 1000 = true) (h6 : Dv.inB m.sp 0 1048576 = true) (h7 : Dv.inB m.dr 0 1048576 = true) (h8 : Dv.inB m.cu 1 1048576 = true) (h9 : Dv.inB m.fa 0 16384 = true) : Calls Try.prog 49 #[.agg #[.int .i64 m.r, .int .i64 m.ld, .int .i64 m.lq, .int .i64 m.fx, .int .i64 m.po, .int .i64 m.mi, .int .i64 m.sp, .int .i64 m.dr, .int .i64 m.cu, .int .i64 m.fa]] w fun e w' => e = .returned (.int .i64 0) ∧ Below w.heap.size w w' := by
  go_enter Try.func49, Try.ntmps49
  go_wp2_with (go_at_call 80; refine (within_c _ _ _ _).mono ?_; rintro e w' ⟨rfl, rfl⟩)
  go_ret
  exact ⟨rfl, (Below.refl _ _).alloc (Nat.le_refl _) _⟩

theorem chkB_and (m : Mot) : Dv.chkB m = (Dv.inB m.r 0 1048576 && (Dv.inB m.ld 1 4194304 && (Dv.inB m.lq 1 4194304 && (Dv.inB m.fx 0 4194304 && (Dv.inB m.po 1 16 && (Dv.inB m.mi 1 1000 && (Dv.inB m.sp 0 1048576 && (Dv.inB m.dr 0 1048576 && (Dv.inB m.cu 1 1048576 && (Dv.inB m.fa 0 16384)))))))))) := by
  rw [Bool.eq_iff_iff]
  unfold Dv.chkB
  rw [decide_eq_true_iff]
  simp only [Dv.chk, Dv.inB, Bool.and_eq_true, decide_eq_true_eq]

theorem CheckR_c (m : Mot) (w : World) : Calls Try.prog 49 #[.agg #[.int .i64 m.r, .int .i64 m.ld, .int .i64 m.lq, .int .i64 m.fx, .int .i64 m.po, .int .i64 m.mi, .int .i64 m.sp, .int .i64 m.dr, .int .i64 m.cu, .int .i64 m.fa]] w fun e w' => e = .returned (.int .i64 (Dv.chkE m)) ∧ Below w.heap.size w w' := by
  have fin : ∀ {x : Int}, Dv.chkE m = x → Calls Try.prog 49 #[.agg #[.int .i64 m.r, .int .i64 m.ld, .int .i64 m.lq, .int .i64 m.fx, .int .i64 m.po, .int .i64 m.mi, .int .i64 m.sp, .int .i64 m.dr, .int .i64 m.cu, .int .i64 m.fa]] w (fun e w' => e = .returned (.int .i64 x) ∧ Below w.heap.size w w') → Calls Try.prog 49 #[.agg #[.int .i64 m.r, .int .i64 m.ld, .int .i64 m.lq, .int .i64 m.fx, .int .i64 m.po, .int .i64 m.mi, .int .i64 m.sp, .int .i64 m.dr, .int .i64 m.cu, .int .i64 m.fa]] w fun e w' => e = .returned (.int .i64 (Dv.chkE m)) ∧ Below w.heap.size w w' := by
    intro x hx h
    rw [hx]
    exact h
  have hB := chkB_and m
  cases h0 : Dv.inB m.r 0 1048576
  · exact fin (by unfold Dv.chkE; rw [hB]; simp [h0]) (CheckR_no0 m w h0)
  · skip
    cases h1 : Dv.inB m.ld 1 4194304
    · exact fin (by unfold Dv.chkE; rw [hB]; simp [h1]) (CheckR_no1 m w h0 h1)
    · skip
      cases h2 : Dv.inB m.lq 1 4194304
      · exact fin (by unfold Dv.chkE; rw [hB]; simp [h2]) (CheckR_no2 m w h0 h1 h2)
      · skip
        cases h3 : Dv.inB m.fx 0 4194304
        · exact fin (by unfold Dv.chkE; rw [hB]; simp [h3]) (CheckR_no3 m w h0 h1 h2 h3)
        · skip
          cases h4 : Dv.inB m.po 1 16
          · exact fin (by unfold Dv.chkE; rw [hB]; simp [h4]) (CheckR_no4 m w h0 h1 h2 h3 h4)
          · skip
            cases h5 : Dv.inB m.mi 1 1000
            · exact fin (by unfold Dv.chkE; rw [hB]; simp [h5]) (CheckR_no5 m w h0 h1 h2 h3 h4 h5)
            · skip
              cases h6 : Dv.inB m.sp 0 1048576
              · exact fin (by unfold Dv.chkE; rw [hB]; simp [h6]) (CheckR_no6 m w h0 h1 h2 h3 h4 h5 h6)
              · skip
                cases h7 : Dv.inB m.dr 0 1048576
                · exact fin (by unfold Dv.chkE; rw [hB]; simp [h7]) (CheckR_no7 m w h0 h1 h2 h3 h4 h5 h6 h7)
                · skip
                  cases h8 : Dv.inB m.cu 1 1048576
                  · exact fin (by unfold Dv.chkE; rw [hB]; simp [h8]) (CheckR_no8 m w h0 h1 h2 h3 h4 h5 h6 h7 h8)
                  · skip
                    cases h9 : Dv.inB m.fa 0 16384
                    · exact fin (by unfold Dv.chkE; rw [hB]; simp [h9]) (CheckR_no9 m w h0 h1 h2 h3 h4 h5 h6 h7 h8 h9)
                    · skip
                      exact fin (by unfold Dv.chkE; rw [hB]; simp [h0, h1, h2, h3, h4, h5, h6, h7, h8, h9]) (CheckR_ok m w h0 h1 h2 h3 h4 h5 h6 h7 h8 h9)
end Go.Proofs.Ytcneohhfnnelgaa
