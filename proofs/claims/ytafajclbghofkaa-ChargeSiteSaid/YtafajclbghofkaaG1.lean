/- Contracts of the checks of a contract: checkContract of charge, contract of coulombref09. -/
import Derived.Test.YtafajclbghofkaaH1
namespace Go.Proofs.Ytafajclbghofkaa
open Go.RowKit
set_option linter.unusedVariables false

namespace Cv
def padsOk (ps : List Int) : Bool := ps.all (fun p => decide (p < 2147483647))
def ctOk (pt : Int) (ps : List Int) : Bool := decide (1 ≤ pt ∧ pt < 2147483647 ∧ ps.length ≤ 5000) && padsOk ps
theorem padsOk_iff {ps : List Int} : padsOk ps = true ↔ ∀ i, i < ps.length → ps.getD i 0 < 2147483647 := by
  unfold padsOk
  rw [List.all_eq_true]
  constructor
  · intro h i hi
    have := h (ps.getD i 0) (by rw [List.getD_eq_getElem?_getD, List.getElem?_eq_getElem hi]; exact List.getElem_mem hi)
    simpa using this
  · intro h x hx
    obtain ⟨i, hi, rfl⟩ := List.getElem_of_mem hx
    have := h i hi
    rw [List.getD_eq_getElem?_getD, List.getElem?_eq_getElem hi] at this
    simpa using this
theorem padsOk_no {ps : List Int} {k : Nat} (hk : k < ps.length) (h : 2147483647 ≤ ps.getD k 0) : padsOk ps = false := by
  cases hp : padsOk ps
  · rfl
  · have := padsOk_iff.1 hp k hk; omega
theorem ctOk_head {pt : Int} {ps : List Int} (h : ¬ (1 ≤ pt ∧ pt < 2147483647 ∧ ps.length ≤ 5000)) : ctOk pt ps = false := by unfold ctOk; rw [decide_eq_false h]; rfl
theorem ctOk_body {pt : Int} {ps : List Int} (h : 1 ≤ pt ∧ pt < 2147483647 ∧ ps.length ≤ 5000) : ctOk pt ps = padsOk ps := by unfold ctOk; rw [decide_eq_true h]; rfl
theorem ctOk_iff {pt : Int} {ps : List Int} : ctOk pt ps = true ↔ (1 ≤ pt ∧ pt < 2147483647 ∧ ps.length ≤ 5000) ∧ padsOk ps = true := by unfold ctOk; simp
end Cv
/-- a slice's pads -/
def PadsAt (w : World) (A : Option Addr) (ps : List Int) : Prop := ∀ i, i < ps.length → ∃ ad, A = some ad ∧ ad.block < w.heap.size ∧ w.cell? (ad.add i) = some (.int .u64 (ps.getD i 0))
theorem PadsAt.below {w w1 : World} {A : Option Addr} {ps : List Int} (h : PadsAt w A ps) (hb : Below w.heap.size w w1) : PadsAt w1 A ps := by
  intro i hi
  obtain ⟨ad, e, hlt, c0⟩ := h i hi
  exact ⟨ad, e, Nat.lt_of_lt_of_le hlt hb.size, (hb.cell (by rw [block_of_add]; exact hlt)).trans c0⟩

theorem notless_c (n : Int) (w : World) : Calls Try.prog 82 #[.int .u64 n] w fun e w' => e = .returned (.bool (decide (2147483647 ≤ n))) ∧ w = w' := by
  go_enter Try.func82, Try.ntmps82
  go_wp2
  go_ret
  exact ⟨rfl, rfl⟩
/-- an index, or -1 -/
def IdxR (b : Bool) (P : World → Prop) (e : Ending) (w' : World) : Prop := ∃ r : Int, e = .returned (.int .i64 r) ∧ decide (0 ≤ r) = b ∧ P w'
set_option maxHeartbeats 1000000 in
theorem idxPads_c (A : Option Addr) (ps : List Int) (cap : Nat) (w : World) (hcap : ps.length ≤ cap) (hl : cap ≤ 9223372036854775807) (hw : PadsAt w A ps) :
    Calls Try.prog 90 #[.slice A ps.length cap, .func (.func 82) #[] #[]] w (IdxR (!Cv.padsOk ps) (fun w' => w = w')) := by
  have HW := Lib.hid hw
  clear hw
  go_enter Try.func90, Try.ntmps90
  go_wp2
  go_loop [8] (fun i => ∃ k : Nat, k ≤ ps.length ∧ i = .int .i64 k ∧ Hid (∀ j, j < k → ps.getD j 0 < 2147483647)) (fun i => ps.length - (intOf i).toNat)
  case atStart => exact ⟨0, Nat.zero_le _, rfl, Lib.hid (fun j hj => absurd hj (Nat.not_lt_zero _))⟩
  case round =>
    obtain ⟨k, hk, rfl, HA⟩ := hrel
    by_cases hlt : k < ps.length
    · obtain ⟨ad, rfl, hlb, hcell⟩ := HW.out k hlt
      have HNo := Lib.hid (Cv.padsOk_no hlt)
      have HYes := Lib.hid (fun (h : ps.getD k 0 < 2147483647) j (hj : j < k + 1) => (by
        by_cases e : j = k
        · subst e; exact h
        · exact HA.out j (by omega) : ps.getD j 0 < 2147483647))
      generalize ps.getD k 0 = x at hcell HNo HYes
      by_cases hb : 2147483647 ≤ x
      · have hb' : decide (2147483647 ≤ x) = true := decide_eq_true hb
        have HN := Lib.hid (HNo.out hb)
        clear hb
        go_wp2_with (go_at_call 82; refine (notless_c _ _).mono ?_; rintro e w' ⟨rfl, rfl⟩)
        go_ret
        exact ⟨_, rfl, by rw [HN.out]; simp, rfl⟩
      · have hb' : decide (2147483647 ≤ x) = false := decide_eq_false hb
        have HN := Lib.hid (HYes.out (by omega))
        clear hb
        go_wp2_with (go_at_call 82; refine (notless_c _ _).mono ?_; rintro e w' ⟨rfl, rfl⟩)
        go_round
        case rel => exact ⟨k + 1, by omega, by go_num, HN⟩
        case measure => simp [intOf]; omega
    · have e : k = ps.length := by omega
      subst e
      have HN := Lib.hid (Cv.padsOk_iff.2 HA.out)
      go_wp2
      go_ret
      exact ⟨_, rfl, by rw [HN.out]; rfl, rfl⟩
theorem anyPads_c (A : Option Addr) (ps : List Int) (cap : Nat) (w : World) (hcap : ps.length ≤ cap) (hl : cap ≤ 9223372036854775807) (hw : PadsAt w A ps) :
    Calls Try.prog 81 #[.slice A ps.length cap, .func (.func 82) #[] #[]] w fun e w' => e = .returned (.bool (!Cv.padsOk ps)) ∧ w = w' := by
  have hc := idxPads_c A ps cap w hcap hl hw
  clear hw
  go_enter Try.func81, Try.ntmps81
  go_wp2_with (go_at_call 90; refine hc.mono ?_; rintro e w' ⟨r, rfl, hr, rfl⟩; have HR := Lib.hid hr; clear hr)
  go_ret
  exact ⟨ret_bool HR.out, rfl⟩

set_option maxHeartbeats 1000000 in
theorem checkContract_c (pt : Int) (A : Option Addr) (ps : List Int) (cap : Nat) (w : World) (hcap : ps.length ≤ cap) (hl : cap ≤ 9223372036854775807) (hw : PadsAt w A ps) :
    Calls Try.prog 62 #[.agg #[.int .u64 pt, .slice A ps.length cap]] w fun e w' => e = .returned (.bool (Cv.ctOk pt ps)) ∧ Below w.heap.size w w' := by
  have hc := fun w0 hw0 => anyPads_c A ps cap w0 hcap hl hw0
  have HBW := fun w0 => Lib.hid (PadsAt.below (w1 := w0) hw)
  have hn63 : ps.length ≤ 9223372036854775807 := by omega
  clear hw
  by_cases h1 : 1 ≤ pt
  · have h1' : decide (1 ≤ pt) = true := decide_eq_true h1
    by_cases h2 : pt < 2147483647
    · have h2' : decide (pt < 2147483647) = true := decide_eq_true h2
      by_cases h3 : ps.length ≤ 5000
      · have h3' : decide ((ps.length : Int) ≤ 5000) = true := decide_eq_true (by omega)
        have HE := Lib.hid (Cv.ctOk_body ⟨h1, h2, h3⟩)
        clear h1 h2 h3
        generalize Cv.padsOk ps = b at *
        go_enter Try.func62, Try.ntmps62
        go_wp2_with (go_at_call 81; refine (hc _ ((HBW _).out ((Below.refl _ _).alloc (Nat.le_refl _) _))).mono ?_; rintro e w' ⟨rfl, rfl⟩)
        go_ret
        exact ⟨ret_bool (by rw [HE.out]), (Below.refl _ _).alloc (Nat.le_refl _) _⟩
      · have h3' : decide ((ps.length : Int) ≤ 5000) = false := decide_eq_false (by omega)
        have HE := Lib.hid (Cv.ctOk_head (pt := pt) (ps := ps) (by omega))
        clear h1 h2 h3 hc
        go_enter Try.func62, Try.ntmps62
        go_wp2
        go_ret
        exact ⟨ret_bool (by rw [HE.out]), (Below.refl _ _).alloc (Nat.le_refl _) _⟩
    · have h2' : decide (pt < 2147483647) = false := decide_eq_false h2
      have HE := Lib.hid (Cv.ctOk_head (pt := pt) (ps := ps) (by omega))
      clear h1 h2 hc
      go_enter Try.func62, Try.ntmps62
      go_wp2
      go_ret
      exact ⟨ret_bool (by rw [HE.out]), (Below.refl _ _).alloc (Nat.le_refl _) _⟩
  · have h1' : decide (1 ≤ pt) = false := decide_eq_false h1
    have HE := Lib.hid (Cv.ctOk_head (pt := pt) (ps := ps) (by omega))
    clear h1 hc
    go_enter Try.func62, Try.ntmps62
    go_wp2
    go_ret
    exact ⟨ret_bool (by rw [HE.out]), (Below.refl _ _).alloc (Nat.le_refl _) _⟩

theorem Prime_c (w : World) : Calls Try.prog 85 #[.int .i64 2] w fun e w' => e = .returned (.int .u64 2147483647) ∧ w = w' := by
  go_enter Try.func85, Try.ntmps85
  go_wp2
  go_ret
  exact ⟨rfl, rfl⟩

set_option maxHeartbeats 1000000 in
theorem contract_c (pt : Int) (A : Option Addr) (ps : List Int) (cap : Nat) (w : World) (hcap : ps.length ≤ cap) (hl : cap ≤ 9223372036854775807) (hw : PadsAt w A ps) :
    Calls Try.prog 64 #[.agg #[.int .u64 pt, .slice A ps.length cap]] w fun e w' => e = .returned (.bool (Cv.ctOk pt ps)) ∧ Below w.heap.size w w' := by
  have HBW := Lib.hid (PadsAt.below hw ((Below.refl w.heap.size w).alloc (Nat.le_refl _) (.cells #[.int .u64 pt, .slice A ps.length cap] 86)))
  have hn63 : ps.length ≤ 9223372036854775807 := by omega
  clear hw
  by_cases h1 : 1 ≤ pt
  · have h1' : decide (pt < 1) = false := decide_eq_false (by omega)
    by_cases h2 : pt < 2147483647
    · have h2' : decide (2147483647 ≤ pt) = false := decide_eq_false (by omega)
      by_cases h3 : ps.length ≤ 5000
      · have h3' : decide (5000 < (ps.length : Int)) = false := decide_eq_false (by omega)
        have HE := Lib.hid (Cv.ctOk_body ⟨h1, h2, h3⟩)
        clear h1 h2 h3
        go_enter Try.func64, Try.ntmps64
        go_wp2_with (go_at_call 85; refine (Prime_c _).mono ?_; rintro e w' ⟨rfl, rfl⟩)
        clear h1' h2' h3'
        go_loop [4] (fun i => ∃ k : Nat, k ≤ ps.length ∧ i = .int .i64 k ∧ Hid (∀ j, j < k → ps.getD j 0 < 2147483647)) (fun i => ps.length - (intOf i).toNat)
        case atStart => exact ⟨0, Nat.zero_le _, rfl, Lib.hid (fun j hj => absurd hj (Nat.not_lt_zero _))⟩
        case round =>
          obtain ⟨k, hk, rfl, HA⟩ := hrel
          by_cases hlt : k < ps.length
          · obtain ⟨ad, rfl, hlb, hcell⟩ := HBW.out k hlt
            have HNo := Lib.hid (Cv.padsOk_no hlt)
            have HYes := Lib.hid (fun (h : ps.getD k 0 < 2147483647) j (hj : j < k + 1) => (by
              by_cases e : j = k
              · subst e; exact h
              · exact HA.out j (by omega) : ps.getD j 0 < 2147483647))
            generalize ps.getD k 0 = x at hcell HNo HYes
            by_cases hb : 2147483647 ≤ x
            · have hb' : decide (2147483647 ≤ x) = true := decide_eq_true hb
              have HN := Lib.hid (HNo.out hb)
              clear hb
              go_wp2
              go_ret
              exact ⟨ret_bool (by rw [HE.out, HN.out]), (Below.refl _ _).alloc (Nat.le_refl _) _⟩
            · have hb' : decide (2147483647 ≤ x) = false := decide_eq_false hb
              have HN := Lib.hid (HYes.out (by omega))
              clear hb
              go_wp2
              go_round
              case rel => exact ⟨k + 1, by omega, by go_num, HN⟩
              case measure => simp [intOf]; omega
          · have e : k = ps.length := by omega
            subst e
            have HN := Lib.hid (Cv.padsOk_iff.2 HA.out)
            go_wp2
            go_ret
            exact ⟨ret_bool (by rw [HE.out, HN.out]), (Below.refl _ _).alloc (Nat.le_refl _) _⟩
      · have h3' : decide (5000 < (ps.length : Int)) = true := decide_eq_true (by omega)
        have HE := Lib.hid (Cv.ctOk_head (pt := pt) (ps := ps) (by omega))
        clear h1 h2 h3
        go_enter Try.func64, Try.ntmps64
        go_wp2_with (go_at_call 85; refine (Prime_c _).mono ?_; rintro e w' ⟨rfl, rfl⟩)
        go_ret
        exact ⟨ret_bool (by rw [HE.out]), (Below.refl _ _).alloc (Nat.le_refl _) _⟩
    · have h2' : decide (2147483647 ≤ pt) = true := decide_eq_true (by omega)
      have HE := Lib.hid (Cv.ctOk_head (pt := pt) (ps := ps) (by omega))
      clear h1 h2
      go_enter Try.func64, Try.ntmps64
      go_wp2_with (go_at_call 85; refine (Prime_c _).mono ?_; rintro e w' ⟨rfl, rfl⟩)
      go_ret
      exact ⟨ret_bool (by rw [HE.out]), (Below.refl _ _).alloc (Nat.le_refl _) _⟩
  · have h1' : decide (pt < 1) = true := decide_eq_true (by omega)
    have HE := Lib.hid (Cv.ctOk_head (pt := pt) (ps := ps) (by omega))
    clear h1
    go_enter Try.func64, Try.ntmps64
    go_wp2_with (go_at_call 85; refine (Prime_c _).mono ?_; rintro e w' ⟨rfl, rfl⟩)
    go_ret
    exact ⟨ret_bool (by rw [HE.out]), (Below.refl _ _).alloc (Nat.le_refl _) _⟩
end Go.Proofs.Ytafajclbghofkaa
