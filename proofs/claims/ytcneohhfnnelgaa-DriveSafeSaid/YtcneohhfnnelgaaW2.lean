/- Contracts of upTo and ends: whether the amounts of a list are at most a number; the least and the greatest one of a list. -/
import Derived.Test.YtcneohhfnnelgaaW1
import Derived.Deep.QuietTactic
import Derived.BigQuiet
namespace Go.Proofs.Ytcneohhfnnelgaa
open Go.RowKit

/-- a slice value's elements are these numbers -/
def IntsAt (w : World) (A : Option Addr) (xs : List Int) : Prop := ∀ i, i < xs.length → ∃ ad, A = some ad ∧ w.cell? (ad.add i) = some (.int .i64 (xs.getD i 0))

def upB (m : Int) (xs : List Int) : Bool := xs.all fun x => decide (-m ≤ x ∧ x ≤ m)
theorem upB_true {m : Int} {xs : List Int} (h : upB m xs = true) (i : Nat) (hi : i < xs.length) : -m ≤ xs.getD i 0 ∧ xs.getD i 0 ≤ m := by
  unfold upB at h
  rw [List.all_eq_true] at h
  have := h xs[i] (List.getElem_mem hi)
  simpa [List.getD, hi] using this
theorem upB_of {m : Int} {xs : List Int} (h : ∀ i, i < xs.length → -m ≤ xs.getD i 0 ∧ xs.getD i 0 ≤ m) : upB m xs = true := by
  unfold upB
  rw [List.all_eq_true]
  intro x hx
  obtain ⟨i, hi, rfl⟩ := List.getElem_of_mem hx
  have := h i hi
  simpa [List.getD, hi] using this
theorem upB_no {m : Int} {xs : List Int} (i : Nat) (hi : i < xs.length) (h : ¬ (-m ≤ xs.getD i 0 ∧ xs.getD i 0 ≤ m)) : upB m xs = false := by
  cases hb : upB m xs
  · rfl
  · exact absurd (upB_true hb i hi) h

theorem ret_bool {a b : Bool} (h : a = b) : Ending.returned (.bool a) = .returned (.bool b) := by rw [h]

set_option maxHeartbeats 400000 in
theorem upTo_c (m : Int) (A : Option Addr) (xs : List Int) (cap : Nat) (w : World) (hm0 : 0 ≤ m) (hm1 : m ≤ 4611686018427387904) (hl : xs.length ≤ 4611686018427387904) (hc : IntsAt w A xs) :
    Calls Try.prog 67 #[.int .i64 m, .slice A xs.length cap] w fun e w' => e = .returned (.bool (upB m xs)) ∧ w = w' := by
  go_enter Try.func67, Try.ntmps67
  go_wp2
  go_loop [6, 9] (fun _ i => ∃ k : Nat, k ≤ xs.length ∧ i = .int .i64 k ∧ ∀ j, j < k → -m ≤ xs.getD j 0 ∧ xs.getD j 0 ≤ m) (fun _ i => xs.length - (intOf i).toNat)
  case atStart => exact ⟨0, Nat.zero_le _, rfl, fun j hj => absurd hj (Nat.not_lt_zero _)⟩
  case round =>
    obtain ⟨k, hk, rfl, hall⟩ := hrel
    have HA := Lib.hid hall
    clear hall
    by_cases hlt : k < xs.length
    · obtain ⟨ad, rfl, hcell⟩ := hc k hlt
      generalize hx : xs.getD k 0 = x at hcell
      have HX := Lib.hid hx
      clear hx
      by_cases h1 : x ≤ m
      · by_cases h2 : -m ≤ x
        · go_wp2
          go_round
          case rel =>
            refine ⟨k + 1, by omega, by go_num, fun j hj => ?_⟩
            by_cases hjk : j < k
            · exact HA.out j hjk
            · obtain rfl : j = k := by omega
              rw [HX.out]; exact ⟨h2, h1⟩
          case measure => simp [intOf]; omega
        · go_wp2
          go_ret
          exact ⟨ret_bool (upB_no k hlt (by rw [HX.out]; omega)).symm, rfl⟩
      · go_wp2
        go_ret
        exact ⟨ret_bool (upB_no k hlt (by rw [HX.out]; omega)).symm, rfl⟩
    · go_wp2
      go_ret
      exact ⟨ret_bool (upB_of (fun i hi => HA.out i (by omega))).symm, rfl⟩

/-- the least and the greatest number of a list -/
def minL : List Int → Int
  | [] => 0
  | x :: l => l.foldl min x
def maxL : List Int → Int
  | [] => 0
  | x :: l => l.foldl max x

/-- the walk's own spelling of min and max -/
theorem gmin_eq (a b : Int) : (if b < a then b else a) = min a b := by split <;> omega
theorem gmax_eq (a b : Int) : (if a < b then b else a) = max a b := by split <;> omega
theorem fold_snoc (f : Int → Int → Int) (x : Int) (l : List Int) (k : Nat) (h : k < l.length) : (l.take (k + 1)).foldl f x = f ((l.take k).foldl f x) (l.getD k 0) := by
  rw [List.take_succ_eq_append_getElem h, List.foldl_append]
  simp [List.getD, h]

set_option maxHeartbeats 400000 in
theorem ends_c (A : Option Addr) (xs : List Int) (cap : Nat) (w : World) (h1 : 2 ≤ xs.length) (hcap : xs.length ≤ cap) (hl : cap ≤ 4611686018427387904) (hc : IntsAt w A xs) :
    Calls Try.prog 68 #[.slice A xs.length cap] w fun e w' => e = .returned (.tuple #[.int .i64 (minL xs), .int .i64 (maxL xs)]) ∧ ∃ n, w' = w.drewN n := by
  obtain ⟨x0, xs', rfl⟩ : ∃ x l, xs = x :: l := by
    cases xs with
    | nil => simp at h1
    | cons x l => exact ⟨x, l, rfl⟩
  obtain ⟨ad, rfl, hc0⟩ := hc 0 (by simp)
  have hc1 : w.cell? ad = some (.int .i64 x0) := by simpa [Addr.add] using hc0
  have hcs : ∀ k, k < xs'.length → w.cell? ⟨ad.block, ad.off + 1 + k, none⟩ = some (.int .i64 (xs'.getD k 0)) := by
    intro k hk
    obtain ⟨ad', e, hck⟩ := hc (k + 1) (by simp; omega)
    injection e with e
    subst e
    simpa [Addr.add, Nat.add_assoc, Nat.add_comm 1 k] using hck
  clear hc0 hc
  simp only [List.length_cons] at h1 hcap
  go_enter Try.func68, Try.ntmps68
  go_wp2_with fail
  go_quiet (fail)
  go_wp2
  go_loop [2, 3, 5, 15] (fun lo hi _ i => ∃ k : Nat, k ≤ xs'.length ∧ i = .int .i64 k ∧ lo = .int .i64 ((xs'.take k).foldl min x0) ∧ hi = .int .i64 ((xs'.take k).foldl max x0)) (fun _ _ _ i => xs'.length - (intOf i).toNat)
  case atStart => exact ⟨0, Nat.zero_le _, rfl, rfl, rfl⟩
  case round =>
    obtain ⟨k, hk, rfl, rfl, rfl⟩ := hrel
    by_cases hlt : k < xs'.length
    · have hck := hcs k hlt
      have HS := Lib.hid (And.intro (fold_snoc min x0 xs' k hlt) (fold_snoc max x0 xs' k hlt))
      generalize (xs'.take k).foldl min x0 = lo at *
      generalize (xs'.take k).foldl max x0 = hi at *
      generalize xs'.getD k 0 = x at *
      clear hcs
      go_wp2
      go_round
      case rel => exact ⟨k + 1, by omega, by go_num, by rw [HS.out.1, gmin_eq], by rw [HS.out.2, gmax_eq]⟩
      case measure => simp [intOf]; omega
    · go_wp2
      go_ret2
      obtain rfl : k = xs'.length := by omega
      exact ⟨by simp only [List.take_length]; rfl, _, rfl⟩
end Go.Proofs.Ytcneohhfnnelgaa
