/- Contracts of the closures of Shares of drive, of poured of coulombref06, and the two ways of Blend. -/
import Derived.Test.YtcneohhfnnelgaaS0
import Derived.Test.YtcneohhfnnelgaaR3
import Derived.Test.YtcneohhfnnelgaaM5
namespace Go.Proofs.Ytcneohhfnnelgaa
open Go.RowKit
set_option linter.unusedVariables false

set_option maxHeartbeats 1000000 in
theorem pour1_c (L : Int) (b : Nat) (A : Option Addr) (xs : List Int) (cap : Nat) (w : World) (hL : 0 ≤ L ∧ L ≤ 68719476737) (hok : Dv.okS xs) (hl : xs.length ≤ 8) (hb : w.cell? ⟨b, 0, none⟩ = some (.slice A xs.length cap)) (hc : IntsAt w A xs) :
    Calls Try.prog 90 #[.int .i64 L, .pointer (some ⟨b, 0, none⟩)] w fun e w' => e = .returned (.int .i64 (Dv.pour L xs)) ∧ w = w' := by
  have GM := gmin_eq
  have HO := Lib.hid hok
  clear hok
  go_enter Try.func90, Try.ntmps90
  go_wp2
  go_loop [3, 8] (fun s i => ∃ k : Nat, k ≤ xs.length ∧ i = .int .i64 k ∧ s = .int .i64 (Dv.pour L (xs.take k))) (fun _ i => xs.length - (intOf i).toNat)
  case atStart => exact ⟨0, Nat.zero_le _, rfl, by simp [Dv.pour]⟩
  case round =>
    obtain ⟨k, hk, rfl, rfl⟩ := hrel
    by_cases hlt : k < xs.length
    · obtain ⟨ad, rfl, hcell⟩ := hc k hlt
      have hx := Dv.okS_get HO.out k hlt
      have hp := Dv.pour_bd (Dv.okS_take HO.out k) hL.1
      have hp2 : (xs.take k).length ≤ 8 := by rw [List.length_take]; omega
      have HT := Lib.hid (Dv.pour_take L xs k hlt)
      generalize hxx : xs.getD k 0 = x at hcell hx HT
      clear hxx
      have hm : 0 ≤ min L x ∧ min L x ≤ 68719476737 := by omega
      go_wp2
      go_round
      case rel => exact ⟨k + 1, by omega, by go_num, by rw [HT.out]⟩
      case measure => simp [intOf]; omega
    · have e : k = xs.length := by omega
      subst e
      go_wp2
      go_ret
      exact ⟨rfl, rfl⟩

set_option maxHeartbeats 1000000 in
theorem pour2_c (T : Int) (l : Int) (b8 b2 b3 : Nat) (A : Option Addr) (xs : List Int) (cap : Nat) (w : World) (hL : 0 ≤ l ∧ l ≤ 68719476737) (hok : Dv.okS xs) (hl : xs.length ≤ 8) (h8 : w.cell? ⟨b8, 0, none⟩ = some (.func (.func 90) #[] #[.pointer (some ⟨b3, 0, none⟩)])) (h2 : w.cell? ⟨b2, 0, none⟩ = some (.int .i64 T)) (h3 : w.cell? ⟨b3, 0, none⟩ = some (.slice A xs.length cap)) (hc : IntsAt w A xs) :
    Calls Try.prog 92 #[.int .i64 l, .pointer (some ⟨b8, 0, none⟩), .pointer (some ⟨b2, 0, none⟩)] w fun e w' => e = .returned (.bool (decide (Dv.pour l xs ≤ T))) ∧ Below w.heap.size w w' := by
  have PC := Lib.hid (fun W (h : Below w.heap.size w W) => pour1_c l b3 A xs cap W hL hok hl ((h.cell (p := ⟨b3, 0, none⟩) (World.block_lt_of_cell? w _ h3)).trans h3) (hc.below h))
  clear hok hc h3
  go_enter Try.func92, Try.ntmps92
  go_wp2
  have z8 : b8 < w.heap.size := World.block_lt_of_cell? w _ h8
  have z2 : b2 < w.heap.size := World.block_lt_of_cell? w _ h2
  refine wp_region_past (by kernel_rfl) (by kernel_rfl) ?_
  repeat (go_big_quiet_step ((go_at_call 90; exact past_same (PC.out _ (Past.far _)))))
  refine wpQuiet_nil ?_
  intro x
  have HB := Lib.hid x.far
  generalize x.w = w4 at HB ⊢
  go_wp2
  go_ret
  exact ⟨rfl, HB.out⟩

set_option maxHeartbeats 1000000 in
theorem poured_c (L : Int) (A : Option Addr) (xs : List Int) (cap : Nat) (w : World) (hL : 0 ≤ L ∧ L ≤ 68719476737) (hok : Dv.okS xs) (hl : xs.length ≤ 8) (hc : IntsAt w A xs) :
    Calls Try.prog 94 #[.slice A xs.length cap, .int .i64 L] w fun e w' => e = .returned (.int .i64 (Dv.pour L xs)) ∧ w = w' := by
  have GM := gmin_eq
  have HO := Lib.hid hok
  clear hok
  go_enter Try.func94, Try.ntmps94
  go_wp2
  go_loop [5, 6] (fun s i => ∃ k : Nat, k ≤ xs.length ∧ i = .int .i64 k ∧ s = .int .i64 (Dv.pour L (xs.take k))) (fun _ i => xs.length - (intOf i).toNat)
  case atStart => exact ⟨0, Nat.zero_le _, rfl, by simp [Dv.pour]⟩
  case round =>
    obtain ⟨k, hk, rfl, rfl⟩ := hrel
    by_cases hlt : k < xs.length
    · obtain ⟨ad, rfl, hcell⟩ := hc k hlt
      have hx := Dv.okS_get HO.out k hlt
      have hp := Dv.pour_bd (Dv.okS_take HO.out k) hL.1
      have hp2 : (xs.take k).length ≤ 8 := by rw [List.length_take]; omega
      have HT := Lib.hid (Dv.pour_take L xs k hlt)
      generalize hxx : xs.getD k 0 = x at hcell hx HT
      clear hxx
      have hm : 0 ≤ min L x ∧ min L x ≤ 68719476737 := by omega
      go_wp2
      go_round
      case rel => exact ⟨k + 1, by omega, by go_num, by rw [HT.out]⟩
      case measure => simp [intOf]; omega
    · have e : k = xs.length := by omega
      subst e
      go_wp2
      go_ret
      exact ⟨rfl, rfl⟩
end Go.Proofs.Ytcneohhfnnelgaa
