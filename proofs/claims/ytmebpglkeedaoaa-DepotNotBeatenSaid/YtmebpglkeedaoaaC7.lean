/- The contract of the reference's cost and IsFlow of depot. -/
import Derived.Test.YtmebpglkeedaoaaC6
namespace Go.Proofs.Ytmebpglkeedaoaa
open Go.RowKit Dp
set_option linter.unusedVariables false

set_option maxHeartbeats 2000000 in
set_option maxRecDepth 100000 in
theorem costR_c (A B C : Option Addr) (N : Net) (fl : List Int) (n m p cA cB cC : Nat) (w : World) (hm : m = N.arcs.length) (hp : p = fl.length) (hpm : p = m) (hch : chE N = 0) (hB : m ≤ cB ∧ cB ≤ 9223372036854775807) (hC : p ≤ cC ∧ cC ≤ 9223372036854775807) (hN : NetAt w A B N) (hF : IntsAt w C fl) (hcap : ∀ x, x < p → 0 ≤ fl.getD x 0 ∧ fl.getD x 0 ≤ (N.arcs.getD x default).cap) :
    Calls Try.prog 59 #[.agg #[.slice A n cA, .slice B m cB], .slice C p cC] w fun e w' => e = .returned (.int .i64 (costK N fl m)) ∧ Below w.heap.size w w' := by
  have HCH := Lib.hid hch
  have m2 : m ≤ 2048 := by rw [hm]; exact (net_len hch).2.2
  have HM := Lib.hid hm
  have HP := Lib.hid hp
  have HNA := Lib.hid hN
  have HFA := Lib.hid hF
  have HCAP := Lib.hid hcap
  subst hpm
  clear hm hp hN hF hcap hch
  have B1 := Lib.hid (Blk.new' w #[.slice A n cA, .slice B p cB] 25)
  have HB1 := Lib.hid ((Below.refl w.heap.size w).alloc (Nat.le_refl _) (.cells #[.slice A n cA, .slice B p cB] 25))
  go_enter Try.func59, Try.ntmps59
  go_wp2_with fail
  generalize w.alloc (.cells #[.slice A n cA, .slice B p cB] 25) = w1 at B1 HB1 ⊢
  go_loopw [5, 6] (fun v i wr => ∃ k : Nat, k ≤ p ∧ i = .int .i64 k ∧ v = .int .i64 (costK N fl k) ∧ Hid (Below w1.heap.size w1 wr)) (fun _ i _ => p - (intOf i).toNat)
  case atStart => exact ⟨0, Nat.zero_le _, rfl, rfl, Lib.hid (Below.refl _ _)⟩
  case round =>
    obtain ⟨k, hk, rfl, rfl, HB⟩ := hrel
    have HBR := Lib.hid (HB1.out.trans (HB.out.mono HB1.out.size))
    by_cases hlt : k < p
    · have bc := costK_bd HCH.out k (by rw [← HM.out]; exact hk) (fun x hx => HCAP.out x (by omega))
      have cA0 := (HB.out.cell (p := ⟨w.heap.size, 0, none⟩) B1.out.lt).trans (B1.out.cell 0 rfl)
      have cB0 := (HB.out.cell (p := ⟨w.heap.size, 1, none⟩) B1.out.lt).trans (B1.out.cell 1 rfl)
      have bA1 : w.heap.size < wr.heap.size := Nat.lt_of_lt_of_le B1.out.lt HB.out.size
      obtain ⟨ad, rfl, hbl, d0, d1, d2, d3⟩ := (HNA.out.2.below HBR.out (Nat.le_refl _)) k (by rw [← HM.out]; exact hlt)
      obtain ⟨af, rfl, hbf, hf0⟩ := (HFA.out.below HBR.out (Nat.le_refl _)) k (by rw [← HP.out]; exact hlt)
      obtain ⟨a1, a2, a3, a4, a5⟩ := net_arc HCH.out k (by rw [← HM.out]; exact hlt)
      have hbl' : (ad.add (k * 4)).block < wr.heap.size := by rw [block_add]; exact hbl
      have hbf' : (af.add k).block < wr.heap.size := by rw [block_add]; exact hbf
      have HK1 := Lib.hid (show costK N fl (k + 1) = costK N fl k + fl.getD k 0 * (N.arcs.getD k default).cost from rfl)
      have hfk := HCAP.out k hlt
      have p1 : fl.getD k 0 * (N.arcs.getD k default).cost ≤ 1099511627776 ∧ -1099511627776 ≤ fl.getD k 0 * (N.arcs.getD k default).cost := by
        have q1 := Int.mul_le_mul_of_nonneg_left a5.2 hfk.1
        have q2 := Int.mul_le_mul_of_nonneg_left a5.1 hfk.1
        omega
      generalize N.arcs.getD k default = ar at *
      obtain ⟨fr, to, ca, co⟩ := ar
      simp only at d0 d1 d2 d3 a1 a2 a3 a4 a5 HK1 p1 hfk
      generalize fl.getD k 0 = f at *
      generalize costK N fl k = S at *
      clear a1 a2 a3 d0 d1 d2
      have k0 : (0 : Int) ≤ (k : Int) := by omega
      have kx : (k : Int) < (p : Int) := by omega
      go_wp2_with fail
      refine wp_region_past (by kernel_rfl) (by kernel_rfl) ?_
      repeat (go_big_quiet_step (fail))
      refine wpQuiet_nil ?_
      intro xx
      have HXX := Lib.hid xx.far
      generalize xx.w = w4 at HXX ⊢
      go_wp2
      go_roundw
      case rel => exact ⟨k + 1, by omega, by go_num, by rw [HK1.out], Lib.hid (HB.out.trans (HXX.out.mono HB.out.size))⟩
      case measure => simp [intOf]; omega
    · obtain rfl : k = p := by omega
      go_wp2
      go_ret
      exact ⟨rfl, HBR.out⟩
end Go.Proofs.Ytmebpglkeedaoaa
