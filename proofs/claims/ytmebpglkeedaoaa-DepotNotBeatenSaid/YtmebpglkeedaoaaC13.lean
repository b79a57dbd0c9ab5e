/- The contract of Lacks of depot. -/
import Derived.Test.YtmebpglkeedaoaaC12
namespace Go.Proofs.Ytmebpglkeedaoaa
open Go.RowKit Dp
set_option linter.unusedVariables false
def lastC (c : List Int) (k : Nat) : Int := if k = 0 then -1 else c.getD (k - 1) 0
theorem lastC_bd {n : Nat} {c : List Int} {k : Nat} (h : ∀ x, x < k → cutAt n c x = true) (hn : n ≤ 4096) : -1 ≤ lastC c k ∧ lastC c k ≤ 4096 := by
  unfold lastC
  split
  · omega
  · have := cutAt_iff.1 (h (k - 1) (by omega)); omega
theorem cutAt_last {n : Nat} {c : List Int} {k : Nat} (h : ∀ x, x < k → cutAt n c x = true) : cutAt n c k = decide (lastC c k < c.getD k 0 ∧ c.getD k 0 < n) := by
  unfold lastC
  cases hb : cutAt n c k
  · symm
    rw [decide_eq_false_iff_not]
    intro hh
    have : cutAt n c k = true := cutAt_iff.2 (by
      split at hh
      · rename_i h0; exact ⟨by omega, hh.2, fun h1 => by omega⟩
      · have := cutAt_iff.1 (h (k - 1) (by omega)); exact ⟨by omega, hh.2, fun _ => hh.1⟩)
    rw [hb] at this; cases this
  · symm
    rw [decide_eq_true_eq]
    have := cutAt_iff.1 hb
    split
    · omega
    · exact ⟨this.2.2 (by omega), this.2.1⟩

theorem lkA_bd {N : Net} {c : List Int} (h : chE N = 0) (hc : ∀ k, k < c.length → cutAt N.sup.length c k = true) : ∀ j : Nat, j ≤ N.arcs.length → -(274877906944 + 1048576 * j : Int) ≤ lkA N c j ∧ lkA N c j ≤ 274877906944
  | 0, _ => by
    have h1 := lkS_bd h c.length hc
    have h2 := cut_lt c.length hc
    have h3 := net_len h
    simp only [lkA]
    omega
  | j + 1, hj => by
    have ih := lkA_bd h hc j (by omega)
    obtain ⟨a1, a2, a3, a4, a5⟩ := net_arc h j (by omega)
    simp only [lkA]
    rw [Int.natCast_add]
    split <;> omega

set_option maxHeartbeats 2000000 in
set_option maxRecDepth 100000 in
theorem Lacks_c (A B C : Option Addr) (N : Net) (c : List Int) (n m p cA cB cC : Nat) (w : World) (hn : n = N.sup.length) (hm : m = N.arcs.length) (hp : p = c.length) (hA : n ≤ cA ∧ cA ≤ 9223372036854775807) (hB : m ≤ cB ∧ cB ≤ 9223372036854775807) (hC : p ≤ cC ∧ cC ≤ 9223372036854775807) (hN : NetAt w A B N) (hF : IntsAt w C c) :
    Calls Try.prog 18 #[.agg #[.slice A n cA, .slice B m cB], .slice C p cC] w fun e w' => e = .returned (.tuple #[.int .i64 (lkV N c), .int .i64 (lkE N c)]) ∧ Below w.heap.size w w' := by
  have HN := Lib.hid hn
  have HM := Lib.hid hm
  have HP := Lib.hid hp
  have HNA := Lib.hid hN
  have HFA := Lib.hid hF
  clear hn hm hp hN hF
  have B1 := Lib.hid (Blk.new' w #[.slice A n cA, .slice B m cB] 25)
  have HB1 := Lib.hid ((Below.refl w.heap.size w).alloc (Nat.le_refl _) (.cells #[.slice A n cA, .slice B m cB] 25))
  go_enter Try.func18, Try.ntmps18
  go_wp2_with fail
  generalize w.alloc (.cells #[.slice A n cA, .slice B m cB] 25) = w1 at B1 HB1 ⊢
  refine (Check_c A B N n m cA cB w1 HN.out HM.out hA hB (HNA.out.below HB1.out (Nat.le_refl _))).mono ?_
  rintro e w2 ⟨rfl, hb2⟩
  have B2 := Lib.hid (B1.out.below hb2 B1.out.lt)
  have HB2 := Lib.hid (HB1.out.trans (hb2.mono HB1.out.size))
  clear hb2 B1 HB1
  have cA0 := B2.out.cell 0 rfl
  have cB0 := B2.out.cell 1 rfl
  by_cases hch : chE N = 0
  · have hce := net_len hch
    rw [hch]
    have n1 : 1 ≤ n := by rw [HN.out]; exact hce.1
    have n2 : n ≤ 1024 := by rw [HN.out]; exact hce.2.1
    have m2 : m ≤ 2048 := by rw [HM.out]; exact hce.2.2
    have HCH := Lib.hid hch
    clear hch hce
    have hmk := make_bools n (by omega)
    have zg : w.heap.size < w2.heap.size := B2.out.lt
    have J3 : Hid (LkJ w A B n cA m cB w2.heap.size c 0 (w2.alloc (.cells (Array.replicate n (.bool false)) 4))) := Lib.hid ⟨HB2.out.alloc HB2.out.size _, B2.out.alloc _, by
      rw [marks_zero]
      have := Blk.new' w2 (Array.replicate n (.bool false)) 4
      simpa using this⟩
    go_wp2_with fail
    generalize w2.alloc (.cells (Array.replicate n (.bool false)) 4) = w3 at J3 ⊢
    generalize w2.heap.size = g at *
    clear hmk cA0 cB0
    have SC : Hid (∀ W, Below w.heap.size w W → ∀ k, k < n → ∃ aS, A = some aS ∧ W.cell? (aS.add k) = some (.int .i64 (N.sup.getD k 0))) := Lib.hid (fun W h k hk => by
      obtain ⟨a', e, hb, hc⟩ := HNA.out.1 k (by rw [← HN.out]; exact hk)
      exact ⟨a', e, (h.cell (by rw [block_add]; exact hb)).trans hc⟩)
    go_loopw [8, 9, 25] (fun v l i wr => ∃ k : Nat, k ≤ p ∧ i = .int .i64 k ∧ v = .int .i64 (lkS N c k) ∧ l = .int .i64 (lastC c k) ∧ Hid (LkJ w A B n cA m cB g c k wr) ∧ Hid (∀ x, x < k → cutAt n c x = true)) (fun _ _ i _ => p - (intOf i).toNat)
    case atStart => exact ⟨0, Nat.zero_le _, rfl, rfl, rfl, J3, Lib.hid (fun x hx => absurd hx (Nat.not_lt_zero _))⟩
    case round =>
      obtain ⟨k, hk, rfl, rfl, rfl, HJ, HK⟩ := hrel
      have bs := lkS_bd HCH.out k (by rw [← HN.out]; exact HK.out)
      have hkn := cut_lt k HK.out
      have lb := lastC_bd HK.out (by omega)
      have cA0 := HJ.out.2.1.cell 0 rfl
      have cB0 := HJ.out.2.1.cell 1 rfl
      by_cases hlt : k < p
      · obtain ⟨aC, rfl, hbc, hcc⟩ := (HFA.out.below HJ.out.1 (Nat.le_refl _)) k (by rw [← HP.out]; exact hlt)
        have CL := Lib.hid (cutAt_last HK.out)
        have ENO := Lib.hid (fun h => lk_no (c := c) HCH.out k (by rw [← HP.out]; exact hlt) (by rw [← HN.out]; exact h))
        have HS1 := Lib.hid (show lkS N c (k + 1) = lkS N c k + N.sup.getD (c.getD k 0).toNat 0 from rfl)
        have HL1 := Lib.hid (show lastC c (k + 1) = c.getD k 0 from by simp [lastC])
        have HMK := Lib.hid (fun W (h : LkJ w A B n cA m cB g c k W) hc => h.mark zg (by rw [← HP.out]; exact hlt) hc)
        generalize c.getD k 0 = x at *
        generalize lastC c k = L at *
        generalize lkS N c k = S at *
        by_cases h1 : x ≤ L
        · have E := Lib.hid (ENO.out (by rw [CL.out, decide_eq_false_iff_not]; omega))
          go_wp2
          go_ret2
          exact ⟨ret2 E.out.2.symm E.out.1.symm, HJ.out.1⟩
        by_cases h2 : (n : Int) ≤ x
        · have E := Lib.hid (ENO.out (by rw [CL.out, decide_eq_false_iff_not]; omega))
          go_wp2
          go_ret2
          exact ⟨ret2 E.out.2.symm E.out.1.symm, HJ.out.1⟩
        obtain ⟨a, rfl⟩ : ∃ a : Nat, x = a := ⟨x.toNat, by omega⟩
        have hct : cutAt n c k = true := by rw [CL.out, decide_eq_true_eq]; omega
        have HCT := Lib.hid hct
        clear hct
        have m0 := HJ.out.2.2.cell a (marks_get (by omega))
        have f0 := HJ.out.2.2.free a
        go_upto_region 12 with fail
        refine gen_world (fun W => LkJ w A B n cA m cB g c (k + 1) W) (HMK.out _ HJ.out HCT.out) ?_
        rintro w5 j5
        have J5 := Lib.hid j5
        clear j5 m0 f0 cA0 cB0 hcc
        have cA0 := J5.out.2.1.cell 0 rfl
        obtain ⟨aS, rfl, sc⟩ := SC.out _ J5.out.1 a (by omega)
        have hsu := net_sup HCH.out a (by rw [← HN.out]; omega)
        simp only [Int.toNat_natCast] at HS1
        generalize N.sup.getD a 0 = s at *
        go_wp2
        go_roundw
        case rel =>
          refine ⟨k + 1, by omega, by go_num, by rw [HS1.out], by rw [HL1.out], J5, Lib.hid (fun y hy => ?_)⟩
          by_cases hjk : y < k
          · exact HK.out y hjk
          · obtain rfl : y = k := by omega
            exact HCT.out
        case measure => simp [intOf]; omega
      · obtain rfl : k = p := by omega
        have HCO : Hid (∀ x, x < c.length → cutAt N.sup.length c x = true) := Lib.hid (fun x hx => by rw [← HN.out]; exact HK.out x (by rw [HP.out]; exact hx))
        have E := Lib.hid (lk_yes HCH.out HCO.out)
        have E0 := Lib.hid (show lkS N c k = lkA N c 0 from by rw [HP.out]; rfl)
        rw [E0.out]
        rw [E0.out] at bs
        clear HK lb
        generalize lastC c k = L at *
        go_wp2_with fail
        go_loopw [8, 53] (fun v i wr => ∃ j : Nat, j ≤ m ∧ i = .int .i64 j ∧ v = .int .i64 (lkA N c j) ∧ Hid (LkJ w A B n cA m cB g c k wr)) (fun _ i _ => m - (intOf i).toNat)
        case atStart => exact ⟨0, Nat.zero_le _, rfl, rfl, HJ⟩
        case round =>
          obtain ⟨j, hj, rfl, rfl, HB⟩ := hrel
          have ba := lkA_bd HCH.out HCO.out j (by rw [← HM.out]; exact hj)
          by_cases hlt2 : j < m
          · obtain ⟨ad, rfl, hbl, d0, d1, d2, d3⟩ := (HNA.out.2.below HB.out.1 (Nat.le_refl _)) j (by rw [← HM.out]; exact hlt2)
            obtain ⟨a1, a2, a3, a4, a5⟩ := net_arc HCH.out j (by rw [← HM.out]; exact hlt2)
            rw [← HN.out] at a1 a2
            have HA1 := Lib.hid (show lkA N c (j + 1) = lkA N c j - if inK c c.length (N.arcs.getD j default).fr = true ∧ inK c c.length (N.arcs.getD j default).to = false then (N.arcs.getD j default).cap else 0 from rfl)
            generalize N.arcs.getD j default = ar at *
            obtain ⟨fr, to, ca, co⟩ := ar
            simp only at d0 d1 d2 d3 a1 a2 a3 a4 a5 HA1
            rw [← HP.out] at HA1
            obtain ⟨a, rfl⟩ : ∃ a : Nat, fr = a := ⟨fr.toNat, by omega⟩
            obtain ⟨b, rfl⟩ : ∃ b : Nat, to = b := ⟨to.toNat, by omega⟩
            have MA := Lib.hid (fun W (h : LkJ w A (some ad) n cA m cB g c k W) => h.2.2.cell a (marks_get (by omega)))
            have MB := Lib.hid (fun W (h : LkJ w A (some ad) n cA m cB g c k W) => h.2.2.cell b (marks_get (by omega)))
            generalize inK c k (a : Int) = ia at *
            generalize inK c k (b : Int) = ib at *
            generalize lkA N c j = S at *
            go_upto_region 17 with fail
            have HBX := Lib.hid (HB.out.below ((Below.refl _ _).alloc (Nat.le_refl _) (.cells #[.int .i64 a, .int .i64 b, .int .i64 ca, .int .i64 co] 46)))
            have BX := Lib.hid (Blk.new' wr #[.int .i64 a, .int .i64 b, .int .i64 ca, .int .i64 co] 46)
            generalize wr.alloc (.cells #[.int .i64 a, .int .i64 b, .int .i64 ca, .int .i64 co] 46) = wx at HBX BX ⊢
            generalize wr.heap.size = ga at *
            have e0 := BX.out.cell 0 rfl
            have e1 := BX.out.cell 1 rfl
            have e2 := BX.out.cell 2 rfl
            have ma := MA.out _ HBX.out
            have mb := MB.out _ HBX.out
            clear d0 d1 d2 d3
            cases ia <;> cases ib
            all_goals
              go_wp2
              go_roundw
              case rel => exact ⟨j + 1, by omega, by go_num, by rw [HA1.out]; simp, HBX⟩
              case measure => simp [intOf]; omega
          · obtain rfl : j = m := by omega
            have hx1 := fun ts t W => maxTwo 0 (lkA N c j) ts t W
            have E1 := Lib.hid (show max 0 (lkA N c j) = lkV N c from by rw [E.out.2, HM.out])
            generalize lkA N c j = S at *
            go_wp2
            go_ret2
            exact ⟨ret2 E1.out E.out.1.symm, HB.out.1⟩
  · have E := Lib.hid (lk_ch (c := c) hch)
    have hne : (chE N == 0) = false := by simpa using hch
    generalize chE N = q at *
    go_wp2
    go_ret2
    exact ⟨ret2 E.out.2.symm E.out.1.symm, HB2.out⟩
end Go.Proofs.Ytmebpglkeedaoaa
