/- The contract of the reference's Lacks of depot. -/
import Derived.Test.YtmebpglkeedaoaaC13
namespace Go.Proofs.Ytmebpglkeedaoaa
open Go.RowKit Dp
set_option linter.unusedVariables false
theorem lkR_bd {N : Net} {c : List Int} (h : chE N = 0) (p : Nat) : ∀ j : Nat, j ≤ N.sup.length → -(268435456 * j : Int) ≤ lkR N c p j ∧ lkR N c p j ≤ 268435456 * j
  | 0, _ => by simp [lkR]
  | j + 1, hj => by
    have ih := lkR_bd (c := c) h p j (by omega)
    have h2 := net_sup h j (by omega)
    simp only [lkR]
    rw [Int.natCast_add]
    split <;> omega
theorem cutAt_no0 {n : Nat} {c : List Int} {k : Nat} (h : c.getD k 0 < 0 ∨ (n : Int) ≤ c.getD k 0) : cutAt n c k = false := by
  cases hb : cutAt n c k
  · rfl
  · have := cutAt_iff.1 hb; omega
theorem cutAt_no1 {n : Nat} {c : List Int} {k : Nat} (h0 : 0 < k) (h : c.getD k 0 ≤ c.getD (k - 1) 0) : cutAt n c k = false := by
  cases hb : cutAt n c k
  · rfl
  · have := (cutAt_iff.1 hb).2.2 h0; omega

set_option maxHeartbeats 2000000 in
set_option maxRecDepth 100000 in
theorem LacksR_c (A B C : Option Addr) (N : Net) (c : List Int) (n m p cA cB cC : Nat) (w : World) (hn : n = N.sup.length) (hm : m = N.arcs.length) (hp : p = c.length) (hA : n ≤ cA ∧ cA ≤ 9223372036854775807) (hB : m ≤ cB ∧ cB ≤ 9223372036854775807) (hC : p ≤ cC ∧ cC ≤ 9223372036854775807) (hN : NetAt w A B N) (hF : IntsAt w C c) :
    Calls Try.prog 19 #[.agg #[.slice A n cA, .slice B m cB], .slice C p cC] w fun e w' => e = .returned (.tuple #[.int .i64 (lkV N c), .int .i64 (lkE N c)]) ∧ Below w.heap.size w w' := by
  have HN := Lib.hid hn
  have HM := Lib.hid hm
  have HP := Lib.hid hp
  have HNA := Lib.hid hN
  have HFA := Lib.hid hF
  clear hn hm hp hN hF
  have B1 := Lib.hid (Blk.new' w #[.slice A n cA, .slice B m cB] 25)
  have HB1 := Lib.hid ((Below.refl w.heap.size w).alloc (Nat.le_refl _) (.cells #[.slice A n cA, .slice B m cB] 25))
  go_enter Try.func19, Try.ntmps19
  go_wp2_with fail
  generalize w.alloc (.cells #[.slice A n cA, .slice B m cB] 25) = w1 at B1 HB1 ⊢
  refine (CheckR_c A B N n m cA cB w1 HN.out HM.out hA hB (HNA.out.below HB1.out (Nat.le_refl _))).mono ?_
  rintro e w2 ⟨rfl, hb2⟩
  have B2 := Lib.hid (B1.out.below hb2 B1.out.lt)
  have HB2 := Lib.hid (HB1.out.trans (hb2.mono HB1.out.size))
  clear hb2 B1 HB1
  have cA0 := B2.out.cell 0 rfl
  have cB0 := B2.out.cell 1 rfl
  by_cases hch : chE N = 0
  · have hce := net_len hch
    rw [hch]
    have n1 : 1 ≤ n := by rw [HN.out]; exact hce.1
    have n2 : n ≤ 1024 := by rw [HN.out]; exact hce.2.1
    have m2 : m ≤ 2048 := by rw [HM.out]; exact hce.2.2
    have HCH := Lib.hid hch
    clear hch hce
    have hmk := make_bools n (by omega)
    have zg : w.heap.size < w2.heap.size := B2.out.lt
    have J3 : Hid (LkJ w A B n cA m cB w2.heap.size c 0 (w2.alloc (.cells (Array.replicate n (.bool false)) 4))) := Lib.hid ⟨HB2.out.alloc HB2.out.size _, B2.out.alloc _, by
      rw [marks_zero]
      have := Blk.new' w2 (Array.replicate n (.bool false)) 4
      simpa using this⟩
    go_wp2_with fail
    generalize w2.alloc (.cells (Array.replicate n (.bool false)) 4) = w3 at J3 ⊢
    generalize w2.heap.size = g at *
    clear hmk cA0 cB0
    have SC : Hid (∀ W, Below w.heap.size w W → ∀ k, k < n → ∃ aS, A = some aS ∧ W.cell? (aS.add k) = some (.int .i64 (N.sup.getD k 0))) := Lib.hid (fun W h k hk => by
      obtain ⟨a', e, hb, hc⟩ := HNA.out.1 k (by rw [← HN.out]; exact hk)
      exact ⟨a', e, (h.cell (by rw [block_add]; exact hb)).trans hc⟩)
    have FC : Hid (∀ W, Below w.heap.size w W → ∀ k, k < p → ∃ aC, C = some aC ∧ W.cell? (aC.add k) = some (.int .i64 (c.getD k 0)) ∧ (aC.add k).block < W.heap.size) := Lib.hid (fun W h k hk => by
      obtain ⟨a', e, hb, hc⟩ := HFA.out k (by rw [← HP.out]; exact hk)
      exact ⟨a', e, (h.cell (by rw [block_add]; exact hb)).trans hc, by rw [block_add]; have := h.size; omega⟩)
    go_loopw [7] (fun i wr => ∃ k : Nat, k ≤ p ∧ i = .int .i64 k ∧ Hid (LkJ w A B n cA m cB g c k wr) ∧ Hid (∀ x, x < k → cutAt n c x = true)) (fun i _ => p - (intOf i).toNat)
    case atStart => exact ⟨0, Nat.zero_le _, rfl, J3, Lib.hid (fun x hx => absurd hx (Nat.not_lt_zero _))⟩
    case round =>
      obtain ⟨k, hk, rfl, HJ, HK⟩ := hrel
      have hkn := cut_lt k HK.out
      have cA0 := HJ.out.2.1.cell 0 rfl
      have cB0 := HJ.out.2.1.cell 1 rfl
      have bg : w.heap.size < wr.heap.size := HJ.out.2.1.lt
      by_cases hlt : k < p
      · obtain ⟨aC, rfl, hcc, hcb⟩ := FC.out _ HJ.out.1 k hlt
        have ENO := Lib.hid (fun h => lk_no (c := c) HCH.out k (by rw [← HP.out]; exact hlt) (by rw [← HN.out]; exact h))
        have HMK := Lib.hid (fun W (h : LkJ w A B n cA m cB g c k W) hc => h.mark zg (by rw [← HP.out]; exact hlt) hc)
        have NO0 := Lib.hid (cutAt_no0 (n := n) (c := c) (k := k))
        have NO1 := Lib.hid (cutAt_no1 (n := n) (c := c) (k := k))
        have YES := Lib.hid (cutAt_iff (n := n) (c := c) (k := k))
        have F1 := Lib.hid (fun (h0 : 0 < k) => FC.out _ HJ.out.1 (k - 1) (by omega))
        generalize hx : c.getD k 0 = x at *
        have HX := Lib.hid hx
        clear hx
        generalize c.getD (k - 1) 0 = y at *
        have k0 : (0 : Int) ≤ (k : Int) := by omega
        have kx : (k : Int) < (p : Int) := by omega
        by_cases h1 : x < 0
        · have E := Lib.hid (ENO.out (NO0.out (.inl h1)))
          have d1 : decide (x < 0) = true := decide_eq_true h1
          go_wp2_with fail
          refine wp_region_past (by kernel_rfl) (by kernel_rfl) ?_
          repeat (go_big_quiet_step (fail))
          refine wpQuiet_nil ?_
          intro xx
          have HXX := Lib.hid xx.far
          generalize xx.w = w4 at HXX ⊢
          go_wp2
          go_ret2
          exact ⟨ret2 E.out.2.symm E.out.1.symm, (HJ.out.below HXX.out).1⟩
        have d1 : decide (x < 0) = false := decide_eq_false h1
        by_cases h2 : (n : Int) ≤ x
        · have E := Lib.hid (ENO.out (NO0.out (.inr h2)))
          have d2 : decide ((n : Int) ≤ x) = true := decide_eq_true h2
          go_wp2_with fail
          refine wp_region_past (by kernel_rfl) (by kernel_rfl) ?_
          repeat (go_big_quiet_step (fail))
          refine wpQuiet_nil ?_
          intro xx
          have HXX := Lib.hid xx.far
          generalize xx.w = w4 at HXX ⊢
          go_wp2
          go_ret2
          exact ⟨ret2 E.out.2.symm E.out.1.symm, (HJ.out.below HXX.out).1⟩
        have d2 : decide ((n : Int) ≤ x) = false := decide_eq_false h2
        obtain ⟨a, rfl⟩ : ∃ a : Nat, x = a := ⟨x.toNat, by omega⟩
        have d2n : decide (n ≤ a) = false := decide_eq_false (by omega)
        by_cases h3 : 0 < k
        · have d3 : decide ((0 : Int) < (k : Int)) = true := decide_eq_true (by omega)
          have d3n : decide (0 < k) = true := decide_eq_true h3
          obtain ⟨aC', e, hcc', hcb'⟩ := F1.out h3
          cases e
          have w1' : IntKind.i64.wrap ((k : Int) - 1) = (k : Int) - 1 := IntWalk.i64_in _ (by omega)
          have t1' : ((k : Int) - 1).toNat = k - 1 := by omega
          have l1' : (1 : Int) ≤ (k : Int) := by omega
          have l2' : (k : Int) - 1 < (p : Int) := by omega
          by_cases h4 : (a : Int) ≤ y
          · have E := Lib.hid (ENO.out (NO1.out h3 h4))
            have d4 : decide ((a : Int) ≤ y) = true := decide_eq_true h4
            go_wp2_with fail
            refine wp_region_past (by kernel_rfl) (by kernel_rfl) ?_
            repeat (go_big_quiet_step (fail))
            refine wpQuiet_nil ?_
            intro xx
            have HXX := Lib.hid xx.far
            generalize xx.w = w4 at HXX ⊢
            go_wp2
            go_ret2
            exact ⟨ret2 E.out.2.symm E.out.1.symm, (HJ.out.below HXX.out).1⟩
          have d4 : decide ((a : Int) ≤ y) = false := decide_eq_false h4
          have HCT := Lib.hid (YES.out.2 ⟨by omega, by omega, fun _ => by omega⟩)
          go_wp2_with fail
          refine wp_region_past (by kernel_rfl) (by kernel_rfl) ?_
          repeat (go_big_quiet_step (fail))
          refine wpQuiet_nil ?_
          intro xx
          have J4 := Lib.hid (HJ.out.below xx.far)
          generalize xx.w = w4 at J4 ⊢
          have m0 := J4.out.2.2.cell a (marks_get (by omega))
          have f0 := J4.out.2.2.free a
          obtain ⟨aC2, e2, hcc2, hcb2⟩ := FC.out _ J4.out.1 k hlt
          cases e2
          rw [HX.out] at hcc2
          go_upto_region 6 with fail
          refine gen_world (fun W => LkJ w A B n cA m cB g c (k + 1) W) (HMK.out _ J4.out HCT.out) ?_
          rintro w5 j5
          have J5 := Lib.hid j5
          clear j5 m0 f0 cA0 cB0 hcc hcc2
          go_wp2
          go_roundw
          case rel =>
            refine ⟨k + 1, by omega, by go_num, J5, Lib.hid (fun y hy => ?_)⟩
            by_cases hjk : y < k
            · exact HK.out y hjk
            · obtain rfl : y = k := by omega
              exact HCT.out
          case measure => simp [intOf]; omega
        have d3 : decide ((0 : Int) < (k : Int)) = false := decide_eq_false (by omega)
        have d3n : decide (0 < k) = false := decide_eq_false h3
        have HCT := Lib.hid (YES.out.2 ⟨by omega, by omega, fun _ => by omega⟩)
        go_wp2_with fail
        refine wp_region_past (by kernel_rfl) (by kernel_rfl) ?_
        repeat (go_big_quiet_step (fail))
        refine wpQuiet_nil ?_
        intro xx
        have J4 := Lib.hid (HJ.out.below xx.far)
        generalize xx.w = w4 at J4 ⊢
        have m0 := J4.out.2.2.cell a (marks_get (by omega))
        have f0 := J4.out.2.2.free a
        obtain ⟨aC2, e2, hcc2, hcb2⟩ := FC.out _ J4.out.1 k hlt
        cases e2
        rw [HX.out] at hcc2
        go_upto_region 6 with fail
        refine gen_world (fun W => LkJ w A B n cA m cB g c (k + 1) W) (HMK.out _ J4.out HCT.out) ?_
        rintro w5 j5
        have J5 := Lib.hid j5
        clear j5 m0 f0 cA0 cB0 hcc hcc2
        go_wp2
        go_roundw
        case rel =>
          refine ⟨k + 1, by omega, by go_num, J5, Lib.hid (fun y hy => ?_)⟩
          by_cases hjk : y < k
          · exact HK.out y hjk
          · obtain rfl : y = k := by omega
            exact HCT.out
        case measure => simp [intOf]; omega
      · obtain rfl : k = p := by omega
        have HCO : Hid (∀ x, x < c.length → cutAt N.sup.length c x = true) := Lib.hid (fun x hx => by rw [← HN.out]; exact HK.out x (by rw [HP.out]; exact hx))
        have E := Lib.hid (lk_yes HCH.out HCO.out)
        have E0 := Lib.hid (show lkR N c k n = lkA N c 0 from by rw [HN.out, HP.out, lkR_eq c.length (Nat.le_refl _) HCO.out]; rfl)
        clear HK
        go_wp2_with fail
        go_loopw [8, 9] (fun v i wr => ∃ j : Nat, j ≤ n ∧ i = .int .i64 j ∧ v = .int .i64 (lkR N c k j) ∧ Hid (LkJ w A B n cA m cB g c k wr)) (fun _ i _ => n - (intOf i).toNat)
        case atStart => exact ⟨0, Nat.zero_le _, rfl, rfl, HJ⟩
        case round =>
          obtain ⟨j, hj, rfl, rfl, HB⟩ := hrel
          have br := lkR_bd (c := c) HCH.out k j (by rw [← HN.out]; exact hj)
          have cA0 := HB.out.2.1.cell 0 rfl
          have cB0 := HB.out.2.1.cell 1 rfl
          by_cases hlt2 : j < n
          · obtain ⟨aS, rfl, sc⟩ := SC.out _ HB.out.1 j hlt2
            have hsu := net_sup HCH.out j (by rw [← HN.out]; exact hlt2)
            have HR1 := Lib.hid (show lkR N c k (j + 1) = lkR N c k j + if inK c k j = true then N.sup.getD j 0 else 0 from rfl)
            have mj := HB.out.2.2.cell j (marks_get (by omega))
            generalize N.sup.getD j 0 = s at *
            generalize inK c k (j : Int) = ij at *
            generalize lkR N c k j = S at *
            cases ij
            all_goals
              go_wp2
              go_roundw
              case rel => exact ⟨j + 1, by omega, by go_num, by rw [HR1.out]; simp, HB⟩
              case measure => simp [intOf]; omega
          · obtain rfl : j = n := by omega
            rw [E0.out]
            rw [E0.out] at br
            clear cA0 cB0
            go_wp2_with fail
            go_loopw [8, 10] (fun v i wr => ∃ q : Nat, q ≤ m ∧ i = .int .i64 q ∧ v = .int .i64 (lkA N c q) ∧ Hid (LkJ w A B j cA m cB g c k wr)) (fun _ i _ => m - (intOf i).toNat)
            case atStart => exact ⟨0, Nat.zero_le _, rfl, rfl, HB⟩
            case round =>
              obtain ⟨q, hq, rfl, rfl, HB⟩ := hrel
              have ba := lkA_bd HCH.out HCO.out q (by rw [← HM.out]; exact hq)
              have cA0 := HB.out.2.1.cell 0 rfl
              have cB0 := HB.out.2.1.cell 1 rfl
              by_cases hlt3 : q < m
              · obtain ⟨ad, rfl, hbl, d0, d1, d2, d3⟩ := (HNA.out.2.below HB.out.1 (Nat.le_refl _)) q (by rw [← HM.out]; exact hlt3)
                obtain ⟨a1, a2, a3, a4, a5⟩ := net_arc HCH.out q (by rw [← HM.out]; exact hlt3)
                rw [← HN.out] at a1 a2
                have HA1 := Lib.hid (show lkA N c (q + 1) = lkA N c q - if inK c c.length (N.arcs.getD q default).fr = true ∧ inK c c.length (N.arcs.getD q default).to = false then (N.arcs.getD q default).cap else 0 from rfl)
                generalize N.arcs.getD q default = ar at *
                obtain ⟨fr, to, ca, co⟩ := ar
                simp only at d0 d1 d2 d3 a1 a2 a3 a4 a5 HA1
                rw [← HP.out] at HA1
                obtain ⟨a, rfl⟩ : ∃ a : Nat, fr = a := ⟨fr.toNat, by omega⟩
                obtain ⟨b, rfl⟩ : ∃ b : Nat, to = b := ⟨to.toNat, by omega⟩
                have ma := HB.out.2.2.cell a (marks_get (by omega))
                have mb := HB.out.2.2.cell b (marks_get (by omega))
                generalize inK c k (a : Int) = ia at *
                generalize inK c k (b : Int) = ib at *
                generalize lkA N c q = S at *
                cases ia <;> cases ib
                all_goals
                  go_wp2
                  go_roundw
                  case rel => exact ⟨q + 1, by omega, by go_num, by rw [HA1.out]; simp, HB⟩
                  case measure => simp [intOf]; omega
              · obtain rfl : q = m := by omega
                have hx1 := fun ts t W => maxTwo 0 (lkA N c q) ts t W
                have E1 := Lib.hid (show max 0 (lkA N c q) = lkV N c from by rw [E.out.2, HM.out])
                generalize lkA N c q = S at *
                go_wp2
                go_ret2
                exact ⟨ret2 E1.out E.out.1.symm, HB.out.1⟩
  · have E := Lib.hid (lk_ch (c := c) hch)
    have hne : (chE N == 0) = false := by simpa using hch
    have CC := Lib.hid (CheckR_c A B N n m cA cB w2 HN.out HM.out hA hB (HNA.out.below HB2.out (Nat.le_refl _)))
    generalize chE N = q at *
    go_wp2_with fail
    refine CC.out.mono ?_
    rintro e w3 ⟨rfl, hb3⟩
    go_wp2
    go_ret2
    exact ⟨ret2 E.out.2.symm E.out.1.symm, HB2.out.trans (hb3.mono HB2.out.size)⟩
end Go.Proofs.Ytmebpglkeedaoaa
