/- The contract of Proves of depot. -/
import Derived.Test.YtmebpglkeedaoaaC9
import Derived.Test.YtmebpglkeedaoaaM3
namespace Go.Proofs.Ytmebpglkeedaoaa
open Go.RowKit Dp
set_option linter.unusedVariables false

set_option maxHeartbeats 2000000 in
set_option maxRecDepth 100000 in
theorem Proves_c (A B C : Option Addr) (N : Net) (ps : List Int) (n m p cA cB cC : Nat) (w : World) (hn : n = N.sup.length) (hm : m = N.arcs.length) (hp : p = ps.length) (hA : n ≤ cA ∧ cA ≤ 9223372036854775807) (hB : m ≤ cB ∧ cB ≤ 9223372036854775807) (hC : p ≤ cC ∧ cC ≤ 9223372036854775807) (hN : NetAt w A B N) (hF : IntsAt w C ps) :
    Calls Try.prog 16 #[.agg #[.slice A n cA, .slice B m cB], .slice C p cC] w fun e w' => e = .returned (.tuple #[.int .i64 (prV N ps), .int .i64 (prE N ps)]) ∧ Below w.heap.size w w' := by
  have HN := Lib.hid hn
  have HM := Lib.hid hm
  have HP := Lib.hid hp
  have HNA := Lib.hid hN
  have HFA := Lib.hid hF
  clear hn hm hp hN hF
  have B1 := Lib.hid (Blk.new' w #[.slice A n cA, .slice B m cB] 25)
  have HB1 := Lib.hid ((Below.refl w.heap.size w).alloc (Nat.le_refl _) (.cells #[.slice A n cA, .slice B m cB] 25))
  go_enter Try.func16, Try.ntmps16
  go_wp2_with fail
  generalize w.alloc (.cells #[.slice A n cA, .slice B m cB] 25) = w1 at B1 HB1 ⊢
  refine (Check_c A B N n m cA cB w1 HN.out HM.out hA hB (HNA.out.below HB1.out (Nat.le_refl _))).mono ?_
  rintro e w2 ⟨rfl, hb2⟩
  have B2 := Lib.hid (B1.out.below hb2 B1.out.lt)
  have HB2 := Lib.hid (HB1.out.trans (hb2.mono HB1.out.size))
  clear hb2 B1 HB1
  have cA0 := B2.out.cell 0 rfl
  have cB0 := B2.out.cell 1 rfl
  by_cases hch : chE N = 0
  · have hce := net_len hch
    rw [hch]
    by_cases hpn : p = n
    · have HLEN := Lib.hid (show ps.length = N.sup.length from by rw [← HP.out, ← HN.out]; exact hpn)
      subst hpn
      have n1 : 1 ≤ p := by rw [HN.out]; exact hce.1
      have n2 : p ≤ 1024 := by rw [HN.out]; exact hce.2.1
      have m2 : m ≤ 2048 := by rw [HM.out]; exact hce.2.2
      have HCH := Lib.hid hch
      clear hch hce
      obtain ⟨aS, rfl, hbS, _⟩ := HNA.out.1 0 (by rw [← HN.out]; omega)
      obtain ⟨aP, rfl, hbP, _⟩ := HFA.out 0 (by rw [← HP.out]; omega)
      have SC : Hid (∀ W, Below w.heap.size w W → ∀ k, k < p → W.cell? (aS.add k) = some (.int .i64 (N.sup.getD k 0))) := Lib.hid (fun W h k hk => by
        obtain ⟨a', e, hb, hc⟩ := HNA.out.1 k (by rw [← HN.out]; exact hk)
        cases e
        exact (h.cell (by rw [block_add]; exact hb)).trans hc)
      have PC : Hid (∀ W, Below w.heap.size w W → ∀ k, k < p → W.cell? (aP.add k) = some (.int .i64 (ps.getD k 0)) ∧ (aP.add k).block < W.heap.size) := Lib.hid (fun W h k hk => by
        obtain ⟨a', e, hb, hc⟩ := HFA.out k (by rw [← HP.out]; exact hk)
        cases e
        exact ⟨(h.cell (by rw [block_add]; exact hb)).trans hc, by rw [block_add]; have := h.size; omega⟩)
      go_wp2_with fail
      go_loop [7, 25] (fun v i => ∃ k : Nat, k ≤ p ∧ i = .int .i64 k ∧ v = .int .i64 (prS N ps k) ∧ Hid (∀ x, x < k → potOk (ps.getD x 0) = true)) (fun _ i => p - (intOf i).toNat)
      case atStart => exact ⟨0, Nat.zero_le _, rfl, rfl, Lib.hid (fun x hx => absurd hx (Nat.not_lt_zero _))⟩
      case round =>
        obtain ⟨k, hk, rfl, rfl, HK⟩ := hrel
        have bs := prS_bd2 HCH.out k (by rw [← HN.out]; exact hk) HK.out
        by_cases hlt : k < p
        · have sc := SC.out _ HB2.out k hlt
          have pc := (PC.out _ HB2.out k hlt).1
          have hsu := net_sup HCH.out k (by rw [← HN.out]; exact hlt)
          have ENO := Lib.hid (fun h => pr_no HCH.out HLEN.out k (by rw [← HP.out]; exact hlt) h)
          have HS1 := Lib.hid (show prS N ps (k + 1) = prS N ps k - ps.getD k 0 * N.sup.getD k 0 from rfl)
          generalize N.sup.getD k 0 = s at *
          generalize hx : ps.getD k 0 = x at *
          have HX := Lib.hid hx
          clear hx
          generalize prS N ps k = S at *
          by_cases h1 : x < -1073741824
          · have E := Lib.hid (ENO.out (by simp [potOk]; omega))
            go_wp2
            go_ret2
            exact ⟨ret2 E.out.2.symm E.out.1.symm, HB2.out⟩
          by_cases h2 : 1073741824 < x
          · have E := Lib.hid (ENO.out (by simp [potOk]; omega))
            go_wp2
            go_ret2
            exact ⟨ret2 E.out.2.symm E.out.1.symm, HB2.out⟩
          have p1 : x * s ≤ 288230376151711744 ∧ -288230376151711744 ≤ x * s := by
            have := mul_abs (p := x) (s := s) (P := 1073741824) (by omega)
            have : abs s ≤ 268435456 := by unfold abs; omega
            omega
          go_wp2
          go_round
          case rel =>
            refine ⟨k + 1, by omega, by go_num, by rw [HS1.out], Lib.hid (fun y hy => ?_)⟩
            by_cases hjk : y < k
            · exact HK.out y hjk
            · obtain rfl : y = k := by omega
              rw [HX.out]; simp [potOk]; omega
          case measure => simp [intOf]; omega
        · obtain rfl : k = p := by omega
          have HPO : Hid (∀ x, x < ps.length → potOk (ps.getD x 0) = true) := Lib.hid (fun x hx => HK.out x (by rw [HP.out]; exact hx))
          have E := Lib.hid (pr_yes HCH.out HLEN.out HPO.out)
          have E0 := Lib.hid (show prS N ps k = prA N ps 0 from by rw [HN.out]; rfl)
          rw [E0.out]
          rw [E0.out] at bs
          clear HK
          go_wp2_with fail
          trace "loop 2"
          go_loopw [7, 49] (fun v i wr => ∃ j : Nat, j ≤ m ∧ i = .int .i64 j ∧ v = .int .i64 (prA N ps j) ∧ Hid (Below w2.heap.size w2 wr)) (fun _ i _ => m - (intOf i).toNat)
          case atStart => exact ⟨0, Nat.zero_le _, rfl, rfl, Lib.hid (Below.refl _ _)⟩
          case round =>
            obtain ⟨j, hj, rfl, rfl, HB⟩ := hrel
            have ba := prA_bd HCH.out HLEN.out HPO.out j (by rw [← HM.out]; exact hj)
            have HBR := Lib.hid (HB2.out.trans (HB.out.mono HB2.out.size))
            by_cases hlt2 : j < m
            · obtain ⟨ad, rfl, hbl, d0, d1, d2, d3⟩ := (HNA.out.2.below HBR.out (Nat.le_refl _)) j (by rw [← HM.out]; exact hlt2)
              obtain ⟨a1, a2, a3, a4, a5⟩ := net_arc HCH.out j (by rw [← HM.out]; exact hlt2)
              rw [← HN.out] at a1 a2
              have HA1 := Lib.hid (show prA N ps (j + 1) = prA N ps j + prW (N.arcs.getD j default) ps from rfl)
              generalize N.arcs.getD j default = ar at *
              obtain ⟨fr, to, ca, co⟩ := ar
              simp only at d0 d1 d2 d3 a1 a2 a3 a4 a5
              obtain ⟨a, rfl⟩ : ∃ a : Nat, fr = a := ⟨fr.toNat, by omega⟩
              obtain ⟨b, rfl⟩ : ∃ b : Nat, to = b := ⟨to.toNat, by omega⟩
              have pa := potOk_iff.1 (HPO.out a (by rw [← HP.out]; omega))
              have pb := potOk_iff.1 (HPO.out b (by rw [← HP.out]; omega))
              have HW := Lib.hid (show prW ⟨a, b, ca, co⟩ ps = ca * min 0 (co + ps.getD a 0 - ps.getD b 0) from rfl)
              have PA := Lib.hid (fun W h => PC.out W h a (by omega))
              have PB := Lib.hid (fun W h => PC.out W h b (by omega))
              generalize ps.getD a 0 = x at *
              generalize ps.getD b 0 = y at *
              generalize prA N ps j = S at *
              have hx1 := fun ts t W => minTwo 0 (co + x - y) ts t W
              generalize hz : min 0 (co + x - y) = z at *
              have hzb : -2148532224 ≤ z ∧ z ≤ 0 := by omega
              clear hz
              have p1 : ca * z ≤ 0 ∧ -2252899325313024 ≤ ca * z := by
                have q1 := Int.mul_le_mul_of_nonneg_left hzb.1 a4.1
                have q2 := Int.mul_le_mul_of_nonneg_left hzb.2 a4.1
                omega
              go_upto_region 17 with fail
              have HBX := Lib.hid (HBR.out.alloc HBR.out.size (.cells #[.int .i64 a, .int .i64 b, .int .i64 ca, .int .i64 co] 46))
              have HBJ := Lib.hid (HB.out.alloc HB.out.size (.cells #[.int .i64 a, .int .i64 b, .int .i64 ca, .int .i64 co] 46))
              have BX := Lib.hid (Blk.new' wr #[.int .i64 a, .int .i64 b, .int .i64 ca, .int .i64 co] 46)
              generalize wr.alloc (.cells #[.int .i64 a, .int .i64 b, .int .i64 ca, .int .i64 co] 46) = wx at HBX HBJ BX ⊢
              generalize wr.heap.size = ga at *
              have e0 := BX.out.cell 0 rfl
              have e1 := BX.out.cell 1 rfl
              have e2 := BX.out.cell 2 rfl
              have e3 := BX.out.cell 3 rfl
              have zga := BX.out.lt
              obtain ⟨fa, fab⟩ := PA.out _ HBX.out
              obtain ⟨fb, fbb⟩ := PB.out _ HBX.out
              clear d0 d1 d2 d3
              refine wp_region_past (by kernel_rfl) (by kernel_rfl) ?_
              repeat (go_big_quiet_step (fail))
              refine wpQuiet_nil ?_
              intro xx
              have HXX := Lib.hid xx.far
              generalize xx.w = w4 at HXX ⊢
              go_wp2
              go_roundw
              case rel => exact ⟨j + 1, by omega, by go_num, by rw [HA1.out, HW.out], Lib.hid (HBJ.out.trans (HXX.out.mono HBJ.out.size))⟩
              case measure => simp [intOf]; omega
            · obtain rfl : j = m := by omega
              go_wp2
              go_ret2
              exact ⟨ret2 (by rw [E.out.2, HM.out]) E.out.1.symm, HBR.out⟩
    · have E := Lib.hid (pr_len (ps := ps) hch (by rw [← HP.out, ← HN.out]; exact hpn))
      have hmm : ¬ (p : Int) = (n : Int) := by omega
      have hmm' : ((p : Int) == (n : Int)) = false := by simpa using hmm
      go_wp2
      go_ret2
      exact ⟨ret2 E.out.2.symm E.out.1.symm, HB2.out⟩
  · have E := Lib.hid (pr_ch (ps := ps) hch)
    have hne : (chE N == 0) = false := by simpa using hch
    generalize chE N = q at *
    go_wp2
    go_ret2
    exact ⟨ret2 E.out.2.symm E.out.1.symm, HB2.out⟩
end Go.Proofs.Ytmebpglkeedaoaa
