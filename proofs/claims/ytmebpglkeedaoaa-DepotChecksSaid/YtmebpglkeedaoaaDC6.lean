/- Contracts that the claim leans on, part 6: C11 T15 T16 M24 T17 C12 C13 T18 C14 T19 A2 A4 C15 A5 S13 LLim2 LChecks -/
import Derived.Test.YtmebpglkeedaoaaDC5
import Derived.Deep.Cut
import Derived.WalkMore
set_option linter.unusedVariables false
set_option linter.unusedSimpArgs false
set_option linter.unnecessarySimpa false
namespace Go.Proofs.Ytmebpglkeedaoaa
open Go.RowKit Dp
set_option maxHeartbeats 2000000 in
set_option maxRecDepth 100000 in
theorem ProvesR_c (A B C : Option Addr) (N : Net) (ps : List Int) (n m p cA cB cC : Nat) (w : World) (hn : n = N.sup.length) (hm : m = N.arcs.length) (hp : p = ps.length) (hA : n ≤ cA ∧ cA ≤ 9223372036854775807) (hB : m ≤ cB ∧ cB ≤ 9223372036854775807) (hC : p ≤ cC ∧ cC ≤ 9223372036854775807) (hN : NetAt w A B N) (hF : IntsAt w C ps) :
    Calls Try.prog 17 #[.agg #[.slice A n cA, .slice B m cB], .slice C p cC] w fun e w' => e = .returned (.tuple #[.int .i64 (prV N ps), .int .i64 (prE N ps)]) ∧ Below w.heap.size w w' := by
  have HN := Lib.hid hn
  have HM := Lib.hid hm
  have HP := Lib.hid hp
  have HNA := Lib.hid hN
  have HFA := Lib.hid hF
  clear hn hm hp hN hF
  have B1 := Lib.hid (Blk.new' w #[.slice A n cA, .slice B m cB] 25)
  have HB1 := Lib.hid ((Below.refl w.heap.size w).alloc (Nat.le_refl _) (.cells #[.slice A n cA, .slice B m cB] 25))
  go_enter Try.func17, Try.ntmps17
  go_wp2_with fail
  generalize w.alloc (.cells #[.slice A n cA, .slice B m cB] 25) = w1 at B1 HB1 ⊢
  refine (CheckR_c A B N n m cA cB w1 HN.out HM.out hA hB (HNA.out.below HB1.out (Nat.le_refl _))).mono ?_
  rintro e w2 ⟨rfl, hb2⟩
  have B2 := Lib.hid (B1.out.below hb2 B1.out.lt)
  have HB2 := Lib.hid (HB1.out.trans (hb2.mono HB1.out.size))
  clear hb2 B1 HB1
  have cA0 := B2.out.cell 0 rfl
  have cB0 := B2.out.cell 1 rfl
  by_cases hch : chE N = 0
  · have hce := net_len hch
    rw [hch]
    by_cases hpn : p = n
    · have HLEN := Lib.hid (show ps.length = N.sup.length from by rw [← HP.out, ← HN.out]; exact hpn)
      subst hpn
      have n1 : 1 ≤ p := by rw [HN.out]; exact hce.1
      have n2 : p ≤ 1024 := by rw [HN.out]; exact hce.2.1
      have m2 : m ≤ 2048 := by rw [HM.out]; exact hce.2.2
      have HCH := Lib.hid hch
      clear hch hce
      obtain ⟨aS, rfl, hbS, _⟩ := HNA.out.1 0 (by rw [← HN.out]; omega)
      obtain ⟨aP, rfl, hbP, _⟩ := HFA.out 0 (by rw [← HP.out]; omega)
      have SC : Hid (∀ W, Below w.heap.size w W → ∀ k, k < p → W.cell? (aS.add k) = some (.int .i64 (N.sup.getD k 0))) := Lib.hid (fun W h k hk => by
        obtain ⟨a', e, hb, hc⟩ := HNA.out.1 k (by rw [← HN.out]; exact hk)
        cases e
        exact (h.cell (by rw [block_add]; exact hb)).trans hc)
      have PC : Hid (∀ W, Below w.heap.size w W → ∀ k, k < p → W.cell? (aP.add k) = some (.int .i64 (ps.getD k 0)) ∧ (aP.add k).block < W.heap.size) := Lib.hid (fun W h k hk => by
        obtain ⟨a', e, hb, hc⟩ := HFA.out k (by rw [← HP.out]; exact hk)
        cases e
        exact ⟨(h.cell (by rw [block_add]; exact hb)).trans hc, by rw [block_add]; have := h.size; omega⟩)
      go_wp2_with fail
      go_loopw [7] (fun i wr => ∃ k : Nat, k ≤ p ∧ i = .int .i64 k ∧ Hid (Below w2.heap.size w2 wr) ∧ Hid (∀ x, x < k → potOk (ps.getD x 0) = true)) (fun i _ => p - (intOf i).toNat)
      case atStart => exact ⟨0, Nat.zero_le _, rfl, Lib.hid (Below.refl _ _), Lib.hid (fun x hx => absurd hx (Nat.not_lt_zero _))⟩
      case round =>
        obtain ⟨k, hk, rfl, HB, HK⟩ := hrel
        have HBR := Lib.hid (HB2.out.trans (HB.out.mono HB2.out.size))
        by_cases hlt : k < p
        · have pc := (PC.out _ HBR.out k hlt).1
          have ENO := Lib.hid (fun h => pr_no HCH.out HLEN.out k (by rw [← HP.out]; exact hlt) h)
          generalize hx : ps.getD k 0 = x at *
          have HX := Lib.hid hx
          clear hx
          have WC := within_c x (-1073741824) 1073741824 wr
          by_cases h1 : -1073741824 ≤ x ∧ x ≤ 1073741824
          · rw [show inB x (-1073741824) 1073741824 = true from by simp [inB, h1]] at WC
            go_wp2_with fail
            refine WC.mono ?_
            rintro e w3 ⟨rfl, rfl⟩
            go_wp2
            go_roundw
            case rel =>
              refine ⟨k + 1, by omega, by go_num, HB, Lib.hid (fun y hy => ?_)⟩
              by_cases hjk : y < k
              · exact HK.out y hjk
              · obtain rfl : y = k := by omega
                rw [HX.out]; simp [potOk]; omega
            case measure => simp [intOf]; omega
          · rw [show inB x (-1073741824) 1073741824 = false from by simp [inB]; omega] at WC
            have E := Lib.hid (ENO.out (by simp [potOk]; omega))
            go_wp2_with fail
            refine WC.mono ?_
            rintro e w3 ⟨rfl, rfl⟩
            go_wp2
            go_ret2
            exact ⟨ret2 E.out.2.symm E.out.1.symm, HBR.out⟩
        · obtain rfl : k = p := by omega
          have HPO : Hid (∀ x, x < ps.length → potOk (ps.getD x 0) = true) := Lib.hid (fun x hx => HK.out x (by rw [HP.out]; exact hx))
          have E := Lib.hid (pr_yes HCH.out HLEN.out HPO.out)
          have B2 := Lib.hid (B2.out.below HB.out B2.out.lt)
          clear HK HB2 cA0 cB0 HB
          have HB2 := HBR
          clear HBR
          generalize hwr : wr = w2 at *
          clear hwr
          have bA0 := B2.out.lt
          go_wp2_with fail
          trace "loop B"
          go_loopw [6, 8] (fun v i wr => ∃ j : Nat, j ≤ k ∧ i = .int .i64 j ∧ v = .int .i64 (prS N ps j) ∧ Hid (Below w2.heap.size w2 wr)) (fun _ i _ => k - (intOf i).toNat)
          case atStart => exact ⟨0, Nat.zero_le _, rfl, rfl, Lib.hid (Below.refl _ _)⟩
          case round =>
            obtain ⟨j, hj, rfl, rfl, HB⟩ := hrel
            have bs := prS_bd2 HCH.out j (by rw [← HN.out]; exact hj) (fun x hx => HPO.out x (by rw [← HP.out]; omega))
            have HBR := Lib.hid (HB2.out.trans (HB.out.mono HB2.out.size))
            have cA0 := (HB.out.cell (p := ⟨w.heap.size, 0, none⟩) B2.out.lt).trans (B2.out.cell 0 rfl)
            have cB0 := (HB.out.cell (p := ⟨w.heap.size, 1, none⟩) B2.out.lt).trans (B2.out.cell 1 rfl)
            have bA1 : w.heap.size < wr.heap.size := Nat.lt_of_lt_of_le bA0 HB.out.size
            by_cases hlt : j < k
            · have sc := SC.out _ HBR.out j hlt
              have scb : (aS.add j).block < wr.heap.size := by rw [block_add]; have := HBR.out.size; omega
              obtain ⟨pc, pcb⟩ := PC.out _ HBR.out j hlt
              have hsu := net_sup HCH.out j (by rw [← HN.out]; exact hlt)
              have hpo := potOk_iff.1 (HPO.out j (by rw [← HP.out]; exact hlt))
              have HS1 := Lib.hid (show prS N ps (j + 1) = prS N ps j - ps.getD j 0 * N.sup.getD j 0 from rfl)
              generalize N.sup.getD j 0 = s at *
              generalize ps.getD j 0 = x at *
              generalize prS N ps j = S at *
              have p1 : x * s ≤ 288230376151711744 ∧ -288230376151711744 ≤ x * s := by
                have := mul_abs (p := x) (s := s) (P := 1073741824) (by omega)
                have : abs s ≤ 268435456 := by unfold abs; omega
                omega
              have k0 : (0 : Int) ≤ (j : Int) := by omega
              have kx : (j : Int) < (k : Int) := by omega
              go_wp2_with fail
              refine wp_region_past (by kernel_rfl) (by kernel_rfl) ?_
              repeat (go_big_quiet_step (fail))
              refine wpQuiet_nil ?_
              intro xx
              have HXX := Lib.hid xx.far
              generalize xx.w = w4 at HXX ⊢
              go_wp2
              go_roundw
              case rel => exact ⟨j + 1, by omega, by go_num, by rw [HS1.out], Lib.hid (HB.out.trans (HXX.out.mono HB.out.size))⟩
              case measure => simp [intOf]; omega
            · obtain rfl : j = k := by omega
              have E0 := Lib.hid (show prS N ps j = prA N ps 0 from by rw [HN.out]; rfl)
              rw [E0.out]
              rw [E0.out] at bs
              have B3 := Lib.hid (B2.out.below HB.out B2.out.lt)
              clear HB2 cA0 cB0 HB B2 bA0
              have B2 := B3
              have HB2 := HBR
              clear HBR B3
              generalize hwr : wr = w3 at *
              clear hwr
              go_wp2_with fail
              trace "loop 2"
              go_loopw [6, 9] (fun v i wr => ∃ q : Nat, q ≤ m ∧ i = .int .i64 q ∧ v = .int .i64 (prA N ps q) ∧ Hid (Below w3.heap.size w3 wr)) (fun _ i _ => m - (intOf i).toNat)
              case atStart => exact ⟨0, Nat.zero_le _, rfl, rfl, Lib.hid (Below.refl _ _)⟩
              case round =>
                obtain ⟨j, hj, rfl, rfl, HB⟩ := hrel
                have ba := prA_bd HCH.out HLEN.out HPO.out j (by rw [← HM.out]; exact hj)
                have HBR := Lib.hid (HB2.out.trans (HB.out.mono HB2.out.size))
                have cA0 := (HB.out.cell (p := ⟨w.heap.size, 0, none⟩) B2.out.lt).trans (B2.out.cell 0 rfl)
                have cB0 := (HB.out.cell (p := ⟨w.heap.size, 1, none⟩) B2.out.lt).trans (B2.out.cell 1 rfl)
                by_cases hlt2 : j < m
                · obtain ⟨ad, rfl, hbl, d0, d1, d2, d3⟩ := (HNA.out.2.below HBR.out (Nat.le_refl _)) j (by rw [← HM.out]; exact hlt2)
                  obtain ⟨a1, a2, a3, a4, a5⟩ := net_arc HCH.out j (by rw [← HM.out]; exact hlt2)
                  rw [← HN.out] at a1 a2
                  have HA1 := Lib.hid (show prA N ps (j + 1) = prA N ps j + prW (N.arcs.getD j default) ps from rfl)
                  generalize N.arcs.getD j default = ar at *
                  obtain ⟨fr, «to», ca, co⟩ := ar
                  simp only at d0 d1 d2 d3 a1 a2 a3 a4 a5
                  obtain ⟨a, rfl⟩ : ∃ a : Nat, fr = a := ⟨fr.toNat, by omega⟩
                  obtain ⟨b, rfl⟩ : ∃ b : Nat, «to» = b := ⟨«to».toNat, by omega⟩
                  have pa := potOk_iff.1 (HPO.out a (by rw [← HP.out]; omega))
                  have pb := potOk_iff.1 (HPO.out b (by rw [← HP.out]; omega))
                  have HW := Lib.hid (show prW ⟨a, b, ca, co⟩ ps = ca * min 0 (co + ps.getD a 0 - ps.getD b 0) from rfl)
                  have PA := Lib.hid (fun W h => PC.out W h a (by omega))
                  have PB := Lib.hid (fun W h => PC.out W h b (by omega))
                  generalize ps.getD a 0 = x at *
                  generalize ps.getD b 0 = y at *
                  generalize prA N ps j = S at *
                  have hx1 := fun ts t W => minTwo 0 (co + x - y) ts t W
                  generalize hz : min 0 (co + x - y) = z at *
                  have hzb : -2148532224 ≤ z ∧ z ≤ 0 := by omega
                  clear hz
                  have p1 : ca * z ≤ 0 ∧ -2252899325313024 ≤ ca * z := by
                    have q1 := Int.mul_le_mul_of_nonneg_left hzb.1 a4.1
                    have q2 := Int.mul_le_mul_of_nonneg_left hzb.2 a4.1
                    omega
                  go_upto_region 19 with fail
                  have HBX := Lib.hid (HBR.out.alloc HBR.out.size (.cells #[.int .i64 a, .int .i64 b, .int .i64 ca, .int .i64 co] 46))
                  have HBJ := Lib.hid (HB.out.alloc HB.out.size (.cells #[.int .i64 a, .int .i64 b, .int .i64 ca, .int .i64 co] 46))
                  have BX := Lib.hid (Blk.new' wr #[.int .i64 a, .int .i64 b, .int .i64 ca, .int .i64 co] 46)
                  generalize wr.alloc (.cells #[.int .i64 a, .int .i64 b, .int .i64 ca, .int .i64 co] 46) = wx at HBX HBJ BX ⊢
                  generalize wr.heap.size = ga at *
                  have e0 := BX.out.cell 0 rfl
                  have e1 := BX.out.cell 1 rfl
                  have e2 := BX.out.cell 2 rfl
                  have e3 := BX.out.cell 3 rfl
                  have zga := BX.out.lt
                  obtain ⟨fa, fab⟩ := PA.out _ HBX.out
                  obtain ⟨fb, fbb⟩ := PB.out _ HBX.out
                  clear d0 d1 d2 d3
                  refine wp_region_past (by kernel_rfl) (by kernel_rfl) ?_
                  repeat (go_big_quiet_step (fail))
                  refine wpQuiet_nil ?_
                  intro xx
                  have HXX := Lib.hid xx.far
                  generalize xx.w = w4 at HXX ⊢
                  go_wp2
                  go_roundw
                  case rel => exact ⟨j + 1, by omega, by go_num, by rw [HA1.out, HW.out], Lib.hid (HBJ.out.trans (HXX.out.mono HBJ.out.size))⟩
                  case measure => simp [intOf]; omega
                · obtain rfl : j = m := by omega
                  go_wp2
                  go_ret2
                  exact ⟨ret2 (by rw [E.out.2, HM.out]) E.out.1.symm, HBR.out⟩
    · have E := Lib.hid (pr_len (ps := ps) hch (by rw [← HP.out, ← HN.out]; exact hpn))
      have hmm : ¬ (p : Int) = (n : Int) := by omega
      have hmm' : ((p : Int) == (n : Int)) = false := by simpa using hmm
      go_wp2
      go_ret2
      exact ⟨ret2 E.out.2.symm E.out.1.symm, HB2.out⟩
  · have E := Lib.hid (pr_ch (ps := ps) hch)
    have hne : (chE N == 0) = false := by simpa using hch
    have CC := Lib.hid (CheckR_c A B N n m cA cB w2 HN.out HM.out hA hB (HNA.out.below HB2.out (Nat.le_refl _)))
    generalize chE N = q at *
    go_wp2_with fail
    refine CC.out.mono ?_
    rintro e w3 ⟨rfl, hb3⟩
    go_wp2
    go_ret2
    exact ⟨ret2 E.out.2.symm E.out.1.symm, HB2.out.trans (hb3.mono HB2.out.size)⟩
end Go.Proofs.Ytmebpglkeedaoaa
namespace Go.Proofs.Ytmebpglkeedaoaa
open Go.RowKit Dp
def NtV (N : Net) (k l : Nat) (w : World) : Ending → World → Prop := fun e w' => ∃ (gs : Nat) (A : Option Addr) (c : Nat), e = .returned (.agg #[.slice (some ⟨gs, 0, none⟩) k k, .slice A l c]) ∧ NetAt w' (some ⟨gs, 0, none⟩) A N ∧ (l ≤ c ∧ c ≤ 9223372036854775807) ∧ Below w.heap.size w w'
theorem R77.v {S : Site} {cs : List Car} {w w' : World} {e : Ending} {N : Net} {k l : Nat} (hN : N = netN S cs) (hk : k = N.sup.length) (hl : l = N.arcs.length) (h : R77 S cs w e w') : NtV N k l w e w' := by
  subst hk hl hN
  obtain ⟨gs, A, c, rfl, h1, h2, _, h3⟩ := h
  obtain ⟨ha, hc⟩ := own_arcs h2 rfl
  unfold NtV netN
  simp only [supN_len]
  exact ⟨gs, A, c, rfl, ⟨h1.ints, ha⟩, hc, h3⟩
set_option maxHeartbeats 8000000 in
set_option maxRecDepth 100000 in
theorem CheckBestR_c (A B C D E P Q Y : Option Addr) (S : Site) (cs : List Car) (T : Tab) (ps : List Int) (n nB nC nD m p q y cA cB cC cD cE cP cQ cY : Nat) (w : World) (hn : n = S.lim.length) (hnB : nB = S.exp.length) (hnC : nC = S.buy.length) (hnD : nD = S.sell.length) (hm : m = cs.length) (hp : p = T.inn.length) (hq : q = T.out.length) (hy : y = ps.length)
    (hA : n ≤ cA ∧ cA ≤ 9223372036854775807) (hB : nB ≤ cB ∧ cB ≤ 9223372036854775807) (hC : nC ≤ cC ∧ cC ≤ 9223372036854775807) (hD : nD ≤ cD ∧ cD ≤ 9223372036854775807) (hE : m ≤ cE ∧ cE ≤ 9223372036854775807) (hP : p ≤ cP ∧ cP ≤ 9223372036854775807) (hQ : q ≤ cQ ∧ cQ ≤ 9223372036854775807) (hY : y ≤ cY ∧ cY ≤ 9223372036854775807)
    (hS : SiteAt w A B C D S) (hcs : CarsAt w E cs) (hT : TabAt w P Q T) (hI : IntsAt w Y ps) :
    Calls Try.prog 46 #[.agg #[.slice A n cA, .slice B nB cB, .slice C nC cC, .slice D nD cD], .slice E m cE, .agg #[.slice P p cP, .slice Q q cQ], .slice Y y cY] w fun e w' => e = .returned (.int .i64 (cbE S cs T ps)) ∧ Below w.heap.size w w' := by
  obtain ⟨z, hz⟩ : ∃ z, z = cbE S cs T ps := ⟨_, rfl⟩
  obtain ⟨N, hN⟩ : ∃ N, N = netN S cs := ⟨_, rfl⟩
  obtain ⟨k, hk⟩ : ∃ k, k = N.sup.length := ⟨_, rfl⟩
  obtain ⟨l, hl⟩ : ∃ l, l = N.arcs.length := ⟨_, rfl⟩
  obtain ⟨x, hx⟩ : ∃ x, x = prcV S cs T := ⟨_, rfl⟩
  obtain ⟨u, hu⟩ : ∃ u, u = plE S cs T := ⟨_, rfl⟩
  obtain ⟨pe, hpe⟩ : ∃ pe, pe = prE N ps := ⟨_, rfl⟩
  obtain ⟨pv, hpv⟩ : ∃ pv, pv = prV N ps := ⟨_, rfl⟩
  have HKB : u = 0 → k ≤ 833 ∧ stE S cs = 0 ∧ nB = n ∧ nC = n ∧ nD = n := fun h => by
    have h0 := (plE_0 (hu.symm.trans h)).ok
    have h1 := nodes_bd h0
    have h2 := siteHead_iff.1 (stE_0 h0).2.1
    refine ⟨?_, h0, ?_⟩
    · rw [hk, hN]; show (supN S cs).length ≤ 833; rw [supN_len]; exact h1.1
    · omega
  have HZ : Hid (z = if u = 0 then (if pe = 0 then (if x = pv then 0 else 19) else pe) else u) := Lib.hid (by rw [hz, hu, hpe, hpv, hx, hN]; rfl)
  have F41 : Hid (∀ V, Below w.heap.size w V → Calls Try.prog 41 #[.agg #[.slice A n cA, .slice B nB cB, .slice C nC cC, .slice D nD cD], .slice E m cE, .agg #[.slice P p cP, .slice Q q cQ]] V (fun e w' => e = .returned (.int .i64 u) ∧ Below V.heap.size V w')) := Lib.hid (fun V hV => by rw [hu]; exact CheckPlanR_c A B C D E P Q S cs T n nB nC nD m p q cA cB cC cD cE cP cQ V hn hnB hnC hnD hm hp hq hA hB hC hD hE hP hQ (hS.below hV (Nat.le_refl _)) (hcs.below hV (Nat.le_refl _)) (hT.below hV (Nat.le_refl _)))
  have F82 : Hid (u = 0 → ∀ V, Below w.heap.size w V → Calls Try.prog 82 #[.agg #[.slice A n cA, .slice B nB cB, .slice C nC cC, .slice D nD cD], .agg #[.slice P p cP, .slice Q q cQ]] V (fun e w' => e = .returned (.int .i64 x) ∧ Below V.heap.size V w')) := Lib.hid (fun h V hV => by
    have h0 : plE S cs T = 0 := hu.symm.trans h
    rw [hx, show prcV S cs T = prc S T cs.length S.lim.length from if_pos h0]
    have HK := plE_0 (hu.symm.trans h)
    have S0 := stE_0 HK.ok
    have SH := siteHead_iff.1 S0.2.1
    have e1 : p = m := by rw [hp, hm, HK.li]
    have e2 : q = m := by rw [hq, hm, HK.lo]
    subst e1
    subst e2
    have e3 : nC = nD := by omega
    have e4 : n = nD := by omega
    subst e3
    subst e4
    rw [← hm, ← hn]
    exact priceR_c A B C D P Q S T n nB n n q q cA cB cC cD cP cQ V hn (by omega) (by omega) hp hq (Nat.le_refl _) (by omega) (by omega) rfl rfl hP hQ (hS.below hV (Nat.le_refl _)) (hT.below hV (Nat.le_refl _)) (fun k hk => ⟨S0.2.2.1 k (by omega), by have := HK.slot (k := k) (by omega); rwa [← hm] at this⟩))
  have F77 : Hid (u = 0 → ∀ V, Below w.heap.size w V → Calls Try.prog 77 #[.agg #[.slice A n cA, .slice B nB cB, .slice C nC cC, .slice D nD cD], .slice E m cE] V (NtV N k l V)) := Lib.hid (fun h V hV => by
    obtain ⟨_, h0, rfl, rfl, rfl⟩ := HKB h
    exact (net_c A B C D E S cs _ m cA cB cC cD cE V h0 hn hm hA hB hC hD hE (hS.below hV (Nat.le_refl _)) (hcs.below hV (Nat.le_refl _))).mono (fun _ _ h => R77.v hN hk hl h))
  have F17 : Hid (∀ (G M : Option Addr) (c d : Nat) (V : World), Below w.heap.size w V → NetAt V G M N → (k ≤ c ∧ c ≤ 9223372036854775807) → (l ≤ d ∧ d ≤ 9223372036854775807) → Calls Try.prog 17 #[.agg #[.slice G k c, .slice M l d], .slice Y y cY] V (fun e w' => e = .returned (.tuple #[.int .i64 pv, .int .i64 pe]) ∧ Below V.heap.size V w')) := Lib.hid (fun G M c d V hV hN hc hd => by rw [hpe, hpv]; exact ProvesR_c G M Y N ps k l y c d cY V hk hl hy hc hd hY hN (hI.below hV (Nat.le_refl _)))
  have HKK := Lib.hid (fun h => (HKB h).1)
  rw [← hz]
  clear HKB hz hn hnB hnC hnD hm hp hq hS hcs hT hI hN hx hu hpe hpv hk hl hy
  have HB := Lib.hid (((Below.refl w.heap.size w).alloc (Nat.le_refl _) (.cells #[.slice A n cA, .slice B nB cB, .slice C nC cC, .slice D nD cD] 51)).alloc (by simp) (.cells #[.slice P p cP, .slice Q q cQ] 55))
  have XS := Lib.hid ((Blk.new' w #[.slice A n cA, .slice B nB cB, .slice C nC cC, .slice D nD cD] 51).alloc (.cells #[.slice P p cP, .slice Q q cQ] 55))
  have XT := Lib.hid (show Blk ((w.alloc (.cells #[.slice A n cA, .slice B nB cB, .slice C nC cC, .slice D nD cD] 51)).alloc (.cells #[.slice P p cP, .slice Q q cQ] 55)) (w.heap.size + 1) 55 [.slice P p cP, .slice Q q cQ] from by simpa using Blk.new' (w.alloc (.cells #[.slice A n cA, .slice B nB cB, .slice C nC cC, .slice D nD cD] 51)) #[.slice P p cP, .slice Q q cQ] 55)
  go_enter Try.func46, Try.ntmps46
  go_upto_region 1 with fail
  generalize (w.alloc (.cells #[.slice A n cA, .slice B nB cB, .slice C nC cC, .slice D nD cD] 51)).alloc (.cells #[.slice P p cP, .slice Q q cQ] 55) = w1 at HB XS XT ⊢
  have s0 := XS.out.cell 0 rfl
  have s1 := XS.out.cell 1 rfl
  have s2 := XS.out.cell 2 rfl
  have s3 := XS.out.cell 3 rfl
  have sl := XS.out.lt
  have t0 := XT.out.cell 0 rfl
  have t1 := XT.out.cell 1 rfl
  have tl := XT.out.lt
  go_wp2_with fail
  refine (F41.out w1 HB.out).mono ?_
  rintro e w2 ⟨rfl, hb⟩
  clear s0 s1 s2 s3 sl t0 t1 tl
  have XS := Lib.hid (XS.out.below hb XS.out.lt)
  have XT := Lib.hid (XT.out.below hb XT.out.lt)
  have HB := Lib.hid (HB.out.trans (hb.mono HB.out.size))
  clear hb
  have s0 := XS.out.cell 0 rfl
  have s1 := XS.out.cell 1 rfl
  have s2 := XS.out.cell 2 rfl
  have s3 := XS.out.cell 3 rfl
  have sl := XS.out.lt
  have t0 := XT.out.cell 0 rfl
  have t1 := XT.out.cell 1 rfl
  have tl := XT.out.lt
  by_cases h0 : u = 0
  rotate_left
  · have hb0 : (u == 0) = false := by simpa using h0
    have EE : z = u := by rw [HZ.out, if_neg h0]
    clear h0
    go_wp2_with fail
    refine (F41.out w2 HB.out).mono ?_
    rintro e w3 ⟨rfl, hb⟩
    have HE := Lib.hid (HB.out.trans (hb.mono HB.out.size))
    clear s0 s1 s2 s3 sl t0 t1 tl hb
    go_wp2_with fail
    go_ret
    exact ⟨ret_int EE.symm, HE.out⟩
  have F77b := Lib.hid (F77.out h0)
  have F82b := Lib.hid (F82.out h0)
  have HKB := Lib.hid (HKK.out h0)
  have HZ1 := Lib.hid (HZ.out.trans (if_pos h0))
  clear HZ F77 F82 HKK
  subst h0
  go_wp2_with fail
  refine (F77b.out w2 HB.out).mono ?_
  rintro e w3 ⟨gs, M, c, rfl, hNA, hc, hb⟩
  clear s0 s1 s2 s3 sl t0 t1 tl
  have XS := Lib.hid (XS.out.below hb XS.out.lt)
  have XT := Lib.hid (XT.out.below hb XT.out.lt)
  have HB := Lib.hid (HB.out.trans (hb.mono HB.out.size))
  clear hb
  have HC := Lib.hid hc
  have HNA := Lib.hid hNA
  clear hNA hc
  go_wp2_with fail
  refine (F17.out _ _ _ _ w3 HB.out HNA.out ⟨Nat.le_refl _, by have := HKB.out; omega⟩ HC.out).mono ?_
  rintro e w4 ⟨rfl, hb⟩
  have XS := Lib.hid (XS.out.below hb XS.out.lt)
  have XT := Lib.hid (XT.out.below hb XT.out.lt)
  have HB := Lib.hid (HB.out.trans (hb.mono HB.out.size))
  clear hb
  clear HNA
  have s0 := XS.out.cell 0 rfl
  have s1 := XS.out.cell 1 rfl
  have s2 := XS.out.cell 2 rfl
  have s3 := XS.out.cell 3 rfl
  have sl := XS.out.lt
  have t0 := XT.out.cell 0 rfl
  have t1 := XT.out.cell 1 rfl
  have tl := XT.out.lt
  by_cases h1 : pe = 0
  rotate_left
  · have hb1 : (pe == 0) = false := by simpa using h1
    have EE : z = pe := by rw [HZ1.out, if_neg h1]
    clear h1
    go_wp2_with fail
    go_ret
    exact ⟨ret_int EE.symm, HB.out⟩
  have HZ2 := Lib.hid (HZ1.out.trans (if_pos h1))
  clear HZ1
  subst h1
  go_wp2_with fail
  refine (F82b.out w4 HB.out).mono ?_
  rintro e w5 ⟨rfl, hb⟩
  clear s0 s1 s2 s3 sl t0 t1 tl
  have XS := Lib.hid (XS.out.below hb XS.out.lt)
  have XT := Lib.hid (XT.out.below hb XT.out.lt)
  have HB := Lib.hid (HB.out.trans (hb.mono HB.out.size))
  clear hb
  by_cases h2 : x = pv
  · have EE : z = 0 := by rw [HZ2.out, if_pos h2]
    subst h2
    go_wp2_with fail
    go_ret
    exact ⟨ret_int EE.symm, HB.out⟩
  have hb2 : (pv == x) = false := by simpa using fun h => h2 h.symm
  have EE : z = 19 := by rw [HZ2.out, if_neg h2]
  clear h2
  go_wp2_with fail
  go_ret
  exact ⟨ret_int EE.symm, HB.out⟩
end Go.Proofs.Ytmebpglkeedaoaa
namespace Go.Proofs.Ytmebpglkeedaoaa
open Go.RowKit Dp
def cpL (S : Site) (most : Int) (k : Nat) : List Int := (List.range k).map fun i => min (S.lim.getD i 0) most
theorem cpL_succ (S : Site) (most : Int) (k : Nat) : cpL S most (k + 1) = cpL S most k ++ [min (S.lim.getD k 0) most] := by simp [cpL, List.range_succ]
theorem cpL_len (S : Site) (most : Int) (k : Nat) : (cpL S most k).length = k := by simp [cpL]
def cpS (S : Site) (most : Int) : Site := { S with lim := cpL S most S.lim.length }
set_option maxHeartbeats 8000000 in
set_option maxRecDepth 100000 in
theorem Capped_c (A B C D : Option Addr) (S : Site) (most : Int) (n nB nC nD cA cB cC cD : Nat) (w : World) (hn : n = S.lim.length) (h60 : n ≤ 1024)
    (hA : n ≤ cA ∧ cA ≤ 9223372036854775807) (hS : IntsAt w A S.lim) :
    Calls Try.prog 53 #[.agg #[.slice A n cA, .slice B nB cB, .slice C nC cC, .slice D nD cD], .int .i64 most] w fun e w' => ∃ (G : Option Addr) (c : Nat), e = .returned (.agg #[.slice G n c, .slice B nB cB, .slice C nC cC, .slice D nD cD]) ∧ (n ≤ c ∧ c ≤ 9223372036854775807) ∧ w'.ownsRow w.heap.size 2 1 (.slice G n c) n ((cpL S most n).map (.int .i64)) ∧ Below w.heap.size w w' := by
  have HN := Lib.hid hn
  have HS := Lib.hid hS
  clear hn hS
  obtain ⟨i2, h2i, h2z, h2s, h2b⟩ := info_parts info2
  have HB := Lib.hid (((Below.refl w.heap.size w).alloc (Nat.le_refl _) (.cells #[.slice A n cA, .slice B nB cB, .slice C nC cC, .slice D nD cD] 51)).alloc (by simp) (.cells #[.slice none 0 0, .slice none 0 0, .slice none 0 0, .slice none 0 0] 51))
  have XS := Lib.hid ((Blk.new' w #[.slice A n cA, .slice B nB cB, .slice C nC cC, .slice D nD cD] 51).alloc (.cells #[.slice none 0 0, .slice none 0 0, .slice none 0 0, .slice none 0 0] 51))
  have XR := Lib.hid (show Blk ((w.alloc (.cells #[.slice A n cA, .slice B nB cB, .slice C nC cC, .slice D nD cD] 51)).alloc (.cells #[.slice none 0 0, .slice none 0 0, .slice none 0 0, .slice none 0 0] 51)) (w.heap.size + 1) 51 [.slice none 0 0, .slice none 0 0, .slice none 0 0, .slice none 0 0] from by simpa using Blk.new' (w.alloc (.cells #[.slice A n cA, .slice B nB cB, .slice C nC cC, .slice D nD cD] 51)) #[.slice none 0 0, .slice none 0 0, .slice none 0 0, .slice none 0 0] 51)
  go_enter Try.func53, Try.ntmps53
  go_upto_region 1 with fail
  generalize (w.alloc (.cells #[.slice A n cA, .slice B nB cB, .slice C nC cC, .slice D nD cD] 51)).alloc (.cells #[.slice none 0 0, .slice none 0 0, .slice none 0 0, .slice none 0 0] 51) = w1 at HB XS XR ⊢
  have HO := Lib.hid (show w1.ownsRow w1.heap.size 2 1 (.slice none 0 0) 0 ((cpL S most 0).map (.int .i64)) from World.ownsRow_nil _ _ _ _)
  go_upto_region 2 with fail
  go_wp2_with fail
  go_loopw [5, 6] (fun sv iv wr => ∃ (k : Nat) (G : Option Addr) (c : Nat), k ≤ n ∧ iv = .int .i64 k ∧ sv = .slice G k c ∧ Hid (Below w1.heap.size w1 wr ∧ wr.ownsRow w1.heap.size 2 1 (.slice G k c) k ((cpL S most k).map (.int .i64)))) (fun _ iv _ => n - (intOf iv).toNat)
  case atStart => exact ⟨0, none, 0, Nat.zero_le _, rfl, rfl, Lib.hid ⟨Below.refl _ _, HO.out⟩⟩
  case round =>
    clear HO
    obtain ⟨k, G, c, hk, rfl, rfl, HW⟩ := hrel
    have HB2 := Lib.hid (HB.out.trans (HW.out.1.mono HB.out.size))
    have XS2 := Lib.hid (XS.out.below HW.out.1 XS.out.lt)
    have XR2 := Lib.hid (XR.out.below HW.out.1 XR.out.lt)
    have s0 := XS2.out.cell 0 rfl
    have sl := XS2.out.lt
    by_cases hlt : k < n
    · have hki : (k : Int) < (n : Int) := by omega
      obtain ⟨pa, hpa, pal, px⟩ := (HS.out.below HB2.out (Nat.le_refl _)) k (by rw [← HN.out]; exact hlt)
      rw [hpa] at s0
      have HX := Lib.hid (cpL_succ S most k)
      generalize S.lim.getD k 0 = x at *
      obtain ⟨mv, hmv⟩ : ∃ mv, mv = min x most := ⟨_, rfl⟩
      have gm : (if most < x then most else x) = mv := by rw [gmin_eq, hmv]
      rw [← hmv] at HX
      clear hmv
      have ab2 : (pa.add k).block < wr.heap.size := by rw [block_add]; exact pal
      have hz1 := HW.out.1.size
      have hb := (Below.refl wr.heap.size wr).alloc (Nat.le_refl _) (.cells #[.int .i64 mv] 2)
      have HO := Lib.hid (ownBelow HW.out.2 hb)
      have HBA := Lib.hid (HW.out.1.trans (hb.mono HW.out.1.size))
      have X := Lib.hid (Blk.new' wr #[.int .i64 mv] 2)
      clear hb
      go_wp2_with (at_builtin; refine wpList_append_any (.tmp 14) (.tmp 22) 22 rfl rfl w1.heap.size 2 i2 (.int .i64 0) 1 8 Try.underlying22 h2i h2z h2s h2b rfl (by decide) G k c ((cpL S most k).map (.int .i64)) (by rfl) HO.out (some ⟨wr.heap.size, 0, none⟩) 1 1 [.int .i64 mv] (by rfl) (by rfl) (.inr ⟨_, rfl, fun j u hj => by rcases j with _ | j <;> simp at hj; subst hj; exact X.out.cell 0 rfl⟩) (by simp [Value.oneCell']) (by unfold maxLen; omega) (by omega) (HBA.out.size) ?_; intro A3 c3 w4 hown hgrow hat; have HE : Hid (Below w1.heap.size w1 w4 ∧ w4.ownsRow w1.heap.size 2 1 (.slice A3 (k + 1) c3) (k + 1) ((cpL S most (k + 1)).map (.int .i64))) := Lib.hid ⟨HBA.out.grown hgrow HBA.out.size (fun j e => (World.ownsRow.lt HO.out j e).1), by rw [HX.out, List.map_append]; exact hown⟩; clear hown hgrow hat)
      exact ⟨⟨k + 1, by omega, by go_num, A3, c3, ⟨rfl, rfl, rfl⟩, HE⟩, by simp [intOf]; omega⟩
    · obtain rfl : n = k := by omega
      have s1 := XS2.out.cell 1 rfl
      have s2 := XS2.out.cell 2 rfl
      have s3 := XS2.out.cell 3 rfl
      have sz := XS2.out.free 0
      have r0 := XR2.out.cell 0 rfl
      have r1 := XR2.out.cell 1 rfl
      have r2 := XR2.out.cell 2 rfl
      have r3 := XR2.out.cell 3 rfl
      have rz := XR2.out.free 0
      have rz1 := XR2.out.free 1
      have rz2 := XR2.out.free 2
      have rz3 := XR2.out.free 3
      have rl := XR2.out.lt
      have hz1 := HB.out.size
      have O0 := HW.out.2
      have hc : n ≤ c ∧ c ≤ 9223372036854775807 := by
        rcases O0.2 with ⟨h0, h1⟩ | ⟨g', c', cur, hv, _, _, hc1, hc2, _⟩
        · cases h0
          exact ⟨by omega, by omega⟩
        · cases hv
          unfold maxLen at hc2
          omega
      have O1 := ownSet (p := ⟨w.heap.size, 0, none⟩) O0 (own_blk_no (g := w.heap.size) XS2.out O0 (by decide)) (.slice G n c)
      have R0 := XR2.out.setCell_ne (p := ⟨w.heap.size, 0, none⟩) (by simp) (.slice G n c)
      have O2 := ownSet (p := ⟨w.heap.size + 1, 0, none⟩) O1 (own_blk_no (g := w.heap.size + 1) R0 O1 (by decide)) (.slice G n c)
      have R1 := R0.setCell 0 (.slice G n c)
      have O3 := ownSet (p := ⟨w.heap.size + 1, 1, none⟩) O2 (own_blk_no (g := w.heap.size + 1) R1 O2 (by decide)) (.slice B nB cB)
      have R2 := R1.setCell 1 (.slice B nB cB)
      have O4 := ownSet (p := ⟨w.heap.size + 1, 2, none⟩) O3 (own_blk_no (g := w.heap.size + 1) R2 O3 (by decide)) (.slice C nC cC)
      have R3 := R2.setCell 2 (.slice C nC cC)
      have O5 := Lib.hid (ownV_mono (ownSet (p := ⟨w.heap.size + 1, 3, none⟩) O4 (own_blk_no (g := w.heap.size + 1) R3 O4 (by decide)) (.slice D nD cD)) hz1)
      have R4 := Lib.hid (R3.setCell 3 (.slice D nD cD))
      have B5 := Lib.hid (((((HB2.out.setCell (p := ⟨w.heap.size, 0, none⟩) (Nat.le_refl _) (.slice G n c)).setCell (p := ⟨w.heap.size + 1, 0, none⟩) (Nat.le_succ _) (.slice G n c)).setCell (p := ⟨w.heap.size + 1, 1, none⟩) (Nat.le_succ _) (.slice B nB cB)).setCell (p := ⟨w.heap.size + 1, 2, none⟩) (Nat.le_succ _) (.slice C nC cC)).setCell (p := ⟨w.heap.size + 1, 3, none⟩) (Nat.le_succ _) (.slice D nD cD))
      clear O0 O1 R0 O2 R1 O3 R2 O4 R3
      go_wp2_with fail
      have q0 := R4.out.cell 0 rfl
      have q1 := R4.out.cell 1 rfl
      have q2 := R4.out.cell 2 rfl
      have q3 := R4.out.cell 3 rfl
      exact bodyPost_ret (v := .agg #[.slice G n c, .slice B nB cB, .slice C nC cC, .slice D nD cD]) (by simp [results, Try.results53, go_sem, q0, q1, q2, q3]) rfl ⟨G, c, rfl, hc, O5.out, B5.out⟩
end Go.Proofs.Ytmebpglkeedaoaa
namespace Go.Proofs.Ytmebpglkeedaoaa
open Go.RowKit Dp
theorem cpS_len (S : Site) (most : Int) : (cpS S most).lim.length = S.lim.length := by simp [cpS, cpL_len]
theorem cpL_get {S : Site} {most : Int} {k i : Nat} (hi : i < k) : (cpL S most k).getD i 0 = min (S.lim.getD i 0) most := by
  simp [cpL, List.getD_eq_getElem?_getD, hi]
theorem cpS_ok {S : Site} {cs : List Car} {most : Int} (h : stE S cs = 0) (h0 : 0 ≤ most) : stE (cpS S most) cs = 0 := by
  obtain ⟨a, b, c, d⟩ := stE_0 h
  have hl := cpS_len S most
  refine stE_ok (by omega) (siteHead_iff.2 ?_) ?_ ?_
  · have := siteHead_iff.1 b
    rw [hl]
    exact this
  · intro t ht
    rw [hl] at ht
    have h1 := slotOk_iff.1 (c t ht)
    refine slotOk_iff.2 ?_
    show (0 ≤ (cpL S most S.lim.length).getD t 0 ∧ (cpL S most S.lim.length).getD t 0 ≤ 1048576) ∧ _
    rw [cpL_get ht]
    exact ⟨by omega, h1.2⟩
  · intro i hi
    rw [hl]
    exact d i hi
def pkG (T : Tab) (peak : Int) (k : Nat) : Bool := allB k (fun j => decide (drP T j T.inn.length ≤ peak))
theorem pkG_no {T : Tab} {peak : Int} {n k : Nat} (hk : k < n) (h : peak < drP T k T.inn.length) : pkG T peak n = false := allB_no k hk (by simpa using h)
theorem pkG_ok {T : Tab} {peak : Int} {n : Nat} (h : ∀ k, k < n → drP T k T.inn.length ≤ peak) : pkG T peak n = true := allB_iff.2 fun j hj => by simpa using h j hj
def pkE (S : Site) (cs : List Car) (peak : Int) (T : Tab) (c : List Int) : Int :=
  if plE S cs T = 0 then (if 0 ≤ peak ∧ peak ≤ 1048576 then (if pkG T peak S.lim.length = true then (if peak = 0 then (if c.length = 0 then 0 else 19)
    else (if lkE (netN (cpS S (peak - 1)) cs) c = 0 then (if lkV (netN (cpS S (peak - 1)) cs) c = 0 then 19 else 0) else lkE (netN (cpS S (peak - 1)) cs) c)) else 17) else 3) else plE S cs T
theorem SiteAt.capped {w : World} {A B C D G : Option Addr} {S : Site} {most : Int} {n c lo : Nat} (h : SiteAt w A B C D S) (hn : n = S.lim.length) (hO : w.ownsRow lo 2 1 (.slice G n c) n ((cpL S most n).map (.int .i64))) : SiteAt w G B C D (cpS S most) := by
  refine ⟨fun i hi => ?_, h.2.1, h.2.2.1, h.2.2.2⟩
  have hl : i < n := by have : (cpL S most S.lim.length).length = S.lim.length := cpL_len _ _ _; have h2 : i < (cpL S most S.lim.length).length := hi; omega
  obtain ⟨g, cap, hv, hb, hlt⟩ := hO.form (by omega)
  cases hv
  refine ⟨⟨g, 0, none⟩, rfl, hlt, ?_⟩
  rw [show (⟨g, 0, none⟩ : Addr).add i = ⟨g, i, none⟩ from (by unfold Addr.add; split <;> simp_all), World.ownsRow.cellAt hO i (by omega)]
  subst hn
  have h2 : i < (cpL S most S.lim.length).length := hi
  show ((cpL S most S.lim.length).map (Value.int .i64))[i]? = some (.int .i64 ((cpL S most S.lim.length).getD i 0))
  rw [List.getElem?_map, List.getElem?_eq_getElem h2, List.getD_eq_getElem?_getD, List.getElem?_eq_getElem h2]
  rfl
end Go.Proofs.Ytmebpglkeedaoaa
namespace Go.Proofs.Ytmebpglkeedaoaa
open Go.RowKit Dp
def cpK (S : Site) (most : Int) (k : Nat) : List Int := (List.range S.lim.length).map fun i => if i < k then min (S.lim.getD i 0) most else S.lim.getD i 0
theorem cpK_len (S : Site) (most : Int) (k : Nat) : (cpK S most k).length = S.lim.length := by simp [cpK]
theorem cpK_0 (S : Site) (most : Int) : cpK S most 0 = S.lim := by
  apply List.ext_getElem
  · simp [cpK]
  · intro i h1 h2
    simp [cpK, List.getD_eq_getElem?_getD, h2]
theorem cpK_get {S : Site} {most : Int} {k i : Nat} (hi : i < S.lim.length) : (cpK S most k).getD i 0 = if i < k then min (S.lim.getD i 0) most else S.lim.getD i 0 := by
  simp [cpK, List.getD_eq_getElem?_getD, hi]
theorem cpK_set {S : Site} {most : Int} {k : Nat} (hk : k < S.lim.length) : (cpK S most k).set k (min (S.lim.getD k 0) most) = cpK S most (k + 1) := by
  apply List.ext_getElem
  · simp [cpK]
  · intro i h1 h2
    rw [List.getElem_set]
    simp only [cpK, List.getElem_map, List.getElem_range]
    by_cases e : k = i
    · subst e; simp
    · rw [if_neg e]
      by_cases h : i < k
      · rw [if_pos h, if_pos (by omega)]
      · rw [if_neg h, if_neg (by omega)]
theorem cpK_all (S : Site) (most : Int) : cpK S most S.lim.length = cpL S most S.lim.length := by
  unfold cpK cpL
  exact List.map_congr_left fun x hx => by rw [if_pos (by simpa using hx)]
set_option maxHeartbeats 8000000 in
set_option maxRecDepth 100000 in
theorem capped_c (A B C D : Option Addr) (S : Site) (most : Int) (n nB nC nD cA cB cC cD : Nat) (w : World) (hn : n = S.lim.length) (h60 : n ≤ 1024) (h1 : 1 ≤ n)
    (hA : n ≤ cA ∧ cA ≤ 9223372036854775807) (hS : IntsAt w A S.lim) :
    Calls Try.prog 90 #[.agg #[.slice A n cA, .slice B nB cB, .slice C nC cC, .slice D nD cD], .int .i64 most] w fun e w' => ∃ (G : Option Addr) (c : Nat), e = .returned (.agg #[.slice G n c, .slice B nB cB, .slice C nC cC, .slice D nD cD]) ∧ (n ≤ c ∧ c ≤ 9223372036854775807) ∧ w'.ownsRow w.heap.size 2 1 (.slice G n c) n ((cpL S most n).map (.int .i64)) ∧ Below w.heap.size w w' := by
  have HN := Lib.hid hn
  have HS := Lib.hid hS
  clear hn hS
  obtain ⟨i2, h2i, h2z, h2s, h2b⟩ := info_parts info2
  have HB := Lib.hid (((Below.refl w.heap.size w).alloc (Nat.le_refl _) (.cells #[.slice A n cA, .slice B nB cB, .slice C nC cC, .slice D nD cD] 51)).alloc (by simp) (.cells #[.slice none 0 0, .slice none 0 0, .slice none 0 0, .slice none 0 0] 51))
  have XS := Lib.hid ((Blk.new' w #[.slice A n cA, .slice B nB cB, .slice C nC cC, .slice D nD cD] 51).alloc (.cells #[.slice none 0 0, .slice none 0 0, .slice none 0 0, .slice none 0 0] 51))
  have XR := Lib.hid (show Blk ((w.alloc (.cells #[.slice A n cA, .slice B nB cB, .slice C nC cC, .slice D nD cD] 51)).alloc (.cells #[.slice none 0 0, .slice none 0 0, .slice none 0 0, .slice none 0 0] 51)) (w.heap.size + 1) 51 [.slice none 0 0, .slice none 0 0, .slice none 0 0, .slice none 0 0] from by simpa using Blk.new' (w.alloc (.cells #[.slice A n cA, .slice B nB cB, .slice C nC cC, .slice D nD cD] 51)) #[.slice none 0 0, .slice none 0 0, .slice none 0 0, .slice none 0 0] 51)
  go_enter Try.func90, Try.ntmps90
  go_upto_region 1 with fail
  generalize (w.alloc (.cells #[.slice A n cA, .slice B nB cB, .slice C nC cC, .slice D nD cD] 51)).alloc (.cells #[.slice none 0 0, .slice none 0 0, .slice none 0 0, .slice none 0 0] 51) = w1 at HB XS XR ⊢
  have s0 := XS.out.cell 0 rfl
  have sz := XS.out.free 0
  have sl := XS.out.lt
  go_wp2_with fail
  refine (clone_c A S.lim n cA w1 HN.out h1 (by omega) (HS.out.below HB.out (Nat.le_refl _))).mono ?_
  rintro e w2 ⟨g, c, rfl, hb, hg1, hg2, hO⟩
  have HLT : Hid (w.heap.size + 1 < w1.heap.size) := Lib.hid XR.out.lt
  have HG : Hid (w1.heap.size ≤ g) := Lib.hid hg1
  have hc : n ≤ c ∧ c ≤ 9223372036854775807 := by
    have hO2 := hO
    unfold OwnI at hO2
    rcases hO2.2 with ⟨h0, _⟩ | ⟨g', c', cur, hv, _, _, hc1, hc2, _⟩
    · cases h0
    · cases hv
      unfold maxLen at hc2
      rw [HN.out]
      omega
  have HC := Lib.hid hc
  have X0 := XS.out.below hb XS.out.lt
  have HJ0 : Hid (Below w.heap.size w (w2.setCell ⟨w.heap.size, 0, none⟩ (.slice (some ⟨g, 0, none⟩) n c)) ∧ Blk (w2.setCell ⟨w.heap.size, 0, none⟩ (.slice (some ⟨g, 0, none⟩) n c)) w.heap.size 51 [.slice (some ⟨g, 0, none⟩) n c, .slice B nB cB, .slice C nC cC, .slice D nD cD] ∧ Blk (w2.setCell ⟨w.heap.size, 0, none⟩ (.slice (some ⟨g, 0, none⟩) n c)) (w.heap.size + 1) 51 [.slice none 0 0, .slice none 0 0, .slice none 0 0, .slice none 0 0] ∧ OwnI w1.heap.size (w2.setCell ⟨w.heap.size, 0, none⟩ (.slice (some ⟨g, 0, none⟩) n c)) g c (cpK S most 0)) := Lib.hid ⟨(HB.out.trans (hb.mono HB.out.size)).setCell (p := ⟨w.heap.size, 0, none⟩) (Nat.le_refl _) _, X0.setCell 0 _, (XR.out.below hb XR.out.lt).setCell_ne (p := ⟨w.heap.size, 0, none⟩) (by simp) _, by rw [cpK_0]; exact ownSet (p := ⟨w.heap.size, 0, none⟩) hO (own_blk_no (g := w.heap.size) X0 hO (by decide)) _⟩
  have HX0 := Lib.hid X0
  clear s0 sz sl hc hO hb hg1 hg2 X0 XR XS HB
  have s0 := HX0.out.cell 0 rfl
  have sz := HX0.out.free 0
  have sl := HX0.out.lt
  go_upto_region 2 with fail
  clear s0 sz sl HX0
  generalize w2.setCell ⟨w.heap.size, 0, none⟩ (.slice (some ⟨g, 0, none⟩) n c) = w3 at HJ0 ⊢
  have s0 := HJ0.out.2.1.cell 0 rfl
  have sl := HJ0.out.2.1.lt
  go_wp2_with fail
  clear s0 sl
  go_loopw [14] (fun iv wr => ∃ k : Nat, k ≤ n ∧ iv = .int .i64 k ∧ Hid (Below w.heap.size w wr ∧ Blk wr w.heap.size 51 [.slice (some ⟨g, 0, none⟩) n c, .slice B nB cB, .slice C nC cC, .slice D nD cD] ∧ Blk wr (w.heap.size + 1) 51 [.slice none 0 0, .slice none 0 0, .slice none 0 0, .slice none 0 0] ∧ OwnI w1.heap.size wr g c (cpK S most k))) (fun iv _ => n - (intOf iv).toNat)
  case atStart => exact ⟨0, Nat.zero_le _, rfl, HJ0⟩
  case round =>
    clear HJ0
    obtain ⟨k, hk, rfl, HJ⟩ := hrel
    have s0 := HJ.out.2.1.cell 0 rfl
    have sl := HJ.out.2.1.lt
    have hcc := HC.out
    by_cases hlt : k < n
    · have hki : (k : Int) < (n : Int) := by omega
      have kS : k < S.lim.length := by rw [← HN.out]; exact hlt
      have HX := Lib.hid (cpK_set (most := most) kS)
      have g0 := HJ.out.2.2.2.cell k (by rw [cpK_len]; exact kS)
      have gz := HJ.out.2.2.2.free k
      have gl := HJ.out.2.2.2.lt.2
      rw [cpK_get kS, if_neg (Nat.lt_irrefl k)] at g0
      generalize S.lim.getD k 0 = x at *
      obtain ⟨mv, hmv⟩ : ∃ mv, mv = min x most := ⟨_, rfl⟩
      have gm : (if most < x then most else x) = mv := by rw [gmin_eq, hmv]
      rw [← hmv] at HX
      clear hmv
      have hg1 := HG.out
      have hl1 := HLT.out
      have HE : Hid (Below w.heap.size w (wr.setCell ⟨g, k, none⟩ (.int .i64 mv)) ∧ Blk (wr.setCell ⟨g, k, none⟩ (.int .i64 mv)) w.heap.size 51 [.slice (some ⟨g, 0, none⟩) n c, .slice B nB cB, .slice C nC cC, .slice D nD cD] ∧ Blk (wr.setCell ⟨g, k, none⟩ (.int .i64 mv)) (w.heap.size + 1) 51 [.slice none 0 0, .slice none 0 0, .slice none 0 0, .slice none 0 0] ∧ OwnI w1.heap.size (wr.setCell ⟨g, k, none⟩ (.int .i64 mv)) g c (cpK S most (k + 1))) := Lib.hid ⟨HJ.out.1.setCell (p := ⟨g, k, none⟩) (by simp; omega) _, HJ.out.2.1.setCell_ne (p := ⟨g, k, none⟩) (by simp; omega) _, HJ.out.2.2.1.setCell_ne (p := ⟨g, k, none⟩) (by simp; omega) _, by rw [← HX.out]; exact HJ.out.2.2.2.put k mv⟩
      clear hg1 hl1
      go_wp2_with fail
      exact ⟨⟨k + 1, by omega, by go_num, HE⟩, by simp [intOf]; omega⟩
    · obtain rfl : n = k := by omega
      have s1 := HJ.out.2.1.cell 1 rfl
      have s2 := HJ.out.2.1.cell 2 rfl
      have s3 := HJ.out.2.1.cell 3 rfl
      have r0 := HJ.out.2.2.1.cell 0 rfl
      have r1 := HJ.out.2.2.1.cell 1 rfl
      have r2 := HJ.out.2.2.1.cell 2 rfl
      have r3 := HJ.out.2.2.1.cell 3 rfl
      have rz := HJ.out.2.2.1.free 0
      have rz1 := HJ.out.2.2.1.free 1
      have rz2 := HJ.out.2.2.1.free 2
      have rz3 := HJ.out.2.2.1.free 3
      have rl := HJ.out.2.2.1.lt
      have O1 := HJ.out.2.2.2
      have R0 := HJ.out.2.2.1
      have O2 := ownSet (p := ⟨w.heap.size + 1, 0, none⟩) O1 (own_blk_no (g := w.heap.size + 1) R0 O1 (by decide)) (.slice (some ⟨g, 0, none⟩) n c)
      have R1 := R0.setCell 0 (.slice (some ⟨g, 0, none⟩) n c)
      have O3 := ownSet (p := ⟨w.heap.size + 1, 1, none⟩) O2 (own_blk_no (g := w.heap.size + 1) R1 O2 (by decide)) (.slice B nB cB)
      have R2 := R1.setCell 1 (.slice B nB cB)
      have O4 := ownSet (p := ⟨w.heap.size + 1, 2, none⟩) O3 (own_blk_no (g := w.heap.size + 1) R2 O3 (by decide)) (.slice C nC cC)
      have R3 := R2.setCell 2 (.slice C nC cC)
      have O5 := ownV_mono (ownSet (p := ⟨w.heap.size + 1, 3, none⟩) O4 (own_blk_no (g := w.heap.size + 1) R3 O4 (by decide)) (.slice D nD cD)) (show w.heap.size ≤ w1.heap.size by have := HLT.out; omega)
      have R4 := Lib.hid (R3.setCell 3 (.slice D nD cD))
      have B5 := Lib.hid ((((HJ.out.1.setCell (p := ⟨w.heap.size + 1, 0, none⟩) (Nat.le_succ _) (.slice (some ⟨g, 0, none⟩) n c)).setCell (p := ⟨w.heap.size + 1, 1, none⟩) (Nat.le_succ _) (.slice B nB cB)).setCell (p := ⟨w.heap.size + 1, 2, none⟩) (Nat.le_succ _) (.slice C nC cC)).setCell (p := ⟨w.heap.size + 1, 3, none⟩) (Nat.le_succ _) (.slice D nD cD))
      rw [show cpK S most n = cpL S most n by rw [HN.out]; exact cpK_all S most, cpL_len] at O5
      have O6 := Lib.hid O5
      clear O1 R0 O2 R1 O3 R2 O4 R3 O5
      go_wp2_with fail
      have q0 := R4.out.cell 0 rfl
      have q1 := R4.out.cell 1 rfl
      have q2 := R4.out.cell 2 rfl
      have q3 := R4.out.cell 3 rfl
      exact bodyPost_ret (v := .agg #[.slice (some ⟨g, 0, none⟩) n c, .slice B nB cB, .slice C nC cC, .slice D nD cD]) (by simp [results, Try.results90, go_sem, q0, q1, q2, q3]) rfl ⟨some ⟨g, 0, none⟩, c, rfl, hcc, O6.out, B5.out⟩
end Go.Proofs.Ytmebpglkeedaoaa
namespace Go.Proofs.Ytmebpglkeedaoaa
open Go.RowKit Dp
theorem info4 : (Try.prog.info? 4).map (fun i => (i.zero, i.size, i.bytes)) = some (some (.bool false), 1, 1) := by kernel_rfl
theorem make_bools (n : Nat) (hn : n ≤ 4096) (W : World) : (Instr.makeSlice 93 (.int .i64 n) (.int .i64 n)).run Try.prog W = .ok (.slice (some ⟨W.heap.size, 0, none⟩) n n) (W.alloc (.cells (Array.replicate n (.bool false)) 4)) := by
  obtain ⟨i, hi, hz0, hz1, hz2⟩ := info_parts info4
  have hr := run_make (P := Try.prog) W 93 4 i _ Try.underlying93 hi hz0 .i64 .i64 n n (by omega) (by omega) (by rw [hz2]; omega) (by omega)
  simp only [Int.toNat_natCast, hz1, Nat.mul_one] at hr
  rw [hr]
  have e : madeCells (Value.bool false).cells n = Array.replicate n (.bool false) := by
    unfold madeCells
    apply Array.ext
    · simp
    · intro j h1 h2
      simp [Value.cells, Nat.mod_one]
  rw [e]
def marks (n : Nat) (c : List Int) (k : Nat) : List Value := (List.range n).map fun (i : Nat) => .bool (inK c k (i : Int))
theorem marks_zero (n : Nat) (c : List Int) : marks n c 0 = List.replicate n (.bool false) := by
  unfold marks
  apply List.ext_getElem
  · simp
  · intro i h1 h2
    simp [inK]
theorem marks_get {n : Nat} {c : List Int} {k i : Nat} (hi : i < n) : (marks n c k)[i]? = some (.bool (inK c k i)) := by
  unfold marks
  simp [hi]
theorem marks_succ {n : Nat} {c : List Int} {k : Nat} (hk : k < c.length) (h : cutAt n c k = true) : marks n c (k + 1) = (marks n c k).set (c.getD k 0).toNat (.bool true) := by
  have h1 := cutAt_iff.1 h
  apply List.ext_getElem
  · simp [marks]
  · intro i h2 h3
    rw [List.getElem_set]
    simp only [marks, List.getElem_map, List.getElem_range]
    rw [inK_succ hk]
    by_cases he : (c.getD k 0).toNat = i
    · rw [if_pos he]
      have : (i : Int) = c.getD k 0 := by omega
      rw [this]
      simp
    · rw [if_neg he]
      have : ¬ (i : Int) = c.getD k 0 := by omega
      rw [decide_eq_false this]
      simp
def LkJ (w : World) (A B : Option Addr) (n cA m cB g : Nat) (c : List Int) (k : Nat) (W : World) : Prop := Below w.heap.size w W ∧ Blk W w.heap.size 25 [.slice A n cA, .slice B m cB] ∧ Blk W g 4 (marks n c k)
theorem LkJ.below {w : World} {A B : Option Addr} {n cA m cB g : Nat} {c : List Int} {k : Nat} {W W' : World} (h : LkJ w A B n cA m cB g c k W) (hb : Below W.heap.size W W') : LkJ w A B n cA m cB g c k W' :=
  ⟨h.1.trans (hb.mono h.1.size), h.2.1.below hb h.2.1.lt, h.2.2.below hb h.2.2.lt⟩
theorem LkJ.mark {w : World} {A B : Option Addr} {n cA m cB g : Nat} {c : List Int} {k : Nat} {W : World} (h : LkJ w A B n cA m cB g c k W) (hg : w.heap.size < g) (hk : k < c.length) (hc : cutAt n c k = true) : LkJ w A B n cA m cB g c (k + 1) (W.setCell ⟨g, (c.getD k 0).toNat, none⟩ (.bool true)) :=
  ⟨h.1.setCell (by simp; omega) _, h.2.1.setCell_ne (by simp; omega) _, by rw [marks_succ hk hc]; exact h.2.2.setCell _ _⟩
end Go.Proofs.Ytmebpglkeedaoaa
namespace Go.Proofs.Ytmebpglkeedaoaa
open Go.RowKit Dp
def lastC (c : List Int) (k : Nat) : Int := if k = 0 then -1 else c.getD (k - 1) 0
theorem lastC_bd {n : Nat} {c : List Int} {k : Nat} (h : ∀ x, x < k → cutAt n c x = true) (hn : n ≤ 4096) : -1 ≤ lastC c k ∧ lastC c k ≤ 4096 := by
  unfold lastC
  split
  · omega
  · have := cutAt_iff.1 (h (k - 1) (by omega)); omega
theorem cutAt_last {n : Nat} {c : List Int} {k : Nat} (h : ∀ x, x < k → cutAt n c x = true) : cutAt n c k = decide (lastC c k < c.getD k 0 ∧ c.getD k 0 < n) := by
  unfold lastC
  cases hb : cutAt n c k
  · symm
    rw [decide_eq_false_iff_not]
    intro hh
    have : cutAt n c k = true := cutAt_iff.2 (by
      split at hh
      · rename_i h0; exact ⟨by omega, hh.2, fun h1 => by omega⟩
      · have := cutAt_iff.1 (h (k - 1) (by omega)); exact ⟨by omega, hh.2, fun _ => hh.1⟩)
    rw [hb] at this; cases this
  · symm
    rw [decide_eq_true_eq]
    have := cutAt_iff.1 hb
    split
    · omega
    · exact ⟨this.2.2 (by omega), this.2.1⟩
theorem lkA_bd {N : Net} {c : List Int} (h : chE N = 0) (hc : ∀ k, k < c.length → cutAt N.sup.length c k = true) : ∀ j : Nat, j ≤ N.arcs.length → -(274877906944 + 1048576 * j : Int) ≤ lkA N c j ∧ lkA N c j ≤ 274877906944
  | 0, _ => by
    have h1 := lkS_bd h c.length hc
    have h2 := cut_lt c.length hc
    have h3 := net_len h
    simp only [lkA]
    omega
  | j + 1, hj => by
    have ih := lkA_bd h hc j (by omega)
    obtain ⟨a1, a2, a3, a4, a5⟩ := net_arc h j (by omega)
    simp only [lkA]
    rw [Int.natCast_add]
    split <;> omega
set_option maxHeartbeats 2000000 in
set_option maxRecDepth 100000 in
theorem Lacks_c (A B C : Option Addr) (N : Net) (c : List Int) (n m p cA cB cC : Nat) (w : World) (hn : n = N.sup.length) (hm : m = N.arcs.length) (hp : p = c.length) (hA : n ≤ cA ∧ cA ≤ 9223372036854775807) (hB : m ≤ cB ∧ cB ≤ 9223372036854775807) (hC : p ≤ cC ∧ cC ≤ 9223372036854775807) (hN : NetAt w A B N) (hF : IntsAt w C c) :
    Calls Try.prog 18 #[.agg #[.slice A n cA, .slice B m cB], .slice C p cC] w fun e w' => e = .returned (.tuple #[.int .i64 (lkV N c), .int .i64 (lkE N c)]) ∧ Below w.heap.size w w' := by
  have HN := Lib.hid hn
  have HM := Lib.hid hm
  have HP := Lib.hid hp
  have HNA := Lib.hid hN
  have HFA := Lib.hid hF
  clear hn hm hp hN hF
  have B1 := Lib.hid (Blk.new' w #[.slice A n cA, .slice B m cB] 25)
  have HB1 := Lib.hid ((Below.refl w.heap.size w).alloc (Nat.le_refl _) (.cells #[.slice A n cA, .slice B m cB] 25))
  go_enter Try.func18, Try.ntmps18
  go_wp2_with fail
  generalize w.alloc (.cells #[.slice A n cA, .slice B m cB] 25) = w1 at B1 HB1 ⊢
  refine (Check_c A B N n m cA cB w1 HN.out HM.out hA hB (HNA.out.below HB1.out (Nat.le_refl _))).mono ?_
  rintro e w2 ⟨rfl, hb2⟩
  have B2 := Lib.hid (B1.out.below hb2 B1.out.lt)
  have HB2 := Lib.hid (HB1.out.trans (hb2.mono HB1.out.size))
  clear hb2 B1 HB1
  have cA0 := B2.out.cell 0 rfl
  have cB0 := B2.out.cell 1 rfl
  by_cases hch : chE N = 0
  · have hce := net_len hch
    rw [hch]
    have n1 : 1 ≤ n := by rw [HN.out]; exact hce.1
    have n2 : n ≤ 1024 := by rw [HN.out]; exact hce.2.1
    have m2 : m ≤ 2048 := by rw [HM.out]; exact hce.2.2
    have HCH := Lib.hid hch
    clear hch hce
    have hmk := make_bools n (by omega)
    have zg : w.heap.size < w2.heap.size := B2.out.lt
    have J3 : Hid (LkJ w A B n cA m cB w2.heap.size c 0 (w2.alloc (.cells (Array.replicate n (.bool false)) 4))) := Lib.hid ⟨HB2.out.alloc HB2.out.size _, B2.out.alloc _, by
      rw [marks_zero]
      have := Blk.new' w2 (Array.replicate n (.bool false)) 4
      simpa using this⟩
    go_wp2_with fail
    generalize w2.alloc (.cells (Array.replicate n (.bool false)) 4) = w3 at J3 ⊢
    generalize w2.heap.size = g at *
    clear hmk cA0 cB0
    have SC : Hid (∀ W, Below w.heap.size w W → ∀ k, k < n → ∃ aS, A = some aS ∧ W.cell? (aS.add k) = some (.int .i64 (N.sup.getD k 0))) := Lib.hid (fun W h k hk => by
      obtain ⟨a', e, hb, hc⟩ := HNA.out.1 k (by rw [← HN.out]; exact hk)
      exact ⟨a', e, (h.cell (by rw [block_add]; exact hb)).trans hc⟩)
    go_loopw [8, 9, 25] (fun v l i wr => ∃ k : Nat, k ≤ p ∧ i = .int .i64 k ∧ v = .int .i64 (lkS N c k) ∧ l = .int .i64 (lastC c k) ∧ Hid (LkJ w A B n cA m cB g c k wr) ∧ Hid (∀ x, x < k → cutAt n c x = true)) (fun _ _ i _ => p - (intOf i).toNat)
    case atStart => exact ⟨0, Nat.zero_le _, rfl, rfl, rfl, J3, Lib.hid (fun x hx => absurd hx (Nat.not_lt_zero _))⟩
    case round =>
      obtain ⟨k, hk, rfl, rfl, rfl, HJ, HK⟩ := hrel
      have bs := lkS_bd HCH.out k (by rw [← HN.out]; exact HK.out)
      have hkn := cut_lt k HK.out
      have lb := lastC_bd HK.out (by omega)
      have cA0 := HJ.out.2.1.cell 0 rfl
      have cB0 := HJ.out.2.1.cell 1 rfl
      by_cases hlt : k < p
      · obtain ⟨aC, rfl, hbc, hcc⟩ := (HFA.out.below HJ.out.1 (Nat.le_refl _)) k (by rw [← HP.out]; exact hlt)
        have CL := Lib.hid (cutAt_last HK.out)
        have ENO := Lib.hid (fun h => lk_no (c := c) HCH.out k (by rw [← HP.out]; exact hlt) (by rw [← HN.out]; exact h))
        have HS1 := Lib.hid (show lkS N c (k + 1) = lkS N c k + N.sup.getD (c.getD k 0).toNat 0 from rfl)
        have HL1 := Lib.hid (show lastC c (k + 1) = c.getD k 0 from by simp [lastC])
        have HMK := Lib.hid (fun W (h : LkJ w A B n cA m cB g c k W) hc => h.mark zg (by rw [← HP.out]; exact hlt) hc)
        generalize c.getD k 0 = x at *
        generalize lastC c k = L at *
        generalize lkS N c k = S at *
        by_cases h1 : x ≤ L
        · have E := Lib.hid (ENO.out (by rw [CL.out, decide_eq_false_iff_not]; omega))
          go_wp2
          go_ret2
          exact ⟨ret2 E.out.2.symm E.out.1.symm, HJ.out.1⟩
        by_cases h2 : (n : Int) ≤ x
        · have E := Lib.hid (ENO.out (by rw [CL.out, decide_eq_false_iff_not]; omega))
          go_wp2
          go_ret2
          exact ⟨ret2 E.out.2.symm E.out.1.symm, HJ.out.1⟩
        obtain ⟨a, rfl⟩ : ∃ a : Nat, x = a := ⟨x.toNat, by omega⟩
        have hct : cutAt n c k = true := by rw [CL.out, decide_eq_true_eq]; omega
        have HCT := Lib.hid hct
        clear hct
        have m0 := HJ.out.2.2.cell a (marks_get (by omega))
        have f0 := HJ.out.2.2.free a
        go_upto_region 12 with fail
        refine gen_world (fun W => LkJ w A B n cA m cB g c (k + 1) W) (HMK.out _ HJ.out HCT.out) ?_
        rintro w5 j5
        have J5 := Lib.hid j5
        clear j5 m0 f0 cA0 cB0 hcc
        have cA0 := J5.out.2.1.cell 0 rfl
        obtain ⟨aS, rfl, sc⟩ := SC.out _ J5.out.1 a (by omega)
        have hsu := net_sup HCH.out a (by rw [← HN.out]; omega)
        simp only [Int.toNat_natCast] at HS1
        generalize N.sup.getD a 0 = s at *
        go_wp2
        go_roundw
        case rel =>
          refine ⟨k + 1, by omega, by go_num, by rw [HS1.out], by rw [HL1.out], J5, Lib.hid (fun y hy => ?_)⟩
          by_cases hjk : y < k
          · exact HK.out y hjk
          · obtain rfl : y = k := by omega
            exact HCT.out
        case measure => simp [intOf]; omega
      · obtain rfl : k = p := by omega
        have HCO : Hid (∀ x, x < c.length → cutAt N.sup.length c x = true) := Lib.hid (fun x hx => by rw [← HN.out]; exact HK.out x (by rw [HP.out]; exact hx))
        have E := Lib.hid (lk_yes HCH.out HCO.out)
        have E0 := Lib.hid (show lkS N c k = lkA N c 0 from by rw [HP.out]; rfl)
        rw [E0.out]
        rw [E0.out] at bs
        clear HK lb
        generalize lastC c k = L at *
        go_wp2_with fail
        go_loopw [8, 53] (fun v i wr => ∃ j : Nat, j ≤ m ∧ i = .int .i64 j ∧ v = .int .i64 (lkA N c j) ∧ Hid (LkJ w A B n cA m cB g c k wr)) (fun _ i _ => m - (intOf i).toNat)
        case atStart => exact ⟨0, Nat.zero_le _, rfl, rfl, HJ⟩
        case round =>
          obtain ⟨j, hj, rfl, rfl, HB⟩ := hrel
          have ba := lkA_bd HCH.out HCO.out j (by rw [← HM.out]; exact hj)
          by_cases hlt2 : j < m
          · obtain ⟨ad, rfl, hbl, d0, d1, d2, d3⟩ := (HNA.out.2.below HB.out.1 (Nat.le_refl _)) j (by rw [← HM.out]; exact hlt2)
            obtain ⟨a1, a2, a3, a4, a5⟩ := net_arc HCH.out j (by rw [← HM.out]; exact hlt2)
            rw [← HN.out] at a1 a2
            have HA1 := Lib.hid (show lkA N c (j + 1) = lkA N c j - if inK c c.length (N.arcs.getD j default).fr = true ∧ inK c c.length (N.arcs.getD j default).to = false then (N.arcs.getD j default).cap else 0 from rfl)
            generalize N.arcs.getD j default = ar at *
            obtain ⟨fr, «to», ca, co⟩ := ar
            simp only at d0 d1 d2 d3 a1 a2 a3 a4 a5 HA1
            rw [← HP.out] at HA1
            obtain ⟨a, rfl⟩ : ∃ a : Nat, fr = a := ⟨fr.toNat, by omega⟩
            obtain ⟨b, rfl⟩ : ∃ b : Nat, «to» = b := ⟨«to».toNat, by omega⟩
            have MA := Lib.hid (fun W (h : LkJ w A (some ad) n cA m cB g c k W) => h.2.2.cell a (marks_get (by omega)))
            have MB := Lib.hid (fun W (h : LkJ w A (some ad) n cA m cB g c k W) => h.2.2.cell b (marks_get (by omega)))
            generalize inK c k (a : Int) = ia at *
            generalize inK c k (b : Int) = ib at *
            generalize lkA N c j = S at *
            go_upto_region 17 with fail
            have HBX := Lib.hid (HB.out.below ((Below.refl _ _).alloc (Nat.le_refl _) (.cells #[.int .i64 a, .int .i64 b, .int .i64 ca, .int .i64 co] 46)))
            have BX := Lib.hid (Blk.new' wr #[.int .i64 a, .int .i64 b, .int .i64 ca, .int .i64 co] 46)
            generalize wr.alloc (.cells #[.int .i64 a, .int .i64 b, .int .i64 ca, .int .i64 co] 46) = wx at HBX BX ⊢
            generalize wr.heap.size = ga at *
            have e0 := BX.out.cell 0 rfl
            have e1 := BX.out.cell 1 rfl
            have e2 := BX.out.cell 2 rfl
            have ma := MA.out _ HBX.out
            have mb := MB.out _ HBX.out
            clear d0 d1 d2 d3
            cases ia <;> cases ib
            all_goals
              go_wp2
              go_roundw
              case rel => exact ⟨j + 1, by omega, by go_num, by rw [HA1.out]; simp, HBX⟩
              case measure => simp [intOf]; omega
          · obtain rfl : j = m := by omega
            have hx1 := fun ts t W => maxTwo 0 (lkA N c j) ts t W
            have E1 := Lib.hid (show max 0 (lkA N c j) = lkV N c from by rw [E.out.2, HM.out])
            generalize lkA N c j = S at *
            go_wp2
            go_ret2
            exact ⟨ret2 E1.out E.out.1.symm, HB.out.1⟩
  · have E := Lib.hid (lk_ch (c := c) hch)
    have hne : (chE N == 0) = false := by simpa using hch
    generalize chE N = q at *
    go_wp2
    go_ret2
    exact ⟨ret2 E.out.2.symm E.out.1.symm, HB2.out⟩
end Go.Proofs.Ytmebpglkeedaoaa
namespace Go.Proofs.Ytmebpglkeedaoaa
open Go.RowKit Dp
set_option maxHeartbeats 8000000 in
set_option maxRecDepth 100000 in
theorem CheckPeak_c (A B C D E P Q Y : Option Addr) (S : Site) (cs : List Car) (T : Tab) (peak : Int) (ps : List Int) (n nB nC nD m p q y cA cB cC cD cE cP cQ cY : Nat) (w : World) (hn : n = S.lim.length) (hnB : nB = S.exp.length) (hnC : nC = S.buy.length) (hnD : nD = S.sell.length) (hm : m = cs.length) (hp : p = T.inn.length) (hq : q = T.out.length) (hy : y = ps.length)
    (hA : n ≤ cA ∧ cA ≤ 9223372036854775807) (hB : nB ≤ cB ∧ cB ≤ 9223372036854775807) (hC : nC ≤ cC ∧ cC ≤ 9223372036854775807) (hD : nD ≤ cD ∧ cD ≤ 9223372036854775807) (hE : m ≤ cE ∧ cE ≤ 9223372036854775807) (hP : p ≤ cP ∧ cP ≤ 9223372036854775807) (hQ : q ≤ cQ ∧ cQ ≤ 9223372036854775807) (hY : y ≤ cY ∧ cY ≤ 9223372036854775807)
    (hS : SiteAt w A B C D S) (hcs : CarsAt w E cs) (hT : TabAt w P Q T) (hI : IntsAt w Y ps) :
    Calls Try.prog 47 #[.agg #[.slice A n cA, .slice B nB cB, .slice C nC cC, .slice D nD cD], .slice E m cE, .int .i64 peak, .agg #[.slice P p cP, .slice Q q cQ], .slice Y y cY] w fun e w' => e = .returned (.int .i64 (pkE S cs peak T ps)) ∧ Below w.heap.size w w' := by
  obtain ⟨z, hz⟩ : ∃ z, z = pkE S cs peak T ps := ⟨_, rfl⟩
  obtain ⟨N, hN⟩ : ∃ N, N = netN (cpS S (peak - 1)) cs := ⟨_, rfl⟩
  obtain ⟨k0, hk⟩ : ∃ k, k = N.sup.length := ⟨_, rfl⟩
  obtain ⟨l, hl⟩ : ∃ l, l = N.arcs.length := ⟨_, rfl⟩
  obtain ⟨u, hu⟩ : ∃ u, u = plE S cs T := ⟨_, rfl⟩
  obtain ⟨le, hle⟩ : ∃ le, le = lkE N ps := ⟨_, rfl⟩
  obtain ⟨lv, hlv⟩ : ∃ lv, lv = lkV N ps := ⟨_, rfl⟩
  have HKB : u = 0 → stE S cs = 0 ∧ nB = n ∧ nC = n ∧ nD = n ∧ p = m ∧ q = m ∧ m ≤ 8 ∧ 1 ≤ n ∧ n ≤ 48 := fun h => by
    have h0 := (plE_0 (hu.symm.trans h))
    have h2 := siteHead_iff.1 (stE_0 h0.ok).2.1
    have h3 := (stE_0 h0.ok).1
    have e1 := h0.li
    have e2 := h0.lo
    exact ⟨h0.ok, by omega, by omega, by omega, by omega, by omega, by omega, by omega, by omega⟩
  have HZ : Hid (u ≠ 0 → z = u) := Lib.hid (fun h => by rw [hz, hu]; unfold pkE; rw [if_neg (by rw [← hu]; exact h)])
  have HR : Hid (u = 0 → ¬ (0 ≤ peak ∧ peak ≤ 1048576) → z = 3) := Lib.hid (fun h h2 => by rw [hz]; unfold pkE; rw [if_pos (hu.symm.trans h), if_neg h2])
  have HG : Hid (u = 0 → (0 ≤ peak ∧ peak ≤ 1048576) → ∀ k, k < n → peak < drP T k p → z = 17) := Lib.hid (fun h h2 k hk hd => by rw [hz]; unfold pkE; rw [if_pos (hu.symm.trans h), if_pos h2, pkG_no (n := S.lim.length) (k := k) (by omega) (by rw [← hp]; exact hd)]; rfl)
  have HF : Hid (u = 0 → (0 ≤ peak ∧ peak ≤ 1048576) → (∀ k, k < n → drP T k p ≤ peak) → z = if peak = 0 then (if y = 0 then 0 else 19) else (if le = 0 then (if lv = 0 then 19 else 0) else le)) := Lib.hid (fun h h2 h3 => by rw [hz, hle, hlv, hN, hy]; unfold pkE; rw [if_pos (hu.symm.trans h), if_pos h2, if_pos (pkG_ok (fun k hk => by have := h3 k (by omega); rwa [← hp]))])
  have FC : Hid (∀ V, Below w.heap.size w V → Calls Try.prog 32 #[.agg #[.slice A n cA, .slice B nB cB, .slice C nC cC, .slice D nD cD], .slice E m cE, .agg #[.slice P p cP, .slice Q q cQ]] V (fun e w' => e = .returned (.int .i64 u) ∧ Below V.heap.size V w')) := Lib.hid (fun V hV => by rw [hu]; exact CheckPlan_c A B C D E P Q S cs T n nB nC nD m p q cA cB cC cD cE cP cQ V hn hnB hnC hnD hm hp hq hA hB hC hD hE hP hQ (hS.below hV (Nat.le_refl _)) (hcs.below hV (Nat.le_refl _)) (hT.below hV (Nat.le_refl _)))
  have FD : Hid (u = 0 → ∀ (k : Nat) V, k < n → Below w.heap.size w V → Calls Try.prog 89 #[.agg #[.slice P p cP, .slice Q q cQ], .int .i64 k] V (fun e w' => e = .returned (.int .i64 (drP T k p)) ∧ Below V.heap.size V w')) := Lib.hid (fun h k V hk hV => by
    obtain ⟨_, _, _, _, e1, e2, h8, _, _⟩ := HKB h
    exact drawn_c P Q T p q cP cQ k V hp hq (by omega) (by omega) hP hQ (hT.below hV (Nat.le_refl _)) (by have := (plE_0 (hu.symm.trans h)).slot (k := k) (by omega); rwa [← hm, ← e1] at this))
  have FX : Hid (u = 0 → ∀ V, Below w.heap.size w V → Calls Try.prog 90 #[.agg #[.slice A n cA, .slice B nB cB, .slice C nC cC, .slice D nD cD], .int .i64 (peak - 1)] V (fun e w' => ∃ (G : Option Addr) (c : Nat), e = .returned (.agg #[.slice G n c, .slice B nB cB, .slice C nC cC, .slice D nD cD]) ∧ (n ≤ c ∧ c ≤ 9223372036854775807) ∧ SiteAt w' G B C D (cpS S (peak - 1)) ∧ Below V.heap.size V w')) := Lib.hid (fun h V hV => by
    obtain ⟨_, _, _, _, _, _, _, h1, h48⟩ := HKB h
    refine (capped_c A B C D S (peak - 1) n nB nC nD cA cB cC cD V hn (by omega) h1 hA (hS.below hV (Nat.le_refl _)).1).mono ?_
    rintro e w' ⟨G, c, rfl, hc, hO, hb⟩
    exact ⟨G, c, rfl, hc, ((hS.below hV (Nat.le_refl _)).below hb (Nat.le_refl _)).capped hn hO, hb⟩)
  have FB : Hid (u = 0 → 0 < peak → ∀ (G : Option Addr) (c : Nat) V, Below w.heap.size w V → (n ≤ c ∧ c ≤ 9223372036854775807) → SiteAt V G B C D (cpS S (peak - 1)) → Calls Try.prog 76 #[.agg #[.slice G n c, .slice B nB cB, .slice C nC cC, .slice D nD cD], .slice E m cE] V (BltV N k0 l V)) := Lib.hid (fun h hpk G c V hV hc hSV => by
    obtain ⟨h0, rfl, rfl, rfl, _⟩ := HKB h
    exact (build_c G B C D E (cpS S (peak - 1)) cs _ m c cB cC cD cE V (cpS_ok h0 (by omega)) (by rw [cpS_len]; exact hn) hm hc hB hC hD hE hSV (hcs.below hV (Nat.le_refl _))).mono (fun _ _ h => R76.v hN hk hl h))
  have FL : Hid (∀ (G M : Option Addr) (c d : Nat) (V : World), Below w.heap.size w V → NetAt V G M N → (k0 ≤ c ∧ c ≤ 9223372036854775807) → (l ≤ d ∧ d ≤ 9223372036854775807) → Calls Try.prog 18 #[.agg #[.slice G k0 c, .slice M l d], .slice Y y cY] V (fun e w' => e = .returned (.tuple #[.int .i64 lv, .int .i64 le]) ∧ Below V.heap.size V w')) := Lib.hid (fun G M c d V hV hN hc hd => by rw [hle, hlv]; exact Lacks_c G M Y N ps k0 l y c d cY V hk hl hy hc hd hY hN (hI.below hV (Nat.le_refl _)))
  have HKN : Hid (u = 0 → 0 < peak → k0 ≤ 833) := Lib.hid (fun h hpk => by rw [hk, hN]; show (supN (cpS S (peak - 1)) cs).length ≤ 833; rw [supN_len]; exact (nodes_bd (cpS_ok (HKB h).1 (by omega))).1)
  have HKK : Hid (u = 0 → 1 ≤ n ∧ n ≤ 48) := Lib.hid (fun h => (HKB h).2.2.2.2.2.2.2)
  rw [← hz]
  clear HKB hz hn hnB hnC hnD hm hp hq hS hcs hT hI hN hu hle hlv hk hl hy
  have HB := Lib.hid (((Below.refl w.heap.size w).alloc (Nat.le_refl _) (.cells #[.slice A n cA, .slice B nB cB, .slice C nC cC, .slice D nD cD] 51)).alloc (by simp) (.cells #[.slice P p cP, .slice Q q cQ] 55))
  have XS := Lib.hid ((Blk.new' w #[.slice A n cA, .slice B nB cB, .slice C nC cC, .slice D nD cD] 51).alloc (.cells #[.slice P p cP, .slice Q q cQ] 55))
  have XT := Lib.hid (show Blk ((w.alloc (.cells #[.slice A n cA, .slice B nB cB, .slice C nC cC, .slice D nD cD] 51)).alloc (.cells #[.slice P p cP, .slice Q q cQ] 55)) (w.heap.size + 1) 55 [.slice P p cP, .slice Q q cQ] from by simpa using Blk.new' (w.alloc (.cells #[.slice A n cA, .slice B nB cB, .slice C nC cC, .slice D nD cD] 51)) #[.slice P p cP, .slice Q q cQ] 55)
  go_enter Try.func47, Try.ntmps47
  go_upto_region 1 with fail
  generalize (w.alloc (.cells #[.slice A n cA, .slice B nB cB, .slice C nC cC, .slice D nD cD] 51)).alloc (.cells #[.slice P p cP, .slice Q q cQ] 55) = w1 at HB XS XT ⊢
  have s0 := XS.out.cell 0 rfl
  have s1 := XS.out.cell 1 rfl
  have s2 := XS.out.cell 2 rfl
  have s3 := XS.out.cell 3 rfl
  have sl := XS.out.lt
  have t0 := XT.out.cell 0 rfl
  have t1 := XT.out.cell 1 rfl
  have tl := XT.out.lt
  go_wp2_with fail
  refine (FC.out w1 HB.out).mono ?_
  rintro e w2 ⟨rfl, hb⟩
  clear s0 s1 s2 s3 sl t0 t1 tl
  have XS := Lib.hid (XS.out.below hb XS.out.lt)
  have XT := Lib.hid (XT.out.below hb XT.out.lt)
  have HB := Lib.hid (HB.out.trans (hb.mono HB.out.size))
  clear hb
  by_cases h0 : u = 0
  rotate_left
  · have hb0 : (u == 0) = false := by simpa using h0
    have EE : z = u := HZ.out h0
    clear h0
    go_wp2_with fail
    go_ret
    exact ⟨ret_int EE.symm, HB.out⟩
  have HR1 := Lib.hid (HR.out h0)
  have HG1 := Lib.hid (HG.out h0)
  have HF1 := Lib.hid (HF.out h0)
  have FD1 := Lib.hid (FD.out h0)
  have FX1 := Lib.hid (FX.out h0)
  have FB1 := Lib.hid (FB.out h0)
  have HKN1 := Lib.hid (HKN.out h0)
  have hn48 := HKK.out h0
  clear HR HG HF FD FX FB HKN HKK HZ FC
  subst h0
  by_cases hr1 : peak < 0
  · have d1 : decide (peak < 0) = true := decide_eq_true hr1
    have EE : z = 3 := HR1.out (by omega)
    go_wp2_with fail
    go_ret
    exact ⟨ret_int EE.symm, HB.out⟩
  have d1 : decide (peak < 0) = false := decide_eq_false hr1
  by_cases hr2 : 1048576 < peak
  · have d2 : decide (1048576 < peak) = true := decide_eq_true hr2
    have EE : z = 3 := HR1.out (by omega)
    go_wp2_with fail
    go_ret
    exact ⟨ret_int EE.symm, HB.out⟩
  have d2 : decide (1048576 < peak) = false := decide_eq_false hr2
  have hpk : 0 ≤ peak ∧ peak ≤ 1048576 := by omega
  have s0 := XS.out.cell 0 rfl
  have s1 := XS.out.cell 1 rfl
  have s2 := XS.out.cell 2 rfl
  have s3 := XS.out.cell 3 rfl
  have sl := XS.out.lt
  have t0 := XT.out.cell 0 rfl
  have t1 := XT.out.cell 1 rfl
  have tl := XT.out.lt
  go_wp2_with fail
  clear s0 s1 s2 s3 sl t0 t1 tl
  clear d1 d2
  have HJ0 : Hid (Below w.heap.size w w2 ∧ Blk w2 w.heap.size 51 [.slice A n cA, .slice B nB cB, .slice C nC cC, .slice D nD cD] ∧ Blk w2 (w.heap.size + 1) 55 [.slice P p cP, .slice Q q cQ] ∧ ∀ j, j < 0 → drP T j p ≤ peak) := Lib.hid ⟨HB.out, XS.out, XT.out, fun j h => absurd h (Nat.not_lt_zero _)⟩
  go_loopw [31] (fun iv wr => ∃ k : Nat, k ≤ n ∧ iv = .int .i64 k ∧ Hid (Below w.heap.size w wr ∧ Blk wr w.heap.size 51 [.slice A n cA, .slice B nB cB, .slice C nC cC, .slice D nD cD] ∧ Blk wr (w.heap.size + 1) 55 [.slice P p cP, .slice Q q cQ] ∧ ∀ j, j < k → drP T j p ≤ peak)) (fun iv _ => n - (intOf iv).toNat)
  case atStart => exact ⟨0, Nat.zero_le _, rfl, HJ0⟩
  case round =>
    clear HJ0 XS XT HB
    obtain ⟨k, hk, rfl, HJ⟩ := hrel
    have HB := Lib.hid HJ.out.1
    have XS := Lib.hid HJ.out.2.1
    have XT := Lib.hid HJ.out.2.2.1
    have HA := Lib.hid HJ.out.2.2.2
    clear HJ
    by_cases hlt : k < n
    · have hki : (k : Int) < (n : Int) := by omega
      have s0 := XS.out.cell 0 rfl
      have s1 := XS.out.cell 1 rfl
      have s2 := XS.out.cell 2 rfl
      have s3 := XS.out.cell 3 rfl
      have sl := XS.out.lt
      have t0 := XT.out.cell 0 rfl
      have t1 := XT.out.cell 1 rfl
      have tl := XT.out.lt
      go_wp2_with fail
      refine (FD1.out k wr hlt HB.out).mono ?_
      rintro e w4 ⟨rfl, hb⟩
      clear s0 s1 s2 s3 sl t0 t1 tl
      have XS := Lib.hid (XS.out.below hb XS.out.lt)
      have XT := Lib.hid (XT.out.below hb XT.out.lt)
      have HB := Lib.hid (HB.out.trans (hb.mono HB.out.size))
      clear hb
      have HG2 := Lib.hid (HG1.out hpk k hlt)
      have HA2 : Hid (drP T k p ≤ peak → ∀ j, j < k + 1 → drP T j p ≤ peak) := Lib.hid (fun h j hj => by rcases Nat.lt_or_ge j k with h1 | h1; exact HA.out j h1; obtain rfl : j = k := (by omega); exact h)
      generalize drP T k p = dv at *
      by_cases hd : peak < dv
      · have d1 : decide (peak < dv) = true := decide_eq_true hd
        have EE : z = 17 := HG2.out hd
        go_wp2_with fail
        go_ret
        exact ⟨ret_int EE.symm, HB.out⟩
      have d1 : decide (peak < dv) = false := decide_eq_false hd
      have HE : Hid (Below w.heap.size w w4 ∧ Blk w4 w.heap.size 51 [.slice A n cA, .slice B nB cB, .slice C nC cC, .slice D nD cD] ∧ Blk w4 (w.heap.size + 1) 55 [.slice P p cP, .slice Q q cQ] ∧ ∀ j, j < k + 1 → drP T j p ≤ peak) := Lib.hid ⟨HB.out, XS.out, XT.out, HA2.out (by omega)⟩
      go_wp2_with fail
      exact ⟨⟨k + 1, by omega, by go_num, HE⟩, by simp [intOf]; omega⟩
    · obtain rfl : n = k := by omega
      have HF2 := Lib.hid (HF1.out hpk HA.out)
      clear HF1 HG1 HR1 FD1 HA
      have s0 := XS.out.cell 0 rfl
      have s1 := XS.out.cell 1 rfl
      have s2 := XS.out.cell 2 rfl
      have s3 := XS.out.cell 3 rfl
      have sl := XS.out.lt
      have t0 := XT.out.cell 0 rfl
      have t1 := XT.out.cell 1 rfl
      have tl := XT.out.lt
      by_cases hp0 : peak = 0
      · have b0 : (peak == 0) = true := by simpa using hp0
        have HF3 := Lib.hid (HF2.out.trans (if_pos hp0))
        clear hp0 HF2
        by_cases hy : y = 0
        · have EE : z = 0 := HF3.out.trans (if_pos hy)
          have d1 : decide ((0 : Int) < (y : Int)) = false := decide_eq_false (by omega)
          clear HF3
          go_wp2_with fail
          go_ret
          exact ⟨ret_int EE.symm, HB.out⟩
        · have EE : z = 19 := HF3.out.trans (if_neg hy)
          have d1 : decide ((0 : Int) < (y : Int)) = true := decide_eq_true (by omega)
          clear HF3
          go_wp2_with fail
          go_ret
          exact ⟨ret_int EE.symm, HB.out⟩
      have b0 : (peak == 0) = false := by simpa using hp0
      have HF3 := Lib.hid (HF2.out.trans (if_neg hp0))
      have hpp : 0 < peak := by omega
      have w1s : IntKind.i64.wrap (peak - 1) = peak - 1 := IntWalk.i64_in _ (by omega)
      clear HF2
      go_wp2_with fail
      refine (FX1.out wr HB.out).mono ?_
      rintro e w3 ⟨G, c, rfl, hc, hSA, hb⟩
      clear s0 s1 s2 s3 sl t0 t1 tl w1s
      have HB := Lib.hid (HB.out.trans (hb.mono HB.out.size))
      have HSA := Lib.hid hSA
      have HC := Lib.hid hc
      clear hb hSA hc XS XT
      go_wp2_with fail
      refine (FB1.out hpp G c w3 HB.out HC.out HSA.out).mono ?_
      rintro e w4 ⟨b, gs, M, c4, v2, v3, rfl, hX, hNA, hc4, hb⟩
      have XB := Lib.hid hX
      have HB := Lib.hid (HB.out.trans (hb.mono HB.out.size))
      have HC4 := Lib.hid hc4
      have HNA := Lib.hid hNA
      clear hb hNA hc4 HSA HC hX
      have b1 := XB.out.cell 0 rfl
      have b2 := XB.out.cell 1 rfl
      have bl := XB.out.lt
      go_wp2_with fail
      refine (FL.out _ _ _ _ w4 HB.out HNA.out ⟨Nat.le_refl _, by have := HKN1.out hpp; omega⟩ HC4.out).mono ?_
      rintro e w5 ⟨rfl, hb⟩
      have HB := Lib.hid (HB.out.trans (hb.mono HB.out.size))
      clear hb HNA b1 b2 bl XB
      by_cases h1 : le = 0
      rotate_left
      · have hb1 : (le == 0) = false := by simpa using h1
        have EE : z = le := HF3.out.trans (if_neg h1)
        clear h1
        go_wp2_with fail
        go_ret
        exact ⟨ret_int EE.symm, HB.out⟩
      have HF4 := Lib.hid (HF3.out.trans (if_pos h1))
      clear HF3
      subst h1
      by_cases h2 : lv = 0
      · have EE : z = 19 := HF4.out.trans (if_pos h2)
        subst h2
        go_wp2_with fail
        go_ret
        exact ⟨ret_int EE.symm, HB.out⟩
      have hb2 : (lv == 0) = false := by simpa using h2
      have EE : z = 0 := HF4.out.trans (if_neg h2)
      clear h2
      go_wp2_with fail
      go_ret
      exact ⟨ret_int EE.symm, HB.out⟩
end Go.Proofs.Ytmebpglkeedaoaa
namespace Go.Proofs.Ytmebpglkeedaoaa
open Go.RowKit Dp
theorem lkR_bd {N : Net} {c : List Int} (h : chE N = 0) (p : Nat) : ∀ j : Nat, j ≤ N.sup.length → -(268435456 * j : Int) ≤ lkR N c p j ∧ lkR N c p j ≤ 268435456 * j
  | 0, _ => by simp [lkR]
  | j + 1, hj => by
    have ih := lkR_bd (c := c) h p j (by omega)
    have h2 := net_sup h j (by omega)
    simp only [lkR]
    rw [Int.natCast_add]
    split <;> omega
theorem cutAt_no0 {n : Nat} {c : List Int} {k : Nat} (h : c.getD k 0 < 0 ∨ (n : Int) ≤ c.getD k 0) : cutAt n c k = false := by
  cases hb : cutAt n c k
  · rfl
  · have := cutAt_iff.1 hb; omega
theorem cutAt_no1 {n : Nat} {c : List Int} {k : Nat} (h0 : 0 < k) (h : c.getD k 0 ≤ c.getD (k - 1) 0) : cutAt n c k = false := by
  cases hb : cutAt n c k
  · rfl
  · have := (cutAt_iff.1 hb).2.2 h0; omega
set_option maxHeartbeats 2000000 in
set_option maxRecDepth 100000 in
theorem LacksR_c (A B C : Option Addr) (N : Net) (c : List Int) (n m p cA cB cC : Nat) (w : World) (hn : n = N.sup.length) (hm : m = N.arcs.length) (hp : p = c.length) (hA : n ≤ cA ∧ cA ≤ 9223372036854775807) (hB : m ≤ cB ∧ cB ≤ 9223372036854775807) (hC : p ≤ cC ∧ cC ≤ 9223372036854775807) (hN : NetAt w A B N) (hF : IntsAt w C c) :
    Calls Try.prog 19 #[.agg #[.slice A n cA, .slice B m cB], .slice C p cC] w fun e w' => e = .returned (.tuple #[.int .i64 (lkV N c), .int .i64 (lkE N c)]) ∧ Below w.heap.size w w' := by
  have HN := Lib.hid hn
  have HM := Lib.hid hm
  have HP := Lib.hid hp
  have HNA := Lib.hid hN
  have HFA := Lib.hid hF
  clear hn hm hp hN hF
  have B1 := Lib.hid (Blk.new' w #[.slice A n cA, .slice B m cB] 25)
  have HB1 := Lib.hid ((Below.refl w.heap.size w).alloc (Nat.le_refl _) (.cells #[.slice A n cA, .slice B m cB] 25))
  go_enter Try.func19, Try.ntmps19
  go_wp2_with fail
  generalize w.alloc (.cells #[.slice A n cA, .slice B m cB] 25) = w1 at B1 HB1 ⊢
  refine (CheckR_c A B N n m cA cB w1 HN.out HM.out hA hB (HNA.out.below HB1.out (Nat.le_refl _))).mono ?_
  rintro e w2 ⟨rfl, hb2⟩
  have B2 := Lib.hid (B1.out.below hb2 B1.out.lt)
  have HB2 := Lib.hid (HB1.out.trans (hb2.mono HB1.out.size))
  clear hb2 B1 HB1
  have cA0 := B2.out.cell 0 rfl
  have cB0 := B2.out.cell 1 rfl
  by_cases hch : chE N = 0
  · have hce := net_len hch
    rw [hch]
    have n1 : 1 ≤ n := by rw [HN.out]; exact hce.1
    have n2 : n ≤ 1024 := by rw [HN.out]; exact hce.2.1
    have m2 : m ≤ 2048 := by rw [HM.out]; exact hce.2.2
    have HCH := Lib.hid hch
    clear hch hce
    have hmk := make_bools n (by omega)
    have zg : w.heap.size < w2.heap.size := B2.out.lt
    have J3 : Hid (LkJ w A B n cA m cB w2.heap.size c 0 (w2.alloc (.cells (Array.replicate n (.bool false)) 4))) := Lib.hid ⟨HB2.out.alloc HB2.out.size _, B2.out.alloc _, by
      rw [marks_zero]
      have := Blk.new' w2 (Array.replicate n (.bool false)) 4
      simpa using this⟩
    go_wp2_with fail
    generalize w2.alloc (.cells (Array.replicate n (.bool false)) 4) = w3 at J3 ⊢
    generalize w2.heap.size = g at *
    clear hmk cA0 cB0
    have SC : Hid (∀ W, Below w.heap.size w W → ∀ k, k < n → ∃ aS, A = some aS ∧ W.cell? (aS.add k) = some (.int .i64 (N.sup.getD k 0))) := Lib.hid (fun W h k hk => by
      obtain ⟨a', e, hb, hc⟩ := HNA.out.1 k (by rw [← HN.out]; exact hk)
      exact ⟨a', e, (h.cell (by rw [block_add]; exact hb)).trans hc⟩)
    have FC : Hid (∀ W, Below w.heap.size w W → ∀ k, k < p → ∃ aC, C = some aC ∧ W.cell? (aC.add k) = some (.int .i64 (c.getD k 0)) ∧ (aC.add k).block < W.heap.size) := Lib.hid (fun W h k hk => by
      obtain ⟨a', e, hb, hc⟩ := HFA.out k (by rw [← HP.out]; exact hk)
      exact ⟨a', e, (h.cell (by rw [block_add]; exact hb)).trans hc, by rw [block_add]; have := h.size; omega⟩)
    go_loopw [7] (fun i wr => ∃ k : Nat, k ≤ p ∧ i = .int .i64 k ∧ Hid (LkJ w A B n cA m cB g c k wr) ∧ Hid (∀ x, x < k → cutAt n c x = true)) (fun i _ => p - (intOf i).toNat)
    case atStart => exact ⟨0, Nat.zero_le _, rfl, J3, Lib.hid (fun x hx => absurd hx (Nat.not_lt_zero _))⟩
    case round =>
      obtain ⟨k, hk, rfl, HJ, HK⟩ := hrel
      have hkn := cut_lt k HK.out
      have cA0 := HJ.out.2.1.cell 0 rfl
      have cB0 := HJ.out.2.1.cell 1 rfl
      have bg : w.heap.size < wr.heap.size := HJ.out.2.1.lt
      by_cases hlt : k < p
      · obtain ⟨aC, rfl, hcc, hcb⟩ := FC.out _ HJ.out.1 k hlt
        have ENO := Lib.hid (fun h => lk_no (c := c) HCH.out k (by rw [← HP.out]; exact hlt) (by rw [← HN.out]; exact h))
        have HMK := Lib.hid (fun W (h : LkJ w A B n cA m cB g c k W) hc => h.mark zg (by rw [← HP.out]; exact hlt) hc)
        have NO0 := Lib.hid (cutAt_no0 (n := n) (c := c) (k := k))
        have NO1 := Lib.hid (cutAt_no1 (n := n) (c := c) (k := k))
        have YES := Lib.hid (cutAt_iff (n := n) (c := c) (k := k))
        have F1 := Lib.hid (fun (h0 : 0 < k) => FC.out _ HJ.out.1 (k - 1) (by omega))
        generalize hx : c.getD k 0 = x at *
        have HX := Lib.hid hx
        clear hx
        generalize c.getD (k - 1) 0 = y at *
        have k0 : (0 : Int) ≤ (k : Int) := by omega
        have kx : (k : Int) < (p : Int) := by omega
        by_cases h1 : x < 0
        · have E := Lib.hid (ENO.out (NO0.out (.inl h1)))
          have d1 : decide (x < 0) = true := decide_eq_true h1
          go_wp2_with fail
          refine wp_region_past (by kernel_rfl) (by kernel_rfl) ?_
          repeat (go_big_quiet_step (fail))
          refine wpQuiet_nil ?_
          intro xx
          have HXX := Lib.hid xx.far
          generalize xx.w = w4 at HXX ⊢
          go_wp2
          go_ret2
          exact ⟨ret2 E.out.2.symm E.out.1.symm, (HJ.out.below HXX.out).1⟩
        have d1 : decide (x < 0) = false := decide_eq_false h1
        by_cases h2 : (n : Int) ≤ x
        · have E := Lib.hid (ENO.out (NO0.out (.inr h2)))
          have d2 : decide ((n : Int) ≤ x) = true := decide_eq_true h2
          go_wp2_with fail
          refine wp_region_past (by kernel_rfl) (by kernel_rfl) ?_
          repeat (go_big_quiet_step (fail))
          refine wpQuiet_nil ?_
          intro xx
          have HXX := Lib.hid xx.far
          generalize xx.w = w4 at HXX ⊢
          go_wp2
          go_ret2
          exact ⟨ret2 E.out.2.symm E.out.1.symm, (HJ.out.below HXX.out).1⟩
        have d2 : decide ((n : Int) ≤ x) = false := decide_eq_false h2
        obtain ⟨a, rfl⟩ : ∃ a : Nat, x = a := ⟨x.toNat, by omega⟩
        have d2n : decide (n ≤ a) = false := decide_eq_false (by omega)
        by_cases h3 : 0 < k
        · have d3 : decide ((0 : Int) < (k : Int)) = true := decide_eq_true (by omega)
          have d3n : decide (0 < k) = true := decide_eq_true h3
          obtain ⟨aC', e, hcc', hcb'⟩ := F1.out h3
          cases e
          have w1' : IntKind.i64.wrap ((k : Int) - 1) = (k : Int) - 1 := IntWalk.i64_in _ (by omega)
          have t1' : ((k : Int) - 1).toNat = k - 1 := by omega
          have l1' : (1 : Int) ≤ (k : Int) := by omega
          have l2' : (k : Int) - 1 < (p : Int) := by omega
          by_cases h4 : (a : Int) ≤ y
          · have E := Lib.hid (ENO.out (NO1.out h3 h4))
            have d4 : decide ((a : Int) ≤ y) = true := decide_eq_true h4
            go_wp2_with fail
            refine wp_region_past (by kernel_rfl) (by kernel_rfl) ?_
            repeat (go_big_quiet_step (fail))
            refine wpQuiet_nil ?_
            intro xx
            have HXX := Lib.hid xx.far
            generalize xx.w = w4 at HXX ⊢
            go_wp2
            go_ret2
            exact ⟨ret2 E.out.2.symm E.out.1.symm, (HJ.out.below HXX.out).1⟩
          have d4 : decide ((a : Int) ≤ y) = false := decide_eq_false h4
          have HCT := Lib.hid (YES.out.2 ⟨by omega, by omega, fun _ => by omega⟩)
          go_wp2_with fail
          refine wp_region_past (by kernel_rfl) (by kernel_rfl) ?_
          repeat (go_big_quiet_step (fail))
          refine wpQuiet_nil ?_
          intro xx
          have J4 := Lib.hid (HJ.out.below xx.far)
          generalize xx.w = w4 at J4 ⊢
          have m0 := J4.out.2.2.cell a (marks_get (by omega))
          have f0 := J4.out.2.2.free a
          obtain ⟨aC2, e2, hcc2, hcb2⟩ := FC.out _ J4.out.1 k hlt
          cases e2
          rw [HX.out] at hcc2
          go_upto_region 6 with fail
          refine gen_world (fun W => LkJ w A B n cA m cB g c (k + 1) W) (HMK.out _ J4.out HCT.out) ?_
          rintro w5 j5
          have J5 := Lib.hid j5
          clear j5 m0 f0 cA0 cB0 hcc hcc2
          go_wp2
          go_roundw
          case rel =>
            refine ⟨k + 1, by omega, by go_num, J5, Lib.hid (fun y hy => ?_)⟩
            by_cases hjk : y < k
            · exact HK.out y hjk
            · obtain rfl : y = k := by omega
              exact HCT.out
          case measure => simp [intOf]; omega
        have d3 : decide ((0 : Int) < (k : Int)) = false := decide_eq_false (by omega)
        have d3n : decide (0 < k) = false := decide_eq_false h3
        have HCT := Lib.hid (YES.out.2 ⟨by omega, by omega, fun _ => by omega⟩)
        go_wp2_with fail
        refine wp_region_past (by kernel_rfl) (by kernel_rfl) ?_
        repeat (go_big_quiet_step (fail))
        refine wpQuiet_nil ?_
        intro xx
        have J4 := Lib.hid (HJ.out.below xx.far)
        generalize xx.w = w4 at J4 ⊢
        have m0 := J4.out.2.2.cell a (marks_get (by omega))
        have f0 := J4.out.2.2.free a
        obtain ⟨aC2, e2, hcc2, hcb2⟩ := FC.out _ J4.out.1 k hlt
        cases e2
        rw [HX.out] at hcc2
        go_upto_region 6 with fail
        refine gen_world (fun W => LkJ w A B n cA m cB g c (k + 1) W) (HMK.out _ J4.out HCT.out) ?_
        rintro w5 j5
        have J5 := Lib.hid j5
        clear j5 m0 f0 cA0 cB0 hcc hcc2
        go_wp2
        go_roundw
        case rel =>
          refine ⟨k + 1, by omega, by go_num, J5, Lib.hid (fun y hy => ?_)⟩
          by_cases hjk : y < k
          · exact HK.out y hjk
          · obtain rfl : y = k := by omega
            exact HCT.out
        case measure => simp [intOf]; omega
      · obtain rfl : k = p := by omega
        have HCO : Hid (∀ x, x < c.length → cutAt N.sup.length c x = true) := Lib.hid (fun x hx => by rw [← HN.out]; exact HK.out x (by rw [HP.out]; exact hx))
        have E := Lib.hid (lk_yes HCH.out HCO.out)
        have E0 := Lib.hid (show lkR N c k n = lkA N c 0 from by rw [HN.out, HP.out, lkR_eq c.length (Nat.le_refl _) HCO.out]; rfl)
        clear HK
        go_wp2_with fail
        go_loopw [8, 9] (fun v i wr => ∃ j : Nat, j ≤ n ∧ i = .int .i64 j ∧ v = .int .i64 (lkR N c k j) ∧ Hid (LkJ w A B n cA m cB g c k wr)) (fun _ i _ => n - (intOf i).toNat)
        case atStart => exact ⟨0, Nat.zero_le _, rfl, rfl, HJ⟩
        case round =>
          obtain ⟨j, hj, rfl, rfl, HB⟩ := hrel
          have br := lkR_bd (c := c) HCH.out k j (by rw [← HN.out]; exact hj)
          have cA0 := HB.out.2.1.cell 0 rfl
          have cB0 := HB.out.2.1.cell 1 rfl
          by_cases hlt2 : j < n
          · obtain ⟨aS, rfl, sc⟩ := SC.out _ HB.out.1 j hlt2
            have hsu := net_sup HCH.out j (by rw [← HN.out]; exact hlt2)
            have HR1 := Lib.hid (show lkR N c k (j + 1) = lkR N c k j + if inK c k j = true then N.sup.getD j 0 else 0 from rfl)
            have mj := HB.out.2.2.cell j (marks_get (by omega))
            generalize N.sup.getD j 0 = s at *
            generalize inK c k (j : Int) = ij at *
            generalize lkR N c k j = S at *
            cases ij
            all_goals
              go_wp2
              go_roundw
              case rel => exact ⟨j + 1, by omega, by go_num, by rw [HR1.out]; simp, HB⟩
              case measure => simp [intOf]; omega
          · obtain rfl : j = n := by omega
            rw [E0.out]
            rw [E0.out] at br
            clear cA0 cB0
            go_wp2_with fail
            go_loopw [8, 10] (fun v i wr => ∃ q : Nat, q ≤ m ∧ i = .int .i64 q ∧ v = .int .i64 (lkA N c q) ∧ Hid (LkJ w A B j cA m cB g c k wr)) (fun _ i _ => m - (intOf i).toNat)
            case atStart => exact ⟨0, Nat.zero_le _, rfl, rfl, HB⟩
            case round =>
              obtain ⟨q, hq, rfl, rfl, HB⟩ := hrel
              have ba := lkA_bd HCH.out HCO.out q (by rw [← HM.out]; exact hq)
              have cA0 := HB.out.2.1.cell 0 rfl
              have cB0 := HB.out.2.1.cell 1 rfl
              by_cases hlt3 : q < m
              · obtain ⟨ad, rfl, hbl, d0, d1, d2, d3⟩ := (HNA.out.2.below HB.out.1 (Nat.le_refl _)) q (by rw [← HM.out]; exact hlt3)
                obtain ⟨a1, a2, a3, a4, a5⟩ := net_arc HCH.out q (by rw [← HM.out]; exact hlt3)
                rw [← HN.out] at a1 a2
                have HA1 := Lib.hid (show lkA N c (q + 1) = lkA N c q - if inK c c.length (N.arcs.getD q default).fr = true ∧ inK c c.length (N.arcs.getD q default).to = false then (N.arcs.getD q default).cap else 0 from rfl)
                generalize N.arcs.getD q default = ar at *
                obtain ⟨fr, «to», ca, co⟩ := ar
                simp only at d0 d1 d2 d3 a1 a2 a3 a4 a5 HA1
                rw [← HP.out] at HA1
                obtain ⟨a, rfl⟩ : ∃ a : Nat, fr = a := ⟨fr.toNat, by omega⟩
                obtain ⟨b, rfl⟩ : ∃ b : Nat, «to» = b := ⟨«to».toNat, by omega⟩
                have ma := HB.out.2.2.cell a (marks_get (by omega))
                have mb := HB.out.2.2.cell b (marks_get (by omega))
                generalize inK c k (a : Int) = ia at *
                generalize inK c k (b : Int) = ib at *
                generalize lkA N c q = S at *
                cases ia <;> cases ib
                all_goals
                  go_wp2
                  go_roundw
                  case rel => exact ⟨q + 1, by omega, by go_num, by rw [HA1.out]; simp, HB⟩
                  case measure => simp [intOf]; omega
              · obtain rfl : q = m := by omega
                have hx1 := fun ts t W => maxTwo 0 (lkA N c q) ts t W
                have E1 := Lib.hid (show max 0 (lkA N c q) = lkV N c from by rw [E.out.2, HM.out])
                generalize lkA N c q = S at *
                go_wp2
                go_ret2
                exact ⟨ret2 E1.out E.out.1.symm, HB.out.1⟩
  · have E := Lib.hid (lk_ch (c := c) hch)
    have hne : (chE N == 0) = false := by simpa using hch
    have CC := Lib.hid (CheckR_c A B N n m cA cB w2 HN.out HM.out hA hB (HNA.out.below HB2.out (Nat.le_refl _)))
    generalize chE N = q at *
    go_wp2_with fail
    refine CC.out.mono ?_
    rintro e w3 ⟨rfl, hb3⟩
    go_wp2
    go_ret2
    exact ⟨ret2 E.out.2.symm E.out.1.symm, HB2.out.trans (hb3.mono HB2.out.size)⟩
end Go.Proofs.Ytmebpglkeedaoaa
namespace Go.Proofs.Ytmebpglkeedaoaa
open Go.RowKit Dp
set_option maxHeartbeats 8000000 in
set_option maxRecDepth 100000 in
theorem CheckPeakR_c (A B C D E P Q Y : Option Addr) (S : Site) (cs : List Car) (T : Tab) (peak : Int) (ps : List Int) (n nB nC nD m p q y cA cB cC cD cE cP cQ cY : Nat) (w : World) (hn : n = S.lim.length) (hnB : nB = S.exp.length) (hnC : nC = S.buy.length) (hnD : nD = S.sell.length) (hm : m = cs.length) (hp : p = T.inn.length) (hq : q = T.out.length) (hy : y = ps.length)
    (hA : n ≤ cA ∧ cA ≤ 9223372036854775807) (hB : nB ≤ cB ∧ cB ≤ 9223372036854775807) (hC : nC ≤ cC ∧ cC ≤ 9223372036854775807) (hD : nD ≤ cD ∧ cD ≤ 9223372036854775807) (hE : m ≤ cE ∧ cE ≤ 9223372036854775807) (hP : p ≤ cP ∧ cP ≤ 9223372036854775807) (hQ : q ≤ cQ ∧ cQ ≤ 9223372036854775807) (hY : y ≤ cY ∧ cY ≤ 9223372036854775807)
    (hS : SiteAt w A B C D S) (hcs : CarsAt w E cs) (hT : TabAt w P Q T) (hI : IntsAt w Y ps) :
    Calls Try.prog 48 #[.agg #[.slice A n cA, .slice B nB cB, .slice C nC cC, .slice D nD cD], .slice E m cE, .int .i64 peak, .agg #[.slice P p cP, .slice Q q cQ], .slice Y y cY] w fun e w' => e = .returned (.int .i64 (pkE S cs peak T ps)) ∧ Below w.heap.size w w' := by
  obtain ⟨z, hz⟩ : ∃ z, z = pkE S cs peak T ps := ⟨_, rfl⟩
  obtain ⟨N, hN⟩ : ∃ N, N = netN (cpS S (peak - 1)) cs := ⟨_, rfl⟩
  obtain ⟨k0, hk⟩ : ∃ k, k = N.sup.length := ⟨_, rfl⟩
  obtain ⟨l, hl⟩ : ∃ l, l = N.arcs.length := ⟨_, rfl⟩
  obtain ⟨u, hu⟩ : ∃ u, u = plE S cs T := ⟨_, rfl⟩
  obtain ⟨le, hle⟩ : ∃ le, le = lkE N ps := ⟨_, rfl⟩
  obtain ⟨lv, hlv⟩ : ∃ lv, lv = lkV N ps := ⟨_, rfl⟩
  have HKB : u = 0 → stE S cs = 0 ∧ nB = n ∧ nC = n ∧ nD = n ∧ p = m ∧ q = m ∧ m ≤ 8 ∧ 1 ≤ n ∧ n ≤ 48 := fun h => by
    have h0 := (plE_0 (hu.symm.trans h))
    have h2 := siteHead_iff.1 (stE_0 h0.ok).2.1
    have h3 := (stE_0 h0.ok).1
    have e1 := h0.li
    have e2 := h0.lo
    exact ⟨h0.ok, by omega, by omega, by omega, by omega, by omega, by omega, by omega, by omega⟩
  have HZ : Hid (u ≠ 0 → z = u) := Lib.hid (fun h => by rw [hz, hu]; unfold pkE; rw [if_neg (by rw [← hu]; exact h)])
  have HR : Hid (u = 0 → ¬ (0 ≤ peak ∧ peak ≤ 1048576) → z = 3) := Lib.hid (fun h h2 => by rw [hz]; unfold pkE; rw [if_pos (hu.symm.trans h), if_neg h2])
  have HG : Hid (u = 0 → (0 ≤ peak ∧ peak ≤ 1048576) → ∀ k, k < n → peak < drP T k p → z = 17) := Lib.hid (fun h h2 k hk hd => by rw [hz]; unfold pkE; rw [if_pos (hu.symm.trans h), if_pos h2, pkG_no (n := S.lim.length) (k := k) (by omega) (by rw [← hp]; exact hd)]; rfl)
  have HF : Hid (u = 0 → (0 ≤ peak ∧ peak ≤ 1048576) → (∀ k, k < n → drP T k p ≤ peak) → z = if peak = 0 then (if y = 0 then 0 else 19) else (if le = 0 then (if lv = 0 then 19 else 0) else le)) := Lib.hid (fun h h2 h3 => by rw [hz, hle, hlv, hN, hy]; unfold pkE; rw [if_pos (hu.symm.trans h), if_pos h2, if_pos (pkG_ok (fun k hk => by have := h3 k (by omega); rwa [← hp]))])
  have FC : Hid (∀ V, Below w.heap.size w V → Calls Try.prog 41 #[.agg #[.slice A n cA, .slice B nB cB, .slice C nC cC, .slice D nD cD], .slice E m cE, .agg #[.slice P p cP, .slice Q q cQ]] V (fun e w' => e = .returned (.int .i64 u) ∧ Below V.heap.size V w')) := Lib.hid (fun V hV => by rw [hu]; exact CheckPlanR_c A B C D E P Q S cs T n nB nC nD m p q cA cB cC cD cE cP cQ V hn hnB hnC hnD hm hp hq hA hB hC hD hE hP hQ (hS.below hV (Nat.le_refl _)) (hcs.below hV (Nat.le_refl _)) (hT.below hV (Nat.le_refl _)))
  have FD : Hid (u = 0 → ∀ (k : Nat) V, k < n → Below w.heap.size w V → Calls Try.prog 85 #[.agg #[.slice P p cP, .slice Q q cQ], .int .i64 k] V (fun e w' => e = .returned (.int .i64 (drP T k p)) ∧ Below V.heap.size V w')) := Lib.hid (fun h k V hk hV => by
    obtain ⟨_, _, _, _, e1, e2, h8, _, _⟩ := HKB h
    exact drawnR_c P Q T p q cP cQ k V hp hq (by omega) (by omega) hP hQ (hT.below hV (Nat.le_refl _)) (by have := (plE_0 (hu.symm.trans h)).slot (k := k) (by omega); rwa [← hm, ← e1] at this))
  have FX : Hid (u = 0 → ∀ V, Below w.heap.size w V → Calls Try.prog 53 #[.agg #[.slice A n cA, .slice B nB cB, .slice C nC cC, .slice D nD cD], .int .i64 (peak - 1)] V (fun e w' => ∃ (G : Option Addr) (c : Nat), e = .returned (.agg #[.slice G n c, .slice B nB cB, .slice C nC cC, .slice D nD cD]) ∧ (n ≤ c ∧ c ≤ 9223372036854775807) ∧ SiteAt w' G B C D (cpS S (peak - 1)) ∧ Below V.heap.size V w')) := Lib.hid (fun h V hV => by
    obtain ⟨_, _, _, _, _, _, _, h1, h48⟩ := HKB h
    refine (Capped_c A B C D S (peak - 1) n nB nC nD cA cB cC cD V hn (by omega) hA (hS.below hV (Nat.le_refl _)).1).mono ?_
    rintro e w' ⟨G, c, rfl, hc, hO, hb⟩
    exact ⟨G, c, rfl, hc, ((hS.below hV (Nat.le_refl _)).below hb (Nat.le_refl _)).capped hn hO, hb⟩)
  have FB : Hid (u = 0 → 0 < peak → ∀ (G : Option Addr) (c : Nat) V, Below w.heap.size w V → (n ≤ c ∧ c ≤ 9223372036854775807) → SiteAt V G B C D (cpS S (peak - 1)) → Calls Try.prog 77 #[.agg #[.slice G n c, .slice B nB cB, .slice C nC cC, .slice D nD cD], .slice E m cE] V (NtV N k0 l V)) := Lib.hid (fun h hpk G c V hV hc hSV => by
    obtain ⟨h0, rfl, rfl, rfl, _⟩ := HKB h
    exact (net_c G B C D E (cpS S (peak - 1)) cs _ m c cB cC cD cE V (cpS_ok h0 (by omega)) (by rw [cpS_len]; exact hn) hm hc hB hC hD hE hSV (hcs.below hV (Nat.le_refl _))).mono (fun _ _ h => R77.v hN hk hl h))
  have FL : Hid (∀ (G M : Option Addr) (c d : Nat) (V : World), Below w.heap.size w V → NetAt V G M N → (k0 ≤ c ∧ c ≤ 9223372036854775807) → (l ≤ d ∧ d ≤ 9223372036854775807) → Calls Try.prog 19 #[.agg #[.slice G k0 c, .slice M l d], .slice Y y cY] V (fun e w' => e = .returned (.tuple #[.int .i64 lv, .int .i64 le]) ∧ Below V.heap.size V w')) := Lib.hid (fun G M c d V hV hN hc hd => by rw [hle, hlv]; exact LacksR_c G M Y N ps k0 l y c d cY V hk hl hy hc hd hY hN (hI.below hV (Nat.le_refl _)))
  have HKN : Hid (u = 0 → 0 < peak → k0 ≤ 833) := Lib.hid (fun h hpk => by rw [hk, hN]; show (supN (cpS S (peak - 1)) cs).length ≤ 833; rw [supN_len]; exact (nodes_bd (cpS_ok (HKB h).1 (by omega))).1)
  have HKK : Hid (u = 0 → 1 ≤ n ∧ n ≤ 48) := Lib.hid (fun h => (HKB h).2.2.2.2.2.2.2)
  rw [← hz]
  clear HKB hz hn hnB hnC hnD hm hp hq hS hcs hT hI hN hu hle hlv hk hl hy
  have HB := Lib.hid (((Below.refl w.heap.size w).alloc (Nat.le_refl _) (.cells #[.slice A n cA, .slice B nB cB, .slice C nC cC, .slice D nD cD] 51)).alloc (by simp) (.cells #[.slice P p cP, .slice Q q cQ] 55))
  have XS := Lib.hid ((Blk.new' w #[.slice A n cA, .slice B nB cB, .slice C nC cC, .slice D nD cD] 51).alloc (.cells #[.slice P p cP, .slice Q q cQ] 55))
  have XT := Lib.hid (show Blk ((w.alloc (.cells #[.slice A n cA, .slice B nB cB, .slice C nC cC, .slice D nD cD] 51)).alloc (.cells #[.slice P p cP, .slice Q q cQ] 55)) (w.heap.size + 1) 55 [.slice P p cP, .slice Q q cQ] from by simpa using Blk.new' (w.alloc (.cells #[.slice A n cA, .slice B nB cB, .slice C nC cC, .slice D nD cD] 51)) #[.slice P p cP, .slice Q q cQ] 55)
  go_enter Try.func48, Try.ntmps48
  go_upto_region 1 with fail
  generalize (w.alloc (.cells #[.slice A n cA, .slice B nB cB, .slice C nC cC, .slice D nD cD] 51)).alloc (.cells #[.slice P p cP, .slice Q q cQ] 55) = w1 at HB XS XT ⊢
  have s0 := XS.out.cell 0 rfl
  have s1 := XS.out.cell 1 rfl
  have s2 := XS.out.cell 2 rfl
  have s3 := XS.out.cell 3 rfl
  have sl := XS.out.lt
  have t0 := XT.out.cell 0 rfl
  have t1 := XT.out.cell 1 rfl
  have tl := XT.out.lt
  go_wp2_with fail
  refine (FC.out w1 HB.out).mono ?_
  rintro e w2 ⟨rfl, hb⟩
  clear s0 s1 s2 s3 sl t0 t1 tl
  have XS := Lib.hid (XS.out.below hb XS.out.lt)
  have XT := Lib.hid (XT.out.below hb XT.out.lt)
  have HB := Lib.hid (HB.out.trans (hb.mono HB.out.size))
  clear hb
  by_cases h0 : u = 0
  rotate_left
  · have hb0 : (u == 0) = false := by simpa using h0
    have EE : z = u := HZ.out h0
    clear h0
    have s0 := XS.out.cell 0 rfl
    have s1 := XS.out.cell 1 rfl
    have s2 := XS.out.cell 2 rfl
    have s3 := XS.out.cell 3 rfl
    have sl := XS.out.lt
    have t0 := XT.out.cell 0 rfl
    have t1 := XT.out.cell 1 rfl
    have tl := XT.out.lt
    go_wp2_with fail
    refine (FC.out w2 HB.out).mono ?_
    rintro e w3 ⟨rfl, hb⟩
    have HB := Lib.hid (HB.out.trans (hb.mono HB.out.size))
    clear s0 s1 s2 s3 sl t0 t1 tl hb
    go_wp2_with fail
    go_ret
    exact ⟨ret_int EE.symm, HB.out⟩
  have HR1 := Lib.hid (HR.out h0)
  have HG1 := Lib.hid (HG.out h0)
  have HF1 := Lib.hid (HF.out h0)
  have FD1 := Lib.hid (FD.out h0)
  have FX1 := Lib.hid (FX.out h0)
  have FB1 := Lib.hid (FB.out h0)
  have HKN1 := Lib.hid (HKN.out h0)
  have hn48 := HKK.out h0
  clear HR HG HF FD FX FB HKN HKK HZ FC
  subst h0
  by_cases hpk : 0 ≤ peak ∧ peak ≤ 1048576
  rotate_left
  · have hw : inB peak 0 1048576 = false := decide_eq_false hpk
    have EE : z = 3 := HR1.out hpk
    go_wp2_with fail
    refine (within_c _ _ _ _).mono ?_
    rintro e w3 ⟨rfl, rfl⟩
    rw [hw]
    go_wp2_with fail
    go_ret
    exact ⟨ret_int EE.symm, HB.out⟩
  have hw : inB peak 0 1048576 = true := decide_eq_true hpk
  have s0 := XS.out.cell 0 rfl
  have s1 := XS.out.cell 1 rfl
  have s2 := XS.out.cell 2 rfl
  have s3 := XS.out.cell 3 rfl
  have sl := XS.out.lt
  have t0 := XT.out.cell 0 rfl
  have t1 := XT.out.cell 1 rfl
  have tl := XT.out.lt
  go_wp2_with fail
  refine (within_c _ _ _ _).mono ?_
  rintro e w3 ⟨rfl, rfl⟩
  rw [hw]
  go_wp2_with fail
  clear s0 s1 s2 s3 sl t0 t1 tl
  clear hw
  have HJ0 : Hid (Below w.heap.size w w2 ∧ Blk w2 w.heap.size 51 [.slice A n cA, .slice B nB cB, .slice C nC cC, .slice D nD cD] ∧ Blk w2 (w.heap.size + 1) 55 [.slice P p cP, .slice Q q cQ] ∧ ∀ j, j < 0 → drP T j p ≤ peak) := Lib.hid ⟨HB.out, XS.out, XT.out, fun j h => absurd h (Nat.not_lt_zero _)⟩
  go_loopw [11] (fun iv wr => ∃ k : Nat, k ≤ n ∧ iv = .int .i64 k ∧ Hid (Below w.heap.size w wr ∧ Blk wr w.heap.size 51 [.slice A n cA, .slice B nB cB, .slice C nC cC, .slice D nD cD] ∧ Blk wr (w.heap.size + 1) 55 [.slice P p cP, .slice Q q cQ] ∧ ∀ j, j < k → drP T j p ≤ peak)) (fun iv _ => n - (intOf iv).toNat)
  case atStart => exact ⟨0, Nat.zero_le _, rfl, HJ0⟩
  case round =>
    clear HJ0 XS XT HB
    obtain ⟨k, hk, rfl, HJ⟩ := hrel
    have HB := Lib.hid HJ.out.1
    have XS := Lib.hid HJ.out.2.1
    have XT := Lib.hid HJ.out.2.2.1
    have HA := Lib.hid HJ.out.2.2.2
    clear HJ
    by_cases hlt : k < n
    · have hki : (k : Int) < (n : Int) := by omega
      have s0 := XS.out.cell 0 rfl
      have s1 := XS.out.cell 1 rfl
      have s2 := XS.out.cell 2 rfl
      have s3 := XS.out.cell 3 rfl
      have sl := XS.out.lt
      have t0 := XT.out.cell 0 rfl
      have t1 := XT.out.cell 1 rfl
      have tl := XT.out.lt
      go_wp2_with fail
      refine (FD1.out k wr hlt HB.out).mono ?_
      rintro e w4 ⟨rfl, hb⟩
      clear s0 s1 s2 s3 sl t0 t1 tl
      have XS := Lib.hid (XS.out.below hb XS.out.lt)
      have XT := Lib.hid (XT.out.below hb XT.out.lt)
      have HB := Lib.hid (HB.out.trans (hb.mono HB.out.size))
      clear hb
      have HG2 := Lib.hid (HG1.out hpk k hlt)
      have HA2 : Hid (drP T k p ≤ peak → ∀ j, j < k + 1 → drP T j p ≤ peak) := Lib.hid (fun h j hj => by rcases Nat.lt_or_ge j k with h1 | h1; exact HA.out j h1; obtain rfl : j = k := (by omega); exact h)
      generalize drP T k p = dv at *
      by_cases hd : peak < dv
      · have d1 : decide (peak < dv) = true := decide_eq_true hd
        have EE : z = 17 := HG2.out hd
        go_wp2_with fail
        go_ret
        exact ⟨ret_int EE.symm, HB.out⟩
      have d1 : decide (peak < dv) = false := decide_eq_false hd
      have HE : Hid (Below w.heap.size w w4 ∧ Blk w4 w.heap.size 51 [.slice A n cA, .slice B nB cB, .slice C nC cC, .slice D nD cD] ∧ Blk w4 (w.heap.size + 1) 55 [.slice P p cP, .slice Q q cQ] ∧ ∀ j, j < k + 1 → drP T j p ≤ peak) := Lib.hid ⟨HB.out, XS.out, XT.out, HA2.out (by omega)⟩
      go_wp2_with fail
      exact ⟨⟨k + 1, by omega, by go_num, HE⟩, by simp [intOf]; omega⟩
    · obtain rfl : n = k := by omega
      have HF2 := Lib.hid (HF1.out hpk HA.out)
      clear HF1 HG1 HR1 FD1 HA
      have s0 := XS.out.cell 0 rfl
      have s1 := XS.out.cell 1 rfl
      have s2 := XS.out.cell 2 rfl
      have s3 := XS.out.cell 3 rfl
      have sl := XS.out.lt
      have t0 := XT.out.cell 0 rfl
      have t1 := XT.out.cell 1 rfl
      have tl := XT.out.lt
      by_cases hp0 : peak = 0
      · have b0 : (peak == 0) = true := by simpa using hp0
        have HF3 := Lib.hid (HF2.out.trans (if_pos hp0))
        clear hp0 HF2
        by_cases hy : y = 0
        · have EE : z = 0 := HF3.out.trans (if_pos hy)
          have d1 : ((y : Int) == 0) = true := by simp; omega
          clear HF3
          go_wp2_with fail
          go_ret
          exact ⟨ret_int EE.symm, HB.out⟩
        · have EE : z = 19 := HF3.out.trans (if_neg hy)
          have d1 : ((y : Int) == 0) = false := by simp; omega
          clear HF3
          go_wp2_with fail
          go_ret
          exact ⟨ret_int EE.symm, HB.out⟩
      have b0 : (peak == 0) = false := by simpa using hp0
      have HF3 := Lib.hid (HF2.out.trans (if_neg hp0))
      have hpp : 0 < peak := by omega
      have w1s : IntKind.i64.wrap (peak - 1) = peak - 1 := IntWalk.i64_in _ (by omega)
      clear HF2
      go_wp2_with fail
      refine (FX1.out wr HB.out).mono ?_
      rintro e w3 ⟨G, c, rfl, hc, hSA, hb⟩
      clear s0 s1 s2 s3 sl t0 t1 tl w1s
      have HB := Lib.hid (HB.out.trans (hb.mono HB.out.size))
      have HSA := Lib.hid hSA
      have HC := Lib.hid hc
      clear hb hSA hc XS XT
      go_wp2_with fail
      refine (FB1.out hpp G c w3 HB.out HC.out HSA.out).mono ?_
      rintro e w4 ⟨gs, M, c4, rfl, hNA, hc4, hb⟩
      have HB := Lib.hid (HB.out.trans (hb.mono HB.out.size))
      have HC4 := Lib.hid hc4
      have HNA := Lib.hid hNA
      clear hb hNA hc4 HSA HC
      go_wp2_with fail
      refine (FL.out _ _ _ _ w4 HB.out HNA.out ⟨Nat.le_refl _, by have := HKN1.out hpp; omega⟩ HC4.out).mono ?_
      rintro e w5 ⟨rfl, hb⟩
      have HB := Lib.hid (HB.out.trans (hb.mono HB.out.size))
      clear hb HNA
      by_cases h1 : le = 0
      rotate_left
      · have hb1 : (le == 0) = false := by simpa using h1
        have EE : z = le := HF3.out.trans (if_neg h1)
        clear h1
        go_wp2_with fail
        go_ret
        exact ⟨ret_int EE.symm, HB.out⟩
      have HF4 := Lib.hid (HF3.out.trans (if_pos h1))
      clear HF3
      subst h1
      by_cases h2 : lv = 0
      · have EE : z = 19 := HF4.out.trans (if_pos h2)
        subst h2
        go_wp2_with fail
        go_ret
        exact ⟨ret_int EE.symm, HB.out⟩
      have hb2 : (lv == 0) = false := by simpa using h2
      have EE : z = 0 := HF4.out.trans (if_neg h2)
      clear h2
      go_wp2_with fail
      go_ret
      exact ⟨ret_int EE.symm, HB.out⟩
end Go.Proofs.Ytmebpglkeedaoaa
namespace Go.Proofs.Ytmebpglkeedaoaa
open Go.RowKit Dp
@[go_sem] theorem an_0 : bits BinOp.and IntKind.i64 0 1 = 0 := by kernel_rfl
@[go_sem] theorem an_1 : bits BinOp.and IntKind.i64 1 1 = 1 := by kernel_rfl
@[go_sem] theorem an_2 : bits BinOp.and IntKind.i64 2 1 = 0 := by kernel_rfl
@[go_sem] theorem an_3 : bits BinOp.and IntKind.i64 3 1 = 1 := by kernel_rfl
@[go_sem] theorem or_0_1 : bits BinOp.or IntKind.i64 0 1 = 1 := by kernel_rfl
@[go_sem] theorem or_0_2 : bits BinOp.or IntKind.i64 0 2 = 2 := by kernel_rfl
@[go_sem] theorem or_1_1 : bits BinOp.or IntKind.i64 1 1 = 1 := by kernel_rfl
@[go_sem] theorem or_1_2 : bits BinOp.or IntKind.i64 1 2 = 3 := by kernel_rfl
@[go_sem] theorem or_2_1 : bits BinOp.or IntKind.i64 2 1 = 3 := by kernel_rfl
@[go_sem] theorem or_2_2 : bits BinOp.or IntKind.i64 2 2 = 2 := by kernel_rfl
@[go_sem] theorem or_3_1 : bits BinOp.or IntKind.i64 3 1 = 3 := by kernel_rfl
@[go_sem] theorem or_3_2 : bits BinOp.or IntKind.i64 3 2 = 3 := by kernel_rfl
structure AsJ (w : World) (gL gA gB r gb : Nat) (b0 b1 b2 b3 : Int) (W : World) : Prop where
  co : CO W gL gA gB
  res : Blk W r 87 [.slice none 0 0, .int .i64 0, .slice none 0 0, .slice none 0 0]
  best : Blk W gb 2 [.int .i64 b0, .int .i64 b1, .int .i64 b2, .int .i64 b3]
  nL : gL ≠ gb
  nA : gA ≠ gb
  nB : gB ≠ gb
  nr : r ≠ gb
  own : w.heap.size ≤ gb
  bel : Below w.heap.size w W
theorem AsJ.drew {w W : World} {gL gA gB r gb : Nat} {b0 b1 b2 b3 : Int} (h : AsJ w gL gA gB r gb b0 b1 b2 b3 W) : AsJ w gL gA gB r gb b0 b1 b2 b3 W.drew :=
  ⟨⟨h.co.L, h.co.A, h.co.B⟩, h.res, h.best, h.nL, h.nA, h.nB, h.nr, h.own, h.bel.drew⟩
theorem AsJ.set0 {w W : World} {gL gA gB r gb : Nat} {b0 b1 b2 b3 : Int} (h : AsJ w gL gA gB r gb b0 b1 b2 b3 W) (x : Int) : AsJ w gL gA gB r gb x b1 b2 b3 (W.setCell ⟨gb, 0, none⟩ (.int .i64 x)) :=
  ⟨⟨h.co.L.setCell_ne h.nL _, h.co.A.setCell_ne h.nA _, h.co.B.setCell_ne h.nB _⟩, h.res.setCell_ne h.nr _, h.best.setCell 0 _, h.nL, h.nA, h.nB, h.nr, h.own, h.bel.setCell h.own _⟩
theorem AsJ.set1 {w W : World} {gL gA gB r gb : Nat} {b0 b1 b2 b3 : Int} (h : AsJ w gL gA gB r gb b0 b1 b2 b3 W) (x : Int) : AsJ w gL gA gB r gb b0 x b2 b3 (W.setCell ⟨gb, 1, none⟩ (.int .i64 x)) :=
  ⟨⟨h.co.L.setCell_ne h.nL _, h.co.A.setCell_ne h.nA _, h.co.B.setCell_ne h.nB _⟩, h.res.setCell_ne h.nr _, h.best.setCell 1 _, h.nL, h.nA, h.nB, h.nr, h.own, h.bel.setCell h.own _⟩
theorem AsJ.set2 {w W : World} {gL gA gB r gb : Nat} {b0 b1 b2 b3 : Int} (h : AsJ w gL gA gB r gb b0 b1 b2 b3 W) (x : Int) : AsJ w gL gA gB r gb b0 b1 x b3 (W.setCell ⟨gb, 2, none⟩ (.int .i64 x)) :=
  ⟨⟨h.co.L.setCell_ne h.nL _, h.co.A.setCell_ne h.nA _, h.co.B.setCell_ne h.nB _⟩, h.res.setCell_ne h.nr _, h.best.setCell 2 _, h.nL, h.nA, h.nB, h.nr, h.own, h.bel.setCell h.own _⟩
theorem AsJ.start {w V : World} {gL gA gB r : Nat} (h : CO V gL gA gB) (hr : Blk V r 87 [.slice none 0 0, .int .i64 0, .slice none 0 0, .slice none 0 0]) (hb : Below w.heap.size w V) : AsJ w gL gA gB r V.heap.size 0 0 0 0 (V.alloc (.cells (Array.replicate 4 (.int .i64 0)) 2)) := by
  have b2 := hb.alloc hb.size (.cells (Array.replicate 4 (.int .i64 0)) 2)
  have l1 := h.L.lt
  have l2 := h.A.lt
  have l3 := h.B.lt
  have l4 := hr.lt
  have l5 := hb.size
  have r2 := Blk.new' V (Array.replicate 4 (.int .i64 0)) 2
  refine ⟨⟨h.L.alloc _, h.A.alloc _, h.B.alloc _⟩, hr.alloc _, ?_, by omega, by omega, by omega, by omega, by omega, b2⟩
  simpa using r2
def DualsC : Prop := ∀ (gL gA gB : Nat) (V : World), CO V gL gA gB → Calls Try.prog 96 #[.slice (some ⟨gL, 0, none⟩) 2 2, .int .i64 2] V fun e V' => ∃ R rn rc Q qn qc, e = .returned (.tuple #[.slice R rn rc, .slice Q qn qc]) ∧ Below V.heap.size V V'
structure AsM (w : World) (gL gA gB r gb gm : Nat) (A : Option Addr) (n cap : Nat) (cs : List Value) (W : World) : Prop where
  j : AsJ w gL gA gB r gb 3 3 2 0 W
  m : Blk W gm 87 [.slice A n cap, .int .i64 3, .slice none 0 0, .slice none 0 0]
  own : W.ownsRow (gm + 1) 3 1 (.slice A n cap) n cs
  lt : gL < gm ∧ gA < gm ∧ gB < gm ∧ r < gm ∧ gb < gm
theorem AsJ.below {w W V : World} {gL gA gB r gb : Nat} {b0 b1 b2 b3 : Int} (h : AsJ w gL gA gB r gb b0 b1 b2 b3 W) (hb : Below W.heap.size W V) : AsJ w gL gA gB r gb b0 b1 b2 b3 V :=
  ⟨h.co.below hb (Nat.le_refl _), h.res.below hb h.res.lt, h.best.below hb h.best.lt, h.nL, h.nA, h.nB, h.nr, h.own, h.bel.trans (hb.mono h.bel.size)⟩
theorem AsM.below {w W V : World} {gL gA gB r gb gm n cap : Nat} {A : Option Addr} {cs : List Value} (h : AsM w gL gA gB r gb gm A n cap cs W) (hb : Below W.heap.size W V) : AsM w gL gA gB r gb gm A n cap cs V :=
  ⟨h.j.below hb, h.m.below hb h.m.lt, ownBelow h.own hb, h.lt⟩
theorem AsM.alloc {w W : World} {gL gA gB r gb gm n cap : Nat} {A : Option Addr} {cs : List Value} (h : AsM w gL gA gB r gb gm A n cap cs W) (o : Obj) : AsM w gL gA gB r gb gm A n cap cs (W.alloc o) :=
  h.below ((Below.refl _ _).alloc (Nat.le_refl _) o)
theorem AsM.start {w W : World} {gL gA gB r gb : Nat} (h : AsJ w gL gA gB r gb 3 3 2 0 W) : AsM w gL gA gB r gb W.heap.size none 0 0 [] (W.alloc (.cells #[.slice none 0 0, .int .i64 3, .slice none 0 0, .slice none 0 0] 87)) :=
  ⟨h.below ((Below.refl _ _).alloc (Nat.le_refl _) _), Blk.new' W _ 87, World.ownsRow_nil _ _ _ _, h.co.L.lt, h.co.A.lt, h.co.B.lt, h.res.lt, h.best.lt⟩
theorem AsM.mid {w W V : World} {gL gA gB r gb gm n cap : Nat} {A : Option Addr} {cs : List Value} (h : AsM w gL gA gB r gb gm A n cap cs W) (hg : W.grownBy V (Value.slice A n cap).ownBlock) :
    Blk V gm 87 [.slice A n cap, .int .i64 3, .slice none 0 0, .slice none 0 0] ∧ AsJ w gL gA gB r gb 3 3 2 0 V := by
  have hk : ∀ k, (Value.slice A n cap).ownBlock = some k → gm + 1 ≤ k := fun k e => (World.ownsRow.lt h.own k e).1
  have hne : ∀ k, k ≤ gm → some k ≠ (Value.slice A n cap).ownBlock := fun k hk' e => by have := hk k e.symm; omega
  have hl := h.lt
  have ho := h.j.own
  have hbs := h.j.bel.size
  exact ⟨h.m.grown hg (hne _ (Nat.le_refl _)), ⟨h.j.co.L.grown hg (hne _ (by omega)), h.j.co.A.grown hg (hne _ (by omega)), h.j.co.B.grown hg (hne _ (by omega))⟩, h.j.res.grown hg (hne _ (by omega)), h.j.best.grown hg (hne _ (by omega)), h.j.nL, h.j.nA, h.j.nB, h.j.nr, h.j.own, h.j.bel.grown hg hbs (fun k e => by have := hk k e; omega)⟩
theorem AsM.push {w W V : World} {gL gA gB r gb gm n cap n2 cap2 : Nat} {A A2 : Option Addr} {cs cs2 : List Value} (h : AsM w gL gA gB r gb gm A n cap cs W) (hg : W.grownBy V (Value.slice A n cap).ownBlock)
    (ho : V.ownsRow (gm + 1) 3 1 (.slice A2 n2 cap2) n2 cs2) : AsM w gL gA gB r gb gm A2 n2 cap2 cs2 (V.setCell ⟨gm, 0, none⟩ (.slice A2 n2 cap2)) := by
  obtain ⟨m2, j2⟩ := h.mid hg
  have hl := h.lt
  have ho2 := h.j.own
  refine ⟨⟨⟨j2.co.L.setCell_ne (by simp; omega) _, j2.co.A.setCell_ne (by simp; omega) _, j2.co.B.setCell_ne (by simp; omega) _⟩, j2.res.setCell_ne (by simp; omega) _, j2.best.setCell_ne (by simp; omega) _, j2.nL, j2.nA, j2.nB, j2.nr, j2.own, j2.bel.setCell (by simp; omega) _⟩, m2.setCell 0 _, ?_, hl⟩
  exact ownGrown ho ⟨rfl, rfl, rfl, by simp [World.setCell], fun k hk hne => Below.heap_setCell _ _ _ _ (fun e => hne (by rw [e]))⟩ (row := some gm) (fun k hk e => by
    have := (World.ownsRow.lt ho k (ownB_iff.1 hk)).1
    cases e; omega)
theorem final {w W : World} {gL gA gB r gb gm n cap : Nat} {A : Option Addr} {cs : List Value} (h : AsM w gL gA gB r gb gm A n cap cs W) (R Q : Option Addr) (rn rc qn qc : Nat) (U : World := (W.setCell ⟨gm, 2, none⟩ (.slice R rn rc)).setCell ⟨gm, 3, none⟩ (.slice Q qn qc)) (hU : U = (W.setCell ⟨gm, 2, none⟩ (.slice R rn rc)).setCell ⟨gm, 3, none⟩ (.slice Q qn qc) := by rfl) :
    Blk U r 87 [.slice none 0 0, .int .i64 0, .slice none 0 0, .slice none 0 0] ∧ Blk U gm 87 [.slice A n cap, .int .i64 3, .slice R rn rc, .slice Q qn qc] ∧ U.ownsRow (gm + 1) 3 1 (.slice A n cap) n cs ∧ Below w.heap.size w U := by
  subst hU
  have hl := h.lt
  have ho := h.j.own
  have row : ∀ (V : World) (o : Nat) (x : Value), V.ownsRow (gm + 1) 3 1 (.slice A n cap) n cs → (V.setCell ⟨gm, o, none⟩ x).ownsRow (gm + 1) 3 1 (.slice A n cap) n cs := fun V o x hV =>
    ownGrown hV ⟨rfl, rfl, rfl, by simp [World.setCell], fun k hk hne => Below.heap_setCell _ _ _ _ (fun e => hne (by rw [e]))⟩ (row := some gm) (fun k hk e => by
      have := (World.ownsRow.lt hV k (ownB_iff.1 hk)).1
      cases e; omega)
  exact ⟨(h.j.res.setCell_ne (by simp; omega) _).setCell_ne (by simp; omega) _, (h.m.setCell 2 _).setCell 3 _, row _ _ _ (row _ _ _ h.own), (h.j.bel.setCell (by simp; omega) _).setCell (by simp; omega) _⟩
theorem final2 {w U : World} {r gm n cap : Nat} {A R Q : Option Addr} {cs : List Value} {rn rc qn qc : Nat} (h : Blk U r 87 [.slice none 0 0, .int .i64 0, .slice none 0 0, .slice none 0 0] ∧ Blk U gm 87 [.slice A n cap, .int .i64 3, .slice R rn rc, .slice Q qn qc] ∧ U.ownsRow (gm + 1) 3 1 (.slice A n cap) n cs ∧ Below w.heap.size w U)
    (hr : w.heap.size ≤ r) (hm : r < gm) (Z : World) (hZ : Z = (((U.setCell ⟨r, 0, none⟩ (.slice A n cap)).setCell ⟨r, 1, none⟩ (.int .i64 3)).setCell ⟨r, 2, none⟩ (.slice R rn rc)).setCell ⟨r, 3, none⟩ (.slice Q qn qc)) :
    Blk Z r 87 [.slice A n cap, .int .i64 3, .slice R rn rc, .slice Q qn qc] ∧ Z.ownsRow w.heap.size 3 1 (.slice A n cap) n cs ∧ Below w.heap.size w Z := by
  subst hZ
  have row : ∀ (V : World) (o : Nat) (x : Value), V.ownsRow (gm + 1) 3 1 (.slice A n cap) n cs → (V.setCell ⟨r, o, none⟩ x).ownsRow (gm + 1) 3 1 (.slice A n cap) n cs := fun V o x hV =>
    ownGrown hV ⟨rfl, rfl, rfl, by simp [World.setCell], fun k hk hne => Below.heap_setCell _ _ _ _ (fun e => hne (by rw [e]))⟩ (row := some r) (fun k hk e => by
      have := (World.ownsRow.lt hV k (ownB_iff.1 hk)).1
      cases e; omega)
  have ro := row _ 3 (.slice Q qn qc) (row _ 2 (.slice R rn rc) (row _ 1 (.int .i64 3) (row _ 0 (.slice A n cap) h.2.2.1)))
  exact ⟨(((h.1.setCell 0 _).setCell 1 _).setCell 2 _).setCell 3 _, ⟨ro.1, ro.2.imp id (fun ⟨k, c, cur, hv, hb', r⟩ => ⟨k, c, cur, hv, by omega, r⟩)⟩, (((h.2.2.2.setCell hr _).setCell hr _).setCell hr _).setCell hr _⟩
set_option maxHeartbeats 4000000 in
set_option maxRecDepth 100000 in
theorem Assign_c (HD : DualsC) (gL gA gB : Nat) (w : World) (h : CO w gL gA gB) : Calls Try.prog 56 #[.slice (some ⟨gL, 0, none⟩) 2 2] w fun e w' => ∃ A c R rn rc Q qn qc, e = .returned (.tuple #[.agg #[.slice A 2 c, .int .i64 3, .slice R rn rc, .slice Q qn qc], .int .i64 0]) ∧ w'.ownsRow w.heap.size 3 1 (.slice A 2 c) 2 [.int .i64 1, .int .i64 0] ∧ Below w.heap.size w w' := by
  have HB := Lib.hid ((Below.refl w.heap.size w).alloc (Nat.le_refl _) (.cells #[.slice none 0 0, .int .i64 0, .slice none 0 0, .slice none 0 0] 87))
  have HR := Lib.hid (Blk.new' w #[.slice none 0 0, .int .i64 0, .slice none 0 0, .slice none 0 0] 87)
  have B1 := Lib.hid (h.below HB.out (Nat.le_refl _))
  obtain ⟨i3, h3i, h3z, h3s, h3b⟩ := info_parts info3
  clear h
  go_enter Try.func56, Try.ntmps56
  go_wp2_with fail
  go_step3
  generalize w.alloc (.cells #[.slice none 0 0, .int .i64 0, .slice none 0 0, .slice none 0 0] 87) = w1 at HB HR B1 ⊢
  obtain ⟨r, hr⟩ : ∃ r, r = w.heap.size := ⟨_, rfl⟩
  rw [← hr] at HR ⊢
  have HRR : Hid (w.heap.size ≤ r) := Lib.hid (Nat.le_of_eq hr.symm)
  clear hr
  go_wp2_with fail
  refine (checkCosts_c gL gA gB _ B1.out).mono ?_
  rintro e w2 ⟨rfl, rfl⟩
  go_wp2_with fail
  have l0 := B1.out.L.cell 0 rfl
  have l9 := B1.out.L.lt
  refine wp_region_past (by kernel_rfl) (by kernel_rfl) ?_
  repeat (go_big_quiet_step (fail))
  refine wpQuiet_nil ?_
  intro xx
  have J1 := Lib.hid (AsJ.start (B1.out.below xx.far (Nat.le_refl _)) (HR.out.below xx.far HR.out.lt) (HB.out.trans (xx.far.mono HB.out.size)))
  clear l0 l9 B1 HR HB
  generalize xx.w = w2 at J1 ⊢
  have hm1 : ∀ W : World, (Instr.makeSlice 22 (.int .i64 4) (.int .i64 4)).run Try.prog W = .ok (.slice (some ⟨W.heap.size, 0, none⟩) 4 4) (W.alloc (.cells (Array.replicate 4 (.int .i64 0)) 2)) := make_64 4 (by omega)
  generalize hgb : w2.heap.size = gb at *
  go_upto_region 6 with fail
  generalize w2.alloc (.cells (Array.replicate 4 (.int .i64 0)) 2) = w3 at J1 ⊢
  go_wp2_with fail
  refine wp_loop_rounds 5 ?_
  rw [rounds_succ]
  go_wp2_with fail
  refine (ones_3 _).mono ?_
  rintro e w2 ⟨rfl, rfl⟩
  go_wp2_with fail
  rw [rounds_succ]
  go_wp2_with fail
  refine (ones_2 _).mono ?_
  rintro e w2 ⟨rfl, rfl⟩
  have l0 := J1.out.co.L.cell 0 rfl
  have l1 := J1.out.co.L.cell 1 rfl
  have a0 := J1.out.co.A.cell 0 rfl
  have a1 := J1.out.co.A.cell 1 rfl
  have b0 := J1.out.co.B.cell 0 rfl
  have b1 := J1.out.co.B.cell 1 rfl
  have s0 := J1.out.best.cell 0 rfl
  have s1 := J1.out.best.cell 1 rfl
  have s2 := J1.out.best.cell 2 rfl
  have s3 := J1.out.best.cell 3 rfl
  have z0 := J1.out.best.free 0
  have z1 := J1.out.best.free 1
  have z2 := J1.out.best.free 2
  have z3 := J1.out.best.free 3
  go_upto_region 12 with fail
  clear l0 l1 a0 a1 b0 b1 s0 s1 s2 s3 z0 z1 z2 z3
  refine gen_world (fun W => AsJ w gL gA gB r gb 0 0 1152921504606846976 0 W) (J1.out.set2 1152921504606846976) ?_
  rintro w12 hj
  have J2 := Lib.hid hj
  clear hj
  have l0 := J2.out.co.L.cell 0 rfl
  have l1 := J2.out.co.L.cell 1 rfl
  have a0 := J2.out.co.A.cell 0 rfl
  have a1 := J2.out.co.A.cell 1 rfl
  have b0 := J2.out.co.B.cell 0 rfl
  have b1 := J2.out.co.B.cell 1 rfl
  have s0 := J2.out.best.cell 0 rfl
  have s1 := J2.out.best.cell 1 rfl
  have s2 := J2.out.best.cell 2 rfl
  have s3 := J2.out.best.cell 3 rfl
  have z0 := J2.out.best.free 0
  have z1 := J2.out.best.free 1
  have z2 := J2.out.best.free 2
  have z3 := J2.out.best.free 3
  go_wp2_with fail
  refine wp_loop_rounds 3 ?_
  rw [rounds_succ]
  go_wp2_with fail
  clear l0 l1 a0 a1 b0 b1 s0 s1 s2 s3 z0 z1 z2 z3
  refine wp_region_spine 17 [false] [] ?af_2_0 (fun V => AsJ w gL gA gB r gb 0 0 1152921504606846976 0 V) (by kernel_rfl) (by kernel_rfl) J2.out.drew ?walk_2_0 ?_
  case walk_2_0 =>
    intro V hV
    have s2 := hV.best.cell 2 rfl
    have s3 := hV.best.cell 3 rfl
    have hmx : ∀ ts t W, (Builtin.min_ ts t #[.int .i64 1152921504606846976, .int .i64 2]).run Try.prog W = .ok (.int .i64 2) W := fun ts t W => min_i64 1152921504606846976 2 ts t W
    clear hV
    simp only [List.take_succ_cons, List.take_zero]
    repeat (go_big_quiet_step (fail))
    refine wpQuiet_nil ?_
    rfl
  intro w13 hV
  have J3 := Lib.hid (hV.set2 2)
  have s2 := hV.best.cell 2 rfl
  have z2 := hV.best.free 2
  clear hV
  refine spineV_cons ?_
  unfold StepV
  go_simp
  generalize w13.setCell ⟨gb, 2, none⟩ (.int .i64 2) = w14 at J3 ⊢
  clear s2 z2
  refine spineV_nil ?_
  go_wp2_with fail
  have J4 := J3
  have l0 := J4.out.co.L.cell 0 rfl
  have l1 := J4.out.co.L.cell 1 rfl
  have a0 := J4.out.co.A.cell 0 rfl
  have a1 := J4.out.co.A.cell 1 rfl
  have b0 := J4.out.co.B.cell 0 rfl
  have b1 := J4.out.co.B.cell 1 rfl
  have s0 := J4.out.best.cell 0 rfl
  have s1 := J4.out.best.cell 1 rfl
  have s2 := J4.out.best.cell 2 rfl
  have s3 := J4.out.best.cell 3 rfl
  have z0 := J4.out.best.free 0
  have z1 := J4.out.best.free 1
  have z2 := J4.out.best.free 2
  have z3 := J4.out.best.free 3
  rw [rounds_succ]
  go_wp2_with fail
  rw [rounds_succ]
  go_wp2_with fail
  clear l0 l1 a0 a1 b0 b1 s0 s1 s2 s3 z0 z1 z2 z3
  rw [rounds_succ]
  go_wp2_with fail
  refine (ones_1 _).mono ?_
  rintro e w2 ⟨rfl, rfl⟩
  have l0 := J4.out.co.L.cell 0 rfl
  have l1 := J4.out.co.L.cell 1 rfl
  have a0 := J4.out.co.A.cell 0 rfl
  have a1 := J4.out.co.A.cell 1 rfl
  have b0 := J4.out.co.B.cell 0 rfl
  have b1 := J4.out.co.B.cell 1 rfl
  have s0 := J4.out.best.cell 0 rfl
  have s1 := J4.out.best.cell 1 rfl
  have s2 := J4.out.best.cell 2 rfl
  have s3 := J4.out.best.cell 3 rfl
  have z0 := J4.out.best.free 0
  have z1 := J4.out.best.free 1
  have z2 := J4.out.best.free 2
  have z3 := J4.out.best.free 3
  go_upto_region 12 with fail
  clear l0 l1 a0 a1 b0 b1 s0 s1 s2 s3 z0 z1 z2 z3
  refine gen_world (fun W => AsJ w gL gA gB r gb 0 1152921504606846976 2 0 W) (J4.out.set1 1152921504606846976) ?_
  rintro w15 hj
  have J5 := Lib.hid hj
  clear hj
  have l0 := J5.out.co.L.cell 0 rfl
  have l1 := J5.out.co.L.cell 1 rfl
  have a0 := J5.out.co.A.cell 0 rfl
  have a1 := J5.out.co.A.cell 1 rfl
  have b0 := J5.out.co.B.cell 0 rfl
  have b1 := J5.out.co.B.cell 1 rfl
  have s0 := J5.out.best.cell 0 rfl
  have s1 := J5.out.best.cell 1 rfl
  have s2 := J5.out.best.cell 2 rfl
  have s3 := J5.out.best.cell 3 rfl
  have z0 := J5.out.best.free 0
  have z1 := J5.out.best.free 1
  have z2 := J5.out.best.free 2
  have z3 := J5.out.best.free 3
  go_wp2_with fail
  refine wp_loop_rounds 3 ?_
  rw [rounds_succ]
  go_wp2_with fail
  rw [rounds_succ]
  go_wp2_with fail
  clear l0 l1 a0 a1 b0 b1 s0 s1 s2 s3 z0 z1 z2 z3
  refine wp_region_spine 17 [false] [] ?af_1_1 (fun V => AsJ w gL gA gB r gb 0 1152921504606846976 2 0 V) (by kernel_rfl) (by kernel_rfl) J5.out.drew ?walk_1_1 ?_
  case walk_1_1 =>
    intro V hV
    have s1 := hV.best.cell 1 rfl
    have s3 := hV.best.cell 3 rfl
    have hmx : ∀ ts t W, (Builtin.min_ ts t #[.int .i64 1152921504606846976, .int .i64 3]).run Try.prog W = .ok (.int .i64 3) W := fun ts t W => min_i64 1152921504606846976 3 ts t W
    clear hV
    simp only [List.take_succ_cons, List.take_zero]
    repeat (go_big_quiet_step (fail))
    refine wpQuiet_nil ?_
    rfl
  intro w16 hV
  have J6 := Lib.hid (hV.set1 3)
  have s1 := hV.best.cell 1 rfl
  have z1 := hV.best.free 1
  clear hV
  refine spineV_cons ?_
  unfold StepV
  go_simp
  generalize w16.setCell ⟨gb, 1, none⟩ (.int .i64 3) = w17 at J6 ⊢
  clear s1 z1
  refine spineV_nil ?_
  go_wp2_with fail
  have J7 := J6
  have l0 := J7.out.co.L.cell 0 rfl
  have l1 := J7.out.co.L.cell 1 rfl
  have a0 := J7.out.co.A.cell 0 rfl
  have a1 := J7.out.co.A.cell 1 rfl
  have b0 := J7.out.co.B.cell 0 rfl
  have b1 := J7.out.co.B.cell 1 rfl
  have s0 := J7.out.best.cell 0 rfl
  have s1 := J7.out.best.cell 1 rfl
  have s2 := J7.out.best.cell 2 rfl
  have s3 := J7.out.best.cell 3 rfl
  have z0 := J7.out.best.free 0
  have z1 := J7.out.best.free 1
  have z2 := J7.out.best.free 2
  have z3 := J7.out.best.free 3
  rw [rounds_succ]
  go_wp2_with fail
  clear l0 l1 a0 a1 b0 b1 s0 s1 s2 s3 z0 z1 z2 z3
  rw [rounds_succ]
  go_wp2_with fail
  refine (ones_0 _).mono ?_
  rintro e w2 ⟨rfl, rfl⟩
  have l0 := J7.out.co.L.cell 0 rfl
  have l1 := J7.out.co.L.cell 1 rfl
  have a0 := J7.out.co.A.cell 0 rfl
  have a1 := J7.out.co.A.cell 1 rfl
  have b0 := J7.out.co.B.cell 0 rfl
  have b1 := J7.out.co.B.cell 1 rfl
  have s0 := J7.out.best.cell 0 rfl
  have s1 := J7.out.best.cell 1 rfl
  have s2 := J7.out.best.cell 2 rfl
  have s3 := J7.out.best.cell 3 rfl
  have z0 := J7.out.best.free 0
  have z1 := J7.out.best.free 1
  have z2 := J7.out.best.free 2
  have z3 := J7.out.best.free 3
  go_upto_region 12 with fail
  clear l0 l1 a0 a1 b0 b1 s0 s1 s2 s3 z0 z1 z2 z3
  refine gen_world (fun W => AsJ w gL gA gB r gb 1152921504606846976 3 2 0 W) (J7.out.set0 1152921504606846976) ?_
  rintro w18 hj
  have J8 := Lib.hid hj
  clear hj
  have l0 := J8.out.co.L.cell 0 rfl
  have l1 := J8.out.co.L.cell 1 rfl
  have a0 := J8.out.co.A.cell 0 rfl
  have a1 := J8.out.co.A.cell 1 rfl
  have b0 := J8.out.co.B.cell 0 rfl
  have b1 := J8.out.co.B.cell 1 rfl
  have s0 := J8.out.best.cell 0 rfl
  have s1 := J8.out.best.cell 1 rfl
  have s2 := J8.out.best.cell 2 rfl
  have s3 := J8.out.best.cell 3 rfl
  have z0 := J8.out.best.free 0
  have z1 := J8.out.best.free 1
  have z2 := J8.out.best.free 2
  have z3 := J8.out.best.free 3
  go_wp2_with fail
  refine wp_loop_rounds 3 ?_
  rw [rounds_succ]
  go_wp2_with fail
  clear l0 l1 a0 a1 b0 b1 s0 s1 s2 s3 z0 z1 z2 z3
  refine wp_region_spine 17 [false] [] ?af_0_0 (fun V => AsJ w gL gA gB r gb 1152921504606846976 3 2 0 V) (by kernel_rfl) (by kernel_rfl) J8.out.drew ?walk_0_0 ?_
  case walk_0_0 =>
    intro V hV
    have s0 := hV.best.cell 0 rfl
    have s1 := hV.best.cell 1 rfl
    have hmx : ∀ ts t W, (Builtin.min_ ts t #[.int .i64 1152921504606846976, .int .i64 7]).run Try.prog W = .ok (.int .i64 7) W := fun ts t W => min_i64 1152921504606846976 7 ts t W
    clear hV
    simp only [List.take_succ_cons, List.take_zero]
    repeat (go_big_quiet_step (fail))
    refine wpQuiet_nil ?_
    rfl
  intro w19 hV
  have J9 := Lib.hid (hV.set0 7)
  have s0 := hV.best.cell 0 rfl
  have z0 := hV.best.free 0
  clear hV
  refine spineV_cons ?_
  unfold StepV
  go_simp
  generalize w19.setCell ⟨gb, 0, none⟩ (.int .i64 7) = w20 at J9 ⊢
  clear s0 z0
  refine spineV_nil ?_
  go_wp2_with fail
  have J10 := J9
  have l0 := J10.out.co.L.cell 0 rfl
  have l1 := J10.out.co.L.cell 1 rfl
  have a0 := J10.out.co.A.cell 0 rfl
  have a1 := J10.out.co.A.cell 1 rfl
  have b0 := J10.out.co.B.cell 0 rfl
  have b1 := J10.out.co.B.cell 1 rfl
  have s0 := J10.out.best.cell 0 rfl
  have s1 := J10.out.best.cell 1 rfl
  have s2 := J10.out.best.cell 2 rfl
  have s3 := J10.out.best.cell 3 rfl
  have z0 := J10.out.best.free 0
  have z1 := J10.out.best.free 1
  have z2 := J10.out.best.free 2
  have z3 := J10.out.best.free 3
  rw [rounds_succ]
  go_wp2_with fail
  clear l0 l1 a0 a1 b0 b1 s0 s1 s2 s3 z0 z1 z2 z3
  refine wp_region_spine 17 [false] [] ?af_0_1 (fun V => AsJ w gL gA gB r gb 7 3 2 0 V) (by kernel_rfl) (by kernel_rfl) J10.out.drew ?walk_0_1 ?_
  case walk_0_1 =>
    intro V hV
    have s0 := hV.best.cell 0 rfl
    have s2 := hV.best.cell 2 rfl
    have hmx : ∀ ts t W, (Builtin.min_ ts t #[.int .i64 7, .int .i64 3]).run Try.prog W = .ok (.int .i64 3) W := fun ts t W => min_i64 7 3 ts t W
    clear hV
    simp only [List.take_succ_cons, List.take_zero]
    repeat (go_big_quiet_step (fail))
    refine wpQuiet_nil ?_
    rfl
  intro w21 hV
  have J11 := Lib.hid (hV.set0 3)
  have s0 := hV.best.cell 0 rfl
  have z0 := hV.best.free 0
  clear hV
  refine spineV_cons ?_
  unfold StepV
  go_simp
  generalize w21.setCell ⟨gb, 0, none⟩ (.int .i64 3) = w22 at J11 ⊢
  clear s0 z0
  refine spineV_nil ?_
  go_wp2_with fail
  have J12 := J11
  have l0 := J12.out.co.L.cell 0 rfl
  have l1 := J12.out.co.L.cell 1 rfl
  have a0 := J12.out.co.A.cell 0 rfl
  have a1 := J12.out.co.A.cell 1 rfl
  have b0 := J12.out.co.B.cell 0 rfl
  have b1 := J12.out.co.B.cell 1 rfl
  have s0 := J12.out.best.cell 0 rfl
  have s1 := J12.out.best.cell 1 rfl
  have s2 := J12.out.best.cell 2 rfl
  have s3 := J12.out.best.cell 3 rfl
  have z0 := J12.out.best.free 0
  have z1 := J12.out.best.free 1
  have z2 := J12.out.best.free 2
  have z3 := J12.out.best.free 3
  rw [rounds_succ]
  go_wp2_with fail
  rw [rounds_succ]
  go_wp2_with fail
  clear l0 l1 a0 a1 b0 b1 s0 s1 s2 s3 z0 z1 z2 z3
  go_step3
  have M0 := Lib.hid (AsM.start J12.out)
  generalize w22.heap.size = gm at *
  generalize w22.alloc (.cells #[.slice none 0 0, .int .i64 3, .slice none 0 0, .slice none 0 0] 87) = v0 at M0 ⊢
  have l0 := M0.out.j.co.L.cell 0 rfl
  have l1 := M0.out.j.co.L.cell 1 rfl
  have a0 := M0.out.j.co.A.cell 0 rfl
  have a1 := M0.out.j.co.A.cell 1 rfl
  have b0 := M0.out.j.co.B.cell 0 rfl
  have b1 := M0.out.j.co.B.cell 1 rfl
  have s0 := M0.out.j.best.cell 0 rfl
  have s1 := M0.out.j.best.cell 1 rfl
  have s2 := M0.out.j.best.cell 2 rfl
  have s3 := M0.out.j.best.cell 3 rfl
  have z0 := M0.out.j.best.free 0
  have z1 := M0.out.j.best.free 1
  have z2 := M0.out.j.best.free 2
  have z3 := M0.out.j.best.free 3
  have y0 := M0.out.m.cell 0 rfl
  have q0 := M0.out.m.free 0
  have lb := M0.out.j.best.lt
  go_wp2_with fail
  refine wp_loop_rounds 3 ?_
  rw [rounds_succ]
  go_wp2_with fail
  refine wp_loop_rounds 3 ?_
  rw [rounds_succ]
  go_wp2_with fail
  refine wp_region_past (by kernel_rfl) (by kernel_rfl) ?_
  repeat (go_big_quiet_step (fail))
  refine wpQuiet_nil ?_
  intro xx
  have M1 := Lib.hid (M0.out.below xx.far)
  clear l0 l1 a0 a1 b0 b1 s0 s1 s2 s3 z0 z1 z2 z3 y0 q0 lb
  generalize xx.w = v1 at M1 ⊢
  have l0 := M1.out.j.co.L.cell 0 rfl
  have l1 := M1.out.j.co.L.cell 1 rfl
  have a0 := M1.out.j.co.A.cell 0 rfl
  have a1 := M1.out.j.co.A.cell 1 rfl
  have b0 := M1.out.j.co.B.cell 0 rfl
  have b1 := M1.out.j.co.B.cell 1 rfl
  have s0 := M1.out.j.best.cell 0 rfl
  have s1 := M1.out.j.best.cell 1 rfl
  have s2 := M1.out.j.best.cell 2 rfl
  have s3 := M1.out.j.best.cell 3 rfl
  have z0 := M1.out.j.best.free 0
  have z1 := M1.out.j.best.free 1
  have z2 := M1.out.j.best.free 2
  have z3 := M1.out.j.best.free 3
  have y0 := M1.out.m.cell 0 rfl
  have q0 := M1.out.m.free 0
  have lb := M1.out.j.best.lt
  go_wp2_with fail
  rw [rounds_succ]
  go_wp2_with fail
  refine wp_region_past (by kernel_rfl) (by kernel_rfl) ?_
  repeat (go_big_quiet_step (fail))
  refine wpQuiet_nil ?_
  intro xx
  have M2 := Lib.hid (M1.out.below xx.far)
  clear l0 l1 a0 a1 b0 b1 s0 s1 s2 s3 z0 z1 z2 z3 y0 q0 lb
  generalize xx.w = v2 at M2 ⊢
  have l0 := M2.out.j.co.L.cell 0 rfl
  have l1 := M2.out.j.co.L.cell 1 rfl
  have a0 := M2.out.j.co.A.cell 0 rfl
  have a1 := M2.out.j.co.A.cell 1 rfl
  have b0 := M2.out.j.co.B.cell 0 rfl
  have b1 := M2.out.j.co.B.cell 1 rfl
  have s0 := M2.out.j.best.cell 0 rfl
  have s1 := M2.out.j.best.cell 1 rfl
  have s2 := M2.out.j.best.cell 2 rfl
  have s3 := M2.out.j.best.cell 3 rfl
  have z0 := M2.out.j.best.free 0
  have z1 := M2.out.j.best.free 1
  have z2 := M2.out.j.best.free 2
  have z3 := M2.out.j.best.free 3
  have y0 := M2.out.m.cell 0 rfl
  have q0 := M2.out.m.free 0
  have lb := M2.out.j.best.lt
  have MA := Lib.hid (M2.out.alloc (.cells #[.int .i64 1] 3))
  have X := Lib.hid (Blk.new' v2 #[.int .i64 1] 3)
  clear l0 l1 a0 a1 b0 b1 s0 s1 s2 s3 z0 z1 z2 z3 y0 q0 lb
  have y0 := MA.out.m.cell 0 rfl
  have yy := M2.out.m.cell 0 rfl
  go_wp2_with (at_builtin; refine wpList_append_any (.tmp 134) (.tmp 136) 26 rfl rfl (gm + 1) 3 i3 (.int .i64 0) 1 8 Try.underlying26 h3i h3z h3s h3b rfl (by decide) none 0 0 [] (by rfl) MA.out.own (some ⟨v2.heap.size, 0, none⟩) 1 1 [.int .i64 1] (by rfl) (by rfl) (.inr ⟨_, rfl, fun k u hk => by rcases k with _ | k <;> simp at hk; subst hk; exact X.out.cell 0 rfl⟩) (by simp [Value.oneCell']) (by decide) (by decide) (by have := MA.out.m.lt; omega) ?_; intro A1 c1 v hown hgrow hat; have M3 := Lib.hid (show AsM w gL gA gB r gb gm A1 1 c1 [.int .i64 1] (v.setCell ⟨gm, 0, none⟩ (.slice A1 1 c1)) from MA.out.push hgrow hown); have MM := (MA.out.mid hgrow).1; clear y0 yy; have y0 := MM.cell 0 rfl; have q0 := MM.free 0; clear MM hown hgrow hat)
  generalize v.setCell ⟨gm, 0, none⟩ (.slice A1 1 c1) = v3 at M3 ⊢
  clear y0 q0
  have l0 := M3.out.j.co.L.cell 0 rfl
  have l1 := M3.out.j.co.L.cell 1 rfl
  have a0 := M3.out.j.co.A.cell 0 rfl
  have a1 := M3.out.j.co.A.cell 1 rfl
  have b0 := M3.out.j.co.B.cell 0 rfl
  have b1 := M3.out.j.co.B.cell 1 rfl
  have s0 := M3.out.j.best.cell 0 rfl
  have s1 := M3.out.j.best.cell 1 rfl
  have s2 := M3.out.j.best.cell 2 rfl
  have s3 := M3.out.j.best.cell 3 rfl
  have z0 := M3.out.j.best.free 0
  have z1 := M3.out.j.best.free 1
  have z2 := M3.out.j.best.free 2
  have z3 := M3.out.j.best.free 3
  have y0 := M3.out.m.cell 0 rfl
  have q0 := M3.out.m.free 0
  have lb := M3.out.j.best.lt
  rw [rounds_succ]
  go_wp2_with fail
  refine wp_loop_rounds 3 ?_
  rw [rounds_succ]
  go_wp2_with fail
  refine wp_region_past (by kernel_rfl) (by kernel_rfl) ?_
  repeat (go_big_quiet_step (fail))
  refine wpQuiet_nil ?_
  intro xx
  have M4 := Lib.hid (M3.out.below xx.far)
  clear l0 l1 a0 a1 b0 b1 s0 s1 s2 s3 z0 z1 z2 z3 y0 q0 lb
  generalize xx.w = v4 at M4 ⊢
  have l0 := M4.out.j.co.L.cell 0 rfl
  have l1 := M4.out.j.co.L.cell 1 rfl
  have a0 := M4.out.j.co.A.cell 0 rfl
  have a1 := M4.out.j.co.A.cell 1 rfl
  have b0 := M4.out.j.co.B.cell 0 rfl
  have b1 := M4.out.j.co.B.cell 1 rfl
  have s0 := M4.out.j.best.cell 0 rfl
  have s1 := M4.out.j.best.cell 1 rfl
  have s2 := M4.out.j.best.cell 2 rfl
  have s3 := M4.out.j.best.cell 3 rfl
  have z0 := M4.out.j.best.free 0
  have z1 := M4.out.j.best.free 1
  have z2 := M4.out.j.best.free 2
  have z3 := M4.out.j.best.free 3
  have y0 := M4.out.m.cell 0 rfl
  have q0 := M4.out.m.free 0
  have lb := M4.out.j.best.lt
  have MA := Lib.hid (M4.out.alloc (.cells #[.int .i64 0] 3))
  have X := Lib.hid (Blk.new' v4 #[.int .i64 0] 3)
  clear l0 l1 a0 a1 b0 b1 s0 s1 s2 s3 z0 z1 z2 z3 y0 q0 lb
  have y0 := MA.out.m.cell 0 rfl
  have yy := M4.out.m.cell 0 rfl
  go_wp2_with (at_builtin; refine wpList_append_any (.tmp 134) (.tmp 136) 26 rfl rfl (gm + 1) 3 i3 (.int .i64 0) 1 8 Try.underlying26 h3i h3z h3s h3b rfl (by decide) A1 1 c1 [.int .i64 1] (by rfl) MA.out.own (some ⟨v4.heap.size, 0, none⟩) 1 1 [.int .i64 0] (by rfl) (by rfl) (.inr ⟨_, rfl, fun k u hk => by rcases k with _ | k <;> simp at hk; subst hk; exact X.out.cell 0 rfl⟩) (by simp [Value.oneCell']) (by decide) (by decide) (by have := MA.out.m.lt; omega) ?_; intro A2 c2 v hown hgrow hat; have M5 := Lib.hid (show AsM w gL gA gB r gb gm A2 2 c2 [.int .i64 1, .int .i64 0] (v.setCell ⟨gm, 0, none⟩ (.slice A2 2 c2)) from MA.out.push hgrow hown); have MM := (MA.out.mid hgrow).1; clear y0 yy; have y0 := MM.cell 0 rfl; have q0 := MM.free 0; clear MM hown hgrow hat)
  generalize v.setCell ⟨gm, 0, none⟩ (.slice A2 2 c2) = v5 at M5 ⊢
  clear y0 q0
  have l0 := M5.out.j.co.L.cell 0 rfl
  have l1 := M5.out.j.co.L.cell 1 rfl
  have a0 := M5.out.j.co.A.cell 0 rfl
  have a1 := M5.out.j.co.A.cell 1 rfl
  have b0 := M5.out.j.co.B.cell 0 rfl
  have b1 := M5.out.j.co.B.cell 1 rfl
  have s0 := M5.out.j.best.cell 0 rfl
  have s1 := M5.out.j.best.cell 1 rfl
  have s2 := M5.out.j.best.cell 2 rfl
  have s3 := M5.out.j.best.cell 3 rfl
  have z0 := M5.out.j.best.free 0
  have z1 := M5.out.j.best.free 1
  have z2 := M5.out.j.best.free 2
  have z3 := M5.out.j.best.free 3
  have y0 := M5.out.m.cell 0 rfl
  have q0 := M5.out.m.free 0
  have lb := M5.out.j.best.lt
  rw [rounds_succ]
  go_wp2_with fail
  refine (HD gL gA gB _ M5.out.j.co).mono ?_
  rintro e v ⟨R, rn, rc, Q, qn, qc, rfl, hb⟩
  have M6 := Lib.hid (M5.out.below hb)
  clear hb
  clear l0 l1 a0 a1 b0 b1 s0 s1 s2 s3 z0 z1 z2 z3 y0 q0 lb
  have F := Lib.hid (final M6.out R Q rn rc qn qc)
  have y0 := M6.out.m.cell 0 rfl
  have y1 := M6.out.m.cell 1 rfl
  have y2 := M6.out.m.cell 2 rfl
  have y3 := M6.out.m.cell 3 rfl
  have q2 := M6.out.m.free 2
  have q3 := M6.out.m.free 3
  go_upto_region 34 with fail
  generalize (v.setCell ⟨gm, 2, none⟩ (.slice R rn rc)).setCell ⟨gm, 3, none⟩ (.slice Q qn qc) = u at F ⊢
  clear y0 y1 y2 y3 q2 q3
  have y0 := F.out.2.1.cell 0 rfl
  have y1 := F.out.2.1.cell 1 rfl
  have y2 := F.out.2.1.cell 2 rfl
  have y3 := F.out.2.1.cell 3 rfl
  have x0 := F.out.1.cell 0 rfl
  have x1 := F.out.1.cell 1 rfl
  have x2 := F.out.1.cell 2 rfl
  have x3 := F.out.1.cell 3 rfl
  have p0 := F.out.1.free 0
  have p1 := F.out.1.free 1
  have p2 := F.out.1.free 2
  have p3 := F.out.1.free 3
  go_wp2_with fail
  have Z := Lib.hid (final2 F.out HRR.out M6.out.lt.2.2.2.1 _ rfl)
  rw [Exit.noGoto_ret]
  generalize (((u.setCell ⟨r, 0, none⟩ (.slice A2 2 c2)).setCell ⟨r, 1, none⟩ (.int .i64 3)).setCell ⟨r, 2, none⟩ (.slice R rn rc)).setCell ⟨r, 3, none⟩ (.slice Q qn qc) = z at Z ⊢
  clear y0 y1 y2 y3 x0 x1 x2 x3 p0 p1 p2 p3
  have x0 := Z.out.1.cell 0 rfl
  have x1 := Z.out.1.cell 1 rfl
  have x2 := Z.out.1.cell 2 rfl
  have x3 := Z.out.1.cell 3 rfl
  exact bodyPost_ret (v := .tuple #[.agg #[.slice A2 2 c2, .int .i64 3, .slice R rn rc, .slice Q qn qc], .int .i64 0]) (by simp [results, Try.results56, go_sem, x0, x1, x2, x3]) rfl ⟨A2, c2, R, rn, rc, Q, qn, qc, rfl, Z.out.2⟩
end Go.Proofs.Ytmebpglkeedaoaa
namespace Go.Proofs.Ytmebpglkeedaoaa
open Go.RowKit Dp
def duN : Net := ⟨[1, 1, 0, 0, -2], [⟨0, 2, 1, 4⟩, ⟨0, 3, 1, 1⟩, ⟨1, 2, 1, 2⟩, ⟨1, 3, 1, 3⟩, ⟨2, 4, 1, 0⟩, ⟨3, 4, 1, 0⟩]⟩
theorem duN_ch : chE duN = 0 := by decide
theorem duN_flow : isFlow duN [0, 1, 1, 0, 1, 1] = true := by decide
theorem five {p : List Int} (h : p.length = 5) : ∃ a b c d e, p = [a, b, c, d, e] := by
  rcases p with _ | ⟨a, _ | ⟨b, _ | ⟨c, _ | ⟨d, _ | ⟨e, _ | ⟨f, t⟩⟩⟩⟩⟩⟩ <;> simp at h
  exact ⟨a, b, c, d, e, rfl⟩
theorem du_least {w w' : World} {e : Ending} (h : LeastP duN w e w') : ∃ gf gp p0 p1 p2 p3 p4, e = .returned (.tuple #[.slice (some ⟨gf, 0, none⟩) 6 6, .slice (some ⟨gp, 0, none⟩) 5 5, .int .i64 0]) ∧
    Blk w' gp 2 [.int .i64 p0, .int .i64 p1, .int .i64 p2, .int .i64 p3, .int .i64 p4] ∧ w.heap.size ≤ gp ∧ (-1073741824 ≤ p2 ∧ p2 ≤ 1073741824) ∧ (-1073741824 ≤ p3 ∧ p3 ≤ 1073741824) ∧ (-1073741824 ≤ p4 ∧ p4 ≤ 1073741824) := by
  rcases h with ⟨h, _⟩ | ⟨_, gf, gp, fl, p, rfl, _, hp, _, hg, _, _, hl, hb, _⟩ | ⟨_, _, _, _, _, h⟩
  · exact absurd duN_ch h
  · obtain ⟨a, b, c, d, e, rfl⟩ := five hl
    exact ⟨gf, gp, a, b, c, d, e, rfl, hp, hg, potOk_iff.1 (hb 2 (by simp)), potOk_iff.1 (hb 3 (by simp)), potOk_iff.1 (hb 4 (by simp))⟩
  · have := h [0, 1, 1, 0, 1, 1]
    rw [duN_flow] at this
    cases this
theorem BuJ.start {w V : World} {gL gA gB : Nat} (h : CO V gL gA gB) (hb : Below w.heap.size w V) : BuJ w gL gA gB V.heap.size (V.heap.size + 1) none 0 0 [0, 0, 0, 0, 0] [] ((V.alloc (.cells (Array.replicate 5 (.int .i64 0)) 2)).alloc (.cells #[.slice (some ⟨V.heap.size, 0, none⟩) 5 5, .slice none 0 0, .slice none 0 0, .slice none 0 0] 125)) := by
  have b2 := (hb.alloc hb.size (.cells (Array.replicate 5 (.int .i64 0)) 2))
  have b3 := b2.alloc b2.size (.cells #[.slice (some ⟨V.heap.size, 0, none⟩) 5 5, .slice none 0 0, .slice none 0 0, .slice none 0 0] 125)
  have f := fl_new 2 5 V
  have x := Blk.new' (V.alloc (.cells (Array.replicate 5 (.int .i64 0)) 2)) #[.slice (some ⟨V.heap.size, 0, none⟩) 5 5, .slice none 0 0, .slice none 0 0, .slice none 0 0] 125
  refine ⟨⟨(h.L.alloc _).alloc _, (h.A.alloc _).alloc _, (h.B.alloc _).alloc _⟩, ?_, ?_, World.ownsRow_nil _ _ _ _, ⟨h.L.lt, h.A.lt, h.B.lt, Nat.lt_succ_self _, hb.size⟩, b3⟩
  · simpa using x
  · exact Blk.alloc f _
theorem BuJ.net {w W : World} {gL gA gB gs gb cap : Nat} {A : Option Addr} (h : BuJ w gL gA gB gs gb A 6 cap duN.sup duN.arcs W) : NetAt W (some ⟨gs, 0, none⟩) A duN ∧ 6 ≤ cap ∧ cap ≤ 9223372036854775807 := by
  have hA := h.own
  obtain ⟨g, c, hv, hb, hlt⟩ := hA.form (by omega)
  cases hv
  refine ⟨⟨h.s.ints, fun i hi => ?_⟩, ?_⟩
  · have hi6 : i < 6 := hi
    have hc : ∀ j, j < 4 → W.cell? ⟨g, i * 4 + j, none⟩ = (arcV (duN.arcs.getD i default))[j]? := fun j hj => by
      rw [World.ownsRow.cellAt hA (i * 4 + j) (by omega)]
      exact flat_get (f := arcV) (s := 4) (fun _ => rfl) _ _ _ _ (getElem_D _ _ _ hi) hj
    have had : (⟨g, 0, none⟩ : Addr).add (i * 4) = ⟨g, i * 4, none⟩ := by unfold Addr.add; split <;> simp_all
    exact ⟨⟨g, 0, none⟩, rfl, hlt, by rw [had]; exact hc 0 (by omega), by rw [had]; exact hc 1 (by omega), by rw [had]; exact hc 2 (by omega), by rw [had]; exact hc 3 (by omega)⟩
  · rcases hA.2 with ⟨h0, _⟩ | ⟨g', c', cur, hv, _, _, hc1, hc2, _⟩
    · simp at h0
    · cases hv
      unfold maxLen at hc2
      omega
structure PrJ (w : World) (gL gA gB gp : Nat) (p0 p1 p2 p3 p4 : Int) (b : Nat) (A : Option Addr) (n cap : Nat) (cs : List Value) (W : World) : Prop where
  co : CO W gL gA gB
  p : Blk W gp 2 [.int .i64 p0, .int .i64 p1, .int .i64 p2, .int .i64 p3, .int .i64 p4]
  own : W.ownsRow b 2 1 (.slice A n cap) n cs
  lt : gL < b ∧ gA < b ∧ gB < b ∧ gp < b ∧ w.heap.size ≤ b
  bW : b ≤ W.heap.size
  bel : Below w.heap.size w W
section
variable {w W V : World} {gL gA gB gp b n cap n2 cap2 : Nat} {p0 p1 p2 p3 p4 : Int} {A A2 : Option Addr} {cs cs2 : List Value}
theorem PrJ.below (h : PrJ w gL gA gB gp p0 p1 p2 p3 p4 b A n cap cs W) (hb : Below W.heap.size W V) : PrJ w gL gA gB gp p0 p1 p2 p3 p4 b A n cap cs V :=
  ⟨h.co.below hb (Nat.le_refl _), h.p.below hb h.p.lt, ownBelow h.own hb, h.lt, Nat.le_trans h.bW hb.size, h.bel.trans (hb.mono h.bel.size)⟩
theorem PrJ.alloc (h : PrJ w gL gA gB gp p0 p1 p2 p3 p4 b A n cap cs W) (o : Obj) : PrJ w gL gA gB gp p0 p1 p2 p3 p4 b A n cap cs (W.alloc o) :=
  h.below ((Below.refl _ _).alloc (Nat.le_refl _) o)
theorem PrJ.drew (h : PrJ w gL gA gB gp p0 p1 p2 p3 p4 b A n cap cs W) : PrJ w gL gA gB gp p0 p1 p2 p3 p4 b A n cap cs W.drew :=
  h.below (Below.refl _ _).drew
theorem PrJ.other (h : PrJ w gL gA gB gp p0 p1 p2 p3 p4 b A n cap cs W) {row : Option Nat} (hg : W.grownBy V row) (hr : ∀ k, row = some k → b ≤ k) (ho : V.ownsRow b 2 1 (.slice A2 n2 cap2) n2 cs2) : PrJ w gL gA gB gp p0 p1 p2 p3 p4 b A2 n2 cap2 cs2 V := by
  have hne : ∀ k, k < b → some k ≠ row := fun k hk' e => by have := hr k e.symm; omega
  have hl := h.lt
  have hbs := h.bel.size
  exact ⟨⟨h.co.L.grown hg (hne _ (by omega)), h.co.A.grown hg (hne _ (by omega)), h.co.B.grown hg (hne _ (by omega))⟩, h.p.grown hg (hne _ (by omega)), ho, hl, Nat.le_trans h.bW hg.size, h.bel.grown hg hbs (fun k e => by have := hr k e; omega)⟩
theorem PrJ.push (h : PrJ w gL gA gB gp p0 p1 p2 p3 p4 b A n cap cs W) (hg : W.grownBy V (Value.slice A n cap).ownBlock) (ho : V.ownsRow b 2 1 (.slice A2 n2 cap2) n2 cs2) : PrJ w gL gA gB gp p0 p1 p2 p3 p4 b A2 n2 cap2 cs2 V :=
  h.other hg (fun k e => (World.ownsRow.lt h.own k e).1) ho
end
structure RoJ (w : World) (gL gA gB gp : Nat) (p0 p1 p2 p3 p4 : Int) (b g5 cap : Nat) (cs : List Value) (b2 : Nat) (A : Option Addr) (n c2 : Nat) (ds : List Value) (W : World) : Prop where
  p : PrJ w gL gA gB gp p0 p1 p2 p3 p4 b (some ⟨g5, 0, none⟩) 2 cap cs W
  own2 : W.ownsRow b2 2 1 (.slice A n c2) n ds
  lt2 : g5 < b2 ∧ b ≤ b2 ∧ b2 ≤ W.heap.size
section
variable {w W V : World} {gL gA gB gp b g5 cap b2 n c2 n2 c3 : Nat} {p0 p1 p2 p3 p4 : Int} {A A2 : Option Addr} {cs ds ds2 : List Value}
theorem RoJ.below (h : RoJ w gL gA gB gp p0 p1 p2 p3 p4 b g5 cap cs b2 A n c2 ds W) (hb : Below W.heap.size W V) : RoJ w gL gA gB gp p0 p1 p2 p3 p4 b g5 cap cs b2 A n c2 ds V :=
  ⟨h.p.below hb, ownBelow h.own2 hb, h.lt2.1, h.lt2.2.1, Nat.le_trans h.lt2.2.2 hb.size⟩
theorem RoJ.alloc (h : RoJ w gL gA gB gp p0 p1 p2 p3 p4 b g5 cap cs b2 A n c2 ds W) (o : Obj) : RoJ w gL gA gB gp p0 p1 p2 p3 p4 b g5 cap cs b2 A n c2 ds (W.alloc o) :=
  h.below ((Below.refl _ _).alloc (Nat.le_refl _) o)
theorem RoJ.push (h : RoJ w gL gA gB gp p0 p1 p2 p3 p4 b g5 cap cs b2 A n c2 ds W) (hg : W.grownBy V (Value.slice A n c2).ownBlock) (ho : V.ownsRow b2 2 1 (.slice A2 n2 c3) n2 ds2) : RoJ w gL gA gB gp p0 p1 p2 p3 p4 b g5 cap cs b2 A2 n2 c3 ds2 V := by
  have hk : ∀ k, (Value.slice A n c2).ownBlock = some k → b2 ≤ k := fun k e => (World.ownsRow.lt h.own2 k e).1
  have hl := h.lt2
  refine ⟨h.p.other hg (fun k e => by have := hk k e; omega) (ownGrown h.p.own hg (fun k hk' e => ?_)), ho, hl.1, hl.2.1, Nat.le_trans hl.2.2 hg.size⟩
  have h1 := hk k e.symm
  have h2 : k = g5 := ownB_some.1 hk'
  omega
end
set_option maxHeartbeats 4000000 in
set_option maxRecDepth 100000 in
theorem duals_c : DualsC := by
  intro gL gA gB w h
  have H0 := Lib.hid (BuJ.start h (Below.refl w.heap.size w))
  have l0 := h.L.cell 0 rfl
  have l1 := h.L.cell 1 rfl
  clear h
  have hm1 : ∀ W : World, (Instr.makeSlice 22 (.int .i64 5) (.int .i64 5)).run Try.prog W = .ok (.slice (some ⟨W.heap.size, 0, none⟩) 5 5) (W.alloc (.cells (Array.replicate 5 (.int .i64 0)) 2)) := make_64 5 (by omega)
  go_enter Try.func96, Try.ntmps96
  go_upto_region 3 with fail
  have J0 := H0
  clear H0 l0 l1 hm1
  generalize ((w.alloc (.cells (Array.replicate 5 (.int .i64 0)) 2)).alloc (.cells #[.slice (some ⟨w.heap.size, 0, none⟩) 5 5, .slice none 0 0, .slice none 0 0, .slice none 0 0] 125)) = v0 at J0 ⊢
  obtain ⟨gs, hgs⟩ : ∃ g, g = w.heap.size := ⟨_, rfl⟩
  rw [← hgs] at J0 ⊢
  clear hgs
  generalize gs + 1 = gb at J0 ⊢
  have y0 := J0.out.b.cell 0 rfl
  have y1 := J0.out.b.cell 1 rfl
  have l0 := J0.out.co.L.cell 0 rfl
  have l1 := J0.out.co.L.cell 1 rfl
  have a0 := J0.out.co.A.cell 0 rfl
  have a1 := J0.out.co.A.cell 1 rfl
  have b0 := J0.out.co.B.cell 0 rfl
  have b1 := J0.out.co.B.cell 1 rfl
  have s0 : v0.cell? ⟨gs, 0, none⟩ = some (.int .i64 (0)) := Blk.cell J0.out.s 0 rfl
  have z0 := J0.out.s.free 0
  have s1 : v0.cell? ⟨gs, 1, none⟩ = some (.int .i64 (0)) := Blk.cell J0.out.s 1 rfl
  have z1 := J0.out.s.free 1
  have s4 : v0.cell? ⟨gs, 4, none⟩ = some (.int .i64 (0)) := Blk.cell J0.out.s 4 rfl
  have z4 := J0.out.s.free 4
  go_wp2_with fail
  refine wp_loop_rounds 3 ?_
  rw [rounds_succ]
  go_upto_region 6 with fail
  clear y0 y1 l0 l1 a0 a1 b0 b1 s0 s1 s4 z0 z1 z4
  have y0 := J0.out.b.cell 0 rfl
  have y1 := J0.out.b.cell 1 rfl
  have l0 := J0.out.co.L.cell 0 rfl
  have l1 := J0.out.co.L.cell 1 rfl
  have a0 := J0.out.co.A.cell 0 rfl
  have a1 := J0.out.co.A.cell 1 rfl
  have b0 := J0.out.co.B.cell 0 rfl
  have b1 := J0.out.co.B.cell 1 rfl
  have s0 : v0.cell? ⟨gs, 0, none⟩ = some (.int .i64 (0)) := Blk.cell J0.out.s 0 rfl
  have z0 := J0.out.s.free 0
  have s1 : v0.cell? ⟨gs, 1, none⟩ = some (.int .i64 (0)) := Blk.cell J0.out.s 1 rfl
  have z1 := J0.out.s.free 1
  have s4 : v0.cell? ⟨gs, 4, none⟩ = some (.int .i64 (0)) := Blk.cell J0.out.s 4 rfl
  have z4 := J0.out.s.free 4
  go_upto_region 7 with fail
  clear y0 y1 l0 l1 a0 a1 b0 b1 s0 s1 s4 z0 z1 z4
  have J1 := Lib.hid (show BuJ w gL gA gB gs gb none 0 0 [1, 0, 0, 0, 0] [] _ from J0.out.set 0 (1))
  generalize v0.setCell ⟨gs, 0, none⟩ (.int .i64 (1)) = v1 at J1 ⊢
  have y0 := J1.out.b.cell 0 rfl
  have y1 := J1.out.b.cell 1 rfl
  have l0 := J1.out.co.L.cell 0 rfl
  have l1 := J1.out.co.L.cell 1 rfl
  have a0 := J1.out.co.A.cell 0 rfl
  have a1 := J1.out.co.A.cell 1 rfl
  have b0 := J1.out.co.B.cell 0 rfl
  have b1 := J1.out.co.B.cell 1 rfl
  have s0 : v1.cell? ⟨gs, 0, none⟩ = some (.int .i64 (1)) := Blk.cell J1.out.s 0 rfl
  have z0 := J1.out.s.free 0
  have s1 : v1.cell? ⟨gs, 1, none⟩ = some (.int .i64 (0)) := Blk.cell J1.out.s 1 rfl
  have z1 := J1.out.s.free 1
  have s4 : v1.cell? ⟨gs, 4, none⟩ = some (.int .i64 (0)) := Blk.cell J1.out.s 4 rfl
  have z4 := J1.out.s.free 4
  go_upto_region 8 with fail
  clear y0 y1 l0 l1 a0 a1 b0 b1 s0 s1 s4 z0 z1 z4
  have J2 := Lib.hid (show BuJ w gL gA gB gs gb none 0 0 [1, 0, 0, 0, -1] [] _ from J1.out.set 4 (-1))
  generalize v1.setCell ⟨gs, 4, none⟩ (.int .i64 (-1)) = v2 at J2 ⊢
  have y0 := J2.out.b.cell 0 rfl
  have y1 := J2.out.b.cell 1 rfl
  have l0 := J2.out.co.L.cell 0 rfl
  have l1 := J2.out.co.L.cell 1 rfl
  have a0 := J2.out.co.A.cell 0 rfl
  have a1 := J2.out.co.A.cell 1 rfl
  have b0 := J2.out.co.B.cell 0 rfl
  have b1 := J2.out.co.B.cell 1 rfl
  have s0 : v2.cell? ⟨gs, 0, none⟩ = some (.int .i64 (1)) := Blk.cell J2.out.s 0 rfl
  have z0 := J2.out.s.free 0
  have s1 : v2.cell? ⟨gs, 1, none⟩ = some (.int .i64 (0)) := Blk.cell J2.out.s 1 rfl
  have z1 := J2.out.s.free 1
  have s4 : v2.cell? ⟨gs, 4, none⟩ = some (.int .i64 (-1)) := Blk.cell J2.out.s 4 rfl
  have z4 := J2.out.s.free 4
  go_wp2_with fail
  refine wp_loop_rounds 3 ?_
  rw [rounds_succ]
  go_wp2_with fail
  clear y0 y1 l0 l1 a0 a1 b0 b1 s0 s1 s4 z0 z1 z4
  have MA := Lib.hid (J2.out.alloc (.cells #[.int .i64 0, .int .i64 2, .int .i64 1, .int .i64 4] 46))
  have X := Lib.hid (Blk.new' v2 #[.int .i64 0, .int .i64 2, .int .i64 1, .int .i64 4] 46)
  refine (add_c w _ gL gA gB gs gb 0 0 _ none [1, 0, 0, 0, -1] [] ⟨0, 2, 1, 4⟩ (by decide) MA.out X.out rfl).mono ?_
  rintro e v3 ⟨A1, c1, rfl, hj⟩
  have J3 := Lib.hid (show BuJ w gL gA gB gs gb A1 1 c1 [1, 0, 0, 0, -1] [⟨0, 2, 1, 4⟩] v3 from hj)
  clear hj MA X
  have y0 := J3.out.b.cell 0 rfl
  have y1 := J3.out.b.cell 1 rfl
  have l0 := J3.out.co.L.cell 0 rfl
  have l1 := J3.out.co.L.cell 1 rfl
  have a0 := J3.out.co.A.cell 0 rfl
  have a1 := J3.out.co.A.cell 1 rfl
  have b0 := J3.out.co.B.cell 0 rfl
  have b1 := J3.out.co.B.cell 1 rfl
  have s0 : v3.cell? ⟨gs, 0, none⟩ = some (.int .i64 (1)) := Blk.cell J3.out.s 0 rfl
  have z0 := J3.out.s.free 0
  have s1 : v3.cell? ⟨gs, 1, none⟩ = some (.int .i64 (0)) := Blk.cell J3.out.s 1 rfl
  have z1 := J3.out.s.free 1
  have s4 : v3.cell? ⟨gs, 4, none⟩ = some (.int .i64 (-1)) := Blk.cell J3.out.s 4 rfl
  have z4 := J3.out.s.free 4
  go_wp2_with fail
  rw [rounds_succ]
  go_wp2_with fail
  clear y0 y1 l0 l1 a0 a1 b0 b1 s0 s1 s4 z0 z1 z4
  have MA := Lib.hid (J3.out.alloc (.cells #[.int .i64 0, .int .i64 3, .int .i64 1, .int .i64 1] 46))
  have X := Lib.hid (Blk.new' v3 #[.int .i64 0, .int .i64 3, .int .i64 1, .int .i64 1] 46)
  refine (add_c w _ gL gA gB gs gb 1 c1 _ A1 [1, 0, 0, 0, -1] [⟨0, 2, 1, 4⟩] ⟨0, 3, 1, 1⟩ (by decide) MA.out X.out rfl).mono ?_
  rintro e v4 ⟨A2, c2, rfl, hj⟩
  have J4 := Lib.hid (show BuJ w gL gA gB gs gb A2 2 c2 [1, 0, 0, 0, -1] [⟨0, 2, 1, 4⟩, ⟨0, 3, 1, 1⟩] v4 from hj)
  clear hj MA X
  have y0 := J4.out.b.cell 0 rfl
  have y1 := J4.out.b.cell 1 rfl
  have l0 := J4.out.co.L.cell 0 rfl
  have l1 := J4.out.co.L.cell 1 rfl
  have a0 := J4.out.co.A.cell 0 rfl
  have a1 := J4.out.co.A.cell 1 rfl
  have b0 := J4.out.co.B.cell 0 rfl
  have b1 := J4.out.co.B.cell 1 rfl
  have s0 : v4.cell? ⟨gs, 0, none⟩ = some (.int .i64 (1)) := Blk.cell J4.out.s 0 rfl
  have z0 := J4.out.s.free 0
  have s1 : v4.cell? ⟨gs, 1, none⟩ = some (.int .i64 (0)) := Blk.cell J4.out.s 1 rfl
  have z1 := J4.out.s.free 1
  have s4 : v4.cell? ⟨gs, 4, none⟩ = some (.int .i64 (-1)) := Blk.cell J4.out.s 4 rfl
  have z4 := J4.out.s.free 4
  go_wp2_with fail
  rw [rounds_succ]
  go_wp2_with fail
  rw [rounds_succ]
  go_upto_region 6 with fail
  clear y0 y1 l0 l1 a0 a1 b0 b1 s0 s1 s4 z0 z1 z4
  have y0 := J4.out.b.cell 0 rfl
  have y1 := J4.out.b.cell 1 rfl
  have l0 := J4.out.co.L.cell 0 rfl
  have l1 := J4.out.co.L.cell 1 rfl
  have a0 := J4.out.co.A.cell 0 rfl
  have a1 := J4.out.co.A.cell 1 rfl
  have b0 := J4.out.co.B.cell 0 rfl
  have b1 := J4.out.co.B.cell 1 rfl
  have s0 : v4.cell? ⟨gs, 0, none⟩ = some (.int .i64 (1)) := Blk.cell J4.out.s 0 rfl
  have z0 := J4.out.s.free 0
  have s1 : v4.cell? ⟨gs, 1, none⟩ = some (.int .i64 (0)) := Blk.cell J4.out.s 1 rfl
  have z1 := J4.out.s.free 1
  have s4 : v4.cell? ⟨gs, 4, none⟩ = some (.int .i64 (-1)) := Blk.cell J4.out.s 4 rfl
  have z4 := J4.out.s.free 4
  go_upto_region 7 with fail
  clear y0 y1 l0 l1 a0 a1 b0 b1 s0 s1 s4 z0 z1 z4
  have J5 := Lib.hid (show BuJ w gL gA gB gs gb A2 2 c2 [1, 1, 0, 0, -1] [⟨0, 2, 1, 4⟩, ⟨0, 3, 1, 1⟩] _ from J4.out.set 1 (1))
  generalize v4.setCell ⟨gs, 1, none⟩ (.int .i64 (1)) = v5 at J5 ⊢
  have y0 := J5.out.b.cell 0 rfl
  have y1 := J5.out.b.cell 1 rfl
  have l0 := J5.out.co.L.cell 0 rfl
  have l1 := J5.out.co.L.cell 1 rfl
  have a0 := J5.out.co.A.cell 0 rfl
  have a1 := J5.out.co.A.cell 1 rfl
  have b0 := J5.out.co.B.cell 0 rfl
  have b1 := J5.out.co.B.cell 1 rfl
  have s0 : v5.cell? ⟨gs, 0, none⟩ = some (.int .i64 (1)) := Blk.cell J5.out.s 0 rfl
  have z0 := J5.out.s.free 0
  have s1 : v5.cell? ⟨gs, 1, none⟩ = some (.int .i64 (1)) := Blk.cell J5.out.s 1 rfl
  have z1 := J5.out.s.free 1
  have s4 : v5.cell? ⟨gs, 4, none⟩ = some (.int .i64 (-1)) := Blk.cell J5.out.s 4 rfl
  have z4 := J5.out.s.free 4
  go_upto_region 8 with fail
  clear y0 y1 l0 l1 a0 a1 b0 b1 s0 s1 s4 z0 z1 z4
  have J6 := Lib.hid (show BuJ w gL gA gB gs gb A2 2 c2 [1, 1, 0, 0, -2] [⟨0, 2, 1, 4⟩, ⟨0, 3, 1, 1⟩] _ from J5.out.set 4 (-2))
  generalize v5.setCell ⟨gs, 4, none⟩ (.int .i64 (-2)) = v6 at J6 ⊢
  have y0 := J6.out.b.cell 0 rfl
  have y1 := J6.out.b.cell 1 rfl
  have l0 := J6.out.co.L.cell 0 rfl
  have l1 := J6.out.co.L.cell 1 rfl
  have a0 := J6.out.co.A.cell 0 rfl
  have a1 := J6.out.co.A.cell 1 rfl
  have b0 := J6.out.co.B.cell 0 rfl
  have b1 := J6.out.co.B.cell 1 rfl
  have s0 : v6.cell? ⟨gs, 0, none⟩ = some (.int .i64 (1)) := Blk.cell J6.out.s 0 rfl
  have z0 := J6.out.s.free 0
  have s1 : v6.cell? ⟨gs, 1, none⟩ = some (.int .i64 (1)) := Blk.cell J6.out.s 1 rfl
  have z1 := J6.out.s.free 1
  have s4 : v6.cell? ⟨gs, 4, none⟩ = some (.int .i64 (-2)) := Blk.cell J6.out.s 4 rfl
  have z4 := J6.out.s.free 4
  go_wp2_with fail
  refine wp_loop_rounds 3 ?_
  rw [rounds_succ]
  go_wp2_with fail
  clear y0 y1 l0 l1 a0 a1 b0 b1 s0 s1 s4 z0 z1 z4
  have MA := Lib.hid (J6.out.alloc (.cells #[.int .i64 1, .int .i64 2, .int .i64 1, .int .i64 2] 46))
  have X := Lib.hid (Blk.new' v6 #[.int .i64 1, .int .i64 2, .int .i64 1, .int .i64 2] 46)
  refine (add_c w _ gL gA gB gs gb 2 c2 _ A2 [1, 1, 0, 0, -2] [⟨0, 2, 1, 4⟩, ⟨0, 3, 1, 1⟩] ⟨1, 2, 1, 2⟩ (by decide) MA.out X.out rfl).mono ?_
  rintro e v7 ⟨A3, c3, rfl, hj⟩
  have J7 := Lib.hid (show BuJ w gL gA gB gs gb A3 3 c3 [1, 1, 0, 0, -2] [⟨0, 2, 1, 4⟩, ⟨0, 3, 1, 1⟩, ⟨1, 2, 1, 2⟩] v7 from hj)
  clear hj MA X
  have y0 := J7.out.b.cell 0 rfl
  have y1 := J7.out.b.cell 1 rfl
  have l0 := J7.out.co.L.cell 0 rfl
  have l1 := J7.out.co.L.cell 1 rfl
  have a0 := J7.out.co.A.cell 0 rfl
  have a1 := J7.out.co.A.cell 1 rfl
  have b0 := J7.out.co.B.cell 0 rfl
  have b1 := J7.out.co.B.cell 1 rfl
  have s0 : v7.cell? ⟨gs, 0, none⟩ = some (.int .i64 (1)) := Blk.cell J7.out.s 0 rfl
  have z0 := J7.out.s.free 0
  have s1 : v7.cell? ⟨gs, 1, none⟩ = some (.int .i64 (1)) := Blk.cell J7.out.s 1 rfl
  have z1 := J7.out.s.free 1
  have s4 : v7.cell? ⟨gs, 4, none⟩ = some (.int .i64 (-2)) := Blk.cell J7.out.s 4 rfl
  have z4 := J7.out.s.free 4
  go_wp2_with fail
  rw [rounds_succ]
  go_wp2_with fail
  clear y0 y1 l0 l1 a0 a1 b0 b1 s0 s1 s4 z0 z1 z4
  have MA := Lib.hid (J7.out.alloc (.cells #[.int .i64 1, .int .i64 3, .int .i64 1, .int .i64 3] 46))
  have X := Lib.hid (Blk.new' v7 #[.int .i64 1, .int .i64 3, .int .i64 1, .int .i64 3] 46)
  refine (add_c w _ gL gA gB gs gb 3 c3 _ A3 [1, 1, 0, 0, -2] [⟨0, 2, 1, 4⟩, ⟨0, 3, 1, 1⟩, ⟨1, 2, 1, 2⟩] ⟨1, 3, 1, 3⟩ (by decide) MA.out X.out rfl).mono ?_
  rintro e v8 ⟨A4, c4, rfl, hj⟩
  have J8 := Lib.hid (show BuJ w gL gA gB gs gb A4 4 c4 [1, 1, 0, 0, -2] [⟨0, 2, 1, 4⟩, ⟨0, 3, 1, 1⟩, ⟨1, 2, 1, 2⟩, ⟨1, 3, 1, 3⟩] v8 from hj)
  clear hj MA X
  have y0 := J8.out.b.cell 0 rfl
  have y1 := J8.out.b.cell 1 rfl
  have l0 := J8.out.co.L.cell 0 rfl
  have l1 := J8.out.co.L.cell 1 rfl
  have a0 := J8.out.co.A.cell 0 rfl
  have a1 := J8.out.co.A.cell 1 rfl
  have b0 := J8.out.co.B.cell 0 rfl
  have b1 := J8.out.co.B.cell 1 rfl
  have s0 : v8.cell? ⟨gs, 0, none⟩ = some (.int .i64 (1)) := Blk.cell J8.out.s 0 rfl
  have z0 := J8.out.s.free 0
  have s1 : v8.cell? ⟨gs, 1, none⟩ = some (.int .i64 (1)) := Blk.cell J8.out.s 1 rfl
  have z1 := J8.out.s.free 1
  have s4 : v8.cell? ⟨gs, 4, none⟩ = some (.int .i64 (-2)) := Blk.cell J8.out.s 4 rfl
  have z4 := J8.out.s.free 4
  go_wp2_with fail
  rw [rounds_succ]
  go_wp2_with fail
  rw [rounds_succ]
  go_wp2_with fail
  refine wp_loop_rounds 3 ?_
  rw [rounds_succ]
  go_wp2_with fail
  clear y0 y1 l0 l1 a0 a1 b0 b1 s0 s1 s4 z0 z1 z4
  have MA := Lib.hid (J8.out.alloc (.cells #[.int .i64 2, .int .i64 4, .int .i64 1, .int .i64 0] 46))
  have X := Lib.hid (Blk.new' v8 #[.int .i64 2, .int .i64 4, .int .i64 1, .int .i64 0] 46)
  refine (add_c w _ gL gA gB gs gb 4 c4 _ A4 [1, 1, 0, 0, -2] [⟨0, 2, 1, 4⟩, ⟨0, 3, 1, 1⟩, ⟨1, 2, 1, 2⟩, ⟨1, 3, 1, 3⟩] ⟨2, 4, 1, 0⟩ (by decide) MA.out X.out rfl).mono ?_
  rintro e v9 ⟨A5, c5, rfl, hj⟩
  have J9 := Lib.hid (show BuJ w gL gA gB gs gb A5 5 c5 [1, 1, 0, 0, -2] [⟨0, 2, 1, 4⟩, ⟨0, 3, 1, 1⟩, ⟨1, 2, 1, 2⟩, ⟨1, 3, 1, 3⟩, ⟨2, 4, 1, 0⟩] v9 from hj)
  clear hj MA X
  have y0 := J9.out.b.cell 0 rfl
  have y1 := J9.out.b.cell 1 rfl
  have l0 := J9.out.co.L.cell 0 rfl
  have l1 := J9.out.co.L.cell 1 rfl
  have a0 := J9.out.co.A.cell 0 rfl
  have a1 := J9.out.co.A.cell 1 rfl
  have b0 := J9.out.co.B.cell 0 rfl
  have b1 := J9.out.co.B.cell 1 rfl
  have s0 : v9.cell? ⟨gs, 0, none⟩ = some (.int .i64 (1)) := Blk.cell J9.out.s 0 rfl
  have z0 := J9.out.s.free 0
  have s1 : v9.cell? ⟨gs, 1, none⟩ = some (.int .i64 (1)) := Blk.cell J9.out.s 1 rfl
  have z1 := J9.out.s.free 1
  have s4 : v9.cell? ⟨gs, 4, none⟩ = some (.int .i64 (-2)) := Blk.cell J9.out.s 4 rfl
  have z4 := J9.out.s.free 4
  go_wp2_with fail
  rw [rounds_succ]
  go_wp2_with fail
  clear y0 y1 l0 l1 a0 a1 b0 b1 s0 s1 s4 z0 z1 z4
  have MA := Lib.hid (J9.out.alloc (.cells #[.int .i64 3, .int .i64 4, .int .i64 1, .int .i64 0] 46))
  have X := Lib.hid (Blk.new' v9 #[.int .i64 3, .int .i64 4, .int .i64 1, .int .i64 0] 46)
  refine (add_c w _ gL gA gB gs gb 5 c5 _ A5 [1, 1, 0, 0, -2] [⟨0, 2, 1, 4⟩, ⟨0, 3, 1, 1⟩, ⟨1, 2, 1, 2⟩, ⟨1, 3, 1, 3⟩, ⟨2, 4, 1, 0⟩] ⟨3, 4, 1, 0⟩ (by decide) MA.out X.out rfl).mono ?_
  rintro e v10 ⟨A6, c6, rfl, hj⟩
  have J10 := Lib.hid (show BuJ w gL gA gB gs gb A6 6 c6 [1, 1, 0, 0, -2] [⟨0, 2, 1, 4⟩, ⟨0, 3, 1, 1⟩, ⟨1, 2, 1, 2⟩, ⟨1, 3, 1, 3⟩, ⟨2, 4, 1, 0⟩, ⟨3, 4, 1, 0⟩] v10 from hj)
  clear hj MA X
  have y0 := J10.out.b.cell 0 rfl
  have y1 := J10.out.b.cell 1 rfl
  have l0 := J10.out.co.L.cell 0 rfl
  have l1 := J10.out.co.L.cell 1 rfl
  have a0 := J10.out.co.A.cell 0 rfl
  have a1 := J10.out.co.A.cell 1 rfl
  have b0 := J10.out.co.B.cell 0 rfl
  have b1 := J10.out.co.B.cell 1 rfl
  have s0 : v10.cell? ⟨gs, 0, none⟩ = some (.int .i64 (1)) := Blk.cell J10.out.s 0 rfl
  have z0 := J10.out.s.free 0
  have s1 : v10.cell? ⟨gs, 1, none⟩ = some (.int .i64 (1)) := Blk.cell J10.out.s 1 rfl
  have z1 := J10.out.s.free 1
  have s4 : v10.cell? ⟨gs, 4, none⟩ = some (.int .i64 (-2)) := Blk.cell J10.out.s 4 rfl
  have z4 := J10.out.s.free 4
  go_wp2_with fail
  rw [rounds_succ]
  go_wp2_with fail
  clear y0 y1 l0 l1 a0 a1 b0 b1 s0 s1 s4 z0 z1 z4
  have NT := Lib.hid (BuJ.net J10.out)
  refine (Least_c _ _ duN 5 6 5 c6 _ rfl rfl (by omega) NT.out.2 NT.out.1).mono ?_
  rintro e v ⟨hL, hb⟩
  obtain ⟨gf, gp, p0, p1, p2, p3, p4, rfl, hp, hg, B2, B3, B4⟩ := du_least hL
  have HBV := Lib.hid (J10.out.bel.trans (hb.mono J10.out.bel.size))
  have P0 : Hid (PrJ w gL gA gB gp p0 p1 p2 p3 p4 v.heap.size none 0 0 [] v) := Lib.hid ⟨J10.out.co.below hb (Nat.le_refl _), hp, World.ownsRow_nil _ _ _ _, ⟨(J10.out.co.below hb (Nat.le_refl _)).L.lt, (J10.out.co.below hb (Nat.le_refl _)).A.lt, (J10.out.co.below hb (Nat.le_refl _)).B.lt, hp.lt, HBV.out.size⟩, Nat.le_refl _, HBV.out⟩
  clear hL hp hg hb HBV NT
  obtain ⟨d0, D0⟩ : ∃ d : Int, Hid (IntKind.i64.wrap (p2 - p4) = d ∧ -4294967296 ≤ d ∧ d ≤ 4294967296) := ⟨p2 - p4, Lib.hid ⟨IntWalk.i64_in (p2 - p4) (by omega), by omega, by omega⟩⟩
  obtain ⟨d1, D1⟩ : ∃ d : Int, Hid (IntKind.i64.wrap (p3 - p4) = d ∧ -4294967296 ≤ d ∧ d ≤ 4294967296) := ⟨p3 - p4, Lib.hid ⟨IntWalk.i64_in (p3 - p4) (by omega), by omega, by omega⟩⟩
  clear B2 B3 B4
  obtain ⟨q0, Q0⟩ : ∃ q : Int, Hid ((∀ ts t W, (Builtin.min_ ts t #[.int .i64 0, .int .i64 d0]).run Try.prog W = .ok (.int .i64 q) W) ∧ -4294967296 ≤ q ∧ q ≤ 0) := ⟨min 0 d0, Lib.hid ⟨fun ts t W => min_i64 0 d0 ts t W, by have := D0.out; omega, by omega⟩⟩
  obtain ⟨q1, Q1⟩ : ∃ q : Int, Hid ((∀ ts t W, (Builtin.min_ ts t #[.int .i64 0, .int .i64 d1]).run Try.prog W = .ok (.int .i64 q) W) ∧ -4294967296 ≤ q ∧ q ≤ 0) := ⟨min 0 d1, Lib.hid ⟨fun ts t W => min_i64 0 d1 ts t W, by have := D1.out; omega, by omega⟩⟩
  generalize hbp : v.heap.size = bp at P0 ⊢
  clear hbp
  obtain ⟨i2, h2i, h2z, h2s, h2b⟩ := info_parts info2
  go_wp2_with fail
  refine wp_loop_rounds 3 ?_
  rw [rounds_succ]
  go_upto_region 24 with fail
  refine wp_region_spine 14 [true, false] [0] ?af0 (fun V => PrJ w gL gA gB gp p0 p1 p2 p3 p4 bp none 0 0 [] V) (by kernel_rfl) (by kernel_rfl) P0.out.drew ?walk0 ?_
  case walk0 =>
    intro V hV
    have k0 := hV.p.cell 2 rfl
    have k4 := hV.p.cell 4 rfl
    have e0 := D0.out.1
    have hmx := Q0.out.1
    clear hV
    simp only [List.take_succ_cons, List.take_zero]
    repeat (go_big_quiet_step (fail))
    refine wpQuiet_nil ?_
    rfl
  intro u hV
  have PV := Lib.hid hV
  clear hV
  refine spineV_cons ?_
  unfold StepV
  go_simp
  refine ⟨PV.out.alloc _, ?_⟩
  have PA := Lib.hid (PV.out.alloc (.cells #[.int .i64 q0] 2))
  have X := Lib.hid (Blk.new' u #[.int .i64 q0] 2)
  generalize u.alloc (.cells #[.int .i64 q0] 2) = u2 at PA X ⊢
  generalize u.heap.size = gu at *
  refine spineV_cons ?_
  refine stepV_append (.tmp 104) (.tmp 118) 22 rfl bp 2 i2 (.int .i64 0) 1 8 Try.underlying22 h2i h2z h2s h2b rfl (by decide) none 0 0 [] (by rfl) PA.out.own (some ⟨gu, 0, none⟩) 1 1 [.int .i64 q0] (by rfl) (by rfl) (.inr ⟨_, rfl, ?_⟩) (by simp [Value.oneCell']) (by decide) (by decide) PA.out.bW ?_
  · intro j u' hj
    rcases j with _ | j <;> simp at hj
    subst hj
    exact X.out.cell 0 rfl
  intro B1 e1 v1 ho hg hk
  refine ⟨fun h => (by cases h), ?_⟩
  have P1 := Lib.hid (show PrJ w gL gA gB gp p0 p1 p2 p3 p4 bp B1 1 e1 [.int .i64 q0] v1 from PA.out.push hg ho)
  clear ho hg hk PA X PV
  refine spineV_nil ?_
  go_wp2_with fail
  rw [rounds_succ]
  go_upto_region 24 with fail
  refine wp_region_spine 14 [true, false] [0] ?af1 (fun V => PrJ w gL gA gB gp p0 p1 p2 p3 p4 bp B1 1 e1 [.int .i64 q0] V) (by kernel_rfl) (by kernel_rfl) P1.out.drew ?walk1 ?_
  case walk1 =>
    intro V hV
    have k1 := hV.p.cell 3 rfl
    have k4 := hV.p.cell 4 rfl
    have e0 := D1.out.1
    have hmx := Q1.out.1
    clear hV
    simp only [List.take_succ_cons, List.take_zero]
    repeat (go_big_quiet_step (fail))
    refine wpQuiet_nil ?_
    rfl
  intro u hV
  have PV := Lib.hid hV
  clear hV
  refine spineV_cons ?_
  unfold StepV
  go_simp
  refine ⟨PV.out.alloc _, ?_⟩
  have PA := Lib.hid (PV.out.alloc (.cells #[.int .i64 q1] 2))
  have X := Lib.hid (Blk.new' u #[.int .i64 q1] 2)
  generalize u.alloc (.cells #[.int .i64 q1] 2) = u2 at PA X ⊢
  generalize u.heap.size = gu at *
  refine spineV_cons ?_
  refine stepV_append (.tmp 104) (.tmp 118) 22 rfl bp 2 i2 (.int .i64 0) 1 8 Try.underlying22 h2i h2z h2s h2b rfl (by decide) B1 1 e1 [.int .i64 q0] (by rfl) PA.out.own (some ⟨gu, 0, none⟩) 1 1 [.int .i64 q1] (by rfl) (by rfl) (.inr ⟨_, rfl, ?_⟩) (by simp [Value.oneCell']) (by decide) (by decide) PA.out.bW ?_
  · intro j u' hj
    rcases j with _ | j <;> simp at hj
    subst hj
    exact X.out.cell 0 rfl
  intro B2 e2 v2 ho hg hk
  refine ⟨fun h => (by cases h), ?_⟩
  have P2 := Lib.hid (show PrJ w gL gA gB gp p0 p1 p2 p3 p4 bp B2 2 e2 [.int .i64 q0, .int .i64 q1] v2 from PA.out.push hg ho)
  clear ho hg hk PA X PV
  refine spineV_nil ?_
  go_wp2_with fail
  rw [rounds_succ]
  go_wp2_with fail
  obtain ⟨g5, c5, hv, hb5, hlt5⟩ := P2.out.own.form (by omega)
  cases hv
  have R0 : Hid (RoJ w gL gA gB gp p0 p1 p2 p3 p4 bp g5 e2 [.int .i64 q0, .int .i64 q1] v2.heap.size none 0 0 [] v2) := Lib.hid ⟨P2.out, World.ownsRow_nil _ _ _ _, hlt5, P2.out.bW, Nat.le_refl _⟩
  clear hb5 hlt5
  obtain ⟨b2, hb2⟩ : ∃ b, b = v2.heap.size := ⟨_, rfl⟩
  rw [← hb2] at R0
  clear hb2
  obtain ⟨s00, S00⟩ : ∃ d : Int, Hid (IntKind.i64.wrap (4 - q0) = d) := ⟨_, Lib.hid rfl⟩
  obtain ⟨x00, X00⟩ : ∃ q : Int, Hid (∀ ts t W, (Builtin.min_ ts t #[.int .i64 1152921504606846976, .int .i64 s00]).run Try.prog W = .ok (.int .i64 q) W) := ⟨_, Lib.hid fun ts t W => min_i64 _ _ ts t W⟩
  obtain ⟨s01, S01⟩ : ∃ d : Int, Hid (IntKind.i64.wrap (1 - q1) = d) := ⟨_, Lib.hid rfl⟩
  obtain ⟨x01, X01⟩ : ∃ q : Int, Hid (∀ ts t W, (Builtin.min_ ts t #[.int .i64 x00, .int .i64 s01]).run Try.prog W = .ok (.int .i64 q) W) := ⟨_, Lib.hid fun ts t W => min_i64 _ _ ts t W⟩
  obtain ⟨s10, S10⟩ : ∃ d : Int, Hid (IntKind.i64.wrap (2 - q0) = d) := ⟨_, Lib.hid rfl⟩
  obtain ⟨x10, X10⟩ : ∃ q : Int, Hid (∀ ts t W, (Builtin.min_ ts t #[.int .i64 1152921504606846976, .int .i64 s10]).run Try.prog W = .ok (.int .i64 q) W) := ⟨_, Lib.hid fun ts t W => min_i64 _ _ ts t W⟩
  obtain ⟨s11, S11⟩ : ∃ d : Int, Hid (IntKind.i64.wrap (3 - q1) = d) := ⟨_, Lib.hid rfl⟩
  obtain ⟨x11, X11⟩ : ∃ q : Int, Hid (∀ ts t W, (Builtin.min_ ts t #[.int .i64 x10, .int .i64 s11]).run Try.prog W = .ok (.int .i64 q) W) := ⟨_, Lib.hid fun ts t W => min_i64 _ _ ts t W⟩
  refine wp_loop_rounds 3 ?_
  rw [rounds_succ]
  have l0 := R0.out.p.co.L.cell 0 rfl
  have l1 := R0.out.p.co.L.cell 1 rfl
  have a0 := R0.out.p.co.A.cell 0 rfl
  have a1 := R0.out.p.co.A.cell 1 rfl
  have b0 := R0.out.p.co.B.cell 0 rfl
  have b1 := R0.out.p.co.B.cell 1 rfl
  have f0 : v2.cell? ⟨g5, 0, none⟩ = some (.int .i64 q0) := World.ownsRow.cellAt R0.out.p.own 0 (by omega)
  have f1 : v2.cell? ⟨g5, 1, none⟩ = some (.int .i64 q1) := World.ownsRow.cellAt R0.out.p.own 1 (by omega)
  go_wp2_with fail
  refine wp_loop_rounds 3 ?_
  have t1 := S00.out
  have t2 := X00.out
  rw [rounds_succ]
  go_wp2_with fail
  clear t1 t2
  have t1 := S01.out
  have t2 := X01.out
  rw [rounds_succ]
  go_wp2_with fail
  clear t1 t2
  clear l0 l1 a0 a1 b0 b1 f0 f1
  have MA := Lib.hid (R0.out.alloc (.cells #[.int .i64 x01] 2))
  have X := Lib.hid (Blk.new' v2 #[.int .i64 x01] 2)
  rw [rounds_succ]
  go_wp2_with (at_builtin; refine wpList_append_any (.tmp 145) (.tmp 147) 22 rfl rfl b2 2 i2 (.int .i64 0) 1 8 Try.underlying22 h2i h2z h2s h2b rfl (by decide) none 0 0 [] (by rfl) MA.out.own2 (some ⟨v2.heap.size, 0, none⟩) 1 1 [.int .i64 x01] (by rfl) (by rfl) (.inr ⟨_, rfl, fun k u hk => by rcases k with _ | k <;> simp at hk; subst hk; exact X.out.cell 0 rfl⟩) (by simp [Value.oneCell']) (by decide) (by decide) MA.out.lt2.2.2 ?_; intro C1 k1 r1 hown hgrow hat; have R1 := Lib.hid (show RoJ w gL gA gB gp p0 p1 p2 p3 p4 bp g5 e2 [.int .i64 q0, .int .i64 q1] b2 C1 1 k1 [.int .i64 x01] r1 from MA.out.push hgrow hown); clear hown hgrow hat MA X)
  rw [rounds_succ]
  have l0 := R1.out.p.co.L.cell 0 rfl
  have l1 := R1.out.p.co.L.cell 1 rfl
  have a0 := R1.out.p.co.A.cell 0 rfl
  have a1 := R1.out.p.co.A.cell 1 rfl
  have b0 := R1.out.p.co.B.cell 0 rfl
  have b1 := R1.out.p.co.B.cell 1 rfl
  have f0 : r1.cell? ⟨g5, 0, none⟩ = some (.int .i64 q0) := World.ownsRow.cellAt R1.out.p.own 0 (by omega)
  have f1 : r1.cell? ⟨g5, 1, none⟩ = some (.int .i64 q1) := World.ownsRow.cellAt R1.out.p.own 1 (by omega)
  go_wp2_with fail
  refine wp_loop_rounds 3 ?_
  have t1 := S10.out
  have t2 := X10.out
  rw [rounds_succ]
  go_wp2_with fail
  clear t1 t2
  have t1 := S11.out
  have t2 := X11.out
  rw [rounds_succ]
  go_wp2_with fail
  clear t1 t2
  clear l0 l1 a0 a1 b0 b1 f0 f1
  have MA := Lib.hid (R1.out.alloc (.cells #[.int .i64 x11] 2))
  have X := Lib.hid (Blk.new' r1 #[.int .i64 x11] 2)
  rw [rounds_succ]
  go_wp2_with (at_builtin; refine wpList_append_any (.tmp 145) (.tmp 147) 22 rfl rfl b2 2 i2 (.int .i64 0) 1 8 Try.underlying22 h2i h2z h2s h2b rfl (by decide) C1 1 k1 [.int .i64 x01] (by rfl) MA.out.own2 (some ⟨r1.heap.size, 0, none⟩) 1 1 [.int .i64 x11] (by rfl) (by rfl) (.inr ⟨_, rfl, fun k u hk => by rcases k with _ | k <;> simp at hk; subst hk; exact X.out.cell 0 rfl⟩) (by simp [Value.oneCell']) (by decide) (by decide) MA.out.lt2.2.2 ?_; intro C2 k2 r2 hown hgrow hat; have R2 := Lib.hid (show RoJ w gL gA gB gp p0 p1 p2 p3 p4 bp g5 e2 [.int .i64 q0, .int .i64 q1] b2 C2 2 k2 [.int .i64 x01, .int .i64 x11] r2 from MA.out.push hgrow hown); clear hown hgrow hat MA X)
  rw [rounds_succ]
  go_wp2_with fail
  exact bodyPost_ret (v := .tuple #[.slice C2 2 k2, .slice (some ⟨g5, 0, none⟩) 2 e2]) (by simp [results, Try.results96, go_sem]) rfl ⟨_, _, _, _, _, _, rfl, R2.out.p.bel⟩
end Go.Proofs.Ytmebpglkeedaoaa
namespace Go.Proofs.Ytmebpglkeedaoaa
open Go.RowKit Dp
namespace Dp
def clE (N : Net) (fl ps : List Int) : Int := if coE N fl = 0 then (if prE N ps = 0 then (if coV N fl = prV N ps then 0 else 19) else prE N ps) else coE N fl
theorem cl_co {N : Net} {fl ps : List Int} (h : coE N fl ≠ 0) : clE N fl ps = coE N fl := by simp [clE, h]
theorem cl_pr {N : Net} {fl ps : List Int} (h : coE N fl = 0) (h2 : prE N ps ≠ 0) : clE N fl ps = prE N ps := by simp [clE, h, h2]
theorem cl_ne {N : Net} {fl ps : List Int} (h : coE N fl = 0) (h2 : prE N ps = 0) (h3 : coV N fl ≠ prV N ps) : clE N fl ps = 19 := by simp [clE, h, h2, h3]
theorem cl_ok {N : Net} {fl ps : List Int} (h : coE N fl = 0) (h2 : prE N ps = 0) (h3 : coV N fl = prV N ps) : clE N fl ps = 0 := by simp [clE, h, h2, h3]
end Dp
set_option maxHeartbeats 2000000 in
set_option maxRecDepth 100000 in
theorem CheckLeast_c (A B C D : Option Addr) (N : Net) (fl ps : List Int) (n m p q cA cB cC cD : Nat) (w : World) (hn : n = N.sup.length) (hm : m = N.arcs.length) (hp : p = fl.length) (hq : q = ps.length) (hA : n ≤ cA ∧ cA ≤ 9223372036854775807) (hB : m ≤ cB ∧ cB ≤ 9223372036854775807) (hC : p ≤ cC ∧ cC ≤ 9223372036854775807) (hD : q ≤ cD ∧ cD ≤ 9223372036854775807) (hN : NetAt w A B N) (hF : IntsAt w C fl) (hP : IntsAt w D ps) :
    Calls Try.prog 22 #[.agg #[.slice A n cA, .slice B m cB], .slice C p cC, .slice D q cD] w fun e w' => e = .returned (.int .i64 (clE N fl ps)) ∧ Below w.heap.size w w' := by
  have HN := Lib.hid hn
  have HM := Lib.hid hm
  have HP := Lib.hid hp
  have HQ := Lib.hid hq
  have HNA := Lib.hid hN
  have HFA := Lib.hid hF
  have HPA := Lib.hid hP
  clear hn hm hp hq hN hF hP
  have B1 := Lib.hid (Blk.new' w #[.slice A n cA, .slice B m cB] 25)
  have HB1 := Lib.hid ((Below.refl w.heap.size w).alloc (Nat.le_refl _) (.cells #[.slice A n cA, .slice B m cB] 25))
  go_enter Try.func22, Try.ntmps22
  go_wp2_with fail
  generalize w.alloc (.cells #[.slice A n cA, .slice B m cB] 25) = w1 at B1 HB1 ⊢
  refine (Cost_c A B C N fl n m p cA cB cC w1 HN.out HM.out HP.out hA hB hC (HNA.out.below HB1.out (Nat.le_refl _)) (HFA.out.below HB1.out (Nat.le_refl _))).mono ?_
  rintro e w2 ⟨rfl, hb2⟩
  have B2 := Lib.hid (B1.out.below hb2 B1.out.lt)
  have HB2 := Lib.hid (HB1.out.trans (hb2.mono HB1.out.size))
  clear hb2 B1 HB1
  have cA0 := B2.out.cell 0 rfl
  have cB0 := B2.out.cell 1 rfl
  have E1 := Lib.hid (cl_co (N := N) (fl := fl) (ps := ps))
  have E2 := Lib.hid (cl_pr (N := N) (fl := fl) (ps := ps))
  have E3 := Lib.hid (cl_ne (N := N) (fl := fl) (ps := ps))
  have E4 := Lib.hid (cl_ok (N := N) (fl := fl) (ps := ps))
  have PC := Lib.hid (Proves_c A B D N ps n m q cA cB cD w2 HN.out HM.out HQ.out hA hB hD (HNA.out.below HB2.out (Nat.le_refl _)) (HPA.out.below HB2.out (Nat.le_refl _)))
  generalize coE N fl = x at *
  generalize prE N ps = y at *
  generalize coV N fl = u at *
  generalize prV N ps = v at *
  by_cases hx : x = 0
  · subst hx
    go_wp2_with fail
    refine PC.out.mono ?_
    rintro e w3 ⟨rfl, hb3⟩
    by_cases hy : y = 0
    · subst hy
      by_cases hu : u = v
      · have E := Lib.hid (E4.out (by trivial) (by trivial) hu)
        subst hu
        go_wp2
        go_ret
        exact ⟨ret_int E.out.symm, HB2.out.trans (hb3.mono HB2.out.size)⟩
      · have E := Lib.hid (E3.out (by trivial) (by trivial) hu)
        have hne : (u == v) = false := by simpa using hu
        go_wp2
        go_ret
        exact ⟨ret_int E.out.symm, HB2.out.trans (hb3.mono HB2.out.size)⟩
    · have E := Lib.hid (E2.out (by trivial) hy)
      have hne : (y == 0) = false := by simpa using hy
      go_wp2
      go_ret
      exact ⟨ret_int E.out.symm, HB2.out.trans (hb3.mono HB2.out.size)⟩
  · have E := Lib.hid (E1.out hx)
    have hne : (x == 0) = false := by simpa using hx
    go_wp2
    go_ret
    exact ⟨ret_int E.out.symm, HB2.out⟩
end Go.Proofs.Ytmebpglkeedaoaa
namespace Go.Proofs.Ytmebpglkeedaoaa
open Go.RowKit Dp
def knN : Net := ⟨[3, 0, -3], [⟨0, 1, 2, 1⟩, ⟨1, 2, 2, 1⟩, ⟨0, 2, 2, 5⟩]⟩
theorem knN_ch : chE knN = 0 := by decide
theorem knN_flow : isFlow knN [2, 2, 1] = true := by decide
theorem knN_cost : costK knN [2, 2, 1] 3 = 9 := by decide
theorem knN_pr : prA knN [0, 1, 5] 3 = 9 := by decide
theorem all_pot {p : List Int} (h : ∀ v, v < p.length → potOk (p.getD v 0) = true) : p.all potOk = true := by
  rw [List.all_eq_true]
  intro x hx
  obtain ⟨i, hi, rfl⟩ := List.getElem_of_mem hx
  have := h i hi
  rwa [List.getD_eq_getElem?_getD, List.getElem?_eq_getElem hi] at this
theorem kn_least {w w' : World} {e : Ending} (h : LeastP knN w e w') : ∃ gf gp fl p, e = .returned (.tuple #[.slice (some ⟨gf, 0, none⟩) 3 3, .slice (some ⟨gp, 0, none⟩) 3 3, .int .i64 0]) ∧
    IntsAt w' (some ⟨gf, 0, none⟩) fl ∧ IntsAt w' (some ⟨gp, 0, none⟩) p ∧ fl.length = 3 ∧ p.length = 3 ∧ coE knN fl = 0 ∧ coV knN fl = 9 ∧ clE knN fl p = 0 := by
  rcases h with ⟨h, _⟩ | ⟨_, gf, gp, fl, p, rfl, hf, hp, _, hg, hlf, hfl, hl, hb, he⟩ | ⟨_, _, _, _, _, h⟩
  · exact absurd knN_ch h
  · have h1 := weak (N := knN) (fl := [2, 2, 1]) (ps := p) knN_ch knN_flow
    have h2 := weak (N := knN) (fl := fl) (ps := [0, 1, 5]) knN_ch hfl
    have h3 : knN.arcs.length = 3 := rfl
    rw [h3] at h1 h2 he
    rw [knN_cost] at h1
    rw [knN_pr] at h2
    have h9 : costK knN fl 3 = 9 := by omega
    have c1 : coE knN fl = 0 := by simp [coE, knN_ch, hlf, hfl]
    have c2 : coV knN fl = 9 := by simp [coV, knN_ch, hfl, h3, h9]
    have c3 : prE knN p = 0 := by simp only [prE, knN_ch, hl, all_pot hb, if_true]
    have c4 : prV knN p = 9 := by simp only [prV, c3, if_true]; rw [h3]; omega
    exact ⟨gf, gp, fl, p, rfl, hf.ints, hp.ints, hlf, hl, c1, c2, cl_ok c1 c3 (by rw [c2, c4])⟩
  · have := h [2, 2, 1]
    rw [knN_flow] at this
    cases this
structure KnJ (w : World) (g1 g2 g3 : Nat) (W : World) : Prop where
  s : Fl 2 W g1 [3, 0, -3]
  a : Blk W g2 46 (flat arcV knN.arcs)
  n : Blk W g3 25 [.slice (some ⟨g1, 0, none⟩) 3 3, .slice (some ⟨g2, 0, none⟩) 3 3]
  bel : Below w.heap.size w W
theorem KnJ.below {w W V : World} {g1 g2 g3 : Nat} (h : KnJ w g1 g2 g3 W) (hb : Below W.heap.size W V) : KnJ w g1 g2 g3 V :=
  ⟨h.s.below hb, h.a.below hb h.a.lt, h.n.below hb h.n.lt, h.bel.trans (hb.mono h.bel.size)⟩
theorem KnJ.net {w W : World} {g1 g2 g3 : Nat} (h : KnJ w g1 g2 g3 W) : NetAt W (some ⟨g1, 0, none⟩) (some ⟨g2, 0, none⟩) knN := by
  refine ⟨h.s.ints, fun i hi => ?_⟩
  have hc : ∀ j, j < 4 → W.cell? ⟨g2, i * 4 + j, none⟩ = (arcV (knN.arcs.getD i default))[j]? := fun j hj => by
    have e := flat_get (f := arcV) (s := 4) (fun _ => rfl) _ _ _ _ (getElem_D knN.arcs i default hi) hj
    rw [← e]
    obtain ⟨v, hv⟩ : ∃ v, (flat arcV knN.arcs)[i * 4 + j]? = some v := by
      rw [e]
      match j, hj with
      | 0, _ => exact ⟨_, rfl⟩
      | 1, _ => exact ⟨_, rfl⟩
      | 2, _ => exact ⟨_, rfl⟩
      | 3, _ => exact ⟨_, rfl⟩
    rw [hv]
    exact h.a.cell _ hv
  have had : (⟨g2, 0, none⟩ : Addr).add (i * 4) = ⟨g2, i * 4, none⟩ := by unfold Addr.add; split <;> simp_all
  exact ⟨⟨g2, 0, none⟩, rfl, h.a.lt, by rw [had]; exact hc 0 (by omega), by rw [had]; exact hc 1 (by omega), by rw [had]; exact hc 2 (by omega), by rw [had]; exact hc 3 (by omega)⟩
theorem KnJ.start (w : World) : KnJ w w.heap.size (w.heap.size + 1) (w.heap.size + 1 + 1) (((w.alloc (.cells #[.int .i64 3, .int .i64 0, .int .i64 (-3)] 2)).alloc (.cells #[.int .i64 0, .int .i64 1, .int .i64 2, .int .i64 1, .int .i64 1, .int .i64 2, .int .i64 2, .int .i64 1, .int .i64 0, .int .i64 2, .int .i64 2, .int .i64 5] 46)).alloc (.cells #[.slice (some ⟨w.heap.size, 0, none⟩) 3 3, .slice (some ⟨w.heap.size + 1, 0, none⟩) 3 3] 25)) := by
  have b1 := (Below.refl w.heap.size w).alloc (Nat.le_refl _) (.cells #[.int .i64 3, .int .i64 0, .int .i64 (-3)] 2)
  have b2 := b1.alloc b1.size (.cells #[.int .i64 0, .int .i64 1, .int .i64 2, .int .i64 1, .int .i64 1, .int .i64 2, .int .i64 2, .int .i64 1, .int .i64 0, .int .i64 2, .int .i64 2, .int .i64 5] 46)
  have b3 := b2.alloc b2.size (.cells #[.slice (some ⟨w.heap.size, 0, none⟩) 3 3, .slice (some ⟨w.heap.size + 1, 0, none⟩) 3 3] 25)
  have x1 := Blk.new' w #[.int .i64 3, .int .i64 0, .int .i64 (-3)] 2
  have x2 := Blk.new' (w.alloc (.cells #[.int .i64 3, .int .i64 0, .int .i64 (-3)] 2)) #[.int .i64 0, .int .i64 1, .int .i64 2, .int .i64 1, .int .i64 1, .int .i64 2, .int .i64 2, .int .i64 1, .int .i64 0, .int .i64 2, .int .i64 2, .int .i64 5] 46
  have x3 := Blk.new' ((w.alloc (.cells #[.int .i64 3, .int .i64 0, .int .i64 (-3)] 2)).alloc (.cells #[.int .i64 0, .int .i64 1, .int .i64 2, .int .i64 1, .int .i64 1, .int .i64 2, .int .i64 2, .int .i64 1, .int .i64 0, .int .i64 2, .int .i64 2, .int .i64 5] 46)) #[.slice (some ⟨w.heap.size, 0, none⟩) 3 3, .slice (some ⟨w.heap.size + 1, 0, none⟩) 3 3] 25
  refine ⟨(x1.alloc _).alloc _, ?_, ?_, b3⟩
  · have := x2.alloc (.cells #[.slice (some ⟨w.heap.size, 0, none⟩) 3 3, .slice (some ⟨w.heap.size + 1, 0, none⟩) 3 3] 25)
    simpa [flat, arcV, knN] using this
  · simpa using x3
theorem CO.start (V : World) : CO (((V.alloc (.cells #[.int .i64 4, .int .i64 1] 2)).alloc (.cells #[.int .i64 2, .int .i64 3] 2)).alloc (.cells #[.slice (some ⟨V.heap.size, 0, none⟩) 2 2, .slice (some ⟨V.heap.size + 1, 0, none⟩) 2 2] 22)) (V.heap.size + 1 + 1) V.heap.size (V.heap.size + 1) := by
  have x1 := Blk.new' V #[.int .i64 4, .int .i64 1] 2
  have x2 := Blk.new' (V.alloc (.cells #[.int .i64 4, .int .i64 1] 2)) #[.int .i64 2, .int .i64 3] 2
  have x3 := Blk.new' ((V.alloc (.cells #[.int .i64 4, .int .i64 1] 2)).alloc (.cells #[.int .i64 2, .int .i64 3] 2)) #[.slice (some ⟨V.heap.size, 0, none⟩) 2 2, .slice (some ⟨V.heap.size + 1, 0, none⟩) 2 2] 22
  refine ⟨?_, (x1.alloc _).alloc _, ?_⟩
  · simpa using x3
  · simpa using x2.alloc (.cells #[.slice (some ⟨V.heap.size, 0, none⟩) 2 2, .slice (some ⟨V.heap.size + 1, 0, none⟩) 2 2] 22)
set_option maxHeartbeats 4000000 in
set_option maxRecDepth 100000 in
theorem known_c (w : World) : Calls Try.prog 13 #[] w fun e w' => e = .returned (.bool true) ∧ Below w.heap.size w w' := by
  have K0 := Lib.hid (KnJ.start w)
  go_enter Try.func13, Try.ntmps13
  go_upto_region 2 with fail
  generalize hW : ((w.alloc (.cells #[.int .i64 3, .int .i64 0, .int .i64 (-3)] 2)).alloc (.cells #[.int .i64 0, .int .i64 1, .int .i64 2, .int .i64 1, .int .i64 1, .int .i64 2, .int .i64 2, .int .i64 1, .int .i64 0, .int .i64 2, .int .i64 2, .int .i64 5] 46)).alloc (.cells #[.slice (some ⟨w.heap.size, 0, none⟩) 3 3, .slice (some ⟨w.heap.size + 1, 0, none⟩) 3 3] 25) = w1 at K0 ⊢
  clear hW
  obtain ⟨g1, hg1⟩ : ∃ g, g = w.heap.size := ⟨_, rfl⟩
  rw [← hg1] at K0 ⊢
  clear hg1
  obtain ⟨g2, hg2⟩ : ∃ g, g = g1 + 1 := ⟨_, rfl⟩
  rw [← hg2] at K0 ⊢
  clear hg2
  obtain ⟨g3, hg3⟩ : ∃ g, g = g2 + 1 := ⟨_, rfl⟩
  rw [← hg3] at K0 ⊢
  clear hg3
  have n0 := K0.out.n.cell 0 rfl
  have n1 := K0.out.n.cell 1 rfl
  go_wp2_with fail
  refine (Least_c _ _ knN 3 3 3 3 _ rfl rfl (by omega) (by omega) K0.out.net).mono ?_
  rintro e w2 ⟨hL, hb⟩
  obtain ⟨gf, gp, fl, p, rfl, hf, hp, lf, lp, c1, c2, c3⟩ := kn_least hL
  have K2 := Lib.hid (K0.out.below hb)
  have F2 := Lib.hid hf
  have P2 := Lib.hid hp
  have LF := Lib.hid lf
  have LP := Lib.hid lp
  have C1 := Lib.hid c1
  have C2 := Lib.hid c2
  have C3 := Lib.hid c3
  clear hL hb hf hp lf lp c1 c2 c3 K0 n0 n1
  have n0 := K2.out.n.cell 0 rfl
  have n1 := K2.out.n.cell 1 rfl
  go_wp2_with fail
  refine (Cost_c _ _ _ knN fl 3 3 3 3 3 3 _ rfl rfl LF.out.symm (by omega) (by omega) (by omega) K2.out.net F2.out).mono ?_
  rintro e w3 ⟨rfl, hb⟩
  rw [C1.out, C2.out]
  have K3 := Lib.hid (K2.out.below hb)
  have F3 := Lib.hid (F2.out.below hb (Nat.le_refl _))
  have P3 := Lib.hid (P2.out.below hb (Nat.le_refl _))
  clear hb K2 F2 P2 n0 n1
  have CC := Lib.hid (CO.start w3)
  have B4 := Lib.hid ((((Below.refl w3.heap.size w3).alloc (Nat.le_refl _) (.cells #[.int .i64 4, .int .i64 1] 2)).alloc (by simp) (.cells #[.int .i64 2, .int .i64 3] 2)).alloc (by simp; omega) (.cells #[.slice (some ⟨w3.heap.size, 0, none⟩) 2 2, .slice (some ⟨w3.heap.size + 1, 0, none⟩) 2 2] 22))
  go_wp2_with fail
  generalize ((w3.alloc (.cells #[.int .i64 4, .int .i64 1] 2)).alloc (.cells #[.int .i64 2, .int .i64 3] 2)).alloc (.cells #[.slice (some ⟨w3.heap.size, 0, none⟩) 2 2, .slice (some ⟨w3.heap.size + 1, 0, none⟩) 2 2] 22) = w4 at CC B4 ⊢
  refine (Assign_c duals_c _ _ _ _ CC.out).mono ?_
  rintro e w5 ⟨A, c, R, rn, rc, Q, qn, qc, rfl, ho, hb⟩
  obtain ⟨g, cg, hv, hbg, hlt⟩ := ho.form (by omega)
  cases hv
  have B5 := Lib.hid ((Below.refl w5.heap.size w5).alloc (Nat.le_refl _) (.cells #[.slice (some ⟨g, 0, none⟩) 2 c, .int .i64 3, .slice R rn rc, .slice Q qn qc] 87))
  have X := Lib.hid (Blk.new' w5 #[.slice (some ⟨g, 0, none⟩) 2 c, .int .i64 3, .slice R rn rc, .slice Q qn qc] 87)
  have OW := Lib.hid (ownBelow ho B5.out)
  have K5 := Lib.hid (((K3.out.below B4.out).below hb).below B5.out)
  have F5 := Lib.hid (((F3.out.below B4.out (Nat.le_refl _)).below hb (Nat.le_refl _)).below B5.out (Nat.le_refl _))
  have P5 := Lib.hid (((P3.out.below B4.out (Nat.le_refl _)).below hb (Nat.le_refl _)).below B5.out (Nat.le_refl _))
  clear ho hb hbg hlt K3 F3 P3 CC B4 B5
  go_upto_region 5 with fail
  generalize w5.alloc (.cells #[.slice (some ⟨g, 0, none⟩) 2 c, .int .i64 3, .slice R rn rc, .slice Q qn qc] 87) = w6 at X OW K5 F5 P5 ⊢
  generalize w5.heap.size = gm at *
  have n0 := K5.out.n.cell 0 rfl
  have n1 := K5.out.n.cell 1 rfl
  go_wp2_with fail
  refine (CheckLeast_c _ _ _ _ knN fl p 3 3 3 3 3 3 3 3 _ rfl rfl LF.out.symm LP.out.symm (by omega) (by omega) (by omega) (by omega) K5.out.net F5.out P5.out).mono ?_
  rintro e w7 ⟨rfl, hb⟩
  rw [C3.out]
  have X7 := Lib.hid (X.out.below hb X.out.lt)
  have O7 := Lib.hid (ownBelow OW.out hb)
  have BW := Lib.hid ((K5.out.below hb).bel)
  clear hb n0 n1 X OW K5 F5 P5
  have x0 := X7.out.cell 0 rfl
  have x1 := X7.out.cell 1 rfl
  have y0 : w7.cell? ⟨g, 0, none⟩ = some (.int .i64 1) := World.ownsRow.cellAt O7.out 0 (by omega)
  go_wp2_with fail
  exact bodyPost_ret (v := .bool true) (by simp [results, Try.results13, go_sem]) rfl ⟨rfl, BW.out⟩
end Go.Proofs.Ytmebpglkeedaoaa
namespace Go.Proofs.Ytmebpglkeedaoaa
open Go.RowKit Dp
def LongP (w : World) (e : Ending) (w' : World) : Prop := (∃ b, e = .returned (.bool b)) ∧ Below w.heap.size w w'
set_option maxHeartbeats 4000000 in
set_option maxRecDepth 100000 in
theorem long_c (A B C D E P Q : Option Addr) (cs : List Car) (T : Tab) (n nB nC nD m p q cA cB cC cD cE cP cQ : Nat) (w : World) (hm : m = cs.length) (hp : p = T.inn.length) (hq : q = T.out.length)
    (hE : m ≤ cE ∧ cE ≤ 9223372036854775807) (hP : p ≤ cP ∧ cP ≤ 9223372036854775807) (hQ : q ≤ cQ ∧ cQ ≤ 9223372036854775807) (hcs : CarsAt w E cs) (hT : TabAt w P Q T) :
    Calls Try.prog 30 #[.agg #[.slice A n cA, .slice B nB cB, .slice C nC cC, .slice D nD cD], .slice E m cE, .agg #[.slice P p cP, .slice Q q cQ]] w fun e w' => LongP w e w' := by
  have HM := Lib.hid hm
  have HP := Lib.hid hp
  have HQ := Lib.hid hq
  have HCS := Lib.hid hcs
  have HT := Lib.hid hT
  clear hm hp hq hcs hT
  have HB := Lib.hid (((Below.refl w.heap.size w).alloc (Nat.le_refl _) (.cells #[.slice A n cA, .slice B nB cB, .slice C nC cC, .slice D nD cD] 51)).alloc (by simp) (.cells #[.slice P p cP, .slice Q q cQ] 55))
  have XS := Lib.hid ((Blk.new' w #[.slice A n cA, .slice B nB cB, .slice C nC cC, .slice D nD cD] 51).alloc (.cells #[.slice P p cP, .slice Q q cQ] 55))
  have XT := Lib.hid (show Blk ((w.alloc (.cells #[.slice A n cA, .slice B nB cB, .slice C nC cC, .slice D nD cD] 51)).alloc (.cells #[.slice P p cP, .slice Q q cQ] 55)) (w.heap.size + 1) 55 [.slice P p cP, .slice Q q cQ] from by simpa using Blk.new' (w.alloc (.cells #[.slice A n cA, .slice B nB cB, .slice C nC cC, .slice D nD cD] 51)) #[.slice P p cP, .slice Q q cQ] 55)
  go_enter Try.func30, Try.ntmps30
  go_upto_region 1 with fail
  generalize (w.alloc (.cells #[.slice A n cA, .slice B nB cB, .slice C nC cC, .slice D nD cD] 51)).alloc (.cells #[.slice P p cP, .slice Q q cQ] 55) = w1 at HB XS XT ⊢
  have s0 := XS.out.cell 0 rfl
  have s1 := XS.out.cell 1 rfl
  have s2 := XS.out.cell 2 rfl
  have s3 := XS.out.cell 3 rfl
  have t0 := XT.out.cell 0 rfl
  have t1 := XT.out.cell 1 rfl
  have HC1 := Lib.hid (HCS.out.below HB.out (Nat.le_refl _))
  have HT1 := Lib.hid (HT.out.below HB.out (Nat.le_refl _))
  by_cases a0 : 60 < n
  · have a0i : (60 : Int) < (n : Int) := by omega
    go_wp2_with fail
    exact bodyPost_ret (v := .bool true) (by simp [results, Try.results30, go_sem]) rfl (show LongP w _ _ from ⟨⟨_, rfl⟩, HB.out⟩)
  have a0i : ¬ (60 : Int) < (n : Int) := by omega
  by_cases a1 : 60 < nB
  · have a1i : (60 : Int) < (nB : Int) := by omega
    go_wp2_with fail
    exact bodyPost_ret (v := .bool true) (by simp [results, Try.results30, go_sem]) rfl (show LongP w _ _ from ⟨⟨_, rfl⟩, HB.out⟩)
  have a1i : ¬ (60 : Int) < (nB : Int) := by omega
  by_cases a2 : 60 < nC
  · have a2i : (60 : Int) < (nC : Int) := by omega
    go_wp2_with fail
    exact bodyPost_ret (v := .bool true) (by simp [results, Try.results30, go_sem]) rfl (show LongP w _ _ from ⟨⟨_, rfl⟩, HB.out⟩)
  have a2i : ¬ (60 : Int) < (nC : Int) := by omega
  by_cases a3 : 60 < nD
  · have a3i : (60 : Int) < (nD : Int) := by omega
    go_wp2_with fail
    exact bodyPost_ret (v := .bool true) (by simp [results, Try.results30, go_sem]) rfl (show LongP w _ _ from ⟨⟨_, rfl⟩, HB.out⟩)
  have a3i : ¬ (60 : Int) < (nD : Int) := by omega
  by_cases a4 : 12 < m
  · have a4i : (12 : Int) < (m : Int) := by omega
    go_wp2_with fail
    exact bodyPost_ret (v := .bool true) (by simp [results, Try.results30, go_sem]) rfl (show LongP w _ _ from ⟨⟨_, rfl⟩, HB.out⟩)
  have a4i : ¬ (12 : Int) < (m : Int) := by omega
  by_cases a5 : 12 < p
  · have a5i : (12 : Int) < (p : Int) := by omega
    go_wp2_with fail
    exact bodyPost_ret (v := .bool true) (by simp [results, Try.results30, go_sem]) rfl (show LongP w _ _ from ⟨⟨_, rfl⟩, HB.out⟩)
  have a5i : ¬ (12 : Int) < (p : Int) := by omega
  by_cases a6 : 12 < q
  · have a6i : (12 : Int) < (q : Int) := by omega
    go_wp2_with fail
    exact bodyPost_ret (v := .bool true) (by simp [results, Try.results30, go_sem]) rfl (show LongP w _ _ from ⟨⟨_, rfl⟩, HB.out⟩)
  have a6i : ¬ (12 : Int) < (q : Int) := by omega
  go_upto_region 3 with fail
  clear s0 s1 s2 s3 a0i a1i a2i a3i a4i a5i a6i
  go_wp2_with fail
  go_loop [7] (fun iv => ∃ k : Nat, k ≤ m ∧ iv = .int .i64 k) (fun iv => m - (intOf iv).toNat)
  case atStart => exact ⟨0, Nat.zero_le _, rfl⟩
  case round =>
    obtain ⟨k, hk, rfl⟩ := hrel
    by_cases hlt : k < m
    · have hki : (k : Int) < (m : Int) := by omega
      obtain ⟨ad, rfl, abl, c0, c1, c2, c3, c4, TT, cT, c5, hcT, HTT⟩ := HC1.out k (by rw [← HM.out]; exact hlt)
      clear c0 c1 c2 c3 c4 HTT
      generalize (cs.getD k default).trips.length = tl at *
      by_cases h8 : 8 < tl
      · have h8i : (8 : Int) < (tl : Int) := by omega
        go_wp2_with fail
        exact bodyPost_ret (v := .bool true) (by simp [results, Try.results30, go_sem]) rfl (show LongP w _ _ from ⟨⟨_, rfl⟩, HB.out⟩)
      · have h8i : ¬ (8 : Int) < (tl : Int) := by omega
        go_wp2_with fail
        go_round
        case rel => exact ⟨k + 1, by omega, by go_num⟩
        case measure => simp [intOf]; omega
    · obtain rfl : m = k := by omega
      go_wp2_with fail
      go_loop [8] (fun iv => ∃ k : Nat, k ≤ p ∧ iv = .int .i64 k) (fun iv => p - (intOf iv).toNat)
      case atStart => exact ⟨0, Nat.zero_le _, rfl⟩
      case round =>
        obtain ⟨k, hk, rfl⟩ := hrel
        by_cases hlt : k < p
        · have hki : (k : Int) < (p : Int) := by omega
          obtain ⟨ad, rfl, abl, TT, cT, c5, hcT, HTT⟩ := HT1.out.1 k (by rw [← HP.out]; exact hlt)
          clear HTT
          generalize (T.inn.getD k []).length = tl at *
          by_cases h8 : 60 < tl
          · have h8i : (60 : Int) < (tl : Int) := by omega
            go_wp2_with fail
            exact bodyPost_ret (v := .bool true) (by simp [results, Try.results30, go_sem]) rfl (show LongP w _ _ from ⟨⟨_, rfl⟩, HB.out⟩)
          · have h8i : ¬ (60 : Int) < (tl : Int) := by omega
            go_wp2_with fail
            go_round
            case rel => exact ⟨k + 1, by omega, by go_num⟩
            case measure => simp [intOf]; omega
        · obtain rfl : p = k := by omega
          go_wp2_with fail
          go_loop [9] (fun iv => ∃ k : Nat, k ≤ q ∧ iv = .int .i64 k) (fun iv => q - (intOf iv).toNat)
          case atStart => exact ⟨0, Nat.zero_le _, rfl⟩
          case round =>
            obtain ⟨k, hk, rfl⟩ := hrel
            by_cases hlt : k < q
            · have hki : (k : Int) < (q : Int) := by omega
              obtain ⟨ad, rfl, abl, TT, cT, c5, hcT, HTT⟩ := HT1.out.2 k (by rw [← HQ.out]; exact hlt)
              clear HTT
              generalize (T.out.getD k []).length = tl at *
              by_cases h8 : 60 < tl
              · have h8i : (60 : Int) < (tl : Int) := by omega
                go_wp2_with fail
                exact bodyPost_ret (v := .bool true) (by simp [results, Try.results30, go_sem]) rfl (show LongP w _ _ from ⟨⟨_, rfl⟩, HB.out⟩)
              · have h8i : ¬ (60 : Int) < (tl : Int) := by omega
                go_wp2_with fail
                go_round
                case rel => exact ⟨k + 1, by omega, by go_num⟩
                case measure => simp [intOf]; omega
            · obtain rfl : q = k := by omega
              go_wp2_with fail
              exact bodyPost_ret (v := .bool false) (by simp [results, Try.results30, go_sem]) rfl (show LongP w _ _ from ⟨⟨_, rfl⟩, HB.out⟩)
end Go.Proofs.Ytmebpglkeedaoaa
namespace Go.Proofs.Ytmebpglkeedaoaa
open Go.RowKit Dp
def R6 (w : World) : Ending → World → Prop := fun e w' => e = .returned (.bool true) ∧ Below w.heap.size w w'
end Go.Proofs.Ytmebpglkeedaoaa
namespace Go.Proofs.Ytmebpglkeedaoaa
open Go.RowKit Dp
set_option maxHeartbeats 8000000 in
set_option maxRecDepth 100000 in
theorem Checks_walk (A B C D E P Q X Y : Option Addr) (S : Site) (cs : List Car) (T : Tab) (ps : List Int) (peak : Int) (cut : List Int) (n nB nC nD m p q x y cA cB cC cD cE cP cQ cX cY : Nat) (w : World) (hn : n = S.lim.length) (hnB : nB = S.exp.length) (hnC : nC = S.buy.length) (hnD : nD = S.sell.length) (hm : m = cs.length) (hp : p = T.inn.length) (hq : q = T.out.length) (hx : x = ps.length) (hy : y = cut.length)
    (hA : n ≤ cA ∧ cA ≤ 9223372036854775807) (hB : nB ≤ cB ∧ cB ≤ 9223372036854775807) (hC : nC ≤ cC ∧ cC ≤ 9223372036854775807) (hD : nD ≤ cD ∧ cD ≤ 9223372036854775807) (hE : m ≤ cE ∧ cE ≤ 9223372036854775807) (hP : p ≤ cP ∧ cP ≤ 9223372036854775807) (hQ : q ≤ cQ ∧ cQ ≤ 9223372036854775807) (hX : x ≤ cX ∧ cX ≤ 9223372036854775807) (hY : y ≤ cY ∧ cY ≤ 9223372036854775807)
    (hS : SiteAt w A B C D S) (hcs : CarsAt w E cs) (hT : TabAt w P Q T) (hI : IntsAt w X ps) (hJ : IntsAt w Y cut) :
    Calls Try.prog 8 #[.agg #[.slice A n cA, .slice B nB cB, .slice C nC cC, .slice D nD cD], .slice E m cE, .agg #[.slice P p cP, .slice Q q cQ], .slice X x cX, .int .i64 peak, .slice Y y cY] w (R6 w) := by
  obtain ⟨u, hu⟩ : ∃ u, u = cbE S cs T ps := ⟨_, rfl⟩
  obtain ⟨v, hv⟩ : ∃ v, v = pkE S cs peak T cut := ⟨_, rfl⟩
  have F30 : Hid (∀ V, Below w.heap.size w V → Calls Try.prog 30 #[.agg #[.slice A n cA, .slice B nB cB, .slice C nC cC, .slice D nD cD], .slice E m cE, .agg #[.slice P p cP, .slice Q q cQ]] V (LongP V)) := Lib.hid (fun V hV => long_c A B C D E P Q cs T n nB nC nD m p q cA cB cC cD cE cP cQ V hm hp hq hE hP hQ (hcs.below hV (Nat.le_refl _)) (hT.below hV (Nat.le_refl _)))
  have F45 : Hid (∀ V, Below w.heap.size w V → Calls Try.prog 45 #[.agg #[.slice A n cA, .slice B nB cB, .slice C nC cC, .slice D nD cD], .slice E m cE, .agg #[.slice P p cP, .slice Q q cQ], .slice X x cX] V (fun e w' => e = .returned (.int .i64 u) ∧ Below V.heap.size V w')) := Lib.hid (fun V hV => by rw [hu]; exact CheckBest_c A B C D E P Q X S cs T ps n nB nC nD m p q x cA cB cC cD cE cP cQ cX V hn hnB hnC hnD hm hp hq hx hA hB hC hD hE hP hQ hX (hS.below hV (Nat.le_refl _)) (hcs.below hV (Nat.le_refl _)) (hT.below hV (Nat.le_refl _)) (hI.below hV (Nat.le_refl _)))
  have F46 : Hid (∀ V, Below w.heap.size w V → Calls Try.prog 46 #[.agg #[.slice A n cA, .slice B nB cB, .slice C nC cC, .slice D nD cD], .slice E m cE, .agg #[.slice P p cP, .slice Q q cQ], .slice X x cX] V (fun e w' => e = .returned (.int .i64 u) ∧ Below V.heap.size V w')) := Lib.hid (fun V hV => by rw [hu]; exact CheckBestR_c A B C D E P Q X S cs T ps n nB nC nD m p q x cA cB cC cD cE cP cQ cX V hn hnB hnC hnD hm hp hq hx hA hB hC hD hE hP hQ hX (hS.below hV (Nat.le_refl _)) (hcs.below hV (Nat.le_refl _)) (hT.below hV (Nat.le_refl _)) (hI.below hV (Nat.le_refl _)))
  have F47 : Hid (∀ V, Below w.heap.size w V → Calls Try.prog 47 #[.agg #[.slice A n cA, .slice B nB cB, .slice C nC cC, .slice D nD cD], .slice E m cE, .int .i64 peak, .agg #[.slice P p cP, .slice Q q cQ], .slice Y y cY] V (fun e w' => e = .returned (.int .i64 v) ∧ Below V.heap.size V w')) := Lib.hid (fun V hV => by rw [hv]; exact CheckPeak_c A B C D E P Q Y S cs T peak cut n nB nC nD m p q y cA cB cC cD cE cP cQ cY V hn hnB hnC hnD hm hp hq hy hA hB hC hD hE hP hQ hY (hS.below hV (Nat.le_refl _)) (hcs.below hV (Nat.le_refl _)) (hT.below hV (Nat.le_refl _)) (hJ.below hV (Nat.le_refl _)))
  have F48 : Hid (∀ V, Below w.heap.size w V → Calls Try.prog 48 #[.agg #[.slice A n cA, .slice B nB cB, .slice C nC cC, .slice D nD cD], .slice E m cE, .int .i64 peak, .agg #[.slice P p cP, .slice Q q cQ], .slice Y y cY] V (fun e w' => e = .returned (.int .i64 v) ∧ Below V.heap.size V w')) := Lib.hid (fun V hV => by rw [hv]; exact CheckPeakR_c A B C D E P Q Y S cs T peak cut n nB nC nD m p q y cA cB cC cD cE cP cQ cY V hn hnB hnC hnD hm hp hq hy hA hB hC hD hE hP hQ hY (hS.below hV (Nat.le_refl _)) (hcs.below hV (Nat.le_refl _)) (hT.below hV (Nat.le_refl _)) (hJ.below hV (Nat.le_refl _)))
  clear hn hnB hnC hnD hm hp hq hx hy hS hcs hT hI hJ hu hv
  have HB := Lib.hid (((Below.refl w.heap.size w).alloc (Nat.le_refl _) (.cells #[.slice A n cA, .slice B nB cB, .slice C nC cC, .slice D nD cD] 51)).alloc (by simp) (.cells #[.slice P p cP, .slice Q q cQ] 55))
  have XS := Lib.hid ((Blk.new' w #[.slice A n cA, .slice B nB cB, .slice C nC cC, .slice D nD cD] 51).alloc (.cells #[.slice P p cP, .slice Q q cQ] 55))
  have XT := Lib.hid (show Blk ((w.alloc (.cells #[.slice A n cA, .slice B nB cB, .slice C nC cC, .slice D nD cD] 51)).alloc (.cells #[.slice P p cP, .slice Q q cQ] 55)) (w.heap.size + 1) 55 [.slice P p cP, .slice Q q cQ] from by simpa using Blk.new' (w.alloc (.cells #[.slice A n cA, .slice B nB cB, .slice C nC cC, .slice D nD cD] 51)) #[.slice P p cP, .slice Q q cQ] 55)
  go_enter Try.func8, Try.ntmps8
  go_upto_region 1 with fail
  generalize (w.alloc (.cells #[.slice A n cA, .slice B nB cB, .slice C nC cC, .slice D nD cD] 51)).alloc (.cells #[.slice P p cP, .slice Q q cQ] 55) = w1 at HB XS XT ⊢
  have s0 := XS.out.cell 0 rfl
  have s1 := XS.out.cell 1 rfl
  have s2 := XS.out.cell 2 rfl
  have s3 := XS.out.cell 3 rfl
  have sl := XS.out.lt
  have t0 := XT.out.cell 0 rfl
  have t1 := XT.out.cell 1 rfl
  have tl := XT.out.lt
  go_wp2_with fail
  refine (F30.out w1 HB.out).mono ?_
  rintro e w2 ⟨⟨b, rfl⟩, hb⟩
  clear s0 s1 s2 s3 sl t0 t1 tl
  have XS := Lib.hid (XS.out.below hb XS.out.lt)
  have XT := Lib.hid (XT.out.below hb XT.out.lt)
  have HB := Lib.hid (HB.out.trans (hb.mono HB.out.size))
  clear hb
  cases b
  rotate_left
  · skip
    go_wp2_with fail
    refine (known_c _).mono ?_
    rintro e wk ⟨rfl, hk⟩
    have HK := Lib.hid (HB.out.trans (hk.mono HB.out.size))
    clear hk
    go_wp2_with fail
    go_ret
    exact ⟨rfl, HK.out⟩
  by_cases hx : 1100 < x
  · have dx : decide ((1100 : Int) < (x : Int)) = true := decide_eq_true (by omega)
    go_wp2_with fail
    refine (known_c _).mono ?_
    rintro e wk ⟨rfl, hk⟩
    have HK := Lib.hid (HB.out.trans (hk.mono HB.out.size))
    clear hk
    go_wp2_with fail
    go_ret
    exact ⟨rfl, HK.out⟩
  have dx : decide ((1100 : Int) < (x : Int)) = false := decide_eq_false (by omega)
  by_cases hy : 1100 < y
  · have dy : decide ((1100 : Int) < (y : Int)) = true := decide_eq_true (by omega)
    go_wp2_with fail
    refine (known_c _).mono ?_
    rintro e wk ⟨rfl, hk⟩
    have HK := Lib.hid (HB.out.trans (hk.mono HB.out.size))
    clear hk
    go_wp2_with fail
    go_ret
    exact ⟨rfl, HK.out⟩
  have dy : decide ((1100 : Int) < (y : Int)) = false := decide_eq_false (by omega)
  have s0 := XS.out.cell 0 rfl
  have s1 := XS.out.cell 1 rfl
  have s2 := XS.out.cell 2 rfl
  have s3 := XS.out.cell 3 rfl
  have sl := XS.out.lt
  have t0 := XT.out.cell 0 rfl
  have t1 := XT.out.cell 1 rfl
  have tl := XT.out.lt
  go_upto_region 3 with fail
  refine wp_region_past (by kernel_rfl) (by kernel_rfl) ?_
  repeat (go_big_quiet_step (first | (go_at_call 45; exact past_below (F45.out _ (HB.out.trans ((Past.far _).mono HB.out.size)))) | (go_at_call 46; exact past_below (F46.out _ (HB.out.trans ((Past.far _).mono HB.out.size)))) | (go_at_call 47; exact past_below (F47.out _ (HB.out.trans ((Past.far _).mono HB.out.size)))) | (go_at_call 48; exact past_below (F48.out _ (HB.out.trans ((Past.far _).mono HB.out.size)))) | (go_at_call 13; exact past_below ((known_c _).mono (fun _ _ h => ⟨h.1, h.2⟩)))))
  refine wpQuiet_nil ?_
  intro xx
  have hb := xx.far
  clear s0 s1 s2 s3 sl t0 t1 tl
  have HB := Lib.hid (HB.out.trans (hb.mono HB.out.size))
  clear hb
  generalize xx.w = w7 at *
  clear xx
  go_wp2_with fail
  go_ret
  exact ⟨rfl, HB.out⟩
end Go.Proofs.Ytmebpglkeedaoaa
