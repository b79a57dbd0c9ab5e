/- Contracts that the claim leans on, part 7: LSites -/
import Derived.Test.YtmebpglkeedaoaaDS6
set_option linter.unusedVariables false
set_option linter.unusedSimpArgs false
set_option linter.unnecessarySimpa false
namespace Go.Proofs.Ytmebpglkeedaoaa
open Go.RowKit Dp
set_option maxHeartbeats 8000000 in
set_option maxRecDepth 100000 in
theorem Sites_walk (A B C D E P Q : Option Addr) (S : Site) (cs : List Car) (T : Tab) (n nB nC nD m p q cA cB cC cD cE cP cQ : Nat) (w : World) (hn : n = S.lim.length) (hnB : nB = S.exp.length) (hnC : nC = S.buy.length) (hnD : nD = S.sell.length) (hm : m = cs.length) (hp : p = T.inn.length) (hq : q = T.out.length)
    (hA : n ≤ cA ∧ cA ≤ 9223372036854775807) (hB : nB ≤ cB ∧ cB ≤ 9223372036854775807) (hC : nC ≤ cC ∧ cC ≤ 9223372036854775807) (hD : nD ≤ cD ∧ cD ≤ 9223372036854775807) (hE : m ≤ cE ∧ cE ≤ 9223372036854775807) (hP : p ≤ cP ∧ cP ≤ 9223372036854775807) (hQ : q ≤ cQ ∧ cQ ≤ 9223372036854775807)
    (hS : SiteAt w A B C D S) (hcs : CarsAt w E cs) (hT : TabAt w P Q T) :
    Calls Try.prog 7 #[.agg #[.slice A n cA, .slice B nB cB, .slice C nC cC, .slice D nD cD], .slice E m cE, .agg #[.slice P p cP, .slice Q q cQ]] w (R6 w) := by
  obtain ⟨v, hv⟩ : ∃ v, v = stE S cs := ⟨_, rfl⟩
  obtain ⟨N, hN⟩ : ∃ N, N = nuN S cs := ⟨_, rfl⟩
  obtain ⟨k, hk⟩ : ∃ k, k = N.sup.length := ⟨_, rfl⟩
  obtain ⟨l, hl⟩ : ∃ l, l = N.arcs.length := ⟨_, rfl⟩
  obtain ⟨x, hx⟩ : ∃ x, x = prcV S cs T := ⟨_, rfl⟩
  obtain ⟨u, hu⟩ : ∃ u, u = plE S cs T := ⟨_, rfl⟩
  obtain ⟨R, hR⟩ : ∃ R, R = lvU S cs T := ⟨_, rfl⟩
  obtain ⟨r, hr⟩ : ∃ r, r = R.length := ⟨_, rfl⟩
  obtain ⟨z, hz⟩ : ∃ z, z = egE S cs := ⟨_, rfl⟩
  obtain ⟨TT, hTT⟩ : ∃ TT, TT = egU S cs := ⟨_, rfl⟩
  obtain ⟨ti, hti⟩ : ∃ ti, ti = TT.inn.length := ⟨_, rfl⟩
  obtain ⟨tq, htq⟩ : ∃ tq, tq = TT.out.length := ⟨_, rfl⟩
  have F30 : Hid (∀ V, Below w.heap.size w V → Calls Try.prog 30 #[.agg #[.slice A n cA, .slice B nB cB, .slice C nC cC, .slice D nD cD], .slice E m cE, .agg #[.slice P p cP, .slice Q q cQ]] V (LongP V)) := Lib.hid (fun V hV => long_c A B C D E P Q cs T n nB nC nD m p q cA cB cC cD cE cP cQ V hm hp hq hE hP hQ (hcs.below hV (Nat.le_refl _)) (hT.below hV (Nat.le_refl _)))
  have F34 : Hid (∀ V, Below w.heap.size w V → Calls Try.prog 34 #[.agg #[.slice A n cA, .slice B nB cB, .slice C nC cC, .slice D nD cD], .slice E m cE] V (NetV N k l v V)) := Lib.hid (fun V hV => (NetOf_c A B C D E S cs n nB nC nD m cA cB cC cD cE V hn hnB hnC hnD hm hA hB hC hD hE (hS.below hV (Nat.le_refl _)) (hcs.below hV (Nat.le_refl _))).mono (fun _ _ h => NetP.v hN hk hl hv h))
  have F35 : Hid (∀ V, Below w.heap.size w V → Calls Try.prog 35 #[.agg #[.slice A n cA, .slice B nB cB, .slice C nC cC, .slice D nD cD], .slice E m cE] V (NetV N k l v V)) := Lib.hid (fun V hV => (NetOfR_c A B C D E S cs n nB nC nD m cA cB cC cD cE V hn hnB hnC hnD hm hA hB hC hD hE (hS.below hV (Nat.le_refl _)) (hcs.below hV (Nat.le_refl _))).mono (fun _ _ h => NetP.v hN hk hl hv h))
  have F36 : Hid (∀ V, Below w.heap.size w V → Calls Try.prog 36 #[.agg #[.slice A n cA, .slice B nB cB, .slice C nC cC, .slice D nD cD], .slice E m cE] V (fun e w' => e = .returned (.int .i64 v) ∧ Below V.heap.size V w')) := Lib.hid (fun V hV => by rw [hv]; exact CheckSite_c A B C D E S cs n nB nC nD m cA cB cC cD cE V hn hnB hnC hnD hm hA hB hC hD hE (hS.below hV (Nat.le_refl _)) (hcs.below hV (Nat.le_refl _)))
  have F31 : Hid (∀ V, Below w.heap.size w V → Calls Try.prog 31 #[.agg #[.slice A n cA, .slice B nB cB, .slice C nC cC, .slice D nD cD], .slice E m cE] V (fun e w' => e = .returned (.int .i64 v) ∧ Below V.heap.size V w')) := Lib.hid (fun V hV => by rw [hv]; exact CheckSiteR_c A B C D E S cs n nB nC nD m cA cB cC cD cE V hn hnB hnC hnD hm hA hB hC hD hE (hS.below hV (Nat.le_refl _)) (hcs.below hV (Nat.le_refl _)))
  have F32 : Hid (∀ V, Below w.heap.size w V → Calls Try.prog 32 #[.agg #[.slice A n cA, .slice B nB cB, .slice C nC cC, .slice D nD cD], .slice E m cE, .agg #[.slice P p cP, .slice Q q cQ]] V (fun e w' => e = .returned (.int .i64 u) ∧ Below V.heap.size V w')) := Lib.hid (fun V hV => by rw [hu]; exact CheckPlan_c A B C D E P Q S cs T n nB nC nD m p q cA cB cC cD cE cP cQ V hn hnB hnC hnD hm hp hq hA hB hC hD hE hP hQ (hS.below hV (Nat.le_refl _)) (hcs.below hV (Nat.le_refl _)) (hT.below hV (Nat.le_refl _)))
  have F41 : Hid (∀ V, Below w.heap.size w V → Calls Try.prog 41 #[.agg #[.slice A n cA, .slice B nB cB, .slice C nC cC, .slice D nD cD], .slice E m cE, .agg #[.slice P p cP, .slice Q q cQ]] V (fun e w' => e = .returned (.int .i64 u) ∧ Below V.heap.size V w')) := Lib.hid (fun V hV => by rw [hu]; exact CheckPlanR_c A B C D E P Q S cs T n nB nC nD m p q cA cB cC cD cE cP cQ V hn hnB hnC hnD hm hp hq hA hB hC hD hE hP hQ (hS.below hV (Nat.le_refl _)) (hcs.below hV (Nat.le_refl _)) (hT.below hV (Nat.le_refl _)))
  have F38 : Hid (∀ V, Below w.heap.size w V → Calls Try.prog 38 #[.agg #[.slice A n cA, .slice B nB cB, .slice C nC cC, .slice D nD cD], .slice E m cE, .agg #[.slice P p cP, .slice Q q cQ]] V (fun e w' => e = .returned (.tuple #[.int .i64 x, .int .i64 u]) ∧ Below V.heap.size V w')) := Lib.hid (fun V hV => by rw [hx, hu]; exact Price_c A B C D E P Q S cs T n nB nC nD m p q cA cB cC cD cE cP cQ V hn hnB hnC hnD hm hp hq hA hB hC hD hE hP hQ (hS.below hV (Nat.le_refl _)) (hcs.below hV (Nat.le_refl _)) (hT.below hV (Nat.le_refl _)))
  have F39 : Hid (∀ V, Below w.heap.size w V → Calls Try.prog 39 #[.agg #[.slice A n cA, .slice B nB cB, .slice C nC cC, .slice D nD cD], .slice E m cE, .agg #[.slice P p cP, .slice Q q cQ]] V (fun e w' => e = .returned (.tuple #[.int .i64 x, .int .i64 u]) ∧ Below V.heap.size V w')) := Lib.hid (fun V hV => by rw [hx, hu]; exact PriceR_c A B C D E P Q S cs T n nB nC nD m p q cA cB cC cD cE cP cQ V hn hnB hnC hnD hm hp hq hA hB hC hD hE hP hQ (hS.below hV (Nat.le_refl _)) (hcs.below hV (Nat.le_refl _)) (hT.below hV (Nat.le_refl _)))
  have F33 : Hid (∀ V, Below w.heap.size w V → Calls Try.prog 33 #[.agg #[.slice A n cA, .slice B nB cB, .slice C nC cC, .slice D nD cD], .slice E m cE, .agg #[.slice P p cP, .slice Q q cQ]] V (LevV R r u V)) := Lib.hid (fun V hV => (Levels_c A B C D E P Q S cs T n nB nC nD m p q cA cB cC cD cE cP cQ V hn hnB hnC hnD hm hp hq hA hB hC hD hE hP hQ (hS.below hV (Nat.le_refl _)) (hcs.below hV (Nat.le_refl _)) (hT.below hV (Nat.le_refl _))).mono (fun _ _ h => LevP.v hn hm hR hr hu h))
  have F40 : Hid (∀ V, Below w.heap.size w V → Calls Try.prog 40 #[.agg #[.slice A n cA, .slice B nB cB, .slice C nC cC, .slice D nD cD], .slice E m cE, .agg #[.slice P p cP, .slice Q q cQ]] V (LevV R r u V)) := Lib.hid (fun V hV => (LevelsR_c A B C D E P Q S cs T n nB nC nD m p q cA cB cC cD cE cP cQ V hn hnB hnC hnD hm hp hq hA hB hC hD hE hP hQ (hS.below hV (Nat.le_refl _)) (hcs.below hV (Nat.le_refl _)) (hT.below hV (Nat.le_refl _))).mono (fun _ _ h => LevP.v hn hm hR hr hu h))
  have F43 : Hid (∀ V, Below w.heap.size w V → Calls Try.prog 43 #[.agg #[.slice A n cA, .slice B nB cB, .slice C nC cC, .slice D nD cD], .slice E m cE] V (EgV TT ti tq z V)) := Lib.hid (fun V hV => (Eager_c A B C D E S cs n nB nC nD m cA cB cC cD cE V hn hnB hnC hnD hm hA hB hC hD hE (hS.below hV (Nat.le_refl _)) (hcs.below hV (Nat.le_refl _))).mono (fun _ _ h => EgP.v hTT hti htq hz h))
  have F44 : Hid (∀ V, Below w.heap.size w V → Calls Try.prog 44 #[.agg #[.slice A n cA, .slice B nB cB, .slice C nC cC, .slice D nD cD], .slice E m cE] V (EgV TT ti tq z V)) := Lib.hid (fun V hV => (EagerR_c A B C D E S cs n nB nC nD m cA cB cC cD cE V hn hnB hnC hnD hm hA hB hC hD hE (hS.below hV (Nat.le_refl _)) (hcs.below hV (Nat.le_refl _))).mono (fun _ _ h => EgP.v hTT hti htq hz h))
  clear hn hnB hnC hnD hm hp hq hS hcs hT hv hN hx hu hR hz hTT
  have HK := Lib.hid hk
  have HL := Lib.hid hl
  have HR := Lib.hid hr
  have HTI := Lib.hid hti
  have HTQ := Lib.hid htq
  clear hk hl hr hti htq
  have HB := Lib.hid (((Below.refl w.heap.size w).alloc (Nat.le_refl _) (.cells #[.slice A n cA, .slice B nB cB, .slice C nC cC, .slice D nD cD] 51)).alloc (by simp) (.cells #[.slice P p cP, .slice Q q cQ] 55))
  have XS := Lib.hid ((Blk.new' w #[.slice A n cA, .slice B nB cB, .slice C nC cC, .slice D nD cD] 51).alloc (.cells #[.slice P p cP, .slice Q q cQ] 55))
  have XT := Lib.hid (show Blk ((w.alloc (.cells #[.slice A n cA, .slice B nB cB, .slice C nC cC, .slice D nD cD] 51)).alloc (.cells #[.slice P p cP, .slice Q q cQ] 55)) (w.heap.size + 1) 55 [.slice P p cP, .slice Q q cQ] from by simpa using Blk.new' (w.alloc (.cells #[.slice A n cA, .slice B nB cB, .slice C nC cC, .slice D nD cD] 51)) #[.slice P p cP, .slice Q q cQ] 55)
  go_enter Try.func7, Try.ntmps7
  go_upto_region 1 with fail
  generalize (w.alloc (.cells #[.slice A n cA, .slice B nB cB, .slice C nC cC, .slice D nD cD] 51)).alloc (.cells #[.slice P p cP, .slice Q q cQ] 55) = w1 at HB XS XT ⊢
  have s0 := XS.out.cell 0 rfl
  have s1 := XS.out.cell 1 rfl
  have s2 := XS.out.cell 2 rfl
  have s3 := XS.out.cell 3 rfl
  have sl := XS.out.lt
  have t0 := XT.out.cell 0 rfl
  have t1 := XT.out.cell 1 rfl
  have tl := XT.out.lt
  go_wp2_with fail
  refine (F30.out w1 HB.out).mono ?_
  rintro e w2 ⟨⟨b, rfl⟩, hb⟩
  clear s0 s1 s2 s3 sl t0 t1 tl
  have XS := Lib.hid (XS.out.below hb XS.out.lt)
  have XT := Lib.hid (XT.out.below hb XT.out.lt)
  have HB := Lib.hid (HB.out.trans (hb.mono HB.out.size))
  clear hb
  cases b
  rotate_left
  · go_wp2_with fail
    refine (known_c _).mono ?_
    rintro e wk ⟨rfl, hk⟩
    have HK := Lib.hid (HB.out.trans (hk.mono HB.out.size))
    clear hk
    go_wp2_with fail
    go_ret
    exact ⟨rfl, HK.out⟩
  have s0 := XS.out.cell 0 rfl
  have s1 := XS.out.cell 1 rfl
  have s2 := XS.out.cell 2 rfl
  have s3 := XS.out.cell 3 rfl
  have sl := XS.out.lt
  go_wp2_with fail
  refine (F34.out _ HB.out).mono ?_
  rintro e w3 ⟨G1, A1, cG1, cA1, rfl, h1, h2, h3, hb⟩
  clear s0 s1 s2 s3 sl
  have XS := Lib.hid (XS.out.below hb XS.out.lt)
  have XT := Lib.hid (XT.out.below hb XT.out.lt)
  have HB := Lib.hid (HB.out.trans (hb.mono HB.out.size))
  have HNA := Lib.hid h3
  have HNA1 := Lib.hid h1
  have HNA2 := Lib.hid h2
  clear h1 h2 h3 hb
  have hb := (Below.refl w3.heap.size w3).alloc (Nat.le_refl _) (.cells #[.slice G1 k cG1, .slice A1 l cA1] 25)
  have XS := Lib.hid (XS.out.below hb XS.out.lt)
  have XT := Lib.hid (XT.out.below hb XT.out.lt)
  have HNA := Lib.hid (HNA.out.below hb (Nat.le_refl _))
  have HB := Lib.hid (HB.out.trans (hb.mono HB.out.size))
  have XA := Lib.hid (Blk.new' w3 #[.slice G1 k cG1, .slice A1 l cA1] 25)
  clear hb
  go_upto_region 4 with fail
  generalize w3.alloc (.cells #[.slice G1 k cG1, .slice A1 l cA1] 25) = w4 at *
  generalize w3.heap.size = ga at *
  have s0 := XS.out.cell 0 rfl
  have s1 := XS.out.cell 1 rfl
  have s2 := XS.out.cell 2 rfl
  have s3 := XS.out.cell 3 rfl
  have sl := XS.out.lt
  go_wp2_with fail
  refine (F35.out _ HB.out).mono ?_
  rintro e w5 ⟨G2, A2, cG2, cA2, rfl, h1, h2, h3, hb⟩
  clear s0 s1 s2 s3 sl
  have XS := Lib.hid (XS.out.below hb XS.out.lt)
  have XT := Lib.hid (XT.out.below hb XT.out.lt)
  have XA := Lib.hid (XA.out.below hb XA.out.lt)
  have HNA := Lib.hid (HNA.out.below hb (Nat.le_refl _))
  have HB := Lib.hid (HB.out.trans (hb.mono HB.out.size))
  have HNB := Lib.hid h3
  have HNB1 := Lib.hid h1
  have HNB2 := Lib.hid h2
  clear h1 h2 h3 hb
  have hb := (Below.refl w5.heap.size w5).alloc (Nat.le_refl _) (.cells #[.slice G2 k cG2, .slice A2 l cA2] 25)
  have XS := Lib.hid (XS.out.below hb XS.out.lt)
  have XT := Lib.hid (XT.out.below hb XT.out.lt)
  have XA := Lib.hid (XA.out.below hb XA.out.lt)
  have HNA := Lib.hid (HNA.out.below hb (Nat.le_refl _))
  have HNB := Lib.hid (HNB.out.below hb (Nat.le_refl _))
  have HB := Lib.hid (HB.out.trans (hb.mono HB.out.size))
  have XB := Lib.hid (Blk.new' w5 #[.slice G2 k cG2, .slice A2 l cA2] 25)
  clear hb
  go_upto_region 5 with fail
  generalize w5.alloc (.cells #[.slice G2 k cG2, .slice A2 l cA2] 25) = w6 at *
  generalize w5.heap.size = gb at *
  have F37 : Hid (∀ V, Below w6.heap.size w6 V → Calls Try.prog 37 #[.slice G1 k cG1, .slice G2 k cG2] V fun e w' => e = .returned (.bool true) ∧ Below V.heap.size V w') := Lib.hid (fun V hV => same_c G1 G2 N.sup k cG1 cG2 V HK.out HNA1.out HNB1.out ((HNA.out.below hV (Nat.le_refl _)).1) ((HNB.out.below hV (Nat.le_refl _)).1))
  have s0 := XS.out.cell 0 rfl
  have s1 := XS.out.cell 1 rfl
  have s2 := XS.out.cell 2 rfl
  have s3 := XS.out.cell 3 rfl
  have sl := XS.out.lt
  have a0 := XA.out.cell 0 rfl
  have a1 := XA.out.cell 1 rfl
  have al := XA.out.lt
  have b0 := XB.out.cell 0 rfl
  have b1 := XB.out.cell 1 rfl
  have bl := XB.out.lt
  refine wp_region_past (by kernel_rfl) (by kernel_rfl) ?_
  repeat (go_big_quiet_step (first | (go_at_call 36; exact past_below (F36.out _ (HB.out.trans ((Past.far _).mono HB.out.size)))) | (go_at_call 31; exact past_below (F31.out _ (HB.out.trans ((Past.far _).mono HB.out.size)))) | (go_at_call 37; exact past_below (F37.out _ (Past.far _)))))
  refine wpQuiet_nil ?_
  intro xx
  have hb := xx.far
  clear s0 s1 s2 s3 sl a0 a1 al b0 b1 bl
  clear F37
  have XS := Lib.hid (XS.out.below hb XS.out.lt)
  have XT := Lib.hid (XT.out.below hb XT.out.lt)
  have XA := Lib.hid (XA.out.below hb XA.out.lt)
  have XB := Lib.hid (XB.out.below hb XB.out.lt)
  have HNA := Lib.hid (HNA.out.below hb (Nat.le_refl _))
  have HNB := Lib.hid (HNB.out.below hb (Nat.le_refl _))
  have HB := Lib.hid (HB.out.trans (hb.mono HB.out.size))
  clear hb
  generalize xx.w = w7 at *
  clear xx
  have a0 := XA.out.cell 0 rfl
  have a1 := XA.out.cell 1 rfl
  have al := XA.out.lt
  have b0 := XB.out.cell 0 rfl
  have b1 := XB.out.cell 1 rfl
  have bl := XB.out.lt
  go_upto_region 7 with fail
  go_wp2_with fail
  clear a0 a1 al b0 b1 bl
  go_loopw [11] (fun iv wr => ∃ j : Nat, j ≤ l ∧ iv = .int .i64 j ∧ Hid (Below w7.heap.size w7 wr)) (fun iv _ => l - (intOf iv).toNat)
  case atStart => exact ⟨0, Nat.zero_le _, rfl, Lib.hid (Below.refl _ _)⟩
  case round =>
    obtain ⟨j, hj, rfl, HW⟩ := hrel
    have XW := XA.out.below HW.out XA.out.lt
    have a0 := XW.cell 0 rfl
    have a1 := XW.cell 1 rfl
    have al := XW.lt
    clear XW
    have XW := XB.out.below HW.out XB.out.lt
    have b0 := XW.cell 0 rfl
    have b1 := XW.cell 1 rfl
    have bl := XW.lt
    clear XW
    have jb := HNA2.out
    by_cases hlt : j < l
    · have hji : (j : Int) < (l : Int) := by omega
      obtain ⟨pa, rfl, pal, p0, p1, p2, p3⟩ := (HNA.out.below HW.out (Nat.le_refl _)).2 j (by rw [← HL.out]; exact hlt)
      obtain ⟨qa, rfl, qal, q0, q1, q2, q3⟩ := (HNB.out.below HW.out (Nat.le_refl _)).2 j (by rw [← HL.out]; exact hlt)
      have ab2 : (pa.add (j * 4)).block < wr.heap.size := by rw [block_add]; exact pal
      have bb2 : (qa.add (j * 4)).block < wr.heap.size := by rw [block_add]; exact qal
      have HNE := fun W' => runArcNe W' (N.arcs.getD j default).fr (N.arcs.getD j default).to (N.arcs.getD j default).cap (N.arcs.getD j default).cost
      generalize (N.arcs.getD j default).fr = y0 at *
      generalize (N.arcs.getD j default).to = y1 at *
      generalize (N.arcs.getD j default).cap = y2 at *
      generalize (N.arcs.getD j default).cost = y3 at *
      go_upto_region 10 with fail
      refine wp_region_past (by kernel_rfl) (by kernel_rfl) ?_
      repeat (go_big_quiet_step (fail))
      refine wpQuiet_nil ?_
      intro xx
      have hb := xx.far
      have HX := Lib.hid (HW.out.trans (hb.mono HW.out.size))
      clear hb
      generalize xx.w = w8 at HX ⊢
      clear xx ab2 bb2 p0 p1 p2 p3 q0 q1 q2 q3 HNE
      clear a0 a1 al b0 b1 bl
      go_wp2_with fail
      go_roundw
      case rel => exact ⟨j + 1, by omega, by go_num, HX⟩
      case measure => simp [intOf]; omega
    · obtain rfl : l = j := by omega
      have XW := XS.out.below HW.out XS.out.lt
      have s0 := XW.cell 0 rfl
      have s1 := XW.cell 1 rfl
      have s2 := XW.cell 2 rfl
      have s3 := XW.cell 3 rfl
      have sl := XW.lt
      clear XW
      have XW := XT.out.below HW.out XT.out.lt
      have t0 := XW.cell 0 rfl
      have t1 := XW.cell 1 rfl
      have tl := XW.lt
      clear XW
      go_wp2_with fail
      have hb := HW.out
      have XS := Lib.hid (XS.out.below hb XS.out.lt)
      have XT := Lib.hid (XT.out.below hb XT.out.lt)
      have XA := Lib.hid (XA.out.below hb XA.out.lt)
      have XB := Lib.hid (XB.out.below hb XB.out.lt)
      have HNA := Lib.hid (HNA.out.below hb (Nat.le_refl _))
      have HNB := Lib.hid (HNB.out.below hb (Nat.le_refl _))
      have HB := Lib.hid (HB.out.trans (hb.mono HB.out.size))
      clear s0 s1 s2 s3 sl t0 t1 tl a0 a1 al b0 b1 bl
      clear hb HW
      refine (F38.out _ HB.out).mono ?_
      rintro e w10 ⟨rfl, hb⟩
      have XS := Lib.hid (XS.out.below hb XS.out.lt)
      have XT := Lib.hid (XT.out.below hb XT.out.lt)
      have XA := Lib.hid (XA.out.below hb XA.out.lt)
      have XB := Lib.hid (XB.out.below hb XB.out.lt)
      have HNA := Lib.hid (HNA.out.below hb (Nat.le_refl _))
      have HNB := Lib.hid (HNB.out.below hb (Nat.le_refl _))
      have HB := Lib.hid (HB.out.trans (hb.mono HB.out.size))
      clear hb
      have s0 := XS.out.cell 0 rfl
      have s1 := XS.out.cell 1 rfl
      have s2 := XS.out.cell 2 rfl
      have s3 := XS.out.cell 3 rfl
      have sl := XS.out.lt
      have t0 := XT.out.cell 0 rfl
      have t1 := XT.out.cell 1 rfl
      have tl := XT.out.lt
      go_wp2_with fail
      clear s0 s1 s2 s3 sl t0 t1 tl
      refine (F39.out _ HB.out).mono ?_
      rintro e w11 ⟨rfl, hb⟩
      have XS := Lib.hid (XS.out.below hb XS.out.lt)
      have XT := Lib.hid (XT.out.below hb XT.out.lt)
      have XA := Lib.hid (XA.out.below hb XA.out.lt)
      have XB := Lib.hid (XB.out.below hb XB.out.lt)
      have HNA := Lib.hid (HNA.out.below hb (Nat.le_refl _))
      have HNB := Lib.hid (HNB.out.below hb (Nat.le_refl _))
      have HB := Lib.hid (HB.out.trans (hb.mono HB.out.size))
      clear hb
      have s0 := XS.out.cell 0 rfl
      have s1 := XS.out.cell 1 rfl
      have s2 := XS.out.cell 2 rfl
      have s3 := XS.out.cell 3 rfl
      have sl := XS.out.lt
      have t0 := XT.out.cell 0 rfl
      have t1 := XT.out.cell 1 rfl
      have tl := XT.out.lt
      go_wp2_with fail
      clear s0 s1 s2 s3 sl t0 t1 tl
      refine (F33.out _ HB.out).mono ?_
      rintro e w12 ⟨L1, cL1, rfl, h1, h2, hb⟩
      have XS := Lib.hid (XS.out.below hb XS.out.lt)
      have XT := Lib.hid (XT.out.below hb XT.out.lt)
      have XA := Lib.hid (XA.out.below hb XA.out.lt)
      have XB := Lib.hid (XB.out.below hb XB.out.lt)
      have HNA := Lib.hid (HNA.out.below hb (Nat.le_refl _))
      have HNB := Lib.hid (HNB.out.below hb (Nat.le_refl _))
      have HB := Lib.hid (HB.out.trans (hb.mono HB.out.size))
      clear hb
      have HLA := Lib.hid h2
      have HLA1 := Lib.hid h1
      clear h1 h2
      have s0 := XS.out.cell 0 rfl
      have s1 := XS.out.cell 1 rfl
      have s2 := XS.out.cell 2 rfl
      have s3 := XS.out.cell 3 rfl
      have sl := XS.out.lt
      have t0 := XT.out.cell 0 rfl
      have t1 := XT.out.cell 1 rfl
      have tl := XT.out.lt
      go_wp2_with fail
      clear s0 s1 s2 s3 sl t0 t1 tl
      refine (F40.out _ HB.out).mono ?_
      rintro e w13 ⟨L2, cL2, rfl, h1, h2, hb⟩
      have XS := Lib.hid (XS.out.below hb XS.out.lt)
      have XT := Lib.hid (XT.out.below hb XT.out.lt)
      have XA := Lib.hid (XA.out.below hb XA.out.lt)
      have XB := Lib.hid (XB.out.below hb XB.out.lt)
      have HNA := Lib.hid (HNA.out.below hb (Nat.le_refl _))
      have HNB := Lib.hid (HNB.out.below hb (Nat.le_refl _))
      have HLA := Lib.hid (HLA.out.below hb (Nat.le_refl _))
      have HB := Lib.hid (HB.out.trans (hb.mono HB.out.size))
      clear hb
      have HLB := Lib.hid h2
      have HLB1 := Lib.hid h1
      clear h1 h2
      have F42 : Hid (∀ V, Below w13.heap.size w13 V → Calls Try.prog 42 #[.slice L1 r cL1, .slice L2 r cL2] V fun e w' => e = .returned (.bool true) ∧ Below V.heap.size V w') := Lib.hid (fun V hV => sameRows_c L1 L2 R r cL1 cL2 V HR.out HLA1.out HLB1.out (HLA.out.below hV (Nat.le_refl _)) (HLB.out.below hV (Nat.le_refl _)))
      have s0 := XS.out.cell 0 rfl
      have s1 := XS.out.cell 1 rfl
      have s2 := XS.out.cell 2 rfl
      have s3 := XS.out.cell 3 rfl
      have sl := XS.out.lt
      have t0 := XT.out.cell 0 rfl
      have t1 := XT.out.cell 1 rfl
      have tl := XT.out.lt
      go_upto_region 16 with fail
      refine wp_region_past (by kernel_rfl) (by kernel_rfl) ?_
      repeat (go_big_quiet_step (first | (go_at_call 32; exact past_below (F32.out _ (HB.out.trans ((Past.far _).mono HB.out.size)))) | (go_at_call 41; exact past_below (F41.out _ (HB.out.trans ((Past.far _).mono HB.out.size)))) | (go_at_call 42; exact past_below (F42.out _ (Past.far _)))))
      refine wpQuiet_nil ?_
      intro xx
      have hb := xx.far
      clear s0 s1 s2 s3 sl t0 t1 tl
      clear F42
      have XS := Lib.hid (XS.out.below hb XS.out.lt)
      have XT := Lib.hid (XT.out.below hb XT.out.lt)
      have XA := Lib.hid (XA.out.below hb XA.out.lt)
      have XB := Lib.hid (XB.out.below hb XB.out.lt)
      have HNA := Lib.hid (HNA.out.below hb (Nat.le_refl _))
      have HNB := Lib.hid (HNB.out.below hb (Nat.le_refl _))
      have HLA := Lib.hid (HLA.out.below hb (Nat.le_refl _))
      have HLB := Lib.hid (HLB.out.below hb (Nat.le_refl _))
      have HB := Lib.hid (HB.out.trans (hb.mono HB.out.size))
      clear hb
      generalize xx.w = w14 at *
      clear xx
      have s0 := XS.out.cell 0 rfl
      have s1 := XS.out.cell 1 rfl
      have s2 := XS.out.cell 2 rfl
      have s3 := XS.out.cell 3 rfl
      have sl := XS.out.lt
      go_wp2_with fail
      refine (F43.out _ HB.out).mono ?_
      rintro e w15 ⟨E1, O1, ce1, co1, rfl, h1, h2, h3, hb⟩
      clear s0 s1 s2 s3 sl
      have XS := Lib.hid (XS.out.below hb XS.out.lt)
      have XT := Lib.hid (XT.out.below hb XT.out.lt)
      have XA := Lib.hid (XA.out.below hb XA.out.lt)
      have XB := Lib.hid (XB.out.below hb XB.out.lt)
      have HNA := Lib.hid (HNA.out.below hb (Nat.le_refl _))
      have HNB := Lib.hid (HNB.out.below hb (Nat.le_refl _))
      have HLA := Lib.hid (HLA.out.below hb (Nat.le_refl _))
      have HLB := Lib.hid (HLB.out.below hb (Nat.le_refl _))
      have HB := Lib.hid (HB.out.trans (hb.mono HB.out.size))
      have HEA := Lib.hid h3
      have HEA1 := Lib.hid h1
      have HEA2 := Lib.hid h2
      clear h1 h2 h3 hb
      have hb := (Below.refl w15.heap.size w15).alloc (Nat.le_refl _) (.cells #[.slice E1 ti ce1, .slice O1 tq co1] 55)
      have XS := Lib.hid (XS.out.below hb XS.out.lt)
      have XT := Lib.hid (XT.out.below hb XT.out.lt)
      have XA := Lib.hid (XA.out.below hb XA.out.lt)
      have XB := Lib.hid (XB.out.below hb XB.out.lt)
      have HNA := Lib.hid (HNA.out.below hb (Nat.le_refl _))
      have HNB := Lib.hid (HNB.out.below hb (Nat.le_refl _))
      have HLA := Lib.hid (HLA.out.below hb (Nat.le_refl _))
      have HLB := Lib.hid (HLB.out.below hb (Nat.le_refl _))
      have HEA := Lib.hid (HEA.out.below hb (Nat.le_refl _))
      have HB := Lib.hid (HB.out.trans (hb.mono HB.out.size))
      have XU := Lib.hid (Blk.new' w15 #[.slice E1 ti ce1, .slice O1 tq co1] 55)
      clear hb
      go_upto_region 19 with fail
      generalize w15.alloc (.cells #[.slice E1 ti ce1, .slice O1 tq co1] 55) = w16 at *
      generalize w15.heap.size = gu at *
      have s0 := XS.out.cell 0 rfl
      have s1 := XS.out.cell 1 rfl
      have s2 := XS.out.cell 2 rfl
      have s3 := XS.out.cell 3 rfl
      have sl := XS.out.lt
      go_wp2_with fail
      refine (F44.out _ HB.out).mono ?_
      rintro e w17 ⟨E2, O2, ce2, co2, rfl, h1, h2, h3, hb⟩
      clear s0 s1 s2 s3 sl
      have XS := Lib.hid (XS.out.below hb XS.out.lt)
      have XT := Lib.hid (XT.out.below hb XT.out.lt)
      have XA := Lib.hid (XA.out.below hb XA.out.lt)
      have XB := Lib.hid (XB.out.below hb XB.out.lt)
      have XU := Lib.hid (XU.out.below hb XU.out.lt)
      have HNA := Lib.hid (HNA.out.below hb (Nat.le_refl _))
      have HNB := Lib.hid (HNB.out.below hb (Nat.le_refl _))
      have HLA := Lib.hid (HLA.out.below hb (Nat.le_refl _))
      have HLB := Lib.hid (HLB.out.below hb (Nat.le_refl _))
      have HEA := Lib.hid (HEA.out.below hb (Nat.le_refl _))
      have HB := Lib.hid (HB.out.trans (hb.mono HB.out.size))
      have HEB := Lib.hid h3
      have HEB1 := Lib.hid h1
      have HEB2 := Lib.hid h2
      clear h1 h2 h3 hb
      have hb := (Below.refl w17.heap.size w17).alloc (Nat.le_refl _) (.cells #[.slice E2 ti ce2, .slice O2 tq co2] 55)
      have XS := Lib.hid (XS.out.below hb XS.out.lt)
      have XT := Lib.hid (XT.out.below hb XT.out.lt)
      have XA := Lib.hid (XA.out.below hb XA.out.lt)
      have XB := Lib.hid (XB.out.below hb XB.out.lt)
      have XU := Lib.hid (XU.out.below hb XU.out.lt)
      have HNA := Lib.hid (HNA.out.below hb (Nat.le_refl _))
      have HNB := Lib.hid (HNB.out.below hb (Nat.le_refl _))
      have HLA := Lib.hid (HLA.out.below hb (Nat.le_refl _))
      have HLB := Lib.hid (HLB.out.below hb (Nat.le_refl _))
      have HEA := Lib.hid (HEA.out.below hb (Nat.le_refl _))
      have HEB := Lib.hid (HEB.out.below hb (Nat.le_refl _))
      have HB := Lib.hid (HB.out.trans (hb.mono HB.out.size))
      have XV := Lib.hid (Blk.new' w17 #[.slice E2 ti ce2, .slice O2 tq co2] 55)
      clear hb
      go_upto_region 20 with fail
      generalize w17.alloc (.cells #[.slice E2 ti ce2, .slice O2 tq co2] 55) = w18 at *
      generalize w17.heap.size = gv at *
      have u0 := XU.out.cell 0 rfl
      have u1 := XU.out.cell 1 rfl
      have ul := XU.out.lt
      have v0 := XV.out.cell 0 rfl
      have v1 := XV.out.cell 1 rfl
      have vl := XV.out.lt
      go_wp2_with fail
      refine (sameRows_c E1 E2 TT.inn ti ce1 ce2 _ HTI.out HEA1.out HEB1.out HEA.out.1 HEB.out.1).mono ?_
      rintro e w19 ⟨rfl, hb⟩
      clear u0 u1 ul v0 v1 vl
      have XS := Lib.hid (XS.out.below hb XS.out.lt)
      have XT := Lib.hid (XT.out.below hb XT.out.lt)
      have XA := Lib.hid (XA.out.below hb XA.out.lt)
      have XB := Lib.hid (XB.out.below hb XB.out.lt)
      have XU := Lib.hid (XU.out.below hb XU.out.lt)
      have XV := Lib.hid (XV.out.below hb XV.out.lt)
      have HNA := Lib.hid (HNA.out.below hb (Nat.le_refl _))
      have HNB := Lib.hid (HNB.out.below hb (Nat.le_refl _))
      have HLA := Lib.hid (HLA.out.below hb (Nat.le_refl _))
      have HLB := Lib.hid (HLB.out.below hb (Nat.le_refl _))
      have HEA := Lib.hid (HEA.out.below hb (Nat.le_refl _))
      have HEB := Lib.hid (HEB.out.below hb (Nat.le_refl _))
      have HB := Lib.hid (HB.out.trans (hb.mono HB.out.size))
      clear hb
      have u0 := XU.out.cell 0 rfl
      have u1 := XU.out.cell 1 rfl
      have ul := XU.out.lt
      have v0 := XV.out.cell 0 rfl
      have v1 := XV.out.cell 1 rfl
      have vl := XV.out.lt
      go_wp2_with fail
      refine (sameRows_c O1 O2 TT.out tq co1 co2 _ HTQ.out HEA2.out HEB2.out HEA.out.2 HEB.out.2).mono ?_
      rintro e w20 ⟨rfl, hb⟩
      clear u0 u1 ul v0 v1 vl
      have XS := Lib.hid (XS.out.below hb XS.out.lt)
      have XT := Lib.hid (XT.out.below hb XT.out.lt)
      have XA := Lib.hid (XA.out.below hb XA.out.lt)
      have XB := Lib.hid (XB.out.below hb XB.out.lt)
      have XU := Lib.hid (XU.out.below hb XU.out.lt)
      have XV := Lib.hid (XV.out.below hb XV.out.lt)
      have HNA := Lib.hid (HNA.out.below hb (Nat.le_refl _))
      have HNB := Lib.hid (HNB.out.below hb (Nat.le_refl _))
      have HLA := Lib.hid (HLA.out.below hb (Nat.le_refl _))
      have HLB := Lib.hid (HLB.out.below hb (Nat.le_refl _))
      have HEA := Lib.hid (HEA.out.below hb (Nat.le_refl _))
      have HEB := Lib.hid (HEB.out.below hb (Nat.le_refl _))
      have HB := Lib.hid (HB.out.trans (hb.mono HB.out.size))
      clear hb
      go_wp2_with fail
      refine (known_c _).mono ?_
      rintro e wk ⟨rfl, hk⟩
      have HK := Lib.hid (HB.out.trans (hk.mono HB.out.size))
      clear hk
      go_wp2_with fail
      go_ret
      exact ⟨rfl, HK.out⟩
end Go.Proofs.Ytmebpglkeedaoaa
