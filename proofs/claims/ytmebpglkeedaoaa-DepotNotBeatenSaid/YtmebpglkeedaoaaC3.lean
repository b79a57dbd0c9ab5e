/- The contract of the reference's Check of depot. -/
import Derived.Test.YtmebpglkeedaoaaC2
namespace Go.Proofs.Ytmebpglkeedaoaa
open Go.RowKit Dp
set_option linter.unusedVariables false

@[simp, go_sem] theorem Past.cellAdd {W : World} (x : Past W) (a : Addr) (n : Nat) (h : (a.add n).block < W.heap.size) : x.w.cell? (a.add n) = W.cell? (a.add n) := x.far.cell h
theorem within_c (x lo hi : Int) (w : World) :
    Calls Try.prog 60 #[.int .i64 x, .int .i64 lo, .int .i64 hi] w fun e w' => e = .returned (.bool (inB x lo hi)) ∧ w = w' := by
  by_cases h0 : lo ≤ x
  · go_enter Try.func60, Try.ntmps60
    go_wp2
    go_ret
    refine ⟨ret_bool ?_, rfl⟩
    simp [h0, inB]
  · go_enter Try.func60, Try.ntmps60
    go_wp2
    go_ret
    refine ⟨ret_bool ?_, rfl⟩
    simp [inB]
    omega

set_option maxHeartbeats 2000000 in
set_option maxRecDepth 100000 in
theorem CheckR_c (A B : Option Addr) (N : Net) (n m cA cB : Nat) (w : World) (hn : n = N.sup.length) (hm : m = N.arcs.length) (hA : n ≤ cA ∧ cA ≤ 9223372036854775807) (hB : m ≤ cB ∧ cB ≤ 9223372036854775807) (hN : NetAt w A B N) :
    Calls Try.prog 21 #[.agg #[.slice A n cA, .slice B m cB]] w fun e w' => e = .returned (.int .i64 (chE N)) ∧ Below w.heap.size w w' := by
  have HN := Lib.hid hn
  have HM := Lib.hid hm
  have HNA := Lib.hid hN
  clear hn hm hN
  by_cases q1 : n < 1
  · have E := Lib.hid (chE_many (N := N) (by simp [manyB, ← HN.out, ← HM.out]; omega))
    go_enter Try.func21, Try.ntmps21
    go_wp2
    go_ret
    exact ⟨ret_int E.out.symm, (Below.refl _ _).alloc (Nat.le_refl _) _⟩
  by_cases q2 : 1024 < n
  · have E := Lib.hid (chE_many (N := N) (by simp [manyB, ← HN.out, ← HM.out]; omega))
    go_enter Try.func21, Try.ntmps21
    go_wp2
    go_ret
    exact ⟨ret_int E.out.symm, (Below.refl _ _).alloc (Nat.le_refl _) _⟩
  by_cases q3 : 2048 < m
  · have E := Lib.hid (chE_many (N := N) (by simp [manyB, ← HN.out, ← HM.out]; omega))
    go_enter Try.func21, Try.ntmps21
    go_wp2
    go_ret
    exact ⟨ret_int E.out.symm, (Below.refl _ _).alloc (Nat.le_refl _) _⟩
  have EM := Lib.hid (show manyB N = false from by simp [manyB, ← HN.out, ← HM.out]; omega)
  have B1 := Lib.hid (Blk.new' w #[.slice A n cA, .slice B m cB] 25)
  have HB1 := Lib.hid ((Below.refl w.heap.size w).alloc (Nat.le_refl _) (.cells #[.slice A n cA, .slice B m cB] 25))
  go_enter Try.func21, Try.ntmps21
  go_wp2_with fail
  generalize w.alloc (.cells #[.slice A n cA, .slice B m cB] 25) = w1 at B1 HB1 ⊢
  have N1 := Lib.hid (HNA.out.below HB1.out (Nat.le_refl _))
  have bA0 := B1.out.lt
  go_loopw [3, 4, 5] (fun s a i wr => ∃ k : Nat, k ≤ n ∧ i = .int .i64 k ∧ s = .int .i64 (sum (N.sup.take k)) ∧ a = .int .i64 (sum ((N.sup.map abs).take k)) ∧ Hid (Below w1.heap.size w1 wr ∧ ∀ j, j < k → supOk (N.sup.getD j 0) = true)) (fun _ _ i _ => n - (intOf i).toNat)
  case atStart => exact ⟨0, Nat.zero_le _, rfl, rfl, rfl, Lib.hid ⟨Below.refl _ _, fun j hj => absurd hj (Nat.not_lt_zero _)⟩⟩
  case round =>
    obtain ⟨k, hk, rfl, rfl, rfl, HK⟩ := hrel
    have bd := supAll k HK.out.2 (by rw [← HN.out]; exact hk)
    have HBR := Lib.hid (HB1.out.trans (HK.out.1.mono HB1.out.size))
    have cA0 := (HK.out.1.cell (p := ⟨w.heap.size, 0, none⟩) B1.out.lt).trans (B1.out.cell 0 rfl)
    have cB0 := (HK.out.1.cell (p := ⟨w.heap.size, 1, none⟩) B1.out.lt).trans (B1.out.cell 1 rfl)
    have bA1 : w.heap.size < wr.heap.size := Nat.lt_of_lt_of_le bA0 HK.out.1.size
    by_cases hlt : k < n
    · obtain ⟨ad, rfl, hbl, hcell⟩ := (N1.out.1.below HK.out.1 (Nat.le_refl _)) k (by rw [← HN.out]; exact hlt)
      have hbl' : (ad.add k).block < wr.heap.size := by rw [block_add]; exact hbl
      have HS := Lib.hid (And.intro (sum_take N.sup k (by rw [← HN.out]; exact hlt)) (And.intro (sum_take (N.sup.map abs) k (by rw [List.length_map, ← HN.out]; exact hlt)) (getD_map abs N.sup k (by rw [← HN.out]; exact hlt))))
      generalize sum (N.sup.take k) = S at *
      generalize sum ((N.sup.map abs).take k) = T at *
      generalize hx : N.sup.getD k 0 = x at hcell
      have HX := Lib.hid hx
      clear hx
      have WC := within_c x (-268435456) 268435456 wr
      by_cases h1 : -268435456 ≤ x ∧ x ≤ 268435456
      · have e1 : inB x (-268435456) 268435456 = true := by simp [inB, h1]
        rw [e1] at WC
        go_wp2_with fail
        refine WC.mono ?_
        rintro e w2 ⟨rfl, rfl⟩
        have hx1 := fun ts t W => maxTwo x (-x) ts t W
        have hmx : 0 ≤ max x (-x) ∧ max x (-x) ≤ 268435456 := by omega
        have HMX := Lib.hid (show max x (-x) = abs x from rfl)
        generalize max x (-x) = y at *
        have k0 : (0 : Int) ≤ (k : Int) := by omega
        have kx : (k : Int) < (n : Int) := by omega
        go_wp2_with fail
        refine wp_region_past (by kernel_rfl) (by kernel_rfl) ?_
        repeat (go_big_quiet_step (fail))
        refine wpQuiet_nil ?_
        intro xx
        have HXX := Lib.hid xx.far
        generalize xx.w = w4 at HXX ⊢
        go_wp2
        go_roundw
        case rel =>
          refine ⟨k + 1, by omega, by go_num, ?_, ?_, Lib.hid ⟨HK.out.1.trans (HXX.out.mono HK.out.1.size), fun j hj => ?_⟩⟩
          · rw [HS.out.1, HX.out]
          · rw [HS.out.2.1, HS.out.2.2, HX.out, ← HMX.out]
          · by_cases hjk : j < k
            · exact HK.out.2 j hjk
            · obtain rfl : j = k := by omega
              rw [HX.out]; simp [supOk]; omega
        case measure => simp [intOf]; omega
      · have e1 : inB x (-268435456) 268435456 = false := by simp [inB]; omega
        rw [e1] at WC
        have E := Lib.hid (chE_sup EM.out k (by rw [← HN.out]; exact hlt) (by rw [HX.out]; simp [supOk]; omega))
        go_wp2_with fail
        refine WC.mono ?_
        rintro e w2 ⟨rfl, rfl⟩
        go_wp2
        go_ret
        exact ⟨ret_int E.out.symm, HBR.out⟩
    · obtain rfl : k = n := by omega
      have HS := Lib.hid (And.intro (show N.sup.take k = N.sup from by rw [HN.out]; simp) (show (N.sup.map abs).take k = N.sup.map abs from List.take_of_length_le (by rw [List.length_map, ← HN.out]; exact Nat.le_refl _)))
      rw [HS.out.1, HS.out.2]
      rw [HS.out.1, HS.out.2] at bd
      by_cases g1 : sum N.sup = 0
      · by_cases g2 : 268435456 < sum (N.sup.map abs)
        · have E := Lib.hid (chE_sum EM.out (by omega))
          generalize sum N.sup = S at *
          generalize sum (N.sup.map abs) = T at *
          go_wp2
          go_ret
          exact ⟨ret_int E.out.symm, HBR.out⟩
        · have EOK := Lib.hid (fun hh : (∀ x, x < m → arcOk N.sup.length (N.arcs.getD x default) = true) => chE_ok EM.out (fun x hx => HK.out.2 x (by rw [HN.out]; exact hx)) (fun x hx => hh x (by rw [HM.out]; exact hx)) g1 (by omega))
          have HW := Lib.hid HK.out.1
          have N2 := Lib.hid (N1.out.2.below HK.out.1 (Nat.le_refl _))
          have hsb : Hid (sum N.sup = 0) := Lib.hid g1
          clear HK
          generalize sum N.sup = S at *
          generalize sum (N.sup.map abs) = T at *
          subst g1
          generalize hwr : wr = w5 at *
          clear hwr
          go_wp2_with fail
          go_loopw [6, 7] (fun i _ wr => ∃ j : Nat, j ≤ m ∧ i = .int .i64 j ∧ Hid (Below w5.heap.size w5 wr ∧ ∀ x, x < j → arcOk N.sup.length (N.arcs.getD x default) = true)) (fun i _ _ => m - (intOf i).toNat)
          case atStart => exact ⟨0, Nat.zero_le _, rfl, Lib.hid ⟨Below.refl _ _, fun j hj => absurd hj (Nat.not_lt_zero _)⟩⟩
          case round =>
            obtain ⟨j, hj, rfl, HJ⟩ := hrel
            have hcA := (HJ.out.1.cell (p := ⟨w.heap.size, 0, none⟩) bA1).trans cA0
            have hcB := (HJ.out.1.cell (p := ⟨w.heap.size, 1, none⟩) bA1).trans cB0
            have HBJ := Lib.hid (HBR.out.trans (HJ.out.1.mono HBR.out.size))
            clear cA0 cB0
            by_cases hlt2 : j < m
            · obtain ⟨ad, rfl, hbl, d0, d1, d2, d3⟩ := (N2.out.below HJ.out.1 (Nat.le_refl _)) j (by rw [← HM.out]; exact hlt2)
              have hbl' : (ad.add (j * 4)).block < wr.heap.size := by rw [block_add]; exact hbl
              generalize ha : N.arcs.getD j default = ar at *
              obtain ⟨fr, to, ca, co⟩ := ar
              have HAR := Lib.hid ha
              clear ha
              simp only at d0 d1 d2 d3
              have HBX := Lib.hid (HBJ.out.alloc HBJ.out.size (.cells #[.int .i64 fr, .int .i64 to, .int .i64 ca, .int .i64 co] 46))
              have HJX := Lib.hid (HJ.out.1.alloc HJ.out.1.size (.cells #[.int .i64 fr, .int .i64 to, .int .i64 ca, .int .i64 co] 46))
              have BX := Blk.new' wr #[.int .i64 fr, .int .i64 to, .int .i64 ca, .int .i64 co] 46
              have fcA := (HJX.out.cell (p := ⟨w.heap.size, 0, none⟩) bA1).trans ((HJ.out.1.cell (p := ⟨w.heap.size, 0, none⟩) bA1).symm.trans hcA)
              have e0 := BX.cell 0 rfl
              have e1 := BX.cell 1 rfl
              have e2 := BX.cell 2 rfl
              have e3 := BX.cell 3 rfl
              by_cases f1 : fr < 0
              · have E := Lib.hid (chE_arc EM.out j (by rw [← HM.out]; exact hlt2) (by rw [HAR.out, ← HN.out]; simp [arcOk]; omega))
                go_wp2
                go_ret
                exact ⟨ret_int E.out.symm, HBX.out⟩
              by_cases f2 : (k : Int) ≤ fr
              · have E := Lib.hid (chE_arc EM.out j (by rw [← HM.out]; exact hlt2) (by rw [HAR.out, ← HN.out]; simp [arcOk]; omega))
                go_wp2
                go_ret
                exact ⟨ret_int E.out.symm, HBX.out⟩
              by_cases f3 : to < 0
              · have E := Lib.hid (chE_arc EM.out j (by rw [← HM.out]; exact hlt2) (by rw [HAR.out, ← HN.out]; simp [arcOk]; omega))
                go_wp2
                go_ret
                exact ⟨ret_int E.out.symm, HBX.out⟩
              by_cases f4 : (k : Int) ≤ to
              · have E := Lib.hid (chE_arc EM.out j (by rw [← HM.out]; exact hlt2) (by rw [HAR.out, ← HN.out]; simp [arcOk]; omega))
                go_wp2
                go_ret
                exact ⟨ret_int E.out.symm, HBX.out⟩
              by_cases f5 : fr = to
              · have E := Lib.hid (chE_arc EM.out j (by rw [← HM.out]; exact hlt2) (by rw [HAR.out, ← HN.out]; simp [arcOk]; omega))
                subst f5
                go_wp2
                go_ret
                exact ⟨ret_int E.out.symm, HBX.out⟩
              have f5' : (fr == to) = false := by simpa using f5
              have F5 := Lib.hid f5
              clear f5
              have W1 := fun W => within_c ca 0 1048576 W
              have W2 := fun W => within_c co (-1048576) 1048576 W
              by_cases f6 : 0 ≤ ca ∧ ca ≤ 1048576
              · rw [show inB ca 0 1048576 = true from by simp [inB, f6]] at W1
                go_wp2_with fail
                refine (W1 _).mono ?_
                rintro e w2 ⟨rfl, rfl⟩
                by_cases f7 : -1048576 ≤ co ∧ co ≤ 1048576
                · rw [show inB co (-1048576) 1048576 = true from by simp [inB, f7]] at W2
                  go_wp2_with fail
                  refine (W2 _).mono ?_
                  rintro e w2 ⟨rfl, rfl⟩
                  go_wp2
                  go_roundw
                  case rel =>
                    refine ⟨j + 1, by omega, by go_num, Lib.hid ⟨HJX.out, fun x hx => ?_⟩⟩
                    by_cases hjk : x < j
                    · exact HJ.out.2 x hjk
                    · obtain rfl : x = j := by omega
                      have f5 := F5.out
                      rw [HAR.out, ← HN.out]; simp [arcOk]; omega
                  case measure => simp [intOf]; omega
                · rw [show inB co (-1048576) 1048576 = false from by simp [inB]; omega] at W2
                  have E := Lib.hid (chE_arc EM.out j (by rw [← HM.out]; exact hlt2) (by rw [HAR.out, ← HN.out]; simp [arcOk]; omega))
                  go_wp2_with fail
                  refine (W2 _).mono ?_
                  rintro e w2 ⟨rfl, rfl⟩
                  go_wp2
                  go_ret
                  exact ⟨ret_int E.out.symm, HBX.out⟩
              · rw [show inB ca 0 1048576 = false from by simp [inB]; omega] at W1
                have E := Lib.hid (chE_arc EM.out j (by rw [← HM.out]; exact hlt2) (by rw [HAR.out, ← HN.out]; simp [arcOk]; omega))
                go_wp2_with fail
                refine (W1 _).mono ?_
                rintro e w2 ⟨rfl, rfl⟩
                go_wp2
                go_ret
                exact ⟨ret_int E.out.symm, HBX.out⟩
            · obtain rfl : j = m := by omega
              have E := Lib.hid (EOK.out HJ.out.2)
              go_wp2
              go_ret
              exact ⟨ret_int E.out.symm, HBJ.out⟩
      · have E := Lib.hid (chE_sum EM.out (by omega))
        generalize sum N.sup = S at *
        generalize sum (N.sup.map abs) = T at *
        go_wp2
        go_ret
        exact ⟨ret_int E.out.symm, HBR.out⟩
end Go.Proofs.Ytmebpglkeedaoaa
