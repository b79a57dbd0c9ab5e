/- The contract of Check of depot. -/
import Derived.Test.YtmebpglkeedaoaaC1
namespace Go.Proofs.Ytmebpglkeedaoaa
open Go.RowKit Dp
set_option linter.unusedVariables false

set_option maxHeartbeats 2000000 in
set_option maxRecDepth 100000 in
theorem Check_c (A B : Option Addr) (N : Net) (n m cA cB : Nat) (w : World) (hn : n = N.sup.length) (hm : m = N.arcs.length) (hA : n ≤ cA ∧ cA ≤ 9223372036854775807) (hB : m ≤ cB ∧ cB ≤ 9223372036854775807) (hN : NetAt w A B N) :
    Calls Try.prog 20 #[.agg #[.slice A n cA, .slice B m cB]] w fun e w' => e = .returned (.int .i64 (chE N)) ∧ Below w.heap.size w w' := by
  have HN := Lib.hid hn
  have HM := Lib.hid hm
  have HNA := Lib.hid hN
  clear hn hm hN
  by_cases q1 : n < 1
  · have E := Lib.hid (chE_many (N := N) (by simp [manyB, ← HN.out, ← HM.out]; omega))
    go_enter Try.func20, Try.ntmps20
    go_wp2
    go_ret
    exact ⟨ret_int E.out.symm, (Below.refl _ _).alloc (Nat.le_refl _) _⟩
  by_cases q2 : 1024 < n
  · have E := Lib.hid (chE_many (N := N) (by simp [manyB, ← HN.out, ← HM.out]; omega))
    go_enter Try.func20, Try.ntmps20
    go_wp2
    go_ret
    exact ⟨ret_int E.out.symm, (Below.refl _ _).alloc (Nat.le_refl _) _⟩
  by_cases q3 : 2048 < m
  · have E := Lib.hid (chE_many (N := N) (by simp [manyB, ← HN.out, ← HM.out]; omega))
    go_enter Try.func20, Try.ntmps20
    go_wp2
    go_ret
    exact ⟨ret_int E.out.symm, (Below.refl _ _).alloc (Nat.le_refl _) _⟩
  have EM := Lib.hid (show manyB N = false from by simp [manyB, ← HN.out, ← HM.out]; omega)
  have B1 := Lib.hid (Blk.new' w #[.slice A n cA, .slice B m cB] 25)
  have HB1 := Lib.hid ((Below.refl w.heap.size w).alloc (Nat.le_refl _) (.cells #[.slice A n cA, .slice B m cB] 25))
  go_enter Try.func20, Try.ntmps20
  go_wp2_with fail
  generalize w.alloc (.cells #[.slice A n cA, .slice B m cB] 25) = w1 at B1 HB1 ⊢
  have N1 := Lib.hid (HNA.out.below HB1.out (Nat.le_refl _))
  have cA0 := B1.out.cell 0 rfl
  have cB0 := B1.out.cell 1 rfl
  have bA0 := B1.out.lt
  go_loop [3, 4, 6, 29] (fun s a _ i => ∃ k : Nat, k ≤ n ∧ i = .int .i64 k ∧ s = .int .i64 (sum (N.sup.take k)) ∧ a = .int .i64 (sum ((N.sup.map abs).take k)) ∧ Hid (∀ j, j < k → supOk (N.sup.getD j 0) = true)) (fun _ _ _ i => n - (intOf i).toNat)
  case atStart => exact ⟨0, Nat.zero_le _, rfl, rfl, rfl, Lib.hid (fun j hj => absurd hj (Nat.not_lt_zero _))⟩
  case round =>
    obtain ⟨k, hk, rfl, rfl, rfl, HK⟩ := hrel
    have bd := supAll k HK.out (by rw [← HN.out]; exact hk)
    by_cases hlt : k < n
    · obtain ⟨ad, rfl, _, hcell⟩ := N1.out.1 k (by rw [← HN.out]; exact hlt)
      have HS := Lib.hid (And.intro (sum_take N.sup k (by rw [← HN.out]; exact hlt)) (And.intro (sum_take (N.sup.map abs) k (by rw [List.length_map, ← HN.out]; exact hlt)) (getD_map abs N.sup k (by rw [← HN.out]; exact hlt))))
      generalize sum (N.sup.take k) = S at *
      generalize sum ((N.sup.map abs).take k) = T at *
      generalize hx : N.sup.getD k 0 = x at hcell
      have HX := Lib.hid hx
      clear hx
      by_cases h1 : x < -268435456
      · have E := Lib.hid (chE_sup EM.out k (by rw [← HN.out]; exact hlt) (by rw [HX.out]; simp [supOk]; omega))
        go_wp2
        go_ret
        exact ⟨ret_int E.out.symm, HB1.out⟩
      · by_cases h2 : 268435456 < x
        · have E := Lib.hid (chE_sup EM.out k (by rw [← HN.out]; exact hlt) (by rw [HX.out]; simp [supOk]; omega))
          go_wp2
          go_ret
          exact ⟨ret_int E.out.symm, HB1.out⟩
        · have hx1 := fun ts t W => maxTwo x (-x) ts t W
          have hmx : x ≤ 268435456 ∧ -268435456 ≤ x ∧ 0 ≤ max x (-x) ∧ max x (-x) ≤ 268435456 := by omega
          have HMX := Lib.hid (show max x (-x) = abs x from rfl)
          generalize max x (-x) = y at *
          go_wp2
          go_round
          case rel =>
            refine ⟨k + 1, by omega, by go_num, ?_, ?_, Lib.hid (fun j hj => ?_)⟩
            · rw [HS.out.1, HX.out]
            · rw [HS.out.2.1, HS.out.2.2, HX.out, ← HMX.out]
            · by_cases hjk : j < k
              · exact HK.out j hjk
              · obtain rfl : j = k := by omega
                rw [HX.out]; simp [supOk]; omega
          case measure => simp [intOf]; omega
    · obtain rfl : k = n := by omega
      have HS := Lib.hid (And.intro (show N.sup.take k = N.sup from by rw [HN.out]; simp) (show (N.sup.map abs).take k = N.sup.map abs from List.take_of_length_le (by rw [List.length_map, ← HN.out]; exact Nat.le_refl _)))
      go_wp2_with fail
      rw [HS.out.1, HS.out.2]
      rw [HS.out.1, HS.out.2] at bd
      go_loopw [9, 53] (fun _ i wr => ∃ j : Nat, j ≤ m ∧ i = .int .i64 j ∧ Hid (Below w1.heap.size w1 wr ∧ ∀ x, x < j → arcOk N.sup.length (N.arcs.getD x default) = true)) (fun _ i _ => m - (intOf i).toNat)
      case atStart => exact ⟨0, Nat.zero_le _, rfl, Lib.hid ⟨Below.refl _ _, fun j hj => absurd hj (Nat.not_lt_zero _)⟩⟩
      case round =>
        obtain ⟨j, hj, rfl, HJ⟩ := hrel
        by_cases hlt2 : j < m
        · obtain ⟨ad, rfl, hbl, d0, d1, d2, d3⟩ := (N1.out.2.below HJ.out.1 (Nat.le_refl _)) j (by rw [← HM.out]; exact hlt2)
          have HBR := Lib.hid (HB1.out.trans (HJ.out.1.mono HB1.out.size))
          have hbl' : (ad.add (j * 4)).block < wr.heap.size := by rw [block_add]; exact hbl
          have C0 := Lib.hid ((HJ.out.1.cell (p := ⟨w.heap.size, 0, none⟩) B1.out.lt).trans cA0)
          generalize ha : N.arcs.getD j default = ar at *
          obtain ⟨fr, to, ca, co⟩ := ar
          have HAR := Lib.hid ha
          clear ha
          simp only at d0 d1 d2 d3
          go_wp2_with fail
          have HBX := Lib.hid (HBR.out.alloc HBR.out.size (.cells #[.int .i64 fr, .int .i64 to, .int .i64 ca, .int .i64 co] 46))
          have HJX := Lib.hid (HJ.out.1.alloc HJ.out.1.size (.cells #[.int .i64 fr, .int .i64 to, .int .i64 ca, .int .i64 co] 46))
          have BX := Blk.new' wr #[.int .i64 fr, .int .i64 to, .int .i64 ca, .int .i64 co] 46
          have hcc := (HJX.out.cell (p := ⟨w.heap.size, 0, none⟩) B1.out.lt).trans cA0
          generalize wr.alloc (.cells #[.int .i64 fr, .int .i64 to, .int .i64 ca, .int .i64 co] 46) = wx at HBX HJX BX hcc ⊢
          have e0 := BX.cell 0 rfl
          have e1 := BX.cell 1 rfl
          have e2 := BX.cell 2 rfl
          have e3 := BX.cell 3 rfl
          clear d0 d1 d2 d3 BX
          have NC := node_c fr _ A k cA _ hcc
          by_cases f1 : 0 ≤ fr ∧ fr < k
          · rw [decide_eq_true f1] at NC
            refine NC.mono ?_
            rintro e w2 ⟨rfl, rfl⟩
            go_wp2_with fail
            have NC := node_c to _ A k cA _ hcc
            by_cases f2 : 0 ≤ to ∧ to < k
            · rw [decide_eq_true f2] at NC
              refine NC.mono ?_
              rintro e w2 ⟨rfl, rfl⟩
              by_cases f3 : fr = to
              · have E := Lib.hid (chE_arc EM.out j (by rw [← HM.out]; exact hlt2) (by rw [HAR.out, ← HN.out]; simp [arcOk]; omega))
                go_wp2
                go_ret
                exact ⟨ret_int E.out.symm, HBX.out⟩
              by_cases f4 : ca < 0
              · have E := Lib.hid (chE_arc EM.out j (by rw [← HM.out]; exact hlt2) (by rw [HAR.out, ← HN.out]; simp [arcOk]; omega))
                go_wp2
                go_ret
                exact ⟨ret_int E.out.symm, HBX.out⟩
              by_cases f5 : 1048576 < ca
              · have E := Lib.hid (chE_arc EM.out j (by rw [← HM.out]; exact hlt2) (by rw [HAR.out, ← HN.out]; simp [arcOk]; omega))
                go_wp2
                go_ret
                exact ⟨ret_int E.out.symm, HBX.out⟩
              by_cases f6 : co < -1048576
              · have E := Lib.hid (chE_arc EM.out j (by rw [← HM.out]; exact hlt2) (by rw [HAR.out, ← HN.out]; simp [arcOk]; omega))
                go_wp2
                go_ret
                exact ⟨ret_int E.out.symm, HBX.out⟩
              by_cases f7 : 1048576 < co
              · have E := Lib.hid (chE_arc EM.out j (by rw [← HM.out]; exact hlt2) (by rw [HAR.out, ← HN.out]; simp [arcOk]; omega))
                go_wp2
                go_ret
                exact ⟨ret_int E.out.symm, HBX.out⟩
              have f3' : (fr == to) = false := by simpa using f3
              have F3 := Lib.hid f3
              clear f3
              go_wp2
              go_roundw
              case rel =>
                refine ⟨j + 1, by omega, by go_num, Lib.hid ⟨HJX.out, fun x hx => ?_⟩⟩
                by_cases hjk : x < j
                · exact HJ.out.2 x hjk
                · obtain rfl : x = j := by omega
                  have f3 := F3.out
                  rw [HAR.out, ← HN.out]; simp [arcOk]; omega
              case measure => simp [intOf]; omega
            · rw [decide_eq_false f2] at NC
              refine NC.mono ?_
              rintro e w2 ⟨rfl, rfl⟩
              have E := Lib.hid (chE_arc EM.out j (by rw [← HM.out]; exact hlt2) (by rw [HAR.out, ← HN.out]; simp [arcOk]; omega))
              go_wp2
              go_ret
              exact ⟨ret_int E.out.symm, HBX.out⟩
          · rw [decide_eq_false f1] at NC
            refine NC.mono ?_
            rintro e w2 ⟨rfl, rfl⟩
            have E := Lib.hid (chE_arc EM.out j (by rw [← HM.out]; exact hlt2) (by rw [HAR.out, ← HN.out]; simp [arcOk]; omega))
            go_wp2
            go_ret
            exact ⟨ret_int E.out.symm, HBX.out⟩
        · obtain rfl : j = m := by omega
          have HBR := Lib.hid (HB1.out.trans (HJ.out.1.mono HB1.out.size))
          by_cases g1 : sum N.sup = 0
          · by_cases g2 : 268435456 < sum (N.sup.map abs)
            · have E := Lib.hid (chE_sum EM.out (by omega))
              generalize sum N.sup = S at *
              generalize sum (N.sup.map abs) = T at *
              go_wp2
              go_ret
              exact ⟨ret_int E.out.symm, HBR.out⟩
            · have E := Lib.hid (chE_ok EM.out (fun x hx => HK.out x (by rw [HN.out]; exact hx)) (fun x hx => HJ.out.2 x (by rw [HM.out]; exact hx)) g1 (by omega))
              generalize sum N.sup = S at *
              generalize sum (N.sup.map abs) = T at *
              go_wp2
              go_ret
              exact ⟨ret_int E.out.symm, HBR.out⟩
          · have E := Lib.hid (chE_sum EM.out (by omega))
            generalize sum N.sup = S at *
            generalize sum (N.sup.map abs) = T at *
            go_wp2
            go_ret
            exact ⟨ret_int E.out.symm, HBR.out⟩
end Go.Proofs.Ytmebpglkeedaoaa
