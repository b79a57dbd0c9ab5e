/- The contract of Cost of depot. -/
import Derived.Test.YtmebpglkeedaoaaC5
namespace Go.Proofs.Ytmebpglkeedaoaa
open Go.RowKit Dp
set_option linter.unusedVariables false

theorem mv_nat (l : List Int) (a : Nat) (d v : Int) (h : v = l.getD a 0 + d) : mv l (a : Int) d = l.set a v := by subst h; simp [mv]
theorem ret2 {a b c d : Int} (h1 : a = b) (h2 : c = d) : Ending.returned (.tuple #[.int .i64 a, .int .i64 c]) = .returned (.tuple #[.int .i64 b, .int .i64 d]) := by rw [h1, h2]

/-- memory in the loop of Cost -/
def CoJ (w : World) (A B : Option Addr) (n cA m cB g c : Nat) (l : List Int) (W : World) : Prop := Below w.heap.size w W ∧ Blk W w.heap.size 25 [.slice A n cA, .slice B m cB] ∧ OwnI w.heap.size W g c l
theorem CoJ.put {w : World} {A B : Option Addr} {n cA m cB g c : Nat} {l : List Int} {W : World} (h : CoJ w A B n cA m cB g c l W) (hg : w.heap.size < g) (j : Nat) (v : Int) : CoJ w A B n cA m cB g c (l.set j v) (W.setCell ⟨g, j, none⟩ (.int .i64 v)) :=
  ⟨h.1.setCell (by simp; omega) _, h.2.1.setCell_ne (by simp; omega) _, h.2.2.put j v⟩
theorem CoJ.alloc {w : World} {A B : Option Addr} {n cA m cB g c : Nat} {l : List Int} {W : World} (h : CoJ w A B n cA m cB g c l W) (o : Obj) : CoJ w A B n cA m cB g c l (W.alloc o) :=
  ⟨h.1.alloc h.1.size _, h.2.1.alloc _, h.2.2.below ((Below.refl _ _).alloc (Nat.le_refl _) _)⟩

set_option maxHeartbeats 2000000 in
set_option maxRecDepth 100000 in
theorem Cost_c (A B C : Option Addr) (N : Net) (fl : List Int) (n m p cA cB cC : Nat) (w : World) (hn : n = N.sup.length) (hm : m = N.arcs.length) (hp : p = fl.length) (hA : n ≤ cA ∧ cA ≤ 9223372036854775807) (hB : m ≤ cB ∧ cB ≤ 9223372036854775807) (hC : p ≤ cC ∧ cC ≤ 9223372036854775807) (hN : NetAt w A B N) (hF : IntsAt w C fl) :
    Calls Try.prog 14 #[.agg #[.slice A n cA, .slice B m cB], .slice C p cC] w fun e w' => e = .returned (.tuple #[.int .i64 (coV N fl), .int .i64 (coE N fl)]) ∧ Below w.heap.size w w' := by
  have HN := Lib.hid hn
  have HM := Lib.hid hm
  have HP := Lib.hid hp
  have HNA := Lib.hid hN
  have HFA := Lib.hid hF
  clear hn hm hp hN hF
  have B1 := Lib.hid (Blk.new' w #[.slice A n cA, .slice B m cB] 25)
  have HB1 := Lib.hid ((Below.refl w.heap.size w).alloc (Nat.le_refl _) (.cells #[.slice A n cA, .slice B m cB] 25))
  go_enter Try.func14, Try.ntmps14
  go_wp2_with fail
  generalize w.alloc (.cells #[.slice A n cA, .slice B m cB] 25) = w1 at B1 HB1 ⊢
  refine (Check_c A B N n m cA cB w1 HN.out HM.out hA hB (HNA.out.below HB1.out (Nat.le_refl _))).mono ?_
  rintro e w2 ⟨rfl, hb2⟩
  have B2 := Lib.hid (B1.out.below hb2 B1.out.lt)
  have HB2 := Lib.hid (HB1.out.trans (hb2.mono HB1.out.size))
  clear hb2 B1 HB1
  have cA0 := B2.out.cell 0 rfl
  have cB0 := B2.out.cell 1 rfl
  by_cases hch : chE N = 0
  · have hce := net_len hch
    rw [hch]
    by_cases hpm : p = m
    · have hmm : (p : Int) = (m : Int) := by omega
      have n1 : 1 ≤ n := by rw [HN.out]; exact hce.1
      have n2 : n ≤ 1024 := by rw [HN.out]; exact hce.2.1
      have m2 : m ≤ 2048 := by rw [HM.out]; exact hce.2.2
      have HCH := Lib.hid hch
      clear hch hce
      go_wp2_with fail
      trace "clone"
      refine (clone_c A N.sup n cA w2 HN.out n1 (by omega) (HNA.out.1.below HB2.out (Nat.le_refl _))).mono ?_
      rintro e w3 ⟨g, c, rfl, hb3, z1, z2, ho3⟩
      have B3 := Lib.hid (B2.out.below hb3 B2.out.lt)
      have HB3 := Lib.hid (HB2.out.trans (hb3.mono HB2.out.size))
      have zg : w.heap.size < g := Nat.lt_of_lt_of_le B2.out.lt z1
      have HO3 : Hid (OwnI w.heap.size w3 g c N.sup) := Lib.hid (ho3.mono HB2.out.size)
      clear hb3 ho3 B2 HB2 cA0 cB0 z1
      have cA0 := B3.out.cell 0 rfl
      have cB0 := B3.out.cell 1 rfl
      go_wp2_with fail
      have J3 := Lib.hid (show CoJ w A B n cA m cB g c N.sup w3 from ⟨HB3.out, B3.out, HO3.out⟩)
      clear B3 HB3 HO3 cA0 cB0
      go_loopw [8, 31] (fun v i wr => ∃ k : Nat, k ≤ m ∧ i = .int .i64 k ∧ v = .int .i64 (costK N fl k) ∧ Hid (CoJ w A B n cA m cB g c (leftK N fl k) wr ∧ ∀ x, x < k → 0 ≤ fl.getD x 0 ∧ fl.getD x 0 ≤ (N.arcs.getD x default).cap)) (fun _ i _ => m - (intOf i).toNat)
      case atStart => exact ⟨0, Nat.zero_le _, rfl, rfl, Lib.hid ⟨J3.out, fun x hx => absurd hx (Nat.not_lt_zero _)⟩⟩
      case round =>
        obtain ⟨k, hk, rfl, rfl, HJ⟩ := hrel
        have bc := costK_bd HCH.out k (by rw [← HM.out]; exact hk) HJ.out.2
        have BL := Lib.hid (leftK_bd HCH.out k (by rw [← HM.out]; exact hk) HJ.out.2)
        have cA0 := HJ.out.1.2.1.cell 0 rfl
        have cB0 := HJ.out.1.2.1.cell 1 rfl
        by_cases hlt : k < m
        · obtain ⟨ad, rfl, hbl, d0, d1, d2, d3⟩ := (HNA.out.2.below HJ.out.1.1 (Nat.le_refl _)) k (by rw [← HM.out]; exact hlt)
          obtain ⟨af, rfl, hbf, hf0⟩ := HFA.out k (by rw [← HP.out, hpm]; exact hlt)
          have HFC := Lib.hid (fun (W : World) (h : Below w.heap.size w W) => (h.cell (p := af.add k) (by rw [block_add]; exact hbf)).trans hf0)
          clear hf0 hbf
          obtain ⟨a1, a2, a3, a4, a5⟩ := net_arc HCH.out k (by rw [← HM.out]; exact hlt)
          rw [← HN.out] at a1 a2
          have HL1 := Lib.hid (show leftK N fl (k + 1) = mv (mv (leftK N fl k) (N.arcs.getD k default).fr (-(fl.getD k 0))) (N.arcs.getD k default).to (fl.getD k 0) from rfl)
          have HK1 := Lib.hid (show costK N fl (k + 1) = costK N fl k + fl.getD k 0 * (N.arcs.getD k default).cost from rfl)
          have HCAP := Lib.hid (fun h => isFlow_cap (N := N) (fl := fl) k (by rw [← HM.out]; exact hlt) h)
          have HLL := Lib.hid (leftK_length N fl k)
          generalize har : N.arcs.getD k default = ar at *
          obtain ⟨fr, to, ca, co⟩ := ar
          have HAR := Lib.hid (show (N.arcs.getD k default).cap = ca from by rw [har])
          clear har
          simp only at d0 d1 d2 d3 a1 a2 a3 a4 a5 HCAP HL1 HK1
          obtain ⟨a, rfl⟩ : ∃ a : Nat, fr = a := ⟨fr.toNat, by omega⟩
          obtain ⟨b, rfl⟩ : ∃ b : Nat, to = b := ⟨to.toNat, by omega⟩
          generalize hfk : fl.getD k 0 = f at *
          have HFK := Lib.hid hfk
          clear hfk
          have HJ2 := Lib.hid HJ.out.2
          have J0 := Lib.hid HJ.out.1
          clear HJ
          generalize leftK N fl k = l at *
          generalize hS : costK N fl k = S at *
          clear hS
          have gne : wr.heap.size ≠ g := by have := J0.out.2.2.lt; omega
          go_upto_region 10 with fail
          have J4 := Lib.hid (J0.out.alloc (.cells #[.int .i64 a, .int .i64 b, .int .i64 ca, .int .i64 co] 46))
          have BX := Lib.hid (Blk.new' wr #[.int .i64 a, .int .i64 b, .int .i64 ca, .int .i64 co] 46)
          generalize wr.alloc (.cells #[.int .i64 a, .int .i64 b, .int .i64 ca, .int .i64 co] 46) = wx at J4 BX ⊢
          generalize wr.heap.size = ga at *
          have e0 := BX.out.cell 0 rfl
          have e1 := BX.out.cell 1 rfl
          have e2 := BX.out.cell 2 rfl
          have e3 := BX.out.cell 3 rfl
          have fc := HFC.out _ J4.out.1
          clear d0 d1 d2 d3 cA0 cB0
          have hlen : fl.length = N.arcs.length := by rw [← HP.out, ← HM.out]; exact hpm
          have HLEN := Lib.hid hlen
          clear hlen
          by_cases f1 : f < 0
          · have E := Lib.hid (co_no HCH.out HLEN.out (HCAP.out (by omega)))
            go_wp2
            go_ret2
            exact ⟨ret2 E.out.2.symm E.out.1.symm, J4.out.1⟩
          by_cases f2 : ca < f
          · have E := Lib.hid (co_no HCH.out HLEN.out (HCAP.out (by omega)))
            go_wp2
            go_ret2
            exact ⟨ret2 E.out.2.symm E.out.1.symm, J4.out.1⟩
          have la0 := J4.out.2.2.cell a (by rw [HLL.out, ← HN.out]; omega)
          have fr0 := J4.out.2.2.free a
          have lb0 := BL.out a (by rw [← HN.out]; omega)
          have M1 := Lib.hid (mv_nat l a (-f) (l.getD a 0 - f) (by omega))
          have M1B := Lib.hid (mv_bd (l := l) (i := (a : Int)) (d := -f) (B := 268435456 + 2097152 * k) (D := 1048576) (by omega) (by rw [HLL.out, ← HN.out]; omega) (fun j hj => BL.out j (by rw [← HLL.out]; exact hj)))
          have M1L := Lib.hid (mv_length l (a : Int) (-f))
          generalize l.getD a 0 = la at *
          go_upto_region 14 with fail
          refine gen_world (fun W => CoJ w A (some ad) n cA m cB g c (mv l a (-f)) W ∧ Blk W ga 46 [.int .i64 a, .int .i64 b, .int .i64 ca, .int .i64 co]) ⟨by rw [M1.out]; exact J4.out.put zg a _, BX.out.setCell_ne gne _⟩ ?_
          rintro w5 ⟨j5, bx5⟩
          have J5 := Lib.hid j5
          have BX5 := Lib.hid bx5
          clear j5 bx5 e0 e1 e2 e3 fc la0 fr0 lb0 J4 BX
          generalize mv l (a : Int) (-f) = l5 at *
          have e0 := BX5.out.cell 0 rfl
          have e1 := BX5.out.cell 1 rfl
          have e2 := BX5.out.cell 2 rfl
          have e3 := BX5.out.cell 3 rfl
          have la0 := J5.out.2.2.cell b (by rw [M1L.out, HLL.out, ← HN.out]; omega)
          have fr0 := J5.out.2.2.free b
          have lb0 := M1B.out b (by rw [M1L.out, HLL.out, ← HN.out]; omega)
          have M2 := Lib.hid (mv_nat l5 b f (l5.getD b 0 + f) (by omega))
          generalize l5.getD b 0 = lb at *
          go_upto_region 15 with fail
          refine gen_world (fun W => CoJ w A (some ad) n cA m cB g c (mv l5 b f) W ∧ Blk W ga 46 [.int .i64 a, .int .i64 b, .int .i64 ca, .int .i64 co]) ⟨by rw [M2.out]; exact J5.out.put zg b _, BX5.out.setCell_ne gne _⟩ ?_
          rintro w6 ⟨j6, bx6⟩
          have J6 := Lib.hid j6
          have BX6 := Lib.hid bx6
          clear j6 bx6 e0 e1 e2 e3 la0 fr0 lb0 J5 BX5
          have e0 := BX6.out.cell 0 rfl
          have e3 := BX6.out.cell 3 rfl
          have p1 : f * co ≤ 1099511627776 ∧ -1099511627776 ≤ f * co := by
            have q1 := Int.mul_le_mul_of_nonneg_left a5.2 (show (0:Int) ≤ f by omega)
            have q2 := Int.mul_le_mul_of_nonneg_left a5.1 (show (0:Int) ≤ f by omega)
            omega
          go_wp2
          go_roundw
          case rel =>
            refine ⟨k + 1, by omega, by go_num, by rw [HK1.out], Lib.hid ⟨?_, fun x hx => ?_⟩⟩
            · rw [HL1.out]; exact J6.out
            · by_cases hjk : x < k
              · exact HJ2.out x hjk
              · obtain rfl : x = k := by omega
                rw [HFK.out, HAR.out]; omega
          case measure => simp [intOf]; omega
        · obtain rfl : k = m := by omega
          have hlen : fl.length = N.arcs.length := by rw [← HP.out, ← HM.out]; exact hpm
          have HLEN := Lib.hid hlen
          clear hlen
          have J7 := Lib.hid HJ.out.1
          have HLL := Lib.hid (leftK_length N fl k)
          have EL := Lib.hid (fun j hj h => co_no HCH.out HLEN.out (isFlow_left (N := N) (fl := fl) j hj (by rw [← HM.out]; exact h)))
          have EY := Lib.hid (fun h2 => co_yes HCH.out HLEN.out (isFlow_yes HLEN.out (fun x hx => HJ.out.2 x (by rw [HM.out]; exact hx)) (by rw [← HM.out]; exact h2)))
          have EC := Lib.hid (show costK N fl k = costK N fl N.arcs.length from by rw [HM.out])
          clear HJ
          generalize leftK N fl k = l at *
          generalize costK N fl k = S at *
          go_wp2_with fail
          go_loop [73] (fun i => ∃ j : Nat, j ≤ n ∧ i = .int .i64 j ∧ Hid (∀ x, x < j → l.getD x 0 = 0)) (fun i => n - (intOf i).toNat)
          case atStart => exact ⟨0, Nat.zero_le _, rfl, Lib.hid (fun x hx => absurd hx (Nat.not_lt_zero _))⟩
          case round =>
            obtain ⟨j, hj, rfl, HZ⟩ := hrel
            by_cases hlt2 : j < n
            · have hc0 := J7.out.2.2.cell j (by rw [HLL.out, ← HN.out]; exact hlt2)
              have EJ := Lib.hid (EL.out j (by rw [← HN.out]; exact hlt2))
              generalize hx : l.getD j 0 = x at *
              have HX := Lib.hid hx
              clear hx
              by_cases x0 : x = 0
              · subst x0
                go_wp2
                go_round
                case rel =>
                  refine ⟨j + 1, by omega, by go_num, Lib.hid (fun y hy => ?_)⟩
                  by_cases hjk : y < j
                  · exact HZ.out y hjk
                  · obtain rfl : y = j := by omega
                    exact HX.out
                case measure => simp [intOf]; omega
              · have E := Lib.hid (EJ.out x0)
                have hx0 : (x == 0) = false := by simpa using x0
                clear x0
                go_wp2
                go_ret2
                exact ⟨ret2 E.out.2.symm E.out.1.symm, J7.out.1⟩
            · have E := Lib.hid (EY.out (fun x hx => HZ.out x (by rw [← HN.out] at hx; omega)))
              go_wp2
              go_ret2
              exact ⟨ret2 (by rw [E.out.2, EC.out]) E.out.1.symm, J7.out.1⟩
    · have E := Lib.hid (co_len (fl := fl) hch (by rw [← HP.out, ← HM.out]; exact hpm))
      have hmm : ¬ (p : Int) = (m : Int) := by omega
      have hmm' : ((p : Int) == (m : Int)) = false := by simpa using hmm
      go_wp2
      go_ret2
      exact ⟨ret2 E.out.2.symm E.out.1.symm, HB2.out⟩
  · have E := Lib.hid (co_ch (fl := fl) hch)
    have hne : (chE N == 0) = false := by simpa using hch
    generalize chE N = q at *
    go_wp2
    go_ret2
    exact ⟨ret2 E.out.2.symm E.out.1.symm, HB2.out⟩
end Go.Proofs.Ytmebpglkeedaoaa
