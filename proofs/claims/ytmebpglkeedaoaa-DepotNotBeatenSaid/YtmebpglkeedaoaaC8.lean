/- The contract of the reference's IsFlow of depot. -/
import Derived.Test.YtmebpglkeedaoaaC7
namespace Go.Proofs.Ytmebpglkeedaoaa
open Go.RowKit Dp
set_option linter.unusedVariables false
theorem CoJ.below {w : World} {A B : Option Addr} {n cA m cB g c : Nat} {l : List Int} {W W' : World} (h : CoJ w A B n cA m cB g c l W) (hb : Below W.heap.size W W') : CoJ w A B n cA m cB g c l W' :=
  ⟨h.1.trans (hb.mono h.1.size), h.2.1.below hb h.2.1.lt, h.2.2.below hb⟩

set_option maxHeartbeats 4000000 in
set_option maxRecDepth 100000 in
theorem IsFlow_c (A B C : Option Addr) (N : Net) (fl : List Int) (n m p cA cB cC : Nat) (w : World) (hn : n = N.sup.length) (hm : m = N.arcs.length) (hp : p = fl.length) (hch : chE N = 0) (hA : n ≤ cA ∧ cA ≤ 9223372036854775807) (hB : m ≤ cB ∧ cB ≤ 9223372036854775807) (hC : p ≤ cC ∧ cC ≤ 9223372036854775807) (hN : NetAt w A B N) (hF : IntsAt w C fl) :
    Calls Try.prog 58 #[.agg #[.slice A n cA, .slice B m cB], .slice C p cC] w fun e w' => e = .returned (.bool (isFlow N fl)) ∧ Below w.heap.size w w' := by
  have HCH := Lib.hid hch
  have hce := net_len hch
  have n1 : 1 ≤ n := by rw [hn]; exact hce.1
  have n2 : n ≤ 1024 := by rw [hn]; exact hce.2.1
  have m2 : m ≤ 2048 := by rw [hm]; exact hce.2.2
  have HN := Lib.hid hn
  have HM := Lib.hid hm
  have HP := Lib.hid hp
  have HNA := Lib.hid hN
  have HFA := Lib.hid hF
  clear hn hm hp hN hF hch hce
  have B1 := Lib.hid (Blk.new' w #[.slice A n cA, .slice B m cB] 25)
  have HB1 := Lib.hid ((Below.refl w.heap.size w).alloc (Nat.le_refl _) (.cells #[.slice A n cA, .slice B m cB] 25))
  by_cases hpm : p = m
  · obtain ⟨i0, hi, hz0, hz1, hz2⟩ := info_parts info2
    have hmm : (p : Int) = (m : Int) := by omega
    obtain ⟨aS, rfl, hbS, _⟩ := HNA.out.1 0 (by rw [← HN.out]; omega)
    have HS : Hid (SrcRow ((w.alloc (.cells #[.slice (some aS) n cA, .slice B m cB] 25)).alloc (.cells #[] 2)) (some aS) n (N.sup.map (Value.int .i64))) := Lib.hid (.inr ⟨aS, rfl, fun j u hu => by
      have hj : j < N.sup.length := by
        rcases Nat.lt_or_ge j N.sup.length with h | h
        · exact h
        · rw [List.getElem?_eq_none (by simpa using h)] at hu; cases hu
      obtain ⟨ad', e, hb, hc⟩ := HNA.out.1 j hj
      cases e
      have hu' : u = .int .i64 (N.sup.getD j 0) := by
        rw [List.getElem?_map, List.getElem?_eq_getElem hj] at hu
        simp only [Option.map_some, Option.some.injEq] at hu
        rw [← hu, List.getD_eq_getElem?_getD, List.getElem?_eq_getElem hj]; rfl
      rw [hu']
      exact ((((Below.refl w.heap.size w).alloc (Nat.le_refl _) _).alloc (by simp) (.cells #[] 2)).cell (by rw [block_add]; exact hb)).trans hc⟩)
    go_enter Try.func58, Try.ntmps58
    go_wp2_with (at_builtin; refine wpList_append_any (.tmp 15) (.tmp 17) 22 rfl rfl (w.heap.size + 1) 2 i0 (.int .i64 0) 1 8 Try.underlying22 hi hz0 hz1 hz2 rfl (by decide) (some ⟨w.heap.size + 1, 0, none⟩) 0 0 [] (by rfl) (by have := World.ownsRow_lit (base := w.heap.size + 1) (e := 2) (size := 1) (w.alloc (.cells #[.slice (some aS) n cA, .slice B m cB] 25)) #[] 0 (by simp) (Nat.zero_le _) rfl; simpa using this) (some aS) n cA (N.sup.map (Value.int .i64)) (by rfl) (by rw [HN.out]; simp) HS.out (by simp [Value.oneCell']) (by unfold maxLen; omega) (by omega) (by simp) ?_; intro A3 c3 w2 hown2 hgrow2 hat2; have HO2 := Lib.hid hown2; have HG2 := Lib.hid hgrow2; have HAT2 := Lib.hid hat2; clear hown2 hgrow2 hat2)
    obtain ⟨g, cap', e, z1, z2⟩ := HO2.out.form (by omega)
    cases e
    have HB2 : Hid (Below (w.heap.size + 1) ((w.alloc (.cells #[.slice (some aS) n cA, .slice B m cB] 25)).alloc (.cells #[] 2)) w2) := Lib.hid ((Below.refl _ _).grown HG2.out (by simp) (by intro k hk; cases hk; exact Nat.le_refl _))
    have J3 : Hid (CoJ w (some aS) B n cA m cB g c3 N.sup w2) := Lib.hid ⟨(((Below.refl w.heap.size w).alloc (Nat.le_refl _) _).alloc (by simp) _).trans (HB2.out.mono (by omega)), (B1.out.alloc _).below HB2.out (by omega), by
      have := HO2.out
      rw [HN.out] at this
      exact OwnI.mono (B := w.heap.size + 1) (by simpa [OwnI] using this) (by omega)⟩
    have zg : w.heap.size < g := by omega
    clear HO2 HG2 HAT2 HB2 HB1 B1 z1 z2 HS
    go_loopw [6] (fun i wr => ∃ k : Nat, k ≤ m ∧ i = .int .i64 k ∧ Hid (CoJ w (some aS) B n cA m cB g c3 (leftK N fl k) wr ∧ ∀ x, x < k → 0 ≤ fl.getD x 0 ∧ fl.getD x 0 ≤ (N.arcs.getD x default).cap)) (fun i _ => m - (intOf i).toNat)
    case atStart => exact ⟨0, Nat.zero_le _, rfl, Lib.hid ⟨J3.out, fun x hx => absurd hx (Nat.not_lt_zero _)⟩⟩
    case round =>
      obtain ⟨k, hk, rfl, HJ⟩ := hrel
      have BL := Lib.hid (leftK_bd HCH.out k (by rw [← HM.out]; exact hk) HJ.out.2)
      have cA0 := HJ.out.1.2.1.cell 0 rfl
      have cB0 := HJ.out.1.2.1.cell 1 rfl
      by_cases hlt : k < m
      · obtain ⟨ad, rfl, hbl, d0, d1, d2, d3⟩ := (HNA.out.2.below HJ.out.1.1 (Nat.le_refl _)) k (by rw [← HM.out]; exact hlt)
        obtain ⟨af, rfl, hbf, hf0⟩ := HFA.out k (by rw [← HP.out, hpm]; exact hlt)
        have HFC := Lib.hid (fun (W : World) (h : Below w.heap.size w W) => And.intro ((h.cell (p := af.add k) (by rw [block_add]; exact hbf)).trans hf0) (show (af.add k).block < W.heap.size from by rw [block_add]; have := h.size; omega))
        clear hf0 hbf
        obtain ⟨a1, a2, a3, a4, a5⟩ := net_arc HCH.out k (by rw [← HM.out]; exact hlt)
        rw [← HN.out] at a1 a2
        have HL1 := Lib.hid (show leftK N fl (k + 1) = mv (mv (leftK N fl k) (N.arcs.getD k default).fr (-(fl.getD k 0))) (N.arcs.getD k default).to (fl.getD k 0) from rfl)
        have HCAP := Lib.hid (fun h => isFlow_cap (N := N) (fl := fl) k (by rw [← HM.out]; exact hlt) h)
        have HLL := Lib.hid (leftK_length N fl k)
        generalize har : N.arcs.getD k default = ar at *
        obtain ⟨fr, to, ca, co⟩ := ar
        have HAR := Lib.hid (show (N.arcs.getD k default).cap = ca from by rw [har])
        clear har
        simp only at d0 d1 d2 d3 a1 a2 a3 a4 a5 HCAP HL1
        obtain ⟨a, rfl⟩ : ∃ a : Nat, fr = a := ⟨fr.toNat, by omega⟩
        obtain ⟨b, rfl⟩ : ∃ b : Nat, to = b := ⟨to.toNat, by omega⟩
        generalize hfk : fl.getD k 0 = f at *
        have HFK := Lib.hid hfk
        clear hfk
        have HJ2 := Lib.hid HJ.out.2
        have J0 := Lib.hid HJ.out.1
        clear HJ
        generalize leftK N fl k = l at *
        have gne : wr.heap.size ≠ g := by have := J0.out.2.2.lt; omega
        have hmk : (k : Int) < (p : Int) := by omega
        have k0 : (0 : Int) ≤ (k : Int) := by omega
        have kd : decide ((k : Int) < (p : Int)) = true := decide_eq_true hmk
        go_wp2_with fail
        have J4 := Lib.hid (J0.out.alloc (.cells #[.int .i64 a, .int .i64 b, .int .i64 ca, .int .i64 co] 46))
        have BX := Lib.hid (Blk.new' wr #[.int .i64 a, .int .i64 b, .int .i64 ca, .int .i64 co] 46)
        generalize wr.alloc (.cells #[.int .i64 a, .int .i64 b, .int .i64 ca, .int .i64 co] 46) = wx at J4 BX ⊢
        generalize wr.heap.size = ga at *
        have zga := BX.out.lt
        have e2 := BX.out.cell 2 rfl
        obtain ⟨fc, fcb⟩ := HFC.out _ J4.out.1
        clear d0 d1 d2 d3 cA0 cB0
        have WC := fun W => within_c f 0 ca W
        by_cases f1 : 0 ≤ f ∧ f ≤ ca
        · rw [show inB f 0 ca = true from by simp [inB, f1]] at WC
          refine wp_region_past (by kernel_rfl) (by kernel_rfl) ?_
          repeat (go_big_quiet_step ((go_at_call 60; exact past_same (WC _))))
          refine wpQuiet_nil ?_
          intro xx
          have J5 := Lib.hid (J4.out.below xx.far)
          have BX5 := Lib.hid (BX.out.below xx.far BX.out.lt)
          generalize xx.w = w5 at J5 BX5 ⊢
          clear J4 BX zga e2 fc fcb
          have lb0 := BL.out a (by rw [← HN.out]; omega)
          have M1 := Lib.hid (mv_nat l a (-f) (l.getD a 0 - f) (by omega))
          have M1B := Lib.hid (mv_bd (l := l) (i := (a : Int)) (d := -f) (B := 268435456 + 2097152 * k) (D := 1048576) (by omega) (by rw [HLL.out, ← HN.out]; omega) (fun j hj => BL.out j (by rw [← HLL.out]; exact hj)))
          have M1L := Lib.hid (mv_length l (a : Int) (-f))
          have CL := Lib.hid (fun (W : World) (h : CoJ w (some aS) (some ad) n cA m cB g c3 l W) => h.2.2.cell a (by rw [HLL.out, ← HN.out]; omega))
          generalize l.getD a 0 = la at *
          go_wp2_with fail
          trace "region 10"
          refine wp_region_head 10 ?af1 (by kernel_rfl) (by kernel_rfl) ?walk1 ?tail1
          case walk1 =>
            intro V hV
            have JV := J5.out.below hV
            have BV := BX5.out.below hV BX5.out.lt
            have zg1 := JV.2.2.lt.2
            have zga := BV.lt
            have e0 := BV.cell 0 rfl
            have la0 := CL.out _ JV
            obtain ⟨fc, fcb⟩ := HFC.out _ JV.1
            clear JV BV
            simp only [List.take_succ_cons, List.take_zero]
            repeat (go_big_quiet_step (fail))
            refine wpQuiet_nil ?_
            rfl
          case tail1 =>
            intro w6 hb6
            have J6 := Lib.hid (J5.out.below hb6)
            have BX6 := Lib.hid (BX5.out.below hb6 BX5.out.lt)
            have fr0 := J6.out.2.2.free a
            have la0 := CL.out _ J6.out
            have zg1 := J6.out.2.2.lt.2
            clear hb6 J5 BX5
            simp only [List.drop_succ_cons, List.drop_zero]
            go_wp2_with fail
            trace "region 11"
            refine gen_world (fun W => CoJ w (some aS) (some ad) n cA m cB g c3 (mv l a (-f)) W ∧ Blk W ga 46 [.int .i64 a, .int .i64 b, .int .i64 ca, .int .i64 co]) ⟨by rw [M1.out]; exact J6.out.put zg a _, BX6.out.setCell_ne gne _⟩ ?_
            rintro w7 ⟨j7, bx7⟩
            have J7 := Lib.hid j7
            have BX7 := Lib.hid bx7
            clear j7 bx7 la0 fr0 lb0 J6 BX6 zg1 CL
            generalize mv l (a : Int) (-f) = l5 at *
            have lb0 := M1B.out b (by rw [M1L.out, HLL.out, ← HN.out]; omega)
            have M2 := Lib.hid (mv_nat l5 b f (l5.getD b 0 + f) (by omega))
            have CL := Lib.hid (fun (W : World) (h : CoJ w (some aS) (some ad) n cA m cB g c3 l5 W) => h.2.2.cell b (by rw [M1L.out, HLL.out, ← HN.out]; omega))
            generalize l5.getD b 0 = lb at *
            refine wp_region_head 10 ?af2 (by kernel_rfl) (by kernel_rfl) ?walk2 ?tail2
            case walk2 =>
              intro V hV
              have JV := J7.out.below hV
              have BV := BX7.out.below hV BX7.out.lt
              have zg1 := JV.2.2.lt.2
              have zga := BV.lt
              have e1 := BV.cell 1 rfl
              have la0 := CL.out _ JV
              obtain ⟨fc, fcb⟩ := HFC.out _ JV.1
              clear JV BV
              simp only [List.take_succ_cons, List.take_zero]
              repeat (go_big_quiet_step (fail))
              refine wpQuiet_nil ?_
              rfl
            case tail2 =>
              intro w8 hb8
              have J8 := Lib.hid (J7.out.below hb8)
              have fr0 := J8.out.2.2.free b
              have la0 := CL.out _ J8.out
              have zg1 := J8.out.2.2.lt.2
              clear hb8 J7 BX7
              simp only [List.drop_succ_cons, List.drop_zero]
              go_wp2
              go_roundw
              case rel =>
                refine ⟨k + 1, by omega, by go_num, Lib.hid ⟨?_, fun x hx => ?_⟩⟩
                · rw [HL1.out, M2.out]; exact J8.out.put zg b _
                · by_cases hjk : x < k
                  · exact HJ2.out x hjk
                  · obtain rfl : x = k := by omega
                    rw [HFK.out, HAR.out]; omega
              case measure => simp [intOf]; omega
        · rw [show inB f 0 ca = false from by simp [inB]; omega] at WC
          have E := Lib.hid (HCAP.out f1)
          refine wp_region_past (by kernel_rfl) (by kernel_rfl) ?_
          repeat (go_big_quiet_step ((go_at_call 60; exact past_same (WC _))))
          refine wpQuiet_nil ?_
          intro xx
          have J5 := Lib.hid (J4.out.below xx.far)
          generalize xx.w = w5 at J5 ⊢
          go_wp2
          go_ret
          exact ⟨ret_bool E.out.symm, J5.out.1⟩
      · obtain rfl : k = m := by omega
        have hlen : fl.length = N.arcs.length := by rw [← HP.out, ← HM.out]; exact hpm
        have HLEN := Lib.hid hlen
        clear hlen
        have J7 := Lib.hid HJ.out.1
        have HLL := Lib.hid (leftK_length N fl k)
        have EL := Lib.hid (fun j hj h => isFlow_left (N := N) (fl := fl) j hj (by rw [← HM.out]; exact h))
        have EY := Lib.hid (fun h2 => isFlow_yes HLEN.out (fun x hx => HJ.out.2 x (by rw [HM.out]; exact hx)) (by rw [← HM.out]; exact h2))
        clear HJ
        generalize leftK N fl k = l at *
        have hmk : ¬ (k : Int) < (p : Int) := by omega
        have kd : decide ((k : Int) < (p : Int)) = false := decide_eq_false hmk
        go_wp2_with fail
        go_loop [8] (fun i => ∃ j : Nat, j ≤ n ∧ i = .int .i64 j ∧ Hid (∀ x, x < j → l.getD x 0 = 0)) (fun i => n - (intOf i).toNat)
        case atStart => exact ⟨0, Nat.zero_le _, rfl, Lib.hid (fun x hx => absurd hx (Nat.not_lt_zero _))⟩
        case round =>
          obtain ⟨j, hj, rfl, HZ⟩ := hrel
          by_cases hlt2 : j < n
          · have hc0 := J7.out.2.2.cell j (by rw [HLL.out, ← HN.out]; exact hlt2)
            have EJ := Lib.hid (EL.out j (by rw [← HN.out]; exact hlt2))
            generalize hx : l.getD j 0 = x at *
            have HX := Lib.hid hx
            clear hx
            by_cases x0 : x = 0
            · subst x0
              go_wp2
              go_round
              case rel =>
                refine ⟨j + 1, by omega, by go_num, Lib.hid (fun y hy => ?_)⟩
                by_cases hjk : y < j
                · exact HZ.out y hjk
                · obtain rfl : y = j := by omega
                  exact HX.out
              case measure => simp [intOf]; omega
            · have E := Lib.hid (EJ.out x0)
              have hx0 : (x == 0) = false := by simpa using x0
              clear x0
              go_wp2
              go_ret
              exact ⟨ret_bool E.out.symm, J7.out.1⟩
          · have E := Lib.hid (EY.out (fun x hx => HZ.out x (by rw [← HN.out] at hx; omega)))
            go_wp2
            go_ret
            exact ⟨ret_bool E.out.symm, J7.out.1⟩
  · have E := Lib.hid (isFlow_len (N := N) (fl := fl) (by rw [← HP.out, ← HM.out]; exact hpm))
    have hmm : ¬ (p : Int) = (m : Int) := by omega
    have hmm' : ((p : Int) == (m : Int)) = false := by simpa using hmm
    go_enter Try.func58, Try.ntmps58
    go_wp2
    go_ret
    exact ⟨ret_bool E.out.symm, HB1.out⟩
end Go.Proofs.Ytmebpglkeedaoaa
