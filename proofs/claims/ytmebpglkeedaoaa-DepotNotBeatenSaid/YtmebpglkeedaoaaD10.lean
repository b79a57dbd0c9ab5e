/- The contract of newGraph of depot. -/
import Derived.Test.YtmebpglkeedaoaaD9
import Derived.Test.YtmebpglkeedaoaaR2
namespace Go.Proofs.Ytmebpglkeedaoaa
open Go.RowKit Dp
set_option linter.unusedVariables false

theorem step_new {P : Program} {w : World} {ops : Array Oper} {o : Oper} {a : Act} {K : Act → World → Prop} {Q : Exit → Act → World → Prop} {E : Prop} (O : Obj) (vf : Nat → Value)
    (hgd : o.guard = none) (hsp : (execOp a.eval o).run P w = .ok (.value (vf w.heap.size)) (w.alloc O))
    (h : ∀ g w', w.heap.size ≤ g → w'.heap[g]? = some O → Below w.heap.size w w' → K (a.put o.dst (vf g)) w') :
    if Region.wanted o (yielded ops a.tmps) = true then Oper.wp P o a w K Q else E := by
  have hw : Region.wanted o (yielded ops a.tmps) = true := by simp [Region.wanted, hgd]
  rw [if_pos hw]
  unfold Oper.wp
  rw [hsp]
  exact h _ _ (Nat.le_refl _) (by show (w.heap.push O)[w.heap.size]? = _; simp) ((Below.refl _ _).alloc (Nat.le_refl _) _)
theorem make_sl (n : Nat) (hn : n ≤ 4096) (W : World) : (Instr.makeSlice 111 (.int .i64 n) (.int .i64 n)).run Try.prog W = .ok (.slice (some ⟨W.heap.size, 0, none⟩) n n) (W.alloc (.cells (Array.replicate n (.slice none 0 0)) 26)) := by
  obtain ⟨i, hi, hz0, hz1, hz2⟩ := info_parts info26
  have hr := run_make (P := Try.prog) W 111 26 i _ Try.underlying111 hi hz0 .i64 .i64 n n (by omega) (by omega) (by rw [hz2]; omega) (by omega)
  simp only [Int.toNat_natCast, hz1, Nat.mul_one] at hr
  rw [hr]
  have e1 : madeCells (Value.slice none 0 0).cells n = Array.replicate n (.slice none 0 0) := by
    unfold madeCells
    apply Array.ext
    · simp
    · intro j h1 h2
      simp [Value.cells, Nat.mod_one]
  rw [e1]
theorem slC_zero (N : Net) : slC (fun _ => none) (fun _ => 0) (outsK N 0) = List.replicate N.sup.length (.slice none 0 0) := by
  apply List.ext_getElem
  · simp [slC, outsK]
  · intro i h1 h2
    have hi : i < N.sup.length := by simpa using h2
    simp [slC, outsK, List.getD_eq_getElem?_getD, hi]
/-- the graph behind k arcs -/
def grK (N : Net) (k : Nat) : Gr := { left := N.sup, es := esK N k, outs := outsK N k }

theorem ngJ_start {w W : World} {b gl cl bo n : Nat} {N : Net} (hn : n = N.sup.length) (hb : Below w.heap.size w W) (h1 : OwnI w.heap.size W gl cl N.sup) (h2 : Blk W bo 26 (List.replicate n (.slice none 0 0))) (h3 : Blk W b 113 [.slice (some ⟨gl, 0, none⟩) n cl, .slice none 0 0, .slice (some ⟨bo, 0, none⟩) n n]) (hb1 : w.heap.size ≤ b) (hb2 : w.heap.size ≤ bo) :
    NgJ w b gl cl bo none 0 (fun _ => none) (fun _ => 0) (grK N 0) W :=
  { bel := hb
    blk := by
      show Blk W b 113 [.slice (some ⟨gl, 0, none⟩) N.sup.length cl, .slice none 0 0, .slice (some ⟨bo, 0, none⟩) (outsK N 0).length (outsK N 0).length]
      rw [outsK_len, ← hn]; exact h3
    left := h1
    es := World.ownsRow_nil _ _ _ _
    rows := by
      show Blk W bo 26 (slC _ _ (outsK N 0))
      rw [slC_zero, ← hn]; exact h2
    own := fun i hi => by
      have : (grK N 0).outs.getD i [] = [] := by
        have hi' : i < N.sup.length := by have := outsK_len N 0; simp only [grK] at hi; omega
        simp [grK, outsK, List.getD_eq_getElem?_getD, hi']
      rw [this]
      exact World.ownsRow_nil _ _ _ _
    dis := fun i j _ _ _ k h => by obtain ⟨a, e, _⟩ := h; cases e
    ge := ⟨hb1, hb2⟩ }

set_option maxHeartbeats 2000000 in
set_option maxRecDepth 100000 in
theorem newGraph_c (A0 B0 : Option Addr) (N : Net) (n m cA cB : Nat) (w : World) (hn : n = N.sup.length) (hm : m = N.arcs.length) (hch : chE N = 0) (hA : n ≤ cA ∧ cA ≤ 9223372036854775807) (hB : m ≤ cB ∧ cB ≤ 9223372036854775807) (hN : NetAt w A0 B0 N) :
    Calls Try.prog 62 #[.agg #[.slice A0 n cA, .slice B0 m cB]] w fun e w' => ∃ b gl cl E ce bo, e = .returned (.pointer (some ⟨b, 0, none⟩)) ∧ Below w.heap.size w w' ∧ GrAt w' w.heap.size b gl cl E ce bo (gr0 N) := by
  have HN := Lib.hid hn
  have HM := Lib.hid hm
  have HCH := Lib.hid hch
  have HNA := Lib.hid hN
  have hl := net_len hch
  have n1 : 1 ≤ n := by rw [hn]; exact hl.1
  have n2 : n ≤ 1024 := by rw [hn]; exact hl.2.1
  have m2 : m ≤ 2048 := by rw [hm]; exact hl.2.2
  clear hn hm hch hN hl
  have hmk := make_sl n (by omega)
  have HB0 := Lib.hid ((Below.refl w.heap.size w).alloc (Nat.le_refl _) (.cells #[.slice A0 n cA, .slice B0 m cB] 25))
  have HX0 := Lib.hid (Blk.new' w #[.slice A0 n cA, .slice B0 m cB] 25)
  go_enter Try.func62, Try.ntmps62
  go_upto_region 1 with fail
  generalize w.alloc (.cells #[.slice A0 n cA, .slice B0 m cB] 25) = w1 at HB0 HX0 ⊢
  have RD : Hid (∀ W, Below w1.heap.size w1 W → W.cell? ⟨w.heap.size, 0, none⟩ = some (.slice A0 n cA) ∧ Blk W w.heap.size 25 [.slice A0 n cA, .slice B0 m cB] ∧ Below w.heap.size w W ∧ NetAt W A0 B0 N) := Lib.hid (fun W h => by
    have hb := HB0.out.trans (h.mono HB0.out.size)
    have hx := HX0.out.below h HX0.out.lt
    exact ⟨hx.cell 0 rfl, hx, hb, HNA.out.below hb (Nat.le_refl _)⟩)
  have HT := Lib.hid (Below.refl w1.heap.size w1).drew
  go_cut [3] from 4 (fun s3 wc => ∃ b gl cl bo, s3 = .pointer (some ⟨b, 0, none⟩) ∧ Hid (NgJ w b gl cl bo none 0 (fun _ => none) (fun _ => 0) (grK N 0) wc ∧ Below w1.heap.size w1 wc))
  case first =>
    refine lBegin (S := fun _ W => (W.cell? ⟨w.heap.size, 0, none⟩ = some (.slice A0 n cA))) (by kernel_rfl) ?_ (fun hHeld => ?_)
    · (try dsimp only); (first | with_reducible exact (RD.out _ HT.out).1 | with_reducible assumption)
    refine lTake (i := 0) (v := ?_) rfl (by kernel_rfl) (by kernel_rfl) (by kernel_rfl) (fun _ _ _ h => h) (by rfl) (fun _ _ h => h) (fun _ _ h => h) ?_ (by assumption) (fun hHeld2 => ?_)
    rotate_left 1
    · (intro _ _ _ _ _; first | (go_simp; done) | (go_simp; with_reducible rfl))
    clear hHeld; have hHeld := hHeld2; clear hHeld2
    (try simp only [Act.put, List.setIfInBounds_toArray, List.set_cons_zero, List.set_cons_succ])
    refine lTake (i := 1) (v := ?_) rfl (by kernel_rfl) (by kernel_rfl) (by kernel_rfl) (fun _ _ _ h => h) (by rfl) (fun _ _ h => h) (fun _ _ h => h) ?_ (by assumption) (fun hHeld2 => ?_)
    rotate_left 1
    · (intro L W _ _ hSw; (try dsimp only at hSw); first | (go_simp; done) | (go_simp; with_reducible rfl))
    clear hHeld; have hHeld := hHeld2; clear hHeld2
    (try simp only [Act.put, List.setIfInBounds_toArray, List.set_cons_zero, List.set_cons_succ])
    refine lTake (i := 3) (v := ?_) rfl (by kernel_rfl) (by kernel_rfl) (by kernel_rfl) (fun _ _ _ h => h) (by rfl) (fun _ _ h => h) (fun _ _ h => h) ?_ (by assumption) (fun hHeld2 => ?_)
    rotate_left 1
    · (intro _ _ _ _ _; first | (go_simp; done) | (go_simp; with_reducible rfl))
    clear hHeld; have hHeld := hHeld2; clear hHeld2
    (try simp only [Act.put, List.setIfInBounds_toArray, List.set_cons_zero, List.set_cons_succ])
    refine lTake (i := 4) (v := ?_) rfl (by kernel_rfl) (by kernel_rfl) (by kernel_rfl) (fun _ _ _ h => h) (by rfl) (fun _ _ h => h) (fun _ _ h => h) ?_ (by assumption) (fun hHeld2 => ?_)
    rotate_left 1
    · (intro L W _ _ hSw; (try dsimp only at hSw); first | (go_simp; done) | (go_simp; with_reducible rfl))
    clear hHeld; have hHeld := hHeld2; clear hHeld2
    (try simp only [Act.put, List.setIfInBounds_toArray, List.set_cons_zero, List.set_cons_succ])
    refine lTake (i := 5) (v := ?_) rfl (by kernel_rfl) (by kernel_rfl) (by kernel_rfl) (fun _ _ _ h => h) (by rfl) (fun _ _ h => h) (fun _ _ h => h) ?_ (by assumption) (fun hHeld2 => ?_)
    rotate_left 1
    · (intro _ _ _ _ _; first | (go_simp; done) | (go_simp; with_reducible rfl))
    clear hHeld; have hHeld := hHeld2; clear hHeld2
    (try simp only [Act.put, List.setIfInBounds_toArray, List.set_cons_zero, List.set_cons_succ])
    refine lReady (rs := [2, 6]) (by kernel_rfl) (by simp) ?_
    refine AllL.cons (i := 2) rfl (fun K hK => ?_) ?_
    · go_simp; (refine (clone_c A0 N.sup n cA _ HN.out n1 (by omega) (RD.out _ HT.out).2.2.2.1).mono ?_; rintro e w5 ⟨gl, cl, rfl, hb5, z5, y5, ho5⟩; (try have HMK := Lib.hid (Blk.below HMK.out hb5 (Blk.lt HMK.out))); have HCL := Lib.hid (OwnI.mono ho5 (RD.out _ HT.out).2.2.1.size); have HT := Lib.hid (HT.out.trans (hb5.mono HT.out.size)); clear hb5 ho5 y5)
      (try go_wp2_with fail)
      refine hK.out _ _ ?_ (fun hHeld2 => ?_)
      · (try dsimp only); (first | with_reducible exact (RD.out _ HT.out).1 | with_reducible assumption)
      clear hK K
      clear hHeld; have hHeld := hHeld2; clear hHeld2
      (try simp only [Act.put, List.setIfInBounds_toArray, List.set_cons_zero, List.set_cons_succ])
      refine lReady (rs := [6]) (by kernel_rfl) (by simp) ?_
      refine AllL.cons (i := 6) rfl (fun K hK => ?_) ?_
      · refine step_new (.cells (Array.replicate n (.slice none 0 0)) 26) (fun g => .slice (some ⟨g, 0, none⟩) n n) rfl (by unfold execOp; simp [hmk, go_sem]) ?_; intro bo w6 z6 hc6 hb6; (try have HCL := Lib.hid (OwnI.below HCL.out hb6)); have HMK := Lib.hid (show Blk w6 bo 26 (List.replicate n (.slice none 0 0)) from by unfold Blk; rw [hc6]; simp); have HMS := Lib.hid (Nat.le_trans (RD.out _ HT.out).2.2.1.size z6); have HT := Lib.hid (HT.out.trans (hb6.mono HT.out.size)); clear hb6 hc6 z6
        (try go_wp2_with fail)
        refine hK.out _ _ ?_ (fun hHeld2 => ?_)
        · (try dsimp only); (first | with_reducible exact (RD.out _ HT.out).1 | with_reducible assumption)
        clear hK K
        clear hHeld; have hHeld := hHeld2; clear hHeld2
        (try simp only [Act.put, List.setIfInBounds_toArray, List.set_cons_zero, List.set_cons_succ])
        refine lTake (i := 7) (v := ?_) rfl (by kernel_rfl) (by kernel_rfl) (by kernel_rfl) (fun _ _ _ h => h) (by rfl) (fun _ _ h => h) (fun _ _ h => h) ?_ (by assumption) (fun hHeld2 => ?_)
        rotate_left 1
        · (intro _ _ _ _ _; first | (go_simp; done) | (go_simp; with_reducible rfl))
        clear hHeld; have hHeld := hHeld2; clear hHeld2
        (try simp only [Act.put, List.setIfInBounds_toArray, List.set_cons_zero, List.set_cons_succ])
        refine lReady (rs := [8]) (by kernel_rfl) (by simp) ?_
        refine AllL.cons (i := 8) rfl (fun K hK => ?_) ?_
        · refine step_new (.cells #[.slice (some ⟨gl, 0, none⟩) n cl, .slice none 0 0, .slice (some ⟨bo, 0, none⟩) n n] 113) (fun g => .pointer (some ⟨g, 0, none⟩)) rfl (by kernel_rfl) ?_; intro b w7 z7 hc7 hb7; have HCL := Lib.hid (OwnI.below HCL.out hb7); have HMK := Lib.hid (Blk.below HMK.out hb7 (Blk.lt HMK.out)); have HBB := Lib.hid (show Blk w7 b 113 [.slice (some ⟨gl, 0, none⟩) n cl, .slice none 0 0, .slice (some ⟨bo, 0, none⟩) n n] from hc7); have HBS := Lib.hid (Nat.le_trans (RD.out _ HT.out).2.2.1.size z7); have HT := Lib.hid (HT.out.trans (hb7.mono HT.out.size)); clear hb7 hc7 z7
          (try go_wp2_with fail)
          refine hK.out _ _ ?_ (fun hHeld2 => ?_)
          · (try dsimp only); (first | with_reducible exact (RD.out _ HT.out).1 | with_reducible assumption)
          clear hK K
          clear hHeld; have hHeld := hHeld2; clear hHeld2
          (try simp only [Act.put, List.setIfInBounds_toArray, List.set_cons_zero, List.set_cons_succ])
          refine lTake (i := 9) (v := ?_) rfl (by kernel_rfl) (by kernel_rfl) (by kernel_rfl) (fun _ _ _ h => h) (by rfl) (fun _ _ h => h) (fun _ _ h => h) ?_ (by assumption) (fun hHeld2 => ?_)
          rotate_left 1
          · (intro _ _ _ _ _; first | (go_simp; done) | (go_simp; with_reducible rfl))
          clear hHeld; have hHeld := hHeld2; clear hHeld2
          (try simp only [Act.put, List.setIfInBounds_toArray, List.set_cons_zero, List.set_cons_succ])
          refine lDone (by kernel_rfl) ?_ _
          go_wp2_with fail
          go_meet
          case rel => exact ⟨b, gl, cl, bo, rfl, Lib.hid ⟨ngJ_start HN.out (RD.out _ HT.out).2.2.1 HCL.out HMK.out HBB.out HBS.out HMS.out, HT.out⟩⟩
        exact AllL.nil
      exact AllL.nil
    refine AllL.cons (i := 6) rfl (fun K hK => ?_) ?_
    · refine step_new (.cells (Array.replicate n (.slice none 0 0)) 26) (fun g => .slice (some ⟨g, 0, none⟩) n n) rfl (by unfold execOp; simp [hmk, go_sem]) ?_; intro bo w6 z6 hc6 hb6; (try have HCL := Lib.hid (OwnI.below HCL.out hb6)); have HMK := Lib.hid (show Blk w6 bo 26 (List.replicate n (.slice none 0 0)) from by unfold Blk; rw [hc6]; simp); have HMS := Lib.hid (Nat.le_trans (RD.out _ HT.out).2.2.1.size z6); have HT := Lib.hid (HT.out.trans (hb6.mono HT.out.size)); clear hb6 hc6 z6
      (try go_wp2_with fail)
      refine hK.out _ _ ?_ (fun hHeld2 => ?_)
      · (try dsimp only); (first | with_reducible exact (RD.out _ HT.out).1 | with_reducible assumption)
      clear hK K
      clear hHeld; have hHeld := hHeld2; clear hHeld2
      (try simp only [Act.put, List.setIfInBounds_toArray, List.set_cons_zero, List.set_cons_succ])
      refine lReady (rs := [2]) (by kernel_rfl) (by simp) ?_
      refine AllL.cons (i := 2) rfl (fun K hK => ?_) ?_
      · go_simp; (refine (clone_c A0 N.sup n cA _ HN.out n1 (by omega) (RD.out _ HT.out).2.2.2.1).mono ?_; rintro e w5 ⟨gl, cl, rfl, hb5, z5, y5, ho5⟩; (try have HMK := Lib.hid (Blk.below HMK.out hb5 (Blk.lt HMK.out))); have HCL := Lib.hid (OwnI.mono ho5 (RD.out _ HT.out).2.2.1.size); have HT := Lib.hid (HT.out.trans (hb5.mono HT.out.size)); clear hb5 ho5 y5)
        (try go_wp2_with fail)
        refine hK.out _ _ ?_ (fun hHeld2 => ?_)
        · (try dsimp only); (first | with_reducible exact (RD.out _ HT.out).1 | with_reducible assumption)
        clear hK K
        clear hHeld; have hHeld := hHeld2; clear hHeld2
        (try simp only [Act.put, List.setIfInBounds_toArray, List.set_cons_zero, List.set_cons_succ])
        refine lTake (i := 7) (v := ?_) rfl (by kernel_rfl) (by kernel_rfl) (by kernel_rfl) (fun _ _ _ h => h) (by rfl) (fun _ _ h => h) (fun _ _ h => h) ?_ (by assumption) (fun hHeld2 => ?_)
        rotate_left 1
        · (intro _ _ _ _ _; first | (go_simp; done) | (go_simp; with_reducible rfl))
        clear hHeld; have hHeld := hHeld2; clear hHeld2
        (try simp only [Act.put, List.setIfInBounds_toArray, List.set_cons_zero, List.set_cons_succ])
        refine lReady (rs := [8]) (by kernel_rfl) (by simp) ?_
        refine AllL.cons (i := 8) rfl (fun K hK => ?_) ?_
        · refine step_new (.cells #[.slice (some ⟨gl, 0, none⟩) n cl, .slice none 0 0, .slice (some ⟨bo, 0, none⟩) n n] 113) (fun g => .pointer (some ⟨g, 0, none⟩)) rfl (by kernel_rfl) ?_; intro b w7 z7 hc7 hb7; have HCL := Lib.hid (OwnI.below HCL.out hb7); have HMK := Lib.hid (Blk.below HMK.out hb7 (Blk.lt HMK.out)); have HBB := Lib.hid (show Blk w7 b 113 [.slice (some ⟨gl, 0, none⟩) n cl, .slice none 0 0, .slice (some ⟨bo, 0, none⟩) n n] from hc7); have HBS := Lib.hid (Nat.le_trans (RD.out _ HT.out).2.2.1.size z7); have HT := Lib.hid (HT.out.trans (hb7.mono HT.out.size)); clear hb7 hc7 z7
          (try go_wp2_with fail)
          refine hK.out _ _ ?_ (fun hHeld2 => ?_)
          · (try dsimp only); (first | with_reducible exact (RD.out _ HT.out).1 | with_reducible assumption)
          clear hK K
          clear hHeld; have hHeld := hHeld2; clear hHeld2
          (try simp only [Act.put, List.setIfInBounds_toArray, List.set_cons_zero, List.set_cons_succ])
          refine lTake (i := 9) (v := ?_) rfl (by kernel_rfl) (by kernel_rfl) (by kernel_rfl) (fun _ _ _ h => h) (by rfl) (fun _ _ h => h) (fun _ _ h => h) ?_ (by assumption) (fun hHeld2 => ?_)
          rotate_left 1
          · (intro _ _ _ _ _; first | (go_simp; done) | (go_simp; with_reducible rfl))
          clear hHeld; have hHeld := hHeld2; clear hHeld2
          (try simp only [Act.put, List.setIfInBounds_toArray, List.set_cons_zero, List.set_cons_succ])
          refine lDone (by kernel_rfl) ?_ _
          go_wp2_with fail
          go_meet
          case rel => exact ⟨b, gl, cl, bo, rfl, Lib.hid ⟨ngJ_start HN.out (RD.out _ HT.out).2.2.1 HCL.out HMK.out HBB.out HBS.out HMS.out, HT.out⟩⟩
        exact AllL.nil
      exact AllL.nil
    exact AllL.nil
  case rest =>
    clear HT
    obtain ⟨b, gl, cl, bo, rfl, HJ⟩ := hcut
    have J0 := Lib.hid HJ.out.1
    have T0 := Lib.hid HJ.out.2
    clear HJ
    have x1 := (RD.out _ T0.out).2.1.cell 1 rfl
    clear RD HB0 HX0
    obtain ⟨i3, h3i, h3z, h3s, h3b⟩ := info_parts info3
    obtain ⟨i4, h4i, h4z, h4s, h4b⟩ := info_parts info144
    go_wp2_with fail
    go_loopg [18] m (fun q iv wr => ∃ k : Nat, iv = .int .i64 k ∧ k + q = m ∧ Hid (∃ E ce A c, NgJ w b gl cl bo E ce A c (grK N k) wr))
    case atStart => exact ⟨0, rfl, by omega, Lib.hid ⟨_, _, _, _, J0.out⟩⟩
    case round =>
      clear J0 T0 x1
      obtain ⟨k, rfl, hkq, HJ⟩ := hrel
      obtain ⟨E, ce, A, c, j⟩ := HJ.out
      have JR := Lib.hid j
      clear HJ j
      by_cases hlt : k < m
      · have hki : (k : Int) < (m : Int) := by omega
        obtain ⟨ad, rfl, hbl, d0, d1, d2, d3⟩ := (HNA.out.2.below JR.out.bel (Nat.le_refl _)) k (by rw [← HM.out]; exact hlt)
        have HNX := Lib.hid (net_ends HCH.out k (by rw [← HM.out]; exact hlt))
        obtain ⟨a1, a2, a3, a4, a5⟩ := net_arc HCH.out k (by rw [← HM.out]; exact hlt)
        rw [← HN.out] at a1 a2
        have HESK : Hid (esK N (k + 1) = esK N k ++ [⟨(N.arcs.getD k default).to, (N.arcs.getD k default).cap, (N.arcs.getD k default).cost⟩, ⟨(N.arcs.getD k default).fr, 0, -(N.arcs.getD k default).cost⟩]) := Lib.hid rfl
        have HOK : Hid (outsK N (k + 1) = addAt (addAt (outsK N k) (frN N k) (2 * k : Nat)) (toN N k) (2 * k + 1 : Nat)) := Lib.hid rfl
        have HFA : Hid (frN N k = (N.arcs.getD k default).fr.toNat ∧ toN N k = (N.arcs.getD k default).to.toNat) := Lib.hid ⟨rfl, rfl⟩
        generalize N.arcs.getD k default = ar at *
        obtain ⟨fr, t0, ca, co⟩ := ar
        simp only at d0 d1 d2 d3 a1 a2 a3 a4 a5 HESK HFA
        obtain ⟨a, rfl⟩ : ∃ a : Nat, fr = a := ⟨fr.toNat, by omega⟩
        obtain ⟨d, rfl⟩ : ∃ d : Nat, t0 = d := ⟨t0.toNat, by omega⟩
        simp only [Int.toNat_natCast] at HFA
        rw [HFA.out.1, HFA.out.2] at HOK
        have han : a < n := by omega
        have hdn : d < n := by omega
        have hai : (a : Int) < (n : Int) := by omega
        have hdi : (d : Int) < (n : Int) := by omega
        have OL2 : Hid ((outsK N k).length = n) := Lib.hid (by rw [outsK_len, HN.out])
        have OL5b : Hid (∀ x, (addAt (outsK N k) a x).length = n) := Lib.hid (fun x => by rw [addAt_len, outsK_len, HN.out])
        obtain ⟨ne, hne⟩ : ∃ ne, ne = 2 * k := ⟨_, rfl⟩
        have HNE : Hid ((esK N k).length = ne) := Lib.hid (by rw [esK_len, hne])
        have hne2 : ne ≤ 4096 := by omega
        rw [← hne] at HOK
        have HOK : Hid (outsK N (k + 1) = addAt (addAt (outsK N k) a ((ne : Nat) : Int)) d ((ne : Int) + 1)) := Lib.hid HOK.out
        have HNK := Lib.hid hne
        go_upto_region 5 with fail
        have al := (Below.refl wr.heap.size wr).alloc (Nat.le_refl _) (.cells #[.int .i64 a, .int .i64 d, .int .i64 ca, .int .i64 co] 46)
        have J2 : Hid (NgJ w b gl cl bo E ce A c { left := N.sup, es := esK N k, outs := outsK N k } _) := Lib.hid (JR.out.below al)
        have X2 := Lib.hid (Blk.new' wr #[.int .i64 a, .int .i64 d, .int .i64 ca, .int .i64 co] 46)
        clear al
        generalize wr.alloc (.cells #[.int .i64 a, .int .i64 d, .int .i64 ca, .int .i64 co] 46) = w2 at J2 X2 ⊢
        generalize wr.heap.size = ga at *
        clear d0 d1 d2 d3 JR hne
        go_upto_region 5 with fail
        -- region 5: the list of node a grows by ((ne : Nat) : Int)
        have SHORT5 : Hid (((outsK N k).getD a []).length ≤ 8192) := Lib.hid (by have := outsK_short HCH.out k (by rw [← HM.out]; omega) a; omega)
        have SC5 : Hid (∀ W, NgJ w b gl cl bo E ce A c { left := N.sup, es := esK N k, outs := outsK N k } W ∧ Blk W ga 46 [.int .i64 a, .int .i64 d, .int .i64 ca, .int .i64 co] → W.cell? ⟨b, 1, none⟩ = some (.slice E ne ce) ∧ W.cell? ⟨b, 2, none⟩ = some (.slice (some ⟨bo, 0, none⟩) n n) ∧ W.cell? ⟨ga, 0, none⟩ = some (.int .i64 a) ∧ W.cell? ⟨ga, 1, none⟩ = some (.int .i64 d) ∧ W.cell? ⟨bo, a, none⟩ = some (.slice (A a) ((outsK N k).getD a []).length (c a))) := Lib.hid (fun W h => by
          have q1 := h.1.blk.cell 1 rfl
          have q2 := h.1.blk.cell 2 rfl
          simp only [HNE.out] at q1
          simp only [OL2.out] at q2
          exact ⟨q1, q2, h.2.cell 0 rfl, h.2.cell 1 rfl, h.1.rows.cell a (slC_get (by show a < (outsK N k).length; rw [OL2.out]; exact han))⟩)
        have ST5 : Hid (∀ V W g cap, NgJ w b gl cl bo E ce A c { left := N.sup, es := esK N k, outs := outsK N k } V → NgJ w b gl cl bo E ce A c { left := N.sup, es := esK N k, outs := outsK N k } W → OwnR intC 3 1 w.heap.size W (some ⟨g, 0, none⟩) cap ((outsK N k).getD a [] ++ [((ne : Nat) : Int)]) → (OwnB (A a) g ∨ g = V.heap.size) → NgJ w b gl cl bo E ce (upd A a (some ⟨g, 0, none⟩)) (upd c a cap) { left := N.sup, es := esK N k, outs := addAt (outsK N k) a ((ne : Nat) : Int) } (W.setCell ⟨bo, a, none⟩ (.slice (some ⟨g, 0, none⟩) (((outsK N k).getD a []).length + 1) cap))) := Lib.hid (fun V W g cap hV hW ho hg => hW.store a (by show a < (outsK N k).length; rw [OL2.out]; exact han) ho (hg.imp id (fun e j hj q hq => by rw [e]; exact (ownLt (hV.own j hj) hq).1)))
        have GW5 : Hid (∀ V W n' cap, n' = ((outsK N k).getD a []).length → cap = c a → NgJ w b gl cl bo E ce A c { left := N.sup, es := esK N k, outs := outsK N k } V → Blk V ga 46 [.int .i64 a, .int .i64 d, .int .i64 ca, .int .i64 co] → V.grownBy W (Value.slice (A a) n' cap).ownBlock → OwnR intC 3 1 w.heap.size W (A a) (c a) ((outsK N k).getD a []) → NgJ w b gl cl bo E ce A c { left := N.sup, es := esK N k, outs := outsK N k } W ∧ Blk W ga 46 [.int .i64 a, .int .i64 d, .int .i64 ca, .int .i64 co]) := Lib.hid (fun V W n' cap e1 e2 hV hX hg ho => ⟨hV.grown a (by show a < (outsK N k).length; rw [OL2.out]; exact han) e1 e2 hg ho, hX.grown hg (fun e => own_ne (hV.own a (by show a < (outsK N k).length; rw [OL2.out]; exact han)) (ownB_iff.2 e.symm) hX (by decide))⟩)
        have RW5 : Hid (∀ V, NgJ w b gl cl bo E ce A c { left := N.sup, es := esK N k, outs := outsK N k } V → OwnR intC 3 1 w.heap.size V (A a) (c a) ((outsK N k).getD a [])) := Lib.hid (fun V h => h.own a (by show a < (outsK N k).length; rw [OL2.out]; exact han))
        generalize hrow5 : (outsK N k).getD a [] = row5 at *
        have HROW5 := Lib.hid hrow5
        clear hrow5
        generalize hAv5 : A a = Av5 at *
        generalize hcv5 : c a = cv5 at *
        have HAV5 := Lib.hid hAv5
        have HCV5 := Lib.hid hcv5
        clear hAv5 hcv5
        generalize hln5 : row5.length = ln5 at *
        have HLN5 := Lib.hid hln5
        clear hln5
        have shl5 := SHORT5.out
        refine wp_region_spine 19 [true, true] [] ?af5 (fun V => NgJ w b gl cl bo E ce A c { left := N.sup, es := esK N k, outs := outsK N k } V ∧ Blk V ga 46 [.int .i64 a, .int .i64 d, .int .i64 ca, .int .i64 co]) (by kernel_rfl) (by kernel_rfl) ⟨J2.out.drew, X2.out.drew⟩ ?walk5 ?spine5
        case walk5 =>
          intro V hV
          obtain ⟨q1, q2, q3, q4, q5⟩ := SC5.out V hV
          clear hV
          simp only [List.take_succ_cons, List.take_zero]
          repeat (go_big_quiet_step (fail))
          refine wpQuiet_nil ?_
          rfl
        case spine5 =>
          rintro V ⟨h1, h2⟩
          have JV := Lib.hid h1
          have XV := Lib.hid h2
          clear h1 h2
          refine spineV_cons ?_
          unfold StepV
          go_simp
          have al := (Below.refl V.heap.size V).alloc (Nat.le_refl _) (.cells #[.int .i64 ((ne : Nat) : Int)] 3)
          have JV5 := Lib.hid (JV.out.below al)
          have XV5 := Lib.hid (XV.out.below al XV.out.lt)
          have YV5 := Lib.hid (Blk.new' V #[.int .i64 ((ne : Nat) : Int)] 3)
          clear al
          generalize V.alloc (.cells #[.int .i64 ((ne : Nat) : Int)] 3) = V2 at JV5 XV5 YV5 ⊢
          refine ⟨⟨JV5.out, XV5.out⟩, ?_⟩
          generalize V.heap.size = gv at *
          refine spineV_cons ?_
          have row0 := RW5.out _ JV5.out
          unfold OwnR at row0
          rw [HLN5.out] at row0
          refine stepV_keep (.tmp 35) (.tmp 41) 26 rfl w.heap.size 3 i3 (.int .i64 0) 1 8 Try.underlying26 h3i h3z h3s h3b rfl (by decide) Av5 ln5 cv5 (flat intC row5) (by rfl) row0 ⟨gv, 0, none⟩ 1 1 [.int .i64 ((ne : Nat) : Int)] (by rfl) (by rfl) ?_ (by simp [Value.oneCell']) (by omega) (by unfold maxLen; omega) (by omega) JV5.out.bel.size ?_
          · intro j u hj
            rcases j with _ | j
            · simp at hj; subst hj; exact YV5.out.cell 0 rfl
            · simp at hj
          intro g5 cap5 W3 ho hg hk hold
          have CK := GW5.out V2 W3 ln5 cv5 rfl rfl JV5.out XV5.out hg (by unfold OwnR; rw [HLN5.out]; exact hold)
          refine ⟨fun _ => CK, ?_⟩
          have J5b := Lib.hid (ST5.out V2 W3 g5 cap5 JV5.out CK.1 (by
            unfold OwnR
            rw [List.length_append, HLN5.out, flat_append]
            exact ho) hk)
          have X5b := Lib.hid (CK.2.setCell_ne (p := ⟨bo, a, none⟩) (fun e => by
            simp only at e
            subst e
            exact (blk_type_ne CK.2 CK.1.rows (by decide)) rfl) (.slice (some ⟨g5, 0, none⟩) (ln5 + 1) cap5))
          have z5 := CK.1.rows.free a
          obtain ⟨_, _, _, _, q5⟩ := SC5.out W3 CK
          clear ho hg hk hold CK row0
          refine spineV_nil ?_
          go_upto_region 6 with fail
          generalize W3.setCell ⟨bo, a, none⟩ (.slice (some ⟨g5, 0, none⟩) (ln5 + 1) cap5) = W5 at J5b X5b ⊢
          clear z5 q5 JV XV JV5 XV5 YV5 GW5 ST5 SC5 RW5
          go_upto_region 6 with fail
          -- region 6: the list of node d grows by ((ne : Int) + 1)
          have SHORT6 : Hid (((addAt (outsK N k) a ((ne : Nat) : Int)).getD d []).length ≤ 8192) := Lib.hid (by have h1 := outsK_short HCH.out k (by rw [← HM.out]; omega) d; have h2 := outsK_short HCH.out k (by rw [← HM.out]; omega) a; rw [addAt_get (by rw [outsK_len, ← HN.out]; exact han)]; split <;> (try simp only [List.length_append, List.length_cons, List.length_nil]) <;> omega)
          have SC6 : Hid (∀ W, NgJ w b gl cl bo E ce (upd A a (some ⟨g5, 0, none⟩)) (upd c a cap5) { left := N.sup, es := esK N k, outs := addAt (outsK N k) a ((ne : Nat) : Int) } W ∧ Blk W ga 46 [.int .i64 a, .int .i64 d, .int .i64 ca, .int .i64 co] → W.cell? ⟨b, 1, none⟩ = some (.slice E ne ce) ∧ W.cell? ⟨b, 2, none⟩ = some (.slice (some ⟨bo, 0, none⟩) n n) ∧ W.cell? ⟨ga, 0, none⟩ = some (.int .i64 a) ∧ W.cell? ⟨ga, 1, none⟩ = some (.int .i64 d) ∧ W.cell? ⟨bo, d, none⟩ = some (.slice ((upd A a (some ⟨g5, 0, none⟩)) d) ((addAt (outsK N k) a ((ne : Nat) : Int)).getD d []).length ((upd c a cap5) d))) := Lib.hid (fun W h => by
            have q1 := h.1.blk.cell 1 rfl
            have q2 := h.1.blk.cell 2 rfl
            simp only [HNE.out] at q1
            simp only [OL5b.out] at q2
            exact ⟨q1, q2, h.2.cell 0 rfl, h.2.cell 1 rfl, h.1.rows.cell d (slC_get (by show d < (addAt (outsK N k) a ((ne : Nat) : Int)).length; rw [OL5b.out]; exact hdn))⟩)
          have ST6 : Hid (∀ V W g cap, NgJ w b gl cl bo E ce (upd A a (some ⟨g5, 0, none⟩)) (upd c a cap5) { left := N.sup, es := esK N k, outs := addAt (outsK N k) a ((ne : Nat) : Int) } V → NgJ w b gl cl bo E ce (upd A a (some ⟨g5, 0, none⟩)) (upd c a cap5) { left := N.sup, es := esK N k, outs := addAt (outsK N k) a ((ne : Nat) : Int) } W → OwnR intC 3 1 w.heap.size W (some ⟨g, 0, none⟩) cap ((addAt (outsK N k) a ((ne : Nat) : Int)).getD d [] ++ [((ne : Int) + 1)]) → (OwnB ((upd A a (some ⟨g5, 0, none⟩)) d) g ∨ g = V.heap.size) → NgJ w b gl cl bo E ce (upd (upd A a (some ⟨g5, 0, none⟩)) d (some ⟨g, 0, none⟩)) (upd (upd c a cap5) d cap) { left := N.sup, es := esK N k, outs := addAt (addAt (outsK N k) a ((ne : Nat) : Int)) d ((ne : Int) + 1) } (W.setCell ⟨bo, d, none⟩ (.slice (some ⟨g, 0, none⟩) (((addAt (outsK N k) a ((ne : Nat) : Int)).getD d []).length + 1) cap))) := Lib.hid (fun V W g cap hV hW ho hg => hW.store d (by show d < (addAt (outsK N k) a ((ne : Nat) : Int)).length; rw [OL5b.out]; exact hdn) ho (hg.imp id (fun e j hj q hq => by rw [e]; exact (ownLt (hV.own j hj) hq).1)))
          have GW6 : Hid (∀ V W n' cap, n' = ((addAt (outsK N k) a ((ne : Nat) : Int)).getD d []).length → cap = (upd c a cap5) d → NgJ w b gl cl bo E ce (upd A a (some ⟨g5, 0, none⟩)) (upd c a cap5) { left := N.sup, es := esK N k, outs := addAt (outsK N k) a ((ne : Nat) : Int) } V → Blk V ga 46 [.int .i64 a, .int .i64 d, .int .i64 ca, .int .i64 co] → V.grownBy W (Value.slice ((upd A a (some ⟨g5, 0, none⟩)) d) n' cap).ownBlock → OwnR intC 3 1 w.heap.size W ((upd A a (some ⟨g5, 0, none⟩)) d) ((upd c a cap5) d) ((addAt (outsK N k) a ((ne : Nat) : Int)).getD d []) → NgJ w b gl cl bo E ce (upd A a (some ⟨g5, 0, none⟩)) (upd c a cap5) { left := N.sup, es := esK N k, outs := addAt (outsK N k) a ((ne : Nat) : Int) } W ∧ Blk W ga 46 [.int .i64 a, .int .i64 d, .int .i64 ca, .int .i64 co]) := Lib.hid (fun V W n' cap e1 e2 hV hX hg ho => ⟨hV.grown d (by show d < (addAt (outsK N k) a ((ne : Nat) : Int)).length; rw [OL5b.out]; exact hdn) e1 e2 hg ho, hX.grown hg (fun e => own_ne (hV.own d (by show d < (addAt (outsK N k) a ((ne : Nat) : Int)).length; rw [OL5b.out]; exact hdn)) (ownB_iff.2 e.symm) hX (by decide))⟩)
          have RW6 : Hid (∀ V, NgJ w b gl cl bo E ce (upd A a (some ⟨g5, 0, none⟩)) (upd c a cap5) { left := N.sup, es := esK N k, outs := addAt (outsK N k) a ((ne : Nat) : Int) } V → OwnR intC 3 1 w.heap.size V ((upd A a (some ⟨g5, 0, none⟩)) d) ((upd c a cap5) d) ((addAt (outsK N k) a ((ne : Nat) : Int)).getD d [])) := Lib.hid (fun V h => h.own d (by show d < (addAt (outsK N k) a ((ne : Nat) : Int)).length; rw [OL5b.out]; exact hdn))
          generalize hrow6 : (addAt (outsK N k) a ((ne : Nat) : Int)).getD d [] = row6 at *
          have HROW6 := Lib.hid hrow6
          clear hrow6
          generalize hAv6 : (upd A a (some ⟨g5, 0, none⟩)) d = Av6 at *
          generalize hcv6 : (upd c a cap5) d = cv6 at *
          have HAV6 := Lib.hid hAv6
          have HCV6 := Lib.hid hcv6
          clear hAv6 hcv6
          generalize hln6 : row6.length = ln6 at *
          have HLN6 := Lib.hid hln6
          clear hln6
          have shl6 := SHORT6.out
          refine wp_region_spine 20 [true, true] [] ?af6 (fun V => NgJ w b gl cl bo E ce (upd A a (some ⟨g5, 0, none⟩)) (upd c a cap5) { left := N.sup, es := esK N k, outs := addAt (outsK N k) a ((ne : Nat) : Int) } V ∧ Blk V ga 46 [.int .i64 a, .int .i64 d, .int .i64 ca, .int .i64 co]) (by kernel_rfl) (by kernel_rfl) ⟨J5b.out.drew, X5b.out.drew⟩ ?walk6 ?spine6
          case walk6 =>
            intro V hV
            obtain ⟨q1, q2, q3, q4, q5⟩ := SC6.out V hV
            clear hV
            simp only [List.take_succ_cons, List.take_zero]
            repeat (go_big_quiet_step (fail))
            refine wpQuiet_nil ?_
            rfl
          case spine6 =>
            rintro V ⟨h1, h2⟩
            have JV := Lib.hid h1
            have XV := Lib.hid h2
            clear h1 h2
            refine spineV_cons ?_
            unfold StepV
            go_simp
            have al := (Below.refl V.heap.size V).alloc (Nat.le_refl _) (.cells #[.int .i64 ((ne : Int) + 1)] 3)
            have JV6 := Lib.hid (JV.out.below al)
            have XV6 := Lib.hid (XV.out.below al XV.out.lt)
            have YV6 := Lib.hid (Blk.new' V #[.int .i64 ((ne : Int) + 1)] 3)
            clear al
            generalize V.alloc (.cells #[.int .i64 ((ne : Int) + 1)] 3) = V2 at JV6 XV6 YV6 ⊢
            refine ⟨⟨JV6.out, XV6.out⟩, ?_⟩
            generalize V.heap.size = gv at *
            refine spineV_cons ?_
            have row0 := RW6.out _ JV6.out
            unfold OwnR at row0
            rw [HLN6.out] at row0
            refine stepV_keep (.tmp 57) (.tmp 64) 26 rfl w.heap.size 3 i3 (.int .i64 0) 1 8 Try.underlying26 h3i h3z h3s h3b rfl (by decide) Av6 ln6 cv6 (flat intC row6) (by rfl) row0 ⟨gv, 0, none⟩ 1 1 [.int .i64 ((ne : Int) + 1)] (by rfl) (by rfl) ?_ (by simp [Value.oneCell']) (by omega) (by unfold maxLen; omega) (by omega) JV6.out.bel.size ?_
            · intro j u hj
              rcases j with _ | j
              · simp at hj; subst hj; exact YV6.out.cell 0 rfl
              · simp at hj
            intro g6 cap6 W3 ho hg hk hold
            have CK := GW6.out V2 W3 ln6 cv6 rfl rfl JV6.out XV6.out hg (by unfold OwnR; rw [HLN6.out]; exact hold)
            refine ⟨fun _ => CK, ?_⟩
            have J6b := Lib.hid (ST6.out V2 W3 g6 cap6 JV6.out CK.1 (by
              unfold OwnR
              rw [List.length_append, HLN6.out, flat_append]
              exact ho) hk)
            have X6b := Lib.hid (CK.2.setCell_ne (p := ⟨bo, d, none⟩) (fun e => by
              simp only at e
              subst e
              exact (blk_type_ne CK.2 CK.1.rows (by decide)) rfl) (.slice (some ⟨g6, 0, none⟩) (ln6 + 1) cap6))
            have z5 := CK.1.rows.free d
            obtain ⟨_, _, _, _, q5⟩ := SC6.out W3 CK
            clear ho hg hk hold CK row0
            refine spineV_nil ?_
            go_upto_region 7 with fail
            generalize W3.setCell ⟨bo, d, none⟩ (.slice (some ⟨g6, 0, none⟩) (ln6 + 1) cap6) = W6 at J6b X6b ⊢
            clear z5 q5 JV XV JV6 XV6 YV6 GW6 ST6 SC6 RW6
            go_upto_region 7 with fail
            rw [← HOK.out] at J6b
            generalize (upd (upd A a (some ⟨g5, 0, none⟩)) d (some ⟨g6, 0, none⟩)) = Af at J6b
            generalize (upd (upd c a cap5) d cap6) = cf at J6b
            have SC7 : Hid (∀ W, NgJ w b gl cl bo E ce Af cf { left := N.sup, es := esK N k, outs := outsK N (k + 1) } W ∧ Blk W ga 46 [.int .i64 a, .int .i64 d, .int .i64 ca, .int .i64 co] → W.cell? ⟨b, 1, none⟩ = some (.slice E ne ce) ∧ W.cell? ⟨ga, 0, none⟩ = some (.int .i64 a) ∧ W.cell? ⟨ga, 1, none⟩ = some (.int .i64 d) ∧ W.cell? ⟨ga, 2, none⟩ = some (.int .i64 ca) ∧ W.cell? ⟨ga, 3, none⟩ = some (.int .i64 co)) := Lib.hid (fun W h => by
              have q1 := h.1.blk.cell 1 rfl
              simp only [HNE.out] at q1
              exact ⟨q1, h.2.cell 0 rfl, h.2.cell 1 rfl, h.2.cell 2 rfl, h.2.cell 3 rfl⟩)
            have ES7 : Hid (∀ V, NgJ w b gl cl bo E ce Af cf { left := N.sup, es := esK N k, outs := outsK N (k + 1) } V → OwnR edC 144 3 w.heap.size V E ce (esK N k)) := Lib.hid (fun V h => h.es)
            have ED7 : Hid (∀ V W g cap, NgJ w b gl cl bo E ce Af cf { left := N.sup, es := esK N k, outs := outsK N (k + 1) } V → OwnR edC 144 3 w.heap.size W (some ⟨g, 0, none⟩) cap (esK N k ++ [⟨(d : Int), ca, co⟩, ⟨(a : Int), 0, -co⟩]) → V.grownBy W (Value.slice E ne ce).ownBlock → NgJ w b gl cl bo (some ⟨g, 0, none⟩) cap Af cf (grK N (k + 1)) (W.setCell ⟨b, 1, none⟩ (.slice (some ⟨g, 0, none⟩) (ne + 2) cap))) := Lib.hid (fun V W g cap h ho hg => by
              have := h.edges HNE.out.symm ho hg
              simp only [HNE.out] at this
              rw [← HESK.out] at this
              exact this)
            generalize hes : esK N k = es at *
            have HEE := Lib.hid hes
            clear hes
            refine wp_region_spine 18 [true, false] [0] ?af7 (fun V => NgJ w b gl cl bo E ce Af cf { left := N.sup, es := es, outs := outsK N (k + 1) } V ∧ Blk V ga 46 [.int .i64 a, .int .i64 d, .int .i64 ca, .int .i64 co]) (by kernel_rfl) (by kernel_rfl) ⟨J6b.out.drew, X6b.out.drew⟩ ?walk7 ?spine7
            case walk7 =>
              intro V hV
              obtain ⟨q1, q2, q3, q4, q5⟩ := SC7.out V hV
              clear hV
              simp only [List.take_succ_cons, List.take_zero]
              repeat (go_big_quiet_step (fail))
              refine wpQuiet_nil ?_
              rfl
            case spine7 =>
              rintro V ⟨h1, h2⟩
              have JV := Lib.hid h1
              have XV := Lib.hid h2
              clear h1 h2
              refine spineV_cons ?_
              unfold StepV
              go_simp
              have al := (Below.refl V.heap.size V).alloc (Nat.le_refl _) (.cells #[.int .i64 d, .int .i64 ca, .int .i64 co, .int .i64 a, .int .i64 0, .int .i64 (-co)] 144)
              have J8 := Lib.hid (JV.out.below al)
              have X8 := Lib.hid (XV.out.below al XV.out.lt)
              have Y8 := Lib.hid (Blk.new' V #[.int .i64 d, .int .i64 ca, .int .i64 co, .int .i64 a, .int .i64 0, .int .i64 (-co)] 144)
              clear al
              generalize V.alloc (.cells #[.int .i64 d, .int .i64 ca, .int .i64 co, .int .i64 a, .int .i64 0, .int .i64 (-co)] 144) = V2 at J8 X8 Y8 ⊢
              refine ⟨⟨J8.out, X8.out⟩, ?_⟩
              generalize V.heap.size = gv at *
              refine spineV_cons ?_
              have row0 := ES7.out _ J8.out
              unfold OwnR at row0
              rw [HNE.out] at row0
              refine stepV_keep (.tmp 71) (.tmp 85) 110 rfl w.heap.size 144 i4 (.agg #[.int .i64 0, .int .i64 0, .int .i64 0]) 3 24 Try.underlying110 h4i h4z h4s h4b rfl (by decide) E ne ce (flat edC es) (by rfl) row0 ⟨gv, 0, none⟩ 2 2 [.int .i64 d, .int .i64 ca, .int .i64 co, .int .i64 a, .int .i64 0, .int .i64 (-co)] (by rfl) (by rfl) ?_ (by simp [Value.oneCell']) (by omega) (by unfold maxLen; omega) (by omega) J8.out.bel.size ?_
              · intro j u hj
                rw [add_row]
                have hl : j < 6 := by
                  rcases Nat.lt_or_ge j 6 with h | h
                  · exact h
                  · rw [List.getElem?_eq_none (by simpa using h)] at hj; cases hj
                exact Y8.out.cell j hj
              intro g7 cap7 W3 ho hg hk hold
              refine ⟨fun h => (by cases h), ?_⟩
              have J9 := Lib.hid (ED7.out V2 W3 g7 cap7 J8.out (by
                unfold OwnR
                rw [List.length_append, HNE.out, flat_append]
                exact ho) hg)
              have blk1 := J8.out.blk.grown hg (fun e => own_ne J8.out.es (ownB_iff.2 e.symm) J8.out.blk (by decide))
              have z1 := blk1.free 1
              have q1 := blk1.cell 1 rfl
              clear ho hg hk hold row0 blk1
              refine spineV_nil ?_
              go_wp2_with fail
              generalize W3.setCell ⟨b, 1, none⟩ (.slice (some ⟨g7, 0, none⟩) (ne + 2) cap7) = W7 at J9 ⊢
              go_roundg (gk - 1)
              case measure => omega
              case rel => exact ⟨k + 1, by go_num, by omega, Lib.hid ⟨_, _, _, _, J9.out⟩⟩
      · obtain rfl : k = m := by omega
        go_wp2_with fail
        have hD := JR.out.done
        rw [show grK N k = gr0 N from by unfold grK gr0; rw [HM.out]] at hD
        exact bodyPost_ret (v := .pointer (some ⟨b, 0, none⟩)) (by simp [results, Try.results62, go_sem]) rfl ⟨b, gl, cl, E, ce, bo, rfl, JR.out.bel, hD⟩
end Go.Proofs.Ytmebpglkeedaoaa
