/- Lines of the reference: Send. -/
import Derived.Test.YtafajclbghofkaaD5
namespace Go.Proofs.Ytafajclbghofkaa
open Go.RowKit
set_option linter.unusedVariables false

theorem own_empty {W : World} {B b : Nat} (h : Blk W b 60 []) (hB : B ≤ b) : W.ownsRow B 60 5 (.slice (some ⟨b, 0, none⟩) 0 0) 0 [] :=
  ⟨rfl, .inr ⟨b, 0, #[], rfl, hB, h, Nat.le_refl _, Nat.zero_le _, rfl, rfl⟩⟩
theorem src_note {W : World} {b : Nat} {n : Nt} (h : Blk W b 60 n.vals) : SrcRow W (some ⟨b, 0, none⟩) 1 n.vals :=
  .inr ⟨_, rfl, fun j u hu => by rw [show ((⟨b, 0, none⟩ : Addr).add j) = ⟨b, j, none⟩ from (by unfold Addr.add; split <;> simp_all)]; exact h.cell j hu⟩
/-- behind the first append of the reference's Send: the line as it was, a row of the notes in new blocks -/
structure SendMid (w : World) (g : Nat) (l : Ln) (n : Nt) (A1 : Option Addr) (cap1 : Nat) (W : World) : Prop where
  own : W.ownsRow w.heap.size 60 5 (.slice A1 l.L.length cap1) l.L.length (flat l.L)
  touch : Touch (fun _ => False) w W
  box : Blk W w.heap.size 60 n.vals
  off : ¬ OwnB A1 w.heap.size
theorem SendMid.alloc {w : World} {g : Nat} {l : Ln} {n : Nt} {A1 : Option Addr} {cap1 : Nat} {W : World} (h : SendMid w g l n A1 cap1 W) (o : Obj) : SendMid w g l n A1 cap1 (W.alloc o) :=
  ⟨own_keep h.own (S := fun _ => False) ((Touch.refl _ _).alloc o) (fun _ _ e => e), h.touch.alloc o, h.box.alloc o, h.off⟩
theorem sendMid_of {w W w1 : World} {g n0 : Nat} {cap1 e : Nat} {A1 : Option Addr} {l : Ln} {n : Nt} (ht : Touch (fun _ => False) w W) (hb : Blk W w.heap.size 60 n.vals) (he : w.heap.size < e)
    (hown : w1.ownsRow w.heap.size 60 5 (.slice A1 (0 + n0) cap1) (0 + n0) ([] ++ flat l.L)) (hg : W.grownBy w1 (Value.slice (some ⟨e, 0, none⟩) 0 0).ownBlock) (hat : ∀ k, OwnB A1 k → OwnB (some ⟨e, 0, none⟩) k ∨ k = W.heap.size) (hn : n0 = l.L.length) : SendMid w g l n A1 cap1 w1 := by
  subst hn
  simp only [Nat.zero_add, List.nil_append] at hown
  exact ⟨hown, ht.grown hg (fun k hk => .inr (by simp [Value.ownBlock] at hk; omega)), hb.grown hg (by simp [Value.ownBlock]; omega), fun k => by
    rcases hat _ k with ⟨a, e1, e2⟩ | e1
    · cases e1; simp at e2; omega
    · have := hb.lt; omega⟩
theorem sendR_end {w W w2 : World} {B g : Nat} {A A1 A2 : Option Addr} {cap cap1 cap2 n0 : Nat} {l : Ln} {n : Nt} (h : LineRAt w B g A cap l) (hB : B ≤ w.heap.size) (hm : SendMid w g l n A1 cap1 W)
    (hown : w2.ownsRow w.heap.size 60 5 (.slice A2 (n0 + 1) cap2) (n0 + 1) (flat l.L ++ n.vals)) (hg : W.grownBy w2 (Value.slice A1 n0 cap1).ownBlock) (hat : ∀ k, OwnB A2 k → OwnB A1 k ∨ k = W.heap.size) (hn : n0 = l.L.length) :
    LineRTo w B g A { l with L := l.L ++ [n] } (w2.setCell ⟨g, 0, none⟩ (.slice A2 (n0 + 1) cap2)) := by
  subst hn
  have hlt := h.blk.lt
  have hA1 : ∀ k, OwnB A1 k → w.heap.size ≤ k := fun k hk => (own_lt hm.own hk).1
  have hA2 : ∀ k, OwnB A2 k → w.heap.size ≤ k := fun k hk => (own_lt hown hk).1
  have ht : Touch (fun _ => False) w w2 := hm.touch.grown hg (fun k hk => .inr (hA1 k (ownB_iff.2 hk)))
  have hT : Touch (fun k => k = g) w2 (w2.setCell ⟨g, 0, none⟩ (.slice A2 (l.L.length + 1) cap2)) := (Touch.refl _ _).put 0 _
  refine ⟨⟨A2, cap2, ⟨?_, ?_, h.base, fun e => by have := hA2 g e; omega⟩, fun k hk => .inr (hA2 k hk)⟩, (ht.mono (fun _ e => e.elim)).then hT (fun k e => .inl e)⟩
  · have := (h.blk.touch ht (fun e => e)).s4_0 (u := .slice A2 (l.L.length + 1) cap2)
    simpa using this
  · have h2 := own_keep hown hT (fun k hk e => by have := hA2 k hk; omega)
    have h3 := own_base h2 hB
    rw [flat_append, flat_one]
    simpa using h3

/-- behind the second append -/
theorem sendR_at {w W w2 : World} {B g n0 : Nat} {A A1 : Option Addr} {cap cap1 : Nat} {l : Ln} {n : Nt} (h : LineRAt w B g A cap l) (hm : SendMid w g l n A1 cap1 W) (hg : W.grownBy w2 (Value.slice A1 n0 cap1).ownBlock) :
    Blk w2 g 78 [.slice A l.L.length cap, .int .i64 l.dn, .int .i64 l.tk, .bool l.ow] ∧ Blk w2 w.heap.size 60 n.vals := by
  have hA1 : ∀ k, OwnB A1 k → w.heap.size ≤ k := fun k hk => (own_lt hm.own hk).1
  have ht : Touch (fun _ => False) w w2 := hm.touch.grown hg (fun k hk => .inr (hA1 k (ownB_iff.2 hk)))
  refine ⟨h.blk.touch ht (fun e => e), hm.box.grown hg (own_ne (fun e => ?_))⟩
  have := hm.box
  exact absurd e (hm.off)
set_option maxRecDepth 100000 in
set_option maxHeartbeats 8000000 in
theorem SendR_c (B g : Nat) (A : Option Addr) (cap : Nat) (l : Ln) (n : Nt) (w : World) (h : LineRAt w B g A cap l) (hB : B ≤ w.heap.size) : Calls Try.prog 59 #[.pointer (some ⟨g, 0, none⟩), .agg #[.int .i64 n.k, .int .i64 n.s, .int .i64 n.a, .int .i64 n.b, .int .i64 n.c]] w
    fun e w' => e = .returned (.int .i64 (Lx.sendE l)) ∧ LineRTo w B g A (Lx.sendL l n) w' := by
  have hlt := h.blk.lt
  have c0 := h.blk.cell 0 rfl
  have f0 := h.blk.free 0
  have H := Lib.hid h
  have HB := Lib.hid hB
  clear h hB
  by_cases hn : 64 ≤ l.L.length
  · have e1 : Lx.sendE l = 11 := by unfold Lx.sendE; rw [if_pos hn]
    have e2 : Lx.sendL l n = l := by unfold Lx.sendL; rw [if_pos hn]
    have hd : decide (64 ≤ (l.L.length : Int)) = true := by simp; omega
    rw [e1, e2]
    clear e1 e2
    go_enter Try.func59, Try.ntmps59
    go_wp2
    go_ret
    have ht : Touch (fun k => k = g) w (w.alloc (.cells #[.int .i64 n.k, .int .i64 n.s, .int .i64 n.a, .int .i64 n.b, .int .i64 n.c] 60)) := (Touch.refl _ _).alloc _
    exact ⟨rfl, ⟨A, cap, H.out.touch (S := fun _ => False) ((Touch.refl _ _).alloc _) (fun h => h) (fun _ _ h => h), fun k hk => .inl hk⟩, ht⟩
  · have e1 : Lx.sendE l = 0 := by unfold Lx.sendE; rw [if_neg hn]
    have e2 : Lx.sendL l n = { l with L := l.L ++ [n] } := by unfold Lx.sendL; rw [if_neg hn]
    have hd : decide (64 ≤ (l.L.length : Int)) = false := by simp; omega
    rw [e1, e2]
    clear e1 e2
    obtain ⟨i0, hi, hz0, hz1, hz2⟩ := info_parts info60
    obtain ⟨len, hlen⟩ : ∃ len, len = l.L.length := ⟨_, rfl⟩
    rw [← hlen] at c0 hd
    have hl64 : len < 64 := by omega
    have HN := Lib.hid hl64
    have HLen := Lib.hid hlen
    clear hn hlen hl64
    -- the world behind the box and the draw; the two blocks in either order
    have hW0 : (w.alloc (.cells #[.int .i64 n.k, .int .i64 n.s, .int .i64 n.a, .int .i64 n.b, .int .i64 n.c] 60)).heap.size = w.heap.size + 1 := by simp
    have F0 := Lib.hid (show Blk _ w.heap.size 60 n.vals from Blk.new' w #[.int .i64 n.k, .int .i64 n.s, .int .i64 n.a, .int .i64 n.b, .int .i64 n.c] 60)
    have F1 := Lib.hid (show Blk _ (w.heap.size + 1) 60 [] from by have := Blk.new' (w.alloc (.cells #[.int .i64 n.k, .int .i64 n.s, .int .i64 n.a, .int .i64 n.b, .int .i64 n.c] 60)) #[] 60; rw [hW0] at this; exact this)
    have F2 := Lib.hid (F1.out.alloc (.cells #[.int .i64 n.k, .int .i64 n.s, .int .i64 n.a, .int .i64 n.b, .int .i64 n.c] 60))
    have F3 := Lib.hid (show Blk _ (w.heap.size + 2) 60 n.vals from by have := Blk.new' ((w.alloc (.cells #[.int .i64 n.k, .int .i64 n.s, .int .i64 n.a, .int .i64 n.b, .int .i64 n.c] 60)).alloc (.cells #[] 60)) #[.int .i64 n.k, .int .i64 n.s, .int .i64 n.a, .int .i64 n.b, .int .i64 n.c] 60; simp at this; exact this)
    have G0 := Lib.hid (show Blk _ (w.heap.size + 1) 60 n.vals from by have := Blk.new' (w.alloc (.cells #[.int .i64 n.k, .int .i64 n.s, .int .i64 n.a, .int .i64 n.b, .int .i64 n.c] 60)) #[.int .i64 n.k, .int .i64 n.s, .int .i64 n.a, .int .i64 n.b, .int .i64 n.c] 60; rw [hW0] at this; exact this)
    have G1 := Lib.hid (G0.out.alloc (.cells #[] 60))
    have G2 := Lib.hid (show Blk _ (w.heap.size + 2) 60 [] from by have := Blk.new' ((w.alloc (.cells #[.int .i64 n.k, .int .i64 n.s, .int .i64 n.a, .int .i64 n.b, .int .i64 n.c] 60)).alloc (.cells #[.int .i64 n.k, .int .i64 n.s, .int .i64 n.a, .int .i64 n.b, .int .i64 n.c] 60)) #[] 60; simp at this; exact this)
    have HSrc := Lib.hid (show ∀ W, Touch (fun _ => False) w W → SrcRow W A len (flat l.L) from fun W ht => by rw [HLen.out]; exact (own_src0 (own_keep H.out.own ht (fun _ _ e => e))).1)
    clear hW0
    go_enter Try.func59, Try.ntmps59
    go_wp2
    refine lBegin (S := fun L W => (W.cell? ⟨w.heap.size, 0, none⟩ = some (.int .i64 n.k) ∧ W.cell? ⟨w.heap.size, 1, none⟩ = some (.int .i64 n.s) ∧ W.cell? ⟨w.heap.size, 2, none⟩ = some (.int .i64 n.a) ∧ W.cell? ⟨w.heap.size, 3, none⟩ = some (.int .i64 n.b) ∧ W.cell? ⟨w.heap.size, 4, none⟩ = some (.int .i64 n.c)) ∧ (L.getD 12 false = true ∨ (W.cell? ⟨g, 0, none⟩ = some (.slice A len cap)))) (by kernel_rfl) ?_ (fun hHeld => ?_)
    · (try dsimp only); refine ⟨?_, Or.inr ?_⟩
      · (first | with_reducible assumption | with_reducible exact noteC F0.out.drew | with_reducible exact noteC (F0.out.alloc _).drew | with_reducible exact noteC ((F0.out.alloc _).alloc _).drew | with_reducible exact noteC HM.out.box | with_reducible exact noteC (HM.out.box.alloc _) | with_reducible exact noteC HX.out | exact noteC (HX.out.setCell_ne (by show w.heap.size ≠ g; omega) _))
      · (first | with_reducible assumption | (rw [HLen.out]; exact Blk.cell (H.out.blk.touch (S := fun _ => False) (by repeat (with_reducible (first | exact Touch.refl _ _ | exact HM.out.touch | refine Touch.alloc ?_ _ | refine Touch.drew ?_))) (fun e => e)) 0 rfl))
    refine lTake (i := 0) (v := ?_) rfl (by kernel_rfl) (by kernel_rfl) (by kernel_rfl) (fun _ _ _ h => h) (by rfl) (fun _ _ h => by simpa only [getD_set_ne false (show 0 ≠ 12 by decide)] using h) (fun _ _ h => by simpa only [getD_set_ne false (show 0 ≠ 12 by decide)] using h) ?_ (by assumption) (fun hHeld2 => ?_)
    rotate_left 1
    · (intro _ _ _ _ _; first | (go_simp; done) | (go_simp; with_reducible rfl))
    clear hHeld; have hHeld := hHeld2; clear hHeld2
    (try simp only [Act.put, List.setIfInBounds_toArray, List.set_cons_zero, List.set_cons_succ])
    refine lTake (i := 2) (v := ?_) rfl (by kernel_rfl) (by kernel_rfl) (by kernel_rfl) (fun _ _ _ h => h) (by rfl) (fun _ _ h => by simpa only [getD_set_ne false (show 2 ≠ 12 by decide)] using h) (fun _ _ h => by simpa only [getD_set_ne false (show 2 ≠ 12 by decide)] using h) ?_ (by assumption) (fun hHeld2 => ?_)
    rotate_left 1
    · (intro _ _ _ _ _; first | (go_simp; done) | (go_simp; with_reducible rfl))
    clear hHeld; have hHeld := hHeld2; clear hHeld2
    (try simp only [Act.put, List.setIfInBounds_toArray, List.set_cons_zero, List.set_cons_succ])
    refine lTake (i := 3) (v := ?_) rfl (by kernel_rfl) (by kernel_rfl) (by kernel_rfl) (fun _ _ _ h => h) (by rfl) (fun _ _ h => by simpa only [getD_set_ne false (show 3 ≠ 12 by decide)] using h) (fun _ _ h => by simpa only [getD_set_ne false (show 3 ≠ 12 by decide)] using h) ?_ (by assumption) (fun hHeld2 => ?_)
    rotate_left 1
    · (intro _ _ _ _ _; first | (go_simp; done) | (go_simp; with_reducible rfl))
    clear hHeld; have hHeld := hHeld2; clear hHeld2
    (try simp only [Act.put, List.setIfInBounds_toArray, List.set_cons_zero, List.set_cons_succ])
    refine lTake (i := 4) (v := ?_) rfl (by kernel_rfl) (by kernel_rfl) (by kernel_rfl) (fun _ _ _ h => h) (by rfl) (fun _ _ h => by simpa only [getD_set_ne false (show 4 ≠ 12 by decide)] using h) (fun _ _ h => by simpa only [getD_set_ne false (show 4 ≠ 12 by decide)] using h) ?_ (by assumption) (fun hHeld2 => ?_)
    rotate_left 1
    · (intro _ _ _ _ _; first | (go_simp; done) | (go_simp; with_reducible rfl))
    clear hHeld; have hHeld := hHeld2; clear hHeld2
    (try simp only [Act.put, List.setIfInBounds_toArray, List.set_cons_zero, List.set_cons_succ])
    refine lTake (i := 5) (v := ?_) rfl (by kernel_rfl) (by kernel_rfl) (by kernel_rfl) (fun _ _ _ h => h) (by rfl) (fun _ _ h => by simpa only [getD_set_ne false (show 5 ≠ 12 by decide)] using h) (fun _ _ h => by simpa only [getD_set_ne false (show 5 ≠ 12 by decide)] using h) ?_ (by assumption) (fun hHeld2 => ?_)
    rotate_left 1
    · (intro L W hL hK hSw; (try dsimp only at hSw); obtain ⟨h0, h1⟩ := hSw; replace h1 := still [] hK hL (by kernel_rfl) h1; clear hL hK; first | (go_simp; done) | (go_simp; with_reducible rfl))
    clear hHeld; have hHeld := hHeld2; clear hHeld2
    (try simp only [Act.put, List.setIfInBounds_toArray, List.set_cons_zero, List.set_cons_succ])
    refine lTake (i := 7) (v := ?_) rfl (by kernel_rfl) (by kernel_rfl) (by kernel_rfl) (fun _ _ _ h => h) (by rfl) (fun _ _ h => by simpa only [getD_set_ne false (show 7 ≠ 12 by decide)] using h) (fun _ _ h => by simpa only [getD_set_ne false (show 7 ≠ 12 by decide)] using h) ?_ (by assumption) (fun hHeld2 => ?_)
    rotate_left 1
    · (intro L W hL hK hSw; (try dsimp only at hSw); obtain ⟨h0, h1⟩ := hSw; replace h1 := still [] hK hL (by kernel_rfl) h1; clear hL hK; first | (go_simp; done) | (go_simp; with_reducible rfl))
    clear hHeld; have hHeld := hHeld2; clear hHeld2
    (try simp only [Act.put, List.setIfInBounds_toArray, List.set_cons_zero, List.set_cons_succ])
    refine lReady (rs := [1, 8]) (by kernel_rfl) (by simp) ?_
    refine AllL.cons (i := 1) rfl (fun K hK => ?_) ?_
    · go_simp
      (try go_wp2_with fail)
      refine hK.out _ _ ?_ (fun hHeld2 => ?_)
      · (try dsimp only); refine ⟨?_, Or.inr ?_⟩
        · (first | with_reducible assumption | with_reducible exact noteC F0.out.drew | with_reducible exact noteC (F0.out.alloc _).drew | with_reducible exact noteC ((F0.out.alloc _).alloc _).drew | with_reducible exact noteC HM.out.box | with_reducible exact noteC (HM.out.box.alloc _) | with_reducible exact noteC HX.out | exact noteC (HX.out.setCell_ne (by show w.heap.size ≠ g; omega) _))
        · (first | with_reducible assumption | (rw [HLen.out]; exact Blk.cell (H.out.blk.touch (S := fun _ => False) (by repeat (with_reducible (first | exact Touch.refl _ _ | exact HM.out.touch | refine Touch.alloc ?_ _ | refine Touch.drew ?_))) (fun e => e)) 0 rfl))
      clear hK K
      clear hHeld; have hHeld := hHeld2; clear hHeld2
      (try simp only [Act.put, List.setIfInBounds_toArray, List.set_cons_zero, List.set_cons_succ])
      refine lReady (rs := [6, 8]) (by kernel_rfl) (by simp) ?_
      refine AllL.cons (i := 6) rfl (fun K hK => ?_) ?_
      · refine step_append_any (.tmp 12) (.tmp 16) 76 rfl rfl w.heap.size 60 i0 (.agg #[.int .i64 0, .int .i64 0, .int .i64 0, .int .i64 0, .int .i64 0]) 5 40 Try.underlying76 hi hz0 hz1 hz2 rfl (by decide) _ 0 0 [] (by rfl) (by with_reducible (first | exact own_empty F1.out.drew (by omega) | exact own_empty F2.out.drew (by omega) | exact own_empty G2.out.drew (by omega))) A len cap (flat l.L) (by rfl) (by rw [flat_length, HLen.out]) (HSrc.out _ (by repeat (with_reducible (first | exact Touch.refl _ _ | refine Touch.alloc ?_ _ | refine Touch.drew ?_)))) (flat_one' l.L) (by have := HN.out; unfold maxLen; omega) (by have := HN.out; omega) (by simp; omega) ?_; intro A1 cap1 w1 hown hgrow hat; have HM := Lib.hid (sendMid_of (g := g) (n := n) (by repeat (with_reducible (first | exact Touch.refl _ _ | refine Touch.alloc ?_ _ | refine Touch.drew ?_))) (by with_reducible (first | exact (F0.out.alloc _).drew | exact ((F0.out.alloc _).alloc _).drew)) (by omega) hown hgrow hat HLen.out); (first | (have HN1 := Lib.hid (F3.out.drew.grown hgrow (by simp [Value.ownBlock]))) | (have HN1 := Lib.hid (G1.out.drew.grown hgrow (by simp [Value.ownBlock]))) | skip); clear hown hgrow hat; try simp only [Nat.zero_add]
        (try go_wp2_with fail)
        refine hK.out _ _ ?_ (fun hHeld2 => ?_)
        · (try dsimp only); refine ⟨?_, Or.inr ?_⟩
          · (first | with_reducible assumption | with_reducible exact noteC F0.out.drew | with_reducible exact noteC (F0.out.alloc _).drew | with_reducible exact noteC ((F0.out.alloc _).alloc _).drew | with_reducible exact noteC HM.out.box | with_reducible exact noteC (HM.out.box.alloc _) | with_reducible exact noteC HX.out | exact noteC (HX.out.setCell_ne (by show w.heap.size ≠ g; omega) _))
          · (first | with_reducible assumption | (rw [HLen.out]; exact Blk.cell (H.out.blk.touch (S := fun _ => False) (by repeat (with_reducible (first | exact Touch.refl _ _ | exact HM.out.touch | refine Touch.alloc ?_ _ | refine Touch.drew ?_))) (fun e => e)) 0 rfl))
        clear hK K
        clear hHeld; have hHeld := hHeld2; clear hHeld2
        (try simp only [Act.put, List.setIfInBounds_toArray, List.set_cons_zero, List.set_cons_succ])
        refine lReady (rs := [8]) (by kernel_rfl) (by simp) ?_
        refine AllL.cons (i := 8) rfl (fun K hK => ?_) ?_
        · go_simp
          (try go_wp2_with fail)
          refine hK.out _ _ ?_ (fun hHeld2 => ?_)
          · (try dsimp only); refine ⟨?_, Or.inr ?_⟩
            · (first | with_reducible assumption | with_reducible exact noteC F0.out.drew | with_reducible exact noteC (F0.out.alloc _).drew | with_reducible exact noteC ((F0.out.alloc _).alloc _).drew | with_reducible exact noteC HM.out.box | with_reducible exact noteC (HM.out.box.alloc _) | with_reducible exact noteC HX.out | exact noteC (HX.out.setCell_ne (by show w.heap.size ≠ g; omega) _))
            · (first | with_reducible assumption | (rw [HLen.out]; exact Blk.cell (H.out.blk.touch (S := fun _ => False) (by repeat (with_reducible (first | exact Touch.refl _ _ | exact HM.out.touch | refine Touch.alloc ?_ _ | refine Touch.drew ?_))) (fun e => e)) 0 rfl))
          clear hK K
          clear hHeld; have hHeld := hHeld2; clear hHeld2
          (try simp only [Act.put, List.setIfInBounds_toArray, List.set_cons_zero, List.set_cons_succ])
          refine lReady (rs := [9]) (by kernel_rfl) (by simp) ?_
          refine AllL.cons (i := 9) rfl (fun K hK => ?_) ?_
          · refine step_append_any (.tmp 17) (.tmp 19) 76 rfl rfl w.heap.size 60 i0 (.agg #[.int .i64 0, .int .i64 0, .int .i64 0, .int .i64 0, .int .i64 0]) 5 40 Try.underlying76 hi hz0 hz1 hz2 rfl (by decide) A1 len cap1 (flat l.L) (by rfl) (by rw [HLen.out]; with_reducible (first | exact HM.out.own | exact (HM.out.alloc _).own)) (some ⟨_, 0, none⟩) 1 1 n.vals (by rfl) rfl (by with_reducible (first | exact src_note HN1.out | exact src_note (Blk.new' _ _ 60))) (fun u hu => flat_one' [n] u (by rw [flat_one]; exact hu)) (by have := HN.out; unfold maxLen; omega) (by have := HN.out; omega) (by have := HM.out.touch.size; simp; omega) ?_; intro A2 cap2 w2 hown hgrow hat; (first | (have HE := Lib.hid (And.intro (sendR_end H.out HB.out HM.out hown hgrow hat HLen.out) (sendR_at H.out HM.out hgrow))) | (have HE := Lib.hid (And.intro (sendR_end H.out HB.out (HM.out.alloc _) hown hgrow hat HLen.out) (sendR_at H.out (HM.out.alloc _) hgrow)))); have HX := Lib.hid HE.out.2.2; have d2 : w2.cell? ⟨g, 0, none⟩ = some (.slice A len cap) := (by rw [HLen.out]; exact HE.out.2.1.cell 0 rfl); have e2 := HE.out.2.1.free 0; clear hown hgrow hat
            (try go_wp2_with fail)
            refine hK.out _ _ ?_ (fun hHeld2 => ?_)
            · (try dsimp only); refine ⟨?_, Or.inr ?_⟩
              · (first | with_reducible assumption | with_reducible exact noteC F0.out.drew | with_reducible exact noteC (F0.out.alloc _).drew | with_reducible exact noteC ((F0.out.alloc _).alloc _).drew | with_reducible exact noteC HM.out.box | with_reducible exact noteC (HM.out.box.alloc _) | with_reducible exact noteC HX.out | exact noteC (HX.out.setCell_ne (by show w.heap.size ≠ g; omega) _))
              · (first | with_reducible assumption | (rw [HLen.out]; exact Blk.cell (H.out.blk.touch (S := fun _ => False) (by repeat (with_reducible (first | exact Touch.refl _ _ | exact HM.out.touch | refine Touch.alloc ?_ _ | refine Touch.drew ?_))) (fun e => e)) 0 rfl))
            clear hK K
            clear hHeld; have hHeld := hHeld2; clear hHeld2
            (try simp only [Act.put, List.setIfInBounds_toArray, List.set_cons_zero, List.set_cons_succ])
            refine lTake (i := 10) (v := ?_) rfl (by kernel_rfl) (by kernel_rfl) (by kernel_rfl) (fun _ _ _ h => h) (by rfl) (fun _ _ h => by simpa only [getD_set_ne false (show 10 ≠ 12 by decide)] using h) (fun _ _ h => by simpa only [getD_set_ne false (show 10 ≠ 12 by decide)] using h) ?_ (by assumption) (fun hHeld2 => ?_)
            rotate_left 1
            · (intro _ _ _ _ _; first | (go_simp; done) | (go_simp; with_reducible rfl))
            clear hHeld; have hHeld := hHeld2; clear hHeld2
            (try simp only [Act.put, List.setIfInBounds_toArray, List.set_cons_zero, List.set_cons_succ])
            refine lTake (i := 11) (v := ?_) rfl (by kernel_rfl) (by kernel_rfl) (by kernel_rfl) (fun _ _ _ h => h) (by rfl) (fun _ _ h => by simpa only [getD_set_ne false (show 11 ≠ 12 by decide)] using h) (fun _ _ h => by simpa only [getD_set_ne false (show 11 ≠ 12 by decide)] using h) ?_ (by assumption) (fun hHeld2 => ?_)
            rotate_left 1
            · (intro _ _ _ _ _; first | (go_simp; done) | (go_simp; with_reducible rfl))
            clear hHeld; have hHeld := hHeld2; clear hHeld2
            (try simp only [Act.put, List.setIfInBounds_toArray, List.set_cons_zero, List.set_cons_succ])
            refine lReady (rs := [12]) (by kernel_rfl) (by simp) ?_
            refine AllL.cons (i := 12) rfl (fun K hK => ?_) ?_
            · go_simp
              (try go_wp2_with fail)
              refine hK.out _ _ ?_ (fun hHeld2 => ?_)
              · (try dsimp only); refine ⟨?_, Or.inl (by rfl)⟩
                · (first | with_reducible assumption | with_reducible exact noteC F0.out.drew | with_reducible exact noteC (F0.out.alloc _).drew | with_reducible exact noteC ((F0.out.alloc _).alloc _).drew | with_reducible exact noteC HM.out.box | with_reducible exact noteC (HM.out.box.alloc _) | with_reducible exact noteC HX.out | exact noteC (HX.out.setCell_ne (by show w.heap.size ≠ g; omega) _))
              clear hK K
              clear hHeld; have hHeld := hHeld2; clear hHeld2
              (try simp only [Act.put, List.setIfInBounds_toArray, List.set_cons_zero, List.set_cons_succ])
              refine lDone (by kernel_rfl) ?_ _
              go_wp2_with fail
              go_ret
              exact ⟨rfl, HE.out.1⟩
            exact AllL.nil
          exact AllL.nil
        exact AllL.nil
      refine AllL.cons (i := 8) rfl (fun K hK => ?_) ?_
      · go_simp
        (try go_wp2_with fail)
        refine hK.out _ _ ?_ (fun hHeld2 => ?_)
        · (try dsimp only); refine ⟨?_, Or.inr ?_⟩
          · (first | with_reducible assumption | with_reducible exact noteC F0.out.drew | with_reducible exact noteC (F0.out.alloc _).drew | with_reducible exact noteC ((F0.out.alloc _).alloc _).drew | with_reducible exact noteC HM.out.box | with_reducible exact noteC (HM.out.box.alloc _) | with_reducible exact noteC HX.out | exact noteC (HX.out.setCell_ne (by show w.heap.size ≠ g; omega) _))
          · (first | with_reducible assumption | (rw [HLen.out]; exact Blk.cell (H.out.blk.touch (S := fun _ => False) (by repeat (with_reducible (first | exact Touch.refl _ _ | exact HM.out.touch | refine Touch.alloc ?_ _ | refine Touch.drew ?_))) (fun e => e)) 0 rfl))
        clear hK K
        clear hHeld; have hHeld := hHeld2; clear hHeld2
        (try simp only [Act.put, List.setIfInBounds_toArray, List.set_cons_zero, List.set_cons_succ])
        refine lReady (rs := [6]) (by kernel_rfl) (by simp) ?_
        refine AllL.cons (i := 6) rfl (fun K hK => ?_) ?_
        · refine step_append_any (.tmp 12) (.tmp 16) 76 rfl rfl w.heap.size 60 i0 (.agg #[.int .i64 0, .int .i64 0, .int .i64 0, .int .i64 0, .int .i64 0]) 5 40 Try.underlying76 hi hz0 hz1 hz2 rfl (by decide) _ 0 0 [] (by rfl) (by with_reducible (first | exact own_empty F1.out.drew (by omega) | exact own_empty F2.out.drew (by omega) | exact own_empty G2.out.drew (by omega))) A len cap (flat l.L) (by rfl) (by rw [flat_length, HLen.out]) (HSrc.out _ (by repeat (with_reducible (first | exact Touch.refl _ _ | refine Touch.alloc ?_ _ | refine Touch.drew ?_)))) (flat_one' l.L) (by have := HN.out; unfold maxLen; omega) (by have := HN.out; omega) (by simp; omega) ?_; intro A1 cap1 w1 hown hgrow hat; have HM := Lib.hid (sendMid_of (g := g) (n := n) (by repeat (with_reducible (first | exact Touch.refl _ _ | refine Touch.alloc ?_ _ | refine Touch.drew ?_))) (by with_reducible (first | exact (F0.out.alloc _).drew | exact ((F0.out.alloc _).alloc _).drew)) (by omega) hown hgrow hat HLen.out); (first | (have HN1 := Lib.hid (F3.out.drew.grown hgrow (by simp [Value.ownBlock]))) | (have HN1 := Lib.hid (G1.out.drew.grown hgrow (by simp [Value.ownBlock]))) | skip); clear hown hgrow hat; try simp only [Nat.zero_add]
          (try go_wp2_with fail)
          refine hK.out _ _ ?_ (fun hHeld2 => ?_)
          · (try dsimp only); refine ⟨?_, Or.inr ?_⟩
            · (first | with_reducible assumption | with_reducible exact noteC F0.out.drew | with_reducible exact noteC (F0.out.alloc _).drew | with_reducible exact noteC ((F0.out.alloc _).alloc _).drew | with_reducible exact noteC HM.out.box | with_reducible exact noteC (HM.out.box.alloc _) | with_reducible exact noteC HX.out | exact noteC (HX.out.setCell_ne (by show w.heap.size ≠ g; omega) _))
            · (first | with_reducible assumption | (rw [HLen.out]; exact Blk.cell (H.out.blk.touch (S := fun _ => False) (by repeat (with_reducible (first | exact Touch.refl _ _ | exact HM.out.touch | refine Touch.alloc ?_ _ | refine Touch.drew ?_))) (fun e => e)) 0 rfl))
          clear hK K
          clear hHeld; have hHeld := hHeld2; clear hHeld2
          (try simp only [Act.put, List.setIfInBounds_toArray, List.set_cons_zero, List.set_cons_succ])
          refine lReady (rs := [9]) (by kernel_rfl) (by simp) ?_
          refine AllL.cons (i := 9) rfl (fun K hK => ?_) ?_
          · refine step_append_any (.tmp 17) (.tmp 19) 76 rfl rfl w.heap.size 60 i0 (.agg #[.int .i64 0, .int .i64 0, .int .i64 0, .int .i64 0, .int .i64 0]) 5 40 Try.underlying76 hi hz0 hz1 hz2 rfl (by decide) A1 len cap1 (flat l.L) (by rfl) (by rw [HLen.out]; with_reducible (first | exact HM.out.own | exact (HM.out.alloc _).own)) (some ⟨_, 0, none⟩) 1 1 n.vals (by rfl) rfl (by with_reducible (first | exact src_note HN1.out | exact src_note (Blk.new' _ _ 60))) (fun u hu => flat_one' [n] u (by rw [flat_one]; exact hu)) (by have := HN.out; unfold maxLen; omega) (by have := HN.out; omega) (by have := HM.out.touch.size; simp; omega) ?_; intro A2 cap2 w2 hown hgrow hat; (first | (have HE := Lib.hid (And.intro (sendR_end H.out HB.out HM.out hown hgrow hat HLen.out) (sendR_at H.out HM.out hgrow))) | (have HE := Lib.hid (And.intro (sendR_end H.out HB.out (HM.out.alloc _) hown hgrow hat HLen.out) (sendR_at H.out (HM.out.alloc _) hgrow)))); have HX := Lib.hid HE.out.2.2; have d2 : w2.cell? ⟨g, 0, none⟩ = some (.slice A len cap) := (by rw [HLen.out]; exact HE.out.2.1.cell 0 rfl); have e2 := HE.out.2.1.free 0; clear hown hgrow hat
            (try go_wp2_with fail)
            refine hK.out _ _ ?_ (fun hHeld2 => ?_)
            · (try dsimp only); refine ⟨?_, Or.inr ?_⟩
              · (first | with_reducible assumption | with_reducible exact noteC F0.out.drew | with_reducible exact noteC (F0.out.alloc _).drew | with_reducible exact noteC ((F0.out.alloc _).alloc _).drew | with_reducible exact noteC HM.out.box | with_reducible exact noteC (HM.out.box.alloc _) | with_reducible exact noteC HX.out | exact noteC (HX.out.setCell_ne (by show w.heap.size ≠ g; omega) _))
              · (first | with_reducible assumption | (rw [HLen.out]; exact Blk.cell (H.out.blk.touch (S := fun _ => False) (by repeat (with_reducible (first | exact Touch.refl _ _ | exact HM.out.touch | refine Touch.alloc ?_ _ | refine Touch.drew ?_))) (fun e => e)) 0 rfl))
            clear hK K
            clear hHeld; have hHeld := hHeld2; clear hHeld2
            (try simp only [Act.put, List.setIfInBounds_toArray, List.set_cons_zero, List.set_cons_succ])
            refine lTake (i := 10) (v := ?_) rfl (by kernel_rfl) (by kernel_rfl) (by kernel_rfl) (fun _ _ _ h => h) (by rfl) (fun _ _ h => by simpa only [getD_set_ne false (show 10 ≠ 12 by decide)] using h) (fun _ _ h => by simpa only [getD_set_ne false (show 10 ≠ 12 by decide)] using h) ?_ (by assumption) (fun hHeld2 => ?_)
            rotate_left 1
            · (intro _ _ _ _ _; first | (go_simp; done) | (go_simp; with_reducible rfl))
            clear hHeld; have hHeld := hHeld2; clear hHeld2
            (try simp only [Act.put, List.setIfInBounds_toArray, List.set_cons_zero, List.set_cons_succ])
            refine lTake (i := 11) (v := ?_) rfl (by kernel_rfl) (by kernel_rfl) (by kernel_rfl) (fun _ _ _ h => h) (by rfl) (fun _ _ h => by simpa only [getD_set_ne false (show 11 ≠ 12 by decide)] using h) (fun _ _ h => by simpa only [getD_set_ne false (show 11 ≠ 12 by decide)] using h) ?_ (by assumption) (fun hHeld2 => ?_)
            rotate_left 1
            · (intro _ _ _ _ _; first | (go_simp; done) | (go_simp; with_reducible rfl))
            clear hHeld; have hHeld := hHeld2; clear hHeld2
            (try simp only [Act.put, List.setIfInBounds_toArray, List.set_cons_zero, List.set_cons_succ])
            refine lReady (rs := [12]) (by kernel_rfl) (by simp) ?_
            refine AllL.cons (i := 12) rfl (fun K hK => ?_) ?_
            · go_simp
              (try go_wp2_with fail)
              refine hK.out _ _ ?_ (fun hHeld2 => ?_)
              · (try dsimp only); refine ⟨?_, Or.inl (by rfl)⟩
                · (first | with_reducible assumption | with_reducible exact noteC F0.out.drew | with_reducible exact noteC (F0.out.alloc _).drew | with_reducible exact noteC ((F0.out.alloc _).alloc _).drew | with_reducible exact noteC HM.out.box | with_reducible exact noteC (HM.out.box.alloc _) | with_reducible exact noteC HX.out | exact noteC (HX.out.setCell_ne (by show w.heap.size ≠ g; omega) _))
              clear hK K
              clear hHeld; have hHeld := hHeld2; clear hHeld2
              (try simp only [Act.put, List.setIfInBounds_toArray, List.set_cons_zero, List.set_cons_succ])
              refine lDone (by kernel_rfl) ?_ _
              go_wp2_with fail
              go_ret
              exact ⟨rfl, HE.out.1⟩
            exact AllL.nil
          exact AllL.nil
        exact AllL.nil
      exact AllL.nil
    refine AllL.cons (i := 8) rfl (fun K hK => ?_) ?_
    · go_simp
      (try go_wp2_with fail)
      refine hK.out _ _ ?_ (fun hHeld2 => ?_)
      · (try dsimp only); refine ⟨?_, Or.inr ?_⟩
        · (first | with_reducible assumption | with_reducible exact noteC F0.out.drew | with_reducible exact noteC (F0.out.alloc _).drew | with_reducible exact noteC ((F0.out.alloc _).alloc _).drew | with_reducible exact noteC HM.out.box | with_reducible exact noteC (HM.out.box.alloc _) | with_reducible exact noteC HX.out | exact noteC (HX.out.setCell_ne (by show w.heap.size ≠ g; omega) _))
        · (first | with_reducible assumption | (rw [HLen.out]; exact Blk.cell (H.out.blk.touch (S := fun _ => False) (by repeat (with_reducible (first | exact Touch.refl _ _ | exact HM.out.touch | refine Touch.alloc ?_ _ | refine Touch.drew ?_))) (fun e => e)) 0 rfl))
      clear hK K
      clear hHeld; have hHeld := hHeld2; clear hHeld2
      (try simp only [Act.put, List.setIfInBounds_toArray, List.set_cons_zero, List.set_cons_succ])
      refine lReady (rs := [1]) (by kernel_rfl) (by simp) ?_
      refine AllL.cons (i := 1) rfl (fun K hK => ?_) ?_
      · go_simp
        (try go_wp2_with fail)
        refine hK.out _ _ ?_ (fun hHeld2 => ?_)
        · (try dsimp only); refine ⟨?_, Or.inr ?_⟩
          · (first | with_reducible assumption | with_reducible exact noteC F0.out.drew | with_reducible exact noteC (F0.out.alloc _).drew | with_reducible exact noteC ((F0.out.alloc _).alloc _).drew | with_reducible exact noteC HM.out.box | with_reducible exact noteC (HM.out.box.alloc _) | with_reducible exact noteC HX.out | exact noteC (HX.out.setCell_ne (by show w.heap.size ≠ g; omega) _))
          · (first | with_reducible assumption | (rw [HLen.out]; exact Blk.cell (H.out.blk.touch (S := fun _ => False) (by repeat (with_reducible (first | exact Touch.refl _ _ | exact HM.out.touch | refine Touch.alloc ?_ _ | refine Touch.drew ?_))) (fun e => e)) 0 rfl))
        clear hK K
        clear hHeld; have hHeld := hHeld2; clear hHeld2
        (try simp only [Act.put, List.setIfInBounds_toArray, List.set_cons_zero, List.set_cons_succ])
        refine lReady (rs := [6]) (by kernel_rfl) (by simp) ?_
        refine AllL.cons (i := 6) rfl (fun K hK => ?_) ?_
        · refine step_append_any (.tmp 12) (.tmp 16) 76 rfl rfl w.heap.size 60 i0 (.agg #[.int .i64 0, .int .i64 0, .int .i64 0, .int .i64 0, .int .i64 0]) 5 40 Try.underlying76 hi hz0 hz1 hz2 rfl (by decide) _ 0 0 [] (by rfl) (by with_reducible (first | exact own_empty F1.out.drew (by omega) | exact own_empty F2.out.drew (by omega) | exact own_empty G2.out.drew (by omega))) A len cap (flat l.L) (by rfl) (by rw [flat_length, HLen.out]) (HSrc.out _ (by repeat (with_reducible (first | exact Touch.refl _ _ | refine Touch.alloc ?_ _ | refine Touch.drew ?_)))) (flat_one' l.L) (by have := HN.out; unfold maxLen; omega) (by have := HN.out; omega) (by simp; omega) ?_; intro A1 cap1 w1 hown hgrow hat; have HM := Lib.hid (sendMid_of (g := g) (n := n) (by repeat (with_reducible (first | exact Touch.refl _ _ | refine Touch.alloc ?_ _ | refine Touch.drew ?_))) (by with_reducible (first | exact (F0.out.alloc _).drew | exact ((F0.out.alloc _).alloc _).drew)) (by omega) hown hgrow hat HLen.out); (first | (have HN1 := Lib.hid (F3.out.drew.grown hgrow (by simp [Value.ownBlock]))) | (have HN1 := Lib.hid (G1.out.drew.grown hgrow (by simp [Value.ownBlock]))) | skip); clear hown hgrow hat; try simp only [Nat.zero_add]
          (try go_wp2_with fail)
          refine hK.out _ _ ?_ (fun hHeld2 => ?_)
          · (try dsimp only); refine ⟨?_, Or.inr ?_⟩
            · (first | with_reducible assumption | with_reducible exact noteC F0.out.drew | with_reducible exact noteC (F0.out.alloc _).drew | with_reducible exact noteC ((F0.out.alloc _).alloc _).drew | with_reducible exact noteC HM.out.box | with_reducible exact noteC (HM.out.box.alloc _) | with_reducible exact noteC HX.out | exact noteC (HX.out.setCell_ne (by show w.heap.size ≠ g; omega) _))
            · (first | with_reducible assumption | (rw [HLen.out]; exact Blk.cell (H.out.blk.touch (S := fun _ => False) (by repeat (with_reducible (first | exact Touch.refl _ _ | exact HM.out.touch | refine Touch.alloc ?_ _ | refine Touch.drew ?_))) (fun e => e)) 0 rfl))
          clear hK K
          clear hHeld; have hHeld := hHeld2; clear hHeld2
          (try simp only [Act.put, List.setIfInBounds_toArray, List.set_cons_zero, List.set_cons_succ])
          refine lReady (rs := [9]) (by kernel_rfl) (by simp) ?_
          refine AllL.cons (i := 9) rfl (fun K hK => ?_) ?_
          · refine step_append_any (.tmp 17) (.tmp 19) 76 rfl rfl w.heap.size 60 i0 (.agg #[.int .i64 0, .int .i64 0, .int .i64 0, .int .i64 0, .int .i64 0]) 5 40 Try.underlying76 hi hz0 hz1 hz2 rfl (by decide) A1 len cap1 (flat l.L) (by rfl) (by rw [HLen.out]; with_reducible (first | exact HM.out.own | exact (HM.out.alloc _).own)) (some ⟨_, 0, none⟩) 1 1 n.vals (by rfl) rfl (by with_reducible (first | exact src_note HN1.out | exact src_note (Blk.new' _ _ 60))) (fun u hu => flat_one' [n] u (by rw [flat_one]; exact hu)) (by have := HN.out; unfold maxLen; omega) (by have := HN.out; omega) (by have := HM.out.touch.size; simp; omega) ?_; intro A2 cap2 w2 hown hgrow hat; (first | (have HE := Lib.hid (And.intro (sendR_end H.out HB.out HM.out hown hgrow hat HLen.out) (sendR_at H.out HM.out hgrow))) | (have HE := Lib.hid (And.intro (sendR_end H.out HB.out (HM.out.alloc _) hown hgrow hat HLen.out) (sendR_at H.out (HM.out.alloc _) hgrow)))); have HX := Lib.hid HE.out.2.2; have d2 : w2.cell? ⟨g, 0, none⟩ = some (.slice A len cap) := (by rw [HLen.out]; exact HE.out.2.1.cell 0 rfl); have e2 := HE.out.2.1.free 0; clear hown hgrow hat
            (try go_wp2_with fail)
            refine hK.out _ _ ?_ (fun hHeld2 => ?_)
            · (try dsimp only); refine ⟨?_, Or.inr ?_⟩
              · (first | with_reducible assumption | with_reducible exact noteC F0.out.drew | with_reducible exact noteC (F0.out.alloc _).drew | with_reducible exact noteC ((F0.out.alloc _).alloc _).drew | with_reducible exact noteC HM.out.box | with_reducible exact noteC (HM.out.box.alloc _) | with_reducible exact noteC HX.out | exact noteC (HX.out.setCell_ne (by show w.heap.size ≠ g; omega) _))
              · (first | with_reducible assumption | (rw [HLen.out]; exact Blk.cell (H.out.blk.touch (S := fun _ => False) (by repeat (with_reducible (first | exact Touch.refl _ _ | exact HM.out.touch | refine Touch.alloc ?_ _ | refine Touch.drew ?_))) (fun e => e)) 0 rfl))
            clear hK K
            clear hHeld; have hHeld := hHeld2; clear hHeld2
            (try simp only [Act.put, List.setIfInBounds_toArray, List.set_cons_zero, List.set_cons_succ])
            refine lTake (i := 10) (v := ?_) rfl (by kernel_rfl) (by kernel_rfl) (by kernel_rfl) (fun _ _ _ h => h) (by rfl) (fun _ _ h => by simpa only [getD_set_ne false (show 10 ≠ 12 by decide)] using h) (fun _ _ h => by simpa only [getD_set_ne false (show 10 ≠ 12 by decide)] using h) ?_ (by assumption) (fun hHeld2 => ?_)
            rotate_left 1
            · (intro _ _ _ _ _; first | (go_simp; done) | (go_simp; with_reducible rfl))
            clear hHeld; have hHeld := hHeld2; clear hHeld2
            (try simp only [Act.put, List.setIfInBounds_toArray, List.set_cons_zero, List.set_cons_succ])
            refine lTake (i := 11) (v := ?_) rfl (by kernel_rfl) (by kernel_rfl) (by kernel_rfl) (fun _ _ _ h => h) (by rfl) (fun _ _ h => by simpa only [getD_set_ne false (show 11 ≠ 12 by decide)] using h) (fun _ _ h => by simpa only [getD_set_ne false (show 11 ≠ 12 by decide)] using h) ?_ (by assumption) (fun hHeld2 => ?_)
            rotate_left 1
            · (intro _ _ _ _ _; first | (go_simp; done) | (go_simp; with_reducible rfl))
            clear hHeld; have hHeld := hHeld2; clear hHeld2
            (try simp only [Act.put, List.setIfInBounds_toArray, List.set_cons_zero, List.set_cons_succ])
            refine lReady (rs := [12]) (by kernel_rfl) (by simp) ?_
            refine AllL.cons (i := 12) rfl (fun K hK => ?_) ?_
            · go_simp
              (try go_wp2_with fail)
              refine hK.out _ _ ?_ (fun hHeld2 => ?_)
              · (try dsimp only); refine ⟨?_, Or.inl (by rfl)⟩
                · (first | with_reducible assumption | with_reducible exact noteC F0.out.drew | with_reducible exact noteC (F0.out.alloc _).drew | with_reducible exact noteC ((F0.out.alloc _).alloc _).drew | with_reducible exact noteC HM.out.box | with_reducible exact noteC (HM.out.box.alloc _) | with_reducible exact noteC HX.out | exact noteC (HX.out.setCell_ne (by show w.heap.size ≠ g; omega) _))
              clear hK K
              clear hHeld; have hHeld := hHeld2; clear hHeld2
              (try simp only [Act.put, List.setIfInBounds_toArray, List.set_cons_zero, List.set_cons_succ])
              refine lDone (by kernel_rfl) ?_ _
              go_wp2_with fail
              go_ret
              exact ⟨rfl, HE.out.1⟩
            exact AllL.nil
          exact AllL.nil
        exact AllL.nil
      exact AllL.nil
    exact AllL.nil
end Go.Proofs.Ytafajclbghofkaa
