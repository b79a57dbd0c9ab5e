/- Steps of newGraph of depot in memory. -/
import Derived.Test.YtmebpglkeedaoaaD8
namespace Go.Proofs.Ytmebpglkeedaoaa
open Go.RowKit Dp
set_option linter.unusedVariables false
theorem flat_int : ∀ l : List Int, flat intC l = l.map (Value.int .i64)
  | [] => rfl
  | x :: l => by
    have := flat_int l
    unfold flat at *
    rw [List.flatMap_cons, this]
    rfl
theorem OwnI.rows {B : Nat} {W : World} {g c : Nat} {l : List Int} (h : OwnI B W g c l) : OwnR intC 2 1 B W (some ⟨g, 0, none⟩) c l := by
  unfold OwnR
  rw [flat_int]
  exact h
section
variable {w V W : World} {b gl cl bo ce : Nat} {E : Option Addr} {A : Nat → Option Addr} {c : Nat → Nat} {G : Gr}
theorem NgJ.below (h : NgJ w b gl cl bo E ce A c G V) (hb : Below V.heap.size V W) : NgJ w b gl cl bo E ce A c G W :=
  { bel := h.bel.trans (hb.mono h.bel.size), blk := h.blk.below hb h.blk.lt, left := h.left.below hb, es := h.es.below hb, rows := h.rows.below hb h.rows.lt, own := fun i hi => (h.own i hi).below hb, dis := h.dis, ge := h.ge }
theorem NgJ.drew (h : NgJ w b gl cl bo E ce A c G V) : NgJ w b gl cl bo E ce A c G V.drew := h.below (Below.refl _ _).drew
/-- a row has grown: what is told of the old one still holds -/
theorem NgJ.grown (h : NgJ w b gl cl bo E ce A c G V) (i : Nat) (hi : i < G.outs.length) {n cap : Nat} (hn : n = (G.outs.getD i []).length) (hcap : cap = c i) (hg : V.grownBy W (Value.slice (A i) n cap).ownBlock) (hk : OwnR intC 3 1 w.heap.size W (A i) (c i) (G.outs.getD i [])) : NgJ w b gl cl bo E ce A c G W := by
  have hrow : ∀ k, (Value.slice (A i) n cap).ownBlock = some k → OwnB (A i) k := fun k e => ownB_iff.2 e
  have ho := h.own i hi
  have nb : ∀ (g : Nat) (t : TypeId) (cs : List Value), Blk V g t cs → (3 : Nat) ≠ t → some g ≠ (Value.slice (A i) n cap).ownBlock := fun g t cs hb ht e => own_ne ho (hrow g e.symm) hb ht
  exact
  { bel := h.bel.grown hg h.bel.size (fun k e => (ownLt ho (hrow k e)).2)
    blk := h.blk.grown hg (nb _ _ _ h.blk (by decide))
    left := ownGrown h.left hg (fun k hk e => by
      have h1 := hrow k e.symm
      have := ownB_some.1 hk
      subst this
      exact own_own_ne (f := intC) (f' := intC) (A' := some ⟨k, 0, none⟩) (c' := cl) (l' := G.left) (B' := w.heap.size) (e' := 2) (s' := 1) ho h.left.rows (by decide) h1 (ownB_some.2 rfl))
    es := ownGrown h.es hg (fun k hk e => own_own_ne ho h.es (by decide) (hrow k e.symm) hk)
    rows := h.rows.grown hg (nb _ _ _ h.rows (by decide))
    own := fun j hj => by
      by_cases e : j = i
      · subst e; exact hk
      · exact ownGrown (h.own j hj) hg (fun k hk' e' => h.dis j i hj hi e k hk' (hrow k e'.symm))
    dis := h.dis
    ge := h.ge }
/-- the new row is stored -/
theorem NgJ.store (h : NgJ w b gl cl bo E ce A c G W) (i : Nat) (hi : i < G.outs.length) {g cap : Nat} {x : Int} (ho : OwnR intC 3 1 w.heap.size W (some ⟨g, 0, none⟩) cap (G.outs.getD i [] ++ [x])) (hg : OwnB (A i) g ∨ ∀ j, j < G.outs.length → ∀ k, OwnB (A j) k → k < g) :
    NgJ w b gl cl bo E ce (upd A i (some ⟨g, 0, none⟩)) (upd c i cap) { G with outs := addAt G.outs i x } (W.setCell ⟨bo, i, none⟩ (.slice (some ⟨g, 0, none⟩) ((G.outs.getD i []).length + 1) cap)) := by
  have nb : ∀ (k : Nat) (t : TypeId) (cs : List Value), Blk W k t cs → t ≠ 26 → k ≠ bo := fun k t cs hb ht e => by
    subst e
    exact (blk_type_ne hb h.rows ht) rfl
  have no : ∀ {α : Type} {f : α → List Value} {e : TypeId} {s B c' : Nat} {A' : Option Addr} {l : List α}, OwnR f e s B W A' c' l → e ≠ 26 → ¬ OwnB A' bo := fun h' he hb => own_ne h' hb h.rows he
  exact
  { bel := h.bel.setCell h.ge.2 _
    blk := by
      show Blk _ b 113 [_, _, .slice (some ⟨bo, 0, none⟩) (addAt G.outs i x).length (addAt G.outs i x).length]
      rw [addAt_len]
      exact h.blk.setCell_ne (nb _ _ _ h.blk (by decide)) _
    left := ownSet h.left (p := ⟨bo, i, none⟩) (fun hb => by
      have e := ownB_some.1 hb
      simp only at e
      subst e
      exact h.left.typed h.rows (by decide)) _
    es := h.es.set_ne (p := ⟨bo, i, none⟩) (no h.es (by decide)) _
    rows := by
      show Blk _ bo 26 (slC _ _ (addAt G.outs i x))
      rw [← slC_set hi g cap x]
      exact h.rows.setCell i _
    own := fun j hj => by
      simp only [addAt_len] at hj
      show OwnR intC 3 1 w.heap.size _ _ _ ((addAt G.outs i x).getD j [])
      rw [addAt_get hi]
      unfold upd
      by_cases e : j = i
      · rw [if_pos e, if_pos e, if_pos e]
        exact ho.set_ne (p := ⟨bo, i, none⟩) (no ho (by decide)) _
      · rw [if_neg e, if_neg e, if_neg e]
        exact (h.own j hj).set_ne (p := ⟨bo, i, none⟩) (no (h.own j hj) (by decide)) _
    dis := fun j j' hj hj' hne k h1 h2 => by
      simp only [addAt_len] at hj hj'
      unfold upd at h1 h2
      by_cases e1 : j = i
      · rw [if_pos e1] at h1
        rw [if_neg (fun e2 => hne (e1.trans e2.symm))] at h2
        have := ownB_some.1 h1
        subst this
        rcases hg with hg | hg
        · exact h.dis i j' hi hj' (fun e => hne (e1.trans e)) k hg h2
        · have := hg j' hj' k h2; omega
      · rw [if_neg e1] at h1
        by_cases e2 : j' = i
        · rw [if_pos e2] at h2
          have := ownB_some.1 h2
          subst this
          rcases hg with hg | hg
          · exact h.dis i j hi hj (fun e => e1 e.symm) k hg h1
          · have := hg j hj k h1; omega
        · rw [if_neg e2] at h2
          exact h.dis j j' hj hj' hne k h1 h2
    ge := h.ge }
/-- the edges have grown and are stored -/
theorem NgJ.edges (h : NgJ w b gl cl bo E ce A c G V) {g cap n : Nat} {e1 e2 : Ed} (hn : n = G.es.length) (ho : OwnR edC 144 3 w.heap.size W (some ⟨g, 0, none⟩) cap (G.es ++ [e1, e2])) (hg : V.grownBy W (Value.slice E n ce).ownBlock) :
    NgJ w b gl cl bo (some ⟨g, 0, none⟩) cap A c { G with es := G.es ++ [e1, e2] } (W.setCell ⟨b, 1, none⟩ (.slice (some ⟨g, 0, none⟩) (G.es.length + 2) cap)) := by
  have hrow : ∀ k, (Value.slice E n ce).ownBlock = some k → OwnB E k := fun k e => ownB_iff.2 e
  have nb : ∀ (k : Nat) (t : TypeId) (cs : List Value), Blk V k t cs → (144 : Nat) ≠ t → some k ≠ (Value.slice E n ce).ownBlock := fun k t cs hb ht e => own_ne h.es (hrow k e.symm) hb ht
  have left1 : OwnI w.heap.size W gl cl G.left := ownGrown h.left hg (fun k hk e => by
    have h1 := hrow k e.symm
    have := ownB_some.1 hk
    subst this
    exact own_own_ne (f := edC) (f' := intC) (A' := some ⟨k, 0, none⟩) (c' := cl) (l' := G.left) (B' := w.heap.size) (e' := 2) (s' := 1) h.es h.left.rows (by decide) h1 (ownB_some.2 rfl))
  have blk1 := h.blk.grown hg (nb _ _ _ h.blk (by decide))
  have rows1 := h.rows.grown hg (nb _ _ _ h.rows (by decide))
  have no : ∀ {α : Type} {f : α → List Value} {e : TypeId} {s B c' : Nat} {A' : Option Addr} {l : List α}, OwnR f e s B W A' c' l → e ≠ 113 → ¬ OwnB A' b := fun h' he hb => own_ne h' hb blk1 he
  exact
  { bel := (h.bel.grown hg h.bel.size (fun k e => (ownLt h.es (hrow k e)).2)).setCell h.ge.1 _
    blk := by
      have h2 := blk1.setCell 1 (.slice (some ⟨g, 0, none⟩) (G.es.length + 2) cap)
      show Blk _ b 113 [_, .slice (some ⟨g, 0, none⟩) (G.es ++ [e1, e2]).length cap, _]
      rw [List.length_append]
      exact h2
    left := ownSet left1 (p := ⟨b, 1, none⟩) (fun hb => by
      have e := ownB_some.1 hb
      simp only at e
      subst e
      exact left1.typed blk1 (by decide)) _
    es := ho.set_ne (p := ⟨b, 1, none⟩) (no ho (by decide)) _
    rows := rows1.setCell_ne (fun e => by
      simp only at e
      subst e
      exact (blk_type_ne rows1 blk1 (by decide)) rfl) _
    own := fun j hj => by
      have h1 : OwnR intC 3 1 w.heap.size W (A j) (c j) (G.outs.getD j []) := ownGrown (h.own j hj) hg (fun k hk e' => own_own_ne h.es (h.own j hj) (by decide) (hrow k e'.symm) hk)
      exact h1.set_ne (p := ⟨b, 1, none⟩) (no h1 (by decide)) _
    dis := h.dis
    ge := h.ge }
/-- the end: the graph lies in memory -/
theorem NgJ.done (h : NgJ w b gl cl bo E ce A c G W) : GrAt W w.heap.size b gl cl E ce bo G := by
  have hlx : ¬ OwnB E gl := fun hb => by
    have hl : OwnR intC 2 1 w.heap.size W (some ⟨gl, 0, none⟩) cl G.left := h.left.rows
    exact own_own_ne h.es hl (by decide) hb (ownB_some.2 rfl)
  exact
  { blk := h.blk
    left := h.left
    es := h.es
    outs := fun i hi => by
      have ho := h.own i hi
      refine ⟨A i, c i, h.rows.cell i (slC_get hi), ?_, ?_, fun j hj => ?_, fun k hk => ⟨(ownLt ho hk).1, fun hs => ?_⟩⟩
      · rcases ho.2 with ⟨h0, h1⟩ | ⟨g', cap', cur, hv, _, _, h2, _⟩
        · rw [h1]; exact Nat.zero_le _
        · simp only [Value.slice.injEq] at hv; omega
      · rcases ho.2 with ⟨h0, h1⟩ | ⟨g', cap', cur, hv, _, _, _, h2, _⟩
        · simp only [Value.slice.injEq] at h0; omega
        · simp only [Value.slice.injEq] at hv; unfold maxLen at h2; omega
      · obtain ⟨g, hA, _, hlt, _⟩ := ho.form (by omega)
        refine ⟨⟨g, 0, none⟩, hA, hlt, ?_⟩
        rw [hA] at ho
        have := ho.cell intC_len j 0 _ (getElem_D _ j 0 hj) (by omega)
        rw [add_row]
        simpa [intC] using this
      · rcases hs with rfl | rfl | hs
        · exact own_ne ho hk h.blk (by decide)
        · have hl : OwnR intC 2 1 w.heap.size W (some ⟨k, 0, none⟩) cl G.left := h.left.rows
          exact own_own_ne ho hl (by decide) hk (ownB_some.2 rfl)
        · exact own_own_ne ho h.es (by decide) hk hs
    bo := ⟨h.rows.lt, fun e => (by subst e; exact (blk_type_ne h.rows h.blk (by decide)) rfl), fun e => (by subst e; exact h.left.typed h.rows (by decide)), fun hb => own_ne h.es hb h.rows (by decide)⟩
    ne := ⟨fun e => (by subst e; exact h.left.typed h.blk (by decide)), fun hb => own_ne h.es hb h.blk (by decide), hlx⟩
    base := ⟨h.ge.1, h.left.lt.1⟩ }
end
end Go.Proofs.Ytmebpglkeedaoaa
