/- General: a list of blocks that lie in memory; a block filled from its first cell on. -/
import Derived.Test.YtcneohhfnnelgaaR8
import Derived.Test.YtcneohhfnnelgaaH1
import Derived.Deep.Cut
namespace Go.Proofs.Ytcneohhfnnelgaa
open Go Go.RowKit
set_option linter.unusedVariables false

abbrev BlkRow := Nat × TypeId × List Value
/-- the blocks of l lie in W -/
def Has (l : List BlkRow) (W : World) : Prop := ∀ x, x ∈ l → Blk W x.1 x.2.1 x.2.2
section
variable {l : List BlkRow} {W W' w : World}
theorem Has.nil (W : World) : Has [] W := fun _ h => by cases h
theorem Has.get (h : Has l W) (i : Nat) {g : Nat} {t : TypeId} {cs : List Value} (hx : l[i]? = some (g, t, cs)) : Blk W g t cs := h (g, t, cs) (List.mem_of_getElem? hx)
theorem Has.lt (h : Has l W) (x : BlkRow) (hx : x ∈ l) : x.1 < W.heap.size := (h x hx).lt
theorem Has.below (h : Has l W) (hb : Below W.heap.size W W') : Has l W' := fun x hx => (h x hx).below hb (h x hx).lt
theorem Has.cons {g : Nat} {t : TypeId} {cs : List Value} (k : Blk W g t cs) (h : Has l W) : Has ((g, t, cs) :: l) W := fun x hx => by
  rcases List.mem_cons.1 hx with rfl | h'
  · exact k
  · exact h x h'
theorem Has.setCell (h : Has l W) {p : Addr} (hn : ∀ x, x ∈ l → x.1 ≠ p.block) (v : Value) : Has l (W.setCell p v) := fun x hx => (h x hx).setCell_ne (hn x hx) v
theorem Has.sub {l' : List BlkRow} (h : Has l W) (hs : ∀ x, x ∈ l' → x ∈ l) : Has l' W := fun x hx => h x (hs x hx)
/-- block g with the values vs from cell i on -/
def setAll (W : World) (g : Nat) : Nat → List Value → World
  | _, [] => W
  | i, v :: vs => setAll (W.setCell ⟨g, i, none⟩ v) g (i + 1) vs
theorem setAll_size (g : Nat) : ∀ (vs : List Value) (i : Nat) (W : World), (setAll W g i vs).heap.size = W.heap.size
  | [], _, _ => rfl
  | v :: vs, i, W => by unfold setAll; rw [setAll_size g vs]; simp [World.setCell]
theorem setAll_below {n : Nat} {g : Nat} (hg : n ≤ g) : ∀ (vs : List Value) (i : Nat) (W : World), Below n w W → Below n w (setAll W g i vs)
  | [], _, _, h => h
  | v :: vs, i, W, h => by unfold setAll; exact setAll_below hg vs (i + 1) _ (h.setCell hg v)
theorem setAll_ne {g g' : Nat} {t : TypeId} {cs : List Value} (hn : g ≠ g') : ∀ (vs : List Value) (i : Nat) (W : World), Blk W g t cs → Blk (setAll W g' i vs) g t cs
  | [], _, _, h => h
  | v :: vs, i, W, h => by unfold setAll; exact setAll_ne hn vs (i + 1) _ (h.setCell_ne (p := ⟨g', i, none⟩) hn v)
theorem setAll_blk {g : Nat} {t : TypeId} : ∀ (vs cs pre : List Value) (W : World), Blk W g t (pre ++ cs) → cs.length = vs.length → Blk (setAll W g pre.length vs) g t (pre ++ vs)
  | [], cs, pre, W, h, hl => by
    have : cs = [] := List.eq_nil_of_length_eq_zero hl
    subst this
    exact h
  | v :: vs, [], pre, W, h, hl => by cases hl
  | v :: vs, c :: cs, pre, W, h, hl => by
    unfold setAll
    have h1 := h.setCell pre.length v
    rw [List.set_append_right _ _ (Nat.le_refl _)] at h1
    simp only [Nat.sub_self, List.set_cons_zero] at h1
    have h2 := setAll_blk (g := g) (t := t) vs cs (pre ++ [v]) (W.setCell ⟨g, pre.length, none⟩ v) (by simpa using h1) (by simpa using hl)
    simpa using h2
theorem Has.setAll {g : Nat} (h : Has l W) (hn : ∀ x, x ∈ l → x.1 ≠ g) (vs : List Value) (i : Nat) : Has l (setAll W g i vs) := fun x hx => setAll_ne (hn x hx) vs i W (h x hx)
/-- what there was lies as it lay, and the blocks of l lie there, each by itself -/
def St (w : World) (l : List BlkRow) (W : World) : Prop := Below w.heap.size w W ∧ Has l W ∧ (l.map Prod.fst).Nodup
theorem St.start (w : World) : St w [] w := ⟨Below.refl _ _, Has.nil _, List.nodup_nil⟩
theorem St.start1 {g : Nat} {t : TypeId} {cs : List Value} (h : Blk w g t cs) : St w [(g, t, cs)] w := ⟨Below.refl _ _, Has.cons h (Has.nil _), by simp⟩
theorem St.below (h : St w l W) (hb : Below W.heap.size W W') : St w l W' := ⟨h.1.trans (hb.mono h.1.size), h.2.1.below hb, h.2.2⟩
theorem St.get (h : St w l W) (i : Nat) {g : Nat} {t : TypeId} {cs : List Value} (hx : l[i]? = some (g, t, cs)) : Blk W g t cs := h.2.1.get i hx
theorem St.ne (h : St w l W) (i j : Nat) {g g' : Nat} {t t' : TypeId} {cs cs' : List Value} (hx : l[i]? = some (g, t, cs)) (hy : l[j]? = some (g', t', cs')) (hij : i ≠ j) : ¬ g = g' := by
  intro e
  refine hij ((List.getElem?_inj (l := l.map Prod.fst) (by have := (List.getElem?_eq_some_iff.1 hx).1; simpa using this) h.2.2).1 ?_)
  · rw [List.getElem?_map, List.getElem?_map, hx, hy]
    simp [e]
theorem St.drew (h : St w l W) : St w l W.drew := ⟨h.1.drew, fun x hx => (h.2.1 x hx).drew, h.2.2⟩
theorem St.apart (h : St w l W) {g : Nat} (hg : W.heap.size ≤ g) : ∀ x, x ∈ l → x.1 ≠ g := fun x hx e => by have := h.2.1.lt x hx; omega
theorem St.apart' (h : St w l W) {g : Nat} (hg : W.heap.size ≤ g) : g ∉ l.map Prod.fst := fun hm => by
  obtain ⟨x, hx, e⟩ := List.mem_map.1 hm
  exact h.apart hg x hx e
theorem St.alloc (h : St w l W) (cs : List Value) (t : TypeId) : St w ((W.heap.size, t, cs) :: l) (W.alloc (.cells cs.toArray t)) :=
  ⟨h.1.alloc h.1.size _, Has.cons (Blk.new W cs t) (h.2.1.below ((Below.refl _ _).alloc (Nat.le_refl _) _)), by
    rw [List.map_cons, List.nodup_cons]
    exact ⟨h.apart' (Nat.le_refl _), h.2.2⟩⟩
theorem St.lay (h : St w l W) (hb : Below W.heap.size W W') {g : Nat} {t : TypeId} {cs : List Value} (hg : W.heap.size ≤ g) (k : Blk W' g t cs) (vs : List Value) (hl : cs.length = vs.length) : St w ((g, t, vs) :: l) (setAll W' g 0 vs) :=
  ⟨setAll_below (Nat.le_trans h.1.size hg) vs 0 _ (h.1.trans (hb.mono h.1.size)), Has.cons (setAll_blk vs cs [] W' k hl) ((h.2.1.below hb).setAll (h.apart hg) vs 0), by
    rw [List.map_cons, List.nodup_cons]
    exact ⟨h.apart' hg, h.2.2⟩⟩
theorem St.lay2 (h : St w l W) (hb : Below W.heap.size W W') {g g' : Nat} {t t' : TypeId} {cs cs' : List Value} (hg : W.heap.size ≤ g) (hg' : W.heap.size ≤ g') (hne : g ≠ g') (k : Blk W' g t cs) (k' : Blk W' g' t' cs') (vs vs' : List Value) (hl : cs.length = vs.length) (hl' : cs'.length = vs'.length) :
    St w ((g', t', vs') :: (g, t, vs) :: l) (setAll (setAll W' g 0 vs) g' 0 vs') := by
  have hn' : ∀ x, x ∈ (g, t, vs) :: l → x.1 ≠ g' := fun x hx e => by
    rcases List.mem_cons.1 hx with rfl | hx
    · exact hne e
    · exact h.apart hg' x hx e
  have h1 : Has ((g, t, vs) :: l) (setAll W' g 0 vs) := Has.cons (setAll_blk vs cs [] W' k hl) ((h.2.1.below hb).setAll (h.apart hg) vs 0)
  refine ⟨setAll_below (Nat.le_trans h.1.size hg') vs' 0 _ (setAll_below (Nat.le_trans h.1.size hg) vs 0 _ (h.1.trans (hb.mono h.1.size))), Has.cons (setAll_blk vs' cs' [] _ (setAll_ne (fun e => hne e.symm) vs 0 _ k') hl') (h1.setAll hn' vs' 0), ?_⟩
  rw [List.map_cons, List.nodup_cons, List.map_cons, List.nodup_cons]
  refine ⟨fun hm => ?_, h.apart' hg, h.2.2⟩
  rcases List.mem_cons.1 hm with e | hm
  · exact hne e.symm
  · exact h.apart' hg' hm
end
end Go.Proofs.Ytcneohhfnnelgaa
