/- The builder's add, in the world of the prices of an assignment. -/
import Derived.Test.YtmebpglkeedaoaaA1
import Derived.Deep.Cut
namespace Go.Proofs.Ytmebpglkeedaoaa
open Go.RowKit Dp
set_option linter.unusedVariables false

theorem info46 : (Try.prog.info? 46).map (fun i => (i.zero, i.size, i.bytes)) = some (some (.agg #[.int .i64 0, .int .i64 0, .int .i64 0, .int .i64 0]), 4, 32) := by kernel_rfl
def arcV (a : Arc) : List Value := [.int .i64 a.fr, .int .i64 a.to, .int .i64 a.cap, .int .i64 a.cost]

/-- the builder's world -/
structure BuJ (w : World) (gL gA gB gs gb : Nat) (A : Option Addr) (n cap : Nat) (sup : List Int) (arcs : List Arc) (W : World) : Prop where
  co : CO W gL gA gB
  b : Blk W gb 125 [.slice (some ⟨gs, 0, none⟩) 5 5, .slice A n cap, .slice none 0 0, .slice none 0 0]
  s : Fl 2 W gs sup
  own : W.ownsRow (gb + 1) 46 4 (.slice A n cap) n (flat arcV arcs)
  lt : gL < gs ∧ gA < gs ∧ gB < gs ∧ gs < gb ∧ w.heap.size ≤ gs
  bel : Below w.heap.size w W

section
variable {w W V : World} {gL gA gB gs gb n cap n2 cap2 : Nat} {A A2 : Option Addr} {sup : List Int} {arcs arcs2 : List Arc}
theorem BuJ.below (h : BuJ w gL gA gB gs gb A n cap sup arcs W) (hb : Below W.heap.size W V) : BuJ w gL gA gB gs gb A n cap sup arcs V :=
  ⟨h.co.below hb (Nat.le_refl _), h.b.below hb h.b.lt, h.s.below hb, ownBelow h.own hb, h.lt, h.bel.trans (hb.mono h.bel.size)⟩
theorem BuJ.alloc (h : BuJ w gL gA gB gs gb A n cap sup arcs W) (o : Obj) : BuJ w gL gA gB gs gb A n cap sup arcs (W.alloc o) :=
  h.below ((Below.refl _ _).alloc (Nat.le_refl _) o)
theorem BuJ.set (h : BuJ w gL gA gB gs gb A n cap sup arcs W) (k : Nat) (v : Int) : BuJ w gL gA gB gs gb A n cap (sup.set k v) arcs (W.setCell ⟨gs, k, none⟩ (.int .i64 v)) := by
  have hl := h.lt
  refine ⟨⟨h.co.L.setCell_ne (by simp; omega) _, h.co.A.setCell_ne (by simp; omega) _, h.co.B.setCell_ne (by simp; omega) _⟩, h.b.setCell_ne (by simp; omega) _, h.s.put k v, ?_, h.lt, h.bel.setCell (by simp; omega) _⟩
  exact ownGrown h.own ⟨rfl, rfl, rfl, by simp [World.setCell], fun k hk hne => Below.heap_setCell _ _ _ _ (fun e => hne (by rw [e]))⟩ (row := some gs) (fun k hk e => by
    have := (World.ownsRow.lt h.own k (ownB_iff.1 hk)).1
    cases e; omega)
theorem BuJ.mid (h : BuJ w gL gA gB gs gb A n cap sup arcs W) (hg : W.grownBy V (Value.slice A n cap).ownBlock) :
    Blk V gb 125 [.slice (some ⟨gs, 0, none⟩) 5 5, .slice A n cap, .slice none 0 0, .slice none 0 0] := by
  have hk : ∀ k, (Value.slice A n cap).ownBlock = some k → gb + 1 ≤ k := fun k e => (World.ownsRow.lt h.own k e).1
  exact h.b.grown hg (fun e => by have := hk gb e.symm; omega)
theorem BuJ.push (h : BuJ w gL gA gB gs gb A n cap sup arcs W) (hg : W.grownBy V (Value.slice A n cap).ownBlock)
    (ho : V.ownsRow (gb + 1) 46 4 (.slice A2 n2 cap2) n2 (flat arcV arcs2)) : BuJ w gL gA gB gs gb A2 n2 cap2 sup arcs2 (V.setCell ⟨gb, 1, none⟩ (.slice A2 n2 cap2)) := by
  have hk : ∀ k, (Value.slice A n cap).ownBlock = some k → gb + 1 ≤ k := fun k e => (World.ownsRow.lt h.own k e).1
  have hne : ∀ k, k ≤ gb → some k ≠ (Value.slice A n cap).ownBlock := fun k hk' e => by have := hk k e.symm; omega
  have hl := h.lt
  have hbs := h.bel.size
  have m2 := h.mid hg
  refine ⟨⟨(h.co.L.grown hg (hne _ (by omega))).setCell_ne (by simp; omega) _, (h.co.A.grown hg (hne _ (by omega))).setCell_ne (by simp; omega) _, (h.co.B.grown hg (hne _ (by omega))).setCell_ne (by simp; omega) _⟩, m2.setCell 1 _, Blk.setCell_ne (Blk.grown h.s hg (hne _ (by omega))) (by simp; omega) _, ?_, hl, (h.bel.grown hg hbs (fun k e => by have := hk k e; omega)).setCell (by simp; omega) _⟩
  exact ownGrown ho ⟨rfl, rfl, rfl, by simp [World.setCell], fun k hk hne => Below.heap_setCell _ _ _ _ (fun e => hne (by rw [e]))⟩ (row := some gb) (fun k hk e => by
    have := (World.ownsRow.lt ho k (ownB_iff.1 hk)).1
    cases e; omega)
end

set_option maxHeartbeats 2000000 in
set_option maxRecDepth 100000 in
theorem add_c (w W : World) (gL gA gB gs gb n cap gx : Nat) (A : Option Addr) (sup : List Int) (arcs : List Arc) (x : Arc) (hn : n ≤ 100) (h : BuJ w gL gA gB gs gb A n cap sup arcs W) (hX : Blk W gx 46 (arcV x)) (hal : arcs.length = n) :
    Calls Try.prog 108 #[.pointer (some ⟨gb, 0, none⟩), .slice (some ⟨gx, 0, none⟩) 1 1] W fun e W' => ∃ A2 cap2, e = .returned (.int .i64 n) ∧ BuJ w gL gA gB gs gb A2 (n + 1) cap2 sup (arcs ++ [x]) W' := by
  have H0 := Lib.hid h
  have X := Lib.hid hX
  have HAL := Lib.hid hal
  clear h hX hal
  obtain ⟨i3, h3i, h3z, h3s, h3b⟩ := info_parts info46
  have y0 := H0.out.b.cell 1 rfl
  go_enter Try.func108, Try.ntmps108
  go_wp2_with (at_builtin; refine wpList_append_any (.tmp 10) (.tmp 11) 23 rfl rfl (gb + 1) 46 i3 (.agg #[.int .i64 0, .int .i64 0, .int .i64 0, .int .i64 0]) 4 32 Try.underlying23 h3i h3z h3s h3b rfl (by decide) A n cap (flat arcV arcs) (by rfl) H0.out.own (some ⟨gx, 0, none⟩) 1 1 (arcV x) (by rfl) (by rfl) (.inr ⟨_, rfl, fun k u hk => by rw [show ((⟨gx, 0, none⟩ : Addr).add k) = ⟨gx, k, none⟩ from (by unfold Addr.add; split <;> simp_all)]; exact X.out.cell k hk⟩) (by simp [arcV, Value.oneCell']) (by unfold maxLen; omega) (by omega) (by have := H0.out.b.lt; omega) ?_; intro A2 c2 v hown hgrow hat; have H1 := Lib.hid (show BuJ w gL gA gB gs gb A2 (n + 1) c2 sup (arcs ++ [x]) (v.setCell ⟨gb, 1, none⟩ (.slice A2 (n + 1) c2)) from H0.out.push hgrow (by rw [flat_append]; simpa [flat] using hown)); have MM := H0.out.mid hgrow; clear y0; have y0 := MM.cell 1 rfl; have q0 := MM.free 1; clear MM hown hgrow hat)
  go_upto_region 2 with fail
  generalize v.setCell ⟨gb, 1, none⟩ (.slice A2 (n + 1) c2) = v1 at H1 ⊢
  clear y0 q0
  have y0 := H1.out.b.cell 1 rfl
  go_wp2_with fail
  trace_state
  exact bodyPost_ret (v := .int .i64 n) (by simp [results, Try.results108, go_sem]) rfl ⟨A2, c2, rfl, H1.out⟩
end Go.Proofs.Ytmebpglkeedaoaa
