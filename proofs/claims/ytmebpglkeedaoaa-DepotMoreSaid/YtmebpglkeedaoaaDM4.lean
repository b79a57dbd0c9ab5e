/- Contracts that the claim leans on, part 4: N4 T4c T2 T4b S5 T4 T5 T6 N6 N7 N8 N9 M25 M26 M27 M28 M29 T21 N5 T7c -/
import Derived.Test.YtmebpglkeedaoaaDM3
import Derived.Deep.Cut
set_option linter.unusedVariables false
set_option linter.unusedSimpArgs false
set_option linter.unnecessarySimpa false
namespace Go.Proofs.Ytmebpglkeedaoaa
open Go.RowKit Dp
theorem blk_own_ne {W : World} {g t B e z n cap : Nat} {cs xs : List Value} {A : Option Addr} (hb : Blk W g t cs) (h : W.ownsRow B e z (.slice A n cap) n xs) (hne : t ≠ e) : some g ≠ (Value.slice A n cap).ownBlock := by
  intro hk
  rcases h.2 with ⟨h0, _⟩ | ⟨g', cap', cur, hv, _, hg, _⟩
  · rw [h0] at hk; cases hk
  · rw [hv] at hk
    simp only [Value.ownBlock, Option.some.injEq] at hk
    subst hk
    unfold Blk at hb
    rw [hg] at hb
    simp only [Option.some.injEq, Obj.cells.injEq] at hb
    exact hne hb.2.1.symm
theorem own_blk_no {W : World} {g t B e z n cap : Nat} {cs xs : List Value} {A : Option Addr} (hb : Blk W g t cs) (h : W.ownsRow B e z (.slice A n cap) n xs) (hne : t ≠ e) : ¬ OwnB A g := fun hk => blk_own_ne hb h hne (ownB_iff.1 hk).symm
def RowF (W : World) (n G : Nat) (v : Value) (xs : List Int) : Prop := ∃ g, v = .slice (some ⟨g, 0, none⟩) n n ∧ g < G ∧ Fl 3 W g xs ∧ xs.length = n
def RowsF (W : World) (n G : Nat) (vs : List Value) (R : Nat → List Int) (i : Nat) : Prop := ∀ x, x < i → ∃ v, vs[x]? = some v ∧ RowF W n G v (R x)
section
variable {W V : World} {n G i : Nat} {vs : List Value} {R : Nat → List Int}
theorem RowsF.of (h : RowsF W n G vs R i) (f : ∀ g xs, g < G → Fl 3 W g xs → Fl 3 V g xs) : RowsF V n G vs R i := fun x hx => by
  obtain ⟨v, h1, g, h2, h3, h4, h5⟩ := h x hx
  exact ⟨v, h1, g, h2, h3, f g _ h3 h4, h5⟩
theorem RowsF.below (h : RowsF W n G vs R i) (hb : Below W.heap.size W V) : RowsF V n G vs R i := h.of fun g xs _ hf => hf.below hb
theorem RowsF.grown {B e z m cap : Nat} {A : Option Addr} {xs : List Value} (h : RowsF W n G vs R i) (ho : W.ownsRow B e z (.slice A m cap) m xs) (hne : 3 ≠ e) (hg : W.grownBy V (Value.slice A m cap).ownBlock) : RowsF V n G vs R i := h.of fun g xs _ hf => Blk.grown hf hg (blk_own_ne hf ho hne)
theorem RowsF.set (h : RowsF W n G vs R i) {p : Addr} {t : TypeId} {cs : List Value} (hb : Blk W p.block t cs) (hn : t ≠ 3 ∨ G ≤ p.block) (u : Value) : RowsF (W.setCell p u) n G vs R i := h.of fun g xs hlt hf => Blk.setCell_ne hf (fun e => by
  rcases hn with hn | hn
  · subst e; exact blk_type_ne hb hf hn rfl
  · omega) u
theorem RowsF.up {G' : Nat} (h : RowsF W n G vs R i) (hG : G ≤ G') : RowsF W n G' vs R i := fun x hx => by
  obtain ⟨v, h1, g, h2, h3, h4⟩ := h x hx
  exact ⟨v, h1, g, h2, by omega, h4⟩
theorem RowsF.add {g : Nat} (h : RowsF W n G vs R i) (hl : vs.length = i) (hf : Fl 3 W g (R i)) (hR : (R i).length = n) (hg : g < G) : RowsF W n G (vs ++ [.slice (some ⟨g, 0, none⟩) n n]) R (i + 1) := fun x hx => by
  by_cases e : x = i
  · subst e
    exact ⟨_, by rw [List.getElem?_append_right (by omega)]; simp [hl], g, rfl, hg, hf, hR⟩
  · obtain ⟨u, e1, e2⟩ := h x (by omega)
    exact ⟨u, by rw [List.getElem?_append_left (by omega)]; exact e1, e2⟩
end
structure BdJ (w : World) (gs gb : Nat) (A : Option Addr) (cap : Nat) (AI AO : Option Addr) (ci co i : Nat) (vi vo : List Value) (sup : List Int) (arcs : List Arc) (W : World) : Prop where
  b : Blk W gb 125 [.slice (some ⟨gs, 0, none⟩) sup.length sup.length, .slice A arcs.length cap, .slice AI i ci, .slice AO i co]
  s : Fl 2 W gs sup
  own : W.ownsRow w.heap.size 46 4 (.slice A arcs.length cap) arcs.length (flat arcV arcs)
  oi : W.ownsRow w.heap.size 26 1 (.slice AI i ci) i vi
  oo : W.ownsRow w.heap.size 26 1 (.slice AO i co) i vo
  dis : ∀ k, OwnB AI k → ¬ OwnB AO k
  lt : w.heap.size ≤ gs ∧ w.heap.size ≤ gb
  bel : Below w.heap.size w W
section
variable {w W V : World} {gs gb cap cap2 ci co i : Nat} {A A2 AI AO : Option Addr} {vi vo : List Value} {sup : List Int} {arcs arcs2 : List Arc}
theorem BdJ.below (h : BdJ w gs gb A cap AI AO ci co i vi vo sup arcs W) (hb : Below W.heap.size W V) : BdJ w gs gb A cap AI AO ci co i vi vo sup arcs V :=
  ⟨h.b.below hb h.b.lt, h.s.below hb, ownBelow h.own hb, ownBelow h.oi hb, ownBelow h.oo hb, h.dis, h.lt, h.bel.trans (hb.mono h.bel.size)⟩
theorem BdJ.other (h : BdJ w gs gb A cap AI AO ci co i vi vo sup arcs W) {p : Addr} {cs : List Value} (hb : Blk W p.block 3 cs) (hp : w.heap.size ≤ p.block) (u : Value) : BdJ w gs gb A cap AI AO ci co i vi vo sup arcs (W.setCell p u) :=
  ⟨h.b.setCell_ne (fun e => by have := h.b; rw [e] at this; exact blk_type_ne hb this (by decide) rfl) u, h.s.set_ne (fun e => by have := h.s; rw [e] at this; exact blk_type_ne hb this (by decide) rfl) u,
    ownSet h.own (own_blk_no hb h.own (by decide)) u, ownSet h.oi (own_blk_no hb h.oi (by decide)) u, ownSet h.oo (own_blk_no hb h.oo (by decide)) u, h.dis, h.lt, h.bel.setCell hp u⟩
theorem BdJ.set (h : BdJ w gs gb A cap AI AO ci co i vi vo sup arcs W) (k : Nat) (v : Int) : BdJ w gs gb A cap AI AO ci co i vi vo (sup.set k v) arcs (W.setCell ⟨gs, k, none⟩ (.int .i64 v)) :=
  ⟨by rw [List.length_set]; exact h.b.setCell_ne (fun e => blk_type_ne h.b h.s (by decide) e.symm) _, h.s.put k v,
    ownSet h.own (own_blk_no (g := gs) h.s h.own (by decide)) _, ownSet h.oi (own_blk_no (g := gs) h.s h.oi (by decide)) _, ownSet h.oo (own_blk_no (g := gs) h.s h.oo (by decide)) _, h.dis, h.lt, h.bel.setCell (by simp; exact h.lt.1) _⟩
theorem grow_own {B B' e e' z z' n n' c c' : Nat} {A A' : Option Addr} {xs xs' : List Value} (h : W.ownsRow B e z (.slice A n c) n xs) (h' : W.ownsRow B' e' z' (.slice A' n' c') n' xs') (hne : ∀ k, OwnB A k → ¬ OwnB A' k) (hg : W.grownBy V (Value.slice A' n' c').ownBlock) : V.ownsRow B e z (.slice A n c) n xs := by
  refine ⟨h.1, ?_⟩
  rcases h.2 with h2 | ⟨k, c1, cur, hv, hb, hgk, r⟩
  · exact .inl h2
  · refine .inr ⟨k, c1, cur, hv, hb, (hg.block k (Array.getElem?_eq_some_iff.1 hgk).1 (fun ek => ?_)).trans hgk, r⟩
    exact hne k ((ownB_iff (n := n) (cap := c)).2 (by rw [hv]; rfl)) (ownB_iff.2 ek.symm)
theorem own_type {B B' e e' z z' n n' c c' : Nat} {A A' : Option Addr} {xs xs' : List Value} (h : W.ownsRow B e z (.slice A n c) n xs) (h' : W.ownsRow B' e' z' (.slice A' n' c') n' xs') (hne : e ≠ e') : ∀ k, OwnB A k → ¬ OwnB A' k := by
  intro k h1 h2
  have k1 := ownB_iff (n := n) (cap := c) |>.1 h1
  have k2 := ownB_iff (n := n') (cap := c') |>.1 h2
  rcases h.2 with ⟨h0, _⟩ | ⟨g, c1, cur, hv, _, hg, _⟩
  · rw [h0] at k1; cases k1
  · rcases h'.2 with ⟨h0, _⟩ | ⟨g', c1', cur', hv', _, hg', _⟩
    · rw [h0] at k2; cases k2
    · rw [hv] at k1; rw [hv'] at k2
      simp only [Value.ownBlock, Option.some.injEq] at k1 k2
      subst k1; subst k2
      rw [hg] at hg'
      simp only [Option.some.injEq, Obj.cells.injEq] at hg'
      exact hne hg'.2.1
theorem BdJ.push (h : BdJ w gs gb A cap AI AO ci co i vi vo sup arcs W) (hg : W.grownBy V (Value.slice A arcs.length cap).ownBlock)
    (ho : V.ownsRow w.heap.size 46 4 (.slice A2 arcs2.length cap2) arcs2.length (flat arcV arcs2)) : BdJ w gs gb A2 cap2 AI AO ci co i vi vo sup arcs2 (V.setCell ⟨gb, 1, none⟩ (.slice A2 arcs2.length cap2)) := by
  have b1 := h.b.grown hg (blk_own_ne h.b h.own (by decide))
  have s1 : Fl 2 V gs sup := Blk.grown h.s hg (blk_own_ne h.s h.own (by decide))
  have i1 := grow_own h.oi h.own (own_type h.oi h.own (by decide)) hg
  have o1 := grow_own h.oo h.own (own_type h.oo h.own (by decide)) hg
  have bel1 : Below w.heap.size w V := h.bel.grown hg h.bel.size (fun k e => (World.ownsRow.lt h.own k e).1)
  refine ⟨b1.setCell 1 _, s1.set_ne (fun e => blk_type_ne b1 s1 (by decide) e) _, ownSet ho (own_blk_no (g := gb) b1 ho (by decide)) _, ownSet i1 (own_blk_no (g := gb) b1 i1 (by decide)) _, ownSet o1 (own_blk_no (g := gb) b1 o1 (by decide)) _, h.dis, h.lt, bel1.setCell (by simp; exact h.lt.2) _⟩
end
structure BkJ (w : World) (n G i gs gb gi go gc : Nat) (AI AO : Option Addr) (ci co : Nat) (vi vo : List Value) (RI RO : Nat → List Int) (cv : List Value) (A : Option Addr) (cap : Nat) (sup : List Int) (arcs : List Arc) (ri ro : List Int) (W : World) : Prop where
  d : BdJ w gs gb A cap AI AO ci co i vi vo sup arcs W
  fi : Fl 3 W gi ri
  fo : Fl 3 W go ro
  ne : gi ≠ go
  ge : (G ≤ gi ∧ G ≤ go) ∧ (w.heap.size ≤ gi ∧ w.heap.size ≤ go)
  ri : RowsF W n G vi RI i
  ro : RowsF W n G vo RO i
  car : Blk W gc 63 cv
section
variable {w W V : World} {n G i gs gb gi go gc ci co cap cap2 : Nat} {A A2 AI AO : Option Addr} {vi vo cv : List Value} {RI RO : Nat → List Int} {sup : List Int} {arcs arcs2 : List Arc} {ri ro : List Int}
theorem BkJ.below (h : BkJ w n G i gs gb gi go gc AI AO ci co vi vo RI RO cv A cap sup arcs ri ro W) (hb : Below W.heap.size W V) : BkJ w n G i gs gb gi go gc AI AO ci co vi vo RI RO cv A cap sup arcs ri ro V :=
  ⟨h.d.below hb, h.fi.below hb, h.fo.below hb, h.ne, h.ge, h.ri.below hb, h.ro.below hb, h.car.below hb h.car.lt⟩
theorem BkJ.alloc (h : BkJ w n G i gs gb gi go gc AI AO ci co vi vo RI RO cv A cap sup arcs ri ro W) (o : Obj) : BkJ w n G i gs gb gi go gc AI AO ci co vi vo RI RO cv A cap sup arcs ri ro (W.alloc o) := h.below ((Below.refl _ _).alloc (Nat.le_refl _) o)
theorem BkJ.push (h : BkJ w n G i gs gb gi go gc AI AO ci co vi vo RI RO cv A cap sup arcs ri ro W) (hg : W.grownBy V (Value.slice A arcs.length cap).ownBlock)
    (ho : V.ownsRow w.heap.size 46 4 (.slice A2 arcs2.length cap2) arcs2.length (flat arcV arcs2)) : BkJ w n G i gs gb gi go gc AI AO ci co vi vo RI RO cv A2 cap2 sup arcs2 ri ro (V.setCell ⟨gb, 1, none⟩ (.slice A2 arcs2.length cap2)) := by
  have b1 := h.d.b.grown hg (blk_own_ne h.d.b h.d.own (by decide))
  have f1 : Fl 3 V gi ri := Blk.grown h.fi hg (blk_own_ne h.fi h.d.own (by decide))
  have f2 : Fl 3 V go ro := Blk.grown h.fo hg (blk_own_ne h.fo h.d.own (by decide))
  have c1 : Blk V gc 63 cv := Blk.grown h.car hg (blk_own_ne h.car h.d.own (by decide))
  exact ⟨h.d.push hg ho, f1.set_ne (fun e => blk_type_ne b1 f1 (by decide) e) _, f2.set_ne (fun e => blk_type_ne b1 f2 (by decide) e) _, h.ne, h.ge,
    (h.ri.grown h.d.own (by decide) hg).set (p := ⟨gb, 1, none⟩) b1 (.inl (by decide)) _, (h.ro.grown h.d.own (by decide) hg).set (p := ⟨gb, 1, none⟩) b1 (.inl (by decide)) _, c1.setCell_ne (fun e => blk_type_ne b1 c1 (by decide) e) _⟩
theorem BkJ.set (h : BkJ w n G i gs gb gi go gc AI AO ci co vi vo RI RO cv A cap sup arcs ri ro W) (k : Nat) (v : Int) : BkJ w n G i gs gb gi go gc AI AO ci co vi vo RI RO cv A cap (sup.set k v) arcs ri ro (W.setCell ⟨gs, k, none⟩ (.int .i64 v)) :=
  ⟨h.d.set k v, h.fi.set_ne (fun e => blk_type_ne h.d.s h.fi (by decide) e) _, h.fo.set_ne (fun e => blk_type_ne h.d.s h.fo (by decide) e) _, h.ne, h.ge, h.ri.set (p := ⟨gs, k, none⟩) h.d.s (.inl (by decide)) _, h.ro.set (p := ⟨gs, k, none⟩) h.d.s (.inl (by decide)) _, h.car.setCell_ne (fun e => blk_type_ne h.d.s h.car (by decide) e) _⟩
theorem BkJ.seti (h : BkJ w n G i gs gb gi go gc AI AO ci co vi vo RI RO cv A cap sup arcs ri ro W) (k : Nat) (v : Int) : BkJ w n G i gs gb gi go gc AI AO ci co vi vo RI RO cv A cap sup arcs (ri.set k v) ro (W.setCell ⟨gi, k, none⟩ (.int .i64 v)) :=
  ⟨h.d.other (p := ⟨gi, k, none⟩) h.fi h.ge.2.1 _, h.fi.put k v, h.fo.set_ne (fun e => h.ne e.symm) _, h.ne, h.ge, h.ri.set (p := ⟨gi, k, none⟩) h.fi (.inr h.ge.1.1) _, h.ro.set (p := ⟨gi, k, none⟩) h.fi (.inr h.ge.1.1) _, h.car.setCell_ne (fun e => blk_type_ne h.fi h.car (by decide) e) _⟩
theorem BkJ.seto (h : BkJ w n G i gs gb gi go gc AI AO ci co vi vo RI RO cv A cap sup arcs ri ro W) (k : Nat) (v : Int) : BkJ w n G i gs gb gi go gc AI AO ci co vi vo RI RO cv A cap sup arcs ri (ro.set k v) (W.setCell ⟨go, k, none⟩ (.int .i64 v)) :=
  ⟨h.d.other (p := ⟨go, k, none⟩) h.fo h.ge.2.2 _, h.fi.set_ne (fun e => h.ne e) _, h.fo.put k v, h.ne, h.ge, h.ri.set (p := ⟨go, k, none⟩) h.fo (.inr h.ge.1.2) _, h.ro.set (p := ⟨go, k, none⟩) h.fo (.inr h.ge.1.2) _, h.car.setCell_ne (fun e => blk_type_ne h.fo h.car (by decide) e) _⟩
end
set_option maxHeartbeats 2000000 in
set_option maxRecDepth 100000 in
theorem addG_c (W : World) (gb n cap B m c : Nat) (A Bo : Option Addr) (v0 v2 v3 : Value) (arcs news : List Arc) (hn : n = arcs.length) (hm : m = news.length) (hnm : n + m ≤ 4096) (hb : Blk W gb 125 [v0, .slice A n cap, v2, v3]) (ho : W.ownsRow B 46 4 (.slice A n cap) n (flat arcV arcs)) (hs : SrcRow W Bo m (flat arcV news)) (hB : B ≤ W.heap.size) :
    Calls Try.prog 108 #[.pointer (some ⟨gb, 0, none⟩), .slice Bo m c] W fun e W' => ∃ A2 cap2 V, e = .returned (.int .i64 n) ∧ W' = V.setCell ⟨gb, 1, none⟩ (.slice A2 (n + m) cap2) ∧ W.grownBy V (Value.slice A n cap).ownBlock ∧ V.ownsRow B 46 4 (.slice A2 (n + m) cap2) (n + m) (flat arcV (arcs ++ news)) := by
  have X := Lib.hid hb
  have HO := Lib.hid ho
  have HS := Lib.hid hs
  have HN := Lib.hid hn
  have HM := Lib.hid hm
  have FL := Lib.hid (flat_length (f := arcV) (s := 4) (fun _ => rfl) news)
  clear hb ho hs hn hm
  obtain ⟨i3, h3i, h3z, h3s, h3b⟩ := info_parts info46
  have y0 := X.out.cell 1 rfl
  have wnm : IntKind.i64.wrap ((n : Int) + (m : Int) - (m : Int)) = (n : Int) := by rw [show (n : Int) + (m : Int) - (m : Int) = n by omega]; exact IntWalk.i64_in _ (by omega)
  go_enter Try.func108, Try.ntmps108
  go_wp2_with (at_builtin; refine wpList_append_any (.tmp 10) (.tmp 11) 23 rfl rfl B 46 i3 (.agg #[.int .i64 0, .int .i64 0, .int .i64 0, .int .i64 0]) 4 32 Try.underlying23 h3i h3z h3s h3b rfl (by decide) A n cap (flat arcV arcs) (by rfl) HO.out Bo m c (flat arcV news) (by rfl) (by rw [FL.out, HM.out]) HS.out (by intro u hu; obtain ⟨a, _, ha⟩ := List.mem_flatMap.1 hu; simp [arcV] at ha; rcases ha with rfl | rfl | rfl | rfl <;> rfl) (by unfold maxLen; omega) (by omega) hB ?_; intro A2 c2 v hown hgrow hat; have HO2 := Lib.hid hown; have HG2 := Lib.hid hgrow; have MM := X.out.grown hgrow (blk_own_ne X.out HO.out (by decide)); clear y0; have y0 := MM.cell 1 rfl; have q0 := MM.free 1; have ML := MM.lt; have XX := Lib.hid (MM.setCell 1 (.slice A2 (n + m) c2)); clear MM hown hgrow hat)
  go_upto_region 2 with fail
  have HW : Hid (v.setCell ⟨gb, 1, none⟩ (.slice A2 (n + m) c2) = v.setCell ⟨gb, 1, none⟩ (.slice A2 (n + m) c2)) := Lib.hid rfl
  generalize hv1 : v.setCell ⟨gb, 1, none⟩ (.slice A2 (n + m) c2) = v1 at XX ⊢
  have HV1 := Lib.hid hv1
  clear y0 q0 hv1 HW
  have y0 := XX.out.cell 1 rfl
  go_wp2_with fail
  exact bodyPost_ret (v := .int .i64 n) (by simp [results, Try.results108, go_sem]) rfl ⟨A2, c2, v, rfl, HV1.out.symm, HG2.out, by rw [flat_append]; exact HO2.out⟩
end Go.Proofs.Ytmebpglkeedaoaa
namespace Go.Proofs.Ytmebpglkeedaoaa
open Go.RowKit Dp
end Go.Proofs.Ytmebpglkeedaoaa
namespace Go.Proofs.Ytmebpglkeedaoaa
open Go.RowKit Dp
set_option maxHeartbeats 4000000 in
set_option maxRecDepth 100000 in
theorem price_c (A B C D P Q : Option Addr) (S : Site) (T : Tab) (n nB nC nD m mo cA cB cC cD cP cQ : Nat) (w : World) (hn : n = S.lim.length) (hnC : n = S.buy.length) (hnD : n = S.sell.length) (hm : m = T.inn.length) (hmo : mo = T.out.length) (hmm : m ≤ mo) (h8 : m ≤ 8) (h48 : n ≤ 48) (hC1 : nC = n) (hD1 : nD = n)
    (hP : m ≤ cP ∧ cP ≤ 9223372036854775807) (hQ : mo ≤ cQ ∧ cQ ≤ 9223372036854775807) (hS : SiteAt w A B C D S) (hT : TabAt w P Q T) (hB : ∀ k, k < n → slotOk S k = true ∧ SlotBd T k m) :
    Calls Try.prog 81 #[.agg #[.slice A nD cA, .slice B nB cB, .slice C nD cC, .slice D nD cD], .agg #[.slice P m cP, .slice Q mo cQ]] w fun e w' => e = .returned (.int .i64 (prc S T m n)) ∧ Below w.heap.size w w' := by
  subst hC1
  subst hD1
  have HN := Lib.hid hn
  have HC := Lib.hid hnC
  have HD := Lib.hid hnD
  have HM := Lib.hid hm
  have HMO := Lib.hid hmo
  have HS := Lib.hid hS
  have HT := Lib.hid hT
  have HBD := Lib.hid hB
  have F89 : Hid (∀ k V, k < nD → Below w.heap.size w V → Calls Try.prog 89 #[.agg #[.slice P m cP, .slice Q mo cQ], .int .i64 k] V fun e w' => e = .returned (.int .i64 (drP T k m)) ∧ Below V.heap.size V w') := Lib.hid (fun k V hk hV => drawn_c P Q T m mo cP cQ k V hm hmo hmm h8 hP hQ (hT.below hV (Nat.le_refl _)) (hB k hk).2)
  have HPB := Lib.hid (fun k (hk : k ≤ nD) => prc_bd (S := S) (T := T) h8 k (fun j hj => hB j (by omega)))
  have HQB := Lib.hid (fun k (hk : k < nD) => prQ_bd (hB k hk).1 (hB k hk).2 h8)
  clear hn hnC hnD hm hmo hS hT hB
  have HB := Lib.hid (((Below.refl w.heap.size w).alloc (Nat.le_refl _) (.cells #[.slice A nD cA, .slice B nB cB, .slice C nD cC, .slice D nD cD] 51)).alloc (by simp) (.cells #[.slice P m cP, .slice Q mo cQ] 55))
  have XS := Lib.hid ((Blk.new' w #[.slice A nD cA, .slice B nB cB, .slice C nD cC, .slice D nD cD] 51).alloc (.cells #[.slice P m cP, .slice Q mo cQ] 55))
  have XT := Lib.hid (show Blk ((w.alloc (.cells #[.slice A nD cA, .slice B nB cB, .slice C nD cC, .slice D nD cD] 51)).alloc (.cells #[.slice P m cP, .slice Q mo cQ] 55)) (w.heap.size + 1) 55 [.slice P m cP, .slice Q mo cQ] from by simpa using Blk.new' (w.alloc (.cells #[.slice A nD cA, .slice B nB cB, .slice C nD cC, .slice D nD cD] 51)) #[.slice P m cP, .slice Q mo cQ] 55)
  go_enter Try.func81, Try.ntmps81
  go_upto_region 1 with fail
  generalize (w.alloc (.cells #[.slice A nD cA, .slice B nB cB, .slice C nD cC, .slice D nD cD] 51)).alloc (.cells #[.slice P m cP, .slice Q mo cQ] 55) = w1 at HB XS XT ⊢
  have s0 := XS.out.cell 0 rfl
  go_wp2_with fail
  clear s0
  go_loopw [4, 5, 6, 10] (fun sv _ _ iv wr => ∃ j : Nat, j ≤ nD ∧ iv = .int .i64 j ∧ sv = .int .i64 (prc S T m j) ∧ Hid (Below w1.heap.size w1 wr)) (fun _ _ _ iv _ => nD - (intOf iv).toNat)
  case atStart => exact ⟨0, Nat.zero_le _, rfl, rfl, Lib.hid (Below.refl _ _)⟩
  case round =>
    obtain ⟨j, hj, rfl, rfl, HW⟩ := hrel
    have HX := Lib.hid (HB.out.trans (HW.out.mono HB.out.size))
    by_cases hlt : j < nD
    · have hji : (j : Int) < (nD : Int) := by omega
      have XTW := XT.out.below HW.out XT.out.lt
      have t0 := XTW.cell 0 rfl
      have t1 := XTW.cell 1 rfl
      have tl := XTW.lt
      clear XTW
      have HF := F89.out j wr hlt HX.out
      have HPV := HPB.out j hj
      have HQV := HQB.out j hlt
      have HST : Hid (prc S T m (j + 1) = prc S T m j + prQ S T m j) := Lib.hid rfl
      have HQD : Hid (prQ S T m j = max 0 (drP T j m) * S.buy.getD j 0 + min 0 (drP T j m) * S.sell.getD j 0) := Lib.hid rfl
      have HDD := Lib.hid (fun V (hV : Below w.heap.size w V) => (⟨(HS.out.below hV (Nat.le_refl _)).2.2.1 j (by rw [← HC.out]; exact hlt), (HS.out.below hV (Nat.le_refl _)).2.2.2 j (by rw [← HD.out]; exact hlt)⟩ : _ ∧ _))
      generalize S.buy.getD j 0 = by1 at *
      generalize S.sell.getD j 0 = se at *
      generalize drP T j m = d at *
      go_wp2_with fail
      refine HF.mono ?_
      rintro e w2 ⟨rfl, hb⟩
      have HW2 := Lib.hid (HW.out.trans (hb.mono HW.out.size))
      have HX2 := Lib.hid (HB.out.trans (HW2.out.mono HB.out.size))
      clear hb HF HX HW t0 t1 tl
      have XSW := XS.out.below HW2.out XS.out.lt
      have s2 := XSW.cell 2 rfl
      have s3 := XSW.cell 3 rfl
      have sl := XSW.lt
      clear XSW
      obtain ⟨⟨ba, hba, bal, bx⟩, sa, hsa, sal, sx⟩ := HDD.out w2 HX2.out
      rw [hba] at s2
      rw [hsa] at s3
      have ba2 : (ba.add j).block < w2.heap.size := by rw [block_add]; exact bal
      have sa2 : (sa.add j).block < w2.heap.size := by rw [block_add]; exact sal
      clear hba hsa HDD
      generalize prc S T m j = pv at *
      have hm1 := fun ts t W => maxTwo 0 d ts t W
      have hm2 := fun ts t W => minTwo 0 d ts t W
      generalize max 0 d = dx at *
      generalize min 0 d = dn at *
      obtain ⟨q1, hq1⟩ : ∃ q1, q1 = dx * by1 := ⟨_, rfl⟩
      obtain ⟨q2, hq2⟩ : ∃ q2, q2 = dn * se := ⟨_, rfl⟩
      rw [← hq1, ← hq2] at HQV
      have w1e : IntKind.i64.wrap (dx * by1) = q1 := by rw [← hq1]; exact IntWalk.i64_in _ (by omega)
      have w2e : IntKind.i64.wrap (dn * se) = q2 := by rw [← hq2]; exact IntWalk.i64_in _ (by omega)
      have w3e : IntKind.i64.wrap (q1 + q2) = q1 + q2 := IntWalk.i64_in _ (by omega)
      have w4e : IntKind.i64.wrap (pv + (q1 + q2)) = pv + (q1 + q2) := IntWalk.i64_in _ (by omega)
      have HE : Hid (prc S T m (j + 1) = pv + (q1 + q2)) := Lib.hid (by rw [HST.out, HQD.out, hq1, hq2])
      clear hq1 hq2 HPV HQV HQD HST
      go_upto_region 5 with fail
      refine wp_region_past (by kernel_rfl) (by kernel_rfl) ?_
      repeat (go_big_quiet_step (fail))
      refine wpQuiet_nil ?_
      intro xx
      have HY := Lib.hid (HW2.out.trans (xx.far.mono HW2.out.size))
      generalize xx.w = w3 at HY ⊢
      clear s2 s3 sl bal sal bx sx ba2 sa2 w1e w2e w3e w4e hm1 hm2
      go_wp2_with fail
      exact ⟨⟨j + 1, by omega, by go_num, by rw [HE.out], HY⟩, by simp [intOf]; omega⟩
    · obtain rfl : j = nD := by omega
      go_wp2_with fail
      go_ret
      exact ⟨rfl, HX.out⟩
end Go.Proofs.Ytmebpglkeedaoaa
namespace Go.Proofs.Ytmebpglkeedaoaa
open Go.RowKit Dp
end Go.Proofs.Ytmebpglkeedaoaa
namespace Go.Proofs.Ytmebpglkeedaoaa
open Go.RowKit Dp
set_option maxHeartbeats 4000000 in
set_option maxRecDepth 100000 in
theorem car_c (cap inn out start fin : Int) (trips : List Trip) (T : Option Addr) (n q cT : Nat) (w : World) (hq : q = trips.length) (hcT : q ≤ cT ∧ cT ≤ 9223372036854775807) (hT : TripsAt w T trips) :
    Calls Try.prog 73 #[.agg #[.int .i64 cap, .int .i64 inn, .int .i64 out, .int .i64 start, .int .i64 fin, .slice T q cT], .int .i64 n] w fun e w' => e = .returned (.bool (carOk n ⟨cap, inn, out, start, fin, trips⟩)) ∧ Below w.heap.size w w' := by
  have HQ := Lib.hid hq
  have XC := Lib.hid (Blk.new' w #[.int .i64 cap, .int .i64 inn, .int .i64 out, .int .i64 start, .int .i64 fin, .slice T q cT] 63)
  have HX := Lib.hid ((Below.refl w.heap.size w).alloc (Nat.le_refl _) (.cells #[.int .i64 cap, .int .i64 inn, .int .i64 out, .int .i64 start, .int .i64 fin, .slice T q cT] 63))
  have HTR := Lib.hid (hT.below HX.out (Nat.le_refl _))
  clear hq hT
  go_enter Try.func73, Try.ntmps73
  go_upto_region 1 with fail
  generalize w.alloc (.cells #[.int .i64 cap, .int .i64 inn, .int .i64 out, .int .i64 start, .int .i64 fin, .slice T q cT] 63) = w1 at XC HX HTR ⊢
  have e0 := XC.out.cell 0 rfl
  have e1 := XC.out.cell 1 rfl
  have e2 := XC.out.cell 2 rfl
  have e3 := XC.out.cell 3 rfl
  have e4 := XC.out.cell 4 rfl
  have e5 := XC.out.cell 5 rfl
  by_cases a0 : 1 ≤ cap ∧ cap ≤ 1048576
  rotate_left
  · have f0 : inB cap 1 1048576 = false := decide_eq_false a0
    have EE := Lib.hid (carOk_head (n := n) (c := ⟨cap, inn, out, start, fin, trips⟩) (by simp only [carHead]; exact decide_eq_false (fun h => by omega)))
    clear a0
    go_wp2_with (go_at_call 60; refine (within_c _ _ _ _).mono ?_; rintro e w9 ⟨rfl, rfl⟩)
    go_ret
    exact ⟨ret_bool EE.out.symm, HX.out⟩
  have f0 : inB cap 1 1048576 = true := decide_eq_true a0
  by_cases a1 : 0 ≤ inn ∧ inn ≤ 1048576
  rotate_left
  · have f1 : inB inn 0 1048576 = false := decide_eq_false a1
    have EE := Lib.hid (carOk_head (n := n) (c := ⟨cap, inn, out, start, fin, trips⟩) (by simp only [carHead]; exact decide_eq_false (fun h => by omega)))
    clear a0 a1
    go_wp2_with (go_at_call 60; refine (within_c _ _ _ _).mono ?_; rintro e w9 ⟨rfl, rfl⟩)
    go_ret
    exact ⟨ret_bool EE.out.symm, HX.out⟩
  have f1 : inB inn 0 1048576 = true := decide_eq_true a1
  by_cases a2 : 0 ≤ out ∧ out ≤ 1048576
  rotate_left
  · have f2 : inB out 0 1048576 = false := decide_eq_false a2
    have EE := Lib.hid (carOk_head (n := n) (c := ⟨cap, inn, out, start, fin, trips⟩) (by simp only [carHead]; exact decide_eq_false (fun h => by omega)))
    clear a0 a1 a2
    go_wp2_with (go_at_call 60; refine (within_c _ _ _ _).mono ?_; rintro e w9 ⟨rfl, rfl⟩)
    go_ret
    exact ⟨ret_bool EE.out.symm, HX.out⟩
  have f2 : inB out 0 1048576 = true := decide_eq_true a2
  by_cases a3 : 0 ≤ start ∧ start ≤ cap
  rotate_left
  · have f3 : inB start 0 cap = false := decide_eq_false a3
    have EE := Lib.hid (carOk_head (n := n) (c := ⟨cap, inn, out, start, fin, trips⟩) (by simp only [carHead]; exact decide_eq_false (fun h => by omega)))
    clear a0 a1 a2 a3
    go_wp2_with (go_at_call 60; refine (within_c _ _ _ _).mono ?_; rintro e w9 ⟨rfl, rfl⟩)
    go_ret
    exact ⟨ret_bool EE.out.symm, HX.out⟩
  have f3 : inB start 0 cap = true := decide_eq_true a3
  by_cases a4 : 0 ≤ fin ∧ fin ≤ cap
  rotate_left
  · have f4 : inB fin 0 cap = false := decide_eq_false a4
    have EE := Lib.hid (carOk_head (n := n) (c := ⟨cap, inn, out, start, fin, trips⟩) (by simp only [carHead]; exact decide_eq_false (fun h => by omega)))
    clear a0 a1 a2 a3 a4
    go_wp2_with (go_at_call 60; refine (within_c _ _ _ _).mono ?_; rintro e w9 ⟨rfl, rfl⟩)
    go_ret
    exact ⟨ret_bool EE.out.symm, HX.out⟩
  have f4 : inB fin 0 cap = true := decide_eq_true a4
  by_cases a5 : 4 < q
  · have a5i : (4 : Int) < (q : Int) := by omega
    have EE := Lib.hid (carOk_head (n := n) (c := ⟨cap, inn, out, start, fin, trips⟩) (by simp only [carHead]; exact decide_eq_false (fun h => by have := HQ.out; omega)))
    clear a0 a1 a2 a3 a4
    go_wp2_with (go_at_call 60; refine (within_c _ _ _ _).mono ?_; rintro e w9 ⟨rfl, rfl⟩)
    go_ret
    exact ⟨ret_bool EE.out.symm, HX.out⟩
  have a5i : ¬ (4 : Int) < (q : Int) := by omega
  have HHD : Hid (carHead ⟨cap, inn, out, start, fin, trips⟩ = true) := Lib.hid (by simp only [carHead]; exact decide_eq_true (by have := HQ.out; omega))
  clear a0 a1 a2 a3 a4
  go_upto_region 3 with (go_at_call 60; refine (within_c _ _ _ _).mono ?_; rintro e w9 ⟨rfl, rfl⟩)
  clear f0 f1 f2 f3 f4 e0 e1 e2 e3 e4 e5 a5i
  go_wp2_with fail
  go_loopw [5, 6, 7] (fun bk iv _ wr => ∃ k : Nat, k ≤ q ∧ iv = .int .i64 k ∧ bk = .int .i64 (backAt trips k) ∧ Hid (Below w.heap.size w wr ∧ Blk wr w.heap.size 63 [.int .i64 cap, .int .i64 inn, .int .i64 out, .int .i64 start, .int .i64 fin, .slice T q cT] ∧ TripsAt wr T trips ∧ ∀ x, x < k → tripOk cap n trips x = true)) (fun _ iv _ _ => q - (intOf iv).toNat)
  case atStart => exact ⟨0, Nat.zero_le _, rfl, rfl, Lib.hid ⟨HX.out, XC.out, HTR.out, fun j hj => absurd hj (Nat.not_lt_zero _)⟩⟩
  case round =>
    obtain ⟨k, hk, rfl, rfl, HK⟩ := hrel
    have e5 := HK.out.2.1.cell 5 rfl
    by_cases hlt : k < q
    · have hki : (k : Int) < (q : Int) := by omega
      have kl : k < trips.length := by rw [← HQ.out]; exact hlt
      obtain ⟨td, rfl, tbl, t0, t1, t2⟩ := HK.out.2.2.1 k kl
      have HOK := Lib.hid (show tripOk cap n trips k = decide (backAt trips k ≤ (trips.getD k default).fr ∧ (trips.getD k default).fr < (trips.getD k default).to ∧ (trips.getD k default).to ≤ n ∧ (0 ≤ (trips.getD k default).use ∧ (trips.getD k default).use ≤ cap)) from rfl)
      have HBK := Lib.hid (show backAt trips (k + 1) = (trips.getD k default).to from rfl)
      have HBD : Hid (tripOk cap n trips k = false → carOk n ⟨cap, inn, out, start, fin, trips⟩ = false) := Lib.hid (fun h => carOk_trip (c := ⟨cap, inn, out, start, fin, trips⟩) k kl h)
      generalize trips.getD k default = tr at *
      obtain ⟨fr, «to», us⟩ := tr
      simp only at t0 t1 t2 HOK HBK
      generalize hbk : backAt trips k = bk at *
      clear hbk
      go_upto_region 8 with fail
      have HZ := Lib.hid (HK.out.1.alloc (by have := HK.out.2.1.lt; omega) (.cells #[.int .i64 fr, .int .i64 «to», .int .i64 us] 65))
      have ZC := Lib.hid (Blk.alloc HK.out.2.1 (.cells #[.int .i64 fr, .int .i64 «to», .int .i64 us] 65))
      have ZT := Lib.hid (Blk.new' wr #[.int .i64 fr, .int .i64 «to», .int .i64 us] 65)
      have ZTR := Lib.hid (HK.out.2.2.1.below ((Below.refl wr.heap.size wr).alloc (Nat.le_refl _) (.cells #[.int .i64 fr, .int .i64 «to», .int .i64 us] 65)) (Nat.le_refl _))
      generalize wr.alloc (.cells #[.int .i64 fr, .int .i64 «to», .int .i64 us] 65) = wz at HZ ZC ZT ZTR ⊢
      generalize wr.heap.size = gt at *
      clear t0 t1 t2 tbl e5
      have f0 := ZT.out.cell 0 rfl
      have f1 := ZT.out.cell 1 rfl
      have f2 := ZT.out.cell 2 rfl
      have e0 := ZC.out.cell 0 rfl
      by_cases s1 : fr < bk
      · have EE := Lib.hid (HBD.out (by rw [HOK.out]; exact decide_eq_false (fun h => by omega)))
        go_wp2_with fail
        go_ret
        exact ⟨ret_bool EE.out.symm, HZ.out⟩
      by_cases s2 : «to» ≤ fr
      · have EE := Lib.hid (HBD.out (by rw [HOK.out]; exact decide_eq_false (fun h => by omega)))
        go_wp2_with fail
        go_ret
        exact ⟨ret_bool EE.out.symm, HZ.out⟩
      by_cases s3 : (n : Int) < «to»
      · have EE := Lib.hid (HBD.out (by rw [HOK.out]; exact decide_eq_false (fun h => by omega)))
        go_wp2_with fail
        go_ret
        exact ⟨ret_bool EE.out.symm, HZ.out⟩
      by_cases s4 : 0 ≤ us ∧ us ≤ cap
      · have g4 : inB us 0 cap = true := decide_eq_true s4
        have SS := Lib.hid (show tripOk cap n trips k = true from by rw [HOK.out]; exact decide_eq_true (by omega))
        clear s4
        go_wp2_with (go_at_call 60; refine (within_c _ _ _ _).mono ?_; rintro e w9 ⟨rfl, rfl⟩)
        go_roundw
        case measure => simp [intOf]; omega
        case rel =>
          refine ⟨k + 1, by omega, by go_num, by rw [HBK.out], Lib.hid ⟨HZ.out, ZC.out, ZTR.out, fun x hx => ?_⟩⟩
          by_cases hxk : x < k
          · exact HK.out.2.2.2 x hxk
          · obtain rfl : x = k := by omega
            exact SS.out
      · have g4 : inB us 0 cap = false := decide_eq_false s4
        have EE := Lib.hid (HBD.out (by rw [HOK.out]; exact decide_eq_false (fun h => by omega)))
        clear s4
        go_wp2_with (go_at_call 60; refine (within_c _ _ _ _).mono ?_; rintro e w9 ⟨rfl, rfl⟩)
        go_ret
        exact ⟨ret_bool EE.out.symm, HZ.out⟩
    · obtain rfl : k = q := by omega
      have HCK := Lib.hid (carOk_ok (n := n) (c := ⟨cap, inn, out, start, fin, trips⟩) HHD.out (fun x hx => HK.out.2.2.2 x (by rw [HQ.out]; exact hx)))
      go_wp2_with fail
      go_ret
      exact ⟨ret_bool HCK.out.symm, HK.out.1⟩
set_option maxHeartbeats 8000000 in
set_option maxRecDepth 100000 in
theorem CheckSiteR_c (A B C D E : Option Addr) (S : Site) (cs : List Car) (n nB nC nD m cA cB cC cD cE : Nat) (w : World) (hn : n = S.lim.length) (hnB : nB = S.exp.length) (hnC : nC = S.buy.length) (hnD : nD = S.sell.length) (hm : m = cs.length)
    (hA : n ≤ cA ∧ cA ≤ 9223372036854775807) (hB : nB ≤ cB ∧ cB ≤ 9223372036854775807) (hC : nC ≤ cC ∧ cC ≤ 9223372036854775807) (hD : nD ≤ cD ∧ cD ≤ 9223372036854775807) (hE : m ≤ cE ∧ cE ≤ 9223372036854775807)
    (hS : SiteAt w A B C D S) (hcs : CarsAt w E cs) :
    Calls Try.prog 31 #[.agg #[.slice A n cA, .slice B nB cB, .slice C nC cC, .slice D nD cD], .slice E m cE] w fun e w' => e = .returned (.int .i64 (stE S cs)) ∧ Below w.heap.size w w' := by
  have HN := Lib.hid hn
  have HNB := Lib.hid hnB
  have HNC := Lib.hid hnC
  have HND := Lib.hid hnD
  have HM := Lib.hid hm
  have HS := Lib.hid hS
  have HCS := Lib.hid hcs
  clear hn hnB hnC hnD hm hS hcs
  have X := Lib.hid (Blk.new' w #[.slice A n cA, .slice B nB cB, .slice C nC cC, .slice D nD cD] 51)
  have HB := Lib.hid ((Below.refl w.heap.size w).alloc (Nat.le_refl _) (.cells #[.slice A n cA, .slice B nB cB, .slice C nC cC, .slice D nD cD] 51))
  go_enter Try.func31, Try.ntmps31
  go_upto_region 1 with fail
  generalize w.alloc (.cells #[.slice A n cA, .slice B nB cB, .slice C nC cC, .slice D nD cD] 51) = w1 at X HB ⊢
  by_cases q1 : 8 < m
  · have q1i : (8 : Int) < (m : Int) := by omega
    have EE := Lib.hid (stE_many (S := S) (cs := cs) (by rw [← HM.out]; exact q1))
    go_wp2_with fail
    go_ret
    exact ⟨ret_int EE.out.symm, HB.out⟩
  have q1i : ¬ (8 : Int) < (m : Int) := by omega
  have HQ1 : Hid (¬ 8 < cs.length) := Lib.hid (by rw [← HM.out]; exact q1)
  have x0 := X.out.cell 0 rfl
  have x1 := X.out.cell 1 rfl
  have x2 := X.out.cell 2 rfl
  have x3 := X.out.cell 3 rfl
  by_cases q2 : n < 1
  · have q2i : (n : Int) < 1 := by omega
    have EE := Lib.hid (stE_head (S := S) (cs := cs) HQ1.out (by simp [siteHead, ← HN.out, ← HNB.out, ← HNC.out, ← HND.out]; omega))
    go_wp2_with fail
    go_ret
    exact ⟨ret_int EE.out.symm, HB.out⟩
  have q2i : ¬ (n : Int) < 1 := by omega
  by_cases q3 : 48 < n
  · have q3i : (48 : Int) < (n : Int) := by omega
    have EE := Lib.hid (stE_head (S := S) (cs := cs) HQ1.out (by simp [siteHead, ← HN.out, ← HNB.out, ← HNC.out, ← HND.out]; omega))
    go_wp2_with fail
    go_ret
    exact ⟨ret_int EE.out.symm, HB.out⟩
  have q3i : ¬ (48 : Int) < (n : Int) := by omega
  by_cases q4 : nB ≠ n
  · have q4i : ¬ (nB : Int) = (n : Int) := by omega
    have q4b : ((nB : Int) == (n : Int)) = false := by simpa using q4i
    have EE := Lib.hid (stE_head (S := S) (cs := cs) HQ1.out (by simp [siteHead, ← HN.out, ← HNB.out, ← HNC.out, ← HND.out]; omega))
    go_wp2_with fail
    go_ret
    exact ⟨ret_int EE.out.symm, HB.out⟩
  obtain rfl : n = nB := by omega
  by_cases q5 : nC ≠ n
  · have q5i : ¬ (nC : Int) = (n : Int) := by omega
    have q5b : ((nC : Int) == (n : Int)) = false := by simpa using q5i
    have EE := Lib.hid (stE_head (S := S) (cs := cs) HQ1.out (by simp [siteHead, ← HN.out, ← HNB.out, ← HNC.out, ← HND.out]; omega))
    go_wp2_with fail
    go_ret
    exact ⟨ret_int EE.out.symm, HB.out⟩
  obtain rfl : n = nC := by omega
  by_cases q6 : nD ≠ n
  · have q6i : ¬ (nD : Int) = (n : Int) := by omega
    have q6b : ((nD : Int) == (n : Int)) = false := by simpa using q6i
    have EE := Lib.hid (stE_head (S := S) (cs := cs) HQ1.out (by simp [siteHead, ← HN.out, ← HNB.out, ← HNC.out, ← HND.out]; omega))
    go_wp2_with fail
    go_ret
    exact ⟨ret_int EE.out.symm, HB.out⟩
  obtain rfl : n = nD := by omega
  have HH : Hid (siteHead S = true) := Lib.hid (by simp [siteHead, ← HN.out, ← HNB.out, ← HNC.out, ← HND.out]; omega)
  go_wp2_with fail
  clear x0 x1 x2 x3
  go_loopw [6] (fun iv wr => ∃ t : Nat, t ≤ n ∧ iv = .int .i64 t ∧ Hid (Below w.heap.size w wr ∧ Blk wr w.heap.size 51 [.slice A n cA, .slice B n cB, .slice C n cC, .slice D n cD] ∧ ∀ j, j < t → slotOk S j = true)) (fun iv _ => n - (intOf iv).toNat)
  case atStart => exact ⟨0, Nat.zero_le _, rfl, Lib.hid ⟨HB.out, X.out, fun j hj => absurd hj (Nat.not_lt_zero _)⟩⟩
  case round =>
    obtain ⟨t, ht, rfl, HW⟩ := hrel
    by_cases hlt : t < n
    · have hti : (t : Int) < (n : Int) := by omega
      have hcA := hA.1
      have tA : t < S.lim.length := by rw [← HN.out]; exact hlt
      obtain ⟨aL, rfl, aLb, aLc⟩ := HS.out.1 t tA
      obtain ⟨aE, rfl, aEb, aEc⟩ := HS.out.2.1 t (by rw [← HNB.out]; exact hlt)
      obtain ⟨aB, rfl, aBb, aBc⟩ := HS.out.2.2.1 t (by rw [← HNC.out]; exact hlt)
      obtain ⟨aS, rfl, aSb, aSc⟩ := HS.out.2.2.2 t (by rw [← HND.out]; exact hlt)
      have HV : Hid (∀ V, Below w.heap.size w V → (V.cell? (aL.add t) = some (.int .i64 (S.lim.getD t 0)) ∧ (aL.add t).block < V.heap.size) ∧ (V.cell? (aE.add t) = some (.int .i64 (S.exp.getD t 0)) ∧ (aE.add t).block < V.heap.size) ∧ (V.cell? (aB.add t) = some (.int .i64 (S.buy.getD t 0)) ∧ (aB.add t).block < V.heap.size) ∧ (V.cell? (aS.add t) = some (.int .i64 (S.sell.getD t 0)) ∧ (aS.add t).block < V.heap.size)) := Lib.hid (fun V hV => by
        have k := hV.size
        exact ⟨⟨(hV.cell (by rw [block_add]; exact aLb)).trans aLc, by rw [block_add]; omega⟩, ⟨(hV.cell (by rw [block_add]; exact aEb)).trans aEc, by rw [block_add]; omega⟩, ⟨(hV.cell (by rw [block_add]; exact aBb)).trans aBc, by rw [block_add]; omega⟩, ⟨(hV.cell (by rw [block_add]; exact aSb)).trans aSc, by rw [block_add]; omega⟩⟩)
      clear aLc aEc aBc aSc aLb aEb aBb aSb
      have HSO := Lib.hid (show slotOk S t = decide ((0 ≤ S.lim.getD t 0 ∧ S.lim.getD t 0 ≤ 1048576) ∧ (0 ≤ S.exp.getD t 0 ∧ S.exp.getD t 0 ≤ 1048576) ∧ (0 ≤ S.buy.getD t 0 ∧ S.buy.getD t 0 ≤ 1048576) ∧ (0 ≤ S.sell.getD t 0 ∧ S.sell.getD t 0 ≤ S.buy.getD t 0)) from rfl)
      generalize S.lim.getD t 0 = l at *
      generalize S.exp.getD t 0 = e at *
      generalize S.buy.getD t 0 = b at *
      generalize S.sell.getD t 0 = s at *
      go_upto_region 9 with fail
      by_cases k1 : 0 ≤ l ∧ l ≤ 1048576
      rotate_left
      · have g0 : inB l 0 1048576 = false := decide_eq_false k1
        have EE := Lib.hid (stE_slot (S := S) (cs := cs) HQ1.out t tA (by rw [HSO.out]; exact decide_eq_false (fun h => by omega)))
        clear k1
        have x0 := HW.out.2.1.cell 0 rfl
        have x1 := HW.out.2.1.cell 1 rfl
        have x2 := HW.out.2.1.cell 2 rfl
        have x3 := HW.out.2.1.cell 3 rfl
        have xlt := HW.out.2.1.lt
        obtain ⟨⟨vl, vlb⟩, ⟨ve, veb⟩, ⟨vb, vbb⟩, ⟨vs, vsb⟩⟩ := HV.out wr HW.out.1
        refine wp_region_past (by kernel_rfl) (by kernel_rfl) ?_
        repeat (go_big_quiet_step ((go_at_call 60; exact past_same (within_c _ _ _ _))))
        refine wpQuiet_nil ?_
        intro xx
        have HB3 := Lib.hid (HW.out.1.trans (xx.far.mono HW.out.1.size))
        have XB3 := Lib.hid (HW.out.2.1.below xx.far HW.out.2.1.lt)
        generalize xx.w = w3 at HB3 XB3 ⊢
        clear x0 x1 x2 x3 xlt vl vlb ve veb vb vbb vs vsb
        simp only [g0]
        go_wp2_with fail
        go_ret
        exact ⟨ret_int EE.out.symm, HB3.out⟩
      have g0 : inB l 0 1048576 = true := decide_eq_true k1
      by_cases k2 : 0 ≤ e ∧ e ≤ 1048576
      rotate_left
      · have g1 : inB e 0 1048576 = false := decide_eq_false k2
        have EE := Lib.hid (stE_slot (S := S) (cs := cs) HQ1.out t tA (by rw [HSO.out]; exact decide_eq_false (fun h => by omega)))
        clear k1 k2
        have x0 := HW.out.2.1.cell 0 rfl
        have x1 := HW.out.2.1.cell 1 rfl
        have x2 := HW.out.2.1.cell 2 rfl
        have x3 := HW.out.2.1.cell 3 rfl
        have xlt := HW.out.2.1.lt
        obtain ⟨⟨vl, vlb⟩, ⟨ve, veb⟩, ⟨vb, vbb⟩, ⟨vs, vsb⟩⟩ := HV.out wr HW.out.1
        refine wp_region_past (by kernel_rfl) (by kernel_rfl) ?_
        repeat (go_big_quiet_step ((go_at_call 60; exact past_same (within_c _ _ _ _))))
        refine wpQuiet_nil ?_
        intro xx
        have HB3 := Lib.hid (HW.out.1.trans (xx.far.mono HW.out.1.size))
        have XB3 := Lib.hid (HW.out.2.1.below xx.far HW.out.2.1.lt)
        generalize xx.w = w3 at HB3 XB3 ⊢
        clear x0 x1 x2 x3 xlt vl vlb ve veb vb vbb vs vsb
        simp only [g0, g1]
        go_wp2_with fail
        go_ret
        exact ⟨ret_int EE.out.symm, HB3.out⟩
      have g1 : inB e 0 1048576 = true := decide_eq_true k2
      by_cases k3 : 0 ≤ b ∧ b ≤ 1048576
      rotate_left
      · have g2 : inB b 0 1048576 = false := decide_eq_false k3
        have EE := Lib.hid (stE_slot (S := S) (cs := cs) HQ1.out t tA (by rw [HSO.out]; exact decide_eq_false (fun h => by omega)))
        clear k1 k2 k3
        have x0 := HW.out.2.1.cell 0 rfl
        have x1 := HW.out.2.1.cell 1 rfl
        have x2 := HW.out.2.1.cell 2 rfl
        have x3 := HW.out.2.1.cell 3 rfl
        have xlt := HW.out.2.1.lt
        obtain ⟨⟨vl, vlb⟩, ⟨ve, veb⟩, ⟨vb, vbb⟩, ⟨vs, vsb⟩⟩ := HV.out wr HW.out.1
        refine wp_region_past (by kernel_rfl) (by kernel_rfl) ?_
        repeat (go_big_quiet_step ((go_at_call 60; exact past_same (within_c _ _ _ _))))
        refine wpQuiet_nil ?_
        intro xx
        have HB3 := Lib.hid (HW.out.1.trans (xx.far.mono HW.out.1.size))
        have XB3 := Lib.hid (HW.out.2.1.below xx.far HW.out.2.1.lt)
        generalize xx.w = w3 at HB3 XB3 ⊢
        clear x0 x1 x2 x3 xlt vl vlb ve veb vb vbb vs vsb
        simp only [g0, g1, g2]
        go_wp2_with fail
        go_ret
        exact ⟨ret_int EE.out.symm, HB3.out⟩
      have g2 : inB b 0 1048576 = true := decide_eq_true k3
      by_cases k4 : 0 ≤ s ∧ s ≤ b
      rotate_left
      · have g3 : inB s 0 b = false := decide_eq_false k4
        have EE := Lib.hid (stE_slot (S := S) (cs := cs) HQ1.out t tA (by rw [HSO.out]; exact decide_eq_false (fun h => by omega)))
        clear k1 k2 k3 k4
        have x0 := HW.out.2.1.cell 0 rfl
        have x1 := HW.out.2.1.cell 1 rfl
        have x2 := HW.out.2.1.cell 2 rfl
        have x3 := HW.out.2.1.cell 3 rfl
        have xlt := HW.out.2.1.lt
        obtain ⟨⟨vl, vlb⟩, ⟨ve, veb⟩, ⟨vb, vbb⟩, ⟨vs, vsb⟩⟩ := HV.out wr HW.out.1
        refine wp_region_past (by kernel_rfl) (by kernel_rfl) ?_
        repeat (go_big_quiet_step ((go_at_call 60; exact past_same (within_c _ _ _ _))))
        refine wpQuiet_nil ?_
        intro xx
        have HB3 := Lib.hid (HW.out.1.trans (xx.far.mono HW.out.1.size))
        have XB3 := Lib.hid (HW.out.2.1.below xx.far HW.out.2.1.lt)
        generalize xx.w = w3 at HB3 XB3 ⊢
        clear x0 x1 x2 x3 xlt vl vlb ve veb vb vbb vs vsb
        simp only [g0, g1, g2, g3]
        go_wp2_with fail
        go_ret
        exact ⟨ret_int EE.out.symm, HB3.out⟩
      have g3 : inB s 0 b = true := decide_eq_true k4
      have HK := Lib.hid (And.intro k1 (And.intro k2 (And.intro k3 k4)))
      clear k1 k2 k3 k4
      have x0 := HW.out.2.1.cell 0 rfl
      have x1 := HW.out.2.1.cell 1 rfl
      have x2 := HW.out.2.1.cell 2 rfl
      have x3 := HW.out.2.1.cell 3 rfl
      have xlt := HW.out.2.1.lt
      obtain ⟨⟨vl, vlb⟩, ⟨ve, veb⟩, ⟨vb, vbb⟩, ⟨vs, vsb⟩⟩ := HV.out wr HW.out.1
      refine wp_region_past (by kernel_rfl) (by kernel_rfl) ?_
      repeat (go_big_quiet_step ((go_at_call 60; exact past_same (within_c _ _ _ _))))
      refine wpQuiet_nil ?_
      intro xx
      have HB3 := Lib.hid (HW.out.1.trans (xx.far.mono HW.out.1.size))
      have XB3 := Lib.hid (HW.out.2.1.below xx.far HW.out.2.1.lt)
      generalize xx.w = w3 at HB3 XB3 ⊢
      clear x0 x1 x2 x3 xlt vl vlb ve veb vb vbb vs vsb
      simp only [g0, g1, g2, g3]
      go_wp2_with fail
      refine ⟨⟨t + 1, by omega, by go_num, Lib.hid ⟨HB3.out, XB3.out, fun j hj => ?_⟩⟩, by simp [intOf]; omega⟩
      by_cases hjt : j < t
      · exact HW.out.2.2 j hjt
      · obtain rfl : j = t := by omega
        rw [HSO.out]; exact decide_eq_true (by have := HK.out; omega)
    · obtain rfl : n = t := by omega
      have HSL := HW
      go_wp2_with fail
      go_loopw [7] (fun iv wr => ∃ j : Nat, j ≤ m ∧ iv = .int .i64 j ∧ Hid (Below w.heap.size w wr ∧ ∀ x, x < j → carOk S.lim.length (cs.getD x default) = true)) (fun iv _ => m - (intOf iv).toNat)
      case atStart => exact ⟨0, Nat.zero_le _, rfl, Lib.hid ⟨HW.out.1, fun j hj => absurd hj (Nat.not_lt_zero _)⟩⟩
      case round =>
        obtain ⟨j, hj, rfl, HJ⟩ := hrel
        by_cases hlt2 : j < m
        · have hji : (j : Int) < (m : Int) := by omega
          have jl : j < cs.length := by rw [← HM.out]; exact hlt2
          obtain ⟨ad, rfl, abl, c0, c1, c2, c3, c4, T, cT, c5, hcT, HTT⟩ := (HCS.out.below HJ.out.1 (Nat.le_refl _)) j jl
          have HBAD : Hid (carOk S.lim.length (cs.getD j default) = false → stE S cs = 2) := Lib.hid (fun h => stE_car HQ1.out j jl h)
          have HGO : Hid (carOk S.lim.length (cs.getD j default) = true → ∀ x, x < j + 1 → carOk S.lim.length (cs.getD x default) = true) := Lib.hid (fun h x hx => by
            by_cases hxj : x < j
            · exact HJ.out.2 x hxj
            · obtain rfl : x = j := by omega
              exact h)
          rw [← HN.out] at HBAD HGO
          generalize cs.getD j default = c at *
          obtain ⟨cap, inn, out, start, fin, trips⟩ := c
          simp only at c0 c1 c2 c3 c4 c5 hcT HTT HBAD HGO
          have CC := Lib.hid (car_c cap inn out start fin trips T n trips.length cT wr rfl hcT HTT)
          generalize trips.length = q at c5 hcT CC
          cases hv : carOk n ⟨cap, inn, out, start, fin, trips⟩
          · rw [hv] at CC
            have EE := Lib.hid (HBAD.out hv)
            clear HTT hv
            go_wp2_with (go_at_call 73; refine CC.out.mono ?_; rintro e w5 ⟨rfl, hb5⟩; have HB5 := Lib.hid (HJ.out.1.trans (hb5.mono HJ.out.1.size)); clear hb5)
            go_ret
            exact ⟨ret_int EE.out.symm, HB5.out⟩
          · rw [hv] at CC
            have EE := Lib.hid (HGO.out hv)
            clear HTT hv
            go_wp2_with (go_at_call 73; refine CC.out.mono ?_; rintro e w5 ⟨rfl, hb5⟩; have HB5 := Lib.hid (HJ.out.1.trans (hb5.mono HJ.out.1.size)); clear hb5)
            exact ⟨⟨j + 1, by omega, by go_num, Lib.hid ⟨HB5.out, by rw [← HN.out]; exact EE.out⟩⟩, by simp [intOf]; omega⟩
        · obtain rfl : j = m := by omega
          have EE := Lib.hid (stE_ok (S := S) (cs := cs) HQ1.out HH.out (fun t ht => HSL.out.2.2 t (by rw [HN.out]; exact ht)) (fun i hi => HJ.out.2 i (by rw [HM.out]; exact hi)))
          go_wp2_with fail
          go_ret
          exact ⟨ret_int EE.out.symm, HJ.out.1⟩
end Go.Proofs.Ytmebpglkeedaoaa
namespace Go.Proofs.Ytmebpglkeedaoaa
open Go.RowKit Dp
end Go.Proofs.Ytmebpglkeedaoaa
namespace Go.Proofs.Ytmebpglkeedaoaa
open Go.RowKit Dp
set_option maxHeartbeats 4000000 in
set_option maxRecDepth 100000 in
theorem Price_c (A B C D E P Q : Option Addr) (S : Site) (cs : List Car) (T : Tab) (n nB nC nD m p q cA cB cC cD cE cP cQ : Nat) (w : World) (hn : n = S.lim.length) (hnB : nB = S.exp.length) (hnC : nC = S.buy.length) (hnD : nD = S.sell.length) (hm : m = cs.length) (hp : p = T.inn.length) (hq : q = T.out.length)
    (hA : n ≤ cA ∧ cA ≤ 9223372036854775807) (hB : nB ≤ cB ∧ cB ≤ 9223372036854775807) (hC : nC ≤ cC ∧ cC ≤ 9223372036854775807) (hD : nD ≤ cD ∧ cD ≤ 9223372036854775807) (hE : m ≤ cE ∧ cE ≤ 9223372036854775807) (hP : p ≤ cP ∧ cP ≤ 9223372036854775807) (hQ : q ≤ cQ ∧ cQ ≤ 9223372036854775807)
    (hS : SiteAt w A B C D S) (hcs : CarsAt w E cs) (hT : TabAt w P Q T) :
    Calls Try.prog 38 #[.agg #[.slice A n cA, .slice B nB cB, .slice C nC cC, .slice D nD cD], .slice E m cE, .agg #[.slice P p cP, .slice Q q cQ]] w fun e w' => e = .returned (.tuple #[.int .i64 (prcV S cs T), .int .i64 (plE S cs T)]) ∧ Below w.heap.size w w' := by
  have F32 : Hid (∀ V, Below w.heap.size w V → Calls Try.prog 32 #[.agg #[.slice A n cA, .slice B nB cB, .slice C nC cC, .slice D nD cD], .slice E m cE, .agg #[.slice P p cP, .slice Q q cQ]] V fun e w' => e = .returned (.int .i64 (plE S cs T)) ∧ Below V.heap.size V w') := Lib.hid (fun V hV => CheckPlan_c A B C D E P Q S cs T n nB nC nD m p q cA cB cC cD cE cP cQ V hn hnB hnC hnD hm hp hq hA hB hC hD hE hP hQ (hS.below hV (Nat.le_refl _)) (hcs.below hV (Nat.le_refl _)) (hT.below hV (Nat.le_refl _)))
  have F81 : Hid (plE S cs T = 0 → ∀ V, Below w.heap.size w V → Calls Try.prog 81 #[.agg #[.slice A n cA, .slice B nB cB, .slice C nC cC, .slice D nD cD], .agg #[.slice P p cP, .slice Q q cQ]] V fun e w' => e = .returned (.int .i64 (prc S T cs.length S.lim.length)) ∧ Below V.heap.size V w') := Lib.hid (fun h0 V hV => by
    have HK := plE_0 h0
    have S0 := stE_0 HK.ok
    have SH := siteHead_iff.1 S0.2.1
    have e1 : p = m := by rw [hp, hm, HK.li]
    have e2 : q = m := by rw [hq, hm, HK.lo]
    subst e1
    subst e2
    have e3 : nC = nD := by omega
    have e4 : n = nD := by omega
    subst e3
    subst e4
    rw [← hm, ← hn]
    exact price_c A B C D P Q S T n nB n n q q cA cB cC cD cP cQ V hn (by omega) (by omega) hp hq (Nat.le_refl _) (by omega) (by omega) rfl rfl hP hQ (hS.below hV (Nat.le_refl _)) (hT.below hV (Nat.le_refl _)) (fun k hk => ⟨S0.2.2.1 k (by omega), by have := HK.slot (k := k) (by omega); rwa [← hm] at this⟩))
  have HV0 : Hid (plE S cs T = 0 → prcV S cs T = prc S T cs.length S.lim.length) := Lib.hid (fun h => by unfold prcV; rw [if_pos h])
  have HV1 : Hid (plE S cs T ≠ 0 → prcV S cs T = 0) := Lib.hid (fun h => by unfold prcV; rw [if_neg h])
  clear hn hnB hnC hnD hm hp hq hS hcs hT
  obtain ⟨v, hv⟩ : ∃ v, v = plE S cs T := ⟨_, rfl⟩
  rw [← hv] at F32 F81 HV0 HV1 ⊢
  clear hv
  have HB := Lib.hid (((Below.refl w.heap.size w).alloc (Nat.le_refl _) (.cells #[.slice A n cA, .slice B nB cB, .slice C nC cC, .slice D nD cD] 51)).alloc (by simp) (.cells #[.slice P p cP, .slice Q q cQ] 55))
  have XS := Lib.hid ((Blk.new' w #[.slice A n cA, .slice B nB cB, .slice C nC cC, .slice D nD cD] 51).alloc (.cells #[.slice P p cP, .slice Q q cQ] 55))
  have XT := Lib.hid (show Blk ((w.alloc (.cells #[.slice A n cA, .slice B nB cB, .slice C nC cC, .slice D nD cD] 51)).alloc (.cells #[.slice P p cP, .slice Q q cQ] 55)) (w.heap.size + 1) 55 [.slice P p cP, .slice Q q cQ] from by simpa using Blk.new' (w.alloc (.cells #[.slice A n cA, .slice B nB cB, .slice C nC cC, .slice D nD cD] 51)) #[.slice P p cP, .slice Q q cQ] 55)
  go_enter Try.func38, Try.ntmps38
  go_upto_region 1 with fail
  generalize (w.alloc (.cells #[.slice A n cA, .slice B nB cB, .slice C nC cC, .slice D nD cD] 51)).alloc (.cells #[.slice P p cP, .slice Q q cQ] 55) = w1 at HB XS XT ⊢
  have s0 := XS.out.cell 0 rfl
  have s1 := XS.out.cell 1 rfl
  have s2 := XS.out.cell 2 rfl
  have s3 := XS.out.cell 3 rfl
  have t0 := XT.out.cell 0 rfl
  have t1 := XT.out.cell 1 rfl
  have sl := XS.out.lt
  have tl := XT.out.lt
  go_wp2_with fail
  refine (F32.out w1 HB.out).mono ?_
  rintro e w2 ⟨rfl, hb⟩
  have HB2 := Lib.hid (HB.out.trans (hb.mono HB.out.size))
  have XS2 := Lib.hid (XS.out.below hb XS.out.lt)
  have XT2 := Lib.hid (XT.out.below hb XT.out.lt)
  clear hb s0 s1 s2 s3 t0 t1 sl tl
  have s0 := XS2.out.cell 0 rfl
  have s1 := XS2.out.cell 1 rfl
  have s2 := XS2.out.cell 2 rfl
  have s3 := XS2.out.cell 3 rfl
  have t0 := XT2.out.cell 0 rfl
  have t1 := XT2.out.cell 1 rfl
  have sl := XS2.out.lt
  have tl := XT2.out.lt
  by_cases h0 : v = 0
  rotate_left
  · have hb0 : (v == 0) = false := by simpa using h0
    have EE := Lib.hid (HV1.out h0)
    go_wp2_with fail
    exact bodyPost_ret (v := .tuple #[.int .i64 0, .int .i64 v]) (by simp [results, Try.results38, go_sem]) rfl ⟨by rw [EE.out], HB2.out⟩
  subst h0
  have G81 := F81.out rfl w2 HB2.out
  have EE := Lib.hid (HV0.out rfl)
  generalize prc S T cs.length S.lim.length = pv at *
  go_wp2_with fail
  refine G81.mono ?_
  rintro e w3 ⟨rfl, hb⟩
  have HB3 := Lib.hid (HB2.out.trans (hb.mono HB2.out.size))
  have XS3 := Lib.hid (XS2.out.below hb XS2.out.lt)
  have XT3 := Lib.hid (XT2.out.below hb XT2.out.lt)
  clear hb s0 s1 s2 s3 t0 t1 sl tl
  go_wp2_with fail
  exact bodyPost_ret (v := .tuple #[.int .i64 pv, .int .i64 0]) (by simp [results, Try.results38, go_sem]) rfl ⟨by rw [EE.out], HB3.out⟩
end Go.Proofs.Ytmebpglkeedaoaa
namespace Go.Proofs.Ytmebpglkeedaoaa
open Go.RowKit Dp
theorem RowsO.below {D : Nat} {w w' : World} {i n : Nat} {vs : List Value} {cs : List Car} {T : Tab} (h : RowsO D w i n vs cs T) (hb : Below w.heap.size w w') : RowsO D w' i n vs cs T := fun x hx => by
  obtain ⟨u, h1, h2⟩ := h x hx
  exact ⟨u, h1, ownV_below h2 hb⟩
theorem RowsO.grown {D B' : Nat} {w w' : World} {i n n' z' : Nat} {e' : TypeId} {v' : Value} {xs' vs : List Value} {cs : List Car} {T : Tab} (h : RowsO D w i n vs cs T) (h' : w.ownsRow B' e' z' v' n' xs') (hne : (2 : TypeId) ≠ e') (hg : w.grownBy w' v'.ownBlock) : RowsO D w' i n vs cs T := fun x hx => by
  obtain ⟨u, h1, h2⟩ := h x hx
  exact ⟨u, h1, ownV_other h2 h' hne hg⟩
theorem RowsO.add {D : Nat} {w : World} {i n : Nat} {vs : List Value} {cs : List Car} {T : Tab} {v : Value} (h : RowsO D w i n vs cs T) (hl : vs.length = i) (hv : w.ownsRow D 2 1 v (n + 1) ((lvN (cs.getD i default) (T.inn.getD i []) (T.out.getD i []) (n + 1)).map (.int .i64))) : RowsO D w (i + 1) n (vs ++ [v]) cs T := fun x hx => by
  by_cases e : x = i
  · subst e
    exact ⟨v, by rw [List.getElem?_append_right (by omega)]; simp [hl], hv⟩
  · obtain ⟨u, h1, h2⟩ := h x (by omega)
    exact ⟨u, by rw [List.getElem?_append_left (by omega)]; exact h1, h2⟩
theorem own_len {w : World} {D e n : Nat} {v : Value} {vs : List Value} (h : w.ownsRow D e 1 v n vs) : vs.length = n := by have := h.1; omega
end Go.Proofs.Ytmebpglkeedaoaa
namespace Go.Proofs.Ytmebpglkeedaoaa
open Go.RowKit Dp
structure NtJ (w : World) (gs gx gr : Nat) (cv : List Value) (A : Option Addr) (cap : Nat) (sup : List Int) (arcs : List Arc) (W : World) : Prop where
  b : Blk W gx 25 [.slice (some ⟨gs, 0, none⟩) sup.length sup.length, .slice A arcs.length cap]
  r : Blk W gr 25 [.slice none 0 0, .slice none 0 0]
  s : Fl 2 W gs sup
  own : W.ownsRow w.heap.size 46 4 (.slice A arcs.length cap) arcs.length (flat arcV arcs)
  st : Blk W w.heap.size 51 cv
  ne : gx ≠ gr
  lt : w.heap.size ≤ gs ∧ w.heap.size ≤ gx ∧ w.heap.size ≤ gr
  bel : Below w.heap.size w W
section
variable {w W V : World} {gs gx gr gc cap cap2 n m : Nat} {A A2 : Option Addr} {cv kv : List Value} {sup : List Int} {arcs news : List Arc}
theorem NtJ.below (h : NtJ w gs gx gr cv A cap sup arcs W) (hb : Below W.heap.size W V) : NtJ w gs gx gr cv A cap sup arcs V :=
  ⟨h.b.below hb h.b.lt, h.r.below hb h.r.lt, h.s.below hb, ownBelow h.own hb, h.st.below hb h.st.lt, h.ne, h.lt, h.bel.trans (hb.mono h.bel.size)⟩
theorem NtJ.alloc (h : NtJ w gs gx gr cv A cap sup arcs W) (o : Obj) : NtJ w gs gx gr cv A cap sup arcs (W.alloc o) := h.below ((Below.refl _ _).alloc (Nat.le_refl _) o)
theorem NtJ.set (h : NtJ w gs gx gr cv A cap sup arcs W) (k : Nat) (v : Int) : NtJ w gs gx gr cv A cap (sup.set k v) arcs (W.setCell ⟨gs, k, none⟩ (.int .i64 v)) :=
  ⟨by rw [List.length_set]; exact h.b.setCell_ne (fun e => blk_type_ne h.b h.s (by decide) e.symm) _, h.r.setCell_ne (fun e => blk_type_ne h.r h.s (by decide) e.symm) _, h.s.put k v,
    ownSet h.own (own_blk_no (g := gs) h.s h.own (by decide)) _, h.st.setCell_ne (fun e => blk_type_ne h.st h.s (by decide) e.symm) _, h.ne, h.lt, h.bel.setCell (by simp; exact h.lt.1) _⟩
theorem NtJ.mid (h : NtJ w gs gx gr cv A cap sup arcs W) (hg : W.grownBy V (Value.slice A arcs.length cap).ownBlock) : Blk V gx 25 [.slice (some ⟨gs, 0, none⟩) sup.length sup.length, .slice A arcs.length cap] := h.b.grown hg (blk_own_ne h.b h.own (by decide))
theorem NtJ.push (h : NtJ w gs gx gr cv A cap sup arcs W) (hn : n = arcs.length) (hm : m = news.length) (hg : W.grownBy V (Value.slice A n cap).ownBlock)
    (ho : V.ownsRow w.heap.size 46 4 (.slice A2 (n + m) cap2) (n + m) (flat arcV arcs ++ flat arcV news)) : NtJ w gs gx gr cv A2 cap2 sup (arcs ++ news) (V.setCell ⟨gx, 1, none⟩ (.slice A2 (n + m) cap2)) := by
  subst hn
  rw [← flat_append] at ho
  have el : (arcs ++ news).length = arcs.length + m := by simp [hm]
  rw [← el] at ho ⊢
  have b1 := h.mid hg
  have s1 : Fl 2 V gs sup := Blk.grown h.s hg (blk_own_ne h.s h.own (by decide))
  have r1 := h.r.grown hg (blk_own_ne h.r h.own (by decide))
  have t1 := h.st.grown hg (blk_own_ne h.st h.own (by decide))
  have bel1 : Below w.heap.size w V := h.bel.grown hg h.bel.size (fun k e => (World.ownsRow.lt h.own k e).1)
  exact ⟨b1.setCell 1 _, r1.setCell_ne (fun e => h.ne e.symm) _, s1.set_ne (fun e => blk_type_ne b1 s1 (by decide) e) _, ownSet ho (own_blk_no (g := gx) b1 ho (by decide)) _, t1.setCell_ne (fun e => blk_type_ne b1 t1 (by decide) e) _, h.ne, h.lt, bel1.setCell (by simp; exact h.lt.2.1) _⟩
structure NkJ (w : World) (gs gx gr gc : Nat) (cv kv : List Value) (A : Option Addr) (cap : Nat) (sup : List Int) (arcs : List Arc) (W : World) : Prop where
  d : NtJ w gs gx gr cv A cap sup arcs W
  car : Blk W gc 63 kv
theorem NkJ.below (h : NkJ w gs gx gr gc cv kv A cap sup arcs W) (hb : Below W.heap.size W V) : NkJ w gs gx gr gc cv kv A cap sup arcs V := ⟨h.d.below hb, h.car.below hb h.car.lt⟩
theorem NkJ.alloc (h : NkJ w gs gx gr gc cv kv A cap sup arcs W) (o : Obj) : NkJ w gs gx gr gc cv kv A cap sup arcs (W.alloc o) := h.below ((Below.refl _ _).alloc (Nat.le_refl _) o)
theorem NkJ.set (h : NkJ w gs gx gr gc cv kv A cap sup arcs W) (k : Nat) (v : Int) : NkJ w gs gx gr gc cv kv A cap (sup.set k v) arcs (W.setCell ⟨gs, k, none⟩ (.int .i64 v)) :=
  ⟨h.d.set k v, h.car.setCell_ne (fun e => blk_type_ne h.d.s h.car (by decide) e) _⟩
theorem NkJ.push (h : NkJ w gs gx gr gc cv kv A cap sup arcs W) (hn : n = arcs.length) (hm : m = news.length) (hg : W.grownBy V (Value.slice A n cap).ownBlock)
    (ho : V.ownsRow w.heap.size 46 4 (.slice A2 (n + m) cap2) (n + m) (flat arcV arcs ++ flat arcV news)) : NkJ w gs gx gr gc cv kv A2 cap2 sup (arcs ++ news) (V.setCell ⟨gx, 1, none⟩ (.slice A2 (n + m) cap2)) := by
  have hg' := hg
  rw [hn] at hg'
  have b1 := h.d.mid hg'
  have c1 := h.car.grown hg' (blk_own_ne h.car h.d.own (by decide))
  exact ⟨h.d.push hn hm hg ho, c1.setCell_ne (fun e => blk_type_ne b1 c1 (by decide) e) _⟩
end
end Go.Proofs.Ytmebpglkeedaoaa
namespace Go.Proofs.Ytmebpglkeedaoaa
open Go.RowKit Dp
structure RwJ (n m g : Nat) (gI : Nat → Nat) (R : Nat → List Int) (W : World) : Prop where
  b : ∃ cs, Blk W g 22 cs ∧ ∀ i, i < m → cs[i]? = some (.slice (some ⟨gI i, 0, none⟩) n n)
  f : ∀ i, i < m → Fl 2 W (gI i) (R i) ∧ (R i).length = n
  inj : ∀ i j, i < m → j < m → gI i = gI j → i = j
section
variable {W V : World} {n m g gl : Nat} {gI gO : Nat → Nat} {R RO : Nat → List Int}
theorem RwJ.below (h : RwJ n m g gI R W) (hb : Below W.heap.size W V) : RwJ n m g gI R V := by
  obtain ⟨cs, h1, h2⟩ := h.b
  exact ⟨⟨cs, h1.below hb h1.lt, h2⟩, fun i hi => ⟨(h.f i hi).1.below hb, (h.f i hi).2⟩, h.inj⟩
theorem RwJ.lt (h : RwJ n m g gI R W) : g < W.heap.size := by
  obtain ⟨cs, h1, _⟩ := h.b
  exact h1.lt
theorem RwJ.cell (h : RwJ n m g gI R W) (i : Nat) (hi : i < m) : W.cell? ⟨g, i, none⟩ = some (.slice (some ⟨gI i, 0, none⟩) n n) := by
  obtain ⟨cs, h1, h2⟩ := h.b
  exact h1.cell i (h2 i hi)
theorem RwJ.other (h : RwJ n m g gI R W) {p : Addr} (h1 : g ≠ p.block) (h2 : ∀ i, i < m → gI i ≠ p.block) (u : Value) : RwJ n m g gI R (W.setCell p u) := by
  obtain ⟨cs, b1, b2⟩ := h.b
  exact ⟨⟨cs, b1.setCell_ne h1 u, b2⟩, fun i hi => ⟨(h.f i hi).1.set_ne (h2 i hi) u, (h.f i hi).2⟩, h.inj⟩
theorem RwJ.set (h : RwJ n m g gI R W) (i : Nat) (hi : i < m) (k : Nat) (v : Int) : RwJ n m g gI (upd R i ((R i).set k v)) (W.setCell ⟨gI i, k, none⟩ (.int .i64 v)) := by
  obtain ⟨cs, b1, b2⟩ := h.b
  refine ⟨⟨cs, b1.setCell_ne (fun e => blk_type_ne b1 (h.f i hi).1 (by decide) e.symm) _, b2⟩, fun j hj => ?_, h.inj⟩
  by_cases e : j = i
  · subst e
    unfold upd
    rw [if_pos rfl]
    exact ⟨(h.f j hj).1.put k v, by rw [List.length_set]; exact (h.f j hj).2⟩
  · unfold upd
    rw [if_neg e]
    exact ⟨(h.f j hj).1.set_ne (fun q => e (h.inj j i hj hi q)) _, (h.f j hj).2⟩
theorem RwJ.of (h : RwJ n m g gI R W) {R' : Nat → List Int} (he : ∀ i, i < m → R' i = R i) : RwJ n m g gI R' W :=
  ⟨h.b, fun i hi => by rw [he i hi]; exact h.f i hi, h.inj⟩
theorem RwJ.rows (h : RwJ n m g gI R W) (hn : n ≤ 9223372036854775807) : RowsAt W (some ⟨g, 0, none⟩) ((List.range m).map R) := fun i hi => by
  have hi' : i < m := by simpa using hi
  have e : ((List.range m).map R).getD i [] = R i := by simp [List.getD_eq_getElem?_getD, hi']
  refine ⟨_, rfl, h.lt, some ⟨gI i, 0, none⟩, n, ?_, ?_, ?_⟩
  · rw [add_row, e, (h.f i hi').2]; exact h.cell i hi'
  · rw [e, (h.f i hi').2]; exact ⟨Nat.le_refl _, hn⟩
  · rw [e]; exact (h.f i hi').1.ints
end
structure TbJ (w : World) (n m gt g1 g2 c1 c2 : Nat) (gI gO : Nat → Nat) (RI RO : Nat → List Int) (W : World) : Prop where
  b : Blk W gt 55 [.slice (some ⟨g1, 0, none⟩) m c1, .slice (some ⟨g2, 0, none⟩) m c2]
  i : RwJ n m g1 gI RI W
  o : RwJ n m g2 gO RO W
  ne : g1 ≠ g2
  dis : ∀ x y, x < m → y < m → gI x ≠ gO y
  bel : Below w.heap.size w W
  ge : ∀ x, x < m → w.heap.size ≤ gI x ∧ w.heap.size ≤ gO x
section
variable {w W V : World} {n m gt g1 g2 c1 c2 gl : Nat} {gI gO : Nat → Nat} {RI RO : Nat → List Int}
theorem TbJ.below (h : TbJ w n m gt g1 g2 c1 c2 gI gO RI RO W) (hb : Below W.heap.size W V) : TbJ w n m gt g1 g2 c1 c2 gI gO RI RO V :=
  ⟨h.b.below hb h.b.lt, h.i.below hb, h.o.below hb, h.ne, h.dis, h.bel.trans (hb.mono h.bel.size), h.ge⟩
theorem TbJ.set (h : TbJ w n m gt g1 g2 c1 c2 gI gO RI RO W) (x : Nat) (hx : x < m) (k : Nat) (v : Int) : TbJ w n m gt g1 g2 c1 c2 gI gO (upd RI x ((RI x).set k v)) RO (W.setCell ⟨gI x, k, none⟩ (.int .i64 v)) := by
  obtain ⟨cs, b1, b2⟩ := h.o.b
  exact ⟨h.b.setCell_ne (fun e => blk_type_ne h.b (h.i.f x hx).1 (by decide) e.symm) _, h.i.set x hx k v, h.o.other (fun e => blk_type_ne b1 (h.i.f x hx).1 (by decide) e.symm) (fun y hy e => h.dis x y hx hy e.symm) _, h.ne, h.dis, h.bel.setCell (by simp; exact (h.ge x hx).1) _, h.ge⟩
theorem TbJ.other (h : TbJ w n m gt g1 g2 c1 c2 gI gO RI RO W) {p : Addr} {xs : List Int} (hf : Fl 2 W p.block xs) (h1 : ∀ x, x < m → gI x ≠ p.block ∧ gO x ≠ p.block) (hp : w.heap.size ≤ p.block) (u : Value) : TbJ w n m gt g1 g2 c1 c2 gI gO RI RO (W.setCell p u) := by
  obtain ⟨cs, b1, b2⟩ := h.o.b
  obtain ⟨cs', b1', b2'⟩ := h.i.b
  exact ⟨h.b.setCell_ne (fun e => blk_type_ne h.b hf (by decide) e.symm) _, h.i.other (fun e => blk_type_ne b1' hf (by decide) e.symm) (fun y hy => (h1 y hy).1) _, h.o.other (fun e => blk_type_ne b1 hf (by decide) e.symm) (fun y hy => (h1 y hy).2) _, h.ne, h.dis, h.bel.setCell hp _, h.ge⟩
end
end Go.Proofs.Ytmebpglkeedaoaa
namespace Go.Proofs.Ytmebpglkeedaoaa
open Go.RowKit Dp
theorem RwJ.add {n i g gn : Nat} {gI : Nat → Nat} {R : Nat → List Int} {W : World} (h : RwJ n i g gI R W) {cs : List Value} (hl : Blk W g 22 cs) (hi : i < cs.length) (hf : Fl 2 W gn (R i)) (hR : (R i).length = n) (hne : ∀ x, x < i → gI x ≠ gn) : RwJ n (i + 1) g (upd gI i gn) R (W.setCell ⟨g, i, none⟩ (.slice (some ⟨gn, 0, none⟩) n n)) := by
  obtain ⟨cs', b1, b2⟩ := h.b
  have e : cs' = cs := by
    unfold Blk at b1 hl
    rw [b1] at hl
    simpa using hl
  subst e
  refine ⟨⟨cs'.set i (.slice (some ⟨gn, 0, none⟩) n n), hl.setCell i _, fun x hx => ?_⟩, fun x hx => ?_, fun x y hx hy e => ?_⟩
  · unfold upd
    by_cases e : x = i
    · subst e; rw [if_pos rfl, List.getElem?_set_self hi]
    · rw [if_neg e, List.getElem?_set_ne (fun q => e q.symm)]; exact b2 x (by omega)
  · unfold upd
    by_cases e : x = i
    · subst e; rw [if_pos rfl]; exact ⟨hf.set_ne (p := ⟨g, x, none⟩) (fun q => blk_type_ne hl hf (by decide) q) _, hR⟩
    · rw [if_neg e]; exact ⟨(h.f x (by omega)).1.set_ne (p := ⟨g, i, none⟩) (fun q => blk_type_ne hl (h.f x (by omega)).1 (by decide) q) _, (h.f x (by omega)).2⟩
  · unfold upd at e
    by_cases e1 : x = i <;> by_cases e2 : y = i
    · omega
    · rw [if_pos e1, if_neg e2] at e; exact absurd e.symm (hne y (by omega))
    · rw [if_neg e1, if_pos e2] at e; exact absurd e (hne x (by omega))
    · rw [if_neg e1, if_neg e2] at e; exact h.inj x y (by omega) (by omega) e
structure TaJ (w : World) (n m ni no gt g1 g2 gl : Nat) (gI gO : Nat → Nat) (lv : List Int) (W : World) : Prop where
  b : Blk W gt 55 [.slice (some ⟨g1, 0, none⟩) m m, .slice (some ⟨g2, 0, none⟩) m m]
  li : ∃ cs, Blk W g1 22 cs ∧ cs.length = m
  lo : ∃ cs, Blk W g2 22 cs ∧ cs.length = m
  ri : RwJ n ni g1 gI (fun _ => List.replicate n 0) W
  ro : RwJ n no g2 gO (fun _ => List.replicate n 0) W
  lev : Fl 2 W gl lv
  ne : g1 ≠ g2
  dis : ∀ x y, x < ni → y < no → gI x ≠ gO y
  al : (∀ x, x < ni → gI x ≠ gl ∧ w.heap.size ≤ gI x) ∧ (∀ y, y < no → gO y ≠ gl ∧ w.heap.size ≤ gO y)
  bel : Below w.heap.size w W
  ge : w.heap.size ≤ g1 ∧ w.heap.size ≤ g2 ∧ w.heap.size ≤ gl
section
variable {w W V : World} {n m ni no gt g1 g2 gl a : Nat} {gI gO : Nat → Nat} {lv : List Int}
theorem TaJ.below (h : TaJ w n m ni no gt g1 g2 gl gI gO lv W) (hb : Below W.heap.size W V) : TaJ w n m ni no gt g1 g2 gl gI gO lv V := by
  obtain ⟨c1, x1, x2⟩ := h.li
  obtain ⟨c2, y1, y2⟩ := h.lo
  exact ⟨h.b.below hb h.b.lt, ⟨c1, x1.below hb x1.lt, x2⟩, ⟨c2, y1.below hb y1.lt, y2⟩, h.ri.below hb, h.ro.below hb, h.lev.below hb, h.ne, h.dis, h.al, h.bel.trans (hb.mono h.bel.size), h.ge⟩
theorem TaJ.fresh (h : TaJ w n m ni no gt g1 g2 gl gI gO lv W) (ha : W.heap.size ≤ a) : (∀ x, x < ni → gI x ≠ a) ∧ (∀ y, y < no → gO y ≠ a) ∧ a ≠ gl ∧ w.heap.size ≤ a :=
  ⟨fun x hx e => by have := (h.ri.f x hx).1.lt; omega, fun y hy e => by have := (h.ro.f y hy).1.lt; omega, fun e => by have := h.lev.lt; omega, by have := h.bel.size; omega⟩
theorem TaJ.inn (h : TaJ w n m ni no gt g1 g2 gl gI gO lv W) (hi : ni < m) (hf : Fl 2 W a (List.replicate n 0)) (hx : (∀ x, x < ni → gI x ≠ a) ∧ (∀ y, y < no → gO y ≠ a) ∧ a ≠ gl ∧ w.heap.size ≤ a) :
    TaJ w n m (ni + 1) no gt g1 g2 gl (upd gI ni a) gO lv (W.setCell ⟨g1, ni, none⟩ (.slice (some ⟨a, 0, none⟩) n n)) := by
  obtain ⟨c1, x1, x2⟩ := h.li
  obtain ⟨c2, y1, y2⟩ := h.lo
  refine ⟨h.b.setCell_ne (fun e => blk_type_ne h.b x1 (by decide) e.symm) _, ⟨_, x1.setCell ni _, by simp [x2]⟩, ⟨c2, y1.setCell_ne (fun e => h.ne e.symm) _, y2⟩, h.ri.add x1 (by omega) hf (by simp) hx.1,
    h.ro.other (fun e => h.ne e.symm) (fun y hy e => blk_type_ne x1 (h.ro.f y hy).1 (by decide) e) _, h.lev.set_ne (fun e => blk_type_ne x1 h.lev (by decide) e) _, h.ne, fun x y hx' hy => ?_, ⟨fun x hx' => ?_, h.al.2⟩, h.bel.setCell h.ge.1 _, h.ge⟩
  · unfold upd
    by_cases e : x = ni
    · rw [if_pos e]; exact fun q => hx.2.1 y hy q.symm
    · rw [if_neg e]; exact h.dis x y (by omega) hy
  · unfold upd
    by_cases e : x = ni
    · rw [if_pos e]; exact ⟨hx.2.2.1, hx.2.2.2⟩
    · rw [if_neg e]; exact h.al.1 x (by omega)
theorem TaJ.set (h : TaJ w n m ni no gt g1 g2 gl gI gO lv W) (k : Nat) (v : Int) : TaJ w n m ni no gt g1 g2 gl gI gO (lv.set k v) (W.setCell ⟨gl, k, none⟩ (.int .i64 v)) := by
  obtain ⟨c1, x1, x2⟩ := h.li
  obtain ⟨c2, y1, y2⟩ := h.lo
  exact ⟨h.b.setCell_ne (fun e => blk_type_ne h.b h.lev (by decide) e.symm) _, ⟨c1, x1.setCell_ne (fun e => blk_type_ne x1 h.lev (by decide) e.symm) _, x2⟩, ⟨c2, y1.setCell_ne (fun e => blk_type_ne y1 h.lev (by decide) e.symm) _, y2⟩, h.ri.other (fun e => blk_type_ne x1 h.lev (by decide) e.symm) (fun x hx => (h.al.1 x hx).1) _,
    h.ro.other (fun e => blk_type_ne y1 h.lev (by decide) e.symm) (fun y hy => (h.al.2 y hy).1) _, h.lev.put k v, h.ne, h.dis, h.al, h.bel.setCell h.ge.2.2 _, h.ge⟩
end
end Go.Proofs.Ytmebpglkeedaoaa
namespace Go.Proofs.Ytmebpglkeedaoaa
open Go.RowKit Dp
namespace Dp
end Dp
theorem make_53 (n : Nat) (hn : n ≤ 4096) (W : World) : (Instr.makeSlice 53 (.int .i64 n) (.int .i64 n)).run Try.prog W = .ok (.slice (some ⟨W.heap.size, 0, none⟩) n n) (W.alloc (.cells (Array.replicate n (.slice none 0 0)) 22)) := by
  obtain ⟨i, hi, hz0, hz1, hz2⟩ := info_parts info22
  have hr := run_make (P := Try.prog) W 53 22 i _ Try.underlying53 hi hz0 .i64 .i64 n n (by omega) (by omega) (by rw [hz2]; omega) (by omega)
  simp only [Int.toNat_natCast, hz1, Nat.mul_one] at hr
  rw [hr]
  have e1 : madeCells (Value.slice none 0 0).cells n = Array.replicate n (.slice none 0 0) := by
    unfold madeCells
    apply Array.ext
    · simp
    · intro j h1 h2
      simp [Value.cells, Nat.mod_one]
  rw [e1]
structure EgJ (w : World) (n m gt g1 g2 c1 c2 gl gr : Nat) (gI gO : Nat → Nat) (cv : List Value) (RI : Nat → List Int) (lv : List Int) (W : World) : Prop where
  t : TbJ w n m gt g1 g2 c1 c2 gI gO RI (fun _ => List.replicate n 0) W
  l : Fl 2 W gl lv
  ap : ∀ x, x < m → gI x ≠ gl ∧ gO x ≠ gl
  lg : w.heap.size ≤ gl
  s : Blk W w.heap.size 51 cv
  r : Blk W gr 55 [.slice none 0 0, .slice none 0 0]
  rg : gr ≠ gt ∧ w.heap.size ≤ gr
section
variable {w W V : World} {n m gt g1 g2 c1 c2 gl gr : Nat} {gI gO : Nat → Nat} {cv : List Value} {RI : Nat → List Int} {lv : List Int}
theorem EgJ.below (h : EgJ w n m gt g1 g2 c1 c2 gl gr gI gO cv RI lv W) (hb : Below W.heap.size W V) : EgJ w n m gt g1 g2 c1 c2 gl gr gI gO cv RI lv V :=
  ⟨h.t.below hb, h.l.below hb, h.ap, h.lg, h.s.below hb h.s.lt, h.r.below hb h.r.lt, h.rg⟩
theorem EgJ.rows (h : EgJ w n m gt g1 g2 c1 c2 gl gr gI gO cv RI lv W) {R' : Nat → List Int} (he : ∀ i, i < m → R' i = RI i) : EgJ w n m gt g1 g2 c1 c2 gl gr gI gO cv R' lv W :=
  ⟨⟨h.t.b, h.t.i.of he, h.t.o, h.t.ne, h.t.dis, h.t.bel, h.t.ge⟩, h.l, h.ap, h.lg, h.s, h.r, h.rg⟩
end
end Go.Proofs.Ytmebpglkeedaoaa
namespace Go.Proofs.Ytmebpglkeedaoaa
namespace Dp
theorem sumA_append (a b : List Int) : sum ((a ++ b).map abs) = sum (a.map abs) + sum (b.map abs) := by rw [List.map_append, sum_append]
theorem sum_abs : ∀ l : List Int, -(sum (l.map abs)) ≤ sum l ∧ sum l ≤ sum (l.map abs)
  | [] => by simp [sum]
  | x :: l => by
    have := sum_abs l
    simp only [List.map_cons, sum]
    have h : -abs x ≤ x ∧ x ≤ abs x := by unfold abs; omega
    omega
def usT (c : Car) : Nat → Int
  | 0 => 0
  | k + 1 => usT c k + useC c k
def usP (l : List Trip) (m : Nat) : Nat → Int
  | 0 => 0
  | k + 1 => usP l m k + useP l k m
theorem us_eq (c : Car) : ∀ k, usT c k = usP c.trips c.trips.length k
  | 0 => rfl
  | k + 1 => by simp only [usT, usP, us_eq c k]; rfl
theorem usP_step {l : List Trip} {m : Nat} (hu : 0 ≤ (l.getD m default).use) (hg : ∀ k : Int, 0 ≤ useP l k m) : ∀ K : Nat, usP l (m + 1) K ≤ usP l m K + (if (l.getD m default).fr < (K : Int) then (l.getD m default).use else 0)
  | 0 => by simp only [usP]; split <;> omega
  | K + 1 => by
    have ih := usP_step hu hg K
    have h1 := hg (K : Int)
    simp only [usP, useP]
    by_cases h : (l.getD m default).fr = (K : Int)
    · rw [if_pos h, if_pos (by omega)]
      rw [if_neg (by omega)] at ih
      omega
    · rw [if_neg h]
      by_cases h2 : (l.getD m default).fr < (K : Int)
      · rw [if_pos (by omega)]
        rw [if_pos h2] at ih
        omega
      · rw [if_neg (by omega)]
        rw [if_neg h2] at ih
        omega
theorem usP_bd {cap : Int} {n : Nat} {l : List Trip} (h : ∀ k, k < l.length → tripOk cap n l k = true) (hc : 0 ≤ cap) (K : Nat) : ∀ m : Nat, m ≤ l.length → usP l m K ≤ cap * m
  | 0, _ => by
    have : ∀ K, usP l 0 K = 0 := fun K => by
      induction K with
      | zero => rfl
      | succ K ih => simp only [usP, ih]; rfl
    rw [this]; simp
  | m + 1, hm => by
    have ih := usP_bd h hc K m (by omega)
    have ht := tripOk_iff.1 (h m (by omega))
    have h2 := usP_step (l := l) (m := m) ht.2.2.2.1 (fun k => (useP_bd h hc k m (by omega)).1) K
    have h3 : cap * ((m + 1 : Nat) : Int) = cap * m + cap := by rw [Int.natCast_succ, Int.mul_add, Int.mul_one]
    rw [h3]
    split at h2 <;> omega
theorem usT_bd {n : Nat} {c : Car} (h : carOk n c = true) (k : Nat) : usT c k ≤ 4194304 := by
  have h1 := carOk_iff.1 h
  have h2 := usP_bd h1.2 (by omega) k c.trips.length (Nat.le_refl _)
  rw [us_eq]
  have h3 : c.cap * (c.trips.length : Int) ≤ 1048576 * 4 := Int.mul_le_mul (by omega) (by omega) (by omega) (by omega)
  omega
theorem carS_abs {n : Nat} {c : Car} (h : carOk n c = true) : ∀ k, sum ((carS c k).map abs) ≤ (if k = 0 then 0 else c.start) + usT c k
  | 0 => by simp [carS, sum, usT]
  | k + 1 => by
    have ih := carS_abs h k
    have h1 := (carOk_iff.1 h).1
    have h2 := useC_bd h k
    simp only [carS, slS, sumA_append, usT]
    simp only [List.map_cons, List.map_nil, sum]
    rw [if_neg (show ¬ (k + 1 = 0) by omega)]
    have e2 : abs (-(useC c k)) = useC c k := by unfold abs; omega
    rw [e2]
    by_cases hk : k = 0
    · rw [if_pos hk]
      rw [if_pos hk] at ih
      have e1 : abs c.start = c.start := by unfold abs; omega
      rw [e1]; omega
    · rw [if_neg hk]
      rw [if_neg hk] at ih
      have e1 : abs 0 = 0 := rfl
      rw [e1]; omega
theorem carsS_abs {S : Site} {cs : List Car} (h : stE S cs = 0) : ∀ i : Nat, i ≤ cs.length → sum ((carsS S cs i).map abs) ≤ 6291456 * i
  | 0, _ => by
    have hz : ∀ n, sum ((List.replicate n (0 : Int)).map abs) = 0 := fun n => by
      induction n with
      | zero => rfl
      | succ n ih => rw [List.replicate_succ, List.map_cons, sum, ih]; rfl
    simp only [carsS, List.map_cons, sum, hz]
    decide
  | i + 1, hi => by
    have hc := carok_of h (show i < cs.length by omega)
    have ih := carsS_abs h i (by omega)
    have h1 := (carOk_iff.1 hc).1
    have h2 := carS_abs hc S.lim.length
    have h3 := usT_bd hc S.lim.length
    simp only [carsS, sumA_append]
    simp only [List.map_cons, List.map_nil, sum]
    have e1 : abs (-(cs.getD i default).fin) = (cs.getD i default).fin := by unfold abs; omega
    have e0 : abs 0 = 0 := rfl
    rw [e1, e0]
    split at h2 <;> omega
theorem slA_ok {M n : Nat} {c : Car} {a k : Nat} (hc : carOk n c = true) (h1 : n < a) (h2 : a + 2 < M) (hk : k < n) : ∀ x, x ∈ slA c a k → arcOk M x = true := by
  have h := (carOk_iff.1 hc).1
  intro x hx
  simp only [slA, List.mem_cons] at hx
  rcases hx with rfl | rfl | hx
  · exact decide_eq_true ⟨by simp only; omega, by simp only; omega, by simp only; omega, by simp only; omega, by simp only; omega⟩
  · exact decide_eq_true ⟨by simp only; omega, by simp only; omega, by simp only; omega, by simp only; omega, by simp only; omega⟩
  · split at hx
    · cases hx
    · simp only [List.mem_cons, List.not_mem_nil, or_false] at hx
      rcases hx with rfl | rfl
      · exact decide_eq_true ⟨by simp only; omega, by simp only; omega, by simp only; omega, by simp only; omega, by simp only; omega⟩
      · exact decide_eq_true ⟨by simp only; omega, by simp only; omega, by simp only; omega, by simp only; omega, by simp only; omega⟩
theorem carA_ok {M n : Nat} {c : Car} {a : Nat} (hc : carOk n c = true) (h1 : n < a) : ∀ k, k ≤ n → a + 2 * k < M → ∀ x, x ∈ carA c a k → arcOk M x = true
  | 0, _, _, x, hx => by cases hx
  | k + 1, hk, h2, x, hx => by
    simp only [carA, List.mem_append] at hx
    rcases hx with hx | hx
    · exact carA_ok hc h1 k (by omega) (by omega) x hx
    · exact slA_ok hc (by omega) (by omega) (by omega) x hx
theorem limA_ok {S : Site} {M : Nat} (h : ∀ t, t < S.lim.length → slotOk S t = true) (hM : S.lim.length < M) : ∀ t, t ≤ S.lim.length → ∀ x, x ∈ limA S t → arcOk M x = true
  | 0, _, x, hx => by cases hx
  | t + 1, ht, x, hx => by
    simp only [limA, List.mem_append, List.mem_singleton] at hx
    have h1 := slotOk_iff.1 (h t (by omega))
    rcases hx with hx | rfl
    · exact limA_ok h hM t (by omega) x hx
    · exact decide_eq_true ⟨by simp only; omega, by simp only; omega, by simp only; omega, by simp only; omega, by simp only; omega⟩
theorem expA_ok {S : Site} {M : Nat} (h : ∀ t, t < S.lim.length → slotOk S t = true) (hM : S.lim.length < M) : ∀ t, t ≤ S.lim.length → ∀ x, x ∈ expA S t → arcOk M x = true
  | 0, _, x, hx => by cases hx
  | t + 1, ht, x, hx => by
    simp only [expA, List.mem_append, List.mem_singleton] at hx
    have h1 := slotOk_iff.1 (h t (by omega))
    rcases hx with hx | rfl
    · exact expA_ok h hM t (by omega) x hx
    · exact decide_eq_true ⟨by simp only; omega, by simp only; omega, by simp only; omega, by simp only; omega, by simp only; omega⟩
theorem carsA_ok {S : Site} {cs : List Car} (h : stE S cs = 0) : ∀ i : Nat, i ≤ cs.length → ∀ x, x ∈ carsA S cs i → arcOk (nodesN S cs) x = true
  | 0, _, x, hx => by
    have hs := (stE_0 h).2.2.1
    have hM : S.lim.length < nodesN S cs := by have := nodes_bd h; omega
    simp only [carsA, List.mem_append] at hx
    rcases hx with hx | hx
    · exact limA_ok hs hM _ (Nat.le_refl _) x hx
    · exact expA_ok hs hM _ (Nat.le_refl _) x hx
  | i + 1, hi, x, hx => by
    have hc := carok_of h (show i < cs.length by omega)
    have h1 := (carOk_iff.1 hc).1
    have hl := node_lt (S := S) (cs := cs) (i := i) (k := S.lim.length) (by omega) (Nat.le_refl _)
    have hk := nodeF_k S.lim.length i S.lim.length
    have h0 : S.lim.length < nodeF S.lim.length i 0 := by unfold nodeF; omega
    simp only [carsA, List.mem_append] at hx
    rcases hx with hx | hx | hx
    · exact carsA_ok h i (by omega) x hx
    · exact carA_ok hc h0 S.lim.length (Nat.le_refl _) (by omega) x hx
    · simp only [finA, List.mem_cons, List.not_mem_nil, or_false] at hx
      rcases hx with rfl | rfl
      · exact decide_eq_true ⟨by simp only; omega, by simp only; omega, by simp only; omega, by simp only; omega, by simp only; omega⟩
      · exact decide_eq_true ⟨by simp only; omega, by simp only; omega, by simp only; omega, by simp only; omega, by simp only; omega⟩
theorem net_ok {S : Site} {cs : List Car} (h : stE S cs = 0) : chE (netN S cs) = 0 := by
  have hn := nodes_bd h
  have h8 := (stE_0 h).1
  have hlen := carsA_bd h cs.length (Nat.le_refl _)
  have hm : manyB (netN S cs) = false := by
    unfold manyB
    refine decide_eq_false ?_
    simp only [netN, supN_len]
    omega
  have hA := carsS_abs h cs.length (Nat.le_refl _)
  have hb := carsS_bd h cs.length (Nat.le_refl _)
  have hsa := sum_abs (carsS S cs cs.length)
  have hh := carsS_head S cs cs.length
  have hl := carsS_len S cs cs.length
  have hs : ∃ t, carsS S cs cs.length = 0 :: t := by
    cases hcs : carsS S cs cs.length with
    | nil => rw [hcs] at hl; have : nodesN S cs = 0 := hl.symm; omega
    | cons a t => rw [hcs] at hh; exact ⟨t, by rw [show a = 0 from hh]⟩
  obtain ⟨t, ht⟩ := hs
  have hsup : supN S cs = -(sum (carsS S cs cs.length)) :: t := by unfold supN; rw [ht]; rfl
  rw [ht] at hA hb hsa
  simp only [List.map_cons, sum] at hA hsa
  have e0 : abs 0 = 0 := rfl
  rw [e0] at hA hsa
  have hk : okB (netN S cs) = true := by
    unfold okB
    simp only [Bool.and_eq_true, List.all_eq_true, decide_eq_true_eq]
    refine ⟨?_, ?_, ?_, ?_⟩
    · intro x hx
      simp only [netN, hsup, ht, List.mem_cons, sum] at hx
      unfold supOk
      refine decide_eq_true ?_
      rcases hx with rfl | hx
      · omega
      · have := hb x (by simp [hx]); omega
    · intro x hx
      have := carsA_ok h cs.length (Nat.le_refl _) x hx
      simp only [netN, supN_len]
      exact this
    · simp only [netN, hsup, ht, sum]; omega
    · simp only [netN, hsup, ht, List.map_cons, sum]
      have : abs (-(0 + sum t)) ≤ sum (t.map abs) := by unfold abs; have := sum_abs t; unfold abs at this; omega
      omega
  unfold chE
  rw [hm, hk]
  rfl
end Dp
end Go.Proofs.Ytmebpglkeedaoaa
namespace Go.Proofs.Ytmebpglkeedaoaa
namespace Dp
def aS (f q : Nat → Int) : List Arc → Nat → Int
  | [], _ => 0
  | a :: l, j => f j * (q a.to.toNat - q a.fr.toNat) + aS f q l (j + 1)
theorem aS_append (f q : Nat → Int) : ∀ (a b : List Arc) (j : Nat), aS f q (a ++ b) j = aS f q a j + aS f q b (j + a.length)
  | [], b, j => by simp [aS]
  | x :: a, b, j => by
    simp only [List.cons_append, aS, aS_append f q a b (j + 1), List.length_cons]
    rw [show j + 1 + a.length = j + (a.length + 1) by omega]; omega
def sS (q : Nat → Int) : List Int → Nat → Int
  | [], _ => 0
  | x :: l, v => q v * x + sS q l (v + 1)
theorem sS_append (q : Nat → Int) : ∀ (a b : List Int) (j : Nat), sS q (a ++ b) j = sS q a j + sS q b (j + a.length)
  | [], b, j => by simp [sS]
  | x :: a, b, j => by
    simp only [List.cons_append, sS, sS_append q a b (j + 1), List.length_cons]
    rw [show j + 1 + a.length = j + (a.length + 1) by omega]; omega
theorem arcS_aS (N : Net) (f q : Nat → Int) : ∀ k, k ≤ N.arcs.length → arcS f (fun j => q (toN N j) - q (frN N j)) k = aS f q (N.arcs.take k) 0
  | 0, _ => by simp [arcS, aS]
  | k + 1, hk => by
    rw [arcS, arcS_aS N f q k (by omega), List.take_succ_eq_append_getElem (by omega), aS_append]
    simp only [aS, List.length_take, Nat.min_eq_left (show k ≤ N.arcs.length by omega), Nat.zero_add, Int.add_zero]
    unfold toN frN
    rw [List.getD_eq_getElem?_getD, List.getElem?_eq_getElem (by omega)]
    rfl
theorem dot_sS (q : Nat → Int) (l : List Int) : ∀ k, k ≤ l.length → dotN q (fun v => l.getD v 0) k = sS q (l.take k) 0
  | 0, _ => by simp [dotN, sS]
  | k + 1, hk => by
    rw [dotN, dot_sS q l k (by omega), List.take_succ_eq_append_getElem (by omega), sS_append]
    simp only [sS, List.length_take, Nat.min_eq_left (show k ≤ l.length by omega), Nat.zero_add, Int.add_zero]
    rw [List.getD_eq_getElem?_getD, List.getElem?_eq_getElem (by omega)]
    rfl
def su (g : Nat → Int) : Nat → Int
  | 0 => 0
  | n + 1 => su g n + g n
theorem su_congr {g h : Nat → Int} : ∀ n : Nat, (∀ k, k < n → g k = h k) → su g n = su h n
  | 0, _ => rfl
  | n + 1, e => by simp only [su]; rw [su_congr n (fun k hk => e k (by omega)), e n (by omega)]
theorem su_add (g h : Nat → Int) : ∀ n : Nat, su (fun k => g k + h k) n = su g n + su h n
  | 0 => rfl
  | n + 1 => by simp only [su]; rw [su_add g h n]; omega
theorem su_zero : ∀ n : Nat, su (fun _ => 0) n = 0
  | 0 => rfl
  | n + 1 => by simp only [su, su_zero n]; rfl
theorem su_nn {g : Nat → Int} : ∀ n : Nat, (∀ k, k < n → 0 ≤ g k) → 0 ≤ su g n
  | 0, _ => Int.le_refl _
  | n + 1, h => by have := su_nn (g := g) n (fun k hk => h k (by omega)); have := h n (by omega); simp only [su]; omega
theorem su_all {g : Nat → Int} : ∀ n : Nat, (∀ k, k < n → 0 ≤ g k) → su g n = 0 → ∀ k, k < n → g k = 0
  | 0, _, _, k, hk => absurd hk (Nat.not_lt_zero _)
  | n + 1, h, e, k, hk => by
    have h1 := su_nn (g := g) n (fun k hk => h k (by omega))
    have h2 := h n (by omega)
    simp only [su] at e
    rcases (show k < n ∨ k = n by omega) with h3 | rfl
    · exact su_all n (fun k hk => h k (by omega)) (by omega) k h3
    · omega
theorem su_at (g : Nat → Int) (a : Nat) : ∀ n : Nat, su (fun k => if k = a then g k else 0) n = if a < n then g a else 0
  | 0 => rfl
  | n + 1 => by
    simp only [su]
    rw [su_at g a n]
    by_cases h : n = a
    · subst h; rw [if_neg (Nat.lt_irrefl n), if_pos rfl, if_pos (by omega)]; omega
    · rw [if_neg h]
      by_cases h2 : a < n
      · rw [if_pos h2, if_pos (by omega)]; omega
      · rw [if_neg h2, if_neg (by omega)]; omega
section
variable (S : Site) (cs : List Car) (f q : Nat → Int)
def bA (i k : Nat) : Nat := (arcsAt S cs i k).length
def aIn (i k : Nat) : Int := if awayC (cs.getD i default) k = true then 0 else f (bA S cs i k + 2)
def aOut (i k : Nat) : Int := if awayC (cs.getD i default) k = true then 0 else f (bA S cs i k + 3)
def incK (i : Nat) : Nat → Int
  | 0 => (cs.getD i default).start
  | k + 1 => f (bA S cs i k + 1) + aIn S cs f i k
def r0K (i k : Nat) : Int := incK S cs f i k - f (bA S cs i k)
def r1K (i k : Nat) : Int := f (bA S cs i k) - f (bA S cs i k + 1) - aOut S cs f i k - useC (cs.getD i default) k
theorem bA_eq (i k : Nat) : bA S cs i k = bA S cs i 0 + (carA (cs.getD i default) (nodeF S.lim.length i 0) k).length := by
  unfold bA arcsAt
  simp [carA]
theorem slA_sum (c : Car) (a k b : Nat) : aS f q (slA c a k) b = f b * (q (a + 1) - q a) + f (b + 1) * (q (a + 2) - q (a + 1)) + (if awayC c k = true then 0 else f (b + 2)) * (q (a + 2) - q (1 + k)) + (if awayC c k = true then 0 else f (b + 3)) * (q (1 + k) - q (a + 1)) := by
  have e1 : ((a : Int) + 1).toNat = a + 1 := by omega
  have e2 : ((a : Int) + 2).toNat = a + 2 := by omega
  have e3 : (1 + (k : Int)).toNat = 1 + k := by omega
  unfold slA
  by_cases h : awayC c k = true
  · simp only [if_pos h, aS, e1, e2, Int.toNat_natCast]; omega
  · simp only [if_neg h, aS, e1, e2, e3, Int.toNat_natCast]
    rw [show b + 1 + 1 = b + 2 from rfl, show b + 2 + 1 = b + 3 from rfl]; omega
def slR (i k : Nat) : Int := r0K S cs f i k * q (nodeF S.lim.length i 0 + 2 * k) + r1K S cs f i k * q (nodeF S.lim.length i 0 + 2 * k + 1) - (aIn S cs f i k - aOut S cs f i k) * q (1 + k)
theorem car_sum (i : Nat) : ∀ k : Nat, aS f q (carA (cs.getD i default) (nodeF S.lim.length i 0) k) (bA S cs i 0) + sS q (carS (cs.getD i default) k) (nodeF S.lim.length i 0) + (if k = 0 then (cs.getD i default).start * q (nodeF S.lim.length i 0) else 0) = su (slR S cs f q i) k + incK S cs f i k * q (nodeF S.lim.length i 0 + 2 * k)
  | 0 => by simp [carA, carS, aS, sS, su, incK]
  | k + 1 => by
    have ih := car_sum i k
    rw [if_neg (by omega)]
    simp only [carA, carS, aS_append, sS_append, carS_len, slA_sum, su, ← bA_eq]
    have e1 : sS q (slS (cs.getD i default) k) (nodeF S.lim.length i 0 + 2 * k) = q (nodeF S.lim.length i 0 + 2 * k) * (if k = 0 then (cs.getD i default).start else 0) - q (nodeF S.lim.length i 0 + 2 * k + 1) * useC (cs.getD i default) k := by
      simp only [slS, sS, Int.mul_neg]; omega
    have e2 : (if k = 0 then (cs.getD i default).start * q (nodeF S.lim.length i 0) else 0) = q (nodeF S.lim.length i 0 + 2 * k) * (if k = 0 then (cs.getD i default).start else 0) := by
      by_cases h : k = 0
      · subst h; simp; exact Int.mul_comm _ _
      · simp [h]
    rw [e2] at ih
    rw [e1]
    have e3 : incK S cs f i (k + 1) = f (bA S cs i k + 1) + aIn S cs f i k := rfl
    rw [e3, show nodeF S.lim.length i 0 + 2 * (k + 1) = nodeF S.lim.length i 0 + 2 * k + 2 by omega]
    unfold slR r0K r1K
    have ei : (if awayC (cs.getD i default) k = true then 0 else f (bA S cs i k + 2)) = aIn S cs f i k := rfl
    have eo : (if awayC (cs.getD i default) k = true then 0 else f (bA S cs i k + 3)) = aOut S cs f i k := rfl
    rw [ei, eo]
    generalize (if k = 0 then (cs.getD i default).start else 0) = st at *
    generalize aS f q (carA (cs.getD i default) (nodeF S.lim.length i 0) k) (bA S cs i 0) = A0 at *
    generalize sS q (carS (cs.getD i default) k) (nodeF S.lim.length i 0) = S0 at *
    unfold slR r0K r1K at ih
    generalize su _ k = U at *
    generalize aIn S cs f i k = y1 at *
    generalize aOut S cs f i k = y2 at *
    generalize useC (cs.getD i default) k = y3 at *
    generalize incK S cs f i k = y4 at *
    generalize f (bA S cs i k + 1) = y5 at *
    generalize f (bA S cs i k) = y6 at *
    generalize q (nodeF S.lim.length i 0 + 2 * k) = q0 at *
    generalize q (nodeF S.lim.length i 0 + 2 * k + 1) = q1 at *
    generalize q (nodeF S.lim.length i 0 + 2 * k + 2) = q2 at *
    generalize q (1 + k) = q3 at *
    grind
def caR (i : Nat) : Int := su (slR S cs f q i) S.lim.length + (incK S cs f i S.lim.length - f (bA S cs i S.lim.length)) * q (nodeF S.lim.length i 0 + 2 * S.lim.length) + (f (bA S cs i S.lim.length) - f (bA S cs i S.lim.length + 1) - (cs.getD i default).fin) * q (nodeF S.lim.length i 0 + 2 * S.lim.length + 1) + f (bA S cs i S.lim.length + 1) * q 0
theorem car_all (hn : 0 < S.lim.length) (i : Nat) : aS f q (carA (cs.getD i default) (nodeF S.lim.length i 0) S.lim.length ++ finA (cs.getD i default) (nodeF S.lim.length i S.lim.length)) (bA S cs i 0) + sS q (carS (cs.getD i default) S.lim.length ++ [0, -(cs.getD i default).fin]) (nodeF S.lim.length i 0) = caR S cs f q i := by
  have h := car_sum S cs f q i S.lim.length
  rw [if_neg (by omega)] at h
  have e1 : ((nodeF S.lim.length i S.lim.length : Int) + 1).toNat = nodeF S.lim.length i 0 + 2 * S.lim.length + 1 := by rw [nodeF_k]; omega
  have e0 : ((nodeF S.lim.length i S.lim.length : Int)).toNat = nodeF S.lim.length i 0 + 2 * S.lim.length := by rw [nodeF_k]; omega
  simp only [aS_append, sS_append, carS_len, ← bA_eq, finA, aS, sS, e1, e0]
  unfold caR
  rw [show (0 : Int).toNat = 0 from rfl]
  generalize su _ S.lim.length = U at *
  generalize aS f q _ _ = A0 at *
  generalize sS q _ _ = S0 at *
  grind
def leK (k : Nat) : Int := f k - f (S.lim.length + k)
theorem lim_sum : ∀ t : Nat, aS f q (limA S t) 0 = su (fun k => f k * (q (1 + k) - q 0)) t
  | 0 => rfl
  | t + 1 => by
    have e : (1 + (t : Int)).toNat = 1 + t := by omega
    simp only [limA, aS_append, limA_len, su, lim_sum t, aS, e, Nat.zero_add]
    rw [show (0 : Int).toNat = 0 from rfl]; omega
theorem exp_sum (b : Nat) : ∀ t : Nat, aS f q (expA S t) b = su (fun k => f (b + k) * (q 0 - q (1 + k))) t
  | 0 => rfl
  | t + 1 => by
    have e : (1 + (t : Int)).toNat = 1 + t := by omega
    simp only [expA, aS_append, expA_len, su, exp_sum b t, aS, e]
    rw [show (0 : Int).toNat = 0 from rfl]; omega
theorem sS_zero : ∀ (n v : Nat), sS q (List.replicate n 0) v = 0
  | 0, _ => rfl
  | n + 1, v => by simp [List.replicate_succ, sS, sS_zero n (v + 1)]
theorem tot_sum (hn : 0 < S.lim.length) : ∀ i : Nat, aS f q (carsA S cs i) 0 + sS q (carsS S cs i) 0 = su (fun k => leK S f k * (q (1 + k) - q 0)) S.lim.length + su (caR S cs f q) i
  | 0 => by
    simp only [carsA, carsS, aS_append, limA_len, lim_sum, exp_sum, sS, sS_zero, su, Nat.zero_add]
    have : ∀ n m : Nat, su (fun k => f k * (q (1 + k) - q 0)) n + su (fun k => f (m + k) * (q 0 - q (1 + k))) n = su (fun k => (f k - f (m + k)) * (q (1 + k) - q 0)) n := fun n m => by
      rw [← su_add]
      exact su_congr n (fun k _ => by
        generalize f k = a; generalize f (m + k) = b; generalize q (1 + k) = c; generalize q 0 = d
        grind)
    have h := this S.lim.length S.lim.length
    unfold leK
    omega
  | i + 1 => by
    have ih := tot_sum hn i
    have h := car_all S cs f q hn i
    have hb : bA S cs i 0 = (carsA S cs i).length := by unfold bA; rw [arcsAt_zero]
    simp only [carsA, carsS]
    rw [aS_append f q (carsA S cs i), sS_append q (carsS S cs i), carsS_len, su, Nat.zero_add, Nat.zero_add, ← hb]
    omega
theorem weights (n : Nat) (s : Nat → Int) (P : Nat → Nat → Int) : ∃ q : Nat → Int, q 0 = 0 ∧ (∀ k, k < n → q (1 + k) = s k) ∧ ∀ i k r, k ≤ n → r < 2 → q (nodeF n i 0 + 2 * k + r) = P i (2 * k + r) := by
  refine ⟨fun v => if v = 0 then 0 else if v ≤ n then s (v - 1) else P ((v - 1 - n) / (2 * (n + 1))) ((v - 1 - n) % (2 * (n + 1))), ?_, fun k hk => ?_, fun i k r hk hr => ?_⟩
  · simp
  · simp only []
    rw [if_neg (by omega), if_pos (by omega), show 1 + k - 1 = k by omega]
  · have e : nodeF n i 0 + 2 * k + r - 1 - n = 2 * (n + 1) * i + (2 * k + r) := by
      unfold nodeF
      have h1 : 2 * (n + 1) * i = 2 * (i * (n + 1)) := by rw [Nat.mul_assoc, Nat.mul_comm (n + 1) i]
      rw [h1, Nat.add_zero]
      omega
    have hp : n < nodeF n i 0 := by unfold nodeF; omega
    simp only []
    rw [if_neg (by omega), if_neg (by omega), e, Nat.mul_add_div (by omega), Nat.mul_add_mod, Nat.mod_eq_of_lt (by omega), Nat.div_eq_of_lt (by omega), Nat.add_zero]
end
end Dp
end Go.Proofs.Ytmebpglkeedaoaa
namespace Go.Proofs.Ytmebpglkeedaoaa
namespace Dp
section
variable {S : Site} {cs : List Car}
def rdF (fl : List Int) (x : Int) : Int := if 0 ≤ x then fl.getD x.toNat 0 else 0
def tbF (S : Site) (cs : List Car) (fl : List Int) : Tab := ⟨(List.range cs.length).map fun i => (inR S cs i).map (rdF fl), (List.range cs.length).map fun i => (outR S cs i).map (rdF fl)⟩
def fA (fl : List Int) : Nat → Int := fun j => fl.getD j 0
theorem getD_mapI {α : Type} (d : α) (n i : Nat) (g : Nat → α) (h : i < n) : ((List.range n).map g).getD i d = g i := by
  simp [List.getD_eq_getElem?_getD, h]
theorem tbF_in {fl : List Int} {i k : Nat} (hi : i < cs.length) (hk : k < S.lim.length) : ((tbF S cs fl).inn.getD i []).getD k 0 = aIn S cs (fA fl) i k := by
  unfold tbF
  simp only []
  rw [getD_mapI _ _ _ _ hi]
  have : (inR S cs i)[k]? = some (inX S cs i k) := by simp [inR, rowK, hk]
  rw [List.getD_eq_getElem?_getD, List.getElem?_map, this]
  show rdF fl (inX S cs i k) = _
  unfold inX aIn fA bA rdF
  by_cases h : awayC (cs.getD i default) k = true
  · rw [if_pos h, if_pos h]; rfl
  · rw [if_neg h, if_neg h, if_pos (by omega)]
    congr 1
theorem tbF_out {fl : List Int} {i k : Nat} (hi : i < cs.length) (hk : k < S.lim.length) : ((tbF S cs fl).out.getD i []).getD k 0 = aOut S cs (fA fl) i k := by
  unfold tbF
  simp only []
  rw [getD_mapI _ _ _ _ hi]
  have : (outR S cs i)[k]? = some (outX S cs i k) := by simp [outR, rowK, hk]
  rw [List.getD_eq_getElem?_getD, List.getElem?_map, this]
  show rdF fl (outX S cs i k) = _
  unfold outX aOut fA bA rdF
  by_cases h : awayC (cs.getD i default) k = true
  · rw [if_pos h, if_pos h]; rfl
  · rw [if_neg h, if_neg h, if_pos (by omega)]
    congr 1
theorem sup_sum (h : stE S cs = 0) (q : Nat → Int) : sS q (supN S cs) 0 = sS q (carsS S cs cs.length) 0 + q 0 * (-(sum (carsS S cs cs.length))) := by
  have hh := carsS_head S cs cs.length
  have hl := carsS_len S cs cs.length
  unfold supN
  cases hcs : carsS S cs cs.length with
  | nil => rw [hcs] at hl; have := nodes_bd h; have : nodesN S cs = 0 := hl.symm; omega
  | cons a t =>
    rw [hcs] at hh
    have : a = 0 := hh
    subst this
    simp only [List.set_cons_zero, sS]
    omega
theorem dot_lv0 {N : Net} {f q : Nat → Int} {k : Nat} : ∀ n : Nat, (∀ v, v < n → lv N f k v = 0) → dotN q (lv N f k) n = 0
  | 0, _ => rfl
  | n + 1, h => by simp only [dotN]; rw [dot_lv0 n (fun v hv => h v (by omega)), h n (by omega)]; simp
theorem net_sum (h : stE S cs = 0) (f q : Nat → Int) : dotN q (lv (netN S cs) f (carsA S cs cs.length).length) (nodesN S cs) = su (fun k => leK S f k * (q (1 + k) - q 0)) S.lim.length + su (caR S cs f q) cs.length + q 0 * (-(sum (carsS S cs cs.length))) := by
  have hn := (siteHead_iff.1 (stE_0 h).2.1).1.1
  have h1 := lv_dot (net_ok h) q f (carsA S cs cs.length).length (Nat.le_refl _)
  have ha := arcS_aS (netN S cs) f q (carsA S cs cs.length).length (Nat.le_refl _)
  have hb := dot_sS q (supN S cs) (supN S cs).length (Nat.le_refl _)
  rw [List.take_length] at hb
  rw [show (netN S cs).arcs = carsA S cs cs.length from rfl, List.take_length] at ha
  rw [ha, show (netN S cs).sup = supN S cs from rfl, hb, sup_sum h, supN_len] at h1
  have h2 := tot_sum S cs f q hn cs.length
  rw [h1]
  omega
theorem flow_sum (h : stE S cs = 0) {fl : List Int} (hf : isFlow (netN S cs) fl = true) (q : Nat → Int) : su (fun k => leK S (fA fl) k * (q (1 + k) - q 0)) S.lim.length + su (caR S cs (fA fl) q) cs.length + q 0 * (-(sum (carsS S cs cs.length))) = 0 := by
  have h1 := flow_left (net_ok h) hf
  rw [← net_sum h (fA fl) q]
  refine dot_lv0 _ (fun v hv => h1.1 v ?_)
  show v < (supN S cs).length
  rw [supN_len]; exact hv
theorem sq_nn (a : Int) : 0 ≤ a * a := by
  rcases Int.le_total 0 a with h | h
  · exact Int.mul_nonneg h h
  · have := Int.mul_nonneg (show 0 ≤ -a by omega) (show 0 ≤ -a by omega)
    rwa [Int.neg_mul_neg] at this
theorem sq_zero {a : Int} (h : a * a = 0) : a = 0 := by
  rcases Int.mul_eq_zero.1 h with h | h <;> exact h
theorem flow_car (h : stE S cs = 0) {fl : List Int} (hf : isFlow (netN S cs) fl = true) : ∀ i, i < cs.length → (∀ k, k < S.lim.length → r0K S cs (fA fl) i k = 0 ∧ r1K S cs (fA fl) i k = 0) ∧
    incK S cs (fA fl) i S.lim.length - fA fl (bA S cs i S.lim.length) = 0 ∧ fA fl (bA S cs i S.lim.length) - fA fl (bA S cs i S.lim.length + 1) - (cs.getD i default).fin = 0 := by
  generalize hff : fA fl = f
  obtain ⟨q, q0, qs, qP⟩ := weights S.lim.length (fun _ => 0) (fun i t => if t % 2 = 0 then incK S cs f i (t / 2) - f (bA S cs i (t / 2)) else if t / 2 < S.lim.length then r1K S cs f i (t / 2) else f (bA S cs i S.lim.length) - f (bA S cs i S.lim.length + 1) - (cs.getD i default).fin)
  have hP0 : ∀ i k, k ≤ S.lim.length → q (nodeF S.lim.length i 0 + 2 * k) = incK S cs f i k - f (bA S cs i k) := fun i k hk => by
    have := qP i k 0 hk (by omega)
    rw [Nat.add_zero, Nat.add_zero, if_pos (by omega), show 2 * k / 2 = k by omega] at this
    exact this
  have hP1 : ∀ i k, k < S.lim.length → q (nodeF S.lim.length i 0 + 2 * k + 1) = r1K S cs f i k := fun i k hk => by
    have := qP i k 1 (by omega) (by omega)
    rw [if_neg (by omega), show (2 * k + 1) / 2 = k by omega, if_pos hk] at this
    exact this
  have hP2 : ∀ i, q (nodeF S.lim.length i 0 + 2 * S.lim.length + 1) = f (bA S cs i S.lim.length) - f (bA S cs i S.lim.length + 1) - (cs.getD i default).fin := fun i => by
    have := qP i S.lim.length 1 (Nat.le_refl _) (by omega)
    rw [if_neg (by omega), show (2 * S.lim.length + 1) / 2 = S.lim.length by omega, if_neg (Nat.lt_irrefl _)] at this
    exact this
  have hs := flow_sum h hf q
  rw [hff, q0, Int.zero_mul, Int.add_zero, su_congr (h := fun _ => 0) _ (fun k hk => by rw [qs k hk]; simp), su_zero, Int.zero_add] at hs
  have hsl : ∀ i k, k < S.lim.length → slR S cs f q i k = r0K S cs f i k * r0K S cs f i k + r1K S cs f i k * r1K S cs f i k := fun i k hk => by
    unfold slR
    rw [hP0 i k (by omega), hP1 i k hk, qs k hk]
    unfold r0K
    simp
  have hc : ∀ i, caR S cs f q i = su (fun k => r0K S cs f i k * r0K S cs f i k + r1K S cs f i k * r1K S cs f i k) S.lim.length + (incK S cs f i S.lim.length - f (bA S cs i S.lim.length)) * (incK S cs f i S.lim.length - f (bA S cs i S.lim.length)) + (f (bA S cs i S.lim.length) - f (bA S cs i S.lim.length + 1) - (cs.getD i default).fin) * (f (bA S cs i S.lim.length) - f (bA S cs i S.lim.length + 1) - (cs.getD i default).fin) := fun i => by
    unfold caR
    rw [hP0 i _ (Nat.le_refl _), hP2 i, q0, su_congr _ (fun k hk => hsl i k hk)]
    simp
  have hnn : ∀ i k, 0 ≤ r0K S cs f i k * r0K S cs f i k + r1K S cs f i k * r1K S cs f i k := fun i k => by
    have := sq_nn (r0K S cs f i k)
    have := sq_nn (r1K S cs f i k)
    omega
  intro i hi
  have hz := su_all (g := caR S cs f q) _ (fun j _ => by
    rw [hc]
    have h1 := su_nn S.lim.length (fun k _ => hnn j k)
    have h2 := sq_nn (incK S cs f j S.lim.length - f (bA S cs j S.lim.length))
    have h3 := sq_nn (f (bA S cs j S.lim.length) - f (bA S cs j S.lim.length + 1) - (cs.getD j default).fin)
    omega) hs i hi
  rw [hc] at hz
  have h1 := su_nn S.lim.length (fun k _ => hnn i k)
  have h2 := sq_nn (incK S cs f i S.lim.length - f (bA S cs i S.lim.length))
  have h3 := sq_nn (f (bA S cs i S.lim.length) - f (bA S cs i S.lim.length + 1) - (cs.getD i default).fin)
  refine ⟨fun k hk => ?_, sq_zero (by omega), sq_zero (by omega)⟩
  have := su_all _ (fun k _ => hnn i k) (by omega) k hk
  have h4 := sq_nn (r0K S cs f i k)
  have h5 := sq_nn (r1K S cs f i k)
  exact ⟨sq_zero (by omega), sq_zero (by omega)⟩
theorem flow_slot (h : stE S cs = 0) {fl : List Int} (hf : isFlow (netN S cs) fl = true) (k : Nat) (hk : k < S.lim.length) : leK S (fA fl) k = su (fun i => aIn S cs (fA fl) i k - aOut S cs (fA fl) i k) cs.length := by
  generalize hff : fA fl = f
  obtain ⟨q, q0, qs, qP⟩ := weights S.lim.length (fun j => if j = k then 1 else 0) (fun _ _ => 0)
  have hP : ∀ i j r, j ≤ S.lim.length → r < 2 → q (nodeF S.lim.length i 0 + 2 * j + r) = 0 := fun i j r h1 h2 => qP i j r h1 h2
  have hs := flow_sum h hf q
  rw [hff, q0, Int.zero_mul, Int.add_zero, su_congr (h := fun j => if j = k then leK S f j else 0) _ (fun j hj => by rw [qs j hj, Int.sub_zero]; split <;> simp), su_at, if_pos hk] at hs
  have hc : ∀ i, caR S cs f q i = 0 - (aIn S cs f i k - aOut S cs f i k) := fun i => by
    unfold caR
    have e0 := hP i S.lim.length 0 (Nat.le_refl _) (by omega)
    have e1 := hP i S.lim.length 1 (Nat.le_refl _) (by omega)
    rw [Nat.add_zero] at e0
    rw [e0, e1, q0, su_congr (h := fun j => if j = k then 0 - (aIn S cs f i j - aOut S cs f i j) else 0) _ (fun j hj => by
      unfold slR
      have e2 := hP i j 0 (by omega) (by omega)
      rw [Nat.add_zero] at e2
      rw [e2, hP i j 1 (by omega) (by omega), qs j hj]
      split <;> simp), su_at, if_pos hk]
    simp
  have hsub : ∀ (g : Nat → Int) m, su (fun i => 0 - g i) m = - su g m := fun g m => by
    induction m with
    | zero => rfl
    | succ m ih => simp only [su, ih]; omega
  rw [su_congr _ (fun i _ => hc i), hsub] at hs
  omega
end
end Dp
end Go.Proofs.Ytmebpglkeedaoaa
namespace Go.Proofs.Ytmebpglkeedaoaa
namespace Dp
section
variable {S : Site} {cs : List Car}
theorem carA_pre (c : Car) (a k : Nat) : ∀ d, ∃ r, carA c a (k + d) = carA c a k ++ r
  | 0 => ⟨[], by simp⟩
  | d + 1 => by
    obtain ⟨r, hr⟩ := carA_pre c a k d
    exact ⟨r ++ slA c (a + 2 * (k + d)) (k + d), by rw [← Nat.add_assoc, carA, hr, List.append_assoc]⟩
theorem carsA_pre (S : Site) (cs : List Car) (i : Nat) : ∀ d, ∃ r, carsA S cs (i + d) = carsA S cs i ++ r
  | 0 => ⟨[], by simp⟩
  | d + 1 => by
    obtain ⟨r, hr⟩ := carsA_pre S cs i d
    exact ⟨r ++ (carA (cs.getD (i + d) default) (nodeF S.lim.length (i + d) 0) S.lim.length ++ finA (cs.getD (i + d) default) (nodeF S.lim.length (i + d) S.lim.length)), by rw [← Nat.add_assoc, carsA, hr, List.append_assoc]⟩
theorem slot_pre {i k : Nat} (hi : i < cs.length) (hk : k < S.lim.length) : ∃ r, carsA S cs cs.length = arcsAt S cs i k ++ (slA (cs.getD i default) (nodeF S.lim.length i k) k ++ r) := by
  obtain ⟨r, hr⟩ := carsA_pre S cs (i + 1) (cs.length - (i + 1))
  obtain ⟨r2, hr2⟩ := carA_pre (cs.getD i default) (nodeF S.lim.length i 0) (k + 1) (S.lim.length - (k + 1))
  rw [show i + 1 + (cs.length - (i + 1)) = cs.length by omega] at hr
  rw [show k + 1 + (S.lim.length - (k + 1)) = S.lim.length by omega] at hr2
  refine ⟨r2 ++ finA (cs.getD i default) (nodeF S.lim.length i S.lim.length) ++ r, ?_⟩
  rw [hr, arcsAt_last, arcsAt, hr2, nodeF_k S.lim.length i k]
  simp [arcsAt, carA]
theorem last_pre {i : Nat} (hi : i < cs.length) : ∃ r, carsA S cs cs.length = arcsAt S cs i S.lim.length ++ (finA (cs.getD i default) (nodeF S.lim.length i S.lim.length) ++ r) := by
  obtain ⟨r, hr⟩ := carsA_pre S cs (i + 1) (cs.length - (i + 1))
  rw [show i + 1 + (cs.length - (i + 1)) = cs.length by omega] at hr
  exact ⟨r, by rw [hr, arcsAt_last, List.append_assoc]⟩
theorem mid_get {α : Type} [Inhabited α] {A X R : List α} {j : Nat} (hj : j < X.length) : (A ++ (X ++ R)).getD (A.length + j) default = X.getD j default ∧ A.length + j < (A ++ (X ++ R)).length := by
  constructor
  · rw [List.getD_eq_getElem?_getD, List.getElem?_append_right (by omega), show A.length + j - A.length = j by omega, List.getElem?_append_left hj, List.getD_eq_getElem?_getD]
  · simp; omega
theorem limA_get {t : Nat} : ∀ T, t < T → (limA S T).getD t default = ⟨0, 1 + t, S.lim.getD t 0, S.buy.getD t 0⟩
  | T + 1, h => by
    by_cases e : t = T
    · subst e
      have := mid_get (A := limA S t) (X := [(⟨0, 1 + t, S.lim.getD t 0, S.buy.getD t 0⟩ : Arc)]) (R := []) (j := 0) (by simp)
      rw [limA_len, Nat.add_zero, List.append_nil] at this
      exact this.1
    · have ih := limA_get (t := t) T (by omega)
      rw [limA, List.getD_eq_getElem?_getD, List.getElem?_append_left (by rw [limA_len]; omega), ← List.getD_eq_getElem?_getD]
      exact ih
theorem expA_get {t : Nat} : ∀ T, t < T → (expA S T).getD t default = ⟨1 + t, 0, S.exp.getD t 0, -(S.sell.getD t 0)⟩
  | T + 1, h => by
    by_cases e : t = T
    · subst e
      have := mid_get (A := expA S t) (X := [(⟨1 + t, 0, S.exp.getD t 0, -(S.sell.getD t 0)⟩ : Arc)]) (R := []) (j := 0) (by simp)
      rw [expA_len, Nat.add_zero, List.append_nil] at this
      exact this.1
    · have ih := expA_get (t := t) T (by omega)
      rw [expA, List.getD_eq_getElem?_getD, List.getElem?_append_left (by rw [expA_len]; omega), ← List.getD_eq_getElem?_getD]
      exact ih
theorem flow_in (h : stE S cs = 0) {fl : List Int} (hf : isFlow (netN S cs) fl = true) {A X R : List Arc} (he : carsA S cs cs.length = A ++ (X ++ R)) {j : Nat} (hj : j < X.length) : 0 ≤ fA fl (A.length + j) ∧ fA fl (A.length + j) ≤ (X.getD j default).cap := by
  have h1 := (flow_left (net_ok h) hf).2
  have h2 := mid_get (A := A) (R := R) hj
  have h3 := h1 (A.length + j) (by show _ < (carsA S cs cs.length).length; rw [he]; exact h2.2)
  have h4 : (netN S cs).arcs = A ++ (X ++ R) := he
  rw [h4, h2.1] at h3
  exact h3
theorem flow_slA (h : stE S cs = 0) {fl : List Int} (hf : isFlow (netN S cs) fl = true) {i k : Nat} (hi : i < cs.length) (hk : k < S.lim.length) :
    (0 ≤ fA fl (bA S cs i k) ∧ fA fl (bA S cs i k) ≤ (cs.getD i default).cap) ∧ (0 ≤ fA fl (bA S cs i k + 1) ∧ fA fl (bA S cs i k + 1) ≤ (cs.getD i default).cap) ∧
    (0 ≤ aIn S cs (fA fl) i k ∧ aIn S cs (fA fl) i k ≤ (cs.getD i default).inn) ∧ (0 ≤ aOut S cs (fA fl) i k ∧ aOut S cs (fA fl) i k ≤ (cs.getD i default).out) := by
  obtain ⟨r, hr⟩ := slot_pre hi hk
  have hc := (carOk_iff.1 (carok_of h hi)).1
  have hl := slA_len (cs.getD i default) (nodeF S.lim.length i k) k
  have f0 := flow_in h hf hr (j := 0) (by omega)
  have f1 := flow_in h hf hr (j := 1) (by omega)
  refine ⟨f0, f1, ?_, ?_⟩
  · unfold aIn
    by_cases ha : awayC (cs.getD i default) k = true
    · rw [if_pos ha]; omega
    · rw [if_neg ha]
      have e : slA (cs.getD i default) (nodeF S.lim.length i k) k = [⟨nodeF S.lim.length i k, nodeF S.lim.length i k + 1, (cs.getD i default).cap, 0⟩, ⟨nodeF S.lim.length i k + 1, nodeF S.lim.length i k + 2, (cs.getD i default).cap, 0⟩, ⟨1 + k, nodeF S.lim.length i k + 2, (cs.getD i default).inn, 0⟩, ⟨nodeF S.lim.length i k + 1, 1 + k, (cs.getD i default).out, 0⟩] := by unfold slA; rw [if_neg ha]
      rw [e] at hr
      exact flow_in h hf hr (j := 2) (by simp)
  · unfold aOut
    by_cases ha : awayC (cs.getD i default) k = true
    · rw [if_pos ha]; omega
    · rw [if_neg ha]
      have e : slA (cs.getD i default) (nodeF S.lim.length i k) k = [⟨nodeF S.lim.length i k, nodeF S.lim.length i k + 1, (cs.getD i default).cap, 0⟩, ⟨nodeF S.lim.length i k + 1, nodeF S.lim.length i k + 2, (cs.getD i default).cap, 0⟩, ⟨1 + k, nodeF S.lim.length i k + 2, (cs.getD i default).inn, 0⟩, ⟨nodeF S.lim.length i k + 1, 1 + k, (cs.getD i default).out, 0⟩] := by unfold slA; rw [if_neg ha]
      rw [e] at hr
      exact flow_in h hf hr (j := 3) (by simp)
theorem flow_last (h : stE S cs = 0) {fl : List Int} (hf : isFlow (netN S cs) fl = true) {i : Nat} (hi : i < cs.length) : (0 ≤ fA fl (bA S cs i S.lim.length) ∧ fA fl (bA S cs i S.lim.length) ≤ (cs.getD i default).cap) ∧ 0 ≤ fA fl (bA S cs i S.lim.length + 1) := by
  obtain ⟨r, hr⟩ := last_pre (S := S) hi
  have f0 := flow_in h hf hr (j := 0) (by simp [finA])
  have f1 := flow_in h hf hr (j := 1) (by simp [finA])
  exact ⟨f0, f1.1⟩
theorem flow_lim (h : stE S cs = 0) {fl : List Int} (hf : isFlow (netN S cs) fl = true) {k : Nat} (hk : k < S.lim.length) : (0 ≤ fA fl k ∧ fA fl k ≤ S.lim.getD k 0) ∧ (0 ≤ fA fl (S.lim.length + k) ∧ fA fl (S.lim.length + k) ≤ S.exp.getD k 0) := by
  obtain ⟨r, hr⟩ := carsA_pre S cs 0 cs.length
  rw [Nat.zero_add, carsA] at hr
  have h1 : carsA S cs cs.length = [] ++ (limA S S.lim.length ++ (expA S S.lim.length ++ r)) := by rw [hr]; simp
  have h2 : carsA S cs cs.length = limA S S.lim.length ++ (expA S S.lim.length ++ r) := by rw [hr]; simp
  have f1 := flow_in h hf h1 (j := k) (by rw [limA_len]; exact hk)
  have f2 := flow_in h hf h2 (j := k) (by rw [expA_len]; exact hk)
  rw [limA_get _ hk, List.length_nil, Nat.zero_add] at f1
  rw [expA_get _ hk, limA_len] at f2
  exact ⟨f1, f2⟩
theorem flow_lev (h : stE S cs = 0) {fl : List Int} (hf : isFlow (netN S cs) fl = true) {i : Nat} (hi : i < cs.length) : ∀ k, k ≤ S.lim.length → lev (cs.getD i default) ((tbF S cs fl).inn.getD i []) ((tbF S cs fl).out.getD i []) k = fA fl (bA S cs i k) ∧ incK S cs (fA fl) i k = fA fl (bA S cs i k) := by
  have hc := flow_car h hf i hi
  have hinc : ∀ k, k ≤ S.lim.length → incK S cs (fA fl) i k = fA fl (bA S cs i k) := fun k hk => by
    by_cases e : k < S.lim.length
    · have := (hc.1 k e).1
      unfold r0K at this
      omega
    · obtain rfl : k = S.lim.length := by omega
      have := hc.2.1
      omega
  intro k
  induction k with
  | zero => intro hk; exact ⟨hinc 0 hk, hinc 0 hk⟩
  | succ k ih =>
    intro hk
    refine ⟨?_, hinc (k + 1) hk⟩
    have h1 := ih (by omega)
    have h2 := (hc.1 k (by omega)).2
    have h3 := hinc (k + 1) hk
    unfold r1K at h2
    simp only [incK] at h3
    rw [lev, h1.1, tbF_in hi (by omega), tbF_out hi (by omega)]
    omega
theorem tb_len (S : Site) (cs : List Car) (fl : List Int) : (tbF S cs fl).inn.length = cs.length ∧ (tbF S cs fl).out.length = cs.length := by simp [tbF]
theorem tb_row (S : Site) {cs : List Car} (fl : List Int) {i : Nat} (hi : i < cs.length) : ((tbF S cs fl).inn.getD i []).length = S.lim.length ∧ ((tbF S cs fl).out.getD i []).length = S.lim.length := by
  unfold tbF
  simp only []
  rw [getD_mapI _ _ _ _ hi, getD_mapI _ _ _ _ hi]
  simp [inR, outR, rowK]
theorem tb_dr (h : stE S cs = 0) {fl : List Int} (hf : isFlow (netN S cs) fl = true) {k : Nat} (hk : k < S.lim.length) : drP (tbF S cs fl) k cs.length = leK S (fA fl) k := by
  rw [flow_slot h hf k hk]
  have : ∀ m, m ≤ cs.length → drP (tbF S cs fl) k m = su (fun i => aIn S cs (fA fl) i k - aOut S cs (fA fl) i k) m := fun m => by
    induction m with
    | zero => intro _; rfl
    | succ m ih => intro hm; rw [drP, su, ih (by omega), tbF_in (by omega) hk, tbF_out (by omega) hk]
  exact this _ (Nat.le_refl _)
theorem flow_keeps (h : stE S cs = 0) {fl : List Int} (hf : isFlow (netN S cs) fl = true) : plE S cs (tbF S cs fl) = 0 := by
  have hl := tb_len S cs fl
  have hg : (lenG cs.length S.lim.length (tbF S cs fl).inn && lenG cs.length S.lim.length (tbF S cs fl).out) = true := by
    rw [Bool.and_eq_true, lenG_iff, lenG_iff]
    exact ⟨⟨hl.1, fun i hi => (tb_row S fl hi).1⟩, ⟨hl.2, fun i hi => (tb_row S fl hi).2⟩⟩
  refine plE_good h hg (fun k hk => ?_) (fun i hi => ?_)
  · refine slotE_ok (fun i hi => ?_) ?_
    · unfold carAt
      rw [carG_iff, tbF_in hi hk, tbF_out hi hk]
      have := flow_slA h hf hi hk
      refine ⟨this.2.2.1, this.2.2.2, fun ha => ?_⟩
      unfold aIn aOut
      rw [if_pos ha, if_pos ha]; rfl
    · rw [hl.1, tb_dr h hf hk]
      have := flow_lim h hf hk
      unfold leK
      omega
  · intro k hk
    rw [levG_iff]
    have hv := (flow_lev h hf hi k (by omega)).1
    rw [hv]
    have hc := (carOk_iff.1 (carok_of h hi)).1
    unfold least
    by_cases e : k < S.lim.length
    · have h1 := flow_slA h hf hi e
      have h2 := ((flow_car h hf i hi).1 k e).2
      have h3 := useC_bd (carok_of h hi) k
      rw [if_pos e, tbF_out hi e]
      unfold r1K at h2
      omega
    · obtain rfl : k = S.lim.length := by omega
      have h1 := flow_last h hf hi
      have h2 := (flow_car h hf i hi).2.2
      rw [if_neg e]
      omega
def cA (f : Nat → Int) : List Arc → Nat → Int
  | [], _ => 0
  | a :: l, j => f j * a.cost + cA f l (j + 1)
theorem cA_append (f : Nat → Int) : ∀ (a b : List Arc) (j : Nat), cA f (a ++ b) j = cA f a j + cA f b (j + a.length)
  | [], b, j => by simp [cA]
  | x :: a, b, j => by
    simp only [List.cons_append, cA, cA_append f a b (j + 1), List.length_cons]
    rw [show j + 1 + a.length = j + (a.length + 1) by omega]; omega
theorem cost_cA (N : Net) (fl : List Int) : ∀ k, k ≤ N.arcs.length → costK N fl k = cA (fA fl) (N.arcs.take k) 0
  | 0, _ => by simp [costK, cA]
  | k + 1, hk => by
    rw [costK, cost_cA N fl k (by omega), List.take_succ_eq_append_getElem (by omega), cA_append]
    simp only [cA, List.length_take, Nat.min_eq_left (show k ≤ N.arcs.length by omega), Nat.zero_add, Int.add_zero]
    rw [List.getD_eq_getElem?_getD (l := N.arcs), List.getElem?_eq_getElem (by omega)]
    rfl
theorem cA_zero (f : Nat → Int) : ∀ (l : List Arc) (j : Nat), (∀ a, a ∈ l → a.cost = 0) → cA f l j = 0
  | [], _, _ => rfl
  | a :: l, j, h => by
    rw [cA, h a (by simp), cA_zero f l (j + 1) (fun b hb => h b (by simp [hb]))]; simp
theorem slA_free (c : Car) (a k : Nat) : ∀ x, x ∈ slA c a k → x.cost = 0 := by
  intro x hx
  simp only [slA, List.mem_cons] at hx
  rcases hx with rfl | rfl | hx
  · rfl
  · rfl
  · split at hx
    · cases hx
    · simp only [List.mem_cons, List.not_mem_nil, or_false] at hx
      rcases hx with rfl | rfl <;> rfl
theorem carA_free (c : Car) (a : Nat) : ∀ k x, x ∈ carA c a k → x.cost = 0
  | 0, x, hx => by cases hx
  | k + 1, x, hx => by
    simp only [carA, List.mem_append] at hx
    rcases hx with hx | hx
    · exact carA_free c a k x hx
    · exact slA_free c _ k x hx
theorem lim_cost (f : Nat → Int) : ∀ t, cA f (limA S t) 0 = su (fun k => f k * S.buy.getD k 0) t
  | 0 => rfl
  | t + 1 => by simp only [limA, cA_append, limA_len, su, lim_cost f t, cA, Nat.zero_add]; omega
theorem exp_cost (f : Nat → Int) (b : Nat) : ∀ t, cA f (expA S t) b = su (fun k => -(f (b + k) * S.sell.getD k 0)) t
  | 0 => rfl
  | t + 1 => by simp only [expA, cA_append, expA_len, su, exp_cost f b t, cA, Int.mul_neg]; omega
theorem cost_site (S : Site) (cs : List Car) (fl : List Int) : costK (netN S cs) fl (carsA S cs cs.length).length = su (fun k => fA fl k * S.buy.getD k 0 - fA fl (S.lim.length + k) * S.sell.getD k 0) S.lim.length := by
  have h1 := cost_cA (netN S cs) fl (carsA S cs cs.length).length (Nat.le_refl _)
  rw [show (netN S cs).arcs = carsA S cs cs.length from rfl, List.take_length] at h1
  have h2 : ∀ i, cA (fA fl) (carsA S cs i) 0 = su (fun k => fA fl k * S.buy.getD k 0) S.lim.length + su (fun k => -(fA fl (S.lim.length + k) * S.sell.getD k 0)) S.lim.length := fun i => by
    induction i with
    | zero => rw [carsA, cA_append, limA_len, lim_cost, Nat.zero_add, exp_cost]
    | succ i ih =>
      rw [carsA, cA_append, ih, cA_zero _ _ _ (fun a ha => ?_)]
      · omega
      · rw [List.mem_append] at ha
        rcases ha with ha | ha
        · exact carA_free _ _ _ a ha
        · simp only [finA, List.mem_cons, List.not_mem_nil, or_false] at ha
          rcases ha with rfl | rfl <;> rfl
  rw [h1, h2, ← su_add]
  exact su_congr _ (fun k _ => by omega)
theorem prc_su (T : Tab) (m : Nat) : ∀ n, prc S T m n = su (fun k => prQ S T m k) n
  | 0 => rfl
  | n + 1 => by simp only [prc, su, prc_su T m n]
theorem su_le {g h : Nat → Int} : ∀ n : Nat, (∀ k, k < n → g k ≤ h k) → su g n ≤ su h n
  | 0, _ => Int.le_refl _
  | n + 1, e => by have := su_le (g := g) (h := h) n (fun k hk => e k (by omega)); have := e n (by omega); simp only [su]; omega
theorem flow_price (h : stE S cs = 0) {fl : List Int} (hf : isFlow (netN S cs) fl = true) : prc S (tbF S cs fl) cs.length S.lim.length ≤ costK (netN S cs) fl (carsA S cs cs.length).length := by
  rw [cost_site, prc_su]
  refine su_le _ (fun k hk => ?_)
  have hd := tb_dr h hf hk
  have hb := flow_lim h hf hk
  have hs := slotOk_iff.1 ((stE_0 h).2.2.1 k hk)
  unfold leK at hd
  unfold prQ
  rw [hd]
  generalize fA fl k = l at *
  generalize fA fl (S.lim.length + k) = e at *
  generalize S.buy.getD k 0 = b at *
  generalize S.sell.getD k 0 = c at *
  have h1 : e * c ≤ e * b := Int.mul_le_mul_of_nonneg_left hs.2.2.2.2 hb.2.1
  have h2 : l * c ≤ l * b := Int.mul_le_mul_of_nonneg_left hs.2.2.2.2 hb.1.1
  by_cases hp : 0 ≤ l - e
  · rw [show max 0 (l - e) = l - e by omega, show min 0 (l - e) = 0 by omega, Int.sub_mul]; omega
  · rw [show max 0 (l - e) = 0 by omega, show min 0 (l - e) = l - e by omega, Int.sub_mul]; omega
end
end Dp
end Go.Proofs.Ytmebpglkeedaoaa
namespace Go.Proofs.Ytmebpglkeedaoaa
namespace Dp
def CapL : List Arc → List Int → Prop
  | [], [] => True
  | a :: l, x :: f => (0 ≤ x ∧ x ≤ a.cap) ∧ CapL l f
  | _, _ => False
theorem CapL.append : ∀ {a b : List Arc} {f g : List Int}, CapL a f → CapL b g → CapL (a ++ b) (f ++ g)
  | [], _, [], _, _, h => h
  | _ :: a, _, _ :: f, _, h1, h2 => ⟨h1.1, CapL.append h1.2 h2⟩
  | [], _, _ :: _, _, h, _ => False.elim h
  | _ :: _, _, [], _, h, _ => False.elim h
theorem CapL.len : ∀ {a : List Arc} {f : List Int}, CapL a f → f.length = a.length
  | [], [], _ => rfl
  | _ :: a, _ :: f, h => by simp [CapL.len h.2]
  | [], _ :: _, h => False.elim h
  | _ :: _, [], h => False.elim h
theorem CapL.get : ∀ {a : List Arc} {f : List Int}, CapL a f → ∀ j, j < a.length → 0 ≤ f.getD j 0 ∧ f.getD j 0 ≤ (a.getD j default).cap
  | [], [], _, j, hj => by simp at hj
  | _ :: a, _ :: f, h, 0, _ => h.1
  | _ :: a, _ :: f, h, j + 1, hj => by
    have := CapL.get h.2 j (by simpa using hj)
    simpa using this
  | [], _ :: _, h, _, _ => False.elim h
  | _ :: _, [], h, _, _ => False.elim h
theorem use_away {n : Nat} {c : Car} (h : carOk n c = true) {k : Nat} (ha : awayC c k = false) : useC c k = 0 := by
  have h2 := (carOk_iff.1 h).2
  unfold useC
  unfold awayC at ha
  have : ∀ m, m ≤ c.trips.length → awayP c.trips k m = false → useP c.trips k m = 0 := by
    intro m
    induction m with
    | zero => intro _ _; rfl
    | succ m ih =>
      intro hm hb
      simp only [awayP, Bool.or_eq_false_iff, decide_eq_false_iff_not] at hb
      have ht := tripOk_iff.1 (h2 m (by omega))
      simp only [useP]
      rw [if_neg (fun e => hb.2 ⟨by omega, by omega⟩)]
      exact ih (by omega) hb.1
  exact this _ (Nat.le_refl _) ha
def slF (c : Car) (x y : List Int) (k : Nat) : List Int := lev c x y k :: (lev c x y k - useC c k - y.getD k 0) :: (if awayC c k = true then [] else [x.getD k 0, y.getD k 0])
def flA (c : Car) (x y : List Int) : Nat → List Int
  | 0 => []
  | k + 1 => flA c x y k ++ slF c x y k
section
variable (S : Site) (cs : List Car) (T : Tab)
def flC : Nat → List Int
  | 0 => (List.range S.lim.length).map (fun k => max 0 (drP T k cs.length)) ++ (List.range S.lim.length).map (fun k => max 0 (-(drP T k cs.length)))
  | i + 1 => flC i ++ (flA (cs.getD i default) (T.inn.getD i []) (T.out.getD i []) S.lim.length ++ [lev (cs.getD i default) (T.inn.getD i []) (T.out.getD i []) S.lim.length, lev (cs.getD i default) (T.inn.getD i []) (T.out.getD i []) S.lim.length - (cs.getD i default).fin])
def flT : List Int := flC S cs T cs.length
end
section
variable {S : Site} {cs : List Car} {T : Tab}
theorem cap_slot (h : Keeps S cs T) {i k : Nat} (hi : i < cs.length) (hk : k < S.lim.length) (a : Nat) : CapL (slA (cs.getD i default) a k) (slF (cs.getD i default) (T.inn.getD i []) (T.out.getD i []) k) := by
  have hl := h.level hi (k := k) (by omega)
  have hc := carG_iff.1 (h.car k hk i hi)
  have hg := (levG_iff.1 (h.lv i hi k (by omega))).1
  have hu := useC_bd (h.carok hi) k
  unfold least at hg
  rw [if_pos hk] at hg
  unfold slA slF
  by_cases ha : awayC (cs.getD i default) k = true
  · have := hc.2.2 ha
    rw [if_pos ha, if_pos ha]
    exact ⟨hl, ⟨by omega, by simp only; omega⟩, trivial⟩
  · have h0 := use_away (h.carok hi) (by simpa using ha)
    rw [if_neg ha, if_neg ha]
    exact ⟨hl, ⟨by omega, by simp only; omega⟩, hc.1, hc.2.1, trivial⟩
theorem cap_car (h : Keeps S cs T) {i : Nat} (hi : i < cs.length) (a : Nat) : ∀ k, k ≤ S.lim.length → CapL (carA (cs.getD i default) a k) (flA (cs.getD i default) (T.inn.getD i []) (T.out.getD i []) k)
  | 0, _ => trivial
  | k + 1, hk => (cap_car h hi a k (by omega)).append (cap_slot h hi (by omega) _)
theorem cap_lim (g : Nat → Int) (hg : ∀ k, k < S.lim.length → 0 ≤ g k ∧ g k ≤ S.lim.getD k 0) : ∀ t, t ≤ S.lim.length → CapL (limA S t) ((List.range t).map g)
  | 0, _ => trivial
  | t + 1, ht => by
    rw [List.range_succ, List.map_append]
    exact (cap_lim g hg t (by omega)).append ⟨hg t (by omega), trivial⟩
theorem cap_exp (g : Nat → Int) (hg : ∀ k, k < S.lim.length → 0 ≤ g k ∧ g k ≤ S.exp.getD k 0) : ∀ t, t ≤ S.lim.length → CapL (expA S t) ((List.range t).map g)
  | 0, _ => trivial
  | t + 1, ht => by
    rw [List.range_succ, List.map_append]
    exact (cap_exp g hg t (by omega)).append ⟨hg t (by omega), trivial⟩
theorem cap_all (h : Keeps S cs T) : ∀ i, i ≤ cs.length → CapL (carsA S cs i) (flC S cs T i)
  | 0, _ => by
    have hs := (stE_0 h.ok).2.2.1
    refine (cap_lim _ (fun k hk => ?_) _ (Nat.le_refl _)).append (cap_exp _ (fun k hk => ?_) _ (Nat.le_refl _))
    · have := h.dr k hk
      rw [h.li] at this
      have := slotOk_iff.1 (hs k hk)
      omega
    · have := h.dr k hk
      rw [h.li] at this
      have := slotOk_iff.1 (hs k hk)
      omega
  | i + 1, hi => by
    have hl := h.level (i := i) (by omega) (Nat.le_refl S.lim.length)
    have hf := h.last (i := i) (by omega)
    have hc := (carOk_iff.1 (h.carok (i := i) (by omega))).1
    exact (cap_all h i (by omega)).append ((cap_car h (by omega) _ _ (Nat.le_refl _)).append ⟨hl, ⟨by omega, by simp only; omega⟩, trivial⟩)
theorem midI {A X R : List Int} {j : Nat} (hj : j < X.length) : (A ++ (X ++ R)).getD (A.length + j) 0 = X.getD j 0 := by
  rw [List.getD_eq_getElem?_getD, List.getElem?_append_right (by omega), show A.length + j - A.length = j by omega, List.getElem?_append_left hj, List.getD_eq_getElem?_getD]
theorem flA_pre (c : Car) (x y : List Int) (k : Nat) : ∀ d, ∃ r, flA c x y (k + d) = flA c x y k ++ r
  | 0 => ⟨[], by simp⟩
  | d + 1 => by
    obtain ⟨r, hr⟩ := flA_pre c x y k d
    exact ⟨r ++ slF c x y (k + d), by rw [← Nat.add_assoc, flA, hr, List.append_assoc]⟩
theorem flC_pre (S : Site) (cs : List Car) (T : Tab) (i : Nat) : ∀ d, ∃ r, flC S cs T (i + d) = flC S cs T i ++ r
  | 0 => ⟨[], by simp⟩
  | d + 1 => by
    obtain ⟨r, hr⟩ := flC_pre S cs T i d
    exact ⟨_, by rw [← Nat.add_assoc, flC, hr, List.append_assoc]⟩
theorem fl_slot (h : Keeps S cs T) {i k : Nat} (hi : i < cs.length) (hk : k < S.lim.length) {j : Nat} (hj : j < (slF (cs.getD i default) (T.inn.getD i []) (T.out.getD i []) k).length) : fA (flT S cs T) (bA S cs i k + j) = (slF (cs.getD i default) (T.inn.getD i []) (T.out.getD i []) k).getD j 0 := by
  obtain ⟨r, hr⟩ := flC_pre S cs T (i + 1) (cs.length - (i + 1))
  obtain ⟨r2, hr2⟩ := flA_pre (cs.getD i default) (T.inn.getD i []) (T.out.getD i []) (k + 1) (S.lim.length - (k + 1))
  rw [show i + 1 + (cs.length - (i + 1)) = cs.length by omega] at hr
  rw [show k + 1 + (S.lim.length - (k + 1)) = S.lim.length by omega] at hr2
  have hlen : bA S cs i k = (flC S cs T i ++ flA (cs.getD i default) (T.inn.getD i []) (T.out.getD i []) k).length := by
    unfold bA arcsAt
    rw [List.length_append, List.length_append, (cap_all h i (by omega)).len, (cap_car h hi (nodeF S.lim.length i 0) k (by omega)).len]
  unfold fA flT
  rw [hr, flC, hr2, flA, hlen]
  have := midI (A := flC S cs T i ++ flA (cs.getD i default) (T.inn.getD i []) (T.out.getD i []) k) (R := r2 ++ ([lev (cs.getD i default) (T.inn.getD i []) (T.out.getD i []) S.lim.length, lev (cs.getD i default) (T.inn.getD i []) (T.out.getD i []) S.lim.length - (cs.getD i default).fin] ++ r)) hj
  rw [← this]
  congr 1
  simp
theorem fl_last (h : Keeps S cs T) {i : Nat} (hi : i < cs.length) : fA (flT S cs T) (bA S cs i S.lim.length) = lev (cs.getD i default) (T.inn.getD i []) (T.out.getD i []) S.lim.length ∧ fA (flT S cs T) (bA S cs i S.lim.length + 1) = lev (cs.getD i default) (T.inn.getD i []) (T.out.getD i []) S.lim.length - (cs.getD i default).fin := by
  obtain ⟨r, hr⟩ := flC_pre S cs T (i + 1) (cs.length - (i + 1))
  rw [show i + 1 + (cs.length - (i + 1)) = cs.length by omega] at hr
  have hlen : bA S cs i S.lim.length = (flC S cs T i ++ flA (cs.getD i default) (T.inn.getD i []) (T.out.getD i []) S.lim.length).length := by
    unfold bA arcsAt
    rw [List.length_append, List.length_append, (cap_all h i (by omega)).len, (cap_car h hi (nodeF S.lim.length i 0) S.lim.length (Nat.le_refl _)).len]
  have he : flT S cs T = (flC S cs T i ++ flA (cs.getD i default) (T.inn.getD i []) (T.out.getD i []) S.lim.length) ++ ([lev (cs.getD i default) (T.inn.getD i []) (T.out.getD i []) S.lim.length, lev (cs.getD i default) (T.inn.getD i []) (T.out.getD i []) S.lim.length - (cs.getD i default).fin] ++ r) := by
    unfold flT
    rw [hr, flC]
    simp
  unfold fA
  rw [he, hlen]
  have e0 := midI (A := flC S cs T i ++ flA (cs.getD i default) (T.inn.getD i []) (T.out.getD i []) S.lim.length) (R := r) (X := [lev (cs.getD i default) (T.inn.getD i []) (T.out.getD i []) S.lim.length, lev (cs.getD i default) (T.inn.getD i []) (T.out.getD i []) S.lim.length - (cs.getD i default).fin]) (j := 0) (by simp)
  have e1 := midI (A := flC S cs T i ++ flA (cs.getD i default) (T.inn.getD i []) (T.out.getD i []) S.lim.length) (R := r) (X := [lev (cs.getD i default) (T.inn.getD i []) (T.out.getD i []) S.lim.length, lev (cs.getD i default) (T.inn.getD i []) (T.out.getD i []) S.lim.length - (cs.getD i default).fin]) (j := 1) (by simp)
  exact ⟨e0, e1⟩
theorem fl_site (S : Site) (cs : List Car) (T : Tab) {k : Nat} (hk : k < S.lim.length) : fA (flT S cs T) k = max 0 (drP T k cs.length) ∧ fA (flT S cs T) (S.lim.length + k) = max 0 (-(drP T k cs.length)) := by
  obtain ⟨r, hr⟩ := flC_pre S cs T 0 cs.length
  rw [Nat.zero_add, flC] at hr
  unfold fA flT
  constructor
  · have := midI (A := []) (X := (List.range S.lim.length).map (fun k => max 0 (drP T k cs.length))) (R := (List.range S.lim.length).map (fun k => max 0 (-(drP T k cs.length))) ++ r) (j := k) (by simp; exact hk)
    rw [List.nil_append, List.length_nil, Nat.zero_add, getD_mapI _ _ _ _ hk] at this
    rw [hr, List.append_assoc]
    exact this
  · have := midI (A := (List.range S.lim.length).map (fun k => max 0 (drP T k cs.length))) (X := (List.range S.lim.length).map (fun k => max 0 (-(drP T k cs.length)))) (R := r) (j := k) (by simp; exact hk)
    rw [List.length_map, List.length_range, getD_mapI _ _ _ _ hk] at this
    rw [hr, List.append_assoc]
    exact this
theorem slF_len (c : Car) (x y : List Int) (k : Nat) : 2 ≤ (slF c x y k).length := by unfold slF; simp
theorem fl_in (h : Keeps S cs T) {i k : Nat} (hi : i < cs.length) (hk : k < S.lim.length) : aIn S cs (fA (flT S cs T)) i k = (T.inn.getD i []).getD k 0 ∧ aOut S cs (fA (flT S cs T)) i k = (T.out.getD i []).getD k 0 := by
  have hc := carG_iff.1 (h.car k hk i hi)
  unfold aIn aOut
  by_cases ha : awayC (cs.getD i default) k = true
  · have := hc.2.2 ha
    rw [if_pos ha, if_pos ha]
    omega
  · have e : slF (cs.getD i default) (T.inn.getD i []) (T.out.getD i []) k = [lev (cs.getD i default) (T.inn.getD i []) (T.out.getD i []) k, lev (cs.getD i default) (T.inn.getD i []) (T.out.getD i []) k - useC (cs.getD i default) k - (T.out.getD i []).getD k 0, (T.inn.getD i []).getD k 0, (T.out.getD i []).getD k 0] := by unfold slF; rw [if_neg ha]
    rw [if_neg ha, if_neg ha, fl_slot h hi hk (j := 2) (by rw [e]; simp), fl_slot h hi hk (j := 3) (by rw [e]; simp), e]
    exact ⟨rfl, rfl⟩
theorem fl_res (h : Keeps S cs T) {i : Nat} (hi : i < cs.length) : (∀ k, k ≤ S.lim.length → incK S cs (fA (flT S cs T)) i k = lev (cs.getD i default) (T.inn.getD i []) (T.out.getD i []) k) ∧ ∀ k, k < S.lim.length → r0K S cs (fA (flT S cs T)) i k = 0 ∧ r1K S cs (fA (flT S cs T)) i k = 0 := by
  have h0 : ∀ k, k < S.lim.length → fA (flT S cs T) (bA S cs i k) = lev (cs.getD i default) (T.inn.getD i []) (T.out.getD i []) k := fun k hk =>
    fl_slot h hi hk (j := 0) (by have := slF_len (cs.getD i default) (T.inn.getD i []) (T.out.getD i []) k; omega)
  have h1 : ∀ k, k < S.lim.length → fA (flT S cs T) (bA S cs i k + 1) = lev (cs.getD i default) (T.inn.getD i []) (T.out.getD i []) k - useC (cs.getD i default) k - (T.out.getD i []).getD k 0 := fun k hk =>
    fl_slot h hi hk (j := 1) (by have := slF_len (cs.getD i default) (T.inn.getD i []) (T.out.getD i []) k; omega)
  have hi1 : ∀ k, k ≤ S.lim.length → incK S cs (fA (flT S cs T)) i k = lev (cs.getD i default) (T.inn.getD i []) (T.out.getD i []) k := fun k hk => by
    cases k with
    | zero => rfl
    | succ k =>
      have := (fl_in h hi (show k < S.lim.length by omega)).1
      rw [incK, h1 k (by omega), this, lev]; omega
  refine ⟨hi1, fun k hk => ⟨?_, ?_⟩⟩
  · unfold r0K
    rw [hi1 k (by omega), h0 k hk]; omega
  · unfold r1K
    rw [h0 k hk, h1 k hk, (fl_in h hi hk).2]; omega
theorem lev_su (c : Car) (x y : List Int) : ∀ k, lev c x y k = c.start + su (fun j => x.getD j 0 - y.getD j 0) k - usT c k
  | 0 => by simp [lev, su, usT]
  | k + 1 => by rw [lev, lev_su c x y k, su, usT]; omega
theorem sum_carS (c : Car) : ∀ k, sum (carS c k) = (if k = 0 then 0 else c.start) - usT c k
  | 0 => rfl
  | k + 1 => by
    rw [carS, sum_append, sum_carS c k, usT, if_neg (show ¬ (k + 1 = 0) by omega)]
    simp only [slS, sum]
    by_cases h : k = 0
    · rw [if_pos h, if_pos h]; omega
    · rw [if_neg h, if_neg h]; omega
theorem su_mul (g : Nat → Int) (c : Int) : ∀ n, su (fun k => g k * c) n = su g n * c
  | 0 => by simp [su]
  | n + 1 => by simp only [su]; rw [su_mul g c n, Int.add_mul]
theorem fl_tot (h : Keeps S cs T) (q : Nat → Int) : ∀ i, i ≤ cs.length → su (fun k => drP T k i * (q (1 + k) - q 0)) S.lim.length + su (caR S cs (fA (flT S cs T)) q) i = q 0 * sum (carsS S cs i)
  | 0, _ => by
    have e1 : su (fun k => drP T k 0 * (q (1 + k) - q 0)) S.lim.length = 0 := by rw [su_congr (h := fun _ => 0) _ (fun k _ => by simp [drP]), su_zero]
    have e2 : ∀ n, sum (List.replicate n 0) = 0 := fun n => by
      induction n with
      | zero => rfl
      | succ n ih => rw [List.replicate_succ, sum, ih]; rfl
    rw [e1]
    simp [su, carsS, sum, e2]
  | i + 1, hi => by
    have hn := (siteHead_iff.1 (stE_0 h.ok).2.1).1.1
    have ih := fl_tot h q i (by omega)
    have hr := fl_res h (i := i) (by omega)
    have hl := fl_last h (i := i) (by omega)
    have e1 : su (fun k => drP T k (i + 1) * (q (1 + k) - q 0)) S.lim.length = su (fun k => drP T k i * (q (1 + k) - q 0)) S.lim.length + su (fun k => ((T.inn.getD i []).getD k 0 - (T.out.getD i []).getD k 0) * q (1 + k)) S.lim.length - su (fun k => (T.inn.getD i []).getD k 0 - (T.out.getD i []).getD k 0) S.lim.length * q 0 := by
      rw [← su_mul, ← su_add]
      have : ∀ (a b c : Nat → Int) n, (∀ k, k < n → a k = b k - c k) → su a n = su b n - su c n := fun a b c n => by
        induction n with
        | zero => intro _; rfl
        | succ n ih => intro hh; simp only [su]; rw [ih (fun k hk => hh k (by omega)), hh n (by omega)]; omega
      refine this _ _ _ _ (fun k _ => ?_)
      simp only [drP]
      generalize drP T k i = a
      generalize (T.inn.getD i []).getD k 0 - (T.out.getD i []).getD k 0 = b
      generalize q (1 + k) = c
      generalize q 0 = d
      grind
    have e2 : su (slR S cs (fA (flT S cs T)) q i) S.lim.length = - su (fun k => ((T.inn.getD i []).getD k 0 - (T.out.getD i []).getD k 0) * q (1 + k)) S.lim.length := by
      have : ∀ (a b : Nat → Int) n, (∀ k, k < n → a k = - b k) → su a n = - su b n := fun a b n => by
        induction n with
        | zero => intro _; rfl
        | succ n ih => intro hh; simp only [su]; rw [ih (fun k hk => hh k (by omega)), hh n (by omega)]; omega
      refine this _ _ _ (fun k hk => ?_)
      unfold slR
      have h1 := hr.2 k hk
      have h2 := fl_in h (i := i) (by omega) hk
      rw [h1.1, h1.2, h2.1, h2.2]
      simp
    have e3 : caR S cs (fA (flT S cs T)) q i = - su (fun k => ((T.inn.getD i []).getD k 0 - (T.out.getD i []).getD k 0) * q (1 + k)) S.lim.length + (lev (cs.getD i default) (T.inn.getD i []) (T.out.getD i []) S.lim.length - (cs.getD i default).fin) * q 0 := by
      unfold caR
      rw [e2, hr.1 _ (Nat.le_refl _), hl.1, hl.2]
      rw [show lev (cs.getD i default) (T.inn.getD i []) (T.out.getD i []) S.lim.length - (lev (cs.getD i default) (T.inn.getD i []) (T.out.getD i []) S.lim.length - (cs.getD i default).fin) - (cs.getD i default).fin = 0 by omega]
      rw [Int.sub_self, Int.zero_mul, Int.zero_mul]
      omega
    have e4 : sum (carsS S cs (i + 1)) = sum (carsS S cs i) + (cs.getD i default).start - usT (cs.getD i default) S.lim.length - (cs.getD i default).fin := by
      rw [carsS, sum_append, sum_append, sum_carS, if_neg (by omega)]
      simp only [sum]; omega
    have e5 := lev_su (cs.getD i default) (T.inn.getD i []) (T.out.getD i []) S.lim.length
    rw [e1, su, e3, e4, e5]
    generalize su (fun k => (T.inn.getD i []).getD k 0 - (T.out.getD i []).getD k 0) S.lim.length = A at *
    generalize su (fun k => ((T.inn.getD i []).getD k 0 - (T.out.getD i []).getD k 0) * q (1 + k)) S.lim.length = B at *
    generalize su (fun k => drP T k i * (q (1 + k) - q 0)) S.lim.length = C at *
    generalize su (caR S cs (fA (flT S cs T)) q) i = D at *
    generalize q 0 = d at *
    generalize usT (cs.getD i default) S.lim.length = u at *
    generalize (cs.getD i default).start = st at *
    generalize (cs.getD i default).fin = fi at *
    generalize sum (carsS S cs i) = sm at *
    clear e1 e2 e3 e4 e5 hr hl
    grind
theorem dot_ind (g : Nat → Int) (v : Nat) : ∀ n : Nat, dotN (fun u => if u = v then 1 else 0) g n = if v < n then g v else 0
  | 0 => rfl
  | n + 1 => by
    simp only [dotN]
    rw [dot_ind g v n]
    by_cases h : n = v
    · subst h; rw [if_neg (Nat.lt_irrefl n), if_pos rfl, if_pos (by omega)]; omega
    · rw [if_neg h]
      by_cases h2 : v < n
      · rw [if_pos h2, if_pos (by omega)]; omega
      · rw [if_neg h2, if_neg (by omega)]; omega
theorem keeps_flow (h : Keeps S cs T) : isFlow (netN S cs) (flT S cs T) = true ∧ costK (netN S cs) (flT S cs T) (carsA S cs cs.length).length = prc S T cs.length S.lim.length := by
  have hc := cap_all h cs.length (Nat.le_refl _)
  have h0 := net_ok h.ok
  constructor
  · refine isFlow_yes hc.len hc.get (fun v hv => ?_)
    rw [leftK_lv h0 _ _ (Nat.le_refl _)]
    have hv' : v < nodesN S cs := by have : v < (supN S cs).length := hv; rwa [supN_len] at this
    have h1 := net_sum h.ok (fA (flT S cs T)) (fun u => if u = v then 1 else 0)
    rw [dot_ind, if_pos hv'] at h1
    have h2 := fl_tot h (fun u => if u = v then 1 else 0) cs.length (Nat.le_refl _)
    have h3 : su (fun k => leK S (fA (flT S cs T)) k * ((if 1 + k = v then (1 : Int) else 0) - (if 0 = v then 1 else 0))) S.lim.length = su (fun k => drP T k cs.length * ((if 1 + k = v then (1 : Int) else 0) - (if 0 = v then 1 else 0))) S.lim.length := su_congr _ (fun k hk => by
      have := fl_site S cs T hk
      unfold leK
      rw [this.1, this.2, show max 0 (drP T k cs.length) - max 0 (-(drP T k cs.length)) = drP T k cs.length by omega])
    show lv (netN S cs) (fA (flT S cs T)) (carsA S cs cs.length).length v = 0
    rw [h1, h3, h2, Int.mul_neg]
    omega
  · rw [cost_site, prc_su]
    refine su_congr _ (fun k hk => ?_)
    have := fl_site S cs T hk
    rw [this.1, this.2]
    unfold prQ
    rw [show min 0 (drP T k cs.length) = -(max 0 (-(drP T k cs.length))) by omega, Int.neg_mul]
    omega
end
end Dp
end Go.Proofs.Ytmebpglkeedaoaa
namespace Go.Proofs.Ytmebpglkeedaoaa
open Go.RowKit Dp
def rdC (f : Nat → Nat → Int) (n i k : Nat) (x : Nat) : List Int := if x < i then rowK (f x) n n else rowK (f x) n k
theorem rdC_at (f : Nat → Nat → Int) (n i k : Nat) : rdC f n i k i = rowK (f i) n k := by unfold rdC; rw [if_neg (Nat.lt_irrefl i)]
theorem rdC_end {f : Nat → Nat → Int} {n i x : Nat} : rowK (f x) n n = rdC f n i n x := by unfold rdC; split <;> rfl
theorem rdC_up {f : Nat → Nat → Int} {n i k x : Nat} (hx : x < i + 1) (hk : k < n) : rdC f n i (k + 1) x = upd (rdC f n i k) i ((rdC f n i k i).set k (f i k)) x := by
  unfold upd
  by_cases e : x = i
  · subst e
    rw [if_pos rfl, rdC_at, rdC_at, rowK_set _ _ _ hk]
  · rw [if_neg e]
    unfold rdC
    rw [if_pos (by omega), if_pos (by omega)]
theorem rdC_no {f : Nat → Nat → Int} {n i k x : Nat} (hx : x < i + 1) (hk : k < n) (h : f i k = 0) : rdC f n i (k + 1) x = rdC f n i k x := by
  by_cases e : x = i
  · subst e
    rw [rdC_at, rdC_at, rowK_none _ _ _ h hk]
  · unfold rdC
    rw [if_pos (by omega), if_pos (by omega)]
set_option maxHeartbeats 4000000 in
set_option maxRecDepth 100000 in
theorem read_c (A F : Option Addr) (L : List (List Int)) (fl : List Int) (m c n nf cf b : Nat) (w : World) (hm : m = L.length) (hm8 : m ≤ 64) (hn : n ≤ 64) (hc : m ≤ c ∧ c ≤ 9223372036854775807) (hL : RowsAt w A L) (hr : ∀ i, i < m → (L.getD i []).length = n)
    (hb : w.cell? ⟨b, 0, none⟩ = some (.slice F nf cf)) (hbl : b < w.heap.size) (hnf : nf = fl.length) (hnf2 : nf ≤ 4096) (hcf : nf ≤ cf ∧ cf ≤ 9223372036854775807) (hF : IntsAt w F fl) (hx : ∀ i k, i < m → k < n → (L.getD i []).getD k 0 < fl.length) :
    Calls Try.prog 110 #[.slice A m c, .pointer (some ⟨b, 0, none⟩)] w fun e w' => ∃ g gI, e = .returned (.slice (some ⟨g, 0, none⟩) m m) ∧ RwJ n m g gI (fun i => rowK (fun k => rdF fl ((L.getD i []).getD k 0)) n n) w' ∧ Below w.heap.size w w' ∧ w.heap.size ≤ g ∧ ∀ i, i < m → w.heap.size ≤ gI i := by
  obtain ⟨f, hf⟩ : ∃ f : Nat → Nat → Int, f = fun i k => rdF fl ((L.getD i []).getD k 0) := ⟨_, rfl⟩
  have HF : Hid (∀ i k, f i k = rdF fl ((L.getD i []).getD k 0)) := Lib.hid (fun i k => by rw [hf])
  have e0 : (fun i => rowK (fun k => rdF fl ((L.getD i []).getD k 0)) n n) = fun i => rowK (f i) n n := by rw [hf]
  rw [e0]
  have HL : Hid (∀ V, Below w.heap.size w V → RowsAt V A L) := Lib.hid (fun V hV => hL.below hV (Nat.le_refl _))
  have HFL : Hid (∀ V, Below w.heap.size w V → IntsAt V F fl ∧ V.cell? ⟨b, 0, none⟩ = some (.slice F nf cf)) := Lib.hid (fun V hV => ⟨hF.below hV (Nat.le_refl _), (hV.cell hbl).trans hb⟩)
  have HM := Lib.hid hm
  have HR := Lib.hid hr
  have HX := Lib.hid hx
  have HNF := Lib.hid hnf
  clear hf e0 hL hF hm hr hx hb hnf
  have hmk := make_53 m (by omega)
  have hmk2 := make_64 n (by omega)
  have HB1 := Lib.hid ((Below.refl w.heap.size w).alloc (Nat.le_refl _) (.cells (Array.replicate m (.slice none 0 0)) 22))
  have X1 := Lib.hid (show Blk (w.alloc (.cells (Array.replicate m (.slice none 0 0)) 22)) w.heap.size 22 (List.replicate m (.slice none 0 0)) from by simpa using Blk.new' w (Array.replicate m (.slice none 0 0)) 22)
  go_enter Try.func110, Try.ntmps110
  go_upto_region 2 with fail
  generalize w.alloc (.cells (Array.replicate m (.slice none 0 0)) 22) = w1 at HB1 X1 ⊢
  obtain ⟨g, hg⟩ : ∃ g, g = w.heap.size := ⟨_, rfl⟩
  have HG : Hid (w.heap.size ≤ g) := Lib.hid (by omega)
  rw [← hg] at X1
  rw [← hg]
  clear hg
  go_wp2_with fail
  go_loopw [14] (fun iv wr => ∃ i : Nat, i ≤ m ∧ iv = .int .i64 i ∧ Hid (∃ gI cs, RwJ n i g gI (fun x => rowK (f x) n n) wr ∧ Blk wr g 22 cs ∧ cs.length = m ∧ Below w.heap.size w wr ∧ ∀ x, x < i → w.heap.size ≤ gI x)) (fun iv _ => m - (intOf iv).toNat)
  case atStart => exact ⟨0, Nat.zero_le _, rfl, Lib.hid ⟨fun _ => 0, _, ⟨⟨_, X1.out, fun i hi => absurd hi (Nat.not_lt_zero _)⟩, fun i hi => absurd hi (Nat.not_lt_zero _), fun i _ hi => absurd hi (Nat.not_lt_zero _)⟩, X1.out, by simp, HB1.out, fun i hi => absurd hi (Nat.not_lt_zero _)⟩⟩
  case round =>
    clear X1 HB1
    obtain ⟨i, hi, rfl, HJ⟩ := hrel
    obtain ⟨gI, cs, q1, q2, q3, q4, q5⟩ := HJ.out
    have RW := Lib.hid q1
    have BK := Lib.hid q2
    have CL := Lib.hid q3
    have HB := Lib.hid q4
    have GE := Lib.hid q5
    clear HJ q1 q2 q3 q4 q5
    by_cases hlt : i < m
    · have hii : (i : Int) < (m : Int) := by omega
      obtain ⟨ad, rfl, adl, Tr, cTr, c0, hcT, hti⟩ := HL.out wr HB.out i (by rw [← HM.out]; exact hlt)
      rw [HR.out i hlt] at c0 hcT
      have ab := adl
      rw [← block_add ad i] at ab
      have HTI : Hid (∀ V, Below w.heap.size w V → n = (L.getD i []).length → IntsAt V Tr (L.getD i [])) := Lib.hid (fun V hV _ => by
        obtain ⟨ad', e1, _, Tr', cTr', c0', _, ht'⟩ := HL.out V hV i (by rw [← HM.out]; exact hlt)
        obtain ⟨ad0, e2, l2, Tr2, cTr2, c2, _, ht2⟩ := HL.out w (Below.refl _ _) i (by rw [← HM.out]; exact hlt)
        cases e1
        cases e2
        have k1 := (hV.cell (by rw [block_add]; exact l2)).trans c2
        have k2 := (HB.out.cell (by rw [block_add]; exact l2)).trans c2
        rw [k1] at c0'
        rw [k2] at c0
        cases c0'
        cases c0
        exact ht')
      clear hti adl
      obtain ⟨v0, hv0⟩ : ∃ v0, wr.cell? ⟨g, i, none⟩ = some v0 := ⟨_, BK.out.cell i (List.getElem?_eq_getElem (by rw [CL.out]; exact hlt))⟩
      have z0 := BK.out.free i
      have gl := BK.out.lt
      have al := (Below.refl wr.heap.size wr).alloc (Nat.le_refl _) (.cells (Array.replicate n (.int .i64 0)) 2)
      have R0 := RW.out.below al
      have F0 := fl_new 2 n wr
      have BK0 := BK.out.below al BK.out.lt
      have hfresh : ∀ x, x < i → gI x ≠ wr.heap.size := fun x hx e => by have := (RW.out.f x hx).1.lt; omega
      have R1 : RwJ n i g gI (rdC f n i 0) (wr.alloc (.cells (Array.replicate n (.int .i64 0)) 2)) := R0.of (fun x hx => by unfold rdC; rw [if_pos hx])
      have HE0 : (RwJ n (i + 1) g (upd gI i wr.heap.size) (rdC f n i 0) ((wr.alloc (.cells (Array.replicate n (.int .i64 0)) 2)).setCell ⟨g, i, none⟩ (.slice (some ⟨wr.heap.size, 0, none⟩) n n)) ∧ (∃ cs, Blk ((wr.alloc (.cells (Array.replicate n (.int .i64 0)) 2)).setCell ⟨g, i, none⟩ (.slice (some ⟨wr.heap.size, 0, none⟩) n n)) g 22 cs ∧ cs.length = m) ∧ Below w.heap.size w ((wr.alloc (.cells (Array.replicate n (.int .i64 0)) 2)).setCell ⟨g, i, none⟩ (.slice (some ⟨wr.heap.size, 0, none⟩) n n))) := ⟨R1.add BK0 (by rw [CL.out]; exact hlt) (by rw [rdC_at, rowK_zero]; exact F0) (by rw [rdC_at, rowK_len]) hfresh, ⟨_, BK0.setCell i _, by rw [List.length_set]; exact CL.out⟩, (HB.out.trans (al.mono HB.out.size)).setCell (p := ⟨g, i, none⟩) HG.out _⟩
      rw [World.setCell_alloc_past _ _ _ _ gl] at HE0
      have HE := Lib.hid HE0
      clear HE0
      have GE2 : Hid (∀ x, x < i + 1 → w.heap.size ≤ upd gI i wr.heap.size x) := Lib.hid (fun x hx => by
        unfold upd
        by_cases e : x = i
        · rw [if_pos e]; exact HB.out.size
        · rw [if_neg e]; exact GE.out x (by omega))
      clear al R0 F0 BK0 hfresh R1
      go_upto_region 6 with fail
      clear c0 ab hv0 z0 gl RW BK CL HB GE
      generalize (wr.setCell ⟨g, i, none⟩ (.slice (some ⟨wr.heap.size, 0, none⟩) n n)).alloc (.cells (Array.replicate n (.int .i64 0)) 2) = w3 at HE ⊢
      generalize upd gI i wr.heap.size = gJ at *
      go_wp2_with fail
      go_loopw [27] (fun iv wr => ∃ k : Nat, k ≤ n ∧ iv = .int .i64 k ∧ Hid (RwJ n (i + 1) g gJ (rdC f n i k) wr ∧ (∃ cs, Blk wr g 22 cs ∧ cs.length = m) ∧ Below w.heap.size w wr)) (fun iv _ => n - (intOf iv).toNat)
      case atStart => exact ⟨0, Nat.zero_le _, rfl, HE⟩
      case round =>
        clear HE
        obtain ⟨k, hk, rfl, HJ⟩ := hrel
        by_cases hkn : k < n
        · have hki : (k : Int) < (n : Int) := by omega
          have hln : n = (L.getD i []).length := (HR.out i hlt).symm
          obtain ⟨p, rfl, pl, px⟩ := HTI.out _ HJ.out.2.2 hln k (by omega)
          have pb := pl
          rw [← block_add p k] at pb
          have hxl := HX.out i k hlt hkn
          have hfk := HF.out i k
          have UP := Lib.hid (fun x (hx : x < i + 1) => rdC_up (f := f) (n := n) (k := k) hx hkn)
          have NO := Lib.hid (fun h0 x (hx : x < i + 1) => rdC_no (f := f) (n := n) (k := k) hx hkn h0)
          have HLN := Lib.hid hln
          clear hln pl
          generalize (L.getD i []).getD k 0 = x at *
          by_cases hx0 : 0 ≤ x
          · obtain ⟨j, rfl⟩ : ∃ j : Nat, x = j := ⟨x.toNat, by omega⟩
            have hjl : j < fl.length := by omega
            have hjn : j < nf := by rw [HNF.out]; exact hjl
            have hji : (j : Int) < (nf : Int) := by omega
            obtain ⟨pf, hpf, _, _⟩ := (HFL.out wr HJ.out.2.2).1 j hjl
            subst hpf
            have hfv : f i k = fl.getD j 0 := by rw [hfk]; unfold rdF; rw [if_pos (by omega), Int.toNat_natCast]
            have CW : Hid (∀ V, (RwJ n (i + 1) g gJ (rdC f n i k) V ∧ (∃ cs, Blk V g 22 cs ∧ cs.length = m) ∧ Below w.heap.size w V) → (V.cell? ⟨g, i, none⟩ = some (.slice (some ⟨gJ i, 0, none⟩) n n) ∧ g < V.heap.size) ∧ V.cell? ⟨b, 0, none⟩ = some (.slice (some pf) nf cf) ∧ V.cell? (pf.add j) = some (.int .i64 (f i k)) ∧ (pf.add j).block < V.heap.size ∧ V.cell? ⟨gJ i, k, none⟩ = some (.int .i64 ((rowK (f i) n k).getD k 0)) ∧ gJ i < V.heap.size) := Lib.hid (fun V h => by
              obtain ⟨a1, a2⟩ := HFL.out V h.2.2
              obtain ⟨pf', e, l1, l2⟩ := a1 j hjl
              cases e
              have F1 := (h.1.f i (by omega)).1
              rw [rdC_at] at F1
              exact ⟨⟨h.1.cell i (by omega), h.1.lt⟩, a2, by rw [hfv]; exact l2, by rw [block_add]; exact l1, F1.cell k (by rw [rowK_len]; exact hkn), F1.lt⟩)
            have HFV := Lib.hid hfv
            clear hfv hfk hjl
            generalize f i k = y at *
            have d1 : decide ((0 : Int) ≤ (j : Int)) = true := decide_eq_true (by omega)
            have HJ1 := HJ
            go_upto_region 10 with fail
            clear pb px
            refine wp_region_spine 10 [false] [] ?af10 (fun V => RwJ n (i + 1) g gJ (rdC f n i k) V ∧ (∃ cs, Blk V g 22 cs ∧ cs.length = m) ∧ Below w.heap.size w V) (by kernel_rfl) (by kernel_rfl) ⟨HJ.out.1.below (Below.refl _ _).drew, by obtain ⟨cs, c1, c2⟩ := HJ.out.2.1; exact ⟨cs, Blk.drew c1, c2⟩, HJ.out.2.2.drew⟩ ?walk10 ?spine10
            case walk10 =>
              rintro V hV
              obtain ⟨⟨q0, q0l⟩, q1, q2, q3, q4, q5⟩ := CW.out V hV
              clear hV
              simp only [List.take_succ_cons, List.take_zero]
              repeat (go_big_quiet_step (fail))
              refine wpQuiet_nil ?_
              rfl
            case spine10 =>
              rintro V hV
              obtain ⟨⟨q0, q0l⟩, q1, q2, q3, q4, q5⟩ := CW.out V hV
              have z4 : V.frozen? ⟨gJ i, k, none⟩ = false := (hV.1.f i (by omega)).1.free k
              have HK := Lib.hid (show RwJ n (i + 1) g gJ (rdC f n i (k + 1)) (V.setCell ⟨gJ i, k, none⟩ (.int .i64 y)) ∧ (∃ cs, Blk (V.setCell ⟨gJ i, k, none⟩ (.int .i64 y)) g 22 cs ∧ cs.length = m) ∧ Below w.heap.size w (V.setCell ⟨gJ i, k, none⟩ (.int .i64 y)) from by
                obtain ⟨cs, c1, c2⟩ := hV.2.1
                refine ⟨(hV.1.set i (by omega) k y).of (fun x hx => UP.out x hx), ⟨cs, c1.setCell_ne (fun e => blk_type_ne c1 (hV.1.f i (by omega)).1 (by decide) e.symm) _, c2⟩, hV.2.2.setCell (p := ⟨gJ i, k, none⟩) (GE2.out i (by omega)) _⟩)
              clear hV
              refine spineV_cons ?_
              unfold StepV
              go_simp
              generalize V.setCell ⟨gJ i, k, none⟩ (.int .i64 y) = V1 at HK ⊢
              clear q0 q0l q1 q2 q3 q4 q5 z4
              refine spineV_nil ?_
              go_wp2_with fail
              go_roundw
              case rel => exact ⟨k + 1, by omega, by go_num, HK⟩
              case measure => simp [intOf]; omega
          · have d1 : decide ((0 : Int) ≤ x) = false := decide_eq_false hx0
            have hfv : f i k = 0 := by rw [hfk]; unfold rdF; rw [if_neg hx0]
            have HK := Lib.hid (show RwJ n (i + 1) g gJ (rdC f n i (k + 1)) wr ∧ (∃ cs, Blk wr g 22 cs ∧ cs.length = m) ∧ Below w.heap.size w wr from ⟨HJ.out.1.of (fun x hx => NO.out hfv x hx), HJ.out.2⟩)
            clear hfv hfk
            go_wp2_with fail
            go_roundw
            case rel => exact ⟨k + 1, by omega, by go_num, HK⟩
            case measure => simp [intOf]; omega
        · obtain rfl : n = k := by omega
          have HK := Lib.hid (show ∃ gI cs, RwJ n (i + 1) g gI (fun x => rowK (f x) n n) wr ∧ Blk wr g 22 cs ∧ cs.length = m ∧ Below w.heap.size w wr ∧ ∀ x, x < i + 1 → w.heap.size ≤ gI x from by
            obtain ⟨cs, c1, c2⟩ := HJ.out.2.1
            exact ⟨gJ, cs, HJ.out.1.of (fun x hx => rdC_end), c1, c2, HJ.out.2.2, GE2.out⟩)
          go_wp2_with fail
          go_roundw
          case rel => exact ⟨i + 1, by omega, by go_num, HK⟩
          case measure => simp [intOf]; omega
    · obtain rfl : m = i := by omega
      go_wp2_with fail
      go_ret
      exact ⟨g, gI, rfl, RW.out, HB.out, HG.out, GE.out⟩
end Go.Proofs.Ytmebpglkeedaoaa
namespace Go.Proofs.Ytmebpglkeedaoaa
open Go.RowKit Dp
structure BxJ (w : World) (n G i gs gb gi go : Nat) (A : Option Addr) (cap : Nat) (sup : List Int) (arcs : List Arc) (RI RO : Nat → List Int) (AI0 AO0 : Option Addr) (ci0 co0 : Nat) (AI : Option Addr) (ci ni : Nat) (vi : List Value) (AO : Option Addr) (co no : Nat) (vo : List Value) (W : World) : Prop where
  b : Blk W gb 125 [.slice (some ⟨gs, 0, none⟩) sup.length sup.length, .slice A arcs.length cap, .slice AI0 i ci0, .slice AO0 i co0]
  s : Fl 2 W gs sup
  own : W.ownsRow w.heap.size 46 4 (.slice A arcs.length cap) arcs.length (flat arcV arcs)
  oi : W.ownsRow w.heap.size 26 1 (.slice AI ni ci) ni vi
  oo : W.ownsRow w.heap.size 26 1 (.slice AO no co) no vo
  dis : ∀ k, OwnB AI k → ¬ OwnB AO k
  lt : w.heap.size ≤ gs ∧ w.heap.size ≤ gb
  bel : Below w.heap.size w W
  fi : Fl 3 W gi (RI i)
  fo : Fl 3 W go (RO i)
  ri : RowsF W n G vi RI i
  ro : RowsF W n G vo RO i
section
variable {w W V : World} {n G i gs gb gi go gc ci co cap ci0 co0 ni no c2 : Nat} {A A2 AI AO AI0 AO0 : Option Addr} {vi vo cv : List Value} {RI RO : Nat → List Int} {sup : List Int} {arcs : List Arc}
theorem BkJ.two (h : BkJ w n G i gs gb gi go gc AI AO ci co vi vo RI RO cv A cap sup arcs (RI i) (RO i) W) : BxJ w n G i gs gb gi go A cap sup arcs RI RO AI AO ci co AI ci i vi AO co i vo W :=
  ⟨h.d.b, h.d.s, h.d.own, h.d.oi, h.d.oo, h.d.dis, h.d.lt, h.d.bel, h.fi, h.fo, h.ri, h.ro⟩
theorem BxJ.below (h : BxJ w n G i gs gb gi go A cap sup arcs RI RO AI0 AO0 ci0 co0 AI ci ni vi AO co no vo W) (hb : Below W.heap.size W V) : BxJ w n G i gs gb gi go A cap sup arcs RI RO AI0 AO0 ci0 co0 AI ci ni vi AO co no vo V :=
  ⟨h.b.below hb h.b.lt, h.s.below hb, ownBelow h.own hb, ownBelow h.oi hb, ownBelow h.oo hb, h.dis, h.lt, h.bel.trans (hb.mono h.bel.size), h.fi.below hb, h.fo.below hb, h.ri.below hb, h.ro.below hb⟩
theorem RowsF.pre {vs vs' : List Value} {R : Nat → List Int} (h : RowsF W n G vs R i) (hl : i ≤ vs.length) : RowsF W n G (vs ++ vs') R i := fun x hx => by
  obtain ⟨v, h1, h2⟩ := h x hx
  exact ⟨v, by rw [List.getElem?_append_left (by omega)]; exact h1, h2⟩
theorem BxJ.growI {v : Value} (h : BxJ w n G i gs gb gi go A cap sup arcs RI RO AI0 AO0 ci0 co0 AI ci ni vi AO co no vo W) (hi : i ≤ ni) (hg : W.grownBy V (Value.slice AI ni ci).ownBlock) (ho : V.ownsRow w.heap.size 26 1 (.slice A2 (ni + 1) c2) (ni + 1) (vi ++ [v])) (hk : ∀ k, OwnB A2 k → OwnB AI k ∨ k = W.heap.size) :
    BxJ w n G i gs gb gi go A cap sup arcs RI RO AI0 AO0 ci0 co0 A2 c2 (ni + 1) (vi ++ [v]) AO co no vo V :=
  ⟨h.b.grown hg (blk_own_ne h.b h.oi (by decide)), Blk.grown h.s hg (blk_own_ne h.s h.oi (by decide)), grow_own h.own h.oi (own_type h.own h.oi (by decide)) hg, ho, grow_own h.oo h.oi (fun k h1 h2 => h.dis k h2 h1) hg,
    (fun k h1 h2 => by
      rcases hk k h1 with h3 | h3
      · exact h.dis k h3 h2
      · have := (ownLt h.oo h2).1; omega), h.lt, h.bel.grown hg h.bel.size (fun k e => (World.ownsRow.lt h.oi k e).1), Blk.grown h.fi hg (blk_own_ne h.fi h.oi (by decide)), Blk.grown h.fo hg (blk_own_ne h.fo h.oi (by decide)), (h.ri.grown h.oi (by decide) hg).pre (by rw [own_len h.oi]; exact hi), h.ro.grown h.oi (by decide) hg⟩
theorem BxJ.growO {v : Value} (h : BxJ w n G i gs gb gi go A cap sup arcs RI RO AI0 AO0 ci0 co0 AI ci ni vi AO co no vo W) (hi : i ≤ no) (hg : W.grownBy V (Value.slice AO no co).ownBlock) (ho : V.ownsRow w.heap.size 26 1 (.slice A2 (no + 1) c2) (no + 1) (vo ++ [v])) (hk : ∀ k, OwnB A2 k → OwnB AO k ∨ k = W.heap.size) :
    BxJ w n G i gs gb gi go A cap sup arcs RI RO AI0 AO0 ci0 co0 AI ci ni vi A2 c2 (no + 1) (vo ++ [v]) V :=
  ⟨h.b.grown hg (blk_own_ne h.b h.oo (by decide)), Blk.grown h.s hg (blk_own_ne h.s h.oo (by decide)), grow_own h.own h.oo (own_type h.own h.oo (by decide)) hg, grow_own h.oi h.oo h.dis hg, ho,
    (fun k h1 h2 => by
      rcases hk k h2 with h3 | h3
      · exact h.dis k h1 h3
      · have := (ownLt h.oi h1).1; omega), h.lt, h.bel.grown hg h.bel.size (fun k e => (World.ownsRow.lt h.oo k e).1), Blk.grown h.fi hg (blk_own_ne h.fi h.oo (by decide)), Blk.grown h.fo hg (blk_own_ne h.fo h.oo (by decide)), h.ri.grown h.oo (by decide) hg, (h.ro.grown h.oo (by decide) hg).pre (by rw [own_len h.oo]; exact hi)⟩
theorem BxJ.done (h : BxJ w n G i gs gb gi go A cap sup arcs RI RO AI0 AO0 ci0 co0 AI ci (i + 1) (vi ++ [.slice (some ⟨gi, 0, none⟩) n n]) AO co (i + 1) (vo ++ [.slice (some ⟨go, 0, none⟩) n n]) W) (hR : (RI i).length = n ∧ (RO i).length = n) (hG : G ≤ W.heap.size) :
    BdJ w gs gb A cap AI AO ci co (i + 1) (vi ++ [.slice (some ⟨gi, 0, none⟩) n n]) (vo ++ [.slice (some ⟨go, 0, none⟩) n n]) sup arcs ((W.setCell ⟨gb, 2, none⟩ (.slice AI (i + 1) ci)).setCell ⟨gb, 3, none⟩ (.slice AO (i + 1) co)) ∧
    RowsF ((W.setCell ⟨gb, 2, none⟩ (.slice AI (i + 1) ci)).setCell ⟨gb, 3, none⟩ (.slice AO (i + 1) co)) n W.heap.size (vi ++ [.slice (some ⟨gi, 0, none⟩) n n]) RI (i + 1) ∧ RowsF ((W.setCell ⟨gb, 2, none⟩ (.slice AI (i + 1) ci)).setCell ⟨gb, 3, none⟩ (.slice AO (i + 1) co)) n W.heap.size (vo ++ [.slice (some ⟨go, 0, none⟩) n n]) RO (i + 1) := by
  have b1 := h.b.setCell 2 (.slice AI (i + 1) ci)
  have l1 : vi.length = i := by have := own_len h.oi; simp at this; exact this
  have l2 : vo.length = i := by have := own_len h.oo; simp at this; exact this
  have r1 : RowsF W n W.heap.size (vi ++ [.slice (some ⟨gi, 0, none⟩) n n]) RI (i + 1) := by
    refine RowsF.add (fun x hx => ?_) l1 h.fi hR.1 h.fi.lt
    obtain ⟨v, h1, g, e1, e2, e3⟩ := h.ri x hx
    rw [List.getElem?_append_left (by omega)] at h1
    exact ⟨v, h1, g, e1, by omega, e3⟩
  have r2 : RowsF W n W.heap.size (vo ++ [.slice (some ⟨go, 0, none⟩) n n]) RO (i + 1) := by
    refine RowsF.add (fun x hx => ?_) l2 h.fo hR.2 h.fo.lt
    obtain ⟨v, h1, g, e1, e2, e3⟩ := h.ro x hx
    rw [List.getElem?_append_left (by omega)] at h1
    exact ⟨v, h1, g, e1, by omega, e3⟩
  refine ⟨⟨b1.setCell 3 _, (h.s.set_ne (p := ⟨gb, 2, none⟩) (fun e => blk_type_ne h.b h.s (by decide) e) _).set_ne (p := ⟨gb, 3, none⟩) (fun e => blk_type_ne h.b h.s (by decide) e) _, ownSet (ownSet h.own (own_blk_no (g := gb) h.b h.own (by decide)) _) (own_blk_no (g := gb) h.b h.own (by decide)) _, ownSet (ownSet h.oi (own_blk_no (g := gb) h.b h.oi (by decide)) _) (own_blk_no (g := gb) h.b h.oi (by decide)) _, ownSet (ownSet h.oo (own_blk_no (g := gb) h.b h.oo (by decide)) _) (own_blk_no (g := gb) h.b h.oo (by decide)) _, h.dis, h.lt, (h.bel.setCell (by simp; exact h.lt.2) _).setCell (by simp; exact h.lt.2) _⟩, ?_, ?_⟩
  · exact (r1.set (p := ⟨gb, 2, none⟩) h.b (.inl (by decide)) _).set (p := ⟨gb, 3, none⟩) b1 (.inl (by decide)) _
  · exact (r2.set (p := ⟨gb, 2, none⟩) h.b (.inl (by decide)) _).set (p := ⟨gb, 3, none⟩) b1 (.inl (by decide)) _
end
end Go.Proofs.Ytmebpglkeedaoaa
namespace Go.Proofs.Ytmebpglkeedaoaa
open Go.RowKit Dp
noncomputable def loop76 : Code := ((Try.f76.body.bind (blockOf 4)).getD .skip)
noncomputable def end76 : Code := ((Try.f76.body.bind (behind 4)).getD .skip)
def BuiJ (S : Site) (cs : List Car) (w : World) (gs gb M i : Nat) (W : World) : Prop := ∃ A cap AI AO ci co vi vo, BdJ w gs gb A cap AI AO ci co i vi vo (supC S cs M i) (carsA S cs i) W ∧ RowsF W S.lim.length W.heap.size vi (inR S cs) i ∧ RowsF W S.lim.length W.heap.size vo (outR S cs) i
theorem BuiJ.of {S : Site} {cs : List Car} {w W : World} {n G i gs gb gi go cap ci0 co0 ci co M : Nat} {A AI0 AO0 AI AO : Option Addr} {vi vo : List Value} (hn : n = S.lim.length)
    (h : BxJ w n G i gs gb gi go A cap (supC S cs M (i + 1)) (carsA S cs (i + 1)) (inR S cs) (outR S cs) AI0 AO0 ci0 co0 AI ci (i + 1) (vi ++ [.slice (some ⟨gi, 0, none⟩) n n]) AO co (i + 1) (vo ++ [.slice (some ⟨go, 0, none⟩) n n]) W) (hR : (inR S cs i).length = n ∧ (outR S cs i).length = n) (hG : G ≤ W.heap.size) :
    BuiJ S cs w gs gb M (i + 1) ((W.setCell ⟨gb, 2, none⟩ (.slice AI (i + 1) ci)).setCell ⟨gb, 3, none⟩ (.slice AO (i + 1) co)) := by
  obtain ⟨h1, h2, h3⟩ := h.done hR hG
  subst hn
  have hz : ((W.setCell ⟨gb, 2, none⟩ (.slice AI (i + 1) ci)).setCell ⟨gb, 3, none⟩ (.slice AO (i + 1) co)).heap.size = W.heap.size := by simp
  exact ⟨A, cap, AI, AO, ci, co, _, _, h1, by rw [hz]; exact h2, by rw [hz]; exact h3⟩
set_option maxRecDepth 100000 in
def CoK (K : Act → World → Prop) (gb : Nat) (P : World → Prop) : Prop := ∀ (y0 y1 y2 y3 y4 y5 y7 y8 y9 y10 y11 y12 y13 y14 y15 y16 y17 y18 y19 y20 y21 y22 y23 y24 y25 y26 y27 y28 y29 y30 y31 y32 y33 y34 y35 y36 y37 y38 y39 y40 y41 y42 y43 y44 y45 y46 y47 y48 y49 y50 y51 y52 y53 y54 y55 y56 y57 y58 y59 y60 y61 y62 y63 y64 y65 y66 y67 y68 y69 y70 y71 y72 y73 y74 y75 y76 y77 y78 y79 y80 y81 y82 y83 y84 y85 y86 y87 y88 y89 y90 y91 y92 y93 y94 y95 y96 y97 y98 y99 y100 y101 y102 y103 y104 y105 y106 y107 y108 y109 y110 y111 y112 y113 y114 y115 y116 y117 y118 y119 y120 y121 y122 y123 y124 y125 y126 y127 y128 y129 y130 y131 y132 y133 y134 y135 y136 y137 y138 y139 y140 y141 y142 y143 y144 y145 y146 y147 y148 y149 y150 y151 y152 y153 y154 y155 y156 y157 y158 y159 y160 y161 y162 y163 y164 y165 y166 y167 y168 y169 y170 y171 y172 y173 y174 y175 y176 y177 y178 y179 y180 y181 y182 y183 y184 y185 y186 y187 y188 y189 y190 y191 y192 y193 y194 y195 y196 y197 y198 y199 y200 y201 y202 y203 y204 y205 y206 y207 y208 y209 y210 y211 y212 y213 y214 y215 y216 y217 y218 y219 y220 y221 y222 y223 y224 y225 y226 y227 y228 y229 y230 y231 y232 y233 y234 y235 y236 y237 y238 y239 y240 y241 y242 y243 y244 y245 y246 y247 y248 y249 y250 y251 y252 : Value) w', P w' → K { tmps := List.toArray (y0 :: y1 :: y2 :: y3 :: y4 :: y5 :: (.pointer (some ⟨gb, 0, none⟩) : Value) :: y7 :: y8 :: y9 :: y10 :: y11 :: y12 :: y13 :: y14 :: y15 :: y16 :: y17 :: y18 :: y19 :: y20 :: y21 :: y22 :: y23 :: y24 :: y25 :: y26 :: y27 :: y28 :: y29 :: y30 :: y31 :: y32 :: y33 :: y34 :: y35 :: y36 :: y37 :: y38 :: y39 :: y40 :: y41 :: y42 :: y43 :: y44 :: y45 :: y46 :: y47 :: y48 :: y49 :: y50 :: y51 :: y52 :: y53 :: y54 :: y55 :: y56 :: y57 :: y58 :: y59 :: y60 :: y61 :: y62 :: y63 :: y64 :: y65 :: y66 :: y67 :: y68 :: y69 :: y70 :: y71 :: y72 :: y73 :: y74 :: y75 :: y76 :: y77 :: y78 :: y79 :: y80 :: y81 :: y82 :: y83 :: y84 :: y85 :: y86 :: y87 :: y88 :: y89 :: y90 :: y91 :: y92 :: y93 :: y94 :: y95 :: y96 :: y97 :: y98 :: y99 :: y100 :: y101 :: y102 :: y103 :: y104 :: y105 :: y106 :: y107 :: y108 :: y109 :: y110 :: y111 :: y112 :: y113 :: y114 :: y115 :: y116 :: y117 :: y118 :: y119 :: y120 :: y121 :: y122 :: y123 :: y124 :: y125 :: y126 :: y127 :: y128 :: y129 :: y130 :: y131 :: y132 :: y133 :: y134 :: y135 :: y136 :: y137 :: y138 :: y139 :: y140 :: y141 :: y142 :: y143 :: y144 :: y145 :: y146 :: y147 :: y148 :: y149 :: y150 :: y151 :: y152 :: y153 :: y154 :: y155 :: y156 :: y157 :: y158 :: y159 :: y160 :: y161 :: y162 :: y163 :: y164 :: y165 :: y166 :: y167 :: y168 :: y169 :: y170 :: y171 :: y172 :: y173 :: y174 :: y175 :: y176 :: y177 :: y178 :: y179 :: y180 :: y181 :: y182 :: y183 :: y184 :: y185 :: y186 :: y187 :: y188 :: y189 :: y190 :: y191 :: y192 :: y193 :: y194 :: y195 :: y196 :: y197 :: y198 :: y199 :: y200 :: y201 :: y202 :: y203 :: y204 :: y205 :: y206 :: y207 :: y208 :: y209 :: y210 :: y211 :: y212 :: y213 :: y214 :: y215 :: y216 :: y217 :: y218 :: y219 :: y220 :: y221 :: y222 :: y223 :: y224 :: y225 :: y226 :: y227 :: y228 :: y229 :: y230 :: y231 :: y232 :: y233 :: y234 :: y235 :: y236 :: y237 :: y238 :: y239 :: y240 :: y241 :: y242 :: y243 :: y244 :: y245 :: y246 :: y247 :: y248 :: y249 :: y250 :: y251 :: y252 :: []), defers := [] } w'
theorem awayC_mk (cap inn out start fin : Int) (trips : List Trip) (k : Nat) : awayC ⟨cap, inn, out, start, fin, trips⟩ k = awayP trips k trips.length := rfl
theorem useC_mk (cap inn out start fin : Int) (trips : List Trip) (k : Nat) : useC ⟨cap, inn, out, start, fin, trips⟩ k = useP trips k trips.length := rfl
set_option maxHeartbeats 16000000 in
set_option maxRecDepth 100000 in
theorem bld4 (S : Site) (cs : List Car) (E : Option Addr) (n m cE gs gb M : Nat) (w W0 : World) (h0 : stE S cs = 0) (hn : n = S.lim.length) (hm : m = cs.length) (hM : M = nodesN S cs) (hE : m ≤ cE ∧ cE ≤ 9223372036854775807) (hcs : CarsAt w E cs) (hJ : BuiJ S cs w gs gb M 0 W0)
    {K : Act → World → Prop} {R : Ending → World → Prop} (hR : CoK K gb (BuiJ S cs w gs gb M m)) {x0 x2 x3 x4 x7 x8 x10 x11 x12 x13 x14 x15 x16 x17 x18 x19 x20 x21 x22 x23 x24 x25 x26 x27 x28 x29 x30 x31 x32 x33 x34 x35 x36 x37 x38 x39 x40 x41 x42 x43 x44 x45 x46 x47 x48 x49 x50 x51 x52 x53 x54 x55 x56 x57 x58 x59 x60 x61 x62 x63 x64 x65 x66 x67 x68 x69 x70 x71 x72 x73 x74 x75 x76 x77 x78 x79 x83 x84 x85 x86 x87 x88 x89 x90 x91 x92 x93 x94 x95 x96 x97 x98 x99 x100 x101 x102 x103 x104 x105 x106 x107 x108 x109 x110 x111 x112 x113 x114 x115 x116 x117 x118 x119 x120 x121 x122 x123 x124 x125 x126 x127 x128 x129 x130 x131 x132 x133 x134 x135 x136 x137 x138 x139 x140 x141 x142 x143 x144 x145 x146 x147 x148 x149 x150 x151 x152 x153 x154 x155 x156 x157 x158 x159 x160 x161 x162 x163 x164 x165 x166 x167 x168 x169 x170 x171 x172 x173 x174 x175 x176 x177 x178 x179 x180 x181 x182 x183 x184 x185 x186 x187 x188 x189 x190 x191 x192 x193 x194 x195 x196 x197 x198 x199 x200 x201 x202 x203 x204 x205 x206 x207 x208 x209 x210 x211 x212 x213 x214 x215 x216 x217 x218 x219 x220 x221 x222 x223 x224 x225 x226 x227 x228 x229 x230 x231 x232 x233 x234 x235 x236 x237 x238 x239 x240 x241 x242 x243 x244 x245 x246 x247 x248 x249 x250 x251 x252 : Value} :
    Code.wp Try.prog loop76 (Exit.inBlock 4 (Exit.then K (bodyPost Try.prog Try.f76 R))) { tmps := List.toArray (x0 :: (.slice E m cE : Value) :: x2 :: x3 :: x4 :: (.int .i64 n : Value) :: (.pointer (some ⟨gb, 0, none⟩) : Value) :: x7 :: x8 :: (.int .i64 ((nodeF n 0 0 : Nat) : Int) : Value) :: x10 :: x11 :: x12 :: x13 :: x14 :: x15 :: x16 :: x17 :: x18 :: x19 :: x20 :: x21 :: x22 :: x23 :: x24 :: x25 :: x26 :: x27 :: x28 :: x29 :: x30 :: x31 :: x32 :: x33 :: x34 :: x35 :: x36 :: x37 :: x38 :: x39 :: x40 :: x41 :: x42 :: x43 :: x44 :: x45 :: x46 :: x47 :: x48 :: x49 :: x50 :: x51 :: x52 :: x53 :: x54 :: x55 :: x56 :: x57 :: x58 :: x59 :: x60 :: x61 :: x62 :: x63 :: x64 :: x65 :: x66 :: x67 :: x68 :: x69 :: x70 :: x71 :: x72 :: x73 :: x74 :: x75 :: x76 :: x77 :: x78 :: x79 :: (.slice E m cE : Value) :: (.int .i64 m : Value) :: (.int .i64 0 : Value) :: x83 :: x84 :: x85 :: x86 :: x87 :: x88 :: x89 :: x90 :: x91 :: x92 :: x93 :: x94 :: x95 :: x96 :: x97 :: x98 :: x99 :: x100 :: x101 :: x102 :: x103 :: x104 :: x105 :: x106 :: x107 :: x108 :: x109 :: x110 :: x111 :: x112 :: x113 :: x114 :: x115 :: x116 :: x117 :: x118 :: x119 :: x120 :: x121 :: x122 :: x123 :: x124 :: x125 :: x126 :: x127 :: x128 :: x129 :: x130 :: x131 :: x132 :: x133 :: x134 :: x135 :: x136 :: x137 :: x138 :: x139 :: x140 :: x141 :: x142 :: x143 :: x144 :: x145 :: x146 :: x147 :: x148 :: x149 :: x150 :: x151 :: x152 :: x153 :: x154 :: x155 :: x156 :: x157 :: x158 :: x159 :: x160 :: x161 :: x162 :: x163 :: x164 :: x165 :: x166 :: x167 :: x168 :: x169 :: x170 :: x171 :: x172 :: x173 :: x174 :: x175 :: x176 :: x177 :: x178 :: x179 :: x180 :: x181 :: x182 :: x183 :: x184 :: x185 :: x186 :: x187 :: x188 :: x189 :: x190 :: x191 :: x192 :: x193 :: x194 :: x195 :: x196 :: x197 :: x198 :: x199 :: x200 :: x201 :: x202 :: x203 :: x204 :: x205 :: x206 :: x207 :: x208 :: x209 :: x210 :: x211 :: x212 :: x213 :: x214 :: x215 :: x216 :: x217 :: x218 :: x219 :: x220 :: x221 :: x222 :: x223 :: x224 :: x225 :: x226 :: x227 :: x228 :: x229 :: x230 :: x231 :: x232 :: x233 :: x234 :: x235 :: x236 :: x237 :: x238 :: x239 :: x240 :: x241 :: x242 :: x243 :: x244 :: x245 :: x246 :: x247 :: x248 :: x249 :: x250 :: x251 :: x252 :: []), defers := [] } W0 := by
  have H0 := Lib.hid h0
  have HN := Lib.hid hn
  have HM := Lib.hid hm
  have HMM := Lib.hid hM
  have HCS := Lib.hid hcs
  have HJ0 := Lib.hid hJ
  have HR := Lib.hid hR
  have h48 : n ≤ 48 := by have h3 := (siteHead_iff.1 (stE_0 h0).2.1).1; omega
  have h1n : 1 ≤ n := by have h3 := (siteHead_iff.1 (stE_0 h0).2.1).1; omega
  have hM2 : M ≤ 833 := by have := (nodes_bd h0).1; omega
  have hmk := make_int n (by omega)
  clear h0 hn hm hM hcs hJ hR
  conv => arg 2; whnf
  go_loopw [9, 82] (fun av iv wr => ∃ i : Nat, i ≤ m ∧ iv = .int .i64 i ∧ av = .int .i64 ((nodeF n i 0 : Nat) : Int) ∧ Hid (BuiJ S cs w gs gb M i wr)) (fun _ iv _ => m - (intOf iv).toNat)
  case atStart => exact ⟨0, Nat.zero_le _, rfl, rfl, HJ0⟩
  case round =>
    obtain ⟨i, hi, rfl, rfl, HJ⟩ := hrel
    by_cases hlt : i < m
    · have hii : (i : Int) < (m : Int) := by omega
      have il : i < cs.length := by rw [← HM.out]; exact hlt
      obtain ⟨A, cap0, AI, AO, ci, co, vi, vo, hj1, hj2, hj3⟩ := HJ.out
      have HBD := Lib.hid hj1
      rw [← HN.out] at hj2 hj3
      have HRI := Lib.hid hj2
      have HRO := Lib.hid hj3
      clear hj1 hj2 hj3 HJ
      have HOK := Lib.hid (carok_of H0.out il)
      have HBDS := Lib.hid (fun k (hk : k ≤ S.lim.length) => (And.intro (arcsAt_bd H0.out il hk) (node_lt (k := k) il hk)))
      rw [← HN.out] at HBDS HOK
      rw [← HMM.out] at HBDS
      have PS0 := Lib.hid (And.intro (supC_len S cs (M := M) (i := i) (by have := (HBDS.out 0 (by omega)).2; rw [← HN.out]; omega)) (And.intro (supC_get S cs (M := M) (i := i) (by have := (HBDS.out 0 (by omega)).2; rw [← HN.out]; omega)) (supC_start S cs (M := M) (i := i) (by have := (HBDS.out 0 (by omega)).2; rw [← HN.out]; omega))))
      have PSK := Lib.hid (fun k (hk : k ≤ n) => And.intro (supK_len S cs (M := M) (i := i) (k := k) (by have := (HBDS.out k hk).2; rw [← HN.out]; omega)) (And.intro (supK_get S cs (M := M) (i := i) (k := k) (by have := (HBDS.out k hk).2; rw [← HN.out]; omega)) (supK_set S cs (M := M) (i := i) (k := k) (by have := (HBDS.out k hk).2; rw [← HN.out]; omega))))
      have PSL := Lib.hid (supK_last S cs (M := M) (i := i) (by rw [← HN.out]; omega) (by have := (HBDS.out n (Nat.le_refl _)).2; rw [← HN.out]; omega))
      have PA0 := Lib.hid (arcsAt_zero S cs i)
      have PAK := Lib.hid (fun k => arcsAt_succ S cs i k)
      have PAL := Lib.hid (arcsAt_last S cs i)
      have PNX := Lib.hid (And.intro (nodeF_next n i) (fun k => nodeF_k n i k))
      have PIX := Lib.hid (fun k => (And.intro (show inX S cs i k = if awayC (cs.getD i default) k = true then -1 else ((arcsAt S cs i k).length : Int) + 2 from rfl) (show outX S cs i k = if awayC (cs.getD i default) k = true then -1 else ((arcsAt S cs i k).length : Int) + 3 from rfl)))
      have PRI : Hid (inR S cs i = rowK (inX S cs i) n n ∧ outR S cs i = rowK (outX S cs i) n n) := Lib.hid (by rw [HN.out]; exact ⟨rfl, rfl⟩)
      rw [← HN.out] at PS0 PSL PAL
      simp only [← HN.out] at PSK PAK
      have PU := Lib.hid (fun k => useC_bd HOK.out k)
      obtain ⟨ad, hE2, abl, c0, c1, c2, c3, c4, TT, cT, c5, hcT, HTT⟩ := HCS.out i il
      have hbl : (ad.add (i * 6)).block < w.heap.size := by rw [block_add]; exact abl
      replace c0 := (HBD.out.bel.cell hbl).trans c0
      replace c1 := (HBD.out.bel.cell (p := ⟨_, _, none⟩) hbl).trans c1
      replace c2 := (HBD.out.bel.cell (p := ⟨_, _, none⟩) hbl).trans c2
      replace c3 := (HBD.out.bel.cell (p := ⟨_, _, none⟩) hbl).trans c3
      replace c4 := (HBD.out.bel.cell (p := ⟨_, _, none⟩) hbl).trans c4
      replace c5 := (HBD.out.bel.cell (p := ⟨_, _, none⟩) hbl).trans c5
      clear hbl
      subst hE2
      have HTR := Lib.hid HTT
      clear HTT
      have HCO := Lib.hid (carOk_iff.1 HOK.out).1
      generalize hcc : cs.getD i default = c at *
      clear hcc
      obtain ⟨cap, inn, out, start, fin, trips⟩ := c
      simp only at c0 c1 c2 c3 c4 c5 hcT HTR HCO PS0 PSL
      obtain ⟨qn, hqn⟩ : ∃ qn, qn = trips.length := ⟨_, rfl⟩
      rw [← hqn] at c5 hcT
      have HQN := Lib.hid hqn
      clear hqn
      go_upto_region 17 with fail
      have al := (Below.refl wr.heap.size wr).alloc (Nat.le_refl _) (.cells #[.int .i64 cap, .int .i64 inn, .int .i64 out, .int .i64 start, .int .i64 fin, .slice TT qn cT] 63)
      have HBD1 := Lib.hid (HBD.out.below al)
      have HRI1 := Lib.hid (HRI.out.below al)
      have HRO1 := Lib.hid (HRO.out.below al)
      have XC := Lib.hid (Blk.new' wr #[.int .i64 cap, .int .i64 inn, .int .i64 out, .int .i64 start, .int .i64 fin, .slice TT qn cT] 63)
      have HG : Hid (wr.heap.size ≤ (wr.alloc (.cells #[.int .i64 cap, .int .i64 inn, .int .i64 out, .int .i64 start, .int .i64 fin, .slice TT qn cT] 63)).heap.size) := Lib.hid al.size
      have hG0 : w.heap.size ≤ wr.heap.size := HBD.out.bel.size
      clear c0 c1 c2 c3 c4 c5 abl al HBD HRI HRO
      generalize wr.alloc (.cells #[.int .i64 cap, .int .i64 inn, .int .i64 out, .int .i64 start, .int .i64 fin, .slice TT qn cT] 63) = wx at HBD1 HRI1 HRO1 XC HG ⊢
      have HGC : Hid (∃ gc, gc = wr.heap.size) := Lib.hid ⟨_, rfl⟩
      generalize wr.heap.size = G at *
      obtain ⟨gc, hgc⟩ : ∃ gc, gc = G := ⟨_, rfl⟩
      rw [← hgc] at XC ⊢
      clear hgc
      clear HGC
      have HT := Lib.hid (Below.refl wx.heap.size wx).drew
      go_cut [12, 13] from 86 to 89 (fun g1 g2 wc => ∃ gi go : Nat, g1 = .slice (some ⟨gi, 0, none⟩) n n ∧ g2 = .slice (some ⟨go, 0, none⟩) n n ∧ Hid (BkJ w n G i gs gb gi go gc AI AO ci co vi vo (inR S cs) (outR S cs) [.int .i64 cap, .int .i64 inn, .int .i64 out, .int .i64 start, .int .i64 fin, .slice TT qn cT] A cap0 (supC S cs M i) (carsA S cs i) (List.replicate n 0) (List.replicate n 0) wc ∧ Below wx.heap.size wx wc))
      case first =>
        refine lBegin (S := fun _ W => (True)) (by kernel_rfl) ?_ (fun hHeld => ?_)
        · trivial
        refine lTake (i := 0) (v := ?_) rfl (by kernel_rfl) (by kernel_rfl) (by kernel_rfl) (fun _ _ _ h => h) (by rfl) (fun _ _ h => h) (fun _ _ h => h) ?_ (by assumption) (fun hHeld2 => ?_)
        rotate_left 1
        · (intro _ _ _ _ _; first | (go_simp; done) | (go_simp; with_reducible rfl))
        clear hHeld; have hHeld := hHeld2; clear hHeld2
        (try simp only [Act.put, List.setIfInBounds_toArray, List.set_cons_zero, List.set_cons_succ])
        refine lTake (i := 2) (v := ?_) rfl (by kernel_rfl) (by kernel_rfl) (by kernel_rfl) (fun _ _ _ h => h) (by rfl) (fun _ _ h => h) (fun _ _ h => h) ?_ (by assumption) (fun hHeld2 => ?_)
        rotate_left 1
        · (intro _ _ _ _ _; first | (go_simp; done) | (go_simp; with_reducible rfl))
        clear hHeld; have hHeld := hHeld2; clear hHeld2
        (try simp only [Act.put, List.setIfInBounds_toArray, List.set_cons_zero, List.set_cons_succ])
        refine lReady (rs := [1, 3]) (by kernel_rfl) (by simp) ?_
        refine AllL.cons (i := 1) rfl (fun K hK => ?_) ?_
        · refine step_new (.cells (Array.replicate n (.int .i64 0)) 3) (fun g => .slice (some ⟨g, 0, none⟩) n n) rfl (by unfold execOp; simp [hmk, go_sem]) ?_; intro gi w6 z6 hc6 hb6; (try have HNE := Lib.hid (show gi ≠ go from by have := HFgo.out.lt; omega)); (try have HFgo := Lib.hid (Fl.below HFgo.out hb6)); have HFgi := Lib.hid (show Fl 3 w6 gi (List.replicate n 0) from by unfold Fl Blk; rw [hc6]; simp); have HGgi := Lib.hid (show wx.heap.size ≤ gi from Nat.le_trans HT.out.size z6); have HT := Lib.hid (HT.out.trans (hb6.mono HT.out.size)); clear hb6 hc6 z6
          (try go_wp2_with fail)
          refine hK.out _ _ ?_ (fun hHeld2 => ?_)
          · trivial
          clear hK K
          clear hHeld; have hHeld := hHeld2; clear hHeld2
          (try simp only [Act.put, List.setIfInBounds_toArray, List.set_cons_zero, List.set_cons_succ])
          refine lTake (i := 4) (v := ?_) rfl (by kernel_rfl) (by kernel_rfl) (by kernel_rfl) (fun _ _ _ h => h) (by rfl) (fun _ _ h => h) (fun _ _ h => h) ?_ (by assumption) (fun hHeld2 => ?_)
          rotate_left 1
          · (intro _ _ _ _ _; first | (go_simp; done) | (go_simp; with_reducible rfl))
          clear hHeld; have hHeld := hHeld2; clear hHeld2
          (try simp only [Act.put, List.setIfInBounds_toArray, List.set_cons_zero, List.set_cons_succ])
          refine lReady (rs := [3]) (by kernel_rfl) (by simp) ?_
          refine AllL.cons (i := 3) rfl (fun K hK => ?_) ?_
          · refine step_new (.cells (Array.replicate n (.int .i64 0)) 3) (fun g => .slice (some ⟨g, 0, none⟩) n n) rfl (by unfold execOp; simp [hmk, go_sem]) ?_; intro go w7 z6 hc6 hb6; (try have HNE := Lib.hid (show gi ≠ go from by have := HFgi.out.lt; omega)); (try have HFgi := Lib.hid (Fl.below HFgi.out hb6)); have HFgo := Lib.hid (show Fl 3 w7 go (List.replicate n 0) from by unfold Fl Blk; rw [hc6]; simp); have HGgo := Lib.hid (show wx.heap.size ≤ go from Nat.le_trans HT.out.size z6); have HT := Lib.hid (HT.out.trans (hb6.mono HT.out.size)); clear hb6 hc6 z6
            (try go_wp2_with fail)
            refine hK.out _ _ ?_ (fun hHeld2 => ?_)
            · trivial
            clear hK K
            clear hHeld; have hHeld := hHeld2; clear hHeld2
            (try simp only [Act.put, List.setIfInBounds_toArray, List.set_cons_zero, List.set_cons_succ])
            refine lTake (i := 5) (v := ?_) rfl (by kernel_rfl) (by kernel_rfl) (by kernel_rfl) (fun _ _ _ h => h) (by rfl) (fun _ _ h => h) (fun _ _ h => h) ?_ (by assumption) (fun hHeld2 => ?_)
            rotate_left 1
            · (intro _ _ _ _ _; first | (go_simp; done) | (go_simp; with_reducible rfl))
            clear hHeld; have hHeld := hHeld2; clear hHeld2
            (try simp only [Act.put, List.setIfInBounds_toArray, List.set_cons_zero, List.set_cons_succ])
            refine lDone (by kernel_rfl) ?_ _
            go_wp2_with fail
            go_meet
            case rel => exact ⟨gi, go, rfl, rfl, Lib.hid ⟨⟨HBD1.out.below HT.out, HFgi.out, HFgo.out, HNE.out, ⟨⟨by have := HGgi.out; have := HG.out; omega, by have := HGgo.out; have := HG.out; omega⟩, ⟨by have := HGgi.out; have := HG.out; omega, by have := HGgo.out; have := HG.out; omega⟩⟩, HRI1.out.below HT.out, HRO1.out.below HT.out, XC.out.below HT.out XC.out.lt⟩, HT.out⟩⟩
          exact AllL.nil
        refine AllL.cons (i := 3) rfl (fun K hK => ?_) ?_
        · refine step_new (.cells (Array.replicate n (.int .i64 0)) 3) (fun g => .slice (some ⟨g, 0, none⟩) n n) rfl (by unfold execOp; simp [hmk, go_sem]) ?_; intro go w7 z6 hc6 hb6; (try have HNE := Lib.hid (show gi ≠ go from by have := HFgi.out.lt; omega)); (try have HFgi := Lib.hid (Fl.below HFgi.out hb6)); have HFgo := Lib.hid (show Fl 3 w7 go (List.replicate n 0) from by unfold Fl Blk; rw [hc6]; simp); have HGgo := Lib.hid (show wx.heap.size ≤ go from Nat.le_trans HT.out.size z6); have HT := Lib.hid (HT.out.trans (hb6.mono HT.out.size)); clear hb6 hc6 z6
          (try go_wp2_with fail)
          refine hK.out _ _ ?_ (fun hHeld2 => ?_)
          · trivial
          clear hK K
          clear hHeld; have hHeld := hHeld2; clear hHeld2
          (try simp only [Act.put, List.setIfInBounds_toArray, List.set_cons_zero, List.set_cons_succ])
          refine lReady (rs := [1]) (by kernel_rfl) (by simp) ?_
          refine AllL.cons (i := 1) rfl (fun K hK => ?_) ?_
          · refine step_new (.cells (Array.replicate n (.int .i64 0)) 3) (fun g => .slice (some ⟨g, 0, none⟩) n n) rfl (by unfold execOp; simp [hmk, go_sem]) ?_; intro gi w6 z6 hc6 hb6; (try have HNE := Lib.hid (show gi ≠ go from by have := HFgo.out.lt; omega)); (try have HFgo := Lib.hid (Fl.below HFgo.out hb6)); have HFgi := Lib.hid (show Fl 3 w6 gi (List.replicate n 0) from by unfold Fl Blk; rw [hc6]; simp); have HGgi := Lib.hid (show wx.heap.size ≤ gi from Nat.le_trans HT.out.size z6); have HT := Lib.hid (HT.out.trans (hb6.mono HT.out.size)); clear hb6 hc6 z6
            (try go_wp2_with fail)
            refine hK.out _ _ ?_ (fun hHeld2 => ?_)
            · trivial
            clear hK K
            clear hHeld; have hHeld := hHeld2; clear hHeld2
            (try simp only [Act.put, List.setIfInBounds_toArray, List.set_cons_zero, List.set_cons_succ])
            refine lTake (i := 4) (v := ?_) rfl (by kernel_rfl) (by kernel_rfl) (by kernel_rfl) (fun _ _ _ h => h) (by rfl) (fun _ _ h => h) (fun _ _ h => h) ?_ (by assumption) (fun hHeld2 => ?_)
            rotate_left 1
            · (intro _ _ _ _ _; first | (go_simp; done) | (go_simp; with_reducible rfl))
            clear hHeld; have hHeld := hHeld2; clear hHeld2
            (try simp only [Act.put, List.setIfInBounds_toArray, List.set_cons_zero, List.set_cons_succ])
            refine lTake (i := 5) (v := ?_) rfl (by kernel_rfl) (by kernel_rfl) (by kernel_rfl) (fun _ _ _ h => h) (by rfl) (fun _ _ h => h) (fun _ _ h => h) ?_ (by assumption) (fun hHeld2 => ?_)
            rotate_left 1
            · (intro _ _ _ _ _; first | (go_simp; done) | (go_simp; with_reducible rfl))
            clear hHeld; have hHeld := hHeld2; clear hHeld2
            (try simp only [Act.put, List.setIfInBounds_toArray, List.set_cons_zero, List.set_cons_succ])
            refine lDone (by kernel_rfl) ?_ _
            go_wp2_with fail
            go_meet
            case rel => exact ⟨gi, go, rfl, rfl, Lib.hid ⟨⟨HBD1.out.below HT.out, HFgi.out, HFgo.out, HNE.out, ⟨⟨by have := HGgi.out; have := HG.out; omega, by have := HGgo.out; have := HG.out; omega⟩, ⟨by have := HGgi.out; have := HG.out; omega, by have := HGgo.out; have := HG.out; omega⟩⟩, HRI1.out.below HT.out, HRO1.out.below HT.out, XC.out.below HT.out XC.out.lt⟩, HT.out⟩⟩
          exact AllL.nil
        exact AllL.nil
      case rest =>
        clear HT
        obtain ⟨gi, go, rfl, rfl, HJ⟩ := hcut
        have HK := Lib.hid HJ.out.1
        clear HJ HBD1 HRI1 HRO1 HG XC
        have hMl : nodeF n i 0 < M := by have := (HBDS.out 0 (by omega)).2; omega
        have hMi : ((nodeF n i 0 : Nat) : Int) < (M : Int) := by omega
        have hMz : (0 : Int) ≤ ((nodeF n i 0 : Nat) : Int) := by omega
        have b0 := HK.out.d.b.cell 0 rfl
        rw [PS0.out.1] at b0
        have bl := HK.out.d.b.lt
        have s0 := HK.out.d.s.cell (nodeF n i 0) (by rw [PS0.out.1]; exact hMl)
        rw [PS0.out.2.1] at s0
        have sz := HK.out.d.s.free (nodeF n i 0)
        have sl := HK.out.d.s.lt
        have k3 := HK.out.car.cell 3 rfl
        have kl := HK.out.car.lt
        have w0e : IntKind.i64.wrap (0 + start) = start := by rw [Int.zero_add]; exact IntWalk.i64_in _ (by have := HCO.out; omega)
        have w0f : IntKind.i64.wrap start = start := IntWalk.i64_in _ (by have := HCO.out; omega)
        go_upto_region 18 with fail
        refine wp_region_head 11 ?af18 (by kernel_rfl) (by kernel_rfl) ?walk18 ?tail18
        case walk18 =>
          intro V hV
          have b0 := (hV.cell (p := ⟨gb, 0, none⟩) bl).trans b0
          have s0 := (hV.cell (p := ⟨gs, nodeF n i 0, none⟩) sl).trans s0
          have k3 := (hV.cell (p := ⟨gc, 3, none⟩) kl).trans k3
          have bl := Nat.lt_of_lt_of_le bl hV.size
          have sl := Nat.lt_of_lt_of_le sl hV.size
          have kl := Nat.lt_of_lt_of_le kl hV.size
          clear hV
          simp only [List.take_succ_cons, List.take_zero]
          repeat (go_big_quiet_step (fail))
          refine wpQuiet_nil ?_
          rfl
        case tail18 =>
          intro w2 hb2
          have HK2 := Lib.hid (HK.out.below hb2)
          clear hb2 b0 s0 sz k3 bl sl kl HK
          have s0 := HK2.out.d.s.cell (nodeF n i 0) (by rw [PS0.out.1]; exact hMl)
          have sz := HK2.out.d.s.free (nodeF n i 0)
          have sl := HK2.out.d.s.lt
          have HK3 := Lib.hid (HK2.out.set (nodeF n i 0) start)
          rw [PS0.out.2.2] at HK3
          simp only [List.drop_succ_cons, List.drop_zero]
          go_upto_region 19 with fail
          generalize w2.setCell ⟨gs, nodeF n i 0, none⟩ (.int .i64 start) = w3 at HK3 ⊢
          go_wp2_with fail
          have HK0 : Hid (BkJ w n G i gs gb gi go gc AI AO ci co vi vo (inR S cs) (outR S cs) [.int .i64 cap, .int .i64 inn, .int .i64 out, .int .i64 start, .int .i64 fin, .slice TT qn cT] A cap0 (supK S cs M i 0) (arcsAt S cs i 0) (rowK (inX S cs i) n 0) (rowK (outX S cs i) n 0) w3) := Lib.hid (by rw [PA0.out, rowK_zero, rowK_zero]; exact HK3.out)
          clear HK3 s0 sz sl HK2
          go_loopw [9, 103] (fun av kv wr => ∃ k : Nat, k ≤ n ∧ kv = .int .i64 k ∧ av = .int .i64 ((nodeF n i k : Nat) : Int) ∧ Hid (∃ A cp, BkJ w n G i gs gb gi go gc AI AO ci co vi vo (inR S cs) (outR S cs) [.int .i64 cap, .int .i64 inn, .int .i64 out, .int .i64 start, .int .i64 fin, .slice TT qn cT] A cp (supK S cs M i k) (arcsAt S cs i k) (rowK (inX S cs i) n k) (rowK (outX S cs i) n k) wr)) (fun _ kv _ => n - (intOf kv).toNat)
          case atStart => exact ⟨0, Nat.zero_le _, rfl, rfl, Lib.hid ⟨_, _, HK0.out⟩⟩
          case round =>
            clear HK0
            obtain ⟨k, hk, rfl, rfl, HJ⟩ := hrel
            obtain ⟨A1, cap1, hj⟩ := HJ.out
            have HK := Lib.hid hj
            clear hj HJ
            have aM : nodeF n i k + 1 < M := (HBDS.out k hk).2
            have al0 := (HBDS.out k hk).1
            by_cases hlt2 : k < n
            · have hki : (k : Int) < (n : Int) := by omega
              obtain ⟨u, hu⟩ : ∃ u, u = useC ⟨cap, inn, out, start, fin, trips⟩ k := ⟨_, rfl⟩
              obtain ⟨aw, haw⟩ : ∃ aw, aw = awayC ⟨cap, inn, out, start, fin, trips⟩ k := ⟨_, rfl⟩
              have HTC : Hid (∀ V, Below w.heap.size w V → Calls Try.prog 87 #[.agg #[.int .i64 cap, .int .i64 inn, .int .i64 out, .int .i64 start, .int .i64 fin, .slice TT qn cT], .int .i64 ((k : Nat) : Int)] V fun e w' => e = .returned (.tuple #[.int .i64 u, .bool aw]) ∧ Below V.heap.size V w') := Lib.hid (fun V hV => by
                have := trip_c (.int .i64 cap) (.int .i64 inn) (.int .i64 out) (.int .i64 start) (.int .i64 fin) k TT trips qn cT V HQN.out hcT (HTR.out.below hV (Nat.le_refl _))
                rw [hu, haw, useC_mk, awayC_mk, ← HQN.out]
                exact this)
              have ub := PU.out k
              rw [← hu] at ub
              have HSL := Lib.hid (PSK.out k hk).1
              have HSG := Lib.hid (PSK.out k hk).2.1
              have HSS := Lib.hid (PSK.out k hk).2.2
              rw [← hu] at HSS
              have HIX := Lib.hid (PIX.out k)
              have HAK := Lib.hid (PAK.out k)
              have HRX := Lib.hid (And.intro (rowK_set (inX S cs i) n k hlt2) (rowK_set (outX S cs i) n k hlt2))
              have HRL := Lib.hid (And.intro (rowK_len (inX S cs i) n k) (rowK_len (outX S cs i) n k))
              have HAN : Hid (nodeF n i (k + 1) = nodeF n i k + 2) := Lib.hid (by rw [PNX.out.2 (k + 1), PNX.out.2 k]; omega)
              rw [← haw] at HIX
              unfold slA at HAK
              rw [← haw] at HAK
              simp only at HAK
              clear hu haw
              generalize nodeF n i k = a at *
              generalize arcsAt S cs i k = ar at *
              generalize rowK (inX S cs i) n k = ri at *
              generalize rowK (outX S cs i) n k = ro at *
              generalize supK S cs M i k = su at *
              have e0 := HK.out.car.cell 0 rfl
              have e1 := HK.out.car.cell 1 rfl
              have e2 := HK.out.car.cell 2 rfl
              have e3 := HK.out.car.cell 3 rfl
              have e4 := HK.out.car.cell 4 rfl
              have e5 := HK.out.car.cell 5 rfl
              have el := HK.out.car.lt
              have a1e : IntKind.i64.wrap ((a : Int) + 1) = (a : Int) + 1 := IntWalk.i64_in _ (by omega)
              have a2e : IntKind.i64.wrap ((a : Int) + 2) = (a : Int) + 2 := IntWalk.i64_in _ (by omega)
              have k1e : IntKind.i64.wrap (1 + (k : Int)) = 1 + (k : Int) := IntWalk.i64_in _ (by omega)
              go_wp2_with fail
              refine (HTC.out wr HK.out.d.bel).mono ?_
              rintro e w4 ⟨rfl, hb⟩
              have HK4 := Lib.hid (HK.out.below hb)
              clear hb HTC HK e0 e1 e2 e3 e4 e5 el
              have e0 := HK4.out.car.cell 0 rfl
              have el := HK4.out.car.lt
              go_wp2_with fail
              clear e0 el
              have X2 : Hid (Blk (w4.alloc (.cells #[.int .i64 a, .int .i64 ((a : Int) + 1), .int .i64 cap, .int .i64 0, .int .i64 ((a : Int) + 1), .int .i64 ((a : Int) + 2), .int .i64 cap, .int .i64 0] 46)) w4.heap.size 46 (flat arcV [Dp.Arc.mk (a : Int) ((a : Int) + 1) cap 0, Dp.Arc.mk ((a : Int) + 1) ((a : Int) + 2) cap 0])) := Lib.hid (Blk.new' w4 #[.int .i64 a, .int .i64 ((a : Int) + 1), .int .i64 cap, .int .i64 0, .int .i64 ((a : Int) + 1), .int .i64 ((a : Int) + 2), .int .i64 cap, .int .i64 0] 46)
              have HKa := Lib.hid (HK4.out.alloc (.cells #[.int .i64 a, .int .i64 ((a : Int) + 1), .int .i64 cap, .int .i64 0, .int .i64 ((a : Int) + 1), .int .i64 ((a : Int) + 2), .int .i64 cap, .int .i64 0] 46))
              generalize w4.alloc (.cells #[.int .i64 a, .int .i64 ((a : Int) + 1), .int .i64 cap, .int .i64 0, .int .i64 ((a : Int) + 1), .int .i64 ((a : Int) + 2), .int .i64 cap, .int .i64 0] 46) = wa at X2 HKa ⊢
              generalize w4.heap.size = ga at X2 ⊢
              clear HK4
              refine (addG_c wa gb (ar).length cap1 w.heap.size 2 2 A1 (some ⟨ga, 0, none⟩) _ _ _ (ar) [Dp.Arc.mk (a : Int) ((a : Int) + 1) cap 0, Dp.Arc.mk ((a : Int) + 1) ((a : Int) + 2) cap 0] rfl rfl (by omega) HKa.out.d.b HKa.out.d.own (.inr ⟨_, rfl, fun j u hj => by rw [add_row]; exact X2.out.cell j hj⟩) HKa.out.d.bel.size).mono ?_
              rintro e w5 ⟨A2, cap2, Va, rfl, hV, hg, ho⟩
              have HK5 : Hid (BkJ w n G i gs gb gi go gc AI AO ci co vi vo (inR S cs) (outR S cs) [.int .i64 cap, .int .i64 inn, .int .i64 out, .int .i64 start, .int .i64 fin, .slice TT qn cT] A2 cap2 (su) (ar ++ [Dp.Arc.mk (a : Int) ((a : Int) + 1) cap 0, Dp.Arc.mk ((a : Int) + 1) ((a : Int) + 2) cap 0]) (ri) (ro) w5) := Lib.hid (by
                have el : (ar ++ [Dp.Arc.mk (a : Int) ((a : Int) + 1) cap 0, Dp.Arc.mk ((a : Int) + 1) ((a : Int) + 2) cap 0]).length = (ar).length + 2 := by simp
                rw [← el] at hV ho
                have := HKa.out.push hg ho
                rw [← hV] at this
                exact this)
              clear HKa X2 hV hg ho Va
              have i0 := HK5.out.fi.cell k (by rw [HRL.out.1]; exact hlt2)
              have iz := HK5.out.fi.free k
              have il2 := HK5.out.fi.lt
              have o0 := HK5.out.fo.cell k (by rw [HRL.out.2]; exact hlt2)
              have oz := HK5.out.fo.free k
              have ol2 := HK5.out.fo.lt
              have ione := HK5.out.ne
              have HK6 := Lib.hid ((HK5.out.seti k (-1)).seto k (-1))
              clear HK5
              go_upto_region 25 with fail
              clear i0 iz il2 o0 oz ol2 ione
              generalize (w5.setCell ⟨gi, k, none⟩ (.int .i64 (-1))).setCell ⟨go, k, none⟩ (.int .i64 (-1)) = w6 at HK6 ⊢
              cases aw
              · have e1 := HK6.out.car.cell 1 rfl
                have el := HK6.out.car.lt
                go_wp2_with fail
                clear e1 el
                have X2 : Hid (Blk (w6.alloc (.cells #[.int .i64 (1 + (k : Int)), .int .i64 ((a : Int) + 2), .int .i64 inn, .int .i64 0] 46)) w6.heap.size 46 (flat arcV [Dp.Arc.mk (1 + (k : Int)) ((a : Int) + 2) inn 0])) := Lib.hid (Blk.new' w6 #[.int .i64 (1 + (k : Int)), .int .i64 ((a : Int) + 2), .int .i64 inn, .int .i64 0] 46)
                have HKa := Lib.hid (HK6.out.alloc (.cells #[.int .i64 (1 + (k : Int)), .int .i64 ((a : Int) + 2), .int .i64 inn, .int .i64 0] 46))
                generalize w6.alloc (.cells #[.int .i64 (1 + (k : Int)), .int .i64 ((a : Int) + 2), .int .i64 inn, .int .i64 0] 46) = wa at X2 HKa ⊢
                generalize w6.heap.size = ga at X2 ⊢
                clear HK6
                refine (addG_c wa gb (ar ++ [Dp.Arc.mk (a : Int) ((a : Int) + 1) cap 0, Dp.Arc.mk ((a : Int) + 1) ((a : Int) + 2) cap 0]).length cap2 w.heap.size 1 1 A2 (some ⟨ga, 0, none⟩) _ _ _ (ar ++ [Dp.Arc.mk (a : Int) ((a : Int) + 1) cap 0, Dp.Arc.mk ((a : Int) + 1) ((a : Int) + 2) cap 0]) [Dp.Arc.mk (1 + (k : Int)) ((a : Int) + 2) inn 0] rfl rfl (by first | (simp; done) | (simp; omega)) HKa.out.d.b HKa.out.d.own (.inr ⟨_, rfl, fun j u hj => by rw [add_row]; exact X2.out.cell j hj⟩) HKa.out.d.bel.size).mono ?_
                rintro e w7 ⟨A3, cap3, Va, rfl, hV, hg, ho⟩
                have HK7 : Hid (BkJ w n G i gs gb gi go gc AI AO ci co vi vo (inR S cs) (outR S cs) [.int .i64 cap, .int .i64 inn, .int .i64 out, .int .i64 start, .int .i64 fin, .slice TT qn cT] A3 cap3 (su) (ar ++ [Dp.Arc.mk (a : Int) ((a : Int) + 1) cap 0, Dp.Arc.mk ((a : Int) + 1) ((a : Int) + 2) cap 0] ++ [Dp.Arc.mk (1 + (k : Int)) ((a : Int) + 2) inn 0]) (ri.set k (-1)) (ro.set k (-1)) w7) := Lib.hid (by
                  have el : (ar ++ [Dp.Arc.mk (a : Int) ((a : Int) + 1) cap 0, Dp.Arc.mk ((a : Int) + 1) ((a : Int) + 2) cap 0] ++ [Dp.Arc.mk (1 + (k : Int)) ((a : Int) + 2) inn 0]).length = (ar ++ [Dp.Arc.mk (a : Int) ((a : Int) + 1) cap 0, Dp.Arc.mk ((a : Int) + 1) ((a : Int) + 2) cap 0]).length + 1 := by simp
                  rw [← el] at hV ho
                  have := HKa.out.push hg ho
                  rw [← hV] at this
                  exact this)
                clear HKa X2 hV hg ho Va
                have hl2 : (((ar ++ [Dp.Arc.mk (a : Int) ((a : Int) + 1) cap 0, Dp.Arc.mk ((a : Int) + 1) ((a : Int) + 2) cap 0])).length : Int) = (ar.length : Int) + 2 := by simp
                rw [hl2]
                clear hl2
                have i0 := HK7.out.fi.cell k (by simp [HRL.out.1]; exact hlt2)
                have iz := HK7.out.fi.free k
                have il2 := HK7.out.fi.lt
                have HK8 := Lib.hid (HK7.out.seti k ((ar.length : Int) + 2))
                clear HK7
                go_upto_region 27 with fail
                clear i0 iz il2
                generalize w7.setCell ⟨gi, k, none⟩ (.int .i64 ((ar.length : Int) + 2)) = w8 at HK8 ⊢
                have e2 := HK8.out.car.cell 2 rfl
                have el := HK8.out.car.lt
                go_wp2_with fail
                clear e2 el
                have X2 : Hid (Blk (w8.alloc (.cells #[.int .i64 ((a : Int) + 1), .int .i64 (1 + (k : Int)), .int .i64 out, .int .i64 0] 46)) w8.heap.size 46 (flat arcV [Dp.Arc.mk ((a : Int) + 1) (1 + (k : Int)) out 0])) := Lib.hid (Blk.new' w8 #[.int .i64 ((a : Int) + 1), .int .i64 (1 + (k : Int)), .int .i64 out, .int .i64 0] 46)
                have HKa := Lib.hid (HK8.out.alloc (.cells #[.int .i64 ((a : Int) + 1), .int .i64 (1 + (k : Int)), .int .i64 out, .int .i64 0] 46))
                generalize w8.alloc (.cells #[.int .i64 ((a : Int) + 1), .int .i64 (1 + (k : Int)), .int .i64 out, .int .i64 0] 46) = wa at X2 HKa ⊢
                generalize w8.heap.size = ga at X2 ⊢
                clear HK8
                refine (addG_c wa gb ((ar ++ [Dp.Arc.mk (a : Int) ((a : Int) + 1) cap 0, Dp.Arc.mk ((a : Int) + 1) ((a : Int) + 2) cap 0]) ++ [Dp.Arc.mk (1 + (k : Int)) ((a : Int) + 2) inn 0]).length cap3 w.heap.size 1 1 A3 (some ⟨ga, 0, none⟩) _ _ _ ((ar ++ [Dp.Arc.mk (a : Int) ((a : Int) + 1) cap 0, Dp.Arc.mk ((a : Int) + 1) ((a : Int) + 2) cap 0]) ++ [Dp.Arc.mk (1 + (k : Int)) ((a : Int) + 2) inn 0]) [Dp.Arc.mk ((a : Int) + 1) (1 + (k : Int)) out 0] rfl rfl (by first | (simp; done) | (simp; omega)) HKa.out.d.b HKa.out.d.own (.inr ⟨_, rfl, fun j u hj => by rw [add_row]; exact X2.out.cell j hj⟩) HKa.out.d.bel.size).mono ?_
                rintro e w9 ⟨A4, cap4, Va, rfl, hV, hg, ho⟩
                have HK9 : Hid (BkJ w n G i gs gb gi go gc AI AO ci co vi vo (inR S cs) (outR S cs) [.int .i64 cap, .int .i64 inn, .int .i64 out, .int .i64 start, .int .i64 fin, .slice TT qn cT] A4 cap4 (su) ((ar ++ [Dp.Arc.mk (a : Int) ((a : Int) + 1) cap 0, Dp.Arc.mk ((a : Int) + 1) ((a : Int) + 2) cap 0]) ++ [Dp.Arc.mk (1 + (k : Int)) ((a : Int) + 2) inn 0] ++ [Dp.Arc.mk ((a : Int) + 1) (1 + (k : Int)) out 0]) ((ri.set k (-1)).set k ((ar.length : Int) + 2)) (ro.set k (-1)) w9) := Lib.hid (by
                  have el : ((ar ++ [Dp.Arc.mk (a : Int) ((a : Int) + 1) cap 0, Dp.Arc.mk ((a : Int) + 1) ((a : Int) + 2) cap 0]) ++ [Dp.Arc.mk (1 + (k : Int)) ((a : Int) + 2) inn 0] ++ [Dp.Arc.mk ((a : Int) + 1) (1 + (k : Int)) out 0]).length = ((ar ++ [Dp.Arc.mk (a : Int) ((a : Int) + 1) cap 0, Dp.Arc.mk ((a : Int) + 1) ((a : Int) + 2) cap 0]) ++ [Dp.Arc.mk (1 + (k : Int)) ((a : Int) + 2) inn 0]).length + 1 := by simp
                  rw [← el] at hV ho
                  have := HKa.out.push hg ho
                  rw [← hV] at this
                  exact this)
                clear HKa X2 hV hg ho Va
                have hl2 : (((ar ++ [Dp.Arc.mk (a : Int) ((a : Int) + 1) cap 0, Dp.Arc.mk ((a : Int) + 1) ((a : Int) + 2) cap 0]) ++ [Dp.Arc.mk (1 + (k : Int)) ((a : Int) + 2) inn 0]).length : Int) = (ar.length : Int) + 3 := by first | (simp; done) | (simp; omega)
                rw [hl2]
                clear hl2
                have o0 := HK9.out.fo.cell k (by simp [HRL.out.2]; exact hlt2)
                have oz := HK9.out.fo.free k
                have ol2 := HK9.out.fo.lt
                have HK10 := Lib.hid (HK9.out.seto k ((ar.length : Int) + 3))
                clear HK9
                go_upto_region 28 with fail
                clear o0 oz ol2
                generalize w9.setCell ⟨go, k, none⟩ (.int .i64 ((ar.length : Int) + 3)) = w10 at HK10 ⊢
                have b0 := HK10.out.d.b.cell 0 rfl
                rw [HSL.out] at b0
                have bl := HK10.out.d.b.lt
                have s0 := HK10.out.d.s.cell (a + 1) (by rw [HSL.out]; exact aM)
                rw [HSG.out] at s0
                have sz := HK10.out.d.s.free (a + 1)
                have sl := HK10.out.d.s.lt
                have um : IntKind.i64.wrap (0 - u) = -u := by rw [show (0 : Int) - u = -u by omega]; exact IntWalk.i64_in _ (by omega)
                have um2 : IntKind.i64.wrap (-u) = -u := IntWalk.i64_in _ (by omega)
                have aMi : (a : Int) + 1 < (M : Int) := by omega
                have at1 : ((a : Int) + 1).toNat = a + 1 := by omega
                have ap1 : (0 : Int) ≤ (a : Int) + 1 := by omega
                have HKf := Lib.hid (HK10.out.set (a + 1) (-u))
                rw [HSS.out] at HKf
                clear HK10
                go_upto_region 29 with fail
                clear b0 bl s0 sz sl um um2 aMi at1 ap1
                generalize w10.setCell ⟨gs, a + 1, none⟩ (.int .i64 (-u)) = wf at HKf ⊢
                have HKg : Hid (BkJ w n G i gs gb gi go gc AI AO ci co vi vo (inR S cs) (outR S cs) [.int .i64 cap, .int .i64 inn, .int .i64 out, .int .i64 start, .int .i64 fin, .slice TT qn cT] A4 cap4 (supK S cs M i (k + 1)) (arcsAt S cs i (k + 1)) (rowK (inX S cs i) n (k + 1)) (rowK (outX S cs i) n (k + 1)) wf) := Lib.hid (by
                  rw [HAK.out]
                  have := HKf.out
                  (try simp only [List.set_set] at this)
                  rw [← HRX.out.1, ← HRX.out.2, HIX.out.1, HIX.out.2]
                  simpa using this)
                clear HKf
                have han : (a : Int) + 2 = ((nodeF n i (k + 1) : Nat) : Int) := by rw [HAN.out]; omega
                have HANN := Lib.hid han
                clear han
                go_wp2_with fail
                exact ⟨⟨k + 1, by omega, by go_num, by rw [HANN.out], Lib.hid ⟨_, _, HKg.out⟩⟩, by simp [intOf]; omega⟩
              · go_upto_region 28 with fail
                have b0 := HK6.out.d.b.cell 0 rfl
                rw [HSL.out] at b0
                have bl := HK6.out.d.b.lt
                have s0 := HK6.out.d.s.cell (a + 1) (by rw [HSL.out]; exact aM)
                rw [HSG.out] at s0
                have sz := HK6.out.d.s.free (a + 1)
                have sl := HK6.out.d.s.lt
                have um : IntKind.i64.wrap (0 - u) = -u := by rw [show (0 : Int) - u = -u by omega]; exact IntWalk.i64_in _ (by omega)
                have um2 : IntKind.i64.wrap (-u) = -u := IntWalk.i64_in _ (by omega)
                have aMi : (a : Int) + 1 < (M : Int) := by omega
                have at1 : ((a : Int) + 1).toNat = a + 1 := by omega
                have ap1 : (0 : Int) ≤ (a : Int) + 1 := by omega
                have HKf := Lib.hid (HK6.out.set (a + 1) (-u))
                rw [HSS.out] at HKf
                clear HK6
                go_upto_region 29 with fail
                clear b0 bl s0 sz sl um um2 aMi at1 ap1
                generalize w6.setCell ⟨gs, a + 1, none⟩ (.int .i64 (-u)) = wf at HKf ⊢
                have HKg : Hid (BkJ w n G i gs gb gi go gc AI AO ci co vi vo (inR S cs) (outR S cs) [.int .i64 cap, .int .i64 inn, .int .i64 out, .int .i64 start, .int .i64 fin, .slice TT qn cT] A2 cap2 (supK S cs M i (k + 1)) (arcsAt S cs i (k + 1)) (rowK (inX S cs i) n (k + 1)) (rowK (outX S cs i) n (k + 1)) wf) := Lib.hid (by
                  rw [HAK.out]
                  have := HKf.out
                  (try simp only [List.set_set] at this)
                  rw [← HRX.out.1, ← HRX.out.2, HIX.out.1, HIX.out.2]
                  simpa using this)
                clear HKf
                have han : (a : Int) + 2 = ((nodeF n i (k + 1) : Nat) : Int) := by rw [HAN.out]; omega
                have HANN := Lib.hid han
                clear han
                go_wp2_with fail
                exact ⟨⟨k + 1, by omega, by go_num, by rw [HANN.out], Lib.hid ⟨_, _, HKg.out⟩⟩, by simp [intOf]; omega⟩
            · obtain rfl : n = k := by omega
              have hki : ¬ (n : Int) < (n : Int) := by omega
              have HSL := Lib.hid (PSK.out n (Nat.le_refl _)).1
              have HSG := Lib.hid (PSK.out n (Nat.le_refl _)).2.1
              have HAN := Lib.hid PNX.out.1
              have HAL := Lib.hid PAL.out
              have HSS := Lib.hid PSL.out
              have HRR : Hid ((inR S cs i).length = n ∧ (outR S cs i).length = n) := Lib.hid (by rw [PRI.out.1, PRI.out.2]; exact ⟨rowK_len _ _ _, rowK_len _ _ _⟩)
              rw [← PRI.out.1, ← PRI.out.2] at HK
              unfold finA at HAL
              simp only at HAL
              clear hk
              generalize nodeF n i n = a at *
              generalize arcsAt S cs i n = ar at *
              generalize supK S cs M i n = su at *
              have e0 := HK.out.car.cell 0 rfl
              have e4 := HK.out.car.cell 4 rfl
              have el := HK.out.car.lt
              have a1e : IntKind.i64.wrap ((a : Int) + 1) = (a : Int) + 1 := IntWalk.i64_in _ (by omega)
              have a2e : IntKind.i64.wrap ((a : Int) + 2) = (a : Int) + 2 := IntWalk.i64_in _ (by omega)
              have cfe : IntKind.i64.wrap (cap - fin) = cap - fin := IntWalk.i64_in _ (by have := HCO.out; omega)
              go_wp2_with fail
              clear e0 e4 el cfe
              have X2 : Hid (Blk (wr.alloc (.cells #[.int .i64 a, .int .i64 ((a : Int) + 1), .int .i64 cap, .int .i64 0, .int .i64 ((a : Int) + 1), .int .i64 0, .int .i64 (cap - fin), .int .i64 0] 46)) wr.heap.size 46 (flat arcV [Dp.Arc.mk (a : Int) ((a : Int) + 1) cap 0, Dp.Arc.mk ((a : Int) + 1) 0 (cap - fin) 0])) := Lib.hid (Blk.new' wr #[.int .i64 a, .int .i64 ((a : Int) + 1), .int .i64 cap, .int .i64 0, .int .i64 ((a : Int) + 1), .int .i64 0, .int .i64 (cap - fin), .int .i64 0] 46)
              have HKa := Lib.hid (HK.out.alloc (.cells #[.int .i64 a, .int .i64 ((a : Int) + 1), .int .i64 cap, .int .i64 0, .int .i64 ((a : Int) + 1), .int .i64 0, .int .i64 (cap - fin), .int .i64 0] 46))
              generalize wr.alloc (.cells #[.int .i64 a, .int .i64 ((a : Int) + 1), .int .i64 cap, .int .i64 0, .int .i64 ((a : Int) + 1), .int .i64 0, .int .i64 (cap - fin), .int .i64 0] 46) = wa at X2 HKa ⊢
              generalize wr.heap.size = ga at X2 ⊢
              clear HK
              refine (addG_c wa gb (ar).length cap1 w.heap.size 2 2 A1 (some ⟨ga, 0, none⟩) _ _ _ (ar) [Dp.Arc.mk (a : Int) ((a : Int) + 1) cap 0, Dp.Arc.mk ((a : Int) + 1) 0 (cap - fin) 0] rfl rfl (by omega) HKa.out.d.b HKa.out.d.own (.inr ⟨_, rfl, fun j u hj => by rw [add_row]; exact X2.out.cell j hj⟩) HKa.out.d.bel.size).mono ?_
              rintro e w5 ⟨A2, cap2, Va, rfl, hV, hg, ho⟩
              have HK5 : Hid (BkJ w n G i gs gb gi go gc AI AO ci co vi vo (inR S cs) (outR S cs) [.int .i64 cap, .int .i64 inn, .int .i64 out, .int .i64 start, .int .i64 fin, .slice TT qn cT] A2 cap2 (su) (ar ++ [Dp.Arc.mk (a : Int) ((a : Int) + 1) cap 0, Dp.Arc.mk ((a : Int) + 1) 0 (cap - fin) 0]) (inR S cs i) (outR S cs i) w5) := Lib.hid (by
                have el : (ar ++ [Dp.Arc.mk (a : Int) ((a : Int) + 1) cap 0, Dp.Arc.mk ((a : Int) + 1) 0 (cap - fin) 0]).length = (ar).length + 2 := by simp
                rw [← el] at hV ho
                have := HKa.out.push hg ho
                rw [← hV] at this
                exact this)
              clear HKa X2 hV hg ho Va
              go_upto_region 32 with fail
              have b0 := HK5.out.d.b.cell 0 rfl
              rw [HSL.out] at b0
              have bl := HK5.out.d.b.lt
              have s0 := HK5.out.d.s.cell (a + 1) (by rw [HSL.out]; exact aM)
              rw [HSG.out] at s0
              have sl := HK5.out.d.s.lt
              have k4 := HK5.out.car.cell 4 rfl
              have kl := HK5.out.car.lt
              have um : IntKind.i64.wrap (0 - fin) = -fin := by rw [show (0 : Int) - fin = -fin by omega]; exact IntWalk.i64_in _ (by have := HCO.out; omega)
              have um2 : IntKind.i64.wrap (-fin) = -fin := IntWalk.i64_in _ (by have := HCO.out; omega)
              have aMi : (a : Int) + 1 < (M : Int) := by omega
              have at1 : ((a : Int) + 1).toNat = a + 1 := by omega
              have ap1 : (0 : Int) ≤ (a : Int) + 1 := by omega
              refine wp_region_head 12 ?af32 (by kernel_rfl) (by kernel_rfl) ?walk32 ?tail32
              case walk32 =>
                intro V hV
                have b0 := (hV.cell (p := ⟨gb, 0, none⟩) bl).trans b0
                have s0 := (hV.cell (p := ⟨gs, a + 1, none⟩) sl).trans s0
                have k4 := (hV.cell (p := ⟨gc, 4, none⟩) kl).trans k4
                have bl := Nat.lt_of_lt_of_le bl hV.size
                have sl := Nat.lt_of_lt_of_le sl hV.size
                have kl := Nat.lt_of_lt_of_le kl hV.size
                clear hV
                simp only [List.take_succ_cons, List.take_zero]
                repeat (go_big_quiet_step (fail))
                refine wpQuiet_nil ?_
                rfl
              case tail32 =>
                intro w6 hb6
                have HK6 := Lib.hid (HK5.out.below hb6)
                clear hb6 b0 s0 sl k4 bl kl HK5
                have s0 := HK6.out.d.s.cell (a + 1) (by rw [HSL.out]; exact aM)
                have sz := HK6.out.d.s.free (a + 1)
                have sl := HK6.out.d.s.lt
                have HK7 := Lib.hid (HK6.out.set (a + 1) (-fin))
                rw [HSS.out, ← HAL.out] at HK7
                clear HK6
                simp only [List.drop_succ_cons, List.drop_zero]
                go_upto_region 33 with fail
                clear s0 sz sl um um2 aMi at1 ap1
                generalize w6.setCell ⟨gs, a + 1, none⟩ (.int .i64 (-fin)) = w7 at HK7 ⊢
                go_upto_region 34 with fail
                have HX := Lib.hid HK7.out.two
                have HGG := Lib.hid HK7.out.ge
                obtain ⟨i26, h26i, h26z, h26s, h26b⟩ := info_parts info26
                have im8 : i ≤ 8 := by have := (stE_0 H0.out).1; omega
                have han : (a : Int) + 2 = ((nodeF n (i + 1) 0 : Nat) : Int) := by rw [HAN.out]; omega
                have HANN := Lib.hid han
                have GZ := Lib.hid (show G ≤ w7.heap.size from by have := HK7.out.fi.lt; have := HK7.out.ge; omega)
                have HX := Lib.hid (HX.out.below (Below.refl _ _).drew)
                have GZ := Lib.hid (show G ≤ w7.drew.heap.size from GZ.out)
                clear han HK7
                refine lBegin (S := fun L W => (True) ∧ (L.getD 18 false = true ∨ (W.cell? ⟨gb, 2, none⟩ = some (.slice AI i ci))) ∧ (L.getD 21 false = true ∨ (W.cell? ⟨gb, 3, none⟩ = some (.slice AO i co)))) (by kernel_rfl) ?_ (fun hHeld => ?_)
                · (try dsimp only); refine ⟨?_, Or.inr ?_, Or.inr ?_⟩
                  · (first | trivial | with_reducible assumption)
                  · (with_reducible exact HX.out.b.cell 2 rfl)
                  · (first | (with_reducible exact HX.out.b.cell 3 rfl) | (go_simp; done))
                refine lTake (i := 0) (v := ?_) rfl (by kernel_rfl) (by kernel_rfl) (by kernel_rfl) (fun _ _ _ h => h) (by rfl) (fun _ _ h => by simpa only [getD_set_ne false (show 0 ≠ 18 by decide), getD_set_ne false (show 0 ≠ 21 by decide)] using h) (fun _ _ h => by simpa only [getD_set_ne false (show 0 ≠ 18 by decide), getD_set_ne false (show 0 ≠ 21 by decide)] using h) ?_ (by assumption) (fun hHeld2 => ?_)
                rotate_left 1
                · (intro _ _ _ _ _; first | (go_simp; done) | (go_simp; with_reducible rfl))
                clear hHeld; have hHeld := hHeld2; clear hHeld2
                (try simp only [Act.put, List.setIfInBounds_toArray, List.set_cons_zero, List.set_cons_succ])
                refine lTake (i := 1) (v := ?_) rfl (by kernel_rfl) (by kernel_rfl) (by kernel_rfl) (fun _ _ _ h => h) (by rfl) (fun _ _ h => by simpa only [getD_set_ne false (show 1 ≠ 18 by decide), getD_set_ne false (show 1 ≠ 21 by decide)] using h) (fun _ _ h => by simpa only [getD_set_ne false (show 1 ≠ 18 by decide), getD_set_ne false (show 1 ≠ 21 by decide)] using h) ?_ (by assumption) (fun hHeld2 => ?_)
                rotate_left 1
                · (intro _ _ _ _ _; first | (go_simp; done) | (go_simp; with_reducible rfl))
                clear hHeld; have hHeld := hHeld2; clear hHeld2
                (try simp only [Act.put, List.setIfInBounds_toArray, List.set_cons_zero, List.set_cons_succ])
                refine lTake (i := 2) (v := ?_) rfl (by kernel_rfl) (by kernel_rfl) (by kernel_rfl) (fun _ _ _ h => h) (by rfl) (fun _ _ h => by simpa only [getD_set_ne false (show 2 ≠ 18 by decide), getD_set_ne false (show 2 ≠ 21 by decide)] using h) (fun _ _ h => by simpa only [getD_set_ne false (show 2 ≠ 18 by decide), getD_set_ne false (show 2 ≠ 21 by decide)] using h) ?_ (by assumption) (fun hHeld2 => ?_)
                rotate_left 1
                · (intro _ _ _ _ _; first | (go_simp; done) | (go_simp; with_reducible rfl))
                clear hHeld; have hHeld := hHeld2; clear hHeld2
                (try simp only [Act.put, List.setIfInBounds_toArray, List.set_cons_zero, List.set_cons_succ])
                refine lTake (i := 3) (v := ?_) rfl (by kernel_rfl) (by kernel_rfl) (by kernel_rfl) (fun _ _ _ h => h) (by rfl) (fun _ _ h => by simpa only [getD_set_ne false (show 3 ≠ 18 by decide), getD_set_ne false (show 3 ≠ 21 by decide)] using h) (fun _ _ h => by simpa only [getD_set_ne false (show 3 ≠ 18 by decide), getD_set_ne false (show 3 ≠ 21 by decide)] using h) ?_ (by assumption) (fun hHeld2 => ?_)
                rotate_left 1
                · (intro _ _ _ _ _; first | (go_simp; done) | (go_simp; with_reducible rfl))
                clear hHeld; have hHeld := hHeld2; clear hHeld2
                (try simp only [Act.put, List.setIfInBounds_toArray, List.set_cons_zero, List.set_cons_succ])
                refine lTake (i := 4) (v := ?_) rfl (by kernel_rfl) (by kernel_rfl) (by kernel_rfl) (fun _ _ _ h => h) (by rfl) (fun _ _ h => by simpa only [getD_set_ne false (show 4 ≠ 18 by decide), getD_set_ne false (show 4 ≠ 21 by decide)] using h) (fun _ _ h => by simpa only [getD_set_ne false (show 4 ≠ 18 by decide), getD_set_ne false (show 4 ≠ 21 by decide)] using h) ?_ (by assumption) (fun hHeld2 => ?_)
                rotate_left 1
                · (intro _ _ _ _ _; first | (go_simp; done) | (go_simp; with_reducible rfl))
                clear hHeld; have hHeld := hHeld2; clear hHeld2
                (try simp only [Act.put, List.setIfInBounds_toArray, List.set_cons_zero, List.set_cons_succ])
                refine lTake (i := 5) (v := ?_) rfl (by kernel_rfl) (by kernel_rfl) (by kernel_rfl) (fun _ _ _ h => h) (by rfl) (fun _ _ h => by simpa only [getD_set_ne false (show 5 ≠ 18 by decide), getD_set_ne false (show 5 ≠ 21 by decide)] using h) (fun _ _ h => by simpa only [getD_set_ne false (show 5 ≠ 18 by decide), getD_set_ne false (show 5 ≠ 21 by decide)] using h) ?_ (by assumption) (fun hHeld2 => ?_)
                rotate_left 1
                · (intro L W hL hK hSw; (try dsimp only at hSw); obtain ⟨h0, h1, h2⟩ := hSw; replace h1 := still [] hK hL (by kernel_rfl) h1; replace h2 := still [] hK hL (by kernel_rfl) h2; clear hL hK; first | (go_simp; done) | (go_simp; with_reducible rfl))
                clear hHeld; have hHeld := hHeld2; clear hHeld2
                (try simp only [Act.put, List.setIfInBounds_toArray, List.set_cons_zero, List.set_cons_succ])
                refine lTake (i := 6) (v := ?_) rfl (by kernel_rfl) (by kernel_rfl) (by kernel_rfl) (fun _ _ _ h => h) (by rfl) (fun _ _ h => by simpa only [getD_set_ne false (show 6 ≠ 18 by decide), getD_set_ne false (show 6 ≠ 21 by decide)] using h) (fun _ _ h => by simpa only [getD_set_ne false (show 6 ≠ 18 by decide), getD_set_ne false (show 6 ≠ 21 by decide)] using h) ?_ (by assumption) (fun hHeld2 => ?_)
                rotate_left 1
                · (intro _ _ _ _ _; first | (go_simp; done) | (go_simp; with_reducible rfl))
                clear hHeld; have hHeld := hHeld2; clear hHeld2
                (try simp only [Act.put, List.setIfInBounds_toArray, List.set_cons_zero, List.set_cons_succ])
                refine lTake (i := 9) (v := ?_) rfl (by kernel_rfl) (by kernel_rfl) (by kernel_rfl) (fun _ _ _ h => h) (by rfl) (fun _ _ h => by simpa only [getD_set_ne false (show 9 ≠ 18 by decide), getD_set_ne false (show 9 ≠ 21 by decide)] using h) (fun _ _ h => by simpa only [getD_set_ne false (show 9 ≠ 18 by decide), getD_set_ne false (show 9 ≠ 21 by decide)] using h) ?_ (by assumption) (fun hHeld2 => ?_)
                rotate_left 1
                · (intro _ _ _ _ _; first | (go_simp; done) | (go_simp; with_reducible rfl))
                clear hHeld; have hHeld := hHeld2; clear hHeld2
                (try simp only [Act.put, List.setIfInBounds_toArray, List.set_cons_zero, List.set_cons_succ])
                refine lTake (i := 10) (v := ?_) rfl (by kernel_rfl) (by kernel_rfl) (by kernel_rfl) (fun _ _ _ h => h) (by rfl) (fun _ _ h => by simpa only [getD_set_ne false (show 10 ≠ 18 by decide), getD_set_ne false (show 10 ≠ 21 by decide)] using h) (fun _ _ h => by simpa only [getD_set_ne false (show 10 ≠ 18 by decide), getD_set_ne false (show 10 ≠ 21 by decide)] using h) ?_ (by assumption) (fun hHeld2 => ?_)
                rotate_left 1
                · (intro _ _ _ _ _; first | (go_simp; done) | (go_simp; with_reducible rfl))
                clear hHeld; have hHeld := hHeld2; clear hHeld2
                (try simp only [Act.put, List.setIfInBounds_toArray, List.set_cons_zero, List.set_cons_succ])
                refine lTake (i := 11) (v := ?_) rfl (by kernel_rfl) (by kernel_rfl) (by kernel_rfl) (fun _ _ _ h => h) (by rfl) (fun _ _ h => by simpa only [getD_set_ne false (show 11 ≠ 18 by decide), getD_set_ne false (show 11 ≠ 21 by decide)] using h) (fun _ _ h => by simpa only [getD_set_ne false (show 11 ≠ 18 by decide), getD_set_ne false (show 11 ≠ 21 by decide)] using h) ?_ (by assumption) (fun hHeld2 => ?_)
                rotate_left 1
                · (intro _ _ _ _ _; first | (go_simp; done) | (go_simp; with_reducible rfl))
                clear hHeld; have hHeld := hHeld2; clear hHeld2
                (try simp only [Act.put, List.setIfInBounds_toArray, List.set_cons_zero, List.set_cons_succ])
                refine lTake (i := 12) (v := ?_) rfl (by kernel_rfl) (by kernel_rfl) (by kernel_rfl) (fun _ _ _ h => h) (by rfl) (fun _ _ h => by simpa only [getD_set_ne false (show 12 ≠ 18 by decide), getD_set_ne false (show 12 ≠ 21 by decide)] using h) (fun _ _ h => by simpa only [getD_set_ne false (show 12 ≠ 18 by decide), getD_set_ne false (show 12 ≠ 21 by decide)] using h) ?_ (by assumption) (fun hHeld2 => ?_)
                rotate_left 1
                · (intro L W hL hK hSw; (try dsimp only at hSw); obtain ⟨h0, h1, h2⟩ := hSw; replace h1 := still [] hK hL (by kernel_rfl) h1; replace h2 := still [] hK hL (by kernel_rfl) h2; clear hL hK; first | (go_simp; done) | (go_simp; with_reducible rfl))
                clear hHeld; have hHeld := hHeld2; clear hHeld2
                (try simp only [Act.put, List.setIfInBounds_toArray, List.set_cons_zero, List.set_cons_succ])
                refine lTake (i := 13) (v := ?_) rfl (by kernel_rfl) (by kernel_rfl) (by kernel_rfl) (fun _ _ _ h => h) (by rfl) (fun _ _ h => by simpa only [getD_set_ne false (show 13 ≠ 18 by decide), getD_set_ne false (show 13 ≠ 21 by decide)] using h) (fun _ _ h => by simpa only [getD_set_ne false (show 13 ≠ 18 by decide), getD_set_ne false (show 13 ≠ 21 by decide)] using h) ?_ (by assumption) (fun hHeld2 => ?_)
                rotate_left 1
                · (intro _ _ _ _ _; first | (go_simp; done) | (go_simp; with_reducible rfl))
                clear hHeld; have hHeld := hHeld2; clear hHeld2
                (try simp only [Act.put, List.setIfInBounds_toArray, List.set_cons_zero, List.set_cons_succ])
                refine lReady (rs := [7, 14]) (by kernel_rfl) (by simp) ?_
                refine AllL.cons (i := 7) rfl (fun K hK => ?_) ?_
                · refine step_new (.cells #[.slice (some ⟨gi, 0, none⟩) n n] 26) (fun g => .slice (some ⟨g, 0, none⟩) 1 1) rfl (by kernel_rfl) ?_; intro b7 v7 z7 hc7 hb7; (try have H14 := Lib.hid (H14.out.below hb7 H14.out.lt)); have H7 := Lib.hid (show Blk v7 b7 26 [.slice (some ⟨gi, 0, none⟩) n n] from hc7); have HX := Lib.hid (HX.out.below hb7); have GZ := Lib.hid (Nat.le_trans GZ.out hb7.size); clear hc7 hb7 z7
                  (try go_wp2_with fail)
                  refine hK.out _ _ ?_ (fun hHeld2 => ?_)
                  · (try dsimp only); refine ⟨?_, Or.inr ?_, Or.inr ?_⟩
                    · (first | trivial | with_reducible assumption)
                    · (with_reducible exact HX.out.b.cell 2 rfl)
                    · (first | (with_reducible exact HX.out.b.cell 3 rfl) | (go_simp; done))
                  clear hK K
                  clear hHeld; have hHeld := hHeld2; clear hHeld2
                  (try simp only [Act.put, List.setIfInBounds_toArray, List.set_cons_zero, List.set_cons_succ])
                  refine lReady (rs := [8, 14]) (by kernel_rfl) (by simp) ?_
                  refine AllL.cons (i := 8) rfl (fun K hK => ?_) ?_
                  · refine step_append_any (.tmp 214) (.tmp 216) 111 rfl rfl w.heap.size 26 i26 (.slice none 0 0) 1 24 Try.underlying111 h26i h26z h26s h26b rfl (by decide) AI i ci vi (by rfl) HX.out.oi (some ⟨b7, 0, none⟩) 1 1 [.slice (some ⟨gi, 0, none⟩) n n] (by rfl) (by rfl) (.inr ⟨_, rfl, fun k u hk => by rcases k with _ | k <;> simp at hk; subst hk; exact H7.out.cell 0 rfl⟩) (by simp [Value.oneCell']) (by unfold maxLen; omega) (by omega) HX.out.bel.size ?_; intro AI2 ci2 v8 hown hgrow hat; (try have H14 := Lib.hid (H14.out.grown hgrow (fun e => by have := HN14.out b14 (ownB_iff.2 e.symm); omega))); have GZ := Lib.hid (Nat.le_trans GZ.out hgrow.size); have HX := Lib.hid (HX.out.growI (Nat.le_refl _) hgrow hown hat); clear hown hgrow hat
                    (try go_wp2_with fail)
                    refine hK.out _ _ ?_ (fun hHeld2 => ?_)
                    · (try dsimp only); refine ⟨?_, Or.inr ?_, Or.inr ?_⟩
                      · (first | trivial | with_reducible assumption)
                      · (with_reducible exact HX.out.b.cell 2 rfl)
                      · (first | (with_reducible exact HX.out.b.cell 3 rfl) | (go_simp; done))
                    clear hK K
                    clear hHeld; have hHeld := hHeld2; clear hHeld2
                    (try simp only [Act.put, List.setIfInBounds_toArray, List.set_cons_zero, List.set_cons_succ])
                    refine lReady (rs := [14]) (by kernel_rfl) (by simp) ?_
                    refine AllL.cons (i := 14) rfl (fun K hK => ?_) ?_
                    · refine step_new (.cells #[.slice (some ⟨go, 0, none⟩) n n] 26) (fun g => .slice (some ⟨g, 0, none⟩) 1 1) rfl (by kernel_rfl) ?_; intro b14 v14 z14 hc14 hb14; (try have H7 := Lib.hid (H7.out.below hb14 H7.out.lt)); (try have HN14 := Lib.hid (show ∀ k, OwnB AI k → k < b14 from fun k hk => Nat.lt_of_lt_of_le (ownLt HX.out.oi hk).1 z14)); have H14 := Lib.hid (show Blk v14 b14 26 [.slice (some ⟨go, 0, none⟩) n n] from hc14); have HX := Lib.hid (HX.out.below hb14); have GZ := Lib.hid (Nat.le_trans GZ.out hb14.size); clear hc14 hb14 z14
                      (try go_wp2_with fail)
                      refine hK.out _ _ ?_ (fun hHeld2 => ?_)
                      · (try dsimp only); refine ⟨?_, Or.inr ?_, Or.inr ?_⟩
                        · (first | trivial | with_reducible assumption)
                        · (with_reducible exact HX.out.b.cell 2 rfl)
                        · (first | (with_reducible exact HX.out.b.cell 3 rfl) | (go_simp; done))
                      clear hK K
                      clear hHeld; have hHeld := hHeld2; clear hHeld2
                      (try simp only [Act.put, List.setIfInBounds_toArray, List.set_cons_zero, List.set_cons_succ])
                      refine lReady (rs := [15]) (by kernel_rfl) (by simp) ?_
                      refine AllL.cons (i := 15) rfl (fun K hK => ?_) ?_
                      · refine step_append_any (.tmp 221) (.tmp 223) 111 rfl rfl w.heap.size 26 i26 (.slice none 0 0) 1 24 Try.underlying111 h26i h26z h26s h26b rfl (by decide) AO i co vo (by rfl) HX.out.oo (some ⟨b14, 0, none⟩) 1 1 [.slice (some ⟨go, 0, none⟩) n n] (by rfl) (by rfl) (.inr ⟨_, rfl, fun k u hk => by rcases k with _ | k <;> simp at hk; subst hk; exact H14.out.cell 0 rfl⟩) (by simp [Value.oneCell']) (by unfold maxLen; omega) (by omega) HX.out.bel.size ?_; intro AO2 co2 v15 hown hgrow hat; have GZ := Lib.hid (Nat.le_trans GZ.out hgrow.size); have HX := Lib.hid (HX.out.growO (Nat.le_refl _) hgrow hown hat); have q2 := HX.out.b.cell 2 rfl; have q3 := HX.out.b.cell 3 rfl; have z2 := HX.out.b.free 2; have z3 := HX.out.b.free 3; have qlt := HX.out.b.lt; clear hown hgrow hat
                        (try go_wp2_with fail)
                        refine hK.out _ _ ?_ (fun hHeld2 => ?_)
                        · (try dsimp only); refine ⟨?_, Or.inr ?_, Or.inr ?_⟩
                          · (first | trivial | with_reducible assumption)
                          · (with_reducible exact HX.out.b.cell 2 rfl)
                          · (first | (with_reducible exact HX.out.b.cell 3 rfl) | (go_simp; done))
                        clear hK K
                        clear hHeld; have hHeld := hHeld2; clear hHeld2
                        (try simp only [Act.put, List.setIfInBounds_toArray, List.set_cons_zero, List.set_cons_succ])
                        refine lTake (i := 16) (v := ?_) rfl (by kernel_rfl) (by kernel_rfl) (by kernel_rfl) (fun _ _ _ h => h) (by rfl) (fun _ _ h => by simpa only [getD_set_ne false (show 16 ≠ 18 by decide), getD_set_ne false (show 16 ≠ 21 by decide)] using h) (fun _ _ h => by simpa only [getD_set_ne false (show 16 ≠ 18 by decide), getD_set_ne false (show 16 ≠ 21 by decide)] using h) ?_ (by assumption) (fun hHeld2 => ?_)
                        rotate_left 1
                        · (intro _ _ _ _ _; first | (go_simp; done) | (go_simp; with_reducible rfl))
                        clear hHeld; have hHeld := hHeld2; clear hHeld2
                        (try simp only [Act.put, List.setIfInBounds_toArray, List.set_cons_zero, List.set_cons_succ])
                        refine lTake (i := 17) (v := ?_) rfl (by kernel_rfl) (by kernel_rfl) (by kernel_rfl) (fun _ _ _ h => h) (by rfl) (fun _ _ h => by simpa only [getD_set_ne false (show 17 ≠ 18 by decide), getD_set_ne false (show 17 ≠ 21 by decide)] using h) (fun _ _ h => by simpa only [getD_set_ne false (show 17 ≠ 18 by decide), getD_set_ne false (show 17 ≠ 21 by decide)] using h) ?_ (by assumption) (fun hHeld2 => ?_)
                        rotate_left 1
                        · (intro _ _ _ _ _; first | (go_simp; done) | (go_simp; with_reducible rfl))
                        clear hHeld; have hHeld := hHeld2; clear hHeld2
                        (try simp only [Act.put, List.setIfInBounds_toArray, List.set_cons_zero, List.set_cons_succ])
                        refine lReady (rs := [18]) (by kernel_rfl) (by simp) ?_
                        refine AllL.cons (i := 18) rfl (fun K hK => ?_) ?_
                        · go_simp
                          (try go_wp2_with fail)
                          refine hK.out _ _ ?_ (fun hHeld2 => ?_)
                          · (try dsimp only); refine ⟨?_, Or.inl (by rfl), Or.inr ?_⟩
                            · (first | trivial | with_reducible assumption)
                            · (first | (with_reducible exact HX.out.b.cell 3 rfl) | (go_simp; done))
                          clear hK K
                          clear hHeld; have hHeld := hHeld2; clear hHeld2
                          (try simp only [Act.put, List.setIfInBounds_toArray, List.set_cons_zero, List.set_cons_succ])
                          refine lTake (i := 19) (v := ?_) rfl (by kernel_rfl) (by kernel_rfl) (by kernel_rfl) (fun _ _ _ h => h) (by rfl) (fun _ _ h => by simpa only [getD_set_ne false (show 19 ≠ 18 by decide), getD_set_ne false (show 19 ≠ 21 by decide)] using h) (fun _ _ h => by simpa only [getD_set_ne false (show 19 ≠ 18 by decide), getD_set_ne false (show 19 ≠ 21 by decide)] using h) ?_ (by assumption) (fun hHeld2 => ?_)
                          rotate_left 1
                          · (intro _ _ _ _ _; first | (go_simp; done) | (go_simp; with_reducible rfl))
                          clear hHeld; have hHeld := hHeld2; clear hHeld2
                          (try simp only [Act.put, List.setIfInBounds_toArray, List.set_cons_zero, List.set_cons_succ])
                          refine lTake (i := 20) (v := ?_) rfl (by kernel_rfl) (by kernel_rfl) (by kernel_rfl) (fun _ _ _ h => h) (by rfl) (fun _ _ h => by simpa only [getD_set_ne false (show 20 ≠ 18 by decide), getD_set_ne false (show 20 ≠ 21 by decide)] using h) (fun _ _ h => by simpa only [getD_set_ne false (show 20 ≠ 18 by decide), getD_set_ne false (show 20 ≠ 21 by decide)] using h) ?_ (by assumption) (fun hHeld2 => ?_)
                          rotate_left 1
                          · (intro _ _ _ _ _; first | (go_simp; done) | (go_simp; with_reducible rfl))
                          clear hHeld; have hHeld := hHeld2; clear hHeld2
                          (try simp only [Act.put, List.setIfInBounds_toArray, List.set_cons_zero, List.set_cons_succ])
                          refine lReady (rs := [21]) (by kernel_rfl) (by simp) ?_
                          refine AllL.cons (i := 21) rfl (fun K hK => ?_) ?_
                          · go_simp
                            (try go_wp2_with fail)
                            refine hK.out _ _ ?_ (fun hHeld2 => ?_)
                            · (try dsimp only); refine ⟨?_, Or.inl (by rfl), Or.inl (by rfl)⟩
                              · (first | trivial | with_reducible assumption)
                            clear hK K
                            clear hHeld; have hHeld := hHeld2; clear hHeld2
                            (try simp only [Act.put, List.setIfInBounds_toArray, List.set_cons_zero, List.set_cons_succ])
                            refine lDone (by kernel_rfl) ?_ _
                            have HBE := Lib.hid (BuiJ.of HN.out HX.out HRR.out GZ.out)
                            generalize (v15.setCell ⟨gb, 2, none⟩ (.slice AI2 (i + 1) ci2)).setCell ⟨gb, 3, none⟩ (.slice AO2 (i + 1) co2) = wE at HBE ⊢
                            clear q2 q3 z2 z3 qlt HX H7 H14
                            go_wp2_with fail
                            go_roundw
                            case measure => simp [intOf]; omega
                            case rel => exact ⟨i + 1, by omega, by go_num, by rw [HANN.out], HBE⟩
                          exact AllL.nil
                        exact AllL.nil
                      exact AllL.nil
                    exact AllL.nil
                  refine AllL.cons (i := 14) rfl (fun K hK => ?_) ?_
                  · refine step_new (.cells #[.slice (some ⟨go, 0, none⟩) n n] 26) (fun g => .slice (some ⟨g, 0, none⟩) 1 1) rfl (by kernel_rfl) ?_; intro b14 v14 z14 hc14 hb14; (try have H7 := Lib.hid (H7.out.below hb14 H7.out.lt)); (try have HN14 := Lib.hid (show ∀ k, OwnB AI k → k < b14 from fun k hk => Nat.lt_of_lt_of_le (ownLt HX.out.oi hk).1 z14)); have H14 := Lib.hid (show Blk v14 b14 26 [.slice (some ⟨go, 0, none⟩) n n] from hc14); have HX := Lib.hid (HX.out.below hb14); have GZ := Lib.hid (Nat.le_trans GZ.out hb14.size); clear hc14 hb14 z14
                    (try go_wp2_with fail)
                    refine hK.out _ _ ?_ (fun hHeld2 => ?_)
                    · (try dsimp only); refine ⟨?_, Or.inr ?_, Or.inr ?_⟩
                      · (first | trivial | with_reducible assumption)
                      · (with_reducible exact HX.out.b.cell 2 rfl)
                      · (first | (with_reducible exact HX.out.b.cell 3 rfl) | (go_simp; done))
                    clear hK K
                    clear hHeld; have hHeld := hHeld2; clear hHeld2
                    (try simp only [Act.put, List.setIfInBounds_toArray, List.set_cons_zero, List.set_cons_succ])
                    refine lReady (rs := [8]) (by kernel_rfl) (by simp) ?_
                    refine AllL.cons (i := 8) rfl (fun K hK => ?_) ?_
                    · refine step_append_any (.tmp 214) (.tmp 216) 111 rfl rfl w.heap.size 26 i26 (.slice none 0 0) 1 24 Try.underlying111 h26i h26z h26s h26b rfl (by decide) AI i ci vi (by rfl) HX.out.oi (some ⟨b7, 0, none⟩) 1 1 [.slice (some ⟨gi, 0, none⟩) n n] (by rfl) (by rfl) (.inr ⟨_, rfl, fun k u hk => by rcases k with _ | k <;> simp at hk; subst hk; exact H7.out.cell 0 rfl⟩) (by simp [Value.oneCell']) (by unfold maxLen; omega) (by omega) HX.out.bel.size ?_; intro AI2 ci2 v8 hown hgrow hat; (try have H14 := Lib.hid (H14.out.grown hgrow (fun e => by have := HN14.out b14 (ownB_iff.2 e.symm); omega))); have GZ := Lib.hid (Nat.le_trans GZ.out hgrow.size); have HX := Lib.hid (HX.out.growI (Nat.le_refl _) hgrow hown hat); clear hown hgrow hat
                      (try go_wp2_with fail)
                      refine hK.out _ _ ?_ (fun hHeld2 => ?_)
                      · (try dsimp only); refine ⟨?_, Or.inr ?_, Or.inr ?_⟩
                        · (first | trivial | with_reducible assumption)
                        · (with_reducible exact HX.out.b.cell 2 rfl)
                        · (first | (with_reducible exact HX.out.b.cell 3 rfl) | (go_simp; done))
                      clear hK K
                      clear hHeld; have hHeld := hHeld2; clear hHeld2
                      (try simp only [Act.put, List.setIfInBounds_toArray, List.set_cons_zero, List.set_cons_succ])
                      refine lReady (rs := [15]) (by kernel_rfl) (by simp) ?_
                      refine AllL.cons (i := 15) rfl (fun K hK => ?_) ?_
                      · refine step_append_any (.tmp 221) (.tmp 223) 111 rfl rfl w.heap.size 26 i26 (.slice none 0 0) 1 24 Try.underlying111 h26i h26z h26s h26b rfl (by decide) AO i co vo (by rfl) HX.out.oo (some ⟨b14, 0, none⟩) 1 1 [.slice (some ⟨go, 0, none⟩) n n] (by rfl) (by rfl) (.inr ⟨_, rfl, fun k u hk => by rcases k with _ | k <;> simp at hk; subst hk; exact H14.out.cell 0 rfl⟩) (by simp [Value.oneCell']) (by unfold maxLen; omega) (by omega) HX.out.bel.size ?_; intro AO2 co2 v15 hown hgrow hat; have GZ := Lib.hid (Nat.le_trans GZ.out hgrow.size); have HX := Lib.hid (HX.out.growO (Nat.le_refl _) hgrow hown hat); have q2 := HX.out.b.cell 2 rfl; have q3 := HX.out.b.cell 3 rfl; have z2 := HX.out.b.free 2; have z3 := HX.out.b.free 3; have qlt := HX.out.b.lt; clear hown hgrow hat
                        (try go_wp2_with fail)
                        refine hK.out _ _ ?_ (fun hHeld2 => ?_)
                        · (try dsimp only); refine ⟨?_, Or.inr ?_, Or.inr ?_⟩
                          · (first | trivial | with_reducible assumption)
                          · (with_reducible exact HX.out.b.cell 2 rfl)
                          · (first | (with_reducible exact HX.out.b.cell 3 rfl) | (go_simp; done))
                        clear hK K
                        clear hHeld; have hHeld := hHeld2; clear hHeld2
                        (try simp only [Act.put, List.setIfInBounds_toArray, List.set_cons_zero, List.set_cons_succ])
                        refine lTake (i := 16) (v := ?_) rfl (by kernel_rfl) (by kernel_rfl) (by kernel_rfl) (fun _ _ _ h => h) (by rfl) (fun _ _ h => by simpa only [getD_set_ne false (show 16 ≠ 18 by decide), getD_set_ne false (show 16 ≠ 21 by decide)] using h) (fun _ _ h => by simpa only [getD_set_ne false (show 16 ≠ 18 by decide), getD_set_ne false (show 16 ≠ 21 by decide)] using h) ?_ (by assumption) (fun hHeld2 => ?_)
                        rotate_left 1
                        · (intro _ _ _ _ _; first | (go_simp; done) | (go_simp; with_reducible rfl))
                        clear hHeld; have hHeld := hHeld2; clear hHeld2
                        (try simp only [Act.put, List.setIfInBounds_toArray, List.set_cons_zero, List.set_cons_succ])
                        refine lTake (i := 17) (v := ?_) rfl (by kernel_rfl) (by kernel_rfl) (by kernel_rfl) (fun _ _ _ h => h) (by rfl) (fun _ _ h => by simpa only [getD_set_ne false (show 17 ≠ 18 by decide), getD_set_ne false (show 17 ≠ 21 by decide)] using h) (fun _ _ h => by simpa only [getD_set_ne false (show 17 ≠ 18 by decide), getD_set_ne false (show 17 ≠ 21 by decide)] using h) ?_ (by assumption) (fun hHeld2 => ?_)
                        rotate_left 1
                        · (intro _ _ _ _ _; first | (go_simp; done) | (go_simp; with_reducible rfl))
                        clear hHeld; have hHeld := hHeld2; clear hHeld2
                        (try simp only [Act.put, List.setIfInBounds_toArray, List.set_cons_zero, List.set_cons_succ])
                        refine lReady (rs := [18]) (by kernel_rfl) (by simp) ?_
                        refine AllL.cons (i := 18) rfl (fun K hK => ?_) ?_
                        · go_simp
                          (try go_wp2_with fail)
                          refine hK.out _ _ ?_ (fun hHeld2 => ?_)
                          · (try dsimp only); refine ⟨?_, Or.inl (by rfl), Or.inr ?_⟩
                            · (first | trivial | with_reducible assumption)
                            · (first | (with_reducible exact HX.out.b.cell 3 rfl) | (go_simp; done))
                          clear hK K
                          clear hHeld; have hHeld := hHeld2; clear hHeld2
                          (try simp only [Act.put, List.setIfInBounds_toArray, List.set_cons_zero, List.set_cons_succ])
                          refine lTake (i := 19) (v := ?_) rfl (by kernel_rfl) (by kernel_rfl) (by kernel_rfl) (fun _ _ _ h => h) (by rfl) (fun _ _ h => by simpa only [getD_set_ne false (show 19 ≠ 18 by decide), getD_set_ne false (show 19 ≠ 21 by decide)] using h) (fun _ _ h => by simpa only [getD_set_ne false (show 19 ≠ 18 by decide), getD_set_ne false (show 19 ≠ 21 by decide)] using h) ?_ (by assumption) (fun hHeld2 => ?_)
                          rotate_left 1
                          · (intro _ _ _ _ _; first | (go_simp; done) | (go_simp; with_reducible rfl))
                          clear hHeld; have hHeld := hHeld2; clear hHeld2
                          (try simp only [Act.put, List.setIfInBounds_toArray, List.set_cons_zero, List.set_cons_succ])
                          refine lTake (i := 20) (v := ?_) rfl (by kernel_rfl) (by kernel_rfl) (by kernel_rfl) (fun _ _ _ h => h) (by rfl) (fun _ _ h => by simpa only [getD_set_ne false (show 20 ≠ 18 by decide), getD_set_ne false (show 20 ≠ 21 by decide)] using h) (fun _ _ h => by simpa only [getD_set_ne false (show 20 ≠ 18 by decide), getD_set_ne false (show 20 ≠ 21 by decide)] using h) ?_ (by assumption) (fun hHeld2 => ?_)
                          rotate_left 1
                          · (intro _ _ _ _ _; first | (go_simp; done) | (go_simp; with_reducible rfl))
                          clear hHeld; have hHeld := hHeld2; clear hHeld2
                          (try simp only [Act.put, List.setIfInBounds_toArray, List.set_cons_zero, List.set_cons_succ])
                          refine lReady (rs := [21]) (by kernel_rfl) (by simp) ?_
                          refine AllL.cons (i := 21) rfl (fun K hK => ?_) ?_
                          · go_simp
                            (try go_wp2_with fail)
                            refine hK.out _ _ ?_ (fun hHeld2 => ?_)
                            · (try dsimp only); refine ⟨?_, Or.inl (by rfl), Or.inl (by rfl)⟩
                              · (first | trivial | with_reducible assumption)
                            clear hK K
                            clear hHeld; have hHeld := hHeld2; clear hHeld2
                            (try simp only [Act.put, List.setIfInBounds_toArray, List.set_cons_zero, List.set_cons_succ])
                            refine lDone (by kernel_rfl) ?_ _
                            have HBE := Lib.hid (BuiJ.of HN.out HX.out HRR.out GZ.out)
                            generalize (v15.setCell ⟨gb, 2, none⟩ (.slice AI2 (i + 1) ci2)).setCell ⟨gb, 3, none⟩ (.slice AO2 (i + 1) co2) = wE at HBE ⊢
                            clear q2 q3 z2 z3 qlt HX H7 H14
                            go_wp2_with fail
                            go_roundw
                            case measure => simp [intOf]; omega
                            case rel => exact ⟨i + 1, by omega, by go_num, by rw [HANN.out], HBE⟩
                          exact AllL.nil
                        exact AllL.nil
                      exact AllL.nil
                    exact AllL.nil
                  exact AllL.nil
                refine AllL.cons (i := 14) rfl (fun K hK => ?_) ?_
                · refine step_new (.cells #[.slice (some ⟨go, 0, none⟩) n n] 26) (fun g => .slice (some ⟨g, 0, none⟩) 1 1) rfl (by kernel_rfl) ?_; intro b14 v14 z14 hc14 hb14; (try have H7 := Lib.hid (H7.out.below hb14 H7.out.lt)); (try have HN14 := Lib.hid (show ∀ k, OwnB AI k → k < b14 from fun k hk => Nat.lt_of_lt_of_le (ownLt HX.out.oi hk).1 z14)); have H14 := Lib.hid (show Blk v14 b14 26 [.slice (some ⟨go, 0, none⟩) n n] from hc14); have HX := Lib.hid (HX.out.below hb14); have GZ := Lib.hid (Nat.le_trans GZ.out hb14.size); clear hc14 hb14 z14
                  (try go_wp2_with fail)
                  refine hK.out _ _ ?_ (fun hHeld2 => ?_)
                  · (try dsimp only); refine ⟨?_, Or.inr ?_, Or.inr ?_⟩
                    · (first | trivial | with_reducible assumption)
                    · (with_reducible exact HX.out.b.cell 2 rfl)
                    · (first | (with_reducible exact HX.out.b.cell 3 rfl) | (go_simp; done))
                  clear hK K
                  clear hHeld; have hHeld := hHeld2; clear hHeld2
                  (try simp only [Act.put, List.setIfInBounds_toArray, List.set_cons_zero, List.set_cons_succ])
                  refine lReady (rs := [7]) (by kernel_rfl) (by simp) ?_
                  refine AllL.cons (i := 7) rfl (fun K hK => ?_) ?_
                  · refine step_new (.cells #[.slice (some ⟨gi, 0, none⟩) n n] 26) (fun g => .slice (some ⟨g, 0, none⟩) 1 1) rfl (by kernel_rfl) ?_; intro b7 v7 z7 hc7 hb7; (try have H14 := Lib.hid (H14.out.below hb7 H14.out.lt)); have H7 := Lib.hid (show Blk v7 b7 26 [.slice (some ⟨gi, 0, none⟩) n n] from hc7); have HX := Lib.hid (HX.out.below hb7); have GZ := Lib.hid (Nat.le_trans GZ.out hb7.size); clear hc7 hb7 z7
                    (try go_wp2_with fail)
                    refine hK.out _ _ ?_ (fun hHeld2 => ?_)
                    · (try dsimp only); refine ⟨?_, Or.inr ?_, Or.inr ?_⟩
                      · (first | trivial | with_reducible assumption)
                      · (with_reducible exact HX.out.b.cell 2 rfl)
                      · (first | (with_reducible exact HX.out.b.cell 3 rfl) | (go_simp; done))
                    clear hK K
                    clear hHeld; have hHeld := hHeld2; clear hHeld2
                    (try simp only [Act.put, List.setIfInBounds_toArray, List.set_cons_zero, List.set_cons_succ])
                    refine lReady (rs := [8]) (by kernel_rfl) (by simp) ?_
                    refine AllL.cons (i := 8) rfl (fun K hK => ?_) ?_
                    · refine step_append_any (.tmp 214) (.tmp 216) 111 rfl rfl w.heap.size 26 i26 (.slice none 0 0) 1 24 Try.underlying111 h26i h26z h26s h26b rfl (by decide) AI i ci vi (by rfl) HX.out.oi (some ⟨b7, 0, none⟩) 1 1 [.slice (some ⟨gi, 0, none⟩) n n] (by rfl) (by rfl) (.inr ⟨_, rfl, fun k u hk => by rcases k with _ | k <;> simp at hk; subst hk; exact H7.out.cell 0 rfl⟩) (by simp [Value.oneCell']) (by unfold maxLen; omega) (by omega) HX.out.bel.size ?_; intro AI2 ci2 v8 hown hgrow hat; (try have H14 := Lib.hid (H14.out.grown hgrow (fun e => by have := HN14.out b14 (ownB_iff.2 e.symm); omega))); have GZ := Lib.hid (Nat.le_trans GZ.out hgrow.size); have HX := Lib.hid (HX.out.growI (Nat.le_refl _) hgrow hown hat); clear hown hgrow hat
                      (try go_wp2_with fail)
                      refine hK.out _ _ ?_ (fun hHeld2 => ?_)
                      · (try dsimp only); refine ⟨?_, Or.inr ?_, Or.inr ?_⟩
                        · (first | trivial | with_reducible assumption)
                        · (with_reducible exact HX.out.b.cell 2 rfl)
                        · (first | (with_reducible exact HX.out.b.cell 3 rfl) | (go_simp; done))
                      clear hK K
                      clear hHeld; have hHeld := hHeld2; clear hHeld2
                      (try simp only [Act.put, List.setIfInBounds_toArray, List.set_cons_zero, List.set_cons_succ])
                      refine lReady (rs := [15]) (by kernel_rfl) (by simp) ?_
                      refine AllL.cons (i := 15) rfl (fun K hK => ?_) ?_
                      · refine step_append_any (.tmp 221) (.tmp 223) 111 rfl rfl w.heap.size 26 i26 (.slice none 0 0) 1 24 Try.underlying111 h26i h26z h26s h26b rfl (by decide) AO i co vo (by rfl) HX.out.oo (some ⟨b14, 0, none⟩) 1 1 [.slice (some ⟨go, 0, none⟩) n n] (by rfl) (by rfl) (.inr ⟨_, rfl, fun k u hk => by rcases k with _ | k <;> simp at hk; subst hk; exact H14.out.cell 0 rfl⟩) (by simp [Value.oneCell']) (by unfold maxLen; omega) (by omega) HX.out.bel.size ?_; intro AO2 co2 v15 hown hgrow hat; have GZ := Lib.hid (Nat.le_trans GZ.out hgrow.size); have HX := Lib.hid (HX.out.growO (Nat.le_refl _) hgrow hown hat); have q2 := HX.out.b.cell 2 rfl; have q3 := HX.out.b.cell 3 rfl; have z2 := HX.out.b.free 2; have z3 := HX.out.b.free 3; have qlt := HX.out.b.lt; clear hown hgrow hat
                        (try go_wp2_with fail)
                        refine hK.out _ _ ?_ (fun hHeld2 => ?_)
                        · (try dsimp only); refine ⟨?_, Or.inr ?_, Or.inr ?_⟩
                          · (first | trivial | with_reducible assumption)
                          · (with_reducible exact HX.out.b.cell 2 rfl)
                          · (first | (with_reducible exact HX.out.b.cell 3 rfl) | (go_simp; done))
                        clear hK K
                        clear hHeld; have hHeld := hHeld2; clear hHeld2
                        (try simp only [Act.put, List.setIfInBounds_toArray, List.set_cons_zero, List.set_cons_succ])
                        refine lTake (i := 16) (v := ?_) rfl (by kernel_rfl) (by kernel_rfl) (by kernel_rfl) (fun _ _ _ h => h) (by rfl) (fun _ _ h => by simpa only [getD_set_ne false (show 16 ≠ 18 by decide), getD_set_ne false (show 16 ≠ 21 by decide)] using h) (fun _ _ h => by simpa only [getD_set_ne false (show 16 ≠ 18 by decide), getD_set_ne false (show 16 ≠ 21 by decide)] using h) ?_ (by assumption) (fun hHeld2 => ?_)
                        rotate_left 1
                        · (intro _ _ _ _ _; first | (go_simp; done) | (go_simp; with_reducible rfl))
                        clear hHeld; have hHeld := hHeld2; clear hHeld2
                        (try simp only [Act.put, List.setIfInBounds_toArray, List.set_cons_zero, List.set_cons_succ])
                        refine lTake (i := 17) (v := ?_) rfl (by kernel_rfl) (by kernel_rfl) (by kernel_rfl) (fun _ _ _ h => h) (by rfl) (fun _ _ h => by simpa only [getD_set_ne false (show 17 ≠ 18 by decide), getD_set_ne false (show 17 ≠ 21 by decide)] using h) (fun _ _ h => by simpa only [getD_set_ne false (show 17 ≠ 18 by decide), getD_set_ne false (show 17 ≠ 21 by decide)] using h) ?_ (by assumption) (fun hHeld2 => ?_)
                        rotate_left 1
                        · (intro _ _ _ _ _; first | (go_simp; done) | (go_simp; with_reducible rfl))
                        clear hHeld; have hHeld := hHeld2; clear hHeld2
                        (try simp only [Act.put, List.setIfInBounds_toArray, List.set_cons_zero, List.set_cons_succ])
                        refine lReady (rs := [18]) (by kernel_rfl) (by simp) ?_
                        refine AllL.cons (i := 18) rfl (fun K hK => ?_) ?_
                        · go_simp
                          (try go_wp2_with fail)
                          refine hK.out _ _ ?_ (fun hHeld2 => ?_)
                          · (try dsimp only); refine ⟨?_, Or.inl (by rfl), Or.inr ?_⟩
                            · (first | trivial | with_reducible assumption)
                            · (first | (with_reducible exact HX.out.b.cell 3 rfl) | (go_simp; done))
                          clear hK K
                          clear hHeld; have hHeld := hHeld2; clear hHeld2
                          (try simp only [Act.put, List.setIfInBounds_toArray, List.set_cons_zero, List.set_cons_succ])
                          refine lTake (i := 19) (v := ?_) rfl (by kernel_rfl) (by kernel_rfl) (by kernel_rfl) (fun _ _ _ h => h) (by rfl) (fun _ _ h => by simpa only [getD_set_ne false (show 19 ≠ 18 by decide), getD_set_ne false (show 19 ≠ 21 by decide)] using h) (fun _ _ h => by simpa only [getD_set_ne false (show 19 ≠ 18 by decide), getD_set_ne false (show 19 ≠ 21 by decide)] using h) ?_ (by assumption) (fun hHeld2 => ?_)
                          rotate_left 1
                          · (intro _ _ _ _ _; first | (go_simp; done) | (go_simp; with_reducible rfl))
                          clear hHeld; have hHeld := hHeld2; clear hHeld2
                          (try simp only [Act.put, List.setIfInBounds_toArray, List.set_cons_zero, List.set_cons_succ])
                          refine lTake (i := 20) (v := ?_) rfl (by kernel_rfl) (by kernel_rfl) (by kernel_rfl) (fun _ _ _ h => h) (by rfl) (fun _ _ h => by simpa only [getD_set_ne false (show 20 ≠ 18 by decide), getD_set_ne false (show 20 ≠ 21 by decide)] using h) (fun _ _ h => by simpa only [getD_set_ne false (show 20 ≠ 18 by decide), getD_set_ne false (show 20 ≠ 21 by decide)] using h) ?_ (by assumption) (fun hHeld2 => ?_)
                          rotate_left 1
                          · (intro _ _ _ _ _; first | (go_simp; done) | (go_simp; with_reducible rfl))
                          clear hHeld; have hHeld := hHeld2; clear hHeld2
                          (try simp only [Act.put, List.setIfInBounds_toArray, List.set_cons_zero, List.set_cons_succ])
                          refine lReady (rs := [21]) (by kernel_rfl) (by simp) ?_
                          refine AllL.cons (i := 21) rfl (fun K hK => ?_) ?_
                          · go_simp
                            (try go_wp2_with fail)
                            refine hK.out _ _ ?_ (fun hHeld2 => ?_)
                            · (try dsimp only); refine ⟨?_, Or.inl (by rfl), Or.inl (by rfl)⟩
                              · (first | trivial | with_reducible assumption)
                            clear hK K
                            clear hHeld; have hHeld := hHeld2; clear hHeld2
                            (try simp only [Act.put, List.setIfInBounds_toArray, List.set_cons_zero, List.set_cons_succ])
                            refine lDone (by kernel_rfl) ?_ _
                            have HBE := Lib.hid (BuiJ.of HN.out HX.out HRR.out GZ.out)
                            generalize (v15.setCell ⟨gb, 2, none⟩ (.slice AI2 (i + 1) ci2)).setCell ⟨gb, 3, none⟩ (.slice AO2 (i + 1) co2) = wE at HBE ⊢
                            clear q2 q3 z2 z3 qlt HX H7 H14
                            go_wp2_with fail
                            go_roundw
                            case measure => simp [intOf]; omega
                            case rel => exact ⟨i + 1, by omega, by go_num, by rw [HANN.out], HBE⟩
                          exact AllL.nil
                        exact AllL.nil
                      exact AllL.nil
                    exact AllL.nil
                  exact AllL.nil
                exact AllL.nil
    · obtain rfl : m = i := by omega
      go_wp2_with fail
      have hfin := HR.out
      unfold CoK at hfin
      exact hfin _ _ _ _ _ _ _ _ _ _ _ _ _ _ _ _ _ _ _ _ _ _ _ _ _ _ _ _ _ _ _ _ _ _ _ _ _ _ _ _ _ _ _ _ _ _ _ _ _ _ _ _ _ _ _ _ _ _ _ _ _ _ _ _ _ _ _ _ _ _ _ _ _ _ _ _ _ _ _ _ _ _ _ _ _ _ _ _ _ _ _ _ _ _ _ _ _ _ _ _ _ _ _ _ _ _ _ _ _ _ _ _ _ _ _ _ _ _ _ _ _ _ _ _ _ _ _ _ _ _ _ _ _ _ _ _ _ _ _ _ _ _ _ _ _ _ _ _ _ _ _ _ _ _ _ _ _ _ _ _ _ _ _ _ _ _ _ _ _ _ _ _ _ _ _ _ _ _ _ _ _ _ _ _ _ _ _ _ _ _ _ _ _ _ _ _ _ _ _ _ _ _ _ _ _ _ _ _ _ _ _ _ _ _ _ _ _ _ _ _ _ _ _ _ _ _ _ _ _ _ _ _ _ _ _ _ _ _ _ _ _ _ _ _ _ _ _ _ _ _ _ _ _ HJ.out
end Go.Proofs.Ytmebpglkeedaoaa
