/- Contracts that the claim leans on, part 6: M33 T29 A2 A4 C12 C13 C14 C15 A5 LLim2 LMore -/
import Derived.Test.YtmebpglkeedaoaaDM5
import Derived.Deep.Cut
import Derived.WalkMore
set_option linter.unusedVariables false
set_option linter.unusedSimpArgs false
set_option linter.unnecessarySimpa false
namespace Go.Proofs.Ytmebpglkeedaoaa
namespace Dp
theorem getD_setL {α : Type} (l : List α) (i j : Nat) (x d : α) (hi : i < l.length) : (l.set i x).getD j d = if j = i then x else l.getD j d := by
  rw [List.getD_eq_getElem?_getD, List.getElem?_set, List.getD_eq_getElem?_getD]
  by_cases h : i = j
  · subst h; simp [hi]
  · rw [if_neg h, if_neg (fun e => h e.symm)]
def moS (S : Site) (k : Nat) (l b : Int) : Site := ⟨S.lim.set k l, S.exp, S.buy.set k b, S.sell⟩
def fuC (cs : List Car) (i : Nat) (x : Int) : List Car := cs.set i { cs.getD i default with fin := x }
section
variable {S : Site} {cs : List Car} {T : Tab} {k i : Nat} {l b x : Int}
theorem mo_len (S : Site) (k : Nat) (l b : Int) : (moS S k l b).lim.length = S.lim.length := by simp [moS]
theorem mo_slot (h : stE S cs = 0) (hk : k < S.lim.length) (t : Nat) : (moS S k l b).lim.getD t 0 = (if t = k then l else S.lim.getD t 0) ∧ (moS S k l b).buy.getD t 0 = (if t = k then b else S.buy.getD t 0) := by
  have hh := siteHead_iff.1 (stE_0 h).2.1
  exact ⟨getD_setL _ _ _ _ _ hk, getD_setL _ _ _ _ _ (by omega)⟩
theorem mo_ok (h : stE S cs = 0) (hk : k < S.lim.length) (hl : S.lim.getD k 0 ≤ l ∧ l ≤ 1048576) (hb : S.sell.getD k 0 ≤ b ∧ b ≤ S.buy.getD k 0) : stE (moS S k l b) cs = 0 := by
  obtain ⟨h1, h2, h3, h4⟩ := stE_0 h
  have hh := siteHead_iff.1 h2
  have hln := mo_len S k l b
  refine stE_ok (by omega) (siteHead_iff.2 ?_) (fun t ht => slotOk_iff.2 ?_) (fun j hj => by rw [hln]; exact h4 j hj)
  · rw [hln]
    refine ⟨hh.1, hh.2.1, ?_, hh.2.2.2⟩
    show (S.buy.set k b).length = _
    rw [List.length_set]; exact hh.2.2.1
  · rw [hln] at ht
    have h5 := slotOk_iff.1 (h3 t ht)
    have h6 := slotOk_iff.1 (h3 k hk)
    have h7 := mo_slot (l := l) (b := b) h hk t
    rw [h7.1, h7.2]
    show _ ∧ _ ∧ _ ∧ (0 ≤ S.sell.getD t 0 ∧ S.sell.getD t 0 ≤ _)
    refine ⟨?_, h5.2.1, ?_, h5.2.2.2.1, ?_⟩
    · split <;> omega
    · split <;> omega
    · split
      · rename_i e; subst e; omega
      · exact h5.2.2.2.2
theorem mo_keeps (h : stE S cs = 0) (hk : k < S.lim.length) (hl : S.lim.getD k 0 ≤ l ∧ l ≤ 1048576) (hb : S.sell.getD k 0 ≤ b ∧ b ≤ S.buy.getD k 0) (hT : plE S cs T = 0) : plE (moS S k l b) cs T = 0 ∧ prc (moS S k l b) T cs.length (moS S k l b).lim.length ≤ prc S T cs.length S.lim.length := by
  have hK := plE_0 hT
  have hln := mo_len S k l b
  constructor
  · refine plE_good (mo_ok h hk hl hb) ?_ (fun t ht => slotE_ok (fun j hj => hK.car t (by omega) j hj) ?_) (fun j hj t ht => ?_)
    · rw [Bool.and_eq_true, lenG_iff, lenG_iff, hln]
      exact ⟨⟨hK.li, hK.ri⟩, ⟨hK.lo, hK.ro⟩⟩
    · rw [hln] at ht
      have h1 := hK.dr t ht
      have h7 := mo_slot (l := l) (b := b) h hk t
      rw [h7.1]
      refine ⟨?_, h1.2⟩
      split
      · rename_i e; subst e; omega
      · exact h1.1
    · rw [hln] at ht ⊢
      exact hK.lv j hj t ht
  · rw [hln, prc_su, prc_su]
    refine su_le _ (fun t ht => ?_)
    have h7 := mo_slot (l := l) (b := b) h hk t
    unfold prQ
    rw [h7.2]
    have h8 : (moS S k l b).sell = S.sell := rfl
    rw [h8]
    split
    · rename_i e
      subst e
      have := Int.mul_le_mul_of_nonneg_left hb.2 (show 0 ≤ max 0 (drP T t cs.length) by omega)
      omega
    · exact Int.le_refl _
theorem fu_len (cs : List Car) (i : Nat) (x : Int) : (fuC cs i x).length = cs.length := by simp [fuC]
theorem fu_get (hi : i < cs.length) (j : Nat) : (fuC cs i x).getD j default = if j = i then { cs.getD i default with fin := x } else cs.getD j default := getD_setL _ _ _ _ _ hi
theorem fu_keeps (h : stE S cs = 0) (hi : i < cs.length) (hx : (cs.getD i default).fin ≤ x) (hT : plE S (fuC cs i x) T = 0) : plE S cs T = 0 := by
  have hK := plE_0 hT
  have hln := fu_len cs i x
  have li := hK.li
  have lo := hK.lo
  have ri := hK.ri
  have ro := hK.ro
  rw [hln] at li lo ri ro
  have hlev : ∀ j, j < cs.length → ∀ t, t ≤ S.lim.length → levG (cs.getD j default) (T.inn.getD j []) (T.out.getD j []) S.lim.length t = true := fun j hj t ht => by
    have h1 := hK.lv j (by omega) t ht
    rw [fu_get hi] at h1
    by_cases e : j = i
    · subst e
      rw [if_pos rfl] at h1
      rw [levG_iff] at h1 ⊢
      have e1 : ∀ t, lev { cs.getD j default with fin := x } (T.inn.getD j []) (T.out.getD j []) t = lev (cs.getD j default) (T.inn.getD j []) (T.out.getD j []) t := fun t => by
        induction t with
        | zero => rfl
        | succ t ih => simp only [lev]; rw [ih]; rfl
      rw [e1] at h1
      refine ⟨Int.le_trans ?_ h1.1, h1.2⟩
      unfold least
      by_cases hn : t < S.lim.length
      · rw [if_pos hn, if_pos hn]; exact Int.le_refl _
      · rw [if_neg hn, if_neg hn]; exact hx
    · rw [if_neg e] at h1; exact h1
  refine plE_good h ?_ (fun t ht => slotE_ok (fun j hj => ?_) (hK.dr t ht)) (fun j hj t ht => hlev j hj t ht)
  · rw [Bool.and_eq_true, lenG_iff, lenG_iff]
    exact ⟨⟨li, ri⟩, ⟨lo, ro⟩⟩
  · have h1 := hK.car t ht j (by omega)
    unfold carAt at h1 ⊢
    rw [fu_get hi] at h1
    by_cases e : j = i
    · subst e; rw [if_pos rfl] at h1; exact h1
    · rw [if_neg e] at h1; exact h1
end
end Dp
end Go.Proofs.Ytmebpglkeedaoaa
namespace Go.Proofs.Ytmebpglkeedaoaa
open Go.RowKit Dp
theorem info63 : (Try.prog.info? 63).map (fun i => (i.zero, i.size, i.bytes)) = some (some (.agg #[.int .i64 0, .int .i64 0, .int .i64 0, .int .i64 0, .int .i64 0, .slice none 0 0]), 6, 64) := by kernel_rfl
theorem src_ints {W V : World} {ad : Addr} {xs : List Int} {n : Nat} (h : IntsAt W (some ad) xs) (hb : Below W.heap.size W V) : SrcRow V (some ad) n (xs.map (Value.int .i64)) := .inr ⟨ad, rfl, fun j u hu => by
  have hj : j < xs.length := by
    rcases Nat.lt_or_ge j xs.length with h | h
    · exact h
    · rw [List.getElem?_eq_none (by simpa using h)] at hu; cases hu
  obtain ⟨ad', e, hl, hc⟩ := h j hj
  cases e
  have hu' : u = .int .i64 (xs.getD j 0) := by
    rw [List.getElem?_map, List.getElem?_eq_getElem hj] at hu
    simp only [Option.map_some, Option.some.injEq] at hu
    rw [← hu, List.getD_eq_getElem?_getD, List.getElem?_eq_getElem hj]; rfl
  rw [hu']
  exact (hb.cell (by rw [block_add]; exact hl)).trans hc⟩
def CrV (w : World) (vs : List Value) (cs : List Car) : Prop := vs.length = cs.length * 6 ∧ ∀ i, i < cs.length → (vs[i * 6]? = some (.int .i64 (cs.getD i default).cap) ∧ vs[i * 6 + 1]? = some (.int .i64 (cs.getD i default).inn) ∧ vs[i * 6 + 2]? = some (.int .i64 (cs.getD i default).out) ∧ vs[i * 6 + 3]? = some (.int .i64 (cs.getD i default).start) ∧ vs[i * 6 + 4]? = some (.int .i64 (cs.getD i default).fin)) ∧ ∃ T cT, vs[i * 6 + 5]? = some (.slice T (cs.getD i default).trips.length cT) ∧ ((cs.getD i default).trips.length ≤ cT ∧ cT ≤ 9223372036854775807) ∧ TripsAt w T (cs.getD i default).trips
theorem cars_row {w : World} {ad : Addr} {cs : List Car} (h : CarsAt w (some ad) cs) (h0 : 0 < cs.length) : ∃ vs, CrV w vs cs ∧ (∀ j u, vs[j]? = some u → w.cell? (ad.add j) = some u) ∧ (∀ u, u ∈ vs → u.oneCell' = true) ∧ ad.block < w.heap.size := by
  have hc : ∀ i, i < cs.length → ∀ r, r < 6 → ∃ x, w.cell? (ad.add (i * 6 + r)) = some x ∧ x.oneCell' = true := fun i hi r hr => by
    obtain ⟨ad', e, hl, c0, c1, c2, c3, c4, T, cT, c5, _, _⟩ := h i hi
    cases e
    rw [← add_add']
    match r, hr with
    | 0, _ => exact ⟨_, by rw [add_zero']; exact c0, rfl⟩
    | 1, _ => exact ⟨_, c1, rfl⟩
    | 2, _ => exact ⟨_, c2, rfl⟩
    | 3, _ => exact ⟨_, c3, rfl⟩
    | 4, _ => exact ⟨_, c4, rfl⟩
    | 5, _ => exact ⟨_, c5, rfl⟩
  obtain ⟨vs, hl, hv⟩ := choose_list (α := Value) (n := cs.length * 6) (Q := fun j x => w.cell? (ad.add j) = some x ∧ x.oneCell' = true) (fun j hj => by
    have := hc (j / 6) (by omega) (j % 6) (by omega)
    rw [show j / 6 * 6 + j % 6 = j by omega] at this
    exact this)
  have hget : ∀ j, j < cs.length * 6 → ∃ x, vs[j]? = some x ∧ w.cell? (ad.add j) = some x := fun j hj => by
    have : j < vs.length := by rw [hl]; exact hj
    exact ⟨vs[j], List.getElem?_eq_getElem this, (hv j _ (List.getElem?_eq_getElem this)).1⟩
  refine ⟨vs, ⟨hl, fun i hi => ?_⟩, fun j u hu => (hv j u hu).1, fun u hu => ?_, ?_⟩
  · obtain ⟨ad', e, _, c0, c1, c2, c3, c4, T, cT, c5, r, ht⟩ := h i hi
    cases e
    have g : ∀ r, r < 6 → ∀ u, w.cell? ((ad.add (i * 6)).add r) = some u → vs[i * 6 + r]? = some u := fun r hr u hu => by
      obtain ⟨x, h1, h2⟩ := hget (i * 6 + r) (by omega)
      rw [add_add', h2] at hu
      rw [h1]; exact hu
    exact ⟨⟨g 0 (by omega) _ (by rw [add_zero']; exact c0), g 1 (by omega) _ c1, g 2 (by omega) _ c2, g 3 (by omega) _ c3, g 4 (by omega) _ c4⟩, T, cT, g 5 (by omega) _ c5, r, ht⟩
  · obtain ⟨j, hj, rfl⟩ := List.getElem_of_mem hu
    exact (hv j _ (List.getElem?_eq_getElem hj)).2
  · obtain ⟨ad', e, hl', _⟩ := h 0 h0
    cases e
    exact hl'
theorem CrV.fin {w : World} {vs : List Value} {cs : List Car} {i : Nat} {x : Int} (h : CrV w vs cs) (hi : i < cs.length) : CrV w (vs.set (i * 6 + 4) (.int .i64 x)) (fuC cs i x) := by
  refine ⟨by rw [List.length_set, fu_len]; exact h.1, fun j hj => ?_⟩
  rw [fu_len] at hj
  obtain ⟨⟨a0, a1, a2, a3, a4⟩, T, cT, a5, r, ht⟩ := h.2 j hj
  rw [fu_get hi]
  have hl := h.1
  have hne : ∀ k, k ≠ i * 6 + 4 → (vs.set (i * 6 + 4) (.int .i64 x))[k]? = vs[k]? := fun k hk => List.getElem?_set_ne (fun e => hk e.symm)
  by_cases e : j = i
  · subst e
    rw [if_pos rfl, hne (j * 6) (by omega), hne (j * 6 + 1) (by omega), hne (j * 6 + 2) (by omega), hne (j * 6 + 3) (by omega), hne (j * 6 + 5) (by omega)]
    exact ⟨⟨a0, a1, a2, a3, List.getElem?_set_self (by omega)⟩, T, cT, a5, r, ht⟩
  · rw [if_neg e, hne _ (by omega), hne _ (by omega), hne _ (by omega), hne _ (by omega), hne _ (by omega), hne _ (by omega)]
    exact ⟨⟨a0, a1, a2, a3, a4⟩, T, cT, a5, r, ht⟩
theorem CrV.at {w W : World} {vs : List Value} {cs : List Car} {D g m c : Nat} (h : CrV w vs cs) (ho : W.ownsRow D 63 6 (.slice (some ⟨g, 0, none⟩) m c) m vs) (hm : m = cs.length) (hb : Below w.heap.size w W) : CarsAt W (some ⟨g, 0, none⟩) cs := fun i hi => by
  obtain ⟨⟨a0, a1, a2, a3, a4⟩, T, cT, a5, r, ht⟩ := h.2 i hi
  have hlt : g < W.heap.size := (World.ownsRow.lt ho g rfl).2
  have hc : ∀ j, j < 6 → W.cell? ⟨g, i * 6 + j, none⟩ = vs[i * 6 + j]? := fun j hj => World.ownsRow.cellAt ho (i * 6 + j) (by omega)
  have had : (⟨g, 0, none⟩ : Addr).add (i * 6) = ⟨g, i * 6, none⟩ := by unfold Addr.add; split <;> simp_all
  refine ⟨⟨g, 0, none⟩, rfl, hlt, ?_, ?_, ?_, ?_, ?_, T, cT, ?_, r, ht.below hb (Nat.le_refl _)⟩ <;> rw [had]
  · exact (hc 0 (by omega)).trans a0
  · exact (hc 1 (by omega)).trans a1
  · exact (hc 2 (by omega)).trans a2
  · exact (hc 3 (by omega)).trans a3
  · exact (hc 4 (by omega)).trans a4
  · exact (hc 5 (by omega)).trans a5
theorem cost_yes {S : Site} {cs : List Car} {e : Ending} {U : Tab} (h : CostV S cs e) (hU : plE S cs U = 0) : ∃ v, e = .returned (.tuple #[.int .i64 v, .bool true]) ∧ (∃ T, plE S cs T = 0 ∧ prc S T cs.length S.lim.length = v) ∧ ∀ U, plE S cs U = 0 → v ≤ prc S U cs.length S.lim.length := by
  rcases h with ⟨T, p, hB, rfl⟩ | ⟨_, h | h⟩
  · exact ⟨_, rfl, ⟨T, hB.ok, rfl⟩, hB.le⟩
  · exact absurd (plE_0 hU).ok h
  · exact absurd hU (h _)
theorem cost_fu {S : Site} {cs : List Car} {e : Ending} {i : Nat} {x v : Int} (h : CostV S (fuC cs i x) e) (h0 : stE S cs = 0) (hi : i < cs.length) (hx : (cs.getD i default).fin ≤ x) (hv : ∀ U, plE S cs U = 0 → v ≤ prc S U cs.length S.lim.length) : ∃ y b, e = .returned (.tuple #[.int .i64 y, .bool b]) ∧ (b = true → v ≤ y) := by
  rcases h with ⟨T, p, hB, rfl⟩ | ⟨rfl, _⟩
  · have := hv T (fu_keeps h0 hi hx hB.ok)
    rw [fu_len]
    exact ⟨_, _, rfl, fun _ => this⟩
  · exact ⟨_, _, rfl, fun h => by cases h⟩
theorem peak_yes {S : Site} {cs : List Car} {w w' : World} {e : Ending} {U : Tab} (h : PeakP S cs w e w') (hU : plE S cs U = 0) : ∃ (pk : Int) (g1 g2 : Nat) (Y : Option Addr) (y cY : Nat), e = .returned (.tuple #[.int .i64 pk, .agg #[.slice (some ⟨g1, 0, none⟩) cs.length cs.length, .slice (some ⟨g2, 0, none⟩) cs.length cs.length], .slice Y y cY, .int .i64 0]) ∧ (0 ≤ pk ∧ pk ≤ 1048576) ∧ (0 < pk → ∀ fl, isFlow (netN (cpS S (pk - 1)) cs) fl = false) := by
  rcases h with ⟨h0, _⟩ | ⟨_, _, h2⟩ | ⟨_, pk, g1, g2, _, _, _, _, Y, y, cY, _, rfl, _, _, _, _, _, hP⟩
  · exact absurd (plE_0 hU).ok h0
  · exact absurd hU (h2 _)
  · exact ⟨pk, g1, g2, Y, y, cY, rfl, hP.bd, fun hp => (hP.no hp).2.2⟩
theorem plan_no {S : Site} {cs : List Car} {w w' : World} {e : Ending} (h : PlanP S cs w e w') (h0 : stE S cs = 0) (hn : ∀ fl, isFlow (netN S cs) fl = false) : e = .returned (.tuple #[.agg #[.slice none 0 0, .slice none 0 0], .slice none 0 0, .int .i64 18]) := by
  rcases h with ⟨h1, _⟩ | ⟨_, rfl, _⟩ | ⟨_, _, _, _, _, _, _, _, _, _, _, _, _, _, hB⟩
  · exact absurd h0 h1
  · rfl
  · exact absurd hB.ok (plan_none hn _)
end Go.Proofs.Ytmebpglkeedaoaa
namespace Go.Proofs.Ytmebpglkeedaoaa
open Go.RowKit Dp
@[go_sem] theorem an_0 : bits BinOp.and IntKind.i64 0 1 = 0 := by kernel_rfl
@[go_sem] theorem an_1 : bits BinOp.and IntKind.i64 1 1 = 1 := by kernel_rfl
@[go_sem] theorem an_2 : bits BinOp.and IntKind.i64 2 1 = 0 := by kernel_rfl
@[go_sem] theorem an_3 : bits BinOp.and IntKind.i64 3 1 = 1 := by kernel_rfl
@[go_sem] theorem or_0_1 : bits BinOp.or IntKind.i64 0 1 = 1 := by kernel_rfl
@[go_sem] theorem or_0_2 : bits BinOp.or IntKind.i64 0 2 = 2 := by kernel_rfl
@[go_sem] theorem or_1_1 : bits BinOp.or IntKind.i64 1 1 = 1 := by kernel_rfl
@[go_sem] theorem or_1_2 : bits BinOp.or IntKind.i64 1 2 = 3 := by kernel_rfl
@[go_sem] theorem or_2_1 : bits BinOp.or IntKind.i64 2 1 = 3 := by kernel_rfl
@[go_sem] theorem or_2_2 : bits BinOp.or IntKind.i64 2 2 = 2 := by kernel_rfl
@[go_sem] theorem or_3_1 : bits BinOp.or IntKind.i64 3 1 = 3 := by kernel_rfl
@[go_sem] theorem or_3_2 : bits BinOp.or IntKind.i64 3 2 = 3 := by kernel_rfl
structure AsJ (w : World) (gL gA gB r gb : Nat) (b0 b1 b2 b3 : Int) (W : World) : Prop where
  co : CO W gL gA gB
  res : Blk W r 87 [.slice none 0 0, .int .i64 0, .slice none 0 0, .slice none 0 0]
  best : Blk W gb 2 [.int .i64 b0, .int .i64 b1, .int .i64 b2, .int .i64 b3]
  nL : gL ≠ gb
  nA : gA ≠ gb
  nB : gB ≠ gb
  nr : r ≠ gb
  own : w.heap.size ≤ gb
  bel : Below w.heap.size w W
theorem AsJ.drew {w W : World} {gL gA gB r gb : Nat} {b0 b1 b2 b3 : Int} (h : AsJ w gL gA gB r gb b0 b1 b2 b3 W) : AsJ w gL gA gB r gb b0 b1 b2 b3 W.drew :=
  ⟨⟨h.co.L, h.co.A, h.co.B⟩, h.res, h.best, h.nL, h.nA, h.nB, h.nr, h.own, h.bel.drew⟩
theorem AsJ.set0 {w W : World} {gL gA gB r gb : Nat} {b0 b1 b2 b3 : Int} (h : AsJ w gL gA gB r gb b0 b1 b2 b3 W) (x : Int) : AsJ w gL gA gB r gb x b1 b2 b3 (W.setCell ⟨gb, 0, none⟩ (.int .i64 x)) :=
  ⟨⟨h.co.L.setCell_ne h.nL _, h.co.A.setCell_ne h.nA _, h.co.B.setCell_ne h.nB _⟩, h.res.setCell_ne h.nr _, h.best.setCell 0 _, h.nL, h.nA, h.nB, h.nr, h.own, h.bel.setCell h.own _⟩
theorem AsJ.set1 {w W : World} {gL gA gB r gb : Nat} {b0 b1 b2 b3 : Int} (h : AsJ w gL gA gB r gb b0 b1 b2 b3 W) (x : Int) : AsJ w gL gA gB r gb b0 x b2 b3 (W.setCell ⟨gb, 1, none⟩ (.int .i64 x)) :=
  ⟨⟨h.co.L.setCell_ne h.nL _, h.co.A.setCell_ne h.nA _, h.co.B.setCell_ne h.nB _⟩, h.res.setCell_ne h.nr _, h.best.setCell 1 _, h.nL, h.nA, h.nB, h.nr, h.own, h.bel.setCell h.own _⟩
theorem AsJ.set2 {w W : World} {gL gA gB r gb : Nat} {b0 b1 b2 b3 : Int} (h : AsJ w gL gA gB r gb b0 b1 b2 b3 W) (x : Int) : AsJ w gL gA gB r gb b0 b1 x b3 (W.setCell ⟨gb, 2, none⟩ (.int .i64 x)) :=
  ⟨⟨h.co.L.setCell_ne h.nL _, h.co.A.setCell_ne h.nA _, h.co.B.setCell_ne h.nB _⟩, h.res.setCell_ne h.nr _, h.best.setCell 2 _, h.nL, h.nA, h.nB, h.nr, h.own, h.bel.setCell h.own _⟩
theorem AsJ.start {w V : World} {gL gA gB r : Nat} (h : CO V gL gA gB) (hr : Blk V r 87 [.slice none 0 0, .int .i64 0, .slice none 0 0, .slice none 0 0]) (hb : Below w.heap.size w V) : AsJ w gL gA gB r V.heap.size 0 0 0 0 (V.alloc (.cells (Array.replicate 4 (.int .i64 0)) 2)) := by
  have b2 := hb.alloc hb.size (.cells (Array.replicate 4 (.int .i64 0)) 2)
  have l1 := h.L.lt
  have l2 := h.A.lt
  have l3 := h.B.lt
  have l4 := hr.lt
  have l5 := hb.size
  have r2 := Blk.new' V (Array.replicate 4 (.int .i64 0)) 2
  refine ⟨⟨h.L.alloc _, h.A.alloc _, h.B.alloc _⟩, hr.alloc _, ?_, by omega, by omega, by omega, by omega, by omega, b2⟩
  simpa using r2
def DualsC : Prop := ∀ (gL gA gB : Nat) (V : World), CO V gL gA gB → Calls Try.prog 96 #[.slice (some ⟨gL, 0, none⟩) 2 2, .int .i64 2] V fun e V' => ∃ R rn rc Q qn qc, e = .returned (.tuple #[.slice R rn rc, .slice Q qn qc]) ∧ Below V.heap.size V V'
structure AsM (w : World) (gL gA gB r gb gm : Nat) (A : Option Addr) (n cap : Nat) (cs : List Value) (W : World) : Prop where
  j : AsJ w gL gA gB r gb 3 3 2 0 W
  m : Blk W gm 87 [.slice A n cap, .int .i64 3, .slice none 0 0, .slice none 0 0]
  own : W.ownsRow (gm + 1) 3 1 (.slice A n cap) n cs
  lt : gL < gm ∧ gA < gm ∧ gB < gm ∧ r < gm ∧ gb < gm
theorem AsJ.below {w W V : World} {gL gA gB r gb : Nat} {b0 b1 b2 b3 : Int} (h : AsJ w gL gA gB r gb b0 b1 b2 b3 W) (hb : Below W.heap.size W V) : AsJ w gL gA gB r gb b0 b1 b2 b3 V :=
  ⟨h.co.below hb (Nat.le_refl _), h.res.below hb h.res.lt, h.best.below hb h.best.lt, h.nL, h.nA, h.nB, h.nr, h.own, h.bel.trans (hb.mono h.bel.size)⟩
theorem AsM.below {w W V : World} {gL gA gB r gb gm n cap : Nat} {A : Option Addr} {cs : List Value} (h : AsM w gL gA gB r gb gm A n cap cs W) (hb : Below W.heap.size W V) : AsM w gL gA gB r gb gm A n cap cs V :=
  ⟨h.j.below hb, h.m.below hb h.m.lt, ownBelow h.own hb, h.lt⟩
theorem AsM.alloc {w W : World} {gL gA gB r gb gm n cap : Nat} {A : Option Addr} {cs : List Value} (h : AsM w gL gA gB r gb gm A n cap cs W) (o : Obj) : AsM w gL gA gB r gb gm A n cap cs (W.alloc o) :=
  h.below ((Below.refl _ _).alloc (Nat.le_refl _) o)
theorem AsM.start {w W : World} {gL gA gB r gb : Nat} (h : AsJ w gL gA gB r gb 3 3 2 0 W) : AsM w gL gA gB r gb W.heap.size none 0 0 [] (W.alloc (.cells #[.slice none 0 0, .int .i64 3, .slice none 0 0, .slice none 0 0] 87)) :=
  ⟨h.below ((Below.refl _ _).alloc (Nat.le_refl _) _), Blk.new' W _ 87, World.ownsRow_nil _ _ _ _, h.co.L.lt, h.co.A.lt, h.co.B.lt, h.res.lt, h.best.lt⟩
theorem AsM.mid {w W V : World} {gL gA gB r gb gm n cap : Nat} {A : Option Addr} {cs : List Value} (h : AsM w gL gA gB r gb gm A n cap cs W) (hg : W.grownBy V (Value.slice A n cap).ownBlock) :
    Blk V gm 87 [.slice A n cap, .int .i64 3, .slice none 0 0, .slice none 0 0] ∧ AsJ w gL gA gB r gb 3 3 2 0 V := by
  have hk : ∀ k, (Value.slice A n cap).ownBlock = some k → gm + 1 ≤ k := fun k e => (World.ownsRow.lt h.own k e).1
  have hne : ∀ k, k ≤ gm → some k ≠ (Value.slice A n cap).ownBlock := fun k hk' e => by have := hk k e.symm; omega
  have hl := h.lt
  have ho := h.j.own
  have hbs := h.j.bel.size
  exact ⟨h.m.grown hg (hne _ (Nat.le_refl _)), ⟨h.j.co.L.grown hg (hne _ (by omega)), h.j.co.A.grown hg (hne _ (by omega)), h.j.co.B.grown hg (hne _ (by omega))⟩, h.j.res.grown hg (hne _ (by omega)), h.j.best.grown hg (hne _ (by omega)), h.j.nL, h.j.nA, h.j.nB, h.j.nr, h.j.own, h.j.bel.grown hg hbs (fun k e => by have := hk k e; omega)⟩
theorem AsM.push {w W V : World} {gL gA gB r gb gm n cap n2 cap2 : Nat} {A A2 : Option Addr} {cs cs2 : List Value} (h : AsM w gL gA gB r gb gm A n cap cs W) (hg : W.grownBy V (Value.slice A n cap).ownBlock)
    (ho : V.ownsRow (gm + 1) 3 1 (.slice A2 n2 cap2) n2 cs2) : AsM w gL gA gB r gb gm A2 n2 cap2 cs2 (V.setCell ⟨gm, 0, none⟩ (.slice A2 n2 cap2)) := by
  obtain ⟨m2, j2⟩ := h.mid hg
  have hl := h.lt
  have ho2 := h.j.own
  refine ⟨⟨⟨j2.co.L.setCell_ne (by simp; omega) _, j2.co.A.setCell_ne (by simp; omega) _, j2.co.B.setCell_ne (by simp; omega) _⟩, j2.res.setCell_ne (by simp; omega) _, j2.best.setCell_ne (by simp; omega) _, j2.nL, j2.nA, j2.nB, j2.nr, j2.own, j2.bel.setCell (by simp; omega) _⟩, m2.setCell 0 _, ?_, hl⟩
  exact ownGrown ho ⟨rfl, rfl, rfl, by simp [World.setCell], fun k hk hne => Below.heap_setCell _ _ _ _ (fun e => hne (by rw [e]))⟩ (row := some gm) (fun k hk e => by
    have := (World.ownsRow.lt ho k (ownB_iff.1 hk)).1
    cases e; omega)
theorem final {w W : World} {gL gA gB r gb gm n cap : Nat} {A : Option Addr} {cs : List Value} (h : AsM w gL gA gB r gb gm A n cap cs W) (R Q : Option Addr) (rn rc qn qc : Nat) (U : World := (W.setCell ⟨gm, 2, none⟩ (.slice R rn rc)).setCell ⟨gm, 3, none⟩ (.slice Q qn qc)) (hU : U = (W.setCell ⟨gm, 2, none⟩ (.slice R rn rc)).setCell ⟨gm, 3, none⟩ (.slice Q qn qc) := by rfl) :
    Blk U r 87 [.slice none 0 0, .int .i64 0, .slice none 0 0, .slice none 0 0] ∧ Blk U gm 87 [.slice A n cap, .int .i64 3, .slice R rn rc, .slice Q qn qc] ∧ U.ownsRow (gm + 1) 3 1 (.slice A n cap) n cs ∧ Below w.heap.size w U := by
  subst hU
  have hl := h.lt
  have ho := h.j.own
  have row : ∀ (V : World) (o : Nat) (x : Value), V.ownsRow (gm + 1) 3 1 (.slice A n cap) n cs → (V.setCell ⟨gm, o, none⟩ x).ownsRow (gm + 1) 3 1 (.slice A n cap) n cs := fun V o x hV =>
    ownGrown hV ⟨rfl, rfl, rfl, by simp [World.setCell], fun k hk hne => Below.heap_setCell _ _ _ _ (fun e => hne (by rw [e]))⟩ (row := some gm) (fun k hk e => by
      have := (World.ownsRow.lt hV k (ownB_iff.1 hk)).1
      cases e; omega)
  exact ⟨(h.j.res.setCell_ne (by simp; omega) _).setCell_ne (by simp; omega) _, (h.m.setCell 2 _).setCell 3 _, row _ _ _ (row _ _ _ h.own), (h.j.bel.setCell (by simp; omega) _).setCell (by simp; omega) _⟩
theorem final2 {w U : World} {r gm n cap : Nat} {A R Q : Option Addr} {cs : List Value} {rn rc qn qc : Nat} (h : Blk U r 87 [.slice none 0 0, .int .i64 0, .slice none 0 0, .slice none 0 0] ∧ Blk U gm 87 [.slice A n cap, .int .i64 3, .slice R rn rc, .slice Q qn qc] ∧ U.ownsRow (gm + 1) 3 1 (.slice A n cap) n cs ∧ Below w.heap.size w U)
    (hr : w.heap.size ≤ r) (hm : r < gm) (Z : World) (hZ : Z = (((U.setCell ⟨r, 0, none⟩ (.slice A n cap)).setCell ⟨r, 1, none⟩ (.int .i64 3)).setCell ⟨r, 2, none⟩ (.slice R rn rc)).setCell ⟨r, 3, none⟩ (.slice Q qn qc)) :
    Blk Z r 87 [.slice A n cap, .int .i64 3, .slice R rn rc, .slice Q qn qc] ∧ Z.ownsRow w.heap.size 3 1 (.slice A n cap) n cs ∧ Below w.heap.size w Z := by
  subst hZ
  have row : ∀ (V : World) (o : Nat) (x : Value), V.ownsRow (gm + 1) 3 1 (.slice A n cap) n cs → (V.setCell ⟨r, o, none⟩ x).ownsRow (gm + 1) 3 1 (.slice A n cap) n cs := fun V o x hV =>
    ownGrown hV ⟨rfl, rfl, rfl, by simp [World.setCell], fun k hk hne => Below.heap_setCell _ _ _ _ (fun e => hne (by rw [e]))⟩ (row := some r) (fun k hk e => by
      have := (World.ownsRow.lt hV k (ownB_iff.1 hk)).1
      cases e; omega)
  have ro := row _ 3 (.slice Q qn qc) (row _ 2 (.slice R rn rc) (row _ 1 (.int .i64 3) (row _ 0 (.slice A n cap) h.2.2.1)))
  exact ⟨(((h.1.setCell 0 _).setCell 1 _).setCell 2 _).setCell 3 _, ⟨ro.1, ro.2.imp id (fun ⟨k, c, cur, hv, hb', r⟩ => ⟨k, c, cur, hv, by omega, r⟩)⟩, (((h.2.2.2.setCell hr _).setCell hr _).setCell hr _).setCell hr _⟩
set_option maxHeartbeats 4000000 in
set_option maxRecDepth 100000 in
theorem Assign_c (HD : DualsC) (gL gA gB : Nat) (w : World) (h : CO w gL gA gB) : Calls Try.prog 56 #[.slice (some ⟨gL, 0, none⟩) 2 2] w fun e w' => ∃ A c R rn rc Q qn qc, e = .returned (.tuple #[.agg #[.slice A 2 c, .int .i64 3, .slice R rn rc, .slice Q qn qc], .int .i64 0]) ∧ w'.ownsRow w.heap.size 3 1 (.slice A 2 c) 2 [.int .i64 1, .int .i64 0] ∧ Below w.heap.size w w' := by
  have HB := Lib.hid ((Below.refl w.heap.size w).alloc (Nat.le_refl _) (.cells #[.slice none 0 0, .int .i64 0, .slice none 0 0, .slice none 0 0] 87))
  have HR := Lib.hid (Blk.new' w #[.slice none 0 0, .int .i64 0, .slice none 0 0, .slice none 0 0] 87)
  have B1 := Lib.hid (h.below HB.out (Nat.le_refl _))
  obtain ⟨i3, h3i, h3z, h3s, h3b⟩ := info_parts info3
  clear h
  go_enter Try.func56, Try.ntmps56
  go_wp2_with fail
  go_step3
  generalize w.alloc (.cells #[.slice none 0 0, .int .i64 0, .slice none 0 0, .slice none 0 0] 87) = w1 at HB HR B1 ⊢
  obtain ⟨r, hr⟩ : ∃ r, r = w.heap.size := ⟨_, rfl⟩
  rw [← hr] at HR ⊢
  have HRR : Hid (w.heap.size ≤ r) := Lib.hid (Nat.le_of_eq hr.symm)
  clear hr
  go_wp2_with fail
  refine (checkCosts_c gL gA gB _ B1.out).mono ?_
  rintro e w2 ⟨rfl, rfl⟩
  go_wp2_with fail
  have l0 := B1.out.L.cell 0 rfl
  have l9 := B1.out.L.lt
  refine wp_region_past (by kernel_rfl) (by kernel_rfl) ?_
  repeat (go_big_quiet_step (fail))
  refine wpQuiet_nil ?_
  intro xx
  have J1 := Lib.hid (AsJ.start (B1.out.below xx.far (Nat.le_refl _)) (HR.out.below xx.far HR.out.lt) (HB.out.trans (xx.far.mono HB.out.size)))
  clear l0 l9 B1 HR HB
  generalize xx.w = w2 at J1 ⊢
  have hm1 : ∀ W : World, (Instr.makeSlice 22 (.int .i64 4) (.int .i64 4)).run Try.prog W = .ok (.slice (some ⟨W.heap.size, 0, none⟩) 4 4) (W.alloc (.cells (Array.replicate 4 (.int .i64 0)) 2)) := make_64 4 (by omega)
  generalize hgb : w2.heap.size = gb at *
  go_upto_region 6 with fail
  generalize w2.alloc (.cells (Array.replicate 4 (.int .i64 0)) 2) = w3 at J1 ⊢
  go_wp2_with fail
  refine wp_loop_rounds 5 ?_
  rw [rounds_succ]
  go_wp2_with fail
  refine (ones_3 _).mono ?_
  rintro e w2 ⟨rfl, rfl⟩
  go_wp2_with fail
  rw [rounds_succ]
  go_wp2_with fail
  refine (ones_2 _).mono ?_
  rintro e w2 ⟨rfl, rfl⟩
  have l0 := J1.out.co.L.cell 0 rfl
  have l1 := J1.out.co.L.cell 1 rfl
  have a0 := J1.out.co.A.cell 0 rfl
  have a1 := J1.out.co.A.cell 1 rfl
  have b0 := J1.out.co.B.cell 0 rfl
  have b1 := J1.out.co.B.cell 1 rfl
  have s0 := J1.out.best.cell 0 rfl
  have s1 := J1.out.best.cell 1 rfl
  have s2 := J1.out.best.cell 2 rfl
  have s3 := J1.out.best.cell 3 rfl
  have z0 := J1.out.best.free 0
  have z1 := J1.out.best.free 1
  have z2 := J1.out.best.free 2
  have z3 := J1.out.best.free 3
  go_upto_region 12 with fail
  clear l0 l1 a0 a1 b0 b1 s0 s1 s2 s3 z0 z1 z2 z3
  refine gen_world (fun W => AsJ w gL gA gB r gb 0 0 1152921504606846976 0 W) (J1.out.set2 1152921504606846976) ?_
  rintro w12 hj
  have J2 := Lib.hid hj
  clear hj
  have l0 := J2.out.co.L.cell 0 rfl
  have l1 := J2.out.co.L.cell 1 rfl
  have a0 := J2.out.co.A.cell 0 rfl
  have a1 := J2.out.co.A.cell 1 rfl
  have b0 := J2.out.co.B.cell 0 rfl
  have b1 := J2.out.co.B.cell 1 rfl
  have s0 := J2.out.best.cell 0 rfl
  have s1 := J2.out.best.cell 1 rfl
  have s2 := J2.out.best.cell 2 rfl
  have s3 := J2.out.best.cell 3 rfl
  have z0 := J2.out.best.free 0
  have z1 := J2.out.best.free 1
  have z2 := J2.out.best.free 2
  have z3 := J2.out.best.free 3
  go_wp2_with fail
  refine wp_loop_rounds 3 ?_
  rw [rounds_succ]
  go_wp2_with fail
  clear l0 l1 a0 a1 b0 b1 s0 s1 s2 s3 z0 z1 z2 z3
  refine wp_region_spine 17 [false] [] ?af_2_0 (fun V => AsJ w gL gA gB r gb 0 0 1152921504606846976 0 V) (by kernel_rfl) (by kernel_rfl) J2.out.drew ?walk_2_0 ?_
  case walk_2_0 =>
    intro V hV
    have s2 := hV.best.cell 2 rfl
    have s3 := hV.best.cell 3 rfl
    have hmx : ∀ ts t W, (Builtin.min_ ts t #[.int .i64 1152921504606846976, .int .i64 2]).run Try.prog W = .ok (.int .i64 2) W := fun ts t W => min_i64 1152921504606846976 2 ts t W
    clear hV
    simp only [List.take_succ_cons, List.take_zero]
    repeat (go_big_quiet_step (fail))
    refine wpQuiet_nil ?_
    rfl
  intro w13 hV
  have J3 := Lib.hid (hV.set2 2)
  have s2 := hV.best.cell 2 rfl
  have z2 := hV.best.free 2
  clear hV
  refine spineV_cons ?_
  unfold StepV
  go_simp
  generalize w13.setCell ⟨gb, 2, none⟩ (.int .i64 2) = w14 at J3 ⊢
  clear s2 z2
  refine spineV_nil ?_
  go_wp2_with fail
  have J4 := J3
  have l0 := J4.out.co.L.cell 0 rfl
  have l1 := J4.out.co.L.cell 1 rfl
  have a0 := J4.out.co.A.cell 0 rfl
  have a1 := J4.out.co.A.cell 1 rfl
  have b0 := J4.out.co.B.cell 0 rfl
  have b1 := J4.out.co.B.cell 1 rfl
  have s0 := J4.out.best.cell 0 rfl
  have s1 := J4.out.best.cell 1 rfl
  have s2 := J4.out.best.cell 2 rfl
  have s3 := J4.out.best.cell 3 rfl
  have z0 := J4.out.best.free 0
  have z1 := J4.out.best.free 1
  have z2 := J4.out.best.free 2
  have z3 := J4.out.best.free 3
  rw [rounds_succ]
  go_wp2_with fail
  rw [rounds_succ]
  go_wp2_with fail
  clear l0 l1 a0 a1 b0 b1 s0 s1 s2 s3 z0 z1 z2 z3
  rw [rounds_succ]
  go_wp2_with fail
  refine (ones_1 _).mono ?_
  rintro e w2 ⟨rfl, rfl⟩
  have l0 := J4.out.co.L.cell 0 rfl
  have l1 := J4.out.co.L.cell 1 rfl
  have a0 := J4.out.co.A.cell 0 rfl
  have a1 := J4.out.co.A.cell 1 rfl
  have b0 := J4.out.co.B.cell 0 rfl
  have b1 := J4.out.co.B.cell 1 rfl
  have s0 := J4.out.best.cell 0 rfl
  have s1 := J4.out.best.cell 1 rfl
  have s2 := J4.out.best.cell 2 rfl
  have s3 := J4.out.best.cell 3 rfl
  have z0 := J4.out.best.free 0
  have z1 := J4.out.best.free 1
  have z2 := J4.out.best.free 2
  have z3 := J4.out.best.free 3
  go_upto_region 12 with fail
  clear l0 l1 a0 a1 b0 b1 s0 s1 s2 s3 z0 z1 z2 z3
  refine gen_world (fun W => AsJ w gL gA gB r gb 0 1152921504606846976 2 0 W) (J4.out.set1 1152921504606846976) ?_
  rintro w15 hj
  have J5 := Lib.hid hj
  clear hj
  have l0 := J5.out.co.L.cell 0 rfl
  have l1 := J5.out.co.L.cell 1 rfl
  have a0 := J5.out.co.A.cell 0 rfl
  have a1 := J5.out.co.A.cell 1 rfl
  have b0 := J5.out.co.B.cell 0 rfl
  have b1 := J5.out.co.B.cell 1 rfl
  have s0 := J5.out.best.cell 0 rfl
  have s1 := J5.out.best.cell 1 rfl
  have s2 := J5.out.best.cell 2 rfl
  have s3 := J5.out.best.cell 3 rfl
  have z0 := J5.out.best.free 0
  have z1 := J5.out.best.free 1
  have z2 := J5.out.best.free 2
  have z3 := J5.out.best.free 3
  go_wp2_with fail
  refine wp_loop_rounds 3 ?_
  rw [rounds_succ]
  go_wp2_with fail
  rw [rounds_succ]
  go_wp2_with fail
  clear l0 l1 a0 a1 b0 b1 s0 s1 s2 s3 z0 z1 z2 z3
  refine wp_region_spine 17 [false] [] ?af_1_1 (fun V => AsJ w gL gA gB r gb 0 1152921504606846976 2 0 V) (by kernel_rfl) (by kernel_rfl) J5.out.drew ?walk_1_1 ?_
  case walk_1_1 =>
    intro V hV
    have s1 := hV.best.cell 1 rfl
    have s3 := hV.best.cell 3 rfl
    have hmx : ∀ ts t W, (Builtin.min_ ts t #[.int .i64 1152921504606846976, .int .i64 3]).run Try.prog W = .ok (.int .i64 3) W := fun ts t W => min_i64 1152921504606846976 3 ts t W
    clear hV
    simp only [List.take_succ_cons, List.take_zero]
    repeat (go_big_quiet_step (fail))
    refine wpQuiet_nil ?_
    rfl
  intro w16 hV
  have J6 := Lib.hid (hV.set1 3)
  have s1 := hV.best.cell 1 rfl
  have z1 := hV.best.free 1
  clear hV
  refine spineV_cons ?_
  unfold StepV
  go_simp
  generalize w16.setCell ⟨gb, 1, none⟩ (.int .i64 3) = w17 at J6 ⊢
  clear s1 z1
  refine spineV_nil ?_
  go_wp2_with fail
  have J7 := J6
  have l0 := J7.out.co.L.cell 0 rfl
  have l1 := J7.out.co.L.cell 1 rfl
  have a0 := J7.out.co.A.cell 0 rfl
  have a1 := J7.out.co.A.cell 1 rfl
  have b0 := J7.out.co.B.cell 0 rfl
  have b1 := J7.out.co.B.cell 1 rfl
  have s0 := J7.out.best.cell 0 rfl
  have s1 := J7.out.best.cell 1 rfl
  have s2 := J7.out.best.cell 2 rfl
  have s3 := J7.out.best.cell 3 rfl
  have z0 := J7.out.best.free 0
  have z1 := J7.out.best.free 1
  have z2 := J7.out.best.free 2
  have z3 := J7.out.best.free 3
  rw [rounds_succ]
  go_wp2_with fail
  clear l0 l1 a0 a1 b0 b1 s0 s1 s2 s3 z0 z1 z2 z3
  rw [rounds_succ]
  go_wp2_with fail
  refine (ones_0 _).mono ?_
  rintro e w2 ⟨rfl, rfl⟩
  have l0 := J7.out.co.L.cell 0 rfl
  have l1 := J7.out.co.L.cell 1 rfl
  have a0 := J7.out.co.A.cell 0 rfl
  have a1 := J7.out.co.A.cell 1 rfl
  have b0 := J7.out.co.B.cell 0 rfl
  have b1 := J7.out.co.B.cell 1 rfl
  have s0 := J7.out.best.cell 0 rfl
  have s1 := J7.out.best.cell 1 rfl
  have s2 := J7.out.best.cell 2 rfl
  have s3 := J7.out.best.cell 3 rfl
  have z0 := J7.out.best.free 0
  have z1 := J7.out.best.free 1
  have z2 := J7.out.best.free 2
  have z3 := J7.out.best.free 3
  go_upto_region 12 with fail
  clear l0 l1 a0 a1 b0 b1 s0 s1 s2 s3 z0 z1 z2 z3
  refine gen_world (fun W => AsJ w gL gA gB r gb 1152921504606846976 3 2 0 W) (J7.out.set0 1152921504606846976) ?_
  rintro w18 hj
  have J8 := Lib.hid hj
  clear hj
  have l0 := J8.out.co.L.cell 0 rfl
  have l1 := J8.out.co.L.cell 1 rfl
  have a0 := J8.out.co.A.cell 0 rfl
  have a1 := J8.out.co.A.cell 1 rfl
  have b0 := J8.out.co.B.cell 0 rfl
  have b1 := J8.out.co.B.cell 1 rfl
  have s0 := J8.out.best.cell 0 rfl
  have s1 := J8.out.best.cell 1 rfl
  have s2 := J8.out.best.cell 2 rfl
  have s3 := J8.out.best.cell 3 rfl
  have z0 := J8.out.best.free 0
  have z1 := J8.out.best.free 1
  have z2 := J8.out.best.free 2
  have z3 := J8.out.best.free 3
  go_wp2_with fail
  refine wp_loop_rounds 3 ?_
  rw [rounds_succ]
  go_wp2_with fail
  clear l0 l1 a0 a1 b0 b1 s0 s1 s2 s3 z0 z1 z2 z3
  refine wp_region_spine 17 [false] [] ?af_0_0 (fun V => AsJ w gL gA gB r gb 1152921504606846976 3 2 0 V) (by kernel_rfl) (by kernel_rfl) J8.out.drew ?walk_0_0 ?_
  case walk_0_0 =>
    intro V hV
    have s0 := hV.best.cell 0 rfl
    have s1 := hV.best.cell 1 rfl
    have hmx : ∀ ts t W, (Builtin.min_ ts t #[.int .i64 1152921504606846976, .int .i64 7]).run Try.prog W = .ok (.int .i64 7) W := fun ts t W => min_i64 1152921504606846976 7 ts t W
    clear hV
    simp only [List.take_succ_cons, List.take_zero]
    repeat (go_big_quiet_step (fail))
    refine wpQuiet_nil ?_
    rfl
  intro w19 hV
  have J9 := Lib.hid (hV.set0 7)
  have s0 := hV.best.cell 0 rfl
  have z0 := hV.best.free 0
  clear hV
  refine spineV_cons ?_
  unfold StepV
  go_simp
  generalize w19.setCell ⟨gb, 0, none⟩ (.int .i64 7) = w20 at J9 ⊢
  clear s0 z0
  refine spineV_nil ?_
  go_wp2_with fail
  have J10 := J9
  have l0 := J10.out.co.L.cell 0 rfl
  have l1 := J10.out.co.L.cell 1 rfl
  have a0 := J10.out.co.A.cell 0 rfl
  have a1 := J10.out.co.A.cell 1 rfl
  have b0 := J10.out.co.B.cell 0 rfl
  have b1 := J10.out.co.B.cell 1 rfl
  have s0 := J10.out.best.cell 0 rfl
  have s1 := J10.out.best.cell 1 rfl
  have s2 := J10.out.best.cell 2 rfl
  have s3 := J10.out.best.cell 3 rfl
  have z0 := J10.out.best.free 0
  have z1 := J10.out.best.free 1
  have z2 := J10.out.best.free 2
  have z3 := J10.out.best.free 3
  rw [rounds_succ]
  go_wp2_with fail
  clear l0 l1 a0 a1 b0 b1 s0 s1 s2 s3 z0 z1 z2 z3
  refine wp_region_spine 17 [false] [] ?af_0_1 (fun V => AsJ w gL gA gB r gb 7 3 2 0 V) (by kernel_rfl) (by kernel_rfl) J10.out.drew ?walk_0_1 ?_
  case walk_0_1 =>
    intro V hV
    have s0 := hV.best.cell 0 rfl
    have s2 := hV.best.cell 2 rfl
    have hmx : ∀ ts t W, (Builtin.min_ ts t #[.int .i64 7, .int .i64 3]).run Try.prog W = .ok (.int .i64 3) W := fun ts t W => min_i64 7 3 ts t W
    clear hV
    simp only [List.take_succ_cons, List.take_zero]
    repeat (go_big_quiet_step (fail))
    refine wpQuiet_nil ?_
    rfl
  intro w21 hV
  have J11 := Lib.hid (hV.set0 3)
  have s0 := hV.best.cell 0 rfl
  have z0 := hV.best.free 0
  clear hV
  refine spineV_cons ?_
  unfold StepV
  go_simp
  generalize w21.setCell ⟨gb, 0, none⟩ (.int .i64 3) = w22 at J11 ⊢
  clear s0 z0
  refine spineV_nil ?_
  go_wp2_with fail
  have J12 := J11
  have l0 := J12.out.co.L.cell 0 rfl
  have l1 := J12.out.co.L.cell 1 rfl
  have a0 := J12.out.co.A.cell 0 rfl
  have a1 := J12.out.co.A.cell 1 rfl
  have b0 := J12.out.co.B.cell 0 rfl
  have b1 := J12.out.co.B.cell 1 rfl
  have s0 := J12.out.best.cell 0 rfl
  have s1 := J12.out.best.cell 1 rfl
  have s2 := J12.out.best.cell 2 rfl
  have s3 := J12.out.best.cell 3 rfl
  have z0 := J12.out.best.free 0
  have z1 := J12.out.best.free 1
  have z2 := J12.out.best.free 2
  have z3 := J12.out.best.free 3
  rw [rounds_succ]
  go_wp2_with fail
  rw [rounds_succ]
  go_wp2_with fail
  clear l0 l1 a0 a1 b0 b1 s0 s1 s2 s3 z0 z1 z2 z3
  go_step3
  have M0 := Lib.hid (AsM.start J12.out)
  generalize w22.heap.size = gm at *
  generalize w22.alloc (.cells #[.slice none 0 0, .int .i64 3, .slice none 0 0, .slice none 0 0] 87) = v0 at M0 ⊢
  have l0 := M0.out.j.co.L.cell 0 rfl
  have l1 := M0.out.j.co.L.cell 1 rfl
  have a0 := M0.out.j.co.A.cell 0 rfl
  have a1 := M0.out.j.co.A.cell 1 rfl
  have b0 := M0.out.j.co.B.cell 0 rfl
  have b1 := M0.out.j.co.B.cell 1 rfl
  have s0 := M0.out.j.best.cell 0 rfl
  have s1 := M0.out.j.best.cell 1 rfl
  have s2 := M0.out.j.best.cell 2 rfl
  have s3 := M0.out.j.best.cell 3 rfl
  have z0 := M0.out.j.best.free 0
  have z1 := M0.out.j.best.free 1
  have z2 := M0.out.j.best.free 2
  have z3 := M0.out.j.best.free 3
  have y0 := M0.out.m.cell 0 rfl
  have q0 := M0.out.m.free 0
  have lb := M0.out.j.best.lt
  go_wp2_with fail
  refine wp_loop_rounds 3 ?_
  rw [rounds_succ]
  go_wp2_with fail
  refine wp_loop_rounds 3 ?_
  rw [rounds_succ]
  go_wp2_with fail
  refine wp_region_past (by kernel_rfl) (by kernel_rfl) ?_
  repeat (go_big_quiet_step (fail))
  refine wpQuiet_nil ?_
  intro xx
  have M1 := Lib.hid (M0.out.below xx.far)
  clear l0 l1 a0 a1 b0 b1 s0 s1 s2 s3 z0 z1 z2 z3 y0 q0 lb
  generalize xx.w = v1 at M1 ⊢
  have l0 := M1.out.j.co.L.cell 0 rfl
  have l1 := M1.out.j.co.L.cell 1 rfl
  have a0 := M1.out.j.co.A.cell 0 rfl
  have a1 := M1.out.j.co.A.cell 1 rfl
  have b0 := M1.out.j.co.B.cell 0 rfl
  have b1 := M1.out.j.co.B.cell 1 rfl
  have s0 := M1.out.j.best.cell 0 rfl
  have s1 := M1.out.j.best.cell 1 rfl
  have s2 := M1.out.j.best.cell 2 rfl
  have s3 := M1.out.j.best.cell 3 rfl
  have z0 := M1.out.j.best.free 0
  have z1 := M1.out.j.best.free 1
  have z2 := M1.out.j.best.free 2
  have z3 := M1.out.j.best.free 3
  have y0 := M1.out.m.cell 0 rfl
  have q0 := M1.out.m.free 0
  have lb := M1.out.j.best.lt
  go_wp2_with fail
  rw [rounds_succ]
  go_wp2_with fail
  refine wp_region_past (by kernel_rfl) (by kernel_rfl) ?_
  repeat (go_big_quiet_step (fail))
  refine wpQuiet_nil ?_
  intro xx
  have M2 := Lib.hid (M1.out.below xx.far)
  clear l0 l1 a0 a1 b0 b1 s0 s1 s2 s3 z0 z1 z2 z3 y0 q0 lb
  generalize xx.w = v2 at M2 ⊢
  have l0 := M2.out.j.co.L.cell 0 rfl
  have l1 := M2.out.j.co.L.cell 1 rfl
  have a0 := M2.out.j.co.A.cell 0 rfl
  have a1 := M2.out.j.co.A.cell 1 rfl
  have b0 := M2.out.j.co.B.cell 0 rfl
  have b1 := M2.out.j.co.B.cell 1 rfl
  have s0 := M2.out.j.best.cell 0 rfl
  have s1 := M2.out.j.best.cell 1 rfl
  have s2 := M2.out.j.best.cell 2 rfl
  have s3 := M2.out.j.best.cell 3 rfl
  have z0 := M2.out.j.best.free 0
  have z1 := M2.out.j.best.free 1
  have z2 := M2.out.j.best.free 2
  have z3 := M2.out.j.best.free 3
  have y0 := M2.out.m.cell 0 rfl
  have q0 := M2.out.m.free 0
  have lb := M2.out.j.best.lt
  have MA := Lib.hid (M2.out.alloc (.cells #[.int .i64 1] 3))
  have X := Lib.hid (Blk.new' v2 #[.int .i64 1] 3)
  clear l0 l1 a0 a1 b0 b1 s0 s1 s2 s3 z0 z1 z2 z3 y0 q0 lb
  have y0 := MA.out.m.cell 0 rfl
  have yy := M2.out.m.cell 0 rfl
  go_wp2_with (at_builtin; refine wpList_append_any (.tmp 134) (.tmp 136) 26 rfl rfl (gm + 1) 3 i3 (.int .i64 0) 1 8 Try.underlying26 h3i h3z h3s h3b rfl (by decide) none 0 0 [] (by rfl) MA.out.own (some ⟨v2.heap.size, 0, none⟩) 1 1 [.int .i64 1] (by rfl) (by rfl) (.inr ⟨_, rfl, fun k u hk => by rcases k with _ | k <;> simp at hk; subst hk; exact X.out.cell 0 rfl⟩) (by simp [Value.oneCell']) (by decide) (by decide) (by have := MA.out.m.lt; omega) ?_; intro A1 c1 v hown hgrow hat; have M3 := Lib.hid (show AsM w gL gA gB r gb gm A1 1 c1 [.int .i64 1] (v.setCell ⟨gm, 0, none⟩ (.slice A1 1 c1)) from MA.out.push hgrow hown); have MM := (MA.out.mid hgrow).1; clear y0 yy; have y0 := MM.cell 0 rfl; have q0 := MM.free 0; clear MM hown hgrow hat)
  generalize v.setCell ⟨gm, 0, none⟩ (.slice A1 1 c1) = v3 at M3 ⊢
  clear y0 q0
  have l0 := M3.out.j.co.L.cell 0 rfl
  have l1 := M3.out.j.co.L.cell 1 rfl
  have a0 := M3.out.j.co.A.cell 0 rfl
  have a1 := M3.out.j.co.A.cell 1 rfl
  have b0 := M3.out.j.co.B.cell 0 rfl
  have b1 := M3.out.j.co.B.cell 1 rfl
  have s0 := M3.out.j.best.cell 0 rfl
  have s1 := M3.out.j.best.cell 1 rfl
  have s2 := M3.out.j.best.cell 2 rfl
  have s3 := M3.out.j.best.cell 3 rfl
  have z0 := M3.out.j.best.free 0
  have z1 := M3.out.j.best.free 1
  have z2 := M3.out.j.best.free 2
  have z3 := M3.out.j.best.free 3
  have y0 := M3.out.m.cell 0 rfl
  have q0 := M3.out.m.free 0
  have lb := M3.out.j.best.lt
  rw [rounds_succ]
  go_wp2_with fail
  refine wp_loop_rounds 3 ?_
  rw [rounds_succ]
  go_wp2_with fail
  refine wp_region_past (by kernel_rfl) (by kernel_rfl) ?_
  repeat (go_big_quiet_step (fail))
  refine wpQuiet_nil ?_
  intro xx
  have M4 := Lib.hid (M3.out.below xx.far)
  clear l0 l1 a0 a1 b0 b1 s0 s1 s2 s3 z0 z1 z2 z3 y0 q0 lb
  generalize xx.w = v4 at M4 ⊢
  have l0 := M4.out.j.co.L.cell 0 rfl
  have l1 := M4.out.j.co.L.cell 1 rfl
  have a0 := M4.out.j.co.A.cell 0 rfl
  have a1 := M4.out.j.co.A.cell 1 rfl
  have b0 := M4.out.j.co.B.cell 0 rfl
  have b1 := M4.out.j.co.B.cell 1 rfl
  have s0 := M4.out.j.best.cell 0 rfl
  have s1 := M4.out.j.best.cell 1 rfl
  have s2 := M4.out.j.best.cell 2 rfl
  have s3 := M4.out.j.best.cell 3 rfl
  have z0 := M4.out.j.best.free 0
  have z1 := M4.out.j.best.free 1
  have z2 := M4.out.j.best.free 2
  have z3 := M4.out.j.best.free 3
  have y0 := M4.out.m.cell 0 rfl
  have q0 := M4.out.m.free 0
  have lb := M4.out.j.best.lt
  have MA := Lib.hid (M4.out.alloc (.cells #[.int .i64 0] 3))
  have X := Lib.hid (Blk.new' v4 #[.int .i64 0] 3)
  clear l0 l1 a0 a1 b0 b1 s0 s1 s2 s3 z0 z1 z2 z3 y0 q0 lb
  have y0 := MA.out.m.cell 0 rfl
  have yy := M4.out.m.cell 0 rfl
  go_wp2_with (at_builtin; refine wpList_append_any (.tmp 134) (.tmp 136) 26 rfl rfl (gm + 1) 3 i3 (.int .i64 0) 1 8 Try.underlying26 h3i h3z h3s h3b rfl (by decide) A1 1 c1 [.int .i64 1] (by rfl) MA.out.own (some ⟨v4.heap.size, 0, none⟩) 1 1 [.int .i64 0] (by rfl) (by rfl) (.inr ⟨_, rfl, fun k u hk => by rcases k with _ | k <;> simp at hk; subst hk; exact X.out.cell 0 rfl⟩) (by simp [Value.oneCell']) (by decide) (by decide) (by have := MA.out.m.lt; omega) ?_; intro A2 c2 v hown hgrow hat; have M5 := Lib.hid (show AsM w gL gA gB r gb gm A2 2 c2 [.int .i64 1, .int .i64 0] (v.setCell ⟨gm, 0, none⟩ (.slice A2 2 c2)) from MA.out.push hgrow hown); have MM := (MA.out.mid hgrow).1; clear y0 yy; have y0 := MM.cell 0 rfl; have q0 := MM.free 0; clear MM hown hgrow hat)
  generalize v.setCell ⟨gm, 0, none⟩ (.slice A2 2 c2) = v5 at M5 ⊢
  clear y0 q0
  have l0 := M5.out.j.co.L.cell 0 rfl
  have l1 := M5.out.j.co.L.cell 1 rfl
  have a0 := M5.out.j.co.A.cell 0 rfl
  have a1 := M5.out.j.co.A.cell 1 rfl
  have b0 := M5.out.j.co.B.cell 0 rfl
  have b1 := M5.out.j.co.B.cell 1 rfl
  have s0 := M5.out.j.best.cell 0 rfl
  have s1 := M5.out.j.best.cell 1 rfl
  have s2 := M5.out.j.best.cell 2 rfl
  have s3 := M5.out.j.best.cell 3 rfl
  have z0 := M5.out.j.best.free 0
  have z1 := M5.out.j.best.free 1
  have z2 := M5.out.j.best.free 2
  have z3 := M5.out.j.best.free 3
  have y0 := M5.out.m.cell 0 rfl
  have q0 := M5.out.m.free 0
  have lb := M5.out.j.best.lt
  rw [rounds_succ]
  go_wp2_with fail
  refine (HD gL gA gB _ M5.out.j.co).mono ?_
  rintro e v ⟨R, rn, rc, Q, qn, qc, rfl, hb⟩
  have M6 := Lib.hid (M5.out.below hb)
  clear hb
  clear l0 l1 a0 a1 b0 b1 s0 s1 s2 s3 z0 z1 z2 z3 y0 q0 lb
  have F := Lib.hid (final M6.out R Q rn rc qn qc)
  have y0 := M6.out.m.cell 0 rfl
  have y1 := M6.out.m.cell 1 rfl
  have y2 := M6.out.m.cell 2 rfl
  have y3 := M6.out.m.cell 3 rfl
  have q2 := M6.out.m.free 2
  have q3 := M6.out.m.free 3
  go_upto_region 34 with fail
  generalize (v.setCell ⟨gm, 2, none⟩ (.slice R rn rc)).setCell ⟨gm, 3, none⟩ (.slice Q qn qc) = u at F ⊢
  clear y0 y1 y2 y3 q2 q3
  have y0 := F.out.2.1.cell 0 rfl
  have y1 := F.out.2.1.cell 1 rfl
  have y2 := F.out.2.1.cell 2 rfl
  have y3 := F.out.2.1.cell 3 rfl
  have x0 := F.out.1.cell 0 rfl
  have x1 := F.out.1.cell 1 rfl
  have x2 := F.out.1.cell 2 rfl
  have x3 := F.out.1.cell 3 rfl
  have p0 := F.out.1.free 0
  have p1 := F.out.1.free 1
  have p2 := F.out.1.free 2
  have p3 := F.out.1.free 3
  go_wp2_with fail
  have Z := Lib.hid (final2 F.out HRR.out M6.out.lt.2.2.2.1 _ rfl)
  rw [Exit.noGoto_ret]
  generalize (((u.setCell ⟨r, 0, none⟩ (.slice A2 2 c2)).setCell ⟨r, 1, none⟩ (.int .i64 3)).setCell ⟨r, 2, none⟩ (.slice R rn rc)).setCell ⟨r, 3, none⟩ (.slice Q qn qc) = z at Z ⊢
  clear y0 y1 y2 y3 x0 x1 x2 x3 p0 p1 p2 p3
  have x0 := Z.out.1.cell 0 rfl
  have x1 := Z.out.1.cell 1 rfl
  have x2 := Z.out.1.cell 2 rfl
  have x3 := Z.out.1.cell 3 rfl
  exact bodyPost_ret (v := .tuple #[.agg #[.slice A2 2 c2, .int .i64 3, .slice R rn rc, .slice Q qn qc], .int .i64 0]) (by simp [results, Try.results56, go_sem, x0, x1, x2, x3]) rfl ⟨A2, c2, R, rn, rc, Q, qn, qc, rfl, Z.out.2⟩
end Go.Proofs.Ytmebpglkeedaoaa
namespace Go.Proofs.Ytmebpglkeedaoaa
open Go.RowKit Dp
def duN : Net := ⟨[1, 1, 0, 0, -2], [⟨0, 2, 1, 4⟩, ⟨0, 3, 1, 1⟩, ⟨1, 2, 1, 2⟩, ⟨1, 3, 1, 3⟩, ⟨2, 4, 1, 0⟩, ⟨3, 4, 1, 0⟩]⟩
theorem duN_ch : chE duN = 0 := by decide
theorem duN_flow : isFlow duN [0, 1, 1, 0, 1, 1] = true := by decide
theorem five {p : List Int} (h : p.length = 5) : ∃ a b c d e, p = [a, b, c, d, e] := by
  rcases p with _ | ⟨a, _ | ⟨b, _ | ⟨c, _ | ⟨d, _ | ⟨e, _ | ⟨f, t⟩⟩⟩⟩⟩⟩ <;> simp at h
  exact ⟨a, b, c, d, e, rfl⟩
theorem du_least {w w' : World} {e : Ending} (h : LeastP duN w e w') : ∃ gf gp p0 p1 p2 p3 p4, e = .returned (.tuple #[.slice (some ⟨gf, 0, none⟩) 6 6, .slice (some ⟨gp, 0, none⟩) 5 5, .int .i64 0]) ∧
    Blk w' gp 2 [.int .i64 p0, .int .i64 p1, .int .i64 p2, .int .i64 p3, .int .i64 p4] ∧ w.heap.size ≤ gp ∧ (-1073741824 ≤ p2 ∧ p2 ≤ 1073741824) ∧ (-1073741824 ≤ p3 ∧ p3 ≤ 1073741824) ∧ (-1073741824 ≤ p4 ∧ p4 ≤ 1073741824) := by
  rcases h with ⟨h, _⟩ | ⟨_, gf, gp, fl, p, rfl, _, hp, _, hg, _, _, hl, hb, _⟩ | ⟨_, _, _, _, _, h⟩
  · exact absurd duN_ch h
  · obtain ⟨a, b, c, d, e, rfl⟩ := five hl
    exact ⟨gf, gp, a, b, c, d, e, rfl, hp, hg, potOk_iff.1 (hb 2 (by simp)), potOk_iff.1 (hb 3 (by simp)), potOk_iff.1 (hb 4 (by simp))⟩
  · have := h [0, 1, 1, 0, 1, 1]
    rw [duN_flow] at this
    cases this
theorem BuJ.start {w V : World} {gL gA gB : Nat} (h : CO V gL gA gB) (hb : Below w.heap.size w V) : BuJ w gL gA gB V.heap.size (V.heap.size + 1) none 0 0 [0, 0, 0, 0, 0] [] ((V.alloc (.cells (Array.replicate 5 (.int .i64 0)) 2)).alloc (.cells #[.slice (some ⟨V.heap.size, 0, none⟩) 5 5, .slice none 0 0, .slice none 0 0, .slice none 0 0] 125)) := by
  have b2 := (hb.alloc hb.size (.cells (Array.replicate 5 (.int .i64 0)) 2))
  have b3 := b2.alloc b2.size (.cells #[.slice (some ⟨V.heap.size, 0, none⟩) 5 5, .slice none 0 0, .slice none 0 0, .slice none 0 0] 125)
  have f := fl_new 2 5 V
  have x := Blk.new' (V.alloc (.cells (Array.replicate 5 (.int .i64 0)) 2)) #[.slice (some ⟨V.heap.size, 0, none⟩) 5 5, .slice none 0 0, .slice none 0 0, .slice none 0 0] 125
  refine ⟨⟨(h.L.alloc _).alloc _, (h.A.alloc _).alloc _, (h.B.alloc _).alloc _⟩, ?_, ?_, World.ownsRow_nil _ _ _ _, ⟨h.L.lt, h.A.lt, h.B.lt, Nat.lt_succ_self _, hb.size⟩, b3⟩
  · simpa using x
  · exact Blk.alloc f _
theorem BuJ.net {w W : World} {gL gA gB gs gb cap : Nat} {A : Option Addr} (h : BuJ w gL gA gB gs gb A 6 cap duN.sup duN.arcs W) : NetAt W (some ⟨gs, 0, none⟩) A duN ∧ 6 ≤ cap ∧ cap ≤ 9223372036854775807 := by
  have hA := h.own
  obtain ⟨g, c, hv, hb, hlt⟩ := hA.form (by omega)
  cases hv
  refine ⟨⟨h.s.ints, fun i hi => ?_⟩, ?_⟩
  · have hi6 : i < 6 := hi
    have hc : ∀ j, j < 4 → W.cell? ⟨g, i * 4 + j, none⟩ = (arcV (duN.arcs.getD i default))[j]? := fun j hj => by
      rw [World.ownsRow.cellAt hA (i * 4 + j) (by omega)]
      exact flat_get (f := arcV) (s := 4) (fun _ => rfl) _ _ _ _ (getElem_D _ _ _ hi) hj
    have had : (⟨g, 0, none⟩ : Addr).add (i * 4) = ⟨g, i * 4, none⟩ := by unfold Addr.add; split <;> simp_all
    exact ⟨⟨g, 0, none⟩, rfl, hlt, by rw [had]; exact hc 0 (by omega), by rw [had]; exact hc 1 (by omega), by rw [had]; exact hc 2 (by omega), by rw [had]; exact hc 3 (by omega)⟩
  · rcases hA.2 with ⟨h0, _⟩ | ⟨g', c', cur, hv, _, _, hc1, hc2, _⟩
    · simp at h0
    · cases hv
      unfold maxLen at hc2
      omega
structure PrJ (w : World) (gL gA gB gp : Nat) (p0 p1 p2 p3 p4 : Int) (b : Nat) (A : Option Addr) (n cap : Nat) (cs : List Value) (W : World) : Prop where
  co : CO W gL gA gB
  p : Blk W gp 2 [.int .i64 p0, .int .i64 p1, .int .i64 p2, .int .i64 p3, .int .i64 p4]
  own : W.ownsRow b 2 1 (.slice A n cap) n cs
  lt : gL < b ∧ gA < b ∧ gB < b ∧ gp < b ∧ w.heap.size ≤ b
  bW : b ≤ W.heap.size
  bel : Below w.heap.size w W
section
variable {w W V : World} {gL gA gB gp b n cap n2 cap2 : Nat} {p0 p1 p2 p3 p4 : Int} {A A2 : Option Addr} {cs cs2 : List Value}
theorem PrJ.below (h : PrJ w gL gA gB gp p0 p1 p2 p3 p4 b A n cap cs W) (hb : Below W.heap.size W V) : PrJ w gL gA gB gp p0 p1 p2 p3 p4 b A n cap cs V :=
  ⟨h.co.below hb (Nat.le_refl _), h.p.below hb h.p.lt, ownBelow h.own hb, h.lt, Nat.le_trans h.bW hb.size, h.bel.trans (hb.mono h.bel.size)⟩
theorem PrJ.alloc (h : PrJ w gL gA gB gp p0 p1 p2 p3 p4 b A n cap cs W) (o : Obj) : PrJ w gL gA gB gp p0 p1 p2 p3 p4 b A n cap cs (W.alloc o) :=
  h.below ((Below.refl _ _).alloc (Nat.le_refl _) o)
theorem PrJ.drew (h : PrJ w gL gA gB gp p0 p1 p2 p3 p4 b A n cap cs W) : PrJ w gL gA gB gp p0 p1 p2 p3 p4 b A n cap cs W.drew :=
  h.below (Below.refl _ _).drew
theorem PrJ.other (h : PrJ w gL gA gB gp p0 p1 p2 p3 p4 b A n cap cs W) {row : Option Nat} (hg : W.grownBy V row) (hr : ∀ k, row = some k → b ≤ k) (ho : V.ownsRow b 2 1 (.slice A2 n2 cap2) n2 cs2) : PrJ w gL gA gB gp p0 p1 p2 p3 p4 b A2 n2 cap2 cs2 V := by
  have hne : ∀ k, k < b → some k ≠ row := fun k hk' e => by have := hr k e.symm; omega
  have hl := h.lt
  have hbs := h.bel.size
  exact ⟨⟨h.co.L.grown hg (hne _ (by omega)), h.co.A.grown hg (hne _ (by omega)), h.co.B.grown hg (hne _ (by omega))⟩, h.p.grown hg (hne _ (by omega)), ho, hl, Nat.le_trans h.bW hg.size, h.bel.grown hg hbs (fun k e => by have := hr k e; omega)⟩
theorem PrJ.push (h : PrJ w gL gA gB gp p0 p1 p2 p3 p4 b A n cap cs W) (hg : W.grownBy V (Value.slice A n cap).ownBlock) (ho : V.ownsRow b 2 1 (.slice A2 n2 cap2) n2 cs2) : PrJ w gL gA gB gp p0 p1 p2 p3 p4 b A2 n2 cap2 cs2 V :=
  h.other hg (fun k e => (World.ownsRow.lt h.own k e).1) ho
end
structure RoJ (w : World) (gL gA gB gp : Nat) (p0 p1 p2 p3 p4 : Int) (b g5 cap : Nat) (cs : List Value) (b2 : Nat) (A : Option Addr) (n c2 : Nat) (ds : List Value) (W : World) : Prop where
  p : PrJ w gL gA gB gp p0 p1 p2 p3 p4 b (some ⟨g5, 0, none⟩) 2 cap cs W
  own2 : W.ownsRow b2 2 1 (.slice A n c2) n ds
  lt2 : g5 < b2 ∧ b ≤ b2 ∧ b2 ≤ W.heap.size
section
variable {w W V : World} {gL gA gB gp b g5 cap b2 n c2 n2 c3 : Nat} {p0 p1 p2 p3 p4 : Int} {A A2 : Option Addr} {cs ds ds2 : List Value}
theorem RoJ.below (h : RoJ w gL gA gB gp p0 p1 p2 p3 p4 b g5 cap cs b2 A n c2 ds W) (hb : Below W.heap.size W V) : RoJ w gL gA gB gp p0 p1 p2 p3 p4 b g5 cap cs b2 A n c2 ds V :=
  ⟨h.p.below hb, ownBelow h.own2 hb, h.lt2.1, h.lt2.2.1, Nat.le_trans h.lt2.2.2 hb.size⟩
theorem RoJ.alloc (h : RoJ w gL gA gB gp p0 p1 p2 p3 p4 b g5 cap cs b2 A n c2 ds W) (o : Obj) : RoJ w gL gA gB gp p0 p1 p2 p3 p4 b g5 cap cs b2 A n c2 ds (W.alloc o) :=
  h.below ((Below.refl _ _).alloc (Nat.le_refl _) o)
theorem RoJ.push (h : RoJ w gL gA gB gp p0 p1 p2 p3 p4 b g5 cap cs b2 A n c2 ds W) (hg : W.grownBy V (Value.slice A n c2).ownBlock) (ho : V.ownsRow b2 2 1 (.slice A2 n2 c3) n2 ds2) : RoJ w gL gA gB gp p0 p1 p2 p3 p4 b g5 cap cs b2 A2 n2 c3 ds2 V := by
  have hk : ∀ k, (Value.slice A n c2).ownBlock = some k → b2 ≤ k := fun k e => (World.ownsRow.lt h.own2 k e).1
  have hl := h.lt2
  refine ⟨h.p.other hg (fun k e => by have := hk k e; omega) (ownGrown h.p.own hg (fun k hk' e => ?_)), ho, hl.1, hl.2.1, Nat.le_trans hl.2.2 hg.size⟩
  have h1 := hk k e.symm
  have h2 : k = g5 := ownB_some.1 hk'
  omega
end
set_option maxHeartbeats 4000000 in
set_option maxRecDepth 100000 in
theorem duals_c : DualsC := by
  intro gL gA gB w h
  have H0 := Lib.hid (BuJ.start h (Below.refl w.heap.size w))
  have l0 := h.L.cell 0 rfl
  have l1 := h.L.cell 1 rfl
  clear h
  have hm1 : ∀ W : World, (Instr.makeSlice 22 (.int .i64 5) (.int .i64 5)).run Try.prog W = .ok (.slice (some ⟨W.heap.size, 0, none⟩) 5 5) (W.alloc (.cells (Array.replicate 5 (.int .i64 0)) 2)) := make_64 5 (by omega)
  go_enter Try.func96, Try.ntmps96
  go_upto_region 3 with fail
  have J0 := H0
  clear H0 l0 l1 hm1
  generalize ((w.alloc (.cells (Array.replicate 5 (.int .i64 0)) 2)).alloc (.cells #[.slice (some ⟨w.heap.size, 0, none⟩) 5 5, .slice none 0 0, .slice none 0 0, .slice none 0 0] 125)) = v0 at J0 ⊢
  obtain ⟨gs, hgs⟩ : ∃ g, g = w.heap.size := ⟨_, rfl⟩
  rw [← hgs] at J0 ⊢
  clear hgs
  generalize gs + 1 = gb at J0 ⊢
  have y0 := J0.out.b.cell 0 rfl
  have y1 := J0.out.b.cell 1 rfl
  have l0 := J0.out.co.L.cell 0 rfl
  have l1 := J0.out.co.L.cell 1 rfl
  have a0 := J0.out.co.A.cell 0 rfl
  have a1 := J0.out.co.A.cell 1 rfl
  have b0 := J0.out.co.B.cell 0 rfl
  have b1 := J0.out.co.B.cell 1 rfl
  have s0 : v0.cell? ⟨gs, 0, none⟩ = some (.int .i64 (0)) := Blk.cell J0.out.s 0 rfl
  have z0 := J0.out.s.free 0
  have s1 : v0.cell? ⟨gs, 1, none⟩ = some (.int .i64 (0)) := Blk.cell J0.out.s 1 rfl
  have z1 := J0.out.s.free 1
  have s4 : v0.cell? ⟨gs, 4, none⟩ = some (.int .i64 (0)) := Blk.cell J0.out.s 4 rfl
  have z4 := J0.out.s.free 4
  go_wp2_with fail
  refine wp_loop_rounds 3 ?_
  rw [rounds_succ]
  go_upto_region 6 with fail
  clear y0 y1 l0 l1 a0 a1 b0 b1 s0 s1 s4 z0 z1 z4
  have y0 := J0.out.b.cell 0 rfl
  have y1 := J0.out.b.cell 1 rfl
  have l0 := J0.out.co.L.cell 0 rfl
  have l1 := J0.out.co.L.cell 1 rfl
  have a0 := J0.out.co.A.cell 0 rfl
  have a1 := J0.out.co.A.cell 1 rfl
  have b0 := J0.out.co.B.cell 0 rfl
  have b1 := J0.out.co.B.cell 1 rfl
  have s0 : v0.cell? ⟨gs, 0, none⟩ = some (.int .i64 (0)) := Blk.cell J0.out.s 0 rfl
  have z0 := J0.out.s.free 0
  have s1 : v0.cell? ⟨gs, 1, none⟩ = some (.int .i64 (0)) := Blk.cell J0.out.s 1 rfl
  have z1 := J0.out.s.free 1
  have s4 : v0.cell? ⟨gs, 4, none⟩ = some (.int .i64 (0)) := Blk.cell J0.out.s 4 rfl
  have z4 := J0.out.s.free 4
  go_upto_region 7 with fail
  clear y0 y1 l0 l1 a0 a1 b0 b1 s0 s1 s4 z0 z1 z4
  have J1 := Lib.hid (show BuJ w gL gA gB gs gb none 0 0 [1, 0, 0, 0, 0] [] _ from J0.out.set 0 (1))
  generalize v0.setCell ⟨gs, 0, none⟩ (.int .i64 (1)) = v1 at J1 ⊢
  have y0 := J1.out.b.cell 0 rfl
  have y1 := J1.out.b.cell 1 rfl
  have l0 := J1.out.co.L.cell 0 rfl
  have l1 := J1.out.co.L.cell 1 rfl
  have a0 := J1.out.co.A.cell 0 rfl
  have a1 := J1.out.co.A.cell 1 rfl
  have b0 := J1.out.co.B.cell 0 rfl
  have b1 := J1.out.co.B.cell 1 rfl
  have s0 : v1.cell? ⟨gs, 0, none⟩ = some (.int .i64 (1)) := Blk.cell J1.out.s 0 rfl
  have z0 := J1.out.s.free 0
  have s1 : v1.cell? ⟨gs, 1, none⟩ = some (.int .i64 (0)) := Blk.cell J1.out.s 1 rfl
  have z1 := J1.out.s.free 1
  have s4 : v1.cell? ⟨gs, 4, none⟩ = some (.int .i64 (0)) := Blk.cell J1.out.s 4 rfl
  have z4 := J1.out.s.free 4
  go_upto_region 8 with fail
  clear y0 y1 l0 l1 a0 a1 b0 b1 s0 s1 s4 z0 z1 z4
  have J2 := Lib.hid (show BuJ w gL gA gB gs gb none 0 0 [1, 0, 0, 0, -1] [] _ from J1.out.set 4 (-1))
  generalize v1.setCell ⟨gs, 4, none⟩ (.int .i64 (-1)) = v2 at J2 ⊢
  have y0 := J2.out.b.cell 0 rfl
  have y1 := J2.out.b.cell 1 rfl
  have l0 := J2.out.co.L.cell 0 rfl
  have l1 := J2.out.co.L.cell 1 rfl
  have a0 := J2.out.co.A.cell 0 rfl
  have a1 := J2.out.co.A.cell 1 rfl
  have b0 := J2.out.co.B.cell 0 rfl
  have b1 := J2.out.co.B.cell 1 rfl
  have s0 : v2.cell? ⟨gs, 0, none⟩ = some (.int .i64 (1)) := Blk.cell J2.out.s 0 rfl
  have z0 := J2.out.s.free 0
  have s1 : v2.cell? ⟨gs, 1, none⟩ = some (.int .i64 (0)) := Blk.cell J2.out.s 1 rfl
  have z1 := J2.out.s.free 1
  have s4 : v2.cell? ⟨gs, 4, none⟩ = some (.int .i64 (-1)) := Blk.cell J2.out.s 4 rfl
  have z4 := J2.out.s.free 4
  go_wp2_with fail
  refine wp_loop_rounds 3 ?_
  rw [rounds_succ]
  go_wp2_with fail
  clear y0 y1 l0 l1 a0 a1 b0 b1 s0 s1 s4 z0 z1 z4
  have MA := Lib.hid (J2.out.alloc (.cells #[.int .i64 0, .int .i64 2, .int .i64 1, .int .i64 4] 46))
  have X := Lib.hid (Blk.new' v2 #[.int .i64 0, .int .i64 2, .int .i64 1, .int .i64 4] 46)
  refine (add_c w _ gL gA gB gs gb 0 0 _ none [1, 0, 0, 0, -1] [] ⟨0, 2, 1, 4⟩ (by decide) MA.out X.out rfl).mono ?_
  rintro e v3 ⟨A1, c1, rfl, hj⟩
  have J3 := Lib.hid (show BuJ w gL gA gB gs gb A1 1 c1 [1, 0, 0, 0, -1] [⟨0, 2, 1, 4⟩] v3 from hj)
  clear hj MA X
  have y0 := J3.out.b.cell 0 rfl
  have y1 := J3.out.b.cell 1 rfl
  have l0 := J3.out.co.L.cell 0 rfl
  have l1 := J3.out.co.L.cell 1 rfl
  have a0 := J3.out.co.A.cell 0 rfl
  have a1 := J3.out.co.A.cell 1 rfl
  have b0 := J3.out.co.B.cell 0 rfl
  have b1 := J3.out.co.B.cell 1 rfl
  have s0 : v3.cell? ⟨gs, 0, none⟩ = some (.int .i64 (1)) := Blk.cell J3.out.s 0 rfl
  have z0 := J3.out.s.free 0
  have s1 : v3.cell? ⟨gs, 1, none⟩ = some (.int .i64 (0)) := Blk.cell J3.out.s 1 rfl
  have z1 := J3.out.s.free 1
  have s4 : v3.cell? ⟨gs, 4, none⟩ = some (.int .i64 (-1)) := Blk.cell J3.out.s 4 rfl
  have z4 := J3.out.s.free 4
  go_wp2_with fail
  rw [rounds_succ]
  go_wp2_with fail
  clear y0 y1 l0 l1 a0 a1 b0 b1 s0 s1 s4 z0 z1 z4
  have MA := Lib.hid (J3.out.alloc (.cells #[.int .i64 0, .int .i64 3, .int .i64 1, .int .i64 1] 46))
  have X := Lib.hid (Blk.new' v3 #[.int .i64 0, .int .i64 3, .int .i64 1, .int .i64 1] 46)
  refine (add_c w _ gL gA gB gs gb 1 c1 _ A1 [1, 0, 0, 0, -1] [⟨0, 2, 1, 4⟩] ⟨0, 3, 1, 1⟩ (by decide) MA.out X.out rfl).mono ?_
  rintro e v4 ⟨A2, c2, rfl, hj⟩
  have J4 := Lib.hid (show BuJ w gL gA gB gs gb A2 2 c2 [1, 0, 0, 0, -1] [⟨0, 2, 1, 4⟩, ⟨0, 3, 1, 1⟩] v4 from hj)
  clear hj MA X
  have y0 := J4.out.b.cell 0 rfl
  have y1 := J4.out.b.cell 1 rfl
  have l0 := J4.out.co.L.cell 0 rfl
  have l1 := J4.out.co.L.cell 1 rfl
  have a0 := J4.out.co.A.cell 0 rfl
  have a1 := J4.out.co.A.cell 1 rfl
  have b0 := J4.out.co.B.cell 0 rfl
  have b1 := J4.out.co.B.cell 1 rfl
  have s0 : v4.cell? ⟨gs, 0, none⟩ = some (.int .i64 (1)) := Blk.cell J4.out.s 0 rfl
  have z0 := J4.out.s.free 0
  have s1 : v4.cell? ⟨gs, 1, none⟩ = some (.int .i64 (0)) := Blk.cell J4.out.s 1 rfl
  have z1 := J4.out.s.free 1
  have s4 : v4.cell? ⟨gs, 4, none⟩ = some (.int .i64 (-1)) := Blk.cell J4.out.s 4 rfl
  have z4 := J4.out.s.free 4
  go_wp2_with fail
  rw [rounds_succ]
  go_wp2_with fail
  rw [rounds_succ]
  go_upto_region 6 with fail
  clear y0 y1 l0 l1 a0 a1 b0 b1 s0 s1 s4 z0 z1 z4
  have y0 := J4.out.b.cell 0 rfl
  have y1 := J4.out.b.cell 1 rfl
  have l0 := J4.out.co.L.cell 0 rfl
  have l1 := J4.out.co.L.cell 1 rfl
  have a0 := J4.out.co.A.cell 0 rfl
  have a1 := J4.out.co.A.cell 1 rfl
  have b0 := J4.out.co.B.cell 0 rfl
  have b1 := J4.out.co.B.cell 1 rfl
  have s0 : v4.cell? ⟨gs, 0, none⟩ = some (.int .i64 (1)) := Blk.cell J4.out.s 0 rfl
  have z0 := J4.out.s.free 0
  have s1 : v4.cell? ⟨gs, 1, none⟩ = some (.int .i64 (0)) := Blk.cell J4.out.s 1 rfl
  have z1 := J4.out.s.free 1
  have s4 : v4.cell? ⟨gs, 4, none⟩ = some (.int .i64 (-1)) := Blk.cell J4.out.s 4 rfl
  have z4 := J4.out.s.free 4
  go_upto_region 7 with fail
  clear y0 y1 l0 l1 a0 a1 b0 b1 s0 s1 s4 z0 z1 z4
  have J5 := Lib.hid (show BuJ w gL gA gB gs gb A2 2 c2 [1, 1, 0, 0, -1] [⟨0, 2, 1, 4⟩, ⟨0, 3, 1, 1⟩] _ from J4.out.set 1 (1))
  generalize v4.setCell ⟨gs, 1, none⟩ (.int .i64 (1)) = v5 at J5 ⊢
  have y0 := J5.out.b.cell 0 rfl
  have y1 := J5.out.b.cell 1 rfl
  have l0 := J5.out.co.L.cell 0 rfl
  have l1 := J5.out.co.L.cell 1 rfl
  have a0 := J5.out.co.A.cell 0 rfl
  have a1 := J5.out.co.A.cell 1 rfl
  have b0 := J5.out.co.B.cell 0 rfl
  have b1 := J5.out.co.B.cell 1 rfl
  have s0 : v5.cell? ⟨gs, 0, none⟩ = some (.int .i64 (1)) := Blk.cell J5.out.s 0 rfl
  have z0 := J5.out.s.free 0
  have s1 : v5.cell? ⟨gs, 1, none⟩ = some (.int .i64 (1)) := Blk.cell J5.out.s 1 rfl
  have z1 := J5.out.s.free 1
  have s4 : v5.cell? ⟨gs, 4, none⟩ = some (.int .i64 (-1)) := Blk.cell J5.out.s 4 rfl
  have z4 := J5.out.s.free 4
  go_upto_region 8 with fail
  clear y0 y1 l0 l1 a0 a1 b0 b1 s0 s1 s4 z0 z1 z4
  have J6 := Lib.hid (show BuJ w gL gA gB gs gb A2 2 c2 [1, 1, 0, 0, -2] [⟨0, 2, 1, 4⟩, ⟨0, 3, 1, 1⟩] _ from J5.out.set 4 (-2))
  generalize v5.setCell ⟨gs, 4, none⟩ (.int .i64 (-2)) = v6 at J6 ⊢
  have y0 := J6.out.b.cell 0 rfl
  have y1 := J6.out.b.cell 1 rfl
  have l0 := J6.out.co.L.cell 0 rfl
  have l1 := J6.out.co.L.cell 1 rfl
  have a0 := J6.out.co.A.cell 0 rfl
  have a1 := J6.out.co.A.cell 1 rfl
  have b0 := J6.out.co.B.cell 0 rfl
  have b1 := J6.out.co.B.cell 1 rfl
  have s0 : v6.cell? ⟨gs, 0, none⟩ = some (.int .i64 (1)) := Blk.cell J6.out.s 0 rfl
  have z0 := J6.out.s.free 0
  have s1 : v6.cell? ⟨gs, 1, none⟩ = some (.int .i64 (1)) := Blk.cell J6.out.s 1 rfl
  have z1 := J6.out.s.free 1
  have s4 : v6.cell? ⟨gs, 4, none⟩ = some (.int .i64 (-2)) := Blk.cell J6.out.s 4 rfl
  have z4 := J6.out.s.free 4
  go_wp2_with fail
  refine wp_loop_rounds 3 ?_
  rw [rounds_succ]
  go_wp2_with fail
  clear y0 y1 l0 l1 a0 a1 b0 b1 s0 s1 s4 z0 z1 z4
  have MA := Lib.hid (J6.out.alloc (.cells #[.int .i64 1, .int .i64 2, .int .i64 1, .int .i64 2] 46))
  have X := Lib.hid (Blk.new' v6 #[.int .i64 1, .int .i64 2, .int .i64 1, .int .i64 2] 46)
  refine (add_c w _ gL gA gB gs gb 2 c2 _ A2 [1, 1, 0, 0, -2] [⟨0, 2, 1, 4⟩, ⟨0, 3, 1, 1⟩] ⟨1, 2, 1, 2⟩ (by decide) MA.out X.out rfl).mono ?_
  rintro e v7 ⟨A3, c3, rfl, hj⟩
  have J7 := Lib.hid (show BuJ w gL gA gB gs gb A3 3 c3 [1, 1, 0, 0, -2] [⟨0, 2, 1, 4⟩, ⟨0, 3, 1, 1⟩, ⟨1, 2, 1, 2⟩] v7 from hj)
  clear hj MA X
  have y0 := J7.out.b.cell 0 rfl
  have y1 := J7.out.b.cell 1 rfl
  have l0 := J7.out.co.L.cell 0 rfl
  have l1 := J7.out.co.L.cell 1 rfl
  have a0 := J7.out.co.A.cell 0 rfl
  have a1 := J7.out.co.A.cell 1 rfl
  have b0 := J7.out.co.B.cell 0 rfl
  have b1 := J7.out.co.B.cell 1 rfl
  have s0 : v7.cell? ⟨gs, 0, none⟩ = some (.int .i64 (1)) := Blk.cell J7.out.s 0 rfl
  have z0 := J7.out.s.free 0
  have s1 : v7.cell? ⟨gs, 1, none⟩ = some (.int .i64 (1)) := Blk.cell J7.out.s 1 rfl
  have z1 := J7.out.s.free 1
  have s4 : v7.cell? ⟨gs, 4, none⟩ = some (.int .i64 (-2)) := Blk.cell J7.out.s 4 rfl
  have z4 := J7.out.s.free 4
  go_wp2_with fail
  rw [rounds_succ]
  go_wp2_with fail
  clear y0 y1 l0 l1 a0 a1 b0 b1 s0 s1 s4 z0 z1 z4
  have MA := Lib.hid (J7.out.alloc (.cells #[.int .i64 1, .int .i64 3, .int .i64 1, .int .i64 3] 46))
  have X := Lib.hid (Blk.new' v7 #[.int .i64 1, .int .i64 3, .int .i64 1, .int .i64 3] 46)
  refine (add_c w _ gL gA gB gs gb 3 c3 _ A3 [1, 1, 0, 0, -2] [⟨0, 2, 1, 4⟩, ⟨0, 3, 1, 1⟩, ⟨1, 2, 1, 2⟩] ⟨1, 3, 1, 3⟩ (by decide) MA.out X.out rfl).mono ?_
  rintro e v8 ⟨A4, c4, rfl, hj⟩
  have J8 := Lib.hid (show BuJ w gL gA gB gs gb A4 4 c4 [1, 1, 0, 0, -2] [⟨0, 2, 1, 4⟩, ⟨0, 3, 1, 1⟩, ⟨1, 2, 1, 2⟩, ⟨1, 3, 1, 3⟩] v8 from hj)
  clear hj MA X
  have y0 := J8.out.b.cell 0 rfl
  have y1 := J8.out.b.cell 1 rfl
  have l0 := J8.out.co.L.cell 0 rfl
  have l1 := J8.out.co.L.cell 1 rfl
  have a0 := J8.out.co.A.cell 0 rfl
  have a1 := J8.out.co.A.cell 1 rfl
  have b0 := J8.out.co.B.cell 0 rfl
  have b1 := J8.out.co.B.cell 1 rfl
  have s0 : v8.cell? ⟨gs, 0, none⟩ = some (.int .i64 (1)) := Blk.cell J8.out.s 0 rfl
  have z0 := J8.out.s.free 0
  have s1 : v8.cell? ⟨gs, 1, none⟩ = some (.int .i64 (1)) := Blk.cell J8.out.s 1 rfl
  have z1 := J8.out.s.free 1
  have s4 : v8.cell? ⟨gs, 4, none⟩ = some (.int .i64 (-2)) := Blk.cell J8.out.s 4 rfl
  have z4 := J8.out.s.free 4
  go_wp2_with fail
  rw [rounds_succ]
  go_wp2_with fail
  rw [rounds_succ]
  go_wp2_with fail
  refine wp_loop_rounds 3 ?_
  rw [rounds_succ]
  go_wp2_with fail
  clear y0 y1 l0 l1 a0 a1 b0 b1 s0 s1 s4 z0 z1 z4
  have MA := Lib.hid (J8.out.alloc (.cells #[.int .i64 2, .int .i64 4, .int .i64 1, .int .i64 0] 46))
  have X := Lib.hid (Blk.new' v8 #[.int .i64 2, .int .i64 4, .int .i64 1, .int .i64 0] 46)
  refine (add_c w _ gL gA gB gs gb 4 c4 _ A4 [1, 1, 0, 0, -2] [⟨0, 2, 1, 4⟩, ⟨0, 3, 1, 1⟩, ⟨1, 2, 1, 2⟩, ⟨1, 3, 1, 3⟩] ⟨2, 4, 1, 0⟩ (by decide) MA.out X.out rfl).mono ?_
  rintro e v9 ⟨A5, c5, rfl, hj⟩
  have J9 := Lib.hid (show BuJ w gL gA gB gs gb A5 5 c5 [1, 1, 0, 0, -2] [⟨0, 2, 1, 4⟩, ⟨0, 3, 1, 1⟩, ⟨1, 2, 1, 2⟩, ⟨1, 3, 1, 3⟩, ⟨2, 4, 1, 0⟩] v9 from hj)
  clear hj MA X
  have y0 := J9.out.b.cell 0 rfl
  have y1 := J9.out.b.cell 1 rfl
  have l0 := J9.out.co.L.cell 0 rfl
  have l1 := J9.out.co.L.cell 1 rfl
  have a0 := J9.out.co.A.cell 0 rfl
  have a1 := J9.out.co.A.cell 1 rfl
  have b0 := J9.out.co.B.cell 0 rfl
  have b1 := J9.out.co.B.cell 1 rfl
  have s0 : v9.cell? ⟨gs, 0, none⟩ = some (.int .i64 (1)) := Blk.cell J9.out.s 0 rfl
  have z0 := J9.out.s.free 0
  have s1 : v9.cell? ⟨gs, 1, none⟩ = some (.int .i64 (1)) := Blk.cell J9.out.s 1 rfl
  have z1 := J9.out.s.free 1
  have s4 : v9.cell? ⟨gs, 4, none⟩ = some (.int .i64 (-2)) := Blk.cell J9.out.s 4 rfl
  have z4 := J9.out.s.free 4
  go_wp2_with fail
  rw [rounds_succ]
  go_wp2_with fail
  clear y0 y1 l0 l1 a0 a1 b0 b1 s0 s1 s4 z0 z1 z4
  have MA := Lib.hid (J9.out.alloc (.cells #[.int .i64 3, .int .i64 4, .int .i64 1, .int .i64 0] 46))
  have X := Lib.hid (Blk.new' v9 #[.int .i64 3, .int .i64 4, .int .i64 1, .int .i64 0] 46)
  refine (add_c w _ gL gA gB gs gb 5 c5 _ A5 [1, 1, 0, 0, -2] [⟨0, 2, 1, 4⟩, ⟨0, 3, 1, 1⟩, ⟨1, 2, 1, 2⟩, ⟨1, 3, 1, 3⟩, ⟨2, 4, 1, 0⟩] ⟨3, 4, 1, 0⟩ (by decide) MA.out X.out rfl).mono ?_
  rintro e v10 ⟨A6, c6, rfl, hj⟩
  have J10 := Lib.hid (show BuJ w gL gA gB gs gb A6 6 c6 [1, 1, 0, 0, -2] [⟨0, 2, 1, 4⟩, ⟨0, 3, 1, 1⟩, ⟨1, 2, 1, 2⟩, ⟨1, 3, 1, 3⟩, ⟨2, 4, 1, 0⟩, ⟨3, 4, 1, 0⟩] v10 from hj)
  clear hj MA X
  have y0 := J10.out.b.cell 0 rfl
  have y1 := J10.out.b.cell 1 rfl
  have l0 := J10.out.co.L.cell 0 rfl
  have l1 := J10.out.co.L.cell 1 rfl
  have a0 := J10.out.co.A.cell 0 rfl
  have a1 := J10.out.co.A.cell 1 rfl
  have b0 := J10.out.co.B.cell 0 rfl
  have b1 := J10.out.co.B.cell 1 rfl
  have s0 : v10.cell? ⟨gs, 0, none⟩ = some (.int .i64 (1)) := Blk.cell J10.out.s 0 rfl
  have z0 := J10.out.s.free 0
  have s1 : v10.cell? ⟨gs, 1, none⟩ = some (.int .i64 (1)) := Blk.cell J10.out.s 1 rfl
  have z1 := J10.out.s.free 1
  have s4 : v10.cell? ⟨gs, 4, none⟩ = some (.int .i64 (-2)) := Blk.cell J10.out.s 4 rfl
  have z4 := J10.out.s.free 4
  go_wp2_with fail
  rw [rounds_succ]
  go_wp2_with fail
  clear y0 y1 l0 l1 a0 a1 b0 b1 s0 s1 s4 z0 z1 z4
  have NT := Lib.hid (BuJ.net J10.out)
  refine (Least_c _ _ duN 5 6 5 c6 _ rfl rfl (by omega) NT.out.2 NT.out.1).mono ?_
  rintro e v ⟨hL, hb⟩
  obtain ⟨gf, gp, p0, p1, p2, p3, p4, rfl, hp, hg, B2, B3, B4⟩ := du_least hL
  have HBV := Lib.hid (J10.out.bel.trans (hb.mono J10.out.bel.size))
  have P0 : Hid (PrJ w gL gA gB gp p0 p1 p2 p3 p4 v.heap.size none 0 0 [] v) := Lib.hid ⟨J10.out.co.below hb (Nat.le_refl _), hp, World.ownsRow_nil _ _ _ _, ⟨(J10.out.co.below hb (Nat.le_refl _)).L.lt, (J10.out.co.below hb (Nat.le_refl _)).A.lt, (J10.out.co.below hb (Nat.le_refl _)).B.lt, hp.lt, HBV.out.size⟩, Nat.le_refl _, HBV.out⟩
  clear hL hp hg hb HBV NT
  obtain ⟨d0, D0⟩ : ∃ d : Int, Hid (IntKind.i64.wrap (p2 - p4) = d ∧ -4294967296 ≤ d ∧ d ≤ 4294967296) := ⟨p2 - p4, Lib.hid ⟨IntWalk.i64_in (p2 - p4) (by omega), by omega, by omega⟩⟩
  obtain ⟨d1, D1⟩ : ∃ d : Int, Hid (IntKind.i64.wrap (p3 - p4) = d ∧ -4294967296 ≤ d ∧ d ≤ 4294967296) := ⟨p3 - p4, Lib.hid ⟨IntWalk.i64_in (p3 - p4) (by omega), by omega, by omega⟩⟩
  clear B2 B3 B4
  obtain ⟨q0, Q0⟩ : ∃ q : Int, Hid ((∀ ts t W, (Builtin.min_ ts t #[.int .i64 0, .int .i64 d0]).run Try.prog W = .ok (.int .i64 q) W) ∧ -4294967296 ≤ q ∧ q ≤ 0) := ⟨min 0 d0, Lib.hid ⟨fun ts t W => min_i64 0 d0 ts t W, by have := D0.out; omega, by omega⟩⟩
  obtain ⟨q1, Q1⟩ : ∃ q : Int, Hid ((∀ ts t W, (Builtin.min_ ts t #[.int .i64 0, .int .i64 d1]).run Try.prog W = .ok (.int .i64 q) W) ∧ -4294967296 ≤ q ∧ q ≤ 0) := ⟨min 0 d1, Lib.hid ⟨fun ts t W => min_i64 0 d1 ts t W, by have := D1.out; omega, by omega⟩⟩
  generalize hbp : v.heap.size = bp at P0 ⊢
  clear hbp
  obtain ⟨i2, h2i, h2z, h2s, h2b⟩ := info_parts info2
  go_wp2_with fail
  refine wp_loop_rounds 3 ?_
  rw [rounds_succ]
  go_upto_region 24 with fail
  refine wp_region_spine 14 [true, false] [0] ?af0 (fun V => PrJ w gL gA gB gp p0 p1 p2 p3 p4 bp none 0 0 [] V) (by kernel_rfl) (by kernel_rfl) P0.out.drew ?walk0 ?_
  case walk0 =>
    intro V hV
    have k0 := hV.p.cell 2 rfl
    have k4 := hV.p.cell 4 rfl
    have e0 := D0.out.1
    have hmx := Q0.out.1
    clear hV
    simp only [List.take_succ_cons, List.take_zero]
    repeat (go_big_quiet_step (fail))
    refine wpQuiet_nil ?_
    rfl
  intro u hV
  have PV := Lib.hid hV
  clear hV
  refine spineV_cons ?_
  unfold StepV
  go_simp
  refine ⟨PV.out.alloc _, ?_⟩
  have PA := Lib.hid (PV.out.alloc (.cells #[.int .i64 q0] 2))
  have X := Lib.hid (Blk.new' u #[.int .i64 q0] 2)
  generalize u.alloc (.cells #[.int .i64 q0] 2) = u2 at PA X ⊢
  generalize u.heap.size = gu at *
  refine spineV_cons ?_
  refine stepV_append (.tmp 104) (.tmp 118) 22 rfl bp 2 i2 (.int .i64 0) 1 8 Try.underlying22 h2i h2z h2s h2b rfl (by decide) none 0 0 [] (by rfl) PA.out.own (some ⟨gu, 0, none⟩) 1 1 [.int .i64 q0] (by rfl) (by rfl) (.inr ⟨_, rfl, ?_⟩) (by simp [Value.oneCell']) (by decide) (by decide) PA.out.bW ?_
  · intro j u' hj
    rcases j with _ | j <;> simp at hj
    subst hj
    exact X.out.cell 0 rfl
  intro B1 e1 v1 ho hg hk
  refine ⟨fun h => (by cases h), ?_⟩
  have P1 := Lib.hid (show PrJ w gL gA gB gp p0 p1 p2 p3 p4 bp B1 1 e1 [.int .i64 q0] v1 from PA.out.push hg ho)
  clear ho hg hk PA X PV
  refine spineV_nil ?_
  go_wp2_with fail
  rw [rounds_succ]
  go_upto_region 24 with fail
  refine wp_region_spine 14 [true, false] [0] ?af1 (fun V => PrJ w gL gA gB gp p0 p1 p2 p3 p4 bp B1 1 e1 [.int .i64 q0] V) (by kernel_rfl) (by kernel_rfl) P1.out.drew ?walk1 ?_
  case walk1 =>
    intro V hV
    have k1 := hV.p.cell 3 rfl
    have k4 := hV.p.cell 4 rfl
    have e0 := D1.out.1
    have hmx := Q1.out.1
    clear hV
    simp only [List.take_succ_cons, List.take_zero]
    repeat (go_big_quiet_step (fail))
    refine wpQuiet_nil ?_
    rfl
  intro u hV
  have PV := Lib.hid hV
  clear hV
  refine spineV_cons ?_
  unfold StepV
  go_simp
  refine ⟨PV.out.alloc _, ?_⟩
  have PA := Lib.hid (PV.out.alloc (.cells #[.int .i64 q1] 2))
  have X := Lib.hid (Blk.new' u #[.int .i64 q1] 2)
  generalize u.alloc (.cells #[.int .i64 q1] 2) = u2 at PA X ⊢
  generalize u.heap.size = gu at *
  refine spineV_cons ?_
  refine stepV_append (.tmp 104) (.tmp 118) 22 rfl bp 2 i2 (.int .i64 0) 1 8 Try.underlying22 h2i h2z h2s h2b rfl (by decide) B1 1 e1 [.int .i64 q0] (by rfl) PA.out.own (some ⟨gu, 0, none⟩) 1 1 [.int .i64 q1] (by rfl) (by rfl) (.inr ⟨_, rfl, ?_⟩) (by simp [Value.oneCell']) (by decide) (by decide) PA.out.bW ?_
  · intro j u' hj
    rcases j with _ | j <;> simp at hj
    subst hj
    exact X.out.cell 0 rfl
  intro B2 e2 v2 ho hg hk
  refine ⟨fun h => (by cases h), ?_⟩
  have P2 := Lib.hid (show PrJ w gL gA gB gp p0 p1 p2 p3 p4 bp B2 2 e2 [.int .i64 q0, .int .i64 q1] v2 from PA.out.push hg ho)
  clear ho hg hk PA X PV
  refine spineV_nil ?_
  go_wp2_with fail
  rw [rounds_succ]
  go_wp2_with fail
  obtain ⟨g5, c5, hv, hb5, hlt5⟩ := P2.out.own.form (by omega)
  cases hv
  have R0 : Hid (RoJ w gL gA gB gp p0 p1 p2 p3 p4 bp g5 e2 [.int .i64 q0, .int .i64 q1] v2.heap.size none 0 0 [] v2) := Lib.hid ⟨P2.out, World.ownsRow_nil _ _ _ _, hlt5, P2.out.bW, Nat.le_refl _⟩
  clear hb5 hlt5
  obtain ⟨b2, hb2⟩ : ∃ b, b = v2.heap.size := ⟨_, rfl⟩
  rw [← hb2] at R0
  clear hb2
  obtain ⟨s00, S00⟩ : ∃ d : Int, Hid (IntKind.i64.wrap (4 - q0) = d) := ⟨_, Lib.hid rfl⟩
  obtain ⟨x00, X00⟩ : ∃ q : Int, Hid (∀ ts t W, (Builtin.min_ ts t #[.int .i64 1152921504606846976, .int .i64 s00]).run Try.prog W = .ok (.int .i64 q) W) := ⟨_, Lib.hid fun ts t W => min_i64 _ _ ts t W⟩
  obtain ⟨s01, S01⟩ : ∃ d : Int, Hid (IntKind.i64.wrap (1 - q1) = d) := ⟨_, Lib.hid rfl⟩
  obtain ⟨x01, X01⟩ : ∃ q : Int, Hid (∀ ts t W, (Builtin.min_ ts t #[.int .i64 x00, .int .i64 s01]).run Try.prog W = .ok (.int .i64 q) W) := ⟨_, Lib.hid fun ts t W => min_i64 _ _ ts t W⟩
  obtain ⟨s10, S10⟩ : ∃ d : Int, Hid (IntKind.i64.wrap (2 - q0) = d) := ⟨_, Lib.hid rfl⟩
  obtain ⟨x10, X10⟩ : ∃ q : Int, Hid (∀ ts t W, (Builtin.min_ ts t #[.int .i64 1152921504606846976, .int .i64 s10]).run Try.prog W = .ok (.int .i64 q) W) := ⟨_, Lib.hid fun ts t W => min_i64 _ _ ts t W⟩
  obtain ⟨s11, S11⟩ : ∃ d : Int, Hid (IntKind.i64.wrap (3 - q1) = d) := ⟨_, Lib.hid rfl⟩
  obtain ⟨x11, X11⟩ : ∃ q : Int, Hid (∀ ts t W, (Builtin.min_ ts t #[.int .i64 x10, .int .i64 s11]).run Try.prog W = .ok (.int .i64 q) W) := ⟨_, Lib.hid fun ts t W => min_i64 _ _ ts t W⟩
  refine wp_loop_rounds 3 ?_
  rw [rounds_succ]
  have l0 := R0.out.p.co.L.cell 0 rfl
  have l1 := R0.out.p.co.L.cell 1 rfl
  have a0 := R0.out.p.co.A.cell 0 rfl
  have a1 := R0.out.p.co.A.cell 1 rfl
  have b0 := R0.out.p.co.B.cell 0 rfl
  have b1 := R0.out.p.co.B.cell 1 rfl
  have f0 : v2.cell? ⟨g5, 0, none⟩ = some (.int .i64 q0) := World.ownsRow.cellAt R0.out.p.own 0 (by omega)
  have f1 : v2.cell? ⟨g5, 1, none⟩ = some (.int .i64 q1) := World.ownsRow.cellAt R0.out.p.own 1 (by omega)
  go_wp2_with fail
  refine wp_loop_rounds 3 ?_
  have t1 := S00.out
  have t2 := X00.out
  rw [rounds_succ]
  go_wp2_with fail
  clear t1 t2
  have t1 := S01.out
  have t2 := X01.out
  rw [rounds_succ]
  go_wp2_with fail
  clear t1 t2
  clear l0 l1 a0 a1 b0 b1 f0 f1
  have MA := Lib.hid (R0.out.alloc (.cells #[.int .i64 x01] 2))
  have X := Lib.hid (Blk.new' v2 #[.int .i64 x01] 2)
  rw [rounds_succ]
  go_wp2_with (at_builtin; refine wpList_append_any (.tmp 145) (.tmp 147) 22 rfl rfl b2 2 i2 (.int .i64 0) 1 8 Try.underlying22 h2i h2z h2s h2b rfl (by decide) none 0 0 [] (by rfl) MA.out.own2 (some ⟨v2.heap.size, 0, none⟩) 1 1 [.int .i64 x01] (by rfl) (by rfl) (.inr ⟨_, rfl, fun k u hk => by rcases k with _ | k <;> simp at hk; subst hk; exact X.out.cell 0 rfl⟩) (by simp [Value.oneCell']) (by decide) (by decide) MA.out.lt2.2.2 ?_; intro C1 k1 r1 hown hgrow hat; have R1 := Lib.hid (show RoJ w gL gA gB gp p0 p1 p2 p3 p4 bp g5 e2 [.int .i64 q0, .int .i64 q1] b2 C1 1 k1 [.int .i64 x01] r1 from MA.out.push hgrow hown); clear hown hgrow hat MA X)
  rw [rounds_succ]
  have l0 := R1.out.p.co.L.cell 0 rfl
  have l1 := R1.out.p.co.L.cell 1 rfl
  have a0 := R1.out.p.co.A.cell 0 rfl
  have a1 := R1.out.p.co.A.cell 1 rfl
  have b0 := R1.out.p.co.B.cell 0 rfl
  have b1 := R1.out.p.co.B.cell 1 rfl
  have f0 : r1.cell? ⟨g5, 0, none⟩ = some (.int .i64 q0) := World.ownsRow.cellAt R1.out.p.own 0 (by omega)
  have f1 : r1.cell? ⟨g5, 1, none⟩ = some (.int .i64 q1) := World.ownsRow.cellAt R1.out.p.own 1 (by omega)
  go_wp2_with fail
  refine wp_loop_rounds 3 ?_
  have t1 := S10.out
  have t2 := X10.out
  rw [rounds_succ]
  go_wp2_with fail
  clear t1 t2
  have t1 := S11.out
  have t2 := X11.out
  rw [rounds_succ]
  go_wp2_with fail
  clear t1 t2
  clear l0 l1 a0 a1 b0 b1 f0 f1
  have MA := Lib.hid (R1.out.alloc (.cells #[.int .i64 x11] 2))
  have X := Lib.hid (Blk.new' r1 #[.int .i64 x11] 2)
  rw [rounds_succ]
  go_wp2_with (at_builtin; refine wpList_append_any (.tmp 145) (.tmp 147) 22 rfl rfl b2 2 i2 (.int .i64 0) 1 8 Try.underlying22 h2i h2z h2s h2b rfl (by decide) C1 1 k1 [.int .i64 x01] (by rfl) MA.out.own2 (some ⟨r1.heap.size, 0, none⟩) 1 1 [.int .i64 x11] (by rfl) (by rfl) (.inr ⟨_, rfl, fun k u hk => by rcases k with _ | k <;> simp at hk; subst hk; exact X.out.cell 0 rfl⟩) (by simp [Value.oneCell']) (by decide) (by decide) MA.out.lt2.2.2 ?_; intro C2 k2 r2 hown hgrow hat; have R2 := Lib.hid (show RoJ w gL gA gB gp p0 p1 p2 p3 p4 bp g5 e2 [.int .i64 q0, .int .i64 q1] b2 C2 2 k2 [.int .i64 x01, .int .i64 x11] r2 from MA.out.push hgrow hown); clear hown hgrow hat MA X)
  rw [rounds_succ]
  go_wp2_with fail
  exact bodyPost_ret (v := .tuple #[.slice C2 2 k2, .slice (some ⟨g5, 0, none⟩) 2 e2]) (by simp [results, Try.results96, go_sem]) rfl ⟨_, _, _, _, _, _, rfl, R2.out.p.bel⟩
end Go.Proofs.Ytmebpglkeedaoaa
namespace Go.Proofs.Ytmebpglkeedaoaa
open Go.RowKit Dp
def marks (n : Nat) (c : List Int) (k : Nat) : List Value := (List.range n).map fun (i : Nat) => .bool (inK c k (i : Int))
def LkJ (w : World) (A B : Option Addr) (n cA m cB g : Nat) (c : List Int) (k : Nat) (W : World) : Prop := Below w.heap.size w W ∧ Blk W w.heap.size 25 [.slice A n cA, .slice B m cB] ∧ Blk W g 4 (marks n c k)
theorem LkJ.below {w : World} {A B : Option Addr} {n cA m cB g : Nat} {c : List Int} {k : Nat} {W W' : World} (h : LkJ w A B n cA m cB g c k W) (hb : Below W.heap.size W W') : LkJ w A B n cA m cB g c k W' :=
  ⟨h.1.trans (hb.mono h.1.size), h.2.1.below hb h.2.1.lt, h.2.2.below hb h.2.2.lt⟩
end Go.Proofs.Ytmebpglkeedaoaa
namespace Go.Proofs.Ytmebpglkeedaoaa
open Go.RowKit Dp
end Go.Proofs.Ytmebpglkeedaoaa
namespace Go.Proofs.Ytmebpglkeedaoaa
open Go.RowKit Dp
end Go.Proofs.Ytmebpglkeedaoaa
namespace Go.Proofs.Ytmebpglkeedaoaa
open Go.RowKit Dp
namespace Dp
def clE (N : Net) (fl ps : List Int) : Int := if coE N fl = 0 then (if prE N ps = 0 then (if coV N fl = prV N ps then 0 else 19) else prE N ps) else coE N fl
theorem cl_co {N : Net} {fl ps : List Int} (h : coE N fl ≠ 0) : clE N fl ps = coE N fl := by simp [clE, h]
theorem cl_pr {N : Net} {fl ps : List Int} (h : coE N fl = 0) (h2 : prE N ps ≠ 0) : clE N fl ps = prE N ps := by simp [clE, h, h2]
theorem cl_ne {N : Net} {fl ps : List Int} (h : coE N fl = 0) (h2 : prE N ps = 0) (h3 : coV N fl ≠ prV N ps) : clE N fl ps = 19 := by simp [clE, h, h2, h3]
theorem cl_ok {N : Net} {fl ps : List Int} (h : coE N fl = 0) (h2 : prE N ps = 0) (h3 : coV N fl = prV N ps) : clE N fl ps = 0 := by simp [clE, h, h2, h3]
end Dp
set_option maxHeartbeats 2000000 in
set_option maxRecDepth 100000 in
theorem CheckLeast_c (A B C D : Option Addr) (N : Net) (fl ps : List Int) (n m p q cA cB cC cD : Nat) (w : World) (hn : n = N.sup.length) (hm : m = N.arcs.length) (hp : p = fl.length) (hq : q = ps.length) (hA : n ≤ cA ∧ cA ≤ 9223372036854775807) (hB : m ≤ cB ∧ cB ≤ 9223372036854775807) (hC : p ≤ cC ∧ cC ≤ 9223372036854775807) (hD : q ≤ cD ∧ cD ≤ 9223372036854775807) (hN : NetAt w A B N) (hF : IntsAt w C fl) (hP : IntsAt w D ps) :
    Calls Try.prog 22 #[.agg #[.slice A n cA, .slice B m cB], .slice C p cC, .slice D q cD] w fun e w' => e = .returned (.int .i64 (clE N fl ps)) ∧ Below w.heap.size w w' := by
  have HN := Lib.hid hn
  have HM := Lib.hid hm
  have HP := Lib.hid hp
  have HQ := Lib.hid hq
  have HNA := Lib.hid hN
  have HFA := Lib.hid hF
  have HPA := Lib.hid hP
  clear hn hm hp hq hN hF hP
  have B1 := Lib.hid (Blk.new' w #[.slice A n cA, .slice B m cB] 25)
  have HB1 := Lib.hid ((Below.refl w.heap.size w).alloc (Nat.le_refl _) (.cells #[.slice A n cA, .slice B m cB] 25))
  go_enter Try.func22, Try.ntmps22
  go_wp2_with fail
  generalize w.alloc (.cells #[.slice A n cA, .slice B m cB] 25) = w1 at B1 HB1 ⊢
  refine (Cost_c A B C N fl n m p cA cB cC w1 HN.out HM.out HP.out hA hB hC (HNA.out.below HB1.out (Nat.le_refl _)) (HFA.out.below HB1.out (Nat.le_refl _))).mono ?_
  rintro e w2 ⟨rfl, hb2⟩
  have B2 := Lib.hid (B1.out.below hb2 B1.out.lt)
  have HB2 := Lib.hid (HB1.out.trans (hb2.mono HB1.out.size))
  clear hb2 B1 HB1
  have cA0 := B2.out.cell 0 rfl
  have cB0 := B2.out.cell 1 rfl
  have E1 := Lib.hid (cl_co (N := N) (fl := fl) (ps := ps))
  have E2 := Lib.hid (cl_pr (N := N) (fl := fl) (ps := ps))
  have E3 := Lib.hid (cl_ne (N := N) (fl := fl) (ps := ps))
  have E4 := Lib.hid (cl_ok (N := N) (fl := fl) (ps := ps))
  have PC := Lib.hid (Proves_c A B D N ps n m q cA cB cD w2 HN.out HM.out HQ.out hA hB hD (HNA.out.below HB2.out (Nat.le_refl _)) (HPA.out.below HB2.out (Nat.le_refl _)))
  generalize coE N fl = x at *
  generalize prE N ps = y at *
  generalize coV N fl = u at *
  generalize prV N ps = v at *
  by_cases hx : x = 0
  · subst hx
    go_wp2_with fail
    refine PC.out.mono ?_
    rintro e w3 ⟨rfl, hb3⟩
    by_cases hy : y = 0
    · subst hy
      by_cases hu : u = v
      · have E := Lib.hid (E4.out (by trivial) (by trivial) hu)
        subst hu
        go_wp2
        go_ret
        exact ⟨ret_int E.out.symm, HB2.out.trans (hb3.mono HB2.out.size)⟩
      · have E := Lib.hid (E3.out (by trivial) (by trivial) hu)
        have hne : (u == v) = false := by simpa using hu
        go_wp2
        go_ret
        exact ⟨ret_int E.out.symm, HB2.out.trans (hb3.mono HB2.out.size)⟩
    · have E := Lib.hid (E2.out (by trivial) hy)
      have hne : (y == 0) = false := by simpa using hy
      go_wp2
      go_ret
      exact ⟨ret_int E.out.symm, HB2.out.trans (hb3.mono HB2.out.size)⟩
  · have E := Lib.hid (E1.out hx)
    have hne : (x == 0) = false := by simpa using hx
    go_wp2
    go_ret
    exact ⟨ret_int E.out.symm, HB2.out⟩
end Go.Proofs.Ytmebpglkeedaoaa
namespace Go.Proofs.Ytmebpglkeedaoaa
open Go.RowKit Dp
def knN : Net := ⟨[3, 0, -3], [⟨0, 1, 2, 1⟩, ⟨1, 2, 2, 1⟩, ⟨0, 2, 2, 5⟩]⟩
theorem knN_ch : chE knN = 0 := by decide
theorem knN_flow : isFlow knN [2, 2, 1] = true := by decide
theorem knN_cost : costK knN [2, 2, 1] 3 = 9 := by decide
theorem knN_pr : prA knN [0, 1, 5] 3 = 9 := by decide
theorem all_pot {p : List Int} (h : ∀ v, v < p.length → potOk (p.getD v 0) = true) : p.all potOk = true := by
  rw [List.all_eq_true]
  intro x hx
  obtain ⟨i, hi, rfl⟩ := List.getElem_of_mem hx
  have := h i hi
  rwa [List.getD_eq_getElem?_getD, List.getElem?_eq_getElem hi] at this
theorem kn_least {w w' : World} {e : Ending} (h : LeastP knN w e w') : ∃ gf gp fl p, e = .returned (.tuple #[.slice (some ⟨gf, 0, none⟩) 3 3, .slice (some ⟨gp, 0, none⟩) 3 3, .int .i64 0]) ∧
    IntsAt w' (some ⟨gf, 0, none⟩) fl ∧ IntsAt w' (some ⟨gp, 0, none⟩) p ∧ fl.length = 3 ∧ p.length = 3 ∧ coE knN fl = 0 ∧ coV knN fl = 9 ∧ clE knN fl p = 0 := by
  rcases h with ⟨h, _⟩ | ⟨_, gf, gp, fl, p, rfl, hf, hp, _, hg, hlf, hfl, hl, hb, he⟩ | ⟨_, _, _, _, _, h⟩
  · exact absurd knN_ch h
  · have h1 := weak (N := knN) (fl := [2, 2, 1]) (ps := p) knN_ch knN_flow
    have h2 := weak (N := knN) (fl := fl) (ps := [0, 1, 5]) knN_ch hfl
    have h3 : knN.arcs.length = 3 := rfl
    rw [h3] at h1 h2 he
    rw [knN_cost] at h1
    rw [knN_pr] at h2
    have h9 : costK knN fl 3 = 9 := by omega
    have c1 : coE knN fl = 0 := by simp [coE, knN_ch, hlf, hfl]
    have c2 : coV knN fl = 9 := by simp [coV, knN_ch, hfl, h3, h9]
    have c3 : prE knN p = 0 := by simp only [prE, knN_ch, hl, all_pot hb, if_true]
    have c4 : prV knN p = 9 := by simp only [prV, c3, if_true]; rw [h3]; omega
    exact ⟨gf, gp, fl, p, rfl, hf.ints, hp.ints, hlf, hl, c1, c2, cl_ok c1 c3 (by rw [c2, c4])⟩
  · have := h [2, 2, 1]
    rw [knN_flow] at this
    cases this
structure KnJ (w : World) (g1 g2 g3 : Nat) (W : World) : Prop where
  s : Fl 2 W g1 [3, 0, -3]
  a : Blk W g2 46 (flat arcV knN.arcs)
  n : Blk W g3 25 [.slice (some ⟨g1, 0, none⟩) 3 3, .slice (some ⟨g2, 0, none⟩) 3 3]
  bel : Below w.heap.size w W
theorem KnJ.below {w W V : World} {g1 g2 g3 : Nat} (h : KnJ w g1 g2 g3 W) (hb : Below W.heap.size W V) : KnJ w g1 g2 g3 V :=
  ⟨h.s.below hb, h.a.below hb h.a.lt, h.n.below hb h.n.lt, h.bel.trans (hb.mono h.bel.size)⟩
theorem KnJ.net {w W : World} {g1 g2 g3 : Nat} (h : KnJ w g1 g2 g3 W) : NetAt W (some ⟨g1, 0, none⟩) (some ⟨g2, 0, none⟩) knN := by
  refine ⟨h.s.ints, fun i hi => ?_⟩
  have hc : ∀ j, j < 4 → W.cell? ⟨g2, i * 4 + j, none⟩ = (arcV (knN.arcs.getD i default))[j]? := fun j hj => by
    have e := flat_get (f := arcV) (s := 4) (fun _ => rfl) _ _ _ _ (getElem_D knN.arcs i default hi) hj
    rw [← e]
    obtain ⟨v, hv⟩ : ∃ v, (flat arcV knN.arcs)[i * 4 + j]? = some v := by
      rw [e]
      match j, hj with
      | 0, _ => exact ⟨_, rfl⟩
      | 1, _ => exact ⟨_, rfl⟩
      | 2, _ => exact ⟨_, rfl⟩
      | 3, _ => exact ⟨_, rfl⟩
    rw [hv]
    exact h.a.cell _ hv
  have had : (⟨g2, 0, none⟩ : Addr).add (i * 4) = ⟨g2, i * 4, none⟩ := by unfold Addr.add; split <;> simp_all
  exact ⟨⟨g2, 0, none⟩, rfl, h.a.lt, by rw [had]; exact hc 0 (by omega), by rw [had]; exact hc 1 (by omega), by rw [had]; exact hc 2 (by omega), by rw [had]; exact hc 3 (by omega)⟩
theorem KnJ.start (w : World) : KnJ w w.heap.size (w.heap.size + 1) (w.heap.size + 1 + 1) (((w.alloc (.cells #[.int .i64 3, .int .i64 0, .int .i64 (-3)] 2)).alloc (.cells #[.int .i64 0, .int .i64 1, .int .i64 2, .int .i64 1, .int .i64 1, .int .i64 2, .int .i64 2, .int .i64 1, .int .i64 0, .int .i64 2, .int .i64 2, .int .i64 5] 46)).alloc (.cells #[.slice (some ⟨w.heap.size, 0, none⟩) 3 3, .slice (some ⟨w.heap.size + 1, 0, none⟩) 3 3] 25)) := by
  have b1 := (Below.refl w.heap.size w).alloc (Nat.le_refl _) (.cells #[.int .i64 3, .int .i64 0, .int .i64 (-3)] 2)
  have b2 := b1.alloc b1.size (.cells #[.int .i64 0, .int .i64 1, .int .i64 2, .int .i64 1, .int .i64 1, .int .i64 2, .int .i64 2, .int .i64 1, .int .i64 0, .int .i64 2, .int .i64 2, .int .i64 5] 46)
  have b3 := b2.alloc b2.size (.cells #[.slice (some ⟨w.heap.size, 0, none⟩) 3 3, .slice (some ⟨w.heap.size + 1, 0, none⟩) 3 3] 25)
  have x1 := Blk.new' w #[.int .i64 3, .int .i64 0, .int .i64 (-3)] 2
  have x2 := Blk.new' (w.alloc (.cells #[.int .i64 3, .int .i64 0, .int .i64 (-3)] 2)) #[.int .i64 0, .int .i64 1, .int .i64 2, .int .i64 1, .int .i64 1, .int .i64 2, .int .i64 2, .int .i64 1, .int .i64 0, .int .i64 2, .int .i64 2, .int .i64 5] 46
  have x3 := Blk.new' ((w.alloc (.cells #[.int .i64 3, .int .i64 0, .int .i64 (-3)] 2)).alloc (.cells #[.int .i64 0, .int .i64 1, .int .i64 2, .int .i64 1, .int .i64 1, .int .i64 2, .int .i64 2, .int .i64 1, .int .i64 0, .int .i64 2, .int .i64 2, .int .i64 5] 46)) #[.slice (some ⟨w.heap.size, 0, none⟩) 3 3, .slice (some ⟨w.heap.size + 1, 0, none⟩) 3 3] 25
  refine ⟨(x1.alloc _).alloc _, ?_, ?_, b3⟩
  · have := x2.alloc (.cells #[.slice (some ⟨w.heap.size, 0, none⟩) 3 3, .slice (some ⟨w.heap.size + 1, 0, none⟩) 3 3] 25)
    simpa [flat, arcV, knN] using this
  · simpa using x3
theorem CO.start (V : World) : CO (((V.alloc (.cells #[.int .i64 4, .int .i64 1] 2)).alloc (.cells #[.int .i64 2, .int .i64 3] 2)).alloc (.cells #[.slice (some ⟨V.heap.size, 0, none⟩) 2 2, .slice (some ⟨V.heap.size + 1, 0, none⟩) 2 2] 22)) (V.heap.size + 1 + 1) V.heap.size (V.heap.size + 1) := by
  have x1 := Blk.new' V #[.int .i64 4, .int .i64 1] 2
  have x2 := Blk.new' (V.alloc (.cells #[.int .i64 4, .int .i64 1] 2)) #[.int .i64 2, .int .i64 3] 2
  have x3 := Blk.new' ((V.alloc (.cells #[.int .i64 4, .int .i64 1] 2)).alloc (.cells #[.int .i64 2, .int .i64 3] 2)) #[.slice (some ⟨V.heap.size, 0, none⟩) 2 2, .slice (some ⟨V.heap.size + 1, 0, none⟩) 2 2] 22
  refine ⟨?_, (x1.alloc _).alloc _, ?_⟩
  · simpa using x3
  · simpa using x2.alloc (.cells #[.slice (some ⟨V.heap.size, 0, none⟩) 2 2, .slice (some ⟨V.heap.size + 1, 0, none⟩) 2 2] 22)
set_option maxHeartbeats 4000000 in
set_option maxRecDepth 100000 in
theorem known_c (w : World) : Calls Try.prog 13 #[] w fun e w' => e = .returned (.bool true) ∧ Below w.heap.size w w' := by
  have K0 := Lib.hid (KnJ.start w)
  go_enter Try.func13, Try.ntmps13
  go_upto_region 2 with fail
  generalize hW : ((w.alloc (.cells #[.int .i64 3, .int .i64 0, .int .i64 (-3)] 2)).alloc (.cells #[.int .i64 0, .int .i64 1, .int .i64 2, .int .i64 1, .int .i64 1, .int .i64 2, .int .i64 2, .int .i64 1, .int .i64 0, .int .i64 2, .int .i64 2, .int .i64 5] 46)).alloc (.cells #[.slice (some ⟨w.heap.size, 0, none⟩) 3 3, .slice (some ⟨w.heap.size + 1, 0, none⟩) 3 3] 25) = w1 at K0 ⊢
  clear hW
  obtain ⟨g1, hg1⟩ : ∃ g, g = w.heap.size := ⟨_, rfl⟩
  rw [← hg1] at K0 ⊢
  clear hg1
  obtain ⟨g2, hg2⟩ : ∃ g, g = g1 + 1 := ⟨_, rfl⟩
  rw [← hg2] at K0 ⊢
  clear hg2
  obtain ⟨g3, hg3⟩ : ∃ g, g = g2 + 1 := ⟨_, rfl⟩
  rw [← hg3] at K0 ⊢
  clear hg3
  have n0 := K0.out.n.cell 0 rfl
  have n1 := K0.out.n.cell 1 rfl
  go_wp2_with fail
  refine (Least_c _ _ knN 3 3 3 3 _ rfl rfl (by omega) (by omega) K0.out.net).mono ?_
  rintro e w2 ⟨hL, hb⟩
  obtain ⟨gf, gp, fl, p, rfl, hf, hp, lf, lp, c1, c2, c3⟩ := kn_least hL
  have K2 := Lib.hid (K0.out.below hb)
  have F2 := Lib.hid hf
  have P2 := Lib.hid hp
  have LF := Lib.hid lf
  have LP := Lib.hid lp
  have C1 := Lib.hid c1
  have C2 := Lib.hid c2
  have C3 := Lib.hid c3
  clear hL hb hf hp lf lp c1 c2 c3 K0 n0 n1
  have n0 := K2.out.n.cell 0 rfl
  have n1 := K2.out.n.cell 1 rfl
  go_wp2_with fail
  refine (Cost_c _ _ _ knN fl 3 3 3 3 3 3 _ rfl rfl LF.out.symm (by omega) (by omega) (by omega) K2.out.net F2.out).mono ?_
  rintro e w3 ⟨rfl, hb⟩
  rw [C1.out, C2.out]
  have K3 := Lib.hid (K2.out.below hb)
  have F3 := Lib.hid (F2.out.below hb (Nat.le_refl _))
  have P3 := Lib.hid (P2.out.below hb (Nat.le_refl _))
  clear hb K2 F2 P2 n0 n1
  have CC := Lib.hid (CO.start w3)
  have B4 := Lib.hid ((((Below.refl w3.heap.size w3).alloc (Nat.le_refl _) (.cells #[.int .i64 4, .int .i64 1] 2)).alloc (by simp) (.cells #[.int .i64 2, .int .i64 3] 2)).alloc (by simp; omega) (.cells #[.slice (some ⟨w3.heap.size, 0, none⟩) 2 2, .slice (some ⟨w3.heap.size + 1, 0, none⟩) 2 2] 22))
  go_wp2_with fail
  generalize ((w3.alloc (.cells #[.int .i64 4, .int .i64 1] 2)).alloc (.cells #[.int .i64 2, .int .i64 3] 2)).alloc (.cells #[.slice (some ⟨w3.heap.size, 0, none⟩) 2 2, .slice (some ⟨w3.heap.size + 1, 0, none⟩) 2 2] 22) = w4 at CC B4 ⊢
  refine (Assign_c duals_c _ _ _ _ CC.out).mono ?_
  rintro e w5 ⟨A, c, R, rn, rc, Q, qn, qc, rfl, ho, hb⟩
  obtain ⟨g, cg, hv, hbg, hlt⟩ := ho.form (by omega)
  cases hv
  have B5 := Lib.hid ((Below.refl w5.heap.size w5).alloc (Nat.le_refl _) (.cells #[.slice (some ⟨g, 0, none⟩) 2 c, .int .i64 3, .slice R rn rc, .slice Q qn qc] 87))
  have X := Lib.hid (Blk.new' w5 #[.slice (some ⟨g, 0, none⟩) 2 c, .int .i64 3, .slice R rn rc, .slice Q qn qc] 87)
  have OW := Lib.hid (ownBelow ho B5.out)
  have K5 := Lib.hid (((K3.out.below B4.out).below hb).below B5.out)
  have F5 := Lib.hid (((F3.out.below B4.out (Nat.le_refl _)).below hb (Nat.le_refl _)).below B5.out (Nat.le_refl _))
  have P5 := Lib.hid (((P3.out.below B4.out (Nat.le_refl _)).below hb (Nat.le_refl _)).below B5.out (Nat.le_refl _))
  clear ho hb hbg hlt K3 F3 P3 CC B4 B5
  go_upto_region 5 with fail
  generalize w5.alloc (.cells #[.slice (some ⟨g, 0, none⟩) 2 c, .int .i64 3, .slice R rn rc, .slice Q qn qc] 87) = w6 at X OW K5 F5 P5 ⊢
  generalize w5.heap.size = gm at *
  have n0 := K5.out.n.cell 0 rfl
  have n1 := K5.out.n.cell 1 rfl
  go_wp2_with fail
  refine (CheckLeast_c _ _ _ _ knN fl p 3 3 3 3 3 3 3 3 _ rfl rfl LF.out.symm LP.out.symm (by omega) (by omega) (by omega) (by omega) K5.out.net F5.out P5.out).mono ?_
  rintro e w7 ⟨rfl, hb⟩
  rw [C3.out]
  have X7 := Lib.hid (X.out.below hb X.out.lt)
  have O7 := Lib.hid (ownBelow OW.out hb)
  have BW := Lib.hid ((K5.out.below hb).bel)
  clear hb n0 n1 X OW K5 F5 P5
  have x0 := X7.out.cell 0 rfl
  have x1 := X7.out.cell 1 rfl
  have y0 : w7.cell? ⟨g, 0, none⟩ = some (.int .i64 1) := World.ownsRow.cellAt O7.out 0 (by omega)
  go_wp2_with fail
  exact bodyPost_ret (v := .bool true) (by simp [results, Try.results13, go_sem]) rfl ⟨rfl, BW.out⟩
end Go.Proofs.Ytmebpglkeedaoaa
namespace Go.Proofs.Ytmebpglkeedaoaa
open Go.RowKit Dp
def R6 (w : World) : Ending → World → Prop := fun e w' => e = .returned (.bool true) ∧ Below w.heap.size w w'
end Go.Proofs.Ytmebpglkeedaoaa
namespace Go.Proofs.Ytmebpglkeedaoaa
open Go.RowKit Dp
theorem own_ints4 {W : World} {b c cp : Nat} {A : Option Addr} {l : List Int} (h : W.ownsRow b 2 1 (.slice A c cp) c (l.map (Value.int .i64))) (hc : c = l.length) : IntsAt W A l := fun i hi => by
  obtain ⟨g, cap, hv, hb, hlt⟩ := h.form (by omega)
  cases hv
  refine ⟨⟨g, 0, none⟩, rfl, hlt, ?_⟩
  rw [show (⟨g, 0, none⟩ : Addr).add i = ⟨g, i, none⟩ from (by unfold Addr.add; split <;> simp_all), World.ownsRow.cellAt h i (by omega), List.getElem?_map, List.getElem?_eq_getElem hi, List.getD_eq_getElem?_getD, List.getElem?_eq_getElem hi]
  rfl
theorem own_cap4 {W : World} {b e z c cp : Nat} {A : Option Addr} {l : List Value} (h : W.ownsRow b e z (.slice A c cp) c l) (hc : 0 < c) : c ≤ cp ∧ cp ≤ 9223372036854775807 := by
  rcases h.2 with ⟨h0, h1⟩ | ⟨g', c', cur, hv, _, _, hc1, hc2, _⟩
  · omega
  · cases hv
    unfold maxLen at hc2
    omega
theorem u8_bdM {a : Int} (h : (Lit.int .u8 a).wf = true) : 0 ≤ a ∧ a ≤ 255 := by
  have h1 : IntKind.u8.min = 0 := rfl
  have h2 : IntKind.u8.max = 255 := rfl
  simp only [Lit.wf, Bool.and_eq_true, decide_eq_true_eq] at h
  omega
theorem set_ints (l : List Int) (i : Nat) (x : Int) : (l.map (Value.int .i64)).set i (.int .i64 x) = (l.set i x).map (Value.int .i64) := by rw [List.map_set]
set_option maxHeartbeats 16000000 in
set_option maxRecDepth 100000 in
theorem More_walk (A B C D E : Option Addr) (S : Site) (cs : List Car) (sl ca bz : Int) (n nB nC nD m cA cB cC cD cE : Nat) (w : World) (hn : n = S.lim.length) (hnB : nB = S.exp.length) (hnC : nC = S.buy.length) (hnD : nD = S.sell.length) (hm : m = cs.length)
    (hA : n ≤ cA ∧ cA ≤ 9223372036854775807) (hB : nB ≤ cB ∧ cB ≤ 9223372036854775807) (hC : nC ≤ cC ∧ cC ≤ 9223372036854775807) (hD : nD ≤ cD ∧ cD ≤ 9223372036854775807) (hE : m ≤ cE ∧ cE ≤ 9223372036854775807)
    (hsl : 0 ≤ sl ∧ sl ≤ 255) (hca : 0 ≤ ca ∧ ca ≤ 255) (hbz : 0 ≤ bz ∧ bz ≤ 255) (hS : SiteAt w A B C D S) (hcs : CarsAt w E cs) :
    Calls Try.prog 9 #[.agg #[.slice A n cA, .slice B nB cB, .slice C nC cC, .slice D nD cD], .slice E m cE, .int .u8 sl, .int .u8 ca, .int .u8 bz] w (R6 w) := by
  obtain ⟨u, hu⟩ : ∃ u, u = stE S cs := ⟨_, rfl⟩
  have F30 : Hid (∀ V, Below w.heap.size w V → Calls Try.prog 30 #[.agg #[.slice A n cA, .slice B nB cB, .slice C nC cC, .slice D nD cD], .slice E m cE, .agg #[.slice none 0 0, .slice none 0 0]] V (fun e w' => LongP V e w')) := Lib.hid (fun V hV => long_c A B C D E none none cs ⟨[], []⟩ n nB nC nD m 0 0 cA cB cC cD cE 0 0 V hm rfl rfl hE (by omega) (by omega) (hcs.below hV (Nat.le_refl _)) ⟨fun i hi => by simp at hi, fun i hi => by simp at hi⟩)
  have F49 : Hid (∀ V, Below w.heap.size w V → Calls Try.prog 49 #[.agg #[.slice A n cA, .slice B nB cB, .slice C nC cC, .slice D nD cD], .slice E m cE] V (fun e w' => LongP V e w')) := Lib.hid (fun V hV => few_c A B C D E S cs n nB nC nD m cA cB cC cD cE V hn hnB hnC hnD hm hA hB hC hD hE (hS.below hV (Nat.le_refl _)) (hcs.below hV (Nat.le_refl _)))
  have F31 : Hid (∀ V, Below w.heap.size w V → Calls Try.prog 31 #[.agg #[.slice A n cA, .slice B nB cB, .slice C nC cC, .slice D nD cD], .slice E m cE] V (fun e w' => e = .returned (.int .i64 u) ∧ Below V.heap.size V w')) := Lib.hid (fun V hV => by rw [hu]; exact CheckSiteR_c A B C D E S cs n nB nC nD m cA cB cC cD cE V hn hnB hnC hnD hm hA hB hC hD hE (hS.below hV (Nat.le_refl _)) (hcs.below hV (Nat.le_refl _)))
  have F50 : Hid (∀ V, Below w.heap.size w V → Calls Try.prog 50 #[.agg #[.slice A n cA, .slice B nB cB, .slice C nC cC, .slice D nD cD], .slice E m cE] V (fun e w' => PlanP S cs V e w' ∧ Below V.heap.size V w')) := Lib.hid (fun V hV => Plan_c A B C D E S cs n nB nC nD m cA cB cC cD cE V hn hnB hnC hnD hm hA hB hC hD hE (hS.below hV (Nat.le_refl _)) (hcs.below hV (Nat.le_refl _)))
  have F51 : Hid (∀ V, Below w.heap.size w V → Calls Try.prog 51 #[.agg #[.slice A n cA, .slice B nB cB, .slice C nC cC, .slice D nD cD], .slice E m cE] V (fun e w' => CostV S cs e ∧ Below V.heap.size V w')) := Lib.hid (fun V hV => cost_c A B C D E S cs n nB nC nD m cA cB cC cD cE V hn hnB hnC hnD hm hA hB hC hD hE (hS.below hV (Nat.le_refl _)) (hcs.below hV (Nat.le_refl _)))
  have F52 : Hid (∀ V, Below w.heap.size w V → Calls Try.prog 52 #[.agg #[.slice A n cA, .slice B nB cB, .slice C nC cC, .slice D nD cD], .slice E m cE] V (fun e w' => PeakP S cs V e w' ∧ Below V.heap.size V w')) := Lib.hid (fun V hV => Peak_c A B C D E S cs n nB nC nD m cA cB cC cD cE V hn hnB hnC hnD hm hA hB hC hD hE (hS.below hV (Nat.le_refl _)) (hcs.below hV (Nat.le_refl _)))
  have FMO : Hid (∀ (S' : Site) (G H : Option Addr) (c d : Nat) V, Below w.heap.size w V → S'.lim.length = n → S'.buy.length = nC → S'.exp = S.exp → S'.sell = S.sell → (n ≤ c ∧ c ≤ 9223372036854775807) → (nC ≤ d ∧ d ≤ 9223372036854775807) → IntsAt V G S'.lim → IntsAt V H S'.buy → Calls Try.prog 51 #[.agg #[.slice G n c, .slice B nB cB, .slice H nC d, .slice D nD cD], .slice E m cE] V (fun e w' => CostV S' cs e ∧ Below V.heap.size V w')) := Lib.hid (fun S' G H c d V hV h1 h2 h3 h4 hc hd hG hH => cost_c G B H D E S' cs n nB nC nD m c cB d cD cE V h1.symm (by rw [h3]; exact hnB) h2.symm (by rw [h4]; exact hnD) hm hc hB hd hD hE ⟨hG, by rw [h3]; exact hS.2.1.below hV (Nat.le_refl _), hH, by rw [h4]; exact hS.2.2.2.below hV (Nat.le_refl _)⟩ (hcs.below hV (Nat.le_refl _)))
  have FFU : Hid (∀ (cs' : List Car) (G : Option Addr) (c : Nat) V, Below w.heap.size w V → cs'.length = m → (m ≤ c ∧ c ≤ 9223372036854775807) → CarsAt V G cs' → Calls Try.prog 51 #[.agg #[.slice A n cA, .slice B nB cB, .slice C nC cC, .slice D nD cD], .slice G m c] V (fun e w' => CostV S cs' e ∧ Below V.heap.size V w')) := Lib.hid (fun cs' G c V hV h1 hc hG => cost_c A B C D G S cs' n nB nC nD m cA cB cC cD c V hn hnB hnC hnD h1.symm hA hB hC hD hc (hS.below hV (Nat.le_refl _)) hG)
  have FCP : Hid (n ≤ 48 → ∀ (most : Int) V, Below w.heap.size w V → Calls Try.prog 53 #[.agg #[.slice A n cA, .slice B nB cB, .slice C nC cC, .slice D nD cD], .int .i64 most] V (fun e w' => ∃ (G : Option Addr) (c : Nat), e = .returned (.agg #[.slice G n c, .slice B nB cB, .slice C nC cC, .slice D nD cD]) ∧ (n ≤ c ∧ c ≤ 9223372036854775807) ∧ SiteAt w' G B C D (cpS S most) ∧ Below V.heap.size V w')) := Lib.hid (fun h48 most V hV => by
    refine (Capped_c A B C D S most n nB nC nD cA cB cC cD V hn (by omega) hA (hS.below hV (Nat.le_refl _)).1).mono ?_
    rintro e w' ⟨G, c, rfl, hc, hO, hb⟩
    exact ⟨G, c, rfl, hc, ((hS.below hV (Nat.le_refl _)).below hb (Nat.le_refl _)).capped hn hO, hb⟩)
  have FPN : Hid (u = 0 → ∀ (most : Int) (G : Option Addr) (c : Nat) V, Below w.heap.size w V → 0 ≤ most → (∀ fl, isFlow (netN (cpS S most) cs) fl = false) → (n ≤ c ∧ c ≤ 9223372036854775807) → SiteAt V G B C D (cpS S most) → Calls Try.prog 50 #[.agg #[.slice G n c, .slice B nB cB, .slice C nC cC, .slice D nD cD], .slice E m cE] V (fun e w' => e = .returned (.tuple #[.agg #[.slice none 0 0, .slice none 0 0], .slice none 0 0, .int .i64 18]) ∧ Below V.heap.size V w')) := Lib.hid (fun h most G c V hV hp hno hc hG => (Plan_c G B C D E (cpS S most) cs n nB nC nD m c cB cC cD cE V (by rw [cpS_len]; exact hn) hnB hnC hnD hm hc hB hC hD hE hG (hcs.below hV (Nat.le_refl _))).mono (fun e w' h2 => ⟨plan_no h2.1 (cpS_ok (hu.symm.trans h) hp) hno, h2.2⟩))
  have HKB : Hid (u = 0 → stE S cs = 0 ∧ nB = n ∧ nC = n ∧ nD = n ∧ (1 ≤ n ∧ n ≤ 48) ∧ m ≤ 8) := Lib.hid (fun h => by have h0 := hu.symm.trans h; have h1 := siteHead_iff.1 (stE_0 h0).2.1; have h2 := (stE_0 h0).1; omega)
  have HN := Lib.hid hn
  have HNC := Lib.hid hnC
  have HND := Lib.hid hnD
  have HM := Lib.hid hm
  have HU := Lib.hid hu
  have HS := Lib.hid hS
  have HCS := Lib.hid hcs
  clear hn hnB hnC hnD hm hS hcs hu
  have HB := Lib.hid ((Below.refl w.heap.size w).alloc (Nat.le_refl _) (.cells #[.slice A n cA, .slice B nB cB, .slice C nC cC, .slice D nD cD] 51))
  have XS := Lib.hid (Blk.new' w #[.slice A n cA, .slice B nB cB, .slice C nC cC, .slice D nD cD] 51)
  go_enter Try.func9, Try.ntmps9
  go_upto_region 1 with fail
  generalize w.alloc (.cells #[.slice A n cA, .slice B nB cB, .slice C nC cC, .slice D nD cD] 51) = w1 at HB XS ⊢
  have s0 := XS.out.cell 0 rfl
  have s1 := XS.out.cell 1 rfl
  have s2 := XS.out.cell 2 rfl
  have s3 := XS.out.cell 3 rfl
  have sz := XS.out.lt
  go_wp2_with fail
  refine (F30.out w1 HB.out).mono ?_
  rintro e w2 ⟨⟨b, rfl⟩, hb⟩
  clear s0 s1 s2 s3 sz
  have XS := Lib.hid (XS.out.below hb XS.out.lt)
  have HB := Lib.hid (HB.out.trans (hb.mono HB.out.size))
  clear hb
  cases b
  rotate_left
  · skip
    go_wp2_with fail
    refine (known_c _).mono ?_
    rintro e wk ⟨rfl, hk⟩
    have HK := Lib.hid (HB.out.trans (hk.mono HB.out.size))
    clear hk
    go_wp2_with fail
    go_ret
    exact ⟨rfl, HK.out⟩
  have s0 := XS.out.cell 0 rfl
  have s1 := XS.out.cell 1 rfl
  have s2 := XS.out.cell 2 rfl
  have s3 := XS.out.cell 3 rfl
  have sz := XS.out.lt
  go_wp2_with fail
  refine (F49.out w2 HB.out).mono ?_
  rintro e w3 ⟨⟨b, rfl⟩, hb⟩
  clear s0 s1 s2 s3 sz
  have XS := Lib.hid (XS.out.below hb XS.out.lt)
  have HB := Lib.hid (HB.out.trans (hb.mono HB.out.size))
  clear hb
  cases b
  · skip
    go_wp2_with fail
    refine (known_c _).mono ?_
    rintro e wk ⟨rfl, hk⟩
    have HK := Lib.hid (HB.out.trans (hk.mono HB.out.size))
    clear hk
    go_wp2_with fail
    go_ret
    exact ⟨rfl, HK.out⟩
  have s0 := XS.out.cell 0 rfl
  have s1 := XS.out.cell 1 rfl
  have s2 := XS.out.cell 2 rfl
  have s3 := XS.out.cell 3 rfl
  have sz := XS.out.lt
  go_wp2_with fail
  refine (F31.out w3 HB.out).mono ?_
  rintro e w4 ⟨rfl, hb⟩
  clear s0 s1 s2 s3 sz
  have XS := Lib.hid (XS.out.below hb XS.out.lt)
  have HB := Lib.hid (HB.out.trans (hb.mono HB.out.size))
  clear hb
  by_cases h0 : u = 0
  rotate_left
  · have hb0 : (u == 0) = false := by simpa using h0
    go_wp2_with fail
    refine (known_c _).mono ?_
    rintro e wk ⟨rfl, hk⟩
    have HK := Lib.hid (HB.out.trans (hk.mono HB.out.size))
    clear hk
    go_wp2_with fail
    go_ret
    exact ⟨rfl, HK.out⟩
  obtain ⟨hst, hnb, hnc, hnd, hn1, hm8⟩ := HKB.out h0
  have HST := Lib.hid hst
  have HNN : Hid (nB = n ∧ nC = n ∧ nD = n) := Lib.hid ⟨hnb, hnc, hnd⟩
  have FPNb := Lib.hid (FPN.out h0)
  have FCPb := Lib.hid (FCP.out hn1.2)
  clear hst hnb hnc hnd FPN FCP HKB HU F30 F49 F31
  subst h0
  obtain ⟨pa, hpa, pal, _⟩ := HS.out.1 0 (by rw [← HN.out]; omega)
  obtain ⟨pc, hpc, pcl, _⟩ := HS.out.2.2.1 0 (by rw [← HNC.out]; have := HNN.out; omega)
  obtain ⟨pd, hpd, pdl, _⟩ := HS.out.2.2.2 0 (by rw [← HND.out]; have := HNN.out; omega)
  subst hpa
  subst hpc
  subst hpd
  clear pal pcl pdl
  have s0 := XS.out.cell 0 rfl
  have s1 := XS.out.cell 1 rfl
  have s2 := XS.out.cell 2 rfl
  have s3 := XS.out.cell 3 rfl
  have sz := XS.out.lt
  go_wp2_with fail
  refine (F50.out w4 HB.out).mono ?_
  rintro e w5 ⟨hP, hb⟩
  clear s0 s1 s2 s3 sz
  have XS := Lib.hid (XS.out.below hb XS.out.lt)
  have HB := Lib.hid (HB.out.trans (hb.mono HB.out.size))
  clear hb
  rcases hP with ⟨hx, _⟩ | ⟨_, rfl, hno⟩ | ⟨_, g1, g2, gp, gI, gO, RI, RO, ps, rfl, _, _, _, _, hBst⟩
  · exact absurd HST.out hx
  · have HB := Lib.hid (HB.out.alloc HB.out.size (.cells #[.slice none 0 0, .slice none 0 0] 55))
    clear hno
    go_wp2_with fail
    refine (known_c _).mono ?_
    rintro e wk ⟨rfl, hk⟩
    have HK := Lib.hid (HB.out.trans (hk.mono HB.out.size))
    clear hk
    go_wp2_with fail
    go_ret
    exact ⟨rfl, HK.out⟩
  have HT0 := Lib.hid hBst.ok
  clear hBst
  rw [← HM.out]
  have hb := (Below.refl w5.heap.size w5).alloc (Nat.le_refl _) (.cells #[.slice (some ⟨g1, 0, none⟩) m m, .slice (some ⟨g2, 0, none⟩) m m] 55)
  have XS := Lib.hid (XS.out.below hb XS.out.lt)
  have HB := Lib.hid (HB.out.trans (hb.mono HB.out.size))
  clear hb
  by_cases hm0 : m = 0
  · subst hm0
    go_wp2_with fail
    refine (known_c _).mono ?_
    rintro e wk ⟨rfl, hk⟩
    have HK := Lib.hid (HB.out.trans (hk.mono HB.out.size))
    clear hk
    go_wp2_with fail
    go_ret
    exact ⟨rfl, HK.out⟩
  have b1 : ((m : Int) == 0) = false := by simp; omega
  have s0 := XS.out.cell 0 rfl
  have s1 := XS.out.cell 1 rfl
  have s2 := XS.out.cell 2 rfl
  have s3 := XS.out.cell 3 rfl
  have sz := XS.out.lt
  go_upto_region 6 with fail
  generalize w5.alloc (.cells #[.slice (some ⟨g1, 0, none⟩) m m, .slice (some ⟨g2, 0, none⟩) m m] 55) = w6 at *
  go_wp2_with fail
  refine (F51.out w6 HB.out).mono ?_
  rintro e w7 ⟨hC, hb⟩
  obtain ⟨v, rfl, hv1, hv2⟩ := cost_yes hC HT0.out
  have HV1 := Lib.hid hv1
  have HV2 := Lib.hid hv2
  clear s0 s1 s2 s3 sz
  clear hv1 hv2 hC
  have XS := Lib.hid (XS.out.below hb XS.out.lt)
  have HB := Lib.hid (HB.out.trans (hb.mono HB.out.size))
  clear hb
  have s0 := XS.out.cell 0 rfl
  have s1 := XS.out.cell 1 rfl
  have s2 := XS.out.cell 2 rfl
  have s3 := XS.out.cell 3 rfl
  have sz := XS.out.lt
  go_upto_region 7 with fail
  obtain ⟨at_, hat⟩ : ∃ k : Nat, Int.tmod sl (n : Int) = k ∧ k < n := ⟨(Int.tmod sl (n : Int)).toNat, by rw [Int.tmod_eq_emod_of_nonneg hsl.1]; have h1 := Int.emod_nonneg sl (show (n : Int) ≠ 0 by omega); omega, by rw [Int.tmod_eq_emod_of_nonneg hsl.1]; have h1 := Int.emod_nonneg sl (show (n : Int) ≠ 0 by omega); have h2 := Int.emod_lt_of_pos sl (show (0 : Int) < n by omega); omega⟩
  obtain ⟨ai, hai⟩ : ∃ k : Nat, Int.tmod ca (m : Int) = k ∧ k < m := ⟨(Int.tmod ca (m : Int)).toNat, by rw [Int.tmod_eq_emod_of_nonneg hca.1]; have h1 := Int.emod_nonneg ca (show (m : Int) ≠ 0 by omega); omega, by rw [Int.tmod_eq_emod_of_nonneg hca.1]; have h1 := Int.emod_nonneg ca (show (m : Int) ≠ 0 by omega); have h2 := Int.emod_lt_of_pos ca (show (0 : Int) < m by omega); omega⟩
  have t1 := hat.1
  have t2 := hai.1
  have t3 : IntKind.i64.wrap sl = sl := IntWalk.i64_in _ (by omega)
  have t4 : IntKind.i64.wrap ca = ca := IntWalk.i64_in _ (by omega)
  have t5 : IntKind.i64.wrap (at_ : Int) = at_ := IntWalk.i64_in _ (by omega)
  have t6 : IntKind.i64.wrap (ai : Int) = ai := IntWalk.i64_in _ (by omega)
  have t7 : ((n : Int) == 0) = false := by simp; omega
  refine wp_region_past (by kernel_rfl) (by kernel_rfl) ?_
  repeat (go_big_quiet_step (fail))
  refine wpQuiet_nil ?_
  intro xx
  have hb := xx.far
  clear s0 s1 s2 s3 sz
  clear t1 t2 t3 t4 t5 t6 t7
  have XS := Lib.hid (XS.out.below hb XS.out.lt)
  have HB := Lib.hid (HB.out.trans (hb.mono HB.out.size))
  clear hb
  generalize xx.w = w8 at *
  clear xx
  have hat2 := hat.2
  have hai2 := hai.2
  clear hat hai
  have s0 := XS.out.cell 0 rfl
  have s1 := XS.out.cell 1 rfl
  have s2 := XS.out.cell 2 rfl
  have s3 := XS.out.cell 3 rfl
  have sz := XS.out.lt
  have hb := (Below.refl w8.heap.size w8).alloc (Nat.le_refl _) (.cells #[.slice (some pa) n cA, .slice B nB cB, .slice (some pc) nC cC, .slice (some pd) nD cD] 51)
  have XM := Lib.hid (Blk.new' w8 #[.slice (some pa) n cA, .slice B nB cB, .slice (some pc) nC cC, .slice (some pd) nD cD] 51)
  have HBM := Lib.hid HB.out.size
  have HSM := Lib.hid XS.out.lt
  have XS := Lib.hid (XS.out.below hb XS.out.lt)
  have HB := Lib.hid (HB.out.trans (hb.mono HB.out.size))
  clear hb
  go_upto_region 9 with fail
  clear s0 s1 s2 s3 sz
  generalize w8.alloc (.cells #[.slice (some pa) n cA, .slice B nB cB, .slice (some pc) nC cC, .slice (some pd) nD cD] 51) = w9 at *
  generalize w8.heap.size = bm at *
  obtain ⟨i2, h2i, h2z, h2s, h2b⟩ := info_parts info2
  obtain ⟨i63, h63i, h63z, h63s, h63b⟩ := info_parts info63
  have HSRC := Lib.hid (src_ints (V := w9.alloc (.cells #[] 2)) (n := n) HS.out.1 (HB.out.alloc HB.out.size (.cells #[] 2)))
  have s0 := XS.out.cell 0 rfl
  have s1 := XS.out.cell 1 rfl
  have s2 := XS.out.cell 2 rfl
  have s3 := XS.out.cell 3 rfl
  have sz := XS.out.lt
  have m0 := XM.out.cell 0 rfl
  have m1 := XM.out.cell 1 rfl
  have m2 := XM.out.cell 2 rfl
  have m3 := XM.out.cell 3 rfl
  have mz := XM.out.lt
  go_upto_region 10 with (at_builtin; refine wpList_append_any (.tmp 93) (.tmp 95) 22 rfl rfl w9.heap.size 2 i2 (.int .i64 0) 1 8 Try.underlying22 h2i h2z h2s h2b rfl (by decide) (some ⟨w9.heap.size, 0, none⟩) 0 0 [] (by rfl) (World.ownsRow_lit w9 #[] 0 (Nat.le_refl _) (Nat.zero_le _) rfl) (some pa) n cA (S.lim.map (Value.int .i64)) (by rfl) (by simp; exact HN.out.symm) HSRC.out (by simp [Value.oneCell']) (by unfold maxLen; omega) (by omega) (by simp) ?_; intro A3 c3 w10 hown hgrow hat; have hown := (show w10.ownsRow w9.heap.size 2 1 (.slice A3 n c3) n (S.lim.map (Value.int .i64)) from by simpa using hown); obtain ⟨gl, cx, e3, y1, y2⟩ := hown.form (by omega); cases e3; have hb := ((Below.refl w9.heap.size w9).alloc (Nat.le_refl _) (.cells #[] 2)).grown hgrow (by simp) (fun k hk => by cases hk; exact Nat.le_refl _); have HOW := Lib.hid (ownV_mono2 hown HB.out.size); have HCP := Lib.hid (own_cap4 hown (by omega)); have XS := Lib.hid (XS.out.below hb XS.out.lt); have XM := Lib.hid (XM.out.below hb XM.out.lt); have HB := Lib.hid (HB.out.trans (hb.mono HB.out.size)); clear hown hgrow hat hb y1 y2; clear s0 s1 s2 s3 sz m0 m1 m2 m3 mz; have s0 := XS.out.cell 0 rfl; have s1 := XS.out.cell 1 rfl; have s2 := XS.out.cell 2 rfl; have s3 := XS.out.cell 3 rfl; have sz := XS.out.lt; have m0 := XM.out.cell 0 rfl; have m1 := XM.out.cell 1 rfl; have m2 := XM.out.cell 2 rfl; have m3 := XM.out.cell 3 rfl; have mz := XM.out.lt; have mf := XM.out.free 0)
  clear s0 s1 s2 s3 sz m0 m1 m2 m3 mz mf HSRC
  have HX1 := Lib.hid (XM.out.setCell 0 (.slice (some ⟨gl, 0, none⟩) n c3))
  have HX2 := Lib.hid (XS.out.setCell_ne (p := ⟨bm, 0, none⟩) (by have := HSM.out; simp only; omega) (.slice (some ⟨gl, 0, none⟩) n c3))
  have HX3 := Lib.hid (ownSet (p := ⟨bm, 0, none⟩) HOW.out (own_blk_no2 XM.out HOW.out (by decide)) (.slice (some ⟨gl, 0, none⟩) n c3))
  have HX4 := Lib.hid (HB.out.setCell (p := ⟨bm, 0, none⟩) HBM.out (.slice (some ⟨gl, 0, none⟩) n c3))
  have HC3 := Lib.hid HCP.out
  clear XM XS HOW HB HCP
  generalize w10.setCell ⟨bm, 0, none⟩ (.slice (some ⟨gl, 0, none⟩) n c3) = w11 at HX1 HX2 HX3 HX4 ⊢
  obtain ⟨b8, hb8⟩ : ∃ y, y = Int.tmod bz 8 := ⟨_, rfl⟩
  obtain ⟨b9, hb9⟩ : ∃ y, y = Int.tdiv bz 8 := ⟨_, rfl⟩
  have h8 : 0 ≤ b8 ∧ b8 ≤ 7 := by rw [hb8, Int.tmod_eq_emod_of_nonneg hbz.1]; omega
  have h9 : 0 ≤ b9 ∧ b9 ≤ 31 := by rw [hb9, Int.tdiv_eq_ediv_of_nonneg hbz.1]; omega
  have a1 := hb8.symm
  have a2 := hb9.symm
  have a3 : IntKind.u8.wrap b8 = b8 := IntWalk.u8_in _ (by omega)
  have a4 : IntKind.u8.wrap b9 = b9 := IntWalk.u8_in _ (by omega)
  have a5 : IntKind.i64.wrap b8 = b8 := IntWalk.i64_in _ (by omega)
  have a6 : IntKind.i64.wrap b9 = b9 := IntWalk.i64_in _ (by omega)
  clear hb8 hb9
  have HSO := Lib.hid (slotOk_iff.1 ((stE_0 HST.out).2.2.1 at_ (by rw [← HN.out]; exact hat2)))
  obtain ⟨l, hl⟩ : ∃ l, l = min 1048576 (S.lim.getD at_ 0 + b8) := ⟨_, rfl⟩
  obtain ⟨bo, hbo⟩ : ∃ l, l = max (S.sell.getD at_ 0) (S.buy.getD at_ 0 - b9) := ⟨_, rfl⟩
  have HL : Hid (S.lim.getD at_ 0 ≤ l ∧ l ≤ 1048576) := Lib.hid (by have := HSO.out; omega)
  have HBO : Hid (S.sell.getD at_ 0 ≤ bo ∧ bo ≤ S.buy.getD at_ 0) := Lib.hid (by have := HSO.out; omega)
  have HMOK := Lib.hid (fun (T : Tab) (hT : plE S cs T = 0) => mo_keeps (l := l) (b := bo) HST.out (k := at_) (by rw [← HN.out]; exact hat2) HL.out HBO.out hT)
  have HRL : Hid (∀ V, Below w.heap.size w V → V.cell? (pa.add at_) = some (.int .i64 (S.lim.getD at_ 0)) ∧ (pa.add at_).block < V.heap.size ∧ V.cell? (pc.add at_) = some (.int .i64 (S.buy.getD at_ 0)) ∧ (pc.add at_).block < V.heap.size ∧ V.cell? (pd.add at_) = some (.int .i64 (S.sell.getD at_ 0)) ∧ (pd.add at_).block < V.heap.size) := Lib.hid (fun V hV => by
    have hSV := HS.out.below hV (Nat.le_refl _)
    obtain ⟨q1, e1, z1, z2⟩ := hSV.1 at_ (by rw [← HN.out]; exact hat2)
    obtain ⟨q2, e2, z3, z4⟩ := hSV.2.2.1 at_ (by rw [← HNC.out]; have := HNN.out; omega)
    obtain ⟨q3, e3, z5, z6⟩ := hSV.2.2.2 at_ (by rw [← HND.out]; have := HNN.out; omega)
    cases e1
    cases e2
    cases e3
    exact ⟨z2, by rw [block_add]; exact z1, z4, by rw [block_add]; exact z3, z6, by rw [block_add]; exact z5⟩)
  have HLN : Hid (S.lim.length = n) := Lib.hid HN.out.symm
  have HBN : Hid (S.buy.length = nC) := Lib.hid HNC.out.symm
  generalize hy0 : S.lim.getD at_ 0 = y0 at *
  generalize hy1 : S.buy.getD at_ 0 = y1 at *
  generalize hy2 : S.sell.getD at_ 0 = y2 at *
  clear hy0 hy1 hy2
  have hso := HSO.out
  have hai3 : (at_ : Int) < (n : Int) := by omega
  have hni : (at_ : Int) < (nC : Int) := by have := HNN.out; omega
  have hnd : (at_ : Int) < (nD : Int) := by have := HNN.out; omega
  have a7 : IntKind.i64.wrap (y0 + b8) = y0 + b8 := IntWalk.i64_in _ (by omega)
  have a8 : IntKind.i64.wrap (y1 - b9) = y1 - b9 := IntWalk.i64_in _ (by omega)
  have hmn : ∀ ts t W, (Builtin.min_ ts t #[.int .i64 1048576, .int .i64 (y0 + b8)]).run Try.prog W = .ok (.int .i64 l) W := fun ts t W => by rw [hl]; exact minTwo 1048576 (y0 + b8) ts t W
  have hmx : ∀ ts t W, (Builtin.max_ ts t #[.int .i64 y2, .int .i64 (y1 - b9)]).run Try.prog W = .ok (.int .i64 bo) W := fun ts t W => by rw [hbo]; exact maxTwo y2 (y1 - b9) ts t W
  clear hl hbo hso
  have hll := HLN.out
  have hbl := HBN.out
  refine wp_region_spine 14 [false] [] ?af10 (fun V => (Blk V bm 51 [.slice (some ⟨gl, 0, none⟩) n c3, .slice B nB cB, .slice (some pc) nC cC, .slice (some pd) nD cD] ∧ Blk V w.heap.size 51 [.slice (some pa) n cA, .slice B nB cB, .slice (some pc) nC cC, .slice (some pd) nD cD]) ∧ V.ownsRow w.heap.size 2 1 (.slice (some ⟨gl, 0, none⟩) n c3) n (S.lim.map (Value.int .i64)) ∧ Below w.heap.size w V) (by kernel_rfl) (by kernel_rfl) ⟨⟨Blk.drew HX1.out, Blk.drew HX2.out⟩, ownBelow HX3.out (Below.refl _ _).drew, HX4.out.drew⟩ ?walk10 ?spine10
  case walk10 =>
    rintro V hV
    have x := hV.1.1
    have y := hV.1.2
    have m0 := x.cell 0 rfl
    have m1 := x.cell 1 rfl
    have m2 := x.cell 2 rfl
    have m3 := x.cell 3 rfl
    have mz := x.lt
    have s0 := y.cell 0 rfl
    have s1 := y.cell 1 rfl
    have s2 := y.cell 2 rfl
    have s3 := y.cell 3 rfl
    have sz := y.lt
    obtain ⟨q1, q2, q3, q4, q5, q6⟩ := HRL.out V hV.2.2
    have gz := (World.ownsRow.lt hV.2.1 gl rfl).2
    clear x y hV
    simp only [List.take_succ_cons, List.take_zero]
    repeat (go_big_quiet_step (fail))
    refine wpQuiet_nil ?_
    rfl
  case spine10 =>
    rintro V hV
    have g0 : V.cell? ⟨gl, at_, none⟩ = some (.int .i64 (S.lim.getD at_ 0)) := by rw [World.ownsRow.cellAt hV.2.1 at_ (by omega), List.getElem?_map, getElem_D S.lim at_ 0 (by omega)]; rfl
    have gf : V.frozen? ⟨gl, at_, none⟩ = false := World.ownsRow.frozenAt hV.2.1 at_
    have gz := (World.ownsRow.lt hV.2.1 gl rfl)
    have hst := (World.ownsRow.stored hV.2.1 at_ (.int .i64 l)).1
    rw [set_ints] at hst
    have hbg : ∀ {t : TypeId} {k : Nat} {vs : List Value}, Blk V k t vs → t ≠ 2 → k ≠ gl := fun h1 h2 e => own_blk_no2 h1 hV.2.1 h2 (by rw [e]; exact ownB_some.2 rfl)
    have XM := Lib.hid (hV.1.1.setCell_ne (p := ⟨gl, at_, none⟩) (hbg hV.1.1 (by decide)) (.int .i64 l))
    have XS := Lib.hid (hV.1.2.setCell_ne (p := ⟨gl, at_, none⟩) (hbg hV.1.2 (by decide)) (.int .i64 l))
    have HOX := Lib.hid hst
    have HB := Lib.hid (hV.2.2.setCell (p := ⟨gl, at_, none⟩) gz.1 (.int .i64 l))
    have gz := gz.2
    clear hst hbg hV HX1 HX2 HX3 HX4
    refine spineV_cons ?_
    unfold StepV
    go_simp
    generalize V.setCell ⟨gl, at_, none⟩ (.int .i64 l) = w12 at XM XS HOX HB ⊢
    clear g0 gf gz
    refine spineV_nil ?_
    have HOL := Lib.hid HOX.out
    have hnC : 1 ≤ nC ∧ nC ≤ 48 := by have := HNN.out; omega
    clear HOX a7 hmn
    have HSRC := Lib.hid (src_ints (V := w12.alloc (.cells #[] 2)) (n := nC) HS.out.2.2.1 (HB.out.alloc HB.out.size (.cells #[] 2)))
    have s0 := XS.out.cell 0 rfl
    have s1 := XS.out.cell 1 rfl
    have s2 := XS.out.cell 2 rfl
    have s3 := XS.out.cell 3 rfl
    have sz := XS.out.lt
    have m0 := XM.out.cell 0 rfl
    have m1 := XM.out.cell 1 rfl
    have m2 := XM.out.cell 2 rfl
    have m3 := XM.out.cell 3 rfl
    have mz := XM.out.lt
    go_upto_region 12 with (at_builtin; refine wpList_append_any (.tmp 112) (.tmp 114) 22 rfl rfl w12.heap.size 2 i2 (.int .i64 0) 1 8 Try.underlying22 h2i h2z h2s h2b rfl (by decide) (some ⟨w12.heap.size, 0, none⟩) 0 0 [] (by rfl) (World.ownsRow_lit w12 #[] 0 (Nat.le_refl _) (Nat.zero_le _) rfl) (some pc) nC cC (S.buy.map (Value.int .i64)) (by rfl) (by simp; exact HNC.out.symm) HSRC.out (by simp [Value.oneCell']) (by unfold maxLen; omega) (by omega) (by simp) ?_; intro A3 c4 w10 hown hgrow hat; have hown := (show w10.ownsRow w12.heap.size 2 1 (.slice A3 nC c4) nC (S.buy.map (Value.int .i64)) from by simpa using hown); obtain ⟨gb, cx, e3, y1, y2⟩ := hown.form (by omega); cases e3; have hb := ((Below.refl w12.heap.size w12).alloc (Nat.le_refl _) (.cells #[] 2)).grown hgrow (by simp) (fun k hk => by cases hk; exact Nat.le_refl _); have HOW := Lib.hid (ownV_mono2 hown HB.out.size); have HCP := Lib.hid (own_cap4 hown (by omega)); have HNE : Hid (gl ≠ gb) := Lib.hid (by have h1 := (World.ownsRow.lt HOL.out gl rfl).2; omega); have HOL := Lib.hid (ownBelow HOL.out hb); have XS := Lib.hid (XS.out.below hb XS.out.lt); have XM := Lib.hid (XM.out.below hb XM.out.lt); have HB := Lib.hid (HB.out.trans (hb.mono HB.out.size)); clear hown hgrow hat hb y1 y2; clear s0 s1 s2 s3 sz m0 m1 m2 m3 mz; have s0 := XS.out.cell 0 rfl; have s1 := XS.out.cell 1 rfl; have s2 := XS.out.cell 2 rfl; have s3 := XS.out.cell 3 rfl; have sz := XS.out.lt; have m0 := XM.out.cell 0 rfl; have m1 := XM.out.cell 1 rfl; have m2 := XM.out.cell 2 rfl; have m3 := XM.out.cell 3 rfl; have mz := XM.out.lt; have mf := XM.out.free 2)
    clear s0 s1 s2 s3 sz m0 m1 m2 m3 mz mf HSRC
    have HX1 := Lib.hid (XM.out.setCell 2 (.slice (some ⟨gb, 0, none⟩) nC c4))
    have HX2 := Lib.hid (XS.out.setCell_ne (p := ⟨bm, 2, none⟩) (by have := HSM.out; simp only; omega) (.slice (some ⟨gb, 0, none⟩) nC c4))
    have HX3 := Lib.hid (ownSet (p := ⟨bm, 2, none⟩) HOW.out (own_blk_no2 XM.out HOW.out (by decide)) (.slice (some ⟨gb, 0, none⟩) nC c4))
    have HX4 := Lib.hid (HB.out.setCell (p := ⟨bm, 2, none⟩) HBM.out (.slice (some ⟨gb, 0, none⟩) nC c4))
    have HX5 := Lib.hid (ownSet (p := ⟨bm, 2, none⟩) HOL.out (own_blk_no2 XM.out HOL.out (by decide)) (.slice (some ⟨gb, 0, none⟩) nC c4))
    have HC4 := Lib.hid HCP.out
    clear XM XS HOW HB HCP HOL
    generalize w10.setCell ⟨bm, 2, none⟩ (.slice (some ⟨gb, 0, none⟩) nC c4) = w13 at HX1 HX2 HX3 HX4 HX5 ⊢
    refine wp_region_spine 19 [false] [] ?af12 (fun V => (Blk V bm 51 [.slice (some ⟨gl, 0, none⟩) n c3, .slice B nB cB, .slice (some ⟨gb, 0, none⟩) nC c4, .slice (some pd) nD cD] ∧ Blk V w.heap.size 51 [.slice (some pa) n cA, .slice B nB cB, .slice (some pc) nC cC, .slice (some pd) nD cD]) ∧ V.ownsRow w.heap.size 2 1 (.slice (some ⟨gb, 0, none⟩) nC c4) nC (S.buy.map (Value.int .i64)) ∧ Below w.heap.size w V ∧ V.ownsRow w.heap.size 2 1 (.slice (some ⟨gl, 0, none⟩) n c3) n ((S.lim.set at_ l).map (Value.int .i64))) (by kernel_rfl) (by kernel_rfl) ⟨⟨Blk.drew HX1.out, Blk.drew HX2.out⟩, ownBelow HX3.out (Below.refl _ _).drew, HX4.out.drew, ownBelow HX5.out (Below.refl _ _).drew⟩ ?walk12 ?spine12
    case walk12 =>
      rintro V hV
      have x := hV.1.1
      have y := hV.1.2
      have m0 := x.cell 0 rfl
      have m1 := x.cell 1 rfl
      have m2 := x.cell 2 rfl
      have m3 := x.cell 3 rfl
      have mz := x.lt
      have s0 := y.cell 0 rfl
      have s1 := y.cell 1 rfl
      have s2 := y.cell 2 rfl
      have s3 := y.cell 3 rfl
      have sz := y.lt
      obtain ⟨q1, q2, q3, q4, q5, q6⟩ := HRL.out V hV.2.2.1
      have gz := (World.ownsRow.lt hV.2.1 gb rfl).2
      clear x y hV
      simp only [List.take_succ_cons, List.take_zero]
      repeat (go_big_quiet_step (fail))
      refine wpQuiet_nil ?_
      rfl
    case spine12 =>
      rintro V hV
      have g0 : V.cell? ⟨gb, at_, none⟩ = some (.int .i64 (S.buy.getD at_ 0)) := by rw [World.ownsRow.cellAt hV.2.1 at_ (by omega), List.getElem?_map, getElem_D S.buy at_ 0 (by omega)]; rfl
      have gf : V.frozen? ⟨gb, at_, none⟩ = false := World.ownsRow.frozenAt hV.2.1 at_
      have gz := (World.ownsRow.lt hV.2.1 gb rfl)
      have hst := (World.ownsRow.stored hV.2.1 at_ (.int .i64 bo)).1
      rw [set_ints] at hst
      have hbg : ∀ {t : TypeId} {k : Nat} {vs : List Value}, Blk V k t vs → t ≠ 2 → k ≠ gb := fun h1 h2 e => own_blk_no2 h1 hV.2.1 h2 (by rw [e]; exact ownB_some.2 rfl)
      have XM := Lib.hid (hV.1.1.setCell_ne (p := ⟨gb, at_, none⟩) (hbg hV.1.1 (by decide)) (.int .i64 bo))
      have XS := Lib.hid (hV.1.2.setCell_ne (p := ⟨gb, at_, none⟩) (hbg hV.1.2 (by decide)) (.int .i64 bo))
      have HOX := Lib.hid hst
      have HB := Lib.hid (hV.2.2.1.setCell (p := ⟨gb, at_, none⟩) gz.1 (.int .i64 bo))
      have HOL := Lib.hid (ownSet (p := ⟨gb, at_, none⟩) hV.2.2.2 (fun h => HNE.out (ownB_some.1 h).symm) (.int .i64 bo))
      have gz := gz.2
      clear hst hbg hV HX1 HX2 HX3 HX4 HX5
      refine spineV_cons ?_
      unfold StepV
      go_simp
      generalize V.setCell ⟨gb, at_, none⟩ (.int .i64 bo) = w14 at XM XS HOX HB HOL ⊢
      clear g0 gf gz
      refine spineV_nil ?_
      have HML := Lib.hid (own_ints4 HOL.out (by rw [List.length_set]; exact HLN.out.symm))
      have HMB := Lib.hid (own_ints4 HOX.out (by rw [List.length_set]; exact HBN.out.symm))
      have m0 := XM.out.cell 0 rfl
      have m1 := XM.out.cell 1 rfl
      have m2 := XM.out.cell 2 rfl
      have m3 := XM.out.cell 3 rfl
      have mz := XM.out.lt
      clear a8 hmx
      go_wp2_with fail
      refine (FMO.out (moS S at_ l bo) (some ⟨gl, 0, none⟩) (some ⟨gb, 0, none⟩) c3 c4 w14 HB.out (by show (S.lim.set at_ l).length = n; rw [List.length_set]; exact HLN.out) (by show (S.buy.set at_ bo).length = nC; rw [List.length_set]; exact HBN.out) rfl rfl HC3.out HC4.out HML.out HMB.out).mono ?_
      rintro e w15 ⟨hC, hb⟩
      obtain ⟨vm, rfl, _, hle⟩ := cost_yes hC (HMOK.out _ HT0.out).1
      have hvm : vm ≤ v := by obtain ⟨T, hT1, hT2⟩ := HV1.out; have h1 := HMOK.out T hT1; have h2 := hle T h1.1; omega
      clear m0 m1 m2 m3 mz hle hC HML HMB HOL HOX XM FMO HMOK
      have XS := Lib.hid (XS.out.below hb XS.out.lt)
      have HB := Lib.hid (HB.out.trans (hb.mono HB.out.size))
      clear hb
      have d1 : decide (v < vm) = false := decide_eq_false (by omega)
      obtain ⟨pe, hpe, _⟩ := HCS.out 0 (by rw [← HM.out]; omega)
      subst hpe
      obtain ⟨vs, hvs, hvc, hv1c, hpl⟩ := cars_row HCS.out (by rw [← HM.out]; omega)
      have HVS := Lib.hid hvs
      have HV1C := Lib.hid hv1c
      have HVL : Hid (vs.length = m * 6) := Lib.hid (by rw [hvs.1, ← HM.out])
      have HSRC : Hid (SrcRow (w15.alloc (.cells #[] 63)) (some pe) m vs) := Lib.hid (.inr ⟨pe, rfl, fun j x hx => ((HB.out.alloc HB.out.size (.cells #[] 63)).cell (by rw [block_add]; exact hpl)).trans (hvc j x hx)⟩)
      have HAI := Lib.hid (fun V (hV : Below w.heap.size w V) => (HCS.out.below hV (Nat.le_refl _)) ai (by rw [← HM.out]; exact hai2))
      have HCO := Lib.hid ((carOk_iff.1 (carok_of HST.out (i := ai) (by rw [← HM.out]; exact hai2))).1)
      clear hvs hvc hv1c hpl
      go_upto_region 17 with (at_builtin; refine wpList_append_any (.tmp 153) (.tmp 154) 52 rfl rfl w15.heap.size 63 i63 (.agg #[.int .i64 0, .int .i64 0, .int .i64 0, .int .i64 0, .int .i64 0, .slice none 0 0]) 6 64 Try.underlying52 h63i h63z h63s h63b rfl (by decide) (some ⟨w15.heap.size, 0, none⟩) 0 0 [] (by rfl) (World.ownsRow_lit w15 #[] 0 (Nat.le_refl _) (Nat.zero_le _) rfl) (some pe) m cE vs (by rfl) HVL.out HSRC.out HV1C.out (by unfold maxLen; omega) (by omega) (by simp) ?_; intro A3 c5 w16 hown hgrow hat; have hown := (show w16.ownsRow w15.heap.size 63 6 (.slice A3 m c5) m vs from by simpa using hown); obtain ⟨gc, cx, e3, y1, y2⟩ := hown.form (by omega); cases e3; have hb := ((Below.refl w15.heap.size w15).alloc (Nat.le_refl _) (.cells #[] 63)).grown hgrow (by simp) (fun k hk => by cases hk; exact Nat.le_refl _); have HOW := Lib.hid (ownV_mono2 hown HB.out.size); have HC5 := Lib.hid (own_cap4 hown (by omega)); have XS := Lib.hid (XS.out.below hb XS.out.lt); have HB := Lib.hid (HB.out.trans (hb.mono HB.out.size)); clear hown hgrow hat hb y1 y2)
      clear HSRC HV1C d1
      obtain ⟨xo, hxo⟩ : ∃ x, x = min (cs.getD ai default).cap ((cs.getD ai default).fin + b8) := ⟨_, rfl⟩
      have HFU := Lib.hid (HVS.out.fin (i := ai) (x := xo) (by rw [← HM.out]; exact hai2))
      have HXF : Hid ((cs.getD ai default).fin ≤ xo) := Lib.hid (by have := HCO.out; omega)
      have HFC := Lib.hid (fun (e : Ending) (h : CostV S (fuC cs ai xo) e) => cost_fu h HST.out (by rw [← HM.out]; exact hai2) HXF.out HV2.out)
      have HRC : Hid (∀ V, Below w.heap.size w V → (V.cell? (pe.add (ai * 6)) = some (.int .i64 (cs.getD ai default).cap) ∧ V.cell? ⟨(pe.add (ai * 6)).block, (pe.add (ai * 6)).off + 4, none⟩ = some (.int .i64 (cs.getD ai default).fin)) ∧ (pe.add (ai * 6)).block < V.heap.size) := Lib.hid (fun V hV => by obtain ⟨q, e, z0, z1, _, _, _, z2, _⟩ := HAI.out V hV; cases e; exact ⟨⟨z1, z2⟩, by rw [block_add]; exact z0⟩)
      have HVF := Lib.hid (((HVS.out.2 ai (by rw [← HM.out]; exact hai2)).1.2.2.2.2))
      generalize (cs.getD ai default).cap = k0 at *
      generalize (cs.getD ai default).fin = k1 at *
      have hco := HCO.out
      have a9 : IntKind.i64.wrap (k1 + b8) = k1 + b8 := IntWalk.i64_in _ (by omega)
      have hmn : ∀ ts t W, (Builtin.min_ ts t #[.int .i64 k0, .int .i64 (k1 + b8)]).run Try.prog W = .ok (.int .i64 xo) W := fun ts t W => by rw [hxo]; exact minTwo k0 (k1 + b8) ts t W
      have hai3 : (ai : Int) < (m : Int) := by omega
      clear hxo hco HAI HCO
      refine wp_region_spine 19 [false] [] ?af17 (fun V => Blk V w.heap.size 51 [.slice (some pa) n cA, .slice B nB cB, .slice (some pc) nC cC, .slice (some pd) nD cD] ∧ V.ownsRow w.heap.size 63 6 (.slice (some ⟨gc, 0, none⟩) m c5) m vs ∧ Below w.heap.size w V) (by kernel_rfl) (by kernel_rfl) ⟨Blk.drew XS.out, ownBelow HOW.out (Below.refl _ _).drew, HB.out.drew⟩ ?walk17 ?spine17
      case walk17 =>
        rintro V hV
        obtain ⟨⟨q1, q2⟩, q3⟩ := HRC.out V hV.2.2
        have gz := (World.ownsRow.lt hV.2.1 gc rfl).2
        clear hV
        simp only [List.take_succ_cons, List.take_zero]
        repeat (go_big_quiet_step (fail))
        refine wpQuiet_nil ?_
        rfl
      case spine17 =>
        rintro V hV
        have g0 : V.cell? ⟨gc, ai * 6 + 4, none⟩ = some (.int .i64 k1) := by rw [World.ownsRow.cellAt hV.2.1 (ai * 6 + 4) (by omega)]; exact HVF.out
        have gf : V.frozen? ⟨gc, ai * 6 + 4, none⟩ = false := World.ownsRow.frozenAt hV.2.1 (ai * 6 + 4)
        have gz := (World.ownsRow.lt hV.2.1 gc rfl)
        have hst := (World.ownsRow.stored hV.2.1 (ai * 6 + 4) (.int .i64 xo)).1
        have XS := Lib.hid (hV.1.setCell_ne (p := ⟨gc, ai * 6 + 4, none⟩) (fun e => own_blk_no2 hV.1 hV.2.1 (by decide) (by rw [e]; exact ownB_some.2 rfl)) (.int .i64 xo))
        have HB := Lib.hid (hV.2.2.setCell (p := ⟨gc, ai * 6 + 4, none⟩) gz.1 (.int .i64 xo))
        have HCA := Lib.hid (HFU.out.at hst (by rw [fu_len]; exact HM.out) HB.out)
        have gz := gz.2
        clear hst hV HOW HFU
        refine spineV_cons ?_
        unfold StepV
        go_simp
        generalize V.setCell ⟨gc, ai * 6 + 4, none⟩ (.int .i64 xo) = w17 at XS HB HCA ⊢
        clear g0 gf gz a9 hmn
        refine spineV_nil ?_
        have s0 := XS.out.cell 0 rfl
        have s1 := XS.out.cell 1 rfl
        have s2 := XS.out.cell 2 rfl
        have s3 := XS.out.cell 3 rfl
        have sz := XS.out.lt
        go_wp2_with fail
        refine (FFU.out (fuC cs ai xo) (some ⟨gc, 0, none⟩) c5 w17 HB.out (by rw [fu_len]; exact HM.out.symm) HC5.out HCA.out).mono ?_
        rintro e w18 ⟨hC, hb⟩
        obtain ⟨vf, bf, rfl, hle⟩ := HFC.out _ hC
        clear s0 s1 s2 s3 sz
        clear hC HCA HFC FFU
        have XS := Lib.hid (XS.out.below hb XS.out.lt)
        have HB := Lib.hid (HB.out.trans (hb.mono HB.out.size))
        clear hb
        have d2 : (bf && decide (vf < v)) = false := by cases bf; rfl; simp only [Bool.true_and]; exact decide_eq_false (by have := hle rfl; omega)
        cases bf
        · skip
          clear d2
          have s0 := XS.out.cell 0 rfl
          have s1 := XS.out.cell 1 rfl
          have s2 := XS.out.cell 2 rfl
          have s3 := XS.out.cell 3 rfl
          have sz := XS.out.lt
          go_wp2_with fail
          refine (F52.out w18 HB.out).mono ?_
          rintro e w19 ⟨hP, hb⟩
          obtain ⟨pk, h1, h2, Y, y, cY, rfl, hpk, hno⟩ := peak_yes hP HT0.out
          have HNO := Lib.hid hno
          clear s0 s1 s2 s3 sz
          clear hP hno
          have XS := Lib.hid (XS.out.below hb XS.out.lt)
          have HB := Lib.hid (HB.out.trans (hb.mono HB.out.size))
          clear hb
          rw [← HM.out]
          have hb := (Below.refl w19.heap.size w19).alloc (Nat.le_refl _) (.cells #[.slice (some ⟨h1, 0, none⟩) m m, .slice (some ⟨h2, 0, none⟩) m m] 55)
          have XS := Lib.hid (XS.out.below hb XS.out.lt)
          have HB := Lib.hid (HB.out.trans (hb.mono HB.out.size))
          clear hb
          by_cases hz : pk = 0
          · have b2 : (pk == 0) = true := by simpa using hz
            go_wp2_with fail
            refine (known_c _).mono ?_
            rintro e wk ⟨rfl, hk⟩
            have HK := Lib.hid (HB.out.trans (hk.mono HB.out.size))
            clear hk
            go_wp2_with fail
            go_ret
            exact ⟨rfl, HK.out⟩
          have b2 : (pk == 0) = false := by simpa using hz
          have w1s : IntKind.i64.wrap (pk - 1) = pk - 1 := IntWalk.i64_in _ (by omega)
          have s0 := XS.out.cell 0 rfl
          have s1 := XS.out.cell 1 rfl
          have s2 := XS.out.cell 2 rfl
          have s3 := XS.out.cell 3 rfl
          have sz := XS.out.lt
          go_wp2_with fail
          generalize w19.alloc (.cells #[.slice (some ⟨h1, 0, none⟩) m m, .slice (some ⟨h2, 0, none⟩) m m] 55) = w20 at *
          refine (FCPb.out (pk - 1) w20 HB.out).mono ?_
          rintro e w21 ⟨G, c6, rfl, hc6, hSA, hb⟩
          clear s0 s1 s2 s3 sz
          clear w1s
          have XS := Lib.hid (XS.out.below hb XS.out.lt)
          have HB := Lib.hid (HB.out.trans (hb.mono HB.out.size))
          clear hb
          have HSA := Lib.hid hSA
          have HC6 := Lib.hid hc6
          clear hSA hc6
          go_wp2_with fail
          refine (FPNb.out (pk - 1) G c6 w21 HB.out (by omega) (HNO.out (by omega)) HC6.out HSA.out).mono ?_
          rintro e w22 ⟨rfl, hb⟩
          have XS := Lib.hid (XS.out.below hb XS.out.lt)
          have HB := Lib.hid (HB.out.trans (hb.mono HB.out.size))
          clear hb
          clear HSA
          go_wp2_with fail
          refine (known_c _).mono ?_
          rintro e wk ⟨rfl, hk⟩
          have HK := Lib.hid (HB.out.trans (hk.mono HB.out.size))
          clear hk
          go_wp2_with fail
          go_ret
          exact ⟨rfl, HK.out⟩
        · have d3 : decide (vf < v) = false := by simpa using d2
          clear d2
          have s0 := XS.out.cell 0 rfl
          have s1 := XS.out.cell 1 rfl
          have s2 := XS.out.cell 2 rfl
          have s3 := XS.out.cell 3 rfl
          have sz := XS.out.lt
          go_wp2_with fail
          refine (F52.out w18 HB.out).mono ?_
          rintro e w19 ⟨hP, hb⟩
          obtain ⟨pk, h1, h2, Y, y, cY, rfl, hpk, hno⟩ := peak_yes hP HT0.out
          have HNO := Lib.hid hno
          clear s0 s1 s2 s3 sz
          clear hP hno
          have XS := Lib.hid (XS.out.below hb XS.out.lt)
          have HB := Lib.hid (HB.out.trans (hb.mono HB.out.size))
          clear hb
          rw [← HM.out]
          have hb := (Below.refl w19.heap.size w19).alloc (Nat.le_refl _) (.cells #[.slice (some ⟨h1, 0, none⟩) m m, .slice (some ⟨h2, 0, none⟩) m m] 55)
          have XS := Lib.hid (XS.out.below hb XS.out.lt)
          have HB := Lib.hid (HB.out.trans (hb.mono HB.out.size))
          clear hb
          by_cases hz : pk = 0
          · have b2 : (pk == 0) = true := by simpa using hz
            go_wp2_with fail
            refine (known_c _).mono ?_
            rintro e wk ⟨rfl, hk⟩
            have HK := Lib.hid (HB.out.trans (hk.mono HB.out.size))
            clear hk
            go_wp2_with fail
            go_ret
            exact ⟨rfl, HK.out⟩
          have b2 : (pk == 0) = false := by simpa using hz
          have w1s : IntKind.i64.wrap (pk - 1) = pk - 1 := IntWalk.i64_in _ (by omega)
          have s0 := XS.out.cell 0 rfl
          have s1 := XS.out.cell 1 rfl
          have s2 := XS.out.cell 2 rfl
          have s3 := XS.out.cell 3 rfl
          have sz := XS.out.lt
          go_wp2_with fail
          generalize w19.alloc (.cells #[.slice (some ⟨h1, 0, none⟩) m m, .slice (some ⟨h2, 0, none⟩) m m] 55) = w20 at *
          refine (FCPb.out (pk - 1) w20 HB.out).mono ?_
          rintro e w21 ⟨G, c6, rfl, hc6, hSA, hb⟩
          clear s0 s1 s2 s3 sz
          clear w1s
          have XS := Lib.hid (XS.out.below hb XS.out.lt)
          have HB := Lib.hid (HB.out.trans (hb.mono HB.out.size))
          clear hb
          have HSA := Lib.hid hSA
          have HC6 := Lib.hid hc6
          clear hSA hc6
          go_wp2_with fail
          refine (FPNb.out (pk - 1) G c6 w21 HB.out (by omega) (HNO.out (by omega)) HC6.out HSA.out).mono ?_
          rintro e w22 ⟨rfl, hb⟩
          have XS := Lib.hid (XS.out.below hb XS.out.lt)
          have HB := Lib.hid (HB.out.trans (hb.mono HB.out.size))
          clear hb
          clear HSA
          go_wp2_with fail
          refine (known_c _).mono ?_
          rintro e wk ⟨rfl, hk⟩
          have HK := Lib.hid (HB.out.trans (hk.mono HB.out.size))
          clear hk
          go_wp2_with fail
          go_ret
          exact ⟨rfl, HK.out⟩
end Go.Proofs.Ytmebpglkeedaoaa
