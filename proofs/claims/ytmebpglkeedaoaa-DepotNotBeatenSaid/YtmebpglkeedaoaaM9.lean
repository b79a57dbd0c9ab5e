/- Plain: pushing along a way, and the potentials behind a search. -/
import Derived.Test.YtmebpglkeedaoaaM8
namespace Go.Proofs.Ytmebpglkeedaoaa
namespace Dp
def setRoom (es : List Ed) (k : Nat) (r : Int) : List Ed := es.set k { es.getD k default with room := r }
theorem getD_setE (l : List Ed) (i j : Nat) (v : Ed) (h : i < l.length) : (l.set i v).getD j default = if j = i then v else l.getD j default := by
  simp only [List.getD_eq_getElem?_getD, List.getElem?_set]
  by_cases hj : i = j
  · subst hj; simp [h]
  · rw [if_neg hj, if_neg (fun e => hj e.symm)]
/-- x less room at edge k, and x more at the other edge of its arc -/
def pushE (es : List Ed) (k : Nat) (x : Int) : List Ed := setRoom (setRoom es k ((es.getD k default).room - x)) (tw k) (((setRoom es k ((es.getD k default).room - x)).getD (tw k) default).room + x)
theorem setRoom_len (es : List Ed) (k : Nat) (r : Int) : (setRoom es k r).length = es.length := by simp [setRoom]
theorem pushE_len (es : List Ed) (k : Nat) (x : Int) : (pushE es k x).length = es.length := by simp [pushE, setRoom]
theorem setRoom_get (es : List Ed) (k : Nat) (r : Int) (hk : k < es.length) (j : Nat) : ((setRoom es k r).getD j default).to = (es.getD j default).to ∧ ((setRoom es k r).getD j default).cost = (es.getD j default).cost ∧ ((setRoom es k r).getD j default).room = if j = k then r else (es.getD j default).room := by
  unfold setRoom
  rw [getD_setE _ _ _ _ hk]
  split
  · rename_i e; subst e; exact ⟨rfl, rfl, rfl⟩
  · exact ⟨rfl, rfl, rfl⟩
theorem pushE_get (es : List Ed) (k : Nat) (x : Int) (hk : k < es.length) (ht : tw k < es.length) (j : Nat) : ((pushE es k x).getD j default).to = (es.getD j default).to ∧ ((pushE es k x).getD j default).cost = (es.getD j default).cost ∧ ((pushE es k x).getD j default).room = (es.getD j default).room - (if j = k then x else 0) + (if tw j = k then x else 0) := by
  have h1 := fun i => setRoom_get es k ((es.getD k default).room - x) hk i
  have h2 := setRoom_get (setRoom es k ((es.getD k default).room - x)) (tw k) (((setRoom es k ((es.getD k default).room - x)).getD (tw k) default).room + x) (by rw [setRoom_len]; exact ht) j
  unfold pushE
  refine ⟨h2.1.trans (h1 j).1, h2.2.1.trans (h1 j).2.1, ?_⟩
  rw [h2.2.2, (h1 (tw k)).2.2, (h1 j).2.2, if_neg (tw_ne k)]
  by_cases e : j = tw k
  · subst e
    rw [if_pos rfl, if_neg (tw_ne k), tw_tw, if_pos rfl]; omega
  · rw [if_neg e, if_neg (show ¬ tw j = k from fun h => e (by rw [← h, tw_tw]))]
    split
    · rename_i e2; rw [e2]; omega
    · omega
namespace Gr
def push1 (G : Gr) (k : Nat) (x : Int) : Gr := { G with left := mv (mv G.left (G.frA k) (-x)) (G.toA k) x, es := pushE G.es k x }
/-- x sent over edges, one behind the other -/
def pushL (G : Gr) (ks : List Nat) (x : Int) : Gr := ks.foldl (fun G k => G.push1 k x) G
theorem Ok.tl {G : Gr} {n : Nat} (h : G.Ok n) {k : Nat} (hk : k < G.es.length) : tw k < G.es.length := tw_lt h.ev hk
end Gr
/-- what is the same in two graphs -/
structure Alike (G G' : Gr) : Prop where
  outs : G'.outs = G.outs
  ll : G'.left.length = G.left.length
  le : G'.es.length = G.es.length
  to : ∀ j, (G'.es.getD j default).to = (G.es.getD j default).to
  co : ∀ j, (G'.es.getD j default).cost = (G.es.getD j default).cost
theorem Alike.refl (G : Gr) : Alike G G := ⟨rfl, rfl, rfl, fun _ => rfl, fun _ => rfl⟩
theorem Alike.trans {A B C : Gr} (h : Alike A B) (k : Alike B C) : Alike A C := ⟨k.outs.trans h.outs, k.ll.trans h.ll, k.le.trans h.le, fun j => (k.to j).trans (h.to j), fun j => (k.co j).trans (h.co j)⟩
theorem Alike.toA {G G' : Gr} (h : Alike G G') (k : Nat) : G'.toA k = G.toA k := by unfold Gr.toA; rw [h.to]
theorem Alike.frA {G G' : Gr} (h : Alike G G') (k : Nat) : G'.frA k = G.frA k := h.toA (tw k)
theorem Alike.cost {G G' : Gr} (h : Alike G G') (k : Nat) : G'.cost k = G.cost k := by unfold Gr.cost; rw [h.co]
theorem Alike.rc {G G' : Gr} (h : Alike G G') (p : List Int) (k : Nat) : G'.rc p k = G.rc p k := by unfold Gr.rc; rw [h.cost, h.frA, h.toA]
theorem push1_alike {G : Gr} {k : Nat} {x : Int} (hk : k < G.es.length) (ht : tw k < G.es.length) : Alike G (G.push1 k x) :=
  ⟨rfl, by simp [Gr.push1, mv_length], by simp [Gr.push1, pushE_len], fun j => (pushE_get G.es k x hk ht j).1, fun j => (pushE_get G.es k x hk ht j).2.1⟩
theorem push1_room {G : Gr} {k : Nat} {x : Int} (hk : k < G.es.length) (ht : tw k < G.es.length) (j : Nat) : (G.push1 k x).room j = G.room j - (if j = k then x else 0) + (if tw j = k then x else 0) := (pushE_get G.es k x hk ht j).2.2
theorem push1_lf {G : Gr} {k : Nat} {x : Int} (h1 : G.frA k < G.left.length) (h2 : G.toA k < G.left.length) (v : Nat) : (G.push1 k x).lf v = G.lf v - (if v = G.frA k then x else 0) + (if v = G.toA k then x else 0) := by
  show (mv (mv G.left (G.frA k) (-x)) (G.toA k) x).getD v 0 = _
  rw [mv_get _ _ _ (by rw [mv_length]; simpa using h2), mv_get _ _ _ (by simpa using h1)]
  simp only [Int.toNat_natCast]
  unfold Gr.lf
  split <;> split <;> omega
theorem pushL_alike {x : Int} : ∀ {ks : List Nat} {G : Gr}, (∀ k, k ∈ ks → k < G.es.length ∧ tw k < G.es.length) → Alike G (G.pushL ks x)
  | [], G, _ => Alike.refl G
  | k :: ks, G, h => by
    have h1 := push1_alike (x := x) (h k (by simp)).1 (h k (by simp)).2
    exact h1.trans (pushL_alike (ks := ks) (fun j hj => by rw [h1.le]; exact h j (by simp [hj])))
theorem pushL_room {x : Int} : ∀ {ks : List Nat} {G : Gr}, (∀ k, k ∈ ks → k < G.es.length ∧ tw k < G.es.length) → ∀ j, (G.pushL ks x).room j = G.room j - (ks.count j : Int) * x + (ks.count (tw j) : Int) * x
  | [], G, _, j => by simp [Gr.pushL]
  | k :: ks, G, h, j => by
    have h1 := push1_alike (x := x) (h k (by simp)).1 (h k (by simp)).2
    have ih := pushL_room (x := x) (ks := ks) (G := G.push1 k x) (fun j hj => by rw [h1.le]; exact h j (by simp [hj])) j
    show ((G.push1 k x).pushL ks x).room j = _
    rw [ih, push1_room (h k (by simp)).1 (h k (by simp)).2]
    simp only [List.count_cons, Int.natCast_add, Int.add_mul]
    have e1 : (((if (k == j) = true then 1 else 0 : Nat) : Int)) * x = if j = k then x else 0 := by
      by_cases e : j = k
      · subst e; simp
      · rw [if_neg e, if_neg (show ¬ (k == j) = true from fun h => e (by simpa using (beq_iff_eq.1 h).symm))]; simp
    have e2 : (((if (k == tw j) = true then 1 else 0 : Nat) : Int)) * x = if tw j = k then x else 0 := by
      by_cases e : tw j = k
      · subst e; simp
      · rw [if_neg e, if_neg (show ¬ (k == tw j) = true from fun h => e (by simpa using (beq_iff_eq.1 h).symm))]; simp
    rw [e1, e2]
    omega
/-- the way that vi tells, from a node back to s -/
def Way (G : Gr) (vi : List Int) : Nat → List Nat → Nat → Prop
  | v, [], s => vi.getD v 0 = -1 ∧ v = s
  | v, k :: ks, s => vi.getD v 0 = (k : Int) ∧ k < G.es.length ∧ G.toA k = v ∧ Way G vi (G.frA k) ks s
theorem Way.lt {G : Gr} {vi : List Int} {s : Nat} : ∀ {ks : List Nat} {v : Nat}, Way G vi v ks s → ∀ k, k ∈ ks → k < G.es.length
  | [], _, _, k, hk => by simp at hk
  | k0 :: ks, v, h, k, hk => by
    rcases List.mem_cons.1 hk with rfl | hk
    · exact h.2.1
    · exact Way.lt h.2.2.2 k hk
theorem Way.alike {G G' : Gr} {vi : List Int} {s : Nat} (ha : Alike G G') : ∀ {ks : List Nat} {v : Nat}, Way G vi v ks s → Way G' vi v ks s
  | [], _, h => h
  | k :: ks, v, h => ⟨h.1, by rw [ha.le]; exact h.2.1, by rw [ha.toA]; exact h.2.2.1, by rw [ha.frA]; exact Way.alike ha h.2.2.2⟩
theorem Way.toIn {G : Gr} {vi : List Int} {s : Nat} : ∀ {ks : List Nat} {v : Nat}, Way G vi v ks s → ∀ k, k ∈ ks → G.toA k ∈ v :: ks.map G.frA
  | [], _, _, k, hk => by simp at hk
  | k0 :: ks, v, h, k, hk => by
    rcases List.mem_cons.1 hk with rfl | hk
    · rw [h.2.2.1]; simp
    · have := Way.toIn h.2.2.2 k hk
      simp only [List.map_cons]
      exact List.mem_cons_of_mem _ this
theorem Way.last {G : Gr} {vi : List Int} {s : Nat} : ∀ {ks : List Nat} {v : Nat}, Way G vi v ks s → s ∈ v :: ks.map G.frA
  | [], v, h => by rw [h.2]; simp
  | k0 :: ks, v, h => by
    simp only [List.map_cons]
    exact List.mem_cons_of_mem _ (Way.last h.2.2.2)
theorem way_simple {G : Gr} {vi : List Int} {s : Nat} : ∀ {ks : List Nat} {v : Nat}, Way G vi v ks s → (v :: ks.map G.frA).Nodup → ks.Nodup ∧ ∀ j, ¬ (j ∈ ks ∧ tw j ∈ ks)
  | [], _, _, _ => ⟨List.nodup_nil, fun j h => by simp at h⟩
  | k :: ks, v, h, hn => by
    simp only [List.map_cons] at hn
    have hn2 := List.nodup_cons.1 hn
    have ih := way_simple h.2.2.2 hn2.2
    have hk : k ∉ ks := fun hm => hn2.1 (by rw [← h.2.2.1]; exact Way.toIn h.2.2.2 k hm)
    have ht : tw k ∉ ks := fun hm => hn2.1 (by
      have e : G.frA (tw k) = v := by unfold Gr.frA; rw [tw_tw]; exact h.2.2.1
      rw [← e]
      exact List.mem_cons_of_mem _ (List.mem_map_of_mem hm))
    refine ⟨List.nodup_cons.2 ⟨hk, ih.1⟩, fun j hj => ?_⟩
    rcases List.mem_cons.1 hj.1 with e1 | e1
    · subst e1
      rcases List.mem_cons.1 hj.2 with e2 | e2
      · exact tw_ne j e2
      · exact ht e2
    · rcases List.mem_cons.1 hj.2 with e2 | e2
      · rw [← e2, tw_tw] at ht; exact ht e1
      · exact ih.2 j ⟨e1, e2⟩
/-- the graph's numbers lie in its lists -/
def Fine (G : Gr) : Prop := ∀ k, k < G.es.length → G.toA k < G.left.length ∧ G.frA k < G.left.length ∧ tw k < G.es.length
theorem Fine.alike {G G' : Gr} (h : Fine G) (ha : Alike G G') : Fine G' := fun k hk => by
  rw [ha.le] at hk
  rw [ha.toA, ha.frA, ha.ll, ha.le]
  exact h k hk
theorem Gr.Ok.fine {G : Gr} {n : Nat} (h : G.Ok n) : Fine G := fun k hk => by rw [h.ll]; exact ⟨h.toL hk, h.frL hk, h.tl hk⟩
theorem pushL_lf {x : Int} {vi : List Int} {s : Nat} : ∀ {ks : List Nat} {G : Gr} {v : Nat}, Way G vi v ks s → Fine G → ∀ u, (G.pushL ks x).lf u = G.lf u - (if u = s then x else 0) + (if u = v then x else 0)
  | [], G, v, h, _, u => by rw [h.2]; show G.lf u = _; split <;> omega
  | k :: ks, G, v, h, hb, u => by
    have hbk := hb k h.2.1
    have ha := push1_alike (x := x) h.2.1 hbk.2.2
    have e0 := push1_lf (x := x) hbk.2.1 hbk.1 u
    have e1 := pushL_lf (x := x) (ks := ks) (G := G.push1 k x) (v := G.frA k) (h.2.2.2.alike ha) (hb.alike ha) u
    show ((G.push1 k x).pushL ks x).lf u = _
    rw [e1, e0, h.2.2.1]
    omega
/-- the way to a settled node -/
theorem chn_way {G : Gr} {p fa vi : List Int} : ∀ {S : List Nat}, S.Nodup → Chn G p fa vi S → ∀ v, v ∈ S → ∃ ks s, Way G vi v ks s ∧ 0 < G.lf s ∧ (∀ k, k ∈ ks → 0 < G.room k ∧ fa.getD (G.toA k) 0 = fa.getD (G.frA k) 0 + G.rc p k) ∧ (v :: ks.map G.frA).Nodup ∧ ∀ u, u ∈ v :: ks.map G.frA → u ∈ S
  | [], _, _, v, hv => by simp at hv
  | u :: S, hn, h, v, hv => by
    have hn2 := List.nodup_cons.1 hn
    rcases List.mem_cons.1 hv with rfl | hv
    · rcases h.2 with ⟨a, b, c⟩ | ⟨k, a, b, c, d, e, f⟩
      · exact ⟨[], v, ⟨c, rfl⟩, a, fun k hk => by simp at hk, by simp, fun w hw => by simp at hw; subst hw; simp⟩
      · obtain ⟨ks, s, h1, h2, h3, h4, h5⟩ := chn_way hn2.2 h.1 _ e
        refine ⟨k :: ks, s, ⟨b, a, c, h1⟩, h2, fun j hj => ?_, ?_, fun w hw => ?_⟩
        · rcases List.mem_cons.1 hj with rfl | hj
          · exact ⟨d, by rw [c]; exact f⟩
          · exact h3 j hj
        · simp only [List.map_cons]
          exact List.nodup_cons.2 ⟨fun hm => hn2.1 (h5 _ hm), h4⟩
        · simp only [List.map_cons] at hw
          rcases List.mem_cons.1 hw with rfl | hw
          · simp
          · exact List.mem_cons_of_mem _ (h5 _ hw)
    · obtain ⟨ks, s, h1, h2, h3, h4, h5⟩ := chn_way hn2.2 h.1 v hv
      exact ⟨ks, s, h1, h2, h3, h4, fun w hw => List.mem_cons_of_mem _ (h5 w hw)⟩
/-- a way on which as much can be sent -/
structure Sent (G : Gr) (n : Nat) (vi : List Int) (ks : List Nat) (s t : Nat) (x : Int) : Prop where
  way : Way G vi t ks s
  nod : (t :: ks.map G.frA).Nodup
  sn : s < n
  tn : t < n
  x0 : 0 < x
  xs : x ≤ G.lf s
  xt : x ≤ -G.lf t
  xr : ∀ k, k ∈ ks → x ≤ G.room k
theorem Sent.ok {G : Gr} {n : Nat} {vi : List Int} {ks : List Nat} {s t : Nat} {x : Int} (h : Sent G n vi ks s t x) (hG : G.Ok n) : (∀ k, k ∈ ks → k < G.es.length ∧ tw k < G.es.length) ∧ (∀ j, (G.pushL ks x).room j = G.room j - (if j ∈ ks then x else 0) + (if tw j ∈ ks then x else 0)) ∧ (G.pushL ks x).Ok n := by
  have hk : ∀ k, k ∈ ks → k < G.es.length ∧ tw k < G.es.length := fun k hk => ⟨h.way.lt k hk, hG.tl (h.way.lt k hk)⟩
  have hs := way_simple h.way h.nod
  have ha := pushL_alike (x := x) hk
  have hr : ∀ j, (G.pushL ks x).room j = G.room j - (if j ∈ ks then x else 0) + (if tw j ∈ ks then x else 0) := fun j => by
    rw [pushL_room hk j, hs.1.count, hs.1.count]
    by_cases h1 : j ∈ ks <;> by_cases h2 : tw j ∈ ks <;> simp [h1, h2]
  have hlf := pushL_lf (x := x) h.way hG.fine
  refine ⟨hk, hr, ?_⟩
  exact
  { n1 := hG.n1
    ll := by rw [ha.ll]; exact hG.ll
    lo := by rw [ha.outs]; exact hG.lo
    le := by rw [ha.le]; exact hG.le
    ev := by rw [ha.le]; exact hG.ev
    to := fun k hk => by rw [ha.to]; rw [ha.le] at hk; exact hG.to k hk
    ne := fun k hk => by rw [ha.toA, ha.frA]; rw [ha.le] at hk; exact hG.ne k hk
    co := fun k hk => by rw [ha.cost, ha.cost]; rw [ha.le] at hk; exact hG.co k hk
    cb := fun k hk => by rw [ha.cost]; rw [ha.le] at hk; exact hG.cb k hk
    rm := fun k hk => by
      rw [ha.le] at hk
      have h1 := hG.rm k hk
      have h2 := hs.2 k
      have h3 := h.x0
      rw [hr k, hr (tw k), tw_tw]
      by_cases a : k ∈ ks
      · have := h.xr k a
        have : tw k ∉ ks := fun hm => h2 ⟨a, hm⟩
        rw [if_pos a, if_neg this]; omega
      · rw [if_neg a]
        split <;> omega
    lb := fun v hv => by
      rw [hlf v]
      have h1 := hG.lb v hv
      have h3 := h.x0
      have h4 := h.xs
      have h5 := h.xt
      split
      · rename_i e; subst e
        split <;> omega
      · split
        · rename_i e; subst e; omega
        · omega
    o1 := fun v hv y hy => by
      rw [ha.outs] at hy
      rw [ha.le, ha.frA]
      exact hG.o1 v hv y hy
    o2 := fun k hk => by
      rw [ha.le] at hk
      rw [ha.outs, ha.frA]
      exact hG.o2 k hk
    o3 := fun v hv => by rw [ha.outs]; exact hG.o3 v hv }
/-- potentials of a run of the solver: at most D, and D at the nodes that need something -/
structure PotD (G : Gr) (n : Nat) (p : List Int) (D : Int) : Prop where
  len : p.length = n
  lo : ∀ v, v < n → 0 ≤ p.getD v 0 ∧ p.getD v 0 ≤ D
  d : 0 ≤ D ∧ D ≤ 1048576 * (n - 1 : Int)
  need : ∀ v, v < n → G.lf v < 0 → p.getD v 0 = D
  rc : ∀ k, k < G.es.length → 0 < G.room k → 0 ≤ G.rc p k
  src : ∀ v, v < n → 0 < G.lf v → p.getD v 0 = 0
theorem PotD.pot {G : Gr} {n : Nat} {p : List Int} {D : Int} (h : PotD G n p D) (hn : n ≤ 1024) : G.Pot n p :=
  ⟨h.len, fun v hv => by have := h.lo v hv; have := h.d; omega, h.rc, h.src⟩
/-- the potentials behind a search -/
def potN (n : Nat) (p fa : List Int) (d : Int) : List Int := (List.range n).map fun v => p.getD v 0 + min (fa.getD v 0) d
theorem potN_get {n : Nat} {p fa : List Int} {d : Int} {v : Nat} (hv : v < n) : (potN n p fa d).getD v 0 = p.getD v 0 + min (fa.getD v 0) d := by
  simp [potN, List.getD_eq_getElem?_getD, hv]
theorem way_far {G : Gr} {n : Nat} {p fa vi : List Int} {s : Nat} (hG : G.Ok n) (hp : ∀ k, k < G.es.length → 0 < G.room k → 0 ≤ G.rc p k) : ∀ {ks : List Nat} {v : Nat}, Way G vi v ks s → (∀ k, k ∈ ks → 0 < G.room k ∧ fa.getD (G.toA k) 0 = fa.getD (G.frA k) 0 + G.rc p k) →
    ∀ u, u ∈ v :: ks.map G.frA → fa.getD u 0 ≤ fa.getD v 0
  | [], v, _, _, u, hu => by simp at hu; rw [hu]; exact Int.le_refl _
  | k :: ks, v, h, hk, u, hu => by
    have h1 := hk k (by simp)
    have h2 := hp k h.2.1 h1.1
    rw [h.2.2.1] at h1
    simp only [List.map_cons] at hu
    rcases List.mem_cons.1 hu with rfl | hu
    · exact Int.le_refl _
    · have := way_far hG hp h.2.2.2 (fun j hj => hk j (by simp [hj])) u hu
      omega
/-- a search, new potentials, and a way that is sent along -/
theorem round_pot {G : Gr} {n : Nat} {p fa vi : List Int} {D x : Int} {ks : List Nat} {s t : Nat} (hG : G.Ok n) (hp : PotD G n p D) (hr : NR G n p fa vi (t : Int)) (hs : Sent G n vi ks s t x)
    (hk : ∀ k, k ∈ ks → 0 < G.room k ∧ fa.getD (G.toA k) 0 = fa.getD (G.frA k) 0 + G.rc p k) : PotD (G.pushL ks x) n (potN n p fa (fa.getD t 0)) (D + fa.getD t 0) := by
  obtain ⟨h1, h2, h3⟩ := hs.ok hG
  have ha := pushL_alike (x := x) h1
  have hlf := pushL_lf (x := x) hs.way hG.fine
  have hfin : G.lf t < 0 ∧ fa.getD t 0 < never ∧ ∀ v, v < n → G.lf v < 0 → fa.getD t 0 ≤ fa.getD v 0 := by
    rcases hr.fin with ⟨e, _⟩ | ⟨t', e, _, h4, h5, h6⟩
    · omega
    · obtain rfl : t' = t := by omega
      exact ⟨h4, h5, h6⟩
  have hneg : ∀ v, v < n → (G.pushL ks x).lf v < 0 → G.lf v < 0 := fun v hv hl => by
    rw [hlf v] at hl
    have := hs.xs
    have := hs.x0
    by_cases e1 : v = s
    · subst e1
      by_cases e2 : v = t
      · subst e2; omega
      · rw [if_pos rfl, if_neg e2] at hl; omega
    · rw [if_neg e1] at hl
      split at hl <;> omega
  have hpos : ∀ v, v < n → 0 < (G.pushL ks x).lf v → 0 < G.lf v := fun v hv hl => by
    rw [hlf v] at hl
    have := hs.xs
    have := hs.x0
    have := hs.xt
    by_cases e2 : v = t
    · subst e2
      rw [if_pos rfl] at hl
      split at hl <;> omega
    · rw [if_neg e2] at hl
      split at hl <;> omega
  have ht0 := hr.top t hs.tn
  have hup := hr.up t hs.tn hfin.2.1
  have hpt := hp.need t hs.tn hfin.1
  have hrc : ∀ k, k < G.es.length → G.rc (potN n p fa (fa.getD t 0)) k = G.rc p k + min (fa.getD (G.frA k) 0) (fa.getD t 0) - min (fa.getD (G.toA k) 0) (fa.getD t 0) := fun k hk => by
    unfold Gr.rc
    rw [potN_get (hG.frL hk), potN_get (hG.toL hk)]
    omega
  have hrc0 : ∀ k, k < G.es.length → 0 < G.room k → 0 ≤ G.rc (potN n p fa (fa.getD t 0)) k := fun k hk hro => by
    rw [hrc k hk]
    have h4 := hp.rc k hk hro
    by_cases h5 : fa.getD (G.frA k) 0 < never
    · have := (hr.bel k hk h5 hro).1
      omega
    · omega
  have htight : ∀ k, k ∈ ks → G.rc (potN n p fa (fa.getD t 0)) k = 0 := fun k hm => by
    have hl := (h1 k hm).1
    have h4 := (hk k hm).2
    have h5 := way_far hG hp.rc hs.way hk (G.toA k) (hs.way.toIn k hm)
    have h6 := way_far hG hp.rc hs.way hk (G.frA k) (List.mem_cons_of_mem _ (List.mem_map_of_mem hm))
    rw [hrc k hl]
    omega
  exact
  { len := by simp [potN]
    lo := fun v hv => by
      rw [potN_get hv]
      have := hp.lo v hv
      have := hr.top v hv
      omega
    d := by have := hp.d; omega
    need := fun v hv hl => by
      rw [potN_get hv, hp.need v hv (hneg v hv hl)]
      have := hfin.2.2 v hv (hneg v hv hl)
      omega
    rc := fun k hkl hro => by
      rw [ha.le] at hkl
      rw [ha.rc]
      rw [h2 k] at hro
      by_cases h4 : 0 < G.room k
      · exact hrc0 k hkl h4
      · have h5 : tw k ∈ ks := Decidable.byContradiction fun hn => by
          rw [if_neg hn] at hro
          have := hs.x0
          split at hro <;> omega
        have h6 := htight _ h5
        have h7 : G.rc (potN n p fa (fa.getD t 0)) (tw k) = - G.rc (potN n p fa (fa.getD t 0)) k := by
          unfold Gr.rc
          rw [hG.co k hkl]
          unfold Gr.frA
          rw [tw_tw]
          omega
        omega
    src := fun v hv hl => by
      have h4 := hpos v hv hl
      rw [potN_get hv, hp.src v hv h4, hr.src v hv h4]
      omega }
end Dp
end Go.Proofs.Ytmebpglkeedaoaa
