/- Plain: a graph on the way to a flow, and the search for the nearest nodes. -/
import Derived.Test.YtmebpglkeedaoaaM5
import Derived.Test.YtmebpglkeedaoaaM2
namespace Go.Proofs.Ytmebpglkeedaoaa
namespace Dp
structure Ed where
  to : Int
  room : Int
  cost : Int
  deriving Inhabited
structure Gr where
  left : List Int
  es : List Ed
  outs : List (List Int)
/-- the other edge of an arc -/
def tw (k : Nat) : Nat := if k % 2 = 0 then k + 1 else k - 1
theorem tw_tw (k : Nat) : tw (tw k) = k := by unfold tw; split <;> split <;> omega
theorem tw_lt {k n : Nat} (h : n % 2 = 0) (hk : k < n) : tw k < n := by unfold tw; split <;> omega
theorem tw_ne (k : Nat) : tw k ≠ k := by unfold tw; split <;> omega
namespace Gr
def toA (G : Gr) (k : Nat) : Nat := (G.es.getD k default).to.toNat
def frA (G : Gr) (k : Nat) : Nat := G.toA (tw k)
def room (G : Gr) (k : Nat) : Int := (G.es.getD k default).room
def cost (G : Gr) (k : Nat) : Int := (G.es.getD k default).cost
def lf (G : Gr) (v : Nat) : Int := G.left.getD v 0
def rc (G : Gr) (p : List Int) (k : Nat) : Int := G.cost k + p.getD (G.frA k) 0 - p.getD (G.toA k) 0
/-- a graph of n nodes hangs together -/
structure Ok (G : Gr) (n : Nat) : Prop where
  n1 : 1 ≤ n ∧ n ≤ 1024
  ll : G.left.length = n
  lo : G.outs.length = n
  le : G.es.length ≤ 4096
  ev : G.es.length % 2 = 0
  to : ∀ k, k < G.es.length → 0 ≤ (G.es.getD k default).to ∧ (G.es.getD k default).to < n
  ne : ∀ k, k < G.es.length → G.toA k ≠ G.frA k
  co : ∀ k, k < G.es.length → G.cost (tw k) = - G.cost k
  cb : ∀ k, k < G.es.length → -1048576 ≤ G.cost k ∧ G.cost k ≤ 1048576
  rm : ∀ k, k < G.es.length → 0 ≤ G.room k ∧ G.room k + G.room (tw k) ≤ 1048576
  lb : ∀ v, v < n → -8589934592 ≤ G.lf v ∧ G.lf v ≤ 8589934592
  o1 : ∀ v, v < n → ∀ x, x ∈ G.outs.getD v [] → 0 ≤ x ∧ x < G.es.length ∧ G.frA x.toNat = v
  o2 : ∀ k, k < G.es.length → (k : Int) ∈ G.outs.getD (G.frA k) []
  o3 : ∀ v, v < n → (G.outs.getD v []).length ≤ 4096
theorem Ok.toL {G : Gr} {n : Nat} (h : G.Ok n) {k : Nat} (hk : k < G.es.length) : G.toA k < n := by have := h.to k hk; unfold toA; omega
theorem Ok.frL {G : Gr} {n : Nat} (h : G.Ok n) {k : Nat} (hk : k < G.es.length) : G.frA k < n := h.toL (tw_lt h.ev hk)
/-- potentials that leave no edge with room a cost below 0 -/
structure Pot (G : Gr) (n : Nat) (p : List Int) : Prop where
  len : p.length = n
  bd : ∀ v, v < n → 0 ≤ p.getD v 0 ∧ p.getD v 0 ≤ 1073741824
  rc : ∀ k, k < G.es.length → 0 < G.room k → 0 ≤ G.rc p k
  src : ∀ v, v < n → 0 < G.lf v → p.getD v 0 = 0
end Gr
def never : Int := 1152921504606846976
/-- how a node was come to -/
def Lnk (G : Gr) (p fa vi : List Int) (S : List Nat) (v : Nat) : Prop :=
  (0 < G.lf v ∧ fa.getD v 0 = 0 ∧ vi.getD v 0 = -1) ∨ ∃ k, k < G.es.length ∧ vi.getD v 0 = (k : Int) ∧ G.toA k = v ∧ 0 < G.room k ∧ G.frA k ∈ S ∧ fa.getD v 0 = fa.getD (G.frA k) 0 + G.rc p k
/-- the settled nodes, the last one first: each was come to from one that was settled before -/
def Chn (G : Gr) (p fa vi : List Int) : List Nat → Prop
  | [] => True
  | v :: S => Chn G p fa vi S ∧ Lnk G p fa vi S v
theorem Lnk.keep {G : Gr} {p fa vi fa' vi' : List Int} {S : List Nat} {v : Nat} (h : Lnk G p fa vi S v) (h1 : ∀ u, u ∈ S ∨ u = v → fa'.getD u 0 = fa.getD u 0) (h2 : vi'.getD v 0 = vi.getD v 0) : Lnk G p fa' vi' S v := by
  rcases h with ⟨a, b, c⟩ | ⟨k, a, b, c, d, e, f⟩
  · exact .inl ⟨a, (h1 v (.inr rfl)).trans b, h2.trans c⟩
  · exact .inr ⟨k, a, h2.trans b, c, d, e, by rw [h1 v (.inr rfl), h1 _ (.inl e)]; exact f⟩
theorem Lnk.more {G : Gr} {p fa vi : List Int} {S S' : List Nat} {v : Nat} (h : Lnk G p fa vi S v) (hs : ∀ u, u ∈ S → u ∈ S') : Lnk G p fa vi S' v := by
  rcases h with h | ⟨k, a, b, c, d, e, f⟩
  · exact .inl h
  · exact .inr ⟨k, a, b, c, d, hs _ e, f⟩
theorem Chn.keep {G : Gr} {p fa vi fa' vi' : List Int} : ∀ {S : List Nat}, Chn G p fa vi S → (∀ u, u ∈ S → fa'.getD u 0 = fa.getD u 0 ∧ vi'.getD u 0 = vi.getD u 0) → Chn G p fa' vi' S
  | [], _, _ => trivial
  | v :: S, h, hk => ⟨Chn.keep h.1 (fun u hu => hk u (by simp [hu])), h.2.keep (fun u hu => (hk u (by rcases hu with hu | hu <;> simp [hu])).1) (hk v (by simp)).2⟩
/-- the length of a way, with the potentials, is small -/
theorem Lnk.up {G : Gr} {n : Nat} {p fa vi : List Int} {S : List Nat} {v : Nat} (hG : G.Ok n) (hp : G.Pot n p) (h : Lnk G p fa vi S v) (hv : v < n) {B : Int} (hB : 0 ≤ B) (hS : ∀ u, u ∈ S → fa.getD u 0 + p.getD u 0 ≤ B) : fa.getD v 0 + p.getD v 0 ≤ B + 1048576 := by
  rcases h with ⟨a, b, c⟩ | ⟨k, a, b, c, d, e, f⟩
  · have := hp.src v hv a
    omega
  · have h1 := hS _ e
    have h2 := (hG.cb k a).2
    unfold Gr.rc at f
    rw [c] at f
    omega
theorem Chn.up {G : Gr} {n : Nat} {p fa vi : List Int} (hG : G.Ok n) (hp : G.Pot n p) : ∀ {S : List Nat}, Chn G p fa vi S → (∀ v, v ∈ S → v < n) → ∀ v, v ∈ S → fa.getD v 0 + p.getD v 0 + 1048576 ≤ 1048576 * S.length ∨ fa.getD v 0 + p.getD v 0 ≤ 0
  | [], _, _, v, hv => by simp at hv
  | u :: S, h, hl, v, hv => by
    have ih := Chn.up hG hp h.1 (fun v hv => hl v (by simp [hv]))
    have e : ((List.length (u :: S) : Nat) : Int) = S.length + 1 := by simp
    rw [e, Int.mul_add]
    rcases List.mem_cons.1 hv with rfl | hv
    · rcases h.2 with ⟨a, b, c⟩ | ⟨k, a, b, c, d, e, f⟩
      · right
        have := hp.src v (hl v (by simp)) a
        omega
      · have h1 := ih _ e
        have h2 := (hG.cb k a).2
        unfold Gr.rc at f
        rw [c] at f
        have : 1 ≤ S.length := List.length_pos_of_mem e
        left
        omega
    · have := ih v hv
      omega
/-- what holds at each moment of the search -/
structure NI (G : Gr) (n : Nat) (p fa vi : List Int) (H : List Vs) (S : List Nat) (en ds : Int) (ex : Nat → Prop) : Prop where
  l1 : fa.length = n
  l2 : vi.length = n
  sn : S.Nodup
  sl : ∀ v, v ∈ S → v < n
  d0 : 0 ≤ ds
  top : ∀ v, v < n → 0 ≤ fa.getD v 0 ∧ fa.getD v 0 ≤ never
  src : ∀ v, v < n → 0 < G.lf v → fa.getD v 0 = 0
  via : ∀ v, v < n → -1 ≤ vi.getD v 0 ∧ vi.getD v 0 < G.es.length ∧ (fa.getD v 0 = never → vi.getD v 0 = -1)
  lnk : ∀ v, v < n → fa.getD v 0 < never → Lnk G p fa vi S v
  chn : Chn G p fa vi S
  sd : ∀ v, v ∈ S → fa.getD v 0 ≤ ds ∧ fa.getD v 0 < never
  hd : ∀ e, e ∈ H → ds ≤ e.2
  pnd : ∀ v, v < n → fa.getD v 0 < never → v ∉ S → ((v : Int), fa.getD v 0) ∈ H
  ent : ∀ e, e ∈ H → (0 ≤ e.1 ∧ e.1 < n) ∧ fa.getD e.1.toNat 0 ≤ e.2 ∧ e.2 < never ∧ (e.1.toNat ∈ S → fa.getD e.1.toNat 0 < e.2)
  hn : H.Nodup
  bel : ∀ k, k < G.es.length → G.frA k ∈ S → 0 < G.room k → ¬ ex k → fa.getD (G.toA k) 0 ≤ fa.getD (G.frA k) 0 + G.rc p k
  fin : (en = -1 ∧ ∀ v, v ∈ S → 0 ≤ G.lf v) ∨ ∃ t : Nat, en = (t : Int) ∧ t < n ∧ G.lf t < 0 ∧ t ∈ S ∧ ∀ v, v < n → G.lf v < 0 → fa.getD t 0 ≤ fa.getD v 0
section
variable {G : Gr} {n : Nat} {p fa vi : List Int} {H R : List Vs} {S : List Nat} {en ds : Int} {ex : Nat → Prop}
theorem NI.perm (h : NI G n p fa vi H S en ds ex) (hp : R.Perm H) : NI G n p fa vi R S en ds ex :=
  { h with hd := fun e he => h.hd e (hp.mem_iff.1 he), pnd := fun v a b c => hp.mem_iff.2 (h.pnd v a b c), ent := fun e he => h.ent e (hp.mem_iff.1 he), hn := hp.nodup_iff.2 h.hn }
theorem NI.excuse {ex' : Nat → Prop} (h : NI G n p fa vi H S en ds ex) (hx : ∀ k, k < G.es.length → G.frA k ∈ S → ex k → ex' k) : NI G n p fa vi H S en ds ex' :=
  { h with bel := fun k a b c d => h.bel k a b c (fun hk => d (hx k a b hk)) }
theorem NI.slen (h : NI G n p fa vi H S en ds ex) : S.length ≤ n := by
  have := h.sn.length_le_of_subset (l₂ := List.range n) (fun v hv => List.mem_range.2 (h.sl v hv))
  simpa using this
/-- an entry that is overtaken goes -/
theorem NI.stale {e : Vs} (h : NI G n p fa vi (e :: R) S en ds ex) (hs : fa.getD e.1.toNat 0 < e.2) : NI G n p fa vi R S en ds ex :=
  { h with
    hd := fun x hx => h.hd x (by simp [hx])
    pnd := fun v a b c => by
      rcases List.mem_cons.1 (h.pnd v a b c) with h1 | h1
      · rw [← h1] at hs
        simp at hs
      · exact h1
    ent := fun x hx => h.ent x (by simp [hx])
    hn := (List.nodup_cons.1 h.hn).2 }
theorem NI.new (h : NI G n p fa vi H S en ds ex) {e : Vs} (he : e ∈ H) (hs : ¬ fa.getD e.1.toNat 0 < e.2) : e.1.toNat ∉ S := fun hm => hs ((h.ent e he).2.2.2 hm)
/-- the nearest node is settled -/
theorem NI.fresh {u : Nat} {d : Int} (h : NI G n p fa vi (((u : Int), d) :: R) S en ds (fun _ => False)) (hmin : ∀ x, x ∈ R → d ≤ x.2) (hs : ¬ fa.getD u 0 < d) :
    fa.getD u 0 = d ∧ u ∉ S ∧ u < n ∧ d < never ∧ NI G n p fa vi R (u :: S) (if G.lf u < 0 ∧ en < 0 then (u : Int) else en) d (fun k => G.frA k = u) := by
  have he := h.ent ((u : Int), d) (by simp)
  have hu : u ∉ S := h.new (e := ((u : Int), d)) (by simp) hs
  have hun : u < n := by have := he.1; simp only at this; omega
  simp only [Int.toNat_natCast] at he
  have hfd : fa.getD u 0 = d := by omega
  have hds : ds ≤ d := h.hd ((u : Int), d) (by simp)
  have hlt : d < never := he.2.2.1
  have hL := h.lnk u hun (by omega)
  refine ⟨hfd, hu, hun, hlt, ?_⟩
  exact
  { l1 := h.l1, l2 := h.l2, top := h.top, src := h.src, via := h.via
    sn := List.nodup_cons.2 ⟨hu, h.sn⟩
    sl := fun v hv => by
      rcases List.mem_cons.1 hv with rfl | hv
      · exact hun
      · exact h.sl v hv
    d0 := by have := h.d0; omega
    lnk := fun v a b => (h.lnk v a b).more (fun x hx => by simp [hx])
    chn := ⟨h.chn, hL⟩
    sd := fun v hv => by
      rcases List.mem_cons.1 hv with rfl | hv
      · omega
      · have := h.sd v hv; omega
    hd := fun e he => hmin e he
    pnd := fun v a b c => by
      simp only [List.mem_cons, not_or] at c
      rcases List.mem_cons.1 (h.pnd v a b c.2) with h1 | h1
      · exact absurd (by have := congrArg Prod.fst h1; simp only at this; omega) c.1
      · exact h1
    ent := fun x hx => by
      have hx0 := h.ent x (by simp [hx])
      refine ⟨hx0.1, hx0.2.1, hx0.2.2.1, fun hm => ?_⟩
      rcases List.mem_cons.1 hm with h1 | h1
      · have hne : x ≠ ((u : Int), d) := fun e => (List.nodup_cons.1 h.hn).1 (e ▸ hx)
        have h2 := hx0.2.1
        rw [h1] at h2 ⊢
        rcases Int.lt_or_eq_of_le h2 with h3 | h3
        · exact h3
        · exfalso
          apply hne
          have h4 := hx0.1
          have h5 : x.1 = (u : Int) := by omega
          have h6 : x.2 = d := by omega
          exact Prod.ext h5 h6
      · exact hx0.2.2.2 h1
    hn := (List.nodup_cons.1 h.hn).2
    bel := fun k a b c hx => by
      rcases List.mem_cons.1 b with h1 | h1
      · exact absurd h1 hx
      · exact h.bel k a h1 c (fun f => f)
    fin := by
      rcases h.fin with ⟨e1, e2⟩ | ⟨t, e1, e2, e3, e4, e5⟩
      · by_cases hl : G.lf u < 0
        · right
          refine ⟨u, by rw [if_pos ⟨hl, by omega⟩], hun, hl, by simp, fun v hv hlv => ?_⟩
          rw [hfd]
          have htop := h.top v hv
          by_cases hr : fa.getD v 0 < never
          · have hvS : v ∉ S := fun hm => by have := e2 v hm; omega
            rcases List.mem_cons.1 (h.pnd v hv hr hvS) with h1 | h1
            · have := congrArg Prod.snd h1
              simp only at this
              omega
            · have := hmin _ h1
              simpa using this
          · omega
        · left
          refine ⟨by rw [if_neg (fun hc => hl hc.1)]; exact e1, fun v hv => ?_⟩
          rcases List.mem_cons.1 hv with rfl | hv
          · omega
          · exact e2 v hv
      · right
        exact ⟨t, by rw [if_neg (by omega)]; exact e1, e2, e3, by simp [e4], e5⟩ }
/-- an edge over which nothing is nearer -/
theorem NI.skip {u k : Nat} {ex' : Nat → Prop} (h : NI G n p fa vi H S en ds ex) (hx : ∀ j, j < G.es.length → ex j → ex' j ∨ j = k) (hu : G.frA k = u) (hc : ¬ (fa.getD u 0 + G.rc p k < fa.getD (G.toA k) 0 ∧ 0 < G.room k)) : NI G n p fa vi H S en ds ex' :=
  { h with
    bel := fun j a b c d => by
      by_cases hjk : j = k
      · subst hjk
        rw [hu] at *
        omega
      · exact h.bel j a b c (fun e => (hx j a e).elim d hjk) }
/-- an edge over which the way is shorter -/
theorem NI.relax {u k : Nat} {d : Int} {ex' : Nat → Prop} (hG : G.Ok n) (hp : G.Pot n p) (h : NI G n p fa vi H S en ds ex) (hx : ∀ j, j < G.es.length → ex j → ex' j ∨ j = k) (hk : k < G.es.length) (hu : G.frA k = u) (huS : u ∈ S) (hds : fa.getD u 0 = ds)
    (hd : d = fa.getD u 0 + G.rc p k) (hc : d < fa.getD (G.toA k) 0) (hr : 0 < G.room k) :
    G.toA k < n ∧ 0 ≤ d ∧ NI G n p (fa.set (G.toA k) d) (vi.set (G.toA k) k) (((G.toA k : Int), d) :: H) S en ds ex' := by
  have hv := hG.toL hk
  have hrc := hp.rc k hk hr
  have h0 := h.d0
  generalize hvv : G.toA k = v at *
  have hvS : v ∉ S := fun hm => by have := h.sd v hm; omega
  have gf : ∀ j, (fa.set v d).getD j 0 = if j = v then d else fa.getD j 0 := fun j => getD_setI fa v j d (by rw [h.l1]; exact hv)
  have gv : ∀ j, (vi.set v (k : Int)).getD j 0 = if j = v then (k : Int) else vi.getD j 0 := fun j => getD_setI vi v j k (by rw [h.l2]; exact hv)
  have gS : ∀ j, j ∈ S → j ≠ v := fun j hj e => hvS (e ▸ hj)
  have htv := h.top v hv
  have hdn : d < never := by omega
  refine ⟨hv, by omega, ?_⟩
  exact
  { l1 := by rw [List.length_set]; exact h.l1
    l2 := by rw [List.length_set]; exact h.l2
    sn := h.sn, sl := h.sl, d0 := h.d0
    top := fun j hj => by
      rw [gf j]
      have := h.top j hj
      split <;> omega
    src := fun j hj hl => by
      rw [gf j]
      have := h.src j hj hl
      split
      · rename_i e; subst e; omega
      · exact this
    via := fun j hj => by
      rw [gf j, gv j]
      have := h.via j hj
      split
      · refine ⟨by omega, by omega, fun e => by omega⟩
      · exact this
    lnk := fun j hj hl => by
      by_cases e : j = v
      · subst e
        right
        refine ⟨k, hk, by rw [gv, if_pos rfl], hvv, hr, by rw [hu]; exact huS, ?_⟩
        rw [gf, if_pos rfl, gf, hu, if_neg (gS u huS)]
        exact hd
      · rw [gf, if_neg e] at hl
        refine (h.lnk j hj hl).keep (fun w hw => ?_) (by rw [gv, if_neg e])
        rw [gf, if_neg]
        rcases hw with hw | hw
        · exact gS w hw
        · rw [hw]; exact e
    chn := h.chn.keep (fun w hw => by rw [gf, gv, if_neg (gS w hw), if_neg (gS w hw)]; exact ⟨rfl, rfl⟩)
    sd := fun w hw => by rw [gf, if_neg (gS w hw)]; exact h.sd w hw
    hd := fun e he => by
      rcases List.mem_cons.1 he with rfl | he
      · simp only; omega
      · exact h.hd e he
    pnd := fun w a b c => by
      by_cases e : w = v
      · subst e
        rw [gf, if_pos rfl]
        simp
      · rw [gf, if_neg e] at b ⊢
        exact List.mem_cons_of_mem _ (h.pnd w a b c)
    ent := fun e he => by
      rcases List.mem_cons.1 he with rfl | he
      · simp only [Int.toNat_natCast]
        rw [gf, if_pos rfl]
        exact ⟨⟨by omega, by omega⟩, by omega, hdn, fun hm => absurd hm hvS⟩
      · have := h.ent e he
        refine ⟨this.1, ?_, this.2.2.1, fun hm => ?_⟩
        · rw [gf]
          split
          · rename_i e1; rw [e1] at this; omega
          · exact this.2.1
        · rw [gf, if_neg (gS _ hm)]
          exact this.2.2.2 hm
    hn := List.nodup_cons.2 ⟨fun hm => by
      have := (h.ent _ hm).2.1
      simp only [Int.toNat_natCast] at this
      omega, h.hn⟩
    bel := fun j a b c e => by
      rw [gf (G.frA j), if_neg (gS _ b), gf]
      by_cases hjk : j = k
      · subst hjk
        rw [hvv, if_pos rfl, hu]
        omega
      · have := h.bel j a b c (fun e' => (hx j a e').elim e hjk)
        split
        · rename_i e1; rw [e1] at this; omega
        · exact this
    fin := by
      rcases h.fin with h1 | ⟨t, e1, e2, e3, e4, e5⟩
      · exact .inl h1
      · refine .inr ⟨t, e1, e2, e3, e4, fun w hw hl => ?_⟩
        rw [gf, gf, if_neg (gS t e4)]
        split
        · have := h.sd t e4
          omega
        · exact e5 w hw hl }
end
/-- what the search leaves -/
structure NR (G : Gr) (n : Nat) (p fa vi : List Int) (en : Int) : Prop where
  l1 : fa.length = n
  l2 : vi.length = n
  top : ∀ v, v < n → 0 ≤ fa.getD v 0 ∧ fa.getD v 0 ≤ never
  src : ∀ v, v < n → 0 < G.lf v → fa.getD v 0 = 0
  via : ∀ v, v < n → -1 ≤ vi.getD v 0 ∧ vi.getD v 0 < G.es.length
  up : ∀ v, v < n → fa.getD v 0 < never → fa.getD v 0 + p.getD v 0 ≤ 1048576 * (n - 1 : Int)
  bel : ∀ k, k < G.es.length → fa.getD (G.frA k) 0 < never → 0 < G.room k → fa.getD (G.toA k) 0 ≤ fa.getD (G.frA k) 0 + G.rc p k ∧ fa.getD (G.toA k) 0 < never
  ch : ∃ S : List Nat, S.Nodup ∧ (∀ v, v < n → (v ∈ S ↔ fa.getD v 0 < never)) ∧ (∀ v, v ∈ S → v < n) ∧ Chn G p fa vi S
  fin : (en = -1 ∧ ∀ v, v < n → fa.getD v 0 < never → 0 ≤ G.lf v) ∨ ∃ t : Nat, en = (t : Int) ∧ t < n ∧ G.lf t < 0 ∧ fa.getD t 0 < never ∧ ∀ v, v < n → G.lf v < 0 → fa.getD t 0 ≤ fa.getD v 0
theorem NI.done {G : Gr} {n : Nat} {p fa vi : List Int} {S : List Nat} {en ds : Int} (hG : G.Ok n) (hp : G.Pot n p) (h : NI G n p fa vi [] S en ds (fun _ => False)) : NR G n p fa vi en := by
  have hS : ∀ v, v < n → (v ∈ S ↔ fa.getD v 0 < never) := fun v hv => ⟨fun hm => (h.sd v hm).2, fun hl => Decidable.byContradiction fun hn => by have := h.pnd v hv hl hn; simp at this⟩
  have hup : ∀ v, v < n → fa.getD v 0 < never → fa.getD v 0 + p.getD v 0 ≤ 1048576 * (n - 1 : Int) := fun v hv hl => by
    have h1 := Chn.up hG hp h.chn h.sl v ((hS v hv).2 hl)
    have h2 := h.slen
    have := hG.n1
    omega
  exact
  { l1 := h.l1, l2 := h.l2, top := h.top, src := h.src
    via := fun v hv => ⟨(h.via v hv).1, (h.via v hv).2.1⟩
    up := hup
    bel := fun k hk hl hr => by
      have h1 := h.bel k hk ((hS _ (hG.frL hk)).2 hl) hr (fun f => f)
      refine ⟨h1, ?_⟩
      have h2 := hup _ (hG.frL hk) hl
      have h3 := hp.bd _ (hG.frL hk)
      have h4 := hp.bd _ (hG.toL hk)
      have h5 := hG.cb k hk
      have := hG.n1
      unfold Gr.rc at h1
      unfold never
      omega
    ch := ⟨S, h.sn, hS, h.sl, h.chn⟩
    fin := by
      rcases h.fin with ⟨e1, e2⟩ | ⟨t, e1, e2, e3, e4, e5⟩
      · exact .inl ⟨e1, fun v hv hl => e2 v ((hS v hv).2 hl)⟩
      · exact .inr ⟨t, e1, e2, e3, (hS t e2).1 e4, e5⟩ }
/-- the start: all sources wait -/
theorem NI.start {G : Gr} {n : Nat} {p fa vi : List Int} {H : List Vs} (l1 : fa.length = n) (l2 : vi.length = n) (hf : ∀ v, v < n → fa.getD v 0 = if 0 < G.lf v then 0 else never) (hv : ∀ v, v < n → vi.getD v 0 = -1)
    (h1 : ∀ e, e ∈ H → e.2 = 0 ∧ ∃ v : Nat, e.1 = (v : Int) ∧ v < n ∧ 0 < G.lf v) (h2 : ∀ v : Nat, v < n → 0 < G.lf v → ((v : Int), (0 : Int)) ∈ H) (hn : H.Nodup) : NI G n p fa vi H [] (-1) 0 (fun _ => False) := by
  have hs : ∀ v, v < n → fa.getD v 0 < never → 0 < G.lf v := fun v hv hl => by
    rw [hf v hv] at hl
    split at hl
    · assumption
    · omega
  exact
  { l1 := l1, l2 := l2, sn := List.nodup_nil, sl := fun v h => by simp at h, d0 := by omega
    top := fun v hv => by rw [hf v hv]; unfold never; split <;> omega
    src := fun v hv hl => by rw [hf v hv, if_pos hl]
    via := fun v h => by rw [hv v h]; omega
    lnk := fun v a b => .inl ⟨hs v a b, by rw [hf v a, if_pos (hs v a b)], hv v a⟩
    chn := trivial
    sd := fun v h => by simp at h
    hd := fun e he => by have := (h1 e he).1; omega
    pnd := fun v a b _ => by rw [hf v a, if_pos (hs v a b)]; exact h2 v a (hs v a b)
    ent := fun e he => by
      obtain ⟨e2, v, e1, e3, e4⟩ := h1 e he
      rw [e1, e2, Int.toNat_natCast, hf v e3, if_pos e4]
      refine ⟨⟨by omega, by omega⟩, by omega, by unfold never; omega, fun h => by simp at h⟩
    hn := hn
    bel := fun k _ h => by simp at h
    fin := .inl ⟨rfl, fun v h => by simp at h⟩ }
end Dp
end Go.Proofs.Ytmebpglkeedaoaa
