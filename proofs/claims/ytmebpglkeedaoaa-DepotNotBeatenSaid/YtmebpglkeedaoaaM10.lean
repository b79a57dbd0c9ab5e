/- Plain: a graph is that of a net; what the solver's end proves. -/
import Derived.Test.YtmebpglkeedaoaaM9
namespace Go.Proofs.Ytmebpglkeedaoaa
namespace Dp
/-- a graph is that of net N on the way to a flow -/
structure Fits (N : Net) (G : Gr) : Prop where
  es : G.es.length = 2 * N.arcs.length
  ll : G.left.length = N.sup.length
  t0 : ∀ i, i < N.arcs.length → G.toA (2 * i) = toN N i ∧ G.toA (2 * i + 1) = frN N i
  c0 : ∀ i, i < N.arcs.length → G.cost (2 * i) = (N.arcs.getD i default).cost ∧ G.cost (2 * i + 1) = -(N.arcs.getD i default).cost
  r0 : ∀ i, i < N.arcs.length → G.room (2 * i) + G.room (2 * i + 1) = (N.arcs.getD i default).cap
  lf : ∀ v, v < N.sup.length → G.lf v = lv N (fun j => G.room (2 * j + 1)) N.arcs.length v
theorem tw_even (i : Nat) : tw (2 * i) = 2 * i + 1 := by unfold tw; rw [if_pos (by omega)]
theorem tw_odd (i : Nat) : tw (2 * i + 1) = 2 * i := by unfold tw; rw [if_neg (by omega)]; omega
theorem Fits.fr {N : Net} {G : Gr} (h : Fits N G) (i : Nat) (hi : i < N.arcs.length) : G.frA (2 * i) = frN N i ∧ G.frA (2 * i + 1) = toN N i := by
  unfold Gr.frA
  rw [tw_even, tw_odd]
  exact ⟨(h.t0 i hi).2, (h.t0 i hi).1⟩
theorem Fits.push1 {N : Net} {G : Gr} (h : Fits N G) (hf : Fine G) {k : Nat} (x : Int) (hk : k < G.es.length) : Fits N (G.push1 k x) := by
  have hfk := hf k hk
  have ha := push1_alike (x := x) hk hfk.2.2
  have hr := push1_room (x := x) hk hfk.2.2
  have hl := push1_lf (x := x) hfk.2.1 hfk.1
  refine ⟨by rw [ha.le]; exact h.es, by rw [ha.ll]; exact h.ll, fun i hi => by rw [ha.toA, ha.toA]; exact h.t0 i hi, fun i hi => by rw [ha.cost, ha.cost]; exact h.c0 i hi, fun i hi => ?_, fun v hv => ?_⟩
  · have := h.r0 i hi
    rw [hr, hr, tw_even, tw_odd]
    split <;> split <;> omega
  · rw [hl v, h.lf v hv]
    have hes := h.es
    have hi : k / 2 < N.arcs.length := by omega
    rcases (show k = 2 * (k / 2) ∨ k = 2 * (k / 2) + 1 by omega) with e | e
    · generalize k / 2 = i at *
      subst e
      have hc := lv_change (N := N) (f := fun j => G.room (2 * j + 1)) (f' := fun j => (G.push1 (2 * i) x).room (2 * j + 1)) (i := i) (d := x)
        (by show (G.push1 (2 * i) x).room (2 * i + 1) = G.room (2 * i + 1) + x; rw [hr, tw_odd, if_neg (by omega), if_pos rfl]; omega) (fun j hj => by show (G.push1 (2 * i) x).room (2 * j + 1) = G.room (2 * j + 1); rw [hr, tw_odd, if_neg (by omega), if_neg (by omega)]; omega) N.arcs.length v
      rw [hc, if_pos hi, (h.t0 i hi).1, (h.fr i hi).1]
      omega
    · generalize k / 2 = i at *
      subst e
      have hc := lv_change (N := N) (f := fun j => G.room (2 * j + 1)) (f' := fun j => (G.push1 (2 * i + 1) x).room (2 * j + 1)) (i := i) (d := -x)
        (by show (G.push1 (2 * i + 1) x).room (2 * i + 1) = G.room (2 * i + 1) + -x; rw [hr, tw_odd, if_pos rfl, if_neg (by omega)]; omega) (fun j hj => by show (G.push1 (2 * i + 1) x).room (2 * j + 1) = G.room (2 * j + 1); rw [hr, tw_odd, if_neg (by omega), if_neg (by omega)]; omega) N.arcs.length v
      rw [hc, if_pos hi, (h.t0 i hi).2, (h.fr i hi).2]
      split <;> split <;> omega
theorem Fits.pushL {N : Net} {x : Int} : ∀ {ks : List Nat} {G : Gr}, Fits N G → Fine G → (∀ k, k ∈ ks → k < G.es.length) → Fits N (G.pushL ks x)
  | [], _, h, _, _ => h
  | k :: ks, G, h, hf, hk => by
    have hk0 := hk k (by simp)
    have ha := push1_alike (x := x) hk0 (hf k hk0).2.2
    exact Fits.pushL (ks := ks) (h.push1 hf x hk0) (hf.alike ha) (fun j hj => by rw [ha.le]; exact hk j (by simp [hj]))
/-- the flow of a graph -/
def flowL (N : Net) (G : Gr) : List Int := (List.range N.arcs.length).map fun i => G.room (2 * i + 1)
theorem flowL_get {N : Net} {G : Gr} {i : Nat} (hi : i < N.arcs.length) : (flowL N G).getD i 0 = G.room (2 * i + 1) := by
  simp [flowL, List.getD_eq_getElem?_getD, hi]
theorem flowL_len (N : Net) (G : Gr) : (flowL N G).length = N.arcs.length := by simp [flowL]
theorem lv_congr {N : Net} {f g : Nat → Int} : ∀ (k : Nat) (v : Nat), (∀ j, j < k → f j = g j) → lv N f k v = lv N g k v
  | 0, _, _ => rfl
  | k + 1, v, h => by simp only [lv]; rw [lv_congr k v (fun j hj => h j (by omega)), h k (by omega)]
/-- what is left of all supplies -/
def restV (l : List Int) : Int := sum (l.map (max 0))
theorem sum_dot : ∀ l : List Int, sum l = dotN (fun _ => 1) (fun v => l.getD v 0) l.length := by
  intro l
  have : ∀ k, k ≤ l.length → sum (l.take k) = dotN (fun _ => 1) (fun v => l.getD v 0) k := by
    intro k
    induction k with
    | zero => intro _; simp [sum, dotN]
    | succ k ih =>
      intro hk
      rw [sum_take l k (by omega), ih (by omega)]
      simp only [dotN]; omega
  have h := this l.length (Nat.le_refl _)
  rwa [List.take_length] at h
theorem dot_zero {g : Nat → Int} : ∀ n : Nat, (∀ v, v < n → 0 ≤ g v) → dotN (fun _ => 1) g n = 0 → ∀ v, v < n → g v = 0
  | 0, _, _, v, hv => absurd hv (Nat.not_lt_zero _)
  | n + 1, h, e, v, hv => by
    have h1 := dot_le (q := fun _ => 1) (g := g) n (fun v hv => by have := h v (by omega); omega)
    have h2 := h n (by omega)
    simp only [dotN] at e
    rcases (show v < n ∨ v = n by omega) with h3 | rfl
    · exact dot_zero n (fun v hv => h v (by omega)) (by omega) v h3
    · omega
theorem rest_dot (l : List Int) : restV l = dotN (fun _ => 1) (fun v => max 0 (l.getD v 0)) l.length := by
  unfold restV
  rw [sum_dot, List.length_map]
  exact dot_congr _ (fun v hv => by rw [getD_map (max 0) l v hv])
theorem rest_nn (l : List Int) : 0 ≤ restV l := by
  rw [rest_dot]
  exact dot_le _ (fun v _ => by omega)
theorem net_zero {N : Net} (h : chE N = 0) : sum N.sup = 0 := by
  have h2 := (chE_zero h).2
  simp only [okB, Bool.and_eq_true, decide_eq_true_eq] at h2
  exact h2.2.2.1
/-- the sum of what is left is 0 -/
theorem left_zero {N : Net} {G : Gr} (h : chE N = 0) (hf : Fits N G) : dotN (fun _ => 1) G.lf N.sup.length = 0 := by
  rw [dot_congr _ hf.lf, lv_dot h _ _ _ (Nat.le_refl _), ← sum_dot, net_zero h]
  have : ∀ (f : Nat → Int) k, arcS f (fun _ => (1 : Int) - 1) k = 0 := fun f k => by
    induction k with
    | zero => rfl
    | succ k ih => simp only [arcS]; rw [ih]; simp
  rw [this]; rfl
theorem room_cap {N : Net} {G : Gr} {n : Nat} (hG : G.Ok n) (hf : Fits N G) (i : Nat) (hi : i < N.arcs.length) : 0 ≤ G.room (2 * i) ∧ 0 ≤ G.room (2 * i + 1) := by
  have h1 := hG.rm (2 * i) (by rw [hf.es]; omega)
  have h2 := hG.rm (2 * i + 1) (by rw [hf.es]; omega)
  exact ⟨h1.1, h2.1⟩
/-- nothing is left: a flow, and its cost is what the potentials prove -/
theorem end_flow {N : Net} {G : Gr} {p : List Int} (h : chE N = 0) (hG : G.Ok N.sup.length) (hf : Fits N G) (hp : ∀ k, k < G.es.length → 0 < G.room k → 0 ≤ G.rc p k) (h0 : restV G.left = 0) :
    isFlow N (flowL N G) = true ∧ costK N (flowL N G) N.arcs.length = prA N p N.arcs.length := by
  have hneg : ∀ v, v < N.sup.length → G.lf v ≤ 0 := fun v hv => by
    rw [rest_dot, hf.ll] at h0
    have := dot_zero _ (fun v _ => by omega) h0 v hv
    unfold Gr.lf
    omega
  have hz : ∀ v, v < N.sup.length → G.lf v = 0 := fun v hv => by
    have h1 := left_zero h hf
    have h2 : dotN (fun _ => 1) (fun v => - G.lf v) N.sup.length = 0 := by
      have e : (fun v => - G.lf v) = fun v => (fun _ => (0 : Int)) v - G.lf v := by funext v; simp
      rw [e, dot_sub, h1]
      generalize N.sup.length = n
      induction n with
      | zero => rfl
      | succ n ih => simp only [dotN]; omega
    have := dot_zero _ (fun v hv => by have := hneg v hv; omega) h2 v hv
    omega
  have hfl : isFlow N (flowL N G) = true := isFlow_yes (flowL_len N G) (fun k hk => by
    rw [flowL_get hk]
    have := room_cap hG hf k hk
    have := hf.r0 k hk
    omega) (fun v hv => by
    rw [leftK_lv h _ _ (Nat.le_refl _), lv_congr (g := fun j => G.room (2 * j + 1)) _ _ (fun j hj => flowL_get hj), ← hf.lf v hv]
    exact hz v hv)
  refine ⟨hfl, strong h hfl (fun j hj => ?_)⟩
  rw [flowL_get hj]
  have h1 := hf.r0 j hj
  have h2 := hf.c0 j hj
  have h3 := hf.t0 j hj
  have h4 := hf.fr j hj
  have h5 := hf.es
  constructor
  · intro hl
    have := hp (2 * j) (by omega) (by omega)
    unfold Gr.rc at this
    rw [h2.1, h3.1, h4.1] at this
    exact this
  · intro hl
    have := hp (2 * j + 1) (by omega) hl
    unfold Gr.rc at this
    rw [h2.2, h3.2, h4.2] at this
    unfold rcN
    omega
/-- the nodes that are reached, as a list that climbs -/
def cutL (n : Nat) (C : Nat → Bool) : List Int := ((List.range n).filter C).map (fun (v : Nat) => (v : Int))
theorem cutL_in {n : Nat} {C : Nat → Bool} {v : Nat} (hv : v < n) : inK (cutL n C) (cutL n C).length (v : Int) = C v := by
  unfold inK cutL
  rw [List.take_length]
  by_cases h : C v = true
  · rw [h, decide_eq_true_eq]
    exact List.mem_map.2 ⟨v, by simp [hv, h], rfl⟩
  · have h' : C v = false := by simpa using h
    rw [h', decide_eq_false_iff_not]
    intro hm
    obtain ⟨u, hu, e⟩ := List.mem_map.1 hm
    obtain rfl : u = v := by omega
    simp [h'] at hu
theorem cutL_ok {n : Nat} {C : Nat → Bool} : ∀ k, k < (cutL n C).length → cutAt n (cutL n C) k = true := by
  intro k hk
  have hlen : (cutL n C).length = ((List.range n).filter C).length := by simp [cutL]
  have hget : ∀ j, j < ((List.range n).filter C).length → (cutL n C).getD j 0 = (((List.range n).filter C).getD j 0 : Int) := fun j hj => by
    simp [cutL, List.getD_eq_getElem?_getD, hj]
  have hs : ((List.range n).filter C).Pairwise (· < ·) := List.Pairwise.filter _ List.pairwise_lt_range
  rw [hlen] at hk
  rw [cutAt_iff]
  have hm : ((List.range n).filter C).getD k 0 < n := by
    rw [List.getD_eq_getElem?_getD, List.getElem?_eq_getElem hk]
    have := List.getElem_mem hk
    have := (List.mem_filter.1 this).1
    simpa using this
  refine ⟨by rw [hget k hk]; omega, by rw [hget k hk]; omega, fun h0 => ?_⟩
  rw [hget k hk, hget (k - 1) (by omega)]
  have := List.pairwise_iff_getElem.1 hs (k - 1) k (by omega) hk (by omega)
  rw [List.getD_eq_getElem?_getD, List.getElem?_eq_getElem (show k - 1 < _ by omega), List.getD_eq_getElem?_getD, List.getElem?_eq_getElem hk]
  simp only [Option.getD_some]
  omega
theorem lkR_dot (N : Net) (c : List Int) (k : Nat) : ∀ j, lkR N c k j = dotN (fun v => if inK c k v = true then 1 else 0) (fun v => N.sup.getD v 0) j
  | 0 => rfl
  | j + 1 => by
    simp only [lkR, dotN]
    rw [lkR_dot N c k j]
    split <;> simp
theorem lkA_arc (N : Net) (c : List Int) : ∀ k, lkA N c k = lkS N c c.length - arcS (fun _ => 1) (fun j => if inK c c.length (N.arcs.getD j default).fr = true ∧ inK c c.length (N.arcs.getD j default).to = false then (N.arcs.getD j default).cap else 0) k
  | 0 => by simp [lkA, arcS]
  | k + 1 => by simp only [lkA, arcS]; rw [lkA_arc N c k]; omega
theorem net_ends {N : Net} (h : chE N = 0) (j : Nat) (hj : j < N.arcs.length) : (N.arcs.getD j default).fr = (frN N j : Int) ∧ (N.arcs.getD j default).to = (toN N j : Int) ∧ frN N j < N.sup.length ∧ toN N j < N.sup.length := by
  obtain ⟨a1, a2, _⟩ := net_arc h j hj
  unfold frN toN
  omega
/-- a cut that lacks something: there is no flow -/
theorem cut_none {N : Net} {c : List Int} (h : chE N = 0) (hc : ∀ k, k < c.length → cutAt N.sup.length c k = true) (hl : 0 < lkA N c N.arcs.length) (fl : List Int) : isFlow N fl = false := by
  cases hb : isFlow N fl
  · rfl
  · exfalso
    have h1 := flow_left h hb
    have h2 := cut_flow (C := fun v => inK c c.length v) (f := fun j => fl.getD j 0) h
    rw [dot_congr (h := fun _ => 0) _ h1.1, ← lkR_dot, lkR_eq _ (Nat.le_refl _) hc] at h2
    have h3 : dotN (fun v => if inK c c.length (v : Int) = true then (1 : Int) else 0) (fun _ => 0) N.sup.length = 0 := by
      generalize N.sup.length = n
      induction n with
      | zero => rfl
      | succ n ih => simp only [dotN]; rw [ih]; simp
    rw [h3] at h2
    rw [lkA_arc] at hl
    have h4 := arc_le (f := fun j => - fl.getD j 0) (g := fun j => (if inK c c.length (toN N j : Int) = true then (1 : Int) else 0) - (if inK c c.length (frN N j : Int) = true then 1 else 0))
      (h := fun j => - (if inK c c.length (N.arcs.getD j default).fr = true ∧ inK c c.length (N.arcs.getD j default).to = false then (N.arcs.getD j default).cap else 0)) N.arcs.length
    have neg1 : ∀ (f g : Nat → Int) k, arcS (fun j => - f j) g k = - arcS f g k := fun f g k => by
      induction k with
      | zero => rfl
      | succ k ih => simp only [arcS]; rw [ih, Int.neg_mul]; omega
    have neg2 : ∀ (g : Nat → Int) k, arcS (fun _ => 1) (fun j => - g j) k = - arcS (fun _ => 1) g k := fun g k => by
      induction k with
      | zero => rfl
      | succ k ih => simp only [arcS]; rw [ih]; omega
    have h5 : arcS (fun j => fl.getD j 0) (fun j => (if inK c c.length (toN N j : Int) = true then (1 : Int) else 0) - (if inK c c.length (frN N j : Int) = true then 1 else 0)) N.arcs.length ≥ - arcS (fun _ => 1) (fun j => if inK c c.length (N.arcs.getD j default).fr = true ∧ inK c c.length (N.arcs.getD j default).to = false then (N.arcs.getD j default).cap else 0) N.arcs.length := by
      have := arc_le (f := fun j => fl.getD j 0) (g := fun j => (if inK c c.length (toN N j : Int) = true then (1 : Int) else 0) - (if inK c c.length (frN N j : Int) = true then 1 else 0))
        (h := fun j => - (if inK c c.length (N.arcs.getD j default).fr = true ∧ inK c c.length (N.arcs.getD j default).to = false then (N.arcs.getD j default).cap else 0)) N.arcs.length (fun j hj => by
          have e := net_ends h j hj
          have b := h1.2 j hj
          rw [e.1, e.2.1]
          generalize fl.getD j 0 = f at *
          generalize (N.arcs.getD j default).cap = ca at *
          cases hA : inK c c.length (frN N j : Int) <;> cases hB : inK c c.length (toN N j : Int) <;> simp <;> omega)
      rw [neg2] at this
      exact this
    omega
/-- something is left: the nodes that are reached are a cut that lacks just that -/
theorem end_cut {N : Net} {G : Gr} {p fa vi : List Int} (h : chE N = 0) (hG : G.Ok N.sup.length) (hf : Fits N G) (hr : NR G N.sup.length p fa vi (-1)) :
    lkA N (cutL N.sup.length (fun v => decide (fa.getD v 0 < never))) N.arcs.length = restV G.left := by
  have hfin : ∀ v, v < N.sup.length → fa.getD v 0 < never → 0 ≤ G.lf v := by
    rcases hr.fin with ⟨_, h1⟩ | ⟨t, e, _⟩
    · exact h1
    · omega
  generalize hC : (fun v => decide (fa.getD v 0 < never)) = C
  have hCv : ∀ v, C v = decide (fa.getD v 0 < never) := fun v => by rw [← hC]
  have h1 := cut_flow (C := C) (f := fun j => G.room (2 * j + 1)) h
  have hc := cutL_ok (n := N.sup.length) (C := C)
  have h2 : dotN (fun v => if C v = true then 1 else 0) (lv N (fun j => G.room (2 * j + 1)) N.arcs.length) N.sup.length = restV G.left := by
    rw [rest_dot, hf.ll]
    have : ∀ k, k ≤ N.sup.length → dotN (fun v => if C v = true then 1 else 0) (lv N (fun j => G.room (2 * j + 1)) N.arcs.length) k = dotN (fun _ => 1) (fun v => max 0 (G.left.getD v 0)) k := by
      intro k
      induction k with
      | zero => intro _; rfl
      | succ k ih =>
        intro hk
        simp only [dotN]
        rw [ih (by omega), ← hf.lf k (by omega)]
        have h3 := hfin k (by omega)
        have h4 := hr.src k (by omega)
        have e : G.left.getD k 0 = G.lf k := rfl
        rw [e, hCv]
        by_cases h5 : fa.getD k 0 < never
        · rw [if_pos (by simpa using h5)]
          have := h3 h5
          omega
        · rw [if_neg (by simpa using h5)]
          have : ¬ 0 < G.lf k := fun hp => by have := h4 hp; unfold never at h5; omega
          omega
    exact this _ (Nat.le_refl _)
  rw [h2] at h1
  rw [lkA_arc, ← lkR_eq _ (Nat.le_refl _) hc, lkR_dot]
  have e1 : dotN (fun v => if inK (cutL N.sup.length C) (cutL N.sup.length C).length (v : Int) = true then (1 : Int) else 0) (fun v => N.sup.getD v 0) N.sup.length = dotN (fun v => if C v = true then 1 else 0) (fun v => N.sup.getD v 0) N.sup.length := by
    have : ∀ k, k ≤ N.sup.length → dotN (fun v => if inK (cutL N.sup.length C) (cutL N.sup.length C).length (v : Int) = true then (1 : Int) else 0) (fun v => N.sup.getD v 0) k = dotN (fun v => if C v = true then 1 else 0) (fun v => N.sup.getD v 0) k := by
      intro k
      induction k with
      | zero => intro _; rfl
      | succ k ih => intro hk; simp only [dotN]; rw [ih (by omega), cutL_in (by omega)]
    exact this _ (Nat.le_refl _)
  rw [e1, h1]
  have neg2 : ∀ (g : Nat → Int) k, arcS (fun _ => 1) (fun j => - g j) k = - arcS (fun _ => 1) g k := fun g k => by
    induction k with
    | zero => rfl
    | succ k ih => simp only [arcS]; rw [ih]; omega
  have h6 := arc_congr (f := fun j => G.room (2 * j + 1)) (g := fun j => (if C (toN N j) = true then (1 : Int) else 0) - (if C (frN N j) = true then 1 else 0))
    (h := fun j => - (if inK (cutL N.sup.length C) (cutL N.sup.length C).length (N.arcs.getD j default).fr = true ∧ inK (cutL N.sup.length C) (cutL N.sup.length C).length (N.arcs.getD j default).to = false then (N.arcs.getD j default).cap else 0)) N.arcs.length (fun j hj => by
      have e := net_ends h j hj
      have b := hf.r0 j hj
      have rc := room_cap hG hf j hj
      have t := hf.t0 j hj
      have f := hf.fr j hj
      have es := hf.es
      rw [e.1, e.2.1, cutL_in e.2.2.1, cutL_in e.2.2.2]
      have k1 := hr.bel (2 * j) (by omega)
      have k2 := hr.bel (2 * j + 1) (by omega)
      rw [f.1, t.1] at k1
      rw [f.2, t.2] at k2
      generalize (N.arcs.getD j default).cap = ca at b ⊢
      have c1 := hCv (frN N j)
      have c2 := hCv (toN N j)
      by_cases a1 : fa.getD (frN N j) 0 < never <;> by_cases a2 : fa.getD (toN N j) 0 < never <;> simp only [a1, a2, decide_true, decide_false] at c1 c2 <;> rw [c1, c2] <;> simp
      · have : ¬ 0 < G.room (2 * j) := fun hp => a2 ((k1 a1 hp).2)
        omega
      · have : ¬ 0 < G.room (2 * j + 1) := fun hp => a1 ((k2 a2 hp).2)
        omega)
  rw [neg2] at h6
  omega
end Dp
end Go.Proofs.Ytmebpglkeedaoaa
