/- Plain: the search's start and its measure. -/
import Derived.Test.YtmebpglkeedaoaaM6
namespace Go.Proofs.Ytmebpglkeedaoaa
namespace Dp
/-- the lengths and the ways behind k nodes of the start -/
def farI (G : Gr) (n k : Nat) : List Int := (List.range n).map fun v => if v < k then (if 0 < G.lf v then 0 else never) else 0
def viaI (n k : Nat) : List Int := (List.range n).map fun v => if v < k then -1 else 0
theorem farI_len (G : Gr) (n k : Nat) : (farI G n k).length = n := by simp [farI]
theorem viaI_len (n k : Nat) : (viaI n k).length = n := by simp [viaI]
theorem farI_get {G : Gr} {n k v : Nat} (hv : v < n) : (farI G n k).getD v 0 = if v < k then (if 0 < G.lf v then 0 else never) else 0 := by
  simp [farI, List.getD_eq_getElem?_getD, hv]
theorem viaI_get {n k v : Nat} (hv : v < n) : (viaI n k).getD v 0 = if v < k then -1 else 0 := by
  simp [viaI, List.getD_eq_getElem?_getD, hv]
theorem list_eq {a b : List Int} (hl : a.length = b.length) (h : ∀ v, v < b.length → a.getD v 0 = b.getD v 0) : a = b := by
  apply List.ext_getElem hl
  intro i h1 h2
  have := h i h2
  simpa [List.getD_eq_getElem?_getD, h1, h2] using this
theorem farI_zero (G : Gr) (n : Nat) : List.replicate n 0 = farI G n 0 := by
  refine list_eq (by simp [farI_len]) (fun v hv => ?_)
  rw [farI_len] at hv
  rw [farI_get hv]
  simp [List.getD_eq_getElem?_getD, hv]
theorem viaI_zero (n : Nat) : List.replicate n 0 = viaI n 0 := by
  refine list_eq (by simp [viaI_len]) (fun v hv => ?_)
  rw [viaI_len] at hv
  rw [viaI_get hv]
  simp [List.getD_eq_getElem?_getD, hv]
theorem farI_succ (G : Gr) (n k : Nat) (hk : k < n) : (farI G n k).set k (if 0 < G.lf k then 0 else never) = farI G n (k + 1) := by
  refine list_eq (by simp [farI_len]) (fun v hv => ?_)
  rw [farI_len] at hv
  rw [getD_setI _ _ _ _ (by rw [farI_len]; exact hk), farI_get hv, farI_get hv]
  by_cases e : v = k
  · subst e; rw [if_pos rfl, if_pos (Nat.lt_succ_self v)]
  · rw [if_neg e]
    by_cases h : v < k
    · rw [if_pos h, if_pos (show v < k + 1 by omega)]
    · rw [if_neg h, if_neg (show ¬ v < k + 1 by omega)]
theorem viaI_succ (n k : Nat) (hk : k < n) : (viaI n k).set k (-1) = viaI n (k + 1) := by
  refine list_eq (by simp [viaI_len]) (fun v hv => ?_)
  rw [viaI_len] at hv
  rw [getD_setI _ _ _ _ (by rw [viaI_len]; exact hk), viaI_get hv, viaI_get hv]
  by_cases e : v = k
  · subst e; rw [if_pos rfl, if_pos (Nat.lt_succ_self v)]
  · rw [if_neg e]
    by_cases h : v < k
    · rw [if_pos h, if_pos (show v < k + 1 by omega)]
    · rw [if_neg h, if_neg (show ¬ v < k + 1 by omega)]
/-- the queue behind k nodes of the start -/
def StI (G : Gr) (k : Nat) (H : List Vs) : Prop := (∀ e, e ∈ H → e.2 = 0 ∧ ∃ v : Nat, e.1 = (v : Int) ∧ v < k ∧ 0 < G.lf v) ∧ (∀ v : Nat, v < k → 0 < G.lf v → ((v : Int), (0 : Int)) ∈ H) ∧ H.Nodup ∧ Heap H ∧ H.length ≤ k
theorem StI.start (G : Gr) : StI G 0 [] := ⟨fun e h => by simp at h, fun v h => absurd h (Nat.not_lt_zero _), List.nodup_nil, heap_nil, Nat.le_refl _⟩
theorem StI.no {G : Gr} {k : Nat} {H : List Vs} (h : StI G k H) (hl : ¬ 0 < G.lf k) : StI G (k + 1) H :=
  ⟨fun e he => by obtain ⟨a, v, b, c, d⟩ := h.1 e he; exact ⟨a, v, b, by omega, d⟩, fun v hv hl' => by
    rcases (show v < k ∨ v = k by omega) with h1 | rfl
    · exact h.2.1 v h1 hl'
    · exact absurd hl' hl, h.2.2.1, h.2.2.2.1, by have := h.2.2.2.2; omega⟩
theorem StI.yes {G : Gr} {k : Nat} {H H' : List Vs} (h : StI G k H) (hl : 0 < G.lf k) (hp : H'.Perm (((k : Int), (0 : Int)) :: H)) (hh : Heap H') : StI G (k + 1) H' := by
  refine ⟨fun e he => ?_, fun v hv hl' => ?_, ?_, hh, ?_⟩
  · rcases List.mem_cons.1 (hp.mem_iff.1 he) with rfl | he
    · exact ⟨rfl, k, rfl, by omega, hl⟩
    · obtain ⟨a, v, b, c, d⟩ := h.1 e he; exact ⟨a, v, b, by omega, d⟩
  · rw [hp.mem_iff]
    rcases (show v < k ∨ v = k by omega) with h1 | rfl
    · exact List.mem_cons_of_mem _ (h.2.1 v h1 hl')
    · simp
  · rw [hp.nodup_iff, List.nodup_cons]
    refine ⟨fun hm => ?_, h.2.2.1⟩
    obtain ⟨_, v, b, c, _⟩ := h.1 _ hm
    simp only at b
    omega
  · have := hp.length_eq
    have := h.2.2.2.2
    simp at *
    omega
theorem StI.ni {G : Gr} {n : Nat} {p : List Int} {H : List Vs} (h : StI G n H) : NI G n p (farI G n n) (viaI n n) H [] (-1) 0 (fun _ => False) :=
  NI.start (farI_len _ _ _) (viaI_len _ _) (fun v hv => by rw [farI_get hv, if_pos hv]) (fun v hv => by rw [viaI_get hv, if_pos hv]) h.1 h.2.1 h.2.2.1
theorem sum_set : ∀ (l : List Int) (i : Nat) (d : Int), i < l.length → sum (l.set i d) = sum l - l.getD i 0 + d
  | [], _, _, h => absurd h (Nat.not_lt_zero _)
  | x :: l, 0, d, _ => by simp [sum]; omega
  | x :: l, i + 1, d, h => by
    have := sum_set l i d (by simpa using h)
    simp only [List.set_cons_succ, sum, List.getD_cons_succ, this]
    omega
theorem sum_nn {l : List Int} (h : ∀ v, v < l.length → 0 ≤ l.getD v 0) : 0 ≤ sum l := sum_nonneg l (fun x hx => by
  obtain ⟨i, hi, rfl⟩ := List.getElem_of_mem hx
  simpa [List.getD_eq_getElem?_getD, hi] using h i hi)
/-- the measure of the search -/
def mu (fa : List Int) (H : List Vs) : Nat := 2 * (sum fa).toNat + H.length
theorem mu_relax {fa : List Int} {H H' : List Vs} {v : Nat} {d : Int} {e : Vs} (hv : v < fa.length) (h0 : ∀ j, j < fa.length → 0 ≤ fa.getD j 0) (hd : 0 ≤ d) (hlt : d < fa.getD v 0) (hp : H'.Perm (e :: H)) : mu (fa.set v d) H' ≤ mu fa H := by
  have h1 := sum_set fa v d hv
  have h2 := sum_nn h0
  have h3 : 0 ≤ sum (fa.set v d) := sum_nn (fun j hj => by
    rw [List.length_set] at hj
    rw [getD_setI fa v j d hv]
    split
    · exact hd
    · exact h0 j hj)
  have h4 := hp.length_eq
  unfold mu
  simp only [List.length_cons] at h4
  omega
theorem mu_pop {fa : List Int} {H R : List Vs} {e : Vs} (hp : (e :: R).Perm H) : mu fa R + 1 = mu fa H := by
  have h4 := hp.length_eq
  unfold mu
  simp only [List.length_cons] at h4
  omega
/-- what is left of a node's edges from place j on -/
def exJ (l : List Int) (j : Nat) (k : Nat) : Prop := (k : Int) ∈ l.drop j
theorem exJ_step {l : List Int} {j k : Nat} (hj : j < l.length) (hk : l.getD j 0 = (k : Int)) (i : Nat) (h : exJ l j i) : exJ l (j + 1) i ∨ i = k := by
  unfold exJ at *
  rw [List.drop_eq_getElem_cons hj] at h
  have : l[j] = (k : Int) := by simpa [List.getD_eq_getElem?_getD, hj] using hk
  rw [this] at h
  rcases List.mem_cons.1 h with h | h
  · right; omega
  · exact .inl h
theorem exJ_end {l : List Int} {k : Nat} (h : exJ l l.length k) : False := by unfold exJ at h; simp at h
theorem edge_at {G : Gr} {n : Nat} (hG : G.Ok n) {u j : Nat} (hu : u < n) (hj : j < (G.outs.getD u []).length) : ∃ k : Nat, (G.outs.getD u []).getD j 0 = (k : Int) ∧ k < G.es.length ∧ G.frA k = u := by
  have hm : (G.outs.getD u []).getD j 0 ∈ G.outs.getD u [] := by
    rw [List.getD_eq_getElem?_getD (l := G.outs.getD u []), List.getElem?_eq_getElem hj]
    exact List.getElem_mem hj
  have h1 := hG.o1 u hu _ hm
  exact ⟨((G.outs.getD u []).getD j 0).toNat, by omega, by omega, h1.2.2⟩
end Dp
end Go.Proofs.Ytmebpglkeedaoaa
