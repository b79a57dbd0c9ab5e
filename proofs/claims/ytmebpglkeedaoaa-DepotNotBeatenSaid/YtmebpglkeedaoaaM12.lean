/- Plain: arcs of a cost below 0 are filled; what is left falls with each way. -/
import Derived.Test.YtmebpglkeedaoaaM11
namespace Go.Proofs.Ytmebpglkeedaoaa
namespace Dp
/-- the first k edges have been looked at: arcs with a cost below 0 carry all they can -/
structure Sat (N : Net) (G : Gr) (k : Nat) : Prop where
  ok : G.Ok N.sup.length
  fit : Fits N G
  bd : ∀ v, v < N.sup.length → -(268435456 + 1048576 * k : Int) ≤ G.lf v ∧ G.lf v ≤ 268435456 + 1048576 * k
  todo : ∀ i, i < N.arcs.length → k ≤ 2 * i → G.room (2 * i + 1) = 0
  done : ∀ i, i < N.arcs.length → 2 * i < k → (G.cost (2 * i) < 0 → G.room (2 * i) = 0) ∧ (0 ≤ G.cost (2 * i) → G.room (2 * i + 1) = 0)
theorem sat_start {N : Net} {G : Gr} (h : chE N = 0) (hG : G.Ok N.sup.length) (hf : Fits N G) (h0 : ∀ i, i < N.arcs.length → G.room (2 * i + 1) = 0) : Sat N G 0 :=
  { ok := hG, fit := hf
    bd := fun v hv => by
      rw [hf.lf v hv, lv_zero _ _ (fun j hj => h0 j hj)]
      have := net_sup h v hv
      omega
    todo := fun i hi _ => h0 i hi
    done := fun i hi h => by omega }
theorem Sat.no {N : Net} {G : Gr} {k : Nat} (h : Sat N G k) (hc : ¬ (k % 2 = 0 ∧ G.cost k < 0)) : Sat N G (k + 1) :=
  { ok := h.ok, fit := h.fit
    bd := fun v hv => by have := h.bd v hv; omega
    todo := fun i hi hk => h.todo i hi (by omega)
    done := fun i hi hk => by
      by_cases e : 2 * i = k
      · refine ⟨fun hn => ?_, fun _ => h.todo i hi (by omega)⟩
        rw [e] at hn
        exact absurd ⟨by omega, hn⟩ hc
      · exact h.done i hi (by omega) }
theorem Sat.yes {N : Net} {G : Gr} {k : Nat} (h : Sat N G k) (hk : k < G.es.length) (h2 : k % 2 = 0) (hc : G.cost k < 0) : Sat N (G.push1 k (G.room k)) (k + 1) := by
  have hfine := h.ok.fine k hk
  have ha := push1_alike (x := G.room k) hk hfine.2.2
  have hr := push1_room (x := G.room k) hk hfine.2.2
  have hl := push1_lf (x := G.room k) hfine.2.1 hfine.1
  have hrk := h.ok.rm k hk
  have hrt := h.ok.rm (tw k) hfine.2.2
  rw [tw_tw] at hrt
  have hes := h.fit.es
  have hk3 : k < 4096 := by have := h.ok.le; omega
  exact
  { ok :=
    { n1 := h.ok.n1
      ll := by rw [ha.ll]; exact h.ok.ll
      lo := by rw [ha.outs]; exact h.ok.lo
      le := by rw [ha.le]; exact h.ok.le
      ev := by rw [ha.le]; exact h.ok.ev
      to := fun j hj => by rw [ha.to]; rw [ha.le] at hj; exact h.ok.to j hj
      ne := fun j hj => by rw [ha.toA, ha.frA]; rw [ha.le] at hj; exact h.ok.ne j hj
      co := fun j hj => by rw [ha.cost, ha.cost]; rw [ha.le] at hj; exact h.ok.co j hj
      cb := fun j hj => by rw [ha.cost]; rw [ha.le] at hj; exact h.ok.cb j hj
      rm := fun j hj => by
        rw [ha.le] at hj
        have h1 := h.ok.rm j hj
        rw [hr j, hr (tw j), tw_tw]
        by_cases a : j = k
        · subst a
          rw [if_pos rfl, if_neg (tw_ne j)]; omega
        · rw [if_neg a]
          by_cases b : tw j = k
          · have hb : G.room (tw j) = G.room k := by rw [b]
            rw [if_pos b]
            omega
          · rw [if_neg b]; omega
      lb := fun v hv => by
        have := h.bd v hv
        rw [hl v]
        split <;> split <;> omega
      o1 := fun v hv y hy => by
        rw [ha.outs] at hy
        rw [ha.le, ha.frA]
        exact h.ok.o1 v hv y hy
      o2 := fun j hj => by
        rw [ha.le] at hj
        rw [ha.outs, ha.frA]
        exact h.ok.o2 j hj
      o3 := fun v hv => by rw [ha.outs]; exact h.ok.o3 v hv }
    fit := h.fit.push1 h.ok.fine (G.room k) hk
    bd := fun v hv => by
      have := h.bd v hv
      rw [hl v]
      split <;> split <;> omega
    todo := fun i hi hki => by
      have e1 : ¬ 2 * i + 1 = k := by omega
      rw [hr, tw_odd, if_neg e1, if_neg (by omega)]
      have := h.todo i hi (by omega)
      omega
    done := fun i hi hki => by
      rw [ha.cost, hr, hr, tw_even, tw_odd]
      by_cases e : 2 * i = k
      · have e1 : ¬ 2 * i + 1 = k := by omega
        rw [if_pos e, if_neg e1, e]
        exact ⟨fun _ => by omega, fun hp => by omega⟩
      · have e1 : ¬ 2 * i + 1 = k := by omega
        rw [if_neg e, if_neg e1]
        have := h.done i hi (by omega)
        exact ⟨fun hp => by have := this.1 hp; omega, fun hp => by have := this.2 hp; omega⟩ }
theorem Sat.pot {N : Net} {G : Gr} (h : Sat N G G.es.length) : PotD G N.sup.length (List.replicate N.sup.length 0) 0 := by
  have hz : ∀ v, (List.replicate N.sup.length (0 : Int)).getD v 0 = 0 := fun v => by
    simp only [List.getD_eq_getElem?_getD, List.getElem?_replicate]
    split <;> rfl
  have hes := h.fit.es
  have hn := h.ok.n1
  exact
  { len := by simp
    lo := fun v _ => by rw [hz v]; omega
    d := by omega
    need := fun v _ _ => hz v
    rc := fun k hk hro => by
      unfold Gr.rc
      rw [hz, hz]
      rcases (show k = 2 * (k / 2) ∨ k = 2 * (k / 2) + 1 by omega) with e | e
      · generalize k / 2 = i at *
        subst e
        have := (h.done i (by omega) (by omega)).1
        omega
      · generalize k / 2 = i at *
        subst e
        have := (h.done i (by omega) (by omega)).2
        have h2 := h.fit.c0 i (by omega)
        omega
    src := fun v _ _ => hz v }
theorem rest_push {G : Gr} {n : Nat} {vi : List Int} {ks : List Nat} {s t : Nat} {x : Int} (h : Sent G n vi ks s t x) (hG : G.Ok n) : restV (G.pushL ks x).left = restV G.left - x := by
  have h1 := h.ok hG
  have ha := pushL_alike (x := x) h1.1
  have hl := pushL_lf (x := x) h.way hG.fine
  rw [rest_dot, rest_dot, ha.ll, hG.ll]
  have e : dotN (fun _ => 1) (fun v => max 0 ((G.pushL ks x).left.getD v 0)) n = dotN (fun _ => 1) (fun v => max 0 (G.left.getD v 0) - (if v = s then x else 0)) n := dot_congr n (fun v hv => by
    have := hl v
    unfold Gr.lf at this
    rw [this]
    have h2 := h.xs
    have h3 := h.xt
    have h4 := h.x0
    unfold Gr.lf at h2 h3
    by_cases e1 : v = s
    · subst e1
      by_cases e2 : v = t
      · subst e2; omega
      · rw [if_pos rfl, if_neg e2]; omega
    · rw [if_neg e1]
      by_cases e2 : v = t
      · subst e2; rw [if_pos rfl]; omega
      · rw [if_neg e2]; omega)
  rw [e, dot_sub, dot_at, if_pos h.sn]
  omega
/-- the potentials, k of them anew -/
def potI (n : Nat) (p fa : List Int) (d : Int) (k : Nat) : List Int := (List.range n).map fun v => if v < k then p.getD v 0 + min (fa.getD v 0) d else p.getD v 0
theorem potI_len (n : Nat) (p fa : List Int) (d : Int) (k : Nat) : (potI n p fa d k).length = n := by simp [potI]
theorem potI_get {n : Nat} {p fa : List Int} {d : Int} {k v : Nat} (hv : v < n) : (potI n p fa d k).getD v 0 = if v < k then p.getD v 0 + min (fa.getD v 0) d else p.getD v 0 := by
  simp [potI, List.getD_eq_getElem?_getD, hv]
theorem potI_zero {n : Nat} {p : List Int} (hp : p.length = n) (fa : List Int) (d : Int) : p = potI n p fa d 0 := by
  refine list_eq (by rw [potI_len, hp]) (fun v hv => ?_)
  rw [potI_len] at hv
  rw [potI_get hv, if_neg (Nat.not_lt_zero _)]
theorem potI_end (n : Nat) (p fa : List Int) (d : Int) : potI n p fa d n = potN n p fa d := by
  refine list_eq (by simp [potI, potN]) (fun v hv => ?_)
  have hv' : v < n := by simpa [potN] using hv
  rw [potI_get hv', potN_get hv', if_pos hv']
theorem potI_succ {n : Nat} {p fa : List Int} {d : Int} {k : Nat} (hk : k < n) : (potI n p fa d k).set k (p.getD k 0 + min (fa.getD k 0) d) = potI n p fa d (k + 1) := by
  refine list_eq (by simp [potI_len]) (fun v hv => ?_)
  rw [potI_len] at hv
  rw [getD_setI _ _ _ _ (by rw [potI_len]; exact hk), potI_get hv, potI_get hv]
  by_cases e : v = k
  · subst e; rw [if_pos rfl, if_pos (Nat.lt_succ_self v)]
  · rw [if_neg e]
    by_cases h : v < k
    · rw [if_pos h, if_pos (show v < k + 1 by omega)]
    · rw [if_neg h, if_neg (show ¬ v < k + 1 by omega)]
end Dp
end Go.Proofs.Ytmebpglkeedaoaa
