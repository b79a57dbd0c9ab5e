/- Plain: what a cut lacks. Plain: what flows in a graph; weak duality; the end of the solver. Plain: pushing along a way, and the potentials behind a search. Plain: a graph is that of a net; what the solver's end proves. The contracts of graph.push, send, rest and flow of depot. The contract of graph.send of depot. The contracts of graph.rest and graph.flow of depot. Plain: the graph of a net, arc by arc. General: append leaves what the old slice held; the memory of newGraph of depot. Steps of newGraph of depot in memory. General: a region that draws its order, where what is held may lapse behind a certain operation. The contract of newGraph of depot. Plain: arcs of a cost below 0 are filled; what is left falls with each way. The contract of graph.least of depot. The contract of Least of depot. Small functions that Assign leans on. (printed by gen_a1.py) The builder's add, in the world of the prices of an assignment. -/
import Derived.Test.YtmebpglkeedaoaaL2
import Derived.Deep.RegionHeld3
import Derived.Deep.DrawnRows
import Derived.WalkKit
import Derived.Deep.CutRange
import Derived.Deep.Cut
namespace Go.Proofs.Ytmebpglkeedaoaa
namespace Dp
/-- place k of a cut is right: in the net, and above the place before -/
def cutAt (n : Nat) (c : List Int) (k : Nat) : Bool := decide (0 ≤ c.getD k 0 ∧ c.getD k 0 < n ∧ (0 < k → c.getD (k - 1) 0 < c.getD k 0))
def cutB (n : Nat) (c : List Int) : Bool := (List.range c.length).all (cutAt n c)
/-- node i lies in the first k of c -/
def inK (c : List Int) (k : Nat) (i : Int) : Bool := decide (i ∈ c.take k)
def lkS (N : Net) (c : List Int) : Nat → Int
  | 0 => 0
  | k + 1 => lkS N c k + N.sup.getD (c.getD k 0).toNat 0
/-- the same sum by nodes -/
def lkR (N : Net) (c : List Int) (k : Nat) : Nat → Int
  | 0 => 0
  | j + 1 => lkR N c k j + if inK c k j = true then N.sup.getD j 0 else 0
def lkA (N : Net) (c : List Int) : Nat → Int
  | 0 => lkS N c c.length
  | k + 1 => lkA N c k - if inK c c.length (N.arcs.getD k default).fr = true ∧ inK c c.length (N.arcs.getD k default).to = false then (N.arcs.getD k default).cap else 0
def lkE (N : Net) (c : List Int) : Int := if chE N = 0 then (if cutB N.sup.length c = true then 0 else 3) else chE N
def lkV (N : Net) (c : List Int) : Int := if lkE N c = 0 then max 0 (lkA N c N.arcs.length) else 0
theorem cutAt_iff {n : Nat} {c : List Int} {k : Nat} : cutAt n c k = true ↔ 0 ≤ c.getD k 0 ∧ c.getD k 0 < n ∧ (0 < k → c.getD (k - 1) 0 < c.getD k 0) := by simp only [cutAt, decide_eq_true_eq]
theorem cutB_iff {n : Nat} {c : List Int} : cutB n c = true ↔ ∀ k, k < c.length → cutAt n c k = true := by simp only [cutB, List.all_eq_true, List.mem_range]
theorem lk_ch {N : Net} {c : List Int} (h : chE N ≠ 0) : lkE N c = chE N ∧ lkV N c = 0 := by simp [lkE, lkV, h]
theorem lk_no {N : Net} {c : List Int} (h : chE N = 0) (k : Nat) (hk : k < c.length) (hc : cutAt N.sup.length c k = false) : lkE N c = 3 ∧ lkV N c = 0 := by
  have : cutB N.sup.length c = false := by
    cases hb : cutB N.sup.length c
    · rfl
    · rw [cutB_iff.1 hb k hk] at hc; cases hc
  simp [lkE, lkV, h, this]
theorem lk_yes {N : Net} {c : List Int} (h : chE N = 0) (hc : ∀ k, k < c.length → cutAt N.sup.length c k = true) : lkE N c = 0 ∧ lkV N c = max 0 (lkA N c N.arcs.length) := by
  have : cutB N.sup.length c = true := cutB_iff.2 hc
  simp [lkE, lkV, h, this]
/-- the places climb -/
theorem cut_ge {n : Nat} {c : List Int} : ∀ k : Nat, (∀ j, j ≤ k → cutAt n c j = true) → (k : Int) ≤ c.getD k 0
  | 0, h => (cutAt_iff.1 (h 0 (Nat.le_refl _))).1
  | k + 1, h => by
    have h1 := cut_ge k (fun j hj => h j (by omega))
    have h2 := (cutAt_iff.1 (h (k + 1) (Nat.le_refl _))).2.2 (by omega)
    simp only [Nat.add_sub_cancel] at h2
    omega
theorem cut_lt {n : Nat} {c : List Int} (k : Nat) (h : ∀ j, j < k → cutAt n c j = true) : k ≤ n := by
  cases k with
  | zero => exact Nat.zero_le _
  | succ k =>
    have h1 := cut_ge k (fun j hj => h j (by omega))
    have h2 := (cutAt_iff.1 (h k (by omega))).2.1
    omega
theorem lkS_bd {N : Net} {c : List Int} (h : chE N = 0) : ∀ k : Nat, (∀ j, j < k → cutAt N.sup.length c j = true) → -(268435456 * k : Int) ≤ lkS N c k ∧ lkS N c k ≤ 268435456 * k
  | 0, _ => by simp [lkS]
  | k + 1, hc => by
    have ih := lkS_bd h k (fun j hj => hc j (by omega))
    have h1 := cutAt_iff.1 (hc k (by omega))
    have h2 := net_sup h (c.getD k 0).toNat (by omega)
    simp only [lkS]
    rw [Int.natCast_add]
    omega
theorem inK_succ {c : List Int} {k : Nat} (hk : k < c.length) (i : Int) : inK c (k + 1) i = (inK c k i || decide (i = c.getD k 0)) := by
  unfold inK
  rw [List.take_succ_eq_append_getElem hk]
  have : c.getD k 0 = c[k] := by simp [List.getD, hk]
  rw [this]
  simp only [List.mem_append, List.mem_singleton]
  by_cases h1 : i ∈ c.take k <;> by_cases h2 : i = c[k] <;> simp [h1, h2]
theorem cut_mono {n : Nat} {c : List Int} {j : Nat} : ∀ k : Nat, (∀ x, x ≤ k → cutAt n c x = true) → j < k → c.getD j 0 < c.getD k 0
  | 0, _, h => absurd h (Nat.not_lt_zero _)
  | k + 1, hc, h => by
    have h2 := (cutAt_iff.1 (hc (k + 1) (Nat.le_refl _))).2.2 (by omega)
    simp only [Nat.add_sub_cancel] at h2
    by_cases hj : j = k
    · subst hj; exact h2
    · have := cut_mono k (fun x hx => hc x (by omega)) (show j < k by omega)
      omega
theorem cut_new {n : Nat} {c : List Int} {k : Nat} (hk : k < c.length) (hc : ∀ x, x ≤ k → cutAt n c x = true) : inK c k (c.getD k 0) = false := by
  unfold inK
  rw [decide_eq_false_iff_not]
  intro hm
  obtain ⟨j, hj, e⟩ := List.getElem_of_mem hm
  simp only [List.length_take] at hj
  rw [List.getElem_take] at e
  have h1 := cut_mono k hc (show j < k by omega)
  have : c.getD j 0 = c[j] := by simp [List.getD, show j < c.length by omega]
  rw [this, e] at h1
  omega
theorem lkR_zero (N : Net) (c : List Int) : ∀ j, lkR N c 0 j = 0
  | 0 => rfl
  | j + 1 => by simp [lkR, lkR_zero N c j, inK]
theorem lkR_succ {N : Net} {n : Nat} {c : List Int} {k : Nat} (hk : k < c.length) (hc : ∀ x, x ≤ k → cutAt n c x = true) : ∀ j : Nat, lkR N c (k + 1) j = lkR N c k j + if (c.getD k 0).toNat < j then N.sup.getD (c.getD k 0).toNat 0 else 0
  | 0 => by simp [lkR]
  | j + 1 => by
    have ih := lkR_succ (N := N) hk hc j
    have h0 := (cutAt_iff.1 (hc k (Nat.le_refl _))).1
    have hn := cut_new hk hc
    simp only [lkR]
    rw [ih, inK_succ hk]
    by_cases he : (j : Int) = c.getD k 0
    · have e2 : (c.getD k 0).toNat = j := by omega
      rw [← he] at hn
      rw [e2, hn, he]
      simp
    · have e2 : (c.getD k 0).toNat ≠ j := by omega
      simp only [he, decide_false, Bool.or_false]
      by_cases h3 : (c.getD k 0).toNat < j
      · rw [if_pos h3, if_pos (show (c.getD k 0).toNat < j + 1 by omega)]; omega
      · rw [if_neg h3, if_neg (show ¬ (c.getD k 0).toNat < j + 1 by omega)]; omega
/-- the sum by nodes is the sum by places -/
theorem lkR_eq {N : Net} {c : List Int} : ∀ k : Nat, k ≤ c.length → (∀ x, x < k → cutAt N.sup.length c x = true) → lkR N c k N.sup.length = lkS N c k
  | 0, _, _ => by simp [lkR_zero, lkS]
  | k + 1, hk, hc => by
    have h1 := cutAt_iff.1 (hc k (by omega))
    rw [lkR_succ (n := N.sup.length) (by omega) (fun x hx => hc x (by omega)), lkR_eq k (by omega) (fun x hx => hc x (by omega)), if_pos (by omega)]
    rfl
end Dp
end Go.Proofs.Ytmebpglkeedaoaa
namespace Go.Proofs.Ytmebpglkeedaoaa
namespace Dp
/-- the sum of q v * g v over n nodes -/
def dotN (q g : Nat → Int) : Nat → Int
  | 0 => 0
  | n + 1 => dotN q g n + q n * g n
theorem dot_congr {q g h : Nat → Int} : ∀ n : Nat, (∀ v, v < n → g v = h v) → dotN q g n = dotN q h n
  | 0, _ => rfl
  | n + 1, e => by simp only [dotN]; rw [dot_congr n (fun v hv => e v (by omega)), e n (by omega)]
theorem dot_add (q g h : Nat → Int) : ∀ n : Nat, dotN q (fun v => g v + h v) n = dotN q g n + dotN q h n
  | 0 => rfl
  | n + 1 => by simp only [dotN]; rw [dot_add q g h n, Int.mul_add]; omega
theorem dot_sub (q g h : Nat → Int) : ∀ n : Nat, dotN q (fun v => g v - h v) n = dotN q g n - dotN q h n
  | 0 => rfl
  | n + 1 => by simp only [dotN]; rw [dot_sub q g h n, Int.mul_sub]; omega
theorem dot_at (q : Nat → Int) (a : Nat) (x : Int) : ∀ n : Nat, dotN q (fun v => if v = a then x else 0) n = if a < n then q a * x else 0
  | 0 => rfl
  | n + 1 => by
    simp only [dotN]
    rw [dot_at q a x n]
    by_cases h : n = a
    · subst h; rw [if_neg (Nat.lt_irrefl n), if_pos rfl, if_pos (by omega)]; omega
    · rw [if_neg h]
      by_cases h2 : a < n
      · rw [if_pos h2, if_pos (by omega)]; simp
      · rw [if_neg h2, if_neg (by omega)]; simp
theorem dot_le {q g : Nat → Int} : ∀ n : Nat, (∀ v, v < n → 0 ≤ q v * g v) → 0 ≤ dotN q g n
  | 0, _ => Int.le_refl _
  | n + 1, h => by
    have := dot_le (q := q) (g := g) n (fun v hv => h v (by omega))
    have := h n (by omega)
    simp only [dotN]; omega
/-- ends of arc j -/
def frN (N : Net) (j : Nat) : Nat := (N.arcs.getD j default).fr.toNat
def toN (N : Net) (j : Nat) : Nat := (N.arcs.getD j default).to.toNat
/-- what is left at a node behind k arcs that carry f -/
def lv (N : Net) (f : Nat → Int) : Nat → Nat → Int
  | 0, v => N.sup.getD v 0
  | k + 1, v => lv N f k v + (if v = toN N k then f k else 0) - (if v = frN N k then f k else 0)
/-- the sum over arcs of f j * g j -/
def arcS (f g : Nat → Int) : Nat → Int
  | 0 => 0
  | k + 1 => arcS f g k + f k * g k
theorem arc_congr {f g h : Nat → Int} : ∀ k : Nat, (∀ j, j < k → f j * g j = h j) → arcS f g k = arcS (fun _ => 1) h k
  | 0, _ => rfl
  | k + 1, e => by simp only [arcS]; rw [arc_congr k (fun j hj => e j (by omega)), e k (by omega)]; omega
theorem arc_le {f g h : Nat → Int} : ∀ k : Nat, (∀ j, j < k → h j ≤ f j * g j) → arcS (fun _ => 1) h k ≤ arcS f g k
  | 0, _ => Int.le_refl _
  | k + 1, e => by
    have := arc_le (f := f) (g := g) (h := h) k (fun j hj => e j (by omega))
    have := e k (by omega)
    simp only [arcS]; omega
theorem arc_sub (f g h : Nat → Int) : ∀ k : Nat, arcS f (fun j => g j - h j) k = arcS f g k - arcS f h k
  | 0 => rfl
  | k + 1 => by simp only [arcS]; rw [arc_sub f g h k, Int.mul_sub]; omega
/-- the sum over nodes, with weights -/
theorem lv_dot {N : Net} (h : chE N = 0) (q f : Nat → Int) : ∀ k : Nat, k ≤ N.arcs.length → dotN q (lv N f k) N.sup.length = dotN q (fun v => N.sup.getD v 0) N.sup.length + arcS f (fun j => q (toN N j) - q (frN N j)) k
  | 0, _ => by simp only [arcS, Int.add_zero]; rfl
  | k + 1, hk => by
    obtain ⟨a1, a2, _⟩ := net_arc h k (by omega)
    have e1 : lv N f (k + 1) = fun v => (lv N f k v + (if v = toN N k then f k else 0)) - (if v = frN N k then f k else 0) := rfl
    rw [e1, dot_sub, dot_add, lv_dot h q f k (by omega), dot_at, dot_at, if_pos (by unfold toN; omega), if_pos (by unfold frN; omega)]
    simp only [arcS]
    rw [Int.mul_sub, Int.mul_comm (f k) (q (toN N k)), Int.mul_comm (f k) (q (frN N k))]
    omega
theorem mv_get (l : List Int) (i d : Int) (hi : i.toNat < l.length) (v : Nat) : (mv l i d).getD v 0 = l.getD v 0 + if v = i.toNat then d else 0 := by
  unfold mv
  rw [getD_setI _ _ _ _ hi]
  split
  · rename_i e; rw [e]
  · omega
theorem leftK_lv {N : Net} (h : chE N = 0) (fl : List Int) : ∀ k : Nat, k ≤ N.arcs.length → ∀ v, (leftK N fl k).getD v 0 = lv N (fun j => fl.getD j 0) k v
  | 0, _, v => rfl
  | k + 1, hk, v => by
    obtain ⟨a1, a2, _⟩ := net_arc h k (by omega)
    have hl := leftK_length N fl k
    simp only [leftK, lv]
    rw [mv_get _ _ _ (by rw [mv_length, hl]; omega), mv_get _ _ _ (by rw [hl]; omega), leftK_lv h fl k (by omega) v]
    unfold toN frN
    split <;> split <;> omega
/-- one arc's flow changes -/
theorem lv_change {N : Net} {f f' : Nat → Int} {i : Nat} {d : Int} (hi : f' i = f i + d) (ho : ∀ j, j ≠ i → f' j = f j) : ∀ (k : Nat) (v : Nat), lv N f' k v = lv N f k v + if i < k then ((if v = toN N i then d else 0) - (if v = frN N i then d else 0)) else 0
  | 0, v => by simp [lv]
  | k + 1, v => by
    simp only [lv]
    rw [lv_change hi ho k v]
    by_cases h : k = i
    · subst h
      rw [if_neg (Nat.lt_irrefl k), if_pos (Nat.lt_succ_self k), hi]
      split <;> split <;> omega
    · rw [ho k h]
      by_cases h2 : i < k
      · rw [if_pos h2, if_pos (show i < k + 1 by omega)]; omega
      · rw [if_neg h2, if_neg (show ¬ i < k + 1 by omega)]; omega
theorem flow_left {N : Net} {fl : List Int} (h : chE N = 0) (hf : isFlow N fl = true) : (∀ v, v < N.sup.length → lv N (fun j => fl.getD j 0) N.arcs.length v = 0) ∧ (∀ j, j < N.arcs.length → 0 ≤ fl.getD j 0 ∧ fl.getD j 0 ≤ (N.arcs.getD j default).cap) := by
  simp only [isFlow, Bool.and_eq_true, decide_eq_true_eq] at hf
  refine ⟨fun v hv => ?_, capB_iff.1 hf.2.1⟩
  rw [← leftK_lv h fl _ (Nat.le_refl _)]
  exact zeroB_iff.1 hf.2.2 v (by rw [leftK_length]; exact hv)
theorem costK_arc (N : Net) (fl : List Int) : ∀ k, costK N fl k = arcS (fun j => fl.getD j 0) (fun j => (N.arcs.getD j default).cost) k
  | 0 => rfl
  | k + 1 => by simp only [costK, arcS]; rw [costK_arc N fl k]
theorem prS_dot (N : Net) (ps : List Int) : ∀ k, prS N ps k = - dotN (fun v => ps.getD v 0) (fun v => N.sup.getD v 0) k
  | 0 => rfl
  | k + 1 => by simp only [prS, dotN]; rw [prS_dot N ps k]; omega
/-- the cost of an arc, with the potentials -/
def rcN (N : Net) (ps : List Int) (j : Nat) : Int := (N.arcs.getD j default).cost + ps.getD (frN N j) 0 - ps.getD (toN N j) 0
theorem prA_arc (N : Net) (ps : List Int) : ∀ k, prA N ps k = prS N ps N.sup.length + arcS (fun _ => 1) (fun j => (N.arcs.getD j default).cap * min 0 (rcN N ps j)) k
  | 0 => by simp [prA, arcS]
  | k + 1 => by
    simp only [prA, arcS]
    rw [prA_arc N ps k]
    unfold prW rcN frN toN
    omega
/-- the cost of a flow is that of its arcs with the potentials, and what the supplies bear -/
theorem cost_rc {N : Net} {fl ps : List Int} (h : chE N = 0) (hf : isFlow N fl = true) : costK N fl N.arcs.length = prS N ps N.sup.length + arcS (fun j => fl.getD j 0) (rcN N ps) N.arcs.length := by
  have h1 := flow_left h hf
  have h2 := lv_dot h (fun v => ps.getD v 0) (fun j => fl.getD j 0) N.arcs.length (Nat.le_refl _)
  rw [dot_congr (h := fun _ => 0) _ h1.1] at h2
  have h3 : dotN (fun v => ps.getD v 0) (fun _ => 0) N.sup.length = 0 := by
    generalize N.sup.length = n
    induction n with
    | zero => rfl
    | succ n ih => simp only [dotN]; rw [ih]; simp
  rw [h3] at h2
  have h4 := arc_sub (fun j => fl.getD j 0) (fun j => (N.arcs.getD j default).cost) (fun j => ps.getD (toN N j) 0 - ps.getD (frN N j) 0) N.arcs.length
  have h5 : rcN N ps = fun j => (N.arcs.getD j default).cost - (ps.getD (toN N j) 0 - ps.getD (frN N j) 0) := by
    funext j; unfold rcN; omega
  rw [h5, h4, costK_arc, prS_dot]
  omega
/-- weak duality -/
theorem weak {N : Net} {fl ps : List Int} (h : chE N = 0) (hf : isFlow N fl = true) : prA N ps N.arcs.length ≤ costK N fl N.arcs.length := by
  rw [cost_rc (ps := ps) h hf, prA_arc]
  have h1 := flow_left h hf
  have := arc_le (f := fun j => fl.getD j 0) (g := rcN N ps) (h := fun j => (N.arcs.getD j default).cap * min 0 (rcN N ps j)) N.arcs.length (fun j hj => by
    have h2 := h1.2 j hj
    rcases Int.le_total 0 (rcN N ps j) with h3 | h3
    · rw [Int.min_eq_left h3, Int.mul_zero]
      exact Int.mul_nonneg h2.1 h3
    · rw [Int.min_eq_right h3]
      exact Int.mul_le_mul_of_nonpos_right h2.2 h3)
  omega
/-- slack that complements proves a least flow -/
theorem strong {N : Net} {fl ps : List Int} (h : chE N = 0) (hf : isFlow N fl = true) (hs : ∀ j, j < N.arcs.length → (fl.getD j 0 < (N.arcs.getD j default).cap → 0 ≤ rcN N ps j) ∧ (0 < fl.getD j 0 → rcN N ps j ≤ 0)) : costK N fl N.arcs.length = prA N ps N.arcs.length := by
  rw [cost_rc (ps := ps) h hf, prA_arc]
  have h1 := flow_left h hf
  rw [arc_congr (h := fun j => (N.arcs.getD j default).cap * min 0 (rcN N ps j)) N.arcs.length (fun j hj => by
    have h2 := h1.2 j hj
    have h3 := hs j hj
    rcases Int.lt_trichotomy (rcN N ps j) 0 with h4 | h4 | h4
    · have : fl.getD j 0 = (N.arcs.getD j default).cap := by omega
      rw [this, Int.min_eq_right (by omega)]
    · rw [h4]; simp
    · have : fl.getD j 0 = 0 := by omega
      rw [this, Int.min_eq_left (by omega)]; simp)]
/-- what a set of nodes lacks bounds every flow: with a set C of nodes -/
theorem cut_flow {N : Net} {f : Nat → Int} {C : Nat → Bool} (h : chE N = 0) :
    dotN (fun v => if C v = true then 1 else 0) (lv N f N.arcs.length) N.sup.length = dotN (fun v => if C v = true then 1 else 0) (fun v => N.sup.getD v 0) N.sup.length + arcS f (fun j => (if C (toN N j) = true then 1 else 0) - (if C (frN N j) = true then 1 else 0)) N.arcs.length :=
  lv_dot h _ f _ (Nat.le_refl _)
end Dp
end Go.Proofs.Ytmebpglkeedaoaa
namespace Go.Proofs.Ytmebpglkeedaoaa
namespace Dp
def setRoom (es : List Ed) (k : Nat) (r : Int) : List Ed := es.set k { es.getD k default with room := r }
theorem getD_setE (l : List Ed) (i j : Nat) (v : Ed) (h : i < l.length) : (l.set i v).getD j default = if j = i then v else l.getD j default := by
  simp only [List.getD_eq_getElem?_getD, List.getElem?_set]
  by_cases hj : i = j
  · subst hj; simp [h]
  · rw [if_neg hj, if_neg (fun e => hj e.symm)]
/-- x less room at edge k, and x more at the other edge of its arc -/
def pushE (es : List Ed) (k : Nat) (x : Int) : List Ed := setRoom (setRoom es k ((es.getD k default).room - x)) (tw k) (((setRoom es k ((es.getD k default).room - x)).getD (tw k) default).room + x)
theorem setRoom_len (es : List Ed) (k : Nat) (r : Int) : (setRoom es k r).length = es.length := by simp [setRoom]
theorem pushE_len (es : List Ed) (k : Nat) (x : Int) : (pushE es k x).length = es.length := by simp [pushE, setRoom]
theorem setRoom_get (es : List Ed) (k : Nat) (r : Int) (hk : k < es.length) (j : Nat) : ((setRoom es k r).getD j default).to = (es.getD j default).to ∧ ((setRoom es k r).getD j default).cost = (es.getD j default).cost ∧ ((setRoom es k r).getD j default).room = if j = k then r else (es.getD j default).room := by
  unfold setRoom
  rw [getD_setE _ _ _ _ hk]
  split
  · rename_i e; subst e; exact ⟨rfl, rfl, rfl⟩
  · exact ⟨rfl, rfl, rfl⟩
theorem pushE_get (es : List Ed) (k : Nat) (x : Int) (hk : k < es.length) (ht : tw k < es.length) (j : Nat) : ((pushE es k x).getD j default).to = (es.getD j default).to ∧ ((pushE es k x).getD j default).cost = (es.getD j default).cost ∧ ((pushE es k x).getD j default).room = (es.getD j default).room - (if j = k then x else 0) + (if tw j = k then x else 0) := by
  have h1 := fun i => setRoom_get es k ((es.getD k default).room - x) hk i
  have h2 := setRoom_get (setRoom es k ((es.getD k default).room - x)) (tw k) (((setRoom es k ((es.getD k default).room - x)).getD (tw k) default).room + x) (by rw [setRoom_len]; exact ht) j
  unfold pushE
  refine ⟨h2.1.trans (h1 j).1, h2.2.1.trans (h1 j).2.1, ?_⟩
  rw [h2.2.2, (h1 (tw k)).2.2, (h1 j).2.2, if_neg (tw_ne k)]
  by_cases e : j = tw k
  · subst e
    rw [if_pos rfl, if_neg (tw_ne k), tw_tw, if_pos rfl]; omega
  · rw [if_neg e, if_neg (show ¬ tw j = k from fun h => e (by rw [← h, tw_tw]))]
    split
    · rename_i e2; rw [e2]; omega
    · omega
namespace Gr
def push1 (G : Gr) (k : Nat) (x : Int) : Gr := { G with left := mv (mv G.left (G.frA k) (-x)) (G.toA k) x, es := pushE G.es k x }
/-- x sent over edges, one behind the other -/
def pushL (G : Gr) (ks : List Nat) (x : Int) : Gr := ks.foldl (fun G k => G.push1 k x) G
theorem Ok.tl {G : Gr} {n : Nat} (h : G.Ok n) {k : Nat} (hk : k < G.es.length) : tw k < G.es.length := tw_lt h.ev hk
end Gr
/-- what is the same in two graphs -/
structure Alike (G G' : Gr) : Prop where
  outs : G'.outs = G.outs
  ll : G'.left.length = G.left.length
  le : G'.es.length = G.es.length
  «to» : ∀ j, (G'.es.getD j default).to = (G.es.getD j default).to
  co : ∀ j, (G'.es.getD j default).cost = (G.es.getD j default).cost
theorem Alike.refl (G : Gr) : Alike G G := ⟨rfl, rfl, rfl, fun _ => rfl, fun _ => rfl⟩
theorem Alike.trans {A B C : Gr} (h : Alike A B) (k : Alike B C) : Alike A C := ⟨k.outs.trans h.outs, k.ll.trans h.ll, k.le.trans h.le, fun j => (k.to j).trans (h.to j), fun j => (k.co j).trans (h.co j)⟩
theorem Alike.toA {G G' : Gr} (h : Alike G G') (k : Nat) : G'.toA k = G.toA k := by unfold Gr.toA; rw [h.to]
theorem Alike.frA {G G' : Gr} (h : Alike G G') (k : Nat) : G'.frA k = G.frA k := h.toA (tw k)
theorem Alike.cost {G G' : Gr} (h : Alike G G') (k : Nat) : G'.cost k = G.cost k := by unfold Gr.cost; rw [h.co]
theorem Alike.rc {G G' : Gr} (h : Alike G G') (p : List Int) (k : Nat) : G'.rc p k = G.rc p k := by unfold Gr.rc; rw [h.cost, h.frA, h.toA]
theorem push1_alike {G : Gr} {k : Nat} {x : Int} (hk : k < G.es.length) (ht : tw k < G.es.length) : Alike G (G.push1 k x) :=
  ⟨rfl, by simp [Gr.push1, mv_length], by simp [Gr.push1, pushE_len], fun j => (pushE_get G.es k x hk ht j).1, fun j => (pushE_get G.es k x hk ht j).2.1⟩
theorem push1_room {G : Gr} {k : Nat} {x : Int} (hk : k < G.es.length) (ht : tw k < G.es.length) (j : Nat) : (G.push1 k x).room j = G.room j - (if j = k then x else 0) + (if tw j = k then x else 0) := (pushE_get G.es k x hk ht j).2.2
theorem push1_lf {G : Gr} {k : Nat} {x : Int} (h1 : G.frA k < G.left.length) (h2 : G.toA k < G.left.length) (v : Nat) : (G.push1 k x).lf v = G.lf v - (if v = G.frA k then x else 0) + (if v = G.toA k then x else 0) := by
  show (mv (mv G.left (G.frA k) (-x)) (G.toA k) x).getD v 0 = _
  rw [mv_get _ _ _ (by rw [mv_length]; simpa using h2), mv_get _ _ _ (by simpa using h1)]
  simp only [Int.toNat_natCast]
  unfold Gr.lf
  split <;> split <;> omega
theorem pushL_alike {x : Int} : ∀ {ks : List Nat} {G : Gr}, (∀ k, k ∈ ks → k < G.es.length ∧ tw k < G.es.length) → Alike G (G.pushL ks x)
  | [], G, _ => Alike.refl G
  | k :: ks, G, h => by
    have h1 := push1_alike (x := x) (h k (by simp)).1 (h k (by simp)).2
    exact h1.trans (pushL_alike (ks := ks) (fun j hj => by rw [h1.le]; exact h j (by simp [hj])))
theorem pushL_room {x : Int} : ∀ {ks : List Nat} {G : Gr}, (∀ k, k ∈ ks → k < G.es.length ∧ tw k < G.es.length) → ∀ j, (G.pushL ks x).room j = G.room j - (ks.count j : Int) * x + (ks.count (tw j) : Int) * x
  | [], G, _, j => by simp [Gr.pushL]
  | k :: ks, G, h, j => by
    have h1 := push1_alike (x := x) (h k (by simp)).1 (h k (by simp)).2
    have ih := pushL_room (x := x) (ks := ks) (G := G.push1 k x) (fun j hj => by rw [h1.le]; exact h j (by simp [hj])) j
    show ((G.push1 k x).pushL ks x).room j = _
    rw [ih, push1_room (h k (by simp)).1 (h k (by simp)).2]
    simp only [List.count_cons, Int.natCast_add, Int.add_mul]
    have e1 : (((if (k == j) = true then 1 else 0 : Nat) : Int)) * x = if j = k then x else 0 := by
      by_cases e : j = k
      · subst e; simp
      · rw [if_neg e, if_neg (show ¬ (k == j) = true from fun h => e (by simpa using (beq_iff_eq.1 h).symm))]; simp
    have e2 : (((if (k == tw j) = true then 1 else 0 : Nat) : Int)) * x = if tw j = k then x else 0 := by
      by_cases e : tw j = k
      · subst e; simp
      · rw [if_neg e, if_neg (show ¬ (k == tw j) = true from fun h => e (by simpa using (beq_iff_eq.1 h).symm))]; simp
    rw [e1, e2]
    omega
/-- the way that vi tells, from a node back to s -/
def Way (G : Gr) (vi : List Int) : Nat → List Nat → Nat → Prop
  | v, [], s => vi.getD v 0 = -1 ∧ v = s
  | v, k :: ks, s => vi.getD v 0 = (k : Int) ∧ k < G.es.length ∧ G.toA k = v ∧ Way G vi (G.frA k) ks s
theorem Way.lt {G : Gr} {vi : List Int} {s : Nat} : ∀ {ks : List Nat} {v : Nat}, Way G vi v ks s → ∀ k, k ∈ ks → k < G.es.length
  | [], _, _, k, hk => by simp at hk
  | k0 :: ks, v, h, k, hk => by
    rcases List.mem_cons.1 hk with rfl | hk
    · exact h.2.1
    · exact Way.lt h.2.2.2 k hk
theorem Way.alike {G G' : Gr} {vi : List Int} {s : Nat} (ha : Alike G G') : ∀ {ks : List Nat} {v : Nat}, Way G vi v ks s → Way G' vi v ks s
  | [], _, h => h
  | k :: ks, v, h => ⟨h.1, by rw [ha.le]; exact h.2.1, by rw [ha.toA]; exact h.2.2.1, by rw [ha.frA]; exact Way.alike ha h.2.2.2⟩
theorem Way.toIn {G : Gr} {vi : List Int} {s : Nat} : ∀ {ks : List Nat} {v : Nat}, Way G vi v ks s → ∀ k, k ∈ ks → G.toA k ∈ v :: ks.map G.frA
  | [], _, _, k, hk => by simp at hk
  | k0 :: ks, v, h, k, hk => by
    rcases List.mem_cons.1 hk with rfl | hk
    · rw [h.2.2.1]; simp
    · have := Way.toIn h.2.2.2 k hk
      simp only [List.map_cons]
      exact List.mem_cons_of_mem _ this
theorem Way.last {G : Gr} {vi : List Int} {s : Nat} : ∀ {ks : List Nat} {v : Nat}, Way G vi v ks s → s ∈ v :: ks.map G.frA
  | [], v, h => by rw [h.2]; simp
  | k0 :: ks, v, h => by
    simp only [List.map_cons]
    exact List.mem_cons_of_mem _ (Way.last h.2.2.2)
theorem way_simple {G : Gr} {vi : List Int} {s : Nat} : ∀ {ks : List Nat} {v : Nat}, Way G vi v ks s → (v :: ks.map G.frA).Nodup → ks.Nodup ∧ ∀ j, ¬ (j ∈ ks ∧ tw j ∈ ks)
  | [], _, _, _ => ⟨List.nodup_nil, fun j h => by simp at h⟩
  | k :: ks, v, h, hn => by
    simp only [List.map_cons] at hn
    have hn2 := List.nodup_cons.1 hn
    have ih := way_simple h.2.2.2 hn2.2
    have hk : k ∉ ks := fun hm => hn2.1 (by rw [← h.2.2.1]; exact Way.toIn h.2.2.2 k hm)
    have ht : tw k ∉ ks := fun hm => hn2.1 (by
      have e : G.frA (tw k) = v := by unfold Gr.frA; rw [tw_tw]; exact h.2.2.1
      rw [← e]
      exact List.mem_cons_of_mem _ (List.mem_map_of_mem hm))
    refine ⟨List.nodup_cons.2 ⟨hk, ih.1⟩, fun j hj => ?_⟩
    rcases List.mem_cons.1 hj.1 with e1 | e1
    · subst e1
      rcases List.mem_cons.1 hj.2 with e2 | e2
      · exact tw_ne j e2
      · exact ht e2
    · rcases List.mem_cons.1 hj.2 with e2 | e2
      · rw [← e2, tw_tw] at ht; exact ht e1
      · exact ih.2 j ⟨e1, e2⟩
/-- the graph's numbers lie in its lists -/
def Fine (G : Gr) : Prop := ∀ k, k < G.es.length → G.toA k < G.left.length ∧ G.frA k < G.left.length ∧ tw k < G.es.length
theorem Fine.alike {G G' : Gr} (h : Fine G) (ha : Alike G G') : Fine G' := fun k hk => by
  rw [ha.le] at hk
  rw [ha.toA, ha.frA, ha.ll, ha.le]
  exact h k hk
theorem Gr.Ok.fine {G : Gr} {n : Nat} (h : G.Ok n) : Fine G := fun k hk => by rw [h.ll]; exact ⟨h.toL hk, h.frL hk, h.tl hk⟩
theorem pushL_lf {x : Int} {vi : List Int} {s : Nat} : ∀ {ks : List Nat} {G : Gr} {v : Nat}, Way G vi v ks s → Fine G → ∀ u, (G.pushL ks x).lf u = G.lf u - (if u = s then x else 0) + (if u = v then x else 0)
  | [], G, v, h, _, u => by rw [h.2]; show G.lf u = _; split <;> omega
  | k :: ks, G, v, h, hb, u => by
    have hbk := hb k h.2.1
    have ha := push1_alike (x := x) h.2.1 hbk.2.2
    have e0 := push1_lf (x := x) hbk.2.1 hbk.1 u
    have e1 := pushL_lf (x := x) (ks := ks) (G := G.push1 k x) (v := G.frA k) (h.2.2.2.alike ha) (hb.alike ha) u
    show ((G.push1 k x).pushL ks x).lf u = _
    rw [e1, e0, h.2.2.1]
    omega
/-- the way to a settled node -/
theorem chn_way {G : Gr} {p fa vi : List Int} : ∀ {S : List Nat}, S.Nodup → Chn G p fa vi S → ∀ v, v ∈ S → ∃ ks s, Way G vi v ks s ∧ 0 < G.lf s ∧ (∀ k, k ∈ ks → 0 < G.room k ∧ fa.getD (G.toA k) 0 = fa.getD (G.frA k) 0 + G.rc p k) ∧ (v :: ks.map G.frA).Nodup ∧ ∀ u, u ∈ v :: ks.map G.frA → u ∈ S
  | [], _, _, v, hv => by simp at hv
  | u :: S, hn, h, v, hv => by
    have hn2 := List.nodup_cons.1 hn
    rcases List.mem_cons.1 hv with rfl | hv
    · rcases h.2 with ⟨a, b, c⟩ | ⟨k, a, b, c, d, e, f⟩
      · exact ⟨[], v, ⟨c, rfl⟩, a, fun k hk => by simp at hk, by simp, fun w hw => by simp at hw; subst hw; simp⟩
      · obtain ⟨ks, s, h1, h2, h3, h4, h5⟩ := chn_way hn2.2 h.1 _ e
        refine ⟨k :: ks, s, ⟨b, a, c, h1⟩, h2, fun j hj => ?_, ?_, fun w hw => ?_⟩
        · rcases List.mem_cons.1 hj with rfl | hj
          · exact ⟨d, by rw [c]; exact f⟩
          · exact h3 j hj
        · simp only [List.map_cons]
          exact List.nodup_cons.2 ⟨fun hm => hn2.1 (h5 _ hm), h4⟩
        · simp only [List.map_cons] at hw
          rcases List.mem_cons.1 hw with rfl | hw
          · simp
          · exact List.mem_cons_of_mem _ (h5 _ hw)
    · obtain ⟨ks, s, h1, h2, h3, h4, h5⟩ := chn_way hn2.2 h.1 v hv
      exact ⟨ks, s, h1, h2, h3, h4, fun w hw => List.mem_cons_of_mem _ (h5 w hw)⟩
/-- a way on which as much can be sent -/
structure Sent (G : Gr) (n : Nat) (vi : List Int) (ks : List Nat) (s t : Nat) (x : Int) : Prop where
  way : Way G vi t ks s
  nod : (t :: ks.map G.frA).Nodup
  sn : s < n
  tn : t < n
  x0 : 0 < x
  xs : x ≤ G.lf s
  xt : x ≤ -G.lf t
  xr : ∀ k, k ∈ ks → x ≤ G.room k
theorem Sent.ok {G : Gr} {n : Nat} {vi : List Int} {ks : List Nat} {s t : Nat} {x : Int} (h : Sent G n vi ks s t x) (hG : G.Ok n) : (∀ k, k ∈ ks → k < G.es.length ∧ tw k < G.es.length) ∧ (∀ j, (G.pushL ks x).room j = G.room j - (if j ∈ ks then x else 0) + (if tw j ∈ ks then x else 0)) ∧ (G.pushL ks x).Ok n := by
  have hk : ∀ k, k ∈ ks → k < G.es.length ∧ tw k < G.es.length := fun k hk => ⟨h.way.lt k hk, hG.tl (h.way.lt k hk)⟩
  have hs := way_simple h.way h.nod
  have ha := pushL_alike (x := x) hk
  have hr : ∀ j, (G.pushL ks x).room j = G.room j - (if j ∈ ks then x else 0) + (if tw j ∈ ks then x else 0) := fun j => by
    rw [pushL_room hk j, hs.1.count, hs.1.count]
    by_cases h1 : j ∈ ks <;> by_cases h2 : tw j ∈ ks <;> simp [h1, h2]
  have hlf := pushL_lf (x := x) h.way hG.fine
  refine ⟨hk, hr, ?_⟩
  exact
  { n1 := hG.n1
    ll := by rw [ha.ll]; exact hG.ll
    lo := by rw [ha.outs]; exact hG.lo
    le := by rw [ha.le]; exact hG.le
    ev := by rw [ha.le]; exact hG.ev
    «to» := fun k hk => by rw [ha.to]; rw [ha.le] at hk; exact hG.to k hk
    ne := fun k hk => by rw [ha.toA, ha.frA]; rw [ha.le] at hk; exact hG.ne k hk
    co := fun k hk => by rw [ha.cost, ha.cost]; rw [ha.le] at hk; exact hG.co k hk
    cb := fun k hk => by rw [ha.cost]; rw [ha.le] at hk; exact hG.cb k hk
    rm := fun k hk => by
      rw [ha.le] at hk
      have h1 := hG.rm k hk
      have h2 := hs.2 k
      have h3 := h.x0
      rw [hr k, hr (tw k), tw_tw]
      by_cases a : k ∈ ks
      · have := h.xr k a
        have : tw k ∉ ks := fun hm => h2 ⟨a, hm⟩
        rw [if_pos a, if_neg this]; omega
      · rw [if_neg a]
        split <;> omega
    lb := fun v hv => by
      rw [hlf v]
      have h1 := hG.lb v hv
      have h3 := h.x0
      have h4 := h.xs
      have h5 := h.xt
      split
      · rename_i e; subst e
        split <;> omega
      · split
        · rename_i e; subst e; omega
        · omega
    o1 := fun v hv y hy => by
      rw [ha.outs] at hy
      rw [ha.le, ha.frA]
      exact hG.o1 v hv y hy
    o2 := fun k hk => by
      rw [ha.le] at hk
      rw [ha.outs, ha.frA]
      exact hG.o2 k hk
    o3 := fun v hv => by rw [ha.outs]; exact hG.o3 v hv }
/-- potentials of a run of the solver: at most D, and D at the nodes that need something -/
structure PotD (G : Gr) (n : Nat) (p : List Int) (D : Int) : Prop where
  len : p.length = n
  lo : ∀ v, v < n → 0 ≤ p.getD v 0 ∧ p.getD v 0 ≤ D
  d : 0 ≤ D ∧ D ≤ 1048576 * (n - 1 : Int)
  need : ∀ v, v < n → G.lf v < 0 → p.getD v 0 = D
  rc : ∀ k, k < G.es.length → 0 < G.room k → 0 ≤ G.rc p k
  src : ∀ v, v < n → 0 < G.lf v → p.getD v 0 = 0
theorem PotD.pot {G : Gr} {n : Nat} {p : List Int} {D : Int} (h : PotD G n p D) (hn : n ≤ 1024) : G.Pot n p :=
  ⟨h.len, fun v hv => by have := h.lo v hv; have := h.d; omega, h.rc, h.src⟩
/-- the potentials behind a search -/
def potN (n : Nat) (p fa : List Int) (d : Int) : List Int := (List.range n).map fun v => p.getD v 0 + min (fa.getD v 0) d
theorem potN_get {n : Nat} {p fa : List Int} {d : Int} {v : Nat} (hv : v < n) : (potN n p fa d).getD v 0 = p.getD v 0 + min (fa.getD v 0) d := by
  simp [potN, List.getD_eq_getElem?_getD, hv]
theorem way_far {G : Gr} {n : Nat} {p fa vi : List Int} {s : Nat} (hG : G.Ok n) (hp : ∀ k, k < G.es.length → 0 < G.room k → 0 ≤ G.rc p k) : ∀ {ks : List Nat} {v : Nat}, Way G vi v ks s → (∀ k, k ∈ ks → 0 < G.room k ∧ fa.getD (G.toA k) 0 = fa.getD (G.frA k) 0 + G.rc p k) →
    ∀ u, u ∈ v :: ks.map G.frA → fa.getD u 0 ≤ fa.getD v 0
  | [], v, _, _, u, hu => by simp at hu; rw [hu]; exact Int.le_refl _
  | k :: ks, v, h, hk, u, hu => by
    have h1 := hk k (by simp)
    have h2 := hp k h.2.1 h1.1
    rw [h.2.2.1] at h1
    simp only [List.map_cons] at hu
    rcases List.mem_cons.1 hu with rfl | hu
    · exact Int.le_refl _
    · have := way_far hG hp h.2.2.2 (fun j hj => hk j (by simp [hj])) u hu
      omega
/-- a search, new potentials, and a way that is sent along -/
theorem round_pot {G : Gr} {n : Nat} {p fa vi : List Int} {D x : Int} {ks : List Nat} {s t : Nat} (hG : G.Ok n) (hp : PotD G n p D) (hr : NR G n p fa vi (t : Int)) (hs : Sent G n vi ks s t x)
    (hk : ∀ k, k ∈ ks → 0 < G.room k ∧ fa.getD (G.toA k) 0 = fa.getD (G.frA k) 0 + G.rc p k) : PotD (G.pushL ks x) n (potN n p fa (fa.getD t 0)) (D + fa.getD t 0) := by
  obtain ⟨h1, h2, h3⟩ := hs.ok hG
  have ha := pushL_alike (x := x) h1
  have hlf := pushL_lf (x := x) hs.way hG.fine
  have hfin : G.lf t < 0 ∧ fa.getD t 0 < never ∧ ∀ v, v < n → G.lf v < 0 → fa.getD t 0 ≤ fa.getD v 0 := by
    rcases hr.fin with ⟨e, _⟩ | ⟨t', e, _, h4, h5, h6⟩
    · omega
    · obtain rfl : t' = t := by omega
      exact ⟨h4, h5, h6⟩
  have hneg : ∀ v, v < n → (G.pushL ks x).lf v < 0 → G.lf v < 0 := fun v hv hl => by
    rw [hlf v] at hl
    have := hs.xs
    have := hs.x0
    by_cases e1 : v = s
    · subst e1
      by_cases e2 : v = t
      · subst e2; omega
      · rw [if_pos rfl, if_neg e2] at hl; omega
    · rw [if_neg e1] at hl
      split at hl <;> omega
  have hpos : ∀ v, v < n → 0 < (G.pushL ks x).lf v → 0 < G.lf v := fun v hv hl => by
    rw [hlf v] at hl
    have := hs.xs
    have := hs.x0
    have := hs.xt
    by_cases e2 : v = t
    · subst e2
      rw [if_pos rfl] at hl
      split at hl <;> omega
    · rw [if_neg e2] at hl
      split at hl <;> omega
  have ht0 := hr.top t hs.tn
  have hup := hr.up t hs.tn hfin.2.1
  have hpt := hp.need t hs.tn hfin.1
  have hrc : ∀ k, k < G.es.length → G.rc (potN n p fa (fa.getD t 0)) k = G.rc p k + min (fa.getD (G.frA k) 0) (fa.getD t 0) - min (fa.getD (G.toA k) 0) (fa.getD t 0) := fun k hk => by
    unfold Gr.rc
    rw [potN_get (hG.frL hk), potN_get (hG.toL hk)]
    omega
  have hrc0 : ∀ k, k < G.es.length → 0 < G.room k → 0 ≤ G.rc (potN n p fa (fa.getD t 0)) k := fun k hk hro => by
    rw [hrc k hk]
    have h4 := hp.rc k hk hro
    by_cases h5 : fa.getD (G.frA k) 0 < never
    · have := (hr.bel k hk h5 hro).1
      omega
    · omega
  have htight : ∀ k, k ∈ ks → G.rc (potN n p fa (fa.getD t 0)) k = 0 := fun k hm => by
    have hl := (h1 k hm).1
    have h4 := (hk k hm).2
    have h5 := way_far hG hp.rc hs.way hk (G.toA k) (hs.way.toIn k hm)
    have h6 := way_far hG hp.rc hs.way hk (G.frA k) (List.mem_cons_of_mem _ (List.mem_map_of_mem hm))
    rw [hrc k hl]
    omega
  exact
  { len := by simp [potN]
    lo := fun v hv => by
      rw [potN_get hv]
      have := hp.lo v hv
      have := hr.top v hv
      omega
    d := by have := hp.d; omega
    need := fun v hv hl => by
      rw [potN_get hv, hp.need v hv (hneg v hv hl)]
      have := hfin.2.2 v hv (hneg v hv hl)
      omega
    rc := fun k hkl hro => by
      rw [ha.le] at hkl
      rw [ha.rc]
      rw [h2 k] at hro
      by_cases h4 : 0 < G.room k
      · exact hrc0 k hkl h4
      · have h5 : tw k ∈ ks := Decidable.byContradiction fun hn => by
          rw [if_neg hn] at hro
          have := hs.x0
          split at hro <;> omega
        have h6 := htight _ h5
        have h7 : G.rc (potN n p fa (fa.getD t 0)) (tw k) = - G.rc (potN n p fa (fa.getD t 0)) k := by
          unfold Gr.rc
          rw [hG.co k hkl]
          unfold Gr.frA
          rw [tw_tw]
          omega
        omega
    src := fun v hv hl => by
      have h4 := hpos v hv hl
      rw [potN_get hv, hp.src v hv h4, hr.src v hv h4]
      omega }
end Dp
end Go.Proofs.Ytmebpglkeedaoaa
namespace Go.Proofs.Ytmebpglkeedaoaa
namespace Dp
/-- a graph is that of net N on the way to a flow -/
structure Fits (N : Net) (G : Gr) : Prop where
  es : G.es.length = 2 * N.arcs.length
  ll : G.left.length = N.sup.length
  t0 : ∀ i, i < N.arcs.length → G.toA (2 * i) = toN N i ∧ G.toA (2 * i + 1) = frN N i
  c0 : ∀ i, i < N.arcs.length → G.cost (2 * i) = (N.arcs.getD i default).cost ∧ G.cost (2 * i + 1) = -(N.arcs.getD i default).cost
  r0 : ∀ i, i < N.arcs.length → G.room (2 * i) + G.room (2 * i + 1) = (N.arcs.getD i default).cap
  lf : ∀ v, v < N.sup.length → G.lf v = lv N (fun j => G.room (2 * j + 1)) N.arcs.length v
theorem tw_even (i : Nat) : tw (2 * i) = 2 * i + 1 := by unfold tw; rw [if_pos (by omega)]
theorem tw_odd (i : Nat) : tw (2 * i + 1) = 2 * i := by unfold tw; rw [if_neg (by omega)]; omega
theorem Fits.fr {N : Net} {G : Gr} (h : Fits N G) (i : Nat) (hi : i < N.arcs.length) : G.frA (2 * i) = frN N i ∧ G.frA (2 * i + 1) = toN N i := by
  unfold Gr.frA
  rw [tw_even, tw_odd]
  exact ⟨(h.t0 i hi).2, (h.t0 i hi).1⟩
theorem Fits.push1 {N : Net} {G : Gr} (h : Fits N G) (hf : Fine G) {k : Nat} (x : Int) (hk : k < G.es.length) : Fits N (G.push1 k x) := by
  have hfk := hf k hk
  have ha := push1_alike (x := x) hk hfk.2.2
  have hr := push1_room (x := x) hk hfk.2.2
  have hl := push1_lf (x := x) hfk.2.1 hfk.1
  refine ⟨by rw [ha.le]; exact h.es, by rw [ha.ll]; exact h.ll, fun i hi => by rw [ha.toA, ha.toA]; exact h.t0 i hi, fun i hi => by rw [ha.cost, ha.cost]; exact h.c0 i hi, fun i hi => ?_, fun v hv => ?_⟩
  · have := h.r0 i hi
    rw [hr, hr, tw_even, tw_odd]
    split <;> split <;> omega
  · rw [hl v, h.lf v hv]
    have hes := h.es
    have hi : k / 2 < N.arcs.length := by omega
    rcases (show k = 2 * (k / 2) ∨ k = 2 * (k / 2) + 1 by omega) with e | e
    · generalize k / 2 = i at *
      subst e
      have hc := lv_change (N := N) (f := fun j => G.room (2 * j + 1)) (f' := fun j => (G.push1 (2 * i) x).room (2 * j + 1)) (i := i) (d := x)
        (by show (G.push1 (2 * i) x).room (2 * i + 1) = G.room (2 * i + 1) + x; rw [hr, tw_odd, if_neg (by omega), if_pos rfl]; omega) (fun j hj => by show (G.push1 (2 * i) x).room (2 * j + 1) = G.room (2 * j + 1); rw [hr, tw_odd, if_neg (by omega), if_neg (by omega)]; omega) N.arcs.length v
      rw [hc, if_pos hi, (h.t0 i hi).1, (h.fr i hi).1]
      omega
    · generalize k / 2 = i at *
      subst e
      have hc := lv_change (N := N) (f := fun j => G.room (2 * j + 1)) (f' := fun j => (G.push1 (2 * i + 1) x).room (2 * j + 1)) (i := i) (d := -x)
        (by show (G.push1 (2 * i + 1) x).room (2 * i + 1) = G.room (2 * i + 1) + -x; rw [hr, tw_odd, if_pos rfl, if_neg (by omega)]; omega) (fun j hj => by show (G.push1 (2 * i + 1) x).room (2 * j + 1) = G.room (2 * j + 1); rw [hr, tw_odd, if_neg (by omega), if_neg (by omega)]; omega) N.arcs.length v
      rw [hc, if_pos hi, (h.t0 i hi).2, (h.fr i hi).2]
      split <;> split <;> omega
theorem Fits.pushL {N : Net} {x : Int} : ∀ {ks : List Nat} {G : Gr}, Fits N G → Fine G → (∀ k, k ∈ ks → k < G.es.length) → Fits N (G.pushL ks x)
  | [], _, h, _, _ => h
  | k :: ks, G, h, hf, hk => by
    have hk0 := hk k (by simp)
    have ha := push1_alike (x := x) hk0 (hf k hk0).2.2
    exact Fits.pushL (ks := ks) (h.push1 hf x hk0) (hf.alike ha) (fun j hj => by rw [ha.le]; exact hk j (by simp [hj]))
/-- the flow of a graph -/
def flowL (N : Net) (G : Gr) : List Int := (List.range N.arcs.length).map fun i => G.room (2 * i + 1)
theorem flowL_get {N : Net} {G : Gr} {i : Nat} (hi : i < N.arcs.length) : (flowL N G).getD i 0 = G.room (2 * i + 1) := by
  simp [flowL, List.getD_eq_getElem?_getD, hi]
theorem flowL_len (N : Net) (G : Gr) : (flowL N G).length = N.arcs.length := by simp [flowL]
theorem lv_congr {N : Net} {f g : Nat → Int} : ∀ (k : Nat) (v : Nat), (∀ j, j < k → f j = g j) → lv N f k v = lv N g k v
  | 0, _, _ => rfl
  | k + 1, v, h => by simp only [lv]; rw [lv_congr k v (fun j hj => h j (by omega)), h k (by omega)]
/-- what is left of all supplies -/
def restV (l : List Int) : Int := sum (l.map (max 0))
theorem sum_dot : ∀ l : List Int, sum l = dotN (fun _ => 1) (fun v => l.getD v 0) l.length := by
  intro l
  have : ∀ k, k ≤ l.length → sum (l.take k) = dotN (fun _ => 1) (fun v => l.getD v 0) k := by
    intro k
    induction k with
    | zero => intro _; simp [sum, dotN]
    | succ k ih =>
      intro hk
      rw [sum_take l k (by omega), ih (by omega)]
      simp only [dotN]; omega
  have h := this l.length (Nat.le_refl _)
  rwa [List.take_length] at h
theorem dot_zero {g : Nat → Int} : ∀ n : Nat, (∀ v, v < n → 0 ≤ g v) → dotN (fun _ => 1) g n = 0 → ∀ v, v < n → g v = 0
  | 0, _, _, v, hv => absurd hv (Nat.not_lt_zero _)
  | n + 1, h, e, v, hv => by
    have h1 := dot_le (q := fun _ => 1) (g := g) n (fun v hv => by have := h v (by omega); omega)
    have h2 := h n (by omega)
    simp only [dotN] at e
    rcases (show v < n ∨ v = n by omega) with h3 | rfl
    · exact dot_zero n (fun v hv => h v (by omega)) (by omega) v h3
    · omega
theorem rest_dot (l : List Int) : restV l = dotN (fun _ => 1) (fun v => max 0 (l.getD v 0)) l.length := by
  unfold restV
  rw [sum_dot, List.length_map]
  exact dot_congr _ (fun v hv => by rw [getD_map (max 0) l v hv])
theorem rest_nn (l : List Int) : 0 ≤ restV l := by
  rw [rest_dot]
  exact dot_le _ (fun v _ => by omega)
theorem net_zero {N : Net} (h : chE N = 0) : sum N.sup = 0 := by
  have h2 := (chE_zero h).2
  simp only [okB, Bool.and_eq_true, decide_eq_true_eq] at h2
  exact h2.2.2.1
/-- the sum of what is left is 0 -/
theorem left_zero {N : Net} {G : Gr} (h : chE N = 0) (hf : Fits N G) : dotN (fun _ => 1) G.lf N.sup.length = 0 := by
  rw [dot_congr _ hf.lf, lv_dot h _ _ _ (Nat.le_refl _), ← sum_dot, net_zero h]
  have : ∀ (f : Nat → Int) k, arcS f (fun _ => (1 : Int) - 1) k = 0 := fun f k => by
    induction k with
    | zero => rfl
    | succ k ih => simp only [arcS]; rw [ih]; simp
  rw [this]; rfl
theorem room_cap {N : Net} {G : Gr} {n : Nat} (hG : G.Ok n) (hf : Fits N G) (i : Nat) (hi : i < N.arcs.length) : 0 ≤ G.room (2 * i) ∧ 0 ≤ G.room (2 * i + 1) := by
  have h1 := hG.rm (2 * i) (by rw [hf.es]; omega)
  have h2 := hG.rm (2 * i + 1) (by rw [hf.es]; omega)
  exact ⟨h1.1, h2.1⟩
/-- nothing is left: a flow, and its cost is what the potentials prove -/
theorem end_flow {N : Net} {G : Gr} {p : List Int} (h : chE N = 0) (hG : G.Ok N.sup.length) (hf : Fits N G) (hp : ∀ k, k < G.es.length → 0 < G.room k → 0 ≤ G.rc p k) (h0 : restV G.left = 0) :
    isFlow N (flowL N G) = true ∧ costK N (flowL N G) N.arcs.length = prA N p N.arcs.length := by
  have hneg : ∀ v, v < N.sup.length → G.lf v ≤ 0 := fun v hv => by
    rw [rest_dot, hf.ll] at h0
    have := dot_zero _ (fun v _ => by omega) h0 v hv
    unfold Gr.lf
    omega
  have hz : ∀ v, v < N.sup.length → G.lf v = 0 := fun v hv => by
    have h1 := left_zero h hf
    have h2 : dotN (fun _ => 1) (fun v => - G.lf v) N.sup.length = 0 := by
      have e : (fun v => - G.lf v) = fun v => (fun _ => (0 : Int)) v - G.lf v := by funext v; simp
      rw [e, dot_sub, h1]
      generalize N.sup.length = n
      induction n with
      | zero => rfl
      | succ n ih => simp only [dotN]; omega
    have := dot_zero _ (fun v hv => by have := hneg v hv; omega) h2 v hv
    omega
  have hfl : isFlow N (flowL N G) = true := isFlow_yes (flowL_len N G) (fun k hk => by
    rw [flowL_get hk]
    have := room_cap hG hf k hk
    have := hf.r0 k hk
    omega) (fun v hv => by
    rw [leftK_lv h _ _ (Nat.le_refl _), lv_congr (g := fun j => G.room (2 * j + 1)) _ _ (fun j hj => flowL_get hj), ← hf.lf v hv]
    exact hz v hv)
  refine ⟨hfl, strong h hfl (fun j hj => ?_)⟩
  rw [flowL_get hj]
  have h1 := hf.r0 j hj
  have h2 := hf.c0 j hj
  have h3 := hf.t0 j hj
  have h4 := hf.fr j hj
  have h5 := hf.es
  constructor
  · intro hl
    have := hp (2 * j) (by omega) (by omega)
    unfold Gr.rc at this
    rw [h2.1, h3.1, h4.1] at this
    exact this
  · intro hl
    have := hp (2 * j + 1) (by omega) hl
    unfold Gr.rc at this
    rw [h2.2, h3.2, h4.2] at this
    unfold rcN
    omega
/-- the nodes that are reached, as a list that climbs -/
def cutL (n : Nat) (C : Nat → Bool) : List Int := ((List.range n).filter C).map (fun (v : Nat) => (v : Int))
theorem cutL_in {n : Nat} {C : Nat → Bool} {v : Nat} (hv : v < n) : inK (cutL n C) (cutL n C).length (v : Int) = C v := by
  unfold inK cutL
  rw [List.take_length]
  by_cases h : C v = true
  · rw [h, decide_eq_true_eq]
    exact List.mem_map.2 ⟨v, by simp [hv, h], rfl⟩
  · have h' : C v = false := by simpa using h
    rw [h', decide_eq_false_iff_not]
    intro hm
    obtain ⟨u, hu, e⟩ := List.mem_map.1 hm
    obtain rfl : u = v := by omega
    simp [h'] at hu
theorem cutL_ok {n : Nat} {C : Nat → Bool} : ∀ k, k < (cutL n C).length → cutAt n (cutL n C) k = true := by
  intro k hk
  have hlen : (cutL n C).length = ((List.range n).filter C).length := by simp [cutL]
  have hget : ∀ j, j < ((List.range n).filter C).length → (cutL n C).getD j 0 = (((List.range n).filter C).getD j 0 : Int) := fun j hj => by
    simp [cutL, List.getD_eq_getElem?_getD, hj]
  have hs : ((List.range n).filter C).Pairwise (· < ·) := List.Pairwise.filter _ List.pairwise_lt_range
  rw [hlen] at hk
  rw [cutAt_iff]
  have hm : ((List.range n).filter C).getD k 0 < n := by
    rw [List.getD_eq_getElem?_getD, List.getElem?_eq_getElem hk]
    have := List.getElem_mem hk
    have := (List.mem_filter.1 this).1
    simpa using this
  refine ⟨by rw [hget k hk]; omega, by rw [hget k hk]; omega, fun h0 => ?_⟩
  rw [hget k hk, hget (k - 1) (by omega)]
  have := List.pairwise_iff_getElem.1 hs (k - 1) k (by omega) hk (by omega)
  rw [List.getD_eq_getElem?_getD, List.getElem?_eq_getElem (show k - 1 < _ by omega), List.getD_eq_getElem?_getD, List.getElem?_eq_getElem hk]
  simp only [Option.getD_some]
  omega
theorem lkR_dot (N : Net) (c : List Int) (k : Nat) : ∀ j, lkR N c k j = dotN (fun v => if inK c k v = true then 1 else 0) (fun v => N.sup.getD v 0) j
  | 0 => rfl
  | j + 1 => by
    simp only [lkR, dotN]
    rw [lkR_dot N c k j]
    split <;> simp
theorem lkA_arc (N : Net) (c : List Int) : ∀ k, lkA N c k = lkS N c c.length - arcS (fun _ => 1) (fun j => if inK c c.length (N.arcs.getD j default).fr = true ∧ inK c c.length (N.arcs.getD j default).to = false then (N.arcs.getD j default).cap else 0) k
  | 0 => by simp [lkA, arcS]
  | k + 1 => by simp only [lkA, arcS]; rw [lkA_arc N c k]; omega
theorem net_ends {N : Net} (h : chE N = 0) (j : Nat) (hj : j < N.arcs.length) : (N.arcs.getD j default).fr = (frN N j : Int) ∧ (N.arcs.getD j default).to = (toN N j : Int) ∧ frN N j < N.sup.length ∧ toN N j < N.sup.length := by
  obtain ⟨a1, a2, _⟩ := net_arc h j hj
  unfold frN toN
  omega
/-- a cut that lacks something: there is no flow -/
theorem cut_none {N : Net} {c : List Int} (h : chE N = 0) (hc : ∀ k, k < c.length → cutAt N.sup.length c k = true) (hl : 0 < lkA N c N.arcs.length) (fl : List Int) : isFlow N fl = false := by
  cases hb : isFlow N fl
  · rfl
  · exfalso
    have h1 := flow_left h hb
    have h2 := cut_flow (C := fun v => inK c c.length v) (f := fun j => fl.getD j 0) h
    rw [dot_congr (h := fun _ => 0) _ h1.1, ← lkR_dot, lkR_eq _ (Nat.le_refl _) hc] at h2
    have h3 : dotN (fun v => if inK c c.length (v : Int) = true then (1 : Int) else 0) (fun _ => 0) N.sup.length = 0 := by
      generalize N.sup.length = n
      induction n with
      | zero => rfl
      | succ n ih => simp only [dotN]; rw [ih]; simp
    rw [h3] at h2
    rw [lkA_arc] at hl
    have h4 := arc_le (f := fun j => - fl.getD j 0) (g := fun j => (if inK c c.length (toN N j : Int) = true then (1 : Int) else 0) - (if inK c c.length (frN N j : Int) = true then 1 else 0))
      (h := fun j => - (if inK c c.length (N.arcs.getD j default).fr = true ∧ inK c c.length (N.arcs.getD j default).to = false then (N.arcs.getD j default).cap else 0)) N.arcs.length
    have neg1 : ∀ (f g : Nat → Int) k, arcS (fun j => - f j) g k = - arcS f g k := fun f g k => by
      induction k with
      | zero => rfl
      | succ k ih => simp only [arcS]; rw [ih, Int.neg_mul]; omega
    have neg2 : ∀ (g : Nat → Int) k, arcS (fun _ => 1) (fun j => - g j) k = - arcS (fun _ => 1) g k := fun g k => by
      induction k with
      | zero => rfl
      | succ k ih => simp only [arcS]; rw [ih]; omega
    have h5 : arcS (fun j => fl.getD j 0) (fun j => (if inK c c.length (toN N j : Int) = true then (1 : Int) else 0) - (if inK c c.length (frN N j : Int) = true then 1 else 0)) N.arcs.length ≥ - arcS (fun _ => 1) (fun j => if inK c c.length (N.arcs.getD j default).fr = true ∧ inK c c.length (N.arcs.getD j default).to = false then (N.arcs.getD j default).cap else 0) N.arcs.length := by
      have := arc_le (f := fun j => fl.getD j 0) (g := fun j => (if inK c c.length (toN N j : Int) = true then (1 : Int) else 0) - (if inK c c.length (frN N j : Int) = true then 1 else 0))
        (h := fun j => - (if inK c c.length (N.arcs.getD j default).fr = true ∧ inK c c.length (N.arcs.getD j default).to = false then (N.arcs.getD j default).cap else 0)) N.arcs.length (fun j hj => by
          have e := net_ends h j hj
          have b := h1.2 j hj
          rw [e.1, e.2.1]
          generalize fl.getD j 0 = f at *
          generalize (N.arcs.getD j default).cap = ca at *
          cases hA : inK c c.length (frN N j : Int) <;> cases hB : inK c c.length (toN N j : Int) <;> simp <;> omega)
      rw [neg2] at this
      exact this
    omega
/-- something is left: the nodes that are reached are a cut that lacks just that -/
theorem end_cut {N : Net} {G : Gr} {p fa vi : List Int} (h : chE N = 0) (hG : G.Ok N.sup.length) (hf : Fits N G) (hr : NR G N.sup.length p fa vi (-1)) :
    lkA N (cutL N.sup.length (fun v => decide (fa.getD v 0 < never))) N.arcs.length = restV G.left := by
  have hfin : ∀ v, v < N.sup.length → fa.getD v 0 < never → 0 ≤ G.lf v := by
    rcases hr.fin with ⟨_, h1⟩ | ⟨t, e, _⟩
    · exact h1
    · omega
  generalize hC : (fun v => decide (fa.getD v 0 < never)) = C
  have hCv : ∀ v, C v = decide (fa.getD v 0 < never) := fun v => by rw [← hC]
  have h1 := cut_flow (C := C) (f := fun j => G.room (2 * j + 1)) h
  have hc := cutL_ok (n := N.sup.length) (C := C)
  have h2 : dotN (fun v => if C v = true then 1 else 0) (lv N (fun j => G.room (2 * j + 1)) N.arcs.length) N.sup.length = restV G.left := by
    rw [rest_dot, hf.ll]
    have : ∀ k, k ≤ N.sup.length → dotN (fun v => if C v = true then 1 else 0) (lv N (fun j => G.room (2 * j + 1)) N.arcs.length) k = dotN (fun _ => 1) (fun v => max 0 (G.left.getD v 0)) k := by
      intro k
      induction k with
      | zero => intro _; rfl
      | succ k ih =>
        intro hk
        simp only [dotN]
        rw [ih (by omega), ← hf.lf k (by omega)]
        have h3 := hfin k (by omega)
        have h4 := hr.src k (by omega)
        have e : G.left.getD k 0 = G.lf k := rfl
        rw [e, hCv]
        by_cases h5 : fa.getD k 0 < never
        · rw [if_pos (by simpa using h5)]
          have := h3 h5
          omega
        · rw [if_neg (by simpa using h5)]
          have : ¬ 0 < G.lf k := fun hp => by have := h4 hp; unfold never at h5; omega
          omega
    exact this _ (Nat.le_refl _)
  rw [h2] at h1
  rw [lkA_arc, ← lkR_eq _ (Nat.le_refl _) hc, lkR_dot]
  have e1 : dotN (fun v => if inK (cutL N.sup.length C) (cutL N.sup.length C).length (v : Int) = true then (1 : Int) else 0) (fun v => N.sup.getD v 0) N.sup.length = dotN (fun v => if C v = true then 1 else 0) (fun v => N.sup.getD v 0) N.sup.length := by
    have : ∀ k, k ≤ N.sup.length → dotN (fun v => if inK (cutL N.sup.length C) (cutL N.sup.length C).length (v : Int) = true then (1 : Int) else 0) (fun v => N.sup.getD v 0) k = dotN (fun v => if C v = true then 1 else 0) (fun v => N.sup.getD v 0) k := by
      intro k
      induction k with
      | zero => intro _; rfl
      | succ k ih => intro hk; simp only [dotN]; rw [ih (by omega), cutL_in (by omega)]
    exact this _ (Nat.le_refl _)
  rw [e1, h1]
  have neg2 : ∀ (g : Nat → Int) k, arcS (fun _ => 1) (fun j => - g j) k = - arcS (fun _ => 1) g k := fun g k => by
    induction k with
    | zero => rfl
    | succ k ih => simp only [arcS]; rw [ih]; omega
  have h6 := arc_congr (f := fun j => G.room (2 * j + 1)) (g := fun j => (if C (toN N j) = true then (1 : Int) else 0) - (if C (frN N j) = true then 1 else 0))
    (h := fun j => - (if inK (cutL N.sup.length C) (cutL N.sup.length C).length (N.arcs.getD j default).fr = true ∧ inK (cutL N.sup.length C) (cutL N.sup.length C).length (N.arcs.getD j default).to = false then (N.arcs.getD j default).cap else 0)) N.arcs.length (fun j hj => by
      have e := net_ends h j hj
      have b := hf.r0 j hj
      have rc := room_cap hG hf j hj
      have t := hf.t0 j hj
      have f := hf.fr j hj
      have es := hf.es
      rw [e.1, e.2.1, cutL_in e.2.2.1, cutL_in e.2.2.2]
      have k1 := hr.bel (2 * j) (by omega)
      have k2 := hr.bel (2 * j + 1) (by omega)
      rw [f.1, t.1] at k1
      rw [f.2, t.2] at k2
      generalize (N.arcs.getD j default).cap = ca at b ⊢
      have c1 := hCv (frN N j)
      have c2 := hCv (toN N j)
      by_cases a1 : fa.getD (frN N j) 0 < never <;> by_cases a2 : fa.getD (toN N j) 0 < never <;> simp only [a1, a2, decide_true, decide_false] at c1 c2 <;> rw [c1, c2] <;> simp
      · have : ¬ 0 < G.room (2 * j) := fun hp => a2 ((k1 a1 hp).2)
        omega
      · have : ¬ 0 < G.room (2 * j + 1) := fun hp => a1 ((k2 a2 hp).2)
        omega)
  rw [neg2] at h6
  omega
end Dp
end Go.Proofs.Ytmebpglkeedaoaa
namespace Go.Proofs.Ytmebpglkeedaoaa
open Go.RowKit Dp
set_option linter.unusedVariables false

section
variable {w : World} {B b gl cl ce bo ge : Nat} {E : Option Addr} {G : Gr}
theorem GrAt.putL (h : GrAt w B b gl cl E ce bo G) (v : Nat) (x : Int) : GrAt (w.setCell ⟨gl, v, none⟩ (.int .i64 x)) B b gl cl E ce bo { G with left := G.left.set v x } :=
  { blk := by show Blk _ b 113 [.slice (some ⟨gl, 0, none⟩) (G.left.set v x).length cl, _, _]; rw [List.length_set]; exact h.blk.setCell_ne h.ne.1 _
    left := h.left.put v x
    es := h.es.set_ne (p := ⟨gl, v, none⟩) h.ne.2.2 _
    outs := h.outs.touch (T := fun k => k = gl) h.bo.1 h.bo.2.2.1 (fun k e => .inr (.inl e)) ((Touch.refl (fun k => k = gl) w).setCell (p := ⟨gl, v, none⟩) (.inl rfl) _)
    bo := ⟨by simp [World.setCell]; exact h.bo.1, h.bo.2⟩
    ne := h.ne
    base := h.base }
theorem GrAt.putE (h : GrAt w B b gl cl (some ⟨ge, 0, none⟩) ce bo G) (k : Nat) (r : Int) (hk : k < G.es.length) : GrAt (w.setCell ⟨ge, k * 3 + 1, none⟩ (.int .i64 r)) B b gl cl (some ⟨ge, 0, none⟩) ce bo { G with es := setRoom G.es k r } :=
  { blk := by
      show Blk _ b 113 [_, .slice (some ⟨ge, 0, none⟩) (setRoom G.es k r).length ce, _]
      rw [setRoom_len]
      exact h.blk.setCell_ne (fun e => h.ne.2.1 (ownB_some.2 e)) _
    left := by
      have hne : gl ≠ ge := fun e => h.ne.2.2 (ownB_some.2 e)
      have := ownSet h.left (p := ⟨ge, k * 3 + 1, none⟩) (fun e => hne (ownB_some.1 e).symm) (.int .i64 r)
      exact this
    es := h.es.put edC_len k 1 { G.es.getD k default with room := r } (G.es.getD k default) (.int .i64 r) (getElem_D G.es k default hk) (by omega) rfl
    outs := h.outs.touch (T := fun k => k = ge) h.bo.1 (fun e => h.bo.2.2.2 (ownB_some.2 e)) (fun k e => .inr (.inr (ownB_some.2 e))) ((Touch.refl (fun q => q = ge) w).setCell (p := ⟨ge, k * 3 + 1, none⟩) (.inl rfl) _)
    bo := ⟨by simp [World.setCell]; exact h.bo.1, h.bo.2⟩
    ne := h.ne
    base := h.base }
end
theorem xor_tw (k : Nat) (hk : k < 4294967296) : bits .xor .i64 (k : Int) 1 = (tw k : Int) := by
  have e : k ^^^ 1 = tw k := by
    have h1 : (k ^^^ 1) / 2 = k / 2 := by rw [Nat.xor_div_two]; simp
    have h2 : (k ^^^ 1) % 2 = (k + 1) % 2 := by have := @Nat.xor_mod_two_eq_one k 1; omega
    unfold tw
    split <;> omega
  have hx : k ^^^ 1 < 2 ^ 33 := Nat.xor_lt_two_pow (by omega) (by omega)
  have h1 : (BitVec.ofInt 64 (k : Int)).toNat = k := by
    rw [BitVec.ofInt_natCast, BitVec.toNat_ofNat]; exact Nat.mod_eq_of_lt (by omega)
  have h2 : (BitVec.ofInt 64 (1 : Int)).toNat = 1 := by decide
  show IntKind.i64.wrap ((BitVec.ofInt 64 (k : Int) ^^^ BitVec.ofInt 64 1).toNat : Int) = _
  rw [BitVec.toNat_xor, h1, h2, e, IntKind.wrap_i64]
  rw [e] at hx
  omega
theorem pushE_def (es : List Ed) (k : Nat) (x r1 r2 : Int) (h1 : r1 = (es.getD k default).room - x) (h2 : r2 = ((setRoom es k r1).getD (tw k) default).room + x) : setRoom (setRoom es k r1) (tw k) r2 = pushE es k x := by
  subst h1; subst h2; rfl

set_option maxRecDepth 100000 in
theorem push_c (b gl cl ce bo B : Nat) (E : Option Addr) (G : Gr) (k : Nat) (x : Int) (w : World) (hk : k < G.es.length) (ht : tw k < G.es.length) (hle : G.es.length ≤ 4096) (hr : -8589934592 ≤ G.room k ∧ G.room k ≤ 8589934592) (hr2 : -8589934592 ≤ G.room (tw k) ∧ G.room (tw k) ≤ 8589934592) (hx : -17179869184 ≤ x ∧ x ≤ 17179869184) (hg : GrAt w B b gl cl E ce bo G) :
    Calls Try.prog 97 #[.pointer (some ⟨b, 0, none⟩), .int .i64 k, .int .i64 x] w fun e w' => e = .returned (.tuple #[]) ∧ GrAt w' B b gl cl E ce bo { G with es := pushE G.es k x } ∧ Touch (fun q => OwnB E q) w w' := by
  have HA := Lib.hid hg
  obtain ⟨ge, rfl, gel, e0, e1, e2⟩ := hg.edge k hk
  have c1 := hg.blk.cell 1 rfl
  have bl := hg.blk.lt
  have z1 := hg.es.free (k * 3 + 1)
  have P1 := Lib.hid (fun r => hg.putE k r hk)
  have P2 := Lib.hid (fun r => (hg.putE k r hk).edge (tw k) (by show tw k < (setRoom G.es k r).length; rw [setRoom_len]; exact ht))
  have P3 := Lib.hid (fun r r2 => (hg.putE k r hk).putE (tw k) r2 (by show tw k < (setRoom G.es k r).length; rw [setRoom_len]; exact ht))
  have HR1 : Hid (G.room k = (G.es.getD k default).room) := Lib.hid rfl
  have HR2 : Hid (∀ r, ((setRoom G.es k r).getD (tw k) default).room = G.room (tw k)) := Lib.hid (fun r => by
    rw [(setRoom_get G.es k r hk (tw k)).2.2, if_neg (tw_ne k)]; rfl)
  have HT : Hid (tw k = if k % 2 = 0 then k + 1 else k - 1) := Lib.hid rfl
  rw [HR1.out] at hr
  have HS := Lib.hid (setRoom_len G.es k)
  generalize hml : G.es.length = ml at *
  have HML := Lib.hid hml
  clear hml hg
  generalize (G.es.getD k default).room = ro at *
  generalize G.room (tw k) = r2 at *
  have hki : (k : Int) < (ml : Int) := by omega
  obtain ⟨t, htt⟩ : ∃ t, t = tw k := ⟨_, rfl⟩
  rw [← htt] at ht P2 P3 HR2 HT
  have HTW := Lib.hid htt
  clear htt
  have hti : (t : Int) < (ml : Int) := by omega
  have hxo : bits .xor .i64 (k : Int) 1 = (t : Int) := by rw [HTW.out]; exact xor_tw k (by omega)
  go_enter Try.func97, Try.ntmps97
  go_upto_region 1 with fail
  have J1 := P1.out (ro - x)
  obtain ⟨ge', hge, gel1, f0, f1, f2⟩ := P2.out (ro - x)
  cases hge
  rw [HR2.out] at f1
  have c1 := J1.blk.cell 1 rfl
  simp only [HS.out] at c1
  have z1 := J1.es.free (t * 3 + 1)
  have J1 := Lib.hid J1
  have T1 := Lib.hid ((Touch.refl (fun q => OwnB (some ⟨ge, 0, none⟩) q) w).setCell (p := ⟨ge, k * 3 + 1, none⟩) (.inl (ownB_some.2 rfl)) (.int .i64 (ro - x)))
  have P4 := Lib.hid (P3.out (ro - x))
  generalize w.setCell ⟨ge, k * 3 + 1, none⟩ (.int .i64 (ro - x)) = w1 at *
  clear e0 e1 e2 P1 P2 P3
  go_wp2_with fail
  have P5 := P4.out (r2 + x)
  rw [HTW.out] at P5
  rw [pushE_def G.es k x (ro - x) (r2 + x) (by rw [← HR1.out]; rfl) (by rw [← HTW.out, HR2.out])] at P5
  rw [← HTW.out] at P5
  exact bodyPost_end (v := .tuple #[]) (by simp [results, Try.results97, go_sem]) rfl ⟨rfl, P5, T1.out.setCell (p := ⟨ge, t * 3 + 1, none⟩) (.inl (ownB_some.2 rfl)) _⟩
end Go.Proofs.Ytmebpglkeedaoaa
namespace Go.Proofs.Ytmebpglkeedaoaa
open Go.RowKit Dp
set_option linter.unusedVariables false

theorem pushL_app (G : Gr) (a b : List Nat) (x : Int) : G.pushL (a ++ b) x = (G.pushL a x).pushL b x := by simp [Gr.pushL, List.foldl_append]
theorem min_i64 (x y : Int) (ts : Array TypeId) (t : TypeId) (w : World) : (Builtin.min_ ts t #[.int .i64 x, .int .i64 y]).run Try.prog w = .ok (.int .i64 (min x y)) w := minTwo x y ts t w
theorem ok_to {G : Gr} {n : Nat} (h : G.Ok n) {k : Nat} (hk : k < G.es.length) : (G.es.getD k default).to = (G.toA k : Int) := by have := h.to k hk; unfold Gr.toA; omega

theorem intsAt_touch {S : Nat → Prop} {w W : World} {V : Option Addr} {xs : List Int} (h : IntsAt w V xs) (k : Touch S w W) (hn : ∀ b, OwnB V b → ¬ S b) : IntsAt W V xs := fun i hi => by
  obtain ⟨ad, e, hlt, c⟩ := h i hi
  exact ⟨ad, e, Nat.lt_of_lt_of_le hlt k.size, (k.cell (p := ad.add i) (by rw [block_add]; exact hlt) (by rw [block_add]; exact hn _ ⟨ad, e, rfl⟩)).trans c⟩
theorem left_end {G : Gr} {n : Nat} {vi : List Int} {ks : List Nat} {s t : Nat} {x : Int} (h : Sent G n vi ks s t x) (hG : G.Ok n) (hst : s ≠ t) : ({ left := (G.left.set s (G.lf s - x)).set t (G.lf t + x), es := (G.pushL ks x).es, outs := G.outs } : Gr) = G.pushL ks x := by
  have h1 := h.ok hG
  have ha := pushL_alike (x := x) h1.1
  have hl := pushL_lf (x := x) h.way hG.fine
  have e1 : (G.left.set s (G.lf s - x)).set t (G.lf t + x) = (G.pushL ks x).left := list_eq (by simp [ha.ll]) (fun v hv => by
    have hs : s < G.left.length := by rw [hG.ll]; exact h.sn
    have ht : t < (G.left.set s (G.lf s - x)).length := by rw [List.length_set, hG.ll]; exact h.tn
    rw [getD_setI _ _ _ _ ht, getD_setI _ _ _ _ hs]
    have := hl v
    unfold Gr.lf at this ⊢
    rw [this]
    by_cases e1 : v = t
    · subst e1; rw [if_pos rfl, if_pos rfl, if_neg (fun e => hst e.symm)]; omega
    · rw [if_neg e1, if_neg e1]
      by_cases e2 : v = s
      · subst e2; rw [if_pos rfl, if_pos rfl]; omega
      · rw [if_neg e2, if_neg e2]; omega)
  rw [e1]
  have e2 := ha.outs
  generalize G.pushL ks x = G' at *
  obtain ⟨a, b, c⟩ := G'
  simp only at e2 ⊢
  rw [e2]

set_option maxHeartbeats 2000000 in
set_option maxRecDepth 100000 in
theorem send_c (b gl cl ce bo B cv n s t : Nat) (E V : Option Addr) (G : Gr) (vi : List Int) (ks : List Nat) (w : World) (hG : G.Ok n) (hw : Dp.Way G vi t ks s) (hnd : (t :: ks.map G.frA).Nodup) (hsn : s < n) (htn : t < n) (hsl : 0 < G.lf s) (htl : G.lf t < 0)
    (hks : ∀ k, k ∈ ks → 0 < G.room k) (hvl : vi.length = n) (hcv : n ≤ cv ∧ cv ≤ 9223372036854775807) (hg : GrAt w B b gl cl E ce bo G) (hV : IntsAt w V vi) (hVn : ∀ k, OwnB V k → k ≠ gl ∧ ¬ OwnB E k) :
    Calls Try.prog 72 #[.pointer (some ⟨b, 0, none⟩), .slice V n cv, .int .i64 t] w fun e w' => e = .returned (.tuple #[]) ∧ ∃ x, Sent G n vi ks s t x ∧ GrAt w' B b gl cl E ce bo (G.pushL ks x) ∧ Touch (fun k => k = gl ∨ OwnB E k) w w' := by
  have HG := Lib.hid hG
  have HA := Lib.hid hg
  have HVA := Lib.hid hV
  have HW := Lib.hid hw
  have HKS := Lib.hid hks
  have HSN := Lib.hid hsn
  have HVL := Lib.hid hvl
  have LL := Lib.hid hG.ll
  have LE := Lib.hid hG.le
  have n2 : n ≤ 1024 := hG.n1.2
  have c0 := hg.blk.cell 0 rfl
  rw [hG.ll] at c0
  have l0 := hg.left.cell t (by rw [hG.ll]; exact htn)
  have hlb := hG.lb t htn
  have hlbs := hG.lb s hsn
  have HT : Hid (G.lf t = G.left.getD t 0) := Lib.hid rfl
  rw [HT.out] at htl hlb
  generalize G.left.getD t 0 = lt at *
  have hti : (t : Int) < (n : Int) := by omega
  have GC : Hid (∀ W, Below w.heap.size w W → GrAt W B b gl cl E ce bo G ∧ IntsAt W V vi) := Lib.hid (fun W h => ⟨HA.out.below h, HVA.out.below h (Nat.le_refl _)⟩)
  have SIM := Lib.hid (way_simple hw hnd)
  clear hG hg hV hw hks hsn hvl
  go_enter Try.func72, Try.ntmps72
  go_wp2_with fail
  go_loopg [6, 7] ks.length (fun m xv av wr => ∃ (x : Int) (u : Nat) (dn rs : List Nat), xv = .int .i64 x ∧ av = .int .i64 u ∧ m = rs.length ∧ (0 < x ∧ x ≤ -lt) ∧ u < n ∧ Hid (ks = dn ++ rs ∧ Dp.Way G vi u rs s ∧ Below w.heap.size w wr ∧ ∀ k, k ∈ dn → x ≤ G.room k))
  case atStart => exact ⟨-lt, t, [], ks, rfl, rfl, rfl, ⟨by omega, by omega⟩, htn, Lib.hid ⟨rfl, HW.out, Below.refl _ _, fun k hk => by simp at hk⟩⟩
  case round =>
    obtain ⟨x, u, dn, rs, rfl, rfl, hm, hx, hun, HJ⟩ := hrel
    obtain ⟨q1, q2, q3, q4⟩ := HJ.out
    have HS := Lib.hid q1
    have HWR := Lib.hid q2
    have HB := Lib.hid q3
    have HD := Lib.hid q4
    clear HJ q1 q2 q3 q4 c0 l0
    have hui : (u : Int) < (n : Int) := by omega
    obtain ⟨av, rfl, avl, av0⟩ := (GC.out _ HB.out).2 u (by rw [HVL.out]; exact hun)
    have avb : (av.add u).block < wr.heap.size := by rw [block_add]; exact avl
    cases rs with
    | nil =>
      have hv : vi.getD u 0 = -1 := HWR.out.1
      have hus : u = s := HWR.out.2
      subst hus
      rw [hv] at av0
      have hdn : dn = ks := by have := HS.out; rw [List.append_nil] at this; exact this.symm
      subst hdn
      have hsn' : u < n := hun
      have hA1 := (GC.out _ HB.out).1
      have c0 := hA1.blk.cell 0 rfl
      rw [LL.out] at c0
      have l0 := hA1.left.cell u (by rw [LL.out]; exact hun)
      have z0 := hA1.left.free u
      have HA1 := Lib.hid hA1
      have T1 : Hid (Touch (fun k => k = gl ∨ OwnB E k) w wr) := Lib.hid (Touch.of_below HB.out)
      have HLS : Hid (G.lf u = G.left.getD u 0) := Lib.hid rfl
      clear hA1
      rw [HLS.out] at hsl hlbs
      have PL := Lib.hid (fun y => HA1.out.putL u y)
      generalize G.left.getD u 0 = ls at *
      have hne : u ≠ t := fun e => by subst e; have h1 := HLS.out; have h2 := HT.out; omega
      have hmn := fun ts t W => min_i64 x ls ts t W
      generalize hy : min x ls = y at *
      have hy1 : 0 < y ∧ y ≤ -lt := by omega
      have HY : Hid (y ≤ x ∧ y ≤ ls) := Lib.hid (by omega)
      clear hy
      have SX : Hid (Sent G n vi dn u t y) := Lib.hid ⟨HW.out, hnd, hun, htn, hy1.1, by rw [HLS.out]; exact HY.out.2, by rw [HT.out]; omega, fun k hk => by have := HD.out k hk; have := HY.out.1; omega⟩
      have hys : y ≤ ls := HY.out.2
      go_upto_region 7 with fail
      have A2 := Lib.hid (PL.out (ls - y))
      have T2 := Lib.hid (T1.out.setCell (p := ⟨gl, u, none⟩) (.inl (.inl rfl)) (.int .i64 (ls - y)))
      generalize wr.setCell ⟨gl, u, none⟩ (.int .i64 (ls - y)) = w2 at A2 T2 ⊢
      clear c0 l0 z0 PL
      have c0 := A2.out.blk.cell 0 rfl
      simp only [List.length_set, LL.out] at c0
      have l0 := A2.out.left.cell t (by simp only [List.length_set, LL.out]; exact htn)
      have z0 := A2.out.left.free t
      have hlt2 : (G.left.set u (ls - y)).getD t 0 = lt := by
        rw [getD_setI _ _ _ _ (by rw [LL.out]; exact hun), if_neg (fun e => hne e.symm)]
        exact HT.out
      simp only [hlt2] at l0
      clear hlt2
      have PL := Lib.hid (A2.out.putL t (lt + y))
      have T3 := Lib.hid (T2.out.setCell (p := ⟨gl, t, none⟩) (.inl (.inl rfl)) (.int .i64 (lt + y)))
      go_wp2_with fail
      generalize w2.setCell ⟨gl, t, none⟩ (.int .i64 (lt + y)) = w3 at PL T3 ⊢
      clear c0 l0 z0 T1 T2 A2 HA1 av0 avl avb HB HD HWR
      have VI : Hid (∀ W, Touch (fun k => k = gl ∨ OwnB E k) w W → IntsAt W (some av) vi) := Lib.hid (fun W h => intsAt_touch HVA.out h (fun q hq hs => by
        have := hVn q hq
        rcases hs with hs | hs
        · exact this.1 hs
        · exact this.2 hs))
      go_loopg [7] dn.length (fun m av wr => ∃ (v : Nat) (d2 r2 : List Nat), av = .int .i64 v ∧ m = r2.length ∧ v < n ∧ Hid (dn = d2 ++ r2 ∧ Dp.Way G vi v r2 u ∧ GrAt wr B b gl cl E ce bo { left := (G.left.set u (ls - y)).set t (lt + y), es := (G.pushL d2 y).es, outs := G.outs } ∧ Touch (fun k => k = gl ∨ OwnB E k) w wr))
      case atStart => exact ⟨t, [], dn, rfl, rfl, htn, Lib.hid ⟨rfl, HW.out, PL.out, T3.out⟩⟩
      case round =>
        obtain ⟨v, d2, r2, rfl, hm2, hvn, HJ⟩ := hrel
        obtain ⟨q1, q2, q3, q4⟩ := HJ.out
        have HS2 := Lib.hid q1
        have HW2 := Lib.hid q2
        have HA2 := Lib.hid q3
        have HT2 := Lib.hid q4
        clear HJ q1 q2 q3 q4 PL T3
        have hvi : (v : Int) < (n : Int) := by omega
        obtain ⟨av', hav, avl, av0⟩ := (VI.out _ HT2.out) v (by rw [HVL.out]; exact hvn)
        cases hav
        have avb : (av.add v).block < wr.heap.size := by rw [block_add]; exact avl
        cases r2 with
        | nil =>
          have hv : vi.getD v 0 = -1 := HW2.out.1
          rw [hv] at av0
          have hd2 : d2 = dn := by have := HS2.out; rw [List.append_nil] at this; exact this.symm
          subst hd2
          have LE2 := left_end SX.out HG.out hne
          rw [HLS.out, HT.out] at LE2
          have HA3 := HA2.out
          rw [LE2] at HA3
          have HA3 := Lib.hid HA3
          clear LE2 HA2
          go_wp2_with fail
          exact bodyPost_end (v := .tuple #[]) (by simp [results, Try.results72, go_sem]) rfl ⟨rfl, y, SX.out, HA3.out, HT2.out⟩
        | cons k rs =>
          have hv : vi.getD v 0 = (k : Int) := HW2.out.1
          have hkl : k < G.es.length := HW2.out.2.1
          have hkm : k ∈ dn := by rw [HS2.out]; simp
          have hal  : Dp.Alike G (G.pushL d2 y) := pushL_alike (fun j hj => SX.out.ok HG.out |>.1 j (by rw [HS2.out]; simp [hj]))
          have hroom := pushL_room (x := y) (ks := d2) (G := G) (fun j hj => SX.out.ok HG.out |>.1 j (by rw [HS2.out]; simp [hj]))
          have hk2 : k ∉ d2 := fun hm => by
            have h1 := SIM.out.1
            rw [HS2.out] at h1
            exact (List.nodup_append.1 h1).2.2 k hm k (by simp) rfl
          have ht2 : tw k ∉ d2 := fun hm => SIM.out.2 k ⟨hkm, by rw [HS2.out]; simp [hm]⟩
          have hr1 : (G.pushL d2 y).room k = G.room k := by rw [hroom, List.count_eq_zero.2 hk2, List.count_eq_zero.2 ht2]; simp
          have hr2 : (G.pushL d2 y).room (tw k) = G.room (tw k) := by rw [hroom, tw_tw, List.count_eq_zero.2 hk2, List.count_eq_zero.2 ht2]; simp
          have hrm := HG.out.rm k hkl
          have hrm2 := HG.out.rm (tw k) (HG.out.tl hkl)
          rw [tw_tw] at hrm2
          have PU := Lib.hid (push_c b gl cl ce bo B E { left := (G.left.set u (ls - y)).set t (lt + y), es := (G.pushL d2 y).es, outs := G.outs } k y wr (by show k < (G.pushL d2 y).es.length; rw [hal.le]; exact hkl) (by show tw k < (G.pushL d2 y).es.length; rw [hal.le]; exact HG.out.tl hkl) (by show (G.pushL d2 y).es.length ≤ 4096; rw [hal.le]; exact LE.out)
            (by show -8589934592 ≤ (G.pushL d2 y).room k ∧ (G.pushL d2 y).room k ≤ 8589934592; rw [hr1]; omega) (by show -8589934592 ≤ (G.pushL d2 y).room (tw k) ∧ (G.pushL d2 y).room (tw k) ≤ 8589934592; rw [hr2]; omega) (by omega) HA2.out)
          have PE : Hid (({ left := (G.left.set u (ls - y)).set t (lt + y), es := pushE (G.pushL d2 y).es k y, outs := G.outs } : Gr) = { left := (G.left.set u (ls - y)).set t (lt + y), es := (G.pushL (d2 ++ [k]) y).es, outs := G.outs }) := Lib.hid (by rw [pushL_app]; rfl)
          have hal2  : Dp.Alike G (G.pushL (d2 ++ [k]) y) := pushL_alike (fun j hj => SX.out.ok HG.out |>.1 j (by
            rw [HS2.out]
            rcases List.mem_append.1 hj with h | h
            · simp [h]
            · simp at h; simp [h]))
          have HAL2 := Lib.hid hal2
          have HFR : Hid (G.toA (tw k) = G.frA k) := Lib.hid rfl
          have hfn := HG.out.frL hkl
          clear hroom hal hk2 ht2 hr1 hr2 hrm hrm2 hal2
          rw [hv] at av0
          clear hv
          go_wp2_with fail
          refine PU.out.mono ?_
          rintro e w5 ⟨rfl, h5, t5⟩
          rw [PE.out] at h5
          have T5 := Lib.hid (HT2.out.trans (t5.mono (fun q hq => .inr hq)))
          obtain ⟨ge, rfl, gel, f0, f1, f2⟩ := h5.edge (tw k) (by show tw k < (G.pushL (d2 ++ [k]) y).es.length; rw [HAL2.out.le]; exact HG.out.tl hkl)
          simp only [HAL2.out.to] at f0
          rw [ok_to HG.out (HG.out.tl hkl), HFR.out] at f0
          have c1 := h5.blk.cell 1 rfl
          simp only [HAL2.out.le] at c1
          have bl := h5.blk.lt
          obtain ⟨av', hav, avl2, av2⟩ := (VI.out _ T5.out) v (by rw [HVL.out]; exact hvn)
          cases hav
          have hv : vi.getD v 0 = (k : Int) := HW2.out.1
          rw [hv] at av2
          have avb2 : (av.add v).block < w5.heap.size := by rw [block_add]; exact avl2
          have H5 := Lib.hid h5
          have hle := LE.out
          have htl2 := HG.out.tl hkl
          clear h5 t5 PU PE av0 avl avb hv f1 f2
          generalize hml : G.es.length = ml at *
          have hxo : bits .xor .i64 (k : Int) 1 = (tw k : Int) := xor_tw k (by omega)
          generalize htk : tw k = tk at *
          have HTK := Lib.hid htk
          have HML := Lib.hid hml
          clear htk hml
          have hki : (k : Int) < (ml : Int) := by omega
          have htki : (tk : Int) < (ml : Int) := by omega
          go_upto_region 10 with fail
          refine wp_region_past (by kernel_rfl) (by kernel_rfl) ?_
          repeat (go_big_quiet_step (fail))
          refine wpQuiet_nil ?_
          intro xx
          have A6 := Lib.hid (H5.out.below xx.far)
          have T6 := Lib.hid (T5.out.below xx.far)
          generalize xx.w = w6 at A6 T6 ⊢
          clear f0 c1 bl av2 avb2 avl2
          go_wp2_with fail
          go_roundg rs.length
          case measure => rw [hm2]; simp
          case rel => exact ⟨G.frA k, d2 ++ [k], rs, rfl, rfl, hfn, Lib.hid ⟨by rw [HS2.out]; simp, HW2.out.2.2.2, A6.out, T6.out⟩⟩
    | cons k rs =>
      have hv : vi.getD u 0 = (k : Int) := HWR.out.1
      have hkl : k < G.es.length := HWR.out.2.1
      rw [hv] at av0
      obtain ⟨ge, rfl, gel, e0, e1, e2⟩ := (GC.out _ HB.out).1.edge k hkl
      obtain ⟨ge', hge, _, f0, _, _⟩ := (GC.out _ HB.out).1.edge (tw k) (HG.out.tl hkl)
      cases hge
      have hro := HKS.out k (by rw [HS.out]; simp)
      have hrb := HG.out.rm k hkl
      have hrb2 := HG.out.rm (tw k) (HG.out.tl hkl)
      have HRO : Hid (G.room k = (G.es.getD k default).room) := Lib.hid rfl
      rw [HRO.out] at hro hrb
      rw [ok_to HG.out (HG.out.tl hkl)] at f0
      have hfn := HG.out.frL hkl
      have HFR : Hid (G.frA k = G.toA (tw k)) := Lib.hid rfl
      rw [HFR.out] at hfn
      have hle := LE.out
      have htl2 := HG.out.tl hkl
      have c1 := (GC.out _ HB.out).1.blk.cell 1 rfl
      have bl := (GC.out _ HB.out).1.blk.lt
      generalize hml : G.es.length = ml at *
      have HML := Lib.hid hml
      clear hml
      generalize (G.es.getD k default).room = ro at *
      generalize G.room (tw k) = r2 at *
      have hxo : bits .xor .i64 (k : Int) 1 = (tw k : Int) := xor_tw k (by omega)
      generalize G.toA (tw k) = v at *
      generalize tw k = tk at *
      have hki : (k : Int) < (ml : Int) := by omega
      have htk : (tk : Int) < (ml : Int) := by omega
      have hmn := fun ts t W => min_i64 x ro ts t W
      generalize hy : min x ro = y at *
      have hy1 : 0 < y ∧ y ≤ -lt := by omega
      have HY : Hid (y ≤ x ∧ y ≤ ro) := Lib.hid (by omega)
      clear hy
      go_upto_region 3 with fail
      refine wp_region_past (by kernel_rfl) (by kernel_rfl) ?_
      repeat (go_big_quiet_step (fail))
      refine wpQuiet_nil ?_
      intro xx
      have HB4 := Lib.hid (HB.out.trans (xx.far.mono HB.out.size))
      have av1 := (xx.far.cell (p := av.add u) avb).trans av0
      have f1 := (xx.far.cell (p := ⟨ge, tk * 3, none⟩) gel).trans f0
      have c2 := (xx.far.cell (p := ⟨b, 1, none⟩) bl).trans c1
      have hsz := xx.far.size
      generalize xx.w = w4 at HB4 av1 f1 c2 hsz ⊢
      have avb4 : (av.add u).block < w4.heap.size := by omega
      have gel4 : ge < w4.heap.size := by omega
      have bl4 : b < w4.heap.size := by omega
      clear av0 f0 c1 e0 e1 e2 hmn
      go_upto_region 4 with fail
      refine wp_region_past (by kernel_rfl) (by kernel_rfl) ?_
      repeat (go_big_quiet_step (fail))
      refine wpQuiet_nil ?_
      intro xx
      have HB5 := Lib.hid (HB4.out.trans (xx.far.mono HB4.out.size))
      generalize xx.w = w5 at HB5 ⊢
      clear av1 f1 c2 avb4 gel4 bl4
      go_wp2_with fail
      go_roundg rs.length
      case measure => rw [hm]; simp
      case rel => exact ⟨y, v, dn ++ [k], rs, rfl, rfl, rfl, hy1, hfn, Lib.hid ⟨by rw [HS.out]; simp, by have := HWR.out.2.2.2; rw [HFR.out] at this; exact this, HB5.out, fun j hj => by
        rcases List.mem_append.1 hj with h | h
        · have := HD.out j h; have := HY.out.1; omega
        · simp at h; subst h; rw [HRO.out]; exact HY.out.2⟩⟩
end Go.Proofs.Ytmebpglkeedaoaa
namespace Go.Proofs.Ytmebpglkeedaoaa
open Go.RowKit Dp
set_option linter.unusedVariables false

theorem max_i64 (x y : Int) (ts : Array TypeId) (t : TypeId) (w : World) : (Builtin.max_ ts t #[.int .i64 x, .int .i64 y]).run Try.prog w = .ok (.int .i64 (max x y)) w := maxTwo x y ts t w
theorem rest_succ (l : List Int) (k : Nat) (hk : k < l.length) : sum ((l.map (max 0)).take (k + 1)) = sum ((l.map (max 0)).take k) + max 0 (l.getD k 0) := by
  rw [sum_take _ k (by rw [List.length_map]; exact hk), getD_map (max 0) l k hk]
theorem rest_part {l : List Int} (h : ∀ v, v < l.length → -8589934592 ≤ l.getD v 0 ∧ l.getD v 0 ≤ 8589934592) : ∀ k : Nat, k ≤ l.length → 0 ≤ sum ((l.map (max 0)).take k) ∧ sum ((l.map (max 0)).take k) ≤ 8589934592 * k
  | 0, _ => by simp [sum]
  | k + 1, hk => by
    have ih := rest_part h k (by omega)
    have := h k (by omega)
    rw [rest_succ l k (by omega), Int.natCast_add, Int.mul_add]
    omega

set_option maxRecDepth 100000 in
theorem rest_c (b gl cl ce bo B n : Nat) (E : Option Addr) (G : Gr) (w : World) (hG : G.Ok n) (hg : GrAt w B b gl cl E ce bo G) :
    Calls Try.prog 64 #[.pointer (some ⟨b, 0, none⟩)] w fun e w' => e = .returned (.int .i64 (restV G.left)) ∧ w = w' := by
  have HL := Lib.hid hG.ll
  have hle := hG.n1.2
  have HB := Lib.hid (rest_part (l := G.left) (fun v hv => hG.lb v (by rw [← hG.ll]; exact hv)))
  have HS := Lib.hid (rest_succ G.left)
  have HC := Lib.hid (fun k hk => hg.left.cell k hk)
  have HLB := Lib.hid hG.lb
  have c0 := hg.blk.cell 0 rfl
  rw [hG.ll] at c0
  have HR : Hid (restV G.left = sum ((G.left.map (max 0)).take n)) := Lib.hid (by unfold restV; rw [List.take_of_length_le]; rw [List.length_map, hG.ll]; exact Nat.le_refl _)
  clear hG hg
  go_enter Try.func64, Try.ntmps64
  go_wp2_with fail
  go_loop [2, 10] (fun sv iv => ∃ k : Nat, iv = .int .i64 k ∧ k ≤ n ∧ sv = .int .i64 (sum ((G.left.map (max 0)).take k))) (fun _ iv => n - (intOf iv).toNat)
  case atStart => exact ⟨0, rfl, Nat.zero_le _, rfl⟩
  case round =>
    obtain ⟨k, rfl, hk, rfl⟩ := hrel
    have b0 := HB.out k (by rw [HL.out]; exact hk)
    by_cases hlt : k < n
    · have hki : (k : Int) < (n : Int) := by omega
      have l0 := HC.out k (by rw [HL.out]; exact hlt)
      have b1 := HLB.out k hlt
      have e1 := HS.out k (by rw [HL.out]; exact hlt)
      have E1 : Hid (G.lf k = G.left.getD k 0) := Lib.hid rfl
      rw [E1.out] at b1
      generalize G.left.getD k 0 = x at *
      have HE := Lib.hid e1
      clear e1
      generalize sum ((G.left.map (max 0)).take k) = S at *
      have hmx := fun ts t W => max_i64 0 x ts t W
      generalize hy : max 0 x = y at *
      have hy1 : 0 ≤ y ∧ y ≤ 8589934592 := by omega
      clear hy
      go_wp2
      go_round
      case rel => exact ⟨k + 1, by go_num, by omega, by rw [HE.out]⟩
      case measure => simp [intOf]; omega
    · obtain rfl : k = n := by omega
      have HR := Lib.hid HR.out
      generalize sum ((G.left.map (max 0)).take k) = S at *
      go_wp2
      go_ret
      exact ⟨by rw [HR.out]; rfl, rfl⟩

def flowE (es : List Ed) (k : Nat) : List Int := (List.range (es.length / 2)).map fun i => if i < k then (es.getD (2 * i + 1) default).room else 0
theorem flowE_len (es : List Ed) (k : Nat) : (flowE es k).length = es.length / 2 := by simp [flowE]
theorem flowE_get {es : List Ed} {k i : Nat} (hi : i < es.length / 2) : (flowE es k).getD i 0 = if i < k then (es.getD (2 * i + 1) default).room else 0 := by
  simp [flowE, List.getD_eq_getElem?_getD, hi]
theorem flowE_zero (es : List Ed) : List.replicate (es.length / 2) 0 = flowE es 0 := by
  refine list_eq (by simp [flowE_len]) (fun v hv => ?_)
  rw [flowE_len] at hv
  rw [flowE_get hv]
  simp [List.getD_eq_getElem?_getD, hv]
theorem flowE_succ (es : List Ed) (k : Nat) (hk : k < es.length / 2) : (flowE es k).set k (es.getD (2 * k + 1) default).room = flowE es (k + 1) := by
  refine list_eq (by simp [flowE_len]) (fun v hv => ?_)
  rw [flowE_len] at hv
  rw [getD_setI _ _ _ _ (by rw [flowE_len]; exact hk), flowE_get hv, flowE_get hv]
  by_cases e : v = k
  · subst e; rw [if_pos rfl, if_pos (Nat.lt_succ_self v)]
  · rw [if_neg e]
    by_cases h : v < k
    · rw [if_pos h, if_pos (show v < k + 1 by omega)]
    · rw [if_neg h, if_neg (show ¬ v < k + 1 by omega)]
theorem flowE_flow {N : Net} {G : Gr} (h : Fits N G) : flowE G.es (G.es.length / 2) = flowL N G := by
  have e : G.es.length / 2 = N.arcs.length := by rw [h.es]; omega
  refine list_eq (by rw [flowE_len, flowL_len, e]) (fun v hv => ?_)
  rw [flowL_len] at hv
  rw [flowE_get (by rw [e]; exact hv), flowL_get hv, if_pos (by rw [e]; exact hv)]
  rfl

set_option maxRecDepth 100000 in
theorem flow_c (b gl cl ce bo B n : Nat) (E : Option Addr) (G : Gr) (w : World) (hG : G.Ok n) (hg : GrAt w B b gl cl E ce bo G) :
    Calls Try.prog 65 #[.pointer (some ⟨b, 0, none⟩)] w fun e w' => ∃ gf, e = .returned (.slice (some ⟨gf, 0, none⟩) (G.es.length / 2) (G.es.length / 2)) ∧ Below w.heap.size w w' ∧ Fl 2 w' gf (flowE G.es (G.es.length / 2)) ∧ w.heap.size ≤ gf := by
  have HA := Lib.hid hg
  have c1 := hg.blk.cell 1 rfl
  have bl := hg.blk.lt
  have hle := hG.le
  have F0 := Lib.hid (fl_new 2 (G.es.length / 2) w)
  rw [flowE_zero] at F0
  have FL := Lib.hid (flowE_len G.es)
  have FS := Lib.hid (flowE_succ G.es)
  have GC : Hid (∀ W, Below w.heap.size w W → GrAt W B b gl cl E ce bo G) := Lib.hid (fun W h => HA.out.below h)
  clear hG hg
  have ED : Hid (∀ W, Below w.heap.size w W → ∀ k, k < G.es.length → ∃ ge, E = some ⟨ge, 0, none⟩ ∧ W.cell? ⟨ge, k * 3 + 1, none⟩ = some (.int .i64 (G.es.getD k default).room)) := Lib.hid (fun W h k hk => by
    obtain ⟨ge, e, _, _, c, _⟩ := (GC.out W h).edge k hk
    exact ⟨ge, e, c⟩)
  have hm1 := make_64 (G.es.length / 2) (by omega)
  have CW : Hid (∀ W, Below w.heap.size w W → W.cell? ⟨b, 1, none⟩ = some (.slice E G.es.length ce)) := Lib.hid (fun W h => (GC.out W h).blk.cell 1 rfl)
  generalize hml : G.es.length = ml at *
  have HML := Lib.hid hml
  clear hml
  obtain ⟨m, hm⟩ : ∃ m, m = ml / 2 := ⟨_, rfl⟩
  have hm2 : (ml : Int) / 2 = (m : Int) := by omega
  rw [← hm] at hm1 F0 FL FS ⊢
  have HMM := Lib.hid hm
  clear hm
  go_enter Try.func65, Try.ntmps65
  go_wp2_with fail
  have B0 := Lib.hid ((Below.refl w.heap.size w).alloc (Nat.le_refl _) (.cells (Array.replicate m (.int .i64 0)) 2))
  generalize w.alloc (.cells (Array.replicate m (.int .i64 0)) 2) = w1 at F0 B0 ⊢
  generalize hgf : w.heap.size = gf at *
  clear c1 bl hm1
  go_loopw [14] (fun iv wr => ∃ k : Nat, iv = .int .i64 k ∧ k ≤ m ∧ Hid (Below gf w wr ∧ Fl 2 wr gf (flowE G.es k))) (fun iv _ => m - (intOf iv).toNat)
  case atStart => exact ⟨0, rfl, Nat.zero_le _, Lib.hid ⟨B0.out, F0.out⟩⟩
  case round =>
    obtain ⟨k, rfl, hk, HJ⟩ := hrel
    have HB := Lib.hid HJ.out.1
    have HF := Lib.hid HJ.out.2
    clear HJ F0 B0
    by_cases hlt : k < m
    · have hki : (k : Int) < (m : Int) := by omega
      have hMM := HMM.out
      obtain ⟨ge, rfl, e1⟩ := ED.out _ HB.out (2 * k + 1) (by omega)
      have c1 := CW.out _ HB.out
      have f0 := HF.out.cell k (by rw [FL.out]; exact hlt)
      have z0 := HF.out.free k
      have P1 := Lib.hid (fun x => HF.out.put k x)
      have FS1 := Lib.hid (FS.out k hlt)
      generalize (G.es.getD (2 * k + 1) default).room = ro at *
      obtain ⟨q, hq⟩ : ∃ q, q = 2 * k + 1 := ⟨_, rfl⟩
      have hq1 : 2 * (k : Int) + 1 = (q : Int) := by omega
      have hq2 : q < ml := by omega
      have hq3 : (q : Int) < (ml : Int) := by omega
      rw [← hq] at e1
      clear hq hMM
      go_wp2_with fail
      have F1 := P1.out ro
      rw [FS1.out] at F1
      have F1 := Lib.hid F1
      have B1 := Lib.hid (HB.out.setCell (p := ⟨gf, k, none⟩) (Nat.le_refl _) (.int .i64 ro))
      go_roundw
      case rel => exact ⟨k + 1, by go_num, by omega, Lib.hid ⟨B1.out, F1.out⟩⟩
      case measure => simp [intOf]; omega
    · obtain rfl : k = m := by omega
      go_wp2
      go_ret
      exact ⟨gf, rfl, by rw [hgf]; exact HB.out, HF.out, by rw [hgf]; exact Nat.le_refl _⟩
end Go.Proofs.Ytmebpglkeedaoaa
namespace Go.Proofs.Ytmebpglkeedaoaa
namespace Dp
def addAt (outs : List (List Int)) (v : Nat) (x : Int) : List (List Int) := outs.set v (outs.getD v [] ++ [x])
theorem addAt_len (outs : List (List Int)) (v : Nat) (x : Int) : (addAt outs v x).length = outs.length := by simp [addAt]
theorem addAt_get {outs : List (List Int)} {v : Nat} (hv : v < outs.length) (x : Int) (u : Nat) : (addAt outs v x).getD u [] = if u = v then outs.getD v [] ++ [x] else outs.getD u [] := by
  unfold addAt
  simp only [List.getD_eq_getElem?_getD, List.getElem?_set]
  by_cases h : v = u
  · subst h; simp [hv]
  · rw [if_neg h, if_neg (fun e => h e.symm)]
/-- the edges of the first k arcs -/
def esK (N : Net) : Nat → List Ed
  | 0 => []
  | k + 1 => esK N k ++ [⟨(N.arcs.getD k default).to, (N.arcs.getD k default).cap, (N.arcs.getD k default).cost⟩, ⟨(N.arcs.getD k default).fr, 0, -(N.arcs.getD k default).cost⟩]
/-- the nodes' lists behind k arcs -/
def outsK (N : Net) : Nat → List (List Int)
  | 0 => List.replicate N.sup.length []
  | k + 1 => addAt (addAt (outsK N k) (frN N k) (2 * k : Nat)) (toN N k) (2 * k + 1 : Nat)
theorem esK_len (N : Net) : ∀ k, (esK N k).length = 2 * k
  | 0 => rfl
  | k + 1 => by simp [esK, esK_len N k]; omega
theorem outsK_len (N : Net) : ∀ k, (outsK N k).length = N.sup.length
  | 0 => by simp [outsK]
  | k + 1 => by simp [outsK, addAt_len, outsK_len N k]
theorem esK_get (N : Net) : ∀ (k j : Nat), j < k → (esK N k).getD (2 * j) default = ⟨(N.arcs.getD j default).to, (N.arcs.getD j default).cap, (N.arcs.getD j default).cost⟩ ∧ (esK N k).getD (2 * j + 1) default = ⟨(N.arcs.getD j default).fr, 0, -(N.arcs.getD j default).cost⟩
  | 0, j, h => absurd h (Nat.not_lt_zero _)
  | k + 1, j, h => by
    have hl := esK_len N k
    simp only [esK]
    by_cases e : j = k
    · subst e
      simp only [List.getD_eq_getElem?_getD]
      rw [List.getElem?_append_right (by omega), List.getElem?_append_right (by omega), hl]
      simp
    · have ih := esK_get N k j (by omega)
      simp only [List.getD_eq_getElem?_getD] at ih ⊢
      rw [List.getElem?_append_left (by omega), List.getElem?_append_left (by omega)]
      exact ih
theorem outsK_mem {N : Net} (h : chE N = 0) : ∀ k, k ≤ N.arcs.length → ∀ v, v < N.sup.length → ∀ x, x ∈ (outsK N k).getD v [] ↔ ∃ j, j < k ∧ ((x = (2 * j : Nat) ∧ frN N j = v) ∨ (x = (2 * j + 1 : Nat) ∧ toN N j = v))
  | 0, _, v, hv, x => by simp [outsK, List.getD_eq_getElem?_getD, hv]
  | k + 1, hk, v, hv, x => by
    have ih := outsK_mem h k (by omega) v hv x
    have e := net_ends h k (by omega)
    have hl := outsK_len N k
    have step : ∀ (j : Nat), j < k + 1 ↔ j < k ∨ j = k := fun j => by omega
    have hne : frN N k ≠ toN N k := by
      have := (net_arc h k (by omega)).2.2.1
      intro e2; rw [e.1, e.2.1, e2] at this; exact this rfl
    simp only [outsK]
    rw [addAt_get (by rw [addAt_len, hl]; exact e.2.2.2), addAt_get (by rw [hl]; exact e.2.2.1), addAt_get (by rw [hl]; exact e.2.2.1)]
    constructor
    · intro hx
      split at hx
      · rename_i e1
        rw [if_neg (fun e2 => hne e2.symm)] at hx
        rcases List.mem_append.1 hx with hx | hx
        · rw [← e1] at hx
          obtain ⟨j, hj, hx⟩ := ih.1 hx
          exact ⟨j, by omega, hx⟩
        · exact ⟨k, by omega, .inr ⟨by simpa using hx, e1.symm⟩⟩
      · split at hx
        · rename_i e1
          rcases List.mem_append.1 hx with hx | hx
          · rw [← e1] at hx
            obtain ⟨j, hj, hx⟩ := ih.1 hx
            exact ⟨j, by omega, hx⟩
          · exact ⟨k, by omega, .inl ⟨by simpa using hx, e1.symm⟩⟩
        · obtain ⟨j, hj, hx⟩ := ih.1 hx
          exact ⟨j, by omega, hx⟩
    · rintro ⟨j, hj, hx⟩
      rcases (step j).1 hj with hj | rfl
      · have hx := ih.2 ⟨j, hj, hx⟩
        split
        · rename_i e1
          rw [if_neg (fun e2 => hne e2.symm), ← e1]
          exact List.mem_append_left _ hx
        · split
          · rename_i e1
            rw [← e1]
            exact List.mem_append_left _ hx
          · exact hx
      · rcases hx with ⟨hx, e1⟩ | ⟨hx, e1⟩
        · rw [if_neg (fun e2 => hne (e1.trans e2)), if_pos e1.symm, hx]
          simp
        · rw [if_pos e1.symm, hx]
          simp
theorem outsK_short {N : Net} (h : chE N = 0) : ∀ k, k ≤ N.arcs.length → ∀ v, ((outsK N k).getD v []).length ≤ 2 * k
  | 0, _, v => by
    simp only [outsK, List.getD_eq_getElem?_getD, List.getElem?_replicate]
    split <;> simp
  | k + 1, hk, v => by
    have ih := outsK_short h k (by omega)
    have e := net_ends h k (by omega)
    have hl := outsK_len N k
    simp only [outsK]
    rw [addAt_get (by rw [addAt_len, hl]; exact e.2.2.2), addAt_get (by rw [hl]; exact e.2.2.1), addAt_get (by rw [hl]; exact e.2.2.1)]
    have h1 := ih v
    have h2 := ih (frN N k)
    have h3 := ih (toN N k)
    split
    · split <;> simp only [List.length_append, List.length_cons, List.length_nil] <;> omega
    · split
      · simp only [List.length_append, List.length_cons, List.length_nil]; omega
      · omega
/-- the graph of a net, nothing sent -/
def gr0 (N : Net) : Gr := { left := N.sup, es := esK N N.arcs.length, outs := outsK N N.arcs.length }
theorem lv_zero {N : Net} {f : Nat → Int} : ∀ (k : Nat) (v : Nat), (∀ j, j < k → f j = 0) → lv N f k v = N.sup.getD v 0
  | 0, _, _ => rfl
  | k + 1, v, h => by
    simp only [lv]
    rw [lv_zero k v (fun j hj => h j (by omega)), h k (by omega)]
    simp
theorem gr0_fits {N : Net} : Fits N (gr0 N) := by
  have hg := fun j hj => esK_get N N.arcs.length j hj
  refine ⟨by simp [gr0, esK_len], rfl, fun i hi => ?_, fun i hi => ?_, fun i hi => ?_, fun v hv => ?_⟩
  · unfold Gr.toA gr0 toN frN; simp only []
    rw [(hg i hi).1, (hg i hi).2]; exact ⟨rfl, rfl⟩
  · unfold Gr.cost gr0; simp only []
    rw [(hg i hi).1, (hg i hi).2]; exact ⟨rfl, rfl⟩
  · unfold Gr.room gr0; simp only []
    rw [(hg i hi).1, (hg i hi).2]; simp
  · rw [lv_zero]
    · rfl
    · intro j hj
      unfold Gr.room gr0; simp only []
      rw [(hg j hj).2]
theorem gr0_ok {N : Net} (h : chE N = 0) : (gr0 N).Ok N.sup.length := by
  have hf := gr0_fits (N := N)
  have hl := net_len h
  have half : ∀ k, k < (gr0 N).es.length → (∃ i, i < N.arcs.length ∧ k = 2 * i) ∨ ∃ i, i < N.arcs.length ∧ k = 2 * i + 1 := fun k hk => by
    rw [hf.es] at hk
    rcases (show k = 2 * (k / 2) ∨ k = 2 * (k / 2) + 1 by omega) with e | e
    · exact .inl ⟨k / 2, by omega, e⟩
    · exact .inr ⟨k / 2, by omega, e⟩
  have hg := fun j hj => esK_get N N.arcs.length j hj
  exact
  { n1 := ⟨hl.1, hl.2.1⟩
    ll := rfl
    lo := outsK_len N _
    le := by rw [hf.es]; omega
    ev := by rw [hf.es]; omega
    «to» := fun k hk => by
      rcases half k hk with ⟨i, hi, rfl⟩ | ⟨i, hi, rfl⟩
      · show 0 ≤ ((esK N N.arcs.length).getD (2 * i) default).to ∧ ((esK N N.arcs.length).getD (2 * i) default).to < _
        rw [(hg i hi).1]
        exact (net_arc h i hi).2.1
      · show 0 ≤ ((esK N N.arcs.length).getD (2 * i + 1) default).to ∧ ((esK N N.arcs.length).getD (2 * i + 1) default).to < _
        rw [(hg i hi).2]
        exact (net_arc h i hi).1
    ne := fun k hk => by
      rcases half k hk with ⟨i, hi, rfl⟩ | ⟨i, hi, rfl⟩
      · rw [(hf.t0 i hi).1, (hf.fr i hi).1]
        have e := net_ends h i hi
        have := (net_arc h i hi).2.2.1
        intro e2; rw [e.1, e.2.1, e2] at this; exact this rfl
      · rw [(hf.t0 i hi).2, (hf.fr i hi).2]
        have e := net_ends h i hi
        have := (net_arc h i hi).2.2.1
        intro e2; rw [e.1, e.2.1, e2] at this; exact this rfl
    co := fun k hk => by
      rcases half k hk with ⟨i, hi, rfl⟩ | ⟨i, hi, rfl⟩
      · rw [tw_even, (hf.c0 i hi).1, (hf.c0 i hi).2]
      · rw [tw_odd, (hf.c0 i hi).1, (hf.c0 i hi).2]; omega
    cb := fun k hk => by
      rcases half k hk with ⟨i, hi, rfl⟩ | ⟨i, hi, rfl⟩
      · rw [(hf.c0 i hi).1]; exact (net_arc h i hi).2.2.2.2
      · rw [(hf.c0 i hi).2]; have := (net_arc h i hi).2.2.2.2; omega
    rm := fun k hk => by
      rcases half k hk with ⟨i, hi, rfl⟩ | ⟨i, hi, rfl⟩
      · rw [tw_even]
        have h1 := hf.r0 i hi
        have h2 := (net_arc h i hi).2.2.2.1
        have h3 : (gr0 N).room (2 * i + 1) = 0 := by show ((esK N N.arcs.length).getD (2 * i + 1) default).room = 0; rw [(hg i hi).2]
        omega
      · rw [tw_odd]
        have h1 := hf.r0 i hi
        have h2 := (net_arc h i hi).2.2.2.1
        have h3 : (gr0 N).room (2 * i + 1) = 0 := by show ((esK N N.arcs.length).getD (2 * i + 1) default).room = 0; rw [(hg i hi).2]
        omega
    lb := fun v hv => by have := net_sup h v hv; show _ ≤ N.sup.getD v 0 ∧ N.sup.getD v 0 ≤ _; omega
    o1 := fun v hv x hx => by
      obtain ⟨j, hj, hx⟩ := (outsK_mem h _ (Nat.le_refl _) v hv x).1 hx
      rw [hf.es]
      rcases hx with ⟨rfl, e⟩ | ⟨rfl, e⟩
      · refine ⟨by omega, by omega, ?_⟩
        rw [Int.toNat_natCast, (hf.fr j hj).1, e]
      · refine ⟨by omega, by omega, ?_⟩
        rw [Int.toNat_natCast, (hf.fr j hj).2, e]
    o2 := fun k hk => by
      rcases half k hk with ⟨i, hi, rfl⟩ | ⟨i, hi, rfl⟩
      · rw [(hf.fr i hi).1]
        exact (outsK_mem h _ (Nat.le_refl _) _ (net_ends h i hi).2.2.1 _).2 ⟨i, hi, .inl ⟨rfl, rfl⟩⟩
      · rw [(hf.fr i hi).2]
        exact (outsK_mem h _ (Nat.le_refl _) _ (net_ends h i hi).2.2.2 _).2 ⟨i, hi, .inr ⟨rfl, rfl⟩⟩
    o3 := fun v _ => by
      have := outsK_short h _ (Nat.le_refl _) v
      show ((outsK N N.arcs.length).getD v []).length ≤ 4096
      omega }
end Dp
end Go.Proofs.Ytmebpglkeedaoaa
namespace Go.Proofs.Ytmebpglkeedaoaa
open Go.RowKit Dp
set_option linter.unusedVariables false

section
variable {P : Program} {w : World}
/-- append, and the old slice's row is as it was -/
theorem run_append_keep (t ty : TypeId) (base : Nat) (e : TypeId) (i : TypeInfo) (z : Value) (size bytes : Nat) (ht : P.underlying t = some (.slice e)) (hi : P.info? e = some i) (hz : i.zero = some z)
    (hsize : i.size = size) (hby : i.bytes = bytes) (hzs : z.cells.size = size) (hsz : 0 < size)
    (A : Option Addr) (n cap : Nat) (xs : List Value) (hown : w.ownsRow base e size (.slice A n cap) n xs)
    (a : Addr) (m c : Nat) (news : List Value) (hl : news.length = m * size) (hnews : ∀ j u, news[j]? = some u → w.cell? (a.add j) = some u) (h1 : ∀ u ∈ news, u.oneCell' = true)
    (hm : 0 < m) (h63 : n + m ≤ maxLen) (hbytes : (n + m) * bytes ≤ 140737488355328) (hbase : base ≤ w.heap.size) :
    ∃ g cap' w', (Builtin.append_ #[t, t] ty #[.slice A n cap, .slice (some a) m c]).run P w = .ok (.slice (some ⟨g, 0, none⟩) (n + m) cap') w' ∧ w'.ownsRow base e size (.slice (some ⟨g, 0, none⟩) (n + m) cap') (n + m) (xs ++ news) ∧
      w.grownBy w' (Value.slice A n cap).ownBlock ∧ (OwnB A g ∨ g = w.heap.size) ∧ w'.ownsRow base e size (.slice A n cap) n xs := by
  obtain ⟨g, cap', w', hr, h2, h3, h4, h5⟩ := run_append_lies (P := P) w t ty base e i z size bytes ht hi hz hsize hby hzs hsz (.slice A n cap) n xs hown a m c news hl hnews h1 hm h63 hbytes hbase w.heap.size rfl
  refine ⟨g, cap', w', hr, h2, h3, h4.imp (fun h => ownB_iff.2 h) id, ?_⟩
  subst hsize
  rcases hown.2 with ⟨hv, hn0⟩ | ⟨g0, cap0, cur, hv, hbg, hg, hnc, hcm, hcs, htake⟩
  · cases hv
    exact ⟨hown.1, .inl ⟨rfl, hn0⟩⟩
  · cases hv
    by_cases hroom : n + m ≤ cap
    · have hfit : n * i.size + news.length ≤ cur.size := by rw [hl, hcs, ← Nat.add_mul]; exact Nat.mul_le_mul_right _ hroom
      have hr2 := run_append_room (P := P) w t ty e i ht hi g0 n cap cur hg a m c news hl hnews h1 hroom hfit
      rw [hr] at hr2
      simp only [Result.ok.injEq] at hr2
      obtain ⟨_, rfl⟩ := hr2
      refine ⟨hown.1, .inr ⟨g0, cap, _, rfl, hbg, setRow_heap w g0 cur _ e _ hg, hnc, hcm, ?_, ?_⟩⟩
      · simp only [List.size_toArray, List.length_append, List.length_take, List.length_drop, Array.length_toList]
        omega
      · have hx : xs.length = n * i.size := hown.1
        rw [htake]
        simp only [List.append_assoc]
        rw [List.take_append_of_le_length (by omega), ← hx, List.take_length]
    · have holds : ∀ j u, xs[j]? = some u → w.cell? ((⟨g0, 0, none⟩ : Addr).add j) = some u := hown.cells (g := g0) rfl
      have hr2 := run_append_grow (P := P) w t ty e i z ht hi hz ⟨g0, 0, none⟩ n cap xs hown.1 holds a m c news hl hnews (by unfold maxLen at h63; omega) (by unfold maxLen at h63; omega) (growslice_fits (by omega) (by rw [hby]; exact hbytes))
      rw [hr] at hr2
      simp only [Result.ok.injEq] at hr2
      obtain ⟨_, rfl⟩ := hr2
      exact hown.drew.alloc _
theorem stepV_keep {o : Oper} {a : Act} {N : Value → World → Prop} (s x : Operand) (t : TypeId)
    (ho : o.op = .call { callee := .builtin .append, args := #[s, x], argTypes := #[t, t] })
    (base : Nat) (e : TypeId) (i : TypeInfo) (z : Value) (size bytes : Nat) (ht : P.underlying t = some (.slice e)) (hi : P.info? e = some i) (hz : i.zero = some z)
    (hsize : i.size = size) (hby : i.bytes = bytes) (hzs : z.cells.size = size) (hsz : 0 < size)
    (A : Option Addr) (n cap : Nat) (xs : List Value) (hs : a.eval s = .slice A n cap) (hown : w.ownsRow base e size (.slice A n cap) n xs)
    (ad : Addr) (m c : Nat) (news : List Value) (hx : a.eval x = .slice (some ad) m c) (hl : news.length = m * size) (hnews : ∀ j u, news[j]? = some u → w.cell? (ad.add j) = some u) (h1 : ∀ u ∈ news, u.oneCell' = true)
    (hm : 0 < m) (h63 : n + m ≤ maxLen) (hbytes : (n + m) * bytes ≤ 140737488355328) (hbase : base ≤ w.heap.size)
    (h : ∀ g cap' w', w'.ownsRow base e size (.slice (some ⟨g, 0, none⟩) (n + m) cap') (n + m) (xs ++ news) → w.grownBy w' (Value.slice A n cap).ownBlock → (OwnB A g ∨ g = w.heap.size) → w'.ownsRow base e size (.slice A n cap) n xs → N (.slice (some ⟨g, 0, none⟩) (n + m) cap') w') : StepV P o a w N := by
  obtain ⟨g, cap', w', hr, h2, h3, h4, h5⟩ := run_append_keep (P := P) t o.type base e i z size bytes ht hi hz hsize hby hzs hsz A n cap xs hown ad m c news hl hnews h1 hm h63 hbytes hbase
  unfold StepV execOp
  simp only [ho, resolve, invoke, builtin, Sem.run_bind, Sem.run_pure, Result.andThen_ok, List.map_toArray, List.map_cons, List.map_nil, hs, hx, hr]
  exact h g cap' w' h2 h3 h4 h5
end
def intC (x : Int) : List Value := [.int .i64 x]
theorem intC_len (x : Int) : (intC x).length = 1 := rfl
theorem info26 : (Try.prog.info? 26).map (fun i => (i.zero, i.size, i.bytes)) = some (some (.slice none 0 0), 1, 24) := by kernel_rfl
theorem info144 : (Try.prog.info? 144).map (fun i => (i.zero, i.size, i.bytes)) = some (some (.agg #[.int .i64 0, .int .i64 0, .int .i64 0]), 3, 24) := by kernel_rfl
/-- the slices of the nodes' lists -/
def slC (A : Nat → Option Addr) (c : Nat → Nat) (outs : List (List Int)) : List Value := (List.range outs.length).map fun i => .slice (A i) (outs.getD i []).length (c i)
theorem slC_get {A : Nat → Option Addr} {c : Nat → Nat} {outs : List (List Int)} {i : Nat} (hi : i < outs.length) : (slC A c outs)[i]? = some (.slice (A i) (outs.getD i []).length (c i)) := by
  simp [slC, hi]
def upd {α : Type} (f : Nat → α) (i : Nat) (x : α) (j : Nat) : α := if j = i then x else f j
theorem slC_set {A : Nat → Option Addr} {c : Nat → Nat} {outs : List (List Int)} {i : Nat} (hi : i < outs.length) (g cap : Nat) (x : Int) :
    (slC A c outs).set i (.slice (some ⟨g, 0, none⟩) ((outs.getD i []).length + 1) cap) = slC (upd A i (some ⟨g, 0, none⟩)) (upd c i cap) (addAt outs i x) := by
  apply List.ext_getElem
  · simp [slC, addAt_len]
  · intro j h1 h2
    have hj : j < outs.length := by simpa [slC] using h1
    rw [List.getElem_set]
    simp only [slC, List.getElem_map, List.getElem_range]
    rw [addAt_get hi]
    unfold upd
    by_cases e : i = j
    · subst e
      rw [if_pos rfl, if_pos rfl, if_pos rfl, if_pos rfl]
      simp
    · rw [if_neg e, if_neg (fun h => e h.symm), if_neg (fun h => e h.symm), if_neg (fun h => e h.symm)]
/-- memory while a graph is built -/
structure NgJ (w : World) (b gl cl bo : Nat) (E : Option Addr) (ce : Nat) (A : Nat → Option Addr) (c : Nat → Nat) (G : Gr) (W : World) : Prop where
  bel : Below w.heap.size w W
  blk : Blk W b 113 [.slice (some ⟨gl, 0, none⟩) G.left.length cl, .slice E G.es.length ce, .slice (some ⟨bo, 0, none⟩) G.outs.length G.outs.length]
  left : OwnI w.heap.size W gl cl G.left
  es : OwnR edC 144 3 w.heap.size W E ce G.es
  rows : Blk W bo 26 (slC A c G.outs)
  own : ∀ i, i < G.outs.length → OwnR intC 3 1 w.heap.size W (A i) (c i) (G.outs.getD i [])
  dis : ∀ i j, i < G.outs.length → j < G.outs.length → i ≠ j → ∀ k, OwnB (A i) k → ¬ OwnB (A j) k
  ge : w.heap.size ≤ b ∧ w.heap.size ≤ bo
theorem OwnI.typed {B : Nat} {W : World} {g c : Nat} {xs : List Int} {t : TypeId} {cs : List Value} (h : OwnI B W g c xs) (h' : Blk W g t cs) (hn : (2 : Nat) ≠ t) : False := by
  rcases h.2 with ⟨h0, _⟩ | ⟨g', cap', cur, hv, _, hg, _⟩
  · simp at h0
  · simp only [Value.slice.injEq, Option.some.injEq, Addr.mk.injEq] at hv
    obtain ⟨⟨rfl, _⟩, _⟩ := hv
    unfold Blk at h'
    rw [hg] at h'
    simp only [Option.some.injEq, Obj.cells.injEq] at h'
    exact hn h'.2.1
theorem own_own_ne {α β : Type} {f : α → List Value} {f' : β → List Value} {e e' : TypeId} {s s' B B' : Nat} {W : World} {A A' : Option Addr} {c c' g : Nat} {l : List α} {l' : List β} (h : OwnR f e s B W A c l) (h' : OwnR f' e' s' B' W A' c' l') (hn : e ≠ e') (h1 : OwnB A g) (h2 : OwnB A' g) : False := by
  rcases h'.2 with ⟨h0, _⟩ | ⟨g', cap', cur, hv, _, hg, _⟩
  · simp only [Value.slice.injEq] at h0
    obtain ⟨rfl, _⟩ := h0
    obtain ⟨a, ha, _⟩ := h2
    cases ha
  · simp only [Value.slice.injEq] at hv
    obtain ⟨rfl, _⟩ := hv
    have e1 := ownB_some.1 h2
    subst e1
    exact own_ne h h1 (show Blk W g e' cur.toList from by unfold Blk; rw [hg]) hn
end Go.Proofs.Ytmebpglkeedaoaa
namespace Go.Proofs.Ytmebpglkeedaoaa
open Go.RowKit Dp
set_option linter.unusedVariables false
theorem flat_int : ∀ l : List Int, flat intC l = l.map (Value.int .i64)
  | [] => rfl
  | x :: l => by
    have := flat_int l
    unfold flat at *
    rw [List.flatMap_cons, this]
    rfl
theorem OwnI.rows {B : Nat} {W : World} {g c : Nat} {l : List Int} (h : OwnI B W g c l) : OwnR intC 2 1 B W (some ⟨g, 0, none⟩) c l := by
  unfold OwnR
  rw [flat_int]
  exact h
section
variable {w V W : World} {b gl cl bo ce : Nat} {E : Option Addr} {A : Nat → Option Addr} {c : Nat → Nat} {G : Gr}
theorem NgJ.below (h : NgJ w b gl cl bo E ce A c G V) (hb : Below V.heap.size V W) : NgJ w b gl cl bo E ce A c G W :=
  { bel := h.bel.trans (hb.mono h.bel.size), blk := h.blk.below hb h.blk.lt, left := h.left.below hb, es := h.es.below hb, rows := h.rows.below hb h.rows.lt, own := fun i hi => (h.own i hi).below hb, dis := h.dis, ge := h.ge }
theorem NgJ.drew (h : NgJ w b gl cl bo E ce A c G V) : NgJ w b gl cl bo E ce A c G V.drew := h.below (Below.refl _ _).drew
/-- a row has grown: what is told of the old one still holds -/
theorem NgJ.grown (h : NgJ w b gl cl bo E ce A c G V) (i : Nat) (hi : i < G.outs.length) {n cap : Nat} (hn : n = (G.outs.getD i []).length) (hcap : cap = c i) (hg : V.grownBy W (Value.slice (A i) n cap).ownBlock) (hk : OwnR intC 3 1 w.heap.size W (A i) (c i) (G.outs.getD i [])) : NgJ w b gl cl bo E ce A c G W := by
  have hrow : ∀ k, (Value.slice (A i) n cap).ownBlock = some k → OwnB (A i) k := fun k e => ownB_iff.2 e
  have ho := h.own i hi
  have nb : ∀ (g : Nat) (t : TypeId) (cs : List Value), Blk V g t cs → (3 : Nat) ≠ t → some g ≠ (Value.slice (A i) n cap).ownBlock := fun g t cs hb ht e => own_ne ho (hrow g e.symm) hb ht
  exact
  { bel := h.bel.grown hg h.bel.size (fun k e => (ownLt ho (hrow k e)).2)
    blk := h.blk.grown hg (nb _ _ _ h.blk (by decide))
    left := ownGrown h.left hg (fun k hk e => by
      have h1 := hrow k e.symm
      have := ownB_some.1 hk
      subst this
      exact own_own_ne (f := intC) (f' := intC) (A' := some ⟨k, 0, none⟩) (c' := cl) (l' := G.left) (B' := w.heap.size) (e' := 2) (s' := 1) ho h.left.rows (by decide) h1 (ownB_some.2 rfl))
    es := ownGrown h.es hg (fun k hk e => own_own_ne ho h.es (by decide) (hrow k e.symm) hk)
    rows := h.rows.grown hg (nb _ _ _ h.rows (by decide))
    own := fun j hj => by
      by_cases e : j = i
      · subst e; exact hk
      · exact ownGrown (h.own j hj) hg (fun k hk' e' => h.dis j i hj hi e k hk' (hrow k e'.symm))
    dis := h.dis
    ge := h.ge }
/-- the new row is stored -/
theorem NgJ.store (h : NgJ w b gl cl bo E ce A c G W) (i : Nat) (hi : i < G.outs.length) {g cap : Nat} {x : Int} (ho : OwnR intC 3 1 w.heap.size W (some ⟨g, 0, none⟩) cap (G.outs.getD i [] ++ [x])) (hg : OwnB (A i) g ∨ ∀ j, j < G.outs.length → ∀ k, OwnB (A j) k → k < g) :
    NgJ w b gl cl bo E ce (upd A i (some ⟨g, 0, none⟩)) (upd c i cap) { G with outs := addAt G.outs i x } (W.setCell ⟨bo, i, none⟩ (.slice (some ⟨g, 0, none⟩) ((G.outs.getD i []).length + 1) cap)) := by
  have nb : ∀ (k : Nat) (t : TypeId) (cs : List Value), Blk W k t cs → t ≠ 26 → k ≠ bo := fun k t cs hb ht e => by
    subst e
    exact (blk_type_ne hb h.rows ht) rfl
  have no : ∀ {α : Type} {f : α → List Value} {e : TypeId} {s B c' : Nat} {A' : Option Addr} {l : List α}, OwnR f e s B W A' c' l → e ≠ 26 → ¬ OwnB A' bo := fun h' he hb => own_ne h' hb h.rows he
  exact
  { bel := h.bel.setCell h.ge.2 _
    blk := by
      show Blk _ b 113 [_, _, .slice (some ⟨bo, 0, none⟩) (addAt G.outs i x).length (addAt G.outs i x).length]
      rw [addAt_len]
      exact h.blk.setCell_ne (nb _ _ _ h.blk (by decide)) _
    left := ownSet h.left (p := ⟨bo, i, none⟩) (fun hb => by
      have e := ownB_some.1 hb
      simp only at e
      subst e
      exact h.left.typed h.rows (by decide)) _
    es := h.es.set_ne (p := ⟨bo, i, none⟩) (no h.es (by decide)) _
    rows := by
      show Blk _ bo 26 (slC _ _ (addAt G.outs i x))
      rw [← slC_set hi g cap x]
      exact h.rows.setCell i _
    own := fun j hj => by
      simp only [addAt_len] at hj
      show OwnR intC 3 1 w.heap.size _ _ _ ((addAt G.outs i x).getD j [])
      rw [addAt_get hi]
      unfold upd
      by_cases e : j = i
      · rw [if_pos e, if_pos e, if_pos e]
        exact ho.set_ne (p := ⟨bo, i, none⟩) (no ho (by decide)) _
      · rw [if_neg e, if_neg e, if_neg e]
        exact (h.own j hj).set_ne (p := ⟨bo, i, none⟩) (no (h.own j hj) (by decide)) _
    dis := fun j j' hj hj' hne k h1 h2 => by
      simp only [addAt_len] at hj hj'
      unfold upd at h1 h2
      by_cases e1 : j = i
      · rw [if_pos e1] at h1
        rw [if_neg (fun e2 => hne (e1.trans e2.symm))] at h2
        have := ownB_some.1 h1
        subst this
        rcases hg with hg | hg
        · exact h.dis i j' hi hj' (fun e => hne (e1.trans e)) k hg h2
        · have := hg j' hj' k h2; omega
      · rw [if_neg e1] at h1
        by_cases e2 : j' = i
        · rw [if_pos e2] at h2
          have := ownB_some.1 h2
          subst this
          rcases hg with hg | hg
          · exact h.dis i j hi hj (fun e => e1 e.symm) k hg h1
          · have := hg j hj k h1; omega
        · rw [if_neg e2] at h2
          exact h.dis j j' hj hj' hne k h1 h2
    ge := h.ge }
/-- the edges have grown and are stored -/
theorem NgJ.edges (h : NgJ w b gl cl bo E ce A c G V) {g cap n : Nat} {e1 e2 : Ed} (hn : n = G.es.length) (ho : OwnR edC 144 3 w.heap.size W (some ⟨g, 0, none⟩) cap (G.es ++ [e1, e2])) (hg : V.grownBy W (Value.slice E n ce).ownBlock) :
    NgJ w b gl cl bo (some ⟨g, 0, none⟩) cap A c { G with es := G.es ++ [e1, e2] } (W.setCell ⟨b, 1, none⟩ (.slice (some ⟨g, 0, none⟩) (G.es.length + 2) cap)) := by
  have hrow : ∀ k, (Value.slice E n ce).ownBlock = some k → OwnB E k := fun k e => ownB_iff.2 e
  have nb : ∀ (k : Nat) (t : TypeId) (cs : List Value), Blk V k t cs → (144 : Nat) ≠ t → some k ≠ (Value.slice E n ce).ownBlock := fun k t cs hb ht e => own_ne h.es (hrow k e.symm) hb ht
  have left1 : OwnI w.heap.size W gl cl G.left := ownGrown h.left hg (fun k hk e => by
    have h1 := hrow k e.symm
    have := ownB_some.1 hk
    subst this
    exact own_own_ne (f := edC) (f' := intC) (A' := some ⟨k, 0, none⟩) (c' := cl) (l' := G.left) (B' := w.heap.size) (e' := 2) (s' := 1) h.es h.left.rows (by decide) h1 (ownB_some.2 rfl))
  have blk1 := h.blk.grown hg (nb _ _ _ h.blk (by decide))
  have rows1 := h.rows.grown hg (nb _ _ _ h.rows (by decide))
  have no : ∀ {α : Type} {f : α → List Value} {e : TypeId} {s B c' : Nat} {A' : Option Addr} {l : List α}, OwnR f e s B W A' c' l → e ≠ 113 → ¬ OwnB A' b := fun h' he hb => own_ne h' hb blk1 he
  exact
  { bel := (h.bel.grown hg h.bel.size (fun k e => (ownLt h.es (hrow k e)).2)).setCell h.ge.1 _
    blk := by
      have h2 := blk1.setCell 1 (.slice (some ⟨g, 0, none⟩) (G.es.length + 2) cap)
      show Blk _ b 113 [_, .slice (some ⟨g, 0, none⟩) (G.es ++ [e1, e2]).length cap, _]
      rw [List.length_append]
      exact h2
    left := ownSet left1 (p := ⟨b, 1, none⟩) (fun hb => by
      have e := ownB_some.1 hb
      simp only at e
      subst e
      exact left1.typed blk1 (by decide)) _
    es := ho.set_ne (p := ⟨b, 1, none⟩) (no ho (by decide)) _
    rows := rows1.setCell_ne (fun e => by
      simp only at e
      subst e
      exact (blk_type_ne rows1 blk1 (by decide)) rfl) _
    own := fun j hj => by
      have h1 : OwnR intC 3 1 w.heap.size W (A j) (c j) (G.outs.getD j []) := ownGrown (h.own j hj) hg (fun k hk e' => own_own_ne h.es (h.own j hj) (by decide) (hrow k e'.symm) hk)
      exact h1.set_ne (p := ⟨b, 1, none⟩) (no h1 (by decide)) _
    dis := h.dis
    ge := h.ge }
/-- the end: the graph lies in memory -/
theorem NgJ.done (h : NgJ w b gl cl bo E ce A c G W) : GrAt W w.heap.size b gl cl E ce bo G := by
  have hlx : ¬ OwnB E gl := fun hb => by
    have hl : OwnR intC 2 1 w.heap.size W (some ⟨gl, 0, none⟩) cl G.left := h.left.rows
    exact own_own_ne h.es hl (by decide) hb (ownB_some.2 rfl)
  exact
  { blk := h.blk
    left := h.left
    es := h.es
    outs := fun i hi => by
      have ho := h.own i hi
      refine ⟨A i, c i, h.rows.cell i (slC_get hi), ?_, ?_, fun j hj => ?_, fun k hk => ⟨(ownLt ho hk).1, fun hs => ?_⟩⟩
      · rcases ho.2 with ⟨h0, h1⟩ | ⟨g', cap', cur, hv, _, _, h2, _⟩
        · rw [h1]; exact Nat.zero_le _
        · simp only [Value.slice.injEq] at hv; omega
      · rcases ho.2 with ⟨h0, h1⟩ | ⟨g', cap', cur, hv, _, _, _, h2, _⟩
        · simp only [Value.slice.injEq] at h0; omega
        · simp only [Value.slice.injEq] at hv; unfold maxLen at h2; omega
      · obtain ⟨g, hA, _, hlt, _⟩ := ho.form (by omega)
        refine ⟨⟨g, 0, none⟩, hA, hlt, ?_⟩
        rw [hA] at ho
        have := ho.cell intC_len j 0 _ (getElem_D _ j 0 hj) (by omega)
        rw [add_row]
        simpa [intC] using this
      · rcases hs with rfl | rfl | hs
        · exact own_ne ho hk h.blk (by decide)
        · have hl : OwnR intC 2 1 w.heap.size W (some ⟨k, 0, none⟩) cl G.left := h.left.rows
          exact own_own_ne ho hl (by decide) hk (ownB_some.2 rfl)
        · exact own_own_ne ho h.es (by decide) hk hs
    bo := ⟨h.rows.lt, fun e => (by subst e; exact (blk_type_ne h.rows h.blk (by decide)) rfl), fun e => (by subst e; exact h.left.typed h.rows (by decide)), fun hb => own_ne h.es hb h.rows (by decide)⟩
    ne := ⟨fun e => (by subst e; exact h.left.typed h.blk (by decide)), fun hb => own_ne h.es hb h.blk (by decide), hlx⟩
    base := ⟨h.ge.1, h.left.lt.1⟩ }
end
end Go.Proofs.Ytmebpglkeedaoaa
namespace Go.Proofs.Ytmebpglkeedaoaa
open Go Go.RowKit
section
variable {P : Program} {ops : Array Oper} {Q : Exit → Act → World → Prop} {md : Region.Mode} {S : Array Bool → World → Prop}
/-- what has come up has come up behind what it waits for -/
def Kept (md : Region.Mode) (ops : Array Oper) (listed : Array Bool) : Prop :=
  ∀ (j : Nat) (oj : Oper), ops[j]? = some oj → listed.getD j false = true → ∀ e ∈ oj.after, Region.binds md e = true → listed.getD e.on false = true
/-- whatever order is picked from here on; what is held hangs on what has come up -/
def AnyL (P : Program) (md : Region.Mode) (ops : Array Oper) (Q : Exit → Act → World → Prop) (S : Array Bool → World → Prop) : Nat → Array Bool → Act → World → Prop
  | 0, listed, a, w => Region.ready md ops listed = [] ∧ Q .normal a w
  | fuel + 1, listed, a, w => (Region.ready md ops listed = [] → Q .normal a w) ∧
    ∀ i ∈ Region.ready md ops listed, wpOp P ops Q i (fun a' w' => S (listed.setIfInBounds i true) w' ∧ AnyL P md ops Q S fuel (listed.setIfInBounds i true) a' w') a w
theorem AnyL.any : ∀ (fuel : Nat) (listed : Array Bool) (a : Act) (w : World), AnyL P md ops Q S fuel listed a w → wpAny P md ops Q fuel listed a w
  | 0, _, _, _, h => h
  | fuel + 1, _, _, _, h => ⟨h.1, fun i hi => wpOp_mono (fun a' w' h' => AnyL.any fuel _ a' w' h'.2) (h.2 i hi)⟩
/-- some state of the walk in which i has not come up -/
def Ahead (md : Region.Mode) (ops : Array Oper) (S : Array Bool → World → Prop) (i : Nat) (w : World) : Prop := ∃ listed, listed.getD i true = false ∧ Kept md ops listed ∧ S listed w
theorem kept_set {listed : Array Bool} {i : Nat} (h : Kept md ops listed) (hr : i ∈ Region.ready md ops listed) : Kept md ops (listed.setIfInBounds i true) := by
  intro j oj hj hl e he hb
  by_cases hji : i = j
  · subst hji
    obtain ⟨_, o, ho, hall⟩ := mem_ready.1 hr
    rw [ho] at hj
    cases hj
    exact getD_set_true (hall e he hb)
  · rw [getD_set_ne false hji] at hl
    exact getD_set_true (h j oj hj hl e he hb)
theorem anyL_first {i : Nat} {oi : Oper} {v : Value} (hi : ops[i]? = some oi) (hsel : ∀ (j : Nat) (o : Oper) cs b, ops[j]? = some o → o.op ≠ .select cs b)
    (hQ : ∀ c a w, Q (.panic c) (a.put oi.dst v) w → Q (.panic c) a w) (hSi : ∀ listed w, S (listed.setIfInBounds i true) w → S listed w) :
    ∀ (fuel : Nat) (listed : Array Bool) (a : Act) (w : World),
      (∀ j oj, ops[j]? = some oj → j ≠ i → listed.getD j true = false → (∀ e ∈ oj.after, Region.binds md e = true → e.on ≠ i) → oi.apart ops oj = true) →
      i ∈ Region.ready md ops listed → Kept md ops listed → YieldsIf P ops (Ahead md ops S i) oi v a → S listed w →
      AnyL P md ops Q S fuel (listed.setIfInBounds i true) (a.put oi.dst v) w → S (listed.setIfInBounds i true) w → AnyL P md ops Q S (fuel + 1) listed a w := by
  intro fuel
  induction fuel with
  | zero =>
    intro listed a w _ hr hk hy hS H hS1
    refine ⟨fun h => (by rw [h] at hr; cases hr), fun j hj => ?_⟩
    by_cases hji : j = i
    · subst hji; exact hy.wpOp hi ⟨listed, (mem_ready.1 hr).1, hk, hS⟩ ⟨hS1, H⟩
    · have := ready_mono hj hji
      rw [H.1] at this
      cases this
  | succ fuel ih =>
    intro listed a w hfree hr hk hy hS H hS1
    refine ⟨fun h => (by rw [h] at hr; cases hr), fun j hj => ?_⟩
    by_cases hji : j = i
    · subst hji; exact hy.wpOp hi ⟨listed, (mem_ready.1 hr).1, hk, hS⟩ ⟨hS1, H⟩
    · have h1 := H.2 j (ready_mono hj hji)
      obtain ⟨hjun, oj, hoj, hall⟩ := mem_ready.1 hj
      have hnot : ∀ e ∈ oj.after, Region.binds md e = true → e.on ≠ i := fun e he hb heq => by
        have h1 := hall e he hb
        have h0 := (mem_ready.1 hr).1
        rw [heq] at h1
        rcases Nat.lt_or_ge i listed.size with h' | h'
        · simp [h'] at h0 h1; rw [h0] at h1; cases h1
        · simp [Array.getElem?_eq_none h'] at h1
      have h2 := wpOp_putIf hoj (hfree j oj hoj hji hjun hnot) (fun cs b => hsel i oi cs b hi) (fun cs b => hsel j oj cs b hoj) hQ hy h1
      have hfree' : ∀ k ok, ops[k]? = some ok → k ≠ i → (listed.setIfInBounds j true).getD k true = false →
          (∀ e ∈ ok.after, Region.binds md e = true → e.on ≠ i) → oi.apart ops ok = true := fun k ok hk hki hun hno => by
        refine hfree k ok hk hki ?_ hno
        by_cases hjk : j = k
        · subst hjk; exact hjun
        · rw [getD_set_ne true hjk] at hun; exact hun
      refine wpOp_mono (fun a' w' h3 => ?_) h2
      have hc : (listed.setIfInBounds i true).setIfInBounds j true = (listed.setIfInBounds j true).setIfInBounds i true := by rw [Array.setIfInBounds_comm _ _ (Ne.symm hji)]
      have hS' : S (listed.setIfInBounds j true) w' := hSi _ _ (by rw [← hc]; exact h3.2.1)
      exact ⟨hS', ih (listed.setIfInBounds j true) a' w' hfree' (ready_mono hr (Ne.symm hji)) (kept_set hk hj) h3.1 hS' (by rw [← hc]; exact h3.2.2) (by rw [← hc]; exact h3.2.1)⟩

/-- a way by which b waits for i: each names the next among what it waits for -/
def waitsB (md : Region.Mode) (ops : Array Oper) : List Nat → Bool
  | b :: c :: r => (match ops[b]? with | some o => o.after.any (fun e => Region.binds md e && e.on == c) | none => false) && waitsB md ops (c :: r)
  | _ => true
theorem waits_no {listed : Array Bool} (hk : Kept md ops listed) : ∀ (p : List Nat) (b i : Nat), waitsB md ops (b :: (p ++ [i])) = true → listed.getD i true = false → listed.getD b false = false
  | [], b, i, h, hi => by
    simp only [List.nil_append, waitsB, Bool.and_true] at h
    split at h
    · rename_i o ho
      cases hb : listed.getD b false
      · rfl
      · obtain ⟨e, he, h1⟩ := Array.any_eq_true'.1 h
        simp only [Bool.and_eq_true, beq_iff_eq] at h1
        have h2 := hk b o ho hb e he h1.1
        rw [h1.2] at h2
        rcases Nat.lt_or_ge i listed.size with h' | h'
        · simp [h'] at hi h2; rw [hi] at h2; cases h2
        · simp [Array.getElem?_eq_none h'] at h2
    · cases h
  | c :: p, b, i, h, hi => by
    have h' : waitsB md ops (b :: c :: (p ++ [i])) = true := h
    simp only [waitsB, Bool.and_eq_true] at h'
    obtain ⟨h1, h2⟩ := h'
    have hc := waits_no hk p c i h2 hi
    split at h1
    · rename_i o ho
      cases hb : listed.getD b false
      · rfl
      · obtain ⟨e, he, h3⟩ := Array.any_eq_true'.1 h1
        simp only [Bool.and_eq_true, beq_iff_eq] at h3
        have h4 := hk b o ho hb e he h3.1
        rw [h3.2, hc] at h4
        cases h4
    · cases h1
end
section
variable {P : Program} {l : List Oper} {Q : Exit → Act → World → Prop} {md : Region.Mode} {S : Array Bool → World → Prop}
/-- what is held till b comes up is held while i has not, if b waits for i -/
theorem still {listed : Array Bool} {C : Prop} {b i : Nat} (p : List Nat) (hk : Kept md l.toArray listed) (hi : listed.getD i true = false) (hp : waitsB md l.toArray (b :: (p ++ [i])) = true) (h : listed.getD b false = true ∨ C) : C :=
  h.resolve_left (by rw [waits_no hk p b i hp hi]; decide)
/-- the state of the walk: with what has come up being in order -/
def GoL (P : Program) (md : Region.Mode) (l : List Oper) (Q : Exit → Act → World → Prop) (S : Array Bool → World → Prop) (fuel : Nat) (listed : Array Bool) (a : Act) (w : World) : Prop :=
  Kept md l.toArray listed → AnyL P md l.toArray Q S fuel listed a w
theorem lTake {i : Nat} {oi : Oper} {v : Value} {fuel : Nat} {listed : Array Bool} {a : Act} {w : World} (hi : l[i]? = some oi)
    (hs : Region.noSelect l.toArray = true) (hf : Region.free md l.toArray listed i = true) (hr : (Region.ready md l.toArray listed).contains i = true)
    (hQ : ∀ c a w, Q (.panic c) (a.put oi.dst v) w → Q (.panic c) a w) (hw : Region.wanted oi (yielded l.toArray a.tmps) = true) (hSi : ∀ listed w, S (listed.setIfInBounds i true) w → S listed w) (hSj : ∀ listed w, S listed w → S (listed.setIfInBounds i true) w)
    (hy : ∀ L w, L.getD i true = false → Kept md l.toArray L → S L w → (execOp a.eval oi).run P w = .ok (.value v) w) (hS : S listed w)
    (h : S (listed.setIfInBounds i true) w → GoL P md l Q S fuel (listed.setIfInBounds i true) (a.put oi.dst v) w) : GoL P md l Q S (fuel + 1) listed a w := fun hk => by
  have hi' : l.toArray[i]? = some oi := by simpa using hi
  have hr' : i ∈ Region.ready md l.toArray listed := by simpa using hr
  exact anyL_first hi' (Region.noSelect_spec hs) hQ hSi fuel listed a w (Region.free_spec hi' hf) hr' hk (.inl ⟨hw, fun w' ⟨L, h1, h2, h3⟩ => hy L w' h1 h2 h3⟩) hS (h (hSj _ _ hS) (kept_set hk hr')) (hSj _ _ hS)
theorem lDrop {i : Nat} {oi : Oper} {fuel : Nat} {listed : Array Bool} {a : Act} {w : World} (hi : l[i]? = some oi)
    (hs : Region.noSelect l.toArray = true) (hf : Region.free md l.toArray listed i = true) (hr : (Region.ready md l.toArray listed).contains i = true)
    (hQ : ∀ c a w, Q (.panic c) (a.put oi.dst undef) w → Q (.panic c) a w) (hw : Region.wanted oi (yielded l.toArray a.tmps) = false) (hSi : ∀ listed w, S (listed.setIfInBounds i true) w → S listed w) (hSj : ∀ listed w, S listed w → S (listed.setIfInBounds i true) w) (hS : S listed w)
    (h : S (listed.setIfInBounds i true) w → GoL P md l Q S fuel (listed.setIfInBounds i true) (a.put oi.dst undef) w) : GoL P md l Q S (fuel + 1) listed a w := fun hk => by
  have hi' : l.toArray[i]? = some oi := by simpa using hi
  have hr' : i ∈ Region.ready md l.toArray listed := by simpa using hr
  exact anyL_first hi' (Region.noSelect_spec hs) hQ hSi fuel listed a w (Region.free_spec hi' hf) hr' hk (.inr ⟨hw, rfl⟩) hS (h (hSj _ _ hS) (kept_set hk hr')) (hSj _ _ hS)
/-- each of rs comes up next -/
def AllL (P : Program) (md : Region.Mode) (l : List Oper) (Q : Exit → Act → World → Prop) (S : Array Bool → World → Prop) (fuel : Nat) (listed : Array Bool) (a : Act) (w : World) (rs : List Nat) : Prop :=
  ∀ i ∈ rs, wpOp P l.toArray Q i (fun a' w' => S (listed.setIfInBounds i true) w' ∧ GoL P md l Q S fuel (listed.setIfInBounds i true) a' w') a w
theorem AllL.nil {fuel : Nat} {listed : Array Bool} {a : Act} {w : World} : AllL P md l Q S fuel listed a w [] := fun _ h => by cases h
theorem AllL.cons {fuel : Nat} {listed : Array Bool} {a : Act} {w : World} {i : Nat} {o : Oper} {rs : List Nat} (ho : l[i]? = some o)
    (h : ∀ K' : Act → World → Prop, Shut (∀ a w, S (listed.setIfInBounds i true) w → (S (listed.setIfInBounds i true) w → GoL P md l Q S fuel (listed.setIfInBounds i true) a w) → K' a w) → if Region.wanted o (yielded l.toArray a.tmps) = true then Oper.wp P o a w K' Q else K' (a.put o.dst undef) w)
    (hs : AllL P md l Q S fuel listed a w rs) : AllL P md l Q S fuel listed a w (i :: rs) := fun j hj => by
  rcases List.mem_cons.1 hj with rfl | hj
  · exact wpOp_step (by simpa using ho) (fun K' hK => h K' (fun a w hS hW => hK a w ⟨hS, hW hS⟩))
  · exact hs j hj
theorem lReady {rs : List Nat} {fuel : Nat} {listed : Array Bool} {a : Act} {w : World} (hr : Region.ready md l.toArray listed = rs) (hne : rs ≠ [])
    (h : AllL P md l Q S fuel listed a w rs) : GoL P md l Q S (fuel + 1) listed a w := fun hk =>
  ⟨fun h0 => absurd (hr ▸ h0) hne, fun i hi => wpOp_mono (fun _ _ h' => ⟨h'.1, h'.2 (kept_set hk hi)⟩) (h i (hr ▸ hi))⟩
theorem lDone {listed : Array Bool} {a : Act} {w : World} (hr : Region.ready md l.toArray listed = []) (h : Q .normal a w) : ∀ fuel, GoL P md l Q S fuel listed a w
  | 0 => fun _ => ⟨hr, h⟩
  | _ + 1 => fun _ => ⟨fun _ => h, by rw [hr]; simp⟩
theorem lBegin {id : Nat} {a : Act} {w : World} (hm : P.follows .mixedOrders = true) (hS : S (Array.replicate l.length false) w.drew)
    (h : S (Array.replicate l.length false) w.drew → GoL P .any l Q S l.length (Array.replicate l.length false) a w.drew) : (Code.region id l.toArray true).wp P Q a w := by
  refine wp_region_any hm ?_
  have h1 := AnyL.any _ _ _ _ (h hS (fun j oj hj hl => by
    rw [Array.getD_eq_getD_getElem?, Array.getElem?_replicate] at hl
    split at hl <;> cases hl))
  have e : l.toArray.size = l.length := by simp
  rw [e]
  exact h1
end
end Go.Proofs.Ytmebpglkeedaoaa
namespace Go.Proofs.Ytmebpglkeedaoaa
open Go.RowKit Dp
set_option linter.unusedVariables false

theorem step_new {P : Program} {w : World} {ops : Array Oper} {o : Oper} {a : Act} {K : Act → World → Prop} {Q : Exit → Act → World → Prop} {E : Prop} (O : Obj) (vf : Nat → Value)
    (hgd : o.guard = none) (hsp : (execOp a.eval o).run P w = .ok (.value (vf w.heap.size)) (w.alloc O))
    (h : ∀ g w', w.heap.size ≤ g → w'.heap[g]? = some O → Below w.heap.size w w' → K (a.put o.dst (vf g)) w') :
    if Region.wanted o (yielded ops a.tmps) = true then Oper.wp P o a w K Q else E := by
  have hw : Region.wanted o (yielded ops a.tmps) = true := by simp [Region.wanted, hgd]
  rw [if_pos hw]
  unfold Oper.wp
  rw [hsp]
  exact h _ _ (Nat.le_refl _) (by show (w.heap.push O)[w.heap.size]? = _; simp) ((Below.refl _ _).alloc (Nat.le_refl _) _)
theorem make_sl (n : Nat) (hn : n ≤ 4096) (W : World) : (Instr.makeSlice 111 (.int .i64 n) (.int .i64 n)).run Try.prog W = .ok (.slice (some ⟨W.heap.size, 0, none⟩) n n) (W.alloc (.cells (Array.replicate n (.slice none 0 0)) 26)) := by
  obtain ⟨i, hi, hz0, hz1, hz2⟩ := info_parts info26
  have hr := run_make (P := Try.prog) W 111 26 i _ Try.underlying111 hi hz0 .i64 .i64 n n (by omega) (by omega) (by rw [hz2]; omega) (by omega)
  simp only [Int.toNat_natCast, hz1, Nat.mul_one] at hr
  rw [hr]
  have e1 : madeCells (Value.slice none 0 0).cells n = Array.replicate n (.slice none 0 0) := by
    unfold madeCells
    apply Array.ext
    · simp
    · intro j h1 h2
      simp [Value.cells, Nat.mod_one]
  rw [e1]
theorem slC_zero (N : Net) : slC (fun _ => none) (fun _ => 0) (outsK N 0) = List.replicate N.sup.length (.slice none 0 0) := by
  apply List.ext_getElem
  · simp [slC, outsK]
  · intro i h1 h2
    have hi : i < N.sup.length := by simpa using h2
    simp [slC, outsK, List.getD_eq_getElem?_getD, hi]
/-- the graph behind k arcs -/
def grK (N : Net) (k : Nat) : Gr := { left := N.sup, es := esK N k, outs := outsK N k }

theorem ngJ_start {w W : World} {b gl cl bo n : Nat} {N : Net} (hn : n = N.sup.length) (hb : Below w.heap.size w W) (h1 : OwnI w.heap.size W gl cl N.sup) (h2 : Blk W bo 26 (List.replicate n (.slice none 0 0))) (h3 : Blk W b 113 [.slice (some ⟨gl, 0, none⟩) n cl, .slice none 0 0, .slice (some ⟨bo, 0, none⟩) n n]) (hb1 : w.heap.size ≤ b) (hb2 : w.heap.size ≤ bo) :
    NgJ w b gl cl bo none 0 (fun _ => none) (fun _ => 0) (grK N 0) W :=
  { bel := hb
    blk := by
      show Blk W b 113 [.slice (some ⟨gl, 0, none⟩) N.sup.length cl, .slice none 0 0, .slice (some ⟨bo, 0, none⟩) (outsK N 0).length (outsK N 0).length]
      rw [outsK_len, ← hn]; exact h3
    left := h1
    es := World.ownsRow_nil _ _ _ _
    rows := by
      show Blk W bo 26 (slC _ _ (outsK N 0))
      rw [slC_zero, ← hn]; exact h2
    own := fun i hi => by
      have : (grK N 0).outs.getD i [] = [] := by
        have hi' : i < N.sup.length := by have := outsK_len N 0; simp only [grK] at hi; omega
        simp [grK, outsK, List.getD_eq_getElem?_getD, hi']
      rw [this]
      exact World.ownsRow_nil _ _ _ _
    dis := fun i j _ _ _ k h => by obtain ⟨a, e, _⟩ := h; cases e
    ge := ⟨hb1, hb2⟩ }

set_option maxHeartbeats 2000000 in
set_option maxRecDepth 100000 in
theorem newGraph_c (A0 B0 : Option Addr) (N : Net) (n m cA cB : Nat) (w : World) (hn : n = N.sup.length) (hm : m = N.arcs.length) (hch : chE N = 0) (hA : n ≤ cA ∧ cA ≤ 9223372036854775807) (hB : m ≤ cB ∧ cB ≤ 9223372036854775807) (hN : NetAt w A0 B0 N) :
    Calls Try.prog 62 #[.agg #[.slice A0 n cA, .slice B0 m cB]] w fun e w' => ∃ b gl cl E ce bo, e = .returned (.pointer (some ⟨b, 0, none⟩)) ∧ Below w.heap.size w w' ∧ GrAt w' w.heap.size b gl cl E ce bo (gr0 N) := by
  have HN := Lib.hid hn
  have HM := Lib.hid hm
  have HCH := Lib.hid hch
  have HNA := Lib.hid hN
  have hl := net_len hch
  have n1 : 1 ≤ n := by rw [hn]; exact hl.1
  have n2 : n ≤ 1024 := by rw [hn]; exact hl.2.1
  have m2 : m ≤ 2048 := by rw [hm]; exact hl.2.2
  clear hn hm hch hN hl
  have hmk := make_sl n (by omega)
  have HB0 := Lib.hid ((Below.refl w.heap.size w).alloc (Nat.le_refl _) (.cells #[.slice A0 n cA, .slice B0 m cB] 25))
  have HX0 := Lib.hid (Blk.new' w #[.slice A0 n cA, .slice B0 m cB] 25)
  go_enter Try.func62, Try.ntmps62
  go_upto_region 1 with fail
  generalize w.alloc (.cells #[.slice A0 n cA, .slice B0 m cB] 25) = w1 at HB0 HX0 ⊢
  have RD : Hid (∀ W, Below w1.heap.size w1 W → W.cell? ⟨w.heap.size, 0, none⟩ = some (.slice A0 n cA) ∧ Blk W w.heap.size 25 [.slice A0 n cA, .slice B0 m cB] ∧ Below w.heap.size w W ∧ NetAt W A0 B0 N) := Lib.hid (fun W h => by
    have hb := HB0.out.trans (h.mono HB0.out.size)
    have hx := HX0.out.below h HX0.out.lt
    exact ⟨hx.cell 0 rfl, hx, hb, HNA.out.below hb (Nat.le_refl _)⟩)
  have HT := Lib.hid (Below.refl w1.heap.size w1).drew
  go_cut [3] from 4 (fun s3 wc => ∃ b gl cl bo, s3 = .pointer (some ⟨b, 0, none⟩) ∧ Hid (NgJ w b gl cl bo none 0 (fun _ => none) (fun _ => 0) (grK N 0) wc ∧ Below w1.heap.size w1 wc))
  case first =>
    refine lBegin (S := fun _ W => (W.cell? ⟨w.heap.size, 0, none⟩ = some (.slice A0 n cA))) (by kernel_rfl) ?_ (fun hHeld => ?_)
    · (try dsimp only); (first | with_reducible exact (RD.out _ HT.out).1 | with_reducible assumption)
    refine lTake (i := 0) (v := ?_) rfl (by kernel_rfl) (by kernel_rfl) (by kernel_rfl) (fun _ _ _ h => h) (by rfl) (fun _ _ h => h) (fun _ _ h => h) ?_ (by assumption) (fun hHeld2 => ?_)
    rotate_left 1
    · (intro _ _ _ _ _; first | (go_simp; done) | (go_simp; with_reducible rfl))
    clear hHeld; have hHeld := hHeld2; clear hHeld2
    (try simp only [Act.put, List.setIfInBounds_toArray, List.set_cons_zero, List.set_cons_succ])
    refine lTake (i := 1) (v := ?_) rfl (by kernel_rfl) (by kernel_rfl) (by kernel_rfl) (fun _ _ _ h => h) (by rfl) (fun _ _ h => h) (fun _ _ h => h) ?_ (by assumption) (fun hHeld2 => ?_)
    rotate_left 1
    · (intro L W _ _ hSw; (try dsimp only at hSw); first | (go_simp; done) | (go_simp; with_reducible rfl))
    clear hHeld; have hHeld := hHeld2; clear hHeld2
    (try simp only [Act.put, List.setIfInBounds_toArray, List.set_cons_zero, List.set_cons_succ])
    refine lTake (i := 3) (v := ?_) rfl (by kernel_rfl) (by kernel_rfl) (by kernel_rfl) (fun _ _ _ h => h) (by rfl) (fun _ _ h => h) (fun _ _ h => h) ?_ (by assumption) (fun hHeld2 => ?_)
    rotate_left 1
    · (intro _ _ _ _ _; first | (go_simp; done) | (go_simp; with_reducible rfl))
    clear hHeld; have hHeld := hHeld2; clear hHeld2
    (try simp only [Act.put, List.setIfInBounds_toArray, List.set_cons_zero, List.set_cons_succ])
    refine lTake (i := 4) (v := ?_) rfl (by kernel_rfl) (by kernel_rfl) (by kernel_rfl) (fun _ _ _ h => h) (by rfl) (fun _ _ h => h) (fun _ _ h => h) ?_ (by assumption) (fun hHeld2 => ?_)
    rotate_left 1
    · (intro L W _ _ hSw; (try dsimp only at hSw); first | (go_simp; done) | (go_simp; with_reducible rfl))
    clear hHeld; have hHeld := hHeld2; clear hHeld2
    (try simp only [Act.put, List.setIfInBounds_toArray, List.set_cons_zero, List.set_cons_succ])
    refine lTake (i := 5) (v := ?_) rfl (by kernel_rfl) (by kernel_rfl) (by kernel_rfl) (fun _ _ _ h => h) (by rfl) (fun _ _ h => h) (fun _ _ h => h) ?_ (by assumption) (fun hHeld2 => ?_)
    rotate_left 1
    · (intro _ _ _ _ _; first | (go_simp; done) | (go_simp; with_reducible rfl))
    clear hHeld; have hHeld := hHeld2; clear hHeld2
    (try simp only [Act.put, List.setIfInBounds_toArray, List.set_cons_zero, List.set_cons_succ])
    refine lReady (rs := [2, 6]) (by kernel_rfl) (by simp) ?_
    refine AllL.cons (i := 2) rfl (fun K hK => ?_) ?_
    · go_simp; (refine (clone_c A0 N.sup n cA _ HN.out n1 (by omega) (RD.out _ HT.out).2.2.2.1).mono ?_; rintro e w5 ⟨gl, cl, rfl, hb5, z5, y5, ho5⟩; (try have HMK := Lib.hid (Blk.below HMK.out hb5 (Blk.lt HMK.out))); have HCL := Lib.hid (OwnI.mono ho5 (RD.out _ HT.out).2.2.1.size); have HT := Lib.hid (HT.out.trans (hb5.mono HT.out.size)); clear hb5 ho5 y5)
      (try go_wp2_with fail)
      refine hK.out _ _ ?_ (fun hHeld2 => ?_)
      · (try dsimp only); (first | with_reducible exact (RD.out _ HT.out).1 | with_reducible assumption)
      clear hK K
      clear hHeld; have hHeld := hHeld2; clear hHeld2
      (try simp only [Act.put, List.setIfInBounds_toArray, List.set_cons_zero, List.set_cons_succ])
      refine lReady (rs := [6]) (by kernel_rfl) (by simp) ?_
      refine AllL.cons (i := 6) rfl (fun K hK => ?_) ?_
      · refine step_new (.cells (Array.replicate n (.slice none 0 0)) 26) (fun g => .slice (some ⟨g, 0, none⟩) n n) rfl (by unfold execOp; simp [hmk, go_sem]) ?_; intro bo w6 z6 hc6 hb6; (try have HCL := Lib.hid (OwnI.below HCL.out hb6)); have HMK := Lib.hid (show Blk w6 bo 26 (List.replicate n (.slice none 0 0)) from by unfold Blk; rw [hc6]; simp); have HMS := Lib.hid (Nat.le_trans (RD.out _ HT.out).2.2.1.size z6); have HT := Lib.hid (HT.out.trans (hb6.mono HT.out.size)); clear hb6 hc6 z6
        (try go_wp2_with fail)
        refine hK.out _ _ ?_ (fun hHeld2 => ?_)
        · (try dsimp only); (first | with_reducible exact (RD.out _ HT.out).1 | with_reducible assumption)
        clear hK K
        clear hHeld; have hHeld := hHeld2; clear hHeld2
        (try simp only [Act.put, List.setIfInBounds_toArray, List.set_cons_zero, List.set_cons_succ])
        refine lTake (i := 7) (v := ?_) rfl (by kernel_rfl) (by kernel_rfl) (by kernel_rfl) (fun _ _ _ h => h) (by rfl) (fun _ _ h => h) (fun _ _ h => h) ?_ (by assumption) (fun hHeld2 => ?_)
        rotate_left 1
        · (intro _ _ _ _ _; first | (go_simp; done) | (go_simp; with_reducible rfl))
        clear hHeld; have hHeld := hHeld2; clear hHeld2
        (try simp only [Act.put, List.setIfInBounds_toArray, List.set_cons_zero, List.set_cons_succ])
        refine lReady (rs := [8]) (by kernel_rfl) (by simp) ?_
        refine AllL.cons (i := 8) rfl (fun K hK => ?_) ?_
        · refine step_new (.cells #[.slice (some ⟨gl, 0, none⟩) n cl, .slice none 0 0, .slice (some ⟨bo, 0, none⟩) n n] 113) (fun g => .pointer (some ⟨g, 0, none⟩)) rfl (by kernel_rfl) ?_; intro b w7 z7 hc7 hb7; have HCL := Lib.hid (OwnI.below HCL.out hb7); have HMK := Lib.hid (Blk.below HMK.out hb7 (Blk.lt HMK.out)); have HBB := Lib.hid (show Blk w7 b 113 [.slice (some ⟨gl, 0, none⟩) n cl, .slice none 0 0, .slice (some ⟨bo, 0, none⟩) n n] from hc7); have HBS := Lib.hid (Nat.le_trans (RD.out _ HT.out).2.2.1.size z7); have HT := Lib.hid (HT.out.trans (hb7.mono HT.out.size)); clear hb7 hc7 z7
          (try go_wp2_with fail)
          refine hK.out _ _ ?_ (fun hHeld2 => ?_)
          · (try dsimp only); (first | with_reducible exact (RD.out _ HT.out).1 | with_reducible assumption)
          clear hK K
          clear hHeld; have hHeld := hHeld2; clear hHeld2
          (try simp only [Act.put, List.setIfInBounds_toArray, List.set_cons_zero, List.set_cons_succ])
          refine lTake (i := 9) (v := ?_) rfl (by kernel_rfl) (by kernel_rfl) (by kernel_rfl) (fun _ _ _ h => h) (by rfl) (fun _ _ h => h) (fun _ _ h => h) ?_ (by assumption) (fun hHeld2 => ?_)
          rotate_left 1
          · (intro _ _ _ _ _; first | (go_simp; done) | (go_simp; with_reducible rfl))
          clear hHeld; have hHeld := hHeld2; clear hHeld2
          (try simp only [Act.put, List.setIfInBounds_toArray, List.set_cons_zero, List.set_cons_succ])
          refine lDone (by kernel_rfl) ?_ _
          go_wp2_with fail
          go_meet
          case rel => exact ⟨b, gl, cl, bo, rfl, Lib.hid ⟨ngJ_start HN.out (RD.out _ HT.out).2.2.1 HCL.out HMK.out HBB.out HBS.out HMS.out, HT.out⟩⟩
        exact AllL.nil
      exact AllL.nil
    refine AllL.cons (i := 6) rfl (fun K hK => ?_) ?_
    · refine step_new (.cells (Array.replicate n (.slice none 0 0)) 26) (fun g => .slice (some ⟨g, 0, none⟩) n n) rfl (by unfold execOp; simp [hmk, go_sem]) ?_; intro bo w6 z6 hc6 hb6; (try have HCL := Lib.hid (OwnI.below HCL.out hb6)); have HMK := Lib.hid (show Blk w6 bo 26 (List.replicate n (.slice none 0 0)) from by unfold Blk; rw [hc6]; simp); have HMS := Lib.hid (Nat.le_trans (RD.out _ HT.out).2.2.1.size z6); have HT := Lib.hid (HT.out.trans (hb6.mono HT.out.size)); clear hb6 hc6 z6
      (try go_wp2_with fail)
      refine hK.out _ _ ?_ (fun hHeld2 => ?_)
      · (try dsimp only); (first | with_reducible exact (RD.out _ HT.out).1 | with_reducible assumption)
      clear hK K
      clear hHeld; have hHeld := hHeld2; clear hHeld2
      (try simp only [Act.put, List.setIfInBounds_toArray, List.set_cons_zero, List.set_cons_succ])
      refine lReady (rs := [2]) (by kernel_rfl) (by simp) ?_
      refine AllL.cons (i := 2) rfl (fun K hK => ?_) ?_
      · go_simp; (refine (clone_c A0 N.sup n cA _ HN.out n1 (by omega) (RD.out _ HT.out).2.2.2.1).mono ?_; rintro e w5 ⟨gl, cl, rfl, hb5, z5, y5, ho5⟩; (try have HMK := Lib.hid (Blk.below HMK.out hb5 (Blk.lt HMK.out))); have HCL := Lib.hid (OwnI.mono ho5 (RD.out _ HT.out).2.2.1.size); have HT := Lib.hid (HT.out.trans (hb5.mono HT.out.size)); clear hb5 ho5 y5)
        (try go_wp2_with fail)
        refine hK.out _ _ ?_ (fun hHeld2 => ?_)
        · (try dsimp only); (first | with_reducible exact (RD.out _ HT.out).1 | with_reducible assumption)
        clear hK K
        clear hHeld; have hHeld := hHeld2; clear hHeld2
        (try simp only [Act.put, List.setIfInBounds_toArray, List.set_cons_zero, List.set_cons_succ])
        refine lTake (i := 7) (v := ?_) rfl (by kernel_rfl) (by kernel_rfl) (by kernel_rfl) (fun _ _ _ h => h) (by rfl) (fun _ _ h => h) (fun _ _ h => h) ?_ (by assumption) (fun hHeld2 => ?_)
        rotate_left 1
        · (intro _ _ _ _ _; first | (go_simp; done) | (go_simp; with_reducible rfl))
        clear hHeld; have hHeld := hHeld2; clear hHeld2
        (try simp only [Act.put, List.setIfInBounds_toArray, List.set_cons_zero, List.set_cons_succ])
        refine lReady (rs := [8]) (by kernel_rfl) (by simp) ?_
        refine AllL.cons (i := 8) rfl (fun K hK => ?_) ?_
        · refine step_new (.cells #[.slice (some ⟨gl, 0, none⟩) n cl, .slice none 0 0, .slice (some ⟨bo, 0, none⟩) n n] 113) (fun g => .pointer (some ⟨g, 0, none⟩)) rfl (by kernel_rfl) ?_; intro b w7 z7 hc7 hb7; have HCL := Lib.hid (OwnI.below HCL.out hb7); have HMK := Lib.hid (Blk.below HMK.out hb7 (Blk.lt HMK.out)); have HBB := Lib.hid (show Blk w7 b 113 [.slice (some ⟨gl, 0, none⟩) n cl, .slice none 0 0, .slice (some ⟨bo, 0, none⟩) n n] from hc7); have HBS := Lib.hid (Nat.le_trans (RD.out _ HT.out).2.2.1.size z7); have HT := Lib.hid (HT.out.trans (hb7.mono HT.out.size)); clear hb7 hc7 z7
          (try go_wp2_with fail)
          refine hK.out _ _ ?_ (fun hHeld2 => ?_)
          · (try dsimp only); (first | with_reducible exact (RD.out _ HT.out).1 | with_reducible assumption)
          clear hK K
          clear hHeld; have hHeld := hHeld2; clear hHeld2
          (try simp only [Act.put, List.setIfInBounds_toArray, List.set_cons_zero, List.set_cons_succ])
          refine lTake (i := 9) (v := ?_) rfl (by kernel_rfl) (by kernel_rfl) (by kernel_rfl) (fun _ _ _ h => h) (by rfl) (fun _ _ h => h) (fun _ _ h => h) ?_ (by assumption) (fun hHeld2 => ?_)
          rotate_left 1
          · (intro _ _ _ _ _; first | (go_simp; done) | (go_simp; with_reducible rfl))
          clear hHeld; have hHeld := hHeld2; clear hHeld2
          (try simp only [Act.put, List.setIfInBounds_toArray, List.set_cons_zero, List.set_cons_succ])
          refine lDone (by kernel_rfl) ?_ _
          go_wp2_with fail
          go_meet
          case rel => exact ⟨b, gl, cl, bo, rfl, Lib.hid ⟨ngJ_start HN.out (RD.out _ HT.out).2.2.1 HCL.out HMK.out HBB.out HBS.out HMS.out, HT.out⟩⟩
        exact AllL.nil
      exact AllL.nil
    exact AllL.nil
  case rest =>
    clear HT
    obtain ⟨b, gl, cl, bo, rfl, HJ⟩ := hcut
    have J0 := Lib.hid HJ.out.1
    have T0 := Lib.hid HJ.out.2
    clear HJ
    have x1 := (RD.out _ T0.out).2.1.cell 1 rfl
    clear RD HB0 HX0
    obtain ⟨i3, h3i, h3z, h3s, h3b⟩ := info_parts info3
    obtain ⟨i4, h4i, h4z, h4s, h4b⟩ := info_parts info144
    go_wp2_with fail
    go_loopg [18] m (fun q iv wr => ∃ k : Nat, iv = .int .i64 k ∧ k + q = m ∧ Hid (∃ E ce A c, NgJ w b gl cl bo E ce A c (grK N k) wr))
    case atStart => exact ⟨0, rfl, by omega, Lib.hid ⟨_, _, _, _, J0.out⟩⟩
    case round =>
      clear J0 T0 x1
      obtain ⟨k, rfl, hkq, HJ⟩ := hrel
      obtain ⟨E, ce, A, c, j⟩ := HJ.out
      have JR := Lib.hid j
      clear HJ j
      by_cases hlt : k < m
      · have hki : (k : Int) < (m : Int) := by omega
        obtain ⟨ad, rfl, hbl, d0, d1, d2, d3⟩ := (HNA.out.2.below JR.out.bel (Nat.le_refl _)) k (by rw [← HM.out]; exact hlt)
        have HNX := Lib.hid (net_ends HCH.out k (by rw [← HM.out]; exact hlt))
        obtain ⟨a1, a2, a3, a4, a5⟩ := net_arc HCH.out k (by rw [← HM.out]; exact hlt)
        rw [← HN.out] at a1 a2
        have HESK : Hid (esK N (k + 1) = esK N k ++ [⟨(N.arcs.getD k default).to, (N.arcs.getD k default).cap, (N.arcs.getD k default).cost⟩, ⟨(N.arcs.getD k default).fr, 0, -(N.arcs.getD k default).cost⟩]) := Lib.hid rfl
        have HOK : Hid (outsK N (k + 1) = addAt (addAt (outsK N k) (frN N k) (2 * k : Nat)) (toN N k) (2 * k + 1 : Nat)) := Lib.hid rfl
        have HFA : Hid (frN N k = (N.arcs.getD k default).fr.toNat ∧ toN N k = (N.arcs.getD k default).to.toNat) := Lib.hid ⟨rfl, rfl⟩
        generalize N.arcs.getD k default = ar at *
        obtain ⟨fr, t0, ca, co⟩ := ar
        simp only at d0 d1 d2 d3 a1 a2 a3 a4 a5 HESK HFA
        obtain ⟨a, rfl⟩ : ∃ a : Nat, fr = a := ⟨fr.toNat, by omega⟩
        obtain ⟨d, rfl⟩ : ∃ d : Nat, t0 = d := ⟨t0.toNat, by omega⟩
        simp only [Int.toNat_natCast] at HFA
        rw [HFA.out.1, HFA.out.2] at HOK
        have han : a < n := by omega
        have hdn : d < n := by omega
        have hai : (a : Int) < (n : Int) := by omega
        have hdi : (d : Int) < (n : Int) := by omega
        have OL2 : Hid ((outsK N k).length = n) := Lib.hid (by rw [outsK_len, HN.out])
        have OL5b : Hid (∀ x, (addAt (outsK N k) a x).length = n) := Lib.hid (fun x => by rw [addAt_len, outsK_len, HN.out])
        obtain ⟨ne, hne⟩ : ∃ ne, ne = 2 * k := ⟨_, rfl⟩
        have HNE : Hid ((esK N k).length = ne) := Lib.hid (by rw [esK_len, hne])
        have hne2 : ne ≤ 4096 := by omega
        rw [← hne] at HOK
        have HOK : Hid (outsK N (k + 1) = addAt (addAt (outsK N k) a ((ne : Nat) : Int)) d ((ne : Int) + 1)) := Lib.hid HOK.out
        have HNK := Lib.hid hne
        go_upto_region 5 with fail
        have al := (Below.refl wr.heap.size wr).alloc (Nat.le_refl _) (.cells #[.int .i64 a, .int .i64 d, .int .i64 ca, .int .i64 co] 46)
        have J2 : Hid (NgJ w b gl cl bo E ce A c { left := N.sup, es := esK N k, outs := outsK N k } _) := Lib.hid (JR.out.below al)
        have X2 := Lib.hid (Blk.new' wr #[.int .i64 a, .int .i64 d, .int .i64 ca, .int .i64 co] 46)
        clear al
        generalize wr.alloc (.cells #[.int .i64 a, .int .i64 d, .int .i64 ca, .int .i64 co] 46) = w2 at J2 X2 ⊢
        generalize wr.heap.size = ga at *
        clear d0 d1 d2 d3 JR hne
        go_upto_region 5 with fail
        -- region 5: the list of node a grows by ((ne : Nat) : Int)
        have SHORT5 : Hid (((outsK N k).getD a []).length ≤ 8192) := Lib.hid (by have := outsK_short HCH.out k (by rw [← HM.out]; omega) a; omega)
        have SC5 : Hid (∀ W, NgJ w b gl cl bo E ce A c { left := N.sup, es := esK N k, outs := outsK N k } W ∧ Blk W ga 46 [.int .i64 a, .int .i64 d, .int .i64 ca, .int .i64 co] → W.cell? ⟨b, 1, none⟩ = some (.slice E ne ce) ∧ W.cell? ⟨b, 2, none⟩ = some (.slice (some ⟨bo, 0, none⟩) n n) ∧ W.cell? ⟨ga, 0, none⟩ = some (.int .i64 a) ∧ W.cell? ⟨ga, 1, none⟩ = some (.int .i64 d) ∧ W.cell? ⟨bo, a, none⟩ = some (.slice (A a) ((outsK N k).getD a []).length (c a))) := Lib.hid (fun W h => by
          have q1 := h.1.blk.cell 1 rfl
          have q2 := h.1.blk.cell 2 rfl
          simp only [HNE.out] at q1
          simp only [OL2.out] at q2
          exact ⟨q1, q2, h.2.cell 0 rfl, h.2.cell 1 rfl, h.1.rows.cell a (slC_get (by show a < (outsK N k).length; rw [OL2.out]; exact han))⟩)
        have ST5 : Hid (∀ V W g cap, NgJ w b gl cl bo E ce A c { left := N.sup, es := esK N k, outs := outsK N k } V → NgJ w b gl cl bo E ce A c { left := N.sup, es := esK N k, outs := outsK N k } W → OwnR intC 3 1 w.heap.size W (some ⟨g, 0, none⟩) cap ((outsK N k).getD a [] ++ [((ne : Nat) : Int)]) → (OwnB (A a) g ∨ g = V.heap.size) → NgJ w b gl cl bo E ce (upd A a (some ⟨g, 0, none⟩)) (upd c a cap) { left := N.sup, es := esK N k, outs := addAt (outsK N k) a ((ne : Nat) : Int) } (W.setCell ⟨bo, a, none⟩ (.slice (some ⟨g, 0, none⟩) (((outsK N k).getD a []).length + 1) cap))) := Lib.hid (fun V W g cap hV hW ho hg => hW.store a (by show a < (outsK N k).length; rw [OL2.out]; exact han) ho (hg.imp id (fun e j hj q hq => by rw [e]; exact (ownLt (hV.own j hj) hq).1)))
        have GW5 : Hid (∀ V W n' cap, n' = ((outsK N k).getD a []).length → cap = c a → NgJ w b gl cl bo E ce A c { left := N.sup, es := esK N k, outs := outsK N k } V → Blk V ga 46 [.int .i64 a, .int .i64 d, .int .i64 ca, .int .i64 co] → V.grownBy W (Value.slice (A a) n' cap).ownBlock → OwnR intC 3 1 w.heap.size W (A a) (c a) ((outsK N k).getD a []) → NgJ w b gl cl bo E ce A c { left := N.sup, es := esK N k, outs := outsK N k } W ∧ Blk W ga 46 [.int .i64 a, .int .i64 d, .int .i64 ca, .int .i64 co]) := Lib.hid (fun V W n' cap e1 e2 hV hX hg ho => ⟨hV.grown a (by show a < (outsK N k).length; rw [OL2.out]; exact han) e1 e2 hg ho, hX.grown hg (fun e => own_ne (hV.own a (by show a < (outsK N k).length; rw [OL2.out]; exact han)) (ownB_iff.2 e.symm) hX (by decide))⟩)
        have RW5 : Hid (∀ V, NgJ w b gl cl bo E ce A c { left := N.sup, es := esK N k, outs := outsK N k } V → OwnR intC 3 1 w.heap.size V (A a) (c a) ((outsK N k).getD a [])) := Lib.hid (fun V h => h.own a (by show a < (outsK N k).length; rw [OL2.out]; exact han))
        generalize hrow5 : (outsK N k).getD a [] = row5 at *
        have HROW5 := Lib.hid hrow5
        clear hrow5
        generalize hAv5 : A a = Av5 at *
        generalize hcv5 : c a = cv5 at *
        have HAV5 := Lib.hid hAv5
        have HCV5 := Lib.hid hcv5
        clear hAv5 hcv5
        generalize hln5 : row5.length = ln5 at *
        have HLN5 := Lib.hid hln5
        clear hln5
        have shl5 := SHORT5.out
        refine wp_region_spine 19 [true, true] [] ?af5 (fun V => NgJ w b gl cl bo E ce A c { left := N.sup, es := esK N k, outs := outsK N k } V ∧ Blk V ga 46 [.int .i64 a, .int .i64 d, .int .i64 ca, .int .i64 co]) (by kernel_rfl) (by kernel_rfl) ⟨J2.out.drew, X2.out.drew⟩ ?walk5 ?spine5
        case walk5 =>
          intro V hV
          obtain ⟨q1, q2, q3, q4, q5⟩ := SC5.out V hV
          clear hV
          simp only [List.take_succ_cons, List.take_zero]
          repeat (go_big_quiet_step (fail))
          refine wpQuiet_nil ?_
          rfl
        case spine5 =>
          rintro V ⟨h1, h2⟩
          have JV := Lib.hid h1
          have XV := Lib.hid h2
          clear h1 h2
          refine spineV_cons ?_
          unfold StepV
          go_simp
          have al := (Below.refl V.heap.size V).alloc (Nat.le_refl _) (.cells #[.int .i64 ((ne : Nat) : Int)] 3)
          have JV5 := Lib.hid (JV.out.below al)
          have XV5 := Lib.hid (XV.out.below al XV.out.lt)
          have YV5 := Lib.hid (Blk.new' V #[.int .i64 ((ne : Nat) : Int)] 3)
          clear al
          generalize V.alloc (.cells #[.int .i64 ((ne : Nat) : Int)] 3) = V2 at JV5 XV5 YV5 ⊢
          refine ⟨⟨JV5.out, XV5.out⟩, ?_⟩
          generalize V.heap.size = gv at *
          refine spineV_cons ?_
          have row0 := RW5.out _ JV5.out
          unfold OwnR at row0
          rw [HLN5.out] at row0
          refine stepV_keep (.tmp 35) (.tmp 41) 26 rfl w.heap.size 3 i3 (.int .i64 0) 1 8 Try.underlying26 h3i h3z h3s h3b rfl (by decide) Av5 ln5 cv5 (flat intC row5) (by rfl) row0 ⟨gv, 0, none⟩ 1 1 [.int .i64 ((ne : Nat) : Int)] (by rfl) (by rfl) ?_ (by simp [Value.oneCell']) (by omega) (by unfold maxLen; omega) (by omega) JV5.out.bel.size ?_
          · intro j u hj
            rcases j with _ | j
            · simp at hj; subst hj; exact YV5.out.cell 0 rfl
            · simp at hj
          intro g5 cap5 W3 ho hg hk hold
          have CK := GW5.out V2 W3 ln5 cv5 rfl rfl JV5.out XV5.out hg (by unfold OwnR; rw [HLN5.out]; exact hold)
          refine ⟨fun _ => CK, ?_⟩
          have J5b := Lib.hid (ST5.out V2 W3 g5 cap5 JV5.out CK.1 (by
            unfold OwnR
            rw [List.length_append, HLN5.out, flat_append]
            exact ho) hk)
          have X5b := Lib.hid (CK.2.setCell_ne (p := ⟨bo, a, none⟩) (fun e => by
            simp only at e
            subst e
            exact (blk_type_ne CK.2 CK.1.rows (by decide)) rfl) (.slice (some ⟨g5, 0, none⟩) (ln5 + 1) cap5))
          have z5 := CK.1.rows.free a
          obtain ⟨_, _, _, _, q5⟩ := SC5.out W3 CK
          clear ho hg hk hold CK row0
          refine spineV_nil ?_
          go_upto_region 6 with fail
          generalize W3.setCell ⟨bo, a, none⟩ (.slice (some ⟨g5, 0, none⟩) (ln5 + 1) cap5) = W5 at J5b X5b ⊢
          clear z5 q5 JV XV JV5 XV5 YV5 GW5 ST5 SC5 RW5
          go_upto_region 6 with fail
          -- region 6: the list of node d grows by ((ne : Int) + 1)
          have SHORT6 : Hid (((addAt (outsK N k) a ((ne : Nat) : Int)).getD d []).length ≤ 8192) := Lib.hid (by have h1 := outsK_short HCH.out k (by rw [← HM.out]; omega) d; have h2 := outsK_short HCH.out k (by rw [← HM.out]; omega) a; rw [addAt_get (by rw [outsK_len, ← HN.out]; exact han)]; split <;> (try simp only [List.length_append, List.length_cons, List.length_nil]) <;> omega)
          have SC6 : Hid (∀ W, NgJ w b gl cl bo E ce (upd A a (some ⟨g5, 0, none⟩)) (upd c a cap5) { left := N.sup, es := esK N k, outs := addAt (outsK N k) a ((ne : Nat) : Int) } W ∧ Blk W ga 46 [.int .i64 a, .int .i64 d, .int .i64 ca, .int .i64 co] → W.cell? ⟨b, 1, none⟩ = some (.slice E ne ce) ∧ W.cell? ⟨b, 2, none⟩ = some (.slice (some ⟨bo, 0, none⟩) n n) ∧ W.cell? ⟨ga, 0, none⟩ = some (.int .i64 a) ∧ W.cell? ⟨ga, 1, none⟩ = some (.int .i64 d) ∧ W.cell? ⟨bo, d, none⟩ = some (.slice ((upd A a (some ⟨g5, 0, none⟩)) d) ((addAt (outsK N k) a ((ne : Nat) : Int)).getD d []).length ((upd c a cap5) d))) := Lib.hid (fun W h => by
            have q1 := h.1.blk.cell 1 rfl
            have q2 := h.1.blk.cell 2 rfl
            simp only [HNE.out] at q1
            simp only [OL5b.out] at q2
            exact ⟨q1, q2, h.2.cell 0 rfl, h.2.cell 1 rfl, h.1.rows.cell d (slC_get (by show d < (addAt (outsK N k) a ((ne : Nat) : Int)).length; rw [OL5b.out]; exact hdn))⟩)
          have ST6 : Hid (∀ V W g cap, NgJ w b gl cl bo E ce (upd A a (some ⟨g5, 0, none⟩)) (upd c a cap5) { left := N.sup, es := esK N k, outs := addAt (outsK N k) a ((ne : Nat) : Int) } V → NgJ w b gl cl bo E ce (upd A a (some ⟨g5, 0, none⟩)) (upd c a cap5) { left := N.sup, es := esK N k, outs := addAt (outsK N k) a ((ne : Nat) : Int) } W → OwnR intC 3 1 w.heap.size W (some ⟨g, 0, none⟩) cap ((addAt (outsK N k) a ((ne : Nat) : Int)).getD d [] ++ [((ne : Int) + 1)]) → (OwnB ((upd A a (some ⟨g5, 0, none⟩)) d) g ∨ g = V.heap.size) → NgJ w b gl cl bo E ce (upd (upd A a (some ⟨g5, 0, none⟩)) d (some ⟨g, 0, none⟩)) (upd (upd c a cap5) d cap) { left := N.sup, es := esK N k, outs := addAt (addAt (outsK N k) a ((ne : Nat) : Int)) d ((ne : Int) + 1) } (W.setCell ⟨bo, d, none⟩ (.slice (some ⟨g, 0, none⟩) (((addAt (outsK N k) a ((ne : Nat) : Int)).getD d []).length + 1) cap))) := Lib.hid (fun V W g cap hV hW ho hg => hW.store d (by show d < (addAt (outsK N k) a ((ne : Nat) : Int)).length; rw [OL5b.out]; exact hdn) ho (hg.imp id (fun e j hj q hq => by rw [e]; exact (ownLt (hV.own j hj) hq).1)))
          have GW6 : Hid (∀ V W n' cap, n' = ((addAt (outsK N k) a ((ne : Nat) : Int)).getD d []).length → cap = (upd c a cap5) d → NgJ w b gl cl bo E ce (upd A a (some ⟨g5, 0, none⟩)) (upd c a cap5) { left := N.sup, es := esK N k, outs := addAt (outsK N k) a ((ne : Nat) : Int) } V → Blk V ga 46 [.int .i64 a, .int .i64 d, .int .i64 ca, .int .i64 co] → V.grownBy W (Value.slice ((upd A a (some ⟨g5, 0, none⟩)) d) n' cap).ownBlock → OwnR intC 3 1 w.heap.size W ((upd A a (some ⟨g5, 0, none⟩)) d) ((upd c a cap5) d) ((addAt (outsK N k) a ((ne : Nat) : Int)).getD d []) → NgJ w b gl cl bo E ce (upd A a (some ⟨g5, 0, none⟩)) (upd c a cap5) { left := N.sup, es := esK N k, outs := addAt (outsK N k) a ((ne : Nat) : Int) } W ∧ Blk W ga 46 [.int .i64 a, .int .i64 d, .int .i64 ca, .int .i64 co]) := Lib.hid (fun V W n' cap e1 e2 hV hX hg ho => ⟨hV.grown d (by show d < (addAt (outsK N k) a ((ne : Nat) : Int)).length; rw [OL5b.out]; exact hdn) e1 e2 hg ho, hX.grown hg (fun e => own_ne (hV.own d (by show d < (addAt (outsK N k) a ((ne : Nat) : Int)).length; rw [OL5b.out]; exact hdn)) (ownB_iff.2 e.symm) hX (by decide))⟩)
          have RW6 : Hid (∀ V, NgJ w b gl cl bo E ce (upd A a (some ⟨g5, 0, none⟩)) (upd c a cap5) { left := N.sup, es := esK N k, outs := addAt (outsK N k) a ((ne : Nat) : Int) } V → OwnR intC 3 1 w.heap.size V ((upd A a (some ⟨g5, 0, none⟩)) d) ((upd c a cap5) d) ((addAt (outsK N k) a ((ne : Nat) : Int)).getD d [])) := Lib.hid (fun V h => h.own d (by show d < (addAt (outsK N k) a ((ne : Nat) : Int)).length; rw [OL5b.out]; exact hdn))
          generalize hrow6 : (addAt (outsK N k) a ((ne : Nat) : Int)).getD d [] = row6 at *
          have HROW6 := Lib.hid hrow6
          clear hrow6
          generalize hAv6 : (upd A a (some ⟨g5, 0, none⟩)) d = Av6 at *
          generalize hcv6 : (upd c a cap5) d = cv6 at *
          have HAV6 := Lib.hid hAv6
          have HCV6 := Lib.hid hcv6
          clear hAv6 hcv6
          generalize hln6 : row6.length = ln6 at *
          have HLN6 := Lib.hid hln6
          clear hln6
          have shl6 := SHORT6.out
          refine wp_region_spine 20 [true, true] [] ?af6 (fun V => NgJ w b gl cl bo E ce (upd A a (some ⟨g5, 0, none⟩)) (upd c a cap5) { left := N.sup, es := esK N k, outs := addAt (outsK N k) a ((ne : Nat) : Int) } V ∧ Blk V ga 46 [.int .i64 a, .int .i64 d, .int .i64 ca, .int .i64 co]) (by kernel_rfl) (by kernel_rfl) ⟨J5b.out.drew, X5b.out.drew⟩ ?walk6 ?spine6
          case walk6 =>
            intro V hV
            obtain ⟨q1, q2, q3, q4, q5⟩ := SC6.out V hV
            clear hV
            simp only [List.take_succ_cons, List.take_zero]
            repeat (go_big_quiet_step (fail))
            refine wpQuiet_nil ?_
            rfl
          case spine6 =>
            rintro V ⟨h1, h2⟩
            have JV := Lib.hid h1
            have XV := Lib.hid h2
            clear h1 h2
            refine spineV_cons ?_
            unfold StepV
            go_simp
            have al := (Below.refl V.heap.size V).alloc (Nat.le_refl _) (.cells #[.int .i64 ((ne : Int) + 1)] 3)
            have JV6 := Lib.hid (JV.out.below al)
            have XV6 := Lib.hid (XV.out.below al XV.out.lt)
            have YV6 := Lib.hid (Blk.new' V #[.int .i64 ((ne : Int) + 1)] 3)
            clear al
            generalize V.alloc (.cells #[.int .i64 ((ne : Int) + 1)] 3) = V2 at JV6 XV6 YV6 ⊢
            refine ⟨⟨JV6.out, XV6.out⟩, ?_⟩
            generalize V.heap.size = gv at *
            refine spineV_cons ?_
            have row0 := RW6.out _ JV6.out
            unfold OwnR at row0
            rw [HLN6.out] at row0
            refine stepV_keep (.tmp 57) (.tmp 64) 26 rfl w.heap.size 3 i3 (.int .i64 0) 1 8 Try.underlying26 h3i h3z h3s h3b rfl (by decide) Av6 ln6 cv6 (flat intC row6) (by rfl) row0 ⟨gv, 0, none⟩ 1 1 [.int .i64 ((ne : Int) + 1)] (by rfl) (by rfl) ?_ (by simp [Value.oneCell']) (by omega) (by unfold maxLen; omega) (by omega) JV6.out.bel.size ?_
            · intro j u hj
              rcases j with _ | j
              · simp at hj; subst hj; exact YV6.out.cell 0 rfl
              · simp at hj
            intro g6 cap6 W3 ho hg hk hold
            have CK := GW6.out V2 W3 ln6 cv6 rfl rfl JV6.out XV6.out hg (by unfold OwnR; rw [HLN6.out]; exact hold)
            refine ⟨fun _ => CK, ?_⟩
            have J6b := Lib.hid (ST6.out V2 W3 g6 cap6 JV6.out CK.1 (by
              unfold OwnR
              rw [List.length_append, HLN6.out, flat_append]
              exact ho) hk)
            have X6b := Lib.hid (CK.2.setCell_ne (p := ⟨bo, d, none⟩) (fun e => by
              simp only at e
              subst e
              exact (blk_type_ne CK.2 CK.1.rows (by decide)) rfl) (.slice (some ⟨g6, 0, none⟩) (ln6 + 1) cap6))
            have z5 := CK.1.rows.free d
            obtain ⟨_, _, _, _, q5⟩ := SC6.out W3 CK
            clear ho hg hk hold CK row0
            refine spineV_nil ?_
            go_upto_region 7 with fail
            generalize W3.setCell ⟨bo, d, none⟩ (.slice (some ⟨g6, 0, none⟩) (ln6 + 1) cap6) = W6 at J6b X6b ⊢
            clear z5 q5 JV XV JV6 XV6 YV6 GW6 ST6 SC6 RW6
            go_upto_region 7 with fail
            rw [← HOK.out] at J6b
            generalize (upd (upd A a (some ⟨g5, 0, none⟩)) d (some ⟨g6, 0, none⟩)) = Af at J6b
            generalize (upd (upd c a cap5) d cap6) = cf at J6b
            have SC7 : Hid (∀ W, NgJ w b gl cl bo E ce Af cf { left := N.sup, es := esK N k, outs := outsK N (k + 1) } W ∧ Blk W ga 46 [.int .i64 a, .int .i64 d, .int .i64 ca, .int .i64 co] → W.cell? ⟨b, 1, none⟩ = some (.slice E ne ce) ∧ W.cell? ⟨ga, 0, none⟩ = some (.int .i64 a) ∧ W.cell? ⟨ga, 1, none⟩ = some (.int .i64 d) ∧ W.cell? ⟨ga, 2, none⟩ = some (.int .i64 ca) ∧ W.cell? ⟨ga, 3, none⟩ = some (.int .i64 co)) := Lib.hid (fun W h => by
              have q1 := h.1.blk.cell 1 rfl
              simp only [HNE.out] at q1
              exact ⟨q1, h.2.cell 0 rfl, h.2.cell 1 rfl, h.2.cell 2 rfl, h.2.cell 3 rfl⟩)
            have ES7 : Hid (∀ V, NgJ w b gl cl bo E ce Af cf { left := N.sup, es := esK N k, outs := outsK N (k + 1) } V → OwnR edC 144 3 w.heap.size V E ce (esK N k)) := Lib.hid (fun V h => h.es)
            have ED7 : Hid (∀ V W g cap, NgJ w b gl cl bo E ce Af cf { left := N.sup, es := esK N k, outs := outsK N (k + 1) } V → OwnR edC 144 3 w.heap.size W (some ⟨g, 0, none⟩) cap (esK N k ++ [⟨(d : Int), ca, co⟩, ⟨(a : Int), 0, -co⟩]) → V.grownBy W (Value.slice E ne ce).ownBlock → NgJ w b gl cl bo (some ⟨g, 0, none⟩) cap Af cf (grK N (k + 1)) (W.setCell ⟨b, 1, none⟩ (.slice (some ⟨g, 0, none⟩) (ne + 2) cap))) := Lib.hid (fun V W g cap h ho hg => by
              have := h.edges HNE.out.symm ho hg
              simp only [HNE.out] at this
              rw [← HESK.out] at this
              exact this)
            generalize hes : esK N k = es at *
            have HEE := Lib.hid hes
            clear hes
            refine wp_region_spine 18 [true, false] [0] ?af7 (fun V => NgJ w b gl cl bo E ce Af cf { left := N.sup, es := es, outs := outsK N (k + 1) } V ∧ Blk V ga 46 [.int .i64 a, .int .i64 d, .int .i64 ca, .int .i64 co]) (by kernel_rfl) (by kernel_rfl) ⟨J6b.out.drew, X6b.out.drew⟩ ?walk7 ?spine7
            case walk7 =>
              intro V hV
              obtain ⟨q1, q2, q3, q4, q5⟩ := SC7.out V hV
              clear hV
              simp only [List.take_succ_cons, List.take_zero]
              repeat (go_big_quiet_step (fail))
              refine wpQuiet_nil ?_
              rfl
            case spine7 =>
              rintro V ⟨h1, h2⟩
              have JV := Lib.hid h1
              have XV := Lib.hid h2
              clear h1 h2
              refine spineV_cons ?_
              unfold StepV
              go_simp
              have al := (Below.refl V.heap.size V).alloc (Nat.le_refl _) (.cells #[.int .i64 d, .int .i64 ca, .int .i64 co, .int .i64 a, .int .i64 0, .int .i64 (-co)] 144)
              have J8 := Lib.hid (JV.out.below al)
              have X8 := Lib.hid (XV.out.below al XV.out.lt)
              have Y8 := Lib.hid (Blk.new' V #[.int .i64 d, .int .i64 ca, .int .i64 co, .int .i64 a, .int .i64 0, .int .i64 (-co)] 144)
              clear al
              generalize V.alloc (.cells #[.int .i64 d, .int .i64 ca, .int .i64 co, .int .i64 a, .int .i64 0, .int .i64 (-co)] 144) = V2 at J8 X8 Y8 ⊢
              refine ⟨⟨J8.out, X8.out⟩, ?_⟩
              generalize V.heap.size = gv at *
              refine spineV_cons ?_
              have row0 := ES7.out _ J8.out
              unfold OwnR at row0
              rw [HNE.out] at row0
              refine stepV_keep (.tmp 71) (.tmp 85) 110 rfl w.heap.size 144 i4 (.agg #[.int .i64 0, .int .i64 0, .int .i64 0]) 3 24 Try.underlying110 h4i h4z h4s h4b rfl (by decide) E ne ce (flat edC es) (by rfl) row0 ⟨gv, 0, none⟩ 2 2 [.int .i64 d, .int .i64 ca, .int .i64 co, .int .i64 a, .int .i64 0, .int .i64 (-co)] (by rfl) (by rfl) ?_ (by simp [Value.oneCell']) (by omega) (by unfold maxLen; omega) (by omega) J8.out.bel.size ?_
              · intro j u hj
                rw [add_row]
                have hl : j < 6 := by
                  rcases Nat.lt_or_ge j 6 with h | h
                  · exact h
                  · rw [List.getElem?_eq_none (by simpa using h)] at hj; cases hj
                exact Y8.out.cell j hj
              intro g7 cap7 W3 ho hg hk hold
              refine ⟨fun h => (by cases h), ?_⟩
              have J9 := Lib.hid (ED7.out V2 W3 g7 cap7 J8.out (by
                unfold OwnR
                rw [List.length_append, HNE.out, flat_append]
                exact ho) hg)
              have blk1 := J8.out.blk.grown hg (fun e => own_ne J8.out.es (ownB_iff.2 e.symm) J8.out.blk (by decide))
              have z1 := blk1.free 1
              have q1 := blk1.cell 1 rfl
              clear ho hg hk hold row0 blk1
              refine spineV_nil ?_
              go_wp2_with fail
              generalize W3.setCell ⟨b, 1, none⟩ (.slice (some ⟨g7, 0, none⟩) (ne + 2) cap7) = W7 at J9 ⊢
              go_roundg (gk - 1)
              case measure => omega
              case rel => exact ⟨k + 1, by go_num, by omega, Lib.hid ⟨_, _, _, _, J9.out⟩⟩
      · obtain rfl : k = m := by omega
        go_wp2_with fail
        have hD := JR.out.done
        rw [show grK N k = gr0 N from by unfold grK gr0; rw [HM.out]] at hD
        exact bodyPost_ret (v := .pointer (some ⟨b, 0, none⟩)) (by simp [results, Try.results62, go_sem]) rfl ⟨b, gl, cl, E, ce, bo, rfl, JR.out.bel, hD⟩
end Go.Proofs.Ytmebpglkeedaoaa
namespace Go.Proofs.Ytmebpglkeedaoaa
namespace Dp
/-- the first k edges have been looked at: arcs with a cost below 0 carry all they can -/
structure Sat (N : Net) (G : Gr) (k : Nat) : Prop where
  ok : G.Ok N.sup.length
  fit : Fits N G
  bd : ∀ v, v < N.sup.length → -(268435456 + 1048576 * k : Int) ≤ G.lf v ∧ G.lf v ≤ 268435456 + 1048576 * k
  todo : ∀ i, i < N.arcs.length → k ≤ 2 * i → G.room (2 * i + 1) = 0
  done : ∀ i, i < N.arcs.length → 2 * i < k → (G.cost (2 * i) < 0 → G.room (2 * i) = 0) ∧ (0 ≤ G.cost (2 * i) → G.room (2 * i + 1) = 0)
theorem sat_start {N : Net} {G : Gr} (h : chE N = 0) (hG : G.Ok N.sup.length) (hf : Fits N G) (h0 : ∀ i, i < N.arcs.length → G.room (2 * i + 1) = 0) : Sat N G 0 :=
  { ok := hG, fit := hf
    bd := fun v hv => by
      rw [hf.lf v hv, lv_zero _ _ (fun j hj => h0 j hj)]
      have := net_sup h v hv
      omega
    todo := fun i hi _ => h0 i hi
    done := fun i hi h => by omega }
theorem Sat.no {N : Net} {G : Gr} {k : Nat} (h : Sat N G k) (hc : ¬ (k % 2 = 0 ∧ G.cost k < 0)) : Sat N G (k + 1) :=
  { ok := h.ok, fit := h.fit
    bd := fun v hv => by have := h.bd v hv; omega
    todo := fun i hi hk => h.todo i hi (by omega)
    done := fun i hi hk => by
      by_cases e : 2 * i = k
      · refine ⟨fun hn => ?_, fun _ => h.todo i hi (by omega)⟩
        rw [e] at hn
        exact absurd ⟨by omega, hn⟩ hc
      · exact h.done i hi (by omega) }
theorem Sat.yes {N : Net} {G : Gr} {k : Nat} (h : Sat N G k) (hk : k < G.es.length) (h2 : k % 2 = 0) (hc : G.cost k < 0) : Sat N (G.push1 k (G.room k)) (k + 1) := by
  have hfine := h.ok.fine k hk
  have ha := push1_alike (x := G.room k) hk hfine.2.2
  have hr := push1_room (x := G.room k) hk hfine.2.2
  have hl := push1_lf (x := G.room k) hfine.2.1 hfine.1
  have hrk := h.ok.rm k hk
  have hrt := h.ok.rm (tw k) hfine.2.2
  rw [tw_tw] at hrt
  have hes := h.fit.es
  have hk3 : k < 4096 := by have := h.ok.le; omega
  exact
  { ok :=
    { n1 := h.ok.n1
      ll := by rw [ha.ll]; exact h.ok.ll
      lo := by rw [ha.outs]; exact h.ok.lo
      le := by rw [ha.le]; exact h.ok.le
      ev := by rw [ha.le]; exact h.ok.ev
      «to» := fun j hj => by rw [ha.to]; rw [ha.le] at hj; exact h.ok.to j hj
      ne := fun j hj => by rw [ha.toA, ha.frA]; rw [ha.le] at hj; exact h.ok.ne j hj
      co := fun j hj => by rw [ha.cost, ha.cost]; rw [ha.le] at hj; exact h.ok.co j hj
      cb := fun j hj => by rw [ha.cost]; rw [ha.le] at hj; exact h.ok.cb j hj
      rm := fun j hj => by
        rw [ha.le] at hj
        have h1 := h.ok.rm j hj
        rw [hr j, hr (tw j), tw_tw]
        by_cases a : j = k
        · subst a
          rw [if_pos rfl, if_neg (tw_ne j)]; omega
        · rw [if_neg a]
          by_cases b : tw j = k
          · have hb : G.room (tw j) = G.room k := by rw [b]
            rw [if_pos b]
            omega
          · rw [if_neg b]; omega
      lb := fun v hv => by
        have := h.bd v hv
        rw [hl v]
        split <;> split <;> omega
      o1 := fun v hv y hy => by
        rw [ha.outs] at hy
        rw [ha.le, ha.frA]
        exact h.ok.o1 v hv y hy
      o2 := fun j hj => by
        rw [ha.le] at hj
        rw [ha.outs, ha.frA]
        exact h.ok.o2 j hj
      o3 := fun v hv => by rw [ha.outs]; exact h.ok.o3 v hv }
    fit := h.fit.push1 h.ok.fine (G.room k) hk
    bd := fun v hv => by
      have := h.bd v hv
      rw [hl v]
      split <;> split <;> omega
    todo := fun i hi hki => by
      have e1 : ¬ 2 * i + 1 = k := by omega
      rw [hr, tw_odd, if_neg e1, if_neg (by omega)]
      have := h.todo i hi (by omega)
      omega
    done := fun i hi hki => by
      rw [ha.cost, hr, hr, tw_even, tw_odd]
      by_cases e : 2 * i = k
      · have e1 : ¬ 2 * i + 1 = k := by omega
        rw [if_pos e, if_neg e1, e]
        exact ⟨fun _ => by omega, fun hp => by omega⟩
      · have e1 : ¬ 2 * i + 1 = k := by omega
        rw [if_neg e, if_neg e1]
        have := h.done i hi (by omega)
        exact ⟨fun hp => by have := this.1 hp; omega, fun hp => by have := this.2 hp; omega⟩ }
theorem Sat.pot {N : Net} {G : Gr} (h : Sat N G G.es.length) : PotD G N.sup.length (List.replicate N.sup.length 0) 0 := by
  have hz : ∀ v, (List.replicate N.sup.length (0 : Int)).getD v 0 = 0 := fun v => by
    simp only [List.getD_eq_getElem?_getD, List.getElem?_replicate]
    split <;> rfl
  have hes := h.fit.es
  have hn := h.ok.n1
  exact
  { len := by simp
    lo := fun v _ => by rw [hz v]; omega
    d := by omega
    need := fun v _ _ => hz v
    rc := fun k hk hro => by
      unfold Gr.rc
      rw [hz, hz]
      rcases (show k = 2 * (k / 2) ∨ k = 2 * (k / 2) + 1 by omega) with e | e
      · generalize k / 2 = i at *
        subst e
        have := (h.done i (by omega) (by omega)).1
        omega
      · generalize k / 2 = i at *
        subst e
        have := (h.done i (by omega) (by omega)).2
        have h2 := h.fit.c0 i (by omega)
        omega
    src := fun v _ _ => hz v }
theorem rest_push {G : Gr} {n : Nat} {vi : List Int} {ks : List Nat} {s t : Nat} {x : Int} (h : Sent G n vi ks s t x) (hG : G.Ok n) : restV (G.pushL ks x).left = restV G.left - x := by
  have h1 := h.ok hG
  have ha := pushL_alike (x := x) h1.1
  have hl := pushL_lf (x := x) h.way hG.fine
  rw [rest_dot, rest_dot, ha.ll, hG.ll]
  have e : dotN (fun _ => 1) (fun v => max 0 ((G.pushL ks x).left.getD v 0)) n = dotN (fun _ => 1) (fun v => max 0 (G.left.getD v 0) - (if v = s then x else 0)) n := dot_congr n (fun v hv => by
    have := hl v
    unfold Gr.lf at this
    rw [this]
    have h2 := h.xs
    have h3 := h.xt
    have h4 := h.x0
    unfold Gr.lf at h2 h3
    by_cases e1 : v = s
    · subst e1
      by_cases e2 : v = t
      · subst e2; omega
      · rw [if_pos rfl, if_neg e2]; omega
    · rw [if_neg e1]
      by_cases e2 : v = t
      · subst e2; rw [if_pos rfl]; omega
      · rw [if_neg e2]; omega)
  rw [e, dot_sub, dot_at, if_pos h.sn]
  omega
/-- the potentials, k of them anew -/
def potI (n : Nat) (p fa : List Int) (d : Int) (k : Nat) : List Int := (List.range n).map fun v => if v < k then p.getD v 0 + min (fa.getD v 0) d else p.getD v 0
theorem potI_len (n : Nat) (p fa : List Int) (d : Int) (k : Nat) : (potI n p fa d k).length = n := by simp [potI]
theorem potI_get {n : Nat} {p fa : List Int} {d : Int} {k v : Nat} (hv : v < n) : (potI n p fa d k).getD v 0 = if v < k then p.getD v 0 + min (fa.getD v 0) d else p.getD v 0 := by
  simp [potI, List.getD_eq_getElem?_getD, hv]
theorem potI_zero {n : Nat} {p : List Int} (hp : p.length = n) (fa : List Int) (d : Int) : p = potI n p fa d 0 := by
  refine list_eq (by rw [potI_len, hp]) (fun v hv => ?_)
  rw [potI_len] at hv
  rw [potI_get hv, if_neg (Nat.not_lt_zero _)]
theorem potI_end (n : Nat) (p fa : List Int) (d : Int) : potI n p fa d n = potN n p fa d := by
  refine list_eq (by simp [potI, potN]) (fun v hv => ?_)
  have hv' : v < n := by simpa [potN] using hv
  rw [potI_get hv', potN_get hv', if_pos hv']
theorem potI_succ {n : Nat} {p fa : List Int} {d : Int} {k : Nat} (hk : k < n) : (potI n p fa d k).set k (p.getD k 0 + min (fa.getD k 0) d) = potI n p fa d (k + 1) := by
  refine list_eq (by simp [potI_len]) (fun v hv => ?_)
  rw [potI_len] at hv
  rw [getD_setI _ _ _ _ (by rw [potI_len]; exact hk), potI_get hv, potI_get hv]
  by_cases e : v = k
  · subst e; rw [if_pos rfl, if_pos (Nat.lt_succ_self v)]
  · rw [if_neg e]
    by_cases h : v < k
    · rw [if_pos h, if_pos (show v < k + 1 by omega)]
    · rw [if_neg h, if_neg (show ¬ v < k + 1 by omega)]
end Dp
end Go.Proofs.Ytmebpglkeedaoaa
namespace Go.Proofs.Ytmebpglkeedaoaa
open Go.RowKit Dp
set_option linter.unusedVariables false

theorem mv_at (l : List Int) (i : Nat) (d v : Int) (h : v = l.getD i 0 + d) : mv l (i : Int) d = l.set i v := by subst h; simp [mv]
theorem push1_eq {G : Gr} {n k : Nat} {x a d : Int} (hG : G.Ok n) (hk : k < G.es.length) (ha : a = G.lf (G.frA k) - x) (hd : d = G.lf (G.toA k) + x) :
    ({ left := (G.left.set (G.frA k) a).set (G.toA k) d, es := pushE G.es k x, outs := G.outs } : Gr) = G.push1 k x := by
  unfold Gr.push1
  rw [mv_at G.left (G.frA k) (-x) a (by rw [ha]; unfold Gr.lf; omega), mv_at _ (G.toA k) x d (by
    rw [getD_setI _ _ _ _ (by rw [hG.ll]; exact hG.frL hk), if_neg (hG.ne k hk), hd]; rfl)]

theorem OutsAt.more {w : World} {bo : Nat} {outs : List (List Int)} {S S' : Nat → Prop} (h : OutsAt w bo outs S) (hs : ∀ k, k < w.heap.size → ¬ S k → ¬ S' k) : OutsAt w bo outs S' := fun i hi => by
  obtain ⟨A, c, h1, h2, h3, h4, h5⟩ := h i hi
  exact ⟨A, c, h1, h2, h3, h4, fun k hk => ⟨(h5 k hk).1, hs k (h5 k hk).1 (h5 k hk).2⟩⟩
/-- a block apart from the graph's is written -/
theorem GrAt.far {w : World} {B b gl cl ce bo gp : Nat} {E : Option Addr} {G : Gr} (h : GrAt w B b gl cl E ce bo G) (ho : OutsAt w bo G.outs (fun k => k = b ∨ k = gl ∨ OwnB E k ∨ k = gp)) {p : Addr} (hp : p.block = gp) (h1 : b ≠ gp) (h2 : gl ≠ gp) (h3 : ¬ OwnB E gp) (h4 : bo ≠ gp) (u : Value) :
    GrAt (w.setCell p u) B b gl cl E ce bo G ∧ OutsAt (w.setCell p u) bo G.outs (fun k => k = b ∨ k = gl ∨ OwnB E k ∨ k = gp) := by
  have ho2 := ho.touch (T := fun k => k = gp) h.bo.1 h4 (fun k e => .inr (.inr (.inr e))) ((Touch.refl (fun k => k = gp) w).setCell (p := p) (.inl hp) u)
  refine ⟨{ blk := h.blk.setCell_ne (by rw [hp]; exact h1) _, left := ownSet h.left (fun e => by have := ownB_some.1 e; rw [hp] at this; exact h2 this.symm) _, es := h.es.set_ne (by rw [hp]; exact h3) _, outs := ho2.more (fun k _ hn hs => hn (by rcases hs with a | a | a; exact .inl a; exact .inr (.inl a); exact .inr (.inr (.inl a)))), bo := ⟨by simp [World.setCell]; exact h.bo.1, h.bo.2⟩, ne := h.ne, base := h.base }, ho2⟩

set_option maxHeartbeats 2000000 in
set_option maxRecDepth 100000 in
theorem least_c (b gl cl ce bo B n : Nat) (E : Option Addr) (G : Gr) (N : Net) (w : World) (hn : N.sup.length = n) (hch : chE N = 0) (hG : G.Ok n) (hf : Fits N G) (h0 : ∀ i, i < N.arcs.length → G.room (2 * i + 1) = 0) (hg : GrAt w B b gl cl E ce bo G) :
    Calls Try.prog 63 #[.pointer (some ⟨b, 0, none⟩)] w fun e w' => ∃ (gp : Nat) (G' : Gr) (p fa vi : List Int) (D : Int), e = .returned (.slice (some ⟨gp, 0, none⟩) n n) ∧ Fl 2 w' gp p ∧ GrAt w' B b gl cl E ce bo G' ∧ G'.Ok n ∧ Fits N G' ∧ PotD G' n p D ∧ NR G' n p fa vi (-1) ∧ Touch (fun k => k = gl ∨ OwnB E k) w w' ∧ w.heap.size ≤ gp := by
  have HN := Lib.hid hn
  have HCH := Lib.hid hch
  have S0 : Hid (Sat N G 0) := Lib.hid (sat_start hch (by rw [hn]; exact hG) hf h0)
  have HA := Lib.hid hg
  have n1 := hG.n1.1
  have n2 := hG.n1.2
  have hle := hG.le
  have c1 := hg.blk.cell 1 rfl
  have gll := hg.left.lt.2
  have EBL := Lib.hid (fun k (h : OwnB E k) => (ownLt hg.es h).1)
  clear hn hch h0 hf hg
  generalize hml : G.es.length = ml at *
  have HML := Lib.hid hml
  clear hml
  go_enter Try.func63, Try.ntmps63
  go_wp2_with fail
  go_loopg [15] ml (fun q iv wr => ∃ k : Nat, iv = .int .i64 k ∧ k + q = ml ∧ Hid (∃ G1, Dp.Alike G G1 ∧ Sat N G1 k ∧ GrAt wr B b gl cl E ce bo G1 ∧ Touch (fun k => k = gl ∨ OwnB E k) w wr))
  case atStart => exact ⟨0, rfl, by omega, Lib.hid ⟨G, Alike.refl G, S0.out, HA.out, Touch.refl _ _⟩⟩
  case round =>
    obtain ⟨k, rfl, hkq, HJ⟩ := hrel
    obtain ⟨G1, q1, q2, q3, q4⟩ := HJ.out
    have AL := Lib.hid q1
    have SA := Lib.hid q2
    have GA := Lib.hid q3
    have TA := Lib.hid q4
    clear HJ q1 q2 q3 q4 c1
    by_cases hlt : k < ml
    · have hki : (k : Int) < (ml : Int) := by omega
      obtain ⟨ge, rfl, gel, e0, e1, e2⟩ := GA.out.edge k (by rw [AL.out.le, HML.out]; exact hlt)
      have HTO : Hid (G1.toA k = (G1.es.getD k default).to.toNat) := Lib.hid rfl
      have HRM : Hid (G1.room k = (G1.es.getD k default).room) := Lib.hid rfl
      have HCO : Hid (G1.cost k = (G1.es.getD k default).cost) := Lib.hid rfl
      have hto := SA.out.ok.to k (by rw [AL.out.le, HML.out]; exact hlt)
      generalize G1.es.getD k default = ed at *
      obtain ⟨t0, ro, co⟩ := ed
      simp only at e0 e1 e2 hto HTO HRM HCO
      obtain ⟨v, rfl⟩ : ∃ v : Nat, t0 = (v : Int) := ⟨t0.toNat, by omega⟩
      simp only [Int.toNat_natCast] at HTO
      by_cases hpar : k % 2 = 0
      · have hp1 : (k : Int) % 2 = 0 := by omega
        by_cases hco : co < 0
        · have d1 : decide (co < 0) = true := decide_eq_true hco
          -- the arc carries all it can
          have SY := Lib.hid (SA.out.yes (by rw [AL.out.le, HML.out]; exact hlt) hpar (by rw [HCO.out]; exact hco))
          have hkl : k < G1.es.length := by rw [AL.out.le, HML.out]; exact hlt
          have PE := Lib.hid (fun x a d => push1_eq (x := x) (a := a) (d := d) SA.out.ok hkl)
          have AY := Lib.hid (AL.out.trans (push1_alike (x := G1.room k) hkl (SA.out.ok.tl hkl)))
          have htl := SA.out.ok.tl hkl
          have hne : G1.toA k ≠ G1.frA k := SA.out.ok.ne k hkl
          have hfn := SA.out.ok.frL hkl
          have hvn := SA.out.ok.toL hkl
          have hbf := SA.out.bd _ hfn
          have hbv := SA.out.bd _ hvn
          have hrm := SA.out.ok.rm k hkl
          have hrt := SA.out.ok.rm (tw k) htl
          rw [tw_tw] at hrt
          have LL1 : Hid (G1.left.length = n) := Lib.hid (by rw [SA.out.ok.ll, HN.out])
          have hp2 : tw k = k + 1 := by unfold tw; rw [if_pos hpar]
          obtain ⟨ge', hge, _, f0, _, _⟩ := GA.out.edge (tw k) htl
          cases hge
          rw [ok_to SA.out.ok htl] at f0
          have HFR : Hid (G1.frA k = G1.toA (tw k)) := Lib.hid rfl
          rw [← HFR.out, hp2] at f0
          rw [AL.out.le, HML.out, hp2] at htl
          rw [hp2] at hrm hrt
          rw [HTO.out] at hne hvn hbv PE
          rw [HRM.out] at hrm hrt SY AY
          rw [HN.out] at hfn hvn
          generalize hfrg : G1.frA k = fr at *
          have HFG := Lib.hid hfrg
          have HLF : Hid (G1.lf fr = G1.left.getD fr 0 ∧ G1.lf v = G1.left.getD v 0) := Lib.hid ⟨rfl, rfl⟩
          rw [HLF.out.1, HLF.out.2] at PE
          rw [HLF.out.1] at hbf
          rw [HLF.out.2] at hbv
          clear hfrg
          have hk1 : k + 1 < ml := htl
          have hk1i : (k : Int) + 1 < (ml : Int) := by omega
          have hk2 : k < 4096 := by omega
          have CW : Hid (∀ W, GrAt W B b gl cl (some ⟨ge, 0, none⟩) ce bo G1 → W.cell? ⟨b, 0, none⟩ = some (.slice (some ⟨gl, 0, none⟩) n cl) ∧ W.cell? ⟨b, 1, none⟩ = some (.slice (some ⟨ge, 0, none⟩) ml ce) ∧ W.cell? ⟨ge, (k + 1) * 3, none⟩ = some (.int .i64 fr) ∧ W.cell? ⟨gl, fr, none⟩ = some (.int .i64 (G1.left.getD fr 0))) := Lib.hid (fun W h => by
            have q0 := h.blk.cell 0 rfl
            have q1 := h.blk.cell 1 rfl
            rw [LL1.out] at q0
            rw [AL.out.le, HML.out] at q1
            obtain ⟨ge', hge, _, g0, _, _⟩ := h.edge (k + 1) (by rw [AL.out.le, HML.out]; exact hk1)
            cases hge
            rw [← hp2, ok_to SA.out.ok (by rw [hp2, AL.out.le, HML.out]; exact hk1), ← HFR.out, hp2] at g0
            exact ⟨q0, q1, g0, h.left.cell fr (by rw [LL1.out]; exact hfn)⟩)
          have LV : Hid (∀ x, (G1.left.set fr x).getD v 0 = G1.left.getD v 0) := Lib.hid (fun x => by rw [getD_setI _ _ _ _ (by rw [LL1.out]; exact hfn), if_neg hne])
          go_upto_region 5 with fail
          have al := (Below.refl wr.heap.size wr).alloc (Nat.le_refl _) (.cells #[.int .i64 v, .int .i64 ro, .int .i64 co] 144)
          have G2 := Lib.hid (GA.out.below al)
          have T2 := Lib.hid (TA.out.below al)
          have X2 := Lib.hid (Blk.new' wr #[.int .i64 v, .int .i64 ro, .int .i64 co] 144)
          clear al f0 e0 e1 e2
          have hgx : wr.heap.size ≠ gl := by have := GA.out.left.lt.2; omega
          generalize wr.alloc (.cells #[.int .i64 v, .int .i64 ro, .int .i64 co] 144) = w2 at G2 T2 X2 ⊢
          generalize wr.heap.size = gx at *
          have hfi : (fr : Int) < (n : Int) := by omega
          have hvi : (v : Int) < (n : Int) := by omega
          generalize hlfr : G1.left.getD fr 0 = lfr at *
          generalize hlv : G1.left.getD v 0 = lv0 at *
          have HL1 := Lib.hid hlfr
          have HL2 := Lib.hid hlv
          clear hlfr hlv
          refine wp_region_spine 19 [false] [] ?af5 (fun V => GrAt V B b gl cl (some ⟨ge, 0, none⟩) ce bo G1 ∧ Touch (fun k => k = gl ∨ OwnB (some ⟨ge, 0, none⟩) k) w V ∧ Blk V gx 144 [.int .i64 v, .int .i64 ro, .int .i64 co]) (by kernel_rfl) (by kernel_rfl) ⟨G2.out.below (Below.refl _ _).drew, T2.out.drew, X2.out.drew⟩ ?walk5 ?spine5
          case walk5 =>
            rintro V ⟨h1, _, h3⟩
            obtain ⟨q0, q1, q2, q3⟩ := CW.out V h1
            have x1 := h3.cell 1 rfl
            clear h1 h3
            simp only [List.take_succ_cons, List.take_zero]
            repeat (go_big_quiet_step (fail))
            refine wpQuiet_nil ?_
            rfl
          case spine5 =>
            rintro V ⟨h1, h2, h3⟩
            obtain ⟨q0, q1, q2, q3⟩ := CW.out V h1
            have z0 := h1.left.free fr
            have G3 := Lib.hid (h1.putL fr (lfr - ro))
            have T3 := Lib.hid (h2.setCell (p := ⟨gl, fr, none⟩) (.inl (.inl rfl)) (.int .i64 (lfr - ro)))
            have X3 := Lib.hid (h3.setCell_ne (p := ⟨gl, fr, none⟩) hgx (.int .i64 (lfr - ro)))
            clear h1 h2 h3
            refine spineV_cons ?_
            unfold StepV
            go_simp
            generalize V.setCell ⟨gl, fr, none⟩ (.int .i64 (lfr - ro)) = V1 at G3 T3 X3 ⊢
            clear q0 q1 q2 q3 z0
            refine spineV_nil ?_
            go_upto_region 6 with fail
            have CV : Hid (∀ W, GrAt W B b gl cl (some ⟨ge, 0, none⟩) ce bo { G1 with left := G1.left.set fr (lfr - ro) } → W.cell? ⟨b, 0, none⟩ = some (.slice (some ⟨gl, 0, none⟩) n cl) ∧ W.cell? ⟨gl, v, none⟩ = some (.int .i64 lv0)) := Lib.hid (fun W h => by
              have q0 := h.blk.cell 0 rfl
              have q1 := h.left.cell v (by show v < (G1.left.set fr (lfr - ro)).length; rw [List.length_set, LL1.out]; exact hvn)
              simp only [List.length_set, LL1.out] at q0
              simp only [LV.out] at q1
              exact ⟨q0, q1⟩)
            refine wp_region_spine 12 [false] [] ?af6 (fun V => GrAt V B b gl cl (some ⟨ge, 0, none⟩) ce bo { G1 with left := G1.left.set fr (lfr - ro) } ∧ Touch (fun k => k = gl ∨ OwnB (some ⟨ge, 0, none⟩) k) w V ∧ Blk V gx 144 [.int .i64 v, .int .i64 ro, .int .i64 co]) (by kernel_rfl) (by kernel_rfl) ⟨G3.out.below (Below.refl _ _).drew, T3.out.drew, X3.out.drew⟩ ?walk6 ?spine6
            case walk6 =>
              rintro V ⟨h1, _, h3⟩
              obtain ⟨q0, q1⟩ := CV.out V h1
              have x0 := h3.cell 0 rfl
              have x1 := h3.cell 1 rfl
              clear h1 h3
              simp only [List.take_succ_cons, List.take_zero]
              repeat (go_big_quiet_step (fail))
              refine wpQuiet_nil ?_
              rfl
            case spine6 =>
              rintro V ⟨h1, h2, h3⟩
              obtain ⟨q0, q1⟩ := CV.out V h1
              have z0 := h1.left.free v
              have G4 := Lib.hid (h1.putL v (lv0 + ro))
              have T4 := Lib.hid (h2.setCell (p := ⟨gl, v, none⟩) (.inl (.inl rfl)) (.int .i64 (lv0 + ro)))
              have X4 := Lib.hid (h3.setCell_ne (p := ⟨gl, v, none⟩) hgx (.int .i64 (lv0 + ro)))
              clear h1 h2 h3
              refine spineV_cons ?_
              unfold StepV
              go_simp
              generalize V.setCell ⟨gl, v, none⟩ (.int .i64 (lv0 + ro)) = V2 at G4 T4 X4 ⊢
              clear q0 q1 z0
              refine spineV_nil ?_
              have x1 := X4.out.cell 1 rfl
              go_wp2_with fail
              have PU := push_c b gl cl ce bo B (some ⟨ge, 0, none⟩) { left := (G1.left.set fr (lfr - ro)).set v (lv0 + ro), es := G1.es, outs := G1.outs } k ro V2 (by show k < G1.es.length; rw [AL.out.le, HML.out]; exact hlt) (by show tw k < G1.es.length; rw [hp2, AL.out.le, HML.out]; exact hk1) (by show G1.es.length ≤ 4096; rw [AL.out.le, HML.out]; exact hle)
                (by show -8589934592 ≤ G1.room k ∧ G1.room k ≤ 8589934592; rw [HRM.out]; omega) (by show -8589934592 ≤ G1.room (tw k) ∧ G1.room (tw k) ≤ 8589934592; rw [hp2]; omega) (by omega) G4.out
              refine PU.mono ?_
              rintro e V3 ⟨rfl, g5, t5⟩
              have G5 : GrAt V3 B b gl cl (some ⟨ge, 0, none⟩) ce bo (G1.push1 k ro) := by
                have e := PE.out ro (lfr - ro) (lv0 + ro) rfl rfl
                rw [← e]
                exact g5
              have G5 := Lib.hid G5
              have T5 := Lib.hid (T4.out.trans (t5.mono (fun q hq => .inr hq)))
              clear g5 t5 PU x1
              go_wp2_with fail
              go_roundg (gk - 1)
              case measure => omega
              case rel => exact ⟨k + 1, by go_num, by omega, Lib.hid ⟨_, AY.out, SY.out, G5.out, T5.out⟩⟩
        · have d1 : decide (co < 0) = false := decide_eq_false hco
          have SN := Lib.hid (SA.out.no (fun h => hco (by have := h.2; rw [HCO.out] at this; exact this)))
          have al := (Below.refl wr.heap.size wr).alloc (Nat.le_refl _) (.cells #[.int .i64 v, .int .i64 ro, .int .i64 co] 144)
          have G2 := Lib.hid (GA.out.below al)
          have T2 := Lib.hid (TA.out.below al)
          clear al
          go_wp2_with fail
          go_roundg (gk - 1)
          case measure => omega
          case rel => exact ⟨k + 1, by go_num, by omega, Lib.hid ⟨G1, AL.out, SN.out, G2.out, T2.out⟩⟩
      · have hp1 : (k : Int) % 2 = 1 := by omega
        have SN := Lib.hid (SA.out.no (fun h => hpar h.1))
        have al := (Below.refl wr.heap.size wr).alloc (Nat.le_refl _) (.cells #[.int .i64 v, .int .i64 ro, .int .i64 co] 144)
        have G2 := Lib.hid (GA.out.below al)
        have T2 := Lib.hid (TA.out.below al)
        clear al
        go_wp2_with fail
        go_roundg (gk - 1)
        case measure => omega
        case rel => exact ⟨k + 1, by go_num, by omega, Lib.hid ⟨G1, AL.out, SN.out, G2.out, T2.out⟩⟩
    · obtain rfl : ml = k := by omega
      have SP : Hid (PotD G1 n (List.replicate n 0) 0) := Lib.hid (by
        have h := SA.out
        have e : G1.es.length = ml := by rw [AL.out.le, HML.out]
        rw [← e] at h
        have h2 := h.pot
        rw [HN.out] at h2
        exact h2)
      have OK1 : Hid (G1.Ok n) := Lib.hid (by have := SA.out.ok; rw [HN.out] at this; exact this)
      have FT1 := Lib.hid SA.out.fit
      have hm1 := make_64 n (by omega)
      have c2 := GA.out.blk.cell 2 rfl
      rw [OK1.out.lo] at c2
      clear SA S0
      have F0 := Lib.hid (fl_new 2 n wr)
      have al := (Below.refl wr.heap.size wr).alloc (Nat.le_refl _) (.cells (Array.replicate n (.int .i64 0)) 2)
      have G2 := Lib.hid (GA.out.below al)
      have T2 := Lib.hid (TA.out.below al)
      have hgp : w.heap.size ≤ wr.heap.size := TA.out.size
      have hgl : gl < wr.heap.size := GA.out.left.lt.2
      have EB2 := Lib.hid (fun k (h : OwnB E k) => (ownLt GA.out.es h).1)
      have HO1 := Lib.hid (GA.out.outs.more (S' := fun k => k = b ∨ k = gl ∨ OwnB E k ∨ k = wr.heap.size) (fun k hk hn hs => by
        rcases hs with a | a | a | a
        · exact hn (.inl a)
        · exact hn (.inr (.inl a))
        · exact hn (.inr (.inr a))
        · omega))
      have HO2 := Lib.hid (HO1.out.below GA.out.bo.1 al)
      have hbgp : b ≠ wr.heap.size := by have := GA.out.blk.lt; omega
      have hglp : gl ≠ wr.heap.size := by omega
      have hbop : bo ≠ wr.heap.size := by have := GA.out.bo.1; omega
      have hegp : ¬ OwnB E wr.heap.size := fun h => by have := EB2.out _ h; omega
      clear al HO1
      go_wp2_with fail
      generalize wr.alloc (.cells (Array.replicate n (.int .i64 0)) 2) = w2 at F0 G2 T2 HO2 ⊢
      generalize wr.heap.size = gp at *
      clear c2 GA TA
      go_loopg [8] (restV G1.left).toNat (fun q ev wr => Hid (∃ G2 p D, Dp.Alike G G2 ∧ G2.Ok n ∧ Fits N G2 ∧ GrAt wr B b gl cl E ce bo G2 ∧ Fl 2 wr gp p ∧ PotD G2 n p D ∧ (restV G2.left).toNat = q ∧ Touch (fun k => k = gl ∨ OwnB E k) w wr ∧ OutsAt wr bo G2.outs (fun k => k = b ∨ k = gl ∨ OwnB E k ∨ k = gp)))
      case atStart => exact Lib.hid ⟨G1, _, 0, AL.out, OK1.out, FT1.out, G2.out, F0.out, SP.out, rfl, T2.out, HO2.out⟩
      case round =>
        clear AL OK1 FT1 G2 F0 SP T2
        obtain ⟨G2, p, D, q1, q2, q3, q4, q5, q6, q7, q8, q9⟩ := hrel.out
        have AL := Lib.hid q1
        have OK := Lib.hid q2
        have FT := Lib.hid q3
        have GA := Lib.hid q4
        have FP := Lib.hid q5
        have PD := Lib.hid q6
        have HR := Lib.hid q7
        have TA := Lib.hid q8
        have PL := Lib.hid q6.len
        have HO := Lib.hid q9
        clear hrel q1 q2 q3 q4 q5 q6 q7 q8 q9 HO2
        go_wp2_with fail
        refine (nearest_c b gl cl ce bo B n n E (some ⟨gp, 0, none⟩) G2 p wr OK.out (PD.out.pot n2) GA.out FP.out.ints ⟨Nat.le_refl _, by omega⟩).mono ?_
        rintro e w3 ⟨gf, gb, fa, vi, en, rfl, hb3, hf3, hv3, z1, z2, nr⟩
        have G3 := Lib.hid (GA.out.below hb3)
        have T3 := Lib.hid (TA.out.below hb3)
        have P3 := Lib.hid (FP.out.below hb3)
        have F3 := Lib.hid hf3
        have V3 := Lib.hid hv3
        have O3 := Lib.hid (HO.out.below GA.out.bo.1 hb3)
        have NRR := Lib.hid nr
        have hpf : gp ≠ gf := by have := FP.out.lt; omega
        have hpb : gb ≠ gl ∧ ¬ OwnB E gb := by
          have h1 := GA.out.left.lt.2
          refine ⟨by omega, fun h => ?_⟩
          have := (ownLt GA.out.es h).1
          omega
        clear hb3 hf3 hv3 nr
        by_cases hen : en < 0
        · have hem : en = -1 := by
            rcases NRR.out.fin with ⟨e, _⟩ | ⟨t, e, _⟩
            · exact e
            · omega
          subst hem
          go_wp2_with fail
          exact bodyPost_ret (v := .slice (some ⟨gp, 0, none⟩) n n) (by simp [results, Try.results63, go_sem]) rfl ⟨gp, G2, p, fa, vi, D, rfl, P3.out, G3.out, OK.out, FT.out, PD.out, NRR.out, T3.out, hgp⟩
        · obtain ⟨t, rfl⟩ : ∃ t : Nat, en = t := ⟨en.toNat, by omega⟩
          have TF : Hid (t < n ∧ G2.lf t < 0 ∧ fa.getD t 0 < never ∧ ∀ v, v < n → G2.lf v < 0 → fa.getD t 0 ≤ fa.getD v 0) := Lib.hid (by
            rcases NRR.out.fin with ⟨e, _⟩ | ⟨t', e, h1, h2, h3, h4⟩
            · omega
            · obtain rfl : t' = t := by omega
              exact ⟨h1, h2, h3, h4⟩)
          have htn : t < n := TF.out.1
          have hti : (t : Int) < (n : Int) := by omega
          have ftb := NRR.out.top t htn
          have P0 : Hid (Fl 2 w3 gp (potI n p fa (fa.getD t 0) 0)) := Lib.hid (by rw [← potI_zero PL.out fa (fa.getD t 0)]; exact P3.out)
          have PG := Lib.hid (fun k v (hv : v < n) => potI_get (p := p) (fa := fa) (d := fa.getD t 0) (k := k) hv)
          have PS := Lib.hid (fun k (hk : k < n) => potI_succ (p := p) (fa := fa) (d := fa.getD t 0) hk)
          have PEN := Lib.hid (potI_end n p fa (fa.getD t 0))
          have PLN := Lib.hid (potI_len n p fa (fa.getD t 0))
          have FTC : Hid (∀ W, Fl 2 W gf fa → W.cell? ⟨gf, t, none⟩ = some (.int .i64 (fa.getD t 0))) := Lib.hid (fun W h => h.cell t (by rw [NRR.out.l1]; exact htn))
          have RP := Lib.hid (fun x ks s (h1 : Sent G2 n vi ks s t x) h2 => round_pot OK.out PD.out NRR.out h1 h2)
          generalize hft : fa.getD t 0 = ft at *
          have HFT := Lib.hid hft
          clear hft P3
          unfold never at ftb
          go_wp2_with fail
          go_loopw [83] (fun iv wr => ∃ k : Nat, iv = .int .i64 k ∧ k ≤ n ∧ Hid (Fl 2 wr gp (potI n p fa ft k) ∧ Fl 2 wr gf fa ∧ Fl 3 wr gb vi ∧ GrAt wr B b gl cl E ce bo G2 ∧ Touch (fun k => k = gl ∨ OwnB E k) w wr ∧ OutsAt wr bo G2.outs (fun k => k = b ∨ k = gl ∨ OwnB E k ∨ k = gp))) (fun iv _ => n - (intOf iv).toNat)
          case atStart => exact ⟨0, rfl, Nat.zero_le _, Lib.hid ⟨P0.out, F3.out, V3.out, G3.out, T3.out, O3.out⟩⟩
          case round =>
            clear P0 F3 V3 G3 T3 O3
            obtain ⟨k, rfl, hk, HJ⟩ := hrel
            by_cases hlt : k < n
            · have hki : (k : Int) < (n : Int) := by omega
              have pb := PD.out.lo k hlt
              have pd := PD.out.d
              have fkb := NRR.out.top k hlt
              unfold never at fkb
              have PCK : Hid (∀ W, Fl 2 W gp (potI n p fa ft k) → W.cell? ⟨gp, k, none⟩ = some (.int .i64 (p.getD k 0))) := Lib.hid (fun W h => by
                have := h.cell k (by rw [PLN.out]; exact hlt)
                rw [PG.out k k hlt, if_neg (Nat.lt_irrefl k)] at this
                exact this)
              have FKC : Hid (∀ W, Fl 2 W gf fa → W.cell? ⟨gf, k, none⟩ = some (.int .i64 (fa.getD k 0))) := Lib.hid (fun W h => h.cell k (by rw [NRR.out.l1]; exact hlt))
              have PSK := Lib.hid (PS.out k hlt)
              generalize p.getD k 0 = pk at *
              generalize fa.getD k 0 = fk at *
              have hmn := fun ts t W => min_i64 fk ft ts t W
              generalize hy : min fk ft = y at *
              have hy1 : 0 ≤ y ∧ y ≤ 1152921504606846976 := by omega
              have s1 : IntKind.i64.wrap (pk + y) = pk + y := IntWalk.i64_in _ (by omega)
              clear hy
              go_upto_region 16 with fail
              refine wp_region_spine 15 [false] [] ?af16 (fun V => Fl 2 V gp (potI n p fa ft k) ∧ Fl 2 V gf fa ∧ Fl 3 V gb vi ∧ GrAt V B b gl cl E ce bo G2 ∧ Touch (fun k => k = gl ∨ OwnB E k) w V ∧ OutsAt V bo G2.outs (fun k => k = b ∨ k = gl ∨ OwnB E k ∨ k = gp)) (by kernel_rfl) (by kernel_rfl) ⟨Blk.drew HJ.out.1, Blk.drew HJ.out.2.1, Blk.drew HJ.out.2.2.1, HJ.out.2.2.2.1.below (Below.refl _ _).drew, HJ.out.2.2.2.2.1.drew, HJ.out.2.2.2.2.2.below HJ.out.2.2.2.1.bo.1 (Below.refl _ _).drew⟩ ?walk16 ?spine16
              case walk16 =>
                rintro V ⟨h1, h2, _, _, _, _⟩
                have q0 := PCK.out V h1
                have q1 := FKC.out V h2
                have q2 := FTC.out V h2
                clear h1 h2
                simp only [List.take_succ_cons, List.take_zero]
                repeat (go_big_quiet_step (fail))
                refine wpQuiet_nil ?_
                rfl
              case spine16 =>
                rintro V ⟨h1, h2, h3, h4, h5, h6⟩
                have q0 := PCK.out V h1
                have z0 := h1.free k
                have H1 := h1.put k (pk + y)
                rw [PSK.out] at H1
                have H1 := Lib.hid H1
                have H2 := Lib.hid (h2.set_ne (p := ⟨gp, k, none⟩) (fun e => hpf e.symm) (.int .i64 (pk + y)))
                have H3 := Lib.hid (h3.set_ne (p := ⟨gp, k, none⟩) (fun e => by simp only at e; subst e; exact (h1.ne h3 (by decide)) rfl) (.int .i64 (pk + y)))
                have H5 := Lib.hid (h5.setCell (p := ⟨gp, k, none⟩) (.inr hgp) (.int .i64 (pk + y)))
                have H4 := Lib.hid (h4.far h6 (p := ⟨gp, k, none⟩) rfl hbgp hglp hegp hbop (.int .i64 (pk + y)))
                clear h1 h2 h3 h4 h5 h6
                refine spineV_cons ?_
                unfold StepV
                go_simp
                generalize V.setCell ⟨gp, k, none⟩ (.int .i64 (pk + y)) = V1 at H1 H2 H3 H4 H5 ⊢
                clear q0 z0
                refine spineV_nil ?_
                go_wp2_with fail
                go_roundw
                case rel => exact ⟨k + 1, by go_num, by omega, Lib.hid ⟨H1.out, H2.out, H3.out, H4.out.1, H5.out, H4.out.2⟩⟩
                case measure => simp [intOf]; omega
            · obtain rfl : n = k := by omega
              obtain ⟨h1, h2, h3, h4, h5, h6⟩ := HJ.out
              rw [PEN.out] at h1
              have H1 := Lib.hid h1
              have H4 := Lib.hid h4
              have H5 := Lib.hid h5
              have H6 := Lib.hid h6
              have HV := Lib.hid h3.ints
              obtain ⟨S, s1, s2, s3, s4⟩ := NRR.out.ch
              obtain ⟨ks, s, w1, w2', w3', w4, w5⟩ := chn_way s1 s4 t ((s2 t htn).2 (by rw [HFT.out]; exact TF.out.2.2.1))
              have hsn : s < n := s3 s (w5 s (w1.last))
              have SE := Lib.hid (send_c b gl cl ce bo B n n s t E (some ⟨gb, 0, none⟩) G2 vi ks wr OK.out w1 w4 hsn htn w2' TF.out.2.1 (fun j hj => (w3' j hj).1) NRR.out.l2 ⟨Nat.le_refl _, by omega⟩ H4.out HV.out (fun q hq => by rw [ownB_some.1 hq]; exact hpb))
              have RPK := Lib.hid (fun x h => RP.out x ks s h w3')
              clear h1 h2 h3 h4 h5 h6 HJ s1 s2 s3 s4 w1 w2' w3' w4 w5 RP
              go_wp2_with fail
              refine SE.out.mono ?_
              rintro e w6 ⟨rfl, x, hse, hga, hto⟩
              have SX := Lib.hid hse
              have G6 := Lib.hid hga
              have T6 := Lib.hid (H5.out.trans hto)
              have P6 := Lib.hid (H1.out.touch hto (fun h => by
                rcases h with h | h
                · exact hglp h.symm
                · exact hegp h))
              have ok := hse.ok OK.out
              have A6 := Lib.hid (AL.out.trans (pushL_alike (x := x) ok.1))
              have O6 := Lib.hid (H6.out.touch (T := fun k => k = gl ∨ OwnB E k) H4.out.bo.1 (fun h => by
                rcases h with h | h
                · exact H4.out.bo.2.2.1 h
                · exact H4.out.bo.2.2.2 h) (fun k hk => by
                rcases hk with h | h
                · exact .inr (.inl h)
                · exact .inr (.inr (.inl h))) hto)
              rw [← (pushL_alike (x := x) ok.1).outs] at O6
              have F6 := Lib.hid (FT.out.pushL OK.out.fine (ks := ks) (x := x) (fun j hj => (ok.1 j hj).1))
              have D6 := Lib.hid (RPK.out x hse)
              have M6 := Lib.hid (rest_push hse OK.out)
              have MN := Lib.hid (rest_nn (G2.pushL ks x).left)
              have OK6 := Lib.hid ok.2.2
              clear hse hga hto ok SE RPK
              go_wp2_with fail
              go_roundg (restV (G2.pushL ks x).left).toNat
              case measure => have h1 := M6.out; have h2 := MN.out; have h3 := SX.out.x0; have h4 := HR.out; omega
              case rel => exact Lib.hid ⟨_, _, _, A6.out, OK6.out, F6.out, G6.out, P6.out, D6.out, rfl, T6.out, O6.out⟩
end Go.Proofs.Ytmebpglkeedaoaa
namespace Go.Proofs.Ytmebpglkeedaoaa
open Go.RowKit Dp
set_option linter.unusedVariables false

/-- what Least answers -/
def LeastP (N : Net) (w : World) (e : Ending) (w' : World) : Prop :=
  (chE N ≠ 0 ∧ e = .returned (.tuple #[.slice none 0 0, .slice none 0 0, .int .i64 (chE N)])) ∨
  (chE N = 0 ∧ ∃ gf gp fl p, e = .returned (.tuple #[.slice (some ⟨gf, 0, none⟩) N.arcs.length N.arcs.length, .slice (some ⟨gp, 0, none⟩) N.sup.length N.sup.length, .int .i64 0]) ∧ Fl 2 w' gf fl ∧ Fl 2 w' gp p ∧ w.heap.size ≤ gf ∧ w.heap.size ≤ gp ∧ fl.length = N.arcs.length ∧ isFlow N fl = true ∧ p.length = N.sup.length ∧ (∀ v, v < p.length → potOk (p.getD v 0) = true) ∧ costK N fl N.arcs.length = prA N p N.arcs.length) ∨
  (chE N = 0 ∧ e = .returned (.tuple #[.slice none 0 0, .slice none 0 0, .int .i64 18]) ∧ ∃ c : List Int, (∀ k, k < c.length → cutAt N.sup.length c k = true) ∧ 0 < lkA N c N.arcs.length ∧ ∀ fl, isFlow N fl = false)

set_option maxHeartbeats 2000000 in
set_option maxRecDepth 100000 in
theorem Least_c (A B : Option Addr) (N : Net) (n m cA cB : Nat) (w : World) (hn : n = N.sup.length) (hm : m = N.arcs.length) (hA : n ≤ cA ∧ cA ≤ 9223372036854775807) (hB : m ≤ cB ∧ cB ≤ 9223372036854775807) (hN : NetAt w A B N) :
    Calls Try.prog 25 #[.agg #[.slice A n cA, .slice B m cB]] w fun e w' => LeastP N w e w' ∧ Below w.heap.size w w' := by
  have HN := Lib.hid hn
  have HM := Lib.hid hm
  have HNA := Lib.hid hN
  clear hn hm hN
  have B1 := Lib.hid (Blk.new' w #[.slice A n cA, .slice B m cB] 25)
  have HB1 := Lib.hid ((Below.refl w.heap.size w).alloc (Nat.le_refl _) (.cells #[.slice A n cA, .slice B m cB] 25))
  go_enter Try.func25, Try.ntmps25
  go_wp2_with fail
  generalize w.alloc (.cells #[.slice A n cA, .slice B m cB] 25) = w1 at B1 HB1 ⊢
  refine (Check_c A B N n m cA cB w1 HN.out HM.out hA hB (HNA.out.below HB1.out (Nat.le_refl _))).mono ?_
  rintro e w2 ⟨rfl, hb2⟩
  have B2 := Lib.hid (B1.out.below hb2 B1.out.lt)
  have HB2 := Lib.hid (HB1.out.trans (hb2.mono HB1.out.size))
  clear hb2 B1 HB1
  have cA0 := B2.out.cell 0 rfl
  have cB0 := B2.out.cell 1 rfl
  by_cases hch : chE N = 0
  · have HCH := Lib.hid hch
    have n2 : n ≤ 1024 := by rw [HN.out]; exact (net_len hch).2.1
    rw [hch]
    clear hch
    go_wp2_with fail
    refine (newGraph_c A B N n m cA cB w2 HN.out HM.out HCH.out hA hB (HNA.out.below HB2.out (Nat.le_refl _))).mono ?_
    rintro e w3 ⟨b, gl, cl, E, ce, bo, rfl, hb3, hg3⟩
    have HB3 := Lib.hid (HB2.out.trans (hb3.mono HB2.out.size))
    have G3 := Lib.hid hg3
    have hsz := HB2.out.size
    have S3 : Hid (∀ k, k = gl ∨ OwnB E k → w.heap.size ≤ k) := Lib.hid (fun k hk => by
      rcases hk with h | h
      · have := hg3.base.2; omega
      · have := (ownLt hg3.es h).2; omega)
    clear hb3 hg3 cA0 cB0
    go_wp2_with fail
    refine (least_c b gl cl ce bo w2.heap.size n E (gr0 N) N w3 HN.out.symm HCH.out (by rw [HN.out]; exact gr0_ok HCH.out) gr0_fits (fun i hi => by show ((esK N N.arcs.length).getD (2 * i + 1) default).room = 0; rw [(esK_get N _ i hi).2]) G3.out).mono ?_
    rintro e w4 ⟨gp, G', p, fa, vi, D, rfl, hp4, hg4, hok, hft, hpd, hnr, ht4, hgp⟩
    have HB4 := Lib.hid (Below.touch HB3.out HB3.out.size ht4 S3.out)
    have G4 := Lib.hid hg4
    have OK := Lib.hid hok
    have FT := Lib.hid hft
    have PD := Lib.hid hpd
    have NRR := Lib.hid hnr
    have P4 := Lib.hid hp4
    have hgpw : w.heap.size ≤ gp := by have := HB3.out.size; omega
    clear hp4 hg4 hok hft hpd hnr ht4
    have RN := rest_nn G'.left
    go_wp2_with fail
    refine (rest_c b gl cl ce bo w2.heap.size n E G' w4 OK.out G4.out).mono ?_
    rintro e w5 ⟨rfl, rfl⟩
    have OKN : Hid (G'.Ok N.sup.length) := Lib.hid (by rw [← HN.out]; exact OK.out)
    have CUT : Hid (lkA N (cutL N.sup.length (fun v => decide (fa.getD v 0 < never))) N.arcs.length = restV G'.left) := Lib.hid (by
      have h := NRR.out
      rw [HN.out] at h
      exact end_cut HCH.out OKN.out FT.out h)
    have FLO := Lib.hid (fun h => end_flow HCH.out OKN.out FT.out PD.out.rc h)
    generalize restV G'.left = R at *
    by_cases hr : 0 < R
    · have d1 : decide (0 < R) = true := decide_eq_true hr
      have C1 : Hid (∃ c : List Int, (∀ k, k < c.length → cutAt N.sup.length c k = true) ∧ 0 < lkA N c N.arcs.length ∧ ∀ fl, isFlow N fl = false) := Lib.hid ⟨_, cutL_ok, by rw [CUT.out]; exact hr, cut_none HCH.out cutL_ok (by rw [CUT.out]; exact hr)⟩
      go_wp2_with fail
      exact bodyPost_ret (v := .tuple #[.slice none 0 0, .slice none 0 0, .int .i64 18]) (by simp [results, Try.results25, go_sem]) rfl ⟨.inr (.inr ⟨HCH.out, rfl, C1.out⟩), HB4.out⟩
    · have d1 : decide (0 < R) = false := decide_eq_false hr
      have FL := Lib.hid (FLO.out (by omega))
      go_wp2_with fail
      refine (flow_c b gl cl ce bo w2.heap.size n E G' w4 OK.out G4.out).mono ?_
      rintro e w5 ⟨gf, rfl, hb5, hf5, hgf⟩
      have HB5 := Lib.hid (HB4.out.trans (hb5.mono HB4.out.size))
      have P5 := Lib.hid (P4.out.below hb5)
      rw [flowE_flow FT.out] at hf5
      have F5 := Lib.hid hf5
      have hgfw : w.heap.size ≤ gf := by have := HB4.out.size; omega
      have e1 : G'.es.length / 2 = N.arcs.length := by rw [FT.out.es]; omega
      rw [e1]
      have POK : Hid (∀ v, v < p.length → potOk (p.getD v 0) = true) := Lib.hid (fun v hv => by
        rw [PD.out.len] at hv
        have := PD.out.lo v hv
        have := PD.out.d
        rw [potOk_iff]
        omega)
      clear hb5 hf5
      go_wp2_with fail
      exact bodyPost_ret (v := .tuple #[.slice (some ⟨gf, 0, none⟩) N.arcs.length N.arcs.length, .slice (some ⟨gp, 0, none⟩) n n, .int .i64 0]) (by simp [results, Try.results25, go_sem]) rfl ⟨.inr (.inl ⟨HCH.out, gf, gp, flowL N G', p, by rw [HN.out], F5.out, P5.out, hgfw, hgpw, flowL_len N G', FL.out.1, by rw [PD.out.len, HN.out], POK.out, FL.out.2⟩), HB5.out⟩
  · have hne : (chE N == 0) = false := by simpa using hch
    have HCH := Lib.hid hch
    generalize hq : chE N = q at *
    have HQ := Lib.hid hq
    clear hq
    go_wp2_with fail
    exact bodyPost_ret (v := .tuple #[.slice none 0 0, .slice none 0 0, .int .i64 q]) (by simp [results, Try.results25, go_sem]) rfl ⟨.inl ⟨by rw [HQ.out]; exact HCH.out, by rw [HQ.out]⟩, HB2.out⟩
end Go.Proofs.Ytmebpglkeedaoaa
namespace Go.Proofs.Ytmebpglkeedaoaa
open Go.RowKit Dp
set_option linter.unusedVariables false

@[go_sem] theorem on_0 : bits BinOp.and IntKind.u64 0 6148914691236517205 = 0 := by kernel_rfl
@[go_sem] theorem on_1 : IntKind.u64.wrap (0 + 0) = 0 := by kernel_rfl
@[go_sem] theorem on_2 : IntKind.u64.wrap 0 = 0 := by kernel_rfl
@[go_sem] theorem on_3 : bits BinOp.and IntKind.u64 0 3689348814741910323 = 0 := by kernel_rfl
@[go_sem] theorem on_4 : bits BinOp.and IntKind.u64 0 1085102592571150095 = 0 := by kernel_rfl
@[go_sem] theorem on_5 : bits BinOp.and IntKind.i64 0 127 = 0 := by kernel_rfl
@[go_sem] theorem on_6 : IntKind.i64.wrap 0 = 0 := by kernel_rfl
@[go_sem] theorem on_7 : bits BinOp.and IntKind.u64 1 6148914691236517205 = 1 := by kernel_rfl
@[go_sem] theorem on_8 : IntKind.u64.wrap (0 + 1) = 1 := by kernel_rfl
@[go_sem] theorem on_9 : IntKind.u64.wrap 1 = 1 := by kernel_rfl
@[go_sem] theorem on_10 : bits BinOp.and IntKind.u64 1 3689348814741910323 = 1 := by kernel_rfl
@[go_sem] theorem on_11 : bits BinOp.and IntKind.u64 1 1085102592571150095 = 1 := by kernel_rfl
@[go_sem] theorem on_12 : IntKind.u64.wrap (1 + 0) = 1 := by kernel_rfl
@[go_sem] theorem on_13 : bits BinOp.and IntKind.i64 1 127 = 1 := by kernel_rfl
@[go_sem] theorem on_14 : IntKind.i64.wrap 1 = 1 := by kernel_rfl
@[go_sem] theorem on_15 : bits BinOp.and IntKind.u64 2 6148914691236517205 = 0 := by kernel_rfl
@[go_sem] theorem on_16 : IntKind.u64.wrap 2 = 2 := by kernel_rfl
@[go_sem] theorem on_17 : bits BinOp.and IntKind.u64 3 6148914691236517205 = 1 := by kernel_rfl
@[go_sem] theorem on_18 : IntKind.u64.wrap (1 + 1) = 2 := by kernel_rfl
@[go_sem] theorem on_19 : bits BinOp.and IntKind.u64 2 3689348814741910323 = 2 := by kernel_rfl
@[go_sem] theorem on_20 : IntKind.u64.wrap (0 + 2) = 2 := by kernel_rfl
@[go_sem] theorem on_21 : bits BinOp.and IntKind.u64 2 1085102592571150095 = 2 := by kernel_rfl
@[go_sem] theorem on_22 : IntKind.u64.wrap (2 + 0) = 2 := by kernel_rfl
@[go_sem] theorem on_23 : bits BinOp.and IntKind.i64 2 127 = 2 := by kernel_rfl
@[go_sem] theorem on_24 : IntKind.u64.wrap 3 = 3 := by kernel_rfl
@[go_sem] theorem on_25 : IntKind.i64.wrap 2 = 2 := by kernel_rfl

set_option maxHeartbeats 2000000 in
set_option maxRecDepth 100000 in
theorem ones64_0 (w : World) : Calls Try.prog 112 #[.int .u64 0] w fun e w' => e = .returned (.int .i64 0) ∧ w = w' := by
  go_enter Try.func112, Try.ntmps112
  go_wp2_with fail
  exact bodyPost_ret (v := .int .i64 0) (by simp [results, Try.results112, go_sem]) rfl ⟨rfl, rfl⟩

set_option maxHeartbeats 2000000 in
set_option maxRecDepth 100000 in
theorem ones_0 (w : World) : Calls Try.prog 95 #[.int .u64 0] w fun e w' => e = .returned (.int .i64 0) ∧ w = w' := by
  go_enter Try.func95, Try.ntmps95
  go_wp2_with fail
  refine (ones64_0 w).mono ?_
  rintro e w1 ⟨rfl, rfl⟩
  go_wp2_with fail
  exact bodyPost_ret (v := .int .i64 0) (by simp [results, Try.results95, go_sem]) rfl ⟨rfl, rfl⟩

set_option maxHeartbeats 2000000 in
set_option maxRecDepth 100000 in
theorem ones64_1 (w : World) : Calls Try.prog 112 #[.int .u64 1] w fun e w' => e = .returned (.int .i64 1) ∧ w = w' := by
  go_enter Try.func112, Try.ntmps112
  go_wp2_with fail
  exact bodyPost_ret (v := .int .i64 1) (by simp [results, Try.results112, go_sem]) rfl ⟨rfl, rfl⟩

set_option maxHeartbeats 2000000 in
set_option maxRecDepth 100000 in
theorem ones_1 (w : World) : Calls Try.prog 95 #[.int .u64 1] w fun e w' => e = .returned (.int .i64 1) ∧ w = w' := by
  go_enter Try.func95, Try.ntmps95
  go_wp2_with fail
  refine (ones64_1 w).mono ?_
  rintro e w1 ⟨rfl, rfl⟩
  go_wp2_with fail
  exact bodyPost_ret (v := .int .i64 1) (by simp [results, Try.results95, go_sem]) rfl ⟨rfl, rfl⟩

set_option maxHeartbeats 2000000 in
set_option maxRecDepth 100000 in
theorem ones64_2 (w : World) : Calls Try.prog 112 #[.int .u64 2] w fun e w' => e = .returned (.int .i64 1) ∧ w = w' := by
  go_enter Try.func112, Try.ntmps112
  go_wp2_with fail
  exact bodyPost_ret (v := .int .i64 1) (by simp [results, Try.results112, go_sem]) rfl ⟨rfl, rfl⟩

set_option maxHeartbeats 2000000 in
set_option maxRecDepth 100000 in
theorem ones_2 (w : World) : Calls Try.prog 95 #[.int .u64 2] w fun e w' => e = .returned (.int .i64 1) ∧ w = w' := by
  go_enter Try.func95, Try.ntmps95
  go_wp2_with fail
  refine (ones64_2 w).mono ?_
  rintro e w1 ⟨rfl, rfl⟩
  go_wp2_with fail
  exact bodyPost_ret (v := .int .i64 1) (by simp [results, Try.results95, go_sem]) rfl ⟨rfl, rfl⟩

set_option maxHeartbeats 2000000 in
set_option maxRecDepth 100000 in
theorem ones64_3 (w : World) : Calls Try.prog 112 #[.int .u64 3] w fun e w' => e = .returned (.int .i64 2) ∧ w = w' := by
  go_enter Try.func112, Try.ntmps112
  go_wp2_with fail
  exact bodyPost_ret (v := .int .i64 2) (by simp [results, Try.results112, go_sem]) rfl ⟨rfl, rfl⟩

set_option maxHeartbeats 2000000 in
set_option maxRecDepth 100000 in
theorem ones_3 (w : World) : Calls Try.prog 95 #[.int .u64 3] w fun e w' => e = .returned (.int .i64 2) ∧ w = w' := by
  go_enter Try.func95, Try.ntmps95
  go_wp2_with fail
  refine (ones64_3 w).mono ?_
  rintro e w1 ⟨rfl, rfl⟩
  go_wp2_with fail
  exact bodyPost_ret (v := .int .i64 2) (by simp [results, Try.results95, go_sem]) rfl ⟨rfl, rfl⟩

/-- the costs of the example -/
structure CO (w : World) (gL gA gB : Nat) : Prop where
  L : Blk w gL 22 [.slice (some ⟨gA, 0, none⟩) 2 2, .slice (some ⟨gB, 0, none⟩) 2 2]
  A : Blk w gA 2 [.int .i64 4, .int .i64 1]
  B : Blk w gB 2 [.int .i64 2, .int .i64 3]

theorem CO.below {w w' : World} {gL gA gB k : Nat} (h : CO w gL gA gB) (hb : Below k w w') (hk : w.heap.size ≤ k) : CO w' gL gA gB :=
  ⟨h.L.below hb (by have := h.L.lt; omega), h.A.below hb (by have := h.A.lt; omega), h.B.below hb (by have := h.B.lt; omega)⟩

set_option maxHeartbeats 4000000 in
set_option maxRecDepth 100000 in
theorem checkCosts_c (gL gA gB : Nat) (w : World) (h : CO w gL gA gB) : Calls Try.prog 94 #[.slice (some ⟨gL, 0, none⟩) 2 2] w fun e w' => e = .returned (.int .i64 0) ∧ w = w' := by
  have H0 := Lib.hid h
  clear h
  have l0 := H0.out.L.cell 0 rfl
  have l1 := H0.out.L.cell 1 rfl
  have a0 := H0.out.A.cell 0 rfl
  have a1 := H0.out.A.cell 1 rfl
  have b0 := H0.out.B.cell 0 rfl
  have b1 := H0.out.B.cell 1 rfl
  go_enter Try.func94, Try.ntmps94
  go_wp2_with fail
  refine wp_loop_rounds 3 ?_
  rw [rounds_succ]
  go_wp2_with fail
  rw [rounds_succ]
  go_wp2_with fail
  rw [rounds_succ]
  go_wp2_with fail
  refine wp_loop_rounds 3 ?_
  rw [rounds_succ]
  go_wp2_with fail
  refine wp_loop_rounds 3 ?_
  rw [rounds_succ]
  go_wp2_with fail
  rw [rounds_succ]
  go_wp2_with fail
  rw [rounds_succ]
  go_wp2_with fail
  rw [rounds_succ]
  go_wp2_with fail
  refine wp_loop_rounds 3 ?_
  rw [rounds_succ]
  go_wp2_with fail
  rw [rounds_succ]
  go_wp2_with fail
  rw [rounds_succ]
  go_wp2_with fail
  rw [rounds_succ]
  go_wp2_with fail
  exact bodyPost_ret (v := .int .i64 0) (by simp [results, Try.results94, go_sem]) rfl ⟨rfl, rfl⟩
end Go.Proofs.Ytmebpglkeedaoaa
namespace Go.Proofs.Ytmebpglkeedaoaa
open Go.RowKit Dp
set_option linter.unusedVariables false

theorem info46 : (Try.prog.info? 46).map (fun i => (i.zero, i.size, i.bytes)) = some (some (.agg #[.int .i64 0, .int .i64 0, .int .i64 0, .int .i64 0]), 4, 32) := by kernel_rfl
def arcV (a : Arc) : List Value := [.int .i64 a.fr, .int .i64 a.to, .int .i64 a.cap, .int .i64 a.cost]

/-- the builder's world -/
structure BuJ (w : World) (gL gA gB gs gb : Nat) (A : Option Addr) (n cap : Nat) (sup : List Int) (arcs : List Arc) (W : World) : Prop where
  co : CO W gL gA gB
  b : Blk W gb 125 [.slice (some ⟨gs, 0, none⟩) 5 5, .slice A n cap, .slice none 0 0, .slice none 0 0]
  s : Fl 2 W gs sup
  own : W.ownsRow (gb + 1) 46 4 (.slice A n cap) n (flat arcV arcs)
  lt : gL < gs ∧ gA < gs ∧ gB < gs ∧ gs < gb ∧ w.heap.size ≤ gs
  bel : Below w.heap.size w W

section
variable {w W V : World} {gL gA gB gs gb n cap n2 cap2 : Nat} {A A2 : Option Addr} {sup : List Int} {arcs arcs2 : List Arc}
theorem BuJ.below (h : BuJ w gL gA gB gs gb A n cap sup arcs W) (hb : Below W.heap.size W V) : BuJ w gL gA gB gs gb A n cap sup arcs V :=
  ⟨h.co.below hb (Nat.le_refl _), h.b.below hb h.b.lt, h.s.below hb, ownBelow h.own hb, h.lt, h.bel.trans (hb.mono h.bel.size)⟩
theorem BuJ.alloc (h : BuJ w gL gA gB gs gb A n cap sup arcs W) (o : Obj) : BuJ w gL gA gB gs gb A n cap sup arcs (W.alloc o) :=
  h.below ((Below.refl _ _).alloc (Nat.le_refl _) o)
theorem BuJ.set (h : BuJ w gL gA gB gs gb A n cap sup arcs W) (k : Nat) (v : Int) : BuJ w gL gA gB gs gb A n cap (sup.set k v) arcs (W.setCell ⟨gs, k, none⟩ (.int .i64 v)) := by
  have hl := h.lt
  refine ⟨⟨h.co.L.setCell_ne (by simp; omega) _, h.co.A.setCell_ne (by simp; omega) _, h.co.B.setCell_ne (by simp; omega) _⟩, h.b.setCell_ne (by simp; omega) _, h.s.put k v, ?_, h.lt, h.bel.setCell (by simp; omega) _⟩
  exact ownGrown h.own ⟨rfl, rfl, rfl, by simp [World.setCell], fun k hk hne => Below.heap_setCell _ _ _ _ (fun e => hne (by rw [e]))⟩ (row := some gs) (fun k hk e => by
    have := (World.ownsRow.lt h.own k (ownB_iff.1 hk)).1
    cases e; omega)
theorem BuJ.mid (h : BuJ w gL gA gB gs gb A n cap sup arcs W) (hg : W.grownBy V (Value.slice A n cap).ownBlock) :
    Blk V gb 125 [.slice (some ⟨gs, 0, none⟩) 5 5, .slice A n cap, .slice none 0 0, .slice none 0 0] := by
  have hk : ∀ k, (Value.slice A n cap).ownBlock = some k → gb + 1 ≤ k := fun k e => (World.ownsRow.lt h.own k e).1
  exact h.b.grown hg (fun e => by have := hk gb e.symm; omega)
theorem BuJ.push (h : BuJ w gL gA gB gs gb A n cap sup arcs W) (hg : W.grownBy V (Value.slice A n cap).ownBlock)
    (ho : V.ownsRow (gb + 1) 46 4 (.slice A2 n2 cap2) n2 (flat arcV arcs2)) : BuJ w gL gA gB gs gb A2 n2 cap2 sup arcs2 (V.setCell ⟨gb, 1, none⟩ (.slice A2 n2 cap2)) := by
  have hk : ∀ k, (Value.slice A n cap).ownBlock = some k → gb + 1 ≤ k := fun k e => (World.ownsRow.lt h.own k e).1
  have hne : ∀ k, k ≤ gb → some k ≠ (Value.slice A n cap).ownBlock := fun k hk' e => by have := hk k e.symm; omega
  have hl := h.lt
  have hbs := h.bel.size
  have m2 := h.mid hg
  refine ⟨⟨(h.co.L.grown hg (hne _ (by omega))).setCell_ne (by simp; omega) _, (h.co.A.grown hg (hne _ (by omega))).setCell_ne (by simp; omega) _, (h.co.B.grown hg (hne _ (by omega))).setCell_ne (by simp; omega) _⟩, m2.setCell 1 _, Blk.setCell_ne (Blk.grown h.s hg (hne _ (by omega))) (by simp; omega) _, ?_, hl, (h.bel.grown hg hbs (fun k e => by have := hk k e; omega)).setCell (by simp; omega) _⟩
  exact ownGrown ho ⟨rfl, rfl, rfl, by simp [World.setCell], fun k hk hne => Below.heap_setCell _ _ _ _ (fun e => hne (by rw [e]))⟩ (row := some gb) (fun k hk e => by
    have := (World.ownsRow.lt ho k (ownB_iff.1 hk)).1
    cases e; omega)
end

set_option maxHeartbeats 2000000 in
set_option maxRecDepth 100000 in
theorem add_c (w W : World) (gL gA gB gs gb n cap gx : Nat) (A : Option Addr) (sup : List Int) (arcs : List Arc) (x : Arc) (hn : n ≤ 100) (h : BuJ w gL gA gB gs gb A n cap sup arcs W) (hX : Blk W gx 46 (arcV x)) (hal : arcs.length = n) :
    Calls Try.prog 108 #[.pointer (some ⟨gb, 0, none⟩), .slice (some ⟨gx, 0, none⟩) 1 1] W fun e W' => ∃ A2 cap2, e = .returned (.int .i64 n) ∧ BuJ w gL gA gB gs gb A2 (n + 1) cap2 sup (arcs ++ [x]) W' := by
  have H0 := Lib.hid h
  have X := Lib.hid hX
  have HAL := Lib.hid hal
  clear h hX hal
  obtain ⟨i3, h3i, h3z, h3s, h3b⟩ := info_parts info46
  have y0 := H0.out.b.cell 1 rfl
  go_enter Try.func108, Try.ntmps108
  go_wp2_with (at_builtin; refine wpList_append_any (.tmp 10) (.tmp 11) 23 rfl rfl (gb + 1) 46 i3 (.agg #[.int .i64 0, .int .i64 0, .int .i64 0, .int .i64 0]) 4 32 Try.underlying23 h3i h3z h3s h3b rfl (by decide) A n cap (flat arcV arcs) (by rfl) H0.out.own (some ⟨gx, 0, none⟩) 1 1 (arcV x) (by rfl) (by rfl) (.inr ⟨_, rfl, fun k u hk => by rw [show ((⟨gx, 0, none⟩ : Addr).add k) = ⟨gx, k, none⟩ from (by unfold Addr.add; split <;> simp_all)]; exact X.out.cell k hk⟩) (by simp [arcV, Value.oneCell']) (by unfold maxLen; omega) (by omega) (by have := H0.out.b.lt; omega) ?_; intro A2 c2 v hown hgrow hat; have H1 := Lib.hid (show BuJ w gL gA gB gs gb A2 (n + 1) c2 sup (arcs ++ [x]) (v.setCell ⟨gb, 1, none⟩ (.slice A2 (n + 1) c2)) from H0.out.push hgrow (by rw [flat_append]; simpa [flat] using hown)); have MM := H0.out.mid hgrow; clear y0; have y0 := MM.cell 1 rfl; have q0 := MM.free 1; clear MM hown hgrow hat)
  go_upto_region 2 with fail
  generalize v.setCell ⟨gb, 1, none⟩ (.slice A2 (n + 1) c2) = v1 at H1 ⊢
  clear y0 q0
  have y0 := H1.out.b.cell 1 rfl
  go_wp2_with fail
  trace_state
  exact bodyPost_ret (v := .int .i64 n) (by simp [results, Try.results108, go_sem]) rfl ⟨A2, c2, rfl, H1.out⟩
end Go.Proofs.Ytmebpglkeedaoaa
