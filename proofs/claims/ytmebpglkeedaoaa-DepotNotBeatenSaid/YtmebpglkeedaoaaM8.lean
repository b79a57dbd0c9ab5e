/- Plain: what flows in a graph; weak duality; the end of the solver. -/
import Derived.Test.YtmebpglkeedaoaaM7
import Derived.Test.YtmebpglkeedaoaaM4
namespace Go.Proofs.Ytmebpglkeedaoaa
namespace Dp
/-- the sum of q v * g v over n nodes -/
def dotN (q g : Nat → Int) : Nat → Int
  | 0 => 0
  | n + 1 => dotN q g n + q n * g n
theorem dot_congr {q g h : Nat → Int} : ∀ n : Nat, (∀ v, v < n → g v = h v) → dotN q g n = dotN q h n
  | 0, _ => rfl
  | n + 1, e => by simp only [dotN]; rw [dot_congr n (fun v hv => e v (by omega)), e n (by omega)]
theorem dot_add (q g h : Nat → Int) : ∀ n : Nat, dotN q (fun v => g v + h v) n = dotN q g n + dotN q h n
  | 0 => rfl
  | n + 1 => by simp only [dotN]; rw [dot_add q g h n, Int.mul_add]; omega
theorem dot_sub (q g h : Nat → Int) : ∀ n : Nat, dotN q (fun v => g v - h v) n = dotN q g n - dotN q h n
  | 0 => rfl
  | n + 1 => by simp only [dotN]; rw [dot_sub q g h n, Int.mul_sub]; omega
theorem dot_at (q : Nat → Int) (a : Nat) (x : Int) : ∀ n : Nat, dotN q (fun v => if v = a then x else 0) n = if a < n then q a * x else 0
  | 0 => rfl
  | n + 1 => by
    simp only [dotN]
    rw [dot_at q a x n]
    by_cases h : n = a
    · subst h; rw [if_neg (Nat.lt_irrefl n), if_pos rfl, if_pos (by omega)]; omega
    · rw [if_neg h]
      by_cases h2 : a < n
      · rw [if_pos h2, if_pos (by omega)]; simp
      · rw [if_neg h2, if_neg (by omega)]; simp
theorem dot_le {q g : Nat → Int} : ∀ n : Nat, (∀ v, v < n → 0 ≤ q v * g v) → 0 ≤ dotN q g n
  | 0, _ => Int.le_refl _
  | n + 1, h => by
    have := dot_le (q := q) (g := g) n (fun v hv => h v (by omega))
    have := h n (by omega)
    simp only [dotN]; omega
/-- ends of arc j -/
def frN (N : Net) (j : Nat) : Nat := (N.arcs.getD j default).fr.toNat
def toN (N : Net) (j : Nat) : Nat := (N.arcs.getD j default).to.toNat
/-- what is left at a node behind k arcs that carry f -/
def lv (N : Net) (f : Nat → Int) : Nat → Nat → Int
  | 0, v => N.sup.getD v 0
  | k + 1, v => lv N f k v + (if v = toN N k then f k else 0) - (if v = frN N k then f k else 0)
/-- the sum over arcs of f j * g j -/
def arcS (f g : Nat → Int) : Nat → Int
  | 0 => 0
  | k + 1 => arcS f g k + f k * g k
theorem arc_congr {f g h : Nat → Int} : ∀ k : Nat, (∀ j, j < k → f j * g j = h j) → arcS f g k = arcS (fun _ => 1) h k
  | 0, _ => rfl
  | k + 1, e => by simp only [arcS]; rw [arc_congr k (fun j hj => e j (by omega)), e k (by omega)]; omega
theorem arc_le {f g h : Nat → Int} : ∀ k : Nat, (∀ j, j < k → h j ≤ f j * g j) → arcS (fun _ => 1) h k ≤ arcS f g k
  | 0, _ => Int.le_refl _
  | k + 1, e => by
    have := arc_le (f := f) (g := g) (h := h) k (fun j hj => e j (by omega))
    have := e k (by omega)
    simp only [arcS]; omega
theorem arc_sub (f g h : Nat → Int) : ∀ k : Nat, arcS f (fun j => g j - h j) k = arcS f g k - arcS f h k
  | 0 => rfl
  | k + 1 => by simp only [arcS]; rw [arc_sub f g h k, Int.mul_sub]; omega
/-- the sum over nodes, with weights -/
theorem lv_dot {N : Net} (h : chE N = 0) (q f : Nat → Int) : ∀ k : Nat, k ≤ N.arcs.length → dotN q (lv N f k) N.sup.length = dotN q (fun v => N.sup.getD v 0) N.sup.length + arcS f (fun j => q (toN N j) - q (frN N j)) k
  | 0, _ => by simp only [arcS, Int.add_zero]; rfl
  | k + 1, hk => by
    obtain ⟨a1, a2, _⟩ := net_arc h k (by omega)
    have e1 : lv N f (k + 1) = fun v => (lv N f k v + (if v = toN N k then f k else 0)) - (if v = frN N k then f k else 0) := rfl
    rw [e1, dot_sub, dot_add, lv_dot h q f k (by omega), dot_at, dot_at, if_pos (by unfold toN; omega), if_pos (by unfold frN; omega)]
    simp only [arcS]
    rw [Int.mul_sub, Int.mul_comm (f k) (q (toN N k)), Int.mul_comm (f k) (q (frN N k))]
    omega
theorem mv_get (l : List Int) (i d : Int) (hi : i.toNat < l.length) (v : Nat) : (mv l i d).getD v 0 = l.getD v 0 + if v = i.toNat then d else 0 := by
  unfold mv
  rw [getD_setI _ _ _ _ hi]
  split
  · rename_i e; rw [e]
  · omega
theorem leftK_lv {N : Net} (h : chE N = 0) (fl : List Int) : ∀ k : Nat, k ≤ N.arcs.length → ∀ v, (leftK N fl k).getD v 0 = lv N (fun j => fl.getD j 0) k v
  | 0, _, v => rfl
  | k + 1, hk, v => by
    obtain ⟨a1, a2, _⟩ := net_arc h k (by omega)
    have hl := leftK_length N fl k
    simp only [leftK, lv]
    rw [mv_get _ _ _ (by rw [mv_length, hl]; omega), mv_get _ _ _ (by rw [hl]; omega), leftK_lv h fl k (by omega) v]
    unfold toN frN
    split <;> split <;> omega
/-- one arc's flow changes -/
theorem lv_change {N : Net} {f f' : Nat → Int} {i : Nat} {d : Int} (hi : f' i = f i + d) (ho : ∀ j, j ≠ i → f' j = f j) : ∀ (k : Nat) (v : Nat), lv N f' k v = lv N f k v + if i < k then ((if v = toN N i then d else 0) - (if v = frN N i then d else 0)) else 0
  | 0, v => by simp [lv]
  | k + 1, v => by
    simp only [lv]
    rw [lv_change hi ho k v]
    by_cases h : k = i
    · subst h
      rw [if_neg (Nat.lt_irrefl k), if_pos (Nat.lt_succ_self k), hi]
      split <;> split <;> omega
    · rw [ho k h]
      by_cases h2 : i < k
      · rw [if_pos h2, if_pos (show i < k + 1 by omega)]; omega
      · rw [if_neg h2, if_neg (show ¬ i < k + 1 by omega)]; omega
theorem flow_left {N : Net} {fl : List Int} (h : chE N = 0) (hf : isFlow N fl = true) : (∀ v, v < N.sup.length → lv N (fun j => fl.getD j 0) N.arcs.length v = 0) ∧ (∀ j, j < N.arcs.length → 0 ≤ fl.getD j 0 ∧ fl.getD j 0 ≤ (N.arcs.getD j default).cap) := by
  simp only [isFlow, Bool.and_eq_true, decide_eq_true_eq] at hf
  refine ⟨fun v hv => ?_, capB_iff.1 hf.2.1⟩
  rw [← leftK_lv h fl _ (Nat.le_refl _)]
  exact zeroB_iff.1 hf.2.2 v (by rw [leftK_length]; exact hv)
theorem costK_arc (N : Net) (fl : List Int) : ∀ k, costK N fl k = arcS (fun j => fl.getD j 0) (fun j => (N.arcs.getD j default).cost) k
  | 0 => rfl
  | k + 1 => by simp only [costK, arcS]; rw [costK_arc N fl k]
theorem prS_dot (N : Net) (ps : List Int) : ∀ k, prS N ps k = - dotN (fun v => ps.getD v 0) (fun v => N.sup.getD v 0) k
  | 0 => rfl
  | k + 1 => by simp only [prS, dotN]; rw [prS_dot N ps k]; omega
/-- the cost of an arc, with the potentials -/
def rcN (N : Net) (ps : List Int) (j : Nat) : Int := (N.arcs.getD j default).cost + ps.getD (frN N j) 0 - ps.getD (toN N j) 0
theorem prA_arc (N : Net) (ps : List Int) : ∀ k, prA N ps k = prS N ps N.sup.length + arcS (fun _ => 1) (fun j => (N.arcs.getD j default).cap * min 0 (rcN N ps j)) k
  | 0 => by simp [prA, arcS]
  | k + 1 => by
    simp only [prA, arcS]
    rw [prA_arc N ps k]
    unfold prW rcN frN toN
    omega
/-- the cost of a flow is that of its arcs with the potentials, and what the supplies bear -/
theorem cost_rc {N : Net} {fl ps : List Int} (h : chE N = 0) (hf : isFlow N fl = true) : costK N fl N.arcs.length = prS N ps N.sup.length + arcS (fun j => fl.getD j 0) (rcN N ps) N.arcs.length := by
  have h1 := flow_left h hf
  have h2 := lv_dot h (fun v => ps.getD v 0) (fun j => fl.getD j 0) N.arcs.length (Nat.le_refl _)
  rw [dot_congr (h := fun _ => 0) _ h1.1] at h2
  have h3 : dotN (fun v => ps.getD v 0) (fun _ => 0) N.sup.length = 0 := by
    generalize N.sup.length = n
    induction n with
    | zero => rfl
    | succ n ih => simp only [dotN]; rw [ih]; simp
  rw [h3] at h2
  have h4 := arc_sub (fun j => fl.getD j 0) (fun j => (N.arcs.getD j default).cost) (fun j => ps.getD (toN N j) 0 - ps.getD (frN N j) 0) N.arcs.length
  have h5 : rcN N ps = fun j => (N.arcs.getD j default).cost - (ps.getD (toN N j) 0 - ps.getD (frN N j) 0) := by
    funext j; unfold rcN; omega
  rw [h5, h4, costK_arc, prS_dot]
  omega
/-- weak duality -/
theorem weak {N : Net} {fl ps : List Int} (h : chE N = 0) (hf : isFlow N fl = true) : prA N ps N.arcs.length ≤ costK N fl N.arcs.length := by
  rw [cost_rc (ps := ps) h hf, prA_arc]
  have h1 := flow_left h hf
  have := arc_le (f := fun j => fl.getD j 0) (g := rcN N ps) (h := fun j => (N.arcs.getD j default).cap * min 0 (rcN N ps j)) N.arcs.length (fun j hj => by
    have h2 := h1.2 j hj
    rcases Int.le_total 0 (rcN N ps j) with h3 | h3
    · rw [Int.min_eq_left h3, Int.mul_zero]
      exact Int.mul_nonneg h2.1 h3
    · rw [Int.min_eq_right h3]
      exact Int.mul_le_mul_of_nonpos_right h2.2 h3)
  omega
/-- slack that complements proves a least flow -/
theorem strong {N : Net} {fl ps : List Int} (h : chE N = 0) (hf : isFlow N fl = true) (hs : ∀ j, j < N.arcs.length → (fl.getD j 0 < (N.arcs.getD j default).cap → 0 ≤ rcN N ps j) ∧ (0 < fl.getD j 0 → rcN N ps j ≤ 0)) : costK N fl N.arcs.length = prA N ps N.arcs.length := by
  rw [cost_rc (ps := ps) h hf, prA_arc]
  have h1 := flow_left h hf
  rw [arc_congr (h := fun j => (N.arcs.getD j default).cap * min 0 (rcN N ps j)) N.arcs.length (fun j hj => by
    have h2 := h1.2 j hj
    have h3 := hs j hj
    rcases Int.lt_trichotomy (rcN N ps j) 0 with h4 | h4 | h4
    · have : fl.getD j 0 = (N.arcs.getD j default).cap := by omega
      rw [this, Int.min_eq_right (by omega)]
    · rw [h4]; simp
    · have : fl.getD j 0 = 0 := by omega
      rw [this, Int.min_eq_left (by omega)]; simp)]
/-- what a set of nodes lacks bounds every flow: with a set C of nodes -/
theorem cut_flow {N : Net} {f : Nat → Int} {C : Nat → Bool} (h : chE N = 0) :
    dotN (fun v => if C v = true then 1 else 0) (lv N f N.arcs.length) N.sup.length = dotN (fun v => if C v = true then 1 else 0) (fun v => N.sup.getD v 0) N.sup.length + arcS f (fun j => (if C (toN N j) = true then 1 else 0) - (if C (frN N j) = true then 1 else 0)) N.arcs.length :=
  lv_dot h _ f _ (Nat.le_refl _)
end Dp
end Go.Proofs.Ytmebpglkeedaoaa
