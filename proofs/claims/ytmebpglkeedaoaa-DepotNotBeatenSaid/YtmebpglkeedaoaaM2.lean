/- Plain: what a flow leaves of the supplies, its cost, and the answer of Cost. -/
import Derived.Test.YtmebpglkeedaoaaM1
namespace Go.Proofs.Ytmebpglkeedaoaa
namespace Dp
/-- d more at place i -/
def mv (l : List Int) (i : Int) (d : Int) : List Int := l.set i.toNat (l.getD i.toNat 0 + d)
/-- the supplies behind k arcs -/
def leftK (N : Net) (fl : List Int) : Nat → List Int
  | 0 => N.sup
  | k + 1 => mv (mv (leftK N fl k) (N.arcs.getD k default).fr (-(fl.getD k 0))) (N.arcs.getD k default).to (fl.getD k 0)
def costK (N : Net) (fl : List Int) : Nat → Int
  | 0 => 0
  | k + 1 => costK N fl k + fl.getD k 0 * (N.arcs.getD k default).cost
/-- within the arcs' room -/
def capB (N : Net) (fl : List Int) : Bool := (List.range N.arcs.length).all fun k => decide (0 ≤ fl.getD k 0 ∧ fl.getD k 0 ≤ (N.arcs.getD k default).cap)
def zeroB (l : List Int) : Bool := l.all fun x => decide (x = 0)
def isFlow (N : Net) (fl : List Int) : Bool := decide (fl.length = N.arcs.length) && (capB N fl && zeroB (leftK N fl N.arcs.length))
/-- the error of Cost -/
def coE (N : Net) (fl : List Int) : Int := if chE N = 0 then (if fl.length = N.arcs.length then (if isFlow N fl = true then 0 else 19) else 20) else chE N
def coV (N : Net) (fl : List Int) : Int := if chE N = 0 ∧ isFlow N fl = true then costK N fl N.arcs.length else 0
theorem mv_length (l : List Int) (i d : Int) : (mv l i d).length = l.length := by simp [mv]
theorem leftK_length (N : Net) (fl : List Int) : ∀ k, (leftK N fl k).length = N.sup.length
  | 0 => rfl
  | k + 1 => by simp [leftK, mv_length, leftK_length N fl k]
theorem getD_setI (l : List Int) (i j : Nat) (v : Int) (h : i < l.length) : (l.set i v).getD j 0 = if j = i then v else l.getD j 0 := by
  simp only [List.getD_eq_getElem?_getD, List.getElem?_set]
  by_cases hj : i = j
  · subst hj; simp [h]
  · rw [if_neg hj, if_neg (fun e => hj e.symm)]
theorem mv_bd {l : List Int} {i d B D : Int} (hD : -D ≤ d ∧ d ≤ D) (hi : 0 ≤ i ∧ i < l.length) (h : ∀ j, j < l.length → -B ≤ l.getD j 0 ∧ l.getD j 0 ≤ B) : ∀ j, j < (mv l i d).length → -(B + D) ≤ (mv l i d).getD j 0 ∧ (mv l i d).getD j 0 ≤ B + D := by
  intro j hj
  rw [mv_length] at hj
  have hi' : i.toNat < l.length := by omega
  have h1 := h j hj
  have h2 := h i.toNat hi'
  unfold mv
  rw [getD_setI _ _ _ _ hi']
  split <;> omega
/-- the facts of a valid net -/
theorem chE_zero {N : Net} (h : chE N = 0) : manyB N = false ∧ okB N = true := by
  unfold chE at h
  split at h
  · omega
  · split at h
    · rename_i h1 h2
      exact ⟨by simpa using h1, h2⟩
    · omega
theorem getD_allA {p : Arc → Bool} {l : List Arc} (h : l.all p = true) (j : Nat) (hj : j < l.length) : p (l.getD j default) = true := by
  rw [List.all_eq_true] at h
  have := h l[j] (List.getElem_mem hj)
  simpa [List.getD, hj] using this
theorem net_len {N : Net} (h : chE N = 0) : 1 ≤ N.sup.length ∧ N.sup.length ≤ 1024 ∧ N.arcs.length ≤ 2048 := by
  have := (chE_zero h).1
  simp [manyB] at this
  cases hs : N.sup with
  | nil => simp [hs] at this
  | cons a l => rw [hs] at this; simp at this ⊢; omega
theorem net_sup {N : Net} (h : chE N = 0) (j : Nat) (hj : j < N.sup.length) : -268435456 ≤ N.sup.getD j 0 ∧ N.sup.getD j 0 ≤ 268435456 := by
  have h2 := (chE_zero h).2
  simp only [okB, Bool.and_eq_true] at h2
  have h3 := h2.1
  rw [List.all_eq_true] at h3
  have := h3 N.sup[j] (List.getElem_mem hj)
  simpa [supOk, List.getD, hj] using this
theorem net_arc {N : Net} (h : chE N = 0) (j : Nat) (hj : j < N.arcs.length) : (0 ≤ (N.arcs.getD j default).fr ∧ (N.arcs.getD j default).fr < N.sup.length) ∧ (0 ≤ (N.arcs.getD j default).to ∧ (N.arcs.getD j default).to < N.sup.length) ∧ (N.arcs.getD j default).fr ≠ (N.arcs.getD j default).to ∧ (0 ≤ (N.arcs.getD j default).cap ∧ (N.arcs.getD j default).cap ≤ 1048576) ∧ (-1048576 ≤ (N.arcs.getD j default).cost ∧ (N.arcs.getD j default).cost ≤ 1048576) := by
  have h2 := (chE_zero h).2
  simp only [okB, Bool.and_eq_true] at h2
  simpa [arcOk] using getD_allA h2.2.1 j hj
/-- the supplies on the way stay small -/
theorem leftK_bd {N : Net} {fl : List Int} (h : chE N = 0) : ∀ k : Nat, k ≤ N.arcs.length → (∀ j, j < k → 0 ≤ fl.getD j 0 ∧ fl.getD j 0 ≤ (N.arcs.getD j default).cap) →
    ∀ j, j < N.sup.length → -(268435456 + 2097152 * k : Int) ≤ (leftK N fl k).getD j 0 ∧ (leftK N fl k).getD j 0 ≤ 268435456 + 2097152 * k
  | 0, _, _, j, hj => by simpa [leftK] using net_sup h j hj
  | k + 1, hk, hf, j, hj => by
    have ih := leftK_bd h k (by omega) (fun j hj => hf j (by omega))
    have hl := leftK_length N fl k
    obtain ⟨a1, a2, a3, a4, a5⟩ := net_arc h k (by omega)
    have f1 := hf k (by omega)
    have s1 := mv_bd (l := leftK N fl k) (i := (N.arcs.getD k default).fr) (d := -(fl.getD k 0)) (D := 1048576) (by omega) (by rw [hl]; exact a1) (fun j hj => ih j (by rw [← hl]; exact hj))
    have s2 := mv_bd (i := (N.arcs.getD k default).to) (d := fl.getD k 0) (D := 1048576) (by omega) (by rw [mv_length, hl]; exact a2) s1 j (by rw [mv_length, mv_length, hl]; exact hj)
    simp only [leftK]
    rw [Int.natCast_add]
    omega
theorem costK_bd {N : Net} {fl : List Int} (h : chE N = 0) : ∀ k : Nat, k ≤ N.arcs.length → (∀ j, j < k → 0 ≤ fl.getD j 0 ∧ fl.getD j 0 ≤ (N.arcs.getD j default).cap) →
    -(1099511627776 * k : Int) ≤ costK N fl k ∧ costK N fl k ≤ 1099511627776 * k
  | 0, _, _ => by simp [costK]
  | k + 1, hk, hf => by
    have ih := costK_bd h k (by omega) (fun j hj => hf j (by omega))
    obtain ⟨a1, a2, a3, a4, a5⟩ := net_arc h k (by omega)
    have f1 := hf k (by omega)
    have p1 : fl.getD k 0 * (N.arcs.getD k default).cost ≤ 1048576 * 1048576 := by
      refine Int.le_trans (Int.mul_le_mul_of_nonneg_left a5.2 f1.1) ?_
      exact Int.mul_le_mul_of_nonneg_right (by omega) (by omega)
    have p2 : -(1048576 * 1048576) ≤ fl.getD k 0 * (N.arcs.getD k default).cost := by
      have := Int.mul_le_mul_of_nonneg_left a5.1 f1.1
      have := Int.mul_le_mul_of_nonneg_right (show fl.getD k 0 ≤ 1048576 by omega) (show (0:Int) ≤ 1048576 by omega)
      omega
    simp only [costK]
    rw [Int.natCast_add]
    omega
theorem capB_iff {N : Net} {fl : List Int} : capB N fl = true ↔ ∀ k, k < N.arcs.length → 0 ≤ fl.getD k 0 ∧ fl.getD k 0 ≤ (N.arcs.getD k default).cap := by
  simp only [capB, List.all_eq_true, List.mem_range, decide_eq_true_eq]
theorem zeroB_iff {l : List Int} : zeroB l = true ↔ ∀ j, j < l.length → l.getD j 0 = 0 := by
  simp only [zeroB, List.all_eq_true, decide_eq_true_eq]
  constructor
  · intro h j hj
    have := h l[j] (List.getElem_mem hj)
    simpa [List.getD, hj] using this
  · intro h x hx
    obtain ⟨i, hi, rfl⟩ := List.getElem_of_mem hx
    simpa [List.getD, hi] using h i hi
theorem co_ch {N : Net} {fl : List Int} (h : chE N ≠ 0) : coE N fl = chE N ∧ coV N fl = 0 := by simp [coE, coV, h]
theorem co_len {N : Net} {fl : List Int} (h : chE N = 0) (hl : fl.length ≠ N.arcs.length) : coE N fl = 20 ∧ coV N fl = 0 := by simp [coE, coV, h, hl, isFlow]
theorem co_no {N : Net} {fl : List Int} (h : chE N = 0) (hl : fl.length = N.arcs.length) (hf : isFlow N fl = false) : coE N fl = 19 ∧ coV N fl = 0 := by simp [coE, coV, h, hl, hf]
theorem co_yes {N : Net} {fl : List Int} (h : chE N = 0) (hl : fl.length = N.arcs.length) (hf : isFlow N fl = true) : coE N fl = 0 ∧ coV N fl = costK N fl N.arcs.length := by simp [coE, coV, h, hl, hf]
theorem isFlow_cap {N : Net} {fl : List Int} (k : Nat) (hk : k < N.arcs.length) (h : ¬ (0 ≤ fl.getD k 0 ∧ fl.getD k 0 ≤ (N.arcs.getD k default).cap)) : isFlow N fl = false := by
  cases hb : isFlow N fl
  · rfl
  · simp only [isFlow, Bool.and_eq_true] at hb
    exact absurd (capB_iff.1 hb.2.1 k hk) h
theorem isFlow_left {N : Net} {fl : List Int} (j : Nat) (hj : j < N.sup.length) (h : (leftK N fl N.arcs.length).getD j 0 ≠ 0) : isFlow N fl = false := by
  cases hb : isFlow N fl
  · rfl
  · simp only [isFlow, Bool.and_eq_true] at hb
    exact absurd (zeroB_iff.1 hb.2.2 j (by rw [leftK_length]; exact hj)) h
theorem isFlow_len {N : Net} {fl : List Int} (hl : fl.length ≠ N.arcs.length) : isFlow N fl = false := by simp [isFlow, hl]
theorem isFlow_yes {N : Net} {fl : List Int} (hl : fl.length = N.arcs.length) (h1 : ∀ k, k < N.arcs.length → 0 ≤ fl.getD k 0 ∧ fl.getD k 0 ≤ (N.arcs.getD k default).cap) (h2 : ∀ j, j < N.sup.length → (leftK N fl N.arcs.length).getD j 0 = 0) : isFlow N fl = true := by
  simp only [isFlow, Bool.and_eq_true, decide_eq_true_eq]
  exact ⟨hl, capB_iff.2 h1, zeroB_iff.2 (fun j hj => h2 j (by rw [leftK_length] at hj; exact hj))⟩
end Dp
end Go.Proofs.Ytmebpglkeedaoaa
