/- Plain: what potentials prove. -/
import Derived.Test.YtmebpglkeedaoaaM2
import Derived.Test.YtmebpglkeedaoaaC1
namespace Go.Proofs.Ytmebpglkeedaoaa
namespace Dp
def potOk (x : Int) : Bool := decide (-1073741824 ≤ x ∧ x ≤ 1073741824)
/-- minus the sum of p times the supply, over k nodes -/
def prS (N : Net) (ps : List Int) : Nat → Int
  | 0 => 0
  | k + 1 => prS N ps k - ps.getD k 0 * N.sup.getD k 0
/-- an arc's part -/
def prW (a : Arc) (ps : List Int) : Int := a.cap * min 0 (a.cost + ps.getD a.fr.toNat 0 - ps.getD a.to.toNat 0)
def prA (N : Net) (ps : List Int) : Nat → Int
  | 0 => prS N ps N.sup.length
  | k + 1 => prA N ps k + prW (N.arcs.getD k default) ps
def prE (N : Net) (ps : List Int) : Int := if chE N = 0 then (if ps.length = N.sup.length then (if ps.all potOk = true then 0 else 3) else 20) else chE N
def prV (N : Net) (ps : List Int) : Int := if prE N ps = 0 then prA N ps N.arcs.length else 0
theorem pr_ch {N : Net} {ps : List Int} (h : chE N ≠ 0) : prE N ps = chE N ∧ prV N ps = 0 := by simp [prE, prV, h]
theorem pr_len {N : Net} {ps : List Int} (h : chE N = 0) (hl : ps.length ≠ N.sup.length) : prE N ps = 20 ∧ prV N ps = 0 := by simp [prE, prV, h, hl]
theorem pr_no {N : Net} {ps : List Int} (h : chE N = 0) (hl : ps.length = N.sup.length) (k : Nat) (hk : k < ps.length) (hp : potOk (ps.getD k 0) = false) : prE N ps = 3 ∧ prV N ps = 0 := by
  have : ps.all potOk = false := by
    cases hb : ps.all potOk
    · rfl
    · have := (getD_all (α := Int)).1 hb k hk
      rw [show (default : Int) = 0 from rfl, hp] at this
      cases this
  simp [prE, prV, h, hl, this]
theorem pr_yes {N : Net} {ps : List Int} (h : chE N = 0) (hl : ps.length = N.sup.length) (hp : ∀ k, k < ps.length → potOk (ps.getD k 0) = true) : prE N ps = 0 ∧ prV N ps = prA N ps N.arcs.length := by
  have : ps.all potOk = true := (getD_all (α := Int)).2 hp
  simp [prE, prV, h, hl, this]
theorem potOk_iff {x : Int} : potOk x = true ↔ -1073741824 ≤ x ∧ x ≤ 1073741824 := by simp [potOk]
theorem net_abs {N : Net} (h : chE N = 0) : sum (N.sup.map abs) ≤ 268435456 := by
  have h2 := (chE_zero h).2
  simp only [okB, Bool.and_eq_true, decide_eq_true_eq] at h2
  exact h2.2.2.2
theorem sum_take_le : ∀ (l : List Int) (k : Nat), (∀ x, x ∈ l → 0 ≤ x) → sum (l.take k) ≤ sum l
  | [], k, _ => by simp [sum]
  | x :: l, 0, h => by have := sum_nonneg (x :: l) h; simpa [sum] using this
  | x :: l, k + 1, h => by
    have := sum_take_le l k (fun y hy => h y (by simp [hy]))
    simp only [List.take_succ_cons, sum]
    omega
theorem mul_abs {p s P : Int} (hp : -P ≤ p ∧ p ≤ P) : -(P * abs s) ≤ p * s ∧ p * s ≤ P * abs s := by
  unfold abs
  rcases Int.le_total 0 s with h | h
  · rw [Int.max_eq_left (by omega)]
    have h1 := Int.mul_le_mul_of_nonneg_right hp.1 h
    have h2 := Int.mul_le_mul_of_nonneg_right hp.2 h
    rw [Int.neg_mul] at h1
    exact ⟨h1, h2⟩
  · rw [Int.max_eq_right (by omega)]
    have h0 : 0 ≤ -s := by omega
    have h1 := Int.mul_le_mul_of_nonneg_right hp.1 h0
    have h2 := Int.mul_le_mul_of_nonneg_right hp.2 h0
    rw [Int.mul_neg, Int.mul_neg] at h2
    rw [Int.neg_mul, Int.mul_neg, Int.mul_neg] at h1
    rw [Int.mul_neg]
    omega
theorem prS_bd {N : Net} {ps : List Int} : ∀ k : Nat, k ≤ N.sup.length → (∀ j, j < k → potOk (ps.getD j 0) = true) →
    -(1073741824 * sum ((N.sup.map abs).take k)) ≤ prS N ps k ∧ prS N ps k ≤ 1073741824 * sum ((N.sup.map abs).take k)
  | 0, _, _ => by simp [prS, sum]
  | k + 1, hk, hp => by
    have ih := prS_bd (N := N) (ps := ps) k (by omega) (fun j hj => hp j (by omega))
    have h1 := sum_take (N.sup.map abs) k (by rw [List.length_map]; omega)
    rw [getD_map abs N.sup k (by omega)] at h1
    have h2 := mul_abs (s := N.sup.getD k 0) (potOk_iff.1 (hp k (by omega)))
    simp only [prS]
    rw [h1, Int.mul_add]
    omega
theorem prS_bd2 {N : Net} {ps : List Int} (h : chE N = 0) (k : Nat) (hk : k ≤ N.sup.length) (hp : ∀ j, j < k → potOk (ps.getD j 0) = true) :
    -288230376151711744 ≤ prS N ps k ∧ prS N ps k ≤ 288230376151711744 := by
  have h1 := prS_bd (N := N) (ps := ps) k hk hp
  have h2 := sum_take_le (N.sup.map abs) k (fun x hx => by
    obtain ⟨y, _, rfl⟩ := List.mem_map.1 hx
    unfold abs; omega)
  have h3 := net_abs h
  omega
theorem prW_bd {a : Arc} {ps : List Int} (hc : 0 ≤ a.cap ∧ a.cap ≤ 1048576) (ho : -1048576 ≤ a.cost ∧ a.cost ≤ 1048576) (h1 : potOk (ps.getD a.fr.toNat 0) = true) (h2 : potOk (ps.getD a.to.toNat 0) = true) :
    -2252899325313024 ≤ prW a ps ∧ prW a ps ≤ 0 := by
  have h1 := potOk_iff.1 h1
  have h2 := potOk_iff.1 h2
  unfold prW
  generalize hm : min 0 (a.cost + ps.getD a.fr.toNat 0 - ps.getD a.to.toNat 0) = z
  have hz : -2148532224 ≤ z ∧ z ≤ 0 := by omega
  have q1 := Int.mul_le_mul_of_nonneg_left hz.1 hc.1
  have q2 := Int.mul_le_mul_of_nonneg_left hz.2 hc.1
  omega
theorem prA_bd {N : Net} {ps : List Int} (h : chE N = 0) (hl : ps.length = N.sup.length) (hp : ∀ j, j < ps.length → potOk (ps.getD j 0) = true) : ∀ k : Nat, k ≤ N.arcs.length →
    -(288230376151711744 + 2252899325313024 * k : Int) ≤ prA N ps k ∧ prA N ps k ≤ 288230376151711744
  | 0, _ => by
    have := prS_bd2 h N.sup.length (Nat.le_refl _) (fun j hj => hp j (by omega))
    simp only [prA]
    omega
  | k + 1, hk => by
    have ih := prA_bd h hl hp k (by omega)
    obtain ⟨a1, a2, a3, a4, a5⟩ := net_arc h k (by omega)
    have := prW_bd (ps := ps) a4 a5 (hp _ (by omega)) (hp _ (by omega))
    simp only [prA]
    rw [Int.natCast_add]
    omega
end Dp
end Go.Proofs.Ytmebpglkeedaoaa
