/- Plain: what a cut lacks. -/
import Derived.Test.YtmebpglkeedaoaaM3
namespace Go.Proofs.Ytmebpglkeedaoaa
namespace Dp
/-- place k of a cut is right: in the net, and above the place before -/
def cutAt (n : Nat) (c : List Int) (k : Nat) : Bool := decide (0 ≤ c.getD k 0 ∧ c.getD k 0 < n ∧ (0 < k → c.getD (k - 1) 0 < c.getD k 0))
def cutB (n : Nat) (c : List Int) : Bool := (List.range c.length).all (cutAt n c)
/-- node i lies in the first k of c -/
def inK (c : List Int) (k : Nat) (i : Int) : Bool := decide (i ∈ c.take k)
def lkS (N : Net) (c : List Int) : Nat → Int
  | 0 => 0
  | k + 1 => lkS N c k + N.sup.getD (c.getD k 0).toNat 0
/-- the same sum by nodes -/
def lkR (N : Net) (c : List Int) (k : Nat) : Nat → Int
  | 0 => 0
  | j + 1 => lkR N c k j + if inK c k j = true then N.sup.getD j 0 else 0
def lkA (N : Net) (c : List Int) : Nat → Int
  | 0 => lkS N c c.length
  | k + 1 => lkA N c k - if inK c c.length (N.arcs.getD k default).fr = true ∧ inK c c.length (N.arcs.getD k default).to = false then (N.arcs.getD k default).cap else 0
def lkE (N : Net) (c : List Int) : Int := if chE N = 0 then (if cutB N.sup.length c = true then 0 else 3) else chE N
def lkV (N : Net) (c : List Int) : Int := if lkE N c = 0 then max 0 (lkA N c N.arcs.length) else 0
theorem cutAt_iff {n : Nat} {c : List Int} {k : Nat} : cutAt n c k = true ↔ 0 ≤ c.getD k 0 ∧ c.getD k 0 < n ∧ (0 < k → c.getD (k - 1) 0 < c.getD k 0) := by simp only [cutAt, decide_eq_true_eq]
theorem cutB_iff {n : Nat} {c : List Int} : cutB n c = true ↔ ∀ k, k < c.length → cutAt n c k = true := by simp only [cutB, List.all_eq_true, List.mem_range]
theorem lk_ch {N : Net} {c : List Int} (h : chE N ≠ 0) : lkE N c = chE N ∧ lkV N c = 0 := by simp [lkE, lkV, h]
theorem lk_no {N : Net} {c : List Int} (h : chE N = 0) (k : Nat) (hk : k < c.length) (hc : cutAt N.sup.length c k = false) : lkE N c = 3 ∧ lkV N c = 0 := by
  have : cutB N.sup.length c = false := by
    cases hb : cutB N.sup.length c
    · rfl
    · rw [cutB_iff.1 hb k hk] at hc; cases hc
  simp [lkE, lkV, h, this]
theorem lk_yes {N : Net} {c : List Int} (h : chE N = 0) (hc : ∀ k, k < c.length → cutAt N.sup.length c k = true) : lkE N c = 0 ∧ lkV N c = max 0 (lkA N c N.arcs.length) := by
  have : cutB N.sup.length c = true := cutB_iff.2 hc
  simp [lkE, lkV, h, this]
/-- the places climb -/
theorem cut_ge {n : Nat} {c : List Int} : ∀ k : Nat, (∀ j, j ≤ k → cutAt n c j = true) → (k : Int) ≤ c.getD k 0
  | 0, h => (cutAt_iff.1 (h 0 (Nat.le_refl _))).1
  | k + 1, h => by
    have h1 := cut_ge k (fun j hj => h j (by omega))
    have h2 := (cutAt_iff.1 (h (k + 1) (Nat.le_refl _))).2.2 (by omega)
    simp only [Nat.add_sub_cancel] at h2
    omega
theorem cut_lt {n : Nat} {c : List Int} (k : Nat) (h : ∀ j, j < k → cutAt n c j = true) : k ≤ n := by
  cases k with
  | zero => exact Nat.zero_le _
  | succ k =>
    have h1 := cut_ge k (fun j hj => h j (by omega))
    have h2 := (cutAt_iff.1 (h k (by omega))).2.1
    omega
theorem lkS_bd {N : Net} {c : List Int} (h : chE N = 0) : ∀ k : Nat, (∀ j, j < k → cutAt N.sup.length c j = true) → -(268435456 * k : Int) ≤ lkS N c k ∧ lkS N c k ≤ 268435456 * k
  | 0, _ => by simp [lkS]
  | k + 1, hc => by
    have ih := lkS_bd h k (fun j hj => hc j (by omega))
    have h1 := cutAt_iff.1 (hc k (by omega))
    have h2 := net_sup h (c.getD k 0).toNat (by omega)
    simp only [lkS]
    rw [Int.natCast_add]
    omega
theorem inK_succ {c : List Int} {k : Nat} (hk : k < c.length) (i : Int) : inK c (k + 1) i = (inK c k i || decide (i = c.getD k 0)) := by
  unfold inK
  rw [List.take_succ_eq_append_getElem hk]
  have : c.getD k 0 = c[k] := by simp [List.getD, hk]
  rw [this]
  simp only [List.mem_append, List.mem_singleton]
  by_cases h1 : i ∈ c.take k <;> by_cases h2 : i = c[k] <;> simp [h1, h2]
theorem cut_mono {n : Nat} {c : List Int} {j : Nat} : ∀ k : Nat, (∀ x, x ≤ k → cutAt n c x = true) → j < k → c.getD j 0 < c.getD k 0
  | 0, _, h => absurd h (Nat.not_lt_zero _)
  | k + 1, hc, h => by
    have h2 := (cutAt_iff.1 (hc (k + 1) (Nat.le_refl _))).2.2 (by omega)
    simp only [Nat.add_sub_cancel] at h2
    by_cases hj : j = k
    · subst hj; exact h2
    · have := cut_mono k (fun x hx => hc x (by omega)) (show j < k by omega)
      omega
theorem cut_new {n : Nat} {c : List Int} {k : Nat} (hk : k < c.length) (hc : ∀ x, x ≤ k → cutAt n c x = true) : inK c k (c.getD k 0) = false := by
  unfold inK
  rw [decide_eq_false_iff_not]
  intro hm
  obtain ⟨j, hj, e⟩ := List.getElem_of_mem hm
  simp only [List.length_take] at hj
  rw [List.getElem_take] at e
  have h1 := cut_mono k hc (show j < k by omega)
  have : c.getD j 0 = c[j] := by simp [List.getD, show j < c.length by omega]
  rw [this, e] at h1
  omega
theorem lkR_zero (N : Net) (c : List Int) : ∀ j, lkR N c 0 j = 0
  | 0 => rfl
  | j + 1 => by simp [lkR, lkR_zero N c j, inK]
theorem lkR_succ {N : Net} {n : Nat} {c : List Int} {k : Nat} (hk : k < c.length) (hc : ∀ x, x ≤ k → cutAt n c x = true) : ∀ j : Nat, lkR N c (k + 1) j = lkR N c k j + if (c.getD k 0).toNat < j then N.sup.getD (c.getD k 0).toNat 0 else 0
  | 0 => by simp [lkR]
  | j + 1 => by
    have ih := lkR_succ (N := N) hk hc j
    have h0 := (cutAt_iff.1 (hc k (Nat.le_refl _))).1
    have hn := cut_new hk hc
    simp only [lkR]
    rw [ih, inK_succ hk]
    by_cases he : (j : Int) = c.getD k 0
    · have e2 : (c.getD k 0).toNat = j := by omega
      rw [← he] at hn
      rw [e2, hn, he]
      simp
    · have e2 : (c.getD k 0).toNat ≠ j := by omega
      simp only [he, decide_false, Bool.or_false]
      by_cases h3 : (c.getD k 0).toNat < j
      · rw [if_pos h3, if_pos (show (c.getD k 0).toNat < j + 1 by omega)]; omega
      · rw [if_neg h3, if_neg (show ¬ (c.getD k 0).toNat < j + 1 by omega)]; omega
/-- the sum by nodes is the sum by places -/
theorem lkR_eq {N : Net} {c : List Int} : ∀ k : Nat, k ≤ c.length → (∀ x, x < k → cutAt N.sup.length c x = true) → lkR N c k N.sup.length = lkS N c k
  | 0, _, _ => by simp [lkR_zero, lkS]
  | k + 1, hk, hc => by
    have h1 := cutAt_iff.1 (hc k (by omega))
    rw [lkR_succ (n := N.sup.length) (by omega) (fun x hx => hc x (by omega)), lkR_eq k (by omega) (fun x hx => hc x (by omega)), if_pos (by omega)]
    rfl
end Dp
end Go.Proofs.Ytmebpglkeedaoaa
