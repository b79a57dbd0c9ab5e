/- Contracts of Check of depot: the test of a node, and the whole. -/
import Derived.Test.YtmebpglkeedaoaaN1
import Derived.Deep.QuietTactic
import Derived.BigQuiet
namespace Go.Proofs.Ytmebpglkeedaoaa
open Go.RowKit Dp
set_option linter.unusedVariables false

theorem node_c (i : Int) (b : Nat) (A : Option Addr) (n cap : Nat) (w : World) (hc : w.cell? ⟨b, 0, none⟩ = some (.slice A n cap)) :
    Calls Try.prog 61 #[.int .i64 i, .pointer (some ⟨b, 0, none⟩)] w fun e w' => e = .returned (.bool (decide (0 ≤ i ∧ i < n))) ∧ w = w' := by
  by_cases h0 : 0 ≤ i
  · go_enter Try.func61, Try.ntmps61
    go_wp2
    go_ret
    refine ⟨ret_bool ?_, rfl⟩
    simp [h0]
  · go_enter Try.func61, Try.ntmps61
    go_wp2
    go_ret
    refine ⟨ret_bool ?_, rfl⟩
    simp
    omega
theorem maxTwo (x y : Int) (ts : Array TypeId) (t : TypeId) (w : World) : (Builtin.max_ ts t #[.int .i64 x, .int .i64 y]).run Try.prog w = .ok (.int .i64 (max x y)) w := by
  have h : (Builtin.max_ ts t #[.int .i64 x, .int .i64 y]).run Try.prog w = .ok (.int .i64 (if y > x then y else x)) w := by simp [Builtin.max_]; rfl
  rw [h, ← gmax_eq]
theorem minTwo (x y : Int) (ts : Array TypeId) (t : TypeId) (w : World) : (Builtin.min_ ts t #[.int .i64 x, .int .i64 y]).run Try.prog w = .ok (.int .i64 (min x y)) w := by
  have h : (Builtin.min_ ts t #[.int .i64 x, .int .i64 y]).run Try.prog w = .ok (.int .i64 (if y < x then y else x)) w := by simp [Builtin.min_]; rfl
  rw [h, ← gmin_eq]
theorem getD_all {α : Type} [Inhabited α] {p : α → Bool} {l : List α} : l.all p = true ↔ ∀ j, j < l.length → p (l.getD j default) = true := by
  rw [List.all_eq_true]
  constructor
  · intro h j hj
    have := h l[j] (List.getElem_mem hj)
    simpa [List.getD, hj] using this
  · intro h x hx
    obtain ⟨i, hi, rfl⟩ := List.getElem_of_mem hx
    have := h i hi
    simpa [List.getD, hi] using this
theorem supAll {l : List Int} (k : Nat) (h : ∀ j, j < k → supOk (l.getD j 0) = true) (hk : k ≤ l.length) : (-(268435456 * k : Int) ≤ sum (l.take k) ∧ sum (l.take k) ≤ 268435456 * k) ∧ (0 ≤ sum ((l.map abs).take k) ∧ sum ((l.map abs).take k) ≤ 268435456 * k) := by
  have hm : ∀ x, x ∈ l.take k → -268435456 ≤ x ∧ x ≤ 268435456 := fun x hx => by
    obtain ⟨i, hi, rfl⟩ := List.getElem_of_mem hx
    simp only [List.length_take] at hi
    have hi1 : i < k := by omega
    have hi2 : i < l.length := by omega
    have := h i hi1
    simpa [supOk, List.getD, hi2] using this
  have hl : (l.take k).length = k := by simp; omega
  have h1 := sum_bd (B := 268435456) (by omega) (l.take k) hm
  have h2 := sum_bd (B := 268435456) (by omega) ((l.map abs).take k) (fun x hx => by
    rw [← List.map_take] at hx
    obtain ⟨y, hy, rfl⟩ := List.mem_map.1 hx
    have := hm y hy
    unfold abs; omega)
  have h3 := sum_nonneg ((l.map abs).take k) (fun x hx => by
    rw [← List.map_take] at hx
    obtain ⟨y, hy, rfl⟩ := List.mem_map.1 hx
    unfold abs; omega)
  have hl2 : ((l.map abs).take k).length = k := by simp; omega
  rw [hl] at h1
  rw [hl2] at h2
  omega
theorem chE_no {N : Net} (hm : manyB N = false) (h : okB N = false) : chE N = 2 := by simp [chE, hm, h]
theorem chE_sup {N : Net} (hm : manyB N = false) (k : Nat) (hk : k < N.sup.length) (h : supOk (N.sup.getD k 0) = false) : chE N = 2 := chE_no hm (by
  cases hb : okB N
  · rfl
  · simp only [okB, Bool.and_eq_true] at hb
    have := (getD_all (α := Int)).1 hb.1 k hk
    rw [show (default : Int) = 0 from rfl, h] at this
    cases this)
theorem chE_arc {N : Net} (hm : manyB N = false) (k : Nat) (hk : k < N.arcs.length) (h : arcOk N.sup.length (N.arcs.getD k default) = false) : chE N = 2 := chE_no hm (by
  cases hb : okB N
  · rfl
  · simp only [okB, Bool.and_eq_true] at hb
    have := getD_all.1 hb.2.1 k hk
    rw [h] at this
    cases this)
theorem chE_sum {N : Net} (hm : manyB N = false) (h : ¬ (sum N.sup = 0 ∧ sum (N.sup.map abs) ≤ 268435456)) : chE N = 2 := chE_no hm (by
  cases hb : okB N
  · rfl
  · simp only [okB, Bool.and_eq_true, decide_eq_true_eq] at hb
    exact absurd hb.2.2 h)
theorem chE_ok {N : Net} (hm : manyB N = false) (h1 : ∀ j, j < N.sup.length → supOk (N.sup.getD j 0) = true) (h2 : ∀ j, j < N.arcs.length → arcOk N.sup.length (N.arcs.getD j default) = true) (h3 : sum N.sup = 0) (h4 : sum (N.sup.map abs) ≤ 268435456) : chE N = 0 := by
  have : okB N = true := by
    simp only [okB, Bool.and_eq_true, decide_eq_true_eq]
    exact ⟨(getD_all (α := Int)).2 h1, getD_all.2 h2, h3, h4⟩
  simp [chE, hm, this]
theorem chE_many {N : Net} (h : manyB N = true) : chE N = 6 := by simp [chE, h]
end Go.Proofs.Ytmebpglkeedaoaa
