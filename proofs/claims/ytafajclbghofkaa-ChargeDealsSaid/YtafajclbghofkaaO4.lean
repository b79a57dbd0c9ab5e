/- Opening a deal and a contract that came in. -/
import Derived.Test.YtafajclbghofkaaO1
import Derived.Test.YtafajclbghofkaaG2
namespace Go.Proofs.Ytafajclbghofkaa
open Go.RowKit
set_option linter.unusedVariables false
theorem u64_bd0 {a : Int} (h : (Lit.int .u64 a).wf = true) : 0 ≤ a := by
  have h1 : IntKind.u64.min = 0 := rfl
  simp only [Lit.wf, Bool.and_eq_true, decide_eq_true_eq] at h
  omega
theorem pads_of {w : World} {v : Value} (h : v = .slice none 0 0 ∨ ∃ a len cap, v = .slice (some a) len cap ∧ len ≤ cap ∧ cap ≤ maxLen ∧
      ∀ i, i < len → ∃ cs, cs.length = 1 ∧ (∀ j u, cs[j]? = some u → w.cell? ((a.add (i * 1)).add j) = some u) ∧ Rd w (.i .u64 .nil) cs) :
    ∃ (A : Option Addr) (ps : List Int) (cap : Nat), v = .slice A ps.length cap ∧ ps.length ≤ cap ∧ cap ≤ 9223372036854775807 ∧ (∀ x ∈ ps, 0 ≤ x) ∧ PadsAt w A ps := by
  rcases h with rfl | ⟨a, len, cap, rfl, hl, hm, hi⟩
  · exact ⟨none, [], 0, rfl, Nat.le_refl _, by omega, fun x hx => (by cases hx), fun i hi => by simp at hi⟩
  · obtain ⟨ps, hbl, hbs⟩ := choose_list (α := Int) (n := len) (Q := fun i x => w.cell? (a.add i) = some (.int .u64 x) ∧ 0 ≤ x) (fun i hil => by
      obtain ⟨cs, _, hc, n0, _, rfl, w0, rfl⟩ := hi i hil
      have h0 := hc 0 _ rfl
      rw [add_zero', Nat.mul_one] at h0
      exact ⟨n0, h0, u64_bd0 w0⟩)
    refine ⟨some a, ps, cap, by rw [hbl], by omega, by unfold maxLen at hm; omega, fun x hx => ?_, fun i hi => ?_⟩
    · obtain ⟨i, hil, rfl⟩ := List.getElem_of_mem hx
      exact (hbs i _ (List.getElem?_eq_getElem hil)).2
    · have hg : ps[i]? = some (ps.getD i 0) := by rw [List.getD_eq_getElem?_getD, List.getElem?_eq_getElem hi]; rfl
      obtain ⟨h0, _⟩ := hbs i _ hg
      have hb := World.block_lt_of_cell? _ _ h0
      rw [block_of_add] at hb
      exact ⟨a, rfl, hb, h0⟩
theorem cts_of {w : World} {v : Value} (h : v = .slice none 0 0 ∨ ∃ a len cap, v = .slice (some a) len cap ∧ len ≤ cap ∧ cap ≤ maxLen ∧
      ∀ i, i < len → ∃ cs, cs.length = 2 ∧ (∀ j u, cs[j]? = some u → w.cell? ((a.add (i * 2)).add j) = some u) ∧ Rd w (.i .u64 (.s 1 (.i .u64 .nil) .nil)) cs) :
    ∃ (C : Option Addr) (cs : List Ct) (cap : Nat), v = .slice C cs.length cap ∧ cs.length ≤ cap ∧ cap ≤ 9223372036854775807 ∧ CtsAt w C cs := by
  rcases h with rfl | ⟨a, len, cap, rfl, hl, hm, hi⟩
  · exact ⟨none, [], 0, rfl, Nat.le_refl _, by omega, fun i hi => by simp at hi⟩
  · obtain ⟨cs, hbl, hbs⟩ := choose_list (α := Ct) (n := len) (Q := fun i x => w.cell? ((a.add (i * 2)).add 0) = some (.int .u64 x.pt) ∧ w.cell? ((a.add (i * 2)).add 1) = some (.slice x.A x.ps.length x.cap) ∧ Ct.At w x) (fun i hil => by
      obtain ⟨vs, _, hc, n0, _, rfl, w0, vp, _, rfl, rfl, hp⟩ := hi i hil
      obtain ⟨B, ps, bc, rfl, h1, h2, h3, h4⟩ := pads_of hp
      exact ⟨⟨n0, B, bc, ps⟩, hc 0 _ rfl, hc 1 _ rfl, h4, h1, h2⟩)
    refine ⟨some a, cs, cap, by rw [hbl], by omega, by unfold maxLen at hm; omega, fun i hi => ?_⟩
    have hg : cs[i]? = some (cs.getD i default) := by rw [List.getD_eq_getElem?_getD, List.getElem?_eq_getElem hi]; rfl
    obtain ⟨h0, h1, h2⟩ := hbs i _ hg
    rw [add_zero'] at h0
    have hb := World.block_lt_of_cell? _ _ h0
    rw [block_of_add] at hb
    exact ⟨a, rfl, hb, h0, h1, h2⟩
end Go.Proofs.Ytafajclbghofkaa
