/- A slice of spans that came in: its cells. -/
import Derived.Test.YtcneohhfnnelgaaS0
import Derived.Test.YtcneohhfnnelgaaK3
namespace Go.Proofs.Ytcneohhfnnelgaa
open Go.RowKit
set_option linter.unusedVariables false
structure Sp where
  lo : Int
  hi : Int
  deriving Inhabited
theorem block_add (a : Addr) (n : Nat) : (a.add n).block = a.block := by unfold Addr.add; split <;> rfl
/-- a slice's spans -/
def SpAt (w : World) (A : Option Addr) (l : List Sp) : Prop :=
  ∀ i, i < l.length → ∃ ad, A = some ad ∧ ad.block < w.heap.size ∧ w.cell? (ad.add (i * 2)) = some (.int .i64 (l.getD i default).lo) ∧ w.cell? ⟨(ad.add (i * 2)).block, (ad.add (i * 2)).off + 1, none⟩ = some (.int .i64 (l.getD i default).hi)
theorem SpAt.below {w w1 : World} {A : Option Addr} {l : List Sp} (h : SpAt w A l) (hb : Below w.heap.size w w1) : SpAt w1 A l := by
  intro i hi
  obtain ⟨ad, e, hlt, c0, c1⟩ := h i hi
  have hbl : (ad.add (i * 2)).block < w.heap.size := by rw [block_add]; exact hlt
  exact ⟨ad, e, Nat.lt_of_lt_of_le hlt hb.size, (hb.cell hbl).trans c0, (hb.cell (p := ⟨_, _, none⟩) hbl).trans c1⟩
theorem spans_of {w : World} {v : Value} (h : v = .slice none 0 0 ∨ ∃ a len cap, v = .slice (some a) len cap ∧ len ≤ cap ∧ cap ≤ maxLen ∧
      ∀ i, i < len → ∃ cs, cs.length = 2 ∧ (∀ j u, cs[j]? = some u → w.cell? ((a.add (i * 2)).add j) = some u) ∧ Rd w (.i .i64 (.i .i64 .nil)) cs) :
    ∃ (A : Option Addr) (l : List Sp) (cap : Nat), v = .slice A l.length cap ∧ l.length ≤ cap ∧ cap ≤ 9223372036854775807 ∧ SpAt w A l := by
  rcases h with rfl | ⟨a, len, cap, rfl, hl, hm, hi⟩
  · exact ⟨none, [], 0, rfl, Nat.le_refl _, by omega, fun i hi => by simp at hi⟩
  · obtain ⟨bs, hbl, hbs⟩ := choose_list (α := Sp) (n := len) (Q := fun i x => w.cell? ((a.add (i * 2)).add 0) = some (.int .i64 x.lo) ∧ w.cell? ((a.add (i * 2)).add 1) = some (.int .i64 x.hi)) (fun i hil => by
      obtain ⟨cs, _, hc, n0, _, rfl, _, n1, _, rfl, _, rfl⟩ := hi i hil
      exact ⟨⟨n0, n1⟩, hc 0 _ rfl, hc 1 _ rfl⟩)
    refine ⟨some a, bs, cap, by rw [hbl], by omega, by unfold maxLen at hm; omega, fun i hi => ?_⟩
    have hg : bs[i]? = some (bs.getD i default) := by rw [List.getD_eq_getElem?_getD, List.getElem?_eq_getElem hi]; rfl
    obtain ⟨h0, h1⟩ := hbs i _ hg
    rw [add_zero'] at h0
    have hb := World.block_lt_of_cell? _ _ h0
    rw [block_add] at hb
    exact ⟨a, rfl, hb, h0, h1⟩
end Go.Proofs.Ytcneohhfnnelgaa
