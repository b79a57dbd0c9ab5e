/- Opening a tariff that came in. -/
import Derived.Test.YtafajclbghofkaaA1
import Derived.Test.YtafajclbghofkaaK3
namespace Go.Proofs.Ytafajclbghofkaa
open Go.RowKit
set_option linter.unusedVariables false

theorem bands_of {w : World} {v : Value} (h : v = .slice none 0 0 ∨ ∃ a len cap, v = .slice (some a) len cap ∧ len ≤ cap ∧ cap ≤ maxLen ∧
      ∀ i, i < len → ∃ cs, cs.length = 3 ∧ (∀ j u, cs[j]? = some u → w.cell? ((a.add (i * 3)).add j) = some u) ∧ Rd w (.i .i64 (.i .i64 (.i .i64 .nil))) cs) :
    ∃ (A : Option Addr) (bs : List Bd) (cap : Nat), v = .slice A bs.length cap ∧ bs.length ≤ cap ∧ cap ≤ 9223372036854775807 ∧ BandsAt w A bs := by
  rcases h with rfl | ⟨a, len, cap, rfl, hl, hm, hi⟩
  · exact ⟨none, [], 0, rfl, Nat.le_refl _, by omega, fun i hi => by simp at hi⟩
  · obtain ⟨bs, hbl, hbs⟩ := choose_list (α := Bd) (n := len) (Q := fun i x => w.cell? ((a.add (i * 3)).add 0) = some (.int .i64 x.fr) ∧ w.cell? ((a.add (i * 3)).add 1) = some (.int .i64 x.inn) ∧ w.cell? ((a.add (i * 3)).add 2) = some (.int .i64 x.bk)) (fun i hil => by
      obtain ⟨cs, _, hc, n0, _, rfl, _, n1, _, rfl, _, n2, _, rfl, _, rfl⟩ := hi i hil
      exact ⟨⟨n0, n1, n2⟩, hc 0 _ rfl, hc 1 _ rfl, hc 2 _ rfl⟩)
    refine ⟨some a, bs, cap, by rw [hbl], by omega, by unfold maxLen at hm; omega, fun i hi => ?_⟩
    have hg : bs[i]? = some (bs.getD i default) := by rw [List.getD_eq_getElem?_getD, List.getElem?_eq_getElem hi]; rfl
    obtain ⟨h0, h1, h2⟩ := hbs i _ hg
    rw [add_zero'] at h0
    have hb := World.block_lt_of_cell? _ _ h0
    rw [block_of_add] at hb
    exact ⟨a, rfl, hb, h0, h1, h2⟩
end Go.Proofs.Ytafajclbghofkaa
