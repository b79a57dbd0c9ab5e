/- Rows of numbers of the call's own; the contract of the reference's cost. -/
import Derived.Test.YtmebpglkeedaoaaC4
namespace Go.Proofs.Ytmebpglkeedaoaa
open Go.RowKit Dp
set_option linter.unusedVariables false

theorem OwnI.cell {B : Nat} {W : World} {g c : Nat} {xs : List Int} (h : OwnI B W g c xs) (j : Nat) (hj : j < xs.length) : W.cell? ⟨g, j, none⟩ = some (.int .i64 (xs.getD j 0)) := by
  rw [World.ownsRow.cellAt h j (by omega), List.getElem?_map, List.getElem?_eq_getElem hj, List.getD_eq_getElem?_getD, List.getElem?_eq_getElem hj]
  rfl
theorem OwnI.free {B : Nat} {W : World} {g c : Nat} {xs : List Int} (h : OwnI B W g c xs) (j : Nat) : W.frozen? ⟨g, j, none⟩ = false := World.ownsRow.frozenAt h j
theorem OwnI.put {B : Nat} {W : World} {g c : Nat} {xs : List Int} (h : OwnI B W g c xs) (j : Nat) (v : Int) : OwnI B (W.setCell ⟨g, j, none⟩ (.int .i64 v)) g c (xs.set j v) := by
  have := (World.ownsRow.stored h j (.int .i64 v)).1
  unfold OwnI
  rw [List.length_set, List.map_set]
  exact this
theorem OwnI.below {B : Nat} {W W' : World} {g c : Nat} {xs : List Int} (h : OwnI B W g c xs) (hb : Below W.heap.size W W') : OwnI B W' g c xs := ownBelow h hb
theorem OwnI.lt {B : Nat} {W : World} {g c : Nat} {xs : List Int} (h : OwnI B W g c xs) : B ≤ g ∧ g < W.heap.size := World.ownsRow.lt h g rfl
theorem OwnI.mono {B B' : Nat} {W : World} {g c : Nat} {xs : List Int} (h : OwnI B W g c xs) (hb : B' ≤ B) : OwnI B' W g c xs := ⟨h.1, h.2.imp id (fun ⟨k, c, cur, hv, hb', r⟩ => ⟨k, c, cur, hv, Nat.le_trans hb hb', r⟩)⟩
end Go.Proofs.Ytmebpglkeedaoaa
