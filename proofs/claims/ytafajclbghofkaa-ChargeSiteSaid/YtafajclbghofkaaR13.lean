/- General: a step of a drawn region that makes a block: the block and the world behind it are named. -/
import Derived.Test.YtafajclbghofkaaH2
namespace Go.Proofs.Ytafajclbghofkaa
open Go Go.RowKit
set_option linter.unusedVariables false
section
variable {P : Program} {w : World}
theorem step_new {ops : Array Oper} {o : Oper} {a : Act} {K : Act → World → Prop} {Q : Exit → Act → World → Prop} {E : Prop} (O : Obj) (vf : Nat → Value)
    (hgd : o.guard = none) (hsp : (execOp a.eval o).run P w = .ok (.value (vf w.heap.size)) (w.alloc O))
    (h : ∀ g w', w.heap.size ≤ g → w'.heap[g]? = some O → Below w.heap.size w w' → K (a.put o.dst (vf g)) w') :
    if Region.wanted o (yielded ops a.tmps) = true then Oper.wp P o a w K Q else E := by
  have hw : Region.wanted o (yielded ops a.tmps) = true := by simp [Region.wanted, hgd]
  rw [if_pos hw]
  unfold Oper.wp
  rw [hsp]
  exact h _ _ (Nat.le_refl _) (by show (w.heap.push O)[w.heap.size]? = _; simp) ((Below.refl _ _).alloc (Nat.le_refl _) _)
/-- what lay below still does, behind two steps -/
theorem bel_bel {a w w' : World} (h : Below a.heap.size a w) (k : Below w.heap.size w w') : Below a.heap.size a w' := h.trans (k.mono h.size)
theorem blk_bel {W W' : World} {g : Nat} {t : TypeId} {cs : List Value} (hb : Below W.heap.size W W') (h : Blk W g t cs) : Blk W' g t cs := h.touch (Touch.of_below (S := fun _ => False) hb) (fun e => e)
end
end Go.Proofs.Ytafajclbghofkaa
