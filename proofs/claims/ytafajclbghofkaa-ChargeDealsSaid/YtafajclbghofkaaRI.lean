/- General: a region that draws its order, in a round of a range over a function (wide fence), by the plain moves. -/
import Derived.Test.YtafajclbghofkaaR2
import Derived.RangeFuncNested
import Derived.RangeFuncLeaves
import Derived.RangeFuncWrites
import Derived.RangeFuncCalls
import Derived.OrdersIn
namespace Go.Proofs.Ytafajclbghofkaa
open Go Go.RowKit
set_option linter.unusedVariables false
section
variable {P : Program} {Q : Exit → Act → World → Prop} {md : Region.Mode}
def noDefer (l : List Oper) : Bool := l.all fun o => match o.op with | .defer _ => false | _ => true
theorem noDefer_spec {l : List Oper} (h : noDefer l = true) {o : Oper} (ho : o ∈ l) (c : Call) : o.op ≠ .defer c := by
  intro e
  have := List.all_eq_true.1 h o ho
  rw [e] at this
  cases this
theorem oper_round {o : Oper} {a : Act} {w : World} {K : Act → World → Prop} (k n : Nat) (hd : ∀ c, o.op ≠ .defer c) (h : Oper.wp P o a w K Q) : Oper.wpIn (Fence.wide.inRound k) n P o a w K Q := by
  unfold Oper.wpIn
  refine ⟨fun _ _ => trivial, ?_⟩
  rw [show (Fence.wide.inRound k).round = some k from rfl, Oper.semAt_some k _ _ hd]
  unfold Oper.wp at h
  generalize (execOp a.eval o).run P w = r at *
  cases r with
  | ok x w' =>
    cases x <;> simp only [Oper.upon, Oper.uponIn] at h ⊢
    case value => exact h
    case skip => exact h
    case defer => exact h
    case enter f args => exact ⟨fun e => (by cases e), CallsIn.inRound k (callsIn_wide.2 h)⟩
    case row row args =>
      refine ⟨fun e => (by cases e), fun c cs _ => ?_⟩
      obtain ⟨v, w'', hR, hs⟩ := h c cs
      exact ⟨v, w'', hR, stepsIn_wide.2 hs⟩
  | halt x w' =>
    cases x <;> simp only [Oper.upon, Oper.uponIn] at h ⊢
    case panic => exact h
theorem wpOp_round {l : List Oper} {i : Nat} {a : Act} {w : World} {K : Act → World → Prop} (k n : Nat) (hq : ¬ LetsOut Q) (hd : noDefer l = true) (h : wpOp P l.toArray Q i K a w) : wpOpIn (Fence.wide.inRound k) n P l.toArray Q i K a w := by
  unfold wpOp at h
  unfold wpOpIn
  cases ho : l.toArray[i]? with
  | none => simpa [ho] using h
  | some o =>
    simp only [ho] at h ⊢
    have hm : o ∈ l := by simpa using Array.mem_of_getElem? ho
    split
    · rename_i hw
      rw [if_pos hw] at h
      exact oper_round k n (noDefer_spec hd hm) (h.resolve_right (fun h' => hq h'.2))
    · rename_i hw
      rw [if_neg hw] at h
      exact ⟨fun _ _ => trivial, h⟩
theorem wpAny_round {l : List Oper} (k n : Nat) (hq : ¬ LetsOut Q) (hd : noDefer l = true) : ∀ (fuel : Nat) (listed : Array Bool) (a : Act) (w : World), wpAny P md l.toArray Q fuel listed a w → wpAnyIn (Fence.wide.inRound k) n P md l.toArray Q fuel listed a w
  | 0, _, _, _, h => h
  | fuel + 1, listed, a, w, h => ⟨h.1, fun i hi => wpOpIn_mono (fun a' w' h' => wpAny_round k n hq hd fuel _ a' w' h') (wpOp_round k n hq hd (h.2 i hi))⟩
theorem lBeginIn {l : List Oper} {S : Array Bool → World → Prop} {id k n : Nat} {a : Act} {w : World} (hm : P.follows .mixedOrders = true) (hd : noDefer l = true) (hq : ¬ LetsOut Q) (hS : S (Array.replicate l.length false) w.drew)
    (h : S (Array.replicate l.length false) w.drew → GoL P .any l Q S l.length (Array.replicate l.length false) a w.drew) : (Code.region id l.toArray true).wpIn (Fence.wide.inRound k) n P Q a w := by
  refine wpIn_region_any hm ?_
  have h1 := AnyL.any _ _ _ _ (h hS (fun j oj hj hl => by
    rw [Array.getD_eq_getD_getElem?, Array.getElem?_replicate] at hl
    split at hl <;> cases hl))
  have e : l.toArray.size = l.length := by simp
  rw [e]
  exact wpAny_round k n hq hd _ _ _ _ h1
end
end Go.Proofs.Ytafajclbghofkaa
