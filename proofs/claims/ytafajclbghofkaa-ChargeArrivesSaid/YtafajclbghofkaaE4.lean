/- For a packet that arrives: the note the round keeps. -/
import Derived.Test.YtafajclbghofkaaE3
namespace Go.Proofs.Ytafajclbghofkaa
open Go.RowKit
set_option linter.unusedVariables false
section
variable {w : World} {ge gs gg : Nat} {gx : Nat → Nat} {A : Nat → Option Addr} {c : Nat → Nat} {s q : Nat → Int} {ln : Nat → Ln} {AF : Option Addr} {cF : Nat} {F : List (Nat × Pk)} {W : World}
def ntV (n : Nt) : List Value := [.int .i64 n.k, .int .i64 n.s, .int .i64 n.a, .int .i64 n.b, .int .i64 n.c]
/-- the round's note is laid into its block -/
theorem ArS.note5 (h : ArS w ge gs gg gx A c s q ln AF cF F W) {b g : Nat} {cs : List Value} (hs : Blk W b 66 cs) (hn : Blk W g 60 [.int .i64 0, .int .i64 0, .int .i64 0, .int .i64 0, .int .i64 0]) (hr : ∀ a, a < 2 → ∀ k, OwnB (A a) k → k ≠ g) (hb : w.heap.size ≤ g) (n : Nt) :
    ArS w ge gs gg gx A c s q ln AF cF F (((((W.setCell ⟨g, 0, none⟩ (.int .i64 n.k)).setCell ⟨g, 1, none⟩ (.int .i64 n.s)).setCell ⟨g, 2, none⟩ (.int .i64 n.a)).setCell ⟨g, 3, none⟩ (.int .i64 n.b)).setCell ⟨g, 4, none⟩ (.int .i64 n.c)) ∧
    Blk (((((W.setCell ⟨g, 0, none⟩ (.int .i64 n.k)).setCell ⟨g, 1, none⟩ (.int .i64 n.s)).setCell ⟨g, 2, none⟩ (.int .i64 n.a)).setCell ⟨g, 3, none⟩ (.int .i64 n.b)).setCell ⟨g, 4, none⟩ (.int .i64 n.c)) b 66 cs ∧
    Blk (((((W.setCell ⟨g, 0, none⟩ (.int .i64 n.k)).setCell ⟨g, 1, none⟩ (.int .i64 n.s)).setCell ⟨g, 2, none⟩ (.int .i64 n.a)).setCell ⟨g, 3, none⟩ (.int .i64 n.b)).setCell ⟨g, 4, none⟩ (.int .i64 n.c)) g 60 (ntV n) := by
  have ht := ((((((Touch.refl (fun k => k = g) W).put 0 (.int .i64 n.k)).put 1 (.int .i64 n.s)).put 2 (.int .i64 n.a)).put 3 (.int .i64 n.b)).put 4 (.int .i64 n.c))
  exact ⟨h.put60 ht hn hr hb, hs.touch ht (fun hk => blk_ne hs hn (by decide) hk), ((((hn.setCell 0 _).setCell 1 _).setCell 2 _).setCell 3 _).setCell 4 _⟩
/-- the round's note in a new block -/
theorem ArS.noteN (h : ArS w ge gs gg gx A c s q ln AF cF F W) {b : Nat} {cs : List Value} (hs : Blk W b 66 cs) (n : Nt) :
    ArS w ge gs gg gx A c s q ln AF cF F (W.alloc (.cells #[.int .i64 n.k, .int .i64 n.s, .int .i64 n.a, .int .i64 n.b, .int .i64 n.c] 60)) ∧
    Blk (W.alloc (.cells #[.int .i64 n.k, .int .i64 n.s, .int .i64 n.a, .int .i64 n.b, .int .i64 n.c] 60)) b 66 cs ∧
    Blk (W.alloc (.cells #[.int .i64 n.k, .int .i64 n.s, .int .i64 n.a, .int .i64 n.b, .int .i64 n.c] 60)) W.heap.size 60 (ntV n) := ⟨h.alloc _, hs.alloc _, Blk.new' _ _ _⟩
theorem then_noteN {K : Act → World → Prop} {Q : Exit → Act → World → Prop} {a : Act} {b : Nat} {cs : List Value} {n : Nt} (h : ArS w ge gs gg gx A c s q ln AF cF F W) (hs : Blk W b 66 cs)
    (k : ∀ W2, ArS w ge gs gg gx A c s q ln AF cF F W2 → Blk W2 b 66 cs → Blk W2 W.heap.size 60 (ntV n) → Exit.then K Q .normal a W2) :
    Exit.then K Q .normal a (W.alloc (.cells #[.int .i64 n.k, .int .i64 n.s, .int .i64 n.a, .int .i64 n.b, .int .i64 n.c] 60)) :=
  have t := h.noteN hs n
  k _ t.1 t.2.1 t.2.2
theorem then_note5 {K : Act → World → Prop} {Q : Exit → Act → World → Prop} {a : Act} {b g : Nat} {cs : List Value} {n : Nt} (h : ArS w ge gs gg gx A c s q ln AF cF F W) (hs : Blk W b 66 cs) (hn : Blk W g 60 [.int .i64 0, .int .i64 0, .int .i64 0, .int .i64 0, .int .i64 0]) (hr : ∀ a, a < 2 → ∀ k, OwnB (A a) k → k ≠ g) (hb : w.heap.size ≤ g)
    (k : ∀ W2, ArS w ge gs gg gx A c s q ln AF cF F W2 → Blk W2 b 66 cs → Blk W2 g 60 (ntV n) → Exit.then K Q .normal a W2) :
    Exit.then K Q .normal a (((((W.setCell ⟨g, 0, none⟩ (.int .i64 n.k)).setCell ⟨g, 1, none⟩ (.int .i64 n.s)).setCell ⟨g, 2, none⟩ (.int .i64 n.a)).setCell ⟨g, 3, none⟩ (.int .i64 n.b)).setCell ⟨g, 4, none⟩ (.int .i64 n.c)) :=
  have t := h.note5 hs hn hr hb n
  k _ t.1 t.2.1 t.2.2
end
end Go.Proofs.Ytafajclbghofkaa
