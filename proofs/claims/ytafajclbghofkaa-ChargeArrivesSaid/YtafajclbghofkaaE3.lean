/- For a packet that arrives: what stays, and what the round leaves. -/
import Derived.Test.YtafajclbghofkaaE2
namespace Go.Proofs.Ytafajclbghofkaa
open Go.RowKit
set_option linter.unusedVariables false
section
variable {w : World} {ge gs gg : Nat} {gx : Nat → Nat} {A : Nat → Option Addr} {c : Nat → Nat} {s q : Nat → Int} {ln : Nat → Ln} {AF : Option Addr} {cF : Nat} {F : List (Nat × Pk)} {W W1 : World}
/-- a block of another kind is as it was behind something with a line -/
theorem ArS.line_blk (h : ArS w ge gs gg gx A c s q ln AF cF F W) {e : Nat} (he : e < 2) {l' : Ln} (hl : LineTo W w.heap.size (gx e) (A e) l' W1) {g : Nat} {t : TypeId} {cs : List Value} (hg : Blk W g t cs) (h1 : t ≠ 130) (h2 : t ≠ 60) : Blk W1 g t cs :=
  hg.touch hl.2 (fun hk => hk.elim (fun hk => blk_ne hg (h.two.x e he).blk h1 hk) (fun hk => row_ne hg (h.two.x e he).own h2 hk))
/-- a new block of notes is as it was behind something with a line, and lies in no row -/
theorem ArS.line_new (h : ArS w ge gs gg gx A c s q ln AF cF F W) (o : Obj) {e : Nat} (he : e < 2) {l' : Ln} (hl : LineTo (W.alloc o).drew w.heap.size (gx e) (A e) l' W1) {cs : List Value} (hg : Blk (W.alloc o).drew W.heap.size 60 cs) :
    ∃ A' c', ArS w ge gs gg gx (Ar.up A e A') (Ar.up c e c') s q (Ar.up ln e l') AF cF F W1 ∧ Blk W1 W.heap.size 60 cs ∧ ∀ a, a < 2 → ∀ k, OwnB (Ar.up A e A' a) k → k ≠ W.heap.size := by
  have h' := (h.alloc o).drew
  obtain ⟨A', c', h2, hn⟩ := h'.two.step he hl
  obtain ⟨A2, c2, h3⟩ := h'.line he hl
  have hx := h.two.x e he
  have hr : ∀ a, a < 2 → ∀ k, OwnB (A a) k → k < W.heap.size := fun a ha k hk => (own_lt (h.two.x a ha).own hk).2
  have hgx : W.heap.size ≠ gx e := by have := hx.blk.lt; omega
  have hb := hg.touch hl.2 (fun hk => hk.elim (fun hk => hgx hk) (fun hk => by have := hr e he _ hk; omega))
  refine ⟨A', c', ⟨h2, h3.ends, h3.sent, h3.got, h3.fl, h3.sg, h3.b, h3.be⟩, hb, fun a ha k hk => ?_⟩
  by_cases hae : a = e
  · subst hae
    rw [Ar.up_same] at hk
    rcases hn k hk with q | q
    · have := hr a ha k q; omega
    · simp at q; omega
  · rw [Ar.up_ne _ _ hae] at hk
    have := hr a ha k hk; omega
/-- a block of notes that lies in no row is written -/
theorem ArS.put60 (h : ArS w ge gs gg gx A c s q ln AF cF F W) {g : Nat} (ht : Touch (fun k => k = g) W W1) {cs : List Value} (hg : Blk W g 60 cs) (hr : ∀ a, a < 2 → ∀ k, OwnB (A a) k → k ≠ g) (hb : w.heap.size ≤ g) : ArS w ge gs gg gx A c s q ln AF cF F W1 :=
  ⟨h.two.touch ht (fun e he hk => blk_ne (h.two.x e he).blk hg (by decide) hk) (fun e he k hk hk2 => hr e he k hk hk2), h.ends.touch ht (fun hk => blk_ne h.ends hg (by decide) hk), h.sent.touch ht (fun hk => blk_ne h.sent hg (by decide) hk), h.got.touch ht (fun hk => blk_ne h.got hg (by decide) hk),
    ownE_keep h.fl ht (fun k hk hk2 => row_ne hg h.fl (by decide) (hk2 ▸ hk)), h.sg, Below.touch h.b h.b.size ht (fun k hk => by omega), h.be⟩
theorem boxS {W : World} {b : Nat} {f : Nat} {p : Pk} (h : Blk W b 66 (sentV (f, p))) : W.cell? ⟨b, 1, none⟩ = some (.bool p.has) ∧ W.cell? ⟨b, 2, none⟩ = some (.int .i64 p.nu) ∧ W.cell? ⟨b, 3, none⟩ = some (.int .i64 p.nt.k) ∧ W.cell? ⟨b, 4, none⟩ = some (.int .i64 p.nt.s) ∧ W.cell? ⟨b, 5, none⟩ = some (.int .i64 p.nt.a) ∧
    W.cell? ⟨b, 6, none⟩ = some (.int .i64 p.nt.b) ∧ W.cell? ⟨b, 7, none⟩ = some (.int .i64 p.nt.c) ∧ W.cell? ⟨b, 8, none⟩ = some (.int .i64 p.ak) :=
  ⟨h.cell 1 rfl, h.cell 2 rfl, h.cell 3 rfl, h.cell 4 rfl, h.cell 5 rfl, h.cell 6 rfl, h.cell 7 rfl, h.cell 8 rfl⟩
end
/-- a note and itself do not differ -/
theorem runNtNe (w : World) (a b c e f : Int) : (binOp .neq 60 (.agg #[.int .i64 a, .int .i64 b, .int .i64 c, .int .i64 e, .int .i64 f]) (.agg #[.int .i64 a, .int .i64 b, .int .i64 c, .int .i64 e, .int .i64 f])).run Try.prog w = .ok (.bool false) w := by
  rw [run_neq_struct, eqNt 9998]; rfl
end Go.Proofs.Ytafajclbghofkaa
