/- Two ends in memory, what they have sent and got, and the packets under way. -/
import Derived.Test.YtafajclbghofkaaE1
import Derived.Test.YtafajclbghofkaaN2
namespace Go.Proofs.Ytafajclbghofkaa
open Go.RowKit
set_option linter.unusedVariables false

theorem info66 : (Try.prog.info? 66).map (fun i => (i.zero, i.size, i.bytes)) = some (some (.agg #[.int .i64 0, .bool false, .int .i64 0, .int .i64 0, .int .i64 0, .int .i64 0, .int .i64 0, .int .i64 0, .int .i64 0]), 9, 72) := by kernel_rfl
/-- blocks of two types are two blocks -/
theorem blk_ne {W : World} {g g' : Nat} {t t' : TypeId} {cs cs' : List Value} (h : Blk W g t cs) (h' : Blk W g' t' cs') (ht : t ≠ t') : g ≠ g' := fun e => by
  subst e
  unfold Blk at h h'
  rw [h] at h'
  simp at h'
  exact ht h'.2
theorem row_ne {W : World} {g B n cap sz : Nat} {t e : TypeId} {cs xs : List Value} {A : Option Addr} (h : Blk W g t cs) (h' : W.ownsRow B e sz (.slice A n cap) n xs) (ht : t ≠ e) : ¬ OwnB A g := fun ho => by
  rcases h'.2 with ⟨h2, _⟩ | ⟨k, c, cur, hv, hb, hg, _⟩
  · cases h2; obtain ⟨a, e1, _⟩ := ho; cases e1
  · cases hv
    obtain ⟨a, e1, e2⟩ := ho
    cases e1
    simp at e2
    subst e2
    unfold Blk at h
    rw [h] at hg
    simp at hg
    exact ht hg.2
theorem rows_ne {W : World} {B B' n n' cap cap' sz sz' : Nat} {e e' : TypeId} {xs xs' : List Value} {A A' : Option Addr} (h : W.ownsRow B e sz (.slice A n cap) n xs) (h' : W.ownsRow B' e' sz' (.slice A' n' cap') n' xs') (ht : e ≠ e') {k : Nat} (hk : OwnB A k) : ¬ OwnB A' k := fun ho => by
  rcases h.2 with ⟨h2, _⟩ | ⟨q, c, cur, hv, hb, hg, _⟩
  · cases h2; obtain ⟨a, e1, _⟩ := hk; cases e1
  · rcases h'.2 with ⟨h2, _⟩ | ⟨q', c', cur', hv', hb', hg', _⟩
    · cases h2; obtain ⟨a, e1, _⟩ := ho; cases e1
    · cases hv
      cases hv'
      obtain ⟨a, e1, e2⟩ := hk
      obtain ⟨a', e3, e4⟩ := ho
      cases e1
      cases e3
      simp at e2 e4
      subst e2 e4
      rw [hg] at hg'
      simp at hg'
      exact ht hg'.2
theorem ownE_keep {W W' : World} {S : Nat → Prop} {B n cap sz : Nat} {e : TypeId} {A : Option Addr} {xs : List Value} (h : W.ownsRow B e sz (.slice A n cap) n xs) (ht : Touch S W W') (hn : ∀ k, OwnB A k → ¬ S k) : W'.ownsRow B e sz (.slice A n cap) n xs := by
  refine ⟨h.1, ?_⟩
  rcases h.2 with h2 | ⟨k, c, cur, hv, hb, hg, r⟩
  · exact .inl h2
  · cases hv
    exact .inr ⟨k, cap, cur, rfl, hb, by rw [ht.block k (Array.getElem?_eq_some_iff.1 hg).1 (hn k ⟨_, rfl, rfl⟩)]; exact hg, r⟩
theorem ownE_lt {W : World} {B n cap sz : Nat} {e : TypeId} {A : Option Addr} {xs : List Value} (h : W.ownsRow B e sz (.slice A n cap) n xs) {k : Nat} (hk : OwnB A k) : B ≤ k ∧ k < W.heap.size := by
  rcases h.2 with ⟨h2, _⟩ | ⟨g', c, cur, hv, hb, hg, r⟩
  · cases h2; obtain ⟨a, e, _⟩ := hk; cases e
  · cases hv
    obtain ⟨a, e, rfl⟩ := hk
    cases e
    exact ⟨hb, (Array.getElem?_eq_some_iff.1 hg).1⟩

/-- two lines of charge -/
structure Two (B : Nat) (gx : Nat → Nat) (A : Nat → Option Addr) (c : Nat → Nat) (ln : Nat → Ln) (W : World) : Prop where
  x : ∀ e, e < 2 → LineAt W B (gx e) (A e) (c e) (ln e)
  ne : ∀ e o, e + o = 1 → gx e ≠ gx o
  rows : ∀ e o, e + o = 1 → ∀ k, OwnB (A e) k → ¬ OwnB (A o) k
theorem Two.touch {B : Nat} {gx : Nat → Nat} {A : Nat → Option Addr} {c : Nat → Nat} {ln : Nat → Ln} {W W1 : World} {S : Nat → Prop} (h : Two B gx A c ln W) (ht : Touch S W W1) (h1 : ∀ e, e < 2 → ¬ S (gx e)) (h2 : ∀ e, e < 2 → ∀ k, OwnB (A e) k → ¬ S k) : Two B gx A c ln W1 :=
  ⟨fun e he => (h.x e he).touch ht (h1 e he) (h2 e he), h.ne, h.rows⟩
theorem Two.step {B : Nat} {gx : Nat → Nat} {A : Nat → Option Addr} {c : Nat → Nat} {ln : Nat → Ln} {W W1 : World} (h : Two B gx A c ln W) {e : Nat} (he : e < 2) {l' : Ln} (hl : LineTo W B (gx e) (A e) l' W1) : ∃ A' c', Two B gx (Ar.up A e A') (Ar.up c e c') (Ar.up ln e l') W1 ∧ NewRow W (A e) A' := by
  obtain ⟨⟨A', c', hx, hn⟩, ht⟩ := hl
  have ho : ∀ o, e + o = 1 → LineAt W1 B (gx o) (A o) (c o) (ln o) := fun o hs => (h.x o (by omega)).touch ht
    (fun hk => hk.elim (fun hk => h.ne e o hs hk.symm) (fun hk => row_ne (h.x o (by omega)).blk (h.x e he).own (by decide) hk))
    (fun k hk hk2 => hk2.elim (fun hk2 => row_ne (h.x e he).blk (h.x o (by omega)).own (by decide) (hk2 ▸ hk)) (fun hk2 => h.rows e o hs k hk2 hk))
  refine ⟨A', c', ⟨fun o hlt => ?_, h.ne, fun a b hab k hk hk2 => ?_⟩, hn⟩
  · by_cases hoe : o = e
    · subst hoe; simp only [Ar.up_same]; exact hx
    · simp only [Ar.up_ne _ _ hoe]; exact ho o (by omega)
  · by_cases hae : a = e
    · subst hae
      rw [Ar.up_same] at hk
      rw [Ar.up_ne _ _ (show b ≠ a by omega)] at hk2
      rcases hn k hk with q | q
      · exact h.rows a b hab k q hk2
      · have := (own_lt (h.x b (by omega)).own hk2).2; omega
    · have hbe : b = e := by omega
      subst hbe
      rw [Ar.up_ne _ _ hae] at hk
      rw [Ar.up_same] at hk2
      rcases hn k hk2 with q | q
      · exact h.rows a b hab k hk q
      · have := (own_lt (h.x a (by omega)).own hk).2; omega

/-- a packet under way, as cells -/
def sentV (x : Nat × Pk) : List Value := .int .i64 x.1 :: x.2.cells
def flatS (F : List (Nat × Pk)) : List Value := F.flatMap sentV
theorem flatS_append (a b : List (Nat × Pk)) : flatS (a ++ b) = flatS a ++ flatS b := by simp [flatS]
theorem flatS_length (F : List (Nat × Pk)) : (flatS F).length = F.length * 9 := by
  induction F with
  | nil => rfl
  | cons x F ih =>
    have e : flatS (x :: F) = sentV x ++ flatS F := rfl
    rw [e, List.length_append, ih, List.length_cons]
    simp [sentV, Pk.cells]
    omega
theorem flatS_drop (F : List (Nat × Pk)) : ∀ k, (flatS F).drop (k * 9) = flatS (F.drop k) := by
  induction F with
  | nil => intro k; simp [flatS]
  | cons x F ih =>
    intro k
    cases k with
    | zero => rfl
    | succ k =>
      have e : flatS (x :: F) = sentV x ++ flatS F := rfl
      rw [e, show (k + 1) * 9 = (sentV x).length + k * 9 by simp [sentV, Pk.cells]; omega, ← List.drop_drop, List.drop_left, ih k]
      rfl
theorem flatS_take (F : List (Nat × Pk)) : ∀ k, (flatS F).take (k * 9) = flatS (F.take k) := by
  induction F with
  | nil => intro k; simp [flatS]
  | cons x F ih =>
    intro k
    cases k with
    | zero => simp [flatS]
    | succ k =>
      have e : flatS (x :: F) = sentV x ++ flatS F := rfl
      have e2 : flatS ((x :: F).take (k + 1)) = sentV x ++ flatS (F.take k) := rfl
      rw [e, e2, show (k + 1) * 9 = (sentV x).length + k * 9 by simp [sentV, Pk.cells]; omega, List.take_length_add_append, ih k]
theorem flatS_one' (F : List (Nat × Pk)) : ∀ u ∈ flatS F, u.oneCell' = true := by
  intro u hu
  simp only [flatS, List.mem_flatMap, sentV, Pk.cells] at hu
  obtain ⟨n, _, hu⟩ := hu
  simp at hu
  rcases hu with rfl | rfl | rfl | rfl | rfl | rfl | rfl | rfl | rfl <;> rfl

/-- the state of the law -/
structure ArS (w : World) (ge gs gg : Nat) (gx : Nat → Nat) (A : Nat → Option Addr) (c : Nat → Nat) (s q : Nat → Int) (ln : Nat → Ln) (AF : Option Addr) (cF : Nat) (F : List (Nat × Pk)) (W : World) : Prop where
  two : Two w.heap.size gx A c ln W
  ends : Blk W ge 51 [.pointer (some ⟨gx 0, 0, none⟩), .pointer (some ⟨gx 1, 0, none⟩)]
  sent : Blk W gs 3 [.int .i64 (s 0), .int .i64 (s 1)]
  got : Blk W gg 3 [.int .i64 (q 0), .int .i64 (q 1)]
  fl : W.ownsRow w.heap.size 66 9 (.slice AF F.length cF) F.length (flatS F)
  sg : gs ≠ gg
  b : Below w.heap.size w W
  be : w.heap.size ≤ ge ∧ w.heap.size ≤ gs ∧ w.heap.size ≤ gg
section
variable {w : World} {ge gs gg : Nat} {gx : Nat → Nat} {A : Nat → Option Addr} {c : Nat → Nat} {s q : Nat → Int} {ln : Nat → Ln} {AF : Option Addr} {cF : Nat} {F : List (Nat × Pk)} {W W1 : World}
theorem ArS.below (h : ArS w ge gs gg gx A c s q ln AF cF F W) (hb : Below W.heap.size W W1) : ArS w ge gs gg gx A c s q ln AF cF F W1 := by
  have ht : Touch (fun _ => False) W W1 := Touch.of_below hb
  exact ⟨h.two.touch ht (fun _ _ e => e) (fun _ _ _ _ e => e), h.ends.below hb h.ends.lt, h.sent.below hb h.sent.lt, h.got.below hb h.got.lt, ownE_keep h.fl ht (fun _ _ e => e), h.sg, h.b.trans (hb.mono h.b.size), h.be⟩
theorem ArS.alloc (h : ArS w ge gs gg gx A c s q ln AF cF F W) (o : Obj) : ArS w ge gs gg gx A c s q ln AF cF F (W.alloc o) := h.below ((Below.refl _ _).alloc (Nat.le_refl _) _)
theorem ArS.drew (h : ArS w ge gs gg gx A c s q ln AF cF F W) : ArS w ge gs gg gx A c s q ln AF cF F W.drew := h.below (Below.refl _ _).drew
theorem ArS.drewN (h : ArS w ge gs gg gx A c s q ln AF cF F W) (n : Nat) : ArS w ge gs gg gx A c s q ln AF cF F (W.drewN n) := h.below (below_drewN (Below.refl _ _) n)
/-- something with a line -/
theorem ArS.line (h : ArS w ge gs gg gx A c s q ln AF cF F W) {e : Nat} (he : e < 2) {l' : Ln} (hl : LineTo W w.heap.size (gx e) (A e) l' W1) : ∃ A' c', ArS w ge gs gg gx (Ar.up A e A') (Ar.up c e c') s q (Ar.up ln e l') AF cF F W1 := by
  have ht := hl.2
  obtain ⟨A', c', h2, hn⟩ := h.two.step he hl
  have hx := h.two.x e he
  have hS : ∀ {g : Nat} {t : TypeId} {cs : List Value}, Blk W g t cs → t ≠ 130 → t ≠ 60 → ¬ (g = gx e ∨ OwnB (A e) g) := fun hb h1 h2 hk => hk.elim (fun hk => blk_ne hb hx.blk h1 hk) (fun hk => row_ne hb hx.own h2 hk)
  refine ⟨A', c', h2, h.ends.touch ht (hS h.ends (by decide) (by decide)), h.sent.touch ht (hS h.sent (by decide) (by decide)), h.got.touch ht (hS h.got (by decide) (by decide)), ownE_keep h.fl ht (fun k hk hk2 => ?_), h.sg, Below.touch h.b h.b.size ht (fun k hk => ?_), h.be⟩
  · rcases hk2 with e1 | e1
    · exact row_ne hx.blk h.fl (by decide) (e1 ▸ hk)
    · exact rows_ne h.fl hx.own (by decide) hk e1
  · rcases hk with e1 | e1
    · rw [e1]; exact hx.base
    · exact (own_lt hx.own e1).1
/-- a block of the law's own is written -/
theorem ArS.put (h : ArS w ge gs gg gx A c s q ln AF cF F W) {g : Nat} (ht : Touch (fun k => k = g) W W1) {t : TypeId} {cs : List Value} (hg : Blk W g t cs) (h1 : t ≠ 130) (h2 : t ≠ 60) (h3 : t ≠ 66) (h4 : t ≠ 51) (hb : w.heap.size ≤ g) {s' q' : Nat → Int}
    (hs : Blk W1 gs 3 [.int .i64 (s' 0), .int .i64 (s' 1)]) (hq : Blk W1 gg 3 [.int .i64 (q' 0), .int .i64 (q' 1)]) : ArS w ge gs gg gx A c s' q' ln AF cF F W1 :=
  ⟨h.two.touch ht (fun e he hk => blk_ne (h.two.x e he).blk hg (fun e => h1 e.symm) hk) (fun e he k hk hk2 => row_ne hg (h.two.x e he).own h2 (hk2 ▸ hk)), h.ends.touch ht (fun hk => blk_ne h.ends hg (fun e => h4 e.symm) hk), hs, hq,
    ownE_keep h.fl ht (fun k hk hk2 => row_ne hg h.fl h3 (hk2 ▸ hk)), h.sg, Below.touch h.b h.b.size ht (fun k hk => by omega), h.be⟩
theorem two_set {f : Nat → Int} {e : Nat} (he : e < 2) (v : Int) : [Value.int .i64 (f 0), .int .i64 (f 1)].set e (.int .i64 v) = [.int .i64 (Ar.up f e v 0), .int .i64 (Ar.up f e v 1)] := by
  have h2 : e = 0 ∨ e = 1 := by omega
  rcases h2 with rfl | rfl <;> rfl
theorem ArS.setSent (h : ArS w ge gs gg gx A c s q ln AF cF F W) {e : Nat} (he : e < 2) (v : Int) : ArS w ge gs gg gx A c (Ar.up s e v) q ln AF cF F (W.setCell ⟨gs, e, none⟩ (.int .i64 v)) := by
  refine h.put ((Touch.refl _ _).put e _) h.sent (by decide) (by decide) (by decide) (by decide) h.be.2.1 ?_ (h.got.setCell_ne (fun e1 => h.sg e1.symm) _)
  rw [← two_set he]
  exact h.sent.setCell e _
theorem ArS.setGot (h : ArS w ge gs gg gx A c s q ln AF cF F W) {e : Nat} (he : e < 2) (v : Int) : ArS w ge gs gg gx A c s (Ar.up q e v) ln AF cF F (W.setCell ⟨gg, e, none⟩ (.int .i64 v)) := by
  refine h.put ((Touch.refl _ _).put e _) h.got (by decide) (by decide) (by decide) (by decide) h.be.2.2 (h.sent.setCell_ne h.sg _) ?_
  rw [← two_set he]
  exact h.got.setCell e _
/-- the packets under way are others -/
theorem ArS.flight (h : ArS w ge gs gg gx A c s q ln AF cF F W) {AF' : Option Addr} {cF' : Nat} {F' : List (Nat × Pk)} (ht : Touch (fun k => OwnB AF k) W W1) (hf : W1.ownsRow w.heap.size 66 9 (.slice AF' F'.length cF') F'.length (flatS F')) : ArS w ge gs gg gx A c s q ln AF' cF' F' W1 :=
  ⟨h.two.touch ht (fun e he hk => row_ne (h.two.x e he).blk h.fl (by decide) hk) (fun e he k hk hk2 => rows_ne h.fl (h.two.x e he).own (by decide) hk2 hk), h.ends.touch ht (row_ne h.ends h.fl (by decide)), h.sent.touch ht (row_ne h.sent h.fl (by decide)), h.got.touch ht (row_ne h.got h.fl (by decide)), hf, h.sg,
    Below.touch h.b h.b.size ht (fun k hk => (ownE_lt h.fl hk).1), h.be⟩
end
end Go.Proofs.Ytafajclbghofkaa
