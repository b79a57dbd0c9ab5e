/- General: a range over a function whose iterator may know what the caller's rounds keep, and may draw and make memory (one way of leaving a round). -/
import Derived.RangeFuncNested
import Derived.RangeFuncLeaves
import Derived.RangeFuncWrites
namespace Go.Proofs.Ytafajclbghofkaa
open Go Go.RowKit
set_option linter.unusedVariables false

/-- how a round is left: it goes on, or it leaves by c -/
def rgPost {α : Type} (B : Nat) (I : List α → World → Prop) (c : Code) (Ix : List α → World → Prop) (pre : List α) (x : α) (W : World) : Exit → Act → World → Prop
  | .normal, _, W' => KeepsFrom B W W' ∧ I (pre ++ [x]) W'
  | .exit id, _, W' => c = .exit id ∧ KeepsFrom B W W' ∧ Ix (pre ++ [x]) W'
  | _, _, _ => False

theorem range_mine2 {α : Type} {F : Fence} {n : Nat} {P : Program} {g : Operand} {ps : Array Tmp} {assign body : Code} {Q : Exit → Act → World → Prop} {a : Act} {w : World}
    (hro : F.round = none) (h1 : 1 ≤ n) {gf : Nat} {lb : Array Value} (hg : a.eval g = .func (.func gf) #[] lb) (hFg : F.fn gf) (eg : ∀ args w, (callFunc gf args).run P w = .ok (.enter gf args) w)
    {encs : α → Array Value} (hps : ∀ x, (encs x).size = ps.size) (I Ix : List α → World → Prop) (c : Code) (S Sp : List α → Prop) (Ok : List α → α → Prop)
    (hI : OwnFrom w.heap.size I) (hIx : OwnFrom w.heap.size Ix) (h0 : I [] w)
    (hseq : ∀ (l : Nat) (J Jx : List α → World → Prop) (W : World), (∀ pre W, J pre W → I pre W) → (∀ pre W W', J pre W → W.grownBy W' none → J pre W') →
      (∀ pre x W1, J pre W1 → Ok pre x → YieldAt F (n - 1 - 1) P l (encs x) W1 fun e W' => (e = .returned (.bool true) ∧ J (pre ++ [x]) W') ∨ (e = .returned (.bool false) ∧ Jx (pre ++ [x]) W')) →
      J [] W → CallsIn F (n - 1) P gf (#[.func (.yield l) #[] #[]] ++ lb) W fun e W' => (∃ v, e = .returned v) ∧ ((∃ xs, S xs ∧ J xs W') ∨ (∃ pre, Sp pre ∧ Jx pre W')))
    (a₁ : α → Act)
    (hassign : ∀ (l : Nat) (x : α) (W : World) (K : Act → World → Prop), K (a₁ x) W →
      assign.wpIn (F.inRound l) (n - 1 - 1) P (Exit.then K (fun _ _ _ => False)) { tmps := (ps.zip (encs x)).foldl (fun t (p, v) => t.setIfInBounds p v) a.tmps, defers := [] } W)
    (hbody : ∀ (l : Nat) (pre : List α) (x : α) (W : World), I pre W → Ok pre x → body.wpIn (F.inRound l) (n - 1 - 1) P (rgPost w.heap.size I c Ix pre x W) (a₁ x) W)
    (hdone : ∀ (D : Nat) (xs : List α) (W : World), w.heap.size ≤ D → S xs → I xs W → W.heap[D]? = some (.deferred (some [])) → Q .normal { a with defers := { target := .collected D, args := #[] } :: a.defers } W)
    (hstop : ∀ (D : Nat) (pre : List α) (W : World), w.heap.size ≤ D → Sp pre → Ix pre W → W.heap[D]? = some (.deferred (some [])) → c.wpIn F n P Q { a with defers := { target := .collected D, args := #[] } :: a.defers } W) :
    (Code.rangeFunc g ps assign body).wpIn F n P Q a w := by
  refine wpIn_rangeFunc fun fn hfn => ?_
  rw [hro]
  -- the two blocks of the loop
  generalize hd : w.heap.size = d at *
  obtain ⟨rec, hrec⟩ : ∃ rec : LoopState → Option Code → Loop, rec = fun st pe => { state := st, pending := pe, fn, tmps := a.tmps, params := ps, assign, body, defers := d } := ⟨_, rfl⟩
  obtain ⟨W1, hW1⟩ : ∃ W1, (w.alloc (.deferred (some []))).alloc (.loop (rec .ready none)) = W1 := ⟨_, rfl⟩
  have eL : W1.heap[d + 1]? = some (.loop (rec .ready none)) := by
    rw [← hW1, ← hd]
    have h := World.alloc_heap_new (w.alloc (.deferred (some []))) (.loop (rec .ready none))
    rwa [World.size_alloc] at h
  have eD : W1.heap[d]? = some (.deferred (some [])) := by
    rw [← hW1, ← hd]
    exact (Below.heap_alloc _ _ _ (by simp)).trans (World.alloc_heap_new w _)
  have i1 : I [] W1 := by rw [← hW1]; exact hI.alloc _ (hI.alloc _ h0)
  -- a turn of the record keeps what is kept
  have turn : ∀ {W : World} {o : Obj} (o' : Obj), W.heap[d + 1]? = some o → (W.putObj (d + 1) o').heap[d + 1]? = some o' ∧ ((W.putObj (d + 1) o').heap[d]? = W.heap[d]?) :=
    fun {W o} o' h => ⟨World.putObj_heap_same (Array.getElem?_eq_some_iff.1 h).1, World.putObj_heap_other (by omega)⟩
  refine ⟨d + 1, [{ target := .collected d, args := #[] }], W1, { target := .fn (.func gf) lb, args := #[.func (.yield (d + 1)) #[] #[]] }, W1, gf, #[.func (.yield (d + 1)) #[] #[]] ++ lb, W1, ?_, ?_, ?_, ?_, fun _ => h1, ?_⟩
  · rw [← hW1, hrec, ← hd]; exact run_enterLoop_outer _ _ _ _ _
  · simp only [resolve, hg]; simp [go_sem]
  · intro f' hf'
    simp [Target.leads] at hf'
    subst hf'
    exact hFg
  · simp [invoke, go_sem, eg]
  · refine (hseq (d + 1) (fun pre W => I pre W ∧ W.heap[d + 1]? = some (.loop (rec .ready none)) ∧ W.heap[d]? = some (.deferred (some [])))
      (fun pre W => Ix pre W ∧ W.heap[d + 1]? = some (.loop (rec .done (some c))) ∧ W.heap[d]? = some (.deferred (some []))) W1 (fun pre W h => h.1) (fun pre W W' h hg => ⟨hI pre W W' none h.1 hg (fun r e => by cases e), (hg.block _ (Array.getElem?_eq_some_iff.1 h.2.1).1 (by simp)).trans h.2.1, (hg.block _ (Array.getElem?_eq_some_iff.1 h.2.2).1 (by simp)).trans h.2.2⟩) ?_ ⟨i1, eL, eD⟩).mono ?_
    · rintro pre x W ⟨hi, hl, hk⟩ hok
      have hy := run_yield (P := P) (args := encs x) hl (by rw [hrec]; exact hps x)
      rw [hrec] at hy
      obtain ⟨W2, hW2⟩ : ∃ W2, W.putObj (d + 1) (.loop { rec .ready none with state := .busy }) = W2 := ⟨_, rfl⟩
      have hb := run_beginRound (P := P) hl (by rw [hrec])
      rw [hW2] at hb
      have t := turn (.loop { rec .ready none with state := .busy }) hl
      rw [hW2] at t
      have i2 : I pre W2 := by rw [← hW2]; exact hI.putObj _ hi (by omega) hl rfl
      refine ⟨fn, _, assign, body, hy, roundIn_of_wpIn hfn (hassign _ x W _ ⟨W2, hb, wpIn_mono (hbody _ pre x _ i2 hok) ?_⟩)⟩
      -- the end of the round, by the way in which it is left
      have close : ∀ (j : Option Code) (W3 : World), KeepsFrom d W2 W3 → ∃ W4, (Instr.endRound (d + 1) j).run P W3 = .ok (.bool j.isNone) W4 ∧ W4 = W3.putObj (d + 1) (.loop (rec (if j.isNone then .ready else .done) j)) ∧
          W3.heap[d + 1]? = some (.loop { rec .ready none with state := .busy }) ∧ W4.heap[d + 1]? = some (.loop (rec (if j.isNone then .ready else .done) j)) ∧ W4.heap[d]? = some (.deferred (some [])) := fun j W3 hk3 => by
        have l3 := hk3.same _ _ (by omega) t.1 rfl
        have k3 := hk3.same _ _ (by omega) (t.2.trans hk) rfl
        have he := run_endRound (P := P) j l3
        have t3 := turn (.loop (rec (if j.isNone then .ready else .done) j)) l3
        refine ⟨_, he, ?_, l3, ?_, ?_⟩
        · rw [hrec]
        · have := t3.1; rw [hrec] at this ⊢; exact this
        · exact (World.putObj_heap_other (by omega)).trans k3
      rintro e a3 W3 hp
      cases e with
      | normal =>
        obtain ⟨hk3, hi3⟩ := hp
        obtain ⟨W4, he, hW4, l3, l4, k4⟩ := close none W3 hk3
        refine ⟨_, _, he, .inl ⟨rfl, ?_, l4, k4⟩⟩
        rw [hW4]
        exact hI.putObj _ hi3 (by omega) l3 rfl
      | exit id =>
        obtain ⟨hc, hk3, hi3⟩ := hp
        obtain ⟨W4, he, hW4, l3, l4, k4⟩ := close (some (.exit id)) W3 hk3
        refine ⟨_, _, he, .inr ⟨rfl, ?_, by rw [hc]; exact l4, k4⟩⟩
        rw [hW4]
        exact hIx.putObj _ hi3 (by omega) l3 rfl
      | ret => exact hp.elim
      | goto t => exact hp.elim
      | panic ch => exact hp.elim
      | outgrown => exact hp.elim
    · rintro e W2 ⟨⟨v, rfl⟩, (⟨xs, hS, hi, hl, hk⟩ | ⟨pre, hSp, hi, hl, hk⟩)⟩
      · have he := run_endLoop (P := P) hl (by rw [hrec]; simp)
        rw [hrec] at he
        have t := turn (.loop { rec .ready none with state := .exhausted }) hl
        refine ⟨none, _, he, hdone d xs _ (by omega) hS (hI.putObj _ hi (by omega) hl rfl) ?_⟩
        have := t.2.trans hk
        rw [hrec] at this
        exact this
      · have he := run_endLoop (P := P) hl (by rw [hrec]; simp)
        rw [hrec] at he
        have t := turn (.loop { rec .done (some c) with state := .exhausted }) hl
        refine ⟨some c, _, he, hstop d pre _ (by omega) hSp (hIx.putObj _ hi (by omega) hl rfl) ?_⟩
        have := t.2.trans hk
        rw [hrec] at this
        exact this
end Go.Proofs.Ytafajclbghofkaa
