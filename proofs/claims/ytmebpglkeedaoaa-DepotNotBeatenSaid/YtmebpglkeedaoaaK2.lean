/- General: arguments whose cells are integers and bools, structs and arrays of these to any depth, opened at once. -/
import Derived.Test.YtmebpglkeedaoaaK1
namespace Go.Proofs.Ytmebpglkeedaoaa
open Go.RowKit Go.WideShapes Go.ChangeShapes

/-- what a cell of a kind holds: an integer of that kind, or a bool (none) -/
def CellOk : Option IntKind → Value → Prop
  | some k, v => ∃ n, v = .int k n ∧ (Lit.int k n).wf = true
  | none, v => ∃ b, v = .bool b
def CellsOk : List (Option IntKind) → List Value → Prop
  | [], [] => True
  | k :: ks, v :: vs => CellOk k v ∧ CellsOk ks vs
  | _, _ => False

theorem cellsOk_length : ∀ {ks : List (Option IntKind)} {vs : List Value}, CellsOk ks vs → ks.length = vs.length
  | [], [], _ => rfl
  | _ :: _, _ :: _, h => by simp [cellsOk_length h.2]
theorem cellsOk_append : ∀ {ks ks' : List (Option IntKind)} {vs vs' : List Value}, CellsOk ks vs → CellsOk ks' vs' → CellsOk (ks ++ ks') (vs ++ vs')
  | [], _, [], _, _, h => h
  | _ :: _, _, _ :: _, _, h, h' => ⟨h.1, cellsOk_append h.2 h'⟩
theorem cellsOk_cons {k : Option IntKind} {ks : List (Option IntKind)} {l : List Value} (h : CellsOk (k :: ks) l) : ∃ v vs, l = v :: vs ∧ CellOk k v ∧ CellsOk ks vs := by
  cases l with
  | nil => exact h.elim
  | cons v vs => exact ⟨v, vs, rfl, h.1, h.2⟩
theorem cellsOk_nil {l : List Value} (h : CellsOk [] l) : l = [] := by
  cases l with
  | nil => rfl
  | cons v vs => exact h.elim

def flatFields (g : TypeId → Option (List (Option IntKind))) : List Field → Nat → Option (List (Option IntKind))
  | [], _ => some []
  | f :: fs, off => if f.offset = off then
      match g f.type with
      | some ks => match flatFields g fs (off + ks.length) with
        | some r => some (ks ++ r)
        | none => none
      | none => none
    else none

def flatTimes (ks : List (Option IntKind)) : Nat → List (Option IntKind)
  | 0 => []
  | n + 1 => ks ++ flatTimes ks n

/-- the kinds of a type's cells, where they are all integers and bools -/
def flatK (P : Program) : Nat → TypeId → Option (List (Option IntKind))
  | 0, _ => none
  | f + 1, t =>
    let r := match P.underlying t with
      | some (.int k) => some [some k]
      | some .bool => some [none]
      | some (.struct fs) => flatFields (flatK P f) fs.toList 0
      | some (.array n e) => match flatK P f e with
        | some ks => some (flatTimes ks n)
        | none => none
      | _ => none
    match r with
    | some ks => if ks.length = P.cellsOf t then some ks else none
    | none => none

section
variable {H : Type} {enc : TypeId × Value → H} {P : Program} {w : World} {base : Nat} {spare : Nat → Bool} {held : Bool}

theorem flatFields_open (g : TypeId → Option (List (Option IntKind))) (n : Nat)
    (hg : ∀ t ks, g t = some ks → ks.length = P.cellsOf t ∧ ∀ cs x, DataW.trod enc P w base spare held n t cs = some x → CellsOk ks cs) :
    ∀ (fs : List Field) (off : Nat) (ks : List (Option IntKind)) (cs : List Value), flatFields g fs off = some ks → cs.length = off + ks.length →
      (∀ f ∈ fs, ∃ x, DataW.trod enc P w base spare held n f.type ((cs.drop f.offset).take (P.cellsOf f.type)) = some x) → CellsOk ks (cs.drop off)
  | [], off, ks, cs, h, hl, _ => by
    simp only [flatFields, Option.some.injEq] at h
    subst h
    rw [List.drop_eq_nil_of_le (by simp at hl; omega)]
    trivial
  | f :: fs, off, ks, cs, h, hl, hx => by
    unfold flatFields at h
    split at h
    · rename_i ho
      split at h
      · rename_i k1 hk1
        split at h
        · rename_i k2 hk2
          simp only [Option.some.injEq] at h
          subst h
          obtain ⟨x, hx0⟩ := hx f (by simp)
          obtain ⟨hlen, hop⟩ := hg _ _ hk1
          have h1 := hop _ _ hx0
          rw [ho, ← hlen] at h1
          have h2 := flatFields_open g n hg fs (off + k1.length) k2 cs hk2 (by simp at hl; omega) (fun f' hf' => hx f' (by simp [hf']))
          have := cellsOk_append h1 h2
          rw [← List.drop_drop] at this
          rwa [List.take_append_drop] at this
        · cases h
      · cases h
    · cases h

theorem flatTimes_open {ks : List (Option IntKind)} {c : Nat} (hc : ks.length = c) : ∀ (m i : Nat) (cs : List Value), cs.length = (i + m) * c →
    (∀ j, j < m → CellsOk ks ((cs.drop ((i + j) * c)).take c)) → CellsOk (flatTimes ks m) (cs.drop (i * c))
  | 0, i, cs, hl, _ => by
    rw [List.drop_eq_nil_of_le (by simp at hl; omega)]
    trivial
  | m + 1, i, cs, hl, h => by
    have h1 := h 0 (by omega)
    have h2 := flatTimes_open hc m (i + 1) cs (by rw [hl]; congr 1; omega) (fun j hj => by
      have := h (j + 1) (by omega)
      rwa [show i + (j + 1) = i + 1 + j from by omega] at this)
    have := cellsOk_append h1 h2
    rw [show (i + 1) * c = (i + 0) * c + c from by rw [Nat.add_mul]; simp, ← List.drop_drop, List.take_append_drop] at this
    show CellsOk (ks ++ flatTimes ks m) _
    simpa using this

theorem flat_open : ∀ (fuel : Nat) (t : TypeId) (ks : List (Option IntKind)), flatK P fuel t = some ks →
    ks.length = P.cellsOf t ∧ ∀ (n : Nat) (cs : List Value) (x : DataW H × List MemPlace), DataW.trod enc P w base spare held n t cs = some x → CellsOk ks cs
  | 0, _, _, h => by cases h
  | f + 1, t, ks, h => by
    have hrec := fun t' ks' (h' : flatK P f t' = some ks') => flat_open f t' ks' h'
    unfold flatK at h
    simp only at h
    split at h
    · rename_i r hr
      split at h
      · rename_i hlen
        simp only [Option.some.injEq] at h
        subst h
        refine ⟨hlen, fun n cs x hx => ?_⟩
        split at hr
        · rename_i k hu
          simp only [Option.some.injEq] at hr
          subst hr
          obtain ⟨m, rfl, _, hwf⟩ := DataW.trod_int hu hx
          exact ⟨⟨m, rfl, hwf⟩, trivial⟩
        · rename_i hu
          simp only [Option.some.injEq] at hr
          subst hr
          obtain ⟨b, rfl, _⟩ := DataW.trod_bool hu hx
          exact ⟨⟨b, rfl⟩, trivial⟩
        · rename_i fs hu
          obtain ⟨xs, m, _, _, hcl, hxl, hf⟩ := DataW.trod_struct hu hx
          have := flatFields_open (enc := enc) (P := P) (w := w) (base := base) (spare := spare) (held := held) (flatK P f) m (fun t' ks' h' => ⟨(hrec t' ks' h').1, fun cs x => (hrec t' ks' h').2 m cs x⟩) fs.toList 0 r cs hr (by omega) (fun fd hfd => by
            obtain ⟨i, hi, he⟩ := List.getElem_of_mem hfd
            have hi' : fs[i]? = some fd := by
              rw [← he]
              simp at hi
              simp [hi]
            have h2 := hf i fd hi'
            have hlt : i < xs.length := by simp at hi; omega
            rw [List.getElem?_eq_getElem hlt] at h2
            exact ⟨_, h2⟩)
          simpa using this
        · rename_i nn e hu
          split at hr
          · rename_i ke hke
            simp only [Option.some.injEq] at hr
            subst hr
            obtain ⟨xs, m, _, _, hcl, hxl, hf⟩ := DataW.trod_array hu hx
            obtain ⟨hel, hop⟩ := hrec e ke hke
            have hcs : cs.length = (0 + nn) * P.cellsOf e := by
              have hlt : (flatTimes ke nn).length = nn * ke.length := by
                clear hlen hx hu hf hxl
                induction nn with
                | zero => simp [flatTimes]
                | succ k ih => simp [flatTimes, ih, Nat.add_mul, Nat.add_comm]
              rw [hcl, ← hlen, hlt, hel, Nat.zero_add]
            have := flatTimes_open hel nn 0 cs hcs (fun j hj => by
              have h2 := hf j hj
              have hlt : j < xs.length := by omega
              rw [List.getElem?_eq_getElem hlt] at h2
              rw [Nat.zero_add]
              exact hop m _ _ h2)
            simpa using this
          · cases hr
        · cases hr
      · cases h
    · cases h

theorem flat_agg {r : Reach} {b0 fuel : Nat} {t : TypeId} {fs : Array Field} {ks : List (Option IntKind)} {v : Value} {d : DataW H} {p : List MemPlace} (hs : P.underlying t = some (.struct fs)) (hk : flatK P fuel t = some ks)
    (hv : Value.okWide P w r b0 t v) (h : DataW.Trod enc P w base spare held t v d p) : ∃ l, v = .agg ⟨l⟩ ∧ CellsOk ks l := by
  obtain ⟨cs, rfl, _⟩ := okWide_struct hs hv
  obtain ⟨n, hn⟩ := h
  obtain ⟨l⟩ := cs
  exact ⟨l, rfl, (flat_open fuel t ks hk).2 n _ _ hn⟩
theorem flat_arr {r : Reach} {b0 fuel m : Nat} {t e : TypeId} {ks : List (Option IntKind)} {v : Value} {d : DataW H} {p : List MemPlace} (hs : P.underlying t = some (.array m e)) (hk : flatK P fuel t = some ks)
    (hv : Value.okWide P w r b0 t v) (h : DataW.Trod enc P w base spare held t v d p) : ∃ l, v = .agg ⟨l⟩ ∧ CellsOk ks l := by
  simp only [Value.okWide, hs] at hv
  obtain ⟨cs, rfl, _⟩ := hv
  obtain ⟨n, hn⟩ := h
  obtain ⟨l⟩ := cs
  exact ⟨l, rfl, (flat_open fuel t ks hk).2 n _ _ hn⟩
end

theorem i64_bd {a : Int} (h : (Lit.int .i64 a).wf = true) : -9223372036854775808 ≤ a ∧ a ≤ 9223372036854775807 := by
  have h1 : IntKind.i64.min = -9223372036854775808 := rfl
  have h2 : IntKind.i64.max = 9223372036854775807 := rfl
  simp only [Lit.wf, Bool.and_eq_true, decide_eq_true_eq] at h
  omega
theorem cells_i2 {l : List Value} (h : CellsOk [some .i64, some .i64] l) : ∃ a b, l = [.int .i64 a, .int .i64 b] ∧ (Lit.int .i64 a).wf = true ∧ (Lit.int .i64 b).wf = true := by
  obtain ⟨_, _, rfl, ⟨a, rfl, wa⟩, h1⟩ := cellsOk_cons h
  obtain ⟨_, _, rfl, ⟨b, rfl, wb⟩, h2⟩ := cellsOk_cons h1
  obtain rfl := cellsOk_nil h2
  exact ⟨a, b, rfl, wa, wb⟩
theorem cells_i3 {l : List Value} (h : CellsOk [some .i64, some .i64, some .i64] l) : ∃ a b c, l = [.int .i64 a, .int .i64 b, .int .i64 c] ∧ (Lit.int .i64 a).wf = true ∧ (Lit.int .i64 b).wf = true ∧ (Lit.int .i64 c).wf = true := by
  obtain ⟨_, _, rfl, ⟨a, rfl, wa⟩, h1⟩ := cellsOk_cons h
  obtain ⟨b, c, rfl, w⟩ := cells_i2 h1
  exact ⟨a, b, c, rfl, wa, w⟩
theorem cells_i4 {l : List Value} (h : CellsOk [some .i64, some .i64, some .i64, some .i64] l) : ∃ a b c d, l = [.int .i64 a, .int .i64 b, .int .i64 c, .int .i64 d] ∧ (Lit.int .i64 a).wf = true ∧ (Lit.int .i64 b).wf = true ∧ (Lit.int .i64 c).wf = true ∧ (Lit.int .i64 d).wf = true := by
  obtain ⟨_, _, rfl, ⟨a, rfl, wa⟩, h1⟩ := cellsOk_cons h
  obtain ⟨b, c, d, rfl, w⟩ := cells_i3 h1
  exact ⟨a, b, c, d, rfl, wa, w⟩
theorem cells_i5 {l : List Value} (h : CellsOk [some .i64, some .i64, some .i64, some .i64, some .i64] l) : ∃ a b c d e, l = [.int .i64 a, .int .i64 b, .int .i64 c, .int .i64 d, .int .i64 e] ∧ (Lit.int .i64 a).wf = true ∧ (Lit.int .i64 b).wf = true ∧ (Lit.int .i64 c).wf = true ∧ (Lit.int .i64 d).wf = true ∧ (Lit.int .i64 e).wf = true := by
  obtain ⟨_, _, rfl, ⟨a, rfl, wa⟩, h1⟩ := cellsOk_cons h
  obtain ⟨b, c, d, e, rfl, w⟩ := cells_i4 h1
  exact ⟨a, b, c, d, e, rfl, wa, w⟩
theorem cells_i10 {l : List Value} (h : CellsOk [some .i64, some .i64, some .i64, some .i64, some .i64, some .i64, some .i64, some .i64, some .i64, some .i64] l) :
    ∃ a b c d e f g i j k, l = [.int .i64 a, .int .i64 b, .int .i64 c, .int .i64 d, .int .i64 e, .int .i64 f, .int .i64 g, .int .i64 i, .int .i64 j, .int .i64 k] ∧ (Lit.int .i64 a).wf = true ∧ (Lit.int .i64 b).wf = true ∧ (Lit.int .i64 c).wf = true ∧ (Lit.int .i64 d).wf = true ∧ (Lit.int .i64 e).wf = true ∧ (Lit.int .i64 f).wf = true ∧ (Lit.int .i64 g).wf = true ∧ (Lit.int .i64 i).wf = true ∧ (Lit.int .i64 j).wf = true ∧ (Lit.int .i64 k).wf = true := by
  obtain ⟨_, _, rfl, ⟨a, rfl, wa⟩, h1⟩ := cellsOk_cons h
  obtain ⟨_, _, rfl, ⟨b, rfl, wb⟩, h2⟩ := cellsOk_cons h1
  obtain ⟨_, _, rfl, ⟨c, rfl, wc⟩, h3⟩ := cellsOk_cons h2
  obtain ⟨_, _, rfl, ⟨d, rfl, wd⟩, h4⟩ := cellsOk_cons h3
  obtain ⟨_, _, rfl, ⟨e, rfl, we⟩, h5⟩ := cellsOk_cons h4
  obtain ⟨f, g, i, j, k, rfl, w⟩ := cells_i5 h5
  exact ⟨a, b, c, d, e, f, g, i, j, k, rfl, wa, wb, wc, wd, we, w⟩
end Go.Proofs.Ytmebpglkeedaoaa
