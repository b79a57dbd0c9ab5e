/- General: arguments whose cells are integers, bools and slices (of such elements, to any depth), opened at once. -/
import Derived.Test.YtmebpglkeedaoaaK2
import Derived.Deep.Slices
namespace Go.Proofs.Ytmebpglkeedaoaa
open Go.RowKit Go.WideShapes Go.ChangeShapes Go.Deep

/-- the shape of a row of cells -/
inductive Sh where
  | nil
  | i (k : IntKind) (r : Sh)
  | b (r : Sh)
  | s (sz : Nat) (es : Sh) (r : Sh)
namespace Sh
def app : Sh → Sh → Sh
  | nil, t => t
  | i k r, t => i k (app r t)
  | b r, t => b (app r t)
  | s sz es r, t => s sz es (app r t)
def len : Sh → Nat
  | nil => 0
  | i _ r => len r + 1
  | b r => len r + 1
  | s _ _ r => len r + 1
theorem len_app : ∀ a b : Sh, (app a b).len = a.len + b.len
  | nil, _ => by simp [app, len]
  | i _ r, t => by simp [app, len, len_app r t]; omega
  | b r, t => by simp [app, len, len_app r t]; omega
  | s _ _ r, t => by simp [app, len, len_app r t]; omega
end Sh
/-- a row of cells has a shape -/
def Rd (w : World) : Sh → List Value → Prop
  | .nil, l => l = []
  | .i k r, l => ∃ n vs, l = .int k n :: vs ∧ (Lit.int k n).wf = true ∧ Rd w r vs
  | .b r, l => ∃ b vs, l = .bool b :: vs ∧ Rd w r vs
  | .s sz es r, l => ∃ v vs, l = v :: vs ∧ Rd w r vs ∧ (v = .slice none 0 0 ∨ ∃ a len cap, v = .slice (some a) len cap ∧ len ≤ cap ∧ cap ≤ maxLen ∧
      ∀ i, i < len → ∃ cs, cs.length = sz ∧ (∀ j u, cs[j]? = some u → w.cell? ((a.add (i * sz)).add j) = some u) ∧ Rd w es cs)
theorem rd_app {w : World} : ∀ {s t : Sh} {l m : List Value}, Rd w s l → Rd w t m → Rd w (s.app t) (l ++ m)
  | .nil, _, _, _, h, h' => by
    have : _ = [] := h
    subst this
    exact h'
  | .i _ _, _, _, _, ⟨n, vs, e, hw, h⟩, h' => ⟨n, vs ++ _, by rw [e]; rfl, hw, rd_app h h'⟩
  | .b _, _, _, _, ⟨n, vs, e, h⟩, h' => ⟨n, vs ++ _, by rw [e]; rfl, rd_app h h'⟩
  | .s _ _ _, _, _, _, ⟨v, vs, e, h, hs⟩, h' => ⟨v, vs ++ _, by rw [e]; rfl, rd_app h h', hs⟩

def shFields (g : TypeId → Option Sh) : List Field → Nat → Option Sh
  | [], _ => some .nil
  | f :: fs, off => if f.offset = off then
      match g f.type with
      | some ks => match shFields g fs (off + ks.len) with
        | some r => some (ks.app r)
        | none => none
      | none => none
    else none
def shTimes (ks : Sh) : Nat → Sh
  | 0 => .nil
  | n + 1 => ks.app (shTimes ks n)
/-- the shape of a type's cells -/
def shK (P : Program) : Nat → TypeId → Option Sh
  | 0, _ => none
  | f + 1, t =>
    let r := match P.underlying t with
      | some (.int k) => some (Sh.i k .nil)
      | some .bool => some (Sh.b .nil)
      | some (.slice e) => match shK P f e with
        | some es => some (Sh.s (P.cellsOf e) es .nil)
        | none => none
      | some (.struct fs) => shFields (shK P f) fs.toList 0
      | some (.array n e) => match shK P f e with
        | some ks => some (shTimes ks n)
        | none => none
      | _ => none
    match r with
    | some ks => if ks.len = P.cellsOf t then some ks else none
    | none => none

section
variable {H : Type} {enc : TypeId × Value → H} {P : Program} {w : World} {base : Nat} {spare : Nat → Bool} {held : Bool}

theorem shFields_open (g : TypeId → Option Sh) (n : Nat)
    (hg : ∀ t ks, g t = some ks → ks.len = P.cellsOf t ∧ ∀ cs x, DataW.trod enc P w base spare held n t cs = some x → Rd w ks cs) :
    ∀ (fs : List Field) (off : Nat) (ks : Sh) (cs : List Value), shFields g fs off = some ks → cs.length = off + ks.len →
      (∀ f ∈ fs, ∃ x, DataW.trod enc P w base spare held n f.type ((cs.drop f.offset).take (P.cellsOf f.type)) = some x) → Rd w ks (cs.drop off)
  | [], off, ks, cs, h, hl, _ => by
    simp only [shFields, Option.some.injEq] at h
    subst h
    rw [List.drop_eq_nil_of_le (by simp [Sh.len] at hl; omega)]
    rfl
  | f :: fs, off, ks, cs, h, hl, hx => by
    unfold shFields at h
    split at h
    · rename_i ho
      split at h
      · rename_i k1 hk1
        split at h
        · rename_i k2 hk2
          simp only [Option.some.injEq] at h
          subst h
          obtain ⟨x, hx0⟩ := hx f (by simp)
          obtain ⟨hlen, hop⟩ := hg _ _ hk1
          have h1 := hop _ _ hx0
          rw [ho, ← hlen] at h1
          have h2 := shFields_open g n hg fs (off + k1.len) k2 cs hk2 (by rw [Sh.len_app] at hl; omega) (fun f' hf' => hx f' (by simp [hf']))
          have := rd_app h1 h2
          rw [← List.drop_drop] at this
          rwa [List.take_append_drop] at this
        · cases h
      · cases h
    · cases h

theorem shTimes_len (ks : Sh) : ∀ n, (shTimes ks n).len = n * ks.len
  | 0 => by simp [shTimes, Sh.len]
  | n + 1 => by rw [shTimes, Sh.len_app, shTimes_len ks n, Nat.add_mul]; omega
theorem shTimes_open {ks : Sh} {c : Nat} (hc : ks.len = c) : ∀ (m i : Nat) (cs : List Value), cs.length = (i + m) * c →
    (∀ j, j < m → Rd w ks ((cs.drop ((i + j) * c)).take c)) → Rd w (shTimes ks m) (cs.drop (i * c))
  | 0, i, cs, hl, _ => by
    rw [List.drop_eq_nil_of_le (by simp at hl; omega)]
    rfl
  | m + 1, i, cs, hl, h => by
    have h1 := h 0 (by omega)
    have h2 := shTimes_open hc m (i + 1) cs (by rw [hl]; congr 1; omega) (fun j hj => by
      have := h (j + 1) (by omega)
      rwa [show i + (j + 1) = i + 1 + j from by omega] at this)
    have := rd_app h1 h2
    rw [show (i + 1) * c = (i + 0) * c + c from by rw [Nat.add_mul]; simp, ← List.drop_drop, List.take_append_drop] at this
    show Rd w (ks.app (shTimes ks m)) _
    simpa using this

theorem sh_open : ∀ (fuel : Nat) (t : TypeId) (ks : Sh), shK P fuel t = some ks →
    ks.len = P.cellsOf t ∧ ∀ (n : Nat) (cs : List Value) (x : DataW H × List MemPlace), DataW.trod enc P w base spare held n t cs = some x → Rd w ks cs
  | 0, _, _, h => by cases h
  | f + 1, t, ks, h => by
    have hrec := fun t' ks' (h' : shK P f t' = some ks') => sh_open f t' ks' h'
    unfold shK at h
    simp only at h
    split at h
    · rename_i r hr
      split at h
      · rename_i hlen
        simp only [Option.some.injEq] at h
        subst h
        refine ⟨hlen, fun n cs x hx => ?_⟩
        split at hr
        · rename_i k hu
          simp only [Option.some.injEq] at hr
          subst hr
          obtain ⟨m, rfl, _, hwf⟩ := DataW.trod_int hu hx
          exact ⟨m, [], rfl, hwf, rfl⟩
        · rename_i hu
          simp only [Option.some.injEq] at hr
          subst hr
          obtain ⟨b, rfl, _⟩ := DataW.trod_bool hu hx
          exact ⟨b, [], rfl, rfl⟩
        · rename_i e hu
          split at hr
          · rename_i es hes
            simp only [Option.some.injEq] at hr
            subst hr
            rcases open_slice hu hx with ⟨rfl, _⟩ | ⟨a, len, cap, m, n', D, Pl, rfl, _, hl, hm, hmm, _, hi⟩
            · exact ⟨_, [], rfl, rfl, .inl rfl⟩
            · refine ⟨_, [], rfl, rfl, .inr ⟨a, len, cap, rfl, hl, hm, fun i hil => ?_⟩⟩
              have hlm : len ≤ m := by rw [hmm]; split <;> omega
              obtain ⟨cs', hc, ht⟩ := hi i (by omega)
              obtain ⟨_, hcl, hat⟩ := World.cells?_some hc
              refine ⟨cs', hcl, fun j u hj => ?_, (hrec e es hes).2 n' _ _ ht⟩
              have hjl : j < cs'.length := (List.getElem?_eq_some_iff.1 hj).1
              rw [hat j (by omega), hj]
          · cases hr
        · rename_i fs hu
          obtain ⟨xs, m, _, _, hcl, hxl, hf⟩ := DataW.trod_struct hu hx
          have := shFields_open (enc := enc) (P := P) (w := w) (base := base) (spare := spare) (held := held) (shK P f) m (fun t' ks' h' => ⟨(hrec t' ks' h').1, fun cs x => (hrec t' ks' h').2 m cs x⟩) fs.toList 0 r cs hr (by omega) (fun fd hfd => by
            obtain ⟨i, hi, he⟩ := List.getElem_of_mem hfd
            have hi' : fs[i]? = some fd := by
              rw [← he]
              simp at hi
              simp [hi]
            have h2 := hf i fd hi'
            have hlt : i < xs.length := by simp at hi; omega
            rw [List.getElem?_eq_getElem hlt] at h2
            exact ⟨_, h2⟩)
          simpa using this
        · rename_i nn e hu
          split at hr
          · rename_i ke hke
            simp only [Option.some.injEq] at hr
            subst hr
            obtain ⟨xs, m, _, _, hcl, hxl, hf⟩ := DataW.trod_array hu hx
            obtain ⟨hel, hop⟩ := hrec e ke hke
            have hcs : cs.length = (0 + nn) * P.cellsOf e := by
              rw [hcl, ← hlen, shTimes_len, hel, Nat.zero_add]
            have := shTimes_open (w := w) hel nn 0 cs hcs (fun j hj => by
              have h2 := hf j hj
              have hlt : j < xs.length := by omega
              rw [List.getElem?_eq_getElem hlt] at h2
              rw [Nat.zero_add]
              exact hop m _ _ h2)
            simpa using this
          · cases hr
        · cases hr
      · cases h
    · cases h

theorem sh_agg {r : Reach} {b0 fuel : Nat} {t : TypeId} {fs : Array Field} {ks : Sh} {v : Value} {d : DataW H} {p : List MemPlace} (hs : P.underlying t = some (.struct fs)) (hk : shK P fuel t = some ks)
    (hv : Value.okWide P w r b0 t v) (h : DataW.Trod enc P w base spare held t v d p) : ∃ l, v = .agg ⟨l⟩ ∧ Rd w ks l := by
  obtain ⟨cs, rfl, _⟩ := okWide_struct hs hv
  obtain ⟨n, hn⟩ := h
  obtain ⟨l⟩ := cs
  exact ⟨l, rfl, (sh_open fuel t ks hk).2 n _ _ hn⟩
theorem sh_slice {r : Reach} {b0 fuel : Nat} {t e : TypeId} {sz : Nat} {es : Sh} {v : Value} {d : DataW H} {p : List MemPlace} (hs : P.underlying t = some (.slice e)) (hk : shK P fuel t = some (.s sz es .nil))
    (hv : Value.okWide P w r b0 t v) (h : DataW.Trod enc P w base spare held t v d p) : v = .slice none 0 0 ∨ ∃ a len cap, v = .slice (some a) len cap ∧ len ≤ cap ∧ cap ≤ maxLen ∧
      ∀ i, i < len → ∃ cs, cs.length = sz ∧ (∀ j u, cs[j]? = some u → w.cell? ((a.add (i * sz)).add j) = some u) ∧ Rd w es cs := by
  obtain ⟨n, hn⟩ := h
  have h1 := (sh_open fuel t _ hk).2 n _ _ hn
  have hc : v.cells = #[v] := by
    simp only [Value.okWide, hs] at hv
    cases v <;> simp_all [Cell.okWide, Cell.ok, Value.cells]
  rw [hc] at h1
  obtain ⟨v', vs, hv', hvs, hx⟩ := h1
  have hv'' : v' = v := by simp at hv'; exact hv'.1.symm
  subst hv''
  exact hx
end

/-- choosing a list of elements -/
theorem choose_list {α : Type} {n : Nat} {Q : Nat → α → Prop} (h : ∀ i, i < n → ∃ x, Q i x) : ∃ l : List α, l.length = n ∧ ∀ i x, l[i]? = some x → Q i x := by
  induction n with
  | zero => exact ⟨[], rfl, fun i x hx => by simp at hx⟩
  | succ n ih =>
    obtain ⟨l, hl, hq⟩ := ih (fun i hi => h i (by omega))
    obtain ⟨x, hx⟩ := h n (by omega)
    refine ⟨l ++ [x], by simp [hl], fun i y hy => ?_⟩
    by_cases hi : i < l.length
    · rw [List.getElem?_append_left hi] at hy
      exact hq i y hy
    · rw [List.getElem?_append_right (by omega)] at hy
      have h0 : i - l.length = 0 := by
        rcases Nat.eq_zero_or_pos (i - l.length) with h0 | h0
        · exact h0
        · rw [List.getElem?_eq_none (by simp; omega)] at hy; cases hy
      rw [h0] at hy
      simp at hy
      subst hy
      obtain rfl : i = n := by omega
      exact hx
theorem add_zero' (a : Addr) : a.add 0 = a := rfl
theorem add_succ' (a : Addr) (j : Nat) : a.add (j + 1) = ⟨a.block, a.off + (j + 1), none⟩ := rfl
end Go.Proofs.Ytmebpglkeedaoaa
