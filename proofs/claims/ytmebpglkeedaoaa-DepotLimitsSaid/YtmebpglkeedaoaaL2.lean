/- General: how the walk of a law becomes its statement (any program, any law whose arguments read afterwards as before). General: arguments whose cells are integers and bools, structs and arrays of these to any depth, opened at once. General: arguments whose cells are integers, bools and slices (of such elements, to any depth), opened at once. Plain: nets, flows, potentials and cuts (P8.1). Slices of numbers and of arcs in memory. Contracts of Check of depot: the test of a node, and the whole. The contract of Check of depot. The contract of the reference's Check of depot. Plain: what a flow leaves of the supplies, its cost, and the answer of Cost. The contract of slices.Clone. Rows of numbers of the call's own; the contract of the reference's cost. Plain: a heap of visits. Plain: a graph on the way to a flow, and the search for the nearest nodes. Rows of structs of the call's own: the cells of a list, one element behind the other. General: a region that draws its order: operations that read, each of which may come up at any time; a row of operations of any kind, each of which waits for the one before (a slice that is built, an append, a store); then a tail in order. The contract of heap.put of depot at visits. The contract of heap.take of depot at visits. Slices of numbers that are made; a graph in memory. Plain: the search's start and its measure. The contract of graph.nearest of depot. Plain: what potentials prove. -/
import Derived.Test.YtmebpglkeedaoaaL1
import Derived.WalkKit
import Derived.ProofKit
import Derived.OpenShut
import Derived.Below
import Derived.ChangeSame
import Derived.WideKeyArgs
import Derived.Deep.Slices
import Derived.Lib.Hide
import Derived.Deep.QuietTactic
import Derived.BigQuiet
import Derived.WalkSpells
import Derived.Lib.SliceRun
import Derived.WalkSmall
import Derived.Deep.LoopGhost
import Derived.Deep.CutRange
namespace Go.Proofs.Ytmebpglkeedaoaa
open Go.RowKit Go.WideShapes Go.ChangeShapes

section
variable {H : Type} {enc : TypeId × Value → H} {P : Program}

theorem all_stays (hl : laidOutB P = true) {W W' : World} {sp' : Nat → Bool} : ∀ {ts : List TypeId} {vs : List Value} {ds : List (DataW H)} {ps : List MemPlace}, (ts.all fun t => P.readableRec t && decide (t < P.types.size)) = true →
    DataW.TrodAll enc P W 0 (fun _ => true) true ts vs ds ps → (∀ p ∈ ps, W.sameAt W' p) → (∀ p ∈ ps, sp' p.block = true) → DataW.TrodAll enc P W' 0 sp' true ts vs ds ps
  | [], [], [], _, _, h, _, _ => h
  | t :: ts, v :: vs, d :: ds, _, hr, ⟨p, q, h1, h2, e⟩, hsame, hs => by
    subst e
    simp only [List.all_cons, Bool.and_eq_true, decide_eq_true_eq] at hr
    refine ⟨p, q, WideElems.Trod_stays hl hr.1.1 hr.1.2 h1 (fun x hx => hsame x (List.mem_append_left _ hx)) (fun x hx => hs x (List.mem_append_left _ hx)), ?_, rfl⟩
    exact all_stays hl (by simpa using hr.2) h2 (fun x hx => hsame x (List.mem_append_right _ hx)) (fun x hx => hs x (List.mem_append_right _ hx))

/-- the row's last step, where the call left all that there was as it was -/
theorem law_post {f : Func} {s : ChangeSpec} {apart fresh handsOn again : Bool} {W W' : World} {args : Array Value} {ds : List (DataW H)} {p : List MemPlace}
    (hl : laidOutB P = true) (hr : (f.params.toList.all fun t => P.readableRec t && decide (t < P.types.size)) = true) (hsv : s.vars = [])
    (hW : DataW.Whole enc P f.params.toList s.vars apart W args.toList ds [] p)
    (hA : DataW.TrodAll enc P W 0 (fun _ => true) true f.params.toList args.toList ds p)
    (hsr : (s.fn H (ds ++ [])).results = [.lit (.bool true)]) (hsa : (s.fn H (ds ++ [])).args = ds) (hsvv : (s.fn H (ds ++ [])).vars = [])
    (hres : ∀ (b : Nat) (sp : Nat → Bool) (hd : Bool), DataW.TrodAll enc P W' b sp hd f.resultTypes.toList ((Value.bool true).resultList f.resultTypes.size) [.lit (.bool true)] [])
    (hb : Below W.heap.size W W')
    (hok : ∀ (j : Nat) (t : TypeId) (r : Value), f.resultTypes[j]? = some t → ((Value.bool true).resultList f.resultTypes.size)[j]? = some r → Value.okWide P W' .any 0 t r) :
    s.post enc P f apart fresh handsOn again W args (.bool true) W' := by
  have hlt : ∀ x ∈ p, x.block < W.heap.size := fun x hx => hW.lt x hx
  have hargs : ∀ sp : Nat → Bool, (∀ x ∈ p, sp x.block = true) → DataW.TrodAll enc P W' 0 sp true f.params.toList args.toList (s.fn H (ds ++ [])).args p := fun sp hsp => by
    rw [hsa]
    exact all_stays hl hr hA (fun x hx => hb.same (hlt x hx)) hsp
  have hvars : ∀ sp : Nat → Bool, DataW.TrodVars enc P W' sp s.vars (s.fn H (ds ++ [])).vars [] := fun sp => by rw [hsv, hsvv]; rfl
  have hres' : ∀ (b : Nat) (sp : Nat → Bool) (hd : Bool), DataW.TrodAll enc P W' b sp hd f.resultTypes.toList ((Value.bool true).resultList f.resultTypes.size) (s.fn H (ds ++ [])).results [] := fun b sp hd => by rw [hsr]; exact hres b sp hd
  have hold : ∀ x ∈ p, (fun b => decide (b < W.heap.size)) x.block = true := fun x hx => by simpa using hlt x hx
  refine ⟨ds, [], p, [], p, [], hW, hres' _ _ _, hargs _ hold, hvars _, World.keptBut_mono (fun x hx => ⟨hx, Or.inr (by simpa using hx)⟩) (hb.frame (· ∈ p)), fun _ => ?_⟩
  · obtain ⟨_, _, _, _, _, hz, hn⟩ := hW
    refine ⟨hok, _, _, ([] ++ p) ++ [], ⟨[] ++ p, [], trodAll_append (hargs _ (fun _ _ => rfl)) (hres' _ _ _), hvars _, rfl, ?_, ?_⟩, ?_⟩
    · intro b off hp
      have hin : MemPlace.cell b off ∈ p := by simpa using hp
      rw [hb.frozen (hlt _ hin)]
      exact hz b off hin
    · intro ha
      simpa using hn ha
    · intro x hx _
      simpa using hx
end
end Go.Proofs.Ytmebpglkeedaoaa
namespace Go.Proofs.Ytmebpglkeedaoaa
open Go.RowKit Go.WideShapes Go.ChangeShapes

/-- what a cell of a kind holds: an integer of that kind, or a bool (none) -/
def CellOk : Option IntKind → Value → Prop
  | some k, v => ∃ n, v = .int k n ∧ (Lit.int k n).wf = true
  | none, v => ∃ b, v = .bool b
def CellsOk : List (Option IntKind) → List Value → Prop
  | [], [] => True
  | k :: ks, v :: vs => CellOk k v ∧ CellsOk ks vs
  | _, _ => False

theorem cellsOk_length : ∀ {ks : List (Option IntKind)} {vs : List Value}, CellsOk ks vs → ks.length = vs.length
  | [], [], _ => rfl
  | _ :: _, _ :: _, h => by simp [cellsOk_length h.2]
theorem cellsOk_append : ∀ {ks ks' : List (Option IntKind)} {vs vs' : List Value}, CellsOk ks vs → CellsOk ks' vs' → CellsOk (ks ++ ks') (vs ++ vs')
  | [], _, [], _, _, h => h
  | _ :: _, _, _ :: _, _, h, h' => ⟨h.1, cellsOk_append h.2 h'⟩
theorem cellsOk_cons {k : Option IntKind} {ks : List (Option IntKind)} {l : List Value} (h : CellsOk (k :: ks) l) : ∃ v vs, l = v :: vs ∧ CellOk k v ∧ CellsOk ks vs := by
  cases l with
  | nil => exact h.elim
  | cons v vs => exact ⟨v, vs, rfl, h.1, h.2⟩
theorem cellsOk_nil {l : List Value} (h : CellsOk [] l) : l = [] := by
  cases l with
  | nil => rfl
  | cons v vs => exact h.elim

def flatFields (g : TypeId → Option (List (Option IntKind))) : List Field → Nat → Option (List (Option IntKind))
  | [], _ => some []
  | f :: fs, off => if f.offset = off then
      match g f.type with
      | some ks => match flatFields g fs (off + ks.length) with
        | some r => some (ks ++ r)
        | none => none
      | none => none
    else none

def flatTimes (ks : List (Option IntKind)) : Nat → List (Option IntKind)
  | 0 => []
  | n + 1 => ks ++ flatTimes ks n

/-- the kinds of a type's cells, where they are all integers and bools -/
def flatK (P : Program) : Nat → TypeId → Option (List (Option IntKind))
  | 0, _ => none
  | f + 1, t =>
    let r := match P.underlying t with
      | some (.int k) => some [some k]
      | some .bool => some [none]
      | some (.struct fs) => flatFields (flatK P f) fs.toList 0
      | some (.array n e) => match flatK P f e with
        | some ks => some (flatTimes ks n)
        | none => none
      | _ => none
    match r with
    | some ks => if ks.length = P.cellsOf t then some ks else none
    | none => none

section
variable {H : Type} {enc : TypeId × Value → H} {P : Program} {w : World} {base : Nat} {spare : Nat → Bool} {held : Bool}

theorem flatFields_open (g : TypeId → Option (List (Option IntKind))) (n : Nat)
    (hg : ∀ t ks, g t = some ks → ks.length = P.cellsOf t ∧ ∀ cs x, DataW.trod enc P w base spare held n t cs = some x → CellsOk ks cs) :
    ∀ (fs : List Field) (off : Nat) (ks : List (Option IntKind)) (cs : List Value), flatFields g fs off = some ks → cs.length = off + ks.length →
      (∀ f ∈ fs, ∃ x, DataW.trod enc P w base spare held n f.type ((cs.drop f.offset).take (P.cellsOf f.type)) = some x) → CellsOk ks (cs.drop off)
  | [], off, ks, cs, h, hl, _ => by
    simp only [flatFields, Option.some.injEq] at h
    subst h
    rw [List.drop_eq_nil_of_le (by simp at hl; omega)]
    trivial
  | f :: fs, off, ks, cs, h, hl, hx => by
    unfold flatFields at h
    split at h
    · rename_i ho
      split at h
      · rename_i k1 hk1
        split at h
        · rename_i k2 hk2
          simp only [Option.some.injEq] at h
          subst h
          obtain ⟨x, hx0⟩ := hx f (by simp)
          obtain ⟨hlen, hop⟩ := hg _ _ hk1
          have h1 := hop _ _ hx0
          rw [ho, ← hlen] at h1
          have h2 := flatFields_open g n hg fs (off + k1.length) k2 cs hk2 (by simp at hl; omega) (fun f' hf' => hx f' (by simp [hf']))
          have := cellsOk_append h1 h2
          rw [← List.drop_drop] at this
          rwa [List.take_append_drop] at this
        · cases h
      · cases h
    · cases h

theorem flatTimes_open {ks : List (Option IntKind)} {c : Nat} (hc : ks.length = c) : ∀ (m i : Nat) (cs : List Value), cs.length = (i + m) * c →
    (∀ j, j < m → CellsOk ks ((cs.drop ((i + j) * c)).take c)) → CellsOk (flatTimes ks m) (cs.drop (i * c))
  | 0, i, cs, hl, _ => by
    rw [List.drop_eq_nil_of_le (by simp at hl; omega)]
    trivial
  | m + 1, i, cs, hl, h => by
    have h1 := h 0 (by omega)
    have h2 := flatTimes_open hc m (i + 1) cs (by rw [hl]; congr 1; omega) (fun j hj => by
      have := h (j + 1) (by omega)
      rwa [show i + (j + 1) = i + 1 + j from by omega] at this)
    have := cellsOk_append h1 h2
    rw [show (i + 1) * c = (i + 0) * c + c from by rw [Nat.add_mul]; simp, ← List.drop_drop, List.take_append_drop] at this
    show CellsOk (ks ++ flatTimes ks m) _
    simpa using this

theorem flat_open : ∀ (fuel : Nat) (t : TypeId) (ks : List (Option IntKind)), flatK P fuel t = some ks →
    ks.length = P.cellsOf t ∧ ∀ (n : Nat) (cs : List Value) (x : DataW H × List MemPlace), DataW.trod enc P w base spare held n t cs = some x → CellsOk ks cs
  | 0, _, _, h => by cases h
  | f + 1, t, ks, h => by
    have hrec := fun t' ks' (h' : flatK P f t' = some ks') => flat_open f t' ks' h'
    unfold flatK at h
    simp only at h
    split at h
    · rename_i r hr
      split at h
      · rename_i hlen
        simp only [Option.some.injEq] at h
        subst h
        refine ⟨hlen, fun n cs x hx => ?_⟩
        split at hr
        · rename_i k hu
          simp only [Option.some.injEq] at hr
          subst hr
          obtain ⟨m, rfl, _, hwf⟩ := DataW.trod_int hu hx
          exact ⟨⟨m, rfl, hwf⟩, trivial⟩
        · rename_i hu
          simp only [Option.some.injEq] at hr
          subst hr
          obtain ⟨b, rfl, _⟩ := DataW.trod_bool hu hx
          exact ⟨⟨b, rfl⟩, trivial⟩
        · rename_i fs hu
          obtain ⟨xs, m, _, _, hcl, hxl, hf⟩ := DataW.trod_struct hu hx
          have := flatFields_open (enc := enc) (P := P) (w := w) (base := base) (spare := spare) (held := held) (flatK P f) m (fun t' ks' h' => ⟨(hrec t' ks' h').1, fun cs x => (hrec t' ks' h').2 m cs x⟩) fs.toList 0 r cs hr (by omega) (fun fd hfd => by
            obtain ⟨i, hi, he⟩ := List.getElem_of_mem hfd
            have hi' : fs[i]? = some fd := by
              rw [← he]
              simp at hi
              simp [hi]
            have h2 := hf i fd hi'
            have hlt : i < xs.length := by simp at hi; omega
            rw [List.getElem?_eq_getElem hlt] at h2
            exact ⟨_, h2⟩)
          simpa using this
        · rename_i nn e hu
          split at hr
          · rename_i ke hke
            simp only [Option.some.injEq] at hr
            subst hr
            obtain ⟨xs, m, _, _, hcl, hxl, hf⟩ := DataW.trod_array hu hx
            obtain ⟨hel, hop⟩ := hrec e ke hke
            have hcs : cs.length = (0 + nn) * P.cellsOf e := by
              have hlt : (flatTimes ke nn).length = nn * ke.length := by
                clear hlen hx hu hf hxl
                induction nn with
                | zero => simp [flatTimes]
                | succ k ih => simp [flatTimes, ih, Nat.add_mul, Nat.add_comm]
              rw [hcl, ← hlen, hlt, hel, Nat.zero_add]
            have := flatTimes_open hel nn 0 cs hcs (fun j hj => by
              have h2 := hf j hj
              have hlt : j < xs.length := by omega
              rw [List.getElem?_eq_getElem hlt] at h2
              rw [Nat.zero_add]
              exact hop m _ _ h2)
            simpa using this
          · cases hr
        · cases hr
      · cases h
    · cases h

theorem flat_agg {r : Reach} {b0 fuel : Nat} {t : TypeId} {fs : Array Field} {ks : List (Option IntKind)} {v : Value} {d : DataW H} {p : List MemPlace} (hs : P.underlying t = some (.struct fs)) (hk : flatK P fuel t = some ks)
    (hv : Value.okWide P w r b0 t v) (h : DataW.Trod enc P w base spare held t v d p) : ∃ l, v = .agg ⟨l⟩ ∧ CellsOk ks l := by
  obtain ⟨cs, rfl, _⟩ := okWide_struct hs hv
  obtain ⟨n, hn⟩ := h
  obtain ⟨l⟩ := cs
  exact ⟨l, rfl, (flat_open fuel t ks hk).2 n _ _ hn⟩
theorem flat_arr {r : Reach} {b0 fuel m : Nat} {t e : TypeId} {ks : List (Option IntKind)} {v : Value} {d : DataW H} {p : List MemPlace} (hs : P.underlying t = some (.array m e)) (hk : flatK P fuel t = some ks)
    (hv : Value.okWide P w r b0 t v) (h : DataW.Trod enc P w base spare held t v d p) : ∃ l, v = .agg ⟨l⟩ ∧ CellsOk ks l := by
  simp only [Value.okWide, hs] at hv
  obtain ⟨cs, rfl, _⟩ := hv
  obtain ⟨n, hn⟩ := h
  obtain ⟨l⟩ := cs
  exact ⟨l, rfl, (flat_open fuel t ks hk).2 n _ _ hn⟩
end

theorem i64_bd {a : Int} (h : (Lit.int .i64 a).wf = true) : -9223372036854775808 ≤ a ∧ a ≤ 9223372036854775807 := by
  have h1 : IntKind.i64.min = -9223372036854775808 := rfl
  have h2 : IntKind.i64.max = 9223372036854775807 := rfl
  simp only [Lit.wf, Bool.and_eq_true, decide_eq_true_eq] at h
  omega
theorem cells_i2 {l : List Value} (h : CellsOk [some .i64, some .i64] l) : ∃ a b, l = [.int .i64 a, .int .i64 b] ∧ (Lit.int .i64 a).wf = true ∧ (Lit.int .i64 b).wf = true := by
  obtain ⟨_, _, rfl, ⟨a, rfl, wa⟩, h1⟩ := cellsOk_cons h
  obtain ⟨_, _, rfl, ⟨b, rfl, wb⟩, h2⟩ := cellsOk_cons h1
  obtain rfl := cellsOk_nil h2
  exact ⟨a, b, rfl, wa, wb⟩
theorem cells_i3 {l : List Value} (h : CellsOk [some .i64, some .i64, some .i64] l) : ∃ a b c, l = [.int .i64 a, .int .i64 b, .int .i64 c] ∧ (Lit.int .i64 a).wf = true ∧ (Lit.int .i64 b).wf = true ∧ (Lit.int .i64 c).wf = true := by
  obtain ⟨_, _, rfl, ⟨a, rfl, wa⟩, h1⟩ := cellsOk_cons h
  obtain ⟨b, c, rfl, w⟩ := cells_i2 h1
  exact ⟨a, b, c, rfl, wa, w⟩
theorem cells_i4 {l : List Value} (h : CellsOk [some .i64, some .i64, some .i64, some .i64] l) : ∃ a b c d, l = [.int .i64 a, .int .i64 b, .int .i64 c, .int .i64 d] ∧ (Lit.int .i64 a).wf = true ∧ (Lit.int .i64 b).wf = true ∧ (Lit.int .i64 c).wf = true ∧ (Lit.int .i64 d).wf = true := by
  obtain ⟨_, _, rfl, ⟨a, rfl, wa⟩, h1⟩ := cellsOk_cons h
  obtain ⟨b, c, d, rfl, w⟩ := cells_i3 h1
  exact ⟨a, b, c, d, rfl, wa, w⟩
theorem cells_i5 {l : List Value} (h : CellsOk [some .i64, some .i64, some .i64, some .i64, some .i64] l) : ∃ a b c d e, l = [.int .i64 a, .int .i64 b, .int .i64 c, .int .i64 d, .int .i64 e] ∧ (Lit.int .i64 a).wf = true ∧ (Lit.int .i64 b).wf = true ∧ (Lit.int .i64 c).wf = true ∧ (Lit.int .i64 d).wf = true ∧ (Lit.int .i64 e).wf = true := by
  obtain ⟨_, _, rfl, ⟨a, rfl, wa⟩, h1⟩ := cellsOk_cons h
  obtain ⟨b, c, d, e, rfl, w⟩ := cells_i4 h1
  exact ⟨a, b, c, d, e, rfl, wa, w⟩
theorem cells_i10 {l : List Value} (h : CellsOk [some .i64, some .i64, some .i64, some .i64, some .i64, some .i64, some .i64, some .i64, some .i64, some .i64] l) :
    ∃ a b c d e f g i j k, l = [.int .i64 a, .int .i64 b, .int .i64 c, .int .i64 d, .int .i64 e, .int .i64 f, .int .i64 g, .int .i64 i, .int .i64 j, .int .i64 k] ∧ (Lit.int .i64 a).wf = true ∧ (Lit.int .i64 b).wf = true ∧ (Lit.int .i64 c).wf = true ∧ (Lit.int .i64 d).wf = true ∧ (Lit.int .i64 e).wf = true ∧ (Lit.int .i64 f).wf = true ∧ (Lit.int .i64 g).wf = true ∧ (Lit.int .i64 i).wf = true ∧ (Lit.int .i64 j).wf = true ∧ (Lit.int .i64 k).wf = true := by
  obtain ⟨_, _, rfl, ⟨a, rfl, wa⟩, h1⟩ := cellsOk_cons h
  obtain ⟨_, _, rfl, ⟨b, rfl, wb⟩, h2⟩ := cellsOk_cons h1
  obtain ⟨_, _, rfl, ⟨c, rfl, wc⟩, h3⟩ := cellsOk_cons h2
  obtain ⟨_, _, rfl, ⟨d, rfl, wd⟩, h4⟩ := cellsOk_cons h3
  obtain ⟨_, _, rfl, ⟨e, rfl, we⟩, h5⟩ := cellsOk_cons h4
  obtain ⟨f, g, i, j, k, rfl, w⟩ := cells_i5 h5
  exact ⟨a, b, c, d, e, f, g, i, j, k, rfl, wa, wb, wc, wd, we, w⟩
end Go.Proofs.Ytmebpglkeedaoaa
namespace Go.Proofs.Ytmebpglkeedaoaa
open Go.RowKit Go.WideShapes Go.ChangeShapes Go.Deep

/-- the shape of a row of cells -/
inductive Sh where
  | nil
  | i (k : IntKind) (r : Sh)
  | b (r : Sh)
  | s (sz : Nat) (es : Sh) (r : Sh)
namespace Sh
def app : Sh → Sh → Sh
  | nil, t => t
  | i k r, t => i k (app r t)
  | b r, t => b (app r t)
  | s sz es r, t => s sz es (app r t)
def len : Sh → Nat
  | nil => 0
  | i _ r => len r + 1
  | b r => len r + 1
  | s _ _ r => len r + 1
theorem len_app : ∀ a b : Sh, (app a b).len = a.len + b.len
  | nil, _ => by simp [app, len]
  | i _ r, t => by simp [app, len, len_app r t]; omega
  | b r, t => by simp [app, len, len_app r t]; omega
  | s _ _ r, t => by simp [app, len, len_app r t]; omega
end Sh
/-- a row of cells has a shape -/
def Rd (w : World) : Sh → List Value → Prop
  | .nil, l => l = []
  | .i k r, l => ∃ n vs, l = .int k n :: vs ∧ (Lit.int k n).wf = true ∧ Rd w r vs
  | .b r, l => ∃ b vs, l = .bool b :: vs ∧ Rd w r vs
  | .s sz es r, l => ∃ v vs, l = v :: vs ∧ Rd w r vs ∧ (v = .slice none 0 0 ∨ ∃ a len cap, v = .slice (some a) len cap ∧ len ≤ cap ∧ cap ≤ maxLen ∧
      ∀ i, i < len → ∃ cs, cs.length = sz ∧ (∀ j u, cs[j]? = some u → w.cell? ((a.add (i * sz)).add j) = some u) ∧ Rd w es cs)
theorem rd_app {w : World} : ∀ {s t : Sh} {l m : List Value}, Rd w s l → Rd w t m → Rd w (s.app t) (l ++ m)
  | .nil, _, _, _, h, h' => by
    have : _ = [] := h
    subst this
    exact h'
  | .i _ _, _, _, _, ⟨n, vs, e, hw, h⟩, h' => ⟨n, vs ++ _, by rw [e]; rfl, hw, rd_app h h'⟩
  | .b _, _, _, _, ⟨n, vs, e, h⟩, h' => ⟨n, vs ++ _, by rw [e]; rfl, rd_app h h'⟩
  | .s _ _ _, _, _, _, ⟨v, vs, e, h, hs⟩, h' => ⟨v, vs ++ _, by rw [e]; rfl, rd_app h h', hs⟩

def shFields (g : TypeId → Option Sh) : List Field → Nat → Option Sh
  | [], _ => some .nil
  | f :: fs, off => if f.offset = off then
      match g f.type with
      | some ks => match shFields g fs (off + ks.len) with
        | some r => some (ks.app r)
        | none => none
      | none => none
    else none
def shTimes (ks : Sh) : Nat → Sh
  | 0 => .nil
  | n + 1 => ks.app (shTimes ks n)
/-- the shape of a type's cells -/
def shK (P : Program) : Nat → TypeId → Option Sh
  | 0, _ => none
  | f + 1, t =>
    let r := match P.underlying t with
      | some (.int k) => some (Sh.i k .nil)
      | some .bool => some (Sh.b .nil)
      | some (.slice e) => match shK P f e with
        | some es => some (Sh.s (P.cellsOf e) es .nil)
        | none => none
      | some (.struct fs) => shFields (shK P f) fs.toList 0
      | some (.array n e) => match shK P f e with
        | some ks => some (shTimes ks n)
        | none => none
      | _ => none
    match r with
    | some ks => if ks.len = P.cellsOf t then some ks else none
    | none => none

section
variable {H : Type} {enc : TypeId × Value → H} {P : Program} {w : World} {base : Nat} {spare : Nat → Bool} {held : Bool}

theorem shFields_open (g : TypeId → Option Sh) (n : Nat)
    (hg : ∀ t ks, g t = some ks → ks.len = P.cellsOf t ∧ ∀ cs x, DataW.trod enc P w base spare held n t cs = some x → Rd w ks cs) :
    ∀ (fs : List Field) (off : Nat) (ks : Sh) (cs : List Value), shFields g fs off = some ks → cs.length = off + ks.len →
      (∀ f ∈ fs, ∃ x, DataW.trod enc P w base spare held n f.type ((cs.drop f.offset).take (P.cellsOf f.type)) = some x) → Rd w ks (cs.drop off)
  | [], off, ks, cs, h, hl, _ => by
    simp only [shFields, Option.some.injEq] at h
    subst h
    rw [List.drop_eq_nil_of_le (by simp [Sh.len] at hl; omega)]
    rfl
  | f :: fs, off, ks, cs, h, hl, hx => by
    unfold shFields at h
    split at h
    · rename_i ho
      split at h
      · rename_i k1 hk1
        split at h
        · rename_i k2 hk2
          simp only [Option.some.injEq] at h
          subst h
          obtain ⟨x, hx0⟩ := hx f (by simp)
          obtain ⟨hlen, hop⟩ := hg _ _ hk1
          have h1 := hop _ _ hx0
          rw [ho, ← hlen] at h1
          have h2 := shFields_open g n hg fs (off + k1.len) k2 cs hk2 (by rw [Sh.len_app] at hl; omega) (fun f' hf' => hx f' (by simp [hf']))
          have := rd_app h1 h2
          rw [← List.drop_drop] at this
          rwa [List.take_append_drop] at this
        · cases h
      · cases h
    · cases h

theorem shTimes_len (ks : Sh) : ∀ n, (shTimes ks n).len = n * ks.len
  | 0 => by simp [shTimes, Sh.len]
  | n + 1 => by rw [shTimes, Sh.len_app, shTimes_len ks n, Nat.add_mul]; omega
theorem shTimes_open {ks : Sh} {c : Nat} (hc : ks.len = c) : ∀ (m i : Nat) (cs : List Value), cs.length = (i + m) * c →
    (∀ j, j < m → Rd w ks ((cs.drop ((i + j) * c)).take c)) → Rd w (shTimes ks m) (cs.drop (i * c))
  | 0, i, cs, hl, _ => by
    rw [List.drop_eq_nil_of_le (by simp at hl; omega)]
    rfl
  | m + 1, i, cs, hl, h => by
    have h1 := h 0 (by omega)
    have h2 := shTimes_open hc m (i + 1) cs (by rw [hl]; congr 1; omega) (fun j hj => by
      have := h (j + 1) (by omega)
      rwa [show i + (j + 1) = i + 1 + j from by omega] at this)
    have := rd_app h1 h2
    rw [show (i + 1) * c = (i + 0) * c + c from by rw [Nat.add_mul]; simp, ← List.drop_drop, List.take_append_drop] at this
    show Rd w (ks.app (shTimes ks m)) _
    simpa using this

theorem sh_open : ∀ (fuel : Nat) (t : TypeId) (ks : Sh), shK P fuel t = some ks →
    ks.len = P.cellsOf t ∧ ∀ (n : Nat) (cs : List Value) (x : DataW H × List MemPlace), DataW.trod enc P w base spare held n t cs = some x → Rd w ks cs
  | 0, _, _, h => by cases h
  | f + 1, t, ks, h => by
    have hrec := fun t' ks' (h' : shK P f t' = some ks') => sh_open f t' ks' h'
    unfold shK at h
    simp only at h
    split at h
    · rename_i r hr
      split at h
      · rename_i hlen
        simp only [Option.some.injEq] at h
        subst h
        refine ⟨hlen, fun n cs x hx => ?_⟩
        split at hr
        · rename_i k hu
          simp only [Option.some.injEq] at hr
          subst hr
          obtain ⟨m, rfl, _, hwf⟩ := DataW.trod_int hu hx
          exact ⟨m, [], rfl, hwf, rfl⟩
        · rename_i hu
          simp only [Option.some.injEq] at hr
          subst hr
          obtain ⟨b, rfl, _⟩ := DataW.trod_bool hu hx
          exact ⟨b, [], rfl, rfl⟩
        · rename_i e hu
          split at hr
          · rename_i es hes
            simp only [Option.some.injEq] at hr
            subst hr
            rcases open_slice hu hx with ⟨rfl, _⟩ | ⟨a, len, cap, m, n', D, Pl, rfl, _, hl, hm, hmm, _, hi⟩
            · exact ⟨_, [], rfl, rfl, .inl rfl⟩
            · refine ⟨_, [], rfl, rfl, .inr ⟨a, len, cap, rfl, hl, hm, fun i hil => ?_⟩⟩
              have hlm : len ≤ m := by rw [hmm]; split <;> omega
              obtain ⟨cs', hc, ht⟩ := hi i (by omega)
              obtain ⟨_, hcl, hat⟩ := World.cells?_some hc
              refine ⟨cs', hcl, fun j u hj => ?_, (hrec e es hes).2 n' _ _ ht⟩
              have hjl : j < cs'.length := (List.getElem?_eq_some_iff.1 hj).1
              rw [hat j (by omega), hj]
          · cases hr
        · rename_i fs hu
          obtain ⟨xs, m, _, _, hcl, hxl, hf⟩ := DataW.trod_struct hu hx
          have := shFields_open (enc := enc) (P := P) (w := w) (base := base) (spare := spare) (held := held) (shK P f) m (fun t' ks' h' => ⟨(hrec t' ks' h').1, fun cs x => (hrec t' ks' h').2 m cs x⟩) fs.toList 0 r cs hr (by omega) (fun fd hfd => by
            obtain ⟨i, hi, he⟩ := List.getElem_of_mem hfd
            have hi' : fs[i]? = some fd := by
              rw [← he]
              simp at hi
              simp [hi]
            have h2 := hf i fd hi'
            have hlt : i < xs.length := by simp at hi; omega
            rw [List.getElem?_eq_getElem hlt] at h2
            exact ⟨_, h2⟩)
          simpa using this
        · rename_i nn e hu
          split at hr
          · rename_i ke hke
            simp only [Option.some.injEq] at hr
            subst hr
            obtain ⟨xs, m, _, _, hcl, hxl, hf⟩ := DataW.trod_array hu hx
            obtain ⟨hel, hop⟩ := hrec e ke hke
            have hcs : cs.length = (0 + nn) * P.cellsOf e := by
              rw [hcl, ← hlen, shTimes_len, hel, Nat.zero_add]
            have := shTimes_open (w := w) hel nn 0 cs hcs (fun j hj => by
              have h2 := hf j hj
              have hlt : j < xs.length := by omega
              rw [List.getElem?_eq_getElem hlt] at h2
              rw [Nat.zero_add]
              exact hop m _ _ h2)
            simpa using this
          · cases hr
        · cases hr
      · cases h
    · cases h

theorem sh_agg {r : Reach} {b0 fuel : Nat} {t : TypeId} {fs : Array Field} {ks : Sh} {v : Value} {d : DataW H} {p : List MemPlace} (hs : P.underlying t = some (.struct fs)) (hk : shK P fuel t = some ks)
    (hv : Value.okWide P w r b0 t v) (h : DataW.Trod enc P w base spare held t v d p) : ∃ l, v = .agg ⟨l⟩ ∧ Rd w ks l := by
  obtain ⟨cs, rfl, _⟩ := okWide_struct hs hv
  obtain ⟨n, hn⟩ := h
  obtain ⟨l⟩ := cs
  exact ⟨l, rfl, (sh_open fuel t ks hk).2 n _ _ hn⟩
theorem sh_slice {r : Reach} {b0 fuel : Nat} {t e : TypeId} {sz : Nat} {es : Sh} {v : Value} {d : DataW H} {p : List MemPlace} (hs : P.underlying t = some (.slice e)) (hk : shK P fuel t = some (.s sz es .nil))
    (hv : Value.okWide P w r b0 t v) (h : DataW.Trod enc P w base spare held t v d p) : v = .slice none 0 0 ∨ ∃ a len cap, v = .slice (some a) len cap ∧ len ≤ cap ∧ cap ≤ maxLen ∧
      ∀ i, i < len → ∃ cs, cs.length = sz ∧ (∀ j u, cs[j]? = some u → w.cell? ((a.add (i * sz)).add j) = some u) ∧ Rd w es cs := by
  obtain ⟨n, hn⟩ := h
  have h1 := (sh_open fuel t _ hk).2 n _ _ hn
  have hc : v.cells = #[v] := by
    simp only [Value.okWide, hs] at hv
    cases v <;> simp_all [Cell.okWide, Cell.ok, Value.cells]
  rw [hc] at h1
  obtain ⟨v', vs, hv', hvs, hx⟩ := h1
  have hv'' : v' = v := by simp at hv'; exact hv'.1.symm
  subst hv''
  exact hx
end

/-- choosing a list of elements -/
theorem choose_list {α : Type} {n : Nat} {Q : Nat → α → Prop} (h : ∀ i, i < n → ∃ x, Q i x) : ∃ l : List α, l.length = n ∧ ∀ i x, l[i]? = some x → Q i x := by
  induction n with
  | zero => exact ⟨[], rfl, fun i x hx => by simp at hx⟩
  | succ n ih =>
    obtain ⟨l, hl, hq⟩ := ih (fun i hi => h i (by omega))
    obtain ⟨x, hx⟩ := h n (by omega)
    refine ⟨l ++ [x], by simp [hl], fun i y hy => ?_⟩
    by_cases hi : i < l.length
    · rw [List.getElem?_append_left hi] at hy
      exact hq i y hy
    · rw [List.getElem?_append_right (by omega)] at hy
      have h0 : i - l.length = 0 := by
        rcases Nat.eq_zero_or_pos (i - l.length) with h0 | h0
        · exact h0
        · rw [List.getElem?_eq_none (by simp; omega)] at hy; cases hy
      rw [h0] at hy
      simp at hy
      subst hy
      obtain rfl : i = n := by omega
      exact hx
theorem add_zero' (a : Addr) : a.add 0 = a := rfl
theorem add_succ' (a : Addr) (j : Nat) : a.add (j + 1) = ⟨a.block, a.off + (j + 1), none⟩ := rfl
end Go.Proofs.Ytmebpglkeedaoaa
namespace Go.Proofs.Ytmebpglkeedaoaa
namespace Dp
structure Arc where
  fr : Int
  «to» : Int
  cap : Int
  cost : Int
  deriving Inhabited, DecidableEq
structure Net where
  sup : List Int
  arcs : List Arc
def inB (x lo hi : Int) : Bool := decide (lo ≤ x ∧ x ≤ hi)
/-- an arc of a net with n nodes is valid -/
def arcOk (n : Nat) (a : Arc) : Bool := decide ((0 ≤ a.fr ∧ a.fr < n) ∧ (0 ≤ a.to ∧ a.to < n) ∧ a.fr ≠ a.to ∧ (0 ≤ a.cap ∧ a.cap ≤ 1048576) ∧ (-1048576 ≤ a.cost ∧ a.cost ≤ 1048576))
def supOk (x : Int) : Bool := decide (-268435456 ≤ x ∧ x ≤ 268435456)
def manyB (N : Net) : Bool := decide (N.sup.length < 1 ∨ 1024 < N.sup.length ∨ 2048 < N.arcs.length)
def sum : List Int → Int
  | [] => 0
  | x :: l => x + sum l
def abs (x : Int) : Int := max x (-x)
def okB (N : Net) : Bool := N.sup.all supOk && (N.arcs.all (arcOk N.sup.length) && (decide (sum N.sup = 0) && decide (sum (N.sup.map abs) ≤ 268435456)))
/-- the error of a net -/
def chE (N : Net) : Int := if manyB N = true then 6 else if okB N = true then 0 else 2
theorem sum_append : ∀ a b : List Int, sum (a ++ b) = sum a + sum b
  | [], b => by simp [sum]
  | x :: a, b => by simp [sum, sum_append a b]; omega
theorem sum_take (l : List Int) (k : Nat) (h : k < l.length) : sum (l.take (k + 1)) = sum (l.take k) + l.getD k 0 := by
  rw [List.take_succ_eq_append_getElem h, sum_append, List.getD_eq_getElem?_getD, List.getElem?_eq_getElem h]
  simp [sum]
theorem sum_bd {B : Int} (hB : 0 ≤ B) : ∀ (l : List Int), (∀ x, x ∈ l → -B ≤ x ∧ x ≤ B) → -(B * l.length) ≤ sum l ∧ sum l ≤ B * l.length
  | [], _ => by simp [sum]
  | x :: l, h => by
    have h1 := h x (by simp)
    have h2 := sum_bd hB l (fun y hy => h y (by simp [hy]))
    simp only [sum, List.length_cons]
    have : B * ((l.length + 1 : Nat) : Int) = B * l.length + B := by rw [Int.natCast_add, Int.mul_add]; simp
    omega
theorem sum_nonneg : ∀ (l : List Int), (∀ x, x ∈ l → 0 ≤ x) → 0 ≤ sum l
  | [], _ => by simp [sum]
  | x :: l, h => by
    have h1 := h x (by simp)
    have h2 := sum_nonneg l (fun y hy => h y (by simp [hy]))
    simp only [sum]
    omega
theorem getD_map (f : Int → Int) (l : List Int) (k : Nat) (h : k < l.length) : (l.map f).getD k 0 = f (l.getD k 0) := by
  simp [List.getD_eq_getElem?_getD, h]
end Dp
end Go.Proofs.Ytmebpglkeedaoaa
namespace Go.Proofs.Ytmebpglkeedaoaa
open Go.RowKit Dp
set_option linter.unusedVariables false
/-- a slice's numbers -/
def IntsAt (w : World) (A : Option Addr) (xs : List Int) : Prop :=
  ∀ i, i < xs.length → ∃ ad, A = some ad ∧ ad.block < w.heap.size ∧ w.cell? (ad.add i) = some (.int .i64 (xs.getD i 0))
theorem IntsAt.below {w w1 : World} {A : Option Addr} {l : List Int} (h : IntsAt w A l) {B : Nat} (hb : Below B w w1) (hB : w.heap.size ≤ B) : IntsAt w1 A l := by
  intro i hi
  obtain ⟨ad, e, hlt, c0⟩ := h i hi
  exact ⟨ad, e, Nat.lt_of_lt_of_le hlt hb.size, (hb.cell (by rw [block_add]; omega)).trans c0⟩
theorem ints_of {w : World} {v : Value} (h : v = .slice none 0 0 ∨ ∃ a len cap, v = .slice (some a) len cap ∧ len ≤ cap ∧ cap ≤ maxLen ∧
      ∀ i, i < len → ∃ cs, cs.length = 1 ∧ (∀ j u, cs[j]? = some u → w.cell? ((a.add (i * 1)).add j) = some u) ∧ Rd w (.i .i64 .nil) cs) :
    ∃ (A : Option Addr) (xs : List Int) (cap : Nat), v = .slice A xs.length cap ∧ xs.length ≤ cap ∧ cap ≤ 9223372036854775807 ∧ IntsAt w A xs := by
  rcases h with rfl | ⟨a, len, cap, rfl, hl, hm, hi⟩
  · exact ⟨none, [], 0, rfl, Nat.le_refl _, by omega, fun i hi => by simp at hi⟩
  · obtain ⟨xs, hbl, hbs⟩ := choose_list (α := Int) (n := len) (Q := fun i x => w.cell? ((a.add (i * 1)).add 0) = some (.int .i64 x)) (fun i hil => by
      obtain ⟨cs, _, hc, n0, _, rfl, _, rfl⟩ := hi i hil
      exact ⟨n0, hc 0 _ rfl⟩)
    refine ⟨some a, xs, cap, by rw [hbl], by omega, by unfold maxLen at hm; omega, fun i hi => ⟨a, rfl, ?_⟩⟩
    have hg : xs[i]? = some (xs.getD i 0) := by rw [List.getD_eq_getElem?_getD, List.getElem?_eq_getElem hi]; rfl
    have h0 := hbs i _ hg
    rw [add_zero', Nat.mul_one] at h0
    have hb := World.block_lt_of_cell? _ _ h0
    rw [block_add] at hb
    exact ⟨hb, h0⟩
/-- a slice's arcs -/
def ArcsAt (w : World) (A : Option Addr) (l : List Arc) : Prop :=
  ∀ i, i < l.length → ∃ ad, A = some ad ∧ ad.block < w.heap.size ∧ w.cell? (ad.add (i * 4)) = some (.int .i64 (l.getD i default).fr) ∧ w.cell? ⟨(ad.add (i * 4)).block, (ad.add (i * 4)).off + 1, none⟩ = some (.int .i64 (l.getD i default).to) ∧ w.cell? ⟨(ad.add (i * 4)).block, (ad.add (i * 4)).off + 2, none⟩ = some (.int .i64 (l.getD i default).cap) ∧ w.cell? ⟨(ad.add (i * 4)).block, (ad.add (i * 4)).off + 3, none⟩ = some (.int .i64 (l.getD i default).cost)
theorem ArcsAt.below {w w1 : World} {A : Option Addr} {l : List Arc} (h : ArcsAt w A l) {B : Nat} (hb : Below B w w1) (hB : w.heap.size ≤ B) : ArcsAt w1 A l := by
  intro i hi
  obtain ⟨ad, e, hlt, c0, c1, c2, c3⟩ := h i hi
  have hbl : (ad.add (i * 4)).block < B := by rw [block_add]; omega
  exact ⟨ad, e, Nat.lt_of_lt_of_le hlt hb.size, (hb.cell hbl).trans c0, (hb.cell (p := ⟨_, _, none⟩) hbl).trans c1, (hb.cell (p := ⟨_, _, none⟩) hbl).trans c2, (hb.cell (p := ⟨_, _, none⟩) hbl).trans c3⟩
theorem arcs_of {w : World} {v : Value} (h : v = .slice none 0 0 ∨ ∃ a len cap, v = .slice (some a) len cap ∧ len ≤ cap ∧ cap ≤ maxLen ∧
      ∀ i, i < len → ∃ cs, cs.length = 4 ∧ (∀ j u, cs[j]? = some u → w.cell? ((a.add (i * 4)).add j) = some u) ∧ Rd w (.i .i64 (.i .i64 (.i .i64 (.i .i64 .nil)))) cs) :
    ∃ (A : Option Addr) (l : List Arc) (cap : Nat), v = .slice A l.length cap ∧ l.length ≤ cap ∧ cap ≤ 9223372036854775807 ∧ ArcsAt w A l := by
  rcases h with rfl | ⟨a, len, cap, rfl, hl, hm, hi⟩
  · exact ⟨none, [], 0, rfl, Nat.le_refl _, by omega, fun i hi => by simp at hi⟩
  · obtain ⟨bs, hbl, hbs⟩ := choose_list (α := Arc) (n := len) (Q := fun i x => w.cell? ((a.add (i * 4)).add 0) = some (.int .i64 x.fr) ∧ w.cell? ((a.add (i * 4)).add 1) = some (.int .i64 x.to) ∧ w.cell? ((a.add (i * 4)).add 2) = some (.int .i64 x.cap) ∧ w.cell? ((a.add (i * 4)).add 3) = some (.int .i64 x.cost)) (fun i hil => by
      obtain ⟨cs, _, hc, n0, _, rfl, _, n1, _, rfl, _, n2, _, rfl, _, n3, _, rfl, _, rfl⟩ := hi i hil
      exact ⟨⟨n0, n1, n2, n3⟩, hc 0 _ rfl, hc 1 _ rfl, hc 2 _ rfl, hc 3 _ rfl⟩)
    refine ⟨some a, bs, cap, by rw [hbl], by omega, by unfold maxLen at hm; omega, fun i hi => ?_⟩
    have hg : bs[i]? = some (bs.getD i default) := by rw [List.getD_eq_getElem?_getD, List.getElem?_eq_getElem hi]; rfl
    obtain ⟨h0, h1, h2, h3⟩ := hbs i _ hg
    rw [add_zero'] at h0
    have hb := World.block_lt_of_cell? _ _ h0
    rw [block_add] at hb
    exact ⟨a, rfl, hb, h0, h1, h2, h3⟩
/-- a net in memory: the two slices' cells -/
def NetAt (w : World) (A B : Option Addr) (N : Net) : Prop := IntsAt w A N.sup ∧ ArcsAt w B N.arcs
theorem NetAt.below {w w1 : World} {A B : Option Addr} {N : Net} (h : NetAt w A B N) {b : Nat} (hb : Below b w w1) (hB : w.heap.size ≤ b) : NetAt w1 A B N := ⟨h.1.below hb hB, h.2.below hb hB⟩
end Go.Proofs.Ytmebpglkeedaoaa
namespace Go.Proofs.Ytmebpglkeedaoaa
open Go.RowKit Dp
set_option linter.unusedVariables false

theorem node_c (i : Int) (b : Nat) (A : Option Addr) (n cap : Nat) (w : World) (hc : w.cell? ⟨b, 0, none⟩ = some (.slice A n cap)) :
    Calls Try.prog 61 #[.int .i64 i, .pointer (some ⟨b, 0, none⟩)] w fun e w' => e = .returned (.bool (decide (0 ≤ i ∧ i < n))) ∧ w = w' := by
  by_cases h0 : 0 ≤ i
  · go_enter Try.func61, Try.ntmps61
    go_wp2
    go_ret
    refine ⟨ret_bool ?_, rfl⟩
    simp [h0]
  · go_enter Try.func61, Try.ntmps61
    go_wp2
    go_ret
    refine ⟨ret_bool ?_, rfl⟩
    simp
    omega
theorem maxTwo (x y : Int) (ts : Array TypeId) (t : TypeId) (w : World) : (Builtin.max_ ts t #[.int .i64 x, .int .i64 y]).run Try.prog w = .ok (.int .i64 (max x y)) w := by
  have h : (Builtin.max_ ts t #[.int .i64 x, .int .i64 y]).run Try.prog w = .ok (.int .i64 (if y > x then y else x)) w := by simp [Builtin.max_]; rfl
  rw [h, ← gmax_eq]
theorem minTwo (x y : Int) (ts : Array TypeId) (t : TypeId) (w : World) : (Builtin.min_ ts t #[.int .i64 x, .int .i64 y]).run Try.prog w = .ok (.int .i64 (min x y)) w := by
  have h : (Builtin.min_ ts t #[.int .i64 x, .int .i64 y]).run Try.prog w = .ok (.int .i64 (if y < x then y else x)) w := by simp [Builtin.min_]; rfl
  rw [h, ← gmin_eq]
theorem getD_all {α : Type} [Inhabited α] {p : α → Bool} {l : List α} : l.all p = true ↔ ∀ j, j < l.length → p (l.getD j default) = true := by
  rw [List.all_eq_true]
  constructor
  · intro h j hj
    have := h l[j] (List.getElem_mem hj)
    simpa [List.getD, hj] using this
  · intro h x hx
    obtain ⟨i, hi, rfl⟩ := List.getElem_of_mem hx
    have := h i hi
    simpa [List.getD, hi] using this
theorem supAll {l : List Int} (k : Nat) (h : ∀ j, j < k → supOk (l.getD j 0) = true) (hk : k ≤ l.length) : (-(268435456 * k : Int) ≤ sum (l.take k) ∧ sum (l.take k) ≤ 268435456 * k) ∧ (0 ≤ sum ((l.map abs).take k) ∧ sum ((l.map abs).take k) ≤ 268435456 * k) := by
  have hm : ∀ x, x ∈ l.take k → -268435456 ≤ x ∧ x ≤ 268435456 := fun x hx => by
    obtain ⟨i, hi, rfl⟩ := List.getElem_of_mem hx
    simp only [List.length_take] at hi
    have hi1 : i < k := by omega
    have hi2 : i < l.length := by omega
    have := h i hi1
    simpa [supOk, List.getD, hi2] using this
  have hl : (l.take k).length = k := by simp; omega
  have h1 := sum_bd (B := 268435456) (by omega) (l.take k) hm
  have h2 := sum_bd (B := 268435456) (by omega) ((l.map abs).take k) (fun x hx => by
    rw [← List.map_take] at hx
    obtain ⟨y, hy, rfl⟩ := List.mem_map.1 hx
    have := hm y hy
    unfold abs; omega)
  have h3 := sum_nonneg ((l.map abs).take k) (fun x hx => by
    rw [← List.map_take] at hx
    obtain ⟨y, hy, rfl⟩ := List.mem_map.1 hx
    unfold abs; omega)
  have hl2 : ((l.map abs).take k).length = k := by simp; omega
  rw [hl] at h1
  rw [hl2] at h2
  omega
theorem chE_no {N : Net} (hm : manyB N = false) (h : okB N = false) : chE N = 2 := by simp [chE, hm, h]
theorem chE_sup {N : Net} (hm : manyB N = false) (k : Nat) (hk : k < N.sup.length) (h : supOk (N.sup.getD k 0) = false) : chE N = 2 := chE_no hm (by
  cases hb : okB N
  · rfl
  · simp only [okB, Bool.and_eq_true] at hb
    have := (getD_all (α := Int)).1 hb.1 k hk
    rw [show (default : Int) = 0 from rfl, h] at this
    cases this)
theorem chE_arc {N : Net} (hm : manyB N = false) (k : Nat) (hk : k < N.arcs.length) (h : arcOk N.sup.length (N.arcs.getD k default) = false) : chE N = 2 := chE_no hm (by
  cases hb : okB N
  · rfl
  · simp only [okB, Bool.and_eq_true] at hb
    have := getD_all.1 hb.2.1 k hk
    rw [h] at this
    cases this)
theorem chE_sum {N : Net} (hm : manyB N = false) (h : ¬ (sum N.sup = 0 ∧ sum (N.sup.map abs) ≤ 268435456)) : chE N = 2 := chE_no hm (by
  cases hb : okB N
  · rfl
  · simp only [okB, Bool.and_eq_true, decide_eq_true_eq] at hb
    exact absurd hb.2.2 h)
theorem chE_ok {N : Net} (hm : manyB N = false) (h1 : ∀ j, j < N.sup.length → supOk (N.sup.getD j 0) = true) (h2 : ∀ j, j < N.arcs.length → arcOk N.sup.length (N.arcs.getD j default) = true) (h3 : sum N.sup = 0) (h4 : sum (N.sup.map abs) ≤ 268435456) : chE N = 0 := by
  have : okB N = true := by
    simp only [okB, Bool.and_eq_true, decide_eq_true_eq]
    exact ⟨(getD_all (α := Int)).2 h1, getD_all.2 h2, h3, h4⟩
  simp [chE, hm, this]
theorem chE_many {N : Net} (h : manyB N = true) : chE N = 6 := by simp [chE, h]
end Go.Proofs.Ytmebpglkeedaoaa
namespace Go.Proofs.Ytmebpglkeedaoaa
open Go.RowKit Dp
set_option linter.unusedVariables false

set_option maxHeartbeats 2000000 in
set_option maxRecDepth 100000 in
theorem Check_c (A B : Option Addr) (N : Net) (n m cA cB : Nat) (w : World) (hn : n = N.sup.length) (hm : m = N.arcs.length) (hA : n ≤ cA ∧ cA ≤ 9223372036854775807) (hB : m ≤ cB ∧ cB ≤ 9223372036854775807) (hN : NetAt w A B N) :
    Calls Try.prog 20 #[.agg #[.slice A n cA, .slice B m cB]] w fun e w' => e = .returned (.int .i64 (chE N)) ∧ Below w.heap.size w w' := by
  have HN := Lib.hid hn
  have HM := Lib.hid hm
  have HNA := Lib.hid hN
  clear hn hm hN
  by_cases q1 : n < 1
  · have E := Lib.hid (chE_many (N := N) (by simp [manyB, ← HN.out, ← HM.out]; omega))
    go_enter Try.func20, Try.ntmps20
    go_wp2
    go_ret
    exact ⟨ret_int E.out.symm, (Below.refl _ _).alloc (Nat.le_refl _) _⟩
  by_cases q2 : 1024 < n
  · have E := Lib.hid (chE_many (N := N) (by simp [manyB, ← HN.out, ← HM.out]; omega))
    go_enter Try.func20, Try.ntmps20
    go_wp2
    go_ret
    exact ⟨ret_int E.out.symm, (Below.refl _ _).alloc (Nat.le_refl _) _⟩
  by_cases q3 : 2048 < m
  · have E := Lib.hid (chE_many (N := N) (by simp [manyB, ← HN.out, ← HM.out]; omega))
    go_enter Try.func20, Try.ntmps20
    go_wp2
    go_ret
    exact ⟨ret_int E.out.symm, (Below.refl _ _).alloc (Nat.le_refl _) _⟩
  have EM := Lib.hid (show manyB N = false from by simp [manyB, ← HN.out, ← HM.out]; omega)
  have B1 := Lib.hid (Blk.new' w #[.slice A n cA, .slice B m cB] 25)
  have HB1 := Lib.hid ((Below.refl w.heap.size w).alloc (Nat.le_refl _) (.cells #[.slice A n cA, .slice B m cB] 25))
  go_enter Try.func20, Try.ntmps20
  go_wp2_with fail
  generalize w.alloc (.cells #[.slice A n cA, .slice B m cB] 25) = w1 at B1 HB1 ⊢
  have N1 := Lib.hid (HNA.out.below HB1.out (Nat.le_refl _))
  have cA0 := B1.out.cell 0 rfl
  have cB0 := B1.out.cell 1 rfl
  have bA0 := B1.out.lt
  go_loop [3, 4, 6, 29] (fun s a _ i => ∃ k : Nat, k ≤ n ∧ i = .int .i64 k ∧ s = .int .i64 (sum (N.sup.take k)) ∧ a = .int .i64 (sum ((N.sup.map abs).take k)) ∧ Hid (∀ j, j < k → supOk (N.sup.getD j 0) = true)) (fun _ _ _ i => n - (intOf i).toNat)
  case atStart => exact ⟨0, Nat.zero_le _, rfl, rfl, rfl, Lib.hid (fun j hj => absurd hj (Nat.not_lt_zero _))⟩
  case round =>
    obtain ⟨k, hk, rfl, rfl, rfl, HK⟩ := hrel
    have bd := supAll k HK.out (by rw [← HN.out]; exact hk)
    by_cases hlt : k < n
    · obtain ⟨ad, rfl, _, hcell⟩ := N1.out.1 k (by rw [← HN.out]; exact hlt)
      have HS := Lib.hid (And.intro (sum_take N.sup k (by rw [← HN.out]; exact hlt)) (And.intro (sum_take (N.sup.map abs) k (by rw [List.length_map, ← HN.out]; exact hlt)) (getD_map abs N.sup k (by rw [← HN.out]; exact hlt))))
      generalize sum (N.sup.take k) = S at *
      generalize sum ((N.sup.map abs).take k) = T at *
      generalize hx : N.sup.getD k 0 = x at hcell
      have HX := Lib.hid hx
      clear hx
      by_cases h1 : x < -268435456
      · have E := Lib.hid (chE_sup EM.out k (by rw [← HN.out]; exact hlt) (by rw [HX.out]; simp [supOk]; omega))
        go_wp2
        go_ret
        exact ⟨ret_int E.out.symm, HB1.out⟩
      · by_cases h2 : 268435456 < x
        · have E := Lib.hid (chE_sup EM.out k (by rw [← HN.out]; exact hlt) (by rw [HX.out]; simp [supOk]; omega))
          go_wp2
          go_ret
          exact ⟨ret_int E.out.symm, HB1.out⟩
        · have hx1 := fun ts t W => maxTwo x (-x) ts t W
          have hmx : x ≤ 268435456 ∧ -268435456 ≤ x ∧ 0 ≤ max x (-x) ∧ max x (-x) ≤ 268435456 := by omega
          have HMX := Lib.hid (show max x (-x) = abs x from rfl)
          generalize max x (-x) = y at *
          go_wp2
          go_round
          case rel =>
            refine ⟨k + 1, by omega, by go_num, ?_, ?_, Lib.hid (fun j hj => ?_)⟩
            · rw [HS.out.1, HX.out]
            · rw [HS.out.2.1, HS.out.2.2, HX.out, ← HMX.out]
            · by_cases hjk : j < k
              · exact HK.out j hjk
              · obtain rfl : j = k := by omega
                rw [HX.out]; simp [supOk]; omega
          case measure => simp [intOf]; omega
    · obtain rfl : k = n := by omega
      have HS := Lib.hid (And.intro (show N.sup.take k = N.sup from by rw [HN.out]; simp) (show (N.sup.map abs).take k = N.sup.map abs from List.take_of_length_le (by rw [List.length_map, ← HN.out]; exact Nat.le_refl _)))
      go_wp2_with fail
      rw [HS.out.1, HS.out.2]
      rw [HS.out.1, HS.out.2] at bd
      go_loopw [9, 53] (fun _ i wr => ∃ j : Nat, j ≤ m ∧ i = .int .i64 j ∧ Hid (Below w1.heap.size w1 wr ∧ ∀ x, x < j → arcOk N.sup.length (N.arcs.getD x default) = true)) (fun _ i _ => m - (intOf i).toNat)
      case atStart => exact ⟨0, Nat.zero_le _, rfl, Lib.hid ⟨Below.refl _ _, fun j hj => absurd hj (Nat.not_lt_zero _)⟩⟩
      case round =>
        obtain ⟨j, hj, rfl, HJ⟩ := hrel
        by_cases hlt2 : j < m
        · obtain ⟨ad, rfl, hbl, d0, d1, d2, d3⟩ := (N1.out.2.below HJ.out.1 (Nat.le_refl _)) j (by rw [← HM.out]; exact hlt2)
          have HBR := Lib.hid (HB1.out.trans (HJ.out.1.mono HB1.out.size))
          have hbl' : (ad.add (j * 4)).block < wr.heap.size := by rw [block_add]; exact hbl
          have C0 := Lib.hid ((HJ.out.1.cell (p := ⟨w.heap.size, 0, none⟩) B1.out.lt).trans cA0)
          generalize ha : N.arcs.getD j default = ar at *
          obtain ⟨fr, «to», ca, co⟩ := ar
          have HAR := Lib.hid ha
          clear ha
          simp only at d0 d1 d2 d3
          go_wp2_with fail
          have HBX := Lib.hid (HBR.out.alloc HBR.out.size (.cells #[.int .i64 fr, .int .i64 «to», .int .i64 ca, .int .i64 co] 46))
          have HJX := Lib.hid (HJ.out.1.alloc HJ.out.1.size (.cells #[.int .i64 fr, .int .i64 «to», .int .i64 ca, .int .i64 co] 46))
          have BX := Blk.new' wr #[.int .i64 fr, .int .i64 «to», .int .i64 ca, .int .i64 co] 46
          have hcc := (HJX.out.cell (p := ⟨w.heap.size, 0, none⟩) B1.out.lt).trans cA0
          generalize wr.alloc (.cells #[.int .i64 fr, .int .i64 «to», .int .i64 ca, .int .i64 co] 46) = wx at HBX HJX BX hcc ⊢
          have e0 := BX.cell 0 rfl
          have e1 := BX.cell 1 rfl
          have e2 := BX.cell 2 rfl
          have e3 := BX.cell 3 rfl
          clear d0 d1 d2 d3 BX
          have NC := node_c fr _ A k cA _ hcc
          by_cases f1 : 0 ≤ fr ∧ fr < k
          · rw [decide_eq_true f1] at NC
            refine NC.mono ?_
            rintro e w2 ⟨rfl, rfl⟩
            go_wp2_with fail
            have NC := node_c «to» _ A k cA _ hcc
            by_cases f2 : 0 ≤ «to» ∧ «to» < k
            · rw [decide_eq_true f2] at NC
              refine NC.mono ?_
              rintro e w2 ⟨rfl, rfl⟩
              by_cases f3 : fr = «to»
              · have E := Lib.hid (chE_arc EM.out j (by rw [← HM.out]; exact hlt2) (by rw [HAR.out, ← HN.out]; simp [arcOk]; omega))
                go_wp2
                go_ret
                exact ⟨ret_int E.out.symm, HBX.out⟩
              by_cases f4 : ca < 0
              · have E := Lib.hid (chE_arc EM.out j (by rw [← HM.out]; exact hlt2) (by rw [HAR.out, ← HN.out]; simp [arcOk]; omega))
                go_wp2
                go_ret
                exact ⟨ret_int E.out.symm, HBX.out⟩
              by_cases f5 : 1048576 < ca
              · have E := Lib.hid (chE_arc EM.out j (by rw [← HM.out]; exact hlt2) (by rw [HAR.out, ← HN.out]; simp [arcOk]; omega))
                go_wp2
                go_ret
                exact ⟨ret_int E.out.symm, HBX.out⟩
              by_cases f6 : co < -1048576
              · have E := Lib.hid (chE_arc EM.out j (by rw [← HM.out]; exact hlt2) (by rw [HAR.out, ← HN.out]; simp [arcOk]; omega))
                go_wp2
                go_ret
                exact ⟨ret_int E.out.symm, HBX.out⟩
              by_cases f7 : 1048576 < co
              · have E := Lib.hid (chE_arc EM.out j (by rw [← HM.out]; exact hlt2) (by rw [HAR.out, ← HN.out]; simp [arcOk]; omega))
                go_wp2
                go_ret
                exact ⟨ret_int E.out.symm, HBX.out⟩
              have f3' : (fr == «to») = false := by simpa using f3
              have F3 := Lib.hid f3
              clear f3
              go_wp2
              go_roundw
              case rel =>
                refine ⟨j + 1, by omega, by go_num, Lib.hid ⟨HJX.out, fun x hx => ?_⟩⟩
                by_cases hjk : x < j
                · exact HJ.out.2 x hjk
                · obtain rfl : x = j := by omega
                  have f3 := F3.out
                  rw [HAR.out, ← HN.out]; simp [arcOk]; omega
              case measure => simp [intOf]; omega
            · rw [decide_eq_false f2] at NC
              refine NC.mono ?_
              rintro e w2 ⟨rfl, rfl⟩
              have E := Lib.hid (chE_arc EM.out j (by rw [← HM.out]; exact hlt2) (by rw [HAR.out, ← HN.out]; simp [arcOk]; omega))
              go_wp2
              go_ret
              exact ⟨ret_int E.out.symm, HBX.out⟩
          · rw [decide_eq_false f1] at NC
            refine NC.mono ?_
            rintro e w2 ⟨rfl, rfl⟩
            have E := Lib.hid (chE_arc EM.out j (by rw [← HM.out]; exact hlt2) (by rw [HAR.out, ← HN.out]; simp [arcOk]; omega))
            go_wp2
            go_ret
            exact ⟨ret_int E.out.symm, HBX.out⟩
        · obtain rfl : j = m := by omega
          have HBR := Lib.hid (HB1.out.trans (HJ.out.1.mono HB1.out.size))
          by_cases g1 : sum N.sup = 0
          · by_cases g2 : 268435456 < sum (N.sup.map abs)
            · have E := Lib.hid (chE_sum EM.out (by omega))
              generalize sum N.sup = S at *
              generalize sum (N.sup.map abs) = T at *
              go_wp2
              go_ret
              exact ⟨ret_int E.out.symm, HBR.out⟩
            · have E := Lib.hid (chE_ok EM.out (fun x hx => HK.out x (by rw [HN.out]; exact hx)) (fun x hx => HJ.out.2 x (by rw [HM.out]; exact hx)) g1 (by omega))
              generalize sum N.sup = S at *
              generalize sum (N.sup.map abs) = T at *
              go_wp2
              go_ret
              exact ⟨ret_int E.out.symm, HBR.out⟩
          · have E := Lib.hid (chE_sum EM.out (by omega))
            generalize sum N.sup = S at *
            generalize sum (N.sup.map abs) = T at *
            go_wp2
            go_ret
            exact ⟨ret_int E.out.symm, HBR.out⟩
end Go.Proofs.Ytmebpglkeedaoaa
namespace Go.Proofs.Ytmebpglkeedaoaa
open Go.RowKit Dp
set_option linter.unusedVariables false

@[simp, go_sem] theorem Past.cellAdd {W : World} (x : Past W) (a : Addr) (n : Nat) (h : (a.add n).block < W.heap.size) : x.w.cell? (a.add n) = W.cell? (a.add n) := x.far.cell h
theorem within_c (x lo hi : Int) (w : World) :
    Calls Try.prog 60 #[.int .i64 x, .int .i64 lo, .int .i64 hi] w fun e w' => e = .returned (.bool (inB x lo hi)) ∧ w = w' := by
  by_cases h0 : lo ≤ x
  · go_enter Try.func60, Try.ntmps60
    go_wp2
    go_ret
    refine ⟨ret_bool ?_, rfl⟩
    simp [h0, inB]
  · go_enter Try.func60, Try.ntmps60
    go_wp2
    go_ret
    refine ⟨ret_bool ?_, rfl⟩
    simp [inB]
    omega

set_option maxHeartbeats 2000000 in
set_option maxRecDepth 100000 in
theorem CheckR_c (A B : Option Addr) (N : Net) (n m cA cB : Nat) (w : World) (hn : n = N.sup.length) (hm : m = N.arcs.length) (hA : n ≤ cA ∧ cA ≤ 9223372036854775807) (hB : m ≤ cB ∧ cB ≤ 9223372036854775807) (hN : NetAt w A B N) :
    Calls Try.prog 21 #[.agg #[.slice A n cA, .slice B m cB]] w fun e w' => e = .returned (.int .i64 (chE N)) ∧ Below w.heap.size w w' := by
  have HN := Lib.hid hn
  have HM := Lib.hid hm
  have HNA := Lib.hid hN
  clear hn hm hN
  by_cases q1 : n < 1
  · have E := Lib.hid (chE_many (N := N) (by simp [manyB, ← HN.out, ← HM.out]; omega))
    go_enter Try.func21, Try.ntmps21
    go_wp2
    go_ret
    exact ⟨ret_int E.out.symm, (Below.refl _ _).alloc (Nat.le_refl _) _⟩
  by_cases q2 : 1024 < n
  · have E := Lib.hid (chE_many (N := N) (by simp [manyB, ← HN.out, ← HM.out]; omega))
    go_enter Try.func21, Try.ntmps21
    go_wp2
    go_ret
    exact ⟨ret_int E.out.symm, (Below.refl _ _).alloc (Nat.le_refl _) _⟩
  by_cases q3 : 2048 < m
  · have E := Lib.hid (chE_many (N := N) (by simp [manyB, ← HN.out, ← HM.out]; omega))
    go_enter Try.func21, Try.ntmps21
    go_wp2
    go_ret
    exact ⟨ret_int E.out.symm, (Below.refl _ _).alloc (Nat.le_refl _) _⟩
  have EM := Lib.hid (show manyB N = false from by simp [manyB, ← HN.out, ← HM.out]; omega)
  have B1 := Lib.hid (Blk.new' w #[.slice A n cA, .slice B m cB] 25)
  have HB1 := Lib.hid ((Below.refl w.heap.size w).alloc (Nat.le_refl _) (.cells #[.slice A n cA, .slice B m cB] 25))
  go_enter Try.func21, Try.ntmps21
  go_wp2_with fail
  generalize w.alloc (.cells #[.slice A n cA, .slice B m cB] 25) = w1 at B1 HB1 ⊢
  have N1 := Lib.hid (HNA.out.below HB1.out (Nat.le_refl _))
  have bA0 := B1.out.lt
  go_loopw [3, 4, 5] (fun s a i wr => ∃ k : Nat, k ≤ n ∧ i = .int .i64 k ∧ s = .int .i64 (sum (N.sup.take k)) ∧ a = .int .i64 (sum ((N.sup.map abs).take k)) ∧ Hid (Below w1.heap.size w1 wr ∧ ∀ j, j < k → supOk (N.sup.getD j 0) = true)) (fun _ _ i _ => n - (intOf i).toNat)
  case atStart => exact ⟨0, Nat.zero_le _, rfl, rfl, rfl, Lib.hid ⟨Below.refl _ _, fun j hj => absurd hj (Nat.not_lt_zero _)⟩⟩
  case round =>
    obtain ⟨k, hk, rfl, rfl, rfl, HK⟩ := hrel
    have bd := supAll k HK.out.2 (by rw [← HN.out]; exact hk)
    have HBR := Lib.hid (HB1.out.trans (HK.out.1.mono HB1.out.size))
    have cA0 := (HK.out.1.cell (p := ⟨w.heap.size, 0, none⟩) B1.out.lt).trans (B1.out.cell 0 rfl)
    have cB0 := (HK.out.1.cell (p := ⟨w.heap.size, 1, none⟩) B1.out.lt).trans (B1.out.cell 1 rfl)
    have bA1 : w.heap.size < wr.heap.size := Nat.lt_of_lt_of_le bA0 HK.out.1.size
    by_cases hlt : k < n
    · obtain ⟨ad, rfl, hbl, hcell⟩ := (N1.out.1.below HK.out.1 (Nat.le_refl _)) k (by rw [← HN.out]; exact hlt)
      have hbl' : (ad.add k).block < wr.heap.size := by rw [block_add]; exact hbl
      have HS := Lib.hid (And.intro (sum_take N.sup k (by rw [← HN.out]; exact hlt)) (And.intro (sum_take (N.sup.map abs) k (by rw [List.length_map, ← HN.out]; exact hlt)) (getD_map abs N.sup k (by rw [← HN.out]; exact hlt))))
      generalize sum (N.sup.take k) = S at *
      generalize sum ((N.sup.map abs).take k) = T at *
      generalize hx : N.sup.getD k 0 = x at hcell
      have HX := Lib.hid hx
      clear hx
      have WC := within_c x (-268435456) 268435456 wr
      by_cases h1 : -268435456 ≤ x ∧ x ≤ 268435456
      · have e1 : inB x (-268435456) 268435456 = true := by simp [inB, h1]
        rw [e1] at WC
        go_wp2_with fail
        refine WC.mono ?_
        rintro e w2 ⟨rfl, rfl⟩
        have hx1 := fun ts t W => maxTwo x (-x) ts t W
        have hmx : 0 ≤ max x (-x) ∧ max x (-x) ≤ 268435456 := by omega
        have HMX := Lib.hid (show max x (-x) = abs x from rfl)
        generalize max x (-x) = y at *
        have k0 : (0 : Int) ≤ (k : Int) := by omega
        have kx : (k : Int) < (n : Int) := by omega
        go_wp2_with fail
        refine wp_region_past (by kernel_rfl) (by kernel_rfl) ?_
        repeat (go_big_quiet_step (fail))
        refine wpQuiet_nil ?_
        intro xx
        have HXX := Lib.hid xx.far
        generalize xx.w = w4 at HXX ⊢
        go_wp2
        go_roundw
        case rel =>
          refine ⟨k + 1, by omega, by go_num, ?_, ?_, Lib.hid ⟨HK.out.1.trans (HXX.out.mono HK.out.1.size), fun j hj => ?_⟩⟩
          · rw [HS.out.1, HX.out]
          · rw [HS.out.2.1, HS.out.2.2, HX.out, ← HMX.out]
          · by_cases hjk : j < k
            · exact HK.out.2 j hjk
            · obtain rfl : j = k := by omega
              rw [HX.out]; simp [supOk]; omega
        case measure => simp [intOf]; omega
      · have e1 : inB x (-268435456) 268435456 = false := by simp [inB]; omega
        rw [e1] at WC
        have E := Lib.hid (chE_sup EM.out k (by rw [← HN.out]; exact hlt) (by rw [HX.out]; simp [supOk]; omega))
        go_wp2_with fail
        refine WC.mono ?_
        rintro e w2 ⟨rfl, rfl⟩
        go_wp2
        go_ret
        exact ⟨ret_int E.out.symm, HBR.out⟩
    · obtain rfl : k = n := by omega
      have HS := Lib.hid (And.intro (show N.sup.take k = N.sup from by rw [HN.out]; simp) (show (N.sup.map abs).take k = N.sup.map abs from List.take_of_length_le (by rw [List.length_map, ← HN.out]; exact Nat.le_refl _)))
      rw [HS.out.1, HS.out.2]
      rw [HS.out.1, HS.out.2] at bd
      by_cases g1 : sum N.sup = 0
      · by_cases g2 : 268435456 < sum (N.sup.map abs)
        · have E := Lib.hid (chE_sum EM.out (by omega))
          generalize sum N.sup = S at *
          generalize sum (N.sup.map abs) = T at *
          go_wp2
          go_ret
          exact ⟨ret_int E.out.symm, HBR.out⟩
        · have EOK := Lib.hid (fun hh : (∀ x, x < m → arcOk N.sup.length (N.arcs.getD x default) = true) => chE_ok EM.out (fun x hx => HK.out.2 x (by rw [HN.out]; exact hx)) (fun x hx => hh x (by rw [HM.out]; exact hx)) g1 (by omega))
          have HW := Lib.hid HK.out.1
          have N2 := Lib.hid (N1.out.2.below HK.out.1 (Nat.le_refl _))
          have hsb : Hid (sum N.sup = 0) := Lib.hid g1
          clear HK
          generalize sum N.sup = S at *
          generalize sum (N.sup.map abs) = T at *
          subst g1
          generalize hwr : wr = w5 at *
          clear hwr
          go_wp2_with fail
          go_loopw [6, 7] (fun i _ wr => ∃ j : Nat, j ≤ m ∧ i = .int .i64 j ∧ Hid (Below w5.heap.size w5 wr ∧ ∀ x, x < j → arcOk N.sup.length (N.arcs.getD x default) = true)) (fun i _ _ => m - (intOf i).toNat)
          case atStart => exact ⟨0, Nat.zero_le _, rfl, Lib.hid ⟨Below.refl _ _, fun j hj => absurd hj (Nat.not_lt_zero _)⟩⟩
          case round =>
            obtain ⟨j, hj, rfl, HJ⟩ := hrel
            have hcA := (HJ.out.1.cell (p := ⟨w.heap.size, 0, none⟩) bA1).trans cA0
            have hcB := (HJ.out.1.cell (p := ⟨w.heap.size, 1, none⟩) bA1).trans cB0
            have HBJ := Lib.hid (HBR.out.trans (HJ.out.1.mono HBR.out.size))
            clear cA0 cB0
            by_cases hlt2 : j < m
            · obtain ⟨ad, rfl, hbl, d0, d1, d2, d3⟩ := (N2.out.below HJ.out.1 (Nat.le_refl _)) j (by rw [← HM.out]; exact hlt2)
              have hbl' : (ad.add (j * 4)).block < wr.heap.size := by rw [block_add]; exact hbl
              generalize ha : N.arcs.getD j default = ar at *
              obtain ⟨fr, «to», ca, co⟩ := ar
              have HAR := Lib.hid ha
              clear ha
              simp only at d0 d1 d2 d3
              have HBX := Lib.hid (HBJ.out.alloc HBJ.out.size (.cells #[.int .i64 fr, .int .i64 «to», .int .i64 ca, .int .i64 co] 46))
              have HJX := Lib.hid (HJ.out.1.alloc HJ.out.1.size (.cells #[.int .i64 fr, .int .i64 «to», .int .i64 ca, .int .i64 co] 46))
              have BX := Blk.new' wr #[.int .i64 fr, .int .i64 «to», .int .i64 ca, .int .i64 co] 46
              have fcA := (HJX.out.cell (p := ⟨w.heap.size, 0, none⟩) bA1).trans ((HJ.out.1.cell (p := ⟨w.heap.size, 0, none⟩) bA1).symm.trans hcA)
              have e0 := BX.cell 0 rfl
              have e1 := BX.cell 1 rfl
              have e2 := BX.cell 2 rfl
              have e3 := BX.cell 3 rfl
              by_cases f1 : fr < 0
              · have E := Lib.hid (chE_arc EM.out j (by rw [← HM.out]; exact hlt2) (by rw [HAR.out, ← HN.out]; simp [arcOk]; omega))
                go_wp2
                go_ret
                exact ⟨ret_int E.out.symm, HBX.out⟩
              by_cases f2 : (k : Int) ≤ fr
              · have E := Lib.hid (chE_arc EM.out j (by rw [← HM.out]; exact hlt2) (by rw [HAR.out, ← HN.out]; simp [arcOk]; omega))
                go_wp2
                go_ret
                exact ⟨ret_int E.out.symm, HBX.out⟩
              by_cases f3 : «to» < 0
              · have E := Lib.hid (chE_arc EM.out j (by rw [← HM.out]; exact hlt2) (by rw [HAR.out, ← HN.out]; simp [arcOk]; omega))
                go_wp2
                go_ret
                exact ⟨ret_int E.out.symm, HBX.out⟩
              by_cases f4 : (k : Int) ≤ «to»
              · have E := Lib.hid (chE_arc EM.out j (by rw [← HM.out]; exact hlt2) (by rw [HAR.out, ← HN.out]; simp [arcOk]; omega))
                go_wp2
                go_ret
                exact ⟨ret_int E.out.symm, HBX.out⟩
              by_cases f5 : fr = «to»
              · have E := Lib.hid (chE_arc EM.out j (by rw [← HM.out]; exact hlt2) (by rw [HAR.out, ← HN.out]; simp [arcOk]; omega))
                subst f5
                go_wp2
                go_ret
                exact ⟨ret_int E.out.symm, HBX.out⟩
              have f5' : (fr == «to») = false := by simpa using f5
              have F5 := Lib.hid f5
              clear f5
              have W1 := fun W => within_c ca 0 1048576 W
              have W2 := fun W => within_c co (-1048576) 1048576 W
              by_cases f6 : 0 ≤ ca ∧ ca ≤ 1048576
              · rw [show inB ca 0 1048576 = true from by simp [inB, f6]] at W1
                go_wp2_with fail
                refine (W1 _).mono ?_
                rintro e w2 ⟨rfl, rfl⟩
                by_cases f7 : -1048576 ≤ co ∧ co ≤ 1048576
                · rw [show inB co (-1048576) 1048576 = true from by simp [inB, f7]] at W2
                  go_wp2_with fail
                  refine (W2 _).mono ?_
                  rintro e w2 ⟨rfl, rfl⟩
                  go_wp2
                  go_roundw
                  case rel =>
                    refine ⟨j + 1, by omega, by go_num, Lib.hid ⟨HJX.out, fun x hx => ?_⟩⟩
                    by_cases hjk : x < j
                    · exact HJ.out.2 x hjk
                    · obtain rfl : x = j := by omega
                      have f5 := F5.out
                      rw [HAR.out, ← HN.out]; simp [arcOk]; omega
                  case measure => simp [intOf]; omega
                · rw [show inB co (-1048576) 1048576 = false from by simp [inB]; omega] at W2
                  have E := Lib.hid (chE_arc EM.out j (by rw [← HM.out]; exact hlt2) (by rw [HAR.out, ← HN.out]; simp [arcOk]; omega))
                  go_wp2_with fail
                  refine (W2 _).mono ?_
                  rintro e w2 ⟨rfl, rfl⟩
                  go_wp2
                  go_ret
                  exact ⟨ret_int E.out.symm, HBX.out⟩
              · rw [show inB ca 0 1048576 = false from by simp [inB]; omega] at W1
                have E := Lib.hid (chE_arc EM.out j (by rw [← HM.out]; exact hlt2) (by rw [HAR.out, ← HN.out]; simp [arcOk]; omega))
                go_wp2_with fail
                refine (W1 _).mono ?_
                rintro e w2 ⟨rfl, rfl⟩
                go_wp2
                go_ret
                exact ⟨ret_int E.out.symm, HBX.out⟩
            · obtain rfl : j = m := by omega
              have E := Lib.hid (EOK.out HJ.out.2)
              go_wp2
              go_ret
              exact ⟨ret_int E.out.symm, HBJ.out⟩
      · have E := Lib.hid (chE_sum EM.out (by omega))
        generalize sum N.sup = S at *
        generalize sum (N.sup.map abs) = T at *
        go_wp2
        go_ret
        exact ⟨ret_int E.out.symm, HBR.out⟩
end Go.Proofs.Ytmebpglkeedaoaa
namespace Go.Proofs.Ytmebpglkeedaoaa
namespace Dp
/-- d more at place i -/
def mv (l : List Int) (i : Int) (d : Int) : List Int := l.set i.toNat (l.getD i.toNat 0 + d)
/-- the supplies behind k arcs -/
def leftK (N : Net) (fl : List Int) : Nat → List Int
  | 0 => N.sup
  | k + 1 => mv (mv (leftK N fl k) (N.arcs.getD k default).fr (-(fl.getD k 0))) (N.arcs.getD k default).to (fl.getD k 0)
def costK (N : Net) (fl : List Int) : Nat → Int
  | 0 => 0
  | k + 1 => costK N fl k + fl.getD k 0 * (N.arcs.getD k default).cost
/-- within the arcs' room -/
def capB (N : Net) (fl : List Int) : Bool := (List.range N.arcs.length).all fun k => decide (0 ≤ fl.getD k 0 ∧ fl.getD k 0 ≤ (N.arcs.getD k default).cap)
def zeroB (l : List Int) : Bool := l.all fun x => decide (x = 0)
def isFlow (N : Net) (fl : List Int) : Bool := decide (fl.length = N.arcs.length) && (capB N fl && zeroB (leftK N fl N.arcs.length))
/-- the error of Cost -/
def coE (N : Net) (fl : List Int) : Int := if chE N = 0 then (if fl.length = N.arcs.length then (if isFlow N fl = true then 0 else 19) else 20) else chE N
def coV (N : Net) (fl : List Int) : Int := if chE N = 0 ∧ isFlow N fl = true then costK N fl N.arcs.length else 0
theorem mv_length (l : List Int) (i d : Int) : (mv l i d).length = l.length := by simp [mv]
theorem leftK_length (N : Net) (fl : List Int) : ∀ k, (leftK N fl k).length = N.sup.length
  | 0 => rfl
  | k + 1 => by simp [leftK, mv_length, leftK_length N fl k]
theorem getD_setI (l : List Int) (i j : Nat) (v : Int) (h : i < l.length) : (l.set i v).getD j 0 = if j = i then v else l.getD j 0 := by
  simp only [List.getD_eq_getElem?_getD, List.getElem?_set]
  by_cases hj : i = j
  · subst hj; simp [h]
  · rw [if_neg hj, if_neg (fun e => hj e.symm)]
theorem mv_bd {l : List Int} {i d B D : Int} (hD : -D ≤ d ∧ d ≤ D) (hi : 0 ≤ i ∧ i < l.length) (h : ∀ j, j < l.length → -B ≤ l.getD j 0 ∧ l.getD j 0 ≤ B) : ∀ j, j < (mv l i d).length → -(B + D) ≤ (mv l i d).getD j 0 ∧ (mv l i d).getD j 0 ≤ B + D := by
  intro j hj
  rw [mv_length] at hj
  have hi' : i.toNat < l.length := by omega
  have h1 := h j hj
  have h2 := h i.toNat hi'
  unfold mv
  rw [getD_setI _ _ _ _ hi']
  split <;> omega
/-- the facts of a valid net -/
theorem chE_zero {N : Net} (h : chE N = 0) : manyB N = false ∧ okB N = true := by
  unfold chE at h
  split at h
  · omega
  · split at h
    · rename_i h1 h2
      exact ⟨by simpa using h1, h2⟩
    · omega
theorem getD_allA {p : Arc → Bool} {l : List Arc} (h : l.all p = true) (j : Nat) (hj : j < l.length) : p (l.getD j default) = true := by
  rw [List.all_eq_true] at h
  have := h l[j] (List.getElem_mem hj)
  simpa [List.getD, hj] using this
theorem net_len {N : Net} (h : chE N = 0) : 1 ≤ N.sup.length ∧ N.sup.length ≤ 1024 ∧ N.arcs.length ≤ 2048 := by
  have := (chE_zero h).1
  simp [manyB] at this
  cases hs : N.sup with
  | nil => simp [hs] at this
  | cons a l => rw [hs] at this; simp at this ⊢; omega
theorem net_sup {N : Net} (h : chE N = 0) (j : Nat) (hj : j < N.sup.length) : -268435456 ≤ N.sup.getD j 0 ∧ N.sup.getD j 0 ≤ 268435456 := by
  have h2 := (chE_zero h).2
  simp only [okB, Bool.and_eq_true] at h2
  have h3 := h2.1
  rw [List.all_eq_true] at h3
  have := h3 N.sup[j] (List.getElem_mem hj)
  simpa [supOk, List.getD, hj] using this
theorem net_arc {N : Net} (h : chE N = 0) (j : Nat) (hj : j < N.arcs.length) : (0 ≤ (N.arcs.getD j default).fr ∧ (N.arcs.getD j default).fr < N.sup.length) ∧ (0 ≤ (N.arcs.getD j default).to ∧ (N.arcs.getD j default).to < N.sup.length) ∧ (N.arcs.getD j default).fr ≠ (N.arcs.getD j default).to ∧ (0 ≤ (N.arcs.getD j default).cap ∧ (N.arcs.getD j default).cap ≤ 1048576) ∧ (-1048576 ≤ (N.arcs.getD j default).cost ∧ (N.arcs.getD j default).cost ≤ 1048576) := by
  have h2 := (chE_zero h).2
  simp only [okB, Bool.and_eq_true] at h2
  simpa [arcOk] using getD_allA h2.2.1 j hj
/-- the supplies on the way stay small -/
theorem leftK_bd {N : Net} {fl : List Int} (h : chE N = 0) : ∀ k : Nat, k ≤ N.arcs.length → (∀ j, j < k → 0 ≤ fl.getD j 0 ∧ fl.getD j 0 ≤ (N.arcs.getD j default).cap) →
    ∀ j, j < N.sup.length → -(268435456 + 2097152 * k : Int) ≤ (leftK N fl k).getD j 0 ∧ (leftK N fl k).getD j 0 ≤ 268435456 + 2097152 * k
  | 0, _, _, j, hj => by simpa [leftK] using net_sup h j hj
  | k + 1, hk, hf, j, hj => by
    have ih := leftK_bd h k (by omega) (fun j hj => hf j (by omega))
    have hl := leftK_length N fl k
    obtain ⟨a1, a2, a3, a4, a5⟩ := net_arc h k (by omega)
    have f1 := hf k (by omega)
    have s1 := mv_bd (l := leftK N fl k) (i := (N.arcs.getD k default).fr) (d := -(fl.getD k 0)) (D := 1048576) (by omega) (by rw [hl]; exact a1) (fun j hj => ih j (by rw [← hl]; exact hj))
    have s2 := mv_bd (i := (N.arcs.getD k default).to) (d := fl.getD k 0) (D := 1048576) (by omega) (by rw [mv_length, hl]; exact a2) s1 j (by rw [mv_length, mv_length, hl]; exact hj)
    simp only [leftK]
    rw [Int.natCast_add]
    omega
theorem costK_bd {N : Net} {fl : List Int} (h : chE N = 0) : ∀ k : Nat, k ≤ N.arcs.length → (∀ j, j < k → 0 ≤ fl.getD j 0 ∧ fl.getD j 0 ≤ (N.arcs.getD j default).cap) →
    -(1099511627776 * k : Int) ≤ costK N fl k ∧ costK N fl k ≤ 1099511627776 * k
  | 0, _, _ => by simp [costK]
  | k + 1, hk, hf => by
    have ih := costK_bd h k (by omega) (fun j hj => hf j (by omega))
    obtain ⟨a1, a2, a3, a4, a5⟩ := net_arc h k (by omega)
    have f1 := hf k (by omega)
    have p1 : fl.getD k 0 * (N.arcs.getD k default).cost ≤ 1048576 * 1048576 := by
      refine Int.le_trans (Int.mul_le_mul_of_nonneg_left a5.2 f1.1) ?_
      exact Int.mul_le_mul_of_nonneg_right (by omega) (by omega)
    have p2 : -(1048576 * 1048576) ≤ fl.getD k 0 * (N.arcs.getD k default).cost := by
      have := Int.mul_le_mul_of_nonneg_left a5.1 f1.1
      have := Int.mul_le_mul_of_nonneg_right (show fl.getD k 0 ≤ 1048576 by omega) (show (0:Int) ≤ 1048576 by omega)
      omega
    simp only [costK]
    rw [Int.natCast_add]
    omega
theorem capB_iff {N : Net} {fl : List Int} : capB N fl = true ↔ ∀ k, k < N.arcs.length → 0 ≤ fl.getD k 0 ∧ fl.getD k 0 ≤ (N.arcs.getD k default).cap := by
  simp only [capB, List.all_eq_true, List.mem_range, decide_eq_true_eq]
theorem zeroB_iff {l : List Int} : zeroB l = true ↔ ∀ j, j < l.length → l.getD j 0 = 0 := by
  simp only [zeroB, List.all_eq_true, decide_eq_true_eq]
  constructor
  · intro h j hj
    have := h l[j] (List.getElem_mem hj)
    simpa [List.getD, hj] using this
  · intro h x hx
    obtain ⟨i, hi, rfl⟩ := List.getElem_of_mem hx
    simpa [List.getD, hi] using h i hi
theorem co_ch {N : Net} {fl : List Int} (h : chE N ≠ 0) : coE N fl = chE N ∧ coV N fl = 0 := by simp [coE, coV, h]
theorem co_len {N : Net} {fl : List Int} (h : chE N = 0) (hl : fl.length ≠ N.arcs.length) : coE N fl = 20 ∧ coV N fl = 0 := by simp [coE, coV, h, hl, isFlow]
theorem co_no {N : Net} {fl : List Int} (h : chE N = 0) (hl : fl.length = N.arcs.length) (hf : isFlow N fl = false) : coE N fl = 19 ∧ coV N fl = 0 := by simp [coE, coV, h, hl, hf]
theorem co_yes {N : Net} {fl : List Int} (h : chE N = 0) (hl : fl.length = N.arcs.length) (hf : isFlow N fl = true) : coE N fl = 0 ∧ coV N fl = costK N fl N.arcs.length := by simp [coE, coV, h, hl, hf]
theorem isFlow_cap {N : Net} {fl : List Int} (k : Nat) (hk : k < N.arcs.length) (h : ¬ (0 ≤ fl.getD k 0 ∧ fl.getD k 0 ≤ (N.arcs.getD k default).cap)) : isFlow N fl = false := by
  cases hb : isFlow N fl
  · rfl
  · simp only [isFlow, Bool.and_eq_true] at hb
    exact absurd (capB_iff.1 hb.2.1 k hk) h
theorem isFlow_left {N : Net} {fl : List Int} (j : Nat) (hj : j < N.sup.length) (h : (leftK N fl N.arcs.length).getD j 0 ≠ 0) : isFlow N fl = false := by
  cases hb : isFlow N fl
  · rfl
  · simp only [isFlow, Bool.and_eq_true] at hb
    exact absurd (zeroB_iff.1 hb.2.2 j (by rw [leftK_length]; exact hj)) h
theorem isFlow_len {N : Net} {fl : List Int} (hl : fl.length ≠ N.arcs.length) : isFlow N fl = false := by simp [isFlow, hl]
theorem isFlow_yes {N : Net} {fl : List Int} (hl : fl.length = N.arcs.length) (h1 : ∀ k, k < N.arcs.length → 0 ≤ fl.getD k 0 ∧ fl.getD k 0 ≤ (N.arcs.getD k default).cap) (h2 : ∀ j, j < N.sup.length → (leftK N fl N.arcs.length).getD j 0 = 0) : isFlow N fl = true := by
  simp only [isFlow, Bool.and_eq_true, decide_eq_true_eq]
  exact ⟨hl, capB_iff.2 h1, zeroB_iff.2 (fun j hj => h2 j (by rw [leftK_length] at hj; exact hj))⟩
end Dp
end Go.Proofs.Ytmebpglkeedaoaa
namespace Go.Proofs.Ytmebpglkeedaoaa
open Go.RowKit Dp
set_option linter.unusedVariables false

theorem info2 : (Try.prog.info? 2).map (fun i => (i.zero, i.size, i.bytes)) = some (some (.int .i64 0), 1, 8) := by kernel_rfl
theorem info_parts {P : Program} {t : TypeId} {z : Option Value} {a b : Nat} (h : (P.info? t).map (fun i => (i.zero, i.size, i.bytes)) = some (z, a, b)) : ∃ i, P.info? t = some i ∧ i.zero = z ∧ i.size = a ∧ i.bytes = b := by
  cases hi : P.info? t with
  | none => rw [hi] at h; cases h
  | some i =>
    rw [hi] at h
    simp only [Option.map_some, Option.some.injEq, Prod.mk.injEq] at h
    exact ⟨i, rfl, h.1, h.2.1, h.2.2⟩
/-- numbers in a slice of the call's own, at block g -/
def OwnI (B : Nat) (W : World) (g c : Nat) (xs : List Int) : Prop := W.ownsRow B 2 1 (.slice (some ⟨g, 0, none⟩) xs.length c) xs.length (xs.map (Value.int .i64))

set_option maxHeartbeats 1000000 in
set_option maxRecDepth 100000 in
theorem clone_c (A : Option Addr) (xs : List Int) (n cap : Nat) (w : World) (hn : n = xs.length) (h1 : 1 ≤ n) (h2 : n ≤ 4096) (hA : IntsAt w A xs) :
    Calls Try.prog 57 #[.slice A n cap] w fun e w' => ∃ g c, e = .returned (.slice (some ⟨g, 0, none⟩) n c) ∧ Below w.heap.size w w' ∧ w.heap.size ≤ g ∧ g < w'.heap.size ∧ OwnI w.heap.size w' g c xs := by
  obtain ⟨ad, rfl, hbl, hc0⟩ := hA 0 (by omega)
  have HA := Lib.hid hA
  have HN := Lib.hid hn
  have hsrc : SrcRow (w.alloc (.cells #[] 2)) (some ad) n (xs.map (Value.int .i64)) := .inr ⟨ad, rfl, fun j u hu => by
    have hj : j < xs.length := by
      rcases Nat.lt_or_ge j xs.length with h | h
      · exact h
      · rw [List.getElem?_eq_none (by simpa using h)] at hu; cases hu
    obtain ⟨ad', e, hb, hc⟩ := HA.out j hj
    cases e
    have hu' : u = .int .i64 (xs.getD j 0) := by
      rw [List.getElem?_map, List.getElem?_eq_getElem hj] at hu
      simp only [Option.map_some, Option.some.injEq] at hu
      rw [← hu, List.getD_eq_getElem?_getD, List.getElem?_eq_getElem hj]; rfl
    rw [hu']
    exact (((Below.refl w.heap.size w).alloc (Nat.le_refl _) (.cells #[] 2)).cell (by rw [block_add]; exact hb)).trans hc⟩
  have HS := Lib.hid hsrc
  clear hsrc hA hn hc0
  obtain ⟨i0, hi, hz0, hz1, hz2⟩ := info_parts info2
  have qT : ∀ w : World, (binOp .eql 22 (.slice (some ad) n cap) (.slice none 0 0)).run Try.prog w = .ok (.bool false) w := fun w => Lib.run_eql_slice_nil w 22 2 (some ad) n cap 0 0 Try.underlying22
  go_enter Try.func57, Try.ntmps57
  go_wp2_with (at_builtin; refine wpList_append_any (.tmp 5) (.tmp 6) 22 rfl rfl w.heap.size 2 i0 (.int .i64 0) 1 8 Try.underlying22 hi hz0 hz1 hz2 rfl (by decide) (some ⟨w.heap.size, 0, none⟩) 0 0 [] (by rfl) (World.ownsRow_lit w #[] 0 (Nat.le_refl _) (Nat.zero_le _) rfl) (some ad) n cap (xs.map (Value.int .i64)) (by rfl) (by rw [HN.out]; simp) HS.out (by simp [Value.oneCell']) (by unfold maxLen; omega) (by omega) (by simp) ?_; intro A3 c3 w2 hown2 hgrow2 hat2; have HO2 := Lib.hid hown2; have HG2 := Lib.hid hgrow2; have HAT2 := Lib.hid hat2; clear hown2 hgrow2 hat2)
  go_ret
  obtain ⟨g, cap', e, z1, z2⟩ := HO2.out.form (by omega)
  cases e
  refine ⟨g, c3, rfl, ?_, z1, z2, ?_⟩
  · refine ((Below.refl w.heap.size w).alloc (Nat.le_refl _) (.cells #[] 2)).grown HG2.out (by simp) ?_
    intro k hk
    cases hk
    exact Nat.le_refl _
  · have := HO2.out
    rw [HN.out] at this
    simpa [OwnI] using this
end Go.Proofs.Ytmebpglkeedaoaa
namespace Go.Proofs.Ytmebpglkeedaoaa
open Go.RowKit Dp
set_option linter.unusedVariables false

theorem OwnI.cell {B : Nat} {W : World} {g c : Nat} {xs : List Int} (h : OwnI B W g c xs) (j : Nat) (hj : j < xs.length) : W.cell? ⟨g, j, none⟩ = some (.int .i64 (xs.getD j 0)) := by
  rw [World.ownsRow.cellAt h j (by omega), List.getElem?_map, List.getElem?_eq_getElem hj, List.getD_eq_getElem?_getD, List.getElem?_eq_getElem hj]
  rfl
theorem OwnI.free {B : Nat} {W : World} {g c : Nat} {xs : List Int} (h : OwnI B W g c xs) (j : Nat) : W.frozen? ⟨g, j, none⟩ = false := World.ownsRow.frozenAt h j
theorem OwnI.put {B : Nat} {W : World} {g c : Nat} {xs : List Int} (h : OwnI B W g c xs) (j : Nat) (v : Int) : OwnI B (W.setCell ⟨g, j, none⟩ (.int .i64 v)) g c (xs.set j v) := by
  have := (World.ownsRow.stored h j (.int .i64 v)).1
  unfold OwnI
  rw [List.length_set, List.map_set]
  exact this
theorem OwnI.below {B : Nat} {W W' : World} {g c : Nat} {xs : List Int} (h : OwnI B W g c xs) (hb : Below W.heap.size W W') : OwnI B W' g c xs := ownBelow h hb
theorem OwnI.lt {B : Nat} {W : World} {g c : Nat} {xs : List Int} (h : OwnI B W g c xs) : B ≤ g ∧ g < W.heap.size := World.ownsRow.lt h g rfl
theorem OwnI.mono {B B' : Nat} {W : World} {g c : Nat} {xs : List Int} (h : OwnI B W g c xs) (hb : B' ≤ B) : OwnI B' W g c xs := ⟨h.1, h.2.imp id (fun ⟨k, c, cur, hv, hb', r⟩ => ⟨k, c, cur, hv, Nat.le_trans hb hb', r⟩)⟩
end Go.Proofs.Ytmebpglkeedaoaa
namespace Go.Proofs.Ytmebpglkeedaoaa
namespace Dp
abbrev Vs := Int × Int
def keyAt (l : List Vs) (i : Nat) : Int := (l.getD i (0, 0)).2
/-- each is at least the one above it -/
def Heap (l : List Vs) : Prop := ∀ j, 0 < j → j < l.length → keyAt l ((j - 1) / 2) ≤ keyAt l j
/-- a heap, but place i may be less than the one above it -/
def UpAt (l : List Vs) (i : Nat) : Prop := (∀ j, 0 < j → j < l.length → j ≠ i → keyAt l ((j - 1) / 2) ≤ keyAt l j) ∧ (0 < i → ∀ j, 0 < j → j < l.length → (j - 1) / 2 = i → keyAt l ((i - 1) / 2) ≤ keyAt l j)
/-- a heap, but place i may be more than those below it -/
def DnAt (l : List Vs) (i : Nat) : Prop := (∀ j, 0 < j → j < l.length → (j - 1) / 2 ≠ i → keyAt l ((j - 1) / 2) ≤ keyAt l j) ∧ (0 < i → ∀ j, 0 < j → j < l.length → (j - 1) / 2 = i → keyAt l ((i - 1) / 2) ≤ keyAt l j)
def swp (l : List Vs) (i j : Nat) : List Vs := (l.set i (l.getD j (0, 0))).set j (l.getD i (0, 0))
theorem swp_length (l : List Vs) (i j : Nat) : (swp l i j).length = l.length := by simp [swp]
theorem swp_perm {l : List Vs} {i j : Nat} (hi : i < l.length) (hj : j < l.length) : (swp l i j).Perm l := by
  unfold swp
  rw [List.getD_eq_getElem?_getD, List.getD_eq_getElem?_getD, List.getElem?_eq_getElem hi, List.getElem?_eq_getElem hj]
  exact List.set_set_perm hi hj
theorem getD_setV (l : List Vs) (i j : Nat) (v : Vs) (h : i < l.length) : (l.set i v).getD j (0, 0) = if j = i then v else l.getD j (0, 0) := by
  simp only [List.getD_eq_getElem?_getD, List.getElem?_set]
  by_cases hj : i = j
  · subst hj; simp [h]
  · rw [if_neg hj, if_neg (fun e => hj e.symm)]
theorem key_swp {l : List Vs} {i j : Nat} (hi : i < l.length) (hj : j < l.length) (k : Nat) : keyAt (swp l i j) k = if k = j then keyAt l i else if k = i then keyAt l j else keyAt l k := by
  unfold keyAt swp
  rw [getD_setV _ _ _ _ (by simpa using hj), getD_setV _ _ _ _ hi]
  split
  · rfl
  · split <;> rfl
theorem heap_min {l : List Vs} (h : Heap l) : ∀ j, j < l.length → keyAt l 0 ≤ keyAt l j := by
  intro j
  induction j using Nat.strongRecOn with
  | _ j ih =>
    intro hj
    rcases Nat.eq_zero_or_pos j with rfl | h0
    · exact Int.le_refl _
    · have h1 := ih ((j - 1) / 2) (by omega) (by omega)
      have h2 := h j h0 hj
      omega
theorem heap_minE {l : List Vs} (h : Heap l) (e : Vs) (he : e ∈ l) : keyAt l 0 ≤ e.2 := by
  obtain ⟨i, hi, rfl⟩ := List.getElem_of_mem he
  have := heap_min h i hi
  simpa [keyAt, List.getD, hi] using this
theorem heap_nil : Heap [] := fun _ _ h => absurd h (Nat.not_lt_zero _)
theorem key_app {l : List Vs} {x : Vs} {j : Nat} (hj : j < l.length) : keyAt (l ++ [x]) j = keyAt l j := by
  simp [keyAt, List.getD, List.getElem?_append_left hj]
theorem up_start {l : List Vs} (h : Heap l) (x : Vs) : UpAt (l ++ [x]) l.length := by
  constructor
  · intro j h0 hj hne
    simp only [List.length_append, List.length_cons, List.length_nil] at hj
    rw [key_app (by omega), key_app (by omega)]
    exact h j h0 (by omega)
  · intro h0 j h1 h2 h3
    simp only [List.length_append, List.length_cons, List.length_nil] at h2
    omega
theorem up_done {l : List Vs} {i : Nat} (h : UpAt l i) (hk : i = 0 ∨ keyAt l ((i - 1) / 2) ≤ keyAt l i) : Heap l := by
  intro j h0 hj
  by_cases he : j = i
  · subst he; rcases hk with hk | hk
    · omega
    · exact hk
  · exact h.1 j h0 hj he
theorem up_step {l : List Vs} {i : Nat} (h : UpAt l i) (h0 : 0 < i) (hi : i < l.length) (hk : keyAt l i < keyAt l ((i - 1) / 2)) : UpAt (swp l i ((i - 1) / 2)) ((i - 1) / 2) := by
  have hp : (i - 1) / 2 < l.length := by omega
  constructor
  · intro j j0 hj hne
    rw [swp_length] at hj
    rw [key_swp hi hp, key_swp hi hp, if_neg hne]
    by_cases hji : j = i
    · subst hji
      rw [if_pos rfl, if_pos rfl]
      omega
    · rw [if_neg hji]
      have h1 := h.1 j j0 hj hji
      by_cases hq : (j - 1) / 2 = (i - 1) / 2
      · rw [if_pos hq]; rw [hq] at h1; omega
      · rw [if_neg hq]
        by_cases hqi : (j - 1) / 2 = i
        · rw [if_pos hqi]
          exact h.2 h0 j j0 hj hqi
        · rw [if_neg hqi]; exact h1
  · intro g0 j j0 hj hq
    rw [swp_length] at hj
    have hpp : ((i - 1) / 2 - 1) / 2 ≠ i := by omega
    have hpp2 : ((i - 1) / 2 - 1) / 2 ≠ (i - 1) / 2 := by omega
    have hpq := h.1 ((i - 1) / 2) g0 hp (by omega)
    rw [key_swp hi hp, key_swp hi hp, if_neg hpp2, if_neg hpp, if_neg (show j ≠ (i - 1) / 2 by omega)]
    by_cases hji : j = i
    · rw [if_pos hji]; exact hpq
    · rw [if_neg hji]
      have h1 := h.1 j j0 hj hji
      rw [hq] at h1
      omega
theorem dn_done {l : List Vs} {i : Nat} (h : DnAt l i) (h1 : 2 * i + 1 < l.length → keyAt l i ≤ keyAt l (2 * i + 1)) (h2 : 2 * i + 2 < l.length → keyAt l i ≤ keyAt l (2 * i + 2)) : Heap l := by
  intro j j0 hj
  by_cases he : (j - 1) / 2 = i
  · rw [he]
    rcases (show j = 2 * i + 1 ∨ j = 2 * i + 2 by omega) with rfl | rfl
    · exact h1 hj
    · exact h2 hj
  · exact h.1 j j0 hj he
/-- a step down to the least child -/
theorem dn_step {l : List Vs} {i c : Nat} (h : DnAt l i) (hc : c < l.length) (hci : c = 2 * i + 1 ∨ c = 2 * i + 2) (hk : keyAt l c < keyAt l i)
    (hl : ∀ j, 0 < j → j < l.length → (j - 1) / 2 = i → keyAt l c ≤ keyAt l j) : DnAt (swp l i c) c := by
  have hi : i < l.length := by omega
  have hcp : (c - 1) / 2 = i := by omega
  constructor
  · intro j j0 hj hne
    rw [swp_length] at hj
    rw [key_swp hi hc, key_swp hi hc, if_neg hne]
    by_cases hq : (j - 1) / 2 = i
    · rw [if_pos hq]
      by_cases hjc : j = c
      · rw [if_pos hjc]; omega
      · rw [if_neg hjc, if_neg (show j ≠ i by omega)]
        exact hl j j0 hj hq
    · rw [if_neg hq]
      have h1 := h.1 j j0 hj hq
      rw [if_neg (show j ≠ c by omega)]
      by_cases hji : j = i
      · rw [if_pos hji]
        subst hji
        exact h.2 j0 c (by omega) hc hcp
      · rw [if_neg hji]; exact h1
  · intro c0 j j0 hj hq
    rw [swp_length] at hj
    rw [key_swp hi hc, key_swp hi hc, if_neg (show (c - 1) / 2 ≠ c by omega), if_pos hcp, if_neg (show j ≠ c by omega), if_neg (show j ≠ i by omega)]
    have := h.1 j j0 hj (by omega)
    rw [hq] at this
    exact this
/-- the last in the first one's place, and the list shorter by one -/
def popd (l : List Vs) : List Vs := (l.set 0 (l.getD (l.length - 1) (0, 0))).take (l.length - 1)
theorem popd_length (l : List Vs) : (popd l).length = l.length - 1 := by simp [popd]
theorem popd_perm {l : List Vs} (h : 0 < l.length) : (l.getD 0 (0, 0) :: popd l).Perm l := by
  rcases Nat.lt_or_ge 1 l.length with h1 | h1
  · obtain ⟨a, t, rfl⟩ : ∃ a t, l = a :: t := by cases l with
      | nil => simp at h
      | cons a t => exact ⟨a, t, rfl⟩
    have ht : t ≠ [] := by intro e; subst e; simp at h1
    have e := List.dropLast_concat_getLast ht
    have hl : 0 < t.length := List.length_pos_iff.2 ht
    have e1 : popd (a :: t) = t.getLast ht :: t.dropLast := by
      unfold popd
      have : (a :: t).getD ((a :: t).length - 1) (0, 0) = t.getLast ht := by
        simp only [List.length_cons, Nat.add_sub_cancel]
        rw [List.getD_eq_getElem?_getD, List.getLast_eq_getElem]
        obtain ⟨n, hn⟩ : ∃ n, t.length = n + 1 := ⟨t.length - 1, by omega⟩
        simp [hn]
      rw [this]
      simp only [List.set_cons_zero, List.length_cons, Nat.add_sub_cancel]
      obtain ⟨n, hn⟩ : ∃ n, t.length = n + 1 := ⟨t.length - 1, by omega⟩
      rw [hn, List.take_succ_cons, List.dropLast_eq_take, hn]
      rfl
    rw [e1]
    simp only [List.getD_cons_zero]
    refine List.Perm.cons a ?_
    have : (t.getLast ht :: t.dropLast).Perm (t.dropLast ++ [t.getLast ht]) := (List.perm_append_singleton _ _).symm
    rw [e] at this
    exact this
  · have : l.length = 1 := by omega
    obtain ⟨a, rfl⟩ := List.length_eq_one_iff.1 this
    simp [popd]
theorem key_popd {l : List Vs} {j : Nat} (hj : j < l.length - 1) : keyAt (popd l) j = if j = 0 then keyAt l (l.length - 1) else keyAt l j := by
  have : keyAt (popd l) j = keyAt (l.set 0 (l.getD (l.length - 1) (0, 0))) j := by
    simp only [keyAt, popd, List.getD_eq_getElem?_getD]
    rw [List.getElem?_take_of_lt hj]
  rw [this]
  unfold keyAt
  rw [getD_setV _ _ _ _ (by omega)]
  split <;> rfl
theorem popd_dn {l : List Vs} (h : Heap l) : DnAt (popd l) 0 := by
  constructor
  · intro j j0 hj hne
    rw [popd_length] at hj
    rw [key_popd (by omega), key_popd hj, if_neg hne, if_neg (by omega)]
    exact h j j0 (by omega)
  · intro h0; omega
end Dp
end Go.Proofs.Ytmebpglkeedaoaa
namespace Go.Proofs.Ytmebpglkeedaoaa
namespace Dp
structure Ed where
  «to» : Int
  room : Int
  cost : Int
  deriving Inhabited
structure Gr where
  left : List Int
  es : List Ed
  outs : List (List Int)
/-- the other edge of an arc -/
def tw (k : Nat) : Nat := if k % 2 = 0 then k + 1 else k - 1
theorem tw_tw (k : Nat) : tw (tw k) = k := by unfold tw; split <;> split <;> omega
theorem tw_lt {k n : Nat} (h : n % 2 = 0) (hk : k < n) : tw k < n := by unfold tw; split <;> omega
theorem tw_ne (k : Nat) : tw k ≠ k := by unfold tw; split <;> omega
namespace Gr
def toA (G : Gr) (k : Nat) : Nat := (G.es.getD k default).to.toNat
def frA (G : Gr) (k : Nat) : Nat := G.toA (tw k)
def room (G : Gr) (k : Nat) : Int := (G.es.getD k default).room
def cost (G : Gr) (k : Nat) : Int := (G.es.getD k default).cost
def lf (G : Gr) (v : Nat) : Int := G.left.getD v 0
def rc (G : Gr) (p : List Int) (k : Nat) : Int := G.cost k + p.getD (G.frA k) 0 - p.getD (G.toA k) 0
/-- a graph of n nodes hangs together -/
structure Ok (G : Gr) (n : Nat) : Prop where
  n1 : 1 ≤ n ∧ n ≤ 1024
  ll : G.left.length = n
  lo : G.outs.length = n
  le : G.es.length ≤ 4096
  ev : G.es.length % 2 = 0
  «to» : ∀ k, k < G.es.length → 0 ≤ (G.es.getD k default).to ∧ (G.es.getD k default).to < n
  ne : ∀ k, k < G.es.length → G.toA k ≠ G.frA k
  co : ∀ k, k < G.es.length → G.cost (tw k) = - G.cost k
  cb : ∀ k, k < G.es.length → -1048576 ≤ G.cost k ∧ G.cost k ≤ 1048576
  rm : ∀ k, k < G.es.length → 0 ≤ G.room k ∧ G.room k + G.room (tw k) ≤ 1048576
  lb : ∀ v, v < n → -8589934592 ≤ G.lf v ∧ G.lf v ≤ 8589934592
  o1 : ∀ v, v < n → ∀ x, x ∈ G.outs.getD v [] → 0 ≤ x ∧ x < G.es.length ∧ G.frA x.toNat = v
  o2 : ∀ k, k < G.es.length → (k : Int) ∈ G.outs.getD (G.frA k) []
  o3 : ∀ v, v < n → (G.outs.getD v []).length ≤ 4096
theorem Ok.toL {G : Gr} {n : Nat} (h : G.Ok n) {k : Nat} (hk : k < G.es.length) : G.toA k < n := by have := h.to k hk; unfold toA; omega
theorem Ok.frL {G : Gr} {n : Nat} (h : G.Ok n) {k : Nat} (hk : k < G.es.length) : G.frA k < n := h.toL (tw_lt h.ev hk)
/-- potentials that leave no edge with room a cost below 0 -/
structure Pot (G : Gr) (n : Nat) (p : List Int) : Prop where
  len : p.length = n
  bd : ∀ v, v < n → 0 ≤ p.getD v 0 ∧ p.getD v 0 ≤ 1073741824
  rc : ∀ k, k < G.es.length → 0 < G.room k → 0 ≤ G.rc p k
  src : ∀ v, v < n → 0 < G.lf v → p.getD v 0 = 0
end Gr
def never : Int := 1152921504606846976
/-- how a node was come to -/
def Lnk (G : Gr) (p fa vi : List Int) (S : List Nat) (v : Nat) : Prop :=
  (0 < G.lf v ∧ fa.getD v 0 = 0 ∧ vi.getD v 0 = -1) ∨ ∃ k, k < G.es.length ∧ vi.getD v 0 = (k : Int) ∧ G.toA k = v ∧ 0 < G.room k ∧ G.frA k ∈ S ∧ fa.getD v 0 = fa.getD (G.frA k) 0 + G.rc p k
/-- the settled nodes, the last one first: each was come to from one that was settled before -/
def Chn (G : Gr) (p fa vi : List Int) : List Nat → Prop
  | [] => True
  | v :: S => Chn G p fa vi S ∧ Lnk G p fa vi S v
theorem Lnk.keep {G : Gr} {p fa vi fa' vi' : List Int} {S : List Nat} {v : Nat} (h : Lnk G p fa vi S v) (h1 : ∀ u, u ∈ S ∨ u = v → fa'.getD u 0 = fa.getD u 0) (h2 : vi'.getD v 0 = vi.getD v 0) : Lnk G p fa' vi' S v := by
  rcases h with ⟨a, b, c⟩ | ⟨k, a, b, c, d, e, f⟩
  · exact .inl ⟨a, (h1 v (.inr rfl)).trans b, h2.trans c⟩
  · exact .inr ⟨k, a, h2.trans b, c, d, e, by rw [h1 v (.inr rfl), h1 _ (.inl e)]; exact f⟩
theorem Lnk.more {G : Gr} {p fa vi : List Int} {S S' : List Nat} {v : Nat} (h : Lnk G p fa vi S v) (hs : ∀ u, u ∈ S → u ∈ S') : Lnk G p fa vi S' v := by
  rcases h with h | ⟨k, a, b, c, d, e, f⟩
  · exact .inl h
  · exact .inr ⟨k, a, b, c, d, hs _ e, f⟩
theorem Chn.keep {G : Gr} {p fa vi fa' vi' : List Int} : ∀ {S : List Nat}, Chn G p fa vi S → (∀ u, u ∈ S → fa'.getD u 0 = fa.getD u 0 ∧ vi'.getD u 0 = vi.getD u 0) → Chn G p fa' vi' S
  | [], _, _ => trivial
  | v :: S, h, hk => ⟨Chn.keep h.1 (fun u hu => hk u (by simp [hu])), h.2.keep (fun u hu => (hk u (by rcases hu with hu | hu <;> simp [hu])).1) (hk v (by simp)).2⟩
/-- the length of a way, with the potentials, is small -/
theorem Lnk.up {G : Gr} {n : Nat} {p fa vi : List Int} {S : List Nat} {v : Nat} (hG : G.Ok n) (hp : G.Pot n p) (h : Lnk G p fa vi S v) (hv : v < n) {B : Int} (hB : 0 ≤ B) (hS : ∀ u, u ∈ S → fa.getD u 0 + p.getD u 0 ≤ B) : fa.getD v 0 + p.getD v 0 ≤ B + 1048576 := by
  rcases h with ⟨a, b, c⟩ | ⟨k, a, b, c, d, e, f⟩
  · have := hp.src v hv a
    omega
  · have h1 := hS _ e
    have h2 := (hG.cb k a).2
    unfold Gr.rc at f
    rw [c] at f
    omega
theorem Chn.up {G : Gr} {n : Nat} {p fa vi : List Int} (hG : G.Ok n) (hp : G.Pot n p) : ∀ {S : List Nat}, Chn G p fa vi S → (∀ v, v ∈ S → v < n) → ∀ v, v ∈ S → fa.getD v 0 + p.getD v 0 + 1048576 ≤ 1048576 * S.length ∨ fa.getD v 0 + p.getD v 0 ≤ 0
  | [], _, _, v, hv => by simp at hv
  | u :: S, h, hl, v, hv => by
    have ih := Chn.up hG hp h.1 (fun v hv => hl v (by simp [hv]))
    have e : ((List.length (u :: S) : Nat) : Int) = S.length + 1 := by simp
    rw [e, Int.mul_add]
    rcases List.mem_cons.1 hv with rfl | hv
    · rcases h.2 with ⟨a, b, c⟩ | ⟨k, a, b, c, d, e, f⟩
      · right
        have := hp.src v (hl v (by simp)) a
        omega
      · have h1 := ih _ e
        have h2 := (hG.cb k a).2
        unfold Gr.rc at f
        rw [c] at f
        have : 1 ≤ S.length := List.length_pos_of_mem e
        left
        omega
    · have := ih v hv
      omega
/-- what holds at each moment of the search -/
structure NI (G : Gr) (n : Nat) (p fa vi : List Int) (H : List Vs) (S : List Nat) (en ds : Int) (ex : Nat → Prop) : Prop where
  l1 : fa.length = n
  l2 : vi.length = n
  sn : S.Nodup
  sl : ∀ v, v ∈ S → v < n
  d0 : 0 ≤ ds
  top : ∀ v, v < n → 0 ≤ fa.getD v 0 ∧ fa.getD v 0 ≤ never
  src : ∀ v, v < n → 0 < G.lf v → fa.getD v 0 = 0
  via : ∀ v, v < n → -1 ≤ vi.getD v 0 ∧ vi.getD v 0 < G.es.length ∧ (fa.getD v 0 = never → vi.getD v 0 = -1)
  lnk : ∀ v, v < n → fa.getD v 0 < never → Lnk G p fa vi S v
  chn : Chn G p fa vi S
  sd : ∀ v, v ∈ S → fa.getD v 0 ≤ ds ∧ fa.getD v 0 < never
  hd : ∀ e, e ∈ H → ds ≤ e.2
  pnd : ∀ v, v < n → fa.getD v 0 < never → v ∉ S → ((v : Int), fa.getD v 0) ∈ H
  ent : ∀ e, e ∈ H → (0 ≤ e.1 ∧ e.1 < n) ∧ fa.getD e.1.toNat 0 ≤ e.2 ∧ e.2 < never ∧ (e.1.toNat ∈ S → fa.getD e.1.toNat 0 < e.2)
  hn : H.Nodup
  bel : ∀ k, k < G.es.length → G.frA k ∈ S → 0 < G.room k → ¬ ex k → fa.getD (G.toA k) 0 ≤ fa.getD (G.frA k) 0 + G.rc p k
  fin : (en = -1 ∧ ∀ v, v ∈ S → 0 ≤ G.lf v) ∨ ∃ t : Nat, en = (t : Int) ∧ t < n ∧ G.lf t < 0 ∧ t ∈ S ∧ ∀ v, v < n → G.lf v < 0 → fa.getD t 0 ≤ fa.getD v 0
section
variable {G : Gr} {n : Nat} {p fa vi : List Int} {H R : List Vs} {S : List Nat} {en ds : Int} {ex : Nat → Prop}
theorem NI.perm (h : NI G n p fa vi H S en ds ex) (hp : R.Perm H) : NI G n p fa vi R S en ds ex :=
  { h with hd := fun e he => h.hd e (hp.mem_iff.1 he), pnd := fun v a b c => hp.mem_iff.2 (h.pnd v a b c), ent := fun e he => h.ent e (hp.mem_iff.1 he), hn := hp.nodup_iff.2 h.hn }
theorem NI.excuse {ex' : Nat → Prop} (h : NI G n p fa vi H S en ds ex) (hx : ∀ k, k < G.es.length → G.frA k ∈ S → ex k → ex' k) : NI G n p fa vi H S en ds ex' :=
  { h with bel := fun k a b c d => h.bel k a b c (fun hk => d (hx k a b hk)) }
theorem NI.slen (h : NI G n p fa vi H S en ds ex) : S.length ≤ n := by
  have := h.sn.length_le_of_subset (l₂ := List.range n) (fun v hv => List.mem_range.2 (h.sl v hv))
  simpa using this
/-- an entry that is overtaken goes -/
theorem NI.stale {e : Vs} (h : NI G n p fa vi (e :: R) S en ds ex) (hs : fa.getD e.1.toNat 0 < e.2) : NI G n p fa vi R S en ds ex :=
  { h with
    hd := fun x hx => h.hd x (by simp [hx])
    pnd := fun v a b c => by
      rcases List.mem_cons.1 (h.pnd v a b c) with h1 | h1
      · rw [← h1] at hs
        simp at hs
      · exact h1
    ent := fun x hx => h.ent x (by simp [hx])
    hn := (List.nodup_cons.1 h.hn).2 }
theorem NI.new (h : NI G n p fa vi H S en ds ex) {e : Vs} (he : e ∈ H) (hs : ¬ fa.getD e.1.toNat 0 < e.2) : e.1.toNat ∉ S := fun hm => hs ((h.ent e he).2.2.2 hm)
/-- the nearest node is settled -/
theorem NI.fresh {u : Nat} {d : Int} (h : NI G n p fa vi (((u : Int), d) :: R) S en ds (fun _ => False)) (hmin : ∀ x, x ∈ R → d ≤ x.2) (hs : ¬ fa.getD u 0 < d) :
    fa.getD u 0 = d ∧ u ∉ S ∧ u < n ∧ d < never ∧ NI G n p fa vi R (u :: S) (if G.lf u < 0 ∧ en < 0 then (u : Int) else en) d (fun k => G.frA k = u) := by
  have he := h.ent ((u : Int), d) (by simp)
  have hu : u ∉ S := h.new (e := ((u : Int), d)) (by simp) hs
  have hun : u < n := by have := he.1; simp only at this; omega
  simp only [Int.toNat_natCast] at he
  have hfd : fa.getD u 0 = d := by omega
  have hds : ds ≤ d := h.hd ((u : Int), d) (by simp)
  have hlt : d < never := he.2.2.1
  have hL := h.lnk u hun (by omega)
  refine ⟨hfd, hu, hun, hlt, ?_⟩
  exact
  { l1 := h.l1, l2 := h.l2, top := h.top, src := h.src, via := h.via
    sn := List.nodup_cons.2 ⟨hu, h.sn⟩
    sl := fun v hv => by
      rcases List.mem_cons.1 hv with rfl | hv
      · exact hun
      · exact h.sl v hv
    d0 := by have := h.d0; omega
    lnk := fun v a b => (h.lnk v a b).more (fun x hx => by simp [hx])
    chn := ⟨h.chn, hL⟩
    sd := fun v hv => by
      rcases List.mem_cons.1 hv with rfl | hv
      · omega
      · have := h.sd v hv; omega
    hd := fun e he => hmin e he
    pnd := fun v a b c => by
      simp only [List.mem_cons, not_or] at c
      rcases List.mem_cons.1 (h.pnd v a b c.2) with h1 | h1
      · exact absurd (by have := congrArg Prod.fst h1; simp only at this; omega) c.1
      · exact h1
    ent := fun x hx => by
      have hx0 := h.ent x (by simp [hx])
      refine ⟨hx0.1, hx0.2.1, hx0.2.2.1, fun hm => ?_⟩
      rcases List.mem_cons.1 hm with h1 | h1
      · have hne : x ≠ ((u : Int), d) := fun e => (List.nodup_cons.1 h.hn).1 (e ▸ hx)
        have h2 := hx0.2.1
        rw [h1] at h2 ⊢
        rcases Int.lt_or_eq_of_le h2 with h3 | h3
        · exact h3
        · exfalso
          apply hne
          have h4 := hx0.1
          have h5 : x.1 = (u : Int) := by omega
          have h6 : x.2 = d := by omega
          exact Prod.ext h5 h6
      · exact hx0.2.2.2 h1
    hn := (List.nodup_cons.1 h.hn).2
    bel := fun k a b c hx => by
      rcases List.mem_cons.1 b with h1 | h1
      · exact absurd h1 hx
      · exact h.bel k a h1 c (fun f => f)
    fin := by
      rcases h.fin with ⟨e1, e2⟩ | ⟨t, e1, e2, e3, e4, e5⟩
      · by_cases hl : G.lf u < 0
        · right
          refine ⟨u, by rw [if_pos ⟨hl, by omega⟩], hun, hl, by simp, fun v hv hlv => ?_⟩
          rw [hfd]
          have htop := h.top v hv
          by_cases hr : fa.getD v 0 < never
          · have hvS : v ∉ S := fun hm => by have := e2 v hm; omega
            rcases List.mem_cons.1 (h.pnd v hv hr hvS) with h1 | h1
            · have := congrArg Prod.snd h1
              simp only at this
              omega
            · have := hmin _ h1
              simpa using this
          · omega
        · left
          refine ⟨by rw [if_neg (fun hc => hl hc.1)]; exact e1, fun v hv => ?_⟩
          rcases List.mem_cons.1 hv with rfl | hv
          · omega
          · exact e2 v hv
      · right
        exact ⟨t, by rw [if_neg (by omega)]; exact e1, e2, e3, by simp [e4], e5⟩ }
/-- an edge over which nothing is nearer -/
theorem NI.skip {u k : Nat} {ex' : Nat → Prop} (h : NI G n p fa vi H S en ds ex) (hx : ∀ j, j < G.es.length → ex j → ex' j ∨ j = k) (hu : G.frA k = u) (hc : ¬ (fa.getD u 0 + G.rc p k < fa.getD (G.toA k) 0 ∧ 0 < G.room k)) : NI G n p fa vi H S en ds ex' :=
  { h with
    bel := fun j a b c d => by
      by_cases hjk : j = k
      · subst hjk
        rw [hu] at *
        omega
      · exact h.bel j a b c (fun e => (hx j a e).elim d hjk) }
/-- an edge over which the way is shorter -/
theorem NI.relax {u k : Nat} {d : Int} {ex' : Nat → Prop} (hG : G.Ok n) (hp : G.Pot n p) (h : NI G n p fa vi H S en ds ex) (hx : ∀ j, j < G.es.length → ex j → ex' j ∨ j = k) (hk : k < G.es.length) (hu : G.frA k = u) (huS : u ∈ S) (hds : fa.getD u 0 = ds)
    (hd : d = fa.getD u 0 + G.rc p k) (hc : d < fa.getD (G.toA k) 0) (hr : 0 < G.room k) :
    G.toA k < n ∧ 0 ≤ d ∧ NI G n p (fa.set (G.toA k) d) (vi.set (G.toA k) k) (((G.toA k : Int), d) :: H) S en ds ex' := by
  have hv := hG.toL hk
  have hrc := hp.rc k hk hr
  have h0 := h.d0
  generalize hvv : G.toA k = v at *
  have hvS : v ∉ S := fun hm => by have := h.sd v hm; omega
  have gf : ∀ j, (fa.set v d).getD j 0 = if j = v then d else fa.getD j 0 := fun j => getD_setI fa v j d (by rw [h.l1]; exact hv)
  have gv : ∀ j, (vi.set v (k : Int)).getD j 0 = if j = v then (k : Int) else vi.getD j 0 := fun j => getD_setI vi v j k (by rw [h.l2]; exact hv)
  have gS : ∀ j, j ∈ S → j ≠ v := fun j hj e => hvS (e ▸ hj)
  have htv := h.top v hv
  have hdn : d < never := by omega
  refine ⟨hv, by omega, ?_⟩
  exact
  { l1 := by rw [List.length_set]; exact h.l1
    l2 := by rw [List.length_set]; exact h.l2
    sn := h.sn, sl := h.sl, d0 := h.d0
    top := fun j hj => by
      rw [gf j]
      have := h.top j hj
      split <;> omega
    src := fun j hj hl => by
      rw [gf j]
      have := h.src j hj hl
      split
      · rename_i e; subst e; omega
      · exact this
    via := fun j hj => by
      rw [gf j, gv j]
      have := h.via j hj
      split
      · refine ⟨by omega, by omega, fun e => by omega⟩
      · exact this
    lnk := fun j hj hl => by
      by_cases e : j = v
      · subst e
        right
        refine ⟨k, hk, by rw [gv, if_pos rfl], hvv, hr, by rw [hu]; exact huS, ?_⟩
        rw [gf, if_pos rfl, gf, hu, if_neg (gS u huS)]
        exact hd
      · rw [gf, if_neg e] at hl
        refine (h.lnk j hj hl).keep (fun w hw => ?_) (by rw [gv, if_neg e])
        rw [gf, if_neg]
        rcases hw with hw | hw
        · exact gS w hw
        · rw [hw]; exact e
    chn := h.chn.keep (fun w hw => by rw [gf, gv, if_neg (gS w hw), if_neg (gS w hw)]; exact ⟨rfl, rfl⟩)
    sd := fun w hw => by rw [gf, if_neg (gS w hw)]; exact h.sd w hw
    hd := fun e he => by
      rcases List.mem_cons.1 he with rfl | he
      · simp only; omega
      · exact h.hd e he
    pnd := fun w a b c => by
      by_cases e : w = v
      · subst e
        rw [gf, if_pos rfl]
        simp
      · rw [gf, if_neg e] at b ⊢
        exact List.mem_cons_of_mem _ (h.pnd w a b c)
    ent := fun e he => by
      rcases List.mem_cons.1 he with rfl | he
      · simp only [Int.toNat_natCast]
        rw [gf, if_pos rfl]
        exact ⟨⟨by omega, by omega⟩, by omega, hdn, fun hm => absurd hm hvS⟩
      · have := h.ent e he
        refine ⟨this.1, ?_, this.2.2.1, fun hm => ?_⟩
        · rw [gf]
          split
          · rename_i e1; rw [e1] at this; omega
          · exact this.2.1
        · rw [gf, if_neg (gS _ hm)]
          exact this.2.2.2 hm
    hn := List.nodup_cons.2 ⟨fun hm => by
      have := (h.ent _ hm).2.1
      simp only [Int.toNat_natCast] at this
      omega, h.hn⟩
    bel := fun j a b c e => by
      rw [gf (G.frA j), if_neg (gS _ b), gf]
      by_cases hjk : j = k
      · subst hjk
        rw [hvv, if_pos rfl, hu]
        omega
      · have := h.bel j a b c (fun e' => (hx j a e').elim e hjk)
        split
        · rename_i e1; rw [e1] at this; omega
        · exact this
    fin := by
      rcases h.fin with h1 | ⟨t, e1, e2, e3, e4, e5⟩
      · exact .inl h1
      · refine .inr ⟨t, e1, e2, e3, e4, fun w hw hl => ?_⟩
        rw [gf, gf, if_neg (gS t e4)]
        split
        · have := h.sd t e4
          omega
        · exact e5 w hw hl }
end
/-- what the search leaves -/
structure NR (G : Gr) (n : Nat) (p fa vi : List Int) (en : Int) : Prop where
  l1 : fa.length = n
  l2 : vi.length = n
  top : ∀ v, v < n → 0 ≤ fa.getD v 0 ∧ fa.getD v 0 ≤ never
  src : ∀ v, v < n → 0 < G.lf v → fa.getD v 0 = 0
  via : ∀ v, v < n → -1 ≤ vi.getD v 0 ∧ vi.getD v 0 < G.es.length
  up : ∀ v, v < n → fa.getD v 0 < never → fa.getD v 0 + p.getD v 0 ≤ 1048576 * (n - 1 : Int)
  bel : ∀ k, k < G.es.length → fa.getD (G.frA k) 0 < never → 0 < G.room k → fa.getD (G.toA k) 0 ≤ fa.getD (G.frA k) 0 + G.rc p k ∧ fa.getD (G.toA k) 0 < never
  ch : ∃ S : List Nat, S.Nodup ∧ (∀ v, v < n → (v ∈ S ↔ fa.getD v 0 < never)) ∧ (∀ v, v ∈ S → v < n) ∧ Chn G p fa vi S
  fin : (en = -1 ∧ ∀ v, v < n → fa.getD v 0 < never → 0 ≤ G.lf v) ∨ ∃ t : Nat, en = (t : Int) ∧ t < n ∧ G.lf t < 0 ∧ fa.getD t 0 < never ∧ ∀ v, v < n → G.lf v < 0 → fa.getD t 0 ≤ fa.getD v 0
theorem NI.done {G : Gr} {n : Nat} {p fa vi : List Int} {S : List Nat} {en ds : Int} (hG : G.Ok n) (hp : G.Pot n p) (h : NI G n p fa vi [] S en ds (fun _ => False)) : NR G n p fa vi en := by
  have hS : ∀ v, v < n → (v ∈ S ↔ fa.getD v 0 < never) := fun v hv => ⟨fun hm => (h.sd v hm).2, fun hl => Decidable.byContradiction fun hn => by have := h.pnd v hv hl hn; simp at this⟩
  have hup : ∀ v, v < n → fa.getD v 0 < never → fa.getD v 0 + p.getD v 0 ≤ 1048576 * (n - 1 : Int) := fun v hv hl => by
    have h1 := Chn.up hG hp h.chn h.sl v ((hS v hv).2 hl)
    have h2 := h.slen
    have := hG.n1
    omega
  exact
  { l1 := h.l1, l2 := h.l2, top := h.top, src := h.src
    via := fun v hv => ⟨(h.via v hv).1, (h.via v hv).2.1⟩
    up := hup
    bel := fun k hk hl hr => by
      have h1 := h.bel k hk ((hS _ (hG.frL hk)).2 hl) hr (fun f => f)
      refine ⟨h1, ?_⟩
      have h2 := hup _ (hG.frL hk) hl
      have h3 := hp.bd _ (hG.frL hk)
      have h4 := hp.bd _ (hG.toL hk)
      have h5 := hG.cb k hk
      have := hG.n1
      unfold Gr.rc at h1
      unfold never
      omega
    ch := ⟨S, h.sn, hS, h.sl, h.chn⟩
    fin := by
      rcases h.fin with ⟨e1, e2⟩ | ⟨t, e1, e2, e3, e4, e5⟩
      · exact .inl ⟨e1, fun v hv hl => e2 v ((hS v hv).2 hl)⟩
      · exact .inr ⟨t, e1, e2, e3, (hS t e2).1 e4, e5⟩ }
/-- the start: all sources wait -/
theorem NI.start {G : Gr} {n : Nat} {p fa vi : List Int} {H : List Vs} (l1 : fa.length = n) (l2 : vi.length = n) (hf : ∀ v, v < n → fa.getD v 0 = if 0 < G.lf v then 0 else never) (hv : ∀ v, v < n → vi.getD v 0 = -1)
    (h1 : ∀ e, e ∈ H → e.2 = 0 ∧ ∃ v : Nat, e.1 = (v : Int) ∧ v < n ∧ 0 < G.lf v) (h2 : ∀ v : Nat, v < n → 0 < G.lf v → ((v : Int), (0 : Int)) ∈ H) (hn : H.Nodup) : NI G n p fa vi H [] (-1) 0 (fun _ => False) := by
  have hs : ∀ v, v < n → fa.getD v 0 < never → 0 < G.lf v := fun v hv hl => by
    rw [hf v hv] at hl
    split at hl
    · assumption
    · omega
  exact
  { l1 := l1, l2 := l2, sn := List.nodup_nil, sl := fun v h => by simp at h, d0 := by omega
    top := fun v hv => by rw [hf v hv]; unfold never; split <;> omega
    src := fun v hv hl => by rw [hf v hv, if_pos hl]
    via := fun v h => by rw [hv v h]; omega
    lnk := fun v a b => .inl ⟨hs v a b, by rw [hf v a, if_pos (hs v a b)], hv v a⟩
    chn := trivial
    sd := fun v h => by simp at h
    hd := fun e he => by have := (h1 e he).1; omega
    pnd := fun v a b _ => by rw [hf v a, if_pos (hs v a b)]; exact h2 v a (hs v a b)
    ent := fun e he => by
      obtain ⟨e2, v, e1, e3, e4⟩ := h1 e he
      rw [e1, e2, Int.toNat_natCast, hf v e3, if_pos e4]
      refine ⟨⟨by omega, by omega⟩, by omega, by unfold never; omega, fun h => by simp at h⟩
    hn := hn
    bel := fun k _ h => by simp at h
    fin := .inl ⟨rfl, fun v h => by simp at h⟩ }
end Dp
end Go.Proofs.Ytmebpglkeedaoaa
namespace Go.Proofs.Ytmebpglkeedaoaa
open Go.RowKit Dp
set_option linter.unusedVariables false

def flat {α : Type} (f : α → List Value) (l : List α) : List Value := l.flatMap f
theorem flat_length {α : Type} {f : α → List Value} {s : Nat} (hf : ∀ x, (f x).length = s) : ∀ l : List α, (flat f l).length = l.length * s
  | [] => by simp [flat]
  | x :: l => by
    have := flat_length hf l
    unfold flat at *
    simp only [List.flatMap_cons, List.length_append, List.length_cons, hf, this, Nat.add_mul]
    omega
theorem flat_get {α : Type} {f : α → List Value} {s : Nat} (hf : ∀ x, (f x).length = s) : ∀ (l : List α) (i j : Nat) (x : α), l[i]? = some x → j < s → (flat f l)[i * s + j]? = (f x)[j]?
  | [], i, j, x, h, _ => by simp at h
  | y :: l, 0, j, x, h, hj => by
    simp only [List.getElem?_cons_zero, Option.some.injEq] at h
    subst h
    unfold flat
    rw [List.flatMap_cons, Nat.zero_mul, Nat.zero_add, List.getElem?_append_left (by rw [hf]; exact hj)]
  | y :: l, i + 1, j, x, h, hj => by
    simp only [List.getElem?_cons_succ] at h
    have ih := flat_get hf l i j x h hj
    unfold flat at *
    rw [List.flatMap_cons, List.getElem?_append_right (by rw [hf, Nat.add_mul]; omega), hf]
    rw [← ih]
    congr 1
    rw [Nat.add_mul]; omega
theorem flat_set {α : Type} {f : α → List Value} {s : Nat} (hf : ∀ x, (f x).length = s) (j : Nat) (v : Value) (hj : j < s) : ∀ (l : List α) (i : Nat) (x y : α), l[i]? = some y → f x = (f y).set j v → (flat f l).set (i * s + j) v = flat f (l.set i x)
  | [], i, x, y, h, _ => by simp at h
  | z :: l, 0, x, y, h, he => by
    simp only [List.getElem?_cons_zero, Option.some.injEq] at h
    subst h
    unfold flat
    rw [List.flatMap_cons, Nat.zero_mul, Nat.zero_add, List.set_append_left _ _ (by rw [hf]; exact hj), List.set_cons_zero, List.flatMap_cons, he]
  | z :: l, i + 1, x, y, h, he => by
    simp only [List.getElem?_cons_succ] at h
    have ih := flat_set hf j v hj l i x y h he
    unfold flat at *
    rw [List.flatMap_cons, List.set_cons_succ, List.flatMap_cons, List.set_append_right _ _ (by rw [hf, Nat.add_mul]; omega), hf, ← ih]
    congr 2
    rw [Nat.add_mul]; omega
theorem flat_append {α : Type} (f : α → List Value) (a b : List α) : flat f (a ++ b) = flat f a ++ flat f b := by simp [flat]
theorem flat_take {α : Type} {f : α → List Value} {s : Nat} (hf : ∀ x, (f x).length = s) : ∀ (l : List α) (k : Nat), (flat f l).take (k * s) = flat f (l.take k)
  | [], k => by simp [flat]
  | x :: l, 0 => by simp [flat]
  | x :: l, k + 1 => by
    have ih := flat_take hf l k
    unfold flat at *
    rw [List.flatMap_cons, List.take_succ_cons, List.flatMap_cons, ← ih, List.take_append, hf]
    have h1 : (f x).take ((k + 1) * s) = f x := List.take_of_length_le (by rw [hf, Nat.add_mul]; omega)
    rw [h1]
    congr 2
    rw [Nat.add_mul]; omega
theorem getElem_D {α : Type} (l : List α) (i : Nat) (d : α) (h : i < l.length) : l[i]? = some (l.getD i d) := by
  rw [List.getD_eq_getElem?_getD, List.getElem?_eq_getElem h]; rfl

/-- a row of structs of the call's own, at block g -/
def OwnR {α : Type} (f : α → List Value) (e : TypeId) (s : Nat) (B : Nat) (W : World) (A : Option Addr) (c : Nat) (l : List α) : Prop := W.ownsRow B e s (.slice A l.length c) l.length (flat f l)
section
variable {α : Type} {f : α → List Value} {e : TypeId} {s B : Nat} {W W' : World} {g c : Nat} {l : List α} {A : Option Addr}
theorem OwnR.cell (hf : ∀ x, (f x).length = s) (h : OwnR f e s B W (some ⟨g, 0, none⟩) c l) (i j : Nat) (x : α) (hx : l[i]? = some x) (hj : j < s) : W.cell? ⟨g, i * s + j, none⟩ = (f x)[j]? := by
  have hi : i < l.length := (List.getElem?_eq_some_iff.1 hx).1
  have : i * s + j < l.length * s := by
    have := Nat.mul_le_mul_right s (show i + 1 ≤ l.length from hi)
    rw [Nat.add_mul] at this
    omega
  rw [World.ownsRow.cellAt h _ this, flat_get hf l i j x hx hj]
theorem OwnR.free (h : OwnR f e s B W (some ⟨g, 0, none⟩) c l) (j : Nat) : W.frozen? ⟨g, j, none⟩ = false := World.ownsRow.frozenAt h j
theorem OwnR.put (hf : ∀ x, (f x).length = s) (h : OwnR f e s B W (some ⟨g, 0, none⟩) c l) (i j : Nat) (x y : α) (v : Value) (hy : l[i]? = some y) (hj : j < s) (he : f x = (f y).set j v) : OwnR f e s B (W.setCell ⟨g, i * s + j, none⟩ v) (some ⟨g, 0, none⟩) c (l.set i x) := by
  have := (World.ownsRow.stored h (i * s + j) v).1
  unfold OwnR
  rw [List.length_set, ← flat_set hf j v hj l i x y hy he]
  exact this
theorem OwnR.below (h : OwnR f e s B W A c l) (hb : Below W.heap.size W W') : OwnR f e s B W' A c l := ownBelow h hb
theorem OwnR.touch {S : Nat → Prop} (h : OwnR f e s B W A c l) (k : Touch S W W') (hn : ∀ b, OwnB A b → ¬ S b) : OwnR f e s B W' A c l := ownTouch h k hn
theorem OwnR.lt (h : OwnR f e s B W (some ⟨g, 0, none⟩) c l) : B ≤ g ∧ g < W.heap.size := World.ownsRow.lt h g rfl
theorem OwnR.mono {B' : Nat} (h : OwnR f e s B W A c l) (hb : B' ≤ B) : OwnR f e s B' W A c l := ⟨h.1, h.2.imp id (fun ⟨k, c, cur, hv, hb', r⟩ => ⟨k, c, cur, hv, Nat.le_trans hb hb', r⟩)⟩
theorem OwnR.form (h : OwnR f e s B W A c l) (hn : 0 < l.length) : ∃ g, A = some ⟨g, 0, none⟩ ∧ B ≤ g ∧ g < W.heap.size ∧ l.length ≤ c ∧ c ≤ 9223372036854775807 := by
  rcases h.2 with ⟨h0, h1⟩ | ⟨g, cap', cur, hv, hb, hg, hn', hcm, _⟩
  · omega
  · cases hv
    exact ⟨g, rfl, hb, (Array.getElem?_eq_some_iff.1 hg).1, hn', by unfold maxLen at hcm; omega⟩
theorem OwnR.set_ne (h : OwnR f e s B W A c l) {p : Addr} (hp : ¬ OwnB A p.block) (u : Value) : OwnR f e s B (W.setCell p u) A c l := ownSet h hp u
theorem OwnR.pop (hf : ∀ x, (f x).length = s) (h : OwnR f e s B W (some ⟨g, 0, none⟩) c l) (k : Nat) (hk : k + 1 = l.length) : OwnR f e s B W (some ⟨g, 0, none⟩) c (l.take k) := by
  unfold OwnR at h ⊢
  rw [← hk] at h
  have hl : (l.take k).length = k := by simp; omega
  rw [hl]
  have e1 : flat f l = flat f (l.take k) ++ flat f (l.drop k) := by rw [← flat_append, List.take_append_drop]
  rw [e1] at h
  exact ownsRow_pop (by rw [flat_length hf, hl]) h
end
end Go.Proofs.Ytmebpglkeedaoaa
namespace Go.Proofs.Ytmebpglkeedaoaa
open Go Go.RowKit
set_option linter.unusedVariables false
/-- a world that is W -/
structure Same (W : World) where
  w : World
  is : w = W
instance (W : World) : Nonempty (Same W) := ⟨⟨W, rfl⟩⟩
@[simp, go_sem] theorem Same.eq {W : World} (x : Same W) : x.w = W := x.is
def isMove (o : Oper) : Bool := (match o.op with | .move _ => true | _ => false) && o.guard.isNone
/-- an operation leaves a value, whatever it is, and a world -/
def StepV (P : Program) (o : Oper) (a : Act) (w : World) (N : Value → World → Prop) : Prop :=
  match (execOp a.eval o).run P w with
  | .ok (.value v) w' => N v w'
  | .ok .skip w' => N undef w'
  | .ok (.enter f args) w' => Calls P f args w' fun e w'' => ∃ v, e = .returned v ∧ N v w''
  | _ => False
def SpineV (P : Program) (C : World → Prop) (T : Act → World → Prop) : List (Oper × Bool) → Act → World → Prop
  | [], a, w => T a w
  | (o, f) :: r, a, w => StepV P o a w fun v w' => (f = true → C w') ∧ SpineV P C T r (a.put o.dst v) w'
def spineB (ops : Array Oper) (k : Nat) (fl : List Bool) (lz : List Nat) (n : Nat) : Bool :=
  Region.noSelect ops && decide (k + fl.length ≤ ops.size) && dstsOk n (ops.toList.take k) &&
  (List.range ops.size).all (fun i => match ops[i]? with | some o => o.after.all (fun e => !Region.binds .any e || decide (e.on < i)) | none => false) &&
  (List.range k).all (fun i => (List.range k).all fun j => match ops[i]?, ops[j]? with
    | some oi, some oj => (match oj.dst with | some d => !(oi.looksAt ops).contains d || (decide (j < i) && waitsB1 .any ops i j) | none => false)
    | _, _ => false) &&
  (List.range k).all (fun i => (List.range fl.length).all fun j => match ops[i]?, ops[k + j]? with
    | some oi, some oj => (match oj.dst with | some d => !(oi.looksAt ops).contains d && oi.dst != some d | none => true)
    | _, _ => false) &&
  (List.range fl.length).all (fun s => match ops[k + s]? with
    | some o => o.guard.isNone && (decide (s = 0) || waitsB1 .any ops (k + s) (k + s - 1)) && (List.range k).all (fun j => match ops[j]? with
      | some oj => (match oj.dst with | some d => !(o.looksAt ops).contains d || waitsB1 .any ops (k + s) j | none => false)
      | none => false) && (fl.getD s true || (List.range k).all (fun i => lz.contains i || (coverB ops ops.size (depsB ops (k + s) (List.replicate ops.size false))).getD i false))
    | none => false) &&
  lz.all (fun i => match ops[i]? with | some o => isMove o | none => false) &&
  (List.range ops.size).all (fun t => decide (t < k + fl.length) || ((coverB ops ops.size (depsB ops t (List.replicate ops.size false))).take (k + fl.length)).all (fun b => b)) &&
  Region.seqB .any ops (ops.size - (k + fl.length)) (k + fl.length) (Array.replicate (k + fl.length) true ++ Array.replicate (ops.size - (k + fl.length)) false)
theorem slot_put_congr {a b : Act} {t : Tmp} (hs : a.tmps.size = b.tmps.size) (h : slotOf a t = slotOf b t) (x : Option Tmp) (v : Value) : slotOf (a.put x v) t = slotOf (b.put x v) t := by
  by_cases hx : x = some t
  · subst hx
    by_cases hl : t < a.tmps.size
    · have hl' : t < b.tmps.size := hs ▸ hl
      rw [slot_put_same v hl, slot_put_same v hl']
    · have hl' : ¬ t < b.tmps.size := hs ▸ hl
      simp [slotOf, Act.put, hl, hl']
  · rw [slot_put_ne v hx, slot_put_ne v hx, h]
theorem move_yields {P : Program} {ops : Array Oper} {o : Oper} {v : Value} {a : Act} {W : World} (he : isMove o = true) (h : YieldsIn P ops (fun w' => ∃ x : Same W, w' = x.w) o v a) (V : World) : YieldsIn P ops (fun w' => ∃ x : Same V, w' = x.w) o v a := by
  unfold isMove at he
  simp only [Bool.and_eq_true] at he
  have hw : Region.wanted o (yielded ops a.tmps) = true := by
    unfold Region.wanted
    rw [Option.isNone_iff_eq_none.1 he.2]
  rcases h with ⟨_, h1⟩ | ⟨h1, _⟩
  · refine .inl ⟨hw, fun w hx => ?_⟩
    have h2 := h1 W ⟨⟨W, rfl⟩, rfl⟩
    have h3 := he.1
    unfold Oper.quietAt at h2 ⊢
    cases ho : o.op <;> rw [ho] at h3 <;> simp at h3
    rename_i x
    have e : ∀ w, (execOp a.eval o).run P w = .ok (.value (a.eval x)) w := fun w => by
      unfold execOp
      simp only [ho]
      rfl
    rw [e] at h2 ⊢
    simp only [Oper.quietUpon] at h2 ⊢
    exact ⟨trivial, h2.2⟩
  · rw [hw] at h1; cases h1
theorem StepV.wp {P : Program} {o : Oper} {a b : Act} {w : World} {N : Value → World → Prop} {K : Act → World → Prop} {Q : Exit → Act → World → Prop} (h : StepV P o b w N) (he : execOp a.eval o = execOp b.eval o) (hK : ∀ v w', N v w' → K (a.put o.dst v) w') : o.wp P a w K Q := by
  unfold StepV at h
  unfold Oper.wp
  rw [he]
  generalize (execOp b.eval o).run P w = r at *
  cases r with
  | ok n w' =>
    cases n <;> simp only [Oper.upon] at h ⊢
    case value u => exact hK _ _ h
    case skip => exact hK _ _ h
    case enter f args => exact h.mono fun e w'' ⟨v, hv, hn⟩ => by subst hv; exact hK _ _ hn
    all_goals exact h.elim
  | halt x w' => exact h.elim
structure MidV (P : Program) (ops : Array Oper) (k m : Nat) (lz : List Nat) (C : World → Prop) (T : Act → World → Prop) (sp : List (Oper × Bool)) (a0 af : Act) (s : Nat) (b : Act) (listed : Array Bool) (a : Act) (w : World) : Prop where
  size : listed.size = ops.size
  closed : ∀ j oj, ops[j]? = some oj → listed.getD j false = true → ∀ e ∈ oj.after, Region.binds .any e = true → listed.getD e.on false = true
  le : s ≤ m
  sdone : ∀ j, j < s → listed.getD (k + j) false = true
  sleft : ∀ t, k + s ≤ t → t < ops.size → listed.getD t true = false
  adef : a.defers = b.defers
  asize : a.tmps.size = a0.tmps.size
  bsize : b.tmps.size = a0.tmps.size
  put : ∀ j o t, j < k → ops[j]? = some o → o.dst = some t → listed.getD j false = true → slotOf a t = slotOf b t
  same : ∀ t, (∀ j o, j < k → ops[j]? = some o → o.dst ≠ some t) → slotOf a t = slotOf b t
  keep : ∀ j o t, j < k → ops[j]? = some o → o.dst = some t → slotOf b t = slotOf af t
  other : ∀ t, (∀ j o, j < k → ops[j]? = some o → o.dst ≠ some t) → (∀ j o, j < m → ops[k + j]? = some o → o.dst ≠ some t) → slotOf b t = slotOf a0 t
  stage : SpineV P C T (sp.drop s) b w
  cw : C w ∨ ∀ i, i < k → i ∉ lz → listed.getD i false = true
section
variable {P : Program} {Q : Exit → Act → World → Prop} {W : World} {a0 af : Act} {l : List Oper}
theorem wp_region_spine {id : Nat} (k : Nat) (fl : List Bool) (lz : List Nat) (af : Act) (C : World → Prop) (hm : P.follows .mixedOrders = true)
    (hB : spineB l.toArray k fl lz a0.tmps.size = true) (hC : C W.drew)
    (hwalk : ∀ V : World, C V → wpQuiet P l.toArray (fun w' => ∃ x : Same V, w' = x.w) (fun a' => a' = af) (l.take k) a0)
    (hS : ∀ V : World, C V → SpineV P C (fun a w => wpList P l.toArray Q (l.drop (k + fl.length)) a w) (((l.drop k).take fl.length).zip fl) af V) :
    (Code.region id l.toArray true).wp P Q a0 W := by
  unfold spineB at hB
  rw [Bool.and_eq_true, Bool.and_eq_true, Bool.and_eq_true, Bool.and_eq_true, Bool.and_eq_true, Bool.and_eq_true, Bool.and_eq_true, Bool.and_eq_true, Bool.and_eq_true] at hB
  obtain ⟨⟨⟨⟨⟨⟨⟨⟨⟨hsel, hks⟩, hdst⟩, hback⟩, hdep⟩, hap⟩, hsp⟩, hlz⟩, htl⟩, hseq⟩ := hB
  simp only [decide_eq_true_eq, List.all_eq_true, List.mem_range, Bool.or_eq_true] at hks hback hdep hap htl hlz hsp
  have hsz : l.toArray.size = l.length := by simp
  generalize hfm : fl.length = m at *
  have hkl : k + m ≤ l.length := by rw [← hsz]; exact hks
  have hdk : dstsOk a0.tmps.size (l.take k) = true := hdst
  have hall : ∀ V : World, C V → AllIn P l.toArray (fun w' => ∃ x : Same V, w' = x.w) af (l.take k) a0 := fun V hV => allIn_of hdk (hwalk V hV)
  have hA0 := hall _ hC
  have hget : ∀ i, i < k → (l.take k)[i]? = l[i]? := fun i hi => by rw [List.getElem?_take]; simp [hi]
  have hafs : ∀ t, (∀ j o, j < k → l[j]? = some o → o.dst ≠ some t) → slotOf af t = slotOf a0 t := fun t ht => hA0.keep.2.2 t (fun o ho => by
    obtain ⟨j, hj⟩ := List.getElem?_of_mem ho
    rw [List.getElem?_take] at hj
    split at hj
    · exact ht j o (by assumption) hj
    · cases hj)
  have hback' : ∀ i o, l[i]? = some o → ∀ e ∈ o.after, Region.binds .any e = true → e.on < i := by
    intro i o hi e he hb
    have hil : i < l.length := (List.getElem?_eq_some_iff.1 hi).1
    have h1 := hback i (by rw [hsz]; exact hil)
    have hi' : l.toArray[i]? = some o := by simpa using hi
    rw [hi'] at h1
    have h2 := Array.all_eq_true_iff_forall_mem.1 h1 e he
    simpa [hb] using h2
  have hdep' : ∀ i o j oj d, i < k → l[i]? = some o → j < k → l[j]? = some oj → oj.dst = some d → d ∈ o.looksAt l.toArray → j < i ∧ waitsB1 .any l.toArray i j = true := by
    intro i o j oj d hi ho hj hoj hd hmem
    have h1 := hdep i hi j hj
    have ho' : l.toArray[i]? = some o := by simpa using ho
    have hoj' : l.toArray[j]? = some oj := by simpa using hoj
    rw [ho', hoj'] at h1
    simp only [hd] at h1
    have hc : (o.looksAt l.toArray).contains d = true := by simpa using hmem
    rw [hc] at h1
    simpa using h1
  have hap' : ∀ i o j oj d, i < k → l[i]? = some o → j < m → l[k + j]? = some oj → oj.dst = some d → d ∉ o.looksAt l.toArray ∧ o.dst ≠ some d := by
    intro i o j oj d hi ho hj hoj hd
    have h1 := hap i hi j hj
    have ho' : l.toArray[i]? = some o := by simpa using ho
    have hoj' : l.toArray[k + j]? = some oj := by simpa using hoj
    rw [ho', hoj'] at h1
    simpa [hd] using h1
  have hsp' : ∀ s o, s < m → l[k + s]? = some o → o.guard = none ∧ (s = 0 ∨ waitsB1 .any l.toArray (k + s) (k + s - 1) = true) ∧ (∀ j oj d, j < k → l[j]? = some oj → oj.dst = some d → d ∈ o.looksAt l.toArray → waitsB1 .any l.toArray (k + s) j = true) ∧ (fl.getD s true = true ∨ ∀ i, i < k → i ∉ lz → (coverB l.toArray l.toArray.size (depsB l.toArray (k + s) (List.replicate l.toArray.size false))).getD i false = true) := by
    intro s o hs ho
    have h1 := hsp s hs
    have ho' : l.toArray[k + s]? = some o := by simpa using ho
    rw [ho'] at h1
    simp only [Bool.and_eq_true, Bool.or_eq_true, decide_eq_true_eq, List.all_eq_true, List.mem_range] at h1
    obtain ⟨⟨⟨g1, g2⟩, g3⟩, g4⟩ := h1
    refine ⟨Option.isNone_iff_eq_none.1 g1, g2, fun j oj d hj hoj hd hmem => ?_, g4.imp (fun x => x) (fun h i hi hn => (h i hi).resolve_left (by simpa using hn))⟩
    have h2 := g3 j hj
    have hoj' : l.toArray[j]? = some oj := by simpa using hoj
    rw [hoj'] at h2
    simp only [hd] at h2
    have hc : (o.looksAt l.toArray).contains d = true := by simpa using hmem
    rw [hc] at h2
    simpa using h2
  have dlt : ∀ i o, i < k → l[i]? = some o → ∃ d, o.dst = some d ∧ d < a0.tmps.size := fun i o hi ho => dsts_lt _ _ i o hdk (by rw [hget i (by omega)]; exact ho)
  have dne : ∀ i j o oj t, i < k → j < k → l[i]? = some o → l[j]? = some oj → i ≠ j → oj.dst = some t → o.dst ≠ some t := fun i j o oj t hi hj ho hoj hne hd => dsts_ne _ _ j i oj o t hdk (by rw [hget j (by omega)]; exact hoj) (by rw [hget i (by omega)]; exact ho) (Ne.symm hne) hd
  have fin : ∀ (b : Act) (listed : Array Bool) (a : Act) (w : World), MidV P l.toArray k m lz C (fun a w => wpList P l.toArray Q (l.drop (k + m)) a w) (((l.drop k).take m).zip fl) a0 af m b listed a w → (∀ i, i < k → listed.getD i false = true) → ∀ fuel, unl listed = fuel → wpAny P .any l.toArray Q fuel listed a w := by
    intro b listed a w mm hdone fuel hu
    have hLH : listed = Array.replicate (k + m) true ++ Array.replicate (l.toArray.size - (k + m)) false := by
      apply Array.ext
      · simp [mm.size]; omega
      · intro i h1 h2
        rcases Nat.lt_or_ge i (k + m) with h' | h
        rotate_left 1
        · have := mm.sleft i h (by rw [← mm.size]; exact h1)
          rw [Array.getElem_append_right (by simp; omega)]
          simpa [h1] using this
        · have : listed.getD i false = true := by
            rcases Nat.lt_or_ge i k with h3 | h3
            · exact hdone i h3
            · have := mm.sdone (i - k) (by omega)
              rwa [show k + (i - k) = i by omega] at this
          rw [Array.getElem_append_left (by simp; omega)]
          simpa [h1] using this
    have hab : a = b := by
      refine act_ext (by rw [mm.asize, mm.bsize]) mm.adef (fun t => ?_)
      by_cases hex : ∃ j o, j < k ∧ l[j]? = some o ∧ o.dst = some t
      · obtain ⟨j, o, hj, ho, hd⟩ := hex
        exact mm.put j o t hj (by simpa using ho) hd (hdone j hj)
      · exact mm.same t (fun j o hj ho hd => hex ⟨j, o, hj, by simpa using ho, hd⟩)
    have hst := mm.stage
    have hnil : (((l.drop k).take m).zip fl).drop m = [] := List.drop_eq_nil_of_le (by simp; omega)
    rw [hnil] at hst
    have hfu : fuel = (l.drop (k + m)).length := by
      rw [← hu, hLH, unl_done]
      simp
    rw [hfu, hab, hLH]
    refine wpAny_of_seq (l.drop (k + m)) (k + m) _ b w (fun j => by simp [List.getElem?_drop]) ?_ hst
    have : (l.drop (k + m)).length = l.toArray.size - (k + m) := by simp
    rw [this]
    exact hseq
  have main : ∀ (fuel s : Nat) (b : Act) (listed : Array Bool) (a : Act) (w : World), MidV P l.toArray k m lz C (fun a w => wpList P l.toArray Q (l.drop (k + m)) a w) (((l.drop k).take m).zip fl) a0 af s b listed a w → unl listed = fuel → wpAny P .any l.toArray Q fuel listed a w := by
    intro fuel
    induction fuel with
    | zero =>
      intro s b listed a w mm hu
      have hlist : ∀ i, i < listed.size → listed.getD i false = true := by
        intro i hi
        cases hc : listed.getD i false
        · have := unl_set (listed := listed) (i := i) hi (by rw [getD_tf hi]; exact hc)
          omega
        · rfl
      have hsm : s = m := by
        rcases Nat.lt_or_ge s m with h | h
        · have h1 := mm.sleft (k + s) (Nat.le_refl _) (by omega)
          have h2 := hlist (k + s) (by rw [mm.size]; omega)
          rw [getD_tf (by rw [mm.size]; omega), h2] at h1
          cases h1
        · have := mm.le; omega
      subst hsm
      exact fin b listed a w mm (fun i hi => hlist i (by rw [mm.size]; omega)) _ hu
    | succ fuel ih =>
      intro s b listed a w mm hu
      by_cases hdone : (∀ i, i < k → listed.getD i false = true) ∧ s = m
      · obtain ⟨h1, rfl⟩ := hdone
        exact fin b listed a w mm h1 _ hu
      · have hex : ¬ ∀ i, i < k + m → listed.getD i false = true := by
          intro hh
          refine hdone ⟨fun i hi => hh i (by omega), ?_⟩
          rcases Nat.lt_or_ge s m with h | h
          · have h1 := mm.sleft (k + s) (Nat.le_refl _) (by omega)
            have h2 := hh (k + s) (by omega)
            rw [getD_tf (by rw [mm.size]; omega), h2] at h1
            cases h1
          · have := mm.le; omega
        obtain ⟨i0, hi0, hpre, hun0⟩ := first_no' listed (k + m) hex
        refine ⟨fun h0 => ?_, fun i hi => ?_⟩
        · have hr : i0 ∈ Region.ready .any l.toArray listed := by
            rw [mem_ready]
            refine ⟨by rw [getD_tf (by rw [mm.size]; omega)]; exact hun0, l[i0]'(by omega), by simp, fun e he hb => hpre _ ?_⟩
            exact hback' i0 _ (by simp) e he hb
          rw [h0] at hr
          cases hr
        · obtain ⟨hun, o, ho, hw⟩ := mem_ready.1 hi
          have hil : i < l.length := by
            have := (Array.getElem?_eq_some_iff.1 ho).1
            simpa using this
          have hol : l[i]? = some o := by simpa using ho
          have hun' : unl (listed.setIfInBounds i true) = fuel := by
            have := unl_set (listed := listed) (i := i) (by rw [mm.size]; omega) hun
            omega
          have hcov : ∀ q, (coverB l.toArray l.toArray.size (depsB l.toArray i (List.replicate l.toArray.size false))).getD q false = true → listed.getD q false = true := by
            intro q h2
            refine cover_listed (ops := l.toArray) mm.closed l.toArray.size _ (fun j hj => ?_) q h2
            unfold depsB at hj
            rw [ho] at hj
            refine deps_listed _ _ (fun e he hb => hw e (by simpa using he) hb) (fun q hq => ?_) j hj
            rw [List.getD_eq_getElem?_getD, List.getElem?_replicate] at hq
            split at hq <;> cases hq
          have hik : i < k + m := by
            rcases Nat.lt_or_ge i (k + m) with h | h
            rotate_left 1
            · have h1 := (htl i (by omega)).resolve_left (by omega)
              have h2 : (coverB l.toArray l.toArray.size (depsB l.toArray i (List.replicate l.toArray.size false))).getD i0 false = true := by
                have hlen := cover_length (ops := l.toArray) l.toArray.size (depsB l.toArray i (List.replicate l.toArray.size false))
                rw [deps_length, List.length_replicate] at hlen
                have hm : (coverB l.toArray l.toArray.size (depsB l.toArray i (List.replicate l.toArray.size false)))[i0]'(by rw [hlen, hsz]; omega) ∈ (coverB l.toArray l.toArray.size (depsB l.toArray i (List.replicate l.toArray.size false))).take (k + m) :=
                  List.mem_take_iff_getElem.2 ⟨i0, by rw [hlen, hsz]; omega, rfl⟩
                have := h1 _ hm
                rw [List.getD_eq_getElem?_getD, List.getElem?_eq_getElem (by rw [hlen, hsz]; omega)]
                exact this
              have h3 := hcov i0 h2
              rw [hun0] at h3
              cases h3
            · exact h
          have hclosed : ∀ j oj, l.toArray[j]? = some oj → (listed.setIfInBounds i true).getD j false = true → ∀ e ∈ oj.after, Region.binds .any e = true → (listed.setIfInBounds i true).getD e.on false = true := by
            intro j oj hj hl e he hb
            by_cases hji : i = j
            · subst hji
              rw [ho] at hj
              cases hj
              exact getD_set_true (hw e he hb)
            · rw [getD_set_ne false hji] at hl
              exact getD_set_true (mm.closed j oj hj hl e he hb)
          have hnow : (listed.setIfInBounds i true).getD i false = true := by
            have : i < listed.size := by rw [mm.size]; omega
            simp [this]
          rcases Nat.lt_or_ge i k with hikk | hikk
          · -- an operation that reads
            obtain ⟨d, hod, hdlt⟩ := dlt i o hikk hol
            have hlook : ∀ t ∈ o.looksAt l.toArray, slotOf a t = slotOf (accum af ((l.take k).take i) a0) t := by
              intro t ht
              rw [accum_slot _ _ _ (dstsOk_take _ _ _ hdk)]
              by_cases hex : ∃ j oj, j < k ∧ l[j]? = some oj ∧ oj.dst = some t
              · obtain ⟨j, oj, hj, hoj, hdt⟩ := hex
                obtain ⟨hji, hwt⟩ := hdep' i o j oj t hikk hol hj hoj hdt ht
                obtain ⟨e, he, hb, heo⟩ := waitsB1_spec ho hwt
                have hlj := hw e he hb
                rw [heo] at hlj
                rw [mm.put j oj t hj (by simpa using hoj) hdt hlj, mm.keep j oj t hj (by simpa using hoj) hdt, if_pos]
                rw [List.any_eq_true]
                refine ⟨oj, ?_, by simp [hdt]⟩
                refine List.mem_of_getElem? (i := j) ?_
                rw [List.getElem?_take, List.getElem?_take]
                simp only [hji, show j < k by omega, if_true, hoj]
              · rw [mm.same t (fun j oj hj hoj hdt => hex ⟨j, oj, hj, by simpa using hoj, hdt⟩), mm.other t (fun j oj hj hoj hdt => hex ⟨j, oj, hj, by simpa using hoj, hdt⟩) (fun j oj hj hoj hdt => (hap' i o j oj t hikk hol hj (by simpa using hoj) hdt).1 ht), if_neg]
                intro hany
                rw [List.any_eq_true] at hany
                obtain ⟨oj, hmem, hdt⟩ := hany
                obtain ⟨j, hj⟩ := List.getElem?_of_mem (List.mem_of_mem_take hmem)
                rw [List.getElem?_take] at hj
                split at hj
                · exact hex ⟨j, oj, by omega, hj, by simpa using hdt⟩
                · cases hj
            have hy : YieldsIn P l.toArray (fun w' => ∃ x : Same w, w' = x.w) o (leftBy af o) (accum af ((l.take k).take i) a0) := by
              by_cases hz : i ∈ lz
              · refine move_yields ?_ (hA0.get (i := i) (o := o) (by rw [List.getElem?_take]; simp [hikk, hol])) w
                have := hlz i hz
                rw [ho] at this
                exact this
              · have hcw : C w := mm.cw.resolve_right (fun h => by
                  have h1 := h i hikk hz
                  rw [getD_tf (by rw [mm.size]; omega), h1] at hun
                  cases hun)
                exact (hall w hcw).get (i := i) (o := o) (by rw [List.getElem?_take]; simp [hikk, hol])
            have he : execOp a.eval o = execOp (accum af ((l.take k).take i) a0).eval o := execOp_congr o (fun cs b => Region.noSelect_spec hsel i o cs b ho) (fun x hx => by
              cases x with
              | tmp t => exact hlook t (List.mem_append_left _ (List.mem_filterMap.2 ⟨.tmp t, by simpa using hx, rfl⟩))
              | _ => rfl)
            have hy' := hy.of_same he (wanted_congr hlook)
            refine wpOp_of_qOp (C := fun w' => ∃ x : Same w, w' = x.w) ⟨⟨w, rfl⟩, rfl⟩ (fun a' w' hx ha => ?_) (hy'.qOp ho (K := fun a' => a' = a.put o.dst (leftBy af o)) rfl)
            obtain ⟨⟨x, hxw⟩, rfl⟩ := hx
            subst hxw
            subst ha
            have hvb : leftBy af o = slotOf b d := by
              rw [mm.keep i o d hikk ho hod]
              simp [leftBy, hod]
            refine ih s b _ _ _ ⟨by simp [mm.size], hclosed, mm.le, fun j hj => getD_set_true (mm.sdone j hj), fun t ht ht' => by rw [getD_set_ne true (by omega)]; exact mm.sleft t ht ht', by rw [defers_put]; exact mm.adef, by rw [size_put]; exact mm.asize, mm.bsize, ?_, ?_, mm.keep, mm.other, mm.stage, mm.cw.imp (fun x => x) (fun h q hq hz => getD_set_true (h q hq hz))⟩ hun'
            · intro j oj t hj hoj hdt hl
              by_cases hji : i = j
              · subst hji
                rw [ho] at hoj
                cases hoj
                rw [hod] at hdt
                cases hdt
                rw [hod, slot_put_same _ (by rw [mm.asize]; exact hdlt), hvb]
              · rw [getD_set_ne false hji] at hl
                rw [slot_put_ne _ (dne i j o oj t hikk hj hol (by simpa using hoj) hji hdt)]
                exact mm.put j oj t hj hoj hdt hl
            · intro t hno
              rw [slot_put_ne _ (hno i o hikk ho)]
              exact mm.same t hno
          · -- the next one of the row
            have his : i = k + s := by
              rcases Nat.lt_or_ge i (k + s) with h | h
              · have := mm.sdone (i - k) (by omega)
                rw [show k + (i - k) = i by omega] at this
                rw [getD_tf (by rw [mm.size]; omega), this] at hun
                cases hun
              · rcases Nat.lt_or_ge (k + s) i with h2 | h2
                · obtain ⟨_, g2, _, _⟩ := hsp' (i - k) o (by omega) (by rw [show k + (i - k) = i by omega]; exact hol)
                  have g3 := g2.resolve_left (by omega)
                  rw [show k + (i - k) = i by omega] at g3
                  obtain ⟨e, he, hb, heo⟩ := waitsB1_spec ho g3
                  have hlj := hw e he hb
                  rw [heo] at hlj
                  have := mm.sleft (i - 1) (by omega) (by omega)
                  rw [getD_tf (by rw [mm.size]; omega), hlj] at this
                  cases this
                · omega
            subst his
            have hs : s < m := by omega
            obtain ⟨g1, g2, g3, g4⟩ := hsp' s o hs hol
            have hspl : (((l.drop k).take m).zip fl).drop s = (o, fl[s]'(by omega)) :: (((l.drop k).take m).zip fl).drop (s + 1) := by
              rw [List.drop_eq_getElem_cons (by simp; omega)]
              congr 1
              simp only [List.getElem_zip, List.getElem_take, List.getElem_drop]
              rw [List.getElem?_eq_getElem hil] at hol
              simp only [Option.some.injEq] at hol
              rw [hol]
            have hst := mm.stage
            rw [hspl] at hst
            have hlook : ∀ t ∈ o.looksAt l.toArray, slotOf a t = slotOf b t := by
              intro t ht
              by_cases hex : ∃ j oj, j < k ∧ l[j]? = some oj ∧ oj.dst = some t
              · obtain ⟨j, oj, hj, hoj, hdt⟩ := hex
                obtain ⟨e, he, hb, heo⟩ := waitsB1_spec ho (g3 j oj t hj hoj hdt ht)
                have hlj := hw e he hb
                rw [heo] at hlj
                exact mm.put j oj t hj (by simpa using hoj) hdt hlj
              · exact mm.same t (fun j oj hj hoj hdt => hex ⟨j, oj, hj, by simpa using hoj, hdt⟩)
            have he : execOp a.eval o = execOp b.eval o := execOp_congr o (fun cs b => Region.noSelect_spec hsel _ o cs b ho) (fun x hx => by
              cases x with
              | tmp t => exact hlook t (List.mem_append_left _ (List.mem_filterMap.2 ⟨.tmp t, by simpa using hx, rfl⟩))
              | _ => rfl)
            unfold wpOp
            rw [ho]
            simp only
            rw [if_pos (by unfold Region.wanted; rw [g1])]
            refine .inl (StepV.wp hst he (fun v w' hN => ?_))
            refine ih (s + 1) (b.put o.dst v) _ _ _ ⟨by simp [mm.size], hclosed, hs, fun j hj => ?_, fun t ht ht' => by rw [getD_set_ne true (by omega)]; exact mm.sleft t (by omega) ht', by rw [defers_put, defers_put]; exact mm.adef, by rw [size_put]; exact mm.asize, by rw [size_put]; exact mm.bsize, ?_, ?_, ?_, ?_, hN.2, ?_⟩ hun'
            · by_cases hjs : j = s
              · subst hjs; exact hnow
              · exact getD_set_true (mm.sdone j (by omega))
            · intro j oj t hj hoj hdt hl
              rw [getD_set_ne false (by omega)] at hl
              exact slot_put_congr (by rw [mm.asize, mm.bsize]) (mm.put j oj t hj hoj hdt hl) _ _
            · intro t hno
              exact slot_put_congr (by rw [mm.asize, mm.bsize]) (mm.same t hno) _ _
            · intro j oj t hj hoj hdt
              rw [slot_put_ne _ (fun e => (hap' j oj s o t hj (by simpa using hoj) hs hol e).2 hdt)]
              exact mm.keep j oj t hj hoj hdt
            · intro t h1 h2
              rw [slot_put_ne _ (h2 s o hs ho)]
              exact mm.other t h1 h2
            · rcases g4 with g4 | g4
              · refine .inl (hN.1 ?_)
                rw [List.getD_eq_getElem?_getD, List.getElem?_eq_getElem (by omega)] at g4
                exact g4
              · exact .inr (fun q hq hz => getD_set_true (hcov q (g4 q hq hz)))
  have hrep : ∀ i d, i < l.toArray.size → (Array.replicate l.toArray.size false).getD i d = false := fun i d hi => by simp at hi; simp [hi]
  refine wp_region_any hm (main _ 0 af _ a0 _ ?_ (by rw [unl_rep]))
  refine ⟨by simp, ?_, Nat.zero_le _, fun j hj => absurd hj (Nat.not_lt_zero _), fun t _ ht => hrep t _ ht, hA0.keep.2.1.symm, rfl, hA0.keep.1, ?_, ?_, fun _ _ _ _ _ _ => rfl, ?_, ?_, .inl hC⟩
  · intro j oj hj h
    rw [hrep j _ (Array.getElem?_eq_some_iff.1 hj).1] at h
    cases h
  · intro j o t _ ho _ h
    rw [hrep j _ (Array.getElem?_eq_some_iff.1 ho).1] at h
    cases h
  · intro t hno
    exact (hafs t (fun j o hj ho => hno j o hj (by simpa using ho))).symm
  · intro t h1 _
    exact hafs t (fun j o hj ho => h1 j o hj (by simpa using ho))
  · exact hS _ hC
end
end Go.Proofs.Ytmebpglkeedaoaa
namespace Go.Proofs.Ytmebpglkeedaoaa
open Go.RowKit Dp
set_option linter.unusedVariables false

theorem stepV_append {P : Program} {o : Oper} {a : Act} {w : World} {N : Value → World → Prop} (s x : Operand) (t : TypeId)
    (ho : o.op = .call { callee := .builtin .append, args := #[s, x], argTypes := #[t, t] })
    (base : Nat) (e : TypeId) (i : TypeInfo) (z : Value) (size bytes : Nat) (ht : P.underlying t = some (.slice e)) (hi : P.info? e = some i) (hz : i.zero = some z)
    (hsize : i.size = size) (hby : i.bytes = bytes) (hzs : z.cells.size = size) (hsz : 0 < size)
    (A : Option Addr) (n cap : Nat) (xs : List Value) (hs : a.eval s = .slice A n cap) (hown : w.ownsRow base e size (.slice A n cap) n xs)
    (Bo : Option Addr) (m c : Nat) (news : List Value) (hx : a.eval x = .slice Bo m c) (hl : news.length = m * size) (hnews : SrcRow w Bo m news) (h1 : ∀ u ∈ news, u.oneCell' = true)
    (h63 : n + m ≤ maxLen) (hbytes : (n + m) * bytes ≤ 140737488355328) (hbase : base ≤ w.heap.size)
    (h : ∀ A' cap' w', w'.ownsRow base e size (.slice A' (n + m) cap') (n + m) (xs ++ news) → w.grownBy w' (Value.slice A n cap).ownBlock → (∀ k, OwnB A' k → OwnB A k ∨ k = w.heap.size) → N (.slice A' (n + m) cap') w') : StepV P o a w N := by
  obtain ⟨A', cap', w', hr, h2, h3, h4⟩ := run_append_any (P := P) t o.type base e i z size bytes ht hi hz hsize hby hzs hsz A n cap xs hown Bo m c news hl hnews h1 h63 hbytes hbase
  unfold StepV execOp
  simp only [ho, resolve, invoke, builtin, Sem.run_bind, Sem.run_pure, Result.andThen_ok, List.map_toArray, List.map_cons, List.map_nil, hs, hx, hr]
  exact h A' cap' w' h2 h3 h4
theorem spineV_cons {P : Program} {C : World → Prop} {T : Act → World → Prop} {o : Oper} {f : Bool} {r : List (Oper × Bool)} {a : Act} {w : World} (h : StepV P o a w fun v w' => (f = true → C w') ∧ SpineV P C T r (a.put o.dst v) w') : SpineV P C T ((o, f) :: r) a w := h
theorem spineV_nil {P : Program} {C : World → Prop} {T : Act → World → Prop} {a : Act} {w : World} (h : T a w) : SpineV P C T [] a w := h
theorem less_c (a b c d : Int) (w : World) : Calls Try.prog 101 #[.agg #[.int .i64 a, .int .i64 b], .agg #[.int .i64 c, .int .i64 d]] w fun e w' => e = .returned (.bool (decide (b < d))) ∧ Below w.heap.size w w' := by
  go_enter Try.func101, Try.ntmps101
  go_wp2
  go_ret
  refine ⟨rfl, ?_⟩
  exact ((Below.refl w.heap.size w).alloc (Nat.le_refl _) _).alloc (by simp) _
def visC (e : Vs) : List Value := [.int .i64 e.1, .int .i64 e.2]
theorem visC_len (e : Vs) : (visC e).length = 2 := rfl
theorem info154 : (Try.prog.info? 154).map (fun i => (i.zero, i.size, i.bytes)) = some (some (.agg #[.int .i64 0, .int .i64 0]), 2, 16) := by kernel_rfl
/-- a heap of visits at block b -/
def HpAt (w : World) (B b : Nat) (A : Option Addr) (c : Nat) (l : List Vs) : Prop := Blk w b 158 [.slice A l.length c, .func (.func 101) #[] #[]] ∧ OwnR visC 154 2 B w A c l ∧ ¬ OwnB A b

theorem HpAt.touch {S : Nat → Prop} {w w' : World} {B b : Nat} {A : Option Addr} {c : Nat} {l : List Vs} (h : HpAt w B b A c l) (k : Touch S w w') (h1 : ¬ S b) (h2 : ∀ g, OwnB A g → ¬ S g) : HpAt w' B b A c l := ⟨h.1.touch k h1, h.2.1.touch k h2, h.2.2⟩
theorem HpAt.below {w w' : World} {B b : Nat} {A : Option Addr} {c : Nat} {l : List Vs} (h : HpAt w B b A c l) (k : Below w.heap.size w w') : HpAt w' B b A c l := ⟨h.1.below k h.1.lt, h.2.1.below k, h.2.2⟩
/-- memory in put before the list grows -/
def PutC (w : World) (B b : Nat) (A : Option Addr) (c : Nat) (l : List Vs) (x y : Int) (V : World) : Prop := HpAt V B b A c l ∧ Below w.heap.size w V ∧ Blk V w.heap.size 154 [.int .i64 x, .int .i64 y]
theorem PutC.alloc {w : World} {B b : Nat} {A : Option Addr} {c : Nat} {l : List Vs} {x y : Int} {V : World} (h : PutC w B b A c l x y V) (o : Obj) : PutC w B b A c l x y (V.alloc o) :=
  ⟨h.1.below ((Below.refl _ _).alloc (Nat.le_refl _) _), h.2.1.alloc h.2.1.size _, h.2.2.alloc _⟩
theorem PutC.drew {w : World} {B b : Nat} {A : Option Addr} {c : Nat} {l : List Vs} {x y : Int} {V : World} (h : PutC w B b A c l x y V) : PutC w B b A c l x y V.drew := ⟨⟨h.1.1.drew, h.1.2.1.drew, h.1.2.2⟩, h.2.1.drew, h.2.2.drew⟩

/-- memory in put once the list has grown -/
def PutJ (w : World) (B b : Nat) (A : Option Addr) (l : List Vs) (x y : Int) (g c' : Nat) (l' : List Vs) (W : World) : Prop :=
  HpAt W B b (some ⟨g, 0, none⟩) c' l' ∧ l'.Perm ((x, y) :: l) ∧ Touch (fun k => k = b ∨ OwnB A k) w W ∧ (OwnB A g ∨ w.heap.size ≤ g)
theorem ownB_some {g k : Nat} : OwnB (some ⟨g, 0, none⟩) k ↔ k = g := ⟨fun ⟨a, h, e⟩ => by cases h; exact e.symm, fun h => ⟨_, rfl, h.symm⟩⟩
theorem putJ_new {w V W : World} {B b : Nat} {A : Option Addr} {c : Nat} {l : List Vs} {x y : Int} {g c' : Nat} (hV : PutC w B b A c l x y V) (ho : W.ownsRow B 154 2 (.slice (some ⟨g, 0, none⟩) (l.length + 1) c') (l.length + 1) (flat visC l ++ [.int .i64 x, .int .i64 y]))
    (hg : V.grownBy W (Value.slice A l.length c).ownBlock) (hk : OwnB A g ∨ g = V.heap.size) (hb : b < w.heap.size) :
    PutJ w B b A l x y g c' (l ++ [(x, y)]) (W.setCell ⟨b, 0, none⟩ (.slice (some ⟨g, 0, none⟩) (l.length + 1) c')) := by
  have hbV : b < V.heap.size := Nat.lt_of_lt_of_le hb hV.2.1.size
  have hbg : b ≠ g := by
    intro e; subst e
    rcases hk with hk | hk
    · exact hV.1.2.2 hk
    · omega
  have h1 : Blk W b 158 [.slice A l.length c, .func (.func 101) #[] #[]] := hV.1.1.grown hg (fun e => hV.1.2.2 (ownB_iff.2 e.symm))
  have h2 := h1.setCell 0 (.slice (some ⟨g, 0, none⟩) (l.length + 1) c')
  have hl : (l ++ [(x, y)]).length = l.length + 1 := by simp
  refine ⟨⟨by rw [hl]; exact h2, ?_, fun h => hbg (ownB_some.1 h)⟩, ?_, ?_, ?_⟩
  · have h3 : OwnR visC 154 2 B W (some ⟨g, 0, none⟩) c' (l ++ [(x, y)]) := by
      unfold OwnR
      rw [hl, flat_append]
      exact ho
    exact h3.set_ne (fun h => hbg (ownB_some.1 h)) _
  · exact List.perm_append_singleton _ _
  · refine Touch.setCell ?_ (.inl (.inl rfl)) _
    exact (Touch.of_below hV.2.1).grown hg (fun k e => .inl (.inr (ownB_iff.2 e)))
  · rcases hk with hk | hk
    · exact .inl hk
    · right; have := hV.2.1.size; omega
theorem PutJ.below {w W W' : World} {B b : Nat} {A : Option Addr} {l : List Vs} {x y : Int} {g c' : Nat} {l' : List Vs} (h : PutJ w B b A l x y g c' l' W) (hb : Below W.heap.size W W') : PutJ w B b A l x y g c' l' W' :=
  ⟨h.1.below hb, h.2.1, h.2.2.1.below hb, h.2.2.2⟩
theorem PutJ.drew {w W : World} {B b : Nat} {A : Option Addr} {l : List Vs} {x y : Int} {g c' : Nat} {l' : List Vs} (h : PutJ w B b A l x y g c' l' W) : PutJ w B b A l x y g c' l' W.drew := h.below (Below.refl _ _).drew
theorem HpAt.put {w : World} {B b g c : Nat} {l : List Vs} (h : HpAt w B b (some ⟨g, 0, none⟩) c l) (i : Nat) (e : Vs) (hi : i < l.length) : HpAt ((w.setCell ⟨g, i * 2, none⟩ (.int .i64 e.1)).setCell ⟨g, i * 2 + 1, none⟩ (.int .i64 e.2)) B b (some ⟨g, 0, none⟩) c (l.set i e) := by
  have hbg : b ≠ g := fun e => h.2.2 (ownB_some.2 e)
  refine ⟨by rw [List.length_set]; exact (h.1.setCell_ne (p := ⟨g, i * 2, none⟩) hbg _).setCell_ne (p := ⟨g, i * 2 + 1, none⟩) hbg _, ?_, h.2.2⟩
  have h1 := h.2.1.put visC_len i 0 (e.1, (l.getD i (0, 0)).2) (l.getD i (0, 0)) (.int .i64 e.1) (getElem_D l i (0, 0) hi) (by omega) rfl
  have h2 := h1.put visC_len i 1 e (e.1, (l.getD i (0, 0)).2) (.int .i64 e.2) (by rw [List.getElem?_set_self hi]) (by omega) rfl
  rw [List.set_set] at h2
  exact h2
theorem HpAt.cells {w : World} {B b g c : Nat} {l : List Vs} (h : HpAt w B b (some ⟨g, 0, none⟩) c l) (i : Nat) (hi : i < l.length) : w.cell? ⟨g, i * 2, none⟩ = some (.int .i64 (l.getD i (0, 0)).1) ∧ w.cell? ⟨g, i * 2 + 1, none⟩ = some (.int .i64 (l.getD i (0, 0)).2) :=
  ⟨h.2.1.cell visC_len i 0 _ (getElem_D l i (0, 0) hi) (by omega), h.2.1.cell visC_len i 1 _ (getElem_D l i (0, 0) hi) (by omega)⟩
theorem HpAt.swap {w : World} {B b g c : Nat} {l : List Vs} (h : HpAt w B b (some ⟨g, 0, none⟩) c l) (i j : Nat) (hi : i < l.length) (hj : j < l.length) :
    HpAt ((((w.setCell ⟨g, i * 2, none⟩ (.int .i64 (l.getD j (0, 0)).1)).setCell ⟨g, i * 2 + 1, none⟩ (.int .i64 (l.getD j (0, 0)).2)).setCell ⟨g, j * 2, none⟩ (.int .i64 (l.getD i (0, 0)).1)).setCell ⟨g, j * 2 + 1, none⟩ (.int .i64 (l.getD i (0, 0)).2)) B b (some ⟨g, 0, none⟩) c (swp l i j) :=
  (h.put i _ hi).put j _ (by simpa using hj)
theorem PutJ.swap {w W : World} {B b : Nat} {A : Option Addr} {l : List Vs} {x y : Int} {g c' : Nat} {l' : List Vs} (h : PutJ w B b A l x y g c' l' W) (i j : Nat) (hi : i < l'.length) (hj : j < l'.length) :
    PutJ w B b A l x y g c' (swp l' i j) ((((W.setCell ⟨g, i * 2, none⟩ (.int .i64 (l'.getD j (0, 0)).1)).setCell ⟨g, i * 2 + 1, none⟩ (.int .i64 (l'.getD j (0, 0)).2)).setCell ⟨g, j * 2, none⟩ (.int .i64 (l'.getD i (0, 0)).1)).setCell ⟨g, j * 2 + 1, none⟩ (.int .i64 (l'.getD i (0, 0)).2)) := by
  have hS : (g = b ∨ OwnB A g) ∨ w.heap.size ≤ g := h.2.2.2.elim (fun h => .inl (.inr h)) .inr
  exact ⟨h.1.swap i j hi hj, (swp_perm hi hj).trans h.2.1, (((h.2.2.1.setCell (p := ⟨g, i * 2, none⟩) hS _).setCell (p := ⟨g, i * 2 + 1, none⟩) hS _).setCell (p := ⟨g, j * 2, none⟩) hS _).setCell (p := ⟨g, j * 2 + 1, none⟩) hS _, h.2.2.2⟩
set_option maxRecDepth 100000 in
theorem put_c (b : Nat) (A : Option Addr) (n c : Nat) (l : List Vs) (x y : Int) (B : Nat) (w : World) (hn : n = l.length) (hn2 : n ≤ 8388608) (hB : B ≤ w.heap.size) (h : HpAt w B b A c l) (hp : Heap l) :
    Calls Try.prog 102 #[.pointer (some ⟨b, 0, none⟩), .agg #[.int .i64 x, .int .i64 y]] w fun e w' => e = .returned (.tuple #[]) ∧ ∃ A' c' l', HpAt w' B b A' c' l' ∧ l'.Perm ((x, y) :: l) ∧ Heap l' ∧ Touch (fun k => k = b ∨ OwnB A k) w w' ∧ ∀ k, OwnB A' k → OwnB A k ∨ w.heap.size ≤ k := by
  have HN := Lib.hid hn
  have HA := Lib.hid h
  have HP := Lib.hid hp
  clear h hp hn
  have hbl := HA.out.1.lt
  have X1 := Lib.hid (Blk.new' w #[.int .i64 x, .int .i64 y] 154)
  have B1 := Lib.hid (Below.refl w.heap.size w |>.alloc (Nat.le_refl _) (.cells #[.int .i64 x, .int .i64 y] 154))
  obtain ⟨i0, hi, hz0, hz1, hz2⟩ := info_parts info154
  go_enter Try.func102, Try.ntmps102
  go_wp2_with fail
  have J1 : Hid (PutC w B b A c l x y (w.alloc (.cells #[.int .i64 x, .int .i64 y] 154))) := Lib.hid ⟨HA.out.below B1.out, B1.out, X1.out⟩
  generalize w.alloc (.cells #[.int .i64 x, .int .i64 y] 154) = w1 at J1 ⊢
  clear X1 B1
  refine wp_region_spine 6 [true, false] [0] ?af1 (fun V => PutC w B b A c l x y V) (by kernel_rfl) (by kernel_rfl) J1.out.drew ?walk1 ?spine1
  case walk1 =>
    intro V hV
    have c0 := hV.1.1.cell 0 rfl
    have d0 := hV.2.2.cell 0 rfl
    have d1 := hV.2.2.cell 1 rfl
    clear hV
    rw [← HN.out] at c0
    simp only [List.take_succ_cons, List.take_zero]
    repeat (go_big_quiet_step (fail))
    refine wpQuiet_nil ?_
    rfl
  case spine1 =>
    intro V hV
    have JV := Lib.hid hV
    refine spineV_cons ?_
    unfold StepV
    clear hV
    go_simp
    refine ⟨JV.out.alloc _, ?_⟩
    have J2 := Lib.hid (JV.out.alloc (.cells #[.int .i64 x, .int .i64 y] 154))
    have X2 := Lib.hid (Blk.new' V #[.int .i64 x, .int .i64 y] 154)
    generalize V.alloc (.cells #[.int .i64 x, .int .i64 y] 154) = V2 at J2 X2 ⊢
    generalize V.heap.size = gv at *
    refine spineV_cons ?_
    refine stepV_append (.tmp 10) (.tmp 12) 156 rfl B 154 i0 (.agg #[.int .i64 0, .int .i64 0]) 2 16 Try.underlying156 hi hz0 hz1 hz2 rfl (by decide) A n c (flat visC l) (by rfl) (by rw [HN.out]; exact J2.out.1.2.1) (some ⟨gv, 0, none⟩) 1 1 [.int .i64 x, .int .i64 y] (by rfl) (by rfl) (.inr ⟨_, rfl, ?_⟩) (by simp [Value.oneCell']) (by unfold maxLen; omega) (by omega) ?_ ?_
    · intro j u hj
      rcases j with _ | _ | j
      · simp at hj; subst hj; exact X2.out.cell 0 rfl
      · simp at hj; subst hj; exact X2.out.cell 1 rfl
      · simp at hj
    · have := J2.out.2.1.size; omega
    intro A' c' w3 ho hg hk
    refine ⟨fun h => (by cases h), ?_⟩
    obtain ⟨g, c'', hA', _, _⟩ := ho.form (by omega)
    cases hA'
    have hk2 : OwnB A g ∨ g = V2.heap.size := hk g (ownB_some.2 rfl)
    have GB := J2.out.1.1.grown hg (fun e => J2.out.1.2.2 (ownB_iff.2 (by rw [HN.out] at e; exact e.symm)))
    have fz := GB.free 0
    have cc := GB.cell 0 rfl
    clear GB
    have J3 : Hid (PutJ w B b A l x y g c' (l ++ [(x, y)]) (w3.setCell ⟨b, 0, none⟩ (.slice (some ⟨g, 0, none⟩) (n + 1) c'))) := Lib.hid (by
      rw [HN.out] at ho hg ⊢
      exact putJ_new J2.out ho hg hk2 hbl)
    have U3 := Lib.hid (up_start HP.out (x, y))
    rw [← HN.out] at U3
    clear ho hg hk hk2 J2 X2 JV J1
    refine spineV_nil ?_
    go_wp2_with fail
    trace "loop"
    generalize w3.setCell ⟨b, 0, none⟩ (.slice (some ⟨g, 0, none⟩) (n + 1) c') = w4 at J3 ⊢
    clear fz cc
    go_loopw [4] (fun i wr => ∃ k : Nat, i = .int .i64 k ∧ k < n + 1 ∧ Hid (∃ l', PutJ w B b A l x y g c' l' wr ∧ UpAt l' k)) (fun i _ => (intOf i).toNat)
    case atStart => 
      refine ⟨n, ?_, by omega, Lib.hid ⟨_, J3.out, U3.out⟩⟩
      go_num
    case round =>
      obtain ⟨k, rfl, hk, HJ⟩ := hrel
      obtain ⟨l', j, u⟩ := HJ.out
      have JR := Lib.hid j
      have UR := Lib.hid u
      clear HJ j u
      have HL : Hid (l'.length = n + 1) := Lib.hid (by rw [JR.out.2.1.length_eq, HN.out]; rfl)
      by_cases h0 : k = 0
      · subst h0
        go_wp2
        refine bodyPost_end (v := .tuple #[]) (by simp [results, Try.results102, go_sem]) rfl ⟨rfl, _, _, l', JR.out.1, JR.out.2.1, up_done UR.out (.inl rfl), JR.out.2.2.1, ?_⟩
        intro q hq
        rw [ownB_some.1 hq]
        exact JR.out.2.2.2
      · obtain ⟨q, hq⟩ : ∃ q : Nat, q = (k - 1) / 2 := ⟨_, rfl⟩
        have HQ := Lib.hid hq
        have hq1 : ((k : Int) - 1) / 2 = (q : Int) := by omega
        have hqn : q < n + 1 := by omega
        clear hq
        have k0 : (0 : Int) < (k : Int) := by omega
        have c0 := JR.out.1.1.cell 0 rfl
        have c1 := JR.out.1.1.cell 1 rfl
        rw [HL.out] at c0
        have bl := JR.out.1.1.lt
        have gl := JR.out.1.2.1.lt.2
        obtain ⟨e0, e1⟩ := JR.out.1.cells k (by rw [HL.out]; exact hk)
        obtain ⟨f0, f1⟩ := JR.out.1.cells q (by rw [HL.out]; exact hqn)
        have HS := Lib.hid (fun V (h : PutJ w B b A l x y g c' l' V) => h.swap k q (by rw [HL.out]; exact hk) (by rw [HL.out]; exact hqn))
        have HE1 : Hid (keyAt l' k = (l'.getD k (0, 0)).2) := Lib.hid rfl
        have HE2 : Hid (keyAt l' q = (l'.getD q (0, 0)).2) := Lib.hid rfl
        generalize hek : (l'.getD k (0, 0)) = ek at *
        generalize heq : (l'.getD q (0, 0)) = eq at *
        obtain ⟨ek0, ek1⟩ := ek
        obtain ⟨eq0, eq1⟩ := eq
        have HEK := Lib.hid hek
        have HEQ := Lib.hid heq
        clear hek heq
        simp only at e0 e1 f0 f1 HE1 HE2 HS
        go_wp2_with fail
        refine wp_region_past (by kernel_rfl) (by kernel_rfl) ?_
        repeat (go_big_quiet_step (exact past_below (less_c _ _ _ _ _)))
        refine wpQuiet_nil ?_
        intro xx
        have J5 := Lib.hid (JR.out.below xx.far)
        generalize xx.w = w5 at J5 ⊢
        clear c0 c1 e0 e1 f0 f1 bl gl
        by_cases hlt : ek1 < eq1
        · have d1 : decide (ek1 < eq1) = true := decide_eq_true hlt
          simp only [d1, Bool.not_true]
          go_wp2_with fail
          refine wp_region_spine 25 [false] [9] ?af6 (fun V => PutJ w B b A l x y g c' l' V) (by kernel_rfl) (by kernel_rfl) J5.out.drew ?walk6 ?spine6
          case walk6 =>
            intro V hV
            have c0 := hV.1.1.cell 0 rfl
            rw [HL.out] at c0
            obtain ⟨e0, e1⟩ := hV.1.cells k (by rw [HL.out]; exact hk)
            obtain ⟨f0, f1⟩ := hV.1.cells q (by rw [HL.out]; exact hqn)
            rw [HEK.out] at e0 e1
            rw [HEQ.out] at f0 f1
            clear hV
            simp only [List.take_succ_cons, List.take_zero]
            repeat (go_big_quiet_step (fail))
            refine wpQuiet_nil ?_
            rfl
          case spine6 =>
            intro V hV
            have HSV := Lib.hid (HS.out V hV)
            have HUP : Hid (UpAt (swp l' k q) q) := Lib.hid (by
              have e1 := HE1.out
              have e2 := HE2.out
              rw [HQ.out] at e2 ⊢
              exact up_step UR.out (by omega) (by rw [HL.out]; exact hk) (by omega))
            have P1 := Lib.hid (hV.1.put k (eq0, eq1) (by rw [HL.out]; exact hk))
            obtain ⟨e0, e1⟩ := hV.1.cells k (by rw [HL.out]; exact hk)
            have z0 := hV.1.2.1.free (k * 2)
            have z1 := hV.1.2.1.free (k * 2 + 1)
            clear hV
            refine spineV_cons ?_
            unfold StepV
            go_simp
            generalize (V.setCell ⟨g, k * 2, none⟩ (.int .i64 eq0)).setCell ⟨g, k * 2 + 1, none⟩ (.int .i64 eq1) = V1 at HSV P1 ⊢
            clear e0 e1 z0 z1
            refine spineV_nil ?_
            obtain ⟨e0, e1⟩ := P1.out.cells q (by rw [List.length_set, HL.out]; exact hqn)
            have z0 := P1.out.2.1.free (q * 2)
            have z1 := P1.out.2.1.free (q * 2 + 1)
            go_wp2_with fail
            go_roundw
            case rel => exact ⟨q, rfl, by omega, Lib.hid ⟨_, HSV.out, HUP.out⟩⟩
            case measure => simp [intOf]; omega
        · have d1 : decide (ek1 < eq1) = false := decide_eq_false hlt
          simp only [d1, Bool.not_false]
          go_wp2
          refine bodyPost_ret (v := .tuple #[]) (by simp [results, Try.results102, go_sem]) rfl ⟨rfl, _, _, l', J5.out.1, J5.out.2.1, up_done UR.out (.inr ?_), J5.out.2.2.1, ?_⟩
          · rw [← HQ.out, HE1.out, HE2.out]; omega
          · intro q hq
            rw [ownB_some.1 hq]
            exact J5.out.2.2.2
end Go.Proofs.Ytmebpglkeedaoaa
namespace Go.Proofs.Ytmebpglkeedaoaa
open Go.RowKit Dp
set_option linter.unusedVariables false

@[go_sem] theorem idx_a (a b : Int) (w : World) : (Instr.index 173 (.agg #[.int .i64 a, .int .i64 b]) (.int .i64 0)).run Try.prog w = .ok (.int .i64 a) w := by kernel_rfl
@[go_sem] theorem idx_b (a b : Int) (w : World) : (Instr.index 173 (.agg #[.int .i64 a, .int .i64 b]) (.int .i64 1)).run Try.prog w = .ok (.int .i64 b) w := by kernel_rfl
theorem HpAt.pop {w : World} {B b g c : Nat} {l : List Vs} (h : HpAt w B b (some ⟨g, 0, none⟩) c l) (k : Nat) (hk : k + 1 = l.length) : HpAt (w.setCell ⟨b, 0, none⟩ (.slice (some ⟨g, 0, none⟩) k c)) B b (some ⟨g, 0, none⟩) c (l.take k) := by
  have hbg : b ≠ g := fun e => h.2.2 (ownB_some.2 e)
  have hl : (l.take k).length = k := by simp; omega
  exact ⟨by rw [hl]; exact h.1.setCell 0 _, (h.2.1.pop visC_len k hk).set_ne (fun e => hbg (ownB_some.1 e)) _, h.2.2⟩
/-- L is the place with the least key of place i and the first j below it -/
def ChI (l : List Vs) (i L j : Nat) : Prop := (L = i ∨ ((L = 2 * i + 1 ∨ L = 2 * i + 2) ∧ L < l.length ∧ keyAt l L < keyAt l i)) ∧ keyAt l L ≤ keyAt l i ∧ ∀ t, t < j → 2 * i + 1 + t < l.length → keyAt l L ≤ keyAt l (2 * i + 1 + t)
theorem ch_start (l : List Vs) (i : Nat) : ChI l i i 0 := ⟨.inl rfl, Int.le_refl _, fun t h => absurd h (Nat.not_lt_zero _)⟩
theorem ch_yes {l : List Vs} {i L j : Nat} (h : ChI l i L j) (hj : j < 2) (h1 : 2 * i + 1 + j < l.length) (h2 : keyAt l (2 * i + 1 + j) < keyAt l L) : ChI l i (2 * i + 1 + j) (j + 1) := by
  have h3 := h.2.1
  refine ⟨.inr ⟨by omega, h1, by omega⟩, by omega, fun t ht hl => ?_⟩
  by_cases e : t = j
  · subst e; exact Int.le_refl _
  · have := h.2.2 t (by omega) hl; omega
theorem ch_no {l : List Vs} {i L j : Nat} (h : ChI l i L j) (h1 : ¬ (2 * i + 1 + j < l.length ∧ keyAt l (2 * i + 1 + j) < keyAt l L)) : ChI l i L (j + 1) := by
  refine ⟨h.1, h.2.1, fun t ht hl => ?_⟩
  by_cases e : t = j
  · subst e; omega
  · exact h.2.2 t (by omega) hl
theorem ch_done {l : List Vs} {i : Nat} (h : ChI l i i 2) (d : DnAt l i) : Heap l := dn_done d (fun hl => h.2.2 0 (by omega) hl) (fun hl => h.2.2 1 (by omega) hl)
theorem ch_step {l : List Vs} {i L : Nat} (h : ChI l i L 2) (d : DnAt l i) (hne : L ≠ i) : L < l.length ∧ i < L ∧ DnAt (swp l i L) L := by
  rcases h.1 with h1 | ⟨h1, h2, h3⟩
  · exact absurd h1 hne
  · refine ⟨h2, by omega, dn_step d h2 h1 h3 (fun j j0 hj hq => ?_)⟩
    rcases (show j = 2 * i + 1 + 0 ∨ j = 2 * i + 1 + 1 by omega) with e | e
    · rw [e] at hj ⊢; exact h.2.2 0 (by omega) hj
    · rw [e] at hj ⊢; exact h.2.2 1 (by omega) hj
/-- memory in take: the list without its first, which lies by itself -/
def TkJ (w : World) (B b g c : Nat) (e : Vs) (l' : List Vs) (W : World) : Prop :=
  HpAt W B b (some ⟨g, 0, none⟩) c l' ∧ Touch (fun k => k = b ∨ k = g) w W ∧ Blk W w.heap.size 154 [.int .i64 0, .int .i64 0] ∧ Blk W (w.heap.size + 1) 154 [.int .i64 e.1, .int .i64 e.2] ∧ b < w.heap.size ∧ g < w.heap.size
section
variable {w W W' : World} {B b g c : Nat} {e : Vs} {l' : List Vs}
theorem TkJ.below (h : TkJ w B b g c e l' W) (hb : Below W.heap.size W W') : TkJ w B b g c e l' W' :=
  ⟨h.1.below hb, h.2.1.below hb, h.2.2.1.below hb h.2.2.1.lt, h.2.2.2.1.below hb h.2.2.2.1.lt, h.2.2.2.2⟩
theorem TkJ.drew (h : TkJ w B b g c e l' W) : TkJ w B b g c e l' W.drew := h.below (Below.refl _ _).drew
theorem TkJ.putg (h : TkJ w B b g c e l' W) {l2 : List Vs} (o : Nat) (u : Value) (k : HpAt (W.setCell ⟨g, o, none⟩ u) B b (some ⟨g, 0, none⟩) c l2) : TkJ w B b g c e l2 (W.setCell ⟨g, o, none⟩ u) :=
  ⟨k, h.2.1.setCell (.inl (.inr rfl)) _, h.2.2.1.setCell_ne (by have := h.2.2.2.2.2; simp; omega) _, h.2.2.2.1.setCell_ne (by have := h.2.2.2.2.2; simp; omega) _, h.2.2.2.2⟩
theorem TkJ.put (h : TkJ w B b g c e l' W) (i : Nat) (x : Vs) (hi : i < l'.length) : TkJ w B b g c e (l'.set i x) ((W.setCell ⟨g, i * 2, none⟩ (.int .i64 x.1)).setCell ⟨g, i * 2 + 1, none⟩ (.int .i64 x.2)) := by
  have hk := h.1.put i x hi
  refine ⟨hk, (h.2.1.setCell (p := ⟨g, i * 2, none⟩) (.inl (.inr rfl)) _).setCell (p := ⟨g, i * 2 + 1, none⟩) (.inl (.inr rfl)) _, ?_, ?_, h.2.2.2.2⟩
  · exact (h.2.2.1.setCell_ne (p := ⟨g, i * 2, none⟩) (by have := h.2.2.2.2.2; simp; omega) _).setCell_ne (p := ⟨g, i * 2 + 1, none⟩) (by have := h.2.2.2.2.2; simp; omega) _
  · exact (h.2.2.2.1.setCell_ne (p := ⟨g, i * 2, none⟩) (by have := h.2.2.2.2.2; simp; omega) _).setCell_ne (p := ⟨g, i * 2 + 1, none⟩) (by have := h.2.2.2.2.2; simp; omega) _
theorem TkJ.pop (h : TkJ w B b g c e l' W) (k : Nat) (hk : k + 1 = l'.length) : TkJ w B b g c e (l'.take k) (W.setCell ⟨b, 0, none⟩ (.slice (some ⟨g, 0, none⟩) k c)) :=
  ⟨h.1.pop k hk, h.2.1.setCell (.inl (.inl rfl)) _, h.2.2.1.setCell_ne (by have := h.2.2.2.2.1; simp; omega) _, h.2.2.2.1.setCell_ne (by have := h.2.2.2.2.1; simp; omega) _, h.2.2.2.2⟩
end

set_option maxHeartbeats 2000000 in
set_option maxRecDepth 100000 in
theorem take_c (b g n c : Nat) (l : List Vs) (B : Nat) (w : World) (hn : n = l.length) (hn0 : 0 < n) (hn2 : n ≤ 8388608) (h : HpAt w B b (some ⟨g, 0, none⟩) c l) (hp : Heap l) :
    Calls Try.prog 103 #[.pointer (some ⟨b, 0, none⟩)] w fun e w' => e = .returned (.agg #[.int .i64 (l.getD 0 (0, 0)).1, .int .i64 (l.getD 0 (0, 0)).2]) ∧ ∃ l', HpAt w' B b (some ⟨g, 0, none⟩) c l' ∧ (l.getD 0 (0, 0) :: l').Perm l ∧ Heap l' ∧ Touch (fun k => k = b ∨ k = g) w w' := by
  obtain ⟨m, rfl⟩ : ∃ m, n = m + 1 := ⟨n - 1, by omega⟩
  have HN := Lib.hid hn
  have HP := Lib.hid hp
  have hl0 : 0 < l.length := by omega
  have PP := Lib.hid (popd_perm hl0)
  have PD := Lib.hid (popd_dn hp)
  have J0 : Hid (TkJ w B b g c (l.getD 0 (0, 0)) l ((w.alloc (.cells #[.int .i64 0, .int .i64 0] 154)).alloc (.cells #[.int .i64 (l.getD 0 (0, 0)).1, .int .i64 (l.getD 0 (0, 0)).2] 154))) := Lib.hid (by
    have b1 := (Below.refl w.heap.size w).alloc (Nat.le_refl _) (.cells #[.int .i64 0, .int .i64 0] 154)
    have b2 := b1.alloc b1.size (.cells #[.int .i64 (l.getD 0 (0, 0)).1, .int .i64 (l.getD 0 (0, 0)).2] 154)
    refine ⟨h.below b2, Touch.of_below b2, (Blk.new' w _ 154).alloc _, ?_, h.1.lt, h.2.1.lt.2⟩
    have := Blk.new' (w.alloc (.cells #[.int .i64 0, .int .i64 0] 154)) #[.int .i64 (l.getD 0 (0, 0)).1, .int .i64 (l.getD 0 (0, 0)).2] 154
    simpa using this)
  have c0 := h.1.cell 0 rfl
  rw [← hn] at c0
  have bl := h.1.lt
  have gl := h.2.1.lt.2
  obtain ⟨e0, e1⟩ := h.cells 0 hl0
  have EL := Lib.hid (show (popd l) = (l.set 0 (l.getD m (0, 0))).take m from by unfold popd; rw [← hn]; rfl)
  have hmc : l.length ≤ c := by obtain ⟨gx, _, _, _, hmc, _⟩ := h.2.1.form hl0; exact hmc
  rw [← hn] at hmc
  clear h hp hn hl0
  generalize hx : l.getD 0 (0, 0) = x at *
  obtain ⟨x0, x1⟩ := x
  have HX := Lib.hid hx
  clear hx
  simp only [Nat.zero_mul, Nat.zero_add] at e0 e1
  go_enter Try.func103, Try.ntmps103
  go_wp2_with fail
  generalize (w.alloc (.cells #[.int .i64 0, .int .i64 0] 154)).alloc (.cells #[.int .i64 x0, .int .i64 x1] 154) = w1 at J0 ⊢
  clear c0 e0 e1 bl gl
  generalize hy : l.getD m (0, 0) = y at *
  obtain ⟨y0, y1⟩ := y
  have HY := Lib.hid hy
  clear hy
  refine wp_region_spine 12 [false] [] ?af3 (fun V => TkJ w B b g c (x0, x1) l V) (by kernel_rfl) (by kernel_rfl) J0.out.drew ?walk3 ?spine3
  case walk3 =>
    intro V hV
    have c0 := hV.1.1.cell 0 rfl
    rw [← HN.out] at c0
    obtain ⟨e0, e1⟩ := hV.1.cells m (by rw [← HN.out]; omega)
    rw [HY.out] at e0 e1
    clear hV
    simp only [List.take_succ_cons, List.take_zero]
    repeat (go_big_quiet_step (fail))
    refine wpQuiet_nil ?_
    rfl
  case spine3 =>
    intro V hV
    have P1 := Lib.hid (hV.put 0 (y0, y1) (by rw [← HN.out]; omega))
    simp only [Nat.zero_mul, Nat.zero_add] at P1
    obtain ⟨e0, e1⟩ := hV.1.cells 0 (by rw [← HN.out]; omega)
    simp only [Nat.zero_mul, Nat.zero_add] at e0 e1
    have z0 := hV.1.2.1.free 0
    have z1 := hV.1.2.1.free 1
    clear hV
    refine spineV_cons ?_
    unfold StepV
    go_simp
    generalize (V.setCell ⟨g, 0, none⟩ (.int .i64 y0)).setCell ⟨g, 1, none⟩ (.int .i64 y1) = V1 at P1 ⊢
    clear e0 e1 z0 z1
    refine spineV_nil ?_
    have c0 := P1.out.1.1.cell 0 rfl
    rw [List.length_set, ← HN.out] at c0
    have z0 := P1.out.1.1.free 0
    have P2 := Lib.hid (P1.out.pop m (by rw [List.length_set, ← HN.out]))
    rw [← EL.out] at P2
    clear P1
    go_wp2_with fail
    generalize V1.setCell ⟨b, 0, none⟩ (.slice (some ⟨g, 0, none⟩) m c) = w2 at P2 ⊢
    clear c0 z0
    go_loopw [5] (fun i wr => ∃ k : Nat, i = .int .i64 k ∧ (k = 0 ∨ k < m) ∧ Hid (∃ l', TkJ w B b g c (x0, x1) l' wr ∧ l'.Perm (popd l) ∧ DnAt l' k)) (fun i _ => m - (intOf i).toNat)
    case atStart => exact ⟨0, rfl, .inl rfl, Lib.hid ⟨_, P2.out, .refl _, PD.out⟩⟩
    case round =>
      obtain ⟨i, rfl, hi, HJ⟩ := hrel
      obtain ⟨l', j, pm, u⟩ := HJ.out
      have JR := Lib.hid j
      have PM := Lib.hid pm
      have UR := Lib.hid u
      have HL : Hid (l'.length = m) := Lib.hid (by rw [pm.length_eq, popd_length, ← HN.out]; rfl)
      clear HJ j u pm
      obtain ⟨k1, hq1⟩ : ∃ k1 : Nat, k1 = 2 * i + 1 := ⟨_, rfl⟩
      obtain ⟨k2, hq2⟩ : ∃ k2 : Nat, k2 = 2 * i + 2 := ⟨_, rfl⟩
      have hk1 : 2 * (i : Int) + 1 = (k1 : Int) := by omega
      have hk2 : 2 * (i : Int) + 2 = (k2 : Int) := by omega
      have HQ1 := Lib.hid hq1
      have HQ2 := Lib.hid hq2
      clear hq1 hq2
      go_wp2_with fail
      go_loopw [6, 50] (fun lv jv wq => ∃ L j : Nat, lv = .int .i64 L ∧ jv = .int .i64 j ∧ j ≤ 2 ∧ Hid (TkJ w B b g c (x0, x1) l' wq) ∧ Hid (ChI l' i L j)) (fun _ jv _ => 2 - (intOf jv).toNat)
      case atStart => exact ⟨i, 0, rfl, rfl, by omega, JR, Lib.hid (ch_start l' i)⟩
      case round =>
        obtain ⟨L, j, rfl, rfl, hj, JQ, CH⟩ := hrel
        rcases (show j = 0 ∨ j = 1 ∨ j = 2 by omega) with rfl | rfl | rfl
        · -- place 0
          have CY := Lib.hid (ch_yes (l := l') (i := i) (L := L) (j := 0) CH.out (by omega))
          have CN := Lib.hid (ch_no (l := l') (i := i) (L := L) (j := 0) CH.out)
          have HK : Hid (k1 = 2 * i + 1 + 0) := Lib.hid (by rw [HQ1.out])
          rw [← HK.out, HL.out] at CY CN
          by_cases hlt : k1 < m
          · have hkm : (k1 : Int) < (m : Int) := by omega
            have d1 : decide ((k1 : Int) < (m : Int)) = true := decide_eq_true hkm
            have d1n : decide (k1 < m) = true := decide_eq_true hlt
            have hLm : L < m := by
              rcases CH.out.1 with h | h
              · omega
              · have := h.2.1; rw [HL.out] at this; exact this
            have c0 := JQ.out.1.1.cell 0 rfl
            have c1 := JQ.out.1.1.cell 1 rfl
            rw [HL.out] at c0
            have bl := JQ.out.1.1.lt
            have gl := JQ.out.1.2.1.lt.2
            obtain ⟨e0, e1⟩ := JQ.out.1.cells k1 (by rw [HL.out]; exact hlt)
            obtain ⟨f0, f1⟩ := JQ.out.1.cells L (by rw [HL.out]; exact hLm)
            have HE1 : Hid (keyAt l' k1 = (l'.getD k1 (0, 0)).2) := Lib.hid rfl
            have HE2 : Hid (keyAt l' L = (l'.getD L (0, 0)).2) := Lib.hid rfl
            generalize l'.getD k1 (0, 0) = ek at *
            generalize l'.getD L (0, 0) = eq at *
            obtain ⟨ek0, ek1⟩ := ek
            obtain ⟨eq0, eq1⟩ := eq
            simp only at e0 e1 f0 f1 HE1 HE2
            rw [HE1.out, HE2.out] at CY CN
            go_wp2_with fail
            refine wp_region_past (by kernel_rfl) (by kernel_rfl) ?_
            repeat (go_big_quiet_step (exact past_below (less_c _ _ _ _ _)))
            refine wpQuiet_nil ?_
            intro xx
            have J5 := Lib.hid (JQ.out.below xx.far)
            generalize xx.w = w5 at J5 ⊢
            clear c0 c1 e0 e1 f0 f1 bl gl
            by_cases hle : ek1 < eq1
            · have d2 : decide (ek1 < eq1) = true := decide_eq_true hle
              simp only [d2]
              go_wp2_with fail
              go_roundw
              case rel => exact ⟨k1, 1, rfl, rfl, by omega, J5, Lib.hid (CY.out hlt hle)⟩
              case measure => simp [intOf]
            · have d2 : decide (ek1 < eq1) = false := decide_eq_false hle
              simp only [d2]
              go_wp2_with fail
              go_roundw
              case rel => exact ⟨L, 1, rfl, rfl, by omega, J5, Lib.hid (CN.out (fun h => hle h.2))⟩
              case measure => simp [intOf]
          · have hkm : ¬ (k1 : Int) < (m : Int) := by omega
            have d1 : decide ((k1 : Int) < (m : Int)) = false := decide_eq_false hkm
            have d1n : decide (k1 < m) = false := decide_eq_false hlt
            go_wp2_with fail
            refine wp_region_past (by kernel_rfl) (by kernel_rfl) ?_
            repeat (go_big_quiet_step (fail))
            refine wpQuiet_nil ?_
            intro xx
            have J5 := Lib.hid (JQ.out.below xx.far)
            generalize xx.w = w5 at J5 ⊢
            go_wp2_with fail
            go_roundw
            case rel => exact ⟨L, 1, rfl, rfl, by omega, J5, Lib.hid (CN.out (fun h => hlt h.1))⟩
            case measure => simp [intOf]
        · -- place 1
          have CY := Lib.hid (ch_yes (l := l') (i := i) (L := L) (j := 1) CH.out (by omega))
          have CN := Lib.hid (ch_no (l := l') (i := i) (L := L) (j := 1) CH.out)
          have HK : Hid (k2 = 2 * i + 1 + 1) := Lib.hid (by rw [HQ2.out])
          rw [← HK.out, HL.out] at CY CN
          by_cases hlt : k2 < m
          · have hkm : (k2 : Int) < (m : Int) := by omega
            have d1 : decide ((k2 : Int) < (m : Int)) = true := decide_eq_true hkm
            have d1n : decide (k2 < m) = true := decide_eq_true hlt
            have hLm : L < m := by
              rcases CH.out.1 with h | h
              · omega
              · have := h.2.1; rw [HL.out] at this; exact this
            have c0 := JQ.out.1.1.cell 0 rfl
            have c1 := JQ.out.1.1.cell 1 rfl
            rw [HL.out] at c0
            have bl := JQ.out.1.1.lt
            have gl := JQ.out.1.2.1.lt.2
            obtain ⟨e0, e1⟩ := JQ.out.1.cells k2 (by rw [HL.out]; exact hlt)
            obtain ⟨f0, f1⟩ := JQ.out.1.cells L (by rw [HL.out]; exact hLm)
            have HE1 : Hid (keyAt l' k2 = (l'.getD k2 (0, 0)).2) := Lib.hid rfl
            have HE2 : Hid (keyAt l' L = (l'.getD L (0, 0)).2) := Lib.hid rfl
            generalize l'.getD k2 (0, 0) = ek at *
            generalize l'.getD L (0, 0) = eq at *
            obtain ⟨ek0, ek1⟩ := ek
            obtain ⟨eq0, eq1⟩ := eq
            simp only at e0 e1 f0 f1 HE1 HE2
            rw [HE1.out, HE2.out] at CY CN
            go_wp2_with fail
            refine wp_region_past (by kernel_rfl) (by kernel_rfl) ?_
            repeat (go_big_quiet_step (exact past_below (less_c _ _ _ _ _)))
            refine wpQuiet_nil ?_
            intro xx
            have J5 := Lib.hid (JQ.out.below xx.far)
            generalize xx.w = w5 at J5 ⊢
            clear c0 c1 e0 e1 f0 f1 bl gl
            by_cases hle : ek1 < eq1
            · have d2 : decide (ek1 < eq1) = true := decide_eq_true hle
              simp only [d2]
              go_wp2_with fail
              go_roundw
              case rel => exact ⟨k2, 2, rfl, rfl, by omega, J5, Lib.hid (CY.out hlt hle)⟩
              case measure => simp [intOf]
            · have d2 : decide (ek1 < eq1) = false := decide_eq_false hle
              simp only [d2]
              go_wp2_with fail
              go_roundw
              case rel => exact ⟨L, 2, rfl, rfl, by omega, J5, Lib.hid (CN.out (fun h => hle h.2))⟩
              case measure => simp [intOf]
          · have hkm : ¬ (k2 : Int) < (m : Int) := by omega
            have d1 : decide ((k2 : Int) < (m : Int)) = false := decide_eq_false hkm
            have d1n : decide (k2 < m) = false := decide_eq_false hlt
            go_wp2_with fail
            refine wp_region_past (by kernel_rfl) (by kernel_rfl) ?_
            repeat (go_big_quiet_step (fail))
            refine wpQuiet_nil ?_
            intro xx
            have J5 := Lib.hid (JQ.out.below xx.far)
            generalize xx.w = w5 at J5 ⊢
            go_wp2_with fail
            go_roundw
            case rel => exact ⟨L, 2, rfl, rfl, by omega, J5, Lib.hid (CN.out (fun h => hlt h.1))⟩
            case measure => simp [intOf]
        · -- both seen
          by_cases hLi : L = i
          · subst hLi
            have c2 := JQ.out.2.2.1
            have c3 := JQ.out.2.2.2.1
            have a0 := c2.cell 0 rfl
            have a1 := c2.cell 1 rfl
            have z0 := c2.free 0
            have z1 := c2.free 1
            have e0 := c3.cell 0 rfl
            have e1 := c3.cell 1 rfl
            clear c2 c3
            go_wp2_with fail
            have hb := JQ.out.2.2.2.2
            have s1 := (JQ.out.1.1.setCell_ne (p := ⟨w.heap.size, 0, none⟩) (by simp; omega) (.int .i64 x0)).setCell_ne (p := ⟨w.heap.size, 1, none⟩) (by simp; omega) (.int .i64 x1)
            have s2 := (JQ.out.1.2.1.set_ne (p := ⟨w.heap.size, 0, none⟩) (fun e => by have := ownB_some.1 e; simp at this; omega) (.int .i64 x0)).set_ne (p := ⟨w.heap.size, 1, none⟩) (fun e => by have := ownB_some.1 e; simp at this; omega) (.int .i64 x1)
            have t1 := (JQ.out.2.1.setCell (p := ⟨w.heap.size, 0, none⟩) (.inr (Nat.le_refl _)) (.int .i64 x0)).setCell (p := ⟨w.heap.size, 1, none⟩) (.inr (Nat.le_refl _)) (.int .i64 x1)
            refine bodyPost_ret (v := .agg #[.int .i64 x0, .int .i64 x1]) (by simp [results, Try.results103, go_sem, *]) rfl ⟨rfl, l', ⟨s1, s2, JQ.out.1.2.2⟩, ((PM.out.cons _).trans PP.out), ch_done CH.out UR.out, t1⟩
          · have hLi' : ¬ (L : Int) = (i : Int) := by omega
            have hLb : ((L : Int) == (i : Int)) = false := by simpa using hLi'
            have HST := Lib.hid (ch_step CH.out UR.out hLi)
            rw [HL.out] at HST
            have hLm : L < m := HST.out.1
            have hiL : i < L := HST.out.2.1
            have him : i < m := by omega
            generalize hek : (l'.getD i (0, 0)) = ek at *
            generalize heq : (l'.getD L (0, 0)) = eq at *
            obtain ⟨ek0, ek1⟩ := ek
            obtain ⟨eq0, eq1⟩ := eq
            have HEK := Lib.hid hek
            have HEQ := Lib.hid heq
            clear hek heq
            go_wp2_with fail
            refine wp_region_spine 25 [false] [9] ?af6 (fun V => TkJ w B b g c (x0, x1) l' V) (by kernel_rfl) (by kernel_rfl) JQ.out.drew ?walk6 ?spine6
            case walk6 =>
              intro V hV
              have c0 := hV.1.1.cell 0 rfl
              rw [HL.out] at c0
              obtain ⟨e0, e1⟩ := hV.1.cells i (by rw [HL.out]; exact him)
              obtain ⟨f0, f1⟩ := hV.1.cells L (by rw [HL.out]; exact hLm)
              rw [HEK.out] at e0 e1
              rw [HEQ.out] at f0 f1
              clear hV
              simp only [List.take_succ_cons, List.take_zero]
              repeat (go_big_quiet_step (fail))
              refine wpQuiet_nil ?_
              rfl
            case spine6 =>
              intro V hV
              have P1 := Lib.hid (hV.put i (eq0, eq1) (by rw [HL.out]; exact him))
              have P2 := Lib.hid (P1.out.put L (ek0, ek1) (by rw [List.length_set, HL.out]; exact hLm))
              rw [show (l'.set i (eq0, eq1)).set L (ek0, ek1) = swp l' i L from by unfold swp; rw [HEK.out, HEQ.out]] at P2
              obtain ⟨e0, e1⟩ := hV.1.cells i (by rw [HL.out]; exact him)
              have z0 := hV.1.2.1.free (i * 2)
              have z1 := hV.1.2.1.free (i * 2 + 1)
              clear hV
              refine spineV_cons ?_
              unfold StepV
              go_simp
              generalize (V.setCell ⟨g, i * 2, none⟩ (.int .i64 eq0)).setCell ⟨g, i * 2 + 1, none⟩ (.int .i64 eq1) = V1 at P1 P2 ⊢
              clear e0 e1 z0 z1
              refine spineV_nil ?_
              obtain ⟨e0, e1⟩ := P1.out.1.cells L (by rw [List.length_set, HL.out]; exact hLm)
              have z0 := P1.out.1.2.1.free (L * 2)
              have z1 := P1.out.1.2.1.free (L * 2 + 1)
              go_wp2_with fail
              go_roundw
              case rel => exact ⟨L, rfl, by omega, Lib.hid ⟨_, P2.out, (swp_perm (by rw [HL.out]; exact him) (by rw [HL.out]; exact hLm)).trans PM.out, HST.out.2.2⟩⟩
              case measure => simp [intOf]; omega
end Go.Proofs.Ytmebpglkeedaoaa
namespace Go.Proofs.Ytmebpglkeedaoaa
open Go.RowKit Dp
set_option linter.unusedVariables false

theorem add_row (g i : Nat) : (⟨g, 0, none⟩ : Addr).add i = ⟨g, i, none⟩ := by
  unfold Addr.add
  split
  · rename_i h; subst h; rfl
  · simp
/-- numbers in a block of their own -/
def Fl (e : TypeId) (W : World) (g : Nat) (xs : List Int) : Prop := Blk W g e (xs.map (Value.int .i64))
section
variable {e : TypeId} {W W' : World} {g : Nat} {xs : List Int}
theorem Fl.cell (h : Fl e W g xs) (k : Nat) (hk : k < xs.length) : W.cell? ⟨g, k, none⟩ = some (.int .i64 (xs.getD k 0)) := by
  refine Blk.cell h k ?_
  rw [List.getElem?_map, List.getElem?_eq_getElem hk, List.getD_eq_getElem?_getD, List.getElem?_eq_getElem hk]
  rfl
theorem Fl.free (h : Fl e W g xs) (k : Nat) : W.frozen? ⟨g, k, none⟩ = false := Blk.free h k
theorem Fl.lt (h : Fl e W g xs) : g < W.heap.size := Blk.lt h
theorem Fl.put (h : Fl e W g xs) (k : Nat) (v : Int) : Fl e (W.setCell ⟨g, k, none⟩ (.int .i64 v)) g (xs.set k v) := by
  unfold Fl
  rw [List.map_set]
  exact Blk.setCell h k _
theorem Fl.below (h : Fl e W g xs) (hb : Below W.heap.size W W') : Fl e W' g xs := Blk.below h hb h.lt
theorem Fl.set_ne (h : Fl e W g xs) {p : Addr} (hp : g ≠ p.block) (u : Value) : Fl e (W.setCell p u) g xs := Blk.setCell_ne h hp u
theorem Fl.touch {S : Nat → Prop} (h : Fl e W g xs) (k : Touch S W W') (hn : ¬ S g) : Fl e W' g xs := Blk.touch h k hn
theorem Fl.ints (h : Fl e W g xs) : IntsAt W (some ⟨g, 0, none⟩) xs := fun i hi => ⟨_, rfl, h.lt, by
  rw [add_row]
  exact h.cell i hi⟩
theorem Fl.ne {t : TypeId} {g' : Nat} {cs : List Value} (h : Fl e W g xs) (h' : Blk W g' t cs) (hn : e ≠ t) : g' ≠ g := blk_type_ne h h' hn
end
theorem own_ne {α : Type} {f : α → List Value} {e t : TypeId} {s B : Nat} {W : World} {A : Option Addr} {c g : Nat} {l : List α} {cs : List Value} (h : OwnR f e s B W A c l) (hb : OwnB A g) (h' : Blk W g t cs) (hn : e ≠ t) : False := by
  rcases h.2 with ⟨h0, _⟩ | ⟨g', cap', cur, hv, _, hg, _⟩
  · simp only [Value.slice.injEq] at h0
    obtain ⟨rfl, _⟩ := h0
    obtain ⟨a, ha, _⟩ := hb
    cases ha
  · simp only [Value.slice.injEq] at hv
    obtain ⟨rfl, _⟩ := hv
    have e1 := ownB_some.1 hb
    subst e1
    unfold Blk at h'
    rw [hg] at h'
    simp only [Option.some.injEq, Obj.cells.injEq] at h'
    exact hn h'.2.1
theorem info3 : (Try.prog.info? 3).map (fun i => (i.zero, i.size, i.bytes)) = some (some (.int .i64 0), 1, 8) := by kernel_rfl
theorem make_row (t e : TypeId) (ht : Try.prog.underlying t = some (.slice e)) (he : (Try.prog.info? e).map (fun i => (i.zero, i.size, i.bytes)) = some (some (.int .i64 0), 1, 8)) (n : Nat) (hn : n ≤ 4096) (W : World) :
    (Instr.makeSlice t (.int .i64 n) (.int .i64 n)).run Try.prog W = .ok (.slice (some ⟨W.heap.size, 0, none⟩) n n) (W.alloc (.cells (Array.replicate n (.int .i64 0)) e)) := by
  obtain ⟨i, hi, hz0, hz1, hz2⟩ := info_parts he
  have hr := run_make (P := Try.prog) W t e i _ ht hi hz0 .i64 .i64 n n (by omega) (by omega) (by rw [hz2]; omega) (by omega)
  simp only [Int.toNat_natCast, hz1, Nat.mul_one] at hr
  rw [hr]
  have e1 : madeCells (Value.int .i64 0).cells n = Array.replicate n (.int .i64 0) := by
    unfold madeCells
    apply Array.ext
    · simp
    · intro j h1 h2
      simp [Value.cells, Nat.mod_one]
  rw [e1]
theorem make_64 (n : Nat) (hn : n ≤ 4096) (W : World) : (Instr.makeSlice 22 (.int .i64 n) (.int .i64 n)).run Try.prog W = .ok (.slice (some ⟨W.heap.size, 0, none⟩) n n) (W.alloc (.cells (Array.replicate n (.int .i64 0)) 2)) := make_row 22 2 Try.underlying22 info2 n hn W
theorem make_int (n : Nat) (hn : n ≤ 4096) (W : World) : (Instr.makeSlice 26 (.int .i64 n) (.int .i64 n)).run Try.prog W = .ok (.slice (some ⟨W.heap.size, 0, none⟩) n n) (W.alloc (.cells (Array.replicate n (.int .i64 0)) 3)) := make_row 26 3 Try.underlying26 info3 n hn W
theorem fl_new (e : TypeId) (n : Nat) (W : World) : Fl e (W.alloc (.cells (Array.replicate n (.int .i64 0)) e)) W.heap.size (List.replicate n 0) := by
  have := Blk.new' W (Array.replicate n (.int .i64 0)) e
  unfold Fl
  simpa using this

def edC (x : Ed) : List Value := [.int .i64 x.to, .int .i64 x.room, .int .i64 x.cost]
theorem edC_len (x : Ed) : (edC x).length = 3 := rfl
/-- the lists of the nodes' edges -/
def OutsAt (w : World) (bo : Nat) (outs : List (List Int)) (S : Nat → Prop) : Prop :=
  ∀ i, i < outs.length → ∃ A c, w.cell? ⟨bo, i, none⟩ = some (.slice A (outs.getD i []).length c) ∧ (outs.getD i []).length ≤ c ∧ c ≤ 9223372036854775807 ∧ IntsAt w A (outs.getD i []) ∧ ∀ k, OwnB A k → k < w.heap.size ∧ ¬ S k
/-- a graph in memory: the struct at block b, what is left at gl, the edges at E, the lists of edges at bo -/
structure GrAt (w : World) (B b gl cl : Nat) (E : Option Addr) (ce bo : Nat) (G : Gr) : Prop where
  blk : Blk w b 113 [.slice (some ⟨gl, 0, none⟩) G.left.length cl, .slice E G.es.length ce, .slice (some ⟨bo, 0, none⟩) G.outs.length G.outs.length]
  left : OwnI B w gl cl G.left
  es : OwnR edC 144 3 B w E ce G.es
  outs : OutsAt w bo G.outs (fun k => k = b ∨ k = gl ∨ OwnB E k)
  bo : bo < w.heap.size ∧ bo ≠ b ∧ bo ≠ gl ∧ ¬ OwnB E bo
  ne : b ≠ gl ∧ ¬ OwnB E b ∧ ¬ OwnB E gl
  base : B ≤ b ∧ B ≤ gl
theorem OutsAt.below {w w' : World} {bo : Nat} {outs : List (List Int)} {S : Nat → Prop} (h : OutsAt w bo outs S) (hbo : bo < w.heap.size) (hb : Below w.heap.size w w') : OutsAt w' bo outs S := by
  intro i hi
  obtain ⟨A, c, h1, h2, h3, h4, h5⟩ := h i hi
  exact ⟨A, c, (hb.cell (p := ⟨bo, i, none⟩) hbo).trans h1, h2, h3, h4.below hb (Nat.le_refl _), fun k hk => ⟨Nat.lt_of_lt_of_le (h5 k hk).1 hb.size, (h5 k hk).2⟩⟩
theorem OutsAt.touch {w w' : World} {bo : Nat} {outs : List (List Int)} {S T : Nat → Prop} (h : OutsAt w bo outs S) (hbo : bo < w.heap.size) (hT : ¬ T bo) (hs : ∀ k, T k → S k) (k : Touch T w w') : OutsAt w' bo outs S := by
  intro i hi
  obtain ⟨A, c, h1, h2, h3, h4, h5⟩ := h i hi
  refine ⟨A, c, (k.cell (p := ⟨bo, i, none⟩) hbo hT).trans h1, h2, h3, fun j hj => ?_, fun q hq => ⟨Nat.lt_of_lt_of_le (h5 q hq).1 k.size, (h5 q hq).2⟩⟩
  obtain ⟨ad, e, hlt, hc⟩ := h4 j hj
  refine ⟨ad, e, Nat.lt_of_lt_of_le hlt k.size, (k.cell (p := ad.add j) (by rw [block_add]; exact hlt) (fun ht => ?_)).trans hc⟩
  rw [block_add] at ht
  exact (h5 ad.block ⟨ad, e, rfl⟩).2 (hs _ ht)
section
variable {w w' : World} {B b gl cl ce bo : Nat} {E : Option Addr} {G : Gr}
theorem GrAt.below (h : GrAt w B b gl cl E ce bo G) (hb : Below w.heap.size w w') : GrAt w' B b gl cl E ce bo G :=
  { blk := h.blk.below hb h.blk.lt, left := h.left.below hb, es := h.es.below hb, outs := h.outs.below h.bo.1 hb, bo := ⟨Nat.lt_of_lt_of_le h.bo.1 hb.size, h.bo.2⟩, ne := h.ne, base := h.base }
/-- an edge's cells -/
theorem GrAt.edge (h : GrAt w B b gl cl E ce bo G) (k : Nat) (hk : k < G.es.length) : ∃ ge, E = some ⟨ge, 0, none⟩ ∧ ge < w.heap.size ∧ w.cell? ⟨ge, k * 3, none⟩ = some (.int .i64 (G.es.getD k default).to) ∧ w.cell? ⟨ge, k * 3 + 1, none⟩ = some (.int .i64 (G.es.getD k default).room) ∧ w.cell? ⟨ge, k * 3 + 2, none⟩ = some (.int .i64 (G.es.getD k default).cost) := by
  obtain ⟨ge, rfl, _, h2, _⟩ := h.es.form (by omega)
  exact ⟨ge, rfl, h2, h.es.cell edC_len k 0 _ (getElem_D G.es k default hk) (by omega), h.es.cell edC_len k 1 _ (getElem_D G.es k default hk) (by omega), h.es.cell edC_len k 2 _ (getElem_D G.es k default hk) (by omega)⟩
end
end Go.Proofs.Ytmebpglkeedaoaa
namespace Go.Proofs.Ytmebpglkeedaoaa
namespace Dp
/-- the lengths and the ways behind k nodes of the start -/
def farI (G : Gr) (n k : Nat) : List Int := (List.range n).map fun v => if v < k then (if 0 < G.lf v then 0 else never) else 0
def viaI (n k : Nat) : List Int := (List.range n).map fun v => if v < k then -1 else 0
theorem farI_len (G : Gr) (n k : Nat) : (farI G n k).length = n := by simp [farI]
theorem viaI_len (n k : Nat) : (viaI n k).length = n := by simp [viaI]
theorem farI_get {G : Gr} {n k v : Nat} (hv : v < n) : (farI G n k).getD v 0 = if v < k then (if 0 < G.lf v then 0 else never) else 0 := by
  simp [farI, List.getD_eq_getElem?_getD, hv]
theorem viaI_get {n k v : Nat} (hv : v < n) : (viaI n k).getD v 0 = if v < k then -1 else 0 := by
  simp [viaI, List.getD_eq_getElem?_getD, hv]
theorem list_eq {a b : List Int} (hl : a.length = b.length) (h : ∀ v, v < b.length → a.getD v 0 = b.getD v 0) : a = b := by
  apply List.ext_getElem hl
  intro i h1 h2
  have := h i h2
  simpa [List.getD_eq_getElem?_getD, h1, h2] using this
theorem farI_zero (G : Gr) (n : Nat) : List.replicate n 0 = farI G n 0 := by
  refine list_eq (by simp [farI_len]) (fun v hv => ?_)
  rw [farI_len] at hv
  rw [farI_get hv]
  simp [List.getD_eq_getElem?_getD, hv]
theorem viaI_zero (n : Nat) : List.replicate n 0 = viaI n 0 := by
  refine list_eq (by simp [viaI_len]) (fun v hv => ?_)
  rw [viaI_len] at hv
  rw [viaI_get hv]
  simp [List.getD_eq_getElem?_getD, hv]
theorem farI_succ (G : Gr) (n k : Nat) (hk : k < n) : (farI G n k).set k (if 0 < G.lf k then 0 else never) = farI G n (k + 1) := by
  refine list_eq (by simp [farI_len]) (fun v hv => ?_)
  rw [farI_len] at hv
  rw [getD_setI _ _ _ _ (by rw [farI_len]; exact hk), farI_get hv, farI_get hv]
  by_cases e : v = k
  · subst e; rw [if_pos rfl, if_pos (Nat.lt_succ_self v)]
  · rw [if_neg e]
    by_cases h : v < k
    · rw [if_pos h, if_pos (show v < k + 1 by omega)]
    · rw [if_neg h, if_neg (show ¬ v < k + 1 by omega)]
theorem viaI_succ (n k : Nat) (hk : k < n) : (viaI n k).set k (-1) = viaI n (k + 1) := by
  refine list_eq (by simp [viaI_len]) (fun v hv => ?_)
  rw [viaI_len] at hv
  rw [getD_setI _ _ _ _ (by rw [viaI_len]; exact hk), viaI_get hv, viaI_get hv]
  by_cases e : v = k
  · subst e; rw [if_pos rfl, if_pos (Nat.lt_succ_self v)]
  · rw [if_neg e]
    by_cases h : v < k
    · rw [if_pos h, if_pos (show v < k + 1 by omega)]
    · rw [if_neg h, if_neg (show ¬ v < k + 1 by omega)]
/-- the queue behind k nodes of the start -/
def StI (G : Gr) (k : Nat) (H : List Vs) : Prop := (∀ e, e ∈ H → e.2 = 0 ∧ ∃ v : Nat, e.1 = (v : Int) ∧ v < k ∧ 0 < G.lf v) ∧ (∀ v : Nat, v < k → 0 < G.lf v → ((v : Int), (0 : Int)) ∈ H) ∧ H.Nodup ∧ Heap H ∧ H.length ≤ k
theorem StI.start (G : Gr) : StI G 0 [] := ⟨fun e h => by simp at h, fun v h => absurd h (Nat.not_lt_zero _), List.nodup_nil, heap_nil, Nat.le_refl _⟩
theorem StI.no {G : Gr} {k : Nat} {H : List Vs} (h : StI G k H) (hl : ¬ 0 < G.lf k) : StI G (k + 1) H :=
  ⟨fun e he => by obtain ⟨a, v, b, c, d⟩ := h.1 e he; exact ⟨a, v, b, by omega, d⟩, fun v hv hl' => by
    rcases (show v < k ∨ v = k by omega) with h1 | rfl
    · exact h.2.1 v h1 hl'
    · exact absurd hl' hl, h.2.2.1, h.2.2.2.1, by have := h.2.2.2.2; omega⟩
theorem StI.yes {G : Gr} {k : Nat} {H H' : List Vs} (h : StI G k H) (hl : 0 < G.lf k) (hp : H'.Perm (((k : Int), (0 : Int)) :: H)) (hh : Heap H') : StI G (k + 1) H' := by
  refine ⟨fun e he => ?_, fun v hv hl' => ?_, ?_, hh, ?_⟩
  · rcases List.mem_cons.1 (hp.mem_iff.1 he) with rfl | he
    · exact ⟨rfl, k, rfl, by omega, hl⟩
    · obtain ⟨a, v, b, c, d⟩ := h.1 e he; exact ⟨a, v, b, by omega, d⟩
  · rw [hp.mem_iff]
    rcases (show v < k ∨ v = k by omega) with h1 | rfl
    · exact List.mem_cons_of_mem _ (h.2.1 v h1 hl')
    · simp
  · rw [hp.nodup_iff, List.nodup_cons]
    refine ⟨fun hm => ?_, h.2.2.1⟩
    obtain ⟨_, v, b, c, _⟩ := h.1 _ hm
    simp only at b
    omega
  · have := hp.length_eq
    have := h.2.2.2.2
    simp at *
    omega
theorem StI.ni {G : Gr} {n : Nat} {p : List Int} {H : List Vs} (h : StI G n H) : NI G n p (farI G n n) (viaI n n) H [] (-1) 0 (fun _ => False) :=
  NI.start (farI_len _ _ _) (viaI_len _ _) (fun v hv => by rw [farI_get hv, if_pos hv]) (fun v hv => by rw [viaI_get hv, if_pos hv]) h.1 h.2.1 h.2.2.1
theorem sum_set : ∀ (l : List Int) (i : Nat) (d : Int), i < l.length → sum (l.set i d) = sum l - l.getD i 0 + d
  | [], _, _, h => absurd h (Nat.not_lt_zero _)
  | x :: l, 0, d, _ => by simp [sum]; omega
  | x :: l, i + 1, d, h => by
    have := sum_set l i d (by simpa using h)
    simp only [List.set_cons_succ, sum, List.getD_cons_succ, this]
    omega
theorem sum_nn {l : List Int} (h : ∀ v, v < l.length → 0 ≤ l.getD v 0) : 0 ≤ sum l := sum_nonneg l (fun x hx => by
  obtain ⟨i, hi, rfl⟩ := List.getElem_of_mem hx
  simpa [List.getD_eq_getElem?_getD, hi] using h i hi)
/-- the measure of the search -/
def mu (fa : List Int) (H : List Vs) : Nat := 2 * (sum fa).toNat + H.length
theorem mu_relax {fa : List Int} {H H' : List Vs} {v : Nat} {d : Int} {e : Vs} (hv : v < fa.length) (h0 : ∀ j, j < fa.length → 0 ≤ fa.getD j 0) (hd : 0 ≤ d) (hlt : d < fa.getD v 0) (hp : H'.Perm (e :: H)) : mu (fa.set v d) H' ≤ mu fa H := by
  have h1 := sum_set fa v d hv
  have h2 := sum_nn h0
  have h3 : 0 ≤ sum (fa.set v d) := sum_nn (fun j hj => by
    rw [List.length_set] at hj
    rw [getD_setI fa v j d hv]
    split
    · exact hd
    · exact h0 j hj)
  have h4 := hp.length_eq
  unfold mu
  simp only [List.length_cons] at h4
  omega
theorem mu_pop {fa : List Int} {H R : List Vs} {e : Vs} (hp : (e :: R).Perm H) : mu fa R + 1 = mu fa H := by
  have h4 := hp.length_eq
  unfold mu
  simp only [List.length_cons] at h4
  omega
/-- what is left of a node's edges from place j on -/
def exJ (l : List Int) (j : Nat) (k : Nat) : Prop := (k : Int) ∈ l.drop j
theorem exJ_step {l : List Int} {j k : Nat} (hj : j < l.length) (hk : l.getD j 0 = (k : Int)) (i : Nat) (h : exJ l j i) : exJ l (j + 1) i ∨ i = k := by
  unfold exJ at *
  rw [List.drop_eq_getElem_cons hj] at h
  have : l[j] = (k : Int) := by simpa [List.getD_eq_getElem?_getD, hj] using hk
  rw [this] at h
  rcases List.mem_cons.1 h with h | h
  · right; omega
  · exact .inl h
theorem exJ_end {l : List Int} {k : Nat} (h : exJ l l.length k) : False := by unfold exJ at h; simp at h
theorem edge_at {G : Gr} {n : Nat} (hG : G.Ok n) {u j : Nat} (hu : u < n) (hj : j < (G.outs.getD u []).length) : ∃ k : Nat, (G.outs.getD u []).getD j 0 = (k : Int) ∧ k < G.es.length ∧ G.frA k = u := by
  have hm : (G.outs.getD u []).getD j 0 ∈ G.outs.getD u [] := by
    rw [List.getD_eq_getElem?_getD (l := G.outs.getD u []), List.getElem?_eq_getElem hj]
    exact List.getElem_mem hj
  have h1 := hG.o1 u hu _ hm
  exact ⟨((G.outs.getD u []).getD j 0).toNat, by omega, by omega, h1.2.2⟩
end Dp
end Go.Proofs.Ytmebpglkeedaoaa
namespace Go.Proofs.Ytmebpglkeedaoaa
open Go.RowKit Dp
set_option linter.unusedVariables false

/-- memory while the search runs -/
structure NrJ (w : World) (gf gb bh : Nat) (fa vi : List Int) (A : Option Addr) (c : Nat) (H : List Vs) (W : World) : Prop where
  bel : Below w.heap.size w W
  f : Fl 2 W gf fa
  v : Fl 3 W gb vi
  h : HpAt W w.heap.size bh A c H
  ge : w.heap.size ≤ gf ∧ w.heap.size ≤ gb ∧ w.heap.size ≤ bh
section
variable {w W W' : World} {gf gb bh c : Nat} {fa vi : List Int} {A : Option Addr} {H : List Vs}
theorem NrJ.below (h : NrJ w gf gb bh fa vi A c H W) (hb : Below W.heap.size W W') : NrJ w gf gb bh fa vi A c H W' :=
  { bel := h.bel.trans (hb.mono h.bel.size), f := h.f.below hb, v := h.v.below hb, h := h.h.below hb, ge := h.ge }
theorem NrJ.drew (h : NrJ w gf gb bh fa vi A c H W) : NrJ w gf gb bh fa vi A c H W.drew := h.below (Below.refl _ _).drew
theorem NrJ.nfb (h : NrJ w gf gb bh fa vi A c H W) : gf ≠ gb := fun e => by
  subst e
  exact (h.f.ne h.v (by decide)) rfl
theorem HpAt.set_ne {B b : Nat} (h : HpAt W B b A c H) {p : Addr} {e : TypeId} {cs : List Value} (hp : Blk W p.block e cs) (h1 : e ≠ 158) (h2 : (154 : Nat) ≠ e) (u : Value) : HpAt (W.setCell p u) B b A c H :=
  ⟨h.1.setCell_ne (blk_type_ne hp h.1 h1) u, h.2.1.set_ne (fun hb => own_ne h.2.1 hb hp h2) u, h.2.2⟩
theorem NrJ.putF (h : NrJ w gf gb bh fa vi A c H W) (k : Nat) (x : Int) : NrJ w gf gb bh (fa.set k x) vi A c H (W.setCell ⟨gf, k, none⟩ (.int .i64 x)) :=
  { bel := h.bel.setCell h.ge.1 _, f := h.f.put k x, v := h.v.set_ne (fun e => h.nfb e.symm) _, h := h.h.set_ne (p := ⟨gf, k, none⟩) h.f (by decide) (by decide) _, ge := h.ge }
theorem NrJ.putV (h : NrJ w gf gb bh fa vi A c H W) (k : Nat) (x : Int) : NrJ w gf gb bh fa (vi.set k x) A c H (W.setCell ⟨gb, k, none⟩ (.int .i64 x)) :=
  { bel := h.bel.setCell h.ge.2.1 _, f := h.f.set_ne h.nfb _, v := h.v.put k x, h := h.h.set_ne (p := ⟨gb, k, none⟩) h.v (by decide) (by decide) _, ge := h.ge }
/-- the queue has changed -/
theorem NrJ.queue (h : NrJ w gf gb bh fa vi A c H W) {A' : Option Addr} {c' : Nat} {H' : List Vs} (ht : Touch (fun k => k = bh ∨ OwnB A k) W W') (hh : HpAt W' w.heap.size bh A' c' H') : NrJ w gf gb bh fa vi A' c' H' W' :=
  { bel := Below.touch h.bel h.bel.size ht (fun k hk => by
      rcases hk with rfl | hk
      · exact h.ge.2.2
      · exact (ownLt h.h.2.1 hk).2)
    f := h.f.touch ht (fun hk => by
      rcases hk with e | hk
      · exact h.f.ne h.h.1 (by decide) e.symm
      · exact own_ne h.h.2.1 hk h.f (by decide))
    v := h.v.touch ht (fun hk => by
      rcases hk with e | hk
      · exact h.v.ne h.h.1 (by decide) e.symm
      · exact own_ne h.h.2.1 hk h.v (by decide))
    h := hh
    ge := h.ge }
end

theorem nrJ_start (w : World) (G : Gr) (n : Nat) : NrJ w w.heap.size (w.heap.size + 1) (w.heap.size + 1 + 1) (farI G n 0) (viaI n 0) none 0 [] (((w.alloc (.cells (Array.replicate n (.int .i64 0)) 2)).alloc (.cells (Array.replicate n (.int .i64 0)) 3)).alloc (.cells #[.slice none 0 0, .func (.func 101) #[] #[]] 158)) := by
  have f0 := fl_new 2 n w
  have v0 := fl_new 3 n (w.alloc (.cells (Array.replicate n (.int .i64 0)) 2))
  have h0 := Blk.new' ((w.alloc (.cells (Array.replicate n (.int .i64 0)) 2)).alloc (.cells (Array.replicate n (.int .i64 0)) 3)) #[.slice none 0 0, .func (.func 101) #[] #[]] 158
  rw [farI_zero G n] at f0
  rw [viaI_zero n] at v0
  have s1 : ∀ (W : World) (o : Obj), (W.alloc o).heap.size = W.heap.size + 1 := fun W o => by simp
  rw [s1] at v0 h0
  rw [s1] at h0
  have b0 := (Below.refl w.heap.size w).alloc (Nat.le_refl _) (.cells (Array.replicate n (.int .i64 0)) 2)
  have b1 := b0.alloc b0.size (.cells (Array.replicate n (.int .i64 0)) 3)
  have b2 := b1.alloc b1.size (.cells #[.slice none 0 0, .func (.func 101) #[] #[]] 158)
  exact { bel := b2, f := (Blk.alloc f0 _).alloc _, v := Blk.alloc v0 _, h := ⟨h0, World.ownsRow_nil _ _ _ _, fun ⟨a, e, _⟩ => by cases e⟩, ge := ⟨Nat.le_refl _, by omega, by omega⟩ }

set_option maxHeartbeats 2000000 in
set_option maxRecDepth 100000 in
theorem nearest_c (b gl cl ce bo B cp n : Nat) (E P : Option Addr) (G : Gr) (p : List Int) (w : World) (hG : G.Ok n) (hp : G.Pot n p) (hg : GrAt w B b gl cl E ce bo G) (hP : IntsAt w P p) (hcp : n ≤ cp ∧ cp ≤ 9223372036854775807) :
    Calls Try.prog 71 #[.pointer (some ⟨b, 0, none⟩), .slice P n cp] w fun e w' => ∃ (gf gb : Nat) (fa vi : List Int) (en : Int), e = .returned (.tuple #[.slice (some ⟨gf, 0, none⟩) n n, .slice (some ⟨gb, 0, none⟩) n n, .int .i64 en]) ∧
      Below w.heap.size w w' ∧ Fl 2 w' gf fa ∧ Fl 3 w' gb vi ∧ w.heap.size ≤ gf ∧ w.heap.size ≤ gb ∧ NR G n p fa vi en := by
  have HG := Lib.hid hG
  have HP := Lib.hid hp
  have HA := Lib.hid hg
  have HPA := Lib.hid hP
  have n1 : 1 ≤ n := hG.n1.1
  have n2 : n ≤ 1024 := hG.n1.2
  have LO := Lib.hid hG.lo
  have LL := Lib.hid hG.ll
  have o2 := hg.blk.cell 2 rfl
  rw [hG.lo] at o2
  have bl := hg.blk.lt
  clear hG hp hg hP
  have J0 := Lib.hid (nrJ_start w G n)
  have hm1 := make_64 n (by omega)
  have hm2 := make_int n (by omega)
  go_enter Try.func71, Try.ntmps71
  go_wp2_with fail
  generalize ((w.alloc (.cells (Array.replicate n (.int .i64 0)) 2)).alloc (.cells (Array.replicate n (.int .i64 0)) 3)).alloc (.cells #[.slice none 0 0, .func (.func 101) #[] #[]] 158) = w1 at J0 ⊢
  generalize hgb : w.heap.size + 1 = gb at *
  generalize hbh : gb + 1 = bh at *
  generalize hgf : w.heap.size = gf at J0 ⊢
  have WG := Lib.hid hgf
  clear hgb hbh hgf
  have GC : Hid (∀ W, Below w.heap.size w W → GrAt W B b gl cl E ce bo G) := Lib.hid (fun W h => HA.out.below h)
  have o0 := Lib.hid (HA.out.blk.cell 0 rfl)
  rw [LL.out] at o0
  go_loopw [33] (fun i wr => ∃ k : Nat, i = .int .i64 k ∧ k ≤ n ∧ Hid (∃ A c H, NrJ w gf gb bh (farI G n k) (viaI n k) A c H wr ∧ StI G k H)) (fun i _ => n - (intOf i).toNat)
  case atStart => exact ⟨0, rfl, Nat.zero_le _, Lib.hid ⟨_, _, _, J0.out, StI.start G⟩⟩
  case round =>
    obtain ⟨k, rfl, hk, HJ⟩ := hrel
    obtain ⟨A, c, H, j, st⟩ := HJ.out
    have JR := Lib.hid j
    have ST := Lib.hid st
    clear HJ j st
    by_cases hlt : k < n
    · have hkn : (k : Int) < (n : Int) := by omega
      have J1 := Lib.hid ((JR.out.putF k 1152921504606846976).putV k (-1))
      have f0 := JR.out.f.cell k (by rw [farI_len]; exact hlt)
      have v0 := JR.out.v.cell k (by rw [viaI_len]; exact hlt)
      have zf := JR.out.f.free k
      have zv := JR.out.v.free k
      have gw := JR.out.nfb
      go_upto_region 8 with fail
      generalize (wr.setCell ⟨gf, k, none⟩ (.int .i64 1152921504606846976)).setCell ⟨gb, k, none⟩ (.int .i64 (-1)) = w2 at J1 ⊢
      clear f0 v0 zf zv gw
      have c0 := (GC.out _ J1.out.bel).blk.cell 0 rfl
      rw [LL.out] at c0
      have l0 := (GC.out _ J1.out.bel).left.cell k (by rw [LL.out]; exact hlt)
      generalize hx : G.left.getD k 0 = x at *
      have HX : Hid (G.lf k = x) := Lib.hid hx
      clear hx
      by_cases hl : 0 < x
      · have J2 := Lib.hid (J1.out.putF k 0)
        have f0 := J1.out.f.cell k (by rw [List.length_set, farI_len]; exact hlt)
        have zf := J1.out.f.free k
        go_upto_region 10 with fail
        generalize w2.setCell ⟨gf, k, none⟩ (.int .i64 0) = w3 at J2 ⊢
        clear f0 zf c0 l0
        go_wp2_with fail
        refine (put_c bh A H.length c H k 0 w.heap.size w3 rfl (by have := ST.out.2.2.2.2; omega) J2.out.bel.size J2.out.h ST.out.2.2.2.1).mono ?_
        rintro e w4 ⟨rfl, A', c', H', hh, hpm, hhp, ht, _⟩
        have J4 := Lib.hid (J2.out.queue ht hh)
        have S4 := Lib.hid (ST.out.yes (by rw [HX.out]; exact hl) hpm hhp)
        clear hh hpm hhp ht
        rw [List.set_set, show (0 : Int) = if 0 < G.lf k then 0 else never from by rw [HX.out, if_pos hl], farI_succ G n k hlt, viaI_succ n k hlt] at J4
        go_wp2_with fail
        go_roundw
        case rel => exact ⟨k + 1, by go_num, by omega, Lib.hid ⟨A', c', H', J4.out, S4.out⟩⟩
        case measure => simp [intOf]; omega
      · have S4 := Lib.hid (ST.out.no (by rw [HX.out]; exact hl))
        rw [show (1152921504606846976 : Int) = if 0 < G.lf k then 0 else never from by rw [HX.out, if_neg hl]; rfl, farI_succ G n k hlt, viaI_succ n k hlt] at J1
        go_wp2_with fail
        go_roundw
        case rel => exact ⟨k + 1, by go_num, by omega, Lib.hid ⟨A, c, H, J1.out, S4.out⟩⟩
        case measure => simp [intOf]; omega
    · obtain rfl : n = k := by omega
      have N0 := Lib.hid (ST.out.ni (p := p))
      have H0 := Lib.hid ST.out.2.2.2
      clear ST
      go_wp2_with fail
      go_loopg [11] (mu (farI G n n) H) (fun m ev wr => ∃ en : Int, ev = .int .i64 en ∧ Hid (∃ fa vi A c H S ds, NrJ w gf gb bh fa vi A c H wr ∧ NI G n p fa vi H S en ds (fun _ => False) ∧ Heap H ∧ H.length ≤ n + S.length * 4096 ∧ mu fa H = m))
      case atStart => exact ⟨-1, rfl, Lib.hid ⟨_, _, _, _, _, [], 0, JR.out, N0.out, H0.out.1, by have := H0.out.2; simp; omega, rfl⟩⟩
      case round =>
        clear JR N0 H0 J0
        obtain ⟨en, rfl, HJ⟩ := hrel
        obtain ⟨fa, vi, A, c, H, S, ds, j, ni, hp, hb, hm⟩ := HJ.out
        have JR := Lib.hid j
        have NR0 := Lib.hid ni
        have HH := Lib.hid hp
        have HB := Lib.hid hb
        have HM := Lib.hid hm
        clear HJ j ni hp hb hm
        have c0 := JR.out.h.1.cell 0 rfl
        generalize hlen : H.length = hn at c0
        have HL := Lib.hid hlen
        clear hlen
        by_cases h0 : hn = 0
        · subst h0
          have he : H = [] := List.eq_nil_of_length_eq_zero HL.out
          have ND := NR0.out
          rw [he] at ND
          have ND := Lib.hid (ND.done HG.out HP.out)
          clear he
          go_wp2_with fail
          exact bodyPost_ret (v := .tuple #[.slice (some ⟨gf, 0, none⟩) n n, .slice (some ⟨gb, 0, none⟩) n n, .int .i64 en]) (by simp [results, Try.results71, go_sem]) rfl ⟨gf, gb, fa, vi, en, rfl, JR.out.bel, JR.out.f, JR.out.v, JR.out.ge.1, JR.out.ge.2.1, ND.out⟩
        · obtain ⟨g, rfl, _⟩ := JR.out.h.2.1.form (by rw [HL.out]; omega)
          have hn0 : 0 < hn := by omega
          have hni : (0 : Int) < (hn : Int) := by omega
          have hn8 : hn ≤ 8388608 := by have := HB.out; have := NR0.out.slen; rw [← HL.out]; omega
          have hmem : H.getD 0 (0, 0) ∈ H := by
            rw [List.getD_eq_getElem?_getD, List.getElem?_eq_getElem (by rw [HL.out]; exact hn0)]
            exact List.getElem_mem _
          have HE := Lib.hid (NR0.out.ent _ hmem)
          have HMN := Lib.hid (fun x (hx : x ∈ H) => heap_minE HH.out x hx)
          have TK := Lib.hid (take_c bh g hn c H w.heap.size wr HL.out.symm hn0 hn8 JR.out.h HH.out)
          have HK0 : Hid (keyAt H 0 = (H.getD 0 (0, 0)).2) := Lib.hid rfl
          clear hmem
          generalize H.getD 0 (0, 0) = e0 at *
          obtain ⟨e0, d⟩ := e0
          obtain ⟨u, rfl⟩ : ∃ u : Nat, e0 = (u : Int) := ⟨e0.toNat, by have := HE.out.1.1; simp only at this; omega⟩
          have hun : u < n := by have := HE.out.1.2; simp only at this; omega
          have hd : d < 1152921504606846976 := HE.out.2.2.1
          have hd0 : 0 ≤ d := by have h1 := HE.out.2.1; have h2 := NR0.out.top u hun; simp only [Int.toNat_natCast] at h1; omega
          go_wp2_with fail
          refine TK.out.mono ?_
          rintro e w2 ⟨rfl, H2, hh, hpm, hhp, ht⟩
          have J2 := Lib.hid (JR.out.queue (ht.mono (fun k hk => hk.imp id (fun h => ownB_some.2 h))) hh)
          have N2 := Lib.hid (NR0.out.perm hpm)
          have MN := Lib.hid (fun x (hx : x ∈ H2) => HMN.out x (hpm.mem_iff.1 (List.mem_cons_of_mem _ hx)))
          rw [HK0.out] at MN
          have HH2 := Lib.hid hhp
          have HM2 := Lib.hid (mu_pop (fa := fa) hpm)
          have HB2 : Hid (H2.length + 1 ≤ n + S.length * 4096) := Lib.hid (by have := hpm.length_eq; have := HB.out; simp only [List.length_cons] at *; omega)
          clear hh hpm hhp ht TK HMN HK0 HE c0
          go_upto_region 15 with fail
          have J3 := Lib.hid (J2.out.below ((Below.refl _ _).alloc (Nat.le_refl _) (.cells #[.int .i64 u, .int .i64 d] 154)))
          have X3 := Lib.hid (Blk.new' w2 #[.int .i64 u, .int .i64 d] 154)
          generalize w2.alloc (.cells #[.int .i64 u, .int .i64 d] 154) = w3 at J3 X3 ⊢
          have hgga : g ≠ w2.heap.size := by have := J2.out.h.2.1.lt.2; omega
          generalize w2.heap.size = ga at *
          clear J2
          have FC : Hid (∀ W, NrJ w gf gb bh fa vi (some ⟨g, 0, none⟩) c H2 W → W.cell? ⟨gf, u, none⟩ = some (.int .i64 (fa.getD u 0))) := Lib.hid (fun W h => h.f.cell u (by rw [NR0.out.l1]; exact hun))
          have NS := Lib.hid (fun h => N2.out.stale (e := ((u : Int), d)) h)
          have NF := Lib.hid (fun h => N2.out.fresh (u := u) (d := d) MN.out h)
          simp only [Int.toNat_natCast] at NS
          generalize hfu : fa.getD u 0 = fu at *
          have HFU := Lib.hid hfu
          clear hfu
          have a0 := X3.out.cell 0 rfl
          have a1 := X3.out.cell 1 rfl
          have gal := X3.out.lt
          have gfl := J3.out.f.lt
          have f0 := FC.out _ J3.out
          refine wp_region_past (by kernel_rfl) (by kernel_rfl) ?_
          repeat (go_big_quiet_step (fail))
          refine wpQuiet_nil ?_
          intro xx
          have J4 := Lib.hid (J3.out.below xx.far)
          have X4 := Lib.hid (X3.out.below xx.far gal)
          generalize xx.w = w4 at J4 X4 ⊢
          clear a0 a1 gal gfl f0 J3 X3
          by_cases hs : fu < d
          · have d1 : decide (fu < d) = true := decide_eq_true hs
            have NS := Lib.hid (NS.out hs)
            simp only [d1]
            go_wp2_with fail
            go_roundg (mu fa H2)
            case measure => rw [← HM.out, ← HM2.out]; omega
            case rel => exact ⟨en, rfl, Lib.hid ⟨fa, vi, _, c, H2, S, ds, J4.out, NS.out, HH2.out, by have := HB2.out; omega, rfl⟩⟩
          · have d1 : decide (fu < d) = false := decide_eq_false hs
            have NF := Lib.hid (NF.out hs)
            simp only [d1]
            clear NS d1
            go_upto_region 16 with fail
            have LC : Hid (∀ W, NrJ w gf gb bh fa vi (some ⟨g, 0, none⟩) c H2 W → W.cell? ⟨gl, u, none⟩ = some (.int .i64 (G.left.getD u 0)) ∧ W.cell? ⟨b, 0, none⟩ = some (.slice (some ⟨gl, 0, none⟩) n cl) ∧ gl < W.heap.size ∧ b < W.heap.size) := Lib.hid (fun W h => by
              have hA := GC.out _ h.bel
              have c0 := hA.blk.cell 0 rfl
              rw [LL.out] at c0
              exact ⟨hA.left.cell u (by rw [LL.out]; exact hun), c0, hA.left.lt.2, hA.blk.lt⟩)
            have HX : Hid (G.lf u = G.left.getD u 0) := Lib.hid rfl
            generalize G.left.getD u 0 = x at *
            rw [HX.out] at NF
            go_cut [86] from 58 to 154 (fun s86 wc => s86 = .bool (decide (x < 0 ∧ en < 0)) ∧ Hid (NrJ w gf gb bh fa vi (some ⟨g, 0, none⟩) c H2 wc ∧ Blk wc ga 154 [.int .i64 u, .int .i64 d]))
            case first =>
              obtain ⟨l0, c0, gll, bll⟩ := LC.out _ J4.out
              have a0 := X4.out.cell 0 rfl
              have gal := X4.out.lt
              by_cases h1 : x < 0
              · have d1 : decide (x < 0) = true := decide_eq_true h1
                by_cases h2 : en < 0
                · have d2 : decide (en < 0) = true := decide_eq_true h2
                  have d3 : decide (x < 0 ∧ en < 0) = true := decide_eq_true ⟨h1, h2⟩
                  refine wp_region_past (by kernel_rfl) (by kernel_rfl) ?_
                  repeat (go_big_quiet_step (fail))
                  refine wpQuiet_nil ?_
                  intro xx
                  have J5 := Lib.hid (J4.out.below xx.far)
                  have X5 := Lib.hid (X4.out.below xx.far gal)
                  generalize xx.w = w5 at J5 X5 ⊢
                  go_wp2_with fail
                  go_meet
                  case rel => exact ⟨by simp [d3], Lib.hid ⟨J5.out, X5.out⟩⟩
                · have d2 : decide (en < 0) = false := decide_eq_false h2
                  have d3 : decide (x < 0 ∧ en < 0) = false := decide_eq_false (fun h => h2 h.2)
                  refine wp_region_past (by kernel_rfl) (by kernel_rfl) ?_
                  repeat (go_big_quiet_step (fail))
                  refine wpQuiet_nil ?_
                  intro xx
                  have J5 := Lib.hid (J4.out.below xx.far)
                  have X5 := Lib.hid (X4.out.below xx.far gal)
                  generalize xx.w = w5 at J5 X5 ⊢
                  go_wp2_with fail
                  go_meet
                  case rel => exact ⟨by simp [d3], Lib.hid ⟨J5.out, X5.out⟩⟩
              · have d1 : decide (x < 0) = false := decide_eq_false h1
                have d3 : decide (x < 0 ∧ en < 0) = false := decide_eq_false (fun h => h1 h.1)
                refine wp_region_past (by kernel_rfl) (by kernel_rfl) ?_
                repeat (go_big_quiet_step (fail))
                refine wpQuiet_nil ?_
                intro xx
                have J5 := Lib.hid (J4.out.below xx.far)
                have X5 := Lib.hid (X4.out.below xx.far gal)
                generalize xx.w = w5 at J5 X5 ⊢
                go_wp2_with fail
                go_meet
                case rel => exact ⟨by simp [d3], Lib.hid ⟨J5.out, X5.out⟩⟩
            case rest =>
              clear J4 X4 LC
              obtain ⟨rfl, HC⟩ := hcut
              go_upto_if 86 with fail
              go_cut [11] from 58 to 154 (fun s11 wc => s11 = .int .i64 (if x < 0 ∧ en < 0 then (u : Int) else en) ∧ Hid (NrJ w gf gb bh fa vi (some ⟨g, 0, none⟩) c H2 wc ∧ Blk wc ga 154 [.int .i64 u, .int .i64 d]))
              case first =>
                have a0 := HC.out.2.cell 0 rfl
                by_cases h3 : x < 0 ∧ en < 0
                · have d3 : decide (x < 0 ∧ en < 0) = true := decide_eq_true h3
                  simp only [d3]
                  go_wp2_with fail
                  go_meet
                  case rel => exact ⟨by rw [if_pos h3], HC⟩
                · have d3 : decide (x < 0 ∧ en < 0) = false := decide_eq_false h3
                  simp only [d3]
                  go_wp2_with fail
                  go_meet
                  case rel => exact ⟨by rw [if_neg h3], HC⟩
              case rest =>
                clear HC
                obtain ⟨rfl, HC⟩ := hcut
                generalize (if x < 0 ∧ en < 0 then (u : Int) else en) = en2 at *
                have J5 := Lib.hid HC.out.1
                have X5 := Lib.hid HC.out.2
                clear HC
                have HU := Lib.hid (HFU.out.trans NF.out.1)
                have N5 := Lib.hid NF.out.2.2.2.2
                have ED : Hid (∀ j, j < (G.outs.getD u []).length → ∃ k : Nat, (G.outs.getD u []).getD j 0 = (k : Int) ∧ k < G.es.length ∧ G.frA k = u) := Lib.hid (fun j hj => edge_at HG.out hun hj)
                have N6 : Hid (NI G n p fa vi H2 (u :: S) en2 d (exJ (G.outs.getD u []) 0)) := Lib.hid (N5.out.excuse (fun k hk _ h => by
                  subst h
                  have := HG.out.o2 k hk
                  simpa [exJ] using this))
                have O3 := Lib.hid (HG.out.o3 u hun)
                have OX := Lib.hid (fun (j k : Nat) => exJ_step (l := G.outs.getD u []) (j := j) (k := k))
                have OE := Lib.hid (fun (k : Nat) => exJ_end (l := G.outs.getD u []) (k := k))
                have OC := Lib.hid (HA.out.outs u (by rw [LO.out]; exact hun))
                clear N5 NF
                generalize G.outs.getD u [] = ol at *
                have CC : Hid (∀ W, Below w.heap.size w W → W.cell? ⟨b, 2, none⟩ = some (.slice (some ⟨bo, 0, none⟩) n n) ∧ bo < W.heap.size ∧ b < W.heap.size) := Lib.hid (fun W h => by
                  have hA := GC.out _ h
                  have c2 := hA.blk.cell 2 rfl
                  rw [LO.out] at c2
                  exact ⟨c2, hA.bo.1, hA.blk.lt⟩)
                obtain ⟨Ao, co, oc0, oco, ocm, oia, _⟩ := OC.out
                have OI := Lib.hid oia
                have oc := (J5.out.bel.cell (p := ⟨bo, u, none⟩) HA.out.bo.1).trans oc0
                clear oc0
                obtain ⟨c2, bol, bll⟩ := CC.out _ J5.out.bel
                have a0 := X5.out.cell 0 rfl
                have gal := X5.out.lt
                clear oia
                generalize hol : ol.length = no at *
                have HOL := Lib.hid hol
                clear hol
                go_upto_region 18 with fail
                refine wp_region_past (by kernel_rfl) (by kernel_rfl) ?_
                repeat (go_big_quiet_step (fail))
                refine wpQuiet_nil ?_
                intro xx
                have J6 := Lib.hid (J5.out.below xx.far)
                have X6 := Lib.hid (X5.out.below xx.far gal)
                generalize xx.w = w6 at J6 X6 ⊢
                clear a0 gal c2 bol bll oc J5 X5
                go_wp2_with fail
                go_loopg [98] no (fun m jv wr => ∃ j : Nat, jv = .int .i64 j ∧ j + m = no ∧ Hid (∃ fa1 vi1 A1 c1 H1, NrJ w gf gb bh fa1 vi1 A1 c1 H1 wr ∧ Blk wr ga 154 [.int .i64 u, .int .i64 d] ∧ ¬ OwnB A1 ga ∧ NI G n p fa1 vi1 H1 (u :: S) en2 d (exJ ol j) ∧ Heap H1 ∧ H1.length + 1 ≤ n + S.length * 4096 + j ∧ mu fa1 H1 ≤ mu fa H2 ∧ fa1.getD u 0 = d))
                case atStart => exact ⟨0, rfl, by omega, Lib.hid ⟨fa, vi, _, c, H2, J6.out, X6.out, fun h => hgga (ownB_some.1 h).symm, N6.out, HH2.out, by have := HB2.out; omega, Nat.le_refl _, HU.out⟩⟩
                case round =>
                  obtain ⟨j, rfl, hjm, HJ⟩ := hrel
                  obtain ⟨fa1, vi1, A1, c1, H1, q1, q2, q8, q3, q4, q5, q6, q7⟩ := HJ.out
                  have JR := Lib.hid q1
                  have XR := Lib.hid q2
                  have NR1 := Lib.hid q3
                  have HH1 := Lib.hid q4
                  have HB1 := Lib.hid q5
                  have HM1 := Lib.hid q6
                  have HU1 := Lib.hid q7
                  have GAN := Lib.hid q8
                  clear HJ q1 q2 q3 q4 q5 q6 q7 q8 J6 X6 N6
                  by_cases hj : j < no
                  · have hji : (j : Int) < (no : Int) := by omega
                    obtain ⟨k, hk, hke, hfr⟩ := ED.out j hj
                    obtain ⟨ad, rfl, adl, ad0⟩ := (OI.out.below JR.out.bel (Nat.le_refl _)) j (by rw [HOL.out]; exact hj)
                    rw [hk] at ad0
                    have EX := Lib.hid (OX.out j k hj hk)
                    have HFR := Lib.hid hfr
                    clear hk hfr
                    obtain ⟨ge, rfl, gel, e0, e1, e2⟩ := (GC.out _ JR.out.bel).edge k hke
                    have hto := HG.out.to k hke
                    have hcb := HG.out.cb k hke
                    have hrm := HG.out.rm k hke
                    have HTO : Hid (G.toA k = (G.es.getD k default).to.toNat) := Lib.hid rfl
                    have HRM : Hid (G.room k = (G.es.getD k default).room) := Lib.hid rfl
                    have HCO : Hid (G.cost k = (G.es.getD k default).cost) := Lib.hid rfl
                    rw [HCO.out] at hcb
                    rw [HRM.out] at hrm
                    have ec1 := (GC.out _ JR.out.bel).blk.cell 1 rfl
                    have hkl : k < G.es.length := hke
                    generalize hml : G.es.length = ml at ec1 hkl
                    have HML := Lib.hid hml
                    clear hml hke
                    have hki : (k : Int) < (ml : Int) := by omega
                    generalize G.es.getD k default = ed at *
                    obtain ⟨t0, ro, co'⟩ := ed
                    simp only at e0 e1 e2 hto hcb hrm HTO HRM HCO
                    obtain ⟨v, rfl⟩ : ∃ v : Nat, t0 = (v : Int) := ⟨t0.toNat, by omega⟩
                    simp only [Int.toNat_natCast] at HTO
                    have hvn : v < n := by omega
                    have HRC : Hid (∀ q : List Int, G.rc q k = co' + q.getD u 0 - q.getD v 0) := Lib.hid (fun q => by unfold Gr.rc; rw [HCO.out, HFR.out, HTO.out])
                    have hpu := HP.out.bd u hun
                    have hpv := HP.out.bd v hvn
                    have PAT : Hid (∀ W, Below w.heap.size w W → ∃ ap, P = some ap ∧ W.cell? (ap.add u) = some (.int .i64 (p.getD u 0)) ∧ W.cell? (ap.add v) = some (.int .i64 (p.getD v 0)) ∧ (ap.add u).block < W.heap.size ∧ (ap.add v).block < W.heap.size) := Lib.hid (fun W h => by
                      have hI := HPA.out.below h (Nat.le_refl _)
                      obtain ⟨a1, e1, b1, c1⟩ := hI u (by rw [HP.out.len]; exact hun)
                      obtain ⟨a2, e2, b2, c2⟩ := hI v (by rw [HP.out.len]; exact hvn)
                      cases e1
                      cases e2
                      exact ⟨_, rfl, c1, c2, by rw [block_add]; exact b1, by rw [block_add]; exact b2⟩)
                    have HR0 := HRC.out p
                    generalize p.getD u 0 = pu at *
                    generalize p.getD v 0 = pv at *
                    have HRC := Lib.hid HR0
                    clear HR0
                    have FV : Hid (∀ W, NrJ w gf gb bh fa1 vi1 A1 c1 H1 W → W.cell? ⟨gf, v, none⟩ = some (.int .i64 (fa1.getD v 0)) ∧ gf < W.heap.size) := Lib.hid (fun W h => ⟨h.f.cell v (by rw [NR1.out.l1]; exact hvn), h.f.lt⟩)
                    have SKIP := Lib.hid (fun h => NR1.out.skip (ex' := exJ ol (j + 1)) (u := u) (k := k) (fun i _ hi => EX.out i hi) HFR.out h)
                    have RLX := Lib.hid (fun dd h1 h2 h3 => NR1.out.relax (ex' := exJ ol (j + 1)) (u := u) (k := k) (d := dd) HG.out HP.out (fun i _ hi => EX.out i hi) (by rw [HML.out]; exact hkl) HFR.out (by simp) HU1.out h1 h2 h3)
                    have MUR := Lib.hid (fun (dd : Int) (H' : List Vs) (e : Vs) (h1 : 0 ≤ dd) (h2 : dd < fa1.getD v 0) (h3 : H'.Perm (e :: H1)) => mu_relax (v := v) (by rw [NR1.out.l1]; exact hvn) (fun i hi => (NR1.out.top i (by rw [← NR1.out.l1]; exact hi)).1) h1 h2 h3)
                    have FU : Hid (∀ dd, (fa1.set v dd).getD u 0 = d) := Lib.hid (fun dd => by
                      rw [getD_setI _ _ _ _ (by rw [NR1.out.l1]; exact hvn), if_neg, HU1.out]
                      intro e
                      have := HG.out.ne k (by rw [HML.out]; exact hkl)
                      rw [HFR.out, HTO.out] at this
                      exact this e.symm)
                    rw [HTO.out, HRC.out, HRM.out, HU1.out] at SKIP
                    rw [HTO.out, HRC.out, HRM.out, HU1.out] at RLX
                    generalize hfv : fa1.getD v 0 = fv at *
                    clear hfv
                    go_upto_region 22 with fail
                    have J7 := Lib.hid (JR.out.below ((Below.refl _ _).alloc (Nat.le_refl _) (.cells #[.int .i64 v, .int .i64 ro, .int .i64 co'] 144)))
                    have X7 := Lib.hid (XR.out.alloc (.cells #[.int .i64 v, .int .i64 ro, .int .i64 co'] 144))
                    have Y7 := Lib.hid (Blk.new' wr #[.int .i64 v, .int .i64 ro, .int .i64 co'] 144)
                    generalize wr.alloc (.cells #[.int .i64 v, .int .i64 ro, .int .i64 co'] 144) = w7 at J7 X7 Y7 ⊢
                    generalize wr.heap.size = gx at *
                    clear e0 e1 e2 ec1 ad0
                    have a0 := X7.out.cell 0 rfl
                    have a1 := X7.out.cell 1 rfl
                    have x0 := Y7.out.cell 0 rfl
                    have x2 := Y7.out.cell 2 rfl
                    have gal := X7.out.lt
                    have gxl := Y7.out.lt
                    obtain ⟨ap, rfl, p0, p1, p2, p3⟩ := PAT.out _ J7.out.bel
                    have s1 : IntKind.i64.wrap (d + co') = d + co' := IntWalk.i64_in _ (by omega)
                    have s2 : IntKind.i64.wrap (d + co' + pu) = d + co' + pu := IntWalk.i64_in _ (by omega)
                    have s3 : IntKind.i64.wrap (d + co' + pu - pv) = d + co' + pu - pv := IntWalk.i64_in _ (by omega)
                    refine wp_region_past (by kernel_rfl) (by kernel_rfl) ?_
                    repeat (go_big_quiet_step (fail))
                    refine wpQuiet_nil ?_
                    intro xx
                    have J8 := Lib.hid (J7.out.below xx.far)
                    have X8 := Lib.hid (X7.out.below xx.far gal)
                    have Y8 := Lib.hid (Y7.out.below xx.far gxl)
                    generalize xx.w = w8 at J8 X8 Y8 ⊢
                    clear s1 s2 s3 a0 a1 x0 x2 gal gxl p0 p1 p2 p3 J7 X7 Y7
                    generalize hdd : d + co' + pu - pv = dd at *
                    have HDD := Lib.hid hdd
                    clear hdd
                    have x0 := Y8.out.cell 0 rfl
                    have x1 := Y8.out.cell 1 rfl
                    obtain ⟨f0, gfl⟩ := FV.out _ J8.out
                    by_cases hr : 0 < ro
                    · have d1 : decide (0 < ro) = true := decide_eq_true hr
                      by_cases hlt : dd < fv
                      · have d2 : decide (dd < fv) = true := decide_eq_true hlt
                        have RX := Lib.hid (RLX.out dd (by have := HDD.out; omega) hlt hr)
                        have v0 := J8.out.v.cell v (by rw [NR1.out.l2]; exact hvn)
                        go_upto_region 24 with fail
                        clear x0 x1 f0 gfl v0
                        have gln : Hid (fa1.length = n ∧ vi1.length = n) := Lib.hid ⟨NR1.out.l1, NR1.out.l2⟩
                        refine wp_region_spine 9 [true] [] ?af24 (fun V => (∃ fa2, NrJ w gf gb bh fa2 vi1 A1 c1 H1 V ∧ fa2.length = n ∧ fa2.set v dd = fa1.set v dd) ∧ Blk V ga 154 [.int .i64 u, .int .i64 d] ∧ Blk V gx 144 [.int .i64 v, .int .i64 ro, .int .i64 co']) (by kernel_rfl) (by kernel_rfl) ⟨⟨fa1, J8.out.drew, gln.out.1, rfl⟩, X8.out.drew, Y8.out.drew⟩ ?walk24 ?spine24
                        case walk24 =>
                          rintro V ⟨_, _, hV⟩
                          have x0 := hV.cell 0 rfl
                          clear hV
                          simp only [List.take_succ_cons, List.take_zero]
                          repeat (go_big_quiet_step (fail))
                          refine wpQuiet_nil ?_
                          rfl
                        case spine24 =>
                          rintro V ⟨⟨fa2, h1, h2, h3⟩, h4, h5⟩
                          have JV := Lib.hid h1
                          have L2 := Lib.hid h2
                          have SE := Lib.hid h3
                          have XV := Lib.hid h4
                          have YV := Lib.hid h5
                          have f0 := h1.f.cell v (by rw [h2]; exact hvn)
                          have zf := h1.f.free v
                          have J9 := Lib.hid (h1.putF v dd)
                          have X9 := Lib.hid (h4.setCell_ne (p := ⟨gf, v, none⟩) (h1.f.ne h4 (by decide)) (.int .i64 dd))
                          have Y9 := Lib.hid (h5.setCell_ne (p := ⟨gf, v, none⟩) (h1.f.ne h5 (by decide)) (.int .i64 dd))
                          clear h1 h2 h3 h4 h5
                          refine spineV_cons ?_
                          unfold StepV
                          go_simp
                          generalize V.setCell ⟨gf, v, none⟩ (.int .i64 dd) = V1 at J9 X9 Y9 ⊢
                          rw [SE.out] at J9
                          clear f0 zf
                          refine ⟨⟨⟨_, J9.out, by rw [List.length_set]; exact gln.out.1, List.set_set ..⟩, X9.out, Y9.out⟩, ?_⟩
                          refine spineV_nil ?_
                          have v0 := J9.out.v.cell v (by rw [gln.out.2]; exact hvn)
                          have zv := J9.out.v.free v
                          have x0 := Y9.out.cell 0 rfl
                          go_upto_region 25 with fail
                          have J10 := Lib.hid (J9.out.putV v k)
                          have X10 := Lib.hid (X9.out.setCell_ne (p := ⟨gb, v, none⟩) (J9.out.v.ne X9.out (by decide)) (.int .i64 k))
                          have Y10 := Lib.hid (Y9.out.setCell_ne (p := ⟨gb, v, none⟩) (J9.out.v.ne Y9.out (by decide)) (.int .i64 k))
                          generalize V1.setCell ⟨gb, v, none⟩ (.int .i64 k) = V2 at J10 X10 Y10 ⊢
                          clear v0 zv x0 J9 X9 Y9 XV YV JV
                          have x0 := Y10.out.cell 0 rfl
                          go_wp2_with fail
                          refine (put_c bh A1 H1.length c1 H1 v dd w.heap.size V2 rfl (by have := HB1.out; have := NR1.out.slen; have := O3.out; simp only [List.length_cons] at *; omega) J10.out.bel.size J10.out.h HH1.out).mono ?_
                          rintro e V3 ⟨rfl, A', c', H', hh, hpm, hhp, ht, hk⟩
                          have J11 := Lib.hid (J10.out.queue ht hh)
                          have X11 := Lib.hid (X10.out.touch ht (fun hs => by
                            rcases hs with hs | hs
                            · exact blk_type_ne X10.out J10.out.h.1 (by decide) hs.symm
                            · exact GAN.out hs))
                          have N11 := Lib.hid (RX.out.2.2.perm hpm)
                          have M11 := Lib.hid (MUR.out dd H' _ RX.out.2.1 hlt hpm)
                          have HH11 := Lib.hid hhp
                          have HL11 := Lib.hid hpm.length_eq
                          have GA11 : Hid (¬ OwnB A' ga) := Lib.hid (fun hs => by
                            rcases hk ga hs with h1 | h1
                            · exact GAN.out h1
                            · have := X10.out.lt; omega)
                          clear hh hpm hhp ht hk x0
                          go_wp2_with fail
                          go_roundg (gk - 1)
                          case measure => omega
                          case rel => exact ⟨j + 1, by go_num, by omega, Lib.hid ⟨_, _, A', c', H', J11.out, X11.out, GA11.out, N11.out, HH11.out, by have := HB1.out; have := HL11.out; simp only [List.length_cons] at this; omega, Nat.le_trans M11.out HM1.out, FU.out dd⟩⟩
                      · have d2 : decide (dd < fv) = false := decide_eq_false hlt
                        have SK := Lib.hid (SKIP.out (by have := HDD.out; omega))
                        go_wp2_with fail
                        go_roundg (gk - 1)
                        case measure => omega
                        case rel => exact ⟨j + 1, by go_num, by omega, Lib.hid ⟨fa1, vi1, A1, c1, H1, J8.out, X8.out, GAN.out, SK.out, HH1.out, by have := HB1.out; omega, HM1.out, HU1.out⟩⟩
                    · have d1 : decide (0 < ro) = false := decide_eq_false hr
                      have SK := Lib.hid (SKIP.out (by omega))
                      go_wp2_with fail
                      go_roundg (gk - 1)
                      case measure => omega
                      case rel => exact ⟨j + 1, by go_num, by omega, Lib.hid ⟨fa1, vi1, A1, c1, H1, J8.out, X8.out, GAN.out, SK.out, HH1.out, by have := HB1.out; omega, HM1.out, HU1.out⟩⟩
                  · obtain rfl : j = no := by omega
                    have NZ := NR1.out.excuse (ex' := fun _ => False) (fun k _ _ h => OE.out k h)
                    have NZ := Lib.hid NZ
                    go_wp2_with fail
                    go_roundg (mu fa1 H1)
                    case measure => have h1 := HM.out; have h2 := HM2.out; have h3 := HM1.out; omega
                    case rel => exact ⟨en2, rfl, Lib.hid ⟨fa1, vi1, _, c1, H1, u :: S, d, JR.out, NZ.out, HH1.out, by have := HB1.out; have := O3.out; simp only [List.length_cons]; omega, rfl⟩⟩
end Go.Proofs.Ytmebpglkeedaoaa
namespace Go.Proofs.Ytmebpglkeedaoaa
namespace Dp
def potOk (x : Int) : Bool := decide (-1073741824 ≤ x ∧ x ≤ 1073741824)
/-- minus the sum of p times the supply, over k nodes -/
def prS (N : Net) (ps : List Int) : Nat → Int
  | 0 => 0
  | k + 1 => prS N ps k - ps.getD k 0 * N.sup.getD k 0
/-- an arc's part -/
def prW (a : Arc) (ps : List Int) : Int := a.cap * min 0 (a.cost + ps.getD a.fr.toNat 0 - ps.getD a.to.toNat 0)
def prA (N : Net) (ps : List Int) : Nat → Int
  | 0 => prS N ps N.sup.length
  | k + 1 => prA N ps k + prW (N.arcs.getD k default) ps
def prE (N : Net) (ps : List Int) : Int := if chE N = 0 then (if ps.length = N.sup.length then (if ps.all potOk = true then 0 else 3) else 20) else chE N
def prV (N : Net) (ps : List Int) : Int := if prE N ps = 0 then prA N ps N.arcs.length else 0
theorem pr_ch {N : Net} {ps : List Int} (h : chE N ≠ 0) : prE N ps = chE N ∧ prV N ps = 0 := by simp [prE, prV, h]
theorem pr_len {N : Net} {ps : List Int} (h : chE N = 0) (hl : ps.length ≠ N.sup.length) : prE N ps = 20 ∧ prV N ps = 0 := by simp [prE, prV, h, hl]
theorem pr_no {N : Net} {ps : List Int} (h : chE N = 0) (hl : ps.length = N.sup.length) (k : Nat) (hk : k < ps.length) (hp : potOk (ps.getD k 0) = false) : prE N ps = 3 ∧ prV N ps = 0 := by
  have : ps.all potOk = false := by
    cases hb : ps.all potOk
    · rfl
    · have := (getD_all (α := Int)).1 hb k hk
      rw [show (default : Int) = 0 from rfl, hp] at this
      cases this
  simp [prE, prV, h, hl, this]
theorem pr_yes {N : Net} {ps : List Int} (h : chE N = 0) (hl : ps.length = N.sup.length) (hp : ∀ k, k < ps.length → potOk (ps.getD k 0) = true) : prE N ps = 0 ∧ prV N ps = prA N ps N.arcs.length := by
  have : ps.all potOk = true := (getD_all (α := Int)).2 hp
  simp [prE, prV, h, hl, this]
theorem potOk_iff {x : Int} : potOk x = true ↔ -1073741824 ≤ x ∧ x ≤ 1073741824 := by simp [potOk]
theorem net_abs {N : Net} (h : chE N = 0) : sum (N.sup.map abs) ≤ 268435456 := by
  have h2 := (chE_zero h).2
  simp only [okB, Bool.and_eq_true, decide_eq_true_eq] at h2
  exact h2.2.2.2
theorem sum_take_le : ∀ (l : List Int) (k : Nat), (∀ x, x ∈ l → 0 ≤ x) → sum (l.take k) ≤ sum l
  | [], k, _ => by simp [sum]
  | x :: l, 0, h => by have := sum_nonneg (x :: l) h; simpa [sum] using this
  | x :: l, k + 1, h => by
    have := sum_take_le l k (fun y hy => h y (by simp [hy]))
    simp only [List.take_succ_cons, sum]
    omega
theorem mul_abs {p s P : Int} (hp : -P ≤ p ∧ p ≤ P) : -(P * abs s) ≤ p * s ∧ p * s ≤ P * abs s := by
  unfold abs
  rcases Int.le_total 0 s with h | h
  · rw [Int.max_eq_left (by omega)]
    have h1 := Int.mul_le_mul_of_nonneg_right hp.1 h
    have h2 := Int.mul_le_mul_of_nonneg_right hp.2 h
    rw [Int.neg_mul] at h1
    exact ⟨h1, h2⟩
  · rw [Int.max_eq_right (by omega)]
    have h0 : 0 ≤ -s := by omega
    have h1 := Int.mul_le_mul_of_nonneg_right hp.1 h0
    have h2 := Int.mul_le_mul_of_nonneg_right hp.2 h0
    rw [Int.mul_neg, Int.mul_neg] at h2
    rw [Int.neg_mul, Int.mul_neg, Int.mul_neg] at h1
    rw [Int.mul_neg]
    omega
theorem prS_bd {N : Net} {ps : List Int} : ∀ k : Nat, k ≤ N.sup.length → (∀ j, j < k → potOk (ps.getD j 0) = true) →
    -(1073741824 * sum ((N.sup.map abs).take k)) ≤ prS N ps k ∧ prS N ps k ≤ 1073741824 * sum ((N.sup.map abs).take k)
  | 0, _, _ => by simp [prS, sum]
  | k + 1, hk, hp => by
    have ih := prS_bd (N := N) (ps := ps) k (by omega) (fun j hj => hp j (by omega))
    have h1 := sum_take (N.sup.map abs) k (by rw [List.length_map]; omega)
    rw [getD_map abs N.sup k (by omega)] at h1
    have h2 := mul_abs (s := N.sup.getD k 0) (potOk_iff.1 (hp k (by omega)))
    simp only [prS]
    rw [h1, Int.mul_add]
    omega
theorem prS_bd2 {N : Net} {ps : List Int} (h : chE N = 0) (k : Nat) (hk : k ≤ N.sup.length) (hp : ∀ j, j < k → potOk (ps.getD j 0) = true) :
    -288230376151711744 ≤ prS N ps k ∧ prS N ps k ≤ 288230376151711744 := by
  have h1 := prS_bd (N := N) (ps := ps) k hk hp
  have h2 := sum_take_le (N.sup.map abs) k (fun x hx => by
    obtain ⟨y, _, rfl⟩ := List.mem_map.1 hx
    unfold abs; omega)
  have h3 := net_abs h
  omega
theorem prW_bd {a : Arc} {ps : List Int} (hc : 0 ≤ a.cap ∧ a.cap ≤ 1048576) (ho : -1048576 ≤ a.cost ∧ a.cost ≤ 1048576) (h1 : potOk (ps.getD a.fr.toNat 0) = true) (h2 : potOk (ps.getD a.to.toNat 0) = true) :
    -2252899325313024 ≤ prW a ps ∧ prW a ps ≤ 0 := by
  have h1 := potOk_iff.1 h1
  have h2 := potOk_iff.1 h2
  unfold prW
  generalize hm : min 0 (a.cost + ps.getD a.fr.toNat 0 - ps.getD a.to.toNat 0) = z
  have hz : -2148532224 ≤ z ∧ z ≤ 0 := by omega
  have q1 := Int.mul_le_mul_of_nonneg_left hz.1 hc.1
  have q2 := Int.mul_le_mul_of_nonneg_left hz.2 hc.1
  omega
theorem prA_bd {N : Net} {ps : List Int} (h : chE N = 0) (hl : ps.length = N.sup.length) (hp : ∀ j, j < ps.length → potOk (ps.getD j 0) = true) : ∀ k : Nat, k ≤ N.arcs.length →
    -(288230376151711744 + 2252899325313024 * k : Int) ≤ prA N ps k ∧ prA N ps k ≤ 288230376151711744
  | 0, _ => by
    have := prS_bd2 h N.sup.length (Nat.le_refl _) (fun j hj => hp j (by omega))
    simp only [prA]
    omega
  | k + 1, hk => by
    have ih := prA_bd h hl hp k (by omega)
    obtain ⟨a1, a2, a3, a4, a5⟩ := net_arc h k (by omega)
    have := prW_bd (ps := ps) a4 a5 (hp _ (by omega)) (hp _ (by omega))
    simp only [prA]
    rw [Int.natCast_add]
    omega
end Dp
end Go.Proofs.Ytmebpglkeedaoaa
