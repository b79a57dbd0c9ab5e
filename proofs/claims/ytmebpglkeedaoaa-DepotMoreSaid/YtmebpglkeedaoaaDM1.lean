/- Contracts that the claim leans on, part 1: B0 K1 K2 K3 M1 N1 C1 C2 C3 M2 C4 C5 M5 M6 N2 R15 D1 -/
import Derived.Test.YtmebpglkeedaoaaRows
import Derived.WalkKit
import Derived.WalkSpells
import Derived.WalkLawsBesides
import Derived.IntWalk
import Derived.Lib.Hide
import Derived.Deep.Quiet
import Derived.Deep.QuietTactic
import Derived.BigQuiet
import Derived.LoopN
import Derived.StillTail
import Derived.StillTailTactics
import Derived.Orders
import Derived.Laws.AppendOwn
import Derived.Deep.Draws
import Derived.Deep.AppendLies
import Derived.Deep.AppendSrc
import Derived.Laws.CopyOwn
import Derived.Deep.Cut
import Derived.Deep.RegionWith
import Derived.OwnWalk
import Derived.LoopTactic
import Derived.ProofKit
import Derived.OpenShut
import Derived.Below
import Derived.ChangeSame
import Derived.WideKeyArgs
import Derived.Deep.Slices
import Derived.Lib.SliceRun
import Derived.WalkSmall
set_option linter.unusedVariables false
set_option linter.unusedSimpArgs false
set_option linter.unnecessarySimpa false
namespace Go.Proofs.Ytmebpglkeedaoaa
open Go.RowKit
theorem ret_int {k : IntKind} {a b : Int} (h : a = b) : Ending.returned (.int k a) = .returned (.int k b) := by rw [h]
theorem ret_bool {a b : Bool} (h : a = b) : Ending.returned (.bool a) = .returned (.bool b) := by rw [h]
theorem block_add (a : Addr) (n : Nat) : (a.add n).block = a.block := by unfold Addr.add; split <;> rfl
theorem gmin_eq (a b : Int) : (if b < a then b else a) = min a b := by split <;> omega
theorem gmax_eq (a b : Int) : (if a < b then b else a) = max a b := by split <;> omega
theorem wp_codeP {P : Program} {c c' : Code} {Q : Exit → Act → World → Prop} {a : Act} {W : World} (h : c = c') (hw : Code.wp P c' Q a W) : Code.wp P c Q a W := h ▸ hw
theorem gen_world {P : Program} {c : Code} {Q : Exit → Act → World → Prop} {a : Act} {W : World} (J : World → Prop) (hJ : J W) (h : ∀ W', J W' → Code.wp P c Q a W') : Code.wp P c Q a W := h W hJ
def blockOf (n : Nat) : Code → Option Code
  | .block k c => if k = n then some c else blockOf n c
  | .loop c => blockOf n c
  | .seq a b => match blockOf n a with
    | some c => some c
    | none => blockOf n b
  | .scope c => blockOf n c
  | .cond _ a b => match blockOf n a with
    | some c => some c
    | none => blockOf n b
  | _ => none
def endsIn (n : Nat) : Code → Bool
  | .block k _ => k == n
  | .seq _ b => endsIn n b
  | .scope c => endsIn n c
  | _ => false
def behind (n : Nat) : Code → Option Code
  | .block _ c => behind n c
  | .loop c => behind n c
  | .seq a b => match behind n a with
    | some c => some c
    | none => if endsIn n a then some b else behind n b
  | .scope c => behind n c
  | .cond _ a b => match behind n a with
    | some c => some c
    | none => behind n b
  | _ => none
end Go.Proofs.Ytmebpglkeedaoaa
namespace Go.Proofs.Ytmebpglkeedaoaa
open Go Go.RowKit
structure Past (W : World) where
  w : World
  far : Below W.heap.size W w
instance (W : World) : Nonempty (Past W) := ⟨⟨W, Below.refl _ _⟩⟩
section
variable {W : World}
@[simp, go_sem] theorem Past.cell (x : Past W) (b o : Nat) (h : b < W.heap.size) : x.w.cell? ⟨b, o, none⟩ = W.cell? ⟨b, o, none⟩ := x.far.cell (p := ⟨b, o, none⟩) h
@[simp, go_sem] theorem Past.frozen (x : Past W) (b o : Nat) (h : b < W.heap.size) : x.w.frozen? ⟨b, o, none⟩ = W.frozen? ⟨b, o, none⟩ := x.far.frozen (p := ⟨b, o, none⟩) h
theorem past_drew (W : World) : ∃ x : Past W, W.drew = x.w := ⟨⟨W.drew, (Below.refl _ _).drew⟩, rfl⟩
theorem past_on {x : Past W} {w' : World} (h : Below x.w.heap.size x.w w') : ∃ y : Past W, w' = y.w := ⟨⟨w', x.far.trans (h.mono x.far.size)⟩, rfl⟩
theorem past_same {P : Program} {f : FuncId} {args : Array Value} {x : Past W} {v : Value} (h : Calls P f args x.w fun e w' => e = .returned v ∧ x.w = w') : Calls P f args x.w fun e w'' => e = .returned v ∧ ∃ y : Past W, w'' = y.w :=
  h.mono fun _ _ ⟨he, hm⟩ => ⟨he, x, hm.symm⟩
theorem past_below {P : Program} {f : FuncId} {args : Array Value} {x : Past W} {v : Value} (h : Calls P f args x.w fun e w' => e = .returned v ∧ Below x.w.heap.size x.w w') : Calls P f args x.w fun e w'' => e = .returned v ∧ ∃ y : Past W, w'' = y.w :=
  h.mono fun _ _ ⟨he, hm⟩ => ⟨he, past_on hm⟩
theorem wpQuiet_mono {P : Program} {ops : Array Oper} {C : World → Prop} {Q Q' : Act → Prop} (hq : ∀ a, Q a → Q' a) : ∀ (l : List Oper) (a : Act), wpQuiet P ops C Q l a → wpQuiet P ops C Q' l a
  | [], a, h => hq a h
  | o :: rest, a, h => by
    unfold wpQuiet at h ⊢
    split
    · rename_i hw
      rw [if_pos hw] at h
      exact Oper.quiet_mono (fun a' => wpQuiet_mono hq rest a') h
    · rename_i hw
      rw [if_neg hw] at h
      exact wpQuiet_mono hq rest _ h
theorem wp_region_past {P : Program} {id : Nat} {Q : Exit → Act → World → Prop} {a : Act} {W : World} {l : List Oper} (hm : P.follows .mixedOrders = true) (hB : Region.lexB .any l.toArray = true)
    (h : wpQuiet P l.toArray (fun w' => ∃ x : Past W, w' = x.w) (fun a' => ∀ x : Past W, Q .normal a' x.w) l a) : (Code.region id l.toArray true).wp P Q a W :=
  wp_region_quiet (C := fun w' => ∃ x : Past W, w' = x.w) hm hB (past_drew W) (wpQuiet_mono (fun a' (h' : ∀ x : Past W, Q .normal a' x.w) w' ⟨x, hx⟩ => by rw [hx]; exact h' x) _ _ (by simpa using h))
end
end Go.Proofs.Ytmebpglkeedaoaa
namespace Go.Proofs.Ytmebpglkeedaoaa
open Go Go.RowKit
def slotOf (a : Act) (t : Tmp) : Value := a.tmps.getD t undef
theorem slot_put_same {a : Act} {d : Tmp} (v : Value) (h : d < a.tmps.size) : slotOf (a.put (some d) v) d = v := by
  simp [slotOf, Act.put, h]
theorem slot_put_ne {a : Act} {x : Option Tmp} {t : Tmp} (v : Value) (h : x ≠ some t) : slotOf (a.put x v) t = slotOf a t := by
  cases x with
  | none => rfl
  | some d =>
    have hne : d ≠ t := fun e => h (by rw [e])
    simp [slotOf, Act.put, Array.getElem?_setIfInBounds_ne hne]
theorem size_put (a : Act) (x : Option Tmp) (v : Value) : (a.put x v).tmps.size = a.tmps.size := by
  cases x <;> simp [Act.put]
theorem defers_put (a : Act) (x : Option Tmp) (v : Value) : (a.put x v).defers = a.defers := by
  cases x <;> rfl
theorem act_ext {a b : Act} (hs : a.tmps.size = b.tmps.size) (hd : a.defers = b.defers) (h : ∀ t, slotOf a t = slotOf b t) : a = b := by
  cases a with
  | mk ta da =>
    cases b with
    | mk tb db =>
      simp only at hs hd
      subst hd
      congr 1
      apply Array.ext hs
      intro i h1 h2
      have := h i
      simpa [slotOf, h1, h2] using this
def leftBy (af : Act) (o : Oper) : Value := match o.dst with | some d => slotOf af d | none => undef
def dstsOk (n : Nat) : List Oper → Bool
  | [] => true
  | o :: r => (match o.dst with | some d => decide (d < n) && r.all (fun o' => o'.dst != some d) | none => false) && dstsOk n r
section
variable {P : Program} {ops : Array Oper} {C : World → Prop} {af : Act}
def AllIn (P : Program) (ops : Array Oper) (C : World → Prop) (af : Act) : List Oper → Act → Prop
  | [], a => a = af
  | o :: r, a => YieldsIn P ops C o (leftBy af o) a ∧ AllIn P ops C af r (a.put o.dst (leftBy af o))
theorem AllIn.keep : ∀ {l : List Oper} {a : Act}, AllIn P ops C af l a → af.tmps.size = a.tmps.size ∧ af.defers = a.defers ∧ ∀ t, (∀ o ∈ l, o.dst ≠ some t) → slotOf af t = slotOf a t
  | [], a, h => by
    have : a = af := h
    subst this
    exact ⟨rfl, rfl, fun _ _ => rfl⟩
  | o :: r, a, h => by
    obtain ⟨h1, h2, h3⟩ := AllIn.keep h.2
    refine ⟨by rw [h1, size_put], by rw [h2, defers_put], fun t ht => ?_⟩
    rw [h3 t (fun o' ho' => ht o' (by simp [ho'])), slot_put_ne _ (ht o (by simp))]
theorem allIn_of : ∀ {l : List Oper} {a : Act}, dstsOk a.tmps.size l = true → wpQuiet P ops C (fun a' => a' = af) l a → AllIn P ops C af l a
  | [], a, _, h => h
  | o :: r, a, hd, h => by
    unfold wpQuiet at h
    have hv : ∃ v, YieldsIn P ops C o v a ∧ wpQuiet P ops C (fun a' => a' = af) r (a.put o.dst v) := by
      split at h
      · rename_i hw
        obtain ⟨v, h1, h2⟩ := h
        exact ⟨v, .inl ⟨hw, h1⟩, h2⟩
      · rename_i hw
        exact ⟨undef, .inr ⟨by simpa using hw, rfl⟩, h⟩
    obtain ⟨v, hy, hr⟩ := hv
    simp only [dstsOk, Bool.and_eq_true] at hd
    obtain ⟨hd1, hd2⟩ := hd
    split at hd1
    · rename_i d hod
      simp only [Bool.and_eq_true, decide_eq_true_eq, List.all_eq_true] at hd1
      have hA := allIn_of (l := r) (a := a.put o.dst v) (by rw [size_put]; exact hd2) hr
      have he : leftBy af o = v := by
        unfold leftBy
        rw [hod]
        have := hA.keep.2.2 d (fun o' ho' => by simpa using hd1.2 o' ho')
        simp only [this, hod]
        exact slot_put_same v hd1.1
      refine ⟨by rw [he]; exact hy, by rw [he]; exact hA⟩
    · cases hd1
def accum (af : Act) (l : List Oper) (a : Act) : Act := l.foldl (fun a o => a.put o.dst (leftBy af o)) a
theorem AllIn.get : ∀ {l : List Oper} {a : Act} {i : Nat} {o : Oper}, AllIn P ops C af l a → l[i]? = some o → YieldsIn P ops C o (leftBy af o) (accum af (l.take i) a)
  | [], _, _, _, _, hi => by simp at hi
  | o :: r, a, 0, o', h, hi => by
    have : o = o' := by simpa using hi
    subst this
    exact h.1
  | o :: r, a, i + 1, o', h, hi => by
    have := AllIn.get (i := i) h.2 (by simpa using hi)
    simpa [accum] using this
theorem accum_slot : ∀ (l : List Oper) (a : Act) (t : Tmp), dstsOk a.tmps.size l = true → slotOf (accum af l a) t = if l.any (fun o => o.dst == some t) = true then slotOf af t else slotOf a t
  | [], a, t, _ => by simp [accum]
  | o :: r, a, t, hd => by
    have hd' := hd
    simp only [dstsOk, Bool.and_eq_true] at hd
    have ih := accum_slot r (a.put o.dst (leftBy af o)) t (by rw [size_put]; exact hd.2)
    have e : accum af (o :: r) a = accum af r (a.put o.dst (leftBy af o)) := rfl
    rw [e, ih]
    by_cases hr : r.any (fun o => o.dst == some t) = true
    · simp [hr]
    · rw [if_neg hr]
      by_cases ho : o.dst = some t
      · have h1 := hd.1
        rw [ho] at h1
        simp only [Bool.and_eq_true, decide_eq_true_eq] at h1
        simp only [List.any_cons, ho, beq_self_eq_true, Bool.true_or, if_true]
        rw [slot_put_same _ h1.1]
        simp [leftBy, ho]
      · rw [slot_put_ne _ ho]
        have : (o.dst == some t) = false := by simpa using ho
        simp [List.any_cons, this, hr]
theorem dstsOk_take : ∀ (l : List Oper) (n i : Nat), dstsOk n l = true → dstsOk n (l.take i) = true
  | _, _, 0, _ => by simp [dstsOk]
  | [], _, _ + 1, _ => by simp [dstsOk]
  | o :: r, n, i + 1, h => by
    simp only [dstsOk, Bool.and_eq_true, List.take_succ_cons] at h ⊢
    refine ⟨?_, dstsOk_take r n i h.2⟩
    have h1 := h.1
    split at h1
    · simp only [Bool.and_eq_true, decide_eq_true_eq, List.all_eq_true] at h1 ⊢
      exact ⟨h1.1, fun o' ho' => h1.2 o' (List.mem_of_mem_take ho')⟩
    · cases h1
end
theorem wanted_congr {ops : Array Oper} {o : Oper} {a a' : Act} (h : ∀ t ∈ o.looksAt ops, slotOf a t = slotOf a' t) : Region.wanted o (yielded ops a.tmps) = Region.wanted o (yielded ops a'.tmps) := by
  unfold Region.wanted
  cases hg : o.guard with
  | none => rfl
  | some gw =>
    obtain ⟨g, b⟩ := gw
    simp only
    congr 1
    unfold yielded
    cases hd : (ops[g]?).bind (·.dst) with
    | none => simp
    | some d =>
      have := h d (by unfold Oper.looksAt; rw [hg]; simp [hd])
      simp only [slotOf, Array.getD_eq_getD_getElem?] at this
      have key : ∀ x : Option Value, (match x with | some (.bool b) => some b | _ => none) = (match x.getD undef with | .bool b => some b | _ => none) := by
        intro x
        cases x with
        | none => rfl
        | some v => cases v <;> rfl
      simp only [Option.bind_some]
      refine (key _).trans (Eq.trans ?_ (key _).symm)
      rw [this]
def unl (listed : Array Bool) : Nat := (listed.toList.filter (fun b => !b)).length
theorem unl_list : ∀ (l : List Bool) (i : Nat), l[i]? = some false → ((l.set i true).filter (fun b => !b)).length + 1 = (l.filter (fun b => !b)).length
  | [], i, h => by simp at h
  | b :: l, 0, h => by
    have : b = false := by simpa using h
    subst this
    simp
  | b :: l, i + 1, h => by
    have := unl_list l i (by simpa using h)
    cases b
    · simp only [List.set_cons_succ, List.filter_cons, Bool.not_false, if_true, List.length_cons]; omega
    · simpa using this
theorem unl_set {listed : Array Bool} {i : Nat} (hi : i < listed.size) (h : listed.getD i true = false) : unl (listed.setIfInBounds i true) + 1 = unl listed := by
  unfold unl
  have h' : listed.toList[i]? = some false := by
    have : listed[i] = false := by simpa [Array.getD, hi] using h
    simp [hi, this]
  have := unl_list listed.toList i h'
  simpa using this
theorem unl_rep (n : Nat) : unl (Array.replicate n false) = n := by simp [unl]
theorem unl_done {a b : Nat} : unl (Array.replicate a true ++ Array.replicate b false) = b := by simp [unl]
def waitsB1 (md : Region.Mode) (ops : Array Oper) (t i : Nat) : Bool :=
  match ops[t]? with
  | some o => o.after.any fun e => Region.binds md e && e.on == i
  | none => false
theorem waitsB1_spec {md : Region.Mode} {ops : Array Oper} {t i : Nat} {o : Oper} (ho : ops[t]? = some o) (h : waitsB1 md ops t i = true) : ∃ e ∈ o.after, Region.binds md e = true ∧ e.on = i := by
  unfold waitsB1 at h
  rw [ho] at h
  obtain ⟨e, he, hb⟩ := Array.any_eq_true'.1 h
  simp only [Bool.and_eq_true, beq_iff_eq] at hb
  exact ⟨e, he, hb.1, hb.2⟩
section
variable {P : Program} {Q : Exit → Act → World → Prop} {W : World} {a0 af : Act} {l : List Oper} {k : Nat} {ok : Oper} {O : Obj} {ds : Tmp}
theorem getD_tf {listed : Array Bool} {i : Nat} (h : i < listed.size) : listed.getD i true = listed.getD i false := by
  simp [h]
theorem dsts_lt : ∀ (l : List Oper) (n j : Nat) (o : Oper), dstsOk n l = true → l[j]? = some o → ∃ d, o.dst = some d ∧ d < n
  | [], _, _, _, _, h => by simp at h
  | o :: r, n, 0, o', hd, h => by
    have : o = o' := by simpa using h
    subst this
    simp only [dstsOk, Bool.and_eq_true] at hd
    have h1 := hd.1
    split at h1
    · rename_i d hod
      simp only [Bool.and_eq_true, decide_eq_true_eq] at h1
      exact ⟨d, hod, h1.1⟩
    · cases h1
  | o :: r, n, j + 1, o', hd, h => by
    simp only [dstsOk, Bool.and_eq_true] at hd
    exact dsts_lt r n j o' hd.2 (by simpa using h)
theorem dsts_ne : ∀ (l : List Oper) (n i j : Nat) (o o' : Oper) (d : Tmp), dstsOk n l = true → l[i]? = some o → l[j]? = some o' → i ≠ j → o.dst = some d → o'.dst ≠ some d
  | [], _, _, _, _, _, _, _, h, _, _, _ => by simp at h
  | o :: r, n, 0, 0, _, _, _, _, _, _, hne, _ => absurd rfl hne
  | o :: r, n, 0, j + 1, x, y, d, hd, hi, hj, _, hx => by
    have : o = x := by simpa using hi
    subst this
    simp only [dstsOk, Bool.and_eq_true] at hd
    have h1 := hd.1
    rw [hx] at h1
    simp only [Bool.and_eq_true, decide_eq_true_eq, List.all_eq_true] at h1
    have := h1.2 y (List.mem_of_getElem? (show r[j]? = some y by simpa using hj))
    simpa using this
  | o :: r, n, i + 1, 0, x, y, d, hd, hi, hj, _, hx => by
    have : o = y := by simpa using hj
    subst this
    simp only [dstsOk, Bool.and_eq_true] at hd
    intro hy
    have h1 := hd.1
    rw [hy] at h1
    simp only [Bool.and_eq_true, decide_eq_true_eq, List.all_eq_true] at h1
    have := h1.2 x (List.mem_of_getElem? (show r[i]? = some x by simpa using hi))
    simp [hx] at this
  | o :: r, n, i + 1, j + 1, x, y, d, hd, hi, hj, hne, hx => by
    simp only [dstsOk, Bool.and_eq_true] at hd
    exact dsts_ne r n i j x y d hd.2 (by simpa using hi) (by simpa using hj) (by omega) hx
theorem first_no (listed : Array Bool) : ∀ (k : Nat), ¬ (∀ i, i ≤ k → listed.getD i false = true) → ∃ i, i ≤ k ∧ (∀ j, j < i → listed.getD j false = true) ∧ listed.getD i false = false
  | 0, h => ⟨0, Nat.le_refl _, fun j hj => absurd hj (Nat.not_lt_zero _), by
      cases hc : listed.getD 0 false
      · rfl
      · exact absurd (fun i hi => by obtain rfl : i = 0 := by omega
                                     exact hc) h⟩
  | k + 1, h => by
    by_cases hk : ∀ i, i ≤ k → listed.getD i false = true
    · refine ⟨k + 1, Nat.le_refl _, fun j hj => hk j (by omega), ?_⟩
      cases hc : listed.getD (k + 1) false
      · rfl
      · refine absurd (fun i hi => ?_) h
        by_cases hik : i = k + 1
        · rw [hik]; exact hc
        · exact hk i (by omega)
    · obtain ⟨i, h1, h2, h3⟩ := first_no listed k hk
      exact ⟨i, by omega, h2, h3⟩
end
end Go.Proofs.Ytmebpglkeedaoaa
namespace Go.Proofs.Ytmebpglkeedaoaa
open Go Go.RowKit
def headB (ops : Array Oper) (k n : Nat) : Bool :=
  Region.noSelect ops && decide (k < ops.size) && dstsOk n (ops.toList.take k) &&
  (List.range ops.size).all (fun i => match ops[i]? with | some o => o.after.all (fun e => !Region.binds .any e || decide (e.on < i)) | none => false) &&
  (List.range ops.size).all (fun t => decide (t < k) || (List.range k).all (fun i => waitsB1 .any ops t i)) &&
  (List.range k).all (fun i => (List.range k).all fun j => match ops[i]?, ops[j]? with
    | some oi, some oj => (match oj.dst with | some d => !(oi.looksAt ops).contains d || (decide (j < i) && waitsB1 .any ops i j) | none => false)
    | _, _ => false) &&
  Region.seqB .any ops (ops.size - k) k (Array.replicate k true ++ Array.replicate (ops.size - k) false)
structure Mid0 (P : Program) (ops : Array Oper) (k : Nat) (a0 af : Act) (W : World) (listed : Array Bool) (a : Act) (w : World) : Prop where
  size : listed.size = ops.size
  closed : ∀ j oj, ops[j]? = some oj → listed.getD j false = true → ∀ e ∈ oj.after, Region.binds .any e = true → listed.getD e.on false = true
  tail : ∀ t, k ≤ t → t < ops.size → listed.getD t true = false
  ahd : Below W.heap.size W w
  defers : a.defers = a0.defers
  tsize : a.tmps.size = a0.tmps.size
  put : ∀ j o t, j < k → ops[j]? = some o → o.dst = some t → listed.getD j false = true → slotOf a t = slotOf af t
  same : ∀ t, (∀ j o, j < k → ops[j]? = some o → listed.getD j false = true → o.dst ≠ some t) → slotOf a t = slotOf a0 t
section
variable {P : Program} {Q : Exit → Act → World → Prop} {W : World} {a0 af : Act} {l : List Oper} {k : Nat}
theorem first_no' (listed : Array Bool) (k : Nat) (h : ¬ (∀ i, i < k → listed.getD i false = true)) : ∃ i, i < k ∧ (∀ j, j < i → listed.getD j false = true) ∧ listed.getD i false = false := by
  cases k with
  | zero => exact absurd (fun i hi => absurd hi (Nat.not_lt_zero _)) h
  | succ k =>
    obtain ⟨i, h1, h2, h3⟩ := first_no listed k (fun hk => h (fun i hi => hk i (by omega)))
    exact ⟨i, by omega, h2, h3⟩
theorem wp_region_head {id : Nat} (k : Nat) (af : Act) (hm : P.follows .mixedOrders = true)
    (hB : headB l.toArray k a0.tmps.size = true)
    (hwalk : ∀ V : World, Below W.heap.size W V → wpQuiet P l.toArray (fun w' => ∃ x : Past V, w' = x.w) (fun a' => a' = af) (l.take k) a0)
    (htail : ∀ (w' : World), Below W.heap.size W w' → wpList P l.toArray Q (l.drop k) af w') :
    (Code.region id l.toArray true).wp P Q a0 W := by
  unfold headB at hB
  simp only [Bool.and_eq_true, decide_eq_true_eq, List.all_eq_true, List.mem_range, Bool.or_eq_true] at hB
  obtain ⟨⟨⟨⟨⟨⟨hsel, hks⟩, hdst⟩, hback⟩, htl⟩, hdep⟩, hseq⟩ := hB
  have hsz : l.toArray.size = l.length := by simp
  have hkl : k < l.length := by rw [← hsz]; exact hks
  have hdk : dstsOk a0.tmps.size (l.take k) = true := hdst
  have hall : ∀ V : World, Below W.heap.size W V → AllIn P l.toArray (fun w' => ∃ x : Past V, w' = x.w) af (l.take k) a0 := fun V hV => allIn_of hdk (hwalk V hV)
  have hA0 := hall W (Below.refl _ _)
  have hget : ∀ i, i < k → (l.take k)[i]? = l[i]? := fun i hi => by rw [List.getElem?_take]; simp [hi]
  have hafs : ∀ t, (∀ j o, j < k → l[j]? = some o → o.dst ≠ some t) → slotOf af t = slotOf a0 t := fun t ht => hA0.keep.2.2 t (fun o ho => by
    obtain ⟨j, hj⟩ := List.getElem?_of_mem ho
    rw [List.getElem?_take] at hj
    split at hj
    · exact ht j o (by assumption) hj
    · cases hj)
  have hback' : ∀ i o, l[i]? = some o → ∀ e ∈ o.after, Region.binds .any e = true → e.on < i := by
    intro i o hi e he hb
    have hil : i < l.length := (List.getElem?_eq_some_iff.1 hi).1
    have h1 := hback i (by rw [hsz]; exact hil)
    have hi' : l.toArray[i]? = some o := by simpa using hi
    rw [hi'] at h1
    have h2 := Array.all_eq_true_iff_forall_mem.1 h1 e he
    simpa [hb] using h2
  have hdep' : ∀ i o j oj d, i < k → l[i]? = some o → j < k → l[j]? = some oj → oj.dst = some d → d ∈ o.looksAt l.toArray → j < i ∧ waitsB1 .any l.toArray i j = true := by
    intro i o j oj d hi ho hj hoj hd hmem
    have h1 := hdep i hi j (by omega)
    have ho' : l.toArray[i]? = some o := by simpa using ho
    have hoj' : l.toArray[j]? = some oj := by simpa using hoj
    rw [ho', hoj'] at h1
    simp only [hd] at h1
    have hc : (o.looksAt l.toArray).contains d = true := by simpa using hmem
    rw [hc] at h1
    simpa using h1
  have dlt : ∀ i o, i < k → l[i]? = some o → ∃ d, o.dst = some d ∧ d < a0.tmps.size := fun i o hi ho => dsts_lt _ _ i o hdk (by rw [hget i (by omega)]; exact ho)
  have dne : ∀ i j o oj t, i < k → j < k → l[i]? = some o → l[j]? = some oj → i ≠ j → oj.dst = some t → o.dst ≠ some t := fun i j o oj t hi hj ho hoj hne hd => dsts_ne _ _ j i oj o t hdk (by rw [hget j (by omega)]; exact hoj) (by rw [hget i (by omega)]; exact ho) (Ne.symm hne) hd
  have fin : ∀ (listed : Array Bool) (a : Act) (w : World), Mid0 P l.toArray k a0 af W listed a w → (∀ i, i < k → listed.getD i false = true) → ∀ fuel, unl listed = fuel → wpAny P .any l.toArray Q fuel listed a w := by
    intro listed a w m hdone fuel hu
    have hLH : listed = Array.replicate k true ++ Array.replicate (l.toArray.size - k) false := by
      apply Array.ext
      · simp [m.size]; omega
      · intro i h1 h2
        rcases Nat.lt_or_ge i k with h' | h
        rotate_left 1
        · have := m.tail i h (by rw [← m.size]; exact h1)
          rw [Array.getElem_append_right (by simp; omega)]
          simpa [h1] using this
        · have := hdone i h'
          rw [Array.getElem_append_left (by simp; omega)]
          simpa [h1] using this
    have hae : a = af := by
      have hs0 := hA0.keep
      refine act_ext ?_ ?_ ?_
      · rw [m.tsize, hs0.1]
      · rw [m.defers, hs0.2.1]
      · intro t
        by_cases hex : ∃ j o, j < k ∧ l[j]? = some o ∧ o.dst = some t
        · obtain ⟨j, o, hj, ho, hd⟩ := hex
          exact m.put j o t hj (by simpa using ho) hd (hdone j hj)
        · rw [m.same t (fun j o hj ho _ hd => hex ⟨j, o, hj, by simpa using ho, hd⟩), hafs t (fun j o hj ho hd => hex ⟨j, o, hj, ho, hd⟩)]
    have hfu : fuel = (l.drop k).length := by
      rw [← hu, hLH, unl_done]
      simp
    rw [hfu, hae]
    refine wpAny_of_seq (l.drop k) k listed _ w (fun j => by simp [List.getElem?_drop]) ?_ (htail w m.ahd)
    rw [hLH]
    have : (l.drop k).length = l.toArray.size - k := by simp
    rw [this]
    exact hseq
  have main : ∀ (fuel : Nat) (listed : Array Bool) (a : Act) (w : World), Mid0 P l.toArray k a0 af W listed a w → unl listed = fuel → wpAny P .any l.toArray Q fuel listed a w := by
    intro fuel
    induction fuel with
    | zero =>
      intro listed a w m hu
      by_cases hdone : ∀ i, i < k → listed.getD i false = true
      · exact fin listed a w m hdone _ hu
      · obtain ⟨i, hi, _, hun⟩ := first_no' listed k hdone
        have := unl_set (listed := listed) (i := i) (by rw [m.size]; omega) (by rw [getD_tf (by rw [m.size]; omega)]; exact hun)
        omega
    | succ fuel ih =>
      intro listed a w m hu
      by_cases hdone : ∀ i, i < k → listed.getD i false = true
      · exact fin listed a w m hdone _ hu
      · obtain ⟨i0, hi0, hpre, hun0⟩ := first_no' listed k hdone
        refine ⟨fun h0 => ?_, fun i hi => ?_⟩
        · have hr : i0 ∈ Region.ready .any l.toArray listed := by
            rw [mem_ready]
            refine ⟨by rw [getD_tf (by rw [m.size]; omega)]; exact hun0, l[i0]'(by omega), by simp, fun e he hb => hpre _ ?_⟩
            exact hback' i0 _ (by simp) e he hb
          rw [h0] at hr
          cases hr
        · have hi' := hi
          obtain ⟨hun, o, ho, hw⟩ := mem_ready.1 hi
          have hil : i < l.length := by
            have := (Array.getElem?_eq_some_iff.1 ho).1
            simpa using this
          have hol : l[i]? = some o := by simpa using ho
          have hun' : unl (listed.setIfInBounds i true) = fuel := by
            have := unl_set (listed := listed) (i := i) (by rw [m.size]; omega) hun
            omega
          have hik : i < k := by
            rcases Nat.lt_or_ge i k with h | h
            rotate_left 1
            · have h1 := (htl i (by omega)).resolve_left (by omega) i0 (by omega)
              obtain ⟨e, he, hb, heo⟩ := waitsB1_spec ho h1
              have h2 := hw e he hb
              rw [heo, hun0] at h2
              cases h2
            · exact h
          have hclosed : ∀ j oj, l.toArray[j]? = some oj → (listed.setIfInBounds i true).getD j false = true → ∀ e ∈ oj.after, Region.binds .any e = true → (listed.setIfInBounds i true).getD e.on false = true := by
            intro j oj hj hl e he hb
            by_cases hji : i = j
            · subst hji
              rw [ho] at hj
              cases hj
              exact getD_set_true (hw e he hb)
            · rw [getD_set_ne false hji] at hl
              exact getD_set_true (m.closed j oj hj hl e he hb)
          have htail' : ∀ t, k ≤ t → t < l.toArray.size → (listed.setIfInBounds i true).getD t true = false := fun t ht ht' => by rw [getD_set_ne true (by omega)]; exact m.tail t ht ht'
          obtain ⟨d, hod, hdlt⟩ := dlt i o hik hol
          have hlook : ∀ t ∈ o.looksAt l.toArray, slotOf a t = slotOf (accum af ((l.take k).take i) a0) t := by
            intro t ht
            rw [accum_slot _ _ _ (dstsOk_take _ _ _ hdk)]
            by_cases hex : ∃ j oj, j < k ∧ l[j]? = some oj ∧ oj.dst = some t
            · obtain ⟨j, oj, hj, hoj, hdt⟩ := hex
              obtain ⟨hji, hwt⟩ := hdep' i o j oj t hik hol hj hoj hdt ht
              obtain ⟨e, he, hb, heo⟩ := waitsB1_spec ho hwt
              have hlj := hw e he hb
              rw [heo] at hlj
              rw [m.put j oj t (by omega) (by simpa using hoj) hdt hlj, if_pos]
              rw [List.any_eq_true]
              refine ⟨oj, ?_, by simp [hdt]⟩
              refine List.mem_of_getElem? (i := j) ?_
              rw [List.getElem?_take, List.getElem?_take]
              simp only [hji, show j < k by omega, if_true, hoj]
            · rw [m.same t (fun j oj hj hoj _ hdt => hex ⟨j, oj, by omega, by simpa using hoj, hdt⟩), if_neg]
              intro hany
              rw [List.any_eq_true] at hany
              obtain ⟨oj, hmem, hdt⟩ := hany
              obtain ⟨j, hj⟩ := List.getElem?_of_mem (List.mem_of_mem_take hmem)
              rw [List.getElem?_take] at hj
              split at hj
              · exact hex ⟨j, oj, by omega, hj, by simpa using hdt⟩
              · cases hj
          have hy := (hall w m.ahd).get (i := i) (o := o) (by rw [List.getElem?_take]; simp [hik, hol])
          have he : execOp a.eval o = execOp (accum af ((l.take k).take i) a0).eval o := execOp_congr o (fun cs b => Region.noSelect_spec hsel i o cs b ho) (fun x hx => by
            cases x with
            | tmp t => exact hlook t (List.mem_append_left _ (List.mem_filterMap.2 ⟨.tmp t, by simpa using hx, rfl⟩))
            | _ => rfl)
          have hy' := hy.of_same he (wanted_congr hlook)
          refine wpOp_of_qOp (C := fun w' => ∃ x : Past w, w' = x.w) ⟨⟨w, Below.refl _ _⟩, rfl⟩ (fun a' w' hx ha => ?_) (hy'.qOp ho (K := fun a' => a' = a.put o.dst (leftBy af o)) rfl)
          obtain ⟨x, rfl⟩ := hx
          subst ha
          refine ih _ _ _ ⟨by simp [m.size], hclosed, htail', m.ahd.trans (x.far.mono m.ahd.size), by rw [defers_put]; exact m.defers, by rw [size_put]; exact m.tsize, ?_, ?_⟩ hun'
          · intro j oj t hj hoj hdt hl
            by_cases hji : i = j
            · subst hji
              rw [ho] at hoj
              cases hoj
              have : leftBy af o = slotOf af t := by simp [leftBy, hdt]
              rw [hdt, this]
              rw [hod] at hdt
              cases hdt
              exact slot_put_same _ (by rw [m.tsize]; exact hdlt)
            · rw [getD_set_ne false hji] at hl
              rw [slot_put_ne _ (dne i j o oj t hik (by omega) hol (by simpa using hoj) hji hdt)]
              exact m.put j oj t hj hoj hdt hl
          · intro t hno
            have h1 : (listed.setIfInBounds i true).getD i false = true := by
              have : i < listed.size := by rw [m.size]; omega
              simp [this]
            rw [slot_put_ne _ (hno i o hik ho h1)]
            exact m.same t (fun j oj hj hoj hl => hno j oj hj hoj (getD_set_true hl))
  refine wp_region_any hm (main _ _ a0 _ ?_ (by rw [unl_rep]))
  refine ⟨by simp, ?_, ?_, (Below.refl _ _).drew, rfl, rfl, ?_, ?_⟩
  · intro j oj hj h
    rw [getD_replicate_false] at h
    cases h
  · intro t _ ht
    have : (Array.replicate l.toArray.size false).getD t true = false := by simp at ht; simp [ht]
    exact this
  · intro j o t _ _ _ h
    rw [getD_replicate_false] at h
    cases h
  · intro t _; rfl
end
end Go.Proofs.Ytmebpglkeedaoaa
namespace Go.Proofs.Ytmebpglkeedaoaa
open Go Go.RowKit
inductive Role where
  | q
  | p
  | c (j d : Nat)
def Role.isP : Role → Bool
  | .p => true
  | _ => false
def Role.eats : Role → Nat → Nat → Bool
  | .c j d, j', d' => (j == j') && (d == d')
  | _, _, _ => false
def depsB (ops : Array Oper) (t : Nat) (S : List Bool) : List Bool :=
  match ops[t]? with
  | some o => o.after.toList.foldl (fun S e => if Region.binds .any e = true then S.set e.on true else S) S
  | none => S
def coverB (ops : Array Oper) : Nat → List Bool → List Bool
  | 0, S => S
  | n + 1, S => coverB ops n (if S.getD n false = true then depsB ops n S else S)
theorem getD_set_list {S : List Bool} {i j : Nat} (h : (S.set i true).getD j false = true) : j = i ∨ S.getD j false = true := by
  by_cases hij : j = i
  · exact .inl hij
  · right
    rwa [List.getD_eq_getElem?_getD, List.getElem?_set_ne (fun e => hij e.symm), ← List.getD_eq_getElem?_getD] at h
theorem deps_listed {listed : Array Bool} (l : List Edge) (S : List Bool) (he : ∀ e ∈ l, Region.binds .any e = true → listed.getD e.on false = true) (hS : ∀ i, S.getD i false = true → listed.getD i false = true) (i : Nat)
    (h : (l.foldl (fun S e => if Region.binds .any e = true then S.set e.on true else S) S).getD i false = true) : listed.getD i false = true := by
  induction l generalizing S with
  | nil => exact hS i h
  | cons e l ih =>
    rw [List.foldl_cons] at h
    refine ih _ (fun e' he' => he e' (by simp [he'])) (fun j hj => ?_) h
    split at hj
    · rename_i hb
      rcases getD_set_list hj with rfl | h'
      · exact he e (by simp) hb
      · exact hS j h'
    · exact hS j hj
theorem cover_listed {ops : Array Oper} {listed : Array Bool} (hc : ∀ j oj, ops[j]? = some oj → listed.getD j false = true → ∀ e ∈ oj.after, Region.binds .any e = true → listed.getD e.on false = true) :
    ∀ (n : Nat) (S : List Bool), (∀ i, S.getD i false = true → listed.getD i false = true) → ∀ i, (coverB ops n S).getD i false = true → listed.getD i false = true
  | 0, S, hS, i, h => hS i h
  | n + 1, S, hS, i, h => by
    unfold coverB at h
    refine cover_listed hc n _ (fun j hj => ?_) i h
    split at hj
    · rename_i hn
      unfold depsB at hj
      split at hj
      · rename_i o ho
        exact deps_listed _ S (fun e he hb => hc n o ho (hS n hn) e (by simpa using he) hb) hS j hj
      · exact hS j hj
    · exact hS j hj
theorem deps_length (ops : Array Oper) (t : Nat) (S : List Bool) : (depsB ops t S).length = S.length := by
  unfold depsB
  split
  · rename_i o _
    generalize o.after.toList = l
    induction l generalizing S with
    | nil => rfl
    | cons e l ih =>
      rw [List.foldl_cons, ih]
      split
      · simp
      · rfl
  · rfl
theorem cover_length {ops : Array Oper} : ∀ (n : Nat) (S : List Bool), (coverB ops n S).length = S.length
  | 0, S => rfl
  | n + 1, S => by
    unfold coverB
    rw [cover_length n]
    split
    · exact deps_length ops n S
    · rfl
def headLB (ops : Array Oper) (k n : Nat) : Bool :=
  Region.noSelect ops && decide (k ≤ ops.size) && dstsOk n (ops.toList.take k) &&
  (List.range ops.size).all (fun i => match ops[i]? with | some o => o.after.all (fun e => !Region.binds .any e || decide (e.on < i)) | none => false) &&
  (List.range ops.size).all (fun t => decide (t < k) || ((coverB ops ops.size (depsB ops t (List.replicate ops.size false))).take k).all (fun b => b)) &&
  (List.range k).all (fun i => (List.range k).all fun j => match ops[i]?, ops[j]? with
    | some oi, some oj => (match oj.dst with | some d => !(oi.looksAt ops).contains d || (decide (j < i) && waitsB1 .any ops i j) | none => false)
    | _, _ => false) &&
  Region.seqB .any ops (ops.size - k) k (Array.replicate k true ++ Array.replicate (ops.size - k) false)
def privB (ops : Array Oper) (k n : Nat) (rs : List Role) : Bool :=
  headLB ops k n && decide (rs.length = k) &&
  (List.range k).all (fun i => (List.range k).all fun j => match ops[i]?, ops[j]?, rs[i]?, rs[j]? with
    | some oi, some oj, some ri, some rj => !rj.isP || (match oj.dst with | some d => !(oi.looksAt ops).contains d || ri.eats j d | none => false)
    | _, _, _, _ => false) &&
  (List.range k).all (fun i => match ops[i]?, rs[i]? with
    | some oi, some (.c j d) => decide (j < k) && (match ops[j]?, rs[j]? with | some oj, some rj => rj.isP && (oj.dst == some d) | _, _ => false) && (oi.looksAt ops).contains d
    | _, _ => true)
def slotTo (a : Act) : Option Tmp → Value
  | some t => slotOf a t
  | none => undef
section
variable {P : Program} {ops : Array Oper} {af : Act} {cont : Nat → Obj × (Nat → Value)} {V : World}
def StepP (P : Program) (ops : Array Oper) (af : Act) (cont : Nat → Obj × (Nat → Value)) (V : World) (i : Nat) (r : Role) (o : Oper) (a : Act) : Prop :=
  match r with
  | .q => YieldsIn P ops (fun w' => ∃ x : Past V, w' = x.w) o (leftBy af o) a
  | .p => Region.wanted o (yielded ops a.tmps) = true ∧ ∀ w : World, (execOp a.eval o).run P w = .ok (.value ((cont i).2 w.heap.size)) (w.alloc (cont i).1)
  | .c j d => ∀ (V' : World) (g : Nat), Below V.heap.size V V' → V'.heap[g]? = some (cont j).1 → YieldsIn P ops (fun w' => ∃ x : Past V', w' = x.w) o (leftBy af o) (a.put (some d) ((cont j).2 g))
def AllInP (P : Program) (ops : Array Oper) (af : Act) (cont : Nat → Obj × (Nat → Value)) (V : World) : Nat → List Role → List Oper → Act → Prop
  | _, [], [], a => a = af
  | i, r :: rs, o :: l, a => StepP P ops af cont V i r o a ∧ AllInP P ops af cont V (i + 1) rs l (a.put o.dst (leftBy af o))
  | _, _, _, _ => False
def wpP (P : Program) (ops : Array Oper) (af : Act) (cont : Nat → Obj × (Nat → Value)) (V : World) : Nat → List Role → List Oper → Act → Prop
  | _, [], [], a => a = af
  | i, .q :: rs, o :: l, a => wpQuiet P ops (fun w' => ∃ x : Past V, w' = x.w) (fun a' => wpP P ops af cont V (i + 1) rs l a') [o] a
  | i, .p :: rs, o :: l, a => Region.wanted o (yielded ops a.tmps) = true ∧ (∀ w : World, (execOp a.eval o).run P w = .ok (.value ((cont i).2 w.heap.size)) (w.alloc (cont i).1)) ∧ wpP P ops af cont V (i + 1) rs l (a.put o.dst undef)
  | i, .c j d :: rs, o :: l, a => ∃ u, (∀ (V' : World) (g : Nat), Below V.heap.size V V' → V'.heap[g]? = some (cont j).1 → wpQuiet P ops (fun w' => ∃ x : Past V', w' = x.w) (fun a' => slotTo a' o.dst = u) [o] (a.put (some d) ((cont j).2 g))) ∧ wpP P ops af cont V (i + 1) rs l (a.put o.dst u)
  | _, _, _, _ => False
theorem wpP_nil {i : Nat} {a : Act} (h : a = af) : wpP P ops af cont V i [] [] a := h
theorem wpP_q {i : Nat} {rs : List Role} {o : Oper} {l : List Oper} {a : Act} (h : wpQuiet P ops (fun w' => ∃ x : Past V, w' = x.w) (fun a' => wpP P ops af cont V (i + 1) rs l a') [o] a) : wpP P ops af cont V i (.q :: rs) (o :: l) a := h
theorem wpP_p {i : Nat} {rs : List Role} {o : Oper} {l : List Oper} {a : Act} (hg : Region.wanted o (yielded ops a.tmps) = true) (h : ∀ w : World, (execOp a.eval o).run P w = .ok (.value ((cont i).2 w.heap.size)) (w.alloc (cont i).1)) (k : wpP P ops af cont V (i + 1) rs l (a.put o.dst undef)) : wpP P ops af cont V i (.p :: rs) (o :: l) a := ⟨hg, h, k⟩
theorem wpP_c {i j d : Nat} {rs : List Role} {o : Oper} {l : List Oper} {a : Act} (u : Value) (h : ∀ (V' : World) (g : Nat), Below V.heap.size V V' → V'.heap[g]? = some (cont j).1 → wpQuiet P ops (fun w' => ∃ x : Past V', w' = x.w) (fun a' => slotTo a' o.dst = u) [o] (a.put (some d) ((cont j).2 g))) (k : wpP P ops af cont V (i + 1) rs l (a.put o.dst u)) : wpP P ops af cont V i (.c j d :: rs) (o :: l) a := ⟨u, h, k⟩
theorem AllInP.keep : ∀ {i : Nat} {rs : List Role} {l : List Oper} {a : Act}, AllInP P ops af cont V i rs l a → af.tmps.size = a.tmps.size ∧ af.defers = a.defers ∧ (∀ t, (∀ o ∈ l, o.dst ≠ some t) → slotOf af t = slotOf a t)
  | _, [], [], a, h => by
    have : a = af := h
    subst this
    exact ⟨rfl, rfl, fun _ _ => rfl⟩
  | _, [], _ :: _, _, h => h.elim
  | _, _ :: _, [], _, h => h.elim
  | i, r :: rs, o :: l, a, h => by
    obtain ⟨h1, h2, h3⟩ := AllInP.keep h.2
    refine ⟨by rw [h1, size_put], by rw [h2, defers_put], fun t ht => ?_⟩
    rw [h3 t (fun o' ho' => ht o' (by simp [ho'])), slot_put_ne _ (ht o (by simp))]
theorem yields_of_quiet {C : World → Prop} {Q : Act → Prop} {o : Oper} {a : Act} (h : wpQuiet P ops C Q [o] a) : ∃ v, YieldsIn P ops C o v a ∧ Q (a.put o.dst v) := by
  unfold wpQuiet at h
  split at h
  · rename_i hw
    obtain ⟨v, h1, h2⟩ := h
    exact ⟨v, .inl ⟨hw, h1⟩, h2⟩
  · rename_i hw
    exact ⟨undef, .inr ⟨by simpa using hw, rfl⟩, h⟩
theorem allInP_of : ∀ {i : Nat} {rs : List Role} {l : List Oper} {a : Act}, dstsOk a.tmps.size l = true → wpP P ops af cont V i rs l a → AllInP P ops af cont V i rs l a
  | _, [], [], a, _, h => h
  | _, [], _ :: _, _, _, h => h.elim
  | _, .q :: _, [], _, _, h => h.elim
  | _, .p :: _, [], _, _, h => h.elim
  | _, .c _ _ :: _, [], _, _, h => h.elim
  | i, r :: rs, o :: l, a, hd, h => by
    have hd' := hd
    simp only [dstsOk, Bool.and_eq_true] at hd'
    obtain ⟨hd1, hd2⟩ := hd'
    split at hd1
    rotate_left 1
    · cases hd1
    · rename_i d hod
      simp only [Bool.and_eq_true, decide_eq_true_eq, List.all_eq_true] at hd1
      have key : ∀ v : Value, wpP P ops af cont V (i + 1) rs l (a.put o.dst v) → AllInP P ops af cont V (i + 1) rs l (a.put o.dst v) ∧ leftBy af o = v := by
        intro v hr
        have hA := allInP_of (i := i + 1) (rs := rs) (l := l) (a := a.put o.dst v) (by rw [size_put]; exact hd2) hr
        refine ⟨hA, ?_⟩
        unfold leftBy
        rw [hod]
        have := hA.keep.2.2 d (fun o' ho' => by simpa using hd1.2 o' ho')
        simp only [this, hod]
        exact slot_put_same v hd1.1
      cases r with
      | q =>
        obtain ⟨v, hy, hr⟩ := yields_of_quiet (show wpQuiet P ops _ _ [o] a from h)
        obtain ⟨hA, he⟩ := key v hr
        exact ⟨show YieldsIn P ops _ o (leftBy af o) a by rw [he]; exact hy, by rw [he]; exact hA⟩
      | p =>
        obtain ⟨hg, hrun, hr⟩ := (show _ ∧ _ ∧ _ from h)
        obtain ⟨hA, he⟩ := key undef hr
        exact ⟨⟨hg, hrun⟩, by rw [he]; exact hA⟩
      | c j dd =>
        obtain ⟨u, hu, hr⟩ := (show ∃ u, _ ∧ _ from h)
        obtain ⟨hA, he⟩ := key u hr
        refine ⟨fun V' g hb hg => ?_, by rw [he]; exact hA⟩
        obtain ⟨v, hy, hv⟩ := yields_of_quiet (hu V' g hb hg)
        have : v = u := by
          rw [← hv, hod]
          exact (slot_put_same v (by rw [size_put]; exact hd1.1)).symm
        rw [he, ← this]
        exact hy
theorem AllInP.get : ∀ {b : Nat} {rs : List Role} {l : List Oper} {a : Act} {i : Nat} {o : Oper} {r : Role}, AllInP P ops af cont V b rs l a → l[i]? = some o → rs[i]? = some r → StepP P ops af cont V (b + i) r o (accum af (l.take i) a)
  | _, [], [], _, _, _, _, _, hi, _ => by simp at hi
  | _, [], _ :: _, _, _, _, _, h, _, _ => h.elim
  | _, _ :: _, [], _, _, _, _, h, _, _ => h.elim
  | b, r :: rs, o :: l, a, 0, o', r', h, hi, hr => by
    have e1 : o = o' := by simpa using hi
    have e2 : r = r' := by simpa using hr
    subst e1; subst e2
    exact h.1
  | b, r :: rs, o :: l, a, i + 1, o', r', h, hi, hr => by
    have := AllInP.get (i := i) h.2 (by simpa using hi) (by simpa using hr)
    rw [show b + (i + 1) = b + 1 + i from by omega]
    simpa [accum] using this
def fillP (cont : Nat → Obj × (Nat → Value)) (gs : Nat → Nat) : Nat → List Role → List Oper → Act → Act
  | i, .p :: rs, o :: l, a => fillP cont gs (i + 1) rs l (a.put o.dst ((cont i).2 (gs i)))
  | i, .q :: rs, _ :: l, a => fillP cont gs (i + 1) rs l a
  | i, .c _ _ :: rs, _ :: l, a => fillP cont gs (i + 1) rs l a
  | _, [], _, a => a
  | _, _, [], a => a
theorem fillP_keep (gs : Nat → Nat) : ∀ (rs : List Role) (b : Nat) (l : List Oper) (a : Act), (fillP cont gs b rs l a).tmps.size = a.tmps.size ∧ (fillP cont gs b rs l a).defers = a.defers
  | [], _, _, _ => by unfold fillP; exact ⟨rfl, rfl⟩
  | .p :: rs, b, [], a => by unfold fillP; exact ⟨rfl, rfl⟩
  | .q :: rs, b, [], a => by unfold fillP; exact ⟨rfl, rfl⟩
  | .c _ _ :: rs, b, [], a => by unfold fillP; exact ⟨rfl, rfl⟩
  | .q :: rs, b, o :: l, a => by unfold fillP; exact fillP_keep gs rs (b + 1) l a
  | .c _ _ :: rs, b, o :: l, a => by unfold fillP; exact fillP_keep gs rs (b + 1) l a
  | .p :: rs, b, o :: l, a => by
    unfold fillP
    obtain ⟨h1, h2⟩ := fillP_keep gs rs (b + 1) l (a.put o.dst ((cont b).2 (gs b)))
    exact ⟨by rw [h1, size_put], by rw [h2, defers_put]⟩
theorem fillP_ne (gs : Nat → Nat) : ∀ (rs : List Role) (b : Nat) (l : List Oper) (a : Act) (t : Tmp), (∀ (i : Nat) (o : Oper), l[i]? = some o → rs[i]? = some Role.p → o.dst ≠ some t) → slotOf (fillP cont gs b rs l a) t = slotOf a t
  | [], _, _, _, _, _ => by unfold fillP; rfl
  | .p :: rs, b, [], a, _, _ => by unfold fillP; rfl
  | .q :: rs, b, [], a, _, _ => by unfold fillP; rfl
  | .c _ _ :: rs, b, [], a, _, _ => by unfold fillP; rfl
  | .q :: rs, b, o :: l, a, t, h => by
    unfold fillP
    exact fillP_ne gs rs (b + 1) l a t (fun i o ho hr => h (i + 1) o (by simpa using ho) (by simpa using hr))
  | .c _ _ :: rs, b, o :: l, a, t, h => by
    unfold fillP
    exact fillP_ne gs rs (b + 1) l a t (fun i o ho hr => h (i + 1) o (by simpa using ho) (by simpa using hr))
  | .p :: rs, b, o :: l, a, t, h => by
    unfold fillP
    rw [fillP_ne gs rs (b + 1) l _ t (fun i o ho hr => h (i + 1) o (by simpa using ho) (by simpa using hr))]
    exact slot_put_ne _ (h 0 o (by simp) (by simp))
theorem fillP_at (gs : Nat → Nat) : ∀ (rs : List Role) (b : Nat) (l : List Oper) (a : Act) (n i : Nat) (o : Oper) (t : Tmp), dstsOk n l = true → n = a.tmps.size → l[i]? = some o → rs[i]? = some Role.p → o.dst = some t → slotOf (fillP cont gs b rs l a) t = (cont (b + i)).2 (gs (b + i))
  | [], _, _, _, _, _, _, _, _, _, _, hr, _ => by simp at hr
  | _ :: rs, b, [], a, _, _, _, _, _, _, ho, _, _ => by simp at ho
  | .q :: rs, b, o :: l, a, n, 0, o', t, hd, hn, ho, hr, ht => by simp at hr
  | .c _ _ :: rs, b, o :: l, a, n, 0, o', t, hd, hn, ho, hr, ht => by simp at hr
  | .p :: rs, b, o :: l, a, n, 0, o', t, hd, hn, ho, hr, ht => by
    have e : o = o' := by simpa using ho
    subst e
    unfold fillP
    simp only [dstsOk, Bool.and_eq_true] at hd
    have h1 := hd.1
    rw [ht] at h1
    simp only [Bool.and_eq_true, decide_eq_true_eq, List.all_eq_true] at h1
    rw [fillP_ne gs rs (b + 1) l _ t (fun i o' ho' _ => by simpa using h1.2 o' (List.mem_of_getElem? ho')), ht]
    exact slot_put_same _ (by rw [← hn]; exact h1.1)
  | r :: rs, b, o :: l, a, n, i + 1, o', t, hd, hn, ho, hr, ht => by
    simp only [dstsOk, Bool.and_eq_true] at hd
    have key : ∀ a' : Act, a'.tmps.size = n → slotOf (fillP cont gs (b + 1) rs l a') t = (cont (b + (i + 1))).2 (gs (b + (i + 1))) := by
      intro a' ha'
      have := fillP_at gs rs (b + 1) l a' n i o' t hd.2 ha'.symm (by simpa using ho) (by simpa using hr) ht
      rw [this, show b + 1 + i = b + (i + 1) from by omega]
    cases r <;> unfold fillP
    · exact key _ hn.symm
    · exact key _ (by rw [size_put]; exact hn.symm)
    · exact key _ hn.symm
end
structure MidP (P : Program) (ops : Array Oper) (k : Nat) (rs : List Role) (cont : Nat → Obj × (Nat → Value)) (a0 af : Act) (W : World) (gs : Nat → Nat) (listed : Array Bool) (a : Act) (w : World) : Prop where
  size : listed.size = ops.size
  closed : ∀ j oj, ops[j]? = some oj → listed.getD j false = true → ∀ e ∈ oj.after, Region.binds .any e = true → listed.getD e.on false = true
  tail : ∀ t, k ≤ t → t < ops.size → listed.getD t true = false
  ahd : Below W.heap.size W w
  defers : a.defers = a0.defers
  tsize : a.tmps.size = a0.tmps.size
  put : ∀ j o t, j < k → ops[j]? = some o → o.dst = some t → listed.getD j false = true → rs[j]? ≠ some Role.p → slotOf a t = slotOf af t
  same : ∀ t, (∀ j o, j < k → ops[j]? = some o → listed.getD j false = true → o.dst ≠ some t) → slotOf a t = slotOf a0 t
  spec : ∀ j o t, j < k → ops[j]? = some o → o.dst = some t → listed.getD j false = true → rs[j]? = some Role.p → slotOf a t = (cont j).2 (gs j) ∧ W.heap.size ≤ gs j ∧ w.heap[gs j]? = some (cont j).1
  apart : ∀ j j', j < k → j' < k → j ≠ j' → listed.getD j false = true → listed.getD j' false = true → rs[j]? = some Role.p → rs[j']? = some Role.p → gs j ≠ gs j'
section
variable {P : Program} {Q : Exit → Act → World → Prop} {W : World} {a0 af : Act} {l : List Oper} {k : Nat} {rs : List Role} {cont : Nat → Obj × (Nat → Value)}
theorem wp_region_priv {id : Nat} (k : Nat) (rs : List Role) (cont : Nat → Obj × (Nat → Value)) (af : Act) (hm : P.follows .mixedOrders = true)
    (hB : privB l.toArray k a0.tmps.size rs = true)
    (hwalk : ∀ V : World, Below W.heap.size W V → wpP P l.toArray af cont V 0 rs (l.take k) a0)
    (htail : ∀ (gs : Nat → Nat) (w' : World), Below W.heap.size W w' → (∀ j : Nat, rs[j]? = some Role.p → W.heap.size ≤ gs j ∧ w'.heap[gs j]? = some (cont j).1) → (∀ j j' : Nat, rs[j]? = some Role.p → rs[j']? = some Role.p → j ≠ j' → gs j ≠ gs j') → wpList P l.toArray Q (l.drop k) (fillP cont gs 0 rs (l.take k) af) w') :
    (Code.region id l.toArray true).wp P Q a0 W := by
  unfold privB at hB
  simp only [Bool.and_eq_true, decide_eq_true_eq] at hB
  obtain ⟨⟨⟨hB, hrl⟩, hpc⟩, hcc⟩ := hB
  unfold headLB at hB
  simp only [Bool.and_eq_true, decide_eq_true_eq, List.all_eq_true, List.mem_range, Bool.or_eq_true] at hB hpc hcc
  obtain ⟨⟨⟨⟨⟨⟨hsel, hks⟩, hdst⟩, hback⟩, htl⟩, hdep⟩, hseq⟩ := hB
  have hsz : l.toArray.size = l.length := by simp
  have hkl : k ≤ l.length := by rw [← hsz]; exact hks
  have hdk : dstsOk a0.tmps.size (l.take k) = true := hdst
  have hall : ∀ V : World, Below W.heap.size W V → AllInP P l.toArray af cont V 0 rs (l.take k) a0 := fun V hV => allInP_of hdk (hwalk V hV)
  have hA0 := hall W (Below.refl _ _)
  have hget : ∀ i, i < k → (l.take k)[i]? = l[i]? := fun i hi => by rw [List.getElem?_take]; simp [hi]
  have hrole : ∀ i, i < k → ∃ r, rs[i]? = some r := fun i hi => ⟨rs[i]'(by omega), by simp [hrl, hi]⟩
  have hafs : ∀ t, (∀ j o, j < k → l[j]? = some o → o.dst ≠ some t) → slotOf af t = slotOf a0 t := fun t ht => hA0.keep.2.2 t (fun o ho => by
    obtain ⟨j, hj⟩ := List.getElem?_of_mem ho
    rw [List.getElem?_take] at hj
    split at hj
    · exact ht j o (by assumption) hj
    · cases hj)
  have hback' : ∀ i o, l[i]? = some o → ∀ e ∈ o.after, Region.binds .any e = true → e.on < i := by
    intro i o hi e he hb
    have hil : i < l.length := (List.getElem?_eq_some_iff.1 hi).1
    have h1 := hback i (by rw [hsz]; exact hil)
    have hi' : l.toArray[i]? = some o := by simpa using hi
    rw [hi'] at h1
    have h2 := Array.all_eq_true_iff_forall_mem.1 h1 e he
    simpa [hb] using h2
  have hdep' : ∀ i o j oj d, i < k → l[i]? = some o → j < k → l[j]? = some oj → oj.dst = some d → d ∈ o.looksAt l.toArray → j < i ∧ waitsB1 .any l.toArray i j = true := by
    intro i o j oj d hi ho hj hoj hd hmem
    have h1 := hdep i hi j (by omega)
    have ho' : l.toArray[i]? = some o := by simpa using ho
    have hoj' : l.toArray[j]? = some oj := by simpa using hoj
    rw [ho', hoj'] at h1
    simp only [hd] at h1
    have hc : (o.looksAt l.toArray).contains d = true := by simpa using hmem
    rw [hc] at h1
    simpa using h1
  have heat : ∀ i o j oj d r, i < k → l[i]? = some o → j < k → l[j]? = some oj → oj.dst = some d → d ∈ o.looksAt l.toArray → rs[j]? = some Role.p → rs[i]? = some r → r.eats j d = true := by
    intro i o j oj d r hi ho hj hoj hd hmem hrj hri
    have h1 := hpc i hi j hj
    have ho' : l.toArray[i]? = some o := by simpa using ho
    have hoj' : l.toArray[j]? = some oj := by simpa using hoj
    rw [ho', hoj', hri, hrj] at h1
    simp only [hd] at h1
    have hc : (o.looksAt l.toArray).contains d = true := by simpa using hmem
    rw [hc] at h1
    simpa [Role.isP] using h1
  have hfood : ∀ i o j d, i < k → l[i]? = some o → rs[i]? = some (.c j d) → j < k ∧ rs[j]? = some Role.p ∧ (∃ oj, l[j]? = some oj ∧ oj.dst = some d) ∧ d ∈ o.looksAt l.toArray := by
    intro i o j d hi ho hri
    have h1 := hcc i hi
    have ho' : l.toArray[i]? = some o := by simpa using ho
    rw [ho', hri] at h1
    simp only [Bool.and_eq_true, decide_eq_true_eq] at h1
    obtain ⟨⟨hjk, h2⟩, h3⟩ := h1
    obtain ⟨rj, hrj⟩ := hrole j hjk
    have hoj : l[j]? = some (l[j]'(by omega)) := by simp
    have hoj' : l.toArray[j]? = some (l[j]'(by omega)) := by simp
    rw [hoj', hrj] at h2
    simp only [Bool.and_eq_true, beq_iff_eq] at h2
    refine ⟨hjk, ?_, ⟨_, hoj, h2.2⟩, by simpa using h3⟩
    cases rj with
    | p => exact hrj
    | q => cases h2.1
    | c _ _ => cases h2.1
  have dlt : ∀ i o, i < k → l[i]? = some o → ∃ d, o.dst = some d ∧ d < a0.tmps.size := fun i o hi ho => dsts_lt _ _ i o hdk (by rw [hget i (by omega)]; exact ho)
  have dne : ∀ i j o oj t, i < k → j < k → l[i]? = some o → l[j]? = some oj → i ≠ j → oj.dst = some t → o.dst ≠ some t := fun i j o oj t hi hj ho hoj hne hd => dsts_ne _ _ j i oj o t hdk (by rw [hget j (by omega)]; exact hoj) (by rw [hget i (by omega)]; exact ho) (Ne.symm hne) hd
  have fin : ∀ (gs : Nat → Nat) (listed : Array Bool) (a : Act) (w : World), MidP P l.toArray k rs cont a0 af W gs listed a w → (∀ i, i < k → listed.getD i false = true) → ∀ fuel, unl listed = fuel → wpAny P .any l.toArray Q fuel listed a w := by
    intro gs listed a w m hdone fuel hu
    have hLH : listed = Array.replicate k true ++ Array.replicate (l.toArray.size - k) false := by
      apply Array.ext
      · simp [m.size]; omega
      · intro i h1 h2
        rcases Nat.lt_or_ge i k with h' | h
        rotate_left 1
        · have := m.tail i h (by rw [← m.size]; exact h1)
          rw [Array.getElem_append_right (by simp; omega)]
          simpa [h1] using this
        · have := hdone i h'
          rw [Array.getElem_append_left (by simp; omega)]
          simpa [h1] using this
    have hae : a = fillP cont gs 0 rs (l.take k) af := by
      have hs0 := hA0.keep
      have hf0 := fillP_keep (cont := cont) gs rs 0 (l.take k) af
      refine act_ext ?_ ?_ ?_
      · rw [m.tsize, hf0.1, hs0.1]
      · rw [m.defers, hf0.2, hs0.2.1]
      · intro t
        by_cases hex : ∃ j o, j < k ∧ l[j]? = some o ∧ o.dst = some t
        · obtain ⟨j, o, hj, ho, hd⟩ := hex
          by_cases hp : rs[j]? = some Role.p
          · rw [(m.spec j o t hj (by simpa using ho) hd (hdone j hj) hp).1]
            have := fillP_at (cont := cont) gs rs 0 (l.take k) af a0.tmps.size j o t hdk hs0.1.symm (by rw [hget j hj]; exact ho) hp hd
            rw [this, Nat.zero_add]
          · rw [m.put j o t hj (by simpa using ho) hd (hdone j hj) hp]
            rw [fillP_ne gs rs 0 (l.take k) af t (fun i o' ho' hr' => ?_)]
            have hik : i < k := by
              have := (List.getElem?_eq_some_iff.1 ho').1
              simp at this
              omega
            by_cases hij : i = j
            · subst hij; exact absurd hr' hp
            · exact dne i j o' o t hik hj (by rw [← hget i hik]; exact ho') ho hij hd
        · rw [m.same t (fun j o hj ho _ hd => hex ⟨j, o, hj, by simpa using ho, hd⟩)]
          rw [fillP_ne gs rs 0 (l.take k) af t (fun i o' ho' hr' hd => hex ⟨i, o', by have := (List.getElem?_eq_some_iff.1 ho').1; simp at this; omega, by rw [← hget i (by have := (List.getElem?_eq_some_iff.1 ho').1; simp at this; omega)]; exact ho', hd⟩)]
          exact (hafs t (fun j o hj ho hd => hex ⟨j, o, hj, ho, hd⟩)).symm
    have hfu : fuel = (l.drop k).length := by
      rw [← hu, hLH, unl_done]
      simp
    rw [hfu, hae]
    have hpk : ∀ j, rs[j]? = some Role.p → j < k := fun j hj => by
      have := (List.getElem?_eq_some_iff.1 hj).1
      omega
    refine wpAny_of_seq (l.drop k) k listed _ w (fun j => by simp [List.getElem?_drop]) ?_ (htail gs w m.ahd (fun j hj => ?_) (fun j j' hj hj' hne => m.apart j j' (hpk j hj) (hpk j' hj') hne (hdone j (hpk j hj)) (hdone j' (hpk j' hj')) hj hj'))
    · rw [hLH]
      have : (l.drop k).length = l.toArray.size - k := by simp
      rw [this]
      exact hseq
    · have hjk := hpk j hj
      have hoj : l[j]? = some (l[j]'(by omega)) := by simp
      obtain ⟨d, hd, _⟩ := dlt j _ hjk hoj
      exact (m.spec j _ d hjk (by simp) hd (hdone j hjk) hj).2
  have main : ∀ (fuel : Nat) (gs : Nat → Nat) (listed : Array Bool) (a : Act) (w : World), MidP P l.toArray k rs cont a0 af W gs listed a w → unl listed = fuel → wpAny P .any l.toArray Q fuel listed a w := by
    intro fuel
    induction fuel with
    | zero =>
      intro gs listed a w m hu
      by_cases hdone : ∀ i, i < k → listed.getD i false = true
      · exact fin gs listed a w m hdone _ hu
      · obtain ⟨i, hi, _, hun⟩ := first_no' listed k hdone
        have := unl_set (listed := listed) (i := i) (by rw [m.size]; omega) (by rw [getD_tf (by rw [m.size]; omega)]; exact hun)
        omega
    | succ fuel ih =>
      intro gs listed a w m hu
      by_cases hdone : ∀ i, i < k → listed.getD i false = true
      · exact fin gs listed a w m hdone _ hu
      · obtain ⟨i0, hi0, hpre, hun0⟩ := first_no' listed k hdone
        refine ⟨fun h0 => ?_, fun i hi => ?_⟩
        · have hr : i0 ∈ Region.ready .any l.toArray listed := by
            rw [mem_ready]
            refine ⟨by rw [getD_tf (by rw [m.size]; omega)]; exact hun0, l[i0]'(by omega), by simp, fun e he hb => hpre _ ?_⟩
            exact hback' i0 _ (by simp) e he hb
          rw [h0] at hr
          cases hr
        · have hi' := hi
          obtain ⟨hun, o, ho, hw⟩ := mem_ready.1 hi
          have hil : i < l.length := by
            have := (Array.getElem?_eq_some_iff.1 ho).1
            simpa using this
          have hol : l[i]? = some o := by simpa using ho
          have hun' : unl (listed.setIfInBounds i true) = fuel := by
            have := unl_set (listed := listed) (i := i) (by rw [m.size]; omega) hun
            omega
          have hik : i < k := by
            rcases Nat.lt_or_ge i k with h | h
            rotate_left 1
            · have h1 := (htl i (by omega)).resolve_left (by omega)
              have h2 : (coverB l.toArray l.toArray.size (depsB l.toArray i (List.replicate l.toArray.size false))).getD i0 false = true := by
                have hlen := cover_length (ops := l.toArray) l.toArray.size (depsB l.toArray i (List.replicate l.toArray.size false))
                rw [deps_length, List.length_replicate] at hlen
                have hm : (coverB l.toArray l.toArray.size (depsB l.toArray i (List.replicate l.toArray.size false)))[i0]'(by rw [hlen, hsz]; omega) ∈ (coverB l.toArray l.toArray.size (depsB l.toArray i (List.replicate l.toArray.size false))).take k :=
                  List.mem_take_iff_getElem.2 ⟨i0, by rw [hlen, hsz]; omega, rfl⟩
                have := h1 _ hm
                rw [List.getD_eq_getElem?_getD, List.getElem?_eq_getElem (by rw [hlen, hsz]; omega)]
                exact this
              have h3 := cover_listed (ops := l.toArray) m.closed l.toArray.size _ (fun j hj => ?_) i0 h2
              · rw [hun0] at h3
                cases h3
              · unfold depsB at hj
                rw [ho] at hj
                refine deps_listed _ _ (fun e he hb => hw e (by simpa using he) hb) (fun q hq => ?_) j hj
                rw [List.getD_eq_getElem?_getD, List.getElem?_replicate] at hq
                split at hq <;> cases hq
            · exact h
          have hclosed : ∀ j oj, l.toArray[j]? = some oj → (listed.setIfInBounds i true).getD j false = true → ∀ e ∈ oj.after, Region.binds .any e = true → (listed.setIfInBounds i true).getD e.on false = true := by
            intro j oj hj hl e he hb
            by_cases hji : i = j
            · subst hji
              rw [ho] at hj
              cases hj
              exact getD_set_true (hw e he hb)
            · rw [getD_set_ne false hji] at hl
              exact getD_set_true (m.closed j oj hj hl e he hb)
          have htail' : ∀ t, k ≤ t → t < l.toArray.size → (listed.setIfInBounds i true).getD t true = false := fun t ht ht' => by rw [getD_set_ne true (by omega)]; exact m.tail t ht ht'
          obtain ⟨d, hod, hdlt⟩ := dlt i o hik hol
          obtain ⟨r, hri⟩ := hrole i hik
          have hset : (listed.setIfInBounds i true).getD i false = true := by
            have : i < listed.size := by rw [m.size]; omega
            simp [this]
          have hunl : listed.getD i false = false := by rw [← getD_tf (by rw [m.size]; omega)]; exact hun
          -- the slots that the operation looks at, but for a block of its own kind
          have hlook : ∀ t ∈ o.looksAt l.toArray, (∀ j oj, j < k → l[j]? = some oj → oj.dst = some t → rs[j]? = some Role.p → False) → slotOf a t = slotOf (accum af ((l.take k).take i) a0) t := by
            intro t ht hnp
            rw [accum_slot _ _ _ (dstsOk_take _ _ _ hdk)]
            by_cases hex : ∃ j oj, j < k ∧ l[j]? = some oj ∧ oj.dst = some t
            · obtain ⟨j, oj, hj, hoj, hdt⟩ := hex
              obtain ⟨hji, hwt⟩ := hdep' i o j oj t hik hol hj hoj hdt ht
              obtain ⟨e, he, hb, heo⟩ := waitsB1_spec ho hwt
              have hlj := hw e he hb
              rw [heo] at hlj
              rw [m.put j oj t (by omega) (by simpa using hoj) hdt hlj (fun h => hnp j oj hj hoj hdt h), if_pos]
              rw [List.any_eq_true]
              refine ⟨oj, ?_, by simp [hdt]⟩
              refine List.mem_of_getElem? (i := j) ?_
              rw [List.getElem?_take, List.getElem?_take]
              simp only [hji, show j < k by omega, if_true, hoj]
            · rw [m.same t (fun j oj hj hoj _ hdt => hex ⟨j, oj, by omega, by simpa using hoj, hdt⟩), if_neg]
              intro hany
              rw [List.any_eq_true] at hany
              obtain ⟨oj, hmem, hdt⟩ := hany
              obtain ⟨j, hj⟩ := List.getElem?_of_mem (List.mem_of_mem_take hmem)
              rw [List.getElem?_take] at hj
              split at hj
              · exact hex ⟨j, oj, by omega, hj, by simpa using hdt⟩
              · cases hj
          have hstep := (hall w m.ahd).get (i := i) (o := o) (r := r) (by rw [hget i hik]; exact hol) hri
          rw [Nat.zero_add] at hstep
          -- what comes behind an operation that leaves a fixed value
          have after : rs[i]? ≠ some Role.p → ∀ x : Past w, wpAny P .any l.toArray Q fuel (listed.setIfInBounds i true) (a.put o.dst (leftBy af o)) x.w := by
            intro hnp x
            refine ih gs _ _ _ ⟨by simp [m.size], hclosed, htail', m.ahd.trans (x.far.mono m.ahd.size), by rw [defers_put]; exact m.defers, by rw [size_put]; exact m.tsize, ?_, ?_, ?_, ?_⟩ hun'
            · intro j oj t hj hoj hdt hl hrj
              by_cases hji : i = j
              · subst hji
                rw [ho] at hoj
                cases hoj
                have : leftBy af o = slotOf af t := by simp [leftBy, hdt]
                rw [hdt, this]
                rw [hod] at hdt
                cases hdt
                exact slot_put_same _ (by rw [m.tsize]; exact hdlt)
              · rw [getD_set_ne false hji] at hl
                rw [slot_put_ne _ (dne i j o oj t hik hj hol (by simpa using hoj) hji hdt)]
                exact m.put j oj t hj hoj hdt hl hrj
            · intro t hno
              rw [slot_put_ne _ (hno i o hik ho hset)]
              exact m.same t (fun j oj hj hoj hl => hno j oj hj hoj (getD_set_true hl))
            · intro j oj t hj hoj hdt hl hrj
              have hji : i ≠ j := fun e => hnp (by rw [e]; exact hrj)
              rw [getD_set_ne false hji] at hl
              obtain ⟨h1, h2, h3⟩ := m.spec j oj t hj hoj hdt hl hrj
              refine ⟨by rw [slot_put_ne _ (dne i j o oj t hik hj hol (by simpa using hoj) hji hdt)]; exact h1, h2, ?_⟩
              rw [x.far.block _ (Array.getElem?_eq_some_iff.1 h3).1]
              exact h3
            · intro j j' hj hj' hne hl hl' hrj hrj'
              have hji : i ≠ j := fun e => hnp (by rw [e]; exact hrj)
              have hji' : i ≠ j' := fun e => hnp (by rw [e]; exact hrj')
              rw [getD_set_ne false hji] at hl
              rw [getD_set_ne false hji'] at hl'
              exact m.apart j j' hj hj' hne hl hl' hrj hrj'
          have exec : ∀ b : Act, (∀ t ∈ o.looksAt l.toArray, slotOf a t = slotOf b t) → execOp a.eval o = execOp b.eval o := fun b hb => execOp_congr o (fun cs b => Region.noSelect_spec hsel i o cs b ho) (fun x hx => by
            cases x with
            | tmp t => exact hb t (List.mem_append_left _ (List.mem_filterMap.2 ⟨.tmp t, by simpa using hx, rfl⟩))
            | _ => rfl)
          cases r with
          | q =>
            have hl : ∀ t ∈ o.looksAt l.toArray, slotOf a t = slotOf (accum af ((l.take k).take i) a0) t := fun t ht => hlook t ht (fun j oj hj hoj hdt hrj => by
              have := heat i o j oj t _ hik hol hj hoj hdt ht hrj hri
              cases this)
            have hy' := YieldsIn.of_same (show YieldsIn P l.toArray _ o (leftBy af o) _ from hstep) (exec _ hl) (wanted_congr hl)
            refine wpOp_of_qOp (C := fun w' => ∃ x : Past w, w' = x.w) ⟨⟨w, Below.refl _ _⟩, rfl⟩ (fun a' w' hx ha => ?_) (hy'.qOp ho (K := fun a' => a' = a.put o.dst (leftBy af o)) rfl)
            obtain ⟨x, rfl⟩ := hx
            subst ha
            exact after (by rw [hri]; simp) x
          | c j dd =>
            obtain ⟨hjk, hrj, ⟨oj, hoj, hdj⟩, hmem⟩ := hfood i o j dd hik hol hri
            obtain ⟨hji, hwt⟩ := hdep' i o j oj dd hik hol hjk hoj hdj hmem
            obtain ⟨e, he, hb, heo⟩ := waitsB1_spec ho hwt
            have hlj := hw e he hb
            rw [heo] at hlj
            obtain ⟨s1, s2, s3⟩ := m.spec j oj dd hjk (by simpa using hoj) hdj hlj hrj
            have hst := (show ∀ (V' : World) (g : Nat), _ → _ → YieldsIn P l.toArray _ o (leftBy af o) _ from hstep) w (gs j) (Below.refl _ _) s3
            obtain ⟨dj', hdj', hdjlt⟩ := dlt j oj hjk hoj
            have hdd : dj' = dd := by rw [hdj] at hdj'; exact (Option.some.inj hdj').symm
            rw [hdd] at hdjlt
            have hacc : (accum af ((l.take k).take i) a0).tmps.size = a0.tmps.size := by
              have : ∀ (l : List Oper) (a : Act), (accum af l a).tmps.size = a.tmps.size := by
                intro l
                induction l with
                | nil => intro a; rfl
                | cons o l ih => intro a; show (accum af l (a.put o.dst (leftBy af o))).tmps.size = _; rw [ih, size_put]
              exact this _ _
            have hl : ∀ t ∈ o.looksAt l.toArray, slotOf a t = slotOf ((accum af ((l.take k).take i) a0).put (some dd) ((cont j).2 (gs j))) t := by
              intro t ht
              by_cases htd : t = dd
              · subst htd
                rw [s1, slot_put_same _ (by rw [hacc]; exact hdjlt)]
              · rw [slot_put_ne _ (fun e => htd (by cases e; rfl))]
                refine hlook t ht (fun j' oj' hj' hoj' hdt' hrj' => ?_)
                have := heat i o j' oj' t _ hik hol hj' hoj' hdt' ht hrj' hri
                simp only [Role.eats, Bool.and_eq_true, beq_iff_eq] at this
                exact htd this.2.symm
            have hy' := YieldsIn.of_same hst (exec _ hl) (wanted_congr hl)
            refine wpOp_of_qOp (C := fun w' => ∃ x : Past w, w' = x.w) ⟨⟨w, Below.refl _ _⟩, rfl⟩ (fun a' w' hx ha => ?_) (hy'.qOp ho (K := fun a' => a' = a.put o.dst (leftBy af o)) rfl)
            obtain ⟨x, rfl⟩ := hx
            subst ha
            exact after (by rw [hri]; simp) x
          | p =>
            obtain ⟨hg, hrun⟩ := (show _ ∧ _ from hstep)
            have hl : ∀ t ∈ o.looksAt l.toArray, slotOf a t = slotOf (accum af ((l.take k).take i) a0) t := fun t ht => hlook t ht (fun j oj hj hoj hdt hrj => by
              have := heat i o j oj t _ hik hol hj hoj hdt ht hrj hri
              cases this)
            unfold wpOp
            simp only [ho]
            rw [if_pos (by rw [wanted_congr hl]; exact hg)]
            refine .inl ?_
            unfold Oper.wp
            rw [exec _ hl, hrun]
            show wpAny P .any l.toArray Q fuel (listed.setIfInBounds i true) (a.put o.dst ((cont i).2 w.heap.size)) (w.alloc (cont i).1)
            refine ih (fun j => if j = i then w.heap.size else gs j) _ _ _ ⟨by simp [m.size], hclosed, htail', m.ahd.alloc m.ahd.size _, by rw [defers_put]; exact m.defers, by rw [size_put]; exact m.tsize, ?_, ?_, ?_, ?_⟩ hun'
            · intro j oj t hj hoj hdt hlj hrj
              have hji : i ≠ j := fun e => hrj (by rw [← e]; exact hri)
              rw [getD_set_ne false hji] at hlj
              rw [slot_put_ne _ (dne i j o oj t hik hj hol (by simpa using hoj) hji hdt)]
              exact m.put j oj t hj hoj hdt hlj hrj
            · intro t hno
              rw [slot_put_ne _ (hno i o hik ho hset)]
              exact m.same t (fun j oj hj hoj hl => hno j oj hj hoj (getD_set_true hl))
            · intro j oj t hj hoj hdt hlj hrj
              by_cases hji : i = j
              · subst hji
                rw [ho] at hoj
                cases hoj
                simp only [if_true]
                refine ⟨?_, m.ahd.size, ?_⟩
                · rw [hdt]
                  rw [hod] at hdt
                  cases hdt
                  exact slot_put_same _ (by rw [m.tsize]; exact hdlt)
                · show (w.heap.push _)[w.heap.size]? = _
                  simp
              · rw [getD_set_ne false hji] at hlj
                obtain ⟨h1, h2, h3⟩ := m.spec j oj t hj hoj hdt hlj hrj
                have hne : ¬ j = i := fun e => hji e.symm
                simp only [if_neg hne]
                refine ⟨by rw [slot_put_ne _ (dne i j o oj t hik hj hol (by simpa using hoj) hji hdt)]; exact h1, h2, ?_⟩
                rw [Below.heap_alloc _ _ _ (Array.getElem?_eq_some_iff.1 h3).1]
                exact h3
            · have old : ∀ j, j < k → i ≠ j → (listed.setIfInBounds i true).getD j false = true → rs[j]? = some Role.p → gs j < w.heap.size := by
                intro j hj hji hlj hrj
                rw [getD_set_ne false hji] at hlj
                have hoj : l[j]? = some (l[j]'(by omega)) := by simp
                obtain ⟨d', hd', _⟩ := dlt j _ hj hoj
                exact (Array.getElem?_eq_some_iff.1 (m.spec j _ d' hj (by simp) hd' hlj hrj).2.2).1
              intro j j' hj hj' hne hlj hlj' hrj hrj'
              by_cases hji : i = j
              · subst hji
                have := old j' hj' hne hlj' hrj'
                rw [if_pos rfl, if_neg (fun e => hne e.symm)]
                omega
              · by_cases hji' : i = j'
                · subst hji'
                  have := old j hj hji hlj hrj
                  rw [if_neg hne, if_pos rfl]
                  omega
                · rw [if_neg (fun e => hji e.symm), if_neg (fun e => hji' e.symm)]
                  rw [getD_set_ne false hji] at hlj
                  rw [getD_set_ne false hji'] at hlj'
                  exact m.apart j j' hj hj' hne hlj hlj' hrj hrj'
  refine wp_region_any hm (main _ (fun _ => 0) _ a0 _ ?_ (by rw [unl_rep]))
  refine ⟨by simp, ?_, ?_, (Below.refl _ _).drew, rfl, rfl, ?_, ?_, ?_, ?_⟩
  · intro j oj hj h
    rw [getD_replicate_false] at h
    cases h
  · intro t _ ht
    have : (Array.replicate l.toArray.size false).getD t true = false := by simp at ht; simp [ht]
    exact this
  · intro j o t _ _ _ h
    rw [getD_replicate_false] at h
    cases h
  · intro t _; rfl
  · intro j o t _ _ _ h
    rw [getD_replicate_false] at h
    cases h
  · intro j j' _ _ _ h
    rw [getD_replicate_false] at h
    cases h
end
end Go.Proofs.Ytmebpglkeedaoaa
namespace Go.Proofs.Ytmebpglkeedaoaa
open Go Go.RowKit
section
variable {P : Program} {Q : Exit → Act → World → Prop} {W : World} {a0 af : Act} {l : List Oper} {k : Nat} {rs : List Role} {cont : Nat → Obj × (Nat → Value)}
end
end Go.Proofs.Ytmebpglkeedaoaa
namespace Go.Proofs.Ytmebpglkeedaoaa
open Go Go.RowKit
section
variable {P : Program} {Q : Exit → Act → World → Prop} {W : World} {a0 af : Act} {l : List Oper} {k : Nat} {rs : List Role} {cont : Nat → Obj × (Nat → Value)}
end
end Go.Proofs.Ytmebpglkeedaoaa
namespace Go.Proofs.Ytmebpglkeedaoaa
open Go Go.RowKit
def thenB (ops : Array Oper) (k n : Nat) : Bool :=
  Region.noSelect ops && decide (k < ops.size) && dstsOk n (ops.toList.take k) &&
  (List.range ops.size).all (fun i => match ops[i]? with | some o => o.after.all (fun e => !Region.binds .any e || decide (e.on < i)) | none => false) &&
  (List.range ops.size).all (fun t => decide (t < k) || ((coverB ops ops.size (depsB ops t (List.replicate ops.size false))).take k).all (fun b => b)) &&
  (List.range k).all (fun i => (List.range k).all fun j => match ops[i]?, ops[j]? with
    | some oi, some oj => (match oj.dst with | some d => !(oi.looksAt ops).contains d || (decide (j < i) && waitsB1 .any ops i j) | none => false)
    | _, _ => false) &&
  decide (Region.ready .any ops (Array.replicate k true ++ Array.replicate (ops.size - k) false) = [k]) &&
  Region.lexFrom .any ops (ops.size - (k + 1)) (k + 1) ((Array.replicate k true ++ Array.replicate (ops.size - k) false).setIfInBounds k true) &&
  (match ops[k]? with | some o => o.guard.isNone | none => false)
section
variable {P : Program} {Q : Exit → Act → World → Prop} {W : World} {a0 af : Act} {l : List Oper} {k : Nat}
theorem wp_region_then {id : Nat} (k : Nat) (ok : Oper) (af : Act) (hok : l[k]? = some ok) (hm : P.follows .mixedOrders = true)
    (hB : thenB l.toArray k a0.tmps.size = true)
    (hwalk : ∀ V : World, Below W.heap.size W V → wpQuiet P l.toArray (fun w' => ∃ x : Past V, w' = x.w) (fun a' => a' = af) (l.take k) a0)
    (htail : ∀ (w' : World), Below W.heap.size W w' → ok.wp P af w' (fun a w2 => wpQuiet P l.toArray (fun w3 => ∃ x : Past w2, w3 = x.w) (fun a' => ∀ x : Past w2, Q .normal a' x.w) (l.drop (k + 1)) a) Q) :
    (Code.region id l.toArray true).wp P Q a0 W := by
  unfold thenB at hB
  rw [Bool.and_eq_true, Bool.and_eq_true, Bool.and_eq_true, Bool.and_eq_true, Bool.and_eq_true, Bool.and_eq_true, Bool.and_eq_true, Bool.and_eq_true] at hB
  obtain ⟨⟨⟨⟨⟨⟨⟨⟨hsel, hks⟩, hdst⟩, hback⟩, htl⟩, hdep⟩, hrdy⟩, hlex⟩, hgk⟩ := hB
  simp only [decide_eq_true_eq, List.all_eq_true, List.mem_range, Bool.or_eq_true] at hks hback htl hdep hrdy
  have hokA : l.toArray[k]? = some ok := by simpa using hok
  rw [hokA] at hgk
  have hsz : l.toArray.size = l.length := by simp
  have hkl : k < l.length := by rw [← hsz]; exact hks
  have hdk : dstsOk a0.tmps.size (l.take k) = true := hdst
  have hall : ∀ V : World, Below W.heap.size W V → AllIn P l.toArray (fun w' => ∃ x : Past V, w' = x.w) af (l.take k) a0 := fun V hV => allIn_of hdk (hwalk V hV)
  have hA0 := hall W (Below.refl _ _)
  have hget : ∀ i, i < k → (l.take k)[i]? = l[i]? := fun i hi => by rw [List.getElem?_take]; simp [hi]
  have hafs : ∀ t, (∀ j o, j < k → l[j]? = some o → o.dst ≠ some t) → slotOf af t = slotOf a0 t := fun t ht => hA0.keep.2.2 t (fun o ho => by
    obtain ⟨j, hj⟩ := List.getElem?_of_mem ho
    rw [List.getElem?_take] at hj
    split at hj
    · exact ht j o (by assumption) hj
    · cases hj)
  have hback' : ∀ i o, l[i]? = some o → ∀ e ∈ o.after, Region.binds .any e = true → e.on < i := by
    intro i o hi e he hb
    have hil : i < l.length := (List.getElem?_eq_some_iff.1 hi).1
    have h1 := hback i (by rw [hsz]; exact hil)
    have hi' : l.toArray[i]? = some o := by simpa using hi
    rw [hi'] at h1
    have h2 := Array.all_eq_true_iff_forall_mem.1 h1 e he
    simpa [hb] using h2
  have hdep' : ∀ i o j oj d, i < k → l[i]? = some o → j < k → l[j]? = some oj → oj.dst = some d → d ∈ o.looksAt l.toArray → j < i ∧ waitsB1 .any l.toArray i j = true := by
    intro i o j oj d hi ho hj hoj hd hmem
    have h1 := hdep i hi j (by omega)
    have ho' : l.toArray[i]? = some o := by simpa using ho
    have hoj' : l.toArray[j]? = some oj := by simpa using hoj
    rw [ho', hoj'] at h1
    simp only [hd] at h1
    have hc : (o.looksAt l.toArray).contains d = true := by simpa using hmem
    rw [hc] at h1
    simpa using h1
  have dlt : ∀ i o, i < k → l[i]? = some o → ∃ d, o.dst = some d ∧ d < a0.tmps.size := fun i o hi ho => dsts_lt _ _ i o hdk (by rw [hget i (by omega)]; exact ho)
  have dne : ∀ i j o oj t, i < k → j < k → l[i]? = some o → l[j]? = some oj → i ≠ j → oj.dst = some t → o.dst ≠ some t := fun i j o oj t hi hj ho hoj hne hd => dsts_ne _ _ j i oj o t hdk (by rw [hget j (by omega)]; exact hoj) (by rw [hget i (by omega)]; exact ho) (Ne.symm hne) hd
  have fin : ∀ (listed : Array Bool) (a : Act) (w : World), Mid0 P l.toArray k a0 af W listed a w → (∀ i, i < k → listed.getD i false = true) → ∀ fuel, unl listed = fuel → wpAny P .any l.toArray Q fuel listed a w := by
    intro listed a w m hdone fuel hu
    have hLH : listed = Array.replicate k true ++ Array.replicate (l.toArray.size - k) false := by
      apply Array.ext
      · simp [m.size]; omega
      · intro i h1 h2
        rcases Nat.lt_or_ge i k with h' | h
        rotate_left 1
        · have := m.tail i h (by rw [← m.size]; exact h1)
          rw [Array.getElem_append_right (by simp; omega)]
          simpa [h1] using this
        · have := hdone i h'
          rw [Array.getElem_append_left (by simp; omega)]
          simpa [h1] using this
    have hae : a = af := by
      have hs0 := hA0.keep
      refine act_ext ?_ ?_ ?_
      · rw [m.tsize, hs0.1]
      · rw [m.defers, hs0.2.1]
      · intro t
        by_cases hex : ∃ j o, j < k ∧ l[j]? = some o ∧ o.dst = some t
        · obtain ⟨j, o, hj, ho, hd⟩ := hex
          exact m.put j o t hj (by simpa using ho) hd (hdone j hj)
        · rw [m.same t (fun j o hj ho _ hd => hex ⟨j, o, hj, by simpa using ho, hd⟩), hafs t (fun j o hj ho hd => hex ⟨j, o, hj, ho, hd⟩)]
    have hfu : fuel = (l.drop k).length := by
      rw [← hu, hLH, unl_done]
      simp
    rw [hfu, hae, show (l.drop k).length = (l.drop (k + 1)).length + 1 by simp; omega, hLH]
    refine ⟨fun h0 => (by rw [hrdy] at h0; cases h0), fun i hi => ?_⟩
    rw [hrdy] at hi
    obtain rfl : i = k := by simpa using hi
    unfold wpOp
    rw [hokA]
    simp only
    rw [if_pos (by unfold Region.wanted; rw [Option.isNone_iff_eq_none.1 hgk])]
    refine .inl (Oper.wp_mono (fun a' w' hq => ?_) (htail w m.ahd))
    refine wpAny_of_quiet (C := fun w3 => ∃ x : Past w', w3 = x.w) (Q := fun a' => ∀ x : Past w', Q .normal a' x.w) (fun a'' w'' hx h => by obtain ⟨x, rfl⟩ := hx; exact h x) _ _ _ _ ⟨⟨w', Below.refl _ _⟩, rfl⟩ ?_
    refine wpAnyQ_lex (md := .any) hsel (l.drop (i + 1)) (i + 1) _ a' (fun j => by simp [List.getElem?_drop]) ?_ hq
    have : (l.drop (i + 1)).length = l.toArray.size - (i + 1) := by simp
    rw [this]
    exact hlex
  have main : ∀ (fuel : Nat) (listed : Array Bool) (a : Act) (w : World), Mid0 P l.toArray k a0 af W listed a w → unl listed = fuel → wpAny P .any l.toArray Q fuel listed a w := by
    intro fuel
    induction fuel with
    | zero =>
      intro listed a w m hu
      by_cases hdone : ∀ i, i < k → listed.getD i false = true
      · exact fin listed a w m hdone _ hu
      · obtain ⟨i, hi, _, hun⟩ := first_no' listed k hdone
        have := unl_set (listed := listed) (i := i) (by rw [m.size]; omega) (by rw [getD_tf (by rw [m.size]; omega)]; exact hun)
        omega
    | succ fuel ih =>
      intro listed a w m hu
      by_cases hdone : ∀ i, i < k → listed.getD i false = true
      · exact fin listed a w m hdone _ hu
      · obtain ⟨i0, hi0, hpre, hun0⟩ := first_no' listed k hdone
        refine ⟨fun h0 => ?_, fun i hi => ?_⟩
        · have hr : i0 ∈ Region.ready .any l.toArray listed := by
            rw [mem_ready]
            refine ⟨by rw [getD_tf (by rw [m.size]; omega)]; exact hun0, l[i0]'(by omega), by simp, fun e he hb => hpre _ ?_⟩
            exact hback' i0 _ (by simp) e he hb
          rw [h0] at hr
          cases hr
        · have hi' := hi
          obtain ⟨hun, o, ho, hw⟩ := mem_ready.1 hi
          have hil : i < l.length := by
            have := (Array.getElem?_eq_some_iff.1 ho).1
            simpa using this
          have hol : l[i]? = some o := by simpa using ho
          have hun' : unl (listed.setIfInBounds i true) = fuel := by
            have := unl_set (listed := listed) (i := i) (by rw [m.size]; omega) hun
            omega
          have hik : i < k := by
            rcases Nat.lt_or_ge i k with h | h
            rotate_left 1
            · have h1 := (htl i (by omega)).resolve_left (by omega)
              have h2 : (coverB l.toArray l.toArray.size (depsB l.toArray i (List.replicate l.toArray.size false))).getD i0 false = true := by
                have hlen := cover_length (ops := l.toArray) l.toArray.size (depsB l.toArray i (List.replicate l.toArray.size false))
                rw [deps_length, List.length_replicate] at hlen
                have hm : (coverB l.toArray l.toArray.size (depsB l.toArray i (List.replicate l.toArray.size false)))[i0]'(by rw [hlen, hsz]; omega) ∈ (coverB l.toArray l.toArray.size (depsB l.toArray i (List.replicate l.toArray.size false))).take k :=
                  List.mem_take_iff_getElem.2 ⟨i0, by rw [hlen, hsz]; omega, rfl⟩
                have := h1 _ hm
                rw [List.getD_eq_getElem?_getD, List.getElem?_eq_getElem (by rw [hlen, hsz]; omega)]
                exact this
              have h3 := cover_listed (ops := l.toArray) m.closed l.toArray.size _ (fun j hj => ?_) i0 h2
              · rw [hun0] at h3
                cases h3
              · unfold depsB at hj
                rw [ho] at hj
                refine deps_listed _ _ (fun e he hb => hw e (by simpa using he) hb) (fun q hq => ?_) j hj
                rw [List.getD_eq_getElem?_getD, List.getElem?_replicate] at hq
                split at hq <;> cases hq
            · exact h
          have hclosed : ∀ j oj, l.toArray[j]? = some oj → (listed.setIfInBounds i true).getD j false = true → ∀ e ∈ oj.after, Region.binds .any e = true → (listed.setIfInBounds i true).getD e.on false = true := by
            intro j oj hj hl e he hb
            by_cases hji : i = j
            · subst hji
              rw [ho] at hj
              cases hj
              exact getD_set_true (hw e he hb)
            · rw [getD_set_ne false hji] at hl
              exact getD_set_true (m.closed j oj hj hl e he hb)
          have htail' : ∀ t, k ≤ t → t < l.toArray.size → (listed.setIfInBounds i true).getD t true = false := fun t ht ht' => by rw [getD_set_ne true (by omega)]; exact m.tail t ht ht'
          obtain ⟨d, hod, hdlt⟩ := dlt i o hik hol
          have hlook : ∀ t ∈ o.looksAt l.toArray, slotOf a t = slotOf (accum af ((l.take k).take i) a0) t := by
            intro t ht
            rw [accum_slot _ _ _ (dstsOk_take _ _ _ hdk)]
            by_cases hex : ∃ j oj, j < k ∧ l[j]? = some oj ∧ oj.dst = some t
            · obtain ⟨j, oj, hj, hoj, hdt⟩ := hex
              obtain ⟨hji, hwt⟩ := hdep' i o j oj t hik hol hj hoj hdt ht
              obtain ⟨e, he, hb, heo⟩ := waitsB1_spec ho hwt
              have hlj := hw e he hb
              rw [heo] at hlj
              rw [m.put j oj t (by omega) (by simpa using hoj) hdt hlj, if_pos]
              rw [List.any_eq_true]
              refine ⟨oj, ?_, by simp [hdt]⟩
              refine List.mem_of_getElem? (i := j) ?_
              rw [List.getElem?_take, List.getElem?_take]
              simp only [hji, show j < k by omega, if_true, hoj]
            · rw [m.same t (fun j oj hj hoj _ hdt => hex ⟨j, oj, by omega, by simpa using hoj, hdt⟩), if_neg]
              intro hany
              rw [List.any_eq_true] at hany
              obtain ⟨oj, hmem, hdt⟩ := hany
              obtain ⟨j, hj⟩ := List.getElem?_of_mem (List.mem_of_mem_take hmem)
              rw [List.getElem?_take] at hj
              split at hj
              · exact hex ⟨j, oj, by omega, hj, by simpa using hdt⟩
              · cases hj
          have hy := (hall w m.ahd).get (i := i) (o := o) (by rw [List.getElem?_take]; simp [hik, hol])
          have he : execOp a.eval o = execOp (accum af ((l.take k).take i) a0).eval o := execOp_congr o (fun cs b => Region.noSelect_spec hsel i o cs b ho) (fun x hx => by
            cases x with
            | tmp t => exact hlook t (List.mem_append_left _ (List.mem_filterMap.2 ⟨.tmp t, by simpa using hx, rfl⟩))
            | _ => rfl)
          have hy' := hy.of_same he (wanted_congr hlook)
          refine wpOp_of_qOp (C := fun w' => ∃ x : Past w, w' = x.w) ⟨⟨w, Below.refl _ _⟩, rfl⟩ (fun a' w' hx ha => ?_) (hy'.qOp ho (K := fun a' => a' = a.put o.dst (leftBy af o)) rfl)
          obtain ⟨x, rfl⟩ := hx
          subst ha
          refine ih _ _ _ ⟨by simp [m.size], hclosed, htail', m.ahd.trans (x.far.mono m.ahd.size), by rw [defers_put]; exact m.defers, by rw [size_put]; exact m.tsize, ?_, ?_⟩ hun'
          · intro j oj t hj hoj hdt hl
            by_cases hji : i = j
            · subst hji
              rw [ho] at hoj
              cases hoj
              have : leftBy af o = slotOf af t := by simp [leftBy, hdt]
              rw [hdt, this]
              rw [hod] at hdt
              cases hdt
              exact slot_put_same _ (by rw [m.tsize]; exact hdlt)
            · rw [getD_set_ne false hji] at hl
              rw [slot_put_ne _ (dne i j o oj t hik (by omega) hol (by simpa using hoj) hji hdt)]
              exact m.put j oj t hj hoj hdt hl
          · intro t hno
            have h1 : (listed.setIfInBounds i true).getD i false = true := by
              have : i < listed.size := by rw [m.size]; omega
              simp [this]
            rw [slot_put_ne _ (hno i o hik ho h1)]
            exact m.same t (fun j oj hj hoj hl => hno j oj hj hoj (getD_set_true hl))
  refine wp_region_any hm (main _ _ a0 _ ?_ (by rw [unl_rep]))
  refine ⟨by simp, ?_, ?_, (Below.refl _ _).drew, rfl, rfl, ?_, ?_⟩
  · intro j oj hj h
    rw [getD_replicate_false] at h
    cases h
  · intro t _ ht
    have : (Array.replicate l.toArray.size false).getD t true = false := by simp at ht; simp [ht]
    exact this
  · intro j o t _ _ _ h
    rw [getD_replicate_false] at h
    cases h
  · intro t _; rfl
end
end Go.Proofs.Ytmebpglkeedaoaa
namespace Go.Proofs.Ytmebpglkeedaoaa
open Go Go.RowKit
section
variable {P : Program} {Q : Exit → Act → World → Prop} {W : World} {a0 af : Act} {l : List Oper} {k : Nat} {ok ok' : Oper} {O : Obj} {ds ds' : Tmp}
end
end Go.Proofs.Ytmebpglkeedaoaa
namespace Go.Proofs.Ytmebpglkeedaoaa
open Go.RowKit
def Blk (w : World) (g : Nat) (t : TypeId) (cs : List Value) : Prop := w.heap[g]? = some (.cells cs.toArray t (0, 0))
section
variable {w w' : World} {g : Nat} {t : TypeId} {cs : List Value}
theorem Blk.cell (h : Blk w g t cs) (o : Nat) {v : Value} (hv : cs[o]? = some v) : w.cell? ⟨g, o, none⟩ = some v := by
  unfold Blk at h
  simp [World.cell?, h, hv]
theorem Blk.free (h : Blk w g t cs) (o : Nat) : w.frozen? ⟨g, o, none⟩ = false := by
  unfold Blk at h
  simp [World.frozen?, h]
theorem Blk.lt (h : Blk w g t cs) : g < w.heap.size := by
  rcases Nat.lt_or_ge g w.heap.size with h' | h'
  · exact h'
  · unfold Blk at h
    rw [Array.getElem?_eq_none h'] at h
    cases h
theorem Blk.of_eq (h : Blk w g t cs) (e : w'.heap[g]? = w.heap[g]?) : Blk w' g t cs := e.trans h
theorem Blk.drew (h : Blk w g t cs) : Blk w.drew g t cs := h
theorem Blk.alloc (h : Blk w g t cs) (o : Obj) : Blk (w.alloc o) g t cs := h.of_eq (Below.heap_alloc _ _ _ h.lt)
theorem Blk.new (w : World) (cs : List Value) (t : TypeId) : Blk (w.alloc (.cells cs.toArray t)) w.heap.size t cs := by
  show (w.heap.push _)[w.heap.size]? = _
  simp
theorem Blk.new' (w : World) (cs : Array Value) (t : TypeId) : Blk (w.alloc (.cells cs t)) w.heap.size t cs.toList := by
  show (w.heap.push _)[w.heap.size]? = _
  simp
theorem Blk.setCell (h : Blk w g t cs) (o : Nat) (u : Value) : Blk (w.setCell ⟨g, o, none⟩ u) g t (cs.set o u) := by
  have hlt := h.lt
  unfold Blk at h ⊢
  have h' : w.heap[g] = .cells cs.toArray t (0, 0) := by simpa [Array.getElem?_eq_getElem hlt] using h
  show (w.heap.modify g _)[g]? = _
  rw [Array.getElem?_eq_getElem (by simpa using hlt), Array.getElem_modify_self, h']
  simp
theorem Blk.setCell_ne (h : Blk w g t cs) {p : Addr} (hp : g ≠ p.block) (u : Value) : Blk (w.setCell p u) g t cs := h.of_eq (Below.heap_setCell _ _ _ _ hp)
theorem Blk.grown {row : Option Nat} (h : Blk w g t cs) (hg : w.grownBy w' row) (hne : some g ≠ row) : Blk w' g t cs := h.of_eq (hg.block g h.lt hne)
theorem Blk.below {B : Nat} (h : Blk w g t cs) (hb : Below B w w') (hlt : g < B) : Blk w' g t cs := h.of_eq (hb.block g hlt)
end
structure Touch (S : Nat → Prop) (w w' : World) : Prop where
  os : w'.os = w.os
  tape : w'.tape = w.tape
  output : w'.output = w.output
  size : w.heap.size ≤ w'.heap.size
  block : ∀ k, k < w.heap.size → ¬ S k → w'.heap[k]? = w.heap[k]?
section
variable {S : Nat → Prop} {a w w' : World}
theorem Touch.refl (S : Nat → Prop) (w : World) : Touch S w w := ⟨rfl, rfl, rfl, Nat.le_refl _, fun _ _ _ => rfl⟩
theorem Touch.trans (h : Touch S a w) (k : Touch S w w') : Touch S a w' :=
  ⟨k.os.trans h.os, k.tape.trans h.tape, k.output.trans h.output, Nat.le_trans h.size k.size, fun i hi hn => (k.block i (Nat.lt_of_lt_of_le hi h.size) hn).trans (h.block i hi hn)⟩
theorem Touch.mono {S' : Nat → Prop} (h : Touch S w w') (hS : ∀ k, S k → S' k) : Touch S' w w' := ⟨h.os, h.tape, h.output, h.size, fun k hk hn => h.block k hk (fun hs => hn (hS k hs))⟩
theorem Touch.drew (h : Touch S a w) : Touch S a w.drew := ⟨h.os, h.tape, h.output, h.size, h.block⟩
theorem Touch.step (h : Touch S a w) (hos : w'.os = w.os) (ht : w'.tape = w.tape) (ho : w'.output = w.output) (hs : w.heap.size ≤ w'.heap.size) (hb : ∀ k, k < a.heap.size → ¬ S k → w'.heap[k]? = w.heap[k]?) : Touch S a w' :=
  ⟨hos.trans h.os, ht.trans h.tape, ho.trans h.output, Nat.le_trans h.size hs, fun k hk hn => (hb k hk hn).trans (h.block k hk hn)⟩
theorem Touch.alloc (h : Touch S a w) (o : Obj) : Touch S a (w.alloc o) :=
  h.step rfl rfl rfl (by simp) fun k hk _ => Below.heap_alloc _ _ _ (Nat.lt_of_lt_of_le hk h.size)
theorem Touch.setCell (h : Touch S a w) {p : Addr} (hp : S p.block ∨ a.heap.size ≤ p.block) (u : Value) : Touch S a (w.setCell p u) :=
  h.step rfl rfl rfl (by simp [World.setCell]) fun k hk hn => Below.heap_setCell _ _ _ _ (fun e => by subst e; exact hp.elim hn (fun h' => by omega))
theorem Touch.put {g : Nat} (h : Touch (fun k => k = g) a w) (o : Nat) (u : Value) : Touch (fun k => k = g) a (w.setCell ⟨g, o, none⟩ u) := h.setCell (.inl rfl) u
theorem Touch.grown {row : Option Nat} (h : Touch S a w) (hg : w.grownBy w' row) (hr : ∀ k, row = some k → S k ∨ a.heap.size ≤ k) : Touch S a w' :=
  h.step hg.os hg.tape hg.output hg.size fun k hk hn => hg.block k (Nat.lt_of_lt_of_le hk h.size) (fun e => (hr k e.symm).elim hn (fun h' => by omega))
theorem Touch.then {S' : Nat → Prop} (h : Touch S a w) (k : Touch S' w w') (hr : ∀ k, S' k → S k ∨ a.heap.size ≤ k) : Touch S a w' :=
  h.step k.os k.tape k.output k.size fun i hi hn => k.block i (Nat.lt_of_lt_of_le hi h.size) (fun e => (hr i e).elim hn (fun h' => by omega))
theorem Touch.of_below (hb : Below w.heap.size w w') : Touch S w w' := ⟨hb.os, hb.tape, hb.output, hb.size, fun k hk _ => hb.block k hk⟩
theorem Touch.below (h : Touch S a w) (hb : Below w.heap.size w w') : Touch S a w' := h.then (Touch.of_below (S := fun _ => False) hb) (fun _ h => h.elim)
theorem Below.touch {B : Nat} (h : Below B a w) (hB : B ≤ w.heap.size) (k : Touch S w w') (hS : ∀ k, S k → B ≤ k) : Below B a w' :=
  h.trans ⟨k.os, k.tape, k.output, k.size, fun i hi => k.block i (by omega) (fun e => by have := hS i e; omega)⟩
theorem Blk.touch {g : Nat} {t : TypeId} {cs : List Value} (h : Blk w g t cs) (k : Touch S w w') (hn : ¬ S g) : Blk w' g t cs := h.of_eq (k.block g h.lt hn)
theorem Touch.cell (k : Touch S w w') {p : Addr} (hp : p.block < w.heap.size) (hn : ¬ S p.block) : w'.cell? p = w.cell? p := World.cell?_of_block (k.block p.block hp hn)
end
end Go.Proofs.Ytmebpglkeedaoaa
namespace Go.Proofs.Ytmebpglkeedaoaa
open Go Go.RowKit
def SrcRow (w : World) (Bo : Option Addr) (m : Nat) (news : List Value) : Prop := (Bo = none ∧ m = 0) ∨ ∃ a, Bo = some a ∧ ∀ j u, news[j]? = some u → w.cell? (a.add j) = some u
def OwnB (A : Option Addr) (k : Nat) : Prop := ∃ a, A = some a ∧ a.block = k
theorem ownB_iff {A : Option Addr} {n cap k : Nat} : OwnB A k ↔ (Value.slice A n cap).ownBlock = some k := by
  cases A with
  | none => exact ⟨fun ⟨a, h, _⟩ => (by cases h), fun h => (by cases h)⟩
  | some a =>
    show OwnB (some a) k ↔ some a.block = some k
    exact ⟨fun ⟨b, h, e⟩ => (by cases h; rw [e]), fun h => ⟨a, rfl, by simpa using h⟩⟩
section
variable {P : Program} {w : World}
theorem run_append_any (t ty : TypeId) (base : Nat) (e : TypeId) (i : TypeInfo) (z : Value) (size bytes : Nat) (ht : P.underlying t = some (.slice e)) (hi : P.info? e = some i) (hz : i.zero = some z)
    (hsize : i.size = size) (hby : i.bytes = bytes) (hzs : z.cells.size = size) (hsz : 0 < size)
    (A : Option Addr) (n cap : Nat) (xs : List Value) (hown : w.ownsRow base e size (.slice A n cap) n xs)
    (Bo : Option Addr) (m c : Nat) (news : List Value) (hl : news.length = m * size) (hnews : SrcRow w Bo m news) (h1 : ∀ u ∈ news, u.oneCell' = true)
    (h63 : n + m ≤ maxLen) (hbytes : (n + m) * bytes ≤ 140737488355328) (hbase : base ≤ w.heap.size) :
    ∃ A' cap' w', (Builtin.append_ #[t, t] ty #[.slice A n cap, .slice Bo m c]).run P w = .ok (.slice A' (n + m) cap') w' ∧ w'.ownsRow base e size (.slice A' (n + m) cap') (n + m) (xs ++ news) ∧
      w.grownBy w' (Value.slice A n cap).ownBlock ∧ (∀ k, OwnB A' k → OwnB A k ∨ k = w.heap.size) := by
  rcases hnews with ⟨rfl, rfl⟩ | ⟨a, rfl, hnews⟩
  · have hn : news = [] := List.eq_nil_of_length_eq_zero (by simpa using hl)
    subst hn
    refine ⟨A, cap, w, ?_, by simpa using hown, ⟨rfl, rfl, rfl, Nat.le_refl _, fun _ _ _ => rfl⟩, fun k hk => .inl hk⟩
    rcases hown.2 with ⟨hv, rfl⟩ | ⟨g, cap', cur, hv, hbg, hg, hnc, hcm, hcs, htake⟩
    · cases hv
      simp [Builtin.append_, run_underlying ht, sizeOf, typeInfo, hi, Builtin.lenOf, Builtin.firstCells]
    · cases hv
      have hr := run_append_room_src (P := P) w t t ty e i ht hi g 0 n cap (.slice none 0 c) 0 [] (Src.ofNil w ht c) (by omega) (by simp) (by simp)
      simpa [World.setCells] using hr
  · obtain ⟨v', w', hr, h2, h3, h4, h5⟩ := run_append_own_at (P := P) w base t ty e i z size bytes ht hi hz hsize hby hzs hsz (.slice A n cap) n xs hown a m c news hl hnews h1 h63 hbytes hbase
    have hform : ∃ A' cap', v' = .slice A' (n + m) cap' := by
      rcases h2.2 with ⟨rfl, hn⟩ | ⟨g, cap', cur, rfl, _⟩
      · exact ⟨none, 0, by rw [hn]⟩
      · exact ⟨_, _, rfl⟩
    obtain ⟨A', cap', rfl⟩ := hform
    refine ⟨A', cap', w', hr, h2, h3, fun k hk => ?_⟩
    have hk' := (ownB_iff (n := n + m) (cap := cap')).1 hk
    rcases h5 with h5 | h5
    · exact .inl ((ownB_iff (n := n) (cap := cap)).2 (h5 ▸ hk'))
    · rw [h5] at hk'
      exact .inr (by simpa using hk'.symm)
theorem step_append_any {ops : Array Oper} {o : Oper} {a : Act} {K : Act → World → Prop} {Q : Exit → Act → World → Prop} {E : Prop} (s x : Operand) (t : TypeId)
    (ho : o.op = .call { callee := .builtin .append, args := #[s, x], argTypes := #[t, t] }) (hgd : o.guard = none)
    (base : Nat) (e : TypeId) (i : TypeInfo) (z : Value) (size bytes : Nat) (ht : P.underlying t = some (.slice e)) (hi : P.info? e = some i) (hz : i.zero = some z)
    (hsize : i.size = size) (hby : i.bytes = bytes) (hzs : z.cells.size = size) (hsz : 0 < size)
    (A : Option Addr) (n cap : Nat) (xs : List Value) (hs : a.eval s = .slice A n cap) (hown : w.ownsRow base e size (.slice A n cap) n xs)
    (Bo : Option Addr) (m c : Nat) (news : List Value) (hx : a.eval x = .slice Bo m c) (hl : news.length = m * size) (hnews : SrcRow w Bo m news) (h1 : ∀ u ∈ news, u.oneCell' = true)
    (h63 : n + m ≤ maxLen) (hbytes : (n + m) * bytes ≤ 140737488355328) (hbase : base ≤ w.heap.size)
    (h : ∀ A' cap' w', w'.ownsRow base e size (.slice A' (n + m) cap') (n + m) (xs ++ news) → w.grownBy w' (Value.slice A n cap).ownBlock → (∀ k, OwnB A' k → OwnB A k ∨ k = w.heap.size) → K (a.put o.dst (.slice A' (n + m) cap')) w') :
    if Region.wanted o (yielded ops a.tmps) = true then Oper.wp P o a w K Q else E := by
  have hw : Region.wanted o (yielded ops a.tmps) = true := by simp [Region.wanted, hgd]
  rw [if_pos hw]
  obtain ⟨A', cap', w', hr, h2, h3, h4⟩ := run_append_any (P := P) t o.type base e i z size bytes ht hi hz hsize hby hzs hsz A n cap xs hown Bo m c news hl hnews h1 h63 hbytes hbase
  unfold Oper.wp execOp
  simp only [ho, resolve, invoke, builtin, Sem.run_bind, Sem.run_pure, Result.andThen_ok, List.map_toArray, List.map_cons, List.map_nil, hs, hx, hr]
  exact h A' cap' w' h2 h3 h4
theorem wpList_append_any {ops : Array Oper} {rest : List Oper} {o : Oper} {a : Act} {Q : Exit → Act → World → Prop} (s x : Operand) (t : TypeId)
    (ho : o.op = .call { callee := .builtin .append, args := #[s, x], argTypes := #[t, t] }) (hgd : o.guard = none)
    (base : Nat) (e : TypeId) (i : TypeInfo) (z : Value) (size bytes : Nat) (ht : P.underlying t = some (.slice e)) (hi : P.info? e = some i) (hz : i.zero = some z)
    (hsize : i.size = size) (hby : i.bytes = bytes) (hzs : z.cells.size = size) (hsz : 0 < size)
    (A : Option Addr) (n cap : Nat) (xs : List Value) (hs : a.eval s = .slice A n cap) (hown : w.ownsRow base e size (.slice A n cap) n xs)
    (Bo : Option Addr) (m c : Nat) (news : List Value) (hx : a.eval x = .slice Bo m c) (hl : news.length = m * size) (hnews : SrcRow w Bo m news) (h1 : ∀ u ∈ news, u.oneCell' = true)
    (h63 : n + m ≤ maxLen) (hbytes : (n + m) * bytes ≤ 140737488355328) (hbase : base ≤ w.heap.size)
    (h : ∀ A' cap' w', w'.ownsRow base e size (.slice A' (n + m) cap') (n + m) (xs ++ news) → w.grownBy w' (Value.slice A n cap).ownBlock → (∀ k, OwnB A' k → OwnB A k ∨ k = w.heap.size) → wpList P ops Q rest (a.put o.dst (.slice A' (n + m) cap')) w') :
    wpList P ops Q (o :: rest) a w := by
  refine wpList_plain hgd fun K hK => ?_
  obtain ⟨A', cap', w', hr, h2, h3, h4⟩ := run_append_any (P := P) t o.type base e i z size bytes ht hi hz hsize hby hzs hsz A n cap xs hown Bo m c news hl hnews h1 h63 hbytes hbase
  unfold Oper.wp execOp
  simp only [ho, resolve, invoke, builtin, Sem.run_bind, Sem.run_pure, Result.andThen_ok, List.map_toArray, List.map_cons, List.map_nil, hs, hx, hr]
  exact hK _ _ (h A' cap' w' h2 h3 h4)
end
end Go.Proofs.Ytmebpglkeedaoaa
namespace Go.Proofs.Ytmebpglkeedaoaa
open Go Go.RowKit
abbrev BlkRow := Nat × TypeId × List Value
def Has (l : List BlkRow) (W : World) : Prop := ∀ x, x ∈ l → Blk W x.1 x.2.1 x.2.2
section
variable {l : List BlkRow} {W W' w : World}
theorem Has.nil (W : World) : Has [] W := fun _ h => by cases h
theorem Has.get (h : Has l W) (i : Nat) {g : Nat} {t : TypeId} {cs : List Value} (hx : l[i]? = some (g, t, cs)) : Blk W g t cs := h (g, t, cs) (List.mem_of_getElem? hx)
theorem Has.lt (h : Has l W) (x : BlkRow) (hx : x ∈ l) : x.1 < W.heap.size := (h x hx).lt
theorem Has.below (h : Has l W) (hb : Below W.heap.size W W') : Has l W' := fun x hx => (h x hx).below hb (h x hx).lt
theorem Has.cons {g : Nat} {t : TypeId} {cs : List Value} (k : Blk W g t cs) (h : Has l W) : Has ((g, t, cs) :: l) W := fun x hx => by
  rcases List.mem_cons.1 hx with rfl | h'
  · exact k
  · exact h x h'
theorem Has.setCell (h : Has l W) {p : Addr} (hn : ∀ x, x ∈ l → x.1 ≠ p.block) (v : Value) : Has l (W.setCell p v) := fun x hx => (h x hx).setCell_ne (hn x hx) v
theorem Has.sub {l' : List BlkRow} (h : Has l W) (hs : ∀ x, x ∈ l' → x ∈ l) : Has l' W := fun x hx => h x (hs x hx)
def St (w : World) (l : List BlkRow) (W : World) : Prop := Below w.heap.size w W ∧ Has l W ∧ (l.map Prod.fst).Nodup
theorem St.start (w : World) : St w [] w := ⟨Below.refl _ _, Has.nil _, List.nodup_nil⟩
theorem St.below (h : St w l W) (hb : Below W.heap.size W W') : St w l W' := ⟨h.1.trans (hb.mono h.1.size), h.2.1.below hb, h.2.2⟩
theorem St.get (h : St w l W) (i : Nat) {g : Nat} {t : TypeId} {cs : List Value} (hx : l[i]? = some (g, t, cs)) : Blk W g t cs := h.2.1.get i hx
theorem St.ne (h : St w l W) (i j : Nat) {g g' : Nat} {t t' : TypeId} {cs cs' : List Value} (hx : l[i]? = some (g, t, cs)) (hy : l[j]? = some (g', t', cs')) (hij : i ≠ j) : ¬ g = g' := by
  intro e
  refine hij ((List.getElem?_inj (l := l.map Prod.fst) (by have := (List.getElem?_eq_some_iff.1 hx).1; simpa using this) h.2.2).1 ?_)
  · rw [List.getElem?_map, List.getElem?_map, hx, hy]
    simp [e]
theorem St.drew (h : St w l W) : St w l W.drew := ⟨h.1.drew, fun x hx => (h.2.1 x hx).drew, h.2.2⟩
theorem St.apart (h : St w l W) {g : Nat} (hg : W.heap.size ≤ g) : ∀ x, x ∈ l → x.1 ≠ g := fun x hx e => by have := h.2.1.lt x hx; omega
theorem St.apart' (h : St w l W) {g : Nat} (hg : W.heap.size ≤ g) : g ∉ l.map Prod.fst := fun hm => by
  obtain ⟨x, hx, e⟩ := List.mem_map.1 hm
  exact h.apart hg x hx e
theorem St.alloc (h : St w l W) (cs : List Value) (t : TypeId) : St w ((W.heap.size, t, cs) :: l) (W.alloc (.cells cs.toArray t)) :=
  ⟨h.1.alloc h.1.size _, Has.cons (Blk.new W cs t) (h.2.1.below ((Below.refl _ _).alloc (Nat.le_refl _) _)), by
    rw [List.map_cons, List.nodup_cons]
    exact ⟨h.apart' (Nat.le_refl _), h.2.2⟩⟩
end
end Go.Proofs.Ytmebpglkeedaoaa
namespace Go.Proofs.Ytmebpglkeedaoaa
open Go Go.RowKit
namespace Ef
inductive Role where
  | q
  | p
  | c (j d : Nat)
  | e (n : Nat)
def Role.isP : Role → Bool
  | .p => true
  | _ => false
def Role.eats : Role → Nat → Nat → Bool
  | .c j d, j', d' => (j == j') && (d == d')
  | _, _, _ => false
section
variable {P : Program} {ops : Array Oper} {af : Act} {cont : Nat → Obj × (Nat → Value)} {S : Nat → Prop} {J : Nat → World → Prop} {W V : World}
def StepP (P : Program) (ops : Array Oper) (af : Act) (cont : Nat → Obj × (Nat → Value)) (S : Nat → Prop) (J : Nat → World → Prop) (W V : World) (i : Nat) (r : Role) (o : Oper) (a : Act) : Prop :=
  match r with
  | .q => YieldsIn P ops (fun w' => ∃ x : Past V, w' = x.w) o (leftBy af o) a
  | .p => Region.wanted o (yielded ops a.tmps) = true ∧ ∀ w : World, (execOp a.eval o).run P w = .ok (.value ((cont i).2 w.heap.size)) (w.alloc (cont i).1)
  | .c j d => ∀ (V' : World) (g : Nat), Below V.heap.size V V' → V'.heap[g]? = some (cont j).1 → YieldsIn P ops (fun w' => ∃ x : Past V', w' = x.w) o (leftBy af o) (a.put (some d) ((cont j).2 g))
  | .e n => ∀ V' : World, Touch S W V' → J n V' → Region.wanted o (yielded ops a.tmps) = true ∧ ∃ f args, (execOp a.eval o).run P V' = .ok (.enter f args) V' ∧ Calls P f args V' (fun e w'' => e = .returned (leftBy af o) ∧ Touch S V' w'' ∧ J (n + 1) w'')
def AllInP (P : Program) (ops : Array Oper) (af : Act) (cont : Nat → Obj × (Nat → Value)) (S : Nat → Prop) (J : Nat → World → Prop) (W V : World) : Nat → List Role → List Oper → Act → Prop
  | _, [], [], a => a = af
  | i, r :: rs, o :: l, a => StepP P ops af cont S J W V i r o a ∧ AllInP P ops af cont S J W V (i + 1) rs l (a.put o.dst (leftBy af o))
  | _, _, _, _ => False
def wpP (P : Program) (ops : Array Oper) (af : Act) (cont : Nat → Obj × (Nat → Value)) (S : Nat → Prop) (J : Nat → World → Prop) (W V : World) : Nat → List Role → List Oper → Act → Prop
  | _, [], [], a => a = af
  | i, .q :: rs, o :: l, a => wpQuiet P ops (fun w' => ∃ x : Past V, w' = x.w) (fun a' => wpP P ops af cont S J W V (i + 1) rs l a') [o] a
  | i, .p :: rs, o :: l, a => Region.wanted o (yielded ops a.tmps) = true ∧ (∀ w : World, (execOp a.eval o).run P w = .ok (.value ((cont i).2 w.heap.size)) (w.alloc (cont i).1)) ∧ wpP P ops af cont S J W V (i + 1) rs l (a.put o.dst undef)
  | i, .c j d :: rs, o :: l, a => ∃ u, (∀ (V' : World) (g : Nat), Below V.heap.size V V' → V'.heap[g]? = some (cont j).1 → wpQuiet P ops (fun w' => ∃ x : Past V', w' = x.w) (fun a' => slotTo a' o.dst = u) [o] (a.put (some d) ((cont j).2 g))) ∧ wpP P ops af cont S J W V (i + 1) rs l (a.put o.dst u)
  | i, .e n :: rs, o :: l, a => ∃ u, (∀ V' : World, Touch S W V' → J n V' → Region.wanted o (yielded ops a.tmps) = true ∧ ∃ f args, (execOp a.eval o).run P V' = .ok (.enter f args) V' ∧ Calls P f args V' (fun e w'' => e = .returned (u) ∧ Touch S V' w'' ∧ J (n + 1) w'')) ∧ wpP P ops af cont S J W V (i + 1) rs l (a.put o.dst u)
  | _, _, _, _ => False
theorem wpP_nil {i : Nat} {a : Act} (h : a = af) : wpP P ops af cont S J W V i [] [] a := h
theorem wpP_q {i : Nat} {rs : List Role} {o : Oper} {l : List Oper} {a : Act} (h : wpQuiet P ops (fun w' => ∃ x : Past V, w' = x.w) (fun a' => wpP P ops af cont S J W V (i + 1) rs l a') [o] a) : wpP P ops af cont S J W V i (.q :: rs) (o :: l) a := h
theorem wpP_p {i : Nat} {rs : List Role} {o : Oper} {l : List Oper} {a : Act} (hg : Region.wanted o (yielded ops a.tmps) = true) (h : ∀ w : World, (execOp a.eval o).run P w = .ok (.value ((cont i).2 w.heap.size)) (w.alloc (cont i).1)) (k : wpP P ops af cont S J W V (i + 1) rs l (a.put o.dst undef)) : wpP P ops af cont S J W V i (.p :: rs) (o :: l) a := ⟨hg, h, k⟩
theorem wpP_c {i j d : Nat} {rs : List Role} {o : Oper} {l : List Oper} {a : Act} (u : Value) (h : ∀ (V' : World) (g : Nat), Below V.heap.size V V' → V'.heap[g]? = some (cont j).1 → wpQuiet P ops (fun w' => ∃ x : Past V', w' = x.w) (fun a' => slotTo a' o.dst = u) [o] (a.put (some d) ((cont j).2 g))) (k : wpP P ops af cont S J W V (i + 1) rs l (a.put o.dst u)) : wpP P ops af cont S J W V i (.c j d :: rs) (o :: l) a := ⟨u, h, k⟩
theorem AllInP.keep : ∀ {i : Nat} {rs : List Role} {l : List Oper} {a : Act}, AllInP P ops af cont S J W V i rs l a → af.tmps.size = a.tmps.size ∧ af.defers = a.defers ∧ (∀ t, (∀ o ∈ l, o.dst ≠ some t) → slotOf af t = slotOf a t)
  | _, [], [], a, h => by
    have : a = af := h
    subst this
    exact ⟨rfl, rfl, fun _ _ => rfl⟩
  | _, [], _ :: _, _, h => h.elim
  | _, _ :: _, [], _, h => h.elim
  | i, r :: rs, o :: l, a, h => by
    obtain ⟨h1, h2, h3⟩ := AllInP.keep h.2
    refine ⟨by rw [h1, size_put], by rw [h2, defers_put], fun t ht => ?_⟩
    rw [h3 t (fun o' ho' => ht o' (by simp [ho'])), slot_put_ne _ (ht o (by simp))]
theorem allInP_of : ∀ {i : Nat} {rs : List Role} {l : List Oper} {a : Act}, dstsOk a.tmps.size l = true → wpP P ops af cont S J W V i rs l a → AllInP P ops af cont S J W V i rs l a
  | _, [], [], a, _, h => h
  | _, [], _ :: _, _, _, h => h.elim
  | _, .q :: _, [], _, _, h => h.elim
  | _, .p :: _, [], _, _, h => h.elim
  | _, .c _ _ :: _, [], _, _, h => h.elim
  | _, .e _ :: _, [], _, _, h => h.elim
  | i, r :: rs, o :: l, a, hd, h => by
    have hd' := hd
    simp only [dstsOk, Bool.and_eq_true] at hd'
    obtain ⟨hd1, hd2⟩ := hd'
    split at hd1
    rotate_left 1
    · cases hd1
    · rename_i d hod
      simp only [Bool.and_eq_true, decide_eq_true_eq, List.all_eq_true] at hd1
      have key : ∀ v : Value, wpP P ops af cont S J W V (i + 1) rs l (a.put o.dst v) → AllInP P ops af cont S J W V (i + 1) rs l (a.put o.dst v) ∧ leftBy af o = v := by
        intro v hr
        have hA := allInP_of (i := i + 1) (rs := rs) (l := l) (a := a.put o.dst v) (by rw [size_put]; exact hd2) hr
        refine ⟨hA, ?_⟩
        unfold leftBy
        rw [hod]
        have := hA.keep.2.2 d (fun o' ho' => by simpa using hd1.2 o' ho')
        simp only [this, hod]
        exact slot_put_same v hd1.1
      cases r with
      | q =>
        obtain ⟨v, hy, hr⟩ := yields_of_quiet (show wpQuiet P ops _ _ [o] a from h)
        obtain ⟨hA, he⟩ := key v hr
        exact ⟨show YieldsIn P ops _ o (leftBy af o) a by rw [he]; exact hy, by rw [he]; exact hA⟩
      | p =>
        obtain ⟨hg, hrun, hr⟩ := (show _ ∧ _ ∧ _ from h)
        obtain ⟨hA, he⟩ := key undef hr
        exact ⟨⟨hg, hrun⟩, by rw [he]; exact hA⟩
      | c j dd =>
        obtain ⟨u, hu, hr⟩ := (show ∃ u, _ ∧ _ from h)
        obtain ⟨hA, he⟩ := key u hr
        refine ⟨fun V' g hb hg => ?_, by rw [he]; exact hA⟩
        obtain ⟨v, hy, hv⟩ := yields_of_quiet (hu V' g hb hg)
        have : v = u := by
          rw [← hv, hod]
          exact (slot_put_same v (by rw [size_put]; exact hd1.1)).symm
        rw [he, ← this]
        exact hy
      | e n =>
        obtain ⟨u, hu, hr⟩ := (show ∃ u, _ ∧ _ from h)
        obtain ⟨hA, he⟩ := key u hr
        exact ⟨fun V' h1 h2 => by rw [he]; exact hu V' h1 h2, by rw [he]; exact hA⟩
theorem AllInP.get : ∀ {b : Nat} {rs : List Role} {l : List Oper} {a : Act} {i : Nat} {o : Oper} {r : Role}, AllInP P ops af cont S J W V b rs l a → l[i]? = some o → rs[i]? = some r → StepP P ops af cont S J W V (b + i) r o (accum af (l.take i) a)
  | _, [], [], _, _, _, _, _, hi, _ => by simp at hi
  | _, [], _ :: _, _, _, _, _, h, _, _ => h.elim
  | _, _ :: _, [], _, _, _, _, h, _, _ => h.elim
  | b, r :: rs, o :: l, a, 0, o', r', h, hi, hr => by
    have e1 : o = o' := by simpa using hi
    have e2 : r = r' := by simpa using hr
    subst e1; subst e2
    exact h.1
  | b, r :: rs, o :: l, a, i + 1, o', r', h, hi, hr => by
    have := AllInP.get (i := i) h.2 (by simpa using hi) (by simpa using hr)
    rw [show b + (i + 1) = b + 1 + i from by omega]
    simpa [accum] using this
def fillP (cont : Nat → Obj × (Nat → Value)) (gs : Nat → Nat) : Nat → List Role → List Oper → Act → Act
  | i, .p :: rs, o :: l, a => fillP cont gs (i + 1) rs l (a.put o.dst ((cont i).2 (gs i)))
  | i, .q :: rs, _ :: l, a => fillP cont gs (i + 1) rs l a
  | i, .c _ _ :: rs, _ :: l, a => fillP cont gs (i + 1) rs l a
  | i, .e _ :: rs, _ :: l, a => fillP cont gs (i + 1) rs l a
  | _, [], _, a => a
  | _, _, [], a => a
theorem fillP_keep (gs : Nat → Nat) : ∀ (rs : List Role) (b : Nat) (l : List Oper) (a : Act), (fillP cont gs b rs l a).tmps.size = a.tmps.size ∧ (fillP cont gs b rs l a).defers = a.defers
  | [], _, _, _ => by unfold fillP; exact ⟨rfl, rfl⟩
  | .p :: rs, b, [], a => by unfold fillP; exact ⟨rfl, rfl⟩
  | .q :: rs, b, [], a => by unfold fillP; exact ⟨rfl, rfl⟩
  | .c _ _ :: rs, b, [], a => by unfold fillP; exact ⟨rfl, rfl⟩
  | .e _ :: rs, b, [], a => by unfold fillP; exact ⟨rfl, rfl⟩
  | .q :: rs, b, o :: l, a => by unfold fillP; exact fillP_keep gs rs (b + 1) l a
  | .c _ _ :: rs, b, o :: l, a => by unfold fillP; exact fillP_keep gs rs (b + 1) l a
  | .e _ :: rs, b, o :: l, a => by unfold fillP; exact fillP_keep gs rs (b + 1) l a
  | .p :: rs, b, o :: l, a => by
    unfold fillP
    obtain ⟨h1, h2⟩ := fillP_keep gs rs (b + 1) l (a.put o.dst ((cont b).2 (gs b)))
    exact ⟨by rw [h1, size_put], by rw [h2, defers_put]⟩
theorem fillP_ne (gs : Nat → Nat) : ∀ (rs : List Role) (b : Nat) (l : List Oper) (a : Act) (t : Tmp), (∀ (i : Nat) (o : Oper), l[i]? = some o → rs[i]? = some Role.p → o.dst ≠ some t) → slotOf (fillP cont gs b rs l a) t = slotOf a t
  | [], _, _, _, _, _ => by unfold fillP; rfl
  | .p :: rs, b, [], a, _, _ => by unfold fillP; rfl
  | .q :: rs, b, [], a, _, _ => by unfold fillP; rfl
  | .c _ _ :: rs, b, [], a, _, _ => by unfold fillP; rfl
  | .e _ :: rs, b, [], a, _, _ => by unfold fillP; rfl
  | .q :: rs, b, o :: l, a, t, h => by
    unfold fillP
    exact fillP_ne gs rs (b + 1) l a t (fun i o ho hr => h (i + 1) o (by simpa using ho) (by simpa using hr))
  | .c _ _ :: rs, b, o :: l, a, t, h => by
    unfold fillP
    exact fillP_ne gs rs (b + 1) l a t (fun i o ho hr => h (i + 1) o (by simpa using ho) (by simpa using hr))
  | .e _ :: rs, b, o :: l, a, t, h => by
    unfold fillP
    exact fillP_ne gs rs (b + 1) l a t (fun i o ho hr => h (i + 1) o (by simpa using ho) (by simpa using hr))
  | .p :: rs, b, o :: l, a, t, h => by
    unfold fillP
    rw [fillP_ne gs rs (b + 1) l _ t (fun i o ho hr => h (i + 1) o (by simpa using ho) (by simpa using hr))]
    exact slot_put_ne _ (h 0 o (by simp) (by simp))
theorem fillP_at (gs : Nat → Nat) : ∀ (rs : List Role) (b : Nat) (l : List Oper) (a : Act) (n i : Nat) (o : Oper) (t : Tmp), dstsOk n l = true → n = a.tmps.size → l[i]? = some o → rs[i]? = some Role.p → o.dst = some t → slotOf (fillP cont gs b rs l a) t = (cont (b + i)).2 (gs (b + i))
  | [], _, _, _, _, _, _, _, _, _, _, hr, _ => by simp at hr
  | _ :: rs, b, [], a, _, _, _, _, _, _, ho, _, _ => by simp at ho
  | .q :: rs, b, o :: l, a, n, 0, o', t, hd, hn, ho, hr, ht => by simp at hr
  | .c _ _ :: rs, b, o :: l, a, n, 0, o', t, hd, hn, ho, hr, ht => by simp at hr
  | .e _ :: rs, b, o :: l, a, n, 0, o', t, hd, hn, ho, hr, ht => by simp at hr
  | .p :: rs, b, o :: l, a, n, 0, o', t, hd, hn, ho, hr, ht => by
    have e : o = o' := by simpa using ho
    subst e
    unfold fillP
    simp only [dstsOk, Bool.and_eq_true] at hd
    have h1 := hd.1
    rw [ht] at h1
    simp only [Bool.and_eq_true, decide_eq_true_eq, List.all_eq_true] at h1
    rw [fillP_ne gs rs (b + 1) l _ t (fun i o' ho' _ => by simpa using h1.2 o' (List.mem_of_getElem? ho')), ht]
    exact slot_put_same _ (by rw [← hn]; exact h1.1)
  | r :: rs, b, o :: l, a, n, i + 1, o', t, hd, hn, ho, hr, ht => by
    simp only [dstsOk, Bool.and_eq_true] at hd
    have key : ∀ a' : Act, a'.tmps.size = n → slotOf (fillP cont gs (b + 1) rs l a') t = (cont (b + (i + 1))).2 (gs (b + (i + 1))) := by
      intro a' ha'
      have := fillP_at gs rs (b + 1) l a' n i o' t hd.2 ha'.symm (by simpa using ho) (by simpa using hr) ht
      rw [this, show b + 1 + i = b + (i + 1) from by omega]
    cases r <;> unfold fillP
    · exact key _ hn.symm
    · exact key _ (by rw [size_put]; exact hn.symm)
    · exact key _ hn.symm
    · exact key _ hn.symm
end
structure MidP (P : Program) (ops : Array Oper) (k : Nat) (rs : List Role) (cont : Nat → Obj × (Nat → Value)) (S : Nat → Prop) (J : Nat → World → Prop) (effs : List Nat) (a0 af : Act) (W : World) (n : Nat) (gs : Nat → Nat) (listed : Array Bool) (a : Act) (w : World) : Prop where
  size : listed.size = ops.size
  closed : ∀ j oj, ops[j]? = some oj → listed.getD j false = true → ∀ e ∈ oj.after, Region.binds .any e = true → listed.getD e.on false = true
  tail : ∀ t, k ≤ t → t < ops.size → listed.getD t true = false
  ahd : Touch S W w
  nle : n ≤ effs.length
  cnt : ∀ q i, effs[q]? = some i → (listed.getD i false = true ↔ q < n)
  jn : J n w
  defers : a.defers = a0.defers
  tsize : a.tmps.size = a0.tmps.size
  put : ∀ j o t, j < k → ops[j]? = some o → o.dst = some t → listed.getD j false = true → rs[j]? ≠ some Role.p → slotOf a t = slotOf af t
  same : ∀ t, (∀ j o, j < k → ops[j]? = some o → listed.getD j false = true → o.dst ≠ some t) → slotOf a t = slotOf a0 t
  spec : ∀ j o t, j < k → ops[j]? = some o → o.dst = some t → listed.getD j false = true → rs[j]? = some Role.p → slotOf a t = (cont j).2 (gs j) ∧ W.heap.size ≤ gs j ∧ w.heap[gs j]? = some (cont j).1
  apart : ∀ j j', j < k → j' < k → j ≠ j' → listed.getD j false = true → listed.getD j' false = true → rs[j]? = some Role.p → rs[j']? = some Role.p → gs j ≠ gs j'
section
variable {P : Program} {Q : Exit → Act → World → Prop} {W : World} {a0 af : Act} {l : List Oper} {k : Nat} {rs : List Role} {cont : Nat → Obj × (Nat → Value)}
end
end Ef
end Go.Proofs.Ytmebpglkeedaoaa
namespace Go.Proofs.Ytmebpglkeedaoaa
open Go.RowKit
theorem ownBelow {w w' : World} {B e z n cap : Nat} {A : Option Addr} {xs : List Value} (h : w.ownsRow B e z (.slice A n cap) n xs) (hb : Below w.heap.size w w') : w'.ownsRow B e z (.slice A n cap) n xs := by
  refine ⟨h.1, ?_⟩
  rcases h.2 with h2 | ⟨k, c, cur, hv, hb', hg, r⟩
  · exact .inl h2
  · cases hv
    exact .inr ⟨k, cap, cur, rfl, hb', by rw [hb.block k (Array.getElem?_eq_some_iff.1 hg).1]; exact hg, r⟩
theorem ownGrown {w w' : World} {row : Option Nat} {B e z n cap : Nat} {A : Option Addr} {xs : List Value} (h : w.ownsRow B e z (.slice A n cap) n xs) (hg : w.grownBy w' row) (hne : ∀ k, OwnB A k → some k ≠ row) : w'.ownsRow B e z (.slice A n cap) n xs := by
  refine ⟨h.1, ?_⟩
  rcases h.2 with h2 | ⟨k, c, cur, hv, hb', hgk, r⟩
  · exact .inl h2
  · cases hv
    exact .inr ⟨k, cap, cur, rfl, hb', by rw [hg.block k (Array.getElem?_eq_some_iff.1 hgk).1 (hne k ⟨_, rfl, rfl⟩)]; exact hgk, r⟩
theorem ownLt {w : World} {B e z n cap : Nat} {A : Option Addr} {xs : List Value} (h : w.ownsRow B e z (.slice A n cap) n xs) {k : Nat} (hk : OwnB A k) : k < w.heap.size ∧ B ≤ k := by
  obtain ⟨a, rfl, rfl⟩ := hk
  rcases h.2 with ⟨h2, _⟩ | ⟨g, c, cur, hv, hb, hg, _⟩
  · cases h2
  · cases hv
    exact ⟨(Array.getElem?_eq_some_iff.1 hg).1, hb⟩
theorem ownSet {w : World} {B e z n cap : Nat} {A : Option Addr} {xs : List Value} (h : w.ownsRow B e z (.slice A n cap) n xs) {p : Addr} (hp : ¬ OwnB A p.block) (u : Value) : (w.setCell p u).ownsRow B e z (.slice A n cap) n xs := by
  refine ⟨h.1, ?_⟩
  rcases h.2 with h2 | ⟨k, c, cur, hv, hb', hg, r⟩
  · exact .inl h2
  · cases hv
    exact .inr ⟨k, cap, cur, rfl, hb', by rw [Below.heap_setCell _ _ _ _ (fun e => hp ⟨_, rfl, e⟩)]; exact hg, r⟩
theorem St.grown {w W W' : World} {l : List BlkRow} {row : Option Nat} (h : St w l W) (hg : W.grownBy W' row) (hr : ∀ k, row = some k → w.heap.size ≤ k ∧ ∀ x, x ∈ l → x.1 ≠ k) : St w l W' :=
  ⟨h.1.grown hg h.1.size (fun k hk => (hr k hk).1), fun x hx => (h.2.1 x hx).grown hg (fun e => (hr _ e.symm).2 x hx rfl), h.2.2⟩
theorem St.add {w W W' : World} {l : List BlkRow} (h : St w l W) (hb : Below W.heap.size W W') {g : Nat} {t : TypeId} {cs : List Value} (hg : W.heap.size ≤ g) (k : Blk W' g t cs) : St w ((g, t, cs) :: l) W' := ⟨h.1.trans (hb.mono h.1.size), Has.cons k (h.2.1.below hb), by
  rw [List.map_cons, List.nodup_cons]
  exact ⟨h.apart' hg, h.2.2⟩⟩
theorem St.tail {w W : World} {l : List BlkRow} {x : BlkRow} (h : St w (x :: l) W) : St w l W := ⟨h.1, h.2.1.sub (fun y hy => by simp [hy]), by have := h.2.2; rw [List.map_cons, List.nodup_cons] at this; exact this.2⟩
theorem ownTouch {S : Nat → Prop} {w w' : World} {B e z n cap : Nat} {A : Option Addr} {xs : List Value} (h : w.ownsRow B e z (.slice A n cap) n xs) (k : Touch S w w') (hn : ∀ b, OwnB A b → ¬ S b) : w'.ownsRow B e z (.slice A n cap) n xs := by
  refine ⟨h.1, ?_⟩
  rcases h.2 with h2 | ⟨g, c, cur, hv, hb', hgk, r⟩
  · exact .inl h2
  · cases hv
    exact .inr ⟨g, cap, cur, rfl, hb', by rw [k.block g (Array.getElem?_eq_some_iff.1 hgk).1 (hn g ⟨_, rfl, rfl⟩)]; exact hgk, r⟩
theorem blk_type_ne {W : World} {g g' : Nat} {t t' : TypeId} {cs cs' : List Value} (h : Blk W g t cs) (h' : Blk W g' t' cs') (hn : t ≠ t') : g' ≠ g := by
  intro e
  subst e
  unfold Blk at h h'
  rw [h] at h'
  simp only [Option.some.injEq, Obj.cells.injEq] at h'
  exact hn h'.2.1
end Go.Proofs.Ytmebpglkeedaoaa
namespace Go.Proofs.Ytmebpglkeedaoaa
open Go.RowKit Go.WideShapes Go.ChangeShapes
section
variable {H : Type} {enc : TypeId × Value → H} {P : Program}
theorem all_stays (hl : laidOutB P = true) {W W' : World} {sp' : Nat → Bool} : ∀ {ts : List TypeId} {vs : List Value} {ds : List (DataW H)} {ps : List MemPlace}, (ts.all fun t => P.readableRec t && decide (t < P.types.size)) = true →
    DataW.TrodAll enc P W 0 (fun _ => true) true ts vs ds ps → (∀ p ∈ ps, W.sameAt W' p) → (∀ p ∈ ps, sp' p.block = true) → DataW.TrodAll enc P W' 0 sp' true ts vs ds ps
  | [], [], [], _, _, h, _, _ => h
  | t :: ts, v :: vs, d :: ds, _, hr, ⟨p, q, h1, h2, e⟩, hsame, hs => by
    subst e
    simp only [List.all_cons, Bool.and_eq_true, decide_eq_true_eq] at hr
    refine ⟨p, q, WideElems.Trod_stays hl hr.1.1 hr.1.2 h1 (fun x hx => hsame x (List.mem_append_left _ hx)) (fun x hx => hs x (List.mem_append_left _ hx)), ?_, rfl⟩
    exact all_stays hl (by simpa using hr.2) h2 (fun x hx => hsame x (List.mem_append_right _ hx)) (fun x hx => hs x (List.mem_append_right _ hx))
theorem law_post {f : Func} {s : ChangeSpec} {apart fresh handsOn again : Bool} {W W' : World} {args : Array Value} {ds : List (DataW H)} {p : List MemPlace}
    (hl : laidOutB P = true) (hr : (f.params.toList.all fun t => P.readableRec t && decide (t < P.types.size)) = true) (hsv : s.vars = [])
    (hW : DataW.Whole enc P f.params.toList s.vars apart W args.toList ds [] p)
    (hA : DataW.TrodAll enc P W 0 (fun _ => true) true f.params.toList args.toList ds p)
    (hsr : (s.fn H (ds ++ [])).results = [.lit (.bool true)]) (hsa : (s.fn H (ds ++ [])).args = ds) (hsvv : (s.fn H (ds ++ [])).vars = [])
    (hres : ∀ (b : Nat) (sp : Nat → Bool) (hd : Bool), DataW.TrodAll enc P W' b sp hd f.resultTypes.toList ((Value.bool true).resultList f.resultTypes.size) [.lit (.bool true)] [])
    (hb : Below W.heap.size W W')
    (hok : ∀ (j : Nat) (t : TypeId) (r : Value), f.resultTypes[j]? = some t → ((Value.bool true).resultList f.resultTypes.size)[j]? = some r → Value.okWide P W' .any 0 t r) :
    s.post enc P f apart fresh handsOn again W args (.bool true) W' := by
  have hlt : ∀ x ∈ p, x.block < W.heap.size := fun x hx => hW.lt x hx
  have hargs : ∀ sp : Nat → Bool, (∀ x ∈ p, sp x.block = true) → DataW.TrodAll enc P W' 0 sp true f.params.toList args.toList (s.fn H (ds ++ [])).args p := fun sp hsp => by
    rw [hsa]
    exact all_stays hl hr hA (fun x hx => hb.same (hlt x hx)) hsp
  have hvars : ∀ sp : Nat → Bool, DataW.TrodVars enc P W' sp s.vars (s.fn H (ds ++ [])).vars [] := fun sp => by rw [hsv, hsvv]; rfl
  have hres' : ∀ (b : Nat) (sp : Nat → Bool) (hd : Bool), DataW.TrodAll enc P W' b sp hd f.resultTypes.toList ((Value.bool true).resultList f.resultTypes.size) (s.fn H (ds ++ [])).results [] := fun b sp hd => by rw [hsr]; exact hres b sp hd
  have hold : ∀ x ∈ p, (fun b => decide (b < W.heap.size)) x.block = true := fun x hx => by simpa using hlt x hx
  refine ⟨ds, [], p, [], p, [], hW, hres' _ _ _, hargs _ hold, hvars _, World.keptBut_mono (fun x hx => ⟨hx, Or.inr (by simpa using hx)⟩) (hb.frame (· ∈ p)), fun _ => ?_⟩
  · obtain ⟨_, _, _, _, _, hz, hn⟩ := hW
    refine ⟨hok, _, _, ([] ++ p) ++ [], ⟨[] ++ p, [], trodAll_append (hargs _ (fun _ _ => rfl)) (hres' _ _ _), hvars _, rfl, ?_, ?_⟩, ?_⟩
    · intro b off hp
      have hin : MemPlace.cell b off ∈ p := by simpa using hp
      rw [hb.frozen (hlt _ hin)]
      exact hz b off hin
    · intro ha
      simpa using hn ha
    · intro x hx _
      simpa using hx
end
end Go.Proofs.Ytmebpglkeedaoaa
namespace Go.Proofs.Ytmebpglkeedaoaa
open Go.RowKit Go.WideShapes Go.ChangeShapes
section
variable {H : Type} {enc : TypeId × Value → H} {P : Program} {w : World} {base : Nat} {spare : Nat → Bool} {held : Bool}
end
end Go.Proofs.Ytmebpglkeedaoaa
namespace Go.Proofs.Ytmebpglkeedaoaa
open Go.RowKit Go.WideShapes Go.ChangeShapes Go.Deep
inductive Sh where
  | nil
  | i (k : IntKind) (r : Sh)
  | b (r : Sh)
  | s (sz : Nat) (es : Sh) (r : Sh)
namespace Sh
def app : Sh → Sh → Sh
  | nil, t => t
  | i k r, t => i k (app r t)
  | b r, t => b (app r t)
  | s sz es r, t => s sz es (app r t)
def len : Sh → Nat
  | nil => 0
  | i _ r => len r + 1
  | b r => len r + 1
  | s _ _ r => len r + 1
theorem len_app : ∀ a b : Sh, (app a b).len = a.len + b.len
  | nil, _ => by simp [app, len]
  | i _ r, t => by simp [app, len, len_app r t]; omega
  | b r, t => by simp [app, len, len_app r t]; omega
  | s _ _ r, t => by simp [app, len, len_app r t]; omega
end Sh
def Rd (w : World) : Sh → List Value → Prop
  | .nil, l => l = []
  | .i k r, l => ∃ n vs, l = .int k n :: vs ∧ (Lit.int k n).wf = true ∧ Rd w r vs
  | .b r, l => ∃ b vs, l = .bool b :: vs ∧ Rd w r vs
  | .s sz es r, l => ∃ v vs, l = v :: vs ∧ Rd w r vs ∧ (v = .slice none 0 0 ∨ ∃ a len cap, v = .slice (some a) len cap ∧ len ≤ cap ∧ cap ≤ maxLen ∧
      ∀ i, i < len → ∃ cs, cs.length = sz ∧ (∀ j u, cs[j]? = some u → w.cell? ((a.add (i * sz)).add j) = some u) ∧ Rd w es cs)
theorem rd_app {w : World} : ∀ {s t : Sh} {l m : List Value}, Rd w s l → Rd w t m → Rd w (s.app t) (l ++ m)
  | .nil, _, _, _, h, h' => by
    have : _ = [] := h
    subst this
    exact h'
  | .i _ _, _, _, _, ⟨n, vs, e, hw, h⟩, h' => ⟨n, vs ++ _, by rw [e]; rfl, hw, rd_app h h'⟩
  | .b _, _, _, _, ⟨n, vs, e, h⟩, h' => ⟨n, vs ++ _, by rw [e]; rfl, rd_app h h'⟩
  | .s _ _ _, _, _, _, ⟨v, vs, e, h, hs⟩, h' => ⟨v, vs ++ _, by rw [e]; rfl, rd_app h h', hs⟩
def shFields (g : TypeId → Option Sh) : List Field → Nat → Option Sh
  | [], _ => some .nil
  | f :: fs, off => if f.offset = off then
      match g f.type with
      | some ks => match shFields g fs (off + ks.len) with
        | some r => some (ks.app r)
        | none => none
      | none => none
    else none
def shTimes (ks : Sh) : Nat → Sh
  | 0 => .nil
  | n + 1 => ks.app (shTimes ks n)
def shK (P : Program) : Nat → TypeId → Option Sh
  | 0, _ => none
  | f + 1, t =>
    let r := match P.underlying t with
      | some (.int k) => some (Sh.i k .nil)
      | some .bool => some (Sh.b .nil)
      | some (.slice e) => match shK P f e with
        | some es => some (Sh.s (P.cellsOf e) es .nil)
        | none => none
      | some (.struct fs) => shFields (shK P f) fs.toList 0
      | some (.array n e) => match shK P f e with
        | some ks => some (shTimes ks n)
        | none => none
      | _ => none
    match r with
    | some ks => if ks.len = P.cellsOf t then some ks else none
    | none => none
section
variable {H : Type} {enc : TypeId × Value → H} {P : Program} {w : World} {base : Nat} {spare : Nat → Bool} {held : Bool}
theorem shFields_open (g : TypeId → Option Sh) (n : Nat)
    (hg : ∀ t ks, g t = some ks → ks.len = P.cellsOf t ∧ ∀ cs x, DataW.trod enc P w base spare held n t cs = some x → Rd w ks cs) :
    ∀ (fs : List Field) (off : Nat) (ks : Sh) (cs : List Value), shFields g fs off = some ks → cs.length = off + ks.len →
      (∀ f ∈ fs, ∃ x, DataW.trod enc P w base spare held n f.type ((cs.drop f.offset).take (P.cellsOf f.type)) = some x) → Rd w ks (cs.drop off)
  | [], off, ks, cs, h, hl, _ => by
    simp only [shFields, Option.some.injEq] at h
    subst h
    rw [List.drop_eq_nil_of_le (by simp [Sh.len] at hl; omega)]
    rfl
  | f :: fs, off, ks, cs, h, hl, hx => by
    unfold shFields at h
    split at h
    · rename_i ho
      split at h
      · rename_i k1 hk1
        split at h
        · rename_i k2 hk2
          simp only [Option.some.injEq] at h
          subst h
          obtain ⟨x, hx0⟩ := hx f (by simp)
          obtain ⟨hlen, hop⟩ := hg _ _ hk1
          have h1 := hop _ _ hx0
          rw [ho, ← hlen] at h1
          have h2 := shFields_open g n hg fs (off + k1.len) k2 cs hk2 (by rw [Sh.len_app] at hl; omega) (fun f' hf' => hx f' (by simp [hf']))
          have := rd_app h1 h2
          rw [← List.drop_drop] at this
          rwa [List.take_append_drop] at this
        · cases h
      · cases h
    · cases h
theorem shTimes_len (ks : Sh) : ∀ n, (shTimes ks n).len = n * ks.len
  | 0 => by simp [shTimes, Sh.len]
  | n + 1 => by rw [shTimes, Sh.len_app, shTimes_len ks n, Nat.add_mul]; omega
theorem shTimes_open {ks : Sh} {c : Nat} (hc : ks.len = c) : ∀ (m i : Nat) (cs : List Value), cs.length = (i + m) * c →
    (∀ j, j < m → Rd w ks ((cs.drop ((i + j) * c)).take c)) → Rd w (shTimes ks m) (cs.drop (i * c))
  | 0, i, cs, hl, _ => by
    rw [List.drop_eq_nil_of_le (by simp at hl; omega)]
    rfl
  | m + 1, i, cs, hl, h => by
    have h1 := h 0 (by omega)
    have h2 := shTimes_open hc m (i + 1) cs (by rw [hl]; congr 1; omega) (fun j hj => by
      have := h (j + 1) (by omega)
      rwa [show i + (j + 1) = i + 1 + j from by omega] at this)
    have := rd_app h1 h2
    rw [show (i + 1) * c = (i + 0) * c + c from by rw [Nat.add_mul]; simp, ← List.drop_drop, List.take_append_drop] at this
    show Rd w (ks.app (shTimes ks m)) _
    simpa using this
theorem sh_open : ∀ (fuel : Nat) (t : TypeId) (ks : Sh), shK P fuel t = some ks →
    ks.len = P.cellsOf t ∧ ∀ (n : Nat) (cs : List Value) (x : DataW H × List MemPlace), DataW.trod enc P w base spare held n t cs = some x → Rd w ks cs
  | 0, _, _, h => by cases h
  | f + 1, t, ks, h => by
    have hrec := fun t' ks' (h' : shK P f t' = some ks') => sh_open f t' ks' h'
    unfold shK at h
    simp only at h
    split at h
    · rename_i r hr
      split at h
      · rename_i hlen
        simp only [Option.some.injEq] at h
        subst h
        refine ⟨hlen, fun n cs x hx => ?_⟩
        split at hr
        · rename_i k hu
          simp only [Option.some.injEq] at hr
          subst hr
          obtain ⟨m, rfl, _, hwf⟩ := DataW.trod_int hu hx
          exact ⟨m, [], rfl, hwf, rfl⟩
        · rename_i hu
          simp only [Option.some.injEq] at hr
          subst hr
          obtain ⟨b, rfl, _⟩ := DataW.trod_bool hu hx
          exact ⟨b, [], rfl, rfl⟩
        · rename_i e hu
          split at hr
          · rename_i es hes
            simp only [Option.some.injEq] at hr
            subst hr
            rcases open_slice hu hx with ⟨rfl, _⟩ | ⟨a, len, cap, m, n', D, Pl, rfl, _, hl, hm, hmm, _, hi⟩
            · exact ⟨_, [], rfl, rfl, .inl rfl⟩
            · refine ⟨_, [], rfl, rfl, .inr ⟨a, len, cap, rfl, hl, hm, fun i hil => ?_⟩⟩
              have hlm : len ≤ m := by rw [hmm]; split <;> omega
              obtain ⟨cs', hc, ht⟩ := hi i (by omega)
              obtain ⟨_, hcl, hat⟩ := World.cells?_some hc
              refine ⟨cs', hcl, fun j u hj => ?_, (hrec e es hes).2 n' _ _ ht⟩
              have hjl : j < cs'.length := (List.getElem?_eq_some_iff.1 hj).1
              rw [hat j (by omega), hj]
          · cases hr
        · rename_i fs hu
          obtain ⟨xs, m, _, _, hcl, hxl, hf⟩ := DataW.trod_struct hu hx
          have := shFields_open (enc := enc) (P := P) (w := w) (base := base) (spare := spare) (held := held) (shK P f) m (fun t' ks' h' => ⟨(hrec t' ks' h').1, fun cs x => (hrec t' ks' h').2 m cs x⟩) fs.toList 0 r cs hr (by omega) (fun fd hfd => by
            obtain ⟨i, hi, he⟩ := List.getElem_of_mem hfd
            have hi' : fs[i]? = some fd := by
              rw [← he]
              simp at hi
              simp [hi]
            have h2 := hf i fd hi'
            have hlt : i < xs.length := by simp at hi; omega
            rw [List.getElem?_eq_getElem hlt] at h2
            exact ⟨_, h2⟩)
          simpa using this
        · rename_i nn e hu
          split at hr
          · rename_i ke hke
            simp only [Option.some.injEq] at hr
            subst hr
            obtain ⟨xs, m, _, _, hcl, hxl, hf⟩ := DataW.trod_array hu hx
            obtain ⟨hel, hop⟩ := hrec e ke hke
            have hcs : cs.length = (0 + nn) * P.cellsOf e := by
              rw [hcl, ← hlen, shTimes_len, hel, Nat.zero_add]
            have := shTimes_open (w := w) hel nn 0 cs hcs (fun j hj => by
              have h2 := hf j hj
              have hlt : j < xs.length := by omega
              rw [List.getElem?_eq_getElem hlt] at h2
              rw [Nat.zero_add]
              exact hop m _ _ h2)
            simpa using this
          · cases hr
        · cases hr
      · cases h
    · cases h
theorem sh_agg {r : Reach} {b0 fuel : Nat} {t : TypeId} {fs : Array Field} {ks : Sh} {v : Value} {d : DataW H} {p : List MemPlace} (hs : P.underlying t = some (.struct fs)) (hk : shK P fuel t = some ks)
    (hv : Value.okWide P w r b0 t v) (h : DataW.Trod enc P w base spare held t v d p) : ∃ l, v = .agg ⟨l⟩ ∧ Rd w ks l := by
  obtain ⟨cs, rfl, _⟩ := okWide_struct hs hv
  obtain ⟨n, hn⟩ := h
  obtain ⟨l⟩ := cs
  exact ⟨l, rfl, (sh_open fuel t ks hk).2 n _ _ hn⟩
theorem sh_slice {r : Reach} {b0 fuel : Nat} {t e : TypeId} {sz : Nat} {es : Sh} {v : Value} {d : DataW H} {p : List MemPlace} (hs : P.underlying t = some (.slice e)) (hk : shK P fuel t = some (.s sz es .nil))
    (hv : Value.okWide P w r b0 t v) (h : DataW.Trod enc P w base spare held t v d p) : v = .slice none 0 0 ∨ ∃ a len cap, v = .slice (some a) len cap ∧ len ≤ cap ∧ cap ≤ maxLen ∧
      ∀ i, i < len → ∃ cs, cs.length = sz ∧ (∀ j u, cs[j]? = some u → w.cell? ((a.add (i * sz)).add j) = some u) ∧ Rd w es cs := by
  obtain ⟨n, hn⟩ := h
  have h1 := (sh_open fuel t _ hk).2 n _ _ hn
  have hc : v.cells = #[v] := by
    simp only [Value.okWide, hs] at hv
    cases v <;> simp_all [Cell.okWide, Cell.ok, Value.cells]
  rw [hc] at h1
  obtain ⟨v', vs, hv', hvs, hx⟩ := h1
  have hv'' : v' = v := by simp at hv'; exact hv'.1.symm
  subst hv''
  exact hx
end
theorem choose_list {α : Type} {n : Nat} {Q : Nat → α → Prop} (h : ∀ i, i < n → ∃ x, Q i x) : ∃ l : List α, l.length = n ∧ ∀ i x, l[i]? = some x → Q i x := by
  induction n with
  | zero => exact ⟨[], rfl, fun i x hx => by simp at hx⟩
  | succ n ih =>
    obtain ⟨l, hl, hq⟩ := ih (fun i hi => h i (by omega))
    obtain ⟨x, hx⟩ := h n (by omega)
    refine ⟨l ++ [x], by simp [hl], fun i y hy => ?_⟩
    by_cases hi : i < l.length
    · rw [List.getElem?_append_left hi] at hy
      exact hq i y hy
    · rw [List.getElem?_append_right (by omega)] at hy
      have h0 : i - l.length = 0 := by
        rcases Nat.eq_zero_or_pos (i - l.length) with h0 | h0
        · exact h0
        · rw [List.getElem?_eq_none (by simp; omega)] at hy; cases hy
      rw [h0] at hy
      simp at hy
      subst hy
      obtain rfl : i = n := by omega
      exact hx
theorem add_zero' (a : Addr) : a.add 0 = a := rfl
end Go.Proofs.Ytmebpglkeedaoaa
namespace Go.Proofs.Ytmebpglkeedaoaa
namespace Dp
structure Arc where
  fr : Int
  «to» : Int
  cap : Int
  cost : Int
  deriving Inhabited, DecidableEq
structure Net where
  sup : List Int
  arcs : List Arc
def inB (x lo hi : Int) : Bool := decide (lo ≤ x ∧ x ≤ hi)
def arcOk (n : Nat) (a : Arc) : Bool := decide ((0 ≤ a.fr ∧ a.fr < n) ∧ (0 ≤ a.to ∧ a.to < n) ∧ a.fr ≠ a.to ∧ (0 ≤ a.cap ∧ a.cap ≤ 1048576) ∧ (-1048576 ≤ a.cost ∧ a.cost ≤ 1048576))
def supOk (x : Int) : Bool := decide (-268435456 ≤ x ∧ x ≤ 268435456)
def manyB (N : Net) : Bool := decide (N.sup.length < 1 ∨ 1024 < N.sup.length ∨ 2048 < N.arcs.length)
def sum : List Int → Int
  | [] => 0
  | x :: l => x + sum l
def abs (x : Int) : Int := max x (-x)
def okB (N : Net) : Bool := N.sup.all supOk && (N.arcs.all (arcOk N.sup.length) && (decide (sum N.sup = 0) && decide (sum (N.sup.map abs) ≤ 268435456)))
def chE (N : Net) : Int := if manyB N = true then 6 else if okB N = true then 0 else 2
theorem sum_append : ∀ a b : List Int, sum (a ++ b) = sum a + sum b
  | [], b => by simp [sum]
  | x :: a, b => by simp [sum, sum_append a b]; omega
theorem sum_take (l : List Int) (k : Nat) (h : k < l.length) : sum (l.take (k + 1)) = sum (l.take k) + l.getD k 0 := by
  rw [List.take_succ_eq_append_getElem h, sum_append, List.getD_eq_getElem?_getD, List.getElem?_eq_getElem h]
  simp [sum]
theorem sum_bd {B : Int} (hB : 0 ≤ B) : ∀ (l : List Int), (∀ x, x ∈ l → -B ≤ x ∧ x ≤ B) → -(B * l.length) ≤ sum l ∧ sum l ≤ B * l.length
  | [], _ => by simp [sum]
  | x :: l, h => by
    have h1 := h x (by simp)
    have h2 := sum_bd hB l (fun y hy => h y (by simp [hy]))
    simp only [sum, List.length_cons]
    have : B * ((l.length + 1 : Nat) : Int) = B * l.length + B := by rw [Int.natCast_add, Int.mul_add]; simp
    omega
theorem sum_nonneg : ∀ (l : List Int), (∀ x, x ∈ l → 0 ≤ x) → 0 ≤ sum l
  | [], _ => by simp [sum]
  | x :: l, h => by
    have h1 := h x (by simp)
    have h2 := sum_nonneg l (fun y hy => h y (by simp [hy]))
    simp only [sum]
    omega
theorem getD_map (f : Int → Int) (l : List Int) (k : Nat) (h : k < l.length) : (l.map f).getD k 0 = f (l.getD k 0) := by
  simp [List.getD_eq_getElem?_getD, h]
end Dp
end Go.Proofs.Ytmebpglkeedaoaa
namespace Go.Proofs.Ytmebpglkeedaoaa
open Go.RowKit Dp
def IntsAt (w : World) (A : Option Addr) (xs : List Int) : Prop :=
  ∀ i, i < xs.length → ∃ ad, A = some ad ∧ ad.block < w.heap.size ∧ w.cell? (ad.add i) = some (.int .i64 (xs.getD i 0))
theorem IntsAt.below {w w1 : World} {A : Option Addr} {l : List Int} (h : IntsAt w A l) {B : Nat} (hb : Below B w w1) (hB : w.heap.size ≤ B) : IntsAt w1 A l := by
  intro i hi
  obtain ⟨ad, e, hlt, c0⟩ := h i hi
  exact ⟨ad, e, Nat.lt_of_lt_of_le hlt hb.size, (hb.cell (by rw [block_add]; omega)).trans c0⟩
theorem ints_of {w : World} {v : Value} (h : v = .slice none 0 0 ∨ ∃ a len cap, v = .slice (some a) len cap ∧ len ≤ cap ∧ cap ≤ maxLen ∧
      ∀ i, i < len → ∃ cs, cs.length = 1 ∧ (∀ j u, cs[j]? = some u → w.cell? ((a.add (i * 1)).add j) = some u) ∧ Rd w (.i .i64 .nil) cs) :
    ∃ (A : Option Addr) (xs : List Int) (cap : Nat), v = .slice A xs.length cap ∧ xs.length ≤ cap ∧ cap ≤ 9223372036854775807 ∧ IntsAt w A xs := by
  rcases h with rfl | ⟨a, len, cap, rfl, hl, hm, hi⟩
  · exact ⟨none, [], 0, rfl, Nat.le_refl _, by omega, fun i hi => by simp at hi⟩
  · obtain ⟨xs, hbl, hbs⟩ := choose_list (α := Int) (n := len) (Q := fun i x => w.cell? ((a.add (i * 1)).add 0) = some (.int .i64 x)) (fun i hil => by
      obtain ⟨cs, _, hc, n0, _, rfl, _, rfl⟩ := hi i hil
      exact ⟨n0, hc 0 _ rfl⟩)
    refine ⟨some a, xs, cap, by rw [hbl], by omega, by unfold maxLen at hm; omega, fun i hi => ⟨a, rfl, ?_⟩⟩
    have hg : xs[i]? = some (xs.getD i 0) := by rw [List.getD_eq_getElem?_getD, List.getElem?_eq_getElem hi]; rfl
    have h0 := hbs i _ hg
    rw [add_zero', Nat.mul_one] at h0
    have hb := World.block_lt_of_cell? _ _ h0
    rw [block_add] at hb
    exact ⟨hb, h0⟩
def ArcsAt (w : World) (A : Option Addr) (l : List Arc) : Prop :=
  ∀ i, i < l.length → ∃ ad, A = some ad ∧ ad.block < w.heap.size ∧ w.cell? (ad.add (i * 4)) = some (.int .i64 (l.getD i default).fr) ∧ w.cell? ⟨(ad.add (i * 4)).block, (ad.add (i * 4)).off + 1, none⟩ = some (.int .i64 (l.getD i default).to) ∧ w.cell? ⟨(ad.add (i * 4)).block, (ad.add (i * 4)).off + 2, none⟩ = some (.int .i64 (l.getD i default).cap) ∧ w.cell? ⟨(ad.add (i * 4)).block, (ad.add (i * 4)).off + 3, none⟩ = some (.int .i64 (l.getD i default).cost)
theorem ArcsAt.below {w w1 : World} {A : Option Addr} {l : List Arc} (h : ArcsAt w A l) {B : Nat} (hb : Below B w w1) (hB : w.heap.size ≤ B) : ArcsAt w1 A l := by
  intro i hi
  obtain ⟨ad, e, hlt, c0, c1, c2, c3⟩ := h i hi
  have hbl : (ad.add (i * 4)).block < B := by rw [block_add]; omega
  exact ⟨ad, e, Nat.lt_of_lt_of_le hlt hb.size, (hb.cell hbl).trans c0, (hb.cell (p := ⟨_, _, none⟩) hbl).trans c1, (hb.cell (p := ⟨_, _, none⟩) hbl).trans c2, (hb.cell (p := ⟨_, _, none⟩) hbl).trans c3⟩
def NetAt (w : World) (A B : Option Addr) (N : Net) : Prop := IntsAt w A N.sup ∧ ArcsAt w B N.arcs
theorem NetAt.below {w w1 : World} {A B : Option Addr} {N : Net} (h : NetAt w A B N) {b : Nat} (hb : Below b w w1) (hB : w.heap.size ≤ b) : NetAt w1 A B N := ⟨h.1.below hb hB, h.2.below hb hB⟩
end Go.Proofs.Ytmebpglkeedaoaa
namespace Go.Proofs.Ytmebpglkeedaoaa
open Go.RowKit Dp
theorem node_c (i : Int) (b : Nat) (A : Option Addr) (n cap : Nat) (w : World) (hc : w.cell? ⟨b, 0, none⟩ = some (.slice A n cap)) :
    Calls Try.prog 61 #[.int .i64 i, .pointer (some ⟨b, 0, none⟩)] w fun e w' => e = .returned (.bool (decide (0 ≤ i ∧ i < n))) ∧ w = w' := by
  by_cases h0 : 0 ≤ i
  · go_enter Try.func61, Try.ntmps61
    go_wp2
    go_ret
    refine ⟨ret_bool ?_, rfl⟩
    simp [h0]
  · go_enter Try.func61, Try.ntmps61
    go_wp2
    go_ret
    refine ⟨ret_bool ?_, rfl⟩
    simp
    omega
theorem maxTwo (x y : Int) (ts : Array TypeId) (t : TypeId) (w : World) : (Builtin.max_ ts t #[.int .i64 x, .int .i64 y]).run Try.prog w = .ok (.int .i64 (max x y)) w := by
  have h : (Builtin.max_ ts t #[.int .i64 x, .int .i64 y]).run Try.prog w = .ok (.int .i64 (if y > x then y else x)) w := by simp [Builtin.max_]; rfl
  rw [h, ← gmax_eq]
theorem minTwo (x y : Int) (ts : Array TypeId) (t : TypeId) (w : World) : (Builtin.min_ ts t #[.int .i64 x, .int .i64 y]).run Try.prog w = .ok (.int .i64 (min x y)) w := by
  have h : (Builtin.min_ ts t #[.int .i64 x, .int .i64 y]).run Try.prog w = .ok (.int .i64 (if y < x then y else x)) w := by simp [Builtin.min_]; rfl
  rw [h, ← gmin_eq]
theorem getD_all {α : Type} [Inhabited α] {p : α → Bool} {l : List α} : l.all p = true ↔ ∀ j, j < l.length → p (l.getD j default) = true := by
  rw [List.all_eq_true]
  constructor
  · intro h j hj
    have := h l[j] (List.getElem_mem hj)
    simpa [List.getD, hj] using this
  · intro h x hx
    obtain ⟨i, hi, rfl⟩ := List.getElem_of_mem hx
    have := h i hi
    simpa [List.getD, hi] using this
theorem supAll {l : List Int} (k : Nat) (h : ∀ j, j < k → supOk (l.getD j 0) = true) (hk : k ≤ l.length) : (-(268435456 * k : Int) ≤ sum (l.take k) ∧ sum (l.take k) ≤ 268435456 * k) ∧ (0 ≤ sum ((l.map abs).take k) ∧ sum ((l.map abs).take k) ≤ 268435456 * k) := by
  have hm : ∀ x, x ∈ l.take k → -268435456 ≤ x ∧ x ≤ 268435456 := fun x hx => by
    obtain ⟨i, hi, rfl⟩ := List.getElem_of_mem hx
    simp only [List.length_take] at hi
    have hi1 : i < k := by omega
    have hi2 : i < l.length := by omega
    have := h i hi1
    simpa [supOk, List.getD, hi2] using this
  have hl : (l.take k).length = k := by simp; omega
  have h1 := sum_bd (B := 268435456) (by omega) (l.take k) hm
  have h2 := sum_bd (B := 268435456) (by omega) ((l.map abs).take k) (fun x hx => by
    rw [← List.map_take] at hx
    obtain ⟨y, hy, rfl⟩ := List.mem_map.1 hx
    have := hm y hy
    unfold abs; omega)
  have h3 := sum_nonneg ((l.map abs).take k) (fun x hx => by
    rw [← List.map_take] at hx
    obtain ⟨y, hy, rfl⟩ := List.mem_map.1 hx
    unfold abs; omega)
  have hl2 : ((l.map abs).take k).length = k := by simp; omega
  rw [hl] at h1
  rw [hl2] at h2
  omega
theorem chE_no {N : Net} (hm : manyB N = false) (h : okB N = false) : chE N = 2 := by simp [chE, hm, h]
theorem chE_sup {N : Net} (hm : manyB N = false) (k : Nat) (hk : k < N.sup.length) (h : supOk (N.sup.getD k 0) = false) : chE N = 2 := chE_no hm (by
  cases hb : okB N
  · rfl
  · simp only [okB, Bool.and_eq_true] at hb
    have := (getD_all (α := Int)).1 hb.1 k hk
    rw [show (default : Int) = 0 from rfl, h] at this
    cases this)
theorem chE_arc {N : Net} (hm : manyB N = false) (k : Nat) (hk : k < N.arcs.length) (h : arcOk N.sup.length (N.arcs.getD k default) = false) : chE N = 2 := chE_no hm (by
  cases hb : okB N
  · rfl
  · simp only [okB, Bool.and_eq_true] at hb
    have := getD_all.1 hb.2.1 k hk
    rw [h] at this
    cases this)
theorem chE_sum {N : Net} (hm : manyB N = false) (h : ¬ (sum N.sup = 0 ∧ sum (N.sup.map abs) ≤ 268435456)) : chE N = 2 := chE_no hm (by
  cases hb : okB N
  · rfl
  · simp only [okB, Bool.and_eq_true, decide_eq_true_eq] at hb
    exact absurd hb.2.2 h)
theorem chE_ok {N : Net} (hm : manyB N = false) (h1 : ∀ j, j < N.sup.length → supOk (N.sup.getD j 0) = true) (h2 : ∀ j, j < N.arcs.length → arcOk N.sup.length (N.arcs.getD j default) = true) (h3 : sum N.sup = 0) (h4 : sum (N.sup.map abs) ≤ 268435456) : chE N = 0 := by
  have : okB N = true := by
    simp only [okB, Bool.and_eq_true, decide_eq_true_eq]
    exact ⟨(getD_all (α := Int)).2 h1, getD_all.2 h2, h3, h4⟩
  simp [chE, hm, this]
theorem chE_many {N : Net} (h : manyB N = true) : chE N = 6 := by simp [chE, h]
end Go.Proofs.Ytmebpglkeedaoaa
namespace Go.Proofs.Ytmebpglkeedaoaa
open Go.RowKit Dp
set_option maxHeartbeats 2000000 in
set_option maxRecDepth 100000 in
theorem Check_c (A B : Option Addr) (N : Net) (n m cA cB : Nat) (w : World) (hn : n = N.sup.length) (hm : m = N.arcs.length) (hA : n ≤ cA ∧ cA ≤ 9223372036854775807) (hB : m ≤ cB ∧ cB ≤ 9223372036854775807) (hN : NetAt w A B N) :
    Calls Try.prog 20 #[.agg #[.slice A n cA, .slice B m cB]] w fun e w' => e = .returned (.int .i64 (chE N)) ∧ Below w.heap.size w w' := by
  have HN := Lib.hid hn
  have HM := Lib.hid hm
  have HNA := Lib.hid hN
  clear hn hm hN
  by_cases q1 : n < 1
  · have E := Lib.hid (chE_many (N := N) (by simp [manyB, ← HN.out, ← HM.out]; omega))
    go_enter Try.func20, Try.ntmps20
    go_wp2
    go_ret
    exact ⟨ret_int E.out.symm, (Below.refl _ _).alloc (Nat.le_refl _) _⟩
  by_cases q2 : 1024 < n
  · have E := Lib.hid (chE_many (N := N) (by simp [manyB, ← HN.out, ← HM.out]; omega))
    go_enter Try.func20, Try.ntmps20
    go_wp2
    go_ret
    exact ⟨ret_int E.out.symm, (Below.refl _ _).alloc (Nat.le_refl _) _⟩
  by_cases q3 : 2048 < m
  · have E := Lib.hid (chE_many (N := N) (by simp [manyB, ← HN.out, ← HM.out]; omega))
    go_enter Try.func20, Try.ntmps20
    go_wp2
    go_ret
    exact ⟨ret_int E.out.symm, (Below.refl _ _).alloc (Nat.le_refl _) _⟩
  have EM := Lib.hid (show manyB N = false from by simp [manyB, ← HN.out, ← HM.out]; omega)
  have B1 := Lib.hid (Blk.new' w #[.slice A n cA, .slice B m cB] 25)
  have HB1 := Lib.hid ((Below.refl w.heap.size w).alloc (Nat.le_refl _) (.cells #[.slice A n cA, .slice B m cB] 25))
  go_enter Try.func20, Try.ntmps20
  go_wp2_with fail
  generalize w.alloc (.cells #[.slice A n cA, .slice B m cB] 25) = w1 at B1 HB1 ⊢
  have N1 := Lib.hid (HNA.out.below HB1.out (Nat.le_refl _))
  have cA0 := B1.out.cell 0 rfl
  have cB0 := B1.out.cell 1 rfl
  have bA0 := B1.out.lt
  go_loop [3, 4, 6, 29] (fun s a _ i => ∃ k : Nat, k ≤ n ∧ i = .int .i64 k ∧ s = .int .i64 (sum (N.sup.take k)) ∧ a = .int .i64 (sum ((N.sup.map abs).take k)) ∧ Hid (∀ j, j < k → supOk (N.sup.getD j 0) = true)) (fun _ _ _ i => n - (intOf i).toNat)
  case atStart => exact ⟨0, Nat.zero_le _, rfl, rfl, rfl, Lib.hid (fun j hj => absurd hj (Nat.not_lt_zero _))⟩
  case round =>
    obtain ⟨k, hk, rfl, rfl, rfl, HK⟩ := hrel
    have bd := supAll k HK.out (by rw [← HN.out]; exact hk)
    by_cases hlt : k < n
    · obtain ⟨ad, rfl, _, hcell⟩ := N1.out.1 k (by rw [← HN.out]; exact hlt)
      have HS := Lib.hid (And.intro (sum_take N.sup k (by rw [← HN.out]; exact hlt)) (And.intro (sum_take (N.sup.map abs) k (by rw [List.length_map, ← HN.out]; exact hlt)) (getD_map abs N.sup k (by rw [← HN.out]; exact hlt))))
      generalize sum (N.sup.take k) = S at *
      generalize sum ((N.sup.map abs).take k) = T at *
      generalize hx : N.sup.getD k 0 = x at hcell
      have HX := Lib.hid hx
      clear hx
      by_cases h1 : x < -268435456
      · have E := Lib.hid (chE_sup EM.out k (by rw [← HN.out]; exact hlt) (by rw [HX.out]; simp [supOk]; omega))
        go_wp2
        go_ret
        exact ⟨ret_int E.out.symm, HB1.out⟩
      · by_cases h2 : 268435456 < x
        · have E := Lib.hid (chE_sup EM.out k (by rw [← HN.out]; exact hlt) (by rw [HX.out]; simp [supOk]; omega))
          go_wp2
          go_ret
          exact ⟨ret_int E.out.symm, HB1.out⟩
        · have hx1 := fun ts t W => maxTwo x (-x) ts t W
          have hmx : x ≤ 268435456 ∧ -268435456 ≤ x ∧ 0 ≤ max x (-x) ∧ max x (-x) ≤ 268435456 := by omega
          have HMX := Lib.hid (show max x (-x) = abs x from rfl)
          generalize max x (-x) = y at *
          go_wp2
          go_round
          case rel =>
            refine ⟨k + 1, by omega, by go_num, ?_, ?_, Lib.hid (fun j hj => ?_)⟩
            · rw [HS.out.1, HX.out]
            · rw [HS.out.2.1, HS.out.2.2, HX.out, ← HMX.out]
            · by_cases hjk : j < k
              · exact HK.out j hjk
              · obtain rfl : j = k := by omega
                rw [HX.out]; simp [supOk]; omega
          case measure => simp [intOf]; omega
    · obtain rfl : k = n := by omega
      have HS := Lib.hid (And.intro (show N.sup.take k = N.sup from by rw [HN.out]; simp) (show (N.sup.map abs).take k = N.sup.map abs from List.take_of_length_le (by rw [List.length_map, ← HN.out]; exact Nat.le_refl _)))
      go_wp2_with fail
      rw [HS.out.1, HS.out.2]
      rw [HS.out.1, HS.out.2] at bd
      go_loopw [9, 53] (fun _ i wr => ∃ j : Nat, j ≤ m ∧ i = .int .i64 j ∧ Hid (Below w1.heap.size w1 wr ∧ ∀ x, x < j → arcOk N.sup.length (N.arcs.getD x default) = true)) (fun _ i _ => m - (intOf i).toNat)
      case atStart => exact ⟨0, Nat.zero_le _, rfl, Lib.hid ⟨Below.refl _ _, fun j hj => absurd hj (Nat.not_lt_zero _)⟩⟩
      case round =>
        obtain ⟨j, hj, rfl, HJ⟩ := hrel
        by_cases hlt2 : j < m
        · obtain ⟨ad, rfl, hbl, d0, d1, d2, d3⟩ := (N1.out.2.below HJ.out.1 (Nat.le_refl _)) j (by rw [← HM.out]; exact hlt2)
          have HBR := Lib.hid (HB1.out.trans (HJ.out.1.mono HB1.out.size))
          have hbl' : (ad.add (j * 4)).block < wr.heap.size := by rw [block_add]; exact hbl
          have C0 := Lib.hid ((HJ.out.1.cell (p := ⟨w.heap.size, 0, none⟩) B1.out.lt).trans cA0)
          generalize ha : N.arcs.getD j default = ar at *
          obtain ⟨fr, «to», ca, co⟩ := ar
          have HAR := Lib.hid ha
          clear ha
          simp only at d0 d1 d2 d3
          go_wp2_with fail
          have HBX := Lib.hid (HBR.out.alloc HBR.out.size (.cells #[.int .i64 fr, .int .i64 «to», .int .i64 ca, .int .i64 co] 46))
          have HJX := Lib.hid (HJ.out.1.alloc HJ.out.1.size (.cells #[.int .i64 fr, .int .i64 «to», .int .i64 ca, .int .i64 co] 46))
          have BX := Blk.new' wr #[.int .i64 fr, .int .i64 «to», .int .i64 ca, .int .i64 co] 46
          have hcc := (HJX.out.cell (p := ⟨w.heap.size, 0, none⟩) B1.out.lt).trans cA0
          generalize wr.alloc (.cells #[.int .i64 fr, .int .i64 «to», .int .i64 ca, .int .i64 co] 46) = wx at HBX HJX BX hcc ⊢
          have e0 := BX.cell 0 rfl
          have e1 := BX.cell 1 rfl
          have e2 := BX.cell 2 rfl
          have e3 := BX.cell 3 rfl
          clear d0 d1 d2 d3 BX
          have NC := node_c fr _ A k cA _ hcc
          by_cases f1 : 0 ≤ fr ∧ fr < k
          · rw [decide_eq_true f1] at NC
            refine NC.mono ?_
            rintro e w2 ⟨rfl, rfl⟩
            go_wp2_with fail
            have NC := node_c «to» _ A k cA _ hcc
            by_cases f2 : 0 ≤ «to» ∧ «to» < k
            · rw [decide_eq_true f2] at NC
              refine NC.mono ?_
              rintro e w2 ⟨rfl, rfl⟩
              by_cases f3 : fr = «to»
              · have E := Lib.hid (chE_arc EM.out j (by rw [← HM.out]; exact hlt2) (by rw [HAR.out, ← HN.out]; simp [arcOk]; omega))
                go_wp2
                go_ret
                exact ⟨ret_int E.out.symm, HBX.out⟩
              by_cases f4 : ca < 0
              · have E := Lib.hid (chE_arc EM.out j (by rw [← HM.out]; exact hlt2) (by rw [HAR.out, ← HN.out]; simp [arcOk]; omega))
                go_wp2
                go_ret
                exact ⟨ret_int E.out.symm, HBX.out⟩
              by_cases f5 : 1048576 < ca
              · have E := Lib.hid (chE_arc EM.out j (by rw [← HM.out]; exact hlt2) (by rw [HAR.out, ← HN.out]; simp [arcOk]; omega))
                go_wp2
                go_ret
                exact ⟨ret_int E.out.symm, HBX.out⟩
              by_cases f6 : co < -1048576
              · have E := Lib.hid (chE_arc EM.out j (by rw [← HM.out]; exact hlt2) (by rw [HAR.out, ← HN.out]; simp [arcOk]; omega))
                go_wp2
                go_ret
                exact ⟨ret_int E.out.symm, HBX.out⟩
              by_cases f7 : 1048576 < co
              · have E := Lib.hid (chE_arc EM.out j (by rw [← HM.out]; exact hlt2) (by rw [HAR.out, ← HN.out]; simp [arcOk]; omega))
                go_wp2
                go_ret
                exact ⟨ret_int E.out.symm, HBX.out⟩
              have f3' : (fr == «to») = false := by simpa using f3
              have F3 := Lib.hid f3
              clear f3
              go_wp2
              go_roundw
              case rel =>
                refine ⟨j + 1, by omega, by go_num, Lib.hid ⟨HJX.out, fun x hx => ?_⟩⟩
                by_cases hjk : x < j
                · exact HJ.out.2 x hjk
                · obtain rfl : x = j := by omega
                  have f3 := F3.out
                  rw [HAR.out, ← HN.out]; simp [arcOk]; omega
              case measure => simp [intOf]; omega
            · rw [decide_eq_false f2] at NC
              refine NC.mono ?_
              rintro e w2 ⟨rfl, rfl⟩
              have E := Lib.hid (chE_arc EM.out j (by rw [← HM.out]; exact hlt2) (by rw [HAR.out, ← HN.out]; simp [arcOk]; omega))
              go_wp2
              go_ret
              exact ⟨ret_int E.out.symm, HBX.out⟩
          · rw [decide_eq_false f1] at NC
            refine NC.mono ?_
            rintro e w2 ⟨rfl, rfl⟩
            have E := Lib.hid (chE_arc EM.out j (by rw [← HM.out]; exact hlt2) (by rw [HAR.out, ← HN.out]; simp [arcOk]; omega))
            go_wp2
            go_ret
            exact ⟨ret_int E.out.symm, HBX.out⟩
        · obtain rfl : j = m := by omega
          have HBR := Lib.hid (HB1.out.trans (HJ.out.1.mono HB1.out.size))
          by_cases g1 : sum N.sup = 0
          · by_cases g2 : 268435456 < sum (N.sup.map abs)
            · have E := Lib.hid (chE_sum EM.out (by omega))
              generalize sum N.sup = S at *
              generalize sum (N.sup.map abs) = T at *
              go_wp2
              go_ret
              exact ⟨ret_int E.out.symm, HBR.out⟩
            · have E := Lib.hid (chE_ok EM.out (fun x hx => HK.out x (by rw [HN.out]; exact hx)) (fun x hx => HJ.out.2 x (by rw [HM.out]; exact hx)) g1 (by omega))
              generalize sum N.sup = S at *
              generalize sum (N.sup.map abs) = T at *
              go_wp2
              go_ret
              exact ⟨ret_int E.out.symm, HBR.out⟩
          · have E := Lib.hid (chE_sum EM.out (by omega))
            generalize sum N.sup = S at *
            generalize sum (N.sup.map abs) = T at *
            go_wp2
            go_ret
            exact ⟨ret_int E.out.symm, HBR.out⟩
end Go.Proofs.Ytmebpglkeedaoaa
namespace Go.Proofs.Ytmebpglkeedaoaa
open Go.RowKit Dp
@[simp, go_sem] theorem Past.cellAdd {W : World} (x : Past W) (a : Addr) (n : Nat) (h : (a.add n).block < W.heap.size) : x.w.cell? (a.add n) = W.cell? (a.add n) := x.far.cell h
theorem within_c (x lo hi : Int) (w : World) :
    Calls Try.prog 60 #[.int .i64 x, .int .i64 lo, .int .i64 hi] w fun e w' => e = .returned (.bool (inB x lo hi)) ∧ w = w' := by
  by_cases h0 : lo ≤ x
  · go_enter Try.func60, Try.ntmps60
    go_wp2
    go_ret
    refine ⟨ret_bool ?_, rfl⟩
    simp [h0, inB]
  · go_enter Try.func60, Try.ntmps60
    go_wp2
    go_ret
    refine ⟨ret_bool ?_, rfl⟩
    simp [inB]
    omega
end Go.Proofs.Ytmebpglkeedaoaa
namespace Go.Proofs.Ytmebpglkeedaoaa
namespace Dp
def mv (l : List Int) (i : Int) (d : Int) : List Int := l.set i.toNat (l.getD i.toNat 0 + d)
def leftK (N : Net) (fl : List Int) : Nat → List Int
  | 0 => N.sup
  | k + 1 => mv (mv (leftK N fl k) (N.arcs.getD k default).fr (-(fl.getD k 0))) (N.arcs.getD k default).to (fl.getD k 0)
def costK (N : Net) (fl : List Int) : Nat → Int
  | 0 => 0
  | k + 1 => costK N fl k + fl.getD k 0 * (N.arcs.getD k default).cost
def capB (N : Net) (fl : List Int) : Bool := (List.range N.arcs.length).all fun k => decide (0 ≤ fl.getD k 0 ∧ fl.getD k 0 ≤ (N.arcs.getD k default).cap)
def zeroB (l : List Int) : Bool := l.all fun x => decide (x = 0)
def isFlow (N : Net) (fl : List Int) : Bool := decide (fl.length = N.arcs.length) && (capB N fl && zeroB (leftK N fl N.arcs.length))
def coE (N : Net) (fl : List Int) : Int := if chE N = 0 then (if fl.length = N.arcs.length then (if isFlow N fl = true then 0 else 19) else 20) else chE N
def coV (N : Net) (fl : List Int) : Int := if chE N = 0 ∧ isFlow N fl = true then costK N fl N.arcs.length else 0
theorem mv_length (l : List Int) (i d : Int) : (mv l i d).length = l.length := by simp [mv]
theorem leftK_length (N : Net) (fl : List Int) : ∀ k, (leftK N fl k).length = N.sup.length
  | 0 => rfl
  | k + 1 => by simp [leftK, mv_length, leftK_length N fl k]
theorem getD_setI (l : List Int) (i j : Nat) (v : Int) (h : i < l.length) : (l.set i v).getD j 0 = if j = i then v else l.getD j 0 := by
  simp only [List.getD_eq_getElem?_getD, List.getElem?_set]
  by_cases hj : i = j
  · subst hj; simp [h]
  · rw [if_neg hj, if_neg (fun e => hj e.symm)]
theorem mv_bd {l : List Int} {i d B D : Int} (hD : -D ≤ d ∧ d ≤ D) (hi : 0 ≤ i ∧ i < l.length) (h : ∀ j, j < l.length → -B ≤ l.getD j 0 ∧ l.getD j 0 ≤ B) : ∀ j, j < (mv l i d).length → -(B + D) ≤ (mv l i d).getD j 0 ∧ (mv l i d).getD j 0 ≤ B + D := by
  intro j hj
  rw [mv_length] at hj
  have hi' : i.toNat < l.length := by omega
  have h1 := h j hj
  have h2 := h i.toNat hi'
  unfold mv
  rw [getD_setI _ _ _ _ hi']
  split <;> omega
theorem chE_zero {N : Net} (h : chE N = 0) : manyB N = false ∧ okB N = true := by
  unfold chE at h
  split at h
  · omega
  · split at h
    · rename_i h1 h2
      exact ⟨by simpa using h1, h2⟩
    · omega
theorem getD_allA {p : Arc → Bool} {l : List Arc} (h : l.all p = true) (j : Nat) (hj : j < l.length) : p (l.getD j default) = true := by
  rw [List.all_eq_true] at h
  have := h l[j] (List.getElem_mem hj)
  simpa [List.getD, hj] using this
theorem net_len {N : Net} (h : chE N = 0) : 1 ≤ N.sup.length ∧ N.sup.length ≤ 1024 ∧ N.arcs.length ≤ 2048 := by
  have := (chE_zero h).1
  simp [manyB] at this
  cases hs : N.sup with
  | nil => simp [hs] at this
  | cons a l => rw [hs] at this; simp at this ⊢; omega
theorem net_sup {N : Net} (h : chE N = 0) (j : Nat) (hj : j < N.sup.length) : -268435456 ≤ N.sup.getD j 0 ∧ N.sup.getD j 0 ≤ 268435456 := by
  have h2 := (chE_zero h).2
  simp only [okB, Bool.and_eq_true] at h2
  have h3 := h2.1
  rw [List.all_eq_true] at h3
  have := h3 N.sup[j] (List.getElem_mem hj)
  simpa [supOk, List.getD, hj] using this
theorem net_arc {N : Net} (h : chE N = 0) (j : Nat) (hj : j < N.arcs.length) : (0 ≤ (N.arcs.getD j default).fr ∧ (N.arcs.getD j default).fr < N.sup.length) ∧ (0 ≤ (N.arcs.getD j default).to ∧ (N.arcs.getD j default).to < N.sup.length) ∧ (N.arcs.getD j default).fr ≠ (N.arcs.getD j default).to ∧ (0 ≤ (N.arcs.getD j default).cap ∧ (N.arcs.getD j default).cap ≤ 1048576) ∧ (-1048576 ≤ (N.arcs.getD j default).cost ∧ (N.arcs.getD j default).cost ≤ 1048576) := by
  have h2 := (chE_zero h).2
  simp only [okB, Bool.and_eq_true] at h2
  simpa [arcOk] using getD_allA h2.2.1 j hj
theorem leftK_bd {N : Net} {fl : List Int} (h : chE N = 0) : ∀ k : Nat, k ≤ N.arcs.length → (∀ j, j < k → 0 ≤ fl.getD j 0 ∧ fl.getD j 0 ≤ (N.arcs.getD j default).cap) →
    ∀ j, j < N.sup.length → -(268435456 + 2097152 * k : Int) ≤ (leftK N fl k).getD j 0 ∧ (leftK N fl k).getD j 0 ≤ 268435456 + 2097152 * k
  | 0, _, _, j, hj => by simpa [leftK] using net_sup h j hj
  | k + 1, hk, hf, j, hj => by
    have ih := leftK_bd h k (by omega) (fun j hj => hf j (by omega))
    have hl := leftK_length N fl k
    obtain ⟨a1, a2, a3, a4, a5⟩ := net_arc h k (by omega)
    have f1 := hf k (by omega)
    have s1 := mv_bd (l := leftK N fl k) (i := (N.arcs.getD k default).fr) (d := -(fl.getD k 0)) (D := 1048576) (by omega) (by rw [hl]; exact a1) (fun j hj => ih j (by rw [← hl]; exact hj))
    have s2 := mv_bd (i := (N.arcs.getD k default).to) (d := fl.getD k 0) (D := 1048576) (by omega) (by rw [mv_length, hl]; exact a2) s1 j (by rw [mv_length, mv_length, hl]; exact hj)
    simp only [leftK]
    rw [Int.natCast_add]
    omega
theorem costK_bd {N : Net} {fl : List Int} (h : chE N = 0) : ∀ k : Nat, k ≤ N.arcs.length → (∀ j, j < k → 0 ≤ fl.getD j 0 ∧ fl.getD j 0 ≤ (N.arcs.getD j default).cap) →
    -(1099511627776 * k : Int) ≤ costK N fl k ∧ costK N fl k ≤ 1099511627776 * k
  | 0, _, _ => by simp [costK]
  | k + 1, hk, hf => by
    have ih := costK_bd h k (by omega) (fun j hj => hf j (by omega))
    obtain ⟨a1, a2, a3, a4, a5⟩ := net_arc h k (by omega)
    have f1 := hf k (by omega)
    have p1 : fl.getD k 0 * (N.arcs.getD k default).cost ≤ 1048576 * 1048576 := by
      refine Int.le_trans (Int.mul_le_mul_of_nonneg_left a5.2 f1.1) ?_
      exact Int.mul_le_mul_of_nonneg_right (by omega) (by omega)
    have p2 : -(1048576 * 1048576) ≤ fl.getD k 0 * (N.arcs.getD k default).cost := by
      have := Int.mul_le_mul_of_nonneg_left a5.1 f1.1
      have := Int.mul_le_mul_of_nonneg_right (show fl.getD k 0 ≤ 1048576 by omega) (show (0:Int) ≤ 1048576 by omega)
      omega
    simp only [costK]
    rw [Int.natCast_add]
    omega
theorem capB_iff {N : Net} {fl : List Int} : capB N fl = true ↔ ∀ k, k < N.arcs.length → 0 ≤ fl.getD k 0 ∧ fl.getD k 0 ≤ (N.arcs.getD k default).cap := by
  simp only [capB, List.all_eq_true, List.mem_range, decide_eq_true_eq]
theorem zeroB_iff {l : List Int} : zeroB l = true ↔ ∀ j, j < l.length → l.getD j 0 = 0 := by
  simp only [zeroB, List.all_eq_true, decide_eq_true_eq]
  constructor
  · intro h j hj
    have := h l[j] (List.getElem_mem hj)
    simpa [List.getD, hj] using this
  · intro h x hx
    obtain ⟨i, hi, rfl⟩ := List.getElem_of_mem hx
    simpa [List.getD, hi] using h i hi
theorem co_ch {N : Net} {fl : List Int} (h : chE N ≠ 0) : coE N fl = chE N ∧ coV N fl = 0 := by simp [coE, coV, h]
theorem co_len {N : Net} {fl : List Int} (h : chE N = 0) (hl : fl.length ≠ N.arcs.length) : coE N fl = 20 ∧ coV N fl = 0 := by simp [coE, coV, h, hl, isFlow]
theorem co_no {N : Net} {fl : List Int} (h : chE N = 0) (hl : fl.length = N.arcs.length) (hf : isFlow N fl = false) : coE N fl = 19 ∧ coV N fl = 0 := by simp [coE, coV, h, hl, hf]
theorem co_yes {N : Net} {fl : List Int} (h : chE N = 0) (hl : fl.length = N.arcs.length) (hf : isFlow N fl = true) : coE N fl = 0 ∧ coV N fl = costK N fl N.arcs.length := by simp [coE, coV, h, hl, hf]
theorem isFlow_cap {N : Net} {fl : List Int} (k : Nat) (hk : k < N.arcs.length) (h : ¬ (0 ≤ fl.getD k 0 ∧ fl.getD k 0 ≤ (N.arcs.getD k default).cap)) : isFlow N fl = false := by
  cases hb : isFlow N fl
  · rfl
  · simp only [isFlow, Bool.and_eq_true] at hb
    exact absurd (capB_iff.1 hb.2.1 k hk) h
theorem isFlow_left {N : Net} {fl : List Int} (j : Nat) (hj : j < N.sup.length) (h : (leftK N fl N.arcs.length).getD j 0 ≠ 0) : isFlow N fl = false := by
  cases hb : isFlow N fl
  · rfl
  · simp only [isFlow, Bool.and_eq_true] at hb
    exact absurd (zeroB_iff.1 hb.2.2 j (by rw [leftK_length]; exact hj)) h
theorem isFlow_yes {N : Net} {fl : List Int} (hl : fl.length = N.arcs.length) (h1 : ∀ k, k < N.arcs.length → 0 ≤ fl.getD k 0 ∧ fl.getD k 0 ≤ (N.arcs.getD k default).cap) (h2 : ∀ j, j < N.sup.length → (leftK N fl N.arcs.length).getD j 0 = 0) : isFlow N fl = true := by
  simp only [isFlow, Bool.and_eq_true, decide_eq_true_eq]
  exact ⟨hl, capB_iff.2 h1, zeroB_iff.2 (fun j hj => h2 j (by rw [leftK_length] at hj; exact hj))⟩
end Dp
end Go.Proofs.Ytmebpglkeedaoaa
namespace Go.Proofs.Ytmebpglkeedaoaa
open Go.RowKit Dp
theorem info2 : (Try.prog.info? 2).map (fun i => (i.zero, i.size, i.bytes)) = some (some (.int .i64 0), 1, 8) := by kernel_rfl
theorem info_parts {P : Program} {t : TypeId} {z : Option Value} {a b : Nat} (h : (P.info? t).map (fun i => (i.zero, i.size, i.bytes)) = some (z, a, b)) : ∃ i, P.info? t = some i ∧ i.zero = z ∧ i.size = a ∧ i.bytes = b := by
  cases hi : P.info? t with
  | none => rw [hi] at h; cases h
  | some i =>
    rw [hi] at h
    simp only [Option.map_some, Option.some.injEq, Prod.mk.injEq] at h
    exact ⟨i, rfl, h.1, h.2.1, h.2.2⟩
def OwnI (B : Nat) (W : World) (g c : Nat) (xs : List Int) : Prop := W.ownsRow B 2 1 (.slice (some ⟨g, 0, none⟩) xs.length c) xs.length (xs.map (Value.int .i64))
set_option maxHeartbeats 1000000 in
set_option maxRecDepth 100000 in
theorem clone_c (A : Option Addr) (xs : List Int) (n cap : Nat) (w : World) (hn : n = xs.length) (h1 : 1 ≤ n) (h2 : n ≤ 4096) (hA : IntsAt w A xs) :
    Calls Try.prog 57 #[.slice A n cap] w fun e w' => ∃ g c, e = .returned (.slice (some ⟨g, 0, none⟩) n c) ∧ Below w.heap.size w w' ∧ w.heap.size ≤ g ∧ g < w'.heap.size ∧ OwnI w.heap.size w' g c xs := by
  obtain ⟨ad, rfl, hbl, hc0⟩ := hA 0 (by omega)
  have HA := Lib.hid hA
  have HN := Lib.hid hn
  have hsrc : SrcRow (w.alloc (.cells #[] 2)) (some ad) n (xs.map (Value.int .i64)) := .inr ⟨ad, rfl, fun j u hu => by
    have hj : j < xs.length := by
      rcases Nat.lt_or_ge j xs.length with h | h
      · exact h
      · rw [List.getElem?_eq_none (by simpa using h)] at hu; cases hu
    obtain ⟨ad', e, hb, hc⟩ := HA.out j hj
    cases e
    have hu' : u = .int .i64 (xs.getD j 0) := by
      rw [List.getElem?_map, List.getElem?_eq_getElem hj] at hu
      simp only [Option.map_some, Option.some.injEq] at hu
      rw [← hu, List.getD_eq_getElem?_getD, List.getElem?_eq_getElem hj]; rfl
    rw [hu']
    exact (((Below.refl w.heap.size w).alloc (Nat.le_refl _) (.cells #[] 2)).cell (by rw [block_add]; exact hb)).trans hc⟩
  have HS := Lib.hid hsrc
  clear hsrc hA hn hc0
  obtain ⟨i0, hi, hz0, hz1, hz2⟩ := info_parts info2
  have qT : ∀ w : World, (binOp .eql 22 (.slice (some ad) n cap) (.slice none 0 0)).run Try.prog w = .ok (.bool false) w := fun w => Lib.run_eql_slice_nil w 22 2 (some ad) n cap 0 0 Try.underlying22
  go_enter Try.func57, Try.ntmps57
  go_wp2_with (at_builtin; refine wpList_append_any (.tmp 5) (.tmp 6) 22 rfl rfl w.heap.size 2 i0 (.int .i64 0) 1 8 Try.underlying22 hi hz0 hz1 hz2 rfl (by decide) (some ⟨w.heap.size, 0, none⟩) 0 0 [] (by rfl) (World.ownsRow_lit w #[] 0 (Nat.le_refl _) (Nat.zero_le _) rfl) (some ad) n cap (xs.map (Value.int .i64)) (by rfl) (by rw [HN.out]; simp) HS.out (by simp [Value.oneCell']) (by unfold maxLen; omega) (by omega) (by simp) ?_; intro A3 c3 w2 hown2 hgrow2 hat2; have HO2 := Lib.hid hown2; have HG2 := Lib.hid hgrow2; have HAT2 := Lib.hid hat2; clear hown2 hgrow2 hat2)
  go_ret
  obtain ⟨g, cap', e, z1, z2⟩ := HO2.out.form (by omega)
  cases e
  refine ⟨g, c3, rfl, ?_, z1, z2, ?_⟩
  · refine ((Below.refl w.heap.size w).alloc (Nat.le_refl _) (.cells #[] 2)).grown HG2.out (by simp) ?_
    intro k hk
    cases hk
    exact Nat.le_refl _
  · have := HO2.out
    rw [HN.out] at this
    simpa [OwnI] using this
end Go.Proofs.Ytmebpglkeedaoaa
namespace Go.Proofs.Ytmebpglkeedaoaa
open Go.RowKit Dp
theorem OwnI.cell {B : Nat} {W : World} {g c : Nat} {xs : List Int} (h : OwnI B W g c xs) (j : Nat) (hj : j < xs.length) : W.cell? ⟨g, j, none⟩ = some (.int .i64 (xs.getD j 0)) := by
  rw [World.ownsRow.cellAt h j (by omega), List.getElem?_map, List.getElem?_eq_getElem hj, List.getD_eq_getElem?_getD, List.getElem?_eq_getElem hj]
  rfl
theorem OwnI.free {B : Nat} {W : World} {g c : Nat} {xs : List Int} (h : OwnI B W g c xs) (j : Nat) : W.frozen? ⟨g, j, none⟩ = false := World.ownsRow.frozenAt h j
theorem OwnI.put {B : Nat} {W : World} {g c : Nat} {xs : List Int} (h : OwnI B W g c xs) (j : Nat) (v : Int) : OwnI B (W.setCell ⟨g, j, none⟩ (.int .i64 v)) g c (xs.set j v) := by
  have := (World.ownsRow.stored h j (.int .i64 v)).1
  unfold OwnI
  rw [List.length_set, List.map_set]
  exact this
theorem OwnI.below {B : Nat} {W W' : World} {g c : Nat} {xs : List Int} (h : OwnI B W g c xs) (hb : Below W.heap.size W W') : OwnI B W' g c xs := ownBelow h hb
theorem OwnI.lt {B : Nat} {W : World} {g c : Nat} {xs : List Int} (h : OwnI B W g c xs) : B ≤ g ∧ g < W.heap.size := World.ownsRow.lt h g rfl
theorem OwnI.mono {B B' : Nat} {W : World} {g c : Nat} {xs : List Int} (h : OwnI B W g c xs) (hb : B' ≤ B) : OwnI B' W g c xs := ⟨h.1, h.2.imp id (fun ⟨k, c, cur, hv, hb', r⟩ => ⟨k, c, cur, hv, Nat.le_trans hb hb', r⟩)⟩
end Go.Proofs.Ytmebpglkeedaoaa
namespace Go.Proofs.Ytmebpglkeedaoaa
namespace Dp
abbrev Vs := Int × Int
def keyAt (l : List Vs) (i : Nat) : Int := (l.getD i (0, 0)).2
def Heap (l : List Vs) : Prop := ∀ j, 0 < j → j < l.length → keyAt l ((j - 1) / 2) ≤ keyAt l j
def UpAt (l : List Vs) (i : Nat) : Prop := (∀ j, 0 < j → j < l.length → j ≠ i → keyAt l ((j - 1) / 2) ≤ keyAt l j) ∧ (0 < i → ∀ j, 0 < j → j < l.length → (j - 1) / 2 = i → keyAt l ((i - 1) / 2) ≤ keyAt l j)
def DnAt (l : List Vs) (i : Nat) : Prop := (∀ j, 0 < j → j < l.length → (j - 1) / 2 ≠ i → keyAt l ((j - 1) / 2) ≤ keyAt l j) ∧ (0 < i → ∀ j, 0 < j → j < l.length → (j - 1) / 2 = i → keyAt l ((i - 1) / 2) ≤ keyAt l j)
def swp (l : List Vs) (i j : Nat) : List Vs := (l.set i (l.getD j (0, 0))).set j (l.getD i (0, 0))
theorem swp_length (l : List Vs) (i j : Nat) : (swp l i j).length = l.length := by simp [swp]
theorem swp_perm {l : List Vs} {i j : Nat} (hi : i < l.length) (hj : j < l.length) : (swp l i j).Perm l := by
  unfold swp
  rw [List.getD_eq_getElem?_getD, List.getD_eq_getElem?_getD, List.getElem?_eq_getElem hi, List.getElem?_eq_getElem hj]
  exact List.set_set_perm hi hj
theorem getD_setV (l : List Vs) (i j : Nat) (v : Vs) (h : i < l.length) : (l.set i v).getD j (0, 0) = if j = i then v else l.getD j (0, 0) := by
  simp only [List.getD_eq_getElem?_getD, List.getElem?_set]
  by_cases hj : i = j
  · subst hj; simp [h]
  · rw [if_neg hj, if_neg (fun e => hj e.symm)]
theorem key_swp {l : List Vs} {i j : Nat} (hi : i < l.length) (hj : j < l.length) (k : Nat) : keyAt (swp l i j) k = if k = j then keyAt l i else if k = i then keyAt l j else keyAt l k := by
  unfold keyAt swp
  rw [getD_setV _ _ _ _ (by simpa using hj), getD_setV _ _ _ _ hi]
  split
  · rfl
  · split <;> rfl
theorem heap_min {l : List Vs} (h : Heap l) : ∀ j, j < l.length → keyAt l 0 ≤ keyAt l j := by
  intro j
  induction j using Nat.strongRecOn with
  | _ j ih =>
    intro hj
    rcases Nat.eq_zero_or_pos j with rfl | h0
    · exact Int.le_refl _
    · have h1 := ih ((j - 1) / 2) (by omega) (by omega)
      have h2 := h j h0 hj
      omega
theorem heap_minE {l : List Vs} (h : Heap l) (e : Vs) (he : e ∈ l) : keyAt l 0 ≤ e.2 := by
  obtain ⟨i, hi, rfl⟩ := List.getElem_of_mem he
  have := heap_min h i hi
  simpa [keyAt, List.getD, hi] using this
theorem heap_nil : Heap [] := fun _ _ h => absurd h (Nat.not_lt_zero _)
theorem key_app {l : List Vs} {x : Vs} {j : Nat} (hj : j < l.length) : keyAt (l ++ [x]) j = keyAt l j := by
  simp [keyAt, List.getD, List.getElem?_append_left hj]
theorem up_start {l : List Vs} (h : Heap l) (x : Vs) : UpAt (l ++ [x]) l.length := by
  constructor
  · intro j h0 hj hne
    simp only [List.length_append, List.length_cons, List.length_nil] at hj
    rw [key_app (by omega), key_app (by omega)]
    exact h j h0 (by omega)
  · intro h0 j h1 h2 h3
    simp only [List.length_append, List.length_cons, List.length_nil] at h2
    omega
theorem up_done {l : List Vs} {i : Nat} (h : UpAt l i) (hk : i = 0 ∨ keyAt l ((i - 1) / 2) ≤ keyAt l i) : Heap l := by
  intro j h0 hj
  by_cases he : j = i
  · subst he; rcases hk with hk | hk
    · omega
    · exact hk
  · exact h.1 j h0 hj he
theorem up_step {l : List Vs} {i : Nat} (h : UpAt l i) (h0 : 0 < i) (hi : i < l.length) (hk : keyAt l i < keyAt l ((i - 1) / 2)) : UpAt (swp l i ((i - 1) / 2)) ((i - 1) / 2) := by
  have hp : (i - 1) / 2 < l.length := by omega
  constructor
  · intro j j0 hj hne
    rw [swp_length] at hj
    rw [key_swp hi hp, key_swp hi hp, if_neg hne]
    by_cases hji : j = i
    · subst hji
      rw [if_pos rfl, if_pos rfl]
      omega
    · rw [if_neg hji]
      have h1 := h.1 j j0 hj hji
      by_cases hq : (j - 1) / 2 = (i - 1) / 2
      · rw [if_pos hq]; rw [hq] at h1; omega
      · rw [if_neg hq]
        by_cases hqi : (j - 1) / 2 = i
        · rw [if_pos hqi]
          exact h.2 h0 j j0 hj hqi
        · rw [if_neg hqi]; exact h1
  · intro g0 j j0 hj hq
    rw [swp_length] at hj
    have hpp : ((i - 1) / 2 - 1) / 2 ≠ i := by omega
    have hpp2 : ((i - 1) / 2 - 1) / 2 ≠ (i - 1) / 2 := by omega
    have hpq := h.1 ((i - 1) / 2) g0 hp (by omega)
    rw [key_swp hi hp, key_swp hi hp, if_neg hpp2, if_neg hpp, if_neg (show j ≠ (i - 1) / 2 by omega)]
    by_cases hji : j = i
    · rw [if_pos hji]; exact hpq
    · rw [if_neg hji]
      have h1 := h.1 j j0 hj hji
      rw [hq] at h1
      omega
theorem dn_done {l : List Vs} {i : Nat} (h : DnAt l i) (h1 : 2 * i + 1 < l.length → keyAt l i ≤ keyAt l (2 * i + 1)) (h2 : 2 * i + 2 < l.length → keyAt l i ≤ keyAt l (2 * i + 2)) : Heap l := by
  intro j j0 hj
  by_cases he : (j - 1) / 2 = i
  · rw [he]
    rcases (show j = 2 * i + 1 ∨ j = 2 * i + 2 by omega) with rfl | rfl
    · exact h1 hj
    · exact h2 hj
  · exact h.1 j j0 hj he
theorem dn_step {l : List Vs} {i c : Nat} (h : DnAt l i) (hc : c < l.length) (hci : c = 2 * i + 1 ∨ c = 2 * i + 2) (hk : keyAt l c < keyAt l i)
    (hl : ∀ j, 0 < j → j < l.length → (j - 1) / 2 = i → keyAt l c ≤ keyAt l j) : DnAt (swp l i c) c := by
  have hi : i < l.length := by omega
  have hcp : (c - 1) / 2 = i := by omega
  constructor
  · intro j j0 hj hne
    rw [swp_length] at hj
    rw [key_swp hi hc, key_swp hi hc, if_neg hne]
    by_cases hq : (j - 1) / 2 = i
    · rw [if_pos hq]
      by_cases hjc : j = c
      · rw [if_pos hjc]; omega
      · rw [if_neg hjc, if_neg (show j ≠ i by omega)]
        exact hl j j0 hj hq
    · rw [if_neg hq]
      have h1 := h.1 j j0 hj hq
      rw [if_neg (show j ≠ c by omega)]
      by_cases hji : j = i
      · rw [if_pos hji]
        subst hji
        exact h.2 j0 c (by omega) hc hcp
      · rw [if_neg hji]; exact h1
  · intro c0 j j0 hj hq
    rw [swp_length] at hj
    rw [key_swp hi hc, key_swp hi hc, if_neg (show (c - 1) / 2 ≠ c by omega), if_pos hcp, if_neg (show j ≠ c by omega), if_neg (show j ≠ i by omega)]
    have := h.1 j j0 hj (by omega)
    rw [hq] at this
    exact this
def popd (l : List Vs) : List Vs := (l.set 0 (l.getD (l.length - 1) (0, 0))).take (l.length - 1)
theorem popd_length (l : List Vs) : (popd l).length = l.length - 1 := by simp [popd]
theorem popd_perm {l : List Vs} (h : 0 < l.length) : (l.getD 0 (0, 0) :: popd l).Perm l := by
  rcases Nat.lt_or_ge 1 l.length with h1 | h1
  · obtain ⟨a, t, rfl⟩ : ∃ a t, l = a :: t := by cases l with
      | nil => simp at h
      | cons a t => exact ⟨a, t, rfl⟩
    have ht : t ≠ [] := by intro e; subst e; simp at h1
    have e := List.dropLast_concat_getLast ht
    have hl : 0 < t.length := List.length_pos_iff.2 ht
    have e1 : popd (a :: t) = t.getLast ht :: t.dropLast := by
      unfold popd
      have : (a :: t).getD ((a :: t).length - 1) (0, 0) = t.getLast ht := by
        simp only [List.length_cons, Nat.add_sub_cancel]
        rw [List.getD_eq_getElem?_getD, List.getLast_eq_getElem]
        obtain ⟨n, hn⟩ : ∃ n, t.length = n + 1 := ⟨t.length - 1, by omega⟩
        simp [hn]
      rw [this]
      simp only [List.set_cons_zero, List.length_cons, Nat.add_sub_cancel]
      obtain ⟨n, hn⟩ : ∃ n, t.length = n + 1 := ⟨t.length - 1, by omega⟩
      rw [hn, List.take_succ_cons, List.dropLast_eq_take, hn]
      rfl
    rw [e1]
    simp only [List.getD_cons_zero]
    refine List.Perm.cons a ?_
    have : (t.getLast ht :: t.dropLast).Perm (t.dropLast ++ [t.getLast ht]) := (List.perm_append_singleton _ _).symm
    rw [e] at this
    exact this
  · have : l.length = 1 := by omega
    obtain ⟨a, rfl⟩ := List.length_eq_one_iff.1 this
    simp [popd]
theorem key_popd {l : List Vs} {j : Nat} (hj : j < l.length - 1) : keyAt (popd l) j = if j = 0 then keyAt l (l.length - 1) else keyAt l j := by
  have : keyAt (popd l) j = keyAt (l.set 0 (l.getD (l.length - 1) (0, 0))) j := by
    simp only [keyAt, popd, List.getD_eq_getElem?_getD]
    rw [List.getElem?_take_of_lt hj]
  rw [this]
  unfold keyAt
  rw [getD_setV _ _ _ _ (by omega)]
  split <;> rfl
theorem popd_dn {l : List Vs} (h : Heap l) : DnAt (popd l) 0 := by
  constructor
  · intro j j0 hj hne
    rw [popd_length] at hj
    rw [key_popd (by omega), key_popd hj, if_neg hne, if_neg (by omega)]
    exact h j j0 (by omega)
  · intro h0; omega
end Dp
end Go.Proofs.Ytmebpglkeedaoaa
namespace Go.Proofs.Ytmebpglkeedaoaa
namespace Dp
structure Ed where
  «to» : Int
  room : Int
  cost : Int
  deriving Inhabited
structure Gr where
  left : List Int
  es : List Ed
  outs : List (List Int)
def tw (k : Nat) : Nat := if k % 2 = 0 then k + 1 else k - 1
theorem tw_tw (k : Nat) : tw (tw k) = k := by unfold tw; split <;> split <;> omega
theorem tw_lt {k n : Nat} (h : n % 2 = 0) (hk : k < n) : tw k < n := by unfold tw; split <;> omega
theorem tw_ne (k : Nat) : tw k ≠ k := by unfold tw; split <;> omega
namespace Gr
def toA (G : Gr) (k : Nat) : Nat := (G.es.getD k default).to.toNat
def frA (G : Gr) (k : Nat) : Nat := G.toA (tw k)
def room (G : Gr) (k : Nat) : Int := (G.es.getD k default).room
def cost (G : Gr) (k : Nat) : Int := (G.es.getD k default).cost
def lf (G : Gr) (v : Nat) : Int := G.left.getD v 0
def rc (G : Gr) (p : List Int) (k : Nat) : Int := G.cost k + p.getD (G.frA k) 0 - p.getD (G.toA k) 0
structure Ok (G : Gr) (n : Nat) : Prop where
  n1 : 1 ≤ n ∧ n ≤ 1024
  ll : G.left.length = n
  lo : G.outs.length = n
  le : G.es.length ≤ 4096
  ev : G.es.length % 2 = 0
  «to» : ∀ k, k < G.es.length → 0 ≤ (G.es.getD k default).to ∧ (G.es.getD k default).to < n
  ne : ∀ k, k < G.es.length → G.toA k ≠ G.frA k
  co : ∀ k, k < G.es.length → G.cost (tw k) = - G.cost k
  cb : ∀ k, k < G.es.length → -1048576 ≤ G.cost k ∧ G.cost k ≤ 1048576
  rm : ∀ k, k < G.es.length → 0 ≤ G.room k ∧ G.room k + G.room (tw k) ≤ 1048576
  lb : ∀ v, v < n → -8589934592 ≤ G.lf v ∧ G.lf v ≤ 8589934592
  o1 : ∀ v, v < n → ∀ x, x ∈ G.outs.getD v [] → 0 ≤ x ∧ x < G.es.length ∧ G.frA x.toNat = v
  o2 : ∀ k, k < G.es.length → (k : Int) ∈ G.outs.getD (G.frA k) []
  o3 : ∀ v, v < n → (G.outs.getD v []).length ≤ 4096
theorem Ok.toL {G : Gr} {n : Nat} (h : G.Ok n) {k : Nat} (hk : k < G.es.length) : G.toA k < n := by have := h.to k hk; unfold toA; omega
theorem Ok.frL {G : Gr} {n : Nat} (h : G.Ok n) {k : Nat} (hk : k < G.es.length) : G.frA k < n := h.toL (tw_lt h.ev hk)
structure Pot (G : Gr) (n : Nat) (p : List Int) : Prop where
  len : p.length = n
  bd : ∀ v, v < n → 0 ≤ p.getD v 0 ∧ p.getD v 0 ≤ 1073741824
  rc : ∀ k, k < G.es.length → 0 < G.room k → 0 ≤ G.rc p k
  src : ∀ v, v < n → 0 < G.lf v → p.getD v 0 = 0
end Gr
def never : Int := 1152921504606846976
def Lnk (G : Gr) (p fa vi : List Int) (S : List Nat) (v : Nat) : Prop :=
  (0 < G.lf v ∧ fa.getD v 0 = 0 ∧ vi.getD v 0 = -1) ∨ ∃ k, k < G.es.length ∧ vi.getD v 0 = (k : Int) ∧ G.toA k = v ∧ 0 < G.room k ∧ G.frA k ∈ S ∧ fa.getD v 0 = fa.getD (G.frA k) 0 + G.rc p k
def Chn (G : Gr) (p fa vi : List Int) : List Nat → Prop
  | [] => True
  | v :: S => Chn G p fa vi S ∧ Lnk G p fa vi S v
theorem Lnk.keep {G : Gr} {p fa vi fa' vi' : List Int} {S : List Nat} {v : Nat} (h : Lnk G p fa vi S v) (h1 : ∀ u, u ∈ S ∨ u = v → fa'.getD u 0 = fa.getD u 0) (h2 : vi'.getD v 0 = vi.getD v 0) : Lnk G p fa' vi' S v := by
  rcases h with ⟨a, b, c⟩ | ⟨k, a, b, c, d, e, f⟩
  · exact .inl ⟨a, (h1 v (.inr rfl)).trans b, h2.trans c⟩
  · exact .inr ⟨k, a, h2.trans b, c, d, e, by rw [h1 v (.inr rfl), h1 _ (.inl e)]; exact f⟩
theorem Lnk.more {G : Gr} {p fa vi : List Int} {S S' : List Nat} {v : Nat} (h : Lnk G p fa vi S v) (hs : ∀ u, u ∈ S → u ∈ S') : Lnk G p fa vi S' v := by
  rcases h with h | ⟨k, a, b, c, d, e, f⟩
  · exact .inl h
  · exact .inr ⟨k, a, b, c, d, hs _ e, f⟩
theorem Chn.keep {G : Gr} {p fa vi fa' vi' : List Int} : ∀ {S : List Nat}, Chn G p fa vi S → (∀ u, u ∈ S → fa'.getD u 0 = fa.getD u 0 ∧ vi'.getD u 0 = vi.getD u 0) → Chn G p fa' vi' S
  | [], _, _ => trivial
  | v :: S, h, hk => ⟨Chn.keep h.1 (fun u hu => hk u (by simp [hu])), h.2.keep (fun u hu => (hk u (by rcases hu with hu | hu <;> simp [hu])).1) (hk v (by simp)).2⟩
theorem Lnk.up {G : Gr} {n : Nat} {p fa vi : List Int} {S : List Nat} {v : Nat} (hG : G.Ok n) (hp : G.Pot n p) (h : Lnk G p fa vi S v) (hv : v < n) {B : Int} (hB : 0 ≤ B) (hS : ∀ u, u ∈ S → fa.getD u 0 + p.getD u 0 ≤ B) : fa.getD v 0 + p.getD v 0 ≤ B + 1048576 := by
  rcases h with ⟨a, b, c⟩ | ⟨k, a, b, c, d, e, f⟩
  · have := hp.src v hv a
    omega
  · have h1 := hS _ e
    have h2 := (hG.cb k a).2
    unfold Gr.rc at f
    rw [c] at f
    omega
theorem Chn.up {G : Gr} {n : Nat} {p fa vi : List Int} (hG : G.Ok n) (hp : G.Pot n p) : ∀ {S : List Nat}, Chn G p fa vi S → (∀ v, v ∈ S → v < n) → ∀ v, v ∈ S → fa.getD v 0 + p.getD v 0 + 1048576 ≤ 1048576 * S.length ∨ fa.getD v 0 + p.getD v 0 ≤ 0
  | [], _, _, v, hv => by simp at hv
  | u :: S, h, hl, v, hv => by
    have ih := Chn.up hG hp h.1 (fun v hv => hl v (by simp [hv]))
    have e : ((List.length (u :: S) : Nat) : Int) = S.length + 1 := by simp
    rw [e, Int.mul_add]
    rcases List.mem_cons.1 hv with rfl | hv
    · rcases h.2 with ⟨a, b, c⟩ | ⟨k, a, b, c, d, e, f⟩
      · right
        have := hp.src v (hl v (by simp)) a
        omega
      · have h1 := ih _ e
        have h2 := (hG.cb k a).2
        unfold Gr.rc at f
        rw [c] at f
        have : 1 ≤ S.length := List.length_pos_of_mem e
        left
        omega
    · have := ih v hv
      omega
structure NI (G : Gr) (n : Nat) (p fa vi : List Int) (H : List Vs) (S : List Nat) (en ds : Int) (ex : Nat → Prop) : Prop where
  l1 : fa.length = n
  l2 : vi.length = n
  sn : S.Nodup
  sl : ∀ v, v ∈ S → v < n
  d0 : 0 ≤ ds
  top : ∀ v, v < n → 0 ≤ fa.getD v 0 ∧ fa.getD v 0 ≤ never
  src : ∀ v, v < n → 0 < G.lf v → fa.getD v 0 = 0
  via : ∀ v, v < n → -1 ≤ vi.getD v 0 ∧ vi.getD v 0 < G.es.length ∧ (fa.getD v 0 = never → vi.getD v 0 = -1)
  lnk : ∀ v, v < n → fa.getD v 0 < never → Lnk G p fa vi S v
  chn : Chn G p fa vi S
  sd : ∀ v, v ∈ S → fa.getD v 0 ≤ ds ∧ fa.getD v 0 < never
  hd : ∀ e, e ∈ H → ds ≤ e.2
  pnd : ∀ v, v < n → fa.getD v 0 < never → v ∉ S → ((v : Int), fa.getD v 0) ∈ H
  ent : ∀ e, e ∈ H → (0 ≤ e.1 ∧ e.1 < n) ∧ fa.getD e.1.toNat 0 ≤ e.2 ∧ e.2 < never ∧ (e.1.toNat ∈ S → fa.getD e.1.toNat 0 < e.2)
  hn : H.Nodup
  bel : ∀ k, k < G.es.length → G.frA k ∈ S → 0 < G.room k → ¬ ex k → fa.getD (G.toA k) 0 ≤ fa.getD (G.frA k) 0 + G.rc p k
  fin : (en = -1 ∧ ∀ v, v ∈ S → 0 ≤ G.lf v) ∨ ∃ t : Nat, en = (t : Int) ∧ t < n ∧ G.lf t < 0 ∧ t ∈ S ∧ ∀ v, v < n → G.lf v < 0 → fa.getD t 0 ≤ fa.getD v 0
section
variable {G : Gr} {n : Nat} {p fa vi : List Int} {H R : List Vs} {S : List Nat} {en ds : Int} {ex : Nat → Prop}
theorem NI.perm (h : NI G n p fa vi H S en ds ex) (hp : R.Perm H) : NI G n p fa vi R S en ds ex :=
  { h with hd := fun e he => h.hd e (hp.mem_iff.1 he), pnd := fun v a b c => hp.mem_iff.2 (h.pnd v a b c), ent := fun e he => h.ent e (hp.mem_iff.1 he), hn := hp.nodup_iff.2 h.hn }
theorem NI.excuse {ex' : Nat → Prop} (h : NI G n p fa vi H S en ds ex) (hx : ∀ k, k < G.es.length → G.frA k ∈ S → ex k → ex' k) : NI G n p fa vi H S en ds ex' :=
  { h with bel := fun k a b c d => h.bel k a b c (fun hk => d (hx k a b hk)) }
theorem NI.slen (h : NI G n p fa vi H S en ds ex) : S.length ≤ n := by
  have := h.sn.length_le_of_subset (l₂ := List.range n) (fun v hv => List.mem_range.2 (h.sl v hv))
  simpa using this
theorem NI.stale {e : Vs} (h : NI G n p fa vi (e :: R) S en ds ex) (hs : fa.getD e.1.toNat 0 < e.2) : NI G n p fa vi R S en ds ex :=
  { h with
    hd := fun x hx => h.hd x (by simp [hx])
    pnd := fun v a b c => by
      rcases List.mem_cons.1 (h.pnd v a b c) with h1 | h1
      · rw [← h1] at hs
        simp at hs
      · exact h1
    ent := fun x hx => h.ent x (by simp [hx])
    hn := (List.nodup_cons.1 h.hn).2 }
theorem NI.new (h : NI G n p fa vi H S en ds ex) {e : Vs} (he : e ∈ H) (hs : ¬ fa.getD e.1.toNat 0 < e.2) : e.1.toNat ∉ S := fun hm => hs ((h.ent e he).2.2.2 hm)
theorem NI.fresh {u : Nat} {d : Int} (h : NI G n p fa vi (((u : Int), d) :: R) S en ds (fun _ => False)) (hmin : ∀ x, x ∈ R → d ≤ x.2) (hs : ¬ fa.getD u 0 < d) :
    fa.getD u 0 = d ∧ u ∉ S ∧ u < n ∧ d < never ∧ NI G n p fa vi R (u :: S) (if G.lf u < 0 ∧ en < 0 then (u : Int) else en) d (fun k => G.frA k = u) := by
  have he := h.ent ((u : Int), d) (by simp)
  have hu : u ∉ S := h.new (e := ((u : Int), d)) (by simp) hs
  have hun : u < n := by have := he.1; simp only at this; omega
  simp only [Int.toNat_natCast] at he
  have hfd : fa.getD u 0 = d := by omega
  have hds : ds ≤ d := h.hd ((u : Int), d) (by simp)
  have hlt : d < never := he.2.2.1
  have hL := h.lnk u hun (by omega)
  refine ⟨hfd, hu, hun, hlt, ?_⟩
  exact
  { l1 := h.l1, l2 := h.l2, top := h.top, src := h.src, via := h.via
    sn := List.nodup_cons.2 ⟨hu, h.sn⟩
    sl := fun v hv => by
      rcases List.mem_cons.1 hv with rfl | hv
      · exact hun
      · exact h.sl v hv
    d0 := by have := h.d0; omega
    lnk := fun v a b => (h.lnk v a b).more (fun x hx => by simp [hx])
    chn := ⟨h.chn, hL⟩
    sd := fun v hv => by
      rcases List.mem_cons.1 hv with rfl | hv
      · omega
      · have := h.sd v hv; omega
    hd := fun e he => hmin e he
    pnd := fun v a b c => by
      simp only [List.mem_cons, not_or] at c
      rcases List.mem_cons.1 (h.pnd v a b c.2) with h1 | h1
      · exact absurd (by have := congrArg Prod.fst h1; simp only at this; omega) c.1
      · exact h1
    ent := fun x hx => by
      have hx0 := h.ent x (by simp [hx])
      refine ⟨hx0.1, hx0.2.1, hx0.2.2.1, fun hm => ?_⟩
      rcases List.mem_cons.1 hm with h1 | h1
      · have hne : x ≠ ((u : Int), d) := fun e => (List.nodup_cons.1 h.hn).1 (e ▸ hx)
        have h2 := hx0.2.1
        rw [h1] at h2 ⊢
        rcases Int.lt_or_eq_of_le h2 with h3 | h3
        · exact h3
        · exfalso
          apply hne
          have h4 := hx0.1
          have h5 : x.1 = (u : Int) := by omega
          have h6 : x.2 = d := by omega
          exact Prod.ext h5 h6
      · exact hx0.2.2.2 h1
    hn := (List.nodup_cons.1 h.hn).2
    bel := fun k a b c hx => by
      rcases List.mem_cons.1 b with h1 | h1
      · exact absurd h1 hx
      · exact h.bel k a h1 c (fun f => f)
    fin := by
      rcases h.fin with ⟨e1, e2⟩ | ⟨t, e1, e2, e3, e4, e5⟩
      · by_cases hl : G.lf u < 0
        · right
          refine ⟨u, by rw [if_pos ⟨hl, by omega⟩], hun, hl, by simp, fun v hv hlv => ?_⟩
          rw [hfd]
          have htop := h.top v hv
          by_cases hr : fa.getD v 0 < never
          · have hvS : v ∉ S := fun hm => by have := e2 v hm; omega
            rcases List.mem_cons.1 (h.pnd v hv hr hvS) with h1 | h1
            · have := congrArg Prod.snd h1
              simp only at this
              omega
            · have := hmin _ h1
              simpa using this
          · omega
        · left
          refine ⟨by rw [if_neg (fun hc => hl hc.1)]; exact e1, fun v hv => ?_⟩
          rcases List.mem_cons.1 hv with rfl | hv
          · omega
          · exact e2 v hv
      · right
        exact ⟨t, by rw [if_neg (by omega)]; exact e1, e2, e3, by simp [e4], e5⟩ }
theorem NI.skip {u k : Nat} {ex' : Nat → Prop} (h : NI G n p fa vi H S en ds ex) (hx : ∀ j, j < G.es.length → ex j → ex' j ∨ j = k) (hu : G.frA k = u) (hc : ¬ (fa.getD u 0 + G.rc p k < fa.getD (G.toA k) 0 ∧ 0 < G.room k)) : NI G n p fa vi H S en ds ex' :=
  { h with
    bel := fun j a b c d => by
      by_cases hjk : j = k
      · subst hjk
        rw [hu] at *
        omega
      · exact h.bel j a b c (fun e => (hx j a e).elim d hjk) }
theorem NI.relax {u k : Nat} {d : Int} {ex' : Nat → Prop} (hG : G.Ok n) (hp : G.Pot n p) (h : NI G n p fa vi H S en ds ex) (hx : ∀ j, j < G.es.length → ex j → ex' j ∨ j = k) (hk : k < G.es.length) (hu : G.frA k = u) (huS : u ∈ S) (hds : fa.getD u 0 = ds)
    (hd : d = fa.getD u 0 + G.rc p k) (hc : d < fa.getD (G.toA k) 0) (hr : 0 < G.room k) :
    G.toA k < n ∧ 0 ≤ d ∧ NI G n p (fa.set (G.toA k) d) (vi.set (G.toA k) k) (((G.toA k : Int), d) :: H) S en ds ex' := by
  have hv := hG.toL hk
  have hrc := hp.rc k hk hr
  have h0 := h.d0
  generalize hvv : G.toA k = v at *
  have hvS : v ∉ S := fun hm => by have := h.sd v hm; omega
  have gf : ∀ j, (fa.set v d).getD j 0 = if j = v then d else fa.getD j 0 := fun j => getD_setI fa v j d (by rw [h.l1]; exact hv)
  have gv : ∀ j, (vi.set v (k : Int)).getD j 0 = if j = v then (k : Int) else vi.getD j 0 := fun j => getD_setI vi v j k (by rw [h.l2]; exact hv)
  have gS : ∀ j, j ∈ S → j ≠ v := fun j hj e => hvS (e ▸ hj)
  have htv := h.top v hv
  have hdn : d < never := by omega
  refine ⟨hv, by omega, ?_⟩
  exact
  { l1 := by rw [List.length_set]; exact h.l1
    l2 := by rw [List.length_set]; exact h.l2
    sn := h.sn, sl := h.sl, d0 := h.d0
    top := fun j hj => by
      rw [gf j]
      have := h.top j hj
      split <;> omega
    src := fun j hj hl => by
      rw [gf j]
      have := h.src j hj hl
      split
      · rename_i e; subst e; omega
      · exact this
    via := fun j hj => by
      rw [gf j, gv j]
      have := h.via j hj
      split
      · refine ⟨by omega, by omega, fun e => by omega⟩
      · exact this
    lnk := fun j hj hl => by
      by_cases e : j = v
      · subst e
        right
        refine ⟨k, hk, by rw [gv, if_pos rfl], hvv, hr, by rw [hu]; exact huS, ?_⟩
        rw [gf, if_pos rfl, gf, hu, if_neg (gS u huS)]
        exact hd
      · rw [gf, if_neg e] at hl
        refine (h.lnk j hj hl).keep (fun w hw => ?_) (by rw [gv, if_neg e])
        rw [gf, if_neg]
        rcases hw with hw | hw
        · exact gS w hw
        · rw [hw]; exact e
    chn := h.chn.keep (fun w hw => by rw [gf, gv, if_neg (gS w hw), if_neg (gS w hw)]; exact ⟨rfl, rfl⟩)
    sd := fun w hw => by rw [gf, if_neg (gS w hw)]; exact h.sd w hw
    hd := fun e he => by
      rcases List.mem_cons.1 he with rfl | he
      · simp only; omega
      · exact h.hd e he
    pnd := fun w a b c => by
      by_cases e : w = v
      · subst e
        rw [gf, if_pos rfl]
        simp
      · rw [gf, if_neg e] at b ⊢
        exact List.mem_cons_of_mem _ (h.pnd w a b c)
    ent := fun e he => by
      rcases List.mem_cons.1 he with rfl | he
      · simp only [Int.toNat_natCast]
        rw [gf, if_pos rfl]
        exact ⟨⟨by omega, by omega⟩, by omega, hdn, fun hm => absurd hm hvS⟩
      · have := h.ent e he
        refine ⟨this.1, ?_, this.2.2.1, fun hm => ?_⟩
        · rw [gf]
          split
          · rename_i e1; rw [e1] at this; omega
          · exact this.2.1
        · rw [gf, if_neg (gS _ hm)]
          exact this.2.2.2 hm
    hn := List.nodup_cons.2 ⟨fun hm => by
      have := (h.ent _ hm).2.1
      simp only [Int.toNat_natCast] at this
      omega, h.hn⟩
    bel := fun j a b c e => by
      rw [gf (G.frA j), if_neg (gS _ b), gf]
      by_cases hjk : j = k
      · subst hjk
        rw [hvv, if_pos rfl, hu]
        omega
      · have := h.bel j a b c (fun e' => (hx j a e').elim e hjk)
        split
        · rename_i e1; rw [e1] at this; omega
        · exact this
    fin := by
      rcases h.fin with h1 | ⟨t, e1, e2, e3, e4, e5⟩
      · exact .inl h1
      · refine .inr ⟨t, e1, e2, e3, e4, fun w hw hl => ?_⟩
        rw [gf, gf, if_neg (gS t e4)]
        split
        · have := h.sd t e4
          omega
        · exact e5 w hw hl }
end
structure NR (G : Gr) (n : Nat) (p fa vi : List Int) (en : Int) : Prop where
  l1 : fa.length = n
  l2 : vi.length = n
  top : ∀ v, v < n → 0 ≤ fa.getD v 0 ∧ fa.getD v 0 ≤ never
  src : ∀ v, v < n → 0 < G.lf v → fa.getD v 0 = 0
  via : ∀ v, v < n → -1 ≤ vi.getD v 0 ∧ vi.getD v 0 < G.es.length
  up : ∀ v, v < n → fa.getD v 0 < never → fa.getD v 0 + p.getD v 0 ≤ 1048576 * (n - 1 : Int)
  bel : ∀ k, k < G.es.length → fa.getD (G.frA k) 0 < never → 0 < G.room k → fa.getD (G.toA k) 0 ≤ fa.getD (G.frA k) 0 + G.rc p k ∧ fa.getD (G.toA k) 0 < never
  ch : ∃ S : List Nat, S.Nodup ∧ (∀ v, v < n → (v ∈ S ↔ fa.getD v 0 < never)) ∧ (∀ v, v ∈ S → v < n) ∧ Chn G p fa vi S
  fin : (en = -1 ∧ ∀ v, v < n → fa.getD v 0 < never → 0 ≤ G.lf v) ∨ ∃ t : Nat, en = (t : Int) ∧ t < n ∧ G.lf t < 0 ∧ fa.getD t 0 < never ∧ ∀ v, v < n → G.lf v < 0 → fa.getD t 0 ≤ fa.getD v 0
theorem NI.done {G : Gr} {n : Nat} {p fa vi : List Int} {S : List Nat} {en ds : Int} (hG : G.Ok n) (hp : G.Pot n p) (h : NI G n p fa vi [] S en ds (fun _ => False)) : NR G n p fa vi en := by
  have hS : ∀ v, v < n → (v ∈ S ↔ fa.getD v 0 < never) := fun v hv => ⟨fun hm => (h.sd v hm).2, fun hl => Decidable.byContradiction fun hn => by have := h.pnd v hv hl hn; simp at this⟩
  have hup : ∀ v, v < n → fa.getD v 0 < never → fa.getD v 0 + p.getD v 0 ≤ 1048576 * (n - 1 : Int) := fun v hv hl => by
    have h1 := Chn.up hG hp h.chn h.sl v ((hS v hv).2 hl)
    have h2 := h.slen
    have := hG.n1
    omega
  exact
  { l1 := h.l1, l2 := h.l2, top := h.top, src := h.src
    via := fun v hv => ⟨(h.via v hv).1, (h.via v hv).2.1⟩
    up := hup
    bel := fun k hk hl hr => by
      have h1 := h.bel k hk ((hS _ (hG.frL hk)).2 hl) hr (fun f => f)
      refine ⟨h1, ?_⟩
      have h2 := hup _ (hG.frL hk) hl
      have h3 := hp.bd _ (hG.frL hk)
      have h4 := hp.bd _ (hG.toL hk)
      have h5 := hG.cb k hk
      have := hG.n1
      unfold Gr.rc at h1
      unfold never
      omega
    ch := ⟨S, h.sn, hS, h.sl, h.chn⟩
    fin := by
      rcases h.fin with ⟨e1, e2⟩ | ⟨t, e1, e2, e3, e4, e5⟩
      · exact .inl ⟨e1, fun v hv hl => e2 v ((hS v hv).2 hl)⟩
      · exact .inr ⟨t, e1, e2, e3, (hS t e2).1 e4, e5⟩ }
theorem NI.start {G : Gr} {n : Nat} {p fa vi : List Int} {H : List Vs} (l1 : fa.length = n) (l2 : vi.length = n) (hf : ∀ v, v < n → fa.getD v 0 = if 0 < G.lf v then 0 else never) (hv : ∀ v, v < n → vi.getD v 0 = -1)
    (h1 : ∀ e, e ∈ H → e.2 = 0 ∧ ∃ v : Nat, e.1 = (v : Int) ∧ v < n ∧ 0 < G.lf v) (h2 : ∀ v : Nat, v < n → 0 < G.lf v → ((v : Int), (0 : Int)) ∈ H) (hn : H.Nodup) : NI G n p fa vi H [] (-1) 0 (fun _ => False) := by
  have hs : ∀ v, v < n → fa.getD v 0 < never → 0 < G.lf v := fun v hv hl => by
    rw [hf v hv] at hl
    split at hl
    · assumption
    · omega
  exact
  { l1 := l1, l2 := l2, sn := List.nodup_nil, sl := fun v h => by simp at h, d0 := by omega
    top := fun v hv => by rw [hf v hv]; unfold never; split <;> omega
    src := fun v hv hl => by rw [hf v hv, if_pos hl]
    via := fun v h => by rw [hv v h]; omega
    lnk := fun v a b => .inl ⟨hs v a b, by rw [hf v a, if_pos (hs v a b)], hv v a⟩
    chn := trivial
    sd := fun v h => by simp at h
    hd := fun e he => by have := (h1 e he).1; omega
    pnd := fun v a b _ => by rw [hf v a, if_pos (hs v a b)]; exact h2 v a (hs v a b)
    ent := fun e he => by
      obtain ⟨e2, v, e1, e3, e4⟩ := h1 e he
      rw [e1, e2, Int.toNat_natCast, hf v e3, if_pos e4]
      refine ⟨⟨by omega, by omega⟩, by omega, by unfold never; omega, fun h => by simp at h⟩
    hn := hn
    bel := fun k _ h => by simp at h
    fin := .inl ⟨rfl, fun v h => by simp at h⟩ }
end Dp
end Go.Proofs.Ytmebpglkeedaoaa
namespace Go.Proofs.Ytmebpglkeedaoaa
open Go.RowKit Dp
def flat {α : Type} (f : α → List Value) (l : List α) : List Value := l.flatMap f
theorem flat_length {α : Type} {f : α → List Value} {s : Nat} (hf : ∀ x, (f x).length = s) : ∀ l : List α, (flat f l).length = l.length * s
  | [] => by simp [flat]
  | x :: l => by
    have := flat_length hf l
    unfold flat at *
    simp only [List.flatMap_cons, List.length_append, List.length_cons, hf, this, Nat.add_mul]
    omega
theorem flat_get {α : Type} {f : α → List Value} {s : Nat} (hf : ∀ x, (f x).length = s) : ∀ (l : List α) (i j : Nat) (x : α), l[i]? = some x → j < s → (flat f l)[i * s + j]? = (f x)[j]?
  | [], i, j, x, h, _ => by simp at h
  | y :: l, 0, j, x, h, hj => by
    simp only [List.getElem?_cons_zero, Option.some.injEq] at h
    subst h
    unfold flat
    rw [List.flatMap_cons, Nat.zero_mul, Nat.zero_add, List.getElem?_append_left (by rw [hf]; exact hj)]
  | y :: l, i + 1, j, x, h, hj => by
    simp only [List.getElem?_cons_succ] at h
    have ih := flat_get hf l i j x h hj
    unfold flat at *
    rw [List.flatMap_cons, List.getElem?_append_right (by rw [hf, Nat.add_mul]; omega), hf]
    rw [← ih]
    congr 1
    rw [Nat.add_mul]; omega
theorem flat_set {α : Type} {f : α → List Value} {s : Nat} (hf : ∀ x, (f x).length = s) (j : Nat) (v : Value) (hj : j < s) : ∀ (l : List α) (i : Nat) (x y : α), l[i]? = some y → f x = (f y).set j v → (flat f l).set (i * s + j) v = flat f (l.set i x)
  | [], i, x, y, h, _ => by simp at h
  | z :: l, 0, x, y, h, he => by
    simp only [List.getElem?_cons_zero, Option.some.injEq] at h
    subst h
    unfold flat
    rw [List.flatMap_cons, Nat.zero_mul, Nat.zero_add, List.set_append_left _ _ (by rw [hf]; exact hj), List.set_cons_zero, List.flatMap_cons, he]
  | z :: l, i + 1, x, y, h, he => by
    simp only [List.getElem?_cons_succ] at h
    have ih := flat_set hf j v hj l i x y h he
    unfold flat at *
    rw [List.flatMap_cons, List.set_cons_succ, List.flatMap_cons, List.set_append_right _ _ (by rw [hf, Nat.add_mul]; omega), hf, ← ih]
    congr 2
    rw [Nat.add_mul]; omega
theorem flat_append {α : Type} (f : α → List Value) (a b : List α) : flat f (a ++ b) = flat f a ++ flat f b := by simp [flat]
theorem getElem_D {α : Type} (l : List α) (i : Nat) (d : α) (h : i < l.length) : l[i]? = some (l.getD i d) := by
  rw [List.getD_eq_getElem?_getD, List.getElem?_eq_getElem h]; rfl
def OwnR {α : Type} (f : α → List Value) (e : TypeId) (s : Nat) (B : Nat) (W : World) (A : Option Addr) (c : Nat) (l : List α) : Prop := W.ownsRow B e s (.slice A l.length c) l.length (flat f l)
section
variable {α : Type} {f : α → List Value} {e : TypeId} {s B : Nat} {W W' : World} {g c : Nat} {l : List α} {A : Option Addr}
theorem OwnR.cell (hf : ∀ x, (f x).length = s) (h : OwnR f e s B W (some ⟨g, 0, none⟩) c l) (i j : Nat) (x : α) (hx : l[i]? = some x) (hj : j < s) : W.cell? ⟨g, i * s + j, none⟩ = (f x)[j]? := by
  have hi : i < l.length := (List.getElem?_eq_some_iff.1 hx).1
  have : i * s + j < l.length * s := by
    have := Nat.mul_le_mul_right s (show i + 1 ≤ l.length from hi)
    rw [Nat.add_mul] at this
    omega
  rw [World.ownsRow.cellAt h _ this, flat_get hf l i j x hx hj]
theorem OwnR.free (h : OwnR f e s B W (some ⟨g, 0, none⟩) c l) (j : Nat) : W.frozen? ⟨g, j, none⟩ = false := World.ownsRow.frozenAt h j
theorem OwnR.put (hf : ∀ x, (f x).length = s) (h : OwnR f e s B W (some ⟨g, 0, none⟩) c l) (i j : Nat) (x y : α) (v : Value) (hy : l[i]? = some y) (hj : j < s) (he : f x = (f y).set j v) : OwnR f e s B (W.setCell ⟨g, i * s + j, none⟩ v) (some ⟨g, 0, none⟩) c (l.set i x) := by
  have := (World.ownsRow.stored h (i * s + j) v).1
  unfold OwnR
  rw [List.length_set, ← flat_set hf j v hj l i x y hy he]
  exact this
theorem OwnR.below (h : OwnR f e s B W A c l) (hb : Below W.heap.size W W') : OwnR f e s B W' A c l := ownBelow h hb
theorem OwnR.touch {S : Nat → Prop} (h : OwnR f e s B W A c l) (k : Touch S W W') (hn : ∀ b, OwnB A b → ¬ S b) : OwnR f e s B W' A c l := ownTouch h k hn
theorem OwnR.lt (h : OwnR f e s B W (some ⟨g, 0, none⟩) c l) : B ≤ g ∧ g < W.heap.size := World.ownsRow.lt h g rfl
theorem OwnR.mono {B' : Nat} (h : OwnR f e s B W A c l) (hb : B' ≤ B) : OwnR f e s B' W A c l := ⟨h.1, h.2.imp id (fun ⟨k, c, cur, hv, hb', r⟩ => ⟨k, c, cur, hv, Nat.le_trans hb hb', r⟩)⟩
theorem OwnR.form (h : OwnR f e s B W A c l) (hn : 0 < l.length) : ∃ g, A = some ⟨g, 0, none⟩ ∧ B ≤ g ∧ g < W.heap.size ∧ l.length ≤ c ∧ c ≤ 9223372036854775807 := by
  rcases h.2 with ⟨h0, h1⟩ | ⟨g, cap', cur, hv, hb, hg, hn', hcm, _⟩
  · omega
  · cases hv
    exact ⟨g, rfl, hb, (Array.getElem?_eq_some_iff.1 hg).1, hn', by unfold maxLen at hcm; omega⟩
theorem OwnR.set_ne (h : OwnR f e s B W A c l) {p : Addr} (hp : ¬ OwnB A p.block) (u : Value) : OwnR f e s B (W.setCell p u) A c l := ownSet h hp u
theorem OwnR.pop (hf : ∀ x, (f x).length = s) (h : OwnR f e s B W (some ⟨g, 0, none⟩) c l) (k : Nat) (hk : k + 1 = l.length) : OwnR f e s B W (some ⟨g, 0, none⟩) c (l.take k) := by
  unfold OwnR at h ⊢
  rw [← hk] at h
  have hl : (l.take k).length = k := by simp; omega
  rw [hl]
  have e1 : flat f l = flat f (l.take k) ++ flat f (l.drop k) := by rw [← flat_append, List.take_append_drop]
  rw [e1] at h
  exact ownsRow_pop (by rw [flat_length hf, hl]) h
end
end Go.Proofs.Ytmebpglkeedaoaa
namespace Go.Proofs.Ytmebpglkeedaoaa
open Go Go.RowKit
structure Same (W : World) where
  w : World
  is : w = W
instance (W : World) : Nonempty (Same W) := ⟨⟨W, rfl⟩⟩
@[simp, go_sem] theorem Same.eq {W : World} (x : Same W) : x.w = W := x.is
def isMove (o : Oper) : Bool := (match o.op with | .move _ => true | _ => false) && o.guard.isNone
def StepV (P : Program) (o : Oper) (a : Act) (w : World) (N : Value → World → Prop) : Prop :=
  match (execOp a.eval o).run P w with
  | .ok (.value v) w' => N v w'
  | .ok .skip w' => N undef w'
  | .ok (.enter f args) w' => Calls P f args w' fun e w'' => ∃ v, e = .returned v ∧ N v w''
  | _ => False
def SpineV (P : Program) (C : World → Prop) (T : Act → World → Prop) : List (Oper × Bool) → Act → World → Prop
  | [], a, w => T a w
  | (o, f) :: r, a, w => StepV P o a w fun v w' => (f = true → C w') ∧ SpineV P C T r (a.put o.dst v) w'
def spineB (ops : Array Oper) (k : Nat) (fl : List Bool) (lz : List Nat) (n : Nat) : Bool :=
  Region.noSelect ops && decide (k + fl.length ≤ ops.size) && dstsOk n (ops.toList.take k) &&
  (List.range ops.size).all (fun i => match ops[i]? with | some o => o.after.all (fun e => !Region.binds .any e || decide (e.on < i)) | none => false) &&
  (List.range k).all (fun i => (List.range k).all fun j => match ops[i]?, ops[j]? with
    | some oi, some oj => (match oj.dst with | some d => !(oi.looksAt ops).contains d || (decide (j < i) && waitsB1 .any ops i j) | none => false)
    | _, _ => false) &&
  (List.range k).all (fun i => (List.range fl.length).all fun j => match ops[i]?, ops[k + j]? with
    | some oi, some oj => (match oj.dst with | some d => !(oi.looksAt ops).contains d && oi.dst != some d | none => true)
    | _, _ => false) &&
  (List.range fl.length).all (fun s => match ops[k + s]? with
    | some o => o.guard.isNone && (decide (s = 0) || waitsB1 .any ops (k + s) (k + s - 1)) && (List.range k).all (fun j => match ops[j]? with
      | some oj => (match oj.dst with | some d => !(o.looksAt ops).contains d || waitsB1 .any ops (k + s) j | none => false)
      | none => false) && (fl.getD s true || (List.range k).all (fun i => lz.contains i || (coverB ops ops.size (depsB ops (k + s) (List.replicate ops.size false))).getD i false))
    | none => false) &&
  lz.all (fun i => match ops[i]? with | some o => isMove o | none => false) &&
  (List.range ops.size).all (fun t => decide (t < k + fl.length) || ((coverB ops ops.size (depsB ops t (List.replicate ops.size false))).take (k + fl.length)).all (fun b => b)) &&
  Region.seqB .any ops (ops.size - (k + fl.length)) (k + fl.length) (Array.replicate (k + fl.length) true ++ Array.replicate (ops.size - (k + fl.length)) false)
theorem slot_put_congr {a b : Act} {t : Tmp} (hs : a.tmps.size = b.tmps.size) (h : slotOf a t = slotOf b t) (x : Option Tmp) (v : Value) : slotOf (a.put x v) t = slotOf (b.put x v) t := by
  by_cases hx : x = some t
  · subst hx
    by_cases hl : t < a.tmps.size
    · have hl' : t < b.tmps.size := hs ▸ hl
      rw [slot_put_same v hl, slot_put_same v hl']
    · have hl' : ¬ t < b.tmps.size := hs ▸ hl
      simp [slotOf, Act.put, hl, hl']
  · rw [slot_put_ne v hx, slot_put_ne v hx, h]
theorem move_yields {P : Program} {ops : Array Oper} {o : Oper} {v : Value} {a : Act} {W : World} (he : isMove o = true) (h : YieldsIn P ops (fun w' => ∃ x : Same W, w' = x.w) o v a) (V : World) : YieldsIn P ops (fun w' => ∃ x : Same V, w' = x.w) o v a := by
  unfold isMove at he
  simp only [Bool.and_eq_true] at he
  have hw : Region.wanted o (yielded ops a.tmps) = true := by
    unfold Region.wanted
    rw [Option.isNone_iff_eq_none.1 he.2]
  rcases h with ⟨_, h1⟩ | ⟨h1, _⟩
  · refine .inl ⟨hw, fun w hx => ?_⟩
    have h2 := h1 W ⟨⟨W, rfl⟩, rfl⟩
    have h3 := he.1
    unfold Oper.quietAt at h2 ⊢
    cases ho : o.op <;> rw [ho] at h3 <;> simp at h3
    rename_i x
    have e : ∀ w, (execOp a.eval o).run P w = .ok (.value (a.eval x)) w := fun w => by
      unfold execOp
      simp only [ho]
      rfl
    rw [e] at h2 ⊢
    simp only [Oper.quietUpon] at h2 ⊢
    exact ⟨trivial, h2.2⟩
  · rw [hw] at h1; cases h1
theorem StepV.wp {P : Program} {o : Oper} {a b : Act} {w : World} {N : Value → World → Prop} {K : Act → World → Prop} {Q : Exit → Act → World → Prop} (h : StepV P o b w N) (he : execOp a.eval o = execOp b.eval o) (hK : ∀ v w', N v w' → K (a.put o.dst v) w') : o.wp P a w K Q := by
  unfold StepV at h
  unfold Oper.wp
  rw [he]
  generalize (execOp b.eval o).run P w = r at *
  cases r with
  | ok n w' =>
    cases n <;> simp only [Oper.upon] at h ⊢
    case value u => exact hK _ _ h
    case skip => exact hK _ _ h
    case enter f args => exact h.mono fun e w'' ⟨v, hv, hn⟩ => by subst hv; exact hK _ _ hn
    all_goals exact h.elim
  | halt x w' => exact h.elim
structure MidV (P : Program) (ops : Array Oper) (k m : Nat) (lz : List Nat) (C : World → Prop) (T : Act → World → Prop) (sp : List (Oper × Bool)) (a0 af : Act) (s : Nat) (b : Act) (listed : Array Bool) (a : Act) (w : World) : Prop where
  size : listed.size = ops.size
  closed : ∀ j oj, ops[j]? = some oj → listed.getD j false = true → ∀ e ∈ oj.after, Region.binds .any e = true → listed.getD e.on false = true
  le : s ≤ m
  sdone : ∀ j, j < s → listed.getD (k + j) false = true
  sleft : ∀ t, k + s ≤ t → t < ops.size → listed.getD t true = false
  adef : a.defers = b.defers
  asize : a.tmps.size = a0.tmps.size
  bsize : b.tmps.size = a0.tmps.size
  put : ∀ j o t, j < k → ops[j]? = some o → o.dst = some t → listed.getD j false = true → slotOf a t = slotOf b t
  same : ∀ t, (∀ j o, j < k → ops[j]? = some o → o.dst ≠ some t) → slotOf a t = slotOf b t
  keep : ∀ j o t, j < k → ops[j]? = some o → o.dst = some t → slotOf b t = slotOf af t
  other : ∀ t, (∀ j o, j < k → ops[j]? = some o → o.dst ≠ some t) → (∀ j o, j < m → ops[k + j]? = some o → o.dst ≠ some t) → slotOf b t = slotOf a0 t
  stage : SpineV P C T (sp.drop s) b w
  cw : C w ∨ ∀ i, i < k → i ∉ lz → listed.getD i false = true
section
variable {P : Program} {Q : Exit → Act → World → Prop} {W : World} {a0 af : Act} {l : List Oper}
theorem wp_region_spine {id : Nat} (k : Nat) (fl : List Bool) (lz : List Nat) (af : Act) (C : World → Prop) (hm : P.follows .mixedOrders = true)
    (hB : spineB l.toArray k fl lz a0.tmps.size = true) (hC : C W.drew)
    (hwalk : ∀ V : World, C V → wpQuiet P l.toArray (fun w' => ∃ x : Same V, w' = x.w) (fun a' => a' = af) (l.take k) a0)
    (hS : ∀ V : World, C V → SpineV P C (fun a w => wpList P l.toArray Q (l.drop (k + fl.length)) a w) (((l.drop k).take fl.length).zip fl) af V) :
    (Code.region id l.toArray true).wp P Q a0 W := by
  unfold spineB at hB
  rw [Bool.and_eq_true, Bool.and_eq_true, Bool.and_eq_true, Bool.and_eq_true, Bool.and_eq_true, Bool.and_eq_true, Bool.and_eq_true, Bool.and_eq_true, Bool.and_eq_true] at hB
  obtain ⟨⟨⟨⟨⟨⟨⟨⟨⟨hsel, hks⟩, hdst⟩, hback⟩, hdep⟩, hap⟩, hsp⟩, hlz⟩, htl⟩, hseq⟩ := hB
  simp only [decide_eq_true_eq, List.all_eq_true, List.mem_range, Bool.or_eq_true] at hks hback hdep hap htl hlz hsp
  have hsz : l.toArray.size = l.length := by simp
  generalize hfm : fl.length = m at *
  have hkl : k + m ≤ l.length := by rw [← hsz]; exact hks
  have hdk : dstsOk a0.tmps.size (l.take k) = true := hdst
  have hall : ∀ V : World, C V → AllIn P l.toArray (fun w' => ∃ x : Same V, w' = x.w) af (l.take k) a0 := fun V hV => allIn_of hdk (hwalk V hV)
  have hA0 := hall _ hC
  have hget : ∀ i, i < k → (l.take k)[i]? = l[i]? := fun i hi => by rw [List.getElem?_take]; simp [hi]
  have hafs : ∀ t, (∀ j o, j < k → l[j]? = some o → o.dst ≠ some t) → slotOf af t = slotOf a0 t := fun t ht => hA0.keep.2.2 t (fun o ho => by
    obtain ⟨j, hj⟩ := List.getElem?_of_mem ho
    rw [List.getElem?_take] at hj
    split at hj
    · exact ht j o (by assumption) hj
    · cases hj)
  have hback' : ∀ i o, l[i]? = some o → ∀ e ∈ o.after, Region.binds .any e = true → e.on < i := by
    intro i o hi e he hb
    have hil : i < l.length := (List.getElem?_eq_some_iff.1 hi).1
    have h1 := hback i (by rw [hsz]; exact hil)
    have hi' : l.toArray[i]? = some o := by simpa using hi
    rw [hi'] at h1
    have h2 := Array.all_eq_true_iff_forall_mem.1 h1 e he
    simpa [hb] using h2
  have hdep' : ∀ i o j oj d, i < k → l[i]? = some o → j < k → l[j]? = some oj → oj.dst = some d → d ∈ o.looksAt l.toArray → j < i ∧ waitsB1 .any l.toArray i j = true := by
    intro i o j oj d hi ho hj hoj hd hmem
    have h1 := hdep i hi j hj
    have ho' : l.toArray[i]? = some o := by simpa using ho
    have hoj' : l.toArray[j]? = some oj := by simpa using hoj
    rw [ho', hoj'] at h1
    simp only [hd] at h1
    have hc : (o.looksAt l.toArray).contains d = true := by simpa using hmem
    rw [hc] at h1
    simpa using h1
  have hap' : ∀ i o j oj d, i < k → l[i]? = some o → j < m → l[k + j]? = some oj → oj.dst = some d → d ∉ o.looksAt l.toArray ∧ o.dst ≠ some d := by
    intro i o j oj d hi ho hj hoj hd
    have h1 := hap i hi j hj
    have ho' : l.toArray[i]? = some o := by simpa using ho
    have hoj' : l.toArray[k + j]? = some oj := by simpa using hoj
    rw [ho', hoj'] at h1
    simpa [hd] using h1
  have hsp' : ∀ s o, s < m → l[k + s]? = some o → o.guard = none ∧ (s = 0 ∨ waitsB1 .any l.toArray (k + s) (k + s - 1) = true) ∧ (∀ j oj d, j < k → l[j]? = some oj → oj.dst = some d → d ∈ o.looksAt l.toArray → waitsB1 .any l.toArray (k + s) j = true) ∧ (fl.getD s true = true ∨ ∀ i, i < k → i ∉ lz → (coverB l.toArray l.toArray.size (depsB l.toArray (k + s) (List.replicate l.toArray.size false))).getD i false = true) := by
    intro s o hs ho
    have h1 := hsp s hs
    have ho' : l.toArray[k + s]? = some o := by simpa using ho
    rw [ho'] at h1
    simp only [Bool.and_eq_true, Bool.or_eq_true, decide_eq_true_eq, List.all_eq_true, List.mem_range] at h1
    obtain ⟨⟨⟨g1, g2⟩, g3⟩, g4⟩ := h1
    refine ⟨Option.isNone_iff_eq_none.1 g1, g2, fun j oj d hj hoj hd hmem => ?_, g4.imp (fun x => x) (fun h i hi hn => (h i hi).resolve_left (by simpa using hn))⟩
    have h2 := g3 j hj
    have hoj' : l.toArray[j]? = some oj := by simpa using hoj
    rw [hoj'] at h2
    simp only [hd] at h2
    have hc : (o.looksAt l.toArray).contains d = true := by simpa using hmem
    rw [hc] at h2
    simpa using h2
  have dlt : ∀ i o, i < k → l[i]? = some o → ∃ d, o.dst = some d ∧ d < a0.tmps.size := fun i o hi ho => dsts_lt _ _ i o hdk (by rw [hget i (by omega)]; exact ho)
  have dne : ∀ i j o oj t, i < k → j < k → l[i]? = some o → l[j]? = some oj → i ≠ j → oj.dst = some t → o.dst ≠ some t := fun i j o oj t hi hj ho hoj hne hd => dsts_ne _ _ j i oj o t hdk (by rw [hget j (by omega)]; exact hoj) (by rw [hget i (by omega)]; exact ho) (Ne.symm hne) hd
  have fin : ∀ (b : Act) (listed : Array Bool) (a : Act) (w : World), MidV P l.toArray k m lz C (fun a w => wpList P l.toArray Q (l.drop (k + m)) a w) (((l.drop k).take m).zip fl) a0 af m b listed a w → (∀ i, i < k → listed.getD i false = true) → ∀ fuel, unl listed = fuel → wpAny P .any l.toArray Q fuel listed a w := by
    intro b listed a w mm hdone fuel hu
    have hLH : listed = Array.replicate (k + m) true ++ Array.replicate (l.toArray.size - (k + m)) false := by
      apply Array.ext
      · simp [mm.size]; omega
      · intro i h1 h2
        rcases Nat.lt_or_ge i (k + m) with h' | h
        rotate_left 1
        · have := mm.sleft i h (by rw [← mm.size]; exact h1)
          rw [Array.getElem_append_right (by simp; omega)]
          simpa [h1] using this
        · have : listed.getD i false = true := by
            rcases Nat.lt_or_ge i k with h3 | h3
            · exact hdone i h3
            · have := mm.sdone (i - k) (by omega)
              rwa [show k + (i - k) = i by omega] at this
          rw [Array.getElem_append_left (by simp; omega)]
          simpa [h1] using this
    have hab : a = b := by
      refine act_ext (by rw [mm.asize, mm.bsize]) mm.adef (fun t => ?_)
      by_cases hex : ∃ j o, j < k ∧ l[j]? = some o ∧ o.dst = some t
      · obtain ⟨j, o, hj, ho, hd⟩ := hex
        exact mm.put j o t hj (by simpa using ho) hd (hdone j hj)
      · exact mm.same t (fun j o hj ho hd => hex ⟨j, o, hj, by simpa using ho, hd⟩)
    have hst := mm.stage
    have hnil : (((l.drop k).take m).zip fl).drop m = [] := List.drop_eq_nil_of_le (by simp; omega)
    rw [hnil] at hst
    have hfu : fuel = (l.drop (k + m)).length := by
      rw [← hu, hLH, unl_done]
      simp
    rw [hfu, hab, hLH]
    refine wpAny_of_seq (l.drop (k + m)) (k + m) _ b w (fun j => by simp [List.getElem?_drop]) ?_ hst
    have : (l.drop (k + m)).length = l.toArray.size - (k + m) := by simp
    rw [this]
    exact hseq
  have main : ∀ (fuel s : Nat) (b : Act) (listed : Array Bool) (a : Act) (w : World), MidV P l.toArray k m lz C (fun a w => wpList P l.toArray Q (l.drop (k + m)) a w) (((l.drop k).take m).zip fl) a0 af s b listed a w → unl listed = fuel → wpAny P .any l.toArray Q fuel listed a w := by
    intro fuel
    induction fuel with
    | zero =>
      intro s b listed a w mm hu
      have hlist : ∀ i, i < listed.size → listed.getD i false = true := by
        intro i hi
        cases hc : listed.getD i false
        · have := unl_set (listed := listed) (i := i) hi (by rw [getD_tf hi]; exact hc)
          omega
        · rfl
      have hsm : s = m := by
        rcases Nat.lt_or_ge s m with h | h
        · have h1 := mm.sleft (k + s) (Nat.le_refl _) (by omega)
          have h2 := hlist (k + s) (by rw [mm.size]; omega)
          rw [getD_tf (by rw [mm.size]; omega), h2] at h1
          cases h1
        · have := mm.le; omega
      subst hsm
      exact fin b listed a w mm (fun i hi => hlist i (by rw [mm.size]; omega)) _ hu
    | succ fuel ih =>
      intro s b listed a w mm hu
      by_cases hdone : (∀ i, i < k → listed.getD i false = true) ∧ s = m
      · obtain ⟨h1, rfl⟩ := hdone
        exact fin b listed a w mm h1 _ hu
      · have hex : ¬ ∀ i, i < k + m → listed.getD i false = true := by
          intro hh
          refine hdone ⟨fun i hi => hh i (by omega), ?_⟩
          rcases Nat.lt_or_ge s m with h | h
          · have h1 := mm.sleft (k + s) (Nat.le_refl _) (by omega)
            have h2 := hh (k + s) (by omega)
            rw [getD_tf (by rw [mm.size]; omega), h2] at h1
            cases h1
          · have := mm.le; omega
        obtain ⟨i0, hi0, hpre, hun0⟩ := first_no' listed (k + m) hex
        refine ⟨fun h0 => ?_, fun i hi => ?_⟩
        · have hr : i0 ∈ Region.ready .any l.toArray listed := by
            rw [mem_ready]
            refine ⟨by rw [getD_tf (by rw [mm.size]; omega)]; exact hun0, l[i0]'(by omega), by simp, fun e he hb => hpre _ ?_⟩
            exact hback' i0 _ (by simp) e he hb
          rw [h0] at hr
          cases hr
        · obtain ⟨hun, o, ho, hw⟩ := mem_ready.1 hi
          have hil : i < l.length := by
            have := (Array.getElem?_eq_some_iff.1 ho).1
            simpa using this
          have hol : l[i]? = some o := by simpa using ho
          have hun' : unl (listed.setIfInBounds i true) = fuel := by
            have := unl_set (listed := listed) (i := i) (by rw [mm.size]; omega) hun
            omega
          have hcov : ∀ q, (coverB l.toArray l.toArray.size (depsB l.toArray i (List.replicate l.toArray.size false))).getD q false = true → listed.getD q false = true := by
            intro q h2
            refine cover_listed (ops := l.toArray) mm.closed l.toArray.size _ (fun j hj => ?_) q h2
            unfold depsB at hj
            rw [ho] at hj
            refine deps_listed _ _ (fun e he hb => hw e (by simpa using he) hb) (fun q hq => ?_) j hj
            rw [List.getD_eq_getElem?_getD, List.getElem?_replicate] at hq
            split at hq <;> cases hq
          have hik : i < k + m := by
            rcases Nat.lt_or_ge i (k + m) with h | h
            rotate_left 1
            · have h1 := (htl i (by omega)).resolve_left (by omega)
              have h2 : (coverB l.toArray l.toArray.size (depsB l.toArray i (List.replicate l.toArray.size false))).getD i0 false = true := by
                have hlen := cover_length (ops := l.toArray) l.toArray.size (depsB l.toArray i (List.replicate l.toArray.size false))
                rw [deps_length, List.length_replicate] at hlen
                have hm : (coverB l.toArray l.toArray.size (depsB l.toArray i (List.replicate l.toArray.size false)))[i0]'(by rw [hlen, hsz]; omega) ∈ (coverB l.toArray l.toArray.size (depsB l.toArray i (List.replicate l.toArray.size false))).take (k + m) :=
                  List.mem_take_iff_getElem.2 ⟨i0, by rw [hlen, hsz]; omega, rfl⟩
                have := h1 _ hm
                rw [List.getD_eq_getElem?_getD, List.getElem?_eq_getElem (by rw [hlen, hsz]; omega)]
                exact this
              have h3 := hcov i0 h2
              rw [hun0] at h3
              cases h3
            · exact h
          have hclosed : ∀ j oj, l.toArray[j]? = some oj → (listed.setIfInBounds i true).getD j false = true → ∀ e ∈ oj.after, Region.binds .any e = true → (listed.setIfInBounds i true).getD e.on false = true := by
            intro j oj hj hl e he hb
            by_cases hji : i = j
            · subst hji
              rw [ho] at hj
              cases hj
              exact getD_set_true (hw e he hb)
            · rw [getD_set_ne false hji] at hl
              exact getD_set_true (mm.closed j oj hj hl e he hb)
          have hnow : (listed.setIfInBounds i true).getD i false = true := by
            have : i < listed.size := by rw [mm.size]; omega
            simp [this]
          rcases Nat.lt_or_ge i k with hikk | hikk
          · -- an operation that reads
            obtain ⟨d, hod, hdlt⟩ := dlt i o hikk hol
            have hlook : ∀ t ∈ o.looksAt l.toArray, slotOf a t = slotOf (accum af ((l.take k).take i) a0) t := by
              intro t ht
              rw [accum_slot _ _ _ (dstsOk_take _ _ _ hdk)]
              by_cases hex : ∃ j oj, j < k ∧ l[j]? = some oj ∧ oj.dst = some t
              · obtain ⟨j, oj, hj, hoj, hdt⟩ := hex
                obtain ⟨hji, hwt⟩ := hdep' i o j oj t hikk hol hj hoj hdt ht
                obtain ⟨e, he, hb, heo⟩ := waitsB1_spec ho hwt
                have hlj := hw e he hb
                rw [heo] at hlj
                rw [mm.put j oj t hj (by simpa using hoj) hdt hlj, mm.keep j oj t hj (by simpa using hoj) hdt, if_pos]
                rw [List.any_eq_true]
                refine ⟨oj, ?_, by simp [hdt]⟩
                refine List.mem_of_getElem? (i := j) ?_
                rw [List.getElem?_take, List.getElem?_take]
                simp only [hji, show j < k by omega, if_true, hoj]
              · rw [mm.same t (fun j oj hj hoj hdt => hex ⟨j, oj, hj, by simpa using hoj, hdt⟩), mm.other t (fun j oj hj hoj hdt => hex ⟨j, oj, hj, by simpa using hoj, hdt⟩) (fun j oj hj hoj hdt => (hap' i o j oj t hikk hol hj (by simpa using hoj) hdt).1 ht), if_neg]
                intro hany
                rw [List.any_eq_true] at hany
                obtain ⟨oj, hmem, hdt⟩ := hany
                obtain ⟨j, hj⟩ := List.getElem?_of_mem (List.mem_of_mem_take hmem)
                rw [List.getElem?_take] at hj
                split at hj
                · exact hex ⟨j, oj, by omega, hj, by simpa using hdt⟩
                · cases hj
            have hy : YieldsIn P l.toArray (fun w' => ∃ x : Same w, w' = x.w) o (leftBy af o) (accum af ((l.take k).take i) a0) := by
              by_cases hz : i ∈ lz
              · refine move_yields ?_ (hA0.get (i := i) (o := o) (by rw [List.getElem?_take]; simp [hikk, hol])) w
                have := hlz i hz
                rw [ho] at this
                exact this
              · have hcw : C w := mm.cw.resolve_right (fun h => by
                  have h1 := h i hikk hz
                  rw [getD_tf (by rw [mm.size]; omega), h1] at hun
                  cases hun)
                exact (hall w hcw).get (i := i) (o := o) (by rw [List.getElem?_take]; simp [hikk, hol])
            have he : execOp a.eval o = execOp (accum af ((l.take k).take i) a0).eval o := execOp_congr o (fun cs b => Region.noSelect_spec hsel i o cs b ho) (fun x hx => by
              cases x with
              | tmp t => exact hlook t (List.mem_append_left _ (List.mem_filterMap.2 ⟨.tmp t, by simpa using hx, rfl⟩))
              | _ => rfl)
            have hy' := hy.of_same he (wanted_congr hlook)
            refine wpOp_of_qOp (C := fun w' => ∃ x : Same w, w' = x.w) ⟨⟨w, rfl⟩, rfl⟩ (fun a' w' hx ha => ?_) (hy'.qOp ho (K := fun a' => a' = a.put o.dst (leftBy af o)) rfl)
            obtain ⟨⟨x, hxw⟩, rfl⟩ := hx
            subst hxw
            subst ha
            have hvb : leftBy af o = slotOf b d := by
              rw [mm.keep i o d hikk ho hod]
              simp [leftBy, hod]
            refine ih s b _ _ _ ⟨by simp [mm.size], hclosed, mm.le, fun j hj => getD_set_true (mm.sdone j hj), fun t ht ht' => by rw [getD_set_ne true (by omega)]; exact mm.sleft t ht ht', by rw [defers_put]; exact mm.adef, by rw [size_put]; exact mm.asize, mm.bsize, ?_, ?_, mm.keep, mm.other, mm.stage, mm.cw.imp (fun x => x) (fun h q hq hz => getD_set_true (h q hq hz))⟩ hun'
            · intro j oj t hj hoj hdt hl
              by_cases hji : i = j
              · subst hji
                rw [ho] at hoj
                cases hoj
                rw [hod] at hdt
                cases hdt
                rw [hod, slot_put_same _ (by rw [mm.asize]; exact hdlt), hvb]
              · rw [getD_set_ne false hji] at hl
                rw [slot_put_ne _ (dne i j o oj t hikk hj hol (by simpa using hoj) hji hdt)]
                exact mm.put j oj t hj hoj hdt hl
            · intro t hno
              rw [slot_put_ne _ (hno i o hikk ho)]
              exact mm.same t hno
          · -- the next one of the row
            have his : i = k + s := by
              rcases Nat.lt_or_ge i (k + s) with h | h
              · have := mm.sdone (i - k) (by omega)
                rw [show k + (i - k) = i by omega] at this
                rw [getD_tf (by rw [mm.size]; omega), this] at hun
                cases hun
              · rcases Nat.lt_or_ge (k + s) i with h2 | h2
                · obtain ⟨_, g2, _, _⟩ := hsp' (i - k) o (by omega) (by rw [show k + (i - k) = i by omega]; exact hol)
                  have g3 := g2.resolve_left (by omega)
                  rw [show k + (i - k) = i by omega] at g3
                  obtain ⟨e, he, hb, heo⟩ := waitsB1_spec ho g3
                  have hlj := hw e he hb
                  rw [heo] at hlj
                  have := mm.sleft (i - 1) (by omega) (by omega)
                  rw [getD_tf (by rw [mm.size]; omega), hlj] at this
                  cases this
                · omega
            subst his
            have hs : s < m := by omega
            obtain ⟨g1, g2, g3, g4⟩ := hsp' s o hs hol
            have hspl : (((l.drop k).take m).zip fl).drop s = (o, fl[s]'(by omega)) :: (((l.drop k).take m).zip fl).drop (s + 1) := by
              rw [List.drop_eq_getElem_cons (by simp; omega)]
              congr 1
              simp only [List.getElem_zip, List.getElem_take, List.getElem_drop]
              rw [List.getElem?_eq_getElem hil] at hol
              simp only [Option.some.injEq] at hol
              rw [hol]
            have hst := mm.stage
            rw [hspl] at hst
            have hlook : ∀ t ∈ o.looksAt l.toArray, slotOf a t = slotOf b t := by
              intro t ht
              by_cases hex : ∃ j oj, j < k ∧ l[j]? = some oj ∧ oj.dst = some t
              · obtain ⟨j, oj, hj, hoj, hdt⟩ := hex
                obtain ⟨e, he, hb, heo⟩ := waitsB1_spec ho (g3 j oj t hj hoj hdt ht)
                have hlj := hw e he hb
                rw [heo] at hlj
                exact mm.put j oj t hj (by simpa using hoj) hdt hlj
              · exact mm.same t (fun j oj hj hoj hdt => hex ⟨j, oj, hj, by simpa using hoj, hdt⟩)
            have he : execOp a.eval o = execOp b.eval o := execOp_congr o (fun cs b => Region.noSelect_spec hsel _ o cs b ho) (fun x hx => by
              cases x with
              | tmp t => exact hlook t (List.mem_append_left _ (List.mem_filterMap.2 ⟨.tmp t, by simpa using hx, rfl⟩))
              | _ => rfl)
            unfold wpOp
            rw [ho]
            simp only
            rw [if_pos (by unfold Region.wanted; rw [g1])]
            refine .inl (StepV.wp hst he (fun v w' hN => ?_))
            refine ih (s + 1) (b.put o.dst v) _ _ _ ⟨by simp [mm.size], hclosed, hs, fun j hj => ?_, fun t ht ht' => by rw [getD_set_ne true (by omega)]; exact mm.sleft t (by omega) ht', by rw [defers_put, defers_put]; exact mm.adef, by rw [size_put]; exact mm.asize, by rw [size_put]; exact mm.bsize, ?_, ?_, ?_, ?_, hN.2, ?_⟩ hun'
            · by_cases hjs : j = s
              · subst hjs; exact hnow
              · exact getD_set_true (mm.sdone j (by omega))
            · intro j oj t hj hoj hdt hl
              rw [getD_set_ne false (by omega)] at hl
              exact slot_put_congr (by rw [mm.asize, mm.bsize]) (mm.put j oj t hj hoj hdt hl) _ _
            · intro t hno
              exact slot_put_congr (by rw [mm.asize, mm.bsize]) (mm.same t hno) _ _
            · intro j oj t hj hoj hdt
              rw [slot_put_ne _ (fun e => (hap' j oj s o t hj (by simpa using hoj) hs hol e).2 hdt)]
              exact mm.keep j oj t hj hoj hdt
            · intro t h1 h2
              rw [slot_put_ne _ (h2 s o hs ho)]
              exact mm.other t h1 h2
            · rcases g4 with g4 | g4
              · refine .inl (hN.1 ?_)
                rw [List.getD_eq_getElem?_getD, List.getElem?_eq_getElem (by omega)] at g4
                exact g4
              · exact .inr (fun q hq hz => getD_set_true (hcov q (g4 q hq hz)))
  have hrep : ∀ i d, i < l.toArray.size → (Array.replicate l.toArray.size false).getD i d = false := fun i d hi => by simp at hi; simp [hi]
  refine wp_region_any hm (main _ 0 af _ a0 _ ?_ (by rw [unl_rep]))
  refine ⟨by simp, ?_, Nat.zero_le _, fun j hj => absurd hj (Nat.not_lt_zero _), fun t _ ht => hrep t _ ht, hA0.keep.2.1.symm, rfl, hA0.keep.1, ?_, ?_, fun _ _ _ _ _ _ => rfl, ?_, ?_, .inl hC⟩
  · intro j oj hj h
    rw [hrep j _ (Array.getElem?_eq_some_iff.1 hj).1] at h
    cases h
  · intro j o t _ ho _ h
    rw [hrep j _ (Array.getElem?_eq_some_iff.1 ho).1] at h
    cases h
  · intro t hno
    exact (hafs t (fun j o hj ho => hno j o hj (by simpa using ho))).symm
  · intro t h1 _
    exact hafs t (fun j o hj ho => h1 j o hj (by simpa using ho))
  · exact hS _ hC
end
end Go.Proofs.Ytmebpglkeedaoaa
namespace Go.Proofs.Ytmebpglkeedaoaa
open Go.RowKit Dp
theorem stepV_append {P : Program} {o : Oper} {a : Act} {w : World} {N : Value → World → Prop} (s x : Operand) (t : TypeId)
    (ho : o.op = .call { callee := .builtin .append, args := #[s, x], argTypes := #[t, t] })
    (base : Nat) (e : TypeId) (i : TypeInfo) (z : Value) (size bytes : Nat) (ht : P.underlying t = some (.slice e)) (hi : P.info? e = some i) (hz : i.zero = some z)
    (hsize : i.size = size) (hby : i.bytes = bytes) (hzs : z.cells.size = size) (hsz : 0 < size)
    (A : Option Addr) (n cap : Nat) (xs : List Value) (hs : a.eval s = .slice A n cap) (hown : w.ownsRow base e size (.slice A n cap) n xs)
    (Bo : Option Addr) (m c : Nat) (news : List Value) (hx : a.eval x = .slice Bo m c) (hl : news.length = m * size) (hnews : SrcRow w Bo m news) (h1 : ∀ u ∈ news, u.oneCell' = true)
    (h63 : n + m ≤ maxLen) (hbytes : (n + m) * bytes ≤ 140737488355328) (hbase : base ≤ w.heap.size)
    (h : ∀ A' cap' w', w'.ownsRow base e size (.slice A' (n + m) cap') (n + m) (xs ++ news) → w.grownBy w' (Value.slice A n cap).ownBlock → (∀ k, OwnB A' k → OwnB A k ∨ k = w.heap.size) → N (.slice A' (n + m) cap') w') : StepV P o a w N := by
  obtain ⟨A', cap', w', hr, h2, h3, h4⟩ := run_append_any (P := P) t o.type base e i z size bytes ht hi hz hsize hby hzs hsz A n cap xs hown Bo m c news hl hnews h1 h63 hbytes hbase
  unfold StepV execOp
  simp only [ho, resolve, invoke, builtin, Sem.run_bind, Sem.run_pure, Result.andThen_ok, List.map_toArray, List.map_cons, List.map_nil, hs, hx, hr]
  exact h A' cap' w' h2 h3 h4
theorem spineV_cons {P : Program} {C : World → Prop} {T : Act → World → Prop} {o : Oper} {f : Bool} {r : List (Oper × Bool)} {a : Act} {w : World} (h : StepV P o a w fun v w' => (f = true → C w') ∧ SpineV P C T r (a.put o.dst v) w') : SpineV P C T ((o, f) :: r) a w := h
theorem spineV_nil {P : Program} {C : World → Prop} {T : Act → World → Prop} {a : Act} {w : World} (h : T a w) : SpineV P C T [] a w := h
theorem less_c (a b c d : Int) (w : World) : Calls Try.prog 101 #[.agg #[.int .i64 a, .int .i64 b], .agg #[.int .i64 c, .int .i64 d]] w fun e w' => e = .returned (.bool (decide (b < d))) ∧ Below w.heap.size w w' := by
  go_enter Try.func101, Try.ntmps101
  go_wp2
  go_ret
  refine ⟨rfl, ?_⟩
  exact ((Below.refl w.heap.size w).alloc (Nat.le_refl _) _).alloc (by simp) _
def visC (e : Vs) : List Value := [.int .i64 e.1, .int .i64 e.2]
theorem visC_len (e : Vs) : (visC e).length = 2 := rfl
theorem info154 : (Try.prog.info? 154).map (fun i => (i.zero, i.size, i.bytes)) = some (some (.agg #[.int .i64 0, .int .i64 0]), 2, 16) := by kernel_rfl
def HpAt (w : World) (B b : Nat) (A : Option Addr) (c : Nat) (l : List Vs) : Prop := Blk w b 158 [.slice A l.length c, .func (.func 101) #[] #[]] ∧ OwnR visC 154 2 B w A c l ∧ ¬ OwnB A b
theorem HpAt.touch {S : Nat → Prop} {w w' : World} {B b : Nat} {A : Option Addr} {c : Nat} {l : List Vs} (h : HpAt w B b A c l) (k : Touch S w w') (h1 : ¬ S b) (h2 : ∀ g, OwnB A g → ¬ S g) : HpAt w' B b A c l := ⟨h.1.touch k h1, h.2.1.touch k h2, h.2.2⟩
theorem HpAt.below {w w' : World} {B b : Nat} {A : Option Addr} {c : Nat} {l : List Vs} (h : HpAt w B b A c l) (k : Below w.heap.size w w') : HpAt w' B b A c l := ⟨h.1.below k h.1.lt, h.2.1.below k, h.2.2⟩
def PutC (w : World) (B b : Nat) (A : Option Addr) (c : Nat) (l : List Vs) (x y : Int) (V : World) : Prop := HpAt V B b A c l ∧ Below w.heap.size w V ∧ Blk V w.heap.size 154 [.int .i64 x, .int .i64 y]
theorem PutC.alloc {w : World} {B b : Nat} {A : Option Addr} {c : Nat} {l : List Vs} {x y : Int} {V : World} (h : PutC w B b A c l x y V) (o : Obj) : PutC w B b A c l x y (V.alloc o) :=
  ⟨h.1.below ((Below.refl _ _).alloc (Nat.le_refl _) _), h.2.1.alloc h.2.1.size _, h.2.2.alloc _⟩
theorem PutC.drew {w : World} {B b : Nat} {A : Option Addr} {c : Nat} {l : List Vs} {x y : Int} {V : World} (h : PutC w B b A c l x y V) : PutC w B b A c l x y V.drew := ⟨⟨h.1.1.drew, h.1.2.1.drew, h.1.2.2⟩, h.2.1.drew, h.2.2.drew⟩
def PutJ (w : World) (B b : Nat) (A : Option Addr) (l : List Vs) (x y : Int) (g c' : Nat) (l' : List Vs) (W : World) : Prop :=
  HpAt W B b (some ⟨g, 0, none⟩) c' l' ∧ l'.Perm ((x, y) :: l) ∧ Touch (fun k => k = b ∨ OwnB A k) w W ∧ (OwnB A g ∨ w.heap.size ≤ g)
theorem ownB_some {g k : Nat} : OwnB (some ⟨g, 0, none⟩) k ↔ k = g := ⟨fun ⟨a, h, e⟩ => by cases h; exact e.symm, fun h => ⟨_, rfl, h.symm⟩⟩
theorem putJ_new {w V W : World} {B b : Nat} {A : Option Addr} {c : Nat} {l : List Vs} {x y : Int} {g c' : Nat} (hV : PutC w B b A c l x y V) (ho : W.ownsRow B 154 2 (.slice (some ⟨g, 0, none⟩) (l.length + 1) c') (l.length + 1) (flat visC l ++ [.int .i64 x, .int .i64 y]))
    (hg : V.grownBy W (Value.slice A l.length c).ownBlock) (hk : OwnB A g ∨ g = V.heap.size) (hb : b < w.heap.size) :
    PutJ w B b A l x y g c' (l ++ [(x, y)]) (W.setCell ⟨b, 0, none⟩ (.slice (some ⟨g, 0, none⟩) (l.length + 1) c')) := by
  have hbV : b < V.heap.size := Nat.lt_of_lt_of_le hb hV.2.1.size
  have hbg : b ≠ g := by
    intro e; subst e
    rcases hk with hk | hk
    · exact hV.1.2.2 hk
    · omega
  have h1 : Blk W b 158 [.slice A l.length c, .func (.func 101) #[] #[]] := hV.1.1.grown hg (fun e => hV.1.2.2 (ownB_iff.2 e.symm))
  have h2 := h1.setCell 0 (.slice (some ⟨g, 0, none⟩) (l.length + 1) c')
  have hl : (l ++ [(x, y)]).length = l.length + 1 := by simp
  refine ⟨⟨by rw [hl]; exact h2, ?_, fun h => hbg (ownB_some.1 h)⟩, ?_, ?_, ?_⟩
  · have h3 : OwnR visC 154 2 B W (some ⟨g, 0, none⟩) c' (l ++ [(x, y)]) := by
      unfold OwnR
      rw [hl, flat_append]
      exact ho
    exact h3.set_ne (fun h => hbg (ownB_some.1 h)) _
  · exact List.perm_append_singleton _ _
  · refine Touch.setCell ?_ (.inl (.inl rfl)) _
    exact (Touch.of_below hV.2.1).grown hg (fun k e => .inl (.inr (ownB_iff.2 e)))
  · rcases hk with hk | hk
    · exact .inl hk
    · right; have := hV.2.1.size; omega
theorem PutJ.below {w W W' : World} {B b : Nat} {A : Option Addr} {l : List Vs} {x y : Int} {g c' : Nat} {l' : List Vs} (h : PutJ w B b A l x y g c' l' W) (hb : Below W.heap.size W W') : PutJ w B b A l x y g c' l' W' :=
  ⟨h.1.below hb, h.2.1, h.2.2.1.below hb, h.2.2.2⟩
theorem PutJ.drew {w W : World} {B b : Nat} {A : Option Addr} {l : List Vs} {x y : Int} {g c' : Nat} {l' : List Vs} (h : PutJ w B b A l x y g c' l' W) : PutJ w B b A l x y g c' l' W.drew := h.below (Below.refl _ _).drew
theorem HpAt.put {w : World} {B b g c : Nat} {l : List Vs} (h : HpAt w B b (some ⟨g, 0, none⟩) c l) (i : Nat) (e : Vs) (hi : i < l.length) : HpAt ((w.setCell ⟨g, i * 2, none⟩ (.int .i64 e.1)).setCell ⟨g, i * 2 + 1, none⟩ (.int .i64 e.2)) B b (some ⟨g, 0, none⟩) c (l.set i e) := by
  have hbg : b ≠ g := fun e => h.2.2 (ownB_some.2 e)
  refine ⟨by rw [List.length_set]; exact (h.1.setCell_ne (p := ⟨g, i * 2, none⟩) hbg _).setCell_ne (p := ⟨g, i * 2 + 1, none⟩) hbg _, ?_, h.2.2⟩
  have h1 := h.2.1.put visC_len i 0 (e.1, (l.getD i (0, 0)).2) (l.getD i (0, 0)) (.int .i64 e.1) (getElem_D l i (0, 0) hi) (by omega) rfl
  have h2 := h1.put visC_len i 1 e (e.1, (l.getD i (0, 0)).2) (.int .i64 e.2) (by rw [List.getElem?_set_self hi]) (by omega) rfl
  rw [List.set_set] at h2
  exact h2
theorem HpAt.cells {w : World} {B b g c : Nat} {l : List Vs} (h : HpAt w B b (some ⟨g, 0, none⟩) c l) (i : Nat) (hi : i < l.length) : w.cell? ⟨g, i * 2, none⟩ = some (.int .i64 (l.getD i (0, 0)).1) ∧ w.cell? ⟨g, i * 2 + 1, none⟩ = some (.int .i64 (l.getD i (0, 0)).2) :=
  ⟨h.2.1.cell visC_len i 0 _ (getElem_D l i (0, 0) hi) (by omega), h.2.1.cell visC_len i 1 _ (getElem_D l i (0, 0) hi) (by omega)⟩
theorem HpAt.swap {w : World} {B b g c : Nat} {l : List Vs} (h : HpAt w B b (some ⟨g, 0, none⟩) c l) (i j : Nat) (hi : i < l.length) (hj : j < l.length) :
    HpAt ((((w.setCell ⟨g, i * 2, none⟩ (.int .i64 (l.getD j (0, 0)).1)).setCell ⟨g, i * 2 + 1, none⟩ (.int .i64 (l.getD j (0, 0)).2)).setCell ⟨g, j * 2, none⟩ (.int .i64 (l.getD i (0, 0)).1)).setCell ⟨g, j * 2 + 1, none⟩ (.int .i64 (l.getD i (0, 0)).2)) B b (some ⟨g, 0, none⟩) c (swp l i j) :=
  (h.put i _ hi).put j _ (by simpa using hj)
theorem PutJ.swap {w W : World} {B b : Nat} {A : Option Addr} {l : List Vs} {x y : Int} {g c' : Nat} {l' : List Vs} (h : PutJ w B b A l x y g c' l' W) (i j : Nat) (hi : i < l'.length) (hj : j < l'.length) :
    PutJ w B b A l x y g c' (swp l' i j) ((((W.setCell ⟨g, i * 2, none⟩ (.int .i64 (l'.getD j (0, 0)).1)).setCell ⟨g, i * 2 + 1, none⟩ (.int .i64 (l'.getD j (0, 0)).2)).setCell ⟨g, j * 2, none⟩ (.int .i64 (l'.getD i (0, 0)).1)).setCell ⟨g, j * 2 + 1, none⟩ (.int .i64 (l'.getD i (0, 0)).2)) := by
  have hS : (g = b ∨ OwnB A g) ∨ w.heap.size ≤ g := h.2.2.2.elim (fun h => .inl (.inr h)) .inr
  exact ⟨h.1.swap i j hi hj, (swp_perm hi hj).trans h.2.1, (((h.2.2.1.setCell (p := ⟨g, i * 2, none⟩) hS _).setCell (p := ⟨g, i * 2 + 1, none⟩) hS _).setCell (p := ⟨g, j * 2, none⟩) hS _).setCell (p := ⟨g, j * 2 + 1, none⟩) hS _, h.2.2.2⟩
set_option maxRecDepth 100000 in
theorem put_c (b : Nat) (A : Option Addr) (n c : Nat) (l : List Vs) (x y : Int) (B : Nat) (w : World) (hn : n = l.length) (hn2 : n ≤ 8388608) (hB : B ≤ w.heap.size) (h : HpAt w B b A c l) (hp : Heap l) :
    Calls Try.prog 102 #[.pointer (some ⟨b, 0, none⟩), .agg #[.int .i64 x, .int .i64 y]] w fun e w' => e = .returned (.tuple #[]) ∧ ∃ A' c' l', HpAt w' B b A' c' l' ∧ l'.Perm ((x, y) :: l) ∧ Heap l' ∧ Touch (fun k => k = b ∨ OwnB A k) w w' ∧ ∀ k, OwnB A' k → OwnB A k ∨ w.heap.size ≤ k := by
  have HN := Lib.hid hn
  have HA := Lib.hid h
  have HP := Lib.hid hp
  clear h hp hn
  have hbl := HA.out.1.lt
  have X1 := Lib.hid (Blk.new' w #[.int .i64 x, .int .i64 y] 154)
  have B1 := Lib.hid (Below.refl w.heap.size w |>.alloc (Nat.le_refl _) (.cells #[.int .i64 x, .int .i64 y] 154))
  obtain ⟨i0, hi, hz0, hz1, hz2⟩ := info_parts info154
  go_enter Try.func102, Try.ntmps102
  go_wp2_with fail
  have J1 : Hid (PutC w B b A c l x y (w.alloc (.cells #[.int .i64 x, .int .i64 y] 154))) := Lib.hid ⟨HA.out.below B1.out, B1.out, X1.out⟩
  generalize w.alloc (.cells #[.int .i64 x, .int .i64 y] 154) = w1 at J1 ⊢
  clear X1 B1
  refine wp_region_spine 6 [true, false] [0] ?af1 (fun V => PutC w B b A c l x y V) (by kernel_rfl) (by kernel_rfl) J1.out.drew ?walk1 ?spine1
  case walk1 =>
    intro V hV
    have c0 := hV.1.1.cell 0 rfl
    have d0 := hV.2.2.cell 0 rfl
    have d1 := hV.2.2.cell 1 rfl
    clear hV
    rw [← HN.out] at c0
    simp only [List.take_succ_cons, List.take_zero]
    repeat (go_big_quiet_step (fail))
    refine wpQuiet_nil ?_
    rfl
  case spine1 =>
    intro V hV
    have JV := Lib.hid hV
    refine spineV_cons ?_
    unfold StepV
    clear hV
    go_simp
    refine ⟨JV.out.alloc _, ?_⟩
    have J2 := Lib.hid (JV.out.alloc (.cells #[.int .i64 x, .int .i64 y] 154))
    have X2 := Lib.hid (Blk.new' V #[.int .i64 x, .int .i64 y] 154)
    generalize V.alloc (.cells #[.int .i64 x, .int .i64 y] 154) = V2 at J2 X2 ⊢
    generalize V.heap.size = gv at *
    refine spineV_cons ?_
    refine stepV_append (.tmp 10) (.tmp 12) 156 rfl B 154 i0 (.agg #[.int .i64 0, .int .i64 0]) 2 16 Try.underlying156 hi hz0 hz1 hz2 rfl (by decide) A n c (flat visC l) (by rfl) (by rw [HN.out]; exact J2.out.1.2.1) (some ⟨gv, 0, none⟩) 1 1 [.int .i64 x, .int .i64 y] (by rfl) (by rfl) (.inr ⟨_, rfl, ?_⟩) (by simp [Value.oneCell']) (by unfold maxLen; omega) (by omega) ?_ ?_
    · intro j u hj
      rcases j with _ | _ | j
      · simp at hj; subst hj; exact X2.out.cell 0 rfl
      · simp at hj; subst hj; exact X2.out.cell 1 rfl
      · simp at hj
    · have := J2.out.2.1.size; omega
    intro A' c' w3 ho hg hk
    refine ⟨fun h => (by cases h), ?_⟩
    obtain ⟨g, c'', hA', _, _⟩ := ho.form (by omega)
    cases hA'
    have hk2 : OwnB A g ∨ g = V2.heap.size := hk g (ownB_some.2 rfl)
    have GB := J2.out.1.1.grown hg (fun e => J2.out.1.2.2 (ownB_iff.2 (by rw [HN.out] at e; exact e.symm)))
    have fz := GB.free 0
    have cc := GB.cell 0 rfl
    clear GB
    have J3 : Hid (PutJ w B b A l x y g c' (l ++ [(x, y)]) (w3.setCell ⟨b, 0, none⟩ (.slice (some ⟨g, 0, none⟩) (n + 1) c'))) := Lib.hid (by
      rw [HN.out] at ho hg ⊢
      exact putJ_new J2.out ho hg hk2 hbl)
    have U3 := Lib.hid (up_start HP.out (x, y))
    rw [← HN.out] at U3
    clear ho hg hk hk2 J2 X2 JV J1
    refine spineV_nil ?_
    go_wp2_with fail
    trace "loop"
    generalize w3.setCell ⟨b, 0, none⟩ (.slice (some ⟨g, 0, none⟩) (n + 1) c') = w4 at J3 ⊢
    clear fz cc
    go_loopw [4] (fun i wr => ∃ k : Nat, i = .int .i64 k ∧ k < n + 1 ∧ Hid (∃ l', PutJ w B b A l x y g c' l' wr ∧ UpAt l' k)) (fun i _ => (intOf i).toNat)
    case atStart =>
      refine ⟨n, ?_, by omega, Lib.hid ⟨_, J3.out, U3.out⟩⟩
      go_num
    case round =>
      obtain ⟨k, rfl, hk, HJ⟩ := hrel
      obtain ⟨l', j, u⟩ := HJ.out
      have JR := Lib.hid j
      have UR := Lib.hid u
      clear HJ j u
      have HL : Hid (l'.length = n + 1) := Lib.hid (by rw [JR.out.2.1.length_eq, HN.out]; rfl)
      by_cases h0 : k = 0
      · subst h0
        go_wp2
        refine bodyPost_end (v := .tuple #[]) (by simp [results, Try.results102, go_sem]) rfl ⟨rfl, _, _, l', JR.out.1, JR.out.2.1, up_done UR.out (.inl rfl), JR.out.2.2.1, ?_⟩
        intro q hq
        rw [ownB_some.1 hq]
        exact JR.out.2.2.2
      · obtain ⟨q, hq⟩ : ∃ q : Nat, q = (k - 1) / 2 := ⟨_, rfl⟩
        have HQ := Lib.hid hq
        have hq1 : ((k : Int) - 1) / 2 = (q : Int) := by omega
        have hqn : q < n + 1 := by omega
        clear hq
        have k0 : (0 : Int) < (k : Int) := by omega
        have c0 := JR.out.1.1.cell 0 rfl
        have c1 := JR.out.1.1.cell 1 rfl
        rw [HL.out] at c0
        have bl := JR.out.1.1.lt
        have gl := JR.out.1.2.1.lt.2
        obtain ⟨e0, e1⟩ := JR.out.1.cells k (by rw [HL.out]; exact hk)
        obtain ⟨f0, f1⟩ := JR.out.1.cells q (by rw [HL.out]; exact hqn)
        have HS := Lib.hid (fun V (h : PutJ w B b A l x y g c' l' V) => h.swap k q (by rw [HL.out]; exact hk) (by rw [HL.out]; exact hqn))
        have HE1 : Hid (keyAt l' k = (l'.getD k (0, 0)).2) := Lib.hid rfl
        have HE2 : Hid (keyAt l' q = (l'.getD q (0, 0)).2) := Lib.hid rfl
        generalize hek : (l'.getD k (0, 0)) = ek at *
        generalize heq : (l'.getD q (0, 0)) = eq at *
        obtain ⟨ek0, ek1⟩ := ek
        obtain ⟨eq0, eq1⟩ := eq
        have HEK := Lib.hid hek
        have HEQ := Lib.hid heq
        clear hek heq
        simp only at e0 e1 f0 f1 HE1 HE2 HS
        go_wp2_with fail
        refine wp_region_past (by kernel_rfl) (by kernel_rfl) ?_
        repeat (go_big_quiet_step (exact past_below (less_c _ _ _ _ _)))
        refine wpQuiet_nil ?_
        intro xx
        have J5 := Lib.hid (JR.out.below xx.far)
        generalize xx.w = w5 at J5 ⊢
        clear c0 c1 e0 e1 f0 f1 bl gl
        by_cases hlt : ek1 < eq1
        · have d1 : decide (ek1 < eq1) = true := decide_eq_true hlt
          simp only [d1, Bool.not_true]
          go_wp2_with fail
          refine wp_region_spine 25 [false] [9] ?af6 (fun V => PutJ w B b A l x y g c' l' V) (by kernel_rfl) (by kernel_rfl) J5.out.drew ?walk6 ?spine6
          case walk6 =>
            intro V hV
            have c0 := hV.1.1.cell 0 rfl
            rw [HL.out] at c0
            obtain ⟨e0, e1⟩ := hV.1.cells k (by rw [HL.out]; exact hk)
            obtain ⟨f0, f1⟩ := hV.1.cells q (by rw [HL.out]; exact hqn)
            rw [HEK.out] at e0 e1
            rw [HEQ.out] at f0 f1
            clear hV
            simp only [List.take_succ_cons, List.take_zero]
            repeat (go_big_quiet_step (fail))
            refine wpQuiet_nil ?_
            rfl
          case spine6 =>
            intro V hV
            have HSV := Lib.hid (HS.out V hV)
            have HUP : Hid (UpAt (swp l' k q) q) := Lib.hid (by
              have e1 := HE1.out
              have e2 := HE2.out
              rw [HQ.out] at e2 ⊢
              exact up_step UR.out (by omega) (by rw [HL.out]; exact hk) (by omega))
            have P1 := Lib.hid (hV.1.put k (eq0, eq1) (by rw [HL.out]; exact hk))
            obtain ⟨e0, e1⟩ := hV.1.cells k (by rw [HL.out]; exact hk)
            have z0 := hV.1.2.1.free (k * 2)
            have z1 := hV.1.2.1.free (k * 2 + 1)
            clear hV
            refine spineV_cons ?_
            unfold StepV
            go_simp
            generalize (V.setCell ⟨g, k * 2, none⟩ (.int .i64 eq0)).setCell ⟨g, k * 2 + 1, none⟩ (.int .i64 eq1) = V1 at HSV P1 ⊢
            clear e0 e1 z0 z1
            refine spineV_nil ?_
            obtain ⟨e0, e1⟩ := P1.out.cells q (by rw [List.length_set, HL.out]; exact hqn)
            have z0 := P1.out.2.1.free (q * 2)
            have z1 := P1.out.2.1.free (q * 2 + 1)
            go_wp2_with fail
            go_roundw
            case rel => exact ⟨q, rfl, by omega, Lib.hid ⟨_, HSV.out, HUP.out⟩⟩
            case measure => simp [intOf]; omega
        · have d1 : decide (ek1 < eq1) = false := decide_eq_false hlt
          simp only [d1, Bool.not_false]
          go_wp2
          refine bodyPost_ret (v := .tuple #[]) (by simp [results, Try.results102, go_sem]) rfl ⟨rfl, _, _, l', J5.out.1, J5.out.2.1, up_done UR.out (.inr ?_), J5.out.2.2.1, ?_⟩
          · rw [← HQ.out, HE1.out, HE2.out]; omega
          · intro q hq
            rw [ownB_some.1 hq]
            exact J5.out.2.2.2
end Go.Proofs.Ytmebpglkeedaoaa
