/- Contracts that the claim leans on, part 1: B0 K1 K2 K3 M1 N1 C1 C2 C3 M2 C4 R18 M5 M6 M7 M3 M4 M8 M9 M10 M16 M34 C5 N2 -/
import Derived.Test.YtmebpglkeedaoaaRows
import Derived.WalkKit
import Derived.WalkSpells
import Derived.WalkLawsBesides
import Derived.IntWalk
import Derived.Lib.Hide
import Derived.Deep.Quiet
import Derived.Deep.QuietTactic
import Derived.BigQuiet
import Derived.LoopN
import Derived.StillTail
import Derived.StillTailTactics
import Derived.Orders
import Derived.Laws.AppendOwn
import Derived.Deep.Draws
import Derived.Deep.AppendLies
import Derived.Deep.AppendSrc
import Derived.Laws.CopyOwn
import Derived.Deep.Cut
import Derived.Deep.RegionWith
import Derived.OwnWalk
import Derived.LoopTactic
import Derived.ProofKit
import Derived.OpenShut
import Derived.Below
import Derived.ChangeSame
import Derived.WideKeyArgs
import Derived.Deep.Slices
import Derived.Lib.SliceRun
import Derived.WalkSmall
set_option linter.unusedVariables false
set_option linter.unusedSimpArgs false
set_option linter.unnecessarySimpa false
namespace Go.Proofs.Ytmebpglkeedaoaa
open Go.RowKit
theorem ret_int {k : IntKind} {a b : Int} (h : a = b) : Ending.returned (.int k a) = .returned (.int k b) := by rw [h]
theorem ret_bool {a b : Bool} (h : a = b) : Ending.returned (.bool a) = .returned (.bool b) := by rw [h]
theorem block_add (a : Addr) (n : Nat) : (a.add n).block = a.block := by unfold Addr.add; split <;> rfl
theorem gmin_eq (a b : Int) : (if b < a then b else a) = min a b := by split <;> omega
theorem gmax_eq (a b : Int) : (if a < b then b else a) = max a b := by split <;> omega
theorem gen_world {P : Program} {c : Code} {Q : Exit → Act → World → Prop} {a : Act} {W : World} (J : World → Prop) (hJ : J W) (h : ∀ W', J W' → Code.wp P c Q a W') : Code.wp P c Q a W := h W hJ
end Go.Proofs.Ytmebpglkeedaoaa
namespace Go.Proofs.Ytmebpglkeedaoaa
open Go Go.RowKit
structure Past (W : World) where
  w : World
  far : Below W.heap.size W w
instance (W : World) : Nonempty (Past W) := ⟨⟨W, Below.refl _ _⟩⟩
section
variable {W : World}
@[simp, go_sem] theorem Past.cell (x : Past W) (b o : Nat) (h : b < W.heap.size) : x.w.cell? ⟨b, o, none⟩ = W.cell? ⟨b, o, none⟩ := x.far.cell (p := ⟨b, o, none⟩) h
@[simp, go_sem] theorem Past.frozen (x : Past W) (b o : Nat) (h : b < W.heap.size) : x.w.frozen? ⟨b, o, none⟩ = W.frozen? ⟨b, o, none⟩ := x.far.frozen (p := ⟨b, o, none⟩) h
theorem past_drew (W : World) : ∃ x : Past W, W.drew = x.w := ⟨⟨W.drew, (Below.refl _ _).drew⟩, rfl⟩
theorem past_on {x : Past W} {w' : World} (h : Below x.w.heap.size x.w w') : ∃ y : Past W, w' = y.w := ⟨⟨w', x.far.trans (h.mono x.far.size)⟩, rfl⟩
theorem past_same {P : Program} {f : FuncId} {args : Array Value} {x : Past W} {v : Value} (h : Calls P f args x.w fun e w' => e = .returned v ∧ x.w = w') : Calls P f args x.w fun e w'' => e = .returned v ∧ ∃ y : Past W, w'' = y.w :=
  h.mono fun _ _ ⟨he, hm⟩ => ⟨he, x, hm.symm⟩
theorem past_below {P : Program} {f : FuncId} {args : Array Value} {x : Past W} {v : Value} (h : Calls P f args x.w fun e w' => e = .returned v ∧ Below x.w.heap.size x.w w') : Calls P f args x.w fun e w'' => e = .returned v ∧ ∃ y : Past W, w'' = y.w :=
  h.mono fun _ _ ⟨he, hm⟩ => ⟨he, past_on hm⟩
theorem wpQuiet_mono {P : Program} {ops : Array Oper} {C : World → Prop} {Q Q' : Act → Prop} (hq : ∀ a, Q a → Q' a) : ∀ (l : List Oper) (a : Act), wpQuiet P ops C Q l a → wpQuiet P ops C Q' l a
  | [], a, h => hq a h
  | o :: rest, a, h => by
    unfold wpQuiet at h ⊢
    split
    · rename_i hw
      rw [if_pos hw] at h
      exact Oper.quiet_mono (fun a' => wpQuiet_mono hq rest a') h
    · rename_i hw
      rw [if_neg hw] at h
      exact wpQuiet_mono hq rest _ h
theorem wp_region_past {P : Program} {id : Nat} {Q : Exit → Act → World → Prop} {a : Act} {W : World} {l : List Oper} (hm : P.follows .mixedOrders = true) (hB : Region.lexB .any l.toArray = true)
    (h : wpQuiet P l.toArray (fun w' => ∃ x : Past W, w' = x.w) (fun a' => ∀ x : Past W, Q .normal a' x.w) l a) : (Code.region id l.toArray true).wp P Q a W :=
  wp_region_quiet (C := fun w' => ∃ x : Past W, w' = x.w) hm hB (past_drew W) (wpQuiet_mono (fun a' (h' : ∀ x : Past W, Q .normal a' x.w) w' ⟨x, hx⟩ => by rw [hx]; exact h' x) _ _ (by simpa using h))
end
end Go.Proofs.Ytmebpglkeedaoaa
namespace Go.Proofs.Ytmebpglkeedaoaa
open Go Go.RowKit
def slotOf (a : Act) (t : Tmp) : Value := a.tmps.getD t undef
theorem slot_put_same {a : Act} {d : Tmp} (v : Value) (h : d < a.tmps.size) : slotOf (a.put (some d) v) d = v := by
  simp [slotOf, Act.put, h]
theorem slot_put_ne {a : Act} {x : Option Tmp} {t : Tmp} (v : Value) (h : x ≠ some t) : slotOf (a.put x v) t = slotOf a t := by
  cases x with
  | none => rfl
  | some d =>
    have hne : d ≠ t := fun e => h (by rw [e])
    simp [slotOf, Act.put, Array.getElem?_setIfInBounds_ne hne]
theorem size_put (a : Act) (x : Option Tmp) (v : Value) : (a.put x v).tmps.size = a.tmps.size := by
  cases x <;> simp [Act.put]
theorem defers_put (a : Act) (x : Option Tmp) (v : Value) : (a.put x v).defers = a.defers := by
  cases x <;> rfl
theorem act_ext {a b : Act} (hs : a.tmps.size = b.tmps.size) (hd : a.defers = b.defers) (h : ∀ t, slotOf a t = slotOf b t) : a = b := by
  cases a with
  | mk ta da =>
    cases b with
    | mk tb db =>
      simp only at hs hd
      subst hd
      congr 1
      apply Array.ext hs
      intro i h1 h2
      have := h i
      simpa [slotOf, h1, h2] using this
def leftBy (af : Act) (o : Oper) : Value := match o.dst with | some d => slotOf af d | none => undef
def dstsOk (n : Nat) : List Oper → Bool
  | [] => true
  | o :: r => (match o.dst with | some d => decide (d < n) && r.all (fun o' => o'.dst != some d) | none => false) && dstsOk n r
section
variable {P : Program} {ops : Array Oper} {C : World → Prop} {af : Act}
def AllIn (P : Program) (ops : Array Oper) (C : World → Prop) (af : Act) : List Oper → Act → Prop
  | [], a => a = af
  | o :: r, a => YieldsIn P ops C o (leftBy af o) a ∧ AllIn P ops C af r (a.put o.dst (leftBy af o))
theorem AllIn.keep : ∀ {l : List Oper} {a : Act}, AllIn P ops C af l a → af.tmps.size = a.tmps.size ∧ af.defers = a.defers ∧ ∀ t, (∀ o ∈ l, o.dst ≠ some t) → slotOf af t = slotOf a t
  | [], a, h => by
    have : a = af := h
    subst this
    exact ⟨rfl, rfl, fun _ _ => rfl⟩
  | o :: r, a, h => by
    obtain ⟨h1, h2, h3⟩ := AllIn.keep h.2
    refine ⟨by rw [h1, size_put], by rw [h2, defers_put], fun t ht => ?_⟩
    rw [h3 t (fun o' ho' => ht o' (by simp [ho'])), slot_put_ne _ (ht o (by simp))]
theorem allIn_of : ∀ {l : List Oper} {a : Act}, dstsOk a.tmps.size l = true → wpQuiet P ops C (fun a' => a' = af) l a → AllIn P ops C af l a
  | [], a, _, h => h
  | o :: r, a, hd, h => by
    unfold wpQuiet at h
    have hv : ∃ v, YieldsIn P ops C o v a ∧ wpQuiet P ops C (fun a' => a' = af) r (a.put o.dst v) := by
      split at h
      · rename_i hw
        obtain ⟨v, h1, h2⟩ := h
        exact ⟨v, .inl ⟨hw, h1⟩, h2⟩
      · rename_i hw
        exact ⟨undef, .inr ⟨by simpa using hw, rfl⟩, h⟩
    obtain ⟨v, hy, hr⟩ := hv
    simp only [dstsOk, Bool.and_eq_true] at hd
    obtain ⟨hd1, hd2⟩ := hd
    split at hd1
    · rename_i d hod
      simp only [Bool.and_eq_true, decide_eq_true_eq, List.all_eq_true] at hd1
      have hA := allIn_of (l := r) (a := a.put o.dst v) (by rw [size_put]; exact hd2) hr
      have he : leftBy af o = v := by
        unfold leftBy
        rw [hod]
        have := hA.keep.2.2 d (fun o' ho' => by simpa using hd1.2 o' ho')
        simp only [this, hod]
        exact slot_put_same v hd1.1
      refine ⟨by rw [he]; exact hy, by rw [he]; exact hA⟩
    · cases hd1
def accum (af : Act) (l : List Oper) (a : Act) : Act := l.foldl (fun a o => a.put o.dst (leftBy af o)) a
theorem AllIn.get : ∀ {l : List Oper} {a : Act} {i : Nat} {o : Oper}, AllIn P ops C af l a → l[i]? = some o → YieldsIn P ops C o (leftBy af o) (accum af (l.take i) a)
  | [], _, _, _, _, hi => by simp at hi
  | o :: r, a, 0, o', h, hi => by
    have : o = o' := by simpa using hi
    subst this
    exact h.1
  | o :: r, a, i + 1, o', h, hi => by
    have := AllIn.get (i := i) h.2 (by simpa using hi)
    simpa [accum] using this
theorem accum_slot : ∀ (l : List Oper) (a : Act) (t : Tmp), dstsOk a.tmps.size l = true → slotOf (accum af l a) t = if l.any (fun o => o.dst == some t) = true then slotOf af t else slotOf a t
  | [], a, t, _ => by simp [accum]
  | o :: r, a, t, hd => by
    have hd' := hd
    simp only [dstsOk, Bool.and_eq_true] at hd
    have ih := accum_slot r (a.put o.dst (leftBy af o)) t (by rw [size_put]; exact hd.2)
    have e : accum af (o :: r) a = accum af r (a.put o.dst (leftBy af o)) := rfl
    rw [e, ih]
    by_cases hr : r.any (fun o => o.dst == some t) = true
    · simp [hr]
    · rw [if_neg hr]
      by_cases ho : o.dst = some t
      · have h1 := hd.1
        rw [ho] at h1
        simp only [Bool.and_eq_true, decide_eq_true_eq] at h1
        simp only [List.any_cons, ho, beq_self_eq_true, Bool.true_or, if_true]
        rw [slot_put_same _ h1.1]
        simp [leftBy, ho]
      · rw [slot_put_ne _ ho]
        have : (o.dst == some t) = false := by simpa using ho
        simp [List.any_cons, this, hr]
theorem dstsOk_take : ∀ (l : List Oper) (n i : Nat), dstsOk n l = true → dstsOk n (l.take i) = true
  | _, _, 0, _ => by simp [dstsOk]
  | [], _, _ + 1, _ => by simp [dstsOk]
  | o :: r, n, i + 1, h => by
    simp only [dstsOk, Bool.and_eq_true, List.take_succ_cons] at h ⊢
    refine ⟨?_, dstsOk_take r n i h.2⟩
    have h1 := h.1
    split at h1
    · simp only [Bool.and_eq_true, decide_eq_true_eq, List.all_eq_true] at h1 ⊢
      exact ⟨h1.1, fun o' ho' => h1.2 o' (List.mem_of_mem_take ho')⟩
    · cases h1
end
theorem wanted_congr {ops : Array Oper} {o : Oper} {a a' : Act} (h : ∀ t ∈ o.looksAt ops, slotOf a t = slotOf a' t) : Region.wanted o (yielded ops a.tmps) = Region.wanted o (yielded ops a'.tmps) := by
  unfold Region.wanted
  cases hg : o.guard with
  | none => rfl
  | some gw =>
    obtain ⟨g, b⟩ := gw
    simp only
    congr 1
    unfold yielded
    cases hd : (ops[g]?).bind (·.dst) with
    | none => simp
    | some d =>
      have := h d (by unfold Oper.looksAt; rw [hg]; simp [hd])
      simp only [slotOf, Array.getD_eq_getD_getElem?] at this
      have key : ∀ x : Option Value, (match x with | some (.bool b) => some b | _ => none) = (match x.getD undef with | .bool b => some b | _ => none) := by
        intro x
        cases x with
        | none => rfl
        | some v => cases v <;> rfl
      simp only [Option.bind_some]
      refine (key _).trans (Eq.trans ?_ (key _).symm)
      rw [this]
def unl (listed : Array Bool) : Nat := (listed.toList.filter (fun b => !b)).length
theorem unl_list : ∀ (l : List Bool) (i : Nat), l[i]? = some false → ((l.set i true).filter (fun b => !b)).length + 1 = (l.filter (fun b => !b)).length
  | [], i, h => by simp at h
  | b :: l, 0, h => by
    have : b = false := by simpa using h
    subst this
    simp
  | b :: l, i + 1, h => by
    have := unl_list l i (by simpa using h)
    cases b
    · simp only [List.set_cons_succ, List.filter_cons, Bool.not_false, if_true, List.length_cons]; omega
    · simpa using this
theorem unl_set {listed : Array Bool} {i : Nat} (hi : i < listed.size) (h : listed.getD i true = false) : unl (listed.setIfInBounds i true) + 1 = unl listed := by
  unfold unl
  have h' : listed.toList[i]? = some false := by
    have : listed[i] = false := by simpa [Array.getD, hi] using h
    simp [hi, this]
  have := unl_list listed.toList i h'
  simpa using this
theorem unl_rep (n : Nat) : unl (Array.replicate n false) = n := by simp [unl]
theorem unl_done {a b : Nat} : unl (Array.replicate a true ++ Array.replicate b false) = b := by simp [unl]
def waitsB1 (md : Region.Mode) (ops : Array Oper) (t i : Nat) : Bool :=
  match ops[t]? with
  | some o => o.after.any fun e => Region.binds md e && e.on == i
  | none => false
theorem waitsB1_spec {md : Region.Mode} {ops : Array Oper} {t i : Nat} {o : Oper} (ho : ops[t]? = some o) (h : waitsB1 md ops t i = true) : ∃ e ∈ o.after, Region.binds md e = true ∧ e.on = i := by
  unfold waitsB1 at h
  rw [ho] at h
  obtain ⟨e, he, hb⟩ := Array.any_eq_true'.1 h
  simp only [Bool.and_eq_true, beq_iff_eq] at hb
  exact ⟨e, he, hb.1, hb.2⟩
section
variable {P : Program} {Q : Exit → Act → World → Prop} {W : World} {a0 af : Act} {l : List Oper} {k : Nat} {ok : Oper} {O : Obj} {ds : Tmp}
theorem getD_tf {listed : Array Bool} {i : Nat} (h : i < listed.size) : listed.getD i true = listed.getD i false := by
  simp [h]
theorem dsts_lt : ∀ (l : List Oper) (n j : Nat) (o : Oper), dstsOk n l = true → l[j]? = some o → ∃ d, o.dst = some d ∧ d < n
  | [], _, _, _, _, h => by simp at h
  | o :: r, n, 0, o', hd, h => by
    have : o = o' := by simpa using h
    subst this
    simp only [dstsOk, Bool.and_eq_true] at hd
    have h1 := hd.1
    split at h1
    · rename_i d hod
      simp only [Bool.and_eq_true, decide_eq_true_eq] at h1
      exact ⟨d, hod, h1.1⟩
    · cases h1
  | o :: r, n, j + 1, o', hd, h => by
    simp only [dstsOk, Bool.and_eq_true] at hd
    exact dsts_lt r n j o' hd.2 (by simpa using h)
theorem dsts_ne : ∀ (l : List Oper) (n i j : Nat) (o o' : Oper) (d : Tmp), dstsOk n l = true → l[i]? = some o → l[j]? = some o' → i ≠ j → o.dst = some d → o'.dst ≠ some d
  | [], _, _, _, _, _, _, _, h, _, _, _ => by simp at h
  | o :: r, n, 0, 0, _, _, _, _, _, _, hne, _ => absurd rfl hne
  | o :: r, n, 0, j + 1, x, y, d, hd, hi, hj, _, hx => by
    have : o = x := by simpa using hi
    subst this
    simp only [dstsOk, Bool.and_eq_true] at hd
    have h1 := hd.1
    rw [hx] at h1
    simp only [Bool.and_eq_true, decide_eq_true_eq, List.all_eq_true] at h1
    have := h1.2 y (List.mem_of_getElem? (show r[j]? = some y by simpa using hj))
    simpa using this
  | o :: r, n, i + 1, 0, x, y, d, hd, hi, hj, _, hx => by
    have : o = y := by simpa using hj
    subst this
    simp only [dstsOk, Bool.and_eq_true] at hd
    intro hy
    have h1 := hd.1
    rw [hy] at h1
    simp only [Bool.and_eq_true, decide_eq_true_eq, List.all_eq_true] at h1
    have := h1.2 x (List.mem_of_getElem? (show r[i]? = some x by simpa using hi))
    simp [hx] at this
  | o :: r, n, i + 1, j + 1, x, y, d, hd, hi, hj, hne, hx => by
    simp only [dstsOk, Bool.and_eq_true] at hd
    exact dsts_ne r n i j x y d hd.2 (by simpa using hi) (by simpa using hj) (by omega) hx
theorem first_no (listed : Array Bool) : ∀ (k : Nat), ¬ (∀ i, i ≤ k → listed.getD i false = true) → ∃ i, i ≤ k ∧ (∀ j, j < i → listed.getD j false = true) ∧ listed.getD i false = false
  | 0, h => ⟨0, Nat.le_refl _, fun j hj => absurd hj (Nat.not_lt_zero _), by
      cases hc : listed.getD 0 false
      · rfl
      · exact absurd (fun i hi => by obtain rfl : i = 0 := by omega
                                     exact hc) h⟩
  | k + 1, h => by
    by_cases hk : ∀ i, i ≤ k → listed.getD i false = true
    · refine ⟨k + 1, Nat.le_refl _, fun j hj => hk j (by omega), ?_⟩
      cases hc : listed.getD (k + 1) false
      · rfl
      · refine absurd (fun i hi => ?_) h
        by_cases hik : i = k + 1
        · rw [hik]; exact hc
        · exact hk i (by omega)
    · obtain ⟨i, h1, h2, h3⟩ := first_no listed k hk
      exact ⟨i, by omega, h2, h3⟩
end
end Go.Proofs.Ytmebpglkeedaoaa
namespace Go.Proofs.Ytmebpglkeedaoaa
open Go Go.RowKit
def headB (ops : Array Oper) (k n : Nat) : Bool :=
  Region.noSelect ops && decide (k < ops.size) && dstsOk n (ops.toList.take k) &&
  (List.range ops.size).all (fun i => match ops[i]? with | some o => o.after.all (fun e => !Region.binds .any e || decide (e.on < i)) | none => false) &&
  (List.range ops.size).all (fun t => decide (t < k) || (List.range k).all (fun i => waitsB1 .any ops t i)) &&
  (List.range k).all (fun i => (List.range k).all fun j => match ops[i]?, ops[j]? with
    | some oi, some oj => (match oj.dst with | some d => !(oi.looksAt ops).contains d || (decide (j < i) && waitsB1 .any ops i j) | none => false)
    | _, _ => false) &&
  Region.seqB .any ops (ops.size - k) k (Array.replicate k true ++ Array.replicate (ops.size - k) false)
structure Mid0 (P : Program) (ops : Array Oper) (k : Nat) (a0 af : Act) (W : World) (listed : Array Bool) (a : Act) (w : World) : Prop where
  size : listed.size = ops.size
  closed : ∀ j oj, ops[j]? = some oj → listed.getD j false = true → ∀ e ∈ oj.after, Region.binds .any e = true → listed.getD e.on false = true
  tail : ∀ t, k ≤ t → t < ops.size → listed.getD t true = false
  ahd : Below W.heap.size W w
  defers : a.defers = a0.defers
  tsize : a.tmps.size = a0.tmps.size
  put : ∀ j o t, j < k → ops[j]? = some o → o.dst = some t → listed.getD j false = true → slotOf a t = slotOf af t
  same : ∀ t, (∀ j o, j < k → ops[j]? = some o → listed.getD j false = true → o.dst ≠ some t) → slotOf a t = slotOf a0 t
section
variable {P : Program} {Q : Exit → Act → World → Prop} {W : World} {a0 af : Act} {l : List Oper} {k : Nat}
theorem first_no' (listed : Array Bool) (k : Nat) (h : ¬ (∀ i, i < k → listed.getD i false = true)) : ∃ i, i < k ∧ (∀ j, j < i → listed.getD j false = true) ∧ listed.getD i false = false := by
  cases k with
  | zero => exact absurd (fun i hi => absurd hi (Nat.not_lt_zero _)) h
  | succ k =>
    obtain ⟨i, h1, h2, h3⟩ := first_no listed k (fun hk => h (fun i hi => hk i (by omega)))
    exact ⟨i, by omega, h2, h3⟩
theorem wp_region_head {id : Nat} (k : Nat) (af : Act) (hm : P.follows .mixedOrders = true)
    (hB : headB l.toArray k a0.tmps.size = true)
    (hwalk : ∀ V : World, Below W.heap.size W V → wpQuiet P l.toArray (fun w' => ∃ x : Past V, w' = x.w) (fun a' => a' = af) (l.take k) a0)
    (htail : ∀ (w' : World), Below W.heap.size W w' → wpList P l.toArray Q (l.drop k) af w') :
    (Code.region id l.toArray true).wp P Q a0 W := by
  unfold headB at hB
  simp only [Bool.and_eq_true, decide_eq_true_eq, List.all_eq_true, List.mem_range, Bool.or_eq_true] at hB
  obtain ⟨⟨⟨⟨⟨⟨hsel, hks⟩, hdst⟩, hback⟩, htl⟩, hdep⟩, hseq⟩ := hB
  have hsz : l.toArray.size = l.length := by simp
  have hkl : k < l.length := by rw [← hsz]; exact hks
  have hdk : dstsOk a0.tmps.size (l.take k) = true := hdst
  have hall : ∀ V : World, Below W.heap.size W V → AllIn P l.toArray (fun w' => ∃ x : Past V, w' = x.w) af (l.take k) a0 := fun V hV => allIn_of hdk (hwalk V hV)
  have hA0 := hall W (Below.refl _ _)
  have hget : ∀ i, i < k → (l.take k)[i]? = l[i]? := fun i hi => by rw [List.getElem?_take]; simp [hi]
  have hafs : ∀ t, (∀ j o, j < k → l[j]? = some o → o.dst ≠ some t) → slotOf af t = slotOf a0 t := fun t ht => hA0.keep.2.2 t (fun o ho => by
    obtain ⟨j, hj⟩ := List.getElem?_of_mem ho
    rw [List.getElem?_take] at hj
    split at hj
    · exact ht j o (by assumption) hj
    · cases hj)
  have hback' : ∀ i o, l[i]? = some o → ∀ e ∈ o.after, Region.binds .any e = true → e.on < i := by
    intro i o hi e he hb
    have hil : i < l.length := (List.getElem?_eq_some_iff.1 hi).1
    have h1 := hback i (by rw [hsz]; exact hil)
    have hi' : l.toArray[i]? = some o := by simpa using hi
    rw [hi'] at h1
    have h2 := Array.all_eq_true_iff_forall_mem.1 h1 e he
    simpa [hb] using h2
  have hdep' : ∀ i o j oj d, i < k → l[i]? = some o → j < k → l[j]? = some oj → oj.dst = some d → d ∈ o.looksAt l.toArray → j < i ∧ waitsB1 .any l.toArray i j = true := by
    intro i o j oj d hi ho hj hoj hd hmem
    have h1 := hdep i hi j (by omega)
    have ho' : l.toArray[i]? = some o := by simpa using ho
    have hoj' : l.toArray[j]? = some oj := by simpa using hoj
    rw [ho', hoj'] at h1
    simp only [hd] at h1
    have hc : (o.looksAt l.toArray).contains d = true := by simpa using hmem
    rw [hc] at h1
    simpa using h1
  have dlt : ∀ i o, i < k → l[i]? = some o → ∃ d, o.dst = some d ∧ d < a0.tmps.size := fun i o hi ho => dsts_lt _ _ i o hdk (by rw [hget i (by omega)]; exact ho)
  have dne : ∀ i j o oj t, i < k → j < k → l[i]? = some o → l[j]? = some oj → i ≠ j → oj.dst = some t → o.dst ≠ some t := fun i j o oj t hi hj ho hoj hne hd => dsts_ne _ _ j i oj o t hdk (by rw [hget j (by omega)]; exact hoj) (by rw [hget i (by omega)]; exact ho) (Ne.symm hne) hd
  have fin : ∀ (listed : Array Bool) (a : Act) (w : World), Mid0 P l.toArray k a0 af W listed a w → (∀ i, i < k → listed.getD i false = true) → ∀ fuel, unl listed = fuel → wpAny P .any l.toArray Q fuel listed a w := by
    intro listed a w m hdone fuel hu
    have hLH : listed = Array.replicate k true ++ Array.replicate (l.toArray.size - k) false := by
      apply Array.ext
      · simp [m.size]; omega
      · intro i h1 h2
        rcases Nat.lt_or_ge i k with h' | h
        rotate_left 1
        · have := m.tail i h (by rw [← m.size]; exact h1)
          rw [Array.getElem_append_right (by simp; omega)]
          simpa [h1] using this
        · have := hdone i h'
          rw [Array.getElem_append_left (by simp; omega)]
          simpa [h1] using this
    have hae : a = af := by
      have hs0 := hA0.keep
      refine act_ext ?_ ?_ ?_
      · rw [m.tsize, hs0.1]
      · rw [m.defers, hs0.2.1]
      · intro t
        by_cases hex : ∃ j o, j < k ∧ l[j]? = some o ∧ o.dst = some t
        · obtain ⟨j, o, hj, ho, hd⟩ := hex
          exact m.put j o t hj (by simpa using ho) hd (hdone j hj)
        · rw [m.same t (fun j o hj ho _ hd => hex ⟨j, o, hj, by simpa using ho, hd⟩), hafs t (fun j o hj ho hd => hex ⟨j, o, hj, ho, hd⟩)]
    have hfu : fuel = (l.drop k).length := by
      rw [← hu, hLH, unl_done]
      simp
    rw [hfu, hae]
    refine wpAny_of_seq (l.drop k) k listed _ w (fun j => by simp [List.getElem?_drop]) ?_ (htail w m.ahd)
    rw [hLH]
    have : (l.drop k).length = l.toArray.size - k := by simp
    rw [this]
    exact hseq
  have main : ∀ (fuel : Nat) (listed : Array Bool) (a : Act) (w : World), Mid0 P l.toArray k a0 af W listed a w → unl listed = fuel → wpAny P .any l.toArray Q fuel listed a w := by
    intro fuel
    induction fuel with
    | zero =>
      intro listed a w m hu
      by_cases hdone : ∀ i, i < k → listed.getD i false = true
      · exact fin listed a w m hdone _ hu
      · obtain ⟨i, hi, _, hun⟩ := first_no' listed k hdone
        have := unl_set (listed := listed) (i := i) (by rw [m.size]; omega) (by rw [getD_tf (by rw [m.size]; omega)]; exact hun)
        omega
    | succ fuel ih =>
      intro listed a w m hu
      by_cases hdone : ∀ i, i < k → listed.getD i false = true
      · exact fin listed a w m hdone _ hu
      · obtain ⟨i0, hi0, hpre, hun0⟩ := first_no' listed k hdone
        refine ⟨fun h0 => ?_, fun i hi => ?_⟩
        · have hr : i0 ∈ Region.ready .any l.toArray listed := by
            rw [mem_ready]
            refine ⟨by rw [getD_tf (by rw [m.size]; omega)]; exact hun0, l[i0]'(by omega), by simp, fun e he hb => hpre _ ?_⟩
            exact hback' i0 _ (by simp) e he hb
          rw [h0] at hr
          cases hr
        · have hi' := hi
          obtain ⟨hun, o, ho, hw⟩ := mem_ready.1 hi
          have hil : i < l.length := by
            have := (Array.getElem?_eq_some_iff.1 ho).1
            simpa using this
          have hol : l[i]? = some o := by simpa using ho
          have hun' : unl (listed.setIfInBounds i true) = fuel := by
            have := unl_set (listed := listed) (i := i) (by rw [m.size]; omega) hun
            omega
          have hik : i < k := by
            rcases Nat.lt_or_ge i k with h | h
            rotate_left 1
            · have h1 := (htl i (by omega)).resolve_left (by omega) i0 (by omega)
              obtain ⟨e, he, hb, heo⟩ := waitsB1_spec ho h1
              have h2 := hw e he hb
              rw [heo, hun0] at h2
              cases h2
            · exact h
          have hclosed : ∀ j oj, l.toArray[j]? = some oj → (listed.setIfInBounds i true).getD j false = true → ∀ e ∈ oj.after, Region.binds .any e = true → (listed.setIfInBounds i true).getD e.on false = true := by
            intro j oj hj hl e he hb
            by_cases hji : i = j
            · subst hji
              rw [ho] at hj
              cases hj
              exact getD_set_true (hw e he hb)
            · rw [getD_set_ne false hji] at hl
              exact getD_set_true (m.closed j oj hj hl e he hb)
          have htail' : ∀ t, k ≤ t → t < l.toArray.size → (listed.setIfInBounds i true).getD t true = false := fun t ht ht' => by rw [getD_set_ne true (by omega)]; exact m.tail t ht ht'
          obtain ⟨d, hod, hdlt⟩ := dlt i o hik hol
          have hlook : ∀ t ∈ o.looksAt l.toArray, slotOf a t = slotOf (accum af ((l.take k).take i) a0) t := by
            intro t ht
            rw [accum_slot _ _ _ (dstsOk_take _ _ _ hdk)]
            by_cases hex : ∃ j oj, j < k ∧ l[j]? = some oj ∧ oj.dst = some t
            · obtain ⟨j, oj, hj, hoj, hdt⟩ := hex
              obtain ⟨hji, hwt⟩ := hdep' i o j oj t hik hol hj hoj hdt ht
              obtain ⟨e, he, hb, heo⟩ := waitsB1_spec ho hwt
              have hlj := hw e he hb
              rw [heo] at hlj
              rw [m.put j oj t (by omega) (by simpa using hoj) hdt hlj, if_pos]
              rw [List.any_eq_true]
              refine ⟨oj, ?_, by simp [hdt]⟩
              refine List.mem_of_getElem? (i := j) ?_
              rw [List.getElem?_take, List.getElem?_take]
              simp only [hji, show j < k by omega, if_true, hoj]
            · rw [m.same t (fun j oj hj hoj _ hdt => hex ⟨j, oj, by omega, by simpa using hoj, hdt⟩), if_neg]
              intro hany
              rw [List.any_eq_true] at hany
              obtain ⟨oj, hmem, hdt⟩ := hany
              obtain ⟨j, hj⟩ := List.getElem?_of_mem (List.mem_of_mem_take hmem)
              rw [List.getElem?_take] at hj
              split at hj
              · exact hex ⟨j, oj, by omega, hj, by simpa using hdt⟩
              · cases hj
          have hy := (hall w m.ahd).get (i := i) (o := o) (by rw [List.getElem?_take]; simp [hik, hol])
          have he : execOp a.eval o = execOp (accum af ((l.take k).take i) a0).eval o := execOp_congr o (fun cs b => Region.noSelect_spec hsel i o cs b ho) (fun x hx => by
            cases x with
            | tmp t => exact hlook t (List.mem_append_left _ (List.mem_filterMap.2 ⟨.tmp t, by simpa using hx, rfl⟩))
            | _ => rfl)
          have hy' := hy.of_same he (wanted_congr hlook)
          refine wpOp_of_qOp (C := fun w' => ∃ x : Past w, w' = x.w) ⟨⟨w, Below.refl _ _⟩, rfl⟩ (fun a' w' hx ha => ?_) (hy'.qOp ho (K := fun a' => a' = a.put o.dst (leftBy af o)) rfl)
          obtain ⟨x, rfl⟩ := hx
          subst ha
          refine ih _ _ _ ⟨by simp [m.size], hclosed, htail', m.ahd.trans (x.far.mono m.ahd.size), by rw [defers_put]; exact m.defers, by rw [size_put]; exact m.tsize, ?_, ?_⟩ hun'
          · intro j oj t hj hoj hdt hl
            by_cases hji : i = j
            · subst hji
              rw [ho] at hoj
              cases hoj
              have : leftBy af o = slotOf af t := by simp [leftBy, hdt]
              rw [hdt, this]
              rw [hod] at hdt
              cases hdt
              exact slot_put_same _ (by rw [m.tsize]; exact hdlt)
            · rw [getD_set_ne false hji] at hl
              rw [slot_put_ne _ (dne i j o oj t hik (by omega) hol (by simpa using hoj) hji hdt)]
              exact m.put j oj t hj hoj hdt hl
          · intro t hno
            have h1 : (listed.setIfInBounds i true).getD i false = true := by
              have : i < listed.size := by rw [m.size]; omega
              simp [this]
            rw [slot_put_ne _ (hno i o hik ho h1)]
            exact m.same t (fun j oj hj hoj hl => hno j oj hj hoj (getD_set_true hl))
  refine wp_region_any hm (main _ _ a0 _ ?_ (by rw [unl_rep]))
  refine ⟨by simp, ?_, ?_, (Below.refl _ _).drew, rfl, rfl, ?_, ?_⟩
  · intro j oj hj h
    rw [getD_replicate_false] at h
    cases h
  · intro t _ ht
    have : (Array.replicate l.toArray.size false).getD t true = false := by simp at ht; simp [ht]
    exact this
  · intro j o t _ _ _ h
    rw [getD_replicate_false] at h
    cases h
  · intro t _; rfl
end
end Go.Proofs.Ytmebpglkeedaoaa
namespace Go.Proofs.Ytmebpglkeedaoaa
open Go Go.RowKit
inductive Role where
  | q
  | p
  | c (j d : Nat)
def depsB (ops : Array Oper) (t : Nat) (S : List Bool) : List Bool :=
  match ops[t]? with
  | some o => o.after.toList.foldl (fun S e => if Region.binds .any e = true then S.set e.on true else S) S
  | none => S
def coverB (ops : Array Oper) : Nat → List Bool → List Bool
  | 0, S => S
  | n + 1, S => coverB ops n (if S.getD n false = true then depsB ops n S else S)
theorem getD_set_list {S : List Bool} {i j : Nat} (h : (S.set i true).getD j false = true) : j = i ∨ S.getD j false = true := by
  by_cases hij : j = i
  · exact .inl hij
  · right
    rwa [List.getD_eq_getElem?_getD, List.getElem?_set_ne (fun e => hij e.symm), ← List.getD_eq_getElem?_getD] at h
theorem deps_listed {listed : Array Bool} (l : List Edge) (S : List Bool) (he : ∀ e ∈ l, Region.binds .any e = true → listed.getD e.on false = true) (hS : ∀ i, S.getD i false = true → listed.getD i false = true) (i : Nat)
    (h : (l.foldl (fun S e => if Region.binds .any e = true then S.set e.on true else S) S).getD i false = true) : listed.getD i false = true := by
  induction l generalizing S with
  | nil => exact hS i h
  | cons e l ih =>
    rw [List.foldl_cons] at h
    refine ih _ (fun e' he' => he e' (by simp [he'])) (fun j hj => ?_) h
    split at hj
    · rename_i hb
      rcases getD_set_list hj with rfl | h'
      · exact he e (by simp) hb
      · exact hS j h'
    · exact hS j hj
theorem cover_listed {ops : Array Oper} {listed : Array Bool} (hc : ∀ j oj, ops[j]? = some oj → listed.getD j false = true → ∀ e ∈ oj.after, Region.binds .any e = true → listed.getD e.on false = true) :
    ∀ (n : Nat) (S : List Bool), (∀ i, S.getD i false = true → listed.getD i false = true) → ∀ i, (coverB ops n S).getD i false = true → listed.getD i false = true
  | 0, S, hS, i, h => hS i h
  | n + 1, S, hS, i, h => by
    unfold coverB at h
    refine cover_listed hc n _ (fun j hj => ?_) i h
    split at hj
    · rename_i hn
      unfold depsB at hj
      split at hj
      · rename_i o ho
        exact deps_listed _ S (fun e he hb => hc n o ho (hS n hn) e (by simpa using he) hb) hS j hj
      · exact hS j hj
    · exact hS j hj
theorem deps_length (ops : Array Oper) (t : Nat) (S : List Bool) : (depsB ops t S).length = S.length := by
  unfold depsB
  split
  · rename_i o _
    generalize o.after.toList = l
    induction l generalizing S with
    | nil => rfl
    | cons e l ih =>
      rw [List.foldl_cons, ih]
      split
      · simp
      · rfl
  · rfl
theorem cover_length {ops : Array Oper} : ∀ (n : Nat) (S : List Bool), (coverB ops n S).length = S.length
  | 0, S => rfl
  | n + 1, S => by
    unfold coverB
    rw [cover_length n]
    split
    · exact deps_length ops n S
    · rfl
section
variable {P : Program} {ops : Array Oper} {af : Act} {cont : Nat → Obj × (Nat → Value)} {V : World}
def StepP (P : Program) (ops : Array Oper) (af : Act) (cont : Nat → Obj × (Nat → Value)) (V : World) (i : Nat) (r : Role) (o : Oper) (a : Act) : Prop :=
  match r with
  | .q => YieldsIn P ops (fun w' => ∃ x : Past V, w' = x.w) o (leftBy af o) a
  | .p => Region.wanted o (yielded ops a.tmps) = true ∧ ∀ w : World, (execOp a.eval o).run P w = .ok (.value ((cont i).2 w.heap.size)) (w.alloc (cont i).1)
  | .c j d => ∀ (V' : World) (g : Nat), Below V.heap.size V V' → V'.heap[g]? = some (cont j).1 → YieldsIn P ops (fun w' => ∃ x : Past V', w' = x.w) o (leftBy af o) (a.put (some d) ((cont j).2 g))
def AllInP (P : Program) (ops : Array Oper) (af : Act) (cont : Nat → Obj × (Nat → Value)) (V : World) : Nat → List Role → List Oper → Act → Prop
  | _, [], [], a => a = af
  | i, r :: rs, o :: l, a => StepP P ops af cont V i r o a ∧ AllInP P ops af cont V (i + 1) rs l (a.put o.dst (leftBy af o))
  | _, _, _, _ => False
theorem AllInP.keep : ∀ {i : Nat} {rs : List Role} {l : List Oper} {a : Act}, AllInP P ops af cont V i rs l a → af.tmps.size = a.tmps.size ∧ af.defers = a.defers ∧ (∀ t, (∀ o ∈ l, o.dst ≠ some t) → slotOf af t = slotOf a t)
  | _, [], [], a, h => by
    have : a = af := h
    subst this
    exact ⟨rfl, rfl, fun _ _ => rfl⟩
  | _, [], _ :: _, _, h => h.elim
  | _, _ :: _, [], _, h => h.elim
  | i, r :: rs, o :: l, a, h => by
    obtain ⟨h1, h2, h3⟩ := AllInP.keep h.2
    refine ⟨by rw [h1, size_put], by rw [h2, defers_put], fun t ht => ?_⟩
    rw [h3 t (fun o' ho' => ht o' (by simp [ho'])), slot_put_ne _ (ht o (by simp))]
theorem AllInP.get : ∀ {b : Nat} {rs : List Role} {l : List Oper} {a : Act} {i : Nat} {o : Oper} {r : Role}, AllInP P ops af cont V b rs l a → l[i]? = some o → rs[i]? = some r → StepP P ops af cont V (b + i) r o (accum af (l.take i) a)
  | _, [], [], _, _, _, _, _, hi, _ => by simp at hi
  | _, [], _ :: _, _, _, _, _, h, _, _ => h.elim
  | _, _ :: _, [], _, _, _, _, h, _, _ => h.elim
  | b, r :: rs, o :: l, a, 0, o', r', h, hi, hr => by
    have e1 : o = o' := by simpa using hi
    have e2 : r = r' := by simpa using hr
    subst e1; subst e2
    exact h.1
  | b, r :: rs, o :: l, a, i + 1, o', r', h, hi, hr => by
    have := AllInP.get (i := i) h.2 (by simpa using hi) (by simpa using hr)
    rw [show b + (i + 1) = b + 1 + i from by omega]
    simpa [accum] using this
end
section
variable {P : Program} {Q : Exit → Act → World → Prop} {W : World} {a0 af : Act} {l : List Oper} {k : Nat} {rs : List Role} {cont : Nat → Obj × (Nat → Value)}
end
end Go.Proofs.Ytmebpglkeedaoaa
namespace Go.Proofs.Ytmebpglkeedaoaa
open Go Go.RowKit
section
variable {P : Program} {Q : Exit → Act → World → Prop} {W : World} {a0 af : Act} {l : List Oper} {k : Nat} {rs : List Role} {cont : Nat → Obj × (Nat → Value)}
end
end Go.Proofs.Ytmebpglkeedaoaa
namespace Go.Proofs.Ytmebpglkeedaoaa
open Go Go.RowKit
section
variable {P : Program} {Q : Exit → Act → World → Prop} {W : World} {a0 af : Act} {l : List Oper} {k : Nat} {rs : List Role} {cont : Nat → Obj × (Nat → Value)}
end
end Go.Proofs.Ytmebpglkeedaoaa
namespace Go.Proofs.Ytmebpglkeedaoaa
open Go Go.RowKit
section
variable {P : Program} {Q : Exit → Act → World → Prop} {W : World} {a0 af : Act} {l : List Oper} {k : Nat}
end
end Go.Proofs.Ytmebpglkeedaoaa
namespace Go.Proofs.Ytmebpglkeedaoaa
open Go Go.RowKit
section
variable {P : Program} {Q : Exit → Act → World → Prop} {W : World} {a0 af : Act} {l : List Oper} {k : Nat} {ok ok' : Oper} {O : Obj} {ds ds' : Tmp}
end
end Go.Proofs.Ytmebpglkeedaoaa
namespace Go.Proofs.Ytmebpglkeedaoaa
open Go.RowKit
def Blk (w : World) (g : Nat) (t : TypeId) (cs : List Value) : Prop := w.heap[g]? = some (.cells cs.toArray t (0, 0))
section
variable {w w' : World} {g : Nat} {t : TypeId} {cs : List Value}
theorem Blk.cell (h : Blk w g t cs) (o : Nat) {v : Value} (hv : cs[o]? = some v) : w.cell? ⟨g, o, none⟩ = some v := by
  unfold Blk at h
  simp [World.cell?, h, hv]
theorem Blk.free (h : Blk w g t cs) (o : Nat) : w.frozen? ⟨g, o, none⟩ = false := by
  unfold Blk at h
  simp [World.frozen?, h]
theorem Blk.lt (h : Blk w g t cs) : g < w.heap.size := by
  rcases Nat.lt_or_ge g w.heap.size with h' | h'
  · exact h'
  · unfold Blk at h
    rw [Array.getElem?_eq_none h'] at h
    cases h
theorem Blk.of_eq (h : Blk w g t cs) (e : w'.heap[g]? = w.heap[g]?) : Blk w' g t cs := e.trans h
theorem Blk.drew (h : Blk w g t cs) : Blk w.drew g t cs := h
theorem Blk.alloc (h : Blk w g t cs) (o : Obj) : Blk (w.alloc o) g t cs := h.of_eq (Below.heap_alloc _ _ _ h.lt)
theorem Blk.new (w : World) (cs : List Value) (t : TypeId) : Blk (w.alloc (.cells cs.toArray t)) w.heap.size t cs := by
  show (w.heap.push _)[w.heap.size]? = _
  simp
theorem Blk.new' (w : World) (cs : Array Value) (t : TypeId) : Blk (w.alloc (.cells cs t)) w.heap.size t cs.toList := by
  show (w.heap.push _)[w.heap.size]? = _
  simp
theorem Blk.setCell (h : Blk w g t cs) (o : Nat) (u : Value) : Blk (w.setCell ⟨g, o, none⟩ u) g t (cs.set o u) := by
  have hlt := h.lt
  unfold Blk at h ⊢
  have h' : w.heap[g] = .cells cs.toArray t (0, 0) := by simpa [Array.getElem?_eq_getElem hlt] using h
  show (w.heap.modify g _)[g]? = _
  rw [Array.getElem?_eq_getElem (by simpa using hlt), Array.getElem_modify_self, h']
  simp
theorem Blk.setCell_ne (h : Blk w g t cs) {p : Addr} (hp : g ≠ p.block) (u : Value) : Blk (w.setCell p u) g t cs := h.of_eq (Below.heap_setCell _ _ _ _ hp)
theorem Blk.grown {row : Option Nat} (h : Blk w g t cs) (hg : w.grownBy w' row) (hne : some g ≠ row) : Blk w' g t cs := h.of_eq (hg.block g h.lt hne)
theorem Blk.below {B : Nat} (h : Blk w g t cs) (hb : Below B w w') (hlt : g < B) : Blk w' g t cs := h.of_eq (hb.block g hlt)
end
structure Touch (S : Nat → Prop) (w w' : World) : Prop where
  os : w'.os = w.os
  tape : w'.tape = w.tape
  output : w'.output = w.output
  size : w.heap.size ≤ w'.heap.size
  block : ∀ k, k < w.heap.size → ¬ S k → w'.heap[k]? = w.heap[k]?
section
variable {S : Nat → Prop} {a w w' : World}
theorem Touch.refl (S : Nat → Prop) (w : World) : Touch S w w := ⟨rfl, rfl, rfl, Nat.le_refl _, fun _ _ _ => rfl⟩
theorem Touch.trans (h : Touch S a w) (k : Touch S w w') : Touch S a w' :=
  ⟨k.os.trans h.os, k.tape.trans h.tape, k.output.trans h.output, Nat.le_trans h.size k.size, fun i hi hn => (k.block i (Nat.lt_of_lt_of_le hi h.size) hn).trans (h.block i hi hn)⟩
theorem Touch.mono {S' : Nat → Prop} (h : Touch S w w') (hS : ∀ k, S k → S' k) : Touch S' w w' := ⟨h.os, h.tape, h.output, h.size, fun k hk hn => h.block k hk (fun hs => hn (hS k hs))⟩
theorem Touch.drew (h : Touch S a w) : Touch S a w.drew := ⟨h.os, h.tape, h.output, h.size, h.block⟩
theorem Touch.step (h : Touch S a w) (hos : w'.os = w.os) (ht : w'.tape = w.tape) (ho : w'.output = w.output) (hs : w.heap.size ≤ w'.heap.size) (hb : ∀ k, k < a.heap.size → ¬ S k → w'.heap[k]? = w.heap[k]?) : Touch S a w' :=
  ⟨hos.trans h.os, ht.trans h.tape, ho.trans h.output, Nat.le_trans h.size hs, fun k hk hn => (hb k hk hn).trans (h.block k hk hn)⟩
theorem Touch.alloc (h : Touch S a w) (o : Obj) : Touch S a (w.alloc o) :=
  h.step rfl rfl rfl (by simp) fun k hk _ => Below.heap_alloc _ _ _ (Nat.lt_of_lt_of_le hk h.size)
theorem Touch.setCell (h : Touch S a w) {p : Addr} (hp : S p.block ∨ a.heap.size ≤ p.block) (u : Value) : Touch S a (w.setCell p u) :=
  h.step rfl rfl rfl (by simp [World.setCell]) fun k hk hn => Below.heap_setCell _ _ _ _ (fun e => by subst e; exact hp.elim hn (fun h' => by omega))
theorem Touch.put {g : Nat} (h : Touch (fun k => k = g) a w) (o : Nat) (u : Value) : Touch (fun k => k = g) a (w.setCell ⟨g, o, none⟩ u) := h.setCell (.inl rfl) u
theorem Touch.grown {row : Option Nat} (h : Touch S a w) (hg : w.grownBy w' row) (hr : ∀ k, row = some k → S k ∨ a.heap.size ≤ k) : Touch S a w' :=
  h.step hg.os hg.tape hg.output hg.size fun k hk hn => hg.block k (Nat.lt_of_lt_of_le hk h.size) (fun e => (hr k e.symm).elim hn (fun h' => by omega))
theorem Touch.then {S' : Nat → Prop} (h : Touch S a w) (k : Touch S' w w') (hr : ∀ k, S' k → S k ∨ a.heap.size ≤ k) : Touch S a w' :=
  h.step k.os k.tape k.output k.size fun i hi hn => k.block i (Nat.lt_of_lt_of_le hi h.size) (fun e => (hr i e).elim hn (fun h' => by omega))
theorem Touch.of_below (hb : Below w.heap.size w w') : Touch S w w' := ⟨hb.os, hb.tape, hb.output, hb.size, fun k hk _ => hb.block k hk⟩
theorem Touch.below (h : Touch S a w) (hb : Below w.heap.size w w') : Touch S a w' := h.then (Touch.of_below (S := fun _ => False) hb) (fun _ h => h.elim)
theorem Below.touch {B : Nat} (h : Below B a w) (hB : B ≤ w.heap.size) (k : Touch S w w') (hS : ∀ k, S k → B ≤ k) : Below B a w' :=
  h.trans ⟨k.os, k.tape, k.output, k.size, fun i hi => k.block i (by omega) (fun e => by have := hS i e; omega)⟩
theorem Blk.touch {g : Nat} {t : TypeId} {cs : List Value} (h : Blk w g t cs) (k : Touch S w w') (hn : ¬ S g) : Blk w' g t cs := h.of_eq (k.block g h.lt hn)
theorem Touch.cell (k : Touch S w w') {p : Addr} (hp : p.block < w.heap.size) (hn : ¬ S p.block) : w'.cell? p = w.cell? p := World.cell?_of_block (k.block p.block hp hn)
end
end Go.Proofs.Ytmebpglkeedaoaa
namespace Go.Proofs.Ytmebpglkeedaoaa
open Go Go.RowKit
def SrcRow (w : World) (Bo : Option Addr) (m : Nat) (news : List Value) : Prop := (Bo = none ∧ m = 0) ∨ ∃ a, Bo = some a ∧ ∀ j u, news[j]? = some u → w.cell? (a.add j) = some u
def OwnB (A : Option Addr) (k : Nat) : Prop := ∃ a, A = some a ∧ a.block = k
theorem ownB_iff {A : Option Addr} {n cap k : Nat} : OwnB A k ↔ (Value.slice A n cap).ownBlock = some k := by
  cases A with
  | none => exact ⟨fun ⟨a, h, _⟩ => (by cases h), fun h => (by cases h)⟩
  | some a =>
    show OwnB (some a) k ↔ some a.block = some k
    exact ⟨fun ⟨b, h, e⟩ => (by cases h; rw [e]), fun h => ⟨a, rfl, by simpa using h⟩⟩
section
variable {P : Program} {w : World}
theorem run_append_any (t ty : TypeId) (base : Nat) (e : TypeId) (i : TypeInfo) (z : Value) (size bytes : Nat) (ht : P.underlying t = some (.slice e)) (hi : P.info? e = some i) (hz : i.zero = some z)
    (hsize : i.size = size) (hby : i.bytes = bytes) (hzs : z.cells.size = size) (hsz : 0 < size)
    (A : Option Addr) (n cap : Nat) (xs : List Value) (hown : w.ownsRow base e size (.slice A n cap) n xs)
    (Bo : Option Addr) (m c : Nat) (news : List Value) (hl : news.length = m * size) (hnews : SrcRow w Bo m news) (h1 : ∀ u ∈ news, u.oneCell' = true)
    (h63 : n + m ≤ maxLen) (hbytes : (n + m) * bytes ≤ 140737488355328) (hbase : base ≤ w.heap.size) :
    ∃ A' cap' w', (Builtin.append_ #[t, t] ty #[.slice A n cap, .slice Bo m c]).run P w = .ok (.slice A' (n + m) cap') w' ∧ w'.ownsRow base e size (.slice A' (n + m) cap') (n + m) (xs ++ news) ∧
      w.grownBy w' (Value.slice A n cap).ownBlock ∧ (∀ k, OwnB A' k → OwnB A k ∨ k = w.heap.size) := by
  rcases hnews with ⟨rfl, rfl⟩ | ⟨a, rfl, hnews⟩
  · have hn : news = [] := List.eq_nil_of_length_eq_zero (by simpa using hl)
    subst hn
    refine ⟨A, cap, w, ?_, by simpa using hown, ⟨rfl, rfl, rfl, Nat.le_refl _, fun _ _ _ => rfl⟩, fun k hk => .inl hk⟩
    rcases hown.2 with ⟨hv, rfl⟩ | ⟨g, cap', cur, hv, hbg, hg, hnc, hcm, hcs, htake⟩
    · cases hv
      simp [Builtin.append_, run_underlying ht, sizeOf, typeInfo, hi, Builtin.lenOf, Builtin.firstCells]
    · cases hv
      have hr := run_append_room_src (P := P) w t t ty e i ht hi g 0 n cap (.slice none 0 c) 0 [] (Src.ofNil w ht c) (by omega) (by simp) (by simp)
      simpa [World.setCells] using hr
  · obtain ⟨v', w', hr, h2, h3, h4, h5⟩ := run_append_own_at (P := P) w base t ty e i z size bytes ht hi hz hsize hby hzs hsz (.slice A n cap) n xs hown a m c news hl hnews h1 h63 hbytes hbase
    have hform : ∃ A' cap', v' = .slice A' (n + m) cap' := by
      rcases h2.2 with ⟨rfl, hn⟩ | ⟨g, cap', cur, rfl, _⟩
      · exact ⟨none, 0, by rw [hn]⟩
      · exact ⟨_, _, rfl⟩
    obtain ⟨A', cap', rfl⟩ := hform
    refine ⟨A', cap', w', hr, h2, h3, fun k hk => ?_⟩
    have hk' := (ownB_iff (n := n + m) (cap := cap')).1 hk
    rcases h5 with h5 | h5
    · exact .inl ((ownB_iff (n := n) (cap := cap)).2 (h5 ▸ hk'))
    · rw [h5] at hk'
      exact .inr (by simpa using hk'.symm)
theorem wpList_append_any {ops : Array Oper} {rest : List Oper} {o : Oper} {a : Act} {Q : Exit → Act → World → Prop} (s x : Operand) (t : TypeId)
    (ho : o.op = .call { callee := .builtin .append, args := #[s, x], argTypes := #[t, t] }) (hgd : o.guard = none)
    (base : Nat) (e : TypeId) (i : TypeInfo) (z : Value) (size bytes : Nat) (ht : P.underlying t = some (.slice e)) (hi : P.info? e = some i) (hz : i.zero = some z)
    (hsize : i.size = size) (hby : i.bytes = bytes) (hzs : z.cells.size = size) (hsz : 0 < size)
    (A : Option Addr) (n cap : Nat) (xs : List Value) (hs : a.eval s = .slice A n cap) (hown : w.ownsRow base e size (.slice A n cap) n xs)
    (Bo : Option Addr) (m c : Nat) (news : List Value) (hx : a.eval x = .slice Bo m c) (hl : news.length = m * size) (hnews : SrcRow w Bo m news) (h1 : ∀ u ∈ news, u.oneCell' = true)
    (h63 : n + m ≤ maxLen) (hbytes : (n + m) * bytes ≤ 140737488355328) (hbase : base ≤ w.heap.size)
    (h : ∀ A' cap' w', w'.ownsRow base e size (.slice A' (n + m) cap') (n + m) (xs ++ news) → w.grownBy w' (Value.slice A n cap).ownBlock → (∀ k, OwnB A' k → OwnB A k ∨ k = w.heap.size) → wpList P ops Q rest (a.put o.dst (.slice A' (n + m) cap')) w') :
    wpList P ops Q (o :: rest) a w := by
  refine wpList_plain hgd fun K hK => ?_
  obtain ⟨A', cap', w', hr, h2, h3, h4⟩ := run_append_any (P := P) t o.type base e i z size bytes ht hi hz hsize hby hzs hsz A n cap xs hown Bo m c news hl hnews h1 h63 hbytes hbase
  unfold Oper.wp execOp
  simp only [ho, resolve, invoke, builtin, Sem.run_bind, Sem.run_pure, Result.andThen_ok, List.map_toArray, List.map_cons, List.map_nil, hs, hx, hr]
  exact hK _ _ (h A' cap' w' h2 h3 h4)
end
end Go.Proofs.Ytmebpglkeedaoaa
namespace Go.Proofs.Ytmebpglkeedaoaa
open Go Go.RowKit
abbrev BlkRow := Nat × TypeId × List Value
def Has (l : List BlkRow) (W : World) : Prop := ∀ x, x ∈ l → Blk W x.1 x.2.1 x.2.2
section
variable {l : List BlkRow} {W W' w : World}
theorem Has.nil (W : World) : Has [] W := fun _ h => by cases h
theorem Has.get (h : Has l W) (i : Nat) {g : Nat} {t : TypeId} {cs : List Value} (hx : l[i]? = some (g, t, cs)) : Blk W g t cs := h (g, t, cs) (List.mem_of_getElem? hx)
theorem Has.lt (h : Has l W) (x : BlkRow) (hx : x ∈ l) : x.1 < W.heap.size := (h x hx).lt
theorem Has.below (h : Has l W) (hb : Below W.heap.size W W') : Has l W' := fun x hx => (h x hx).below hb (h x hx).lt
theorem Has.cons {g : Nat} {t : TypeId} {cs : List Value} (k : Blk W g t cs) (h : Has l W) : Has ((g, t, cs) :: l) W := fun x hx => by
  rcases List.mem_cons.1 hx with rfl | h'
  · exact k
  · exact h x h'
theorem Has.setCell (h : Has l W) {p : Addr} (hn : ∀ x, x ∈ l → x.1 ≠ p.block) (v : Value) : Has l (W.setCell p v) := fun x hx => (h x hx).setCell_ne (hn x hx) v
theorem Has.sub {l' : List BlkRow} (h : Has l W) (hs : ∀ x, x ∈ l' → x ∈ l) : Has l' W := fun x hx => h x (hs x hx)
def St (w : World) (l : List BlkRow) (W : World) : Prop := Below w.heap.size w W ∧ Has l W ∧ (l.map Prod.fst).Nodup
theorem St.start (w : World) : St w [] w := ⟨Below.refl _ _, Has.nil _, List.nodup_nil⟩
theorem St.below (h : St w l W) (hb : Below W.heap.size W W') : St w l W' := ⟨h.1.trans (hb.mono h.1.size), h.2.1.below hb, h.2.2⟩
theorem St.get (h : St w l W) (i : Nat) {g : Nat} {t : TypeId} {cs : List Value} (hx : l[i]? = some (g, t, cs)) : Blk W g t cs := h.2.1.get i hx
theorem St.ne (h : St w l W) (i j : Nat) {g g' : Nat} {t t' : TypeId} {cs cs' : List Value} (hx : l[i]? = some (g, t, cs)) (hy : l[j]? = some (g', t', cs')) (hij : i ≠ j) : ¬ g = g' := by
  intro e
  refine hij ((List.getElem?_inj (l := l.map Prod.fst) (by have := (List.getElem?_eq_some_iff.1 hx).1; simpa using this) h.2.2).1 ?_)
  · rw [List.getElem?_map, List.getElem?_map, hx, hy]
    simp [e]
theorem St.drew (h : St w l W) : St w l W.drew := ⟨h.1.drew, fun x hx => (h.2.1 x hx).drew, h.2.2⟩
theorem St.apart (h : St w l W) {g : Nat} (hg : W.heap.size ≤ g) : ∀ x, x ∈ l → x.1 ≠ g := fun x hx e => by have := h.2.1.lt x hx; omega
theorem St.apart' (h : St w l W) {g : Nat} (hg : W.heap.size ≤ g) : g ∉ l.map Prod.fst := fun hm => by
  obtain ⟨x, hx, e⟩ := List.mem_map.1 hm
  exact h.apart hg x hx e
theorem St.alloc (h : St w l W) (cs : List Value) (t : TypeId) : St w ((W.heap.size, t, cs) :: l) (W.alloc (.cells cs.toArray t)) :=
  ⟨h.1.alloc h.1.size _, Has.cons (Blk.new W cs t) (h.2.1.below ((Below.refl _ _).alloc (Nat.le_refl _) _)), by
    rw [List.map_cons, List.nodup_cons]
    exact ⟨h.apart' (Nat.le_refl _), h.2.2⟩⟩
end
end Go.Proofs.Ytmebpglkeedaoaa
namespace Go.Proofs.Ytmebpglkeedaoaa
open Go Go.RowKit
namespace Ef
inductive Role where
  | q
  | p
  | c (j d : Nat)
  | e (n : Nat)
section
variable {P : Program} {ops : Array Oper} {af : Act} {cont : Nat → Obj × (Nat → Value)} {S : Nat → Prop} {J : Nat → World → Prop} {W V : World}
def StepP (P : Program) (ops : Array Oper) (af : Act) (cont : Nat → Obj × (Nat → Value)) (S : Nat → Prop) (J : Nat → World → Prop) (W V : World) (i : Nat) (r : Role) (o : Oper) (a : Act) : Prop :=
  match r with
  | .q => YieldsIn P ops (fun w' => ∃ x : Past V, w' = x.w) o (leftBy af o) a
  | .p => Region.wanted o (yielded ops a.tmps) = true ∧ ∀ w : World, (execOp a.eval o).run P w = .ok (.value ((cont i).2 w.heap.size)) (w.alloc (cont i).1)
  | .c j d => ∀ (V' : World) (g : Nat), Below V.heap.size V V' → V'.heap[g]? = some (cont j).1 → YieldsIn P ops (fun w' => ∃ x : Past V', w' = x.w) o (leftBy af o) (a.put (some d) ((cont j).2 g))
  | .e n => ∀ V' : World, Touch S W V' → J n V' → Region.wanted o (yielded ops a.tmps) = true ∧ ∃ f args, (execOp a.eval o).run P V' = .ok (.enter f args) V' ∧ Calls P f args V' (fun e w'' => e = .returned (leftBy af o) ∧ Touch S V' w'' ∧ J (n + 1) w'')
def AllInP (P : Program) (ops : Array Oper) (af : Act) (cont : Nat → Obj × (Nat → Value)) (S : Nat → Prop) (J : Nat → World → Prop) (W V : World) : Nat → List Role → List Oper → Act → Prop
  | _, [], [], a => a = af
  | i, r :: rs, o :: l, a => StepP P ops af cont S J W V i r o a ∧ AllInP P ops af cont S J W V (i + 1) rs l (a.put o.dst (leftBy af o))
  | _, _, _, _ => False
theorem AllInP.keep : ∀ {i : Nat} {rs : List Role} {l : List Oper} {a : Act}, AllInP P ops af cont S J W V i rs l a → af.tmps.size = a.tmps.size ∧ af.defers = a.defers ∧ (∀ t, (∀ o ∈ l, o.dst ≠ some t) → slotOf af t = slotOf a t)
  | _, [], [], a, h => by
    have : a = af := h
    subst this
    exact ⟨rfl, rfl, fun _ _ => rfl⟩
  | _, [], _ :: _, _, h => h.elim
  | _, _ :: _, [], _, h => h.elim
  | i, r :: rs, o :: l, a, h => by
    obtain ⟨h1, h2, h3⟩ := AllInP.keep h.2
    refine ⟨by rw [h1, size_put], by rw [h2, defers_put], fun t ht => ?_⟩
    rw [h3 t (fun o' ho' => ht o' (by simp [ho'])), slot_put_ne _ (ht o (by simp))]
theorem AllInP.get : ∀ {b : Nat} {rs : List Role} {l : List Oper} {a : Act} {i : Nat} {o : Oper} {r : Role}, AllInP P ops af cont S J W V b rs l a → l[i]? = some o → rs[i]? = some r → StepP P ops af cont S J W V (b + i) r o (accum af (l.take i) a)
  | _, [], [], _, _, _, _, _, hi, _ => by simp at hi
  | _, [], _ :: _, _, _, _, _, h, _, _ => h.elim
  | _, _ :: _, [], _, _, _, _, h, _, _ => h.elim
  | b, r :: rs, o :: l, a, 0, o', r', h, hi, hr => by
    have e1 : o = o' := by simpa using hi
    have e2 : r = r' := by simpa using hr
    subst e1; subst e2
    exact h.1
  | b, r :: rs, o :: l, a, i + 1, o', r', h, hi, hr => by
    have := AllInP.get (i := i) h.2 (by simpa using hi) (by simpa using hr)
    rw [show b + (i + 1) = b + 1 + i from by omega]
    simpa [accum] using this
end
section
variable {P : Program} {Q : Exit → Act → World → Prop} {W : World} {a0 af : Act} {l : List Oper} {k : Nat} {rs : List Role} {cont : Nat → Obj × (Nat → Value)}
end
end Ef
end Go.Proofs.Ytmebpglkeedaoaa
namespace Go.Proofs.Ytmebpglkeedaoaa
open Go.RowKit
theorem ownBelow {w w' : World} {B e z n cap : Nat} {A : Option Addr} {xs : List Value} (h : w.ownsRow B e z (.slice A n cap) n xs) (hb : Below w.heap.size w w') : w'.ownsRow B e z (.slice A n cap) n xs := by
  refine ⟨h.1, ?_⟩
  rcases h.2 with h2 | ⟨k, c, cur, hv, hb', hg, r⟩
  · exact .inl h2
  · cases hv
    exact .inr ⟨k, cap, cur, rfl, hb', by rw [hb.block k (Array.getElem?_eq_some_iff.1 hg).1]; exact hg, r⟩
theorem ownGrown {w w' : World} {row : Option Nat} {B e z n cap : Nat} {A : Option Addr} {xs : List Value} (h : w.ownsRow B e z (.slice A n cap) n xs) (hg : w.grownBy w' row) (hne : ∀ k, OwnB A k → some k ≠ row) : w'.ownsRow B e z (.slice A n cap) n xs := by
  refine ⟨h.1, ?_⟩
  rcases h.2 with h2 | ⟨k, c, cur, hv, hb', hgk, r⟩
  · exact .inl h2
  · cases hv
    exact .inr ⟨k, cap, cur, rfl, hb', by rw [hg.block k (Array.getElem?_eq_some_iff.1 hgk).1 (hne k ⟨_, rfl, rfl⟩)]; exact hgk, r⟩
theorem ownLt {w : World} {B e z n cap : Nat} {A : Option Addr} {xs : List Value} (h : w.ownsRow B e z (.slice A n cap) n xs) {k : Nat} (hk : OwnB A k) : k < w.heap.size ∧ B ≤ k := by
  obtain ⟨a, rfl, rfl⟩ := hk
  rcases h.2 with ⟨h2, _⟩ | ⟨g, c, cur, hv, hb, hg, _⟩
  · cases h2
  · cases hv
    exact ⟨(Array.getElem?_eq_some_iff.1 hg).1, hb⟩
theorem ownSet {w : World} {B e z n cap : Nat} {A : Option Addr} {xs : List Value} (h : w.ownsRow B e z (.slice A n cap) n xs) {p : Addr} (hp : ¬ OwnB A p.block) (u : Value) : (w.setCell p u).ownsRow B e z (.slice A n cap) n xs := by
  refine ⟨h.1, ?_⟩
  rcases h.2 with h2 | ⟨k, c, cur, hv, hb', hg, r⟩
  · exact .inl h2
  · cases hv
    exact .inr ⟨k, cap, cur, rfl, hb', by rw [Below.heap_setCell _ _ _ _ (fun e => hp ⟨_, rfl, e⟩)]; exact hg, r⟩
theorem St.grown {w W W' : World} {l : List BlkRow} {row : Option Nat} (h : St w l W) (hg : W.grownBy W' row) (hr : ∀ k, row = some k → w.heap.size ≤ k ∧ ∀ x, x ∈ l → x.1 ≠ k) : St w l W' :=
  ⟨h.1.grown hg h.1.size (fun k hk => (hr k hk).1), fun x hx => (h.2.1 x hx).grown hg (fun e => (hr _ e.symm).2 x hx rfl), h.2.2⟩
theorem St.add {w W W' : World} {l : List BlkRow} (h : St w l W) (hb : Below W.heap.size W W') {g : Nat} {t : TypeId} {cs : List Value} (hg : W.heap.size ≤ g) (k : Blk W' g t cs) : St w ((g, t, cs) :: l) W' := ⟨h.1.trans (hb.mono h.1.size), Has.cons k (h.2.1.below hb), by
  rw [List.map_cons, List.nodup_cons]
  exact ⟨h.apart' hg, h.2.2⟩⟩
theorem St.tail {w W : World} {l : List BlkRow} {x : BlkRow} (h : St w (x :: l) W) : St w l W := ⟨h.1, h.2.1.sub (fun y hy => by simp [hy]), by have := h.2.2; rw [List.map_cons, List.nodup_cons] at this; exact this.2⟩
theorem ownTouch {S : Nat → Prop} {w w' : World} {B e z n cap : Nat} {A : Option Addr} {xs : List Value} (h : w.ownsRow B e z (.slice A n cap) n xs) (k : Touch S w w') (hn : ∀ b, OwnB A b → ¬ S b) : w'.ownsRow B e z (.slice A n cap) n xs := by
  refine ⟨h.1, ?_⟩
  rcases h.2 with h2 | ⟨g, c, cur, hv, hb', hgk, r⟩
  · exact .inl h2
  · cases hv
    exact .inr ⟨g, cap, cur, rfl, hb', by rw [k.block g (Array.getElem?_eq_some_iff.1 hgk).1 (hn g ⟨_, rfl, rfl⟩)]; exact hgk, r⟩
theorem blk_type_ne {W : World} {g g' : Nat} {t t' : TypeId} {cs cs' : List Value} (h : Blk W g t cs) (h' : Blk W g' t' cs') (hn : t ≠ t') : g' ≠ g := by
  intro e
  subst e
  unfold Blk at h h'
  rw [h] at h'
  simp only [Option.some.injEq, Obj.cells.injEq] at h'
  exact hn h'.2.1
end Go.Proofs.Ytmebpglkeedaoaa
namespace Go.Proofs.Ytmebpglkeedaoaa
open Go.RowKit Go.WideShapes Go.ChangeShapes
section
variable {H : Type} {enc : TypeId × Value → H} {P : Program}
theorem all_stays (hl : laidOutB P = true) {W W' : World} {sp' : Nat → Bool} : ∀ {ts : List TypeId} {vs : List Value} {ds : List (DataW H)} {ps : List MemPlace}, (ts.all fun t => P.readableRec t && decide (t < P.types.size)) = true →
    DataW.TrodAll enc P W 0 (fun _ => true) true ts vs ds ps → (∀ p ∈ ps, W.sameAt W' p) → (∀ p ∈ ps, sp' p.block = true) → DataW.TrodAll enc P W' 0 sp' true ts vs ds ps
  | [], [], [], _, _, h, _, _ => h
  | t :: ts, v :: vs, d :: ds, _, hr, ⟨p, q, h1, h2, e⟩, hsame, hs => by
    subst e
    simp only [List.all_cons, Bool.and_eq_true, decide_eq_true_eq] at hr
    refine ⟨p, q, WideElems.Trod_stays hl hr.1.1 hr.1.2 h1 (fun x hx => hsame x (List.mem_append_left _ hx)) (fun x hx => hs x (List.mem_append_left _ hx)), ?_, rfl⟩
    exact all_stays hl (by simpa using hr.2) h2 (fun x hx => hsame x (List.mem_append_right _ hx)) (fun x hx => hs x (List.mem_append_right _ hx))
theorem law_post {f : Func} {s : ChangeSpec} {apart fresh handsOn again : Bool} {W W' : World} {args : Array Value} {ds : List (DataW H)} {p : List MemPlace}
    (hl : laidOutB P = true) (hr : (f.params.toList.all fun t => P.readableRec t && decide (t < P.types.size)) = true) (hsv : s.vars = [])
    (hW : DataW.Whole enc P f.params.toList s.vars apart W args.toList ds [] p)
    (hA : DataW.TrodAll enc P W 0 (fun _ => true) true f.params.toList args.toList ds p)
    (hsr : (s.fn H (ds ++ [])).results = [.lit (.bool true)]) (hsa : (s.fn H (ds ++ [])).args = ds) (hsvv : (s.fn H (ds ++ [])).vars = [])
    (hres : ∀ (b : Nat) (sp : Nat → Bool) (hd : Bool), DataW.TrodAll enc P W' b sp hd f.resultTypes.toList ((Value.bool true).resultList f.resultTypes.size) [.lit (.bool true)] [])
    (hb : Below W.heap.size W W')
    (hok : ∀ (j : Nat) (t : TypeId) (r : Value), f.resultTypes[j]? = some t → ((Value.bool true).resultList f.resultTypes.size)[j]? = some r → Value.okWide P W' .any 0 t r) :
    s.post enc P f apart fresh handsOn again W args (.bool true) W' := by
  have hlt : ∀ x ∈ p, x.block < W.heap.size := fun x hx => hW.lt x hx
  have hargs : ∀ sp : Nat → Bool, (∀ x ∈ p, sp x.block = true) → DataW.TrodAll enc P W' 0 sp true f.params.toList args.toList (s.fn H (ds ++ [])).args p := fun sp hsp => by
    rw [hsa]
    exact all_stays hl hr hA (fun x hx => hb.same (hlt x hx)) hsp
  have hvars : ∀ sp : Nat → Bool, DataW.TrodVars enc P W' sp s.vars (s.fn H (ds ++ [])).vars [] := fun sp => by rw [hsv, hsvv]; rfl
  have hres' : ∀ (b : Nat) (sp : Nat → Bool) (hd : Bool), DataW.TrodAll enc P W' b sp hd f.resultTypes.toList ((Value.bool true).resultList f.resultTypes.size) (s.fn H (ds ++ [])).results [] := fun b sp hd => by rw [hsr]; exact hres b sp hd
  have hold : ∀ x ∈ p, (fun b => decide (b < W.heap.size)) x.block = true := fun x hx => by simpa using hlt x hx
  refine ⟨ds, [], p, [], p, [], hW, hres' _ _ _, hargs _ hold, hvars _, World.keptBut_mono (fun x hx => ⟨hx, Or.inr (by simpa using hx)⟩) (hb.frame (· ∈ p)), fun _ => ?_⟩
  · obtain ⟨_, _, _, _, _, hz, hn⟩ := hW
    refine ⟨hok, _, _, ([] ++ p) ++ [], ⟨[] ++ p, [], trodAll_append (hargs _ (fun _ _ => rfl)) (hres' _ _ _), hvars _, rfl, ?_, ?_⟩, ?_⟩
    · intro b off hp
      have hin : MemPlace.cell b off ∈ p := by simpa using hp
      rw [hb.frozen (hlt _ hin)]
      exact hz b off hin
    · intro ha
      simpa using hn ha
    · intro x hx _
      simpa using hx
end
end Go.Proofs.Ytmebpglkeedaoaa
namespace Go.Proofs.Ytmebpglkeedaoaa
open Go.RowKit Go.WideShapes Go.ChangeShapes
section
variable {H : Type} {enc : TypeId × Value → H} {P : Program} {w : World} {base : Nat} {spare : Nat → Bool} {held : Bool}
end
end Go.Proofs.Ytmebpglkeedaoaa
namespace Go.Proofs.Ytmebpglkeedaoaa
open Go.RowKit Go.WideShapes Go.ChangeShapes Go.Deep
inductive Sh where
  | nil
  | i (k : IntKind) (r : Sh)
  | b (r : Sh)
  | s (sz : Nat) (es : Sh) (r : Sh)
namespace Sh
def app : Sh → Sh → Sh
  | nil, t => t
  | i k r, t => i k (app r t)
  | b r, t => b (app r t)
  | s sz es r, t => s sz es (app r t)
def len : Sh → Nat
  | nil => 0
  | i _ r => len r + 1
  | b r => len r + 1
  | s _ _ r => len r + 1
theorem len_app : ∀ a b : Sh, (app a b).len = a.len + b.len
  | nil, _ => by simp [app, len]
  | i _ r, t => by simp [app, len, len_app r t]; omega
  | b r, t => by simp [app, len, len_app r t]; omega
  | s _ _ r, t => by simp [app, len, len_app r t]; omega
end Sh
def Rd (w : World) : Sh → List Value → Prop
  | .nil, l => l = []
  | .i k r, l => ∃ n vs, l = .int k n :: vs ∧ (Lit.int k n).wf = true ∧ Rd w r vs
  | .b r, l => ∃ b vs, l = .bool b :: vs ∧ Rd w r vs
  | .s sz es r, l => ∃ v vs, l = v :: vs ∧ Rd w r vs ∧ (v = .slice none 0 0 ∨ ∃ a len cap, v = .slice (some a) len cap ∧ len ≤ cap ∧ cap ≤ maxLen ∧
      ∀ i, i < len → ∃ cs, cs.length = sz ∧ (∀ j u, cs[j]? = some u → w.cell? ((a.add (i * sz)).add j) = some u) ∧ Rd w es cs)
theorem rd_app {w : World} : ∀ {s t : Sh} {l m : List Value}, Rd w s l → Rd w t m → Rd w (s.app t) (l ++ m)
  | .nil, _, _, _, h, h' => by
    have : _ = [] := h
    subst this
    exact h'
  | .i _ _, _, _, _, ⟨n, vs, e, hw, h⟩, h' => ⟨n, vs ++ _, by rw [e]; rfl, hw, rd_app h h'⟩
  | .b _, _, _, _, ⟨n, vs, e, h⟩, h' => ⟨n, vs ++ _, by rw [e]; rfl, rd_app h h'⟩
  | .s _ _ _, _, _, _, ⟨v, vs, e, h, hs⟩, h' => ⟨v, vs ++ _, by rw [e]; rfl, rd_app h h', hs⟩
def shFields (g : TypeId → Option Sh) : List Field → Nat → Option Sh
  | [], _ => some .nil
  | f :: fs, off => if f.offset = off then
      match g f.type with
      | some ks => match shFields g fs (off + ks.len) with
        | some r => some (ks.app r)
        | none => none
      | none => none
    else none
def shTimes (ks : Sh) : Nat → Sh
  | 0 => .nil
  | n + 1 => ks.app (shTimes ks n)
def shK (P : Program) : Nat → TypeId → Option Sh
  | 0, _ => none
  | f + 1, t =>
    let r := match P.underlying t with
      | some (.int k) => some (Sh.i k .nil)
      | some .bool => some (Sh.b .nil)
      | some (.slice e) => match shK P f e with
        | some es => some (Sh.s (P.cellsOf e) es .nil)
        | none => none
      | some (.struct fs) => shFields (shK P f) fs.toList 0
      | some (.array n e) => match shK P f e with
        | some ks => some (shTimes ks n)
        | none => none
      | _ => none
    match r with
    | some ks => if ks.len = P.cellsOf t then some ks else none
    | none => none
section
variable {H : Type} {enc : TypeId × Value → H} {P : Program} {w : World} {base : Nat} {spare : Nat → Bool} {held : Bool}
theorem shFields_open (g : TypeId → Option Sh) (n : Nat)
    (hg : ∀ t ks, g t = some ks → ks.len = P.cellsOf t ∧ ∀ cs x, DataW.trod enc P w base spare held n t cs = some x → Rd w ks cs) :
    ∀ (fs : List Field) (off : Nat) (ks : Sh) (cs : List Value), shFields g fs off = some ks → cs.length = off + ks.len →
      (∀ f ∈ fs, ∃ x, DataW.trod enc P w base spare held n f.type ((cs.drop f.offset).take (P.cellsOf f.type)) = some x) → Rd w ks (cs.drop off)
  | [], off, ks, cs, h, hl, _ => by
    simp only [shFields, Option.some.injEq] at h
    subst h
    rw [List.drop_eq_nil_of_le (by simp [Sh.len] at hl; omega)]
    rfl
  | f :: fs, off, ks, cs, h, hl, hx => by
    unfold shFields at h
    split at h
    · rename_i ho
      split at h
      · rename_i k1 hk1
        split at h
        · rename_i k2 hk2
          simp only [Option.some.injEq] at h
          subst h
          obtain ⟨x, hx0⟩ := hx f (by simp)
          obtain ⟨hlen, hop⟩ := hg _ _ hk1
          have h1 := hop _ _ hx0
          rw [ho, ← hlen] at h1
          have h2 := shFields_open g n hg fs (off + k1.len) k2 cs hk2 (by rw [Sh.len_app] at hl; omega) (fun f' hf' => hx f' (by simp [hf']))
          have := rd_app h1 h2
          rw [← List.drop_drop] at this
          rwa [List.take_append_drop] at this
        · cases h
      · cases h
    · cases h
theorem shTimes_len (ks : Sh) : ∀ n, (shTimes ks n).len = n * ks.len
  | 0 => by simp [shTimes, Sh.len]
  | n + 1 => by rw [shTimes, Sh.len_app, shTimes_len ks n, Nat.add_mul]; omega
theorem shTimes_open {ks : Sh} {c : Nat} (hc : ks.len = c) : ∀ (m i : Nat) (cs : List Value), cs.length = (i + m) * c →
    (∀ j, j < m → Rd w ks ((cs.drop ((i + j) * c)).take c)) → Rd w (shTimes ks m) (cs.drop (i * c))
  | 0, i, cs, hl, _ => by
    rw [List.drop_eq_nil_of_le (by simp at hl; omega)]
    rfl
  | m + 1, i, cs, hl, h => by
    have h1 := h 0 (by omega)
    have h2 := shTimes_open hc m (i + 1) cs (by rw [hl]; congr 1; omega) (fun j hj => by
      have := h (j + 1) (by omega)
      rwa [show i + (j + 1) = i + 1 + j from by omega] at this)
    have := rd_app h1 h2
    rw [show (i + 1) * c = (i + 0) * c + c from by rw [Nat.add_mul]; simp, ← List.drop_drop, List.take_append_drop] at this
    show Rd w (ks.app (shTimes ks m)) _
    simpa using this
theorem sh_open : ∀ (fuel : Nat) (t : TypeId) (ks : Sh), shK P fuel t = some ks →
    ks.len = P.cellsOf t ∧ ∀ (n : Nat) (cs : List Value) (x : DataW H × List MemPlace), DataW.trod enc P w base spare held n t cs = some x → Rd w ks cs
  | 0, _, _, h => by cases h
  | f + 1, t, ks, h => by
    have hrec := fun t' ks' (h' : shK P f t' = some ks') => sh_open f t' ks' h'
    unfold shK at h
    simp only at h
    split at h
    · rename_i r hr
      split at h
      · rename_i hlen
        simp only [Option.some.injEq] at h
        subst h
        refine ⟨hlen, fun n cs x hx => ?_⟩
        split at hr
        · rename_i k hu
          simp only [Option.some.injEq] at hr
          subst hr
          obtain ⟨m, rfl, _, hwf⟩ := DataW.trod_int hu hx
          exact ⟨m, [], rfl, hwf, rfl⟩
        · rename_i hu
          simp only [Option.some.injEq] at hr
          subst hr
          obtain ⟨b, rfl, _⟩ := DataW.trod_bool hu hx
          exact ⟨b, [], rfl, rfl⟩
        · rename_i e hu
          split at hr
          · rename_i es hes
            simp only [Option.some.injEq] at hr
            subst hr
            rcases open_slice hu hx with ⟨rfl, _⟩ | ⟨a, len, cap, m, n', D, Pl, rfl, _, hl, hm, hmm, _, hi⟩
            · exact ⟨_, [], rfl, rfl, .inl rfl⟩
            · refine ⟨_, [], rfl, rfl, .inr ⟨a, len, cap, rfl, hl, hm, fun i hil => ?_⟩⟩
              have hlm : len ≤ m := by rw [hmm]; split <;> omega
              obtain ⟨cs', hc, ht⟩ := hi i (by omega)
              obtain ⟨_, hcl, hat⟩ := World.cells?_some hc
              refine ⟨cs', hcl, fun j u hj => ?_, (hrec e es hes).2 n' _ _ ht⟩
              have hjl : j < cs'.length := (List.getElem?_eq_some_iff.1 hj).1
              rw [hat j (by omega), hj]
          · cases hr
        · rename_i fs hu
          obtain ⟨xs, m, _, _, hcl, hxl, hf⟩ := DataW.trod_struct hu hx
          have := shFields_open (enc := enc) (P := P) (w := w) (base := base) (spare := spare) (held := held) (shK P f) m (fun t' ks' h' => ⟨(hrec t' ks' h').1, fun cs x => (hrec t' ks' h').2 m cs x⟩) fs.toList 0 r cs hr (by omega) (fun fd hfd => by
            obtain ⟨i, hi, he⟩ := List.getElem_of_mem hfd
            have hi' : fs[i]? = some fd := by
              rw [← he]
              simp at hi
              simp [hi]
            have h2 := hf i fd hi'
            have hlt : i < xs.length := by simp at hi; omega
            rw [List.getElem?_eq_getElem hlt] at h2
            exact ⟨_, h2⟩)
          simpa using this
        · rename_i nn e hu
          split at hr
          · rename_i ke hke
            simp only [Option.some.injEq] at hr
            subst hr
            obtain ⟨xs, m, _, _, hcl, hxl, hf⟩ := DataW.trod_array hu hx
            obtain ⟨hel, hop⟩ := hrec e ke hke
            have hcs : cs.length = (0 + nn) * P.cellsOf e := by
              rw [hcl, ← hlen, shTimes_len, hel, Nat.zero_add]
            have := shTimes_open (w := w) hel nn 0 cs hcs (fun j hj => by
              have h2 := hf j hj
              have hlt : j < xs.length := by omega
              rw [List.getElem?_eq_getElem hlt] at h2
              rw [Nat.zero_add]
              exact hop m _ _ h2)
            simpa using this
          · cases hr
        · cases hr
      · cases h
    · cases h
theorem sh_agg {r : Reach} {b0 fuel : Nat} {t : TypeId} {fs : Array Field} {ks : Sh} {v : Value} {d : DataW H} {p : List MemPlace} (hs : P.underlying t = some (.struct fs)) (hk : shK P fuel t = some ks)
    (hv : Value.okWide P w r b0 t v) (h : DataW.Trod enc P w base spare held t v d p) : ∃ l, v = .agg ⟨l⟩ ∧ Rd w ks l := by
  obtain ⟨cs, rfl, _⟩ := okWide_struct hs hv
  obtain ⟨n, hn⟩ := h
  obtain ⟨l⟩ := cs
  exact ⟨l, rfl, (sh_open fuel t ks hk).2 n _ _ hn⟩
end
theorem choose_list {α : Type} {n : Nat} {Q : Nat → α → Prop} (h : ∀ i, i < n → ∃ x, Q i x) : ∃ l : List α, l.length = n ∧ ∀ i x, l[i]? = some x → Q i x := by
  induction n with
  | zero => exact ⟨[], rfl, fun i x hx => by simp at hx⟩
  | succ n ih =>
    obtain ⟨l, hl, hq⟩ := ih (fun i hi => h i (by omega))
    obtain ⟨x, hx⟩ := h n (by omega)
    refine ⟨l ++ [x], by simp [hl], fun i y hy => ?_⟩
    by_cases hi : i < l.length
    · rw [List.getElem?_append_left hi] at hy
      exact hq i y hy
    · rw [List.getElem?_append_right (by omega)] at hy
      have h0 : i - l.length = 0 := by
        rcases Nat.eq_zero_or_pos (i - l.length) with h0 | h0
        · exact h0
        · rw [List.getElem?_eq_none (by simp; omega)] at hy; cases hy
      rw [h0] at hy
      simp at hy
      subst hy
      obtain rfl : i = n := by omega
      exact hx
theorem add_zero' (a : Addr) : a.add 0 = a := rfl
end Go.Proofs.Ytmebpglkeedaoaa
namespace Go.Proofs.Ytmebpglkeedaoaa
namespace Dp
structure Arc where
  fr : Int
  «to» : Int
  cap : Int
  cost : Int
  deriving Inhabited, DecidableEq
structure Net where
  sup : List Int
  arcs : List Arc
def inB (x lo hi : Int) : Bool := decide (lo ≤ x ∧ x ≤ hi)
def arcOk (n : Nat) (a : Arc) : Bool := decide ((0 ≤ a.fr ∧ a.fr < n) ∧ (0 ≤ a.to ∧ a.to < n) ∧ a.fr ≠ a.to ∧ (0 ≤ a.cap ∧ a.cap ≤ 1048576) ∧ (-1048576 ≤ a.cost ∧ a.cost ≤ 1048576))
def supOk (x : Int) : Bool := decide (-268435456 ≤ x ∧ x ≤ 268435456)
def manyB (N : Net) : Bool := decide (N.sup.length < 1 ∨ 1024 < N.sup.length ∨ 2048 < N.arcs.length)
def sum : List Int → Int
  | [] => 0
  | x :: l => x + sum l
def abs (x : Int) : Int := max x (-x)
def okB (N : Net) : Bool := N.sup.all supOk && (N.arcs.all (arcOk N.sup.length) && (decide (sum N.sup = 0) && decide (sum (N.sup.map abs) ≤ 268435456)))
def chE (N : Net) : Int := if manyB N = true then 6 else if okB N = true then 0 else 2
theorem sum_append : ∀ a b : List Int, sum (a ++ b) = sum a + sum b
  | [], b => by simp [sum]
  | x :: a, b => by simp [sum, sum_append a b]; omega
theorem sum_take (l : List Int) (k : Nat) (h : k < l.length) : sum (l.take (k + 1)) = sum (l.take k) + l.getD k 0 := by
  rw [List.take_succ_eq_append_getElem h, sum_append, List.getD_eq_getElem?_getD, List.getElem?_eq_getElem h]
  simp [sum]
theorem sum_bd {B : Int} (hB : 0 ≤ B) : ∀ (l : List Int), (∀ x, x ∈ l → -B ≤ x ∧ x ≤ B) → -(B * l.length) ≤ sum l ∧ sum l ≤ B * l.length
  | [], _ => by simp [sum]
  | x :: l, h => by
    have h1 := h x (by simp)
    have h2 := sum_bd hB l (fun y hy => h y (by simp [hy]))
    simp only [sum, List.length_cons]
    have : B * ((l.length + 1 : Nat) : Int) = B * l.length + B := by rw [Int.natCast_add, Int.mul_add]; simp
    omega
theorem sum_nonneg : ∀ (l : List Int), (∀ x, x ∈ l → 0 ≤ x) → 0 ≤ sum l
  | [], _ => by simp [sum]
  | x :: l, h => by
    have h1 := h x (by simp)
    have h2 := sum_nonneg l (fun y hy => h y (by simp [hy]))
    simp only [sum]
    omega
theorem getD_map (f : Int → Int) (l : List Int) (k : Nat) (h : k < l.length) : (l.map f).getD k 0 = f (l.getD k 0) := by
  simp [List.getD_eq_getElem?_getD, h]
end Dp
end Go.Proofs.Ytmebpglkeedaoaa
namespace Go.Proofs.Ytmebpglkeedaoaa
open Go.RowKit Dp
def IntsAt (w : World) (A : Option Addr) (xs : List Int) : Prop :=
  ∀ i, i < xs.length → ∃ ad, A = some ad ∧ ad.block < w.heap.size ∧ w.cell? (ad.add i) = some (.int .i64 (xs.getD i 0))
theorem IntsAt.below {w w1 : World} {A : Option Addr} {l : List Int} (h : IntsAt w A l) {B : Nat} (hb : Below B w w1) (hB : w.heap.size ≤ B) : IntsAt w1 A l := by
  intro i hi
  obtain ⟨ad, e, hlt, c0⟩ := h i hi
  exact ⟨ad, e, Nat.lt_of_lt_of_le hlt hb.size, (hb.cell (by rw [block_add]; omega)).trans c0⟩
theorem ints_of {w : World} {v : Value} (h : v = .slice none 0 0 ∨ ∃ a len cap, v = .slice (some a) len cap ∧ len ≤ cap ∧ cap ≤ maxLen ∧
      ∀ i, i < len → ∃ cs, cs.length = 1 ∧ (∀ j u, cs[j]? = some u → w.cell? ((a.add (i * 1)).add j) = some u) ∧ Rd w (.i .i64 .nil) cs) :
    ∃ (A : Option Addr) (xs : List Int) (cap : Nat), v = .slice A xs.length cap ∧ xs.length ≤ cap ∧ cap ≤ 9223372036854775807 ∧ IntsAt w A xs := by
  rcases h with rfl | ⟨a, len, cap, rfl, hl, hm, hi⟩
  · exact ⟨none, [], 0, rfl, Nat.le_refl _, by omega, fun i hi => by simp at hi⟩
  · obtain ⟨xs, hbl, hbs⟩ := choose_list (α := Int) (n := len) (Q := fun i x => w.cell? ((a.add (i * 1)).add 0) = some (.int .i64 x)) (fun i hil => by
      obtain ⟨cs, _, hc, n0, _, rfl, _, rfl⟩ := hi i hil
      exact ⟨n0, hc 0 _ rfl⟩)
    refine ⟨some a, xs, cap, by rw [hbl], by omega, by unfold maxLen at hm; omega, fun i hi => ⟨a, rfl, ?_⟩⟩
    have hg : xs[i]? = some (xs.getD i 0) := by rw [List.getD_eq_getElem?_getD, List.getElem?_eq_getElem hi]; rfl
    have h0 := hbs i _ hg
    rw [add_zero', Nat.mul_one] at h0
    have hb := World.block_lt_of_cell? _ _ h0
    rw [block_add] at hb
    exact ⟨hb, h0⟩
def ArcsAt (w : World) (A : Option Addr) (l : List Arc) : Prop :=
  ∀ i, i < l.length → ∃ ad, A = some ad ∧ ad.block < w.heap.size ∧ w.cell? (ad.add (i * 4)) = some (.int .i64 (l.getD i default).fr) ∧ w.cell? ⟨(ad.add (i * 4)).block, (ad.add (i * 4)).off + 1, none⟩ = some (.int .i64 (l.getD i default).to) ∧ w.cell? ⟨(ad.add (i * 4)).block, (ad.add (i * 4)).off + 2, none⟩ = some (.int .i64 (l.getD i default).cap) ∧ w.cell? ⟨(ad.add (i * 4)).block, (ad.add (i * 4)).off + 3, none⟩ = some (.int .i64 (l.getD i default).cost)
theorem ArcsAt.below {w w1 : World} {A : Option Addr} {l : List Arc} (h : ArcsAt w A l) {B : Nat} (hb : Below B w w1) (hB : w.heap.size ≤ B) : ArcsAt w1 A l := by
  intro i hi
  obtain ⟨ad, e, hlt, c0, c1, c2, c3⟩ := h i hi
  have hbl : (ad.add (i * 4)).block < B := by rw [block_add]; omega
  exact ⟨ad, e, Nat.lt_of_lt_of_le hlt hb.size, (hb.cell hbl).trans c0, (hb.cell (p := ⟨_, _, none⟩) hbl).trans c1, (hb.cell (p := ⟨_, _, none⟩) hbl).trans c2, (hb.cell (p := ⟨_, _, none⟩) hbl).trans c3⟩
theorem arcs_of {w : World} {v : Value} (h : v = .slice none 0 0 ∨ ∃ a len cap, v = .slice (some a) len cap ∧ len ≤ cap ∧ cap ≤ maxLen ∧
      ∀ i, i < len → ∃ cs, cs.length = 4 ∧ (∀ j u, cs[j]? = some u → w.cell? ((a.add (i * 4)).add j) = some u) ∧ Rd w (.i .i64 (.i .i64 (.i .i64 (.i .i64 .nil)))) cs) :
    ∃ (A : Option Addr) (l : List Arc) (cap : Nat), v = .slice A l.length cap ∧ l.length ≤ cap ∧ cap ≤ 9223372036854775807 ∧ ArcsAt w A l := by
  rcases h with rfl | ⟨a, len, cap, rfl, hl, hm, hi⟩
  · exact ⟨none, [], 0, rfl, Nat.le_refl _, by omega, fun i hi => by simp at hi⟩
  · obtain ⟨bs, hbl, hbs⟩ := choose_list (α := Arc) (n := len) (Q := fun i x => w.cell? ((a.add (i * 4)).add 0) = some (.int .i64 x.fr) ∧ w.cell? ((a.add (i * 4)).add 1) = some (.int .i64 x.to) ∧ w.cell? ((a.add (i * 4)).add 2) = some (.int .i64 x.cap) ∧ w.cell? ((a.add (i * 4)).add 3) = some (.int .i64 x.cost)) (fun i hil => by
      obtain ⟨cs, _, hc, n0, _, rfl, _, n1, _, rfl, _, n2, _, rfl, _, n3, _, rfl, _, rfl⟩ := hi i hil
      exact ⟨⟨n0, n1, n2, n3⟩, hc 0 _ rfl, hc 1 _ rfl, hc 2 _ rfl, hc 3 _ rfl⟩)
    refine ⟨some a, bs, cap, by rw [hbl], by omega, by unfold maxLen at hm; omega, fun i hi => ?_⟩
    have hg : bs[i]? = some (bs.getD i default) := by rw [List.getD_eq_getElem?_getD, List.getElem?_eq_getElem hi]; rfl
    obtain ⟨h0, h1, h2, h3⟩ := hbs i _ hg
    rw [add_zero'] at h0
    have hb := World.block_lt_of_cell? _ _ h0
    rw [block_add] at hb
    exact ⟨a, rfl, hb, h0, h1, h2, h3⟩
def NetAt (w : World) (A B : Option Addr) (N : Net) : Prop := IntsAt w A N.sup ∧ ArcsAt w B N.arcs
theorem NetAt.below {w w1 : World} {A B : Option Addr} {N : Net} (h : NetAt w A B N) {b : Nat} (hb : Below b w w1) (hB : w.heap.size ≤ b) : NetAt w1 A B N := ⟨h.1.below hb hB, h.2.below hb hB⟩
end Go.Proofs.Ytmebpglkeedaoaa
namespace Go.Proofs.Ytmebpglkeedaoaa
open Go.RowKit Dp
theorem node_c (i : Int) (b : Nat) (A : Option Addr) (n cap : Nat) (w : World) (hc : w.cell? ⟨b, 0, none⟩ = some (.slice A n cap)) :
    Calls Try.prog 61 #[.int .i64 i, .pointer (some ⟨b, 0, none⟩)] w fun e w' => e = .returned (.bool (decide (0 ≤ i ∧ i < n))) ∧ w = w' := by
  by_cases h0 : 0 ≤ i
  · go_enter Try.func61, Try.ntmps61
    go_wp2
    go_ret
    refine ⟨ret_bool ?_, rfl⟩
    simp [h0]
  · go_enter Try.func61, Try.ntmps61
    go_wp2
    go_ret
    refine ⟨ret_bool ?_, rfl⟩
    simp
    omega
theorem maxTwo (x y : Int) (ts : Array TypeId) (t : TypeId) (w : World) : (Builtin.max_ ts t #[.int .i64 x, .int .i64 y]).run Try.prog w = .ok (.int .i64 (max x y)) w := by
  have h : (Builtin.max_ ts t #[.int .i64 x, .int .i64 y]).run Try.prog w = .ok (.int .i64 (if y > x then y else x)) w := by simp [Builtin.max_]; rfl
  rw [h, ← gmax_eq]
theorem minTwo (x y : Int) (ts : Array TypeId) (t : TypeId) (w : World) : (Builtin.min_ ts t #[.int .i64 x, .int .i64 y]).run Try.prog w = .ok (.int .i64 (min x y)) w := by
  have h : (Builtin.min_ ts t #[.int .i64 x, .int .i64 y]).run Try.prog w = .ok (.int .i64 (if y < x then y else x)) w := by simp [Builtin.min_]; rfl
  rw [h, ← gmin_eq]
theorem getD_all {α : Type} [Inhabited α] {p : α → Bool} {l : List α} : l.all p = true ↔ ∀ j, j < l.length → p (l.getD j default) = true := by
  rw [List.all_eq_true]
  constructor
  · intro h j hj
    have := h l[j] (List.getElem_mem hj)
    simpa [List.getD, hj] using this
  · intro h x hx
    obtain ⟨i, hi, rfl⟩ := List.getElem_of_mem hx
    have := h i hi
    simpa [List.getD, hi] using this
theorem supAll {l : List Int} (k : Nat) (h : ∀ j, j < k → supOk (l.getD j 0) = true) (hk : k ≤ l.length) : (-(268435456 * k : Int) ≤ sum (l.take k) ∧ sum (l.take k) ≤ 268435456 * k) ∧ (0 ≤ sum ((l.map abs).take k) ∧ sum ((l.map abs).take k) ≤ 268435456 * k) := by
  have hm : ∀ x, x ∈ l.take k → -268435456 ≤ x ∧ x ≤ 268435456 := fun x hx => by
    obtain ⟨i, hi, rfl⟩ := List.getElem_of_mem hx
    simp only [List.length_take] at hi
    have hi1 : i < k := by omega
    have hi2 : i < l.length := by omega
    have := h i hi1
    simpa [supOk, List.getD, hi2] using this
  have hl : (l.take k).length = k := by simp; omega
  have h1 := sum_bd (B := 268435456) (by omega) (l.take k) hm
  have h2 := sum_bd (B := 268435456) (by omega) ((l.map abs).take k) (fun x hx => by
    rw [← List.map_take] at hx
    obtain ⟨y, hy, rfl⟩ := List.mem_map.1 hx
    have := hm y hy
    unfold abs; omega)
  have h3 := sum_nonneg ((l.map abs).take k) (fun x hx => by
    rw [← List.map_take] at hx
    obtain ⟨y, hy, rfl⟩ := List.mem_map.1 hx
    unfold abs; omega)
  have hl2 : ((l.map abs).take k).length = k := by simp; omega
  rw [hl] at h1
  rw [hl2] at h2
  omega
theorem chE_no {N : Net} (hm : manyB N = false) (h : okB N = false) : chE N = 2 := by simp [chE, hm, h]
theorem chE_sup {N : Net} (hm : manyB N = false) (k : Nat) (hk : k < N.sup.length) (h : supOk (N.sup.getD k 0) = false) : chE N = 2 := chE_no hm (by
  cases hb : okB N
  · rfl
  · simp only [okB, Bool.and_eq_true] at hb
    have := (getD_all (α := Int)).1 hb.1 k hk
    rw [show (default : Int) = 0 from rfl, h] at this
    cases this)
theorem chE_arc {N : Net} (hm : manyB N = false) (k : Nat) (hk : k < N.arcs.length) (h : arcOk N.sup.length (N.arcs.getD k default) = false) : chE N = 2 := chE_no hm (by
  cases hb : okB N
  · rfl
  · simp only [okB, Bool.and_eq_true] at hb
    have := getD_all.1 hb.2.1 k hk
    rw [h] at this
    cases this)
theorem chE_sum {N : Net} (hm : manyB N = false) (h : ¬ (sum N.sup = 0 ∧ sum (N.sup.map abs) ≤ 268435456)) : chE N = 2 := chE_no hm (by
  cases hb : okB N
  · rfl
  · simp only [okB, Bool.and_eq_true, decide_eq_true_eq] at hb
    exact absurd hb.2.2 h)
theorem chE_ok {N : Net} (hm : manyB N = false) (h1 : ∀ j, j < N.sup.length → supOk (N.sup.getD j 0) = true) (h2 : ∀ j, j < N.arcs.length → arcOk N.sup.length (N.arcs.getD j default) = true) (h3 : sum N.sup = 0) (h4 : sum (N.sup.map abs) ≤ 268435456) : chE N = 0 := by
  have : okB N = true := by
    simp only [okB, Bool.and_eq_true, decide_eq_true_eq]
    exact ⟨(getD_all (α := Int)).2 h1, getD_all.2 h2, h3, h4⟩
  simp [chE, hm, this]
theorem chE_many {N : Net} (h : manyB N = true) : chE N = 6 := by simp [chE, h]
end Go.Proofs.Ytmebpglkeedaoaa
namespace Go.Proofs.Ytmebpglkeedaoaa
open Go.RowKit Dp
set_option maxHeartbeats 2000000 in
set_option maxRecDepth 100000 in
theorem Check_c (A B : Option Addr) (N : Net) (n m cA cB : Nat) (w : World) (hn : n = N.sup.length) (hm : m = N.arcs.length) (hA : n ≤ cA ∧ cA ≤ 9223372036854775807) (hB : m ≤ cB ∧ cB ≤ 9223372036854775807) (hN : NetAt w A B N) :
    Calls Try.prog 20 #[.agg #[.slice A n cA, .slice B m cB]] w fun e w' => e = .returned (.int .i64 (chE N)) ∧ Below w.heap.size w w' := by
  have HN := Lib.hid hn
  have HM := Lib.hid hm
  have HNA := Lib.hid hN
  clear hn hm hN
  by_cases q1 : n < 1
  · have E := Lib.hid (chE_many (N := N) (by simp [manyB, ← HN.out, ← HM.out]; omega))
    go_enter Try.func20, Try.ntmps20
    go_wp2
    go_ret
    exact ⟨ret_int E.out.symm, (Below.refl _ _).alloc (Nat.le_refl _) _⟩
  by_cases q2 : 1024 < n
  · have E := Lib.hid (chE_many (N := N) (by simp [manyB, ← HN.out, ← HM.out]; omega))
    go_enter Try.func20, Try.ntmps20
    go_wp2
    go_ret
    exact ⟨ret_int E.out.symm, (Below.refl _ _).alloc (Nat.le_refl _) _⟩
  by_cases q3 : 2048 < m
  · have E := Lib.hid (chE_many (N := N) (by simp [manyB, ← HN.out, ← HM.out]; omega))
    go_enter Try.func20, Try.ntmps20
    go_wp2
    go_ret
    exact ⟨ret_int E.out.symm, (Below.refl _ _).alloc (Nat.le_refl _) _⟩
  have EM := Lib.hid (show manyB N = false from by simp [manyB, ← HN.out, ← HM.out]; omega)
  have B1 := Lib.hid (Blk.new' w #[.slice A n cA, .slice B m cB] 25)
  have HB1 := Lib.hid ((Below.refl w.heap.size w).alloc (Nat.le_refl _) (.cells #[.slice A n cA, .slice B m cB] 25))
  go_enter Try.func20, Try.ntmps20
  go_wp2_with fail
  generalize w.alloc (.cells #[.slice A n cA, .slice B m cB] 25) = w1 at B1 HB1 ⊢
  have N1 := Lib.hid (HNA.out.below HB1.out (Nat.le_refl _))
  have cA0 := B1.out.cell 0 rfl
  have cB0 := B1.out.cell 1 rfl
  have bA0 := B1.out.lt
  go_loop [3, 4, 6, 29] (fun s a _ i => ∃ k : Nat, k ≤ n ∧ i = .int .i64 k ∧ s = .int .i64 (sum (N.sup.take k)) ∧ a = .int .i64 (sum ((N.sup.map abs).take k)) ∧ Hid (∀ j, j < k → supOk (N.sup.getD j 0) = true)) (fun _ _ _ i => n - (intOf i).toNat)
  case atStart => exact ⟨0, Nat.zero_le _, rfl, rfl, rfl, Lib.hid (fun j hj => absurd hj (Nat.not_lt_zero _))⟩
  case round =>
    obtain ⟨k, hk, rfl, rfl, rfl, HK⟩ := hrel
    have bd := supAll k HK.out (by rw [← HN.out]; exact hk)
    by_cases hlt : k < n
    · obtain ⟨ad, rfl, _, hcell⟩ := N1.out.1 k (by rw [← HN.out]; exact hlt)
      have HS := Lib.hid (And.intro (sum_take N.sup k (by rw [← HN.out]; exact hlt)) (And.intro (sum_take (N.sup.map abs) k (by rw [List.length_map, ← HN.out]; exact hlt)) (getD_map abs N.sup k (by rw [← HN.out]; exact hlt))))
      generalize sum (N.sup.take k) = S at *
      generalize sum ((N.sup.map abs).take k) = T at *
      generalize hx : N.sup.getD k 0 = x at hcell
      have HX := Lib.hid hx
      clear hx
      by_cases h1 : x < -268435456
      · have E := Lib.hid (chE_sup EM.out k (by rw [← HN.out]; exact hlt) (by rw [HX.out]; simp [supOk]; omega))
        go_wp2
        go_ret
        exact ⟨ret_int E.out.symm, HB1.out⟩
      · by_cases h2 : 268435456 < x
        · have E := Lib.hid (chE_sup EM.out k (by rw [← HN.out]; exact hlt) (by rw [HX.out]; simp [supOk]; omega))
          go_wp2
          go_ret
          exact ⟨ret_int E.out.symm, HB1.out⟩
        · have hx1 := fun ts t W => maxTwo x (-x) ts t W
          have hmx : x ≤ 268435456 ∧ -268435456 ≤ x ∧ 0 ≤ max x (-x) ∧ max x (-x) ≤ 268435456 := by omega
          have HMX := Lib.hid (show max x (-x) = abs x from rfl)
          generalize max x (-x) = y at *
          go_wp2
          go_round
          case rel =>
            refine ⟨k + 1, by omega, by go_num, ?_, ?_, Lib.hid (fun j hj => ?_)⟩
            · rw [HS.out.1, HX.out]
            · rw [HS.out.2.1, HS.out.2.2, HX.out, ← HMX.out]
            · by_cases hjk : j < k
              · exact HK.out j hjk
              · obtain rfl : j = k := by omega
                rw [HX.out]; simp [supOk]; omega
          case measure => simp [intOf]; omega
    · obtain rfl : k = n := by omega
      have HS := Lib.hid (And.intro (show N.sup.take k = N.sup from by rw [HN.out]; simp) (show (N.sup.map abs).take k = N.sup.map abs from List.take_of_length_le (by rw [List.length_map, ← HN.out]; exact Nat.le_refl _)))
      go_wp2_with fail
      rw [HS.out.1, HS.out.2]
      rw [HS.out.1, HS.out.2] at bd
      go_loopw [9, 53] (fun _ i wr => ∃ j : Nat, j ≤ m ∧ i = .int .i64 j ∧ Hid (Below w1.heap.size w1 wr ∧ ∀ x, x < j → arcOk N.sup.length (N.arcs.getD x default) = true)) (fun _ i _ => m - (intOf i).toNat)
      case atStart => exact ⟨0, Nat.zero_le _, rfl, Lib.hid ⟨Below.refl _ _, fun j hj => absurd hj (Nat.not_lt_zero _)⟩⟩
      case round =>
        obtain ⟨j, hj, rfl, HJ⟩ := hrel
        by_cases hlt2 : j < m
        · obtain ⟨ad, rfl, hbl, d0, d1, d2, d3⟩ := (N1.out.2.below HJ.out.1 (Nat.le_refl _)) j (by rw [← HM.out]; exact hlt2)
          have HBR := Lib.hid (HB1.out.trans (HJ.out.1.mono HB1.out.size))
          have hbl' : (ad.add (j * 4)).block < wr.heap.size := by rw [block_add]; exact hbl
          have C0 := Lib.hid ((HJ.out.1.cell (p := ⟨w.heap.size, 0, none⟩) B1.out.lt).trans cA0)
          generalize ha : N.arcs.getD j default = ar at *
          obtain ⟨fr, «to», ca, co⟩ := ar
          have HAR := Lib.hid ha
          clear ha
          simp only at d0 d1 d2 d3
          go_wp2_with fail
          have HBX := Lib.hid (HBR.out.alloc HBR.out.size (.cells #[.int .i64 fr, .int .i64 «to», .int .i64 ca, .int .i64 co] 46))
          have HJX := Lib.hid (HJ.out.1.alloc HJ.out.1.size (.cells #[.int .i64 fr, .int .i64 «to», .int .i64 ca, .int .i64 co] 46))
          have BX := Blk.new' wr #[.int .i64 fr, .int .i64 «to», .int .i64 ca, .int .i64 co] 46
          have hcc := (HJX.out.cell (p := ⟨w.heap.size, 0, none⟩) B1.out.lt).trans cA0
          generalize wr.alloc (.cells #[.int .i64 fr, .int .i64 «to», .int .i64 ca, .int .i64 co] 46) = wx at HBX HJX BX hcc ⊢
          have e0 := BX.cell 0 rfl
          have e1 := BX.cell 1 rfl
          have e2 := BX.cell 2 rfl
          have e3 := BX.cell 3 rfl
          clear d0 d1 d2 d3 BX
          have NC := node_c fr _ A k cA _ hcc
          by_cases f1 : 0 ≤ fr ∧ fr < k
          · rw [decide_eq_true f1] at NC
            refine NC.mono ?_
            rintro e w2 ⟨rfl, rfl⟩
            go_wp2_with fail
            have NC := node_c «to» _ A k cA _ hcc
            by_cases f2 : 0 ≤ «to» ∧ «to» < k
            · rw [decide_eq_true f2] at NC
              refine NC.mono ?_
              rintro e w2 ⟨rfl, rfl⟩
              by_cases f3 : fr = «to»
              · have E := Lib.hid (chE_arc EM.out j (by rw [← HM.out]; exact hlt2) (by rw [HAR.out, ← HN.out]; simp [arcOk]; omega))
                go_wp2
                go_ret
                exact ⟨ret_int E.out.symm, HBX.out⟩
              by_cases f4 : ca < 0
              · have E := Lib.hid (chE_arc EM.out j (by rw [← HM.out]; exact hlt2) (by rw [HAR.out, ← HN.out]; simp [arcOk]; omega))
                go_wp2
                go_ret
                exact ⟨ret_int E.out.symm, HBX.out⟩
              by_cases f5 : 1048576 < ca
              · have E := Lib.hid (chE_arc EM.out j (by rw [← HM.out]; exact hlt2) (by rw [HAR.out, ← HN.out]; simp [arcOk]; omega))
                go_wp2
                go_ret
                exact ⟨ret_int E.out.symm, HBX.out⟩
              by_cases f6 : co < -1048576
              · have E := Lib.hid (chE_arc EM.out j (by rw [← HM.out]; exact hlt2) (by rw [HAR.out, ← HN.out]; simp [arcOk]; omega))
                go_wp2
                go_ret
                exact ⟨ret_int E.out.symm, HBX.out⟩
              by_cases f7 : 1048576 < co
              · have E := Lib.hid (chE_arc EM.out j (by rw [← HM.out]; exact hlt2) (by rw [HAR.out, ← HN.out]; simp [arcOk]; omega))
                go_wp2
                go_ret
                exact ⟨ret_int E.out.symm, HBX.out⟩
              have f3' : (fr == «to») = false := by simpa using f3
              have F3 := Lib.hid f3
              clear f3
              go_wp2
              go_roundw
              case rel =>
                refine ⟨j + 1, by omega, by go_num, Lib.hid ⟨HJX.out, fun x hx => ?_⟩⟩
                by_cases hjk : x < j
                · exact HJ.out.2 x hjk
                · obtain rfl : x = j := by omega
                  have f3 := F3.out
                  rw [HAR.out, ← HN.out]; simp [arcOk]; omega
              case measure => simp [intOf]; omega
            · rw [decide_eq_false f2] at NC
              refine NC.mono ?_
              rintro e w2 ⟨rfl, rfl⟩
              have E := Lib.hid (chE_arc EM.out j (by rw [← HM.out]; exact hlt2) (by rw [HAR.out, ← HN.out]; simp [arcOk]; omega))
              go_wp2
              go_ret
              exact ⟨ret_int E.out.symm, HBX.out⟩
          · rw [decide_eq_false f1] at NC
            refine NC.mono ?_
            rintro e w2 ⟨rfl, rfl⟩
            have E := Lib.hid (chE_arc EM.out j (by rw [← HM.out]; exact hlt2) (by rw [HAR.out, ← HN.out]; simp [arcOk]; omega))
            go_wp2
            go_ret
            exact ⟨ret_int E.out.symm, HBX.out⟩
        · obtain rfl : j = m := by omega
          have HBR := Lib.hid (HB1.out.trans (HJ.out.1.mono HB1.out.size))
          by_cases g1 : sum N.sup = 0
          · by_cases g2 : 268435456 < sum (N.sup.map abs)
            · have E := Lib.hid (chE_sum EM.out (by omega))
              generalize sum N.sup = S at *
              generalize sum (N.sup.map abs) = T at *
              go_wp2
              go_ret
              exact ⟨ret_int E.out.symm, HBR.out⟩
            · have E := Lib.hid (chE_ok EM.out (fun x hx => HK.out x (by rw [HN.out]; exact hx)) (fun x hx => HJ.out.2 x (by rw [HM.out]; exact hx)) g1 (by omega))
              generalize sum N.sup = S at *
              generalize sum (N.sup.map abs) = T at *
              go_wp2
              go_ret
              exact ⟨ret_int E.out.symm, HBR.out⟩
          · have E := Lib.hid (chE_sum EM.out (by omega))
            generalize sum N.sup = S at *
            generalize sum (N.sup.map abs) = T at *
            go_wp2
            go_ret
            exact ⟨ret_int E.out.symm, HBR.out⟩
end Go.Proofs.Ytmebpglkeedaoaa
namespace Go.Proofs.Ytmebpglkeedaoaa
open Go.RowKit Dp
@[simp, go_sem] theorem Past.cellAdd {W : World} (x : Past W) (a : Addr) (n : Nat) (h : (a.add n).block < W.heap.size) : x.w.cell? (a.add n) = W.cell? (a.add n) := x.far.cell h
theorem within_c (x lo hi : Int) (w : World) :
    Calls Try.prog 60 #[.int .i64 x, .int .i64 lo, .int .i64 hi] w fun e w' => e = .returned (.bool (inB x lo hi)) ∧ w = w' := by
  by_cases h0 : lo ≤ x
  · go_enter Try.func60, Try.ntmps60
    go_wp2
    go_ret
    refine ⟨ret_bool ?_, rfl⟩
    simp [h0, inB]
  · go_enter Try.func60, Try.ntmps60
    go_wp2
    go_ret
    refine ⟨ret_bool ?_, rfl⟩
    simp [inB]
    omega
set_option maxHeartbeats 2000000 in
set_option maxRecDepth 100000 in
theorem CheckR_c (A B : Option Addr) (N : Net) (n m cA cB : Nat) (w : World) (hn : n = N.sup.length) (hm : m = N.arcs.length) (hA : n ≤ cA ∧ cA ≤ 9223372036854775807) (hB : m ≤ cB ∧ cB ≤ 9223372036854775807) (hN : NetAt w A B N) :
    Calls Try.prog 21 #[.agg #[.slice A n cA, .slice B m cB]] w fun e w' => e = .returned (.int .i64 (chE N)) ∧ Below w.heap.size w w' := by
  have HN := Lib.hid hn
  have HM := Lib.hid hm
  have HNA := Lib.hid hN
  clear hn hm hN
  by_cases q1 : n < 1
  · have E := Lib.hid (chE_many (N := N) (by simp [manyB, ← HN.out, ← HM.out]; omega))
    go_enter Try.func21, Try.ntmps21
    go_wp2
    go_ret
    exact ⟨ret_int E.out.symm, (Below.refl _ _).alloc (Nat.le_refl _) _⟩
  by_cases q2 : 1024 < n
  · have E := Lib.hid (chE_many (N := N) (by simp [manyB, ← HN.out, ← HM.out]; omega))
    go_enter Try.func21, Try.ntmps21
    go_wp2
    go_ret
    exact ⟨ret_int E.out.symm, (Below.refl _ _).alloc (Nat.le_refl _) _⟩
  by_cases q3 : 2048 < m
  · have E := Lib.hid (chE_many (N := N) (by simp [manyB, ← HN.out, ← HM.out]; omega))
    go_enter Try.func21, Try.ntmps21
    go_wp2
    go_ret
    exact ⟨ret_int E.out.symm, (Below.refl _ _).alloc (Nat.le_refl _) _⟩
  have EM := Lib.hid (show manyB N = false from by simp [manyB, ← HN.out, ← HM.out]; omega)
  have B1 := Lib.hid (Blk.new' w #[.slice A n cA, .slice B m cB] 25)
  have HB1 := Lib.hid ((Below.refl w.heap.size w).alloc (Nat.le_refl _) (.cells #[.slice A n cA, .slice B m cB] 25))
  go_enter Try.func21, Try.ntmps21
  go_wp2_with fail
  generalize w.alloc (.cells #[.slice A n cA, .slice B m cB] 25) = w1 at B1 HB1 ⊢
  have N1 := Lib.hid (HNA.out.below HB1.out (Nat.le_refl _))
  have bA0 := B1.out.lt
  go_loopw [3, 4, 5] (fun s a i wr => ∃ k : Nat, k ≤ n ∧ i = .int .i64 k ∧ s = .int .i64 (sum (N.sup.take k)) ∧ a = .int .i64 (sum ((N.sup.map abs).take k)) ∧ Hid (Below w1.heap.size w1 wr ∧ ∀ j, j < k → supOk (N.sup.getD j 0) = true)) (fun _ _ i _ => n - (intOf i).toNat)
  case atStart => exact ⟨0, Nat.zero_le _, rfl, rfl, rfl, Lib.hid ⟨Below.refl _ _, fun j hj => absurd hj (Nat.not_lt_zero _)⟩⟩
  case round =>
    obtain ⟨k, hk, rfl, rfl, rfl, HK⟩ := hrel
    have bd := supAll k HK.out.2 (by rw [← HN.out]; exact hk)
    have HBR := Lib.hid (HB1.out.trans (HK.out.1.mono HB1.out.size))
    have cA0 := (HK.out.1.cell (p := ⟨w.heap.size, 0, none⟩) B1.out.lt).trans (B1.out.cell 0 rfl)
    have cB0 := (HK.out.1.cell (p := ⟨w.heap.size, 1, none⟩) B1.out.lt).trans (B1.out.cell 1 rfl)
    have bA1 : w.heap.size < wr.heap.size := Nat.lt_of_lt_of_le bA0 HK.out.1.size
    by_cases hlt : k < n
    · obtain ⟨ad, rfl, hbl, hcell⟩ := (N1.out.1.below HK.out.1 (Nat.le_refl _)) k (by rw [← HN.out]; exact hlt)
      have hbl' : (ad.add k).block < wr.heap.size := by rw [block_add]; exact hbl
      have HS := Lib.hid (And.intro (sum_take N.sup k (by rw [← HN.out]; exact hlt)) (And.intro (sum_take (N.sup.map abs) k (by rw [List.length_map, ← HN.out]; exact hlt)) (getD_map abs N.sup k (by rw [← HN.out]; exact hlt))))
      generalize sum (N.sup.take k) = S at *
      generalize sum ((N.sup.map abs).take k) = T at *
      generalize hx : N.sup.getD k 0 = x at hcell
      have HX := Lib.hid hx
      clear hx
      have WC := within_c x (-268435456) 268435456 wr
      by_cases h1 : -268435456 ≤ x ∧ x ≤ 268435456
      · have e1 : inB x (-268435456) 268435456 = true := by simp [inB, h1]
        rw [e1] at WC
        go_wp2_with fail
        refine WC.mono ?_
        rintro e w2 ⟨rfl, rfl⟩
        have hx1 := fun ts t W => maxTwo x (-x) ts t W
        have hmx : 0 ≤ max x (-x) ∧ max x (-x) ≤ 268435456 := by omega
        have HMX := Lib.hid (show max x (-x) = abs x from rfl)
        generalize max x (-x) = y at *
        have k0 : (0 : Int) ≤ (k : Int) := by omega
        have kx : (k : Int) < (n : Int) := by omega
        go_wp2_with fail
        refine wp_region_past (by kernel_rfl) (by kernel_rfl) ?_
        repeat (go_big_quiet_step (fail))
        refine wpQuiet_nil ?_
        intro xx
        have HXX := Lib.hid xx.far
        generalize xx.w = w4 at HXX ⊢
        go_wp2
        go_roundw
        case rel =>
          refine ⟨k + 1, by omega, by go_num, ?_, ?_, Lib.hid ⟨HK.out.1.trans (HXX.out.mono HK.out.1.size), fun j hj => ?_⟩⟩
          · rw [HS.out.1, HX.out]
          · rw [HS.out.2.1, HS.out.2.2, HX.out, ← HMX.out]
          · by_cases hjk : j < k
            · exact HK.out.2 j hjk
            · obtain rfl : j = k := by omega
              rw [HX.out]; simp [supOk]; omega
        case measure => simp [intOf]; omega
      · have e1 : inB x (-268435456) 268435456 = false := by simp [inB]; omega
        rw [e1] at WC
        have E := Lib.hid (chE_sup EM.out k (by rw [← HN.out]; exact hlt) (by rw [HX.out]; simp [supOk]; omega))
        go_wp2_with fail
        refine WC.mono ?_
        rintro e w2 ⟨rfl, rfl⟩
        go_wp2
        go_ret
        exact ⟨ret_int E.out.symm, HBR.out⟩
    · obtain rfl : k = n := by omega
      have HS := Lib.hid (And.intro (show N.sup.take k = N.sup from by rw [HN.out]; simp) (show (N.sup.map abs).take k = N.sup.map abs from List.take_of_length_le (by rw [List.length_map, ← HN.out]; exact Nat.le_refl _)))
      rw [HS.out.1, HS.out.2]
      rw [HS.out.1, HS.out.2] at bd
      by_cases g1 : sum N.sup = 0
      · by_cases g2 : 268435456 < sum (N.sup.map abs)
        · have E := Lib.hid (chE_sum EM.out (by omega))
          generalize sum N.sup = S at *
          generalize sum (N.sup.map abs) = T at *
          go_wp2
          go_ret
          exact ⟨ret_int E.out.symm, HBR.out⟩
        · have EOK := Lib.hid (fun hh : (∀ x, x < m → arcOk N.sup.length (N.arcs.getD x default) = true) => chE_ok EM.out (fun x hx => HK.out.2 x (by rw [HN.out]; exact hx)) (fun x hx => hh x (by rw [HM.out]; exact hx)) g1 (by omega))
          have HW := Lib.hid HK.out.1
          have N2 := Lib.hid (N1.out.2.below HK.out.1 (Nat.le_refl _))
          have hsb : Hid (sum N.sup = 0) := Lib.hid g1
          clear HK
          generalize sum N.sup = S at *
          generalize sum (N.sup.map abs) = T at *
          subst g1
          generalize hwr : wr = w5 at *
          clear hwr
          go_wp2_with fail
          go_loopw [6, 7] (fun i _ wr => ∃ j : Nat, j ≤ m ∧ i = .int .i64 j ∧ Hid (Below w5.heap.size w5 wr ∧ ∀ x, x < j → arcOk N.sup.length (N.arcs.getD x default) = true)) (fun i _ _ => m - (intOf i).toNat)
          case atStart => exact ⟨0, Nat.zero_le _, rfl, Lib.hid ⟨Below.refl _ _, fun j hj => absurd hj (Nat.not_lt_zero _)⟩⟩
          case round =>
            obtain ⟨j, hj, rfl, HJ⟩ := hrel
            have hcA := (HJ.out.1.cell (p := ⟨w.heap.size, 0, none⟩) bA1).trans cA0
            have hcB := (HJ.out.1.cell (p := ⟨w.heap.size, 1, none⟩) bA1).trans cB0
            have HBJ := Lib.hid (HBR.out.trans (HJ.out.1.mono HBR.out.size))
            clear cA0 cB0
            by_cases hlt2 : j < m
            · obtain ⟨ad, rfl, hbl, d0, d1, d2, d3⟩ := (N2.out.below HJ.out.1 (Nat.le_refl _)) j (by rw [← HM.out]; exact hlt2)
              have hbl' : (ad.add (j * 4)).block < wr.heap.size := by rw [block_add]; exact hbl
              generalize ha : N.arcs.getD j default = ar at *
              obtain ⟨fr, «to», ca, co⟩ := ar
              have HAR := Lib.hid ha
              clear ha
              simp only at d0 d1 d2 d3
              have HBX := Lib.hid (HBJ.out.alloc HBJ.out.size (.cells #[.int .i64 fr, .int .i64 «to», .int .i64 ca, .int .i64 co] 46))
              have HJX := Lib.hid (HJ.out.1.alloc HJ.out.1.size (.cells #[.int .i64 fr, .int .i64 «to», .int .i64 ca, .int .i64 co] 46))
              have BX := Blk.new' wr #[.int .i64 fr, .int .i64 «to», .int .i64 ca, .int .i64 co] 46
              have fcA := (HJX.out.cell (p := ⟨w.heap.size, 0, none⟩) bA1).trans ((HJ.out.1.cell (p := ⟨w.heap.size, 0, none⟩) bA1).symm.trans hcA)
              have e0 := BX.cell 0 rfl
              have e1 := BX.cell 1 rfl
              have e2 := BX.cell 2 rfl
              have e3 := BX.cell 3 rfl
              by_cases f1 : fr < 0
              · have E := Lib.hid (chE_arc EM.out j (by rw [← HM.out]; exact hlt2) (by rw [HAR.out, ← HN.out]; simp [arcOk]; omega))
                go_wp2
                go_ret
                exact ⟨ret_int E.out.symm, HBX.out⟩
              by_cases f2 : (k : Int) ≤ fr
              · have E := Lib.hid (chE_arc EM.out j (by rw [← HM.out]; exact hlt2) (by rw [HAR.out, ← HN.out]; simp [arcOk]; omega))
                go_wp2
                go_ret
                exact ⟨ret_int E.out.symm, HBX.out⟩
              by_cases f3 : «to» < 0
              · have E := Lib.hid (chE_arc EM.out j (by rw [← HM.out]; exact hlt2) (by rw [HAR.out, ← HN.out]; simp [arcOk]; omega))
                go_wp2
                go_ret
                exact ⟨ret_int E.out.symm, HBX.out⟩
              by_cases f4 : (k : Int) ≤ «to»
              · have E := Lib.hid (chE_arc EM.out j (by rw [← HM.out]; exact hlt2) (by rw [HAR.out, ← HN.out]; simp [arcOk]; omega))
                go_wp2
                go_ret
                exact ⟨ret_int E.out.symm, HBX.out⟩
              by_cases f5 : fr = «to»
              · have E := Lib.hid (chE_arc EM.out j (by rw [← HM.out]; exact hlt2) (by rw [HAR.out, ← HN.out]; simp [arcOk]; omega))
                subst f5
                go_wp2
                go_ret
                exact ⟨ret_int E.out.symm, HBX.out⟩
              have f5' : (fr == «to») = false := by simpa using f5
              have F5 := Lib.hid f5
              clear f5
              have W1 := fun W => within_c ca 0 1048576 W
              have W2 := fun W => within_c co (-1048576) 1048576 W
              by_cases f6 : 0 ≤ ca ∧ ca ≤ 1048576
              · rw [show inB ca 0 1048576 = true from by simp [inB, f6]] at W1
                go_wp2_with fail
                refine (W1 _).mono ?_
                rintro e w2 ⟨rfl, rfl⟩
                by_cases f7 : -1048576 ≤ co ∧ co ≤ 1048576
                · rw [show inB co (-1048576) 1048576 = true from by simp [inB, f7]] at W2
                  go_wp2_with fail
                  refine (W2 _).mono ?_
                  rintro e w2 ⟨rfl, rfl⟩
                  go_wp2
                  go_roundw
                  case rel =>
                    refine ⟨j + 1, by omega, by go_num, Lib.hid ⟨HJX.out, fun x hx => ?_⟩⟩
                    by_cases hjk : x < j
                    · exact HJ.out.2 x hjk
                    · obtain rfl : x = j := by omega
                      have f5 := F5.out
                      rw [HAR.out, ← HN.out]; simp [arcOk]; omega
                  case measure => simp [intOf]; omega
                · rw [show inB co (-1048576) 1048576 = false from by simp [inB]; omega] at W2
                  have E := Lib.hid (chE_arc EM.out j (by rw [← HM.out]; exact hlt2) (by rw [HAR.out, ← HN.out]; simp [arcOk]; omega))
                  go_wp2_with fail
                  refine (W2 _).mono ?_
                  rintro e w2 ⟨rfl, rfl⟩
                  go_wp2
                  go_ret
                  exact ⟨ret_int E.out.symm, HBX.out⟩
              · rw [show inB ca 0 1048576 = false from by simp [inB]; omega] at W1
                have E := Lib.hid (chE_arc EM.out j (by rw [← HM.out]; exact hlt2) (by rw [HAR.out, ← HN.out]; simp [arcOk]; omega))
                go_wp2_with fail
                refine (W1 _).mono ?_
                rintro e w2 ⟨rfl, rfl⟩
                go_wp2
                go_ret
                exact ⟨ret_int E.out.symm, HBX.out⟩
            · obtain rfl : j = m := by omega
              have E := Lib.hid (EOK.out HJ.out.2)
              go_wp2
              go_ret
              exact ⟨ret_int E.out.symm, HBJ.out⟩
      · have E := Lib.hid (chE_sum EM.out (by omega))
        generalize sum N.sup = S at *
        generalize sum (N.sup.map abs) = T at *
        go_wp2
        go_ret
        exact ⟨ret_int E.out.symm, HBR.out⟩
end Go.Proofs.Ytmebpglkeedaoaa
namespace Go.Proofs.Ytmebpglkeedaoaa
namespace Dp
def mv (l : List Int) (i : Int) (d : Int) : List Int := l.set i.toNat (l.getD i.toNat 0 + d)
def leftK (N : Net) (fl : List Int) : Nat → List Int
  | 0 => N.sup
  | k + 1 => mv (mv (leftK N fl k) (N.arcs.getD k default).fr (-(fl.getD k 0))) (N.arcs.getD k default).to (fl.getD k 0)
def costK (N : Net) (fl : List Int) : Nat → Int
  | 0 => 0
  | k + 1 => costK N fl k + fl.getD k 0 * (N.arcs.getD k default).cost
def capB (N : Net) (fl : List Int) : Bool := (List.range N.arcs.length).all fun k => decide (0 ≤ fl.getD k 0 ∧ fl.getD k 0 ≤ (N.arcs.getD k default).cap)
def zeroB (l : List Int) : Bool := l.all fun x => decide (x = 0)
def isFlow (N : Net) (fl : List Int) : Bool := decide (fl.length = N.arcs.length) && (capB N fl && zeroB (leftK N fl N.arcs.length))
def coE (N : Net) (fl : List Int) : Int := if chE N = 0 then (if fl.length = N.arcs.length then (if isFlow N fl = true then 0 else 19) else 20) else chE N
def coV (N : Net) (fl : List Int) : Int := if chE N = 0 ∧ isFlow N fl = true then costK N fl N.arcs.length else 0
theorem mv_length (l : List Int) (i d : Int) : (mv l i d).length = l.length := by simp [mv]
theorem leftK_length (N : Net) (fl : List Int) : ∀ k, (leftK N fl k).length = N.sup.length
  | 0 => rfl
  | k + 1 => by simp [leftK, mv_length, leftK_length N fl k]
theorem getD_setI (l : List Int) (i j : Nat) (v : Int) (h : i < l.length) : (l.set i v).getD j 0 = if j = i then v else l.getD j 0 := by
  simp only [List.getD_eq_getElem?_getD, List.getElem?_set]
  by_cases hj : i = j
  · subst hj; simp [h]
  · rw [if_neg hj, if_neg (fun e => hj e.symm)]
theorem mv_bd {l : List Int} {i d B D : Int} (hD : -D ≤ d ∧ d ≤ D) (hi : 0 ≤ i ∧ i < l.length) (h : ∀ j, j < l.length → -B ≤ l.getD j 0 ∧ l.getD j 0 ≤ B) : ∀ j, j < (mv l i d).length → -(B + D) ≤ (mv l i d).getD j 0 ∧ (mv l i d).getD j 0 ≤ B + D := by
  intro j hj
  rw [mv_length] at hj
  have hi' : i.toNat < l.length := by omega
  have h1 := h j hj
  have h2 := h i.toNat hi'
  unfold mv
  rw [getD_setI _ _ _ _ hi']
  split <;> omega
theorem chE_zero {N : Net} (h : chE N = 0) : manyB N = false ∧ okB N = true := by
  unfold chE at h
  split at h
  · omega
  · split at h
    · rename_i h1 h2
      exact ⟨by simpa using h1, h2⟩
    · omega
theorem getD_allA {p : Arc → Bool} {l : List Arc} (h : l.all p = true) (j : Nat) (hj : j < l.length) : p (l.getD j default) = true := by
  rw [List.all_eq_true] at h
  have := h l[j] (List.getElem_mem hj)
  simpa [List.getD, hj] using this
theorem net_len {N : Net} (h : chE N = 0) : 1 ≤ N.sup.length ∧ N.sup.length ≤ 1024 ∧ N.arcs.length ≤ 2048 := by
  have := (chE_zero h).1
  simp [manyB] at this
  cases hs : N.sup with
  | nil => simp [hs] at this
  | cons a l => rw [hs] at this; simp at this ⊢; omega
theorem net_sup {N : Net} (h : chE N = 0) (j : Nat) (hj : j < N.sup.length) : -268435456 ≤ N.sup.getD j 0 ∧ N.sup.getD j 0 ≤ 268435456 := by
  have h2 := (chE_zero h).2
  simp only [okB, Bool.and_eq_true] at h2
  have h3 := h2.1
  rw [List.all_eq_true] at h3
  have := h3 N.sup[j] (List.getElem_mem hj)
  simpa [supOk, List.getD, hj] using this
theorem net_arc {N : Net} (h : chE N = 0) (j : Nat) (hj : j < N.arcs.length) : (0 ≤ (N.arcs.getD j default).fr ∧ (N.arcs.getD j default).fr < N.sup.length) ∧ (0 ≤ (N.arcs.getD j default).to ∧ (N.arcs.getD j default).to < N.sup.length) ∧ (N.arcs.getD j default).fr ≠ (N.arcs.getD j default).to ∧ (0 ≤ (N.arcs.getD j default).cap ∧ (N.arcs.getD j default).cap ≤ 1048576) ∧ (-1048576 ≤ (N.arcs.getD j default).cost ∧ (N.arcs.getD j default).cost ≤ 1048576) := by
  have h2 := (chE_zero h).2
  simp only [okB, Bool.and_eq_true] at h2
  simpa [arcOk] using getD_allA h2.2.1 j hj
theorem leftK_bd {N : Net} {fl : List Int} (h : chE N = 0) : ∀ k : Nat, k ≤ N.arcs.length → (∀ j, j < k → 0 ≤ fl.getD j 0 ∧ fl.getD j 0 ≤ (N.arcs.getD j default).cap) →
    ∀ j, j < N.sup.length → -(268435456 + 2097152 * k : Int) ≤ (leftK N fl k).getD j 0 ∧ (leftK N fl k).getD j 0 ≤ 268435456 + 2097152 * k
  | 0, _, _, j, hj => by simpa [leftK] using net_sup h j hj
  | k + 1, hk, hf, j, hj => by
    have ih := leftK_bd h k (by omega) (fun j hj => hf j (by omega))
    have hl := leftK_length N fl k
    obtain ⟨a1, a2, a3, a4, a5⟩ := net_arc h k (by omega)
    have f1 := hf k (by omega)
    have s1 := mv_bd (l := leftK N fl k) (i := (N.arcs.getD k default).fr) (d := -(fl.getD k 0)) (D := 1048576) (by omega) (by rw [hl]; exact a1) (fun j hj => ih j (by rw [← hl]; exact hj))
    have s2 := mv_bd (i := (N.arcs.getD k default).to) (d := fl.getD k 0) (D := 1048576) (by omega) (by rw [mv_length, hl]; exact a2) s1 j (by rw [mv_length, mv_length, hl]; exact hj)
    simp only [leftK]
    rw [Int.natCast_add]
    omega
theorem costK_bd {N : Net} {fl : List Int} (h : chE N = 0) : ∀ k : Nat, k ≤ N.arcs.length → (∀ j, j < k → 0 ≤ fl.getD j 0 ∧ fl.getD j 0 ≤ (N.arcs.getD j default).cap) →
    -(1099511627776 * k : Int) ≤ costK N fl k ∧ costK N fl k ≤ 1099511627776 * k
  | 0, _, _ => by simp [costK]
  | k + 1, hk, hf => by
    have ih := costK_bd h k (by omega) (fun j hj => hf j (by omega))
    obtain ⟨a1, a2, a3, a4, a5⟩ := net_arc h k (by omega)
    have f1 := hf k (by omega)
    have p1 : fl.getD k 0 * (N.arcs.getD k default).cost ≤ 1048576 * 1048576 := by
      refine Int.le_trans (Int.mul_le_mul_of_nonneg_left a5.2 f1.1) ?_
      exact Int.mul_le_mul_of_nonneg_right (by omega) (by omega)
    have p2 : -(1048576 * 1048576) ≤ fl.getD k 0 * (N.arcs.getD k default).cost := by
      have := Int.mul_le_mul_of_nonneg_left a5.1 f1.1
      have := Int.mul_le_mul_of_nonneg_right (show fl.getD k 0 ≤ 1048576 by omega) (show (0:Int) ≤ 1048576 by omega)
      omega
    simp only [costK]
    rw [Int.natCast_add]
    omega
theorem capB_iff {N : Net} {fl : List Int} : capB N fl = true ↔ ∀ k, k < N.arcs.length → 0 ≤ fl.getD k 0 ∧ fl.getD k 0 ≤ (N.arcs.getD k default).cap := by
  simp only [capB, List.all_eq_true, List.mem_range, decide_eq_true_eq]
theorem zeroB_iff {l : List Int} : zeroB l = true ↔ ∀ j, j < l.length → l.getD j 0 = 0 := by
  simp only [zeroB, List.all_eq_true, decide_eq_true_eq]
  constructor
  · intro h j hj
    have := h l[j] (List.getElem_mem hj)
    simpa [List.getD, hj] using this
  · intro h x hx
    obtain ⟨i, hi, rfl⟩ := List.getElem_of_mem hx
    simpa [List.getD, hi] using h i hi
theorem co_ch {N : Net} {fl : List Int} (h : chE N ≠ 0) : coE N fl = chE N ∧ coV N fl = 0 := by simp [coE, coV, h]
theorem co_len {N : Net} {fl : List Int} (h : chE N = 0) (hl : fl.length ≠ N.arcs.length) : coE N fl = 20 ∧ coV N fl = 0 := by simp [coE, coV, h, hl, isFlow]
theorem co_no {N : Net} {fl : List Int} (h : chE N = 0) (hl : fl.length = N.arcs.length) (hf : isFlow N fl = false) : coE N fl = 19 ∧ coV N fl = 0 := by simp [coE, coV, h, hl, hf]
theorem co_yes {N : Net} {fl : List Int} (h : chE N = 0) (hl : fl.length = N.arcs.length) (hf : isFlow N fl = true) : coE N fl = 0 ∧ coV N fl = costK N fl N.arcs.length := by simp [coE, coV, h, hl, hf]
theorem isFlow_cap {N : Net} {fl : List Int} (k : Nat) (hk : k < N.arcs.length) (h : ¬ (0 ≤ fl.getD k 0 ∧ fl.getD k 0 ≤ (N.arcs.getD k default).cap)) : isFlow N fl = false := by
  cases hb : isFlow N fl
  · rfl
  · simp only [isFlow, Bool.and_eq_true] at hb
    exact absurd (capB_iff.1 hb.2.1 k hk) h
theorem isFlow_left {N : Net} {fl : List Int} (j : Nat) (hj : j < N.sup.length) (h : (leftK N fl N.arcs.length).getD j 0 ≠ 0) : isFlow N fl = false := by
  cases hb : isFlow N fl
  · rfl
  · simp only [isFlow, Bool.and_eq_true] at hb
    exact absurd (zeroB_iff.1 hb.2.2 j (by rw [leftK_length]; exact hj)) h
theorem isFlow_len {N : Net} {fl : List Int} (hl : fl.length ≠ N.arcs.length) : isFlow N fl = false := by simp [isFlow, hl]
theorem isFlow_yes {N : Net} {fl : List Int} (hl : fl.length = N.arcs.length) (h1 : ∀ k, k < N.arcs.length → 0 ≤ fl.getD k 0 ∧ fl.getD k 0 ≤ (N.arcs.getD k default).cap) (h2 : ∀ j, j < N.sup.length → (leftK N fl N.arcs.length).getD j 0 = 0) : isFlow N fl = true := by
  simp only [isFlow, Bool.and_eq_true, decide_eq_true_eq]
  exact ⟨hl, capB_iff.2 h1, zeroB_iff.2 (fun j hj => h2 j (by rw [leftK_length] at hj; exact hj))⟩
end Dp
end Go.Proofs.Ytmebpglkeedaoaa
namespace Go.Proofs.Ytmebpglkeedaoaa
open Go.RowKit Dp
theorem info2 : (Try.prog.info? 2).map (fun i => (i.zero, i.size, i.bytes)) = some (some (.int .i64 0), 1, 8) := by kernel_rfl
theorem info_parts {P : Program} {t : TypeId} {z : Option Value} {a b : Nat} (h : (P.info? t).map (fun i => (i.zero, i.size, i.bytes)) = some (z, a, b)) : ∃ i, P.info? t = some i ∧ i.zero = z ∧ i.size = a ∧ i.bytes = b := by
  cases hi : P.info? t with
  | none => rw [hi] at h; cases h
  | some i =>
    rw [hi] at h
    simp only [Option.map_some, Option.some.injEq, Prod.mk.injEq] at h
    exact ⟨i, rfl, h.1, h.2.1, h.2.2⟩
def OwnI (B : Nat) (W : World) (g c : Nat) (xs : List Int) : Prop := W.ownsRow B 2 1 (.slice (some ⟨g, 0, none⟩) xs.length c) xs.length (xs.map (Value.int .i64))
set_option maxHeartbeats 1000000 in
set_option maxRecDepth 100000 in
theorem clone_c (A : Option Addr) (xs : List Int) (n cap : Nat) (w : World) (hn : n = xs.length) (h1 : 1 ≤ n) (h2 : n ≤ 4096) (hA : IntsAt w A xs) :
    Calls Try.prog 57 #[.slice A n cap] w fun e w' => ∃ g c, e = .returned (.slice (some ⟨g, 0, none⟩) n c) ∧ Below w.heap.size w w' ∧ w.heap.size ≤ g ∧ g < w'.heap.size ∧ OwnI w.heap.size w' g c xs := by
  obtain ⟨ad, rfl, hbl, hc0⟩ := hA 0 (by omega)
  have HA := Lib.hid hA
  have HN := Lib.hid hn
  have hsrc : SrcRow (w.alloc (.cells #[] 2)) (some ad) n (xs.map (Value.int .i64)) := .inr ⟨ad, rfl, fun j u hu => by
    have hj : j < xs.length := by
      rcases Nat.lt_or_ge j xs.length with h | h
      · exact h
      · rw [List.getElem?_eq_none (by simpa using h)] at hu; cases hu
    obtain ⟨ad', e, hb, hc⟩ := HA.out j hj
    cases e
    have hu' : u = .int .i64 (xs.getD j 0) := by
      rw [List.getElem?_map, List.getElem?_eq_getElem hj] at hu
      simp only [Option.map_some, Option.some.injEq] at hu
      rw [← hu, List.getD_eq_getElem?_getD, List.getElem?_eq_getElem hj]; rfl
    rw [hu']
    exact (((Below.refl w.heap.size w).alloc (Nat.le_refl _) (.cells #[] 2)).cell (by rw [block_add]; exact hb)).trans hc⟩
  have HS := Lib.hid hsrc
  clear hsrc hA hn hc0
  obtain ⟨i0, hi, hz0, hz1, hz2⟩ := info_parts info2
  have qT : ∀ w : World, (binOp .eql 22 (.slice (some ad) n cap) (.slice none 0 0)).run Try.prog w = .ok (.bool false) w := fun w => Lib.run_eql_slice_nil w 22 2 (some ad) n cap 0 0 Try.underlying22
  go_enter Try.func57, Try.ntmps57
  go_wp2_with (at_builtin; refine wpList_append_any (.tmp 5) (.tmp 6) 22 rfl rfl w.heap.size 2 i0 (.int .i64 0) 1 8 Try.underlying22 hi hz0 hz1 hz2 rfl (by decide) (some ⟨w.heap.size, 0, none⟩) 0 0 [] (by rfl) (World.ownsRow_lit w #[] 0 (Nat.le_refl _) (Nat.zero_le _) rfl) (some ad) n cap (xs.map (Value.int .i64)) (by rfl) (by rw [HN.out]; simp) HS.out (by simp [Value.oneCell']) (by unfold maxLen; omega) (by omega) (by simp) ?_; intro A3 c3 w2 hown2 hgrow2 hat2; have HO2 := Lib.hid hown2; have HG2 := Lib.hid hgrow2; have HAT2 := Lib.hid hat2; clear hown2 hgrow2 hat2)
  go_ret
  obtain ⟨g, cap', e, z1, z2⟩ := HO2.out.form (by omega)
  cases e
  refine ⟨g, c3, rfl, ?_, z1, z2, ?_⟩
  · refine ((Below.refl w.heap.size w).alloc (Nat.le_refl _) (.cells #[] 2)).grown HG2.out (by simp) ?_
    intro k hk
    cases hk
    exact Nat.le_refl _
  · have := HO2.out
    rw [HN.out] at this
    simpa [OwnI] using this
end Go.Proofs.Ytmebpglkeedaoaa
namespace Go.Proofs.Ytmebpglkeedaoaa
open Go Go.RowKit Dp
def OwnQ (W : World) (B : Nat) (A : Option Addr) (n cap : Nat) (xs : List Int) : Prop :=
  xs.length = n ∧ ((A = none ∧ n = 0 ∧ cap = 0) ∨ ∃ (g k : Nat) (cur : Array Value), A = some ⟨g, k, none⟩ ∧ B ≤ g ∧ W.heap[g]? = some (.cells cur 3 (0, 0)) ∧ n ≤ cap ∧ k + cap ≤ cur.size ∧ cap ≤ maxLen ∧ ∀ j, j < n → cur[k + j]? = some (.int .i64 (xs.getD j 0)))
section
variable {W V : World} {B n cap : Nat} {A : Option Addr} {xs : List Int}
theorem OwnQ.nil (W : World) (B : Nat) : OwnQ W B none 0 0 [] := ⟨rfl, .inl ⟨rfl, rfl, rfl⟩⟩
theorem OwnQ.lt (h : OwnQ W B A n cap xs) : ∀ k, OwnB A k → B ≤ k ∧ k < W.heap.size := fun k hk => by
  obtain ⟨a, e, hb⟩ := hk
  rcases h.2 with ⟨rfl, _⟩ | ⟨g, o, cur, rfl, h1, h2, _⟩
  · cases e
  · cases e
    simp only at hb
    subst hb
    exact ⟨h1, (Array.getElem?_eq_some_iff.1 h2).1⟩
theorem OwnQ.of_eq (h : OwnQ W B A n cap xs) (he : ∀ k, OwnB A k → V.heap[k]? = W.heap[k]?) : OwnQ V B A n cap xs := by
  refine ⟨h.1, ?_⟩
  rcases h.2 with h1 | ⟨g, o, cur, rfl, h1, h2, h3⟩
  · exact .inl h1
  · exact .inr ⟨g, o, cur, rfl, h1, by rw [he g ⟨_, rfl, rfl⟩]; exact h2, h3⟩
theorem OwnQ.below (h : OwnQ W B A n cap xs) (hb : Below W.heap.size W V) : OwnQ V B A n cap xs := h.of_eq (fun k hk => hb.block k (h.lt k hk).2)
theorem OwnQ.set (h : OwnQ W B A n cap xs) {p : Addr} (hp : ¬ OwnB A p.block) (u : Value) : OwnQ (W.setCell p u) B A n cap xs := h.of_eq (fun k hk => Below.heap_setCell _ _ _ _ (fun e => hp (by rw [← e]; exact hk)))
theorem OwnQ.mono {B' : Nat} (h : OwnQ W B A n cap xs) (hb : B' ≤ B) : OwnQ W B' A n cap xs := ⟨h.1, h.2.imp id (fun ⟨g, k, cur, e, h1, r⟩ => ⟨g, k, cur, e, Nat.le_trans hb h1, r⟩)⟩
theorem OwnQ.no {g t : Nat} {cs : List Value} (h : OwnQ W B A n cap xs) (hb : Blk W g t cs) (ht : t ≠ 3) : ¬ OwnB A g := fun ⟨a, e, he⟩ => by
  rcases h.2 with ⟨rfl, _⟩ | ⟨g', o, cur, rfl, h1, h2, _⟩
  · cases e
  · cases e
    simp only at he
    subst he
    unfold Blk at hb
    rw [h2] at hb
    simp only [Option.some.injEq, Obj.cells.injEq] at hb
    exact ht hb.2.1.symm
theorem OwnQ.head (h : OwnQ W B A (n + 1) cap xs) : ∃ a, A = some a ∧ a.block < W.heap.size ∧ W.cell? a = some (.int .i64 (xs.getD 0 0)) ∧ a.spot = none := by
  rcases h.2 with ⟨_, h0, _⟩ | ⟨g, k, cur, rfl, h1, h2, _, _, _, h3⟩
  · omega
  · refine ⟨_, rfl, (Array.getElem?_eq_some_iff.1 h2).1, ?_, rfl⟩
    rw [cell_of_row W g k cur 3 (0, 0) h2]
    exact h3 0 (by omega)
theorem OwnQ.tail {g k : Nat} (h : OwnQ W B (some ⟨g, k, none⟩) (n + 1) cap xs) : OwnQ W B (some ⟨g, k + 1, none⟩) n (cap - 1) (xs.drop 1) := by
  refine ⟨by rw [List.length_drop, h.1]; omega, .inr ?_⟩
  rcases h.2 with ⟨h0, _⟩ | ⟨g', k', cur, e, h1, h2, h3, h4, h5, h6⟩
  · cases h0
  · cases e
    refine ⟨g, k + 1, cur, rfl, h1, h2, by omega, by omega, by omega, fun j hj => ?_⟩
    have := h6 (j + 1) (by omega)
    rw [show k + 1 + j = k + (j + 1) by omega, this]
    simp [List.getD_eq_getElem?_getD, Nat.add_comm]
theorem OwnQ.tailIf {g k : Nat} (h : OwnQ W B (some ⟨g, k, none⟩) (n + 1) cap xs) : OwnQ W B (if cap = 1 then some ⟨g, k, none⟩ else some ⟨g, k + 1, none⟩) n (cap - 1) (xs.drop 1) := by
  by_cases hc : cap = 1
  · rw [if_pos hc]
    refine ⟨by rw [List.length_drop, h.1]; omega, .inr ?_⟩
    rcases h.2 with ⟨h0, _⟩ | ⟨g', k', cur, e, h1, h2, h3, h4, h5, h6⟩
    · cases h0
    · cases e
      exact ⟨g, k, cur, rfl, h1, h2, by omega, by omega, by omega, fun j hj => by omega⟩
  · rw [if_neg hc]
    exact h.tail
end
theorem grown_q (W : World) (B n old : Nat) (hB : B ≤ W.heap.size) (hn : n + 1 ≤ maxLen) (xs : List Int) (x : Int) (hx : xs.length = n) (Z : Array Value) (row : Option Nat) :
    OwnQ (W.drew.alloc (.cells ((xs.map (Value.int .i64)).toArray ++ [Value.int .i64 x].toArray ++ Builtin.zeroCells (Value.int .i64 0).cells (grownCap W (n + 1) old 3 - (n + 1))) 3)) B (some ⟨W.heap.size, 0, none⟩) (n + 1) (grownCap W (n + 1) old 3) (xs ++ [x]) ∧
    W.grownBy (W.drew.alloc (.cells ((xs.map (Value.int .i64)).toArray ++ [Value.int .i64 x].toArray ++ Builtin.zeroCells (Value.int .i64 0).cells (grownCap W (n + 1) old 3 - (n + 1))) 3)) row := by
  have hge := grownCap_ge W (n + 1) old 3
  have hcm := grownCap_le_maxLen W (n + 1) old 3 hn
  refine ⟨⟨by simp [hx], .inr ⟨W.heap.size, 0, _, rfl, hB, heap_alloc_new W.drew _, hge, ?_, hcm, fun j hj => ?_⟩⟩, ⟨rfl, rfl, rfl, by simp, fun k hk _ => heap_alloc_old W.drew _ hk⟩⟩
  · simp only [Array.size_append, List.size_toArray, size_zeroCells, List.length_map, List.length_cons, List.length_nil, hx, Nat.zero_add]
    have : (Value.int .i64 0).cells.size = 1 := rfl
    rw [this]
    omega
  · rw [Nat.zero_add, Array.getElem?_append_left (by simp [hx]; omega)]
    by_cases e : j < n
    · rw [Array.getElem?_append_left (by simp [hx]; exact e)]
      simp [List.getD_eq_getElem?_getD, List.getElem?_append_left (show j < xs.length by omega), show j < xs.length by omega]
    · obtain rfl : j = n := by omega
      rw [Array.getElem?_append_right (by simp [hx])]
      simp [hx, List.getD_eq_getElem?_getD]
section
variable {P : Program} {w : World}
theorem run_push_q (t ty : TypeId) (B : Nat) (i : TypeInfo) (ht : P.underlying t = some (.slice 3)) (hi : P.info? 3 = some i) (hz : i.zero = some (.int .i64 0)) (hsize : i.size = 1) (hby : i.bytes = 8)
    (A : Option Addr) (n cap : Nat) (xs : List Int) (hown : OwnQ w B A n cap xs) (a : Addr) (c : Nat) (x : Int) (hx : w.cell? a = some (.int .i64 x)) (hn : n ≤ 1048576) (hB : B ≤ w.heap.size) :
    ∃ A' cap' w', (Builtin.append_ #[t, t] ty #[.slice A n cap, .slice (some a) 1 c]).run P w = .ok (.slice A' (n + 1) cap') w' ∧ OwnQ w' B A' (n + 1) cap' (xs ++ [x]) ∧
      w.grownBy w' (Value.slice A n cap).ownBlock ∧ (∀ k, OwnB A' k → OwnB A k ∨ k = w.heap.size) := by
  have hnews : ∀ j u, [Value.int .i64 x][j]? = some u → w.cell? (a.add j) = some u := fun j u hu => by
    rcases j with _ | j <;> simp at hu
    subst hu
    exact hx
  have hmax : n + 1 ≤ maxLen := by unfold maxLen; omega
  rcases hown.2 with ⟨rfl, rfl, rfl⟩ | ⟨g, k, cur, rfl, h1, h2, h3, h4, h5, h6⟩
  · have hxs : xs = [] := List.eq_nil_of_length_eq_zero hown.1
    subst hxs
    have hr := run_append_nil (P := P) w t ty 3 i _ ht hi hz a 1 c [.int .i64 x] (by simp [hsize]) hnews (by omega) (by omega) (by rw [hby]; omega)
    have hgr := grown_q w B 0 0 hB hmax [] x rfl #[] (Value.slice none 0 0).ownBlock
    simp only [Nat.zero_add, List.nil_append, List.map_nil, Array.empty_append] at hgr hr ⊢
    exact ⟨_, _, _, hr, hgr.1, hgr.2, fun k ⟨a', e, hk⟩ => .inr (by cases e; exact hk.symm)⟩
  · by_cases hroom : n + 1 ≤ cap
    · have hc : (w.cell? ⟨g, k + n, none⟩).isSome = true := by
        rw [cell_of_row w g (k + n) cur 3 (0, 0) h2]
        have : k + n < cur.size := by omega
        simp [this]
      have hf : w.frozen? ⟨g, k + n, none⟩ = false := by
        unfold World.frozen?
        rw [h2]
        simp
      have hs := Src.ofSlice (P := P) (size := i.size) w ht a 1 c [.int .i64 x] (by simp [hsize]) hnews (by simp [Value.oneCell'])
      have hr := run_append_room_src (P := P) w t t ty 3 i ht hi g k n cap _ 1 [.int .i64 x] hs hroom (fun j hj => by
        have : j = 0 := by simpa using hj
        subst this
        rw [hsize]; simpa using hc) (fun j hj => by
        have : j = 0 := by simpa using hj
        subst this
        rw [hsize]; simpa using hf)
      rw [hsize, Nat.mul_one] at hr
      refine ⟨_, _, _, hr, ⟨by simp [hown.1], .inr ⟨g, k, _, rfl, h1, heap_setCell_same w g (k + n) cur 3 (.int .i64 x) h2, hroom, by simpa using h4, h5, fun j hj => ?_⟩⟩, ⟨rfl, rfl, rfl, by simp [World.setCells, World.setCell], fun b hb hne => ?_⟩, fun b hb => .inl hb⟩
      · by_cases e : j = n
        · subst e
          have : k + j < cur.size := by omega
          simp [this, List.getD_eq_getElem?_getD, hown.1]
        · have := h6 j (by omega)
          rw [Array.getElem?_setIfInBounds_ne (by omega), this, List.getD_eq_getElem?_getD, List.getD_eq_getElem?_getD, List.getElem?_append_left (by rw [hown.1]; omega)]
      · show (w.setCell ⟨g, k + n, none⟩ (.int .i64 x)).heap[b]? = _
        exact Below.heap_setCell _ _ _ _ (fun e => hne (by simp [Value.ownBlock, e]))
    · have holds : ∀ j u, (xs.map (Value.int .i64))[j]? = some u → w.cell? ((⟨g, k, none⟩ : Addr).add j) = some u := fun j u hu => by
        have hj : j < n := by
          rcases Nat.lt_or_ge j n with h | h
          · exact h
          · rw [List.getElem?_eq_none (by simp [hown.1]; omega)] at hu; cases hu
        have := h6 j hj
        rw [List.getElem?_map, List.getElem?_eq_getElem (by rw [hown.1]; exact hj)] at hu
        rw [show (⟨g, k, none⟩ : Addr).add j = ⟨g, k + j, none⟩ from (by unfold Addr.add; split <;> simp_all), cell_of_row w g (k + j) cur 3 (0, 0) h2, this, ← hu, List.getD_eq_getElem?_getD, List.getElem?_eq_getElem (by rw [hown.1]; exact hj)]
        rfl
      have hr := run_append_grow (P := P) w t ty 3 i _ ht hi hz ⟨g, k, none⟩ n cap (xs.map (Value.int .i64)) (by simp [hown.1, hsize]) holds a 1 c [.int .i64 x] (by simp [hsize]) hnews (by omega) (by omega) (by rw [hby]; have := nextslicecap_le (need := n + 1) (old := cap) (by omega); omega)
      have hgr := grown_q w B n cap hB hmax xs x hown.1 #[] (Value.slice (some ⟨g, k, none⟩) n cap).ownBlock
      exact ⟨_, _, _, hr, hgr.1, hgr.2, fun b ⟨a', e, hb⟩ => .inr (by cases e; exact hb.symm)⟩
theorem wpList_push_q {ops : Array Oper} {rest : List Oper} {o : Oper} {a : Act} {Q : Exit → Act → World → Prop} (s x : Operand) (t : TypeId)
    (ho : o.op = .call { callee := .builtin .append, args := #[s, x], argTypes := #[t, t] }) (hgd : o.guard = none)
    (B : Nat) (i : TypeInfo) (ht : P.underlying t = some (.slice 3)) (hi : P.info? 3 = some i) (hz : i.zero = some (.int .i64 0)) (hsize : i.size = 1) (hby : i.bytes = 8)
    (A : Option Addr) (n cap : Nat) (xs : List Int) (hs : a.eval s = .slice A n cap) (hown : OwnQ w B A n cap xs)
    (ad : Addr) (c : Nat) (v : Int) (hx : a.eval x = .slice (some ad) 1 c) (hv : w.cell? ad = some (.int .i64 v)) (hn : n ≤ 1048576) (hB : B ≤ w.heap.size)
    (h : ∀ A' cap' w', OwnQ w' B A' (n + 1) cap' (xs ++ [v]) → w.grownBy w' (Value.slice A n cap).ownBlock → (∀ k, OwnB A' k → OwnB A k ∨ k = w.heap.size) → wpList P ops Q rest (a.put o.dst (.slice A' (n + 1) cap')) w') :
    wpList P ops Q (o :: rest) a w := by
  refine wpList_plain hgd fun K hK => ?_
  obtain ⟨A', cap', w', hr, h2, h3, h4⟩ := run_push_q (P := P) t o.type B i ht hi hz hsize hby A n cap xs hown ad c v hv hn hB
  unfold Oper.wp execOp
  simp only [ho, resolve, invoke, builtin, Sem.run_bind, Sem.run_pure, Result.andThen_ok, List.map_toArray, List.map_cons, List.map_nil, hs, hx, hr]
  exact hK _ _ (h A' cap' w' h2 h3 h4)
end
end Go.Proofs.Ytmebpglkeedaoaa
namespace Go.Proofs.Ytmebpglkeedaoaa
namespace Dp
abbrev Vs := Int × Int
def keyAt (l : List Vs) (i : Nat) : Int := (l.getD i (0, 0)).2
def Heap (l : List Vs) : Prop := ∀ j, 0 < j → j < l.length → keyAt l ((j - 1) / 2) ≤ keyAt l j
def UpAt (l : List Vs) (i : Nat) : Prop := (∀ j, 0 < j → j < l.length → j ≠ i → keyAt l ((j - 1) / 2) ≤ keyAt l j) ∧ (0 < i → ∀ j, 0 < j → j < l.length → (j - 1) / 2 = i → keyAt l ((i - 1) / 2) ≤ keyAt l j)
def DnAt (l : List Vs) (i : Nat) : Prop := (∀ j, 0 < j → j < l.length → (j - 1) / 2 ≠ i → keyAt l ((j - 1) / 2) ≤ keyAt l j) ∧ (0 < i → ∀ j, 0 < j → j < l.length → (j - 1) / 2 = i → keyAt l ((i - 1) / 2) ≤ keyAt l j)
def swp (l : List Vs) (i j : Nat) : List Vs := (l.set i (l.getD j (0, 0))).set j (l.getD i (0, 0))
theorem swp_length (l : List Vs) (i j : Nat) : (swp l i j).length = l.length := by simp [swp]
theorem swp_perm {l : List Vs} {i j : Nat} (hi : i < l.length) (hj : j < l.length) : (swp l i j).Perm l := by
  unfold swp
  rw [List.getD_eq_getElem?_getD, List.getD_eq_getElem?_getD, List.getElem?_eq_getElem hi, List.getElem?_eq_getElem hj]
  exact List.set_set_perm hi hj
theorem getD_setV (l : List Vs) (i j : Nat) (v : Vs) (h : i < l.length) : (l.set i v).getD j (0, 0) = if j = i then v else l.getD j (0, 0) := by
  simp only [List.getD_eq_getElem?_getD, List.getElem?_set]
  by_cases hj : i = j
  · subst hj; simp [h]
  · rw [if_neg hj, if_neg (fun e => hj e.symm)]
theorem key_swp {l : List Vs} {i j : Nat} (hi : i < l.length) (hj : j < l.length) (k : Nat) : keyAt (swp l i j) k = if k = j then keyAt l i else if k = i then keyAt l j else keyAt l k := by
  unfold keyAt swp
  rw [getD_setV _ _ _ _ (by simpa using hj), getD_setV _ _ _ _ hi]
  split
  · rfl
  · split <;> rfl
theorem heap_min {l : List Vs} (h : Heap l) : ∀ j, j < l.length → keyAt l 0 ≤ keyAt l j := by
  intro j
  induction j using Nat.strongRecOn with
  | _ j ih =>
    intro hj
    rcases Nat.eq_zero_or_pos j with rfl | h0
    · exact Int.le_refl _
    · have h1 := ih ((j - 1) / 2) (by omega) (by omega)
      have h2 := h j h0 hj
      omega
theorem heap_minE {l : List Vs} (h : Heap l) (e : Vs) (he : e ∈ l) : keyAt l 0 ≤ e.2 := by
  obtain ⟨i, hi, rfl⟩ := List.getElem_of_mem he
  have := heap_min h i hi
  simpa [keyAt, List.getD, hi] using this
theorem heap_nil : Heap [] := fun _ _ h => absurd h (Nat.not_lt_zero _)
theorem key_app {l : List Vs} {x : Vs} {j : Nat} (hj : j < l.length) : keyAt (l ++ [x]) j = keyAt l j := by
  simp [keyAt, List.getD, List.getElem?_append_left hj]
theorem up_start {l : List Vs} (h : Heap l) (x : Vs) : UpAt (l ++ [x]) l.length := by
  constructor
  · intro j h0 hj hne
    simp only [List.length_append, List.length_cons, List.length_nil] at hj
    rw [key_app (by omega), key_app (by omega)]
    exact h j h0 (by omega)
  · intro h0 j h1 h2 h3
    simp only [List.length_append, List.length_cons, List.length_nil] at h2
    omega
theorem up_done {l : List Vs} {i : Nat} (h : UpAt l i) (hk : i = 0 ∨ keyAt l ((i - 1) / 2) ≤ keyAt l i) : Heap l := by
  intro j h0 hj
  by_cases he : j = i
  · subst he; rcases hk with hk | hk
    · omega
    · exact hk
  · exact h.1 j h0 hj he
theorem up_step {l : List Vs} {i : Nat} (h : UpAt l i) (h0 : 0 < i) (hi : i < l.length) (hk : keyAt l i < keyAt l ((i - 1) / 2)) : UpAt (swp l i ((i - 1) / 2)) ((i - 1) / 2) := by
  have hp : (i - 1) / 2 < l.length := by omega
  constructor
  · intro j j0 hj hne
    rw [swp_length] at hj
    rw [key_swp hi hp, key_swp hi hp, if_neg hne]
    by_cases hji : j = i
    · subst hji
      rw [if_pos rfl, if_pos rfl]
      omega
    · rw [if_neg hji]
      have h1 := h.1 j j0 hj hji
      by_cases hq : (j - 1) / 2 = (i - 1) / 2
      · rw [if_pos hq]; rw [hq] at h1; omega
      · rw [if_neg hq]
        by_cases hqi : (j - 1) / 2 = i
        · rw [if_pos hqi]
          exact h.2 h0 j j0 hj hqi
        · rw [if_neg hqi]; exact h1
  · intro g0 j j0 hj hq
    rw [swp_length] at hj
    have hpp : ((i - 1) / 2 - 1) / 2 ≠ i := by omega
    have hpp2 : ((i - 1) / 2 - 1) / 2 ≠ (i - 1) / 2 := by omega
    have hpq := h.1 ((i - 1) / 2) g0 hp (by omega)
    rw [key_swp hi hp, key_swp hi hp, if_neg hpp2, if_neg hpp, if_neg (show j ≠ (i - 1) / 2 by omega)]
    by_cases hji : j = i
    · rw [if_pos hji]; exact hpq
    · rw [if_neg hji]
      have h1 := h.1 j j0 hj hji
      rw [hq] at h1
      omega
theorem dn_done {l : List Vs} {i : Nat} (h : DnAt l i) (h1 : 2 * i + 1 < l.length → keyAt l i ≤ keyAt l (2 * i + 1)) (h2 : 2 * i + 2 < l.length → keyAt l i ≤ keyAt l (2 * i + 2)) : Heap l := by
  intro j j0 hj
  by_cases he : (j - 1) / 2 = i
  · rw [he]
    rcases (show j = 2 * i + 1 ∨ j = 2 * i + 2 by omega) with rfl | rfl
    · exact h1 hj
    · exact h2 hj
  · exact h.1 j j0 hj he
theorem dn_step {l : List Vs} {i c : Nat} (h : DnAt l i) (hc : c < l.length) (hci : c = 2 * i + 1 ∨ c = 2 * i + 2) (hk : keyAt l c < keyAt l i)
    (hl : ∀ j, 0 < j → j < l.length → (j - 1) / 2 = i → keyAt l c ≤ keyAt l j) : DnAt (swp l i c) c := by
  have hi : i < l.length := by omega
  have hcp : (c - 1) / 2 = i := by omega
  constructor
  · intro j j0 hj hne
    rw [swp_length] at hj
    rw [key_swp hi hc, key_swp hi hc, if_neg hne]
    by_cases hq : (j - 1) / 2 = i
    · rw [if_pos hq]
      by_cases hjc : j = c
      · rw [if_pos hjc]; omega
      · rw [if_neg hjc, if_neg (show j ≠ i by omega)]
        exact hl j j0 hj hq
    · rw [if_neg hq]
      have h1 := h.1 j j0 hj hq
      rw [if_neg (show j ≠ c by omega)]
      by_cases hji : j = i
      · rw [if_pos hji]
        subst hji
        exact h.2 j0 c (by omega) hc hcp
      · rw [if_neg hji]; exact h1
  · intro c0 j j0 hj hq
    rw [swp_length] at hj
    rw [key_swp hi hc, key_swp hi hc, if_neg (show (c - 1) / 2 ≠ c by omega), if_pos hcp, if_neg (show j ≠ c by omega), if_neg (show j ≠ i by omega)]
    have := h.1 j j0 hj (by omega)
    rw [hq] at this
    exact this
def popd (l : List Vs) : List Vs := (l.set 0 (l.getD (l.length - 1) (0, 0))).take (l.length - 1)
theorem popd_length (l : List Vs) : (popd l).length = l.length - 1 := by simp [popd]
theorem popd_perm {l : List Vs} (h : 0 < l.length) : (l.getD 0 (0, 0) :: popd l).Perm l := by
  rcases Nat.lt_or_ge 1 l.length with h1 | h1
  · obtain ⟨a, t, rfl⟩ : ∃ a t, l = a :: t := by cases l with
      | nil => simp at h
      | cons a t => exact ⟨a, t, rfl⟩
    have ht : t ≠ [] := by intro e; subst e; simp at h1
    have e := List.dropLast_concat_getLast ht
    have hl : 0 < t.length := List.length_pos_iff.2 ht
    have e1 : popd (a :: t) = t.getLast ht :: t.dropLast := by
      unfold popd
      have : (a :: t).getD ((a :: t).length - 1) (0, 0) = t.getLast ht := by
        simp only [List.length_cons, Nat.add_sub_cancel]
        rw [List.getD_eq_getElem?_getD, List.getLast_eq_getElem]
        obtain ⟨n, hn⟩ : ∃ n, t.length = n + 1 := ⟨t.length - 1, by omega⟩
        simp [hn]
      rw [this]
      simp only [List.set_cons_zero, List.length_cons, Nat.add_sub_cancel]
      obtain ⟨n, hn⟩ : ∃ n, t.length = n + 1 := ⟨t.length - 1, by omega⟩
      rw [hn, List.take_succ_cons, List.dropLast_eq_take, hn]
      rfl
    rw [e1]
    simp only [List.getD_cons_zero]
    refine List.Perm.cons a ?_
    have : (t.getLast ht :: t.dropLast).Perm (t.dropLast ++ [t.getLast ht]) := (List.perm_append_singleton _ _).symm
    rw [e] at this
    exact this
  · have : l.length = 1 := by omega
    obtain ⟨a, rfl⟩ := List.length_eq_one_iff.1 this
    simp [popd]
theorem key_popd {l : List Vs} {j : Nat} (hj : j < l.length - 1) : keyAt (popd l) j = if j = 0 then keyAt l (l.length - 1) else keyAt l j := by
  have : keyAt (popd l) j = keyAt (l.set 0 (l.getD (l.length - 1) (0, 0))) j := by
    simp only [keyAt, popd, List.getD_eq_getElem?_getD]
    rw [List.getElem?_take_of_lt hj]
  rw [this]
  unfold keyAt
  rw [getD_setV _ _ _ _ (by omega)]
  split <;> rfl
theorem popd_dn {l : List Vs} (h : Heap l) : DnAt (popd l) 0 := by
  constructor
  · intro j j0 hj hne
    rw [popd_length] at hj
    rw [key_popd (by omega), key_popd hj, if_neg hne, if_neg (by omega)]
    exact h j j0 (by omega)
  · intro h0; omega
end Dp
end Go.Proofs.Ytmebpglkeedaoaa
namespace Go.Proofs.Ytmebpglkeedaoaa
namespace Dp
structure Ed where
  «to» : Int
  room : Int
  cost : Int
  deriving Inhabited
structure Gr where
  left : List Int
  es : List Ed
  outs : List (List Int)
def tw (k : Nat) : Nat := if k % 2 = 0 then k + 1 else k - 1
theorem tw_tw (k : Nat) : tw (tw k) = k := by unfold tw; split <;> split <;> omega
theorem tw_lt {k n : Nat} (h : n % 2 = 0) (hk : k < n) : tw k < n := by unfold tw; split <;> omega
theorem tw_ne (k : Nat) : tw k ≠ k := by unfold tw; split <;> omega
namespace Gr
def toA (G : Gr) (k : Nat) : Nat := (G.es.getD k default).to.toNat
def frA (G : Gr) (k : Nat) : Nat := G.toA (tw k)
def room (G : Gr) (k : Nat) : Int := (G.es.getD k default).room
def cost (G : Gr) (k : Nat) : Int := (G.es.getD k default).cost
def lf (G : Gr) (v : Nat) : Int := G.left.getD v 0
def rc (G : Gr) (p : List Int) (k : Nat) : Int := G.cost k + p.getD (G.frA k) 0 - p.getD (G.toA k) 0
structure Ok (G : Gr) (n : Nat) : Prop where
  n1 : 1 ≤ n ∧ n ≤ 1024
  ll : G.left.length = n
  lo : G.outs.length = n
  le : G.es.length ≤ 4096
  ev : G.es.length % 2 = 0
  «to» : ∀ k, k < G.es.length → 0 ≤ (G.es.getD k default).to ∧ (G.es.getD k default).to < n
  ne : ∀ k, k < G.es.length → G.toA k ≠ G.frA k
  co : ∀ k, k < G.es.length → G.cost (tw k) = - G.cost k
  cb : ∀ k, k < G.es.length → -1048576 ≤ G.cost k ∧ G.cost k ≤ 1048576
  rm : ∀ k, k < G.es.length → 0 ≤ G.room k ∧ G.room k + G.room (tw k) ≤ 1048576
  lb : ∀ v, v < n → -8589934592 ≤ G.lf v ∧ G.lf v ≤ 8589934592
  o1 : ∀ v, v < n → ∀ x, x ∈ G.outs.getD v [] → 0 ≤ x ∧ x < G.es.length ∧ G.frA x.toNat = v
  o2 : ∀ k, k < G.es.length → (k : Int) ∈ G.outs.getD (G.frA k) []
  o3 : ∀ v, v < n → (G.outs.getD v []).length ≤ 4096
theorem Ok.toL {G : Gr} {n : Nat} (h : G.Ok n) {k : Nat} (hk : k < G.es.length) : G.toA k < n := by have := h.to k hk; unfold toA; omega
theorem Ok.frL {G : Gr} {n : Nat} (h : G.Ok n) {k : Nat} (hk : k < G.es.length) : G.frA k < n := h.toL (tw_lt h.ev hk)
structure Pot (G : Gr) (n : Nat) (p : List Int) : Prop where
  len : p.length = n
  bd : ∀ v, v < n → 0 ≤ p.getD v 0 ∧ p.getD v 0 ≤ 1073741824
  rc : ∀ k, k < G.es.length → 0 < G.room k → 0 ≤ G.rc p k
  src : ∀ v, v < n → 0 < G.lf v → p.getD v 0 = 0
end Gr
def never : Int := 1152921504606846976
def Lnk (G : Gr) (p fa vi : List Int) (S : List Nat) (v : Nat) : Prop :=
  (0 < G.lf v ∧ fa.getD v 0 = 0 ∧ vi.getD v 0 = -1) ∨ ∃ k, k < G.es.length ∧ vi.getD v 0 = (k : Int) ∧ G.toA k = v ∧ 0 < G.room k ∧ G.frA k ∈ S ∧ fa.getD v 0 = fa.getD (G.frA k) 0 + G.rc p k
def Chn (G : Gr) (p fa vi : List Int) : List Nat → Prop
  | [] => True
  | v :: S => Chn G p fa vi S ∧ Lnk G p fa vi S v
theorem Lnk.keep {G : Gr} {p fa vi fa' vi' : List Int} {S : List Nat} {v : Nat} (h : Lnk G p fa vi S v) (h1 : ∀ u, u ∈ S ∨ u = v → fa'.getD u 0 = fa.getD u 0) (h2 : vi'.getD v 0 = vi.getD v 0) : Lnk G p fa' vi' S v := by
  rcases h with ⟨a, b, c⟩ | ⟨k, a, b, c, d, e, f⟩
  · exact .inl ⟨a, (h1 v (.inr rfl)).trans b, h2.trans c⟩
  · exact .inr ⟨k, a, h2.trans b, c, d, e, by rw [h1 v (.inr rfl), h1 _ (.inl e)]; exact f⟩
theorem Lnk.more {G : Gr} {p fa vi : List Int} {S S' : List Nat} {v : Nat} (h : Lnk G p fa vi S v) (hs : ∀ u, u ∈ S → u ∈ S') : Lnk G p fa vi S' v := by
  rcases h with h | ⟨k, a, b, c, d, e, f⟩
  · exact .inl h
  · exact .inr ⟨k, a, b, c, d, hs _ e, f⟩
theorem Chn.keep {G : Gr} {p fa vi fa' vi' : List Int} : ∀ {S : List Nat}, Chn G p fa vi S → (∀ u, u ∈ S → fa'.getD u 0 = fa.getD u 0 ∧ vi'.getD u 0 = vi.getD u 0) → Chn G p fa' vi' S
  | [], _, _ => trivial
  | v :: S, h, hk => ⟨Chn.keep h.1 (fun u hu => hk u (by simp [hu])), h.2.keep (fun u hu => (hk u (by rcases hu with hu | hu <;> simp [hu])).1) (hk v (by simp)).2⟩
theorem Lnk.up {G : Gr} {n : Nat} {p fa vi : List Int} {S : List Nat} {v : Nat} (hG : G.Ok n) (hp : G.Pot n p) (h : Lnk G p fa vi S v) (hv : v < n) {B : Int} (hB : 0 ≤ B) (hS : ∀ u, u ∈ S → fa.getD u 0 + p.getD u 0 ≤ B) : fa.getD v 0 + p.getD v 0 ≤ B + 1048576 := by
  rcases h with ⟨a, b, c⟩ | ⟨k, a, b, c, d, e, f⟩
  · have := hp.src v hv a
    omega
  · have h1 := hS _ e
    have h2 := (hG.cb k a).2
    unfold Gr.rc at f
    rw [c] at f
    omega
theorem Chn.up {G : Gr} {n : Nat} {p fa vi : List Int} (hG : G.Ok n) (hp : G.Pot n p) : ∀ {S : List Nat}, Chn G p fa vi S → (∀ v, v ∈ S → v < n) → ∀ v, v ∈ S → fa.getD v 0 + p.getD v 0 + 1048576 ≤ 1048576 * S.length ∨ fa.getD v 0 + p.getD v 0 ≤ 0
  | [], _, _, v, hv => by simp at hv
  | u :: S, h, hl, v, hv => by
    have ih := Chn.up hG hp h.1 (fun v hv => hl v (by simp [hv]))
    have e : ((List.length (u :: S) : Nat) : Int) = S.length + 1 := by simp
    rw [e, Int.mul_add]
    rcases List.mem_cons.1 hv with rfl | hv
    · rcases h.2 with ⟨a, b, c⟩ | ⟨k, a, b, c, d, e, f⟩
      · right
        have := hp.src v (hl v (by simp)) a
        omega
      · have h1 := ih _ e
        have h2 := (hG.cb k a).2
        unfold Gr.rc at f
        rw [c] at f
        have : 1 ≤ S.length := List.length_pos_of_mem e
        left
        omega
    · have := ih v hv
      omega
structure NI (G : Gr) (n : Nat) (p fa vi : List Int) (H : List Vs) (S : List Nat) (en ds : Int) (ex : Nat → Prop) : Prop where
  l1 : fa.length = n
  l2 : vi.length = n
  sn : S.Nodup
  sl : ∀ v, v ∈ S → v < n
  d0 : 0 ≤ ds
  top : ∀ v, v < n → 0 ≤ fa.getD v 0 ∧ fa.getD v 0 ≤ never
  src : ∀ v, v < n → 0 < G.lf v → fa.getD v 0 = 0
  via : ∀ v, v < n → -1 ≤ vi.getD v 0 ∧ vi.getD v 0 < G.es.length ∧ (fa.getD v 0 = never → vi.getD v 0 = -1)
  lnk : ∀ v, v < n → fa.getD v 0 < never → Lnk G p fa vi S v
  chn : Chn G p fa vi S
  sd : ∀ v, v ∈ S → fa.getD v 0 ≤ ds ∧ fa.getD v 0 < never
  hd : ∀ e, e ∈ H → ds ≤ e.2
  pnd : ∀ v, v < n → fa.getD v 0 < never → v ∉ S → ((v : Int), fa.getD v 0) ∈ H
  ent : ∀ e, e ∈ H → (0 ≤ e.1 ∧ e.1 < n) ∧ fa.getD e.1.toNat 0 ≤ e.2 ∧ e.2 < never ∧ (e.1.toNat ∈ S → fa.getD e.1.toNat 0 < e.2)
  hn : H.Nodup
  bel : ∀ k, k < G.es.length → G.frA k ∈ S → 0 < G.room k → ¬ ex k → fa.getD (G.toA k) 0 ≤ fa.getD (G.frA k) 0 + G.rc p k
  fin : (en = -1 ∧ ∀ v, v ∈ S → 0 ≤ G.lf v) ∨ ∃ t : Nat, en = (t : Int) ∧ t < n ∧ G.lf t < 0 ∧ t ∈ S ∧ ∀ v, v < n → G.lf v < 0 → fa.getD t 0 ≤ fa.getD v 0
section
variable {G : Gr} {n : Nat} {p fa vi : List Int} {H R : List Vs} {S : List Nat} {en ds : Int} {ex : Nat → Prop}
theorem NI.perm (h : NI G n p fa vi H S en ds ex) (hp : R.Perm H) : NI G n p fa vi R S en ds ex :=
  { h with hd := fun e he => h.hd e (hp.mem_iff.1 he), pnd := fun v a b c => hp.mem_iff.2 (h.pnd v a b c), ent := fun e he => h.ent e (hp.mem_iff.1 he), hn := hp.nodup_iff.2 h.hn }
theorem NI.excuse {ex' : Nat → Prop} (h : NI G n p fa vi H S en ds ex) (hx : ∀ k, k < G.es.length → G.frA k ∈ S → ex k → ex' k) : NI G n p fa vi H S en ds ex' :=
  { h with bel := fun k a b c d => h.bel k a b c (fun hk => d (hx k a b hk)) }
theorem NI.slen (h : NI G n p fa vi H S en ds ex) : S.length ≤ n := by
  have := h.sn.length_le_of_subset (l₂ := List.range n) (fun v hv => List.mem_range.2 (h.sl v hv))
  simpa using this
theorem NI.stale {e : Vs} (h : NI G n p fa vi (e :: R) S en ds ex) (hs : fa.getD e.1.toNat 0 < e.2) : NI G n p fa vi R S en ds ex :=
  { h with
    hd := fun x hx => h.hd x (by simp [hx])
    pnd := fun v a b c => by
      rcases List.mem_cons.1 (h.pnd v a b c) with h1 | h1
      · rw [← h1] at hs
        simp at hs
      · exact h1
    ent := fun x hx => h.ent x (by simp [hx])
    hn := (List.nodup_cons.1 h.hn).2 }
theorem NI.new (h : NI G n p fa vi H S en ds ex) {e : Vs} (he : e ∈ H) (hs : ¬ fa.getD e.1.toNat 0 < e.2) : e.1.toNat ∉ S := fun hm => hs ((h.ent e he).2.2.2 hm)
theorem NI.fresh {u : Nat} {d : Int} (h : NI G n p fa vi (((u : Int), d) :: R) S en ds (fun _ => False)) (hmin : ∀ x, x ∈ R → d ≤ x.2) (hs : ¬ fa.getD u 0 < d) :
    fa.getD u 0 = d ∧ u ∉ S ∧ u < n ∧ d < never ∧ NI G n p fa vi R (u :: S) (if G.lf u < 0 ∧ en < 0 then (u : Int) else en) d (fun k => G.frA k = u) := by
  have he := h.ent ((u : Int), d) (by simp)
  have hu : u ∉ S := h.new (e := ((u : Int), d)) (by simp) hs
  have hun : u < n := by have := he.1; simp only at this; omega
  simp only [Int.toNat_natCast] at he
  have hfd : fa.getD u 0 = d := by omega
  have hds : ds ≤ d := h.hd ((u : Int), d) (by simp)
  have hlt : d < never := he.2.2.1
  have hL := h.lnk u hun (by omega)
  refine ⟨hfd, hu, hun, hlt, ?_⟩
  exact
  { l1 := h.l1, l2 := h.l2, top := h.top, src := h.src, via := h.via
    sn := List.nodup_cons.2 ⟨hu, h.sn⟩
    sl := fun v hv => by
      rcases List.mem_cons.1 hv with rfl | hv
      · exact hun
      · exact h.sl v hv
    d0 := by have := h.d0; omega
    lnk := fun v a b => (h.lnk v a b).more (fun x hx => by simp [hx])
    chn := ⟨h.chn, hL⟩
    sd := fun v hv => by
      rcases List.mem_cons.1 hv with rfl | hv
      · omega
      · have := h.sd v hv; omega
    hd := fun e he => hmin e he
    pnd := fun v a b c => by
      simp only [List.mem_cons, not_or] at c
      rcases List.mem_cons.1 (h.pnd v a b c.2) with h1 | h1
      · exact absurd (by have := congrArg Prod.fst h1; simp only at this; omega) c.1
      · exact h1
    ent := fun x hx => by
      have hx0 := h.ent x (by simp [hx])
      refine ⟨hx0.1, hx0.2.1, hx0.2.2.1, fun hm => ?_⟩
      rcases List.mem_cons.1 hm with h1 | h1
      · have hne : x ≠ ((u : Int), d) := fun e => (List.nodup_cons.1 h.hn).1 (e ▸ hx)
        have h2 := hx0.2.1
        rw [h1] at h2 ⊢
        rcases Int.lt_or_eq_of_le h2 with h3 | h3
        · exact h3
        · exfalso
          apply hne
          have h4 := hx0.1
          have h5 : x.1 = (u : Int) := by omega
          have h6 : x.2 = d := by omega
          exact Prod.ext h5 h6
      · exact hx0.2.2.2 h1
    hn := (List.nodup_cons.1 h.hn).2
    bel := fun k a b c hx => by
      rcases List.mem_cons.1 b with h1 | h1
      · exact absurd h1 hx
      · exact h.bel k a h1 c (fun f => f)
    fin := by
      rcases h.fin with ⟨e1, e2⟩ | ⟨t, e1, e2, e3, e4, e5⟩
      · by_cases hl : G.lf u < 0
        · right
          refine ⟨u, by rw [if_pos ⟨hl, by omega⟩], hun, hl, by simp, fun v hv hlv => ?_⟩
          rw [hfd]
          have htop := h.top v hv
          by_cases hr : fa.getD v 0 < never
          · have hvS : v ∉ S := fun hm => by have := e2 v hm; omega
            rcases List.mem_cons.1 (h.pnd v hv hr hvS) with h1 | h1
            · have := congrArg Prod.snd h1
              simp only at this
              omega
            · have := hmin _ h1
              simpa using this
          · omega
        · left
          refine ⟨by rw [if_neg (fun hc => hl hc.1)]; exact e1, fun v hv => ?_⟩
          rcases List.mem_cons.1 hv with rfl | hv
          · omega
          · exact e2 v hv
      · right
        exact ⟨t, by rw [if_neg (by omega)]; exact e1, e2, e3, by simp [e4], e5⟩ }
theorem NI.skip {u k : Nat} {ex' : Nat → Prop} (h : NI G n p fa vi H S en ds ex) (hx : ∀ j, j < G.es.length → ex j → ex' j ∨ j = k) (hu : G.frA k = u) (hc : ¬ (fa.getD u 0 + G.rc p k < fa.getD (G.toA k) 0 ∧ 0 < G.room k)) : NI G n p fa vi H S en ds ex' :=
  { h with
    bel := fun j a b c d => by
      by_cases hjk : j = k
      · subst hjk
        rw [hu] at *
        omega
      · exact h.bel j a b c (fun e => (hx j a e).elim d hjk) }
theorem NI.relax {u k : Nat} {d : Int} {ex' : Nat → Prop} (hG : G.Ok n) (hp : G.Pot n p) (h : NI G n p fa vi H S en ds ex) (hx : ∀ j, j < G.es.length → ex j → ex' j ∨ j = k) (hk : k < G.es.length) (hu : G.frA k = u) (huS : u ∈ S) (hds : fa.getD u 0 = ds)
    (hd : d = fa.getD u 0 + G.rc p k) (hc : d < fa.getD (G.toA k) 0) (hr : 0 < G.room k) :
    G.toA k < n ∧ 0 ≤ d ∧ NI G n p (fa.set (G.toA k) d) (vi.set (G.toA k) k) (((G.toA k : Int), d) :: H) S en ds ex' := by
  have hv := hG.toL hk
  have hrc := hp.rc k hk hr
  have h0 := h.d0
  generalize hvv : G.toA k = v at *
  have hvS : v ∉ S := fun hm => by have := h.sd v hm; omega
  have gf : ∀ j, (fa.set v d).getD j 0 = if j = v then d else fa.getD j 0 := fun j => getD_setI fa v j d (by rw [h.l1]; exact hv)
  have gv : ∀ j, (vi.set v (k : Int)).getD j 0 = if j = v then (k : Int) else vi.getD j 0 := fun j => getD_setI vi v j k (by rw [h.l2]; exact hv)
  have gS : ∀ j, j ∈ S → j ≠ v := fun j hj e => hvS (e ▸ hj)
  have htv := h.top v hv
  have hdn : d < never := by omega
  refine ⟨hv, by omega, ?_⟩
  exact
  { l1 := by rw [List.length_set]; exact h.l1
    l2 := by rw [List.length_set]; exact h.l2
    sn := h.sn, sl := h.sl, d0 := h.d0
    top := fun j hj => by
      rw [gf j]
      have := h.top j hj
      split <;> omega
    src := fun j hj hl => by
      rw [gf j]
      have := h.src j hj hl
      split
      · rename_i e; subst e; omega
      · exact this
    via := fun j hj => by
      rw [gf j, gv j]
      have := h.via j hj
      split
      · refine ⟨by omega, by omega, fun e => by omega⟩
      · exact this
    lnk := fun j hj hl => by
      by_cases e : j = v
      · subst e
        right
        refine ⟨k, hk, by rw [gv, if_pos rfl], hvv, hr, by rw [hu]; exact huS, ?_⟩
        rw [gf, if_pos rfl, gf, hu, if_neg (gS u huS)]
        exact hd
      · rw [gf, if_neg e] at hl
        refine (h.lnk j hj hl).keep (fun w hw => ?_) (by rw [gv, if_neg e])
        rw [gf, if_neg]
        rcases hw with hw | hw
        · exact gS w hw
        · rw [hw]; exact e
    chn := h.chn.keep (fun w hw => by rw [gf, gv, if_neg (gS w hw), if_neg (gS w hw)]; exact ⟨rfl, rfl⟩)
    sd := fun w hw => by rw [gf, if_neg (gS w hw)]; exact h.sd w hw
    hd := fun e he => by
      rcases List.mem_cons.1 he with rfl | he
      · simp only; omega
      · exact h.hd e he
    pnd := fun w a b c => by
      by_cases e : w = v
      · subst e
        rw [gf, if_pos rfl]
        simp
      · rw [gf, if_neg e] at b ⊢
        exact List.mem_cons_of_mem _ (h.pnd w a b c)
    ent := fun e he => by
      rcases List.mem_cons.1 he with rfl | he
      · simp only [Int.toNat_natCast]
        rw [gf, if_pos rfl]
        exact ⟨⟨by omega, by omega⟩, by omega, hdn, fun hm => absurd hm hvS⟩
      · have := h.ent e he
        refine ⟨this.1, ?_, this.2.2.1, fun hm => ?_⟩
        · rw [gf]
          split
          · rename_i e1; rw [e1] at this; omega
          · exact this.2.1
        · rw [gf, if_neg (gS _ hm)]
          exact this.2.2.2 hm
    hn := List.nodup_cons.2 ⟨fun hm => by
      have := (h.ent _ hm).2.1
      simp only [Int.toNat_natCast] at this
      omega, h.hn⟩
    bel := fun j a b c e => by
      rw [gf (G.frA j), if_neg (gS _ b), gf]
      by_cases hjk : j = k
      · subst hjk
        rw [hvv, if_pos rfl, hu]
        omega
      · have := h.bel j a b c (fun e' => (hx j a e').elim e hjk)
        split
        · rename_i e1; rw [e1] at this; omega
        · exact this
    fin := by
      rcases h.fin with h1 | ⟨t, e1, e2, e3, e4, e5⟩
      · exact .inl h1
      · refine .inr ⟨t, e1, e2, e3, e4, fun w hw hl => ?_⟩
        rw [gf, gf, if_neg (gS t e4)]
        split
        · have := h.sd t e4
          omega
        · exact e5 w hw hl }
end
structure NR (G : Gr) (n : Nat) (p fa vi : List Int) (en : Int) : Prop where
  l1 : fa.length = n
  l2 : vi.length = n
  top : ∀ v, v < n → 0 ≤ fa.getD v 0 ∧ fa.getD v 0 ≤ never
  src : ∀ v, v < n → 0 < G.lf v → fa.getD v 0 = 0
  via : ∀ v, v < n → -1 ≤ vi.getD v 0 ∧ vi.getD v 0 < G.es.length
  up : ∀ v, v < n → fa.getD v 0 < never → fa.getD v 0 + p.getD v 0 ≤ 1048576 * (n - 1 : Int)
  bel : ∀ k, k < G.es.length → fa.getD (G.frA k) 0 < never → 0 < G.room k → fa.getD (G.toA k) 0 ≤ fa.getD (G.frA k) 0 + G.rc p k ∧ fa.getD (G.toA k) 0 < never
  ch : ∃ S : List Nat, S.Nodup ∧ (∀ v, v < n → (v ∈ S ↔ fa.getD v 0 < never)) ∧ (∀ v, v ∈ S → v < n) ∧ Chn G p fa vi S
  fin : (en = -1 ∧ ∀ v, v < n → fa.getD v 0 < never → 0 ≤ G.lf v) ∨ ∃ t : Nat, en = (t : Int) ∧ t < n ∧ G.lf t < 0 ∧ fa.getD t 0 < never ∧ ∀ v, v < n → G.lf v < 0 → fa.getD t 0 ≤ fa.getD v 0
theorem NI.done {G : Gr} {n : Nat} {p fa vi : List Int} {S : List Nat} {en ds : Int} (hG : G.Ok n) (hp : G.Pot n p) (h : NI G n p fa vi [] S en ds (fun _ => False)) : NR G n p fa vi en := by
  have hS : ∀ v, v < n → (v ∈ S ↔ fa.getD v 0 < never) := fun v hv => ⟨fun hm => (h.sd v hm).2, fun hl => Decidable.byContradiction fun hn => by have := h.pnd v hv hl hn; simp at this⟩
  have hup : ∀ v, v < n → fa.getD v 0 < never → fa.getD v 0 + p.getD v 0 ≤ 1048576 * (n - 1 : Int) := fun v hv hl => by
    have h1 := Chn.up hG hp h.chn h.sl v ((hS v hv).2 hl)
    have h2 := h.slen
    have := hG.n1
    omega
  exact
  { l1 := h.l1, l2 := h.l2, top := h.top, src := h.src
    via := fun v hv => ⟨(h.via v hv).1, (h.via v hv).2.1⟩
    up := hup
    bel := fun k hk hl hr => by
      have h1 := h.bel k hk ((hS _ (hG.frL hk)).2 hl) hr (fun f => f)
      refine ⟨h1, ?_⟩
      have h2 := hup _ (hG.frL hk) hl
      have h3 := hp.bd _ (hG.frL hk)
      have h4 := hp.bd _ (hG.toL hk)
      have h5 := hG.cb k hk
      have := hG.n1
      unfold Gr.rc at h1
      unfold never
      omega
    ch := ⟨S, h.sn, hS, h.sl, h.chn⟩
    fin := by
      rcases h.fin with ⟨e1, e2⟩ | ⟨t, e1, e2, e3, e4, e5⟩
      · exact .inl ⟨e1, fun v hv hl => e2 v ((hS v hv).2 hl)⟩
      · exact .inr ⟨t, e1, e2, e3, (hS t e2).1 e4, e5⟩ }
theorem NI.start {G : Gr} {n : Nat} {p fa vi : List Int} {H : List Vs} (l1 : fa.length = n) (l2 : vi.length = n) (hf : ∀ v, v < n → fa.getD v 0 = if 0 < G.lf v then 0 else never) (hv : ∀ v, v < n → vi.getD v 0 = -1)
    (h1 : ∀ e, e ∈ H → e.2 = 0 ∧ ∃ v : Nat, e.1 = (v : Int) ∧ v < n ∧ 0 < G.lf v) (h2 : ∀ v : Nat, v < n → 0 < G.lf v → ((v : Int), (0 : Int)) ∈ H) (hn : H.Nodup) : NI G n p fa vi H [] (-1) 0 (fun _ => False) := by
  have hs : ∀ v, v < n → fa.getD v 0 < never → 0 < G.lf v := fun v hv hl => by
    rw [hf v hv] at hl
    split at hl
    · assumption
    · omega
  exact
  { l1 := l1, l2 := l2, sn := List.nodup_nil, sl := fun v h => by simp at h, d0 := by omega
    top := fun v hv => by rw [hf v hv]; unfold never; split <;> omega
    src := fun v hv hl => by rw [hf v hv, if_pos hl]
    via := fun v h => by rw [hv v h]; omega
    lnk := fun v a b => .inl ⟨hs v a b, by rw [hf v a, if_pos (hs v a b)], hv v a⟩
    chn := trivial
    sd := fun v h => by simp at h
    hd := fun e he => by have := (h1 e he).1; omega
    pnd := fun v a b _ => by rw [hf v a, if_pos (hs v a b)]; exact h2 v a (hs v a b)
    ent := fun e he => by
      obtain ⟨e2, v, e1, e3, e4⟩ := h1 e he
      rw [e1, e2, Int.toNat_natCast, hf v e3, if_pos e4]
      refine ⟨⟨by omega, by omega⟩, by omega, by unfold never; omega, fun h => by simp at h⟩
    hn := hn
    bel := fun k _ h => by simp at h
    fin := .inl ⟨rfl, fun v h => by simp at h⟩ }
end Dp
end Go.Proofs.Ytmebpglkeedaoaa
namespace Go.Proofs.Ytmebpglkeedaoaa
namespace Dp
def farI (G : Gr) (n k : Nat) : List Int := (List.range n).map fun v => if v < k then (if 0 < G.lf v then 0 else never) else 0
def viaI (n k : Nat) : List Int := (List.range n).map fun v => if v < k then -1 else 0
theorem farI_len (G : Gr) (n k : Nat) : (farI G n k).length = n := by simp [farI]
theorem viaI_len (n k : Nat) : (viaI n k).length = n := by simp [viaI]
theorem farI_get {G : Gr} {n k v : Nat} (hv : v < n) : (farI G n k).getD v 0 = if v < k then (if 0 < G.lf v then 0 else never) else 0 := by
  simp [farI, List.getD_eq_getElem?_getD, hv]
theorem viaI_get {n k v : Nat} (hv : v < n) : (viaI n k).getD v 0 = if v < k then -1 else 0 := by
  simp [viaI, List.getD_eq_getElem?_getD, hv]
theorem list_eq {a b : List Int} (hl : a.length = b.length) (h : ∀ v, v < b.length → a.getD v 0 = b.getD v 0) : a = b := by
  apply List.ext_getElem hl
  intro i h1 h2
  have := h i h2
  simpa [List.getD_eq_getElem?_getD, h1, h2] using this
theorem farI_zero (G : Gr) (n : Nat) : List.replicate n 0 = farI G n 0 := by
  refine list_eq (by simp [farI_len]) (fun v hv => ?_)
  rw [farI_len] at hv
  rw [farI_get hv]
  simp [List.getD_eq_getElem?_getD, hv]
theorem viaI_zero (n : Nat) : List.replicate n 0 = viaI n 0 := by
  refine list_eq (by simp [viaI_len]) (fun v hv => ?_)
  rw [viaI_len] at hv
  rw [viaI_get hv]
  simp [List.getD_eq_getElem?_getD, hv]
theorem farI_succ (G : Gr) (n k : Nat) (hk : k < n) : (farI G n k).set k (if 0 < G.lf k then 0 else never) = farI G n (k + 1) := by
  refine list_eq (by simp [farI_len]) (fun v hv => ?_)
  rw [farI_len] at hv
  rw [getD_setI _ _ _ _ (by rw [farI_len]; exact hk), farI_get hv, farI_get hv]
  by_cases e : v = k
  · subst e; rw [if_pos rfl, if_pos (Nat.lt_succ_self v)]
  · rw [if_neg e]
    by_cases h : v < k
    · rw [if_pos h, if_pos (show v < k + 1 by omega)]
    · rw [if_neg h, if_neg (show ¬ v < k + 1 by omega)]
theorem viaI_succ (n k : Nat) (hk : k < n) : (viaI n k).set k (-1) = viaI n (k + 1) := by
  refine list_eq (by simp [viaI_len]) (fun v hv => ?_)
  rw [viaI_len] at hv
  rw [getD_setI _ _ _ _ (by rw [viaI_len]; exact hk), viaI_get hv, viaI_get hv]
  by_cases e : v = k
  · subst e; rw [if_pos rfl, if_pos (Nat.lt_succ_self v)]
  · rw [if_neg e]
    by_cases h : v < k
    · rw [if_pos h, if_pos (show v < k + 1 by omega)]
    · rw [if_neg h, if_neg (show ¬ v < k + 1 by omega)]
def StI (G : Gr) (k : Nat) (H : List Vs) : Prop := (∀ e, e ∈ H → e.2 = 0 ∧ ∃ v : Nat, e.1 = (v : Int) ∧ v < k ∧ 0 < G.lf v) ∧ (∀ v : Nat, v < k → 0 < G.lf v → ((v : Int), (0 : Int)) ∈ H) ∧ H.Nodup ∧ Heap H ∧ H.length ≤ k
theorem StI.start (G : Gr) : StI G 0 [] := ⟨fun e h => by simp at h, fun v h => absurd h (Nat.not_lt_zero _), List.nodup_nil, heap_nil, Nat.le_refl _⟩
theorem StI.no {G : Gr} {k : Nat} {H : List Vs} (h : StI G k H) (hl : ¬ 0 < G.lf k) : StI G (k + 1) H :=
  ⟨fun e he => by obtain ⟨a, v, b, c, d⟩ := h.1 e he; exact ⟨a, v, b, by omega, d⟩, fun v hv hl' => by
    rcases (show v < k ∨ v = k by omega) with h1 | rfl
    · exact h.2.1 v h1 hl'
    · exact absurd hl' hl, h.2.2.1, h.2.2.2.1, by have := h.2.2.2.2; omega⟩
theorem StI.yes {G : Gr} {k : Nat} {H H' : List Vs} (h : StI G k H) (hl : 0 < G.lf k) (hp : H'.Perm (((k : Int), (0 : Int)) :: H)) (hh : Heap H') : StI G (k + 1) H' := by
  refine ⟨fun e he => ?_, fun v hv hl' => ?_, ?_, hh, ?_⟩
  · rcases List.mem_cons.1 (hp.mem_iff.1 he) with rfl | he
    · exact ⟨rfl, k, rfl, by omega, hl⟩
    · obtain ⟨a, v, b, c, d⟩ := h.1 e he; exact ⟨a, v, b, by omega, d⟩
  · rw [hp.mem_iff]
    rcases (show v < k ∨ v = k by omega) with h1 | rfl
    · exact List.mem_cons_of_mem _ (h.2.1 v h1 hl')
    · simp
  · rw [hp.nodup_iff, List.nodup_cons]
    refine ⟨fun hm => ?_, h.2.2.1⟩
    obtain ⟨_, v, b, c, _⟩ := h.1 _ hm
    simp only at b
    omega
  · have := hp.length_eq
    have := h.2.2.2.2
    simp at *
    omega
theorem StI.ni {G : Gr} {n : Nat} {p : List Int} {H : List Vs} (h : StI G n H) : NI G n p (farI G n n) (viaI n n) H [] (-1) 0 (fun _ => False) :=
  NI.start (farI_len _ _ _) (viaI_len _ _) (fun v hv => by rw [farI_get hv, if_pos hv]) (fun v hv => by rw [viaI_get hv, if_pos hv]) h.1 h.2.1 h.2.2.1
theorem sum_set : ∀ (l : List Int) (i : Nat) (d : Int), i < l.length → sum (l.set i d) = sum l - l.getD i 0 + d
  | [], _, _, h => absurd h (Nat.not_lt_zero _)
  | x :: l, 0, d, _ => by simp [sum]; omega
  | x :: l, i + 1, d, h => by
    have := sum_set l i d (by simpa using h)
    simp only [List.set_cons_succ, sum, List.getD_cons_succ, this]
    omega
theorem sum_nn {l : List Int} (h : ∀ v, v < l.length → 0 ≤ l.getD v 0) : 0 ≤ sum l := sum_nonneg l (fun x hx => by
  obtain ⟨i, hi, rfl⟩ := List.getElem_of_mem hx
  simpa [List.getD_eq_getElem?_getD, hi] using h i hi)
def mu (fa : List Int) (H : List Vs) : Nat := 2 * (sum fa).toNat + H.length
theorem mu_relax {fa : List Int} {H H' : List Vs} {v : Nat} {d : Int} {e : Vs} (hv : v < fa.length) (h0 : ∀ j, j < fa.length → 0 ≤ fa.getD j 0) (hd : 0 ≤ d) (hlt : d < fa.getD v 0) (hp : H'.Perm (e :: H)) : mu (fa.set v d) H' ≤ mu fa H := by
  have h1 := sum_set fa v d hv
  have h2 := sum_nn h0
  have h3 : 0 ≤ sum (fa.set v d) := sum_nn (fun j hj => by
    rw [List.length_set] at hj
    rw [getD_setI fa v j d hv]
    split
    · exact hd
    · exact h0 j hj)
  have h4 := hp.length_eq
  unfold mu
  simp only [List.length_cons] at h4
  omega
theorem mu_pop {fa : List Int} {H R : List Vs} {e : Vs} (hp : (e :: R).Perm H) : mu fa R + 1 = mu fa H := by
  have h4 := hp.length_eq
  unfold mu
  simp only [List.length_cons] at h4
  omega
def exJ (l : List Int) (j : Nat) (k : Nat) : Prop := (k : Int) ∈ l.drop j
theorem exJ_step {l : List Int} {j k : Nat} (hj : j < l.length) (hk : l.getD j 0 = (k : Int)) (i : Nat) (h : exJ l j i) : exJ l (j + 1) i ∨ i = k := by
  unfold exJ at *
  rw [List.drop_eq_getElem_cons hj] at h
  have : l[j] = (k : Int) := by simpa [List.getD_eq_getElem?_getD, hj] using hk
  rw [this] at h
  rcases List.mem_cons.1 h with h | h
  · right; omega
  · exact .inl h
theorem exJ_end {l : List Int} {k : Nat} (h : exJ l l.length k) : False := by unfold exJ at h; simp at h
theorem edge_at {G : Gr} {n : Nat} (hG : G.Ok n) {u j : Nat} (hu : u < n) (hj : j < (G.outs.getD u []).length) : ∃ k : Nat, (G.outs.getD u []).getD j 0 = (k : Int) ∧ k < G.es.length ∧ G.frA k = u := by
  have hm : (G.outs.getD u []).getD j 0 ∈ G.outs.getD u [] := by
    rw [List.getD_eq_getElem?_getD (l := G.outs.getD u []), List.getElem?_eq_getElem hj]
    exact List.getElem_mem hj
  have h1 := hG.o1 u hu _ hm
  exact ⟨((G.outs.getD u []).getD j 0).toNat, by omega, by omega, h1.2.2⟩
end Dp
end Go.Proofs.Ytmebpglkeedaoaa
namespace Go.Proofs.Ytmebpglkeedaoaa
namespace Dp
def potOk (x : Int) : Bool := decide (-1073741824 ≤ x ∧ x ≤ 1073741824)
def prS (N : Net) (ps : List Int) : Nat → Int
  | 0 => 0
  | k + 1 => prS N ps k - ps.getD k 0 * N.sup.getD k 0
def prW (a : Arc) (ps : List Int) : Int := a.cap * min 0 (a.cost + ps.getD a.fr.toNat 0 - ps.getD a.to.toNat 0)
def prA (N : Net) (ps : List Int) : Nat → Int
  | 0 => prS N ps N.sup.length
  | k + 1 => prA N ps k + prW (N.arcs.getD k default) ps
def prE (N : Net) (ps : List Int) : Int := if chE N = 0 then (if ps.length = N.sup.length then (if ps.all potOk = true then 0 else 3) else 20) else chE N
def prV (N : Net) (ps : List Int) : Int := if prE N ps = 0 then prA N ps N.arcs.length else 0
theorem pr_ch {N : Net} {ps : List Int} (h : chE N ≠ 0) : prE N ps = chE N ∧ prV N ps = 0 := by simp [prE, prV, h]
theorem pr_len {N : Net} {ps : List Int} (h : chE N = 0) (hl : ps.length ≠ N.sup.length) : prE N ps = 20 ∧ prV N ps = 0 := by simp [prE, prV, h, hl]
theorem pr_no {N : Net} {ps : List Int} (h : chE N = 0) (hl : ps.length = N.sup.length) (k : Nat) (hk : k < ps.length) (hp : potOk (ps.getD k 0) = false) : prE N ps = 3 ∧ prV N ps = 0 := by
  have : ps.all potOk = false := by
    cases hb : ps.all potOk
    · rfl
    · have := (getD_all (α := Int)).1 hb k hk
      rw [show (default : Int) = 0 from rfl, hp] at this
      cases this
  simp [prE, prV, h, hl, this]
theorem pr_yes {N : Net} {ps : List Int} (h : chE N = 0) (hl : ps.length = N.sup.length) (hp : ∀ k, k < ps.length → potOk (ps.getD k 0) = true) : prE N ps = 0 ∧ prV N ps = prA N ps N.arcs.length := by
  have : ps.all potOk = true := (getD_all (α := Int)).2 hp
  simp [prE, prV, h, hl, this]
theorem potOk_iff {x : Int} : potOk x = true ↔ -1073741824 ≤ x ∧ x ≤ 1073741824 := by simp [potOk]
theorem net_abs {N : Net} (h : chE N = 0) : sum (N.sup.map abs) ≤ 268435456 := by
  have h2 := (chE_zero h).2
  simp only [okB, Bool.and_eq_true, decide_eq_true_eq] at h2
  exact h2.2.2.2
theorem sum_take_le : ∀ (l : List Int) (k : Nat), (∀ x, x ∈ l → 0 ≤ x) → sum (l.take k) ≤ sum l
  | [], k, _ => by simp [sum]
  | x :: l, 0, h => by have := sum_nonneg (x :: l) h; simpa [sum] using this
  | x :: l, k + 1, h => by
    have := sum_take_le l k (fun y hy => h y (by simp [hy]))
    simp only [List.take_succ_cons, sum]
    omega
theorem mul_abs {p s P : Int} (hp : -P ≤ p ∧ p ≤ P) : -(P * abs s) ≤ p * s ∧ p * s ≤ P * abs s := by
  unfold abs
  rcases Int.le_total 0 s with h | h
  · rw [Int.max_eq_left (by omega)]
    have h1 := Int.mul_le_mul_of_nonneg_right hp.1 h
    have h2 := Int.mul_le_mul_of_nonneg_right hp.2 h
    rw [Int.neg_mul] at h1
    exact ⟨h1, h2⟩
  · rw [Int.max_eq_right (by omega)]
    have h0 : 0 ≤ -s := by omega
    have h1 := Int.mul_le_mul_of_nonneg_right hp.1 h0
    have h2 := Int.mul_le_mul_of_nonneg_right hp.2 h0
    rw [Int.mul_neg, Int.mul_neg] at h2
    rw [Int.neg_mul, Int.mul_neg, Int.mul_neg] at h1
    rw [Int.mul_neg]
    omega
theorem prS_bd {N : Net} {ps : List Int} : ∀ k : Nat, k ≤ N.sup.length → (∀ j, j < k → potOk (ps.getD j 0) = true) →
    -(1073741824 * sum ((N.sup.map abs).take k)) ≤ prS N ps k ∧ prS N ps k ≤ 1073741824 * sum ((N.sup.map abs).take k)
  | 0, _, _ => by simp [prS, sum]
  | k + 1, hk, hp => by
    have ih := prS_bd (N := N) (ps := ps) k (by omega) (fun j hj => hp j (by omega))
    have h1 := sum_take (N.sup.map abs) k (by rw [List.length_map]; omega)
    rw [getD_map abs N.sup k (by omega)] at h1
    have h2 := mul_abs (s := N.sup.getD k 0) (potOk_iff.1 (hp k (by omega)))
    simp only [prS]
    rw [h1, Int.mul_add]
    omega
theorem prS_bd2 {N : Net} {ps : List Int} (h : chE N = 0) (k : Nat) (hk : k ≤ N.sup.length) (hp : ∀ j, j < k → potOk (ps.getD j 0) = true) :
    -288230376151711744 ≤ prS N ps k ∧ prS N ps k ≤ 288230376151711744 := by
  have h1 := prS_bd (N := N) (ps := ps) k hk hp
  have h2 := sum_take_le (N.sup.map abs) k (fun x hx => by
    obtain ⟨y, _, rfl⟩ := List.mem_map.1 hx
    unfold abs; omega)
  have h3 := net_abs h
  omega
theorem prW_bd {a : Arc} {ps : List Int} (hc : 0 ≤ a.cap ∧ a.cap ≤ 1048576) (ho : -1048576 ≤ a.cost ∧ a.cost ≤ 1048576) (h1 : potOk (ps.getD a.fr.toNat 0) = true) (h2 : potOk (ps.getD a.to.toNat 0) = true) :
    -2252899325313024 ≤ prW a ps ∧ prW a ps ≤ 0 := by
  have h1 := potOk_iff.1 h1
  have h2 := potOk_iff.1 h2
  unfold prW
  generalize hm : min 0 (a.cost + ps.getD a.fr.toNat 0 - ps.getD a.to.toNat 0) = z
  have hz : -2148532224 ≤ z ∧ z ≤ 0 := by omega
  have q1 := Int.mul_le_mul_of_nonneg_left hz.1 hc.1
  have q2 := Int.mul_le_mul_of_nonneg_left hz.2 hc.1
  omega
theorem prA_bd {N : Net} {ps : List Int} (h : chE N = 0) (hl : ps.length = N.sup.length) (hp : ∀ j, j < ps.length → potOk (ps.getD j 0) = true) : ∀ k : Nat, k ≤ N.arcs.length →
    -(288230376151711744 + 2252899325313024 * k : Int) ≤ prA N ps k ∧ prA N ps k ≤ 288230376151711744
  | 0, _ => by
    have := prS_bd2 h N.sup.length (Nat.le_refl _) (fun j hj => hp j (by omega))
    simp only [prA]
    omega
  | k + 1, hk => by
    have ih := prA_bd h hl hp k (by omega)
    obtain ⟨a1, a2, a3, a4, a5⟩ := net_arc h k (by omega)
    have := prW_bd (ps := ps) a4 a5 (hp _ (by omega)) (hp _ (by omega))
    simp only [prA]
    rw [Int.natCast_add]
    omega
end Dp
end Go.Proofs.Ytmebpglkeedaoaa
namespace Go.Proofs.Ytmebpglkeedaoaa
namespace Dp
def cutAt (n : Nat) (c : List Int) (k : Nat) : Bool := decide (0 ≤ c.getD k 0 ∧ c.getD k 0 < n ∧ (0 < k → c.getD (k - 1) 0 < c.getD k 0))
def cutB (n : Nat) (c : List Int) : Bool := (List.range c.length).all (cutAt n c)
def inK (c : List Int) (k : Nat) (i : Int) : Bool := decide (i ∈ c.take k)
def lkS (N : Net) (c : List Int) : Nat → Int
  | 0 => 0
  | k + 1 => lkS N c k + N.sup.getD (c.getD k 0).toNat 0
def lkR (N : Net) (c : List Int) (k : Nat) : Nat → Int
  | 0 => 0
  | j + 1 => lkR N c k j + if inK c k j = true then N.sup.getD j 0 else 0
def lkA (N : Net) (c : List Int) : Nat → Int
  | 0 => lkS N c c.length
  | k + 1 => lkA N c k - if inK c c.length (N.arcs.getD k default).fr = true ∧ inK c c.length (N.arcs.getD k default).to = false then (N.arcs.getD k default).cap else 0
def lkE (N : Net) (c : List Int) : Int := if chE N = 0 then (if cutB N.sup.length c = true then 0 else 3) else chE N
def lkV (N : Net) (c : List Int) : Int := if lkE N c = 0 then max 0 (lkA N c N.arcs.length) else 0
theorem cutAt_iff {n : Nat} {c : List Int} {k : Nat} : cutAt n c k = true ↔ 0 ≤ c.getD k 0 ∧ c.getD k 0 < n ∧ (0 < k → c.getD (k - 1) 0 < c.getD k 0) := by simp only [cutAt, decide_eq_true_eq]
theorem cutB_iff {n : Nat} {c : List Int} : cutB n c = true ↔ ∀ k, k < c.length → cutAt n c k = true := by simp only [cutB, List.all_eq_true, List.mem_range]
theorem lk_ch {N : Net} {c : List Int} (h : chE N ≠ 0) : lkE N c = chE N ∧ lkV N c = 0 := by simp [lkE, lkV, h]
theorem lk_no {N : Net} {c : List Int} (h : chE N = 0) (k : Nat) (hk : k < c.length) (hc : cutAt N.sup.length c k = false) : lkE N c = 3 ∧ lkV N c = 0 := by
  have : cutB N.sup.length c = false := by
    cases hb : cutB N.sup.length c
    · rfl
    · rw [cutB_iff.1 hb k hk] at hc; cases hc
  simp [lkE, lkV, h, this]
theorem lk_yes {N : Net} {c : List Int} (h : chE N = 0) (hc : ∀ k, k < c.length → cutAt N.sup.length c k = true) : lkE N c = 0 ∧ lkV N c = max 0 (lkA N c N.arcs.length) := by
  have : cutB N.sup.length c = true := cutB_iff.2 hc
  simp [lkE, lkV, h, this]
theorem cut_ge {n : Nat} {c : List Int} : ∀ k : Nat, (∀ j, j ≤ k → cutAt n c j = true) → (k : Int) ≤ c.getD k 0
  | 0, h => (cutAt_iff.1 (h 0 (Nat.le_refl _))).1
  | k + 1, h => by
    have h1 := cut_ge k (fun j hj => h j (by omega))
    have h2 := (cutAt_iff.1 (h (k + 1) (Nat.le_refl _))).2.2 (by omega)
    simp only [Nat.add_sub_cancel] at h2
    omega
theorem cut_lt {n : Nat} {c : List Int} (k : Nat) (h : ∀ j, j < k → cutAt n c j = true) : k ≤ n := by
  cases k with
  | zero => exact Nat.zero_le _
  | succ k =>
    have h1 := cut_ge k (fun j hj => h j (by omega))
    have h2 := (cutAt_iff.1 (h k (by omega))).2.1
    omega
theorem lkS_bd {N : Net} {c : List Int} (h : chE N = 0) : ∀ k : Nat, (∀ j, j < k → cutAt N.sup.length c j = true) → -(268435456 * k : Int) ≤ lkS N c k ∧ lkS N c k ≤ 268435456 * k
  | 0, _ => by simp [lkS]
  | k + 1, hc => by
    have ih := lkS_bd h k (fun j hj => hc j (by omega))
    have h1 := cutAt_iff.1 (hc k (by omega))
    have h2 := net_sup h (c.getD k 0).toNat (by omega)
    simp only [lkS]
    rw [Int.natCast_add]
    omega
theorem inK_succ {c : List Int} {k : Nat} (hk : k < c.length) (i : Int) : inK c (k + 1) i = (inK c k i || decide (i = c.getD k 0)) := by
  unfold inK
  rw [List.take_succ_eq_append_getElem hk]
  have : c.getD k 0 = c[k] := by simp [List.getD, hk]
  rw [this]
  simp only [List.mem_append, List.mem_singleton]
  by_cases h1 : i ∈ c.take k <;> by_cases h2 : i = c[k] <;> simp [h1, h2]
theorem cut_mono {n : Nat} {c : List Int} {j : Nat} : ∀ k : Nat, (∀ x, x ≤ k → cutAt n c x = true) → j < k → c.getD j 0 < c.getD k 0
  | 0, _, h => absurd h (Nat.not_lt_zero _)
  | k + 1, hc, h => by
    have h2 := (cutAt_iff.1 (hc (k + 1) (Nat.le_refl _))).2.2 (by omega)
    simp only [Nat.add_sub_cancel] at h2
    by_cases hj : j = k
    · subst hj; exact h2
    · have := cut_mono k (fun x hx => hc x (by omega)) (show j < k by omega)
      omega
theorem cut_new {n : Nat} {c : List Int} {k : Nat} (hk : k < c.length) (hc : ∀ x, x ≤ k → cutAt n c x = true) : inK c k (c.getD k 0) = false := by
  unfold inK
  rw [decide_eq_false_iff_not]
  intro hm
  obtain ⟨j, hj, e⟩ := List.getElem_of_mem hm
  simp only [List.length_take] at hj
  rw [List.getElem_take] at e
  have h1 := cut_mono k hc (show j < k by omega)
  have : c.getD j 0 = c[j] := by simp [List.getD, show j < c.length by omega]
  rw [this, e] at h1
  omega
theorem lkR_zero (N : Net) (c : List Int) : ∀ j, lkR N c 0 j = 0
  | 0 => rfl
  | j + 1 => by simp [lkR, lkR_zero N c j, inK]
theorem lkR_succ {N : Net} {n : Nat} {c : List Int} {k : Nat} (hk : k < c.length) (hc : ∀ x, x ≤ k → cutAt n c x = true) : ∀ j : Nat, lkR N c (k + 1) j = lkR N c k j + if (c.getD k 0).toNat < j then N.sup.getD (c.getD k 0).toNat 0 else 0
  | 0 => by simp [lkR]
  | j + 1 => by
    have ih := lkR_succ (N := N) hk hc j
    have h0 := (cutAt_iff.1 (hc k (Nat.le_refl _))).1
    have hn := cut_new hk hc
    simp only [lkR]
    rw [ih, inK_succ hk]
    by_cases he : (j : Int) = c.getD k 0
    · have e2 : (c.getD k 0).toNat = j := by omega
      rw [← he] at hn
      rw [e2, hn, he]
      simp
    · have e2 : (c.getD k 0).toNat ≠ j := by omega
      simp only [he, decide_false, Bool.or_false]
      by_cases h3 : (c.getD k 0).toNat < j
      · rw [if_pos h3, if_pos (show (c.getD k 0).toNat < j + 1 by omega)]; omega
      · rw [if_neg h3, if_neg (show ¬ (c.getD k 0).toNat < j + 1 by omega)]; omega
theorem lkR_eq {N : Net} {c : List Int} : ∀ k : Nat, k ≤ c.length → (∀ x, x < k → cutAt N.sup.length c x = true) → lkR N c k N.sup.length = lkS N c k
  | 0, _, _ => by simp [lkR_zero, lkS]
  | k + 1, hk, hc => by
    have h1 := cutAt_iff.1 (hc k (by omega))
    rw [lkR_succ (n := N.sup.length) (by omega) (fun x hx => hc x (by omega)), lkR_eq k (by omega) (fun x hx => hc x (by omega)), if_pos (by omega)]
    rfl
end Dp
end Go.Proofs.Ytmebpglkeedaoaa
namespace Go.Proofs.Ytmebpglkeedaoaa
namespace Dp
def dotN (q g : Nat → Int) : Nat → Int
  | 0 => 0
  | n + 1 => dotN q g n + q n * g n
theorem dot_congr {q g h : Nat → Int} : ∀ n : Nat, (∀ v, v < n → g v = h v) → dotN q g n = dotN q h n
  | 0, _ => rfl
  | n + 1, e => by simp only [dotN]; rw [dot_congr n (fun v hv => e v (by omega)), e n (by omega)]
theorem dot_add (q g h : Nat → Int) : ∀ n : Nat, dotN q (fun v => g v + h v) n = dotN q g n + dotN q h n
  | 0 => rfl
  | n + 1 => by simp only [dotN]; rw [dot_add q g h n, Int.mul_add]; omega
theorem dot_sub (q g h : Nat → Int) : ∀ n : Nat, dotN q (fun v => g v - h v) n = dotN q g n - dotN q h n
  | 0 => rfl
  | n + 1 => by simp only [dotN]; rw [dot_sub q g h n, Int.mul_sub]; omega
theorem dot_at (q : Nat → Int) (a : Nat) (x : Int) : ∀ n : Nat, dotN q (fun v => if v = a then x else 0) n = if a < n then q a * x else 0
  | 0 => rfl
  | n + 1 => by
    simp only [dotN]
    rw [dot_at q a x n]
    by_cases h : n = a
    · subst h; rw [if_neg (Nat.lt_irrefl n), if_pos rfl, if_pos (by omega)]; omega
    · rw [if_neg h]
      by_cases h2 : a < n
      · rw [if_pos h2, if_pos (by omega)]; simp
      · rw [if_neg h2, if_neg (by omega)]; simp
theorem dot_le {q g : Nat → Int} : ∀ n : Nat, (∀ v, v < n → 0 ≤ q v * g v) → 0 ≤ dotN q g n
  | 0, _ => Int.le_refl _
  | n + 1, h => by
    have := dot_le (q := q) (g := g) n (fun v hv => h v (by omega))
    have := h n (by omega)
    simp only [dotN]; omega
def frN (N : Net) (j : Nat) : Nat := (N.arcs.getD j default).fr.toNat
def toN (N : Net) (j : Nat) : Nat := (N.arcs.getD j default).to.toNat
def lv (N : Net) (f : Nat → Int) : Nat → Nat → Int
  | 0, v => N.sup.getD v 0
  | k + 1, v => lv N f k v + (if v = toN N k then f k else 0) - (if v = frN N k then f k else 0)
def arcS (f g : Nat → Int) : Nat → Int
  | 0 => 0
  | k + 1 => arcS f g k + f k * g k
theorem arc_congr {f g h : Nat → Int} : ∀ k : Nat, (∀ j, j < k → f j * g j = h j) → arcS f g k = arcS (fun _ => 1) h k
  | 0, _ => rfl
  | k + 1, e => by simp only [arcS]; rw [arc_congr k (fun j hj => e j (by omega)), e k (by omega)]; omega
theorem arc_le {f g h : Nat → Int} : ∀ k : Nat, (∀ j, j < k → h j ≤ f j * g j) → arcS (fun _ => 1) h k ≤ arcS f g k
  | 0, _ => Int.le_refl _
  | k + 1, e => by
    have := arc_le (f := f) (g := g) (h := h) k (fun j hj => e j (by omega))
    have := e k (by omega)
    simp only [arcS]; omega
theorem arc_sub (f g h : Nat → Int) : ∀ k : Nat, arcS f (fun j => g j - h j) k = arcS f g k - arcS f h k
  | 0 => rfl
  | k + 1 => by simp only [arcS]; rw [arc_sub f g h k, Int.mul_sub]; omega
theorem lv_dot {N : Net} (h : chE N = 0) (q f : Nat → Int) : ∀ k : Nat, k ≤ N.arcs.length → dotN q (lv N f k) N.sup.length = dotN q (fun v => N.sup.getD v 0) N.sup.length + arcS f (fun j => q (toN N j) - q (frN N j)) k
  | 0, _ => by simp only [arcS, Int.add_zero]; rfl
  | k + 1, hk => by
    obtain ⟨a1, a2, _⟩ := net_arc h k (by omega)
    have e1 : lv N f (k + 1) = fun v => (lv N f k v + (if v = toN N k then f k else 0)) - (if v = frN N k then f k else 0) := rfl
    rw [e1, dot_sub, dot_add, lv_dot h q f k (by omega), dot_at, dot_at, if_pos (by unfold toN; omega), if_pos (by unfold frN; omega)]
    simp only [arcS]
    rw [Int.mul_sub, Int.mul_comm (f k) (q (toN N k)), Int.mul_comm (f k) (q (frN N k))]
    omega
theorem mv_get (l : List Int) (i d : Int) (hi : i.toNat < l.length) (v : Nat) : (mv l i d).getD v 0 = l.getD v 0 + if v = i.toNat then d else 0 := by
  unfold mv
  rw [getD_setI _ _ _ _ hi]
  split
  · rename_i e; rw [e]
  · omega
theorem leftK_lv {N : Net} (h : chE N = 0) (fl : List Int) : ∀ k : Nat, k ≤ N.arcs.length → ∀ v, (leftK N fl k).getD v 0 = lv N (fun j => fl.getD j 0) k v
  | 0, _, v => rfl
  | k + 1, hk, v => by
    obtain ⟨a1, a2, _⟩ := net_arc h k (by omega)
    have hl := leftK_length N fl k
    simp only [leftK, lv]
    rw [mv_get _ _ _ (by rw [mv_length, hl]; omega), mv_get _ _ _ (by rw [hl]; omega), leftK_lv h fl k (by omega) v]
    unfold toN frN
    split <;> split <;> omega
theorem lv_change {N : Net} {f f' : Nat → Int} {i : Nat} {d : Int} (hi : f' i = f i + d) (ho : ∀ j, j ≠ i → f' j = f j) : ∀ (k : Nat) (v : Nat), lv N f' k v = lv N f k v + if i < k then ((if v = toN N i then d else 0) - (if v = frN N i then d else 0)) else 0
  | 0, v => by simp [lv]
  | k + 1, v => by
    simp only [lv]
    rw [lv_change hi ho k v]
    by_cases h : k = i
    · subst h
      rw [if_neg (Nat.lt_irrefl k), if_pos (Nat.lt_succ_self k), hi]
      split <;> split <;> omega
    · rw [ho k h]
      by_cases h2 : i < k
      · rw [if_pos h2, if_pos (show i < k + 1 by omega)]; omega
      · rw [if_neg h2, if_neg (show ¬ i < k + 1 by omega)]; omega
theorem flow_left {N : Net} {fl : List Int} (h : chE N = 0) (hf : isFlow N fl = true) : (∀ v, v < N.sup.length → lv N (fun j => fl.getD j 0) N.arcs.length v = 0) ∧ (∀ j, j < N.arcs.length → 0 ≤ fl.getD j 0 ∧ fl.getD j 0 ≤ (N.arcs.getD j default).cap) := by
  simp only [isFlow, Bool.and_eq_true, decide_eq_true_eq] at hf
  refine ⟨fun v hv => ?_, capB_iff.1 hf.2.1⟩
  rw [← leftK_lv h fl _ (Nat.le_refl _)]
  exact zeroB_iff.1 hf.2.2 v (by rw [leftK_length]; exact hv)
theorem costK_arc (N : Net) (fl : List Int) : ∀ k, costK N fl k = arcS (fun j => fl.getD j 0) (fun j => (N.arcs.getD j default).cost) k
  | 0 => rfl
  | k + 1 => by simp only [costK, arcS]; rw [costK_arc N fl k]
theorem prS_dot (N : Net) (ps : List Int) : ∀ k, prS N ps k = - dotN (fun v => ps.getD v 0) (fun v => N.sup.getD v 0) k
  | 0 => rfl
  | k + 1 => by simp only [prS, dotN]; rw [prS_dot N ps k]; omega
def rcN (N : Net) (ps : List Int) (j : Nat) : Int := (N.arcs.getD j default).cost + ps.getD (frN N j) 0 - ps.getD (toN N j) 0
theorem prA_arc (N : Net) (ps : List Int) : ∀ k, prA N ps k = prS N ps N.sup.length + arcS (fun _ => 1) (fun j => (N.arcs.getD j default).cap * min 0 (rcN N ps j)) k
  | 0 => by simp [prA, arcS]
  | k + 1 => by
    simp only [prA, arcS]
    rw [prA_arc N ps k]
    unfold prW rcN frN toN
    omega
theorem cost_rc {N : Net} {fl ps : List Int} (h : chE N = 0) (hf : isFlow N fl = true) : costK N fl N.arcs.length = prS N ps N.sup.length + arcS (fun j => fl.getD j 0) (rcN N ps) N.arcs.length := by
  have h1 := flow_left h hf
  have h2 := lv_dot h (fun v => ps.getD v 0) (fun j => fl.getD j 0) N.arcs.length (Nat.le_refl _)
  rw [dot_congr (h := fun _ => 0) _ h1.1] at h2
  have h3 : dotN (fun v => ps.getD v 0) (fun _ => 0) N.sup.length = 0 := by
    generalize N.sup.length = n
    induction n with
    | zero => rfl
    | succ n ih => simp only [dotN]; rw [ih]; simp
  rw [h3] at h2
  have h4 := arc_sub (fun j => fl.getD j 0) (fun j => (N.arcs.getD j default).cost) (fun j => ps.getD (toN N j) 0 - ps.getD (frN N j) 0) N.arcs.length
  have h5 : rcN N ps = fun j => (N.arcs.getD j default).cost - (ps.getD (toN N j) 0 - ps.getD (frN N j) 0) := by
    funext j; unfold rcN; omega
  rw [h5, h4, costK_arc, prS_dot]
  omega
theorem weak {N : Net} {fl ps : List Int} (h : chE N = 0) (hf : isFlow N fl = true) : prA N ps N.arcs.length ≤ costK N fl N.arcs.length := by
  rw [cost_rc (ps := ps) h hf, prA_arc]
  have h1 := flow_left h hf
  have := arc_le (f := fun j => fl.getD j 0) (g := rcN N ps) (h := fun j => (N.arcs.getD j default).cap * min 0 (rcN N ps j)) N.arcs.length (fun j hj => by
    have h2 := h1.2 j hj
    rcases Int.le_total 0 (rcN N ps j) with h3 | h3
    · rw [Int.min_eq_left h3, Int.mul_zero]
      exact Int.mul_nonneg h2.1 h3
    · rw [Int.min_eq_right h3]
      exact Int.mul_le_mul_of_nonpos_right h2.2 h3)
  omega
theorem strong {N : Net} {fl ps : List Int} (h : chE N = 0) (hf : isFlow N fl = true) (hs : ∀ j, j < N.arcs.length → (fl.getD j 0 < (N.arcs.getD j default).cap → 0 ≤ rcN N ps j) ∧ (0 < fl.getD j 0 → rcN N ps j ≤ 0)) : costK N fl N.arcs.length = prA N ps N.arcs.length := by
  rw [cost_rc (ps := ps) h hf, prA_arc]
  have h1 := flow_left h hf
  rw [arc_congr (h := fun j => (N.arcs.getD j default).cap * min 0 (rcN N ps j)) N.arcs.length (fun j hj => by
    have h2 := h1.2 j hj
    have h3 := hs j hj
    rcases Int.lt_trichotomy (rcN N ps j) 0 with h4 | h4 | h4
    · have : fl.getD j 0 = (N.arcs.getD j default).cap := by omega
      rw [this, Int.min_eq_right (by omega)]
    · rw [h4]; simp
    · have : fl.getD j 0 = 0 := by omega
      rw [this, Int.min_eq_left (by omega)]; simp)]
theorem cut_flow {N : Net} {f : Nat → Int} {C : Nat → Bool} (h : chE N = 0) :
    dotN (fun v => if C v = true then 1 else 0) (lv N f N.arcs.length) N.sup.length = dotN (fun v => if C v = true then 1 else 0) (fun v => N.sup.getD v 0) N.sup.length + arcS f (fun j => (if C (toN N j) = true then 1 else 0) - (if C (frN N j) = true then 1 else 0)) N.arcs.length :=
  lv_dot h _ f _ (Nat.le_refl _)
end Dp
end Go.Proofs.Ytmebpglkeedaoaa
namespace Go.Proofs.Ytmebpglkeedaoaa
namespace Dp
def setRoom (es : List Ed) (k : Nat) (r : Int) : List Ed := es.set k { es.getD k default with room := r }
theorem getD_setE (l : List Ed) (i j : Nat) (v : Ed) (h : i < l.length) : (l.set i v).getD j default = if j = i then v else l.getD j default := by
  simp only [List.getD_eq_getElem?_getD, List.getElem?_set]
  by_cases hj : i = j
  · subst hj; simp [h]
  · rw [if_neg hj, if_neg (fun e => hj e.symm)]
def pushE (es : List Ed) (k : Nat) (x : Int) : List Ed := setRoom (setRoom es k ((es.getD k default).room - x)) (tw k) (((setRoom es k ((es.getD k default).room - x)).getD (tw k) default).room + x)
theorem setRoom_len (es : List Ed) (k : Nat) (r : Int) : (setRoom es k r).length = es.length := by simp [setRoom]
theorem pushE_len (es : List Ed) (k : Nat) (x : Int) : (pushE es k x).length = es.length := by simp [pushE, setRoom]
theorem setRoom_get (es : List Ed) (k : Nat) (r : Int) (hk : k < es.length) (j : Nat) : ((setRoom es k r).getD j default).to = (es.getD j default).to ∧ ((setRoom es k r).getD j default).cost = (es.getD j default).cost ∧ ((setRoom es k r).getD j default).room = if j = k then r else (es.getD j default).room := by
  unfold setRoom
  rw [getD_setE _ _ _ _ hk]
  split
  · rename_i e; subst e; exact ⟨rfl, rfl, rfl⟩
  · exact ⟨rfl, rfl, rfl⟩
theorem pushE_get (es : List Ed) (k : Nat) (x : Int) (hk : k < es.length) (ht : tw k < es.length) (j : Nat) : ((pushE es k x).getD j default).to = (es.getD j default).to ∧ ((pushE es k x).getD j default).cost = (es.getD j default).cost ∧ ((pushE es k x).getD j default).room = (es.getD j default).room - (if j = k then x else 0) + (if tw j = k then x else 0) := by
  have h1 := fun i => setRoom_get es k ((es.getD k default).room - x) hk i
  have h2 := setRoom_get (setRoom es k ((es.getD k default).room - x)) (tw k) (((setRoom es k ((es.getD k default).room - x)).getD (tw k) default).room + x) (by rw [setRoom_len]; exact ht) j
  unfold pushE
  refine ⟨h2.1.trans (h1 j).1, h2.2.1.trans (h1 j).2.1, ?_⟩
  rw [h2.2.2, (h1 (tw k)).2.2, (h1 j).2.2, if_neg (tw_ne k)]
  by_cases e : j = tw k
  · subst e
    rw [if_pos rfl, if_neg (tw_ne k), tw_tw, if_pos rfl]; omega
  · rw [if_neg e, if_neg (show ¬ tw j = k from fun h => e (by rw [← h, tw_tw]))]
    split
    · rename_i e2; rw [e2]; omega
    · omega
namespace Gr
def push1 (G : Gr) (k : Nat) (x : Int) : Gr := { G with left := mv (mv G.left (G.frA k) (-x)) (G.toA k) x, es := pushE G.es k x }
def pushL (G : Gr) (ks : List Nat) (x : Int) : Gr := ks.foldl (fun G k => G.push1 k x) G
theorem Ok.tl {G : Gr} {n : Nat} (h : G.Ok n) {k : Nat} (hk : k < G.es.length) : tw k < G.es.length := tw_lt h.ev hk
end Gr
structure Alike (G G' : Gr) : Prop where
  outs : G'.outs = G.outs
  ll : G'.left.length = G.left.length
  le : G'.es.length = G.es.length
  «to» : ∀ j, (G'.es.getD j default).to = (G.es.getD j default).to
  co : ∀ j, (G'.es.getD j default).cost = (G.es.getD j default).cost
theorem Alike.refl (G : Gr) : Alike G G := ⟨rfl, rfl, rfl, fun _ => rfl, fun _ => rfl⟩
theorem Alike.trans {A B C : Gr} (h : Alike A B) (k : Alike B C) : Alike A C := ⟨k.outs.trans h.outs, k.ll.trans h.ll, k.le.trans h.le, fun j => (k.to j).trans (h.to j), fun j => (k.co j).trans (h.co j)⟩
theorem Alike.toA {G G' : Gr} (h : Alike G G') (k : Nat) : G'.toA k = G.toA k := by unfold Gr.toA; rw [h.to]
theorem Alike.frA {G G' : Gr} (h : Alike G G') (k : Nat) : G'.frA k = G.frA k := h.toA (tw k)
theorem Alike.cost {G G' : Gr} (h : Alike G G') (k : Nat) : G'.cost k = G.cost k := by unfold Gr.cost; rw [h.co]
theorem Alike.rc {G G' : Gr} (h : Alike G G') (p : List Int) (k : Nat) : G'.rc p k = G.rc p k := by unfold Gr.rc; rw [h.cost, h.frA, h.toA]
theorem push1_alike {G : Gr} {k : Nat} {x : Int} (hk : k < G.es.length) (ht : tw k < G.es.length) : Alike G (G.push1 k x) :=
  ⟨rfl, by simp [Gr.push1, mv_length], by simp [Gr.push1, pushE_len], fun j => (pushE_get G.es k x hk ht j).1, fun j => (pushE_get G.es k x hk ht j).2.1⟩
theorem push1_room {G : Gr} {k : Nat} {x : Int} (hk : k < G.es.length) (ht : tw k < G.es.length) (j : Nat) : (G.push1 k x).room j = G.room j - (if j = k then x else 0) + (if tw j = k then x else 0) := (pushE_get G.es k x hk ht j).2.2
theorem push1_lf {G : Gr} {k : Nat} {x : Int} (h1 : G.frA k < G.left.length) (h2 : G.toA k < G.left.length) (v : Nat) : (G.push1 k x).lf v = G.lf v - (if v = G.frA k then x else 0) + (if v = G.toA k then x else 0) := by
  show (mv (mv G.left (G.frA k) (-x)) (G.toA k) x).getD v 0 = _
  rw [mv_get _ _ _ (by rw [mv_length]; simpa using h2), mv_get _ _ _ (by simpa using h1)]
  simp only [Int.toNat_natCast]
  unfold Gr.lf
  split <;> split <;> omega
theorem pushL_alike {x : Int} : ∀ {ks : List Nat} {G : Gr}, (∀ k, k ∈ ks → k < G.es.length ∧ tw k < G.es.length) → Alike G (G.pushL ks x)
  | [], G, _ => Alike.refl G
  | k :: ks, G, h => by
    have h1 := push1_alike (x := x) (h k (by simp)).1 (h k (by simp)).2
    exact h1.trans (pushL_alike (ks := ks) (fun j hj => by rw [h1.le]; exact h j (by simp [hj])))
theorem pushL_room {x : Int} : ∀ {ks : List Nat} {G : Gr}, (∀ k, k ∈ ks → k < G.es.length ∧ tw k < G.es.length) → ∀ j, (G.pushL ks x).room j = G.room j - (ks.count j : Int) * x + (ks.count (tw j) : Int) * x
  | [], G, _, j => by simp [Gr.pushL]
  | k :: ks, G, h, j => by
    have h1 := push1_alike (x := x) (h k (by simp)).1 (h k (by simp)).2
    have ih := pushL_room (x := x) (ks := ks) (G := G.push1 k x) (fun j hj => by rw [h1.le]; exact h j (by simp [hj])) j
    show ((G.push1 k x).pushL ks x).room j = _
    rw [ih, push1_room (h k (by simp)).1 (h k (by simp)).2]
    simp only [List.count_cons, Int.natCast_add, Int.add_mul]
    have e1 : (((if (k == j) = true then 1 else 0 : Nat) : Int)) * x = if j = k then x else 0 := by
      by_cases e : j = k
      · subst e; simp
      · rw [if_neg e, if_neg (show ¬ (k == j) = true from fun h => e (by simpa using (beq_iff_eq.1 h).symm))]; simp
    have e2 : (((if (k == tw j) = true then 1 else 0 : Nat) : Int)) * x = if tw j = k then x else 0 := by
      by_cases e : tw j = k
      · subst e; simp
      · rw [if_neg e, if_neg (show ¬ (k == tw j) = true from fun h => e (by simpa using (beq_iff_eq.1 h).symm))]; simp
    rw [e1, e2]
    omega
def Way (G : Gr) (vi : List Int) : Nat → List Nat → Nat → Prop
  | v, [], s => vi.getD v 0 = -1 ∧ v = s
  | v, k :: ks, s => vi.getD v 0 = (k : Int) ∧ k < G.es.length ∧ G.toA k = v ∧ Way G vi (G.frA k) ks s
theorem Way.lt {G : Gr} {vi : List Int} {s : Nat} : ∀ {ks : List Nat} {v : Nat}, Way G vi v ks s → ∀ k, k ∈ ks → k < G.es.length
  | [], _, _, k, hk => by simp at hk
  | k0 :: ks, v, h, k, hk => by
    rcases List.mem_cons.1 hk with rfl | hk
    · exact h.2.1
    · exact Way.lt h.2.2.2 k hk
theorem Way.alike {G G' : Gr} {vi : List Int} {s : Nat} (ha : Alike G G') : ∀ {ks : List Nat} {v : Nat}, Way G vi v ks s → Way G' vi v ks s
  | [], _, h => h
  | k :: ks, v, h => ⟨h.1, by rw [ha.le]; exact h.2.1, by rw [ha.toA]; exact h.2.2.1, by rw [ha.frA]; exact Way.alike ha h.2.2.2⟩
theorem Way.toIn {G : Gr} {vi : List Int} {s : Nat} : ∀ {ks : List Nat} {v : Nat}, Way G vi v ks s → ∀ k, k ∈ ks → G.toA k ∈ v :: ks.map G.frA
  | [], _, _, k, hk => by simp at hk
  | k0 :: ks, v, h, k, hk => by
    rcases List.mem_cons.1 hk with rfl | hk
    · rw [h.2.2.1]; simp
    · have := Way.toIn h.2.2.2 k hk
      simp only [List.map_cons]
      exact List.mem_cons_of_mem _ this
theorem Way.last {G : Gr} {vi : List Int} {s : Nat} : ∀ {ks : List Nat} {v : Nat}, Way G vi v ks s → s ∈ v :: ks.map G.frA
  | [], v, h => by rw [h.2]; simp
  | k0 :: ks, v, h => by
    simp only [List.map_cons]
    exact List.mem_cons_of_mem _ (Way.last h.2.2.2)
theorem way_simple {G : Gr} {vi : List Int} {s : Nat} : ∀ {ks : List Nat} {v : Nat}, Way G vi v ks s → (v :: ks.map G.frA).Nodup → ks.Nodup ∧ ∀ j, ¬ (j ∈ ks ∧ tw j ∈ ks)
  | [], _, _, _ => ⟨List.nodup_nil, fun j h => by simp at h⟩
  | k :: ks, v, h, hn => by
    simp only [List.map_cons] at hn
    have hn2 := List.nodup_cons.1 hn
    have ih := way_simple h.2.2.2 hn2.2
    have hk : k ∉ ks := fun hm => hn2.1 (by rw [← h.2.2.1]; exact Way.toIn h.2.2.2 k hm)
    have ht : tw k ∉ ks := fun hm => hn2.1 (by
      have e : G.frA (tw k) = v := by unfold Gr.frA; rw [tw_tw]; exact h.2.2.1
      rw [← e]
      exact List.mem_cons_of_mem _ (List.mem_map_of_mem hm))
    refine ⟨List.nodup_cons.2 ⟨hk, ih.1⟩, fun j hj => ?_⟩
    rcases List.mem_cons.1 hj.1 with e1 | e1
    · subst e1
      rcases List.mem_cons.1 hj.2 with e2 | e2
      · exact tw_ne j e2
      · exact ht e2
    · rcases List.mem_cons.1 hj.2 with e2 | e2
      · rw [← e2, tw_tw] at ht; exact ht e1
      · exact ih.2 j ⟨e1, e2⟩
def Fine (G : Gr) : Prop := ∀ k, k < G.es.length → G.toA k < G.left.length ∧ G.frA k < G.left.length ∧ tw k < G.es.length
theorem Fine.alike {G G' : Gr} (h : Fine G) (ha : Alike G G') : Fine G' := fun k hk => by
  rw [ha.le] at hk
  rw [ha.toA, ha.frA, ha.ll, ha.le]
  exact h k hk
theorem Gr.Ok.fine {G : Gr} {n : Nat} (h : G.Ok n) : Fine G := fun k hk => by rw [h.ll]; exact ⟨h.toL hk, h.frL hk, h.tl hk⟩
theorem pushL_lf {x : Int} {vi : List Int} {s : Nat} : ∀ {ks : List Nat} {G : Gr} {v : Nat}, Way G vi v ks s → Fine G → ∀ u, (G.pushL ks x).lf u = G.lf u - (if u = s then x else 0) + (if u = v then x else 0)
  | [], G, v, h, _, u => by rw [h.2]; show G.lf u = _; split <;> omega
  | k :: ks, G, v, h, hb, u => by
    have hbk := hb k h.2.1
    have ha := push1_alike (x := x) h.2.1 hbk.2.2
    have e0 := push1_lf (x := x) hbk.2.1 hbk.1 u
    have e1 := pushL_lf (x := x) (ks := ks) (G := G.push1 k x) (v := G.frA k) (h.2.2.2.alike ha) (hb.alike ha) u
    show ((G.push1 k x).pushL ks x).lf u = _
    rw [e1, e0, h.2.2.1]
    omega
theorem chn_way {G : Gr} {p fa vi : List Int} : ∀ {S : List Nat}, S.Nodup → Chn G p fa vi S → ∀ v, v ∈ S → ∃ ks s, Way G vi v ks s ∧ 0 < G.lf s ∧ (∀ k, k ∈ ks → 0 < G.room k ∧ fa.getD (G.toA k) 0 = fa.getD (G.frA k) 0 + G.rc p k) ∧ (v :: ks.map G.frA).Nodup ∧ ∀ u, u ∈ v :: ks.map G.frA → u ∈ S
  | [], _, _, v, hv => by simp at hv
  | u :: S, hn, h, v, hv => by
    have hn2 := List.nodup_cons.1 hn
    rcases List.mem_cons.1 hv with rfl | hv
    · rcases h.2 with ⟨a, b, c⟩ | ⟨k, a, b, c, d, e, f⟩
      · exact ⟨[], v, ⟨c, rfl⟩, a, fun k hk => by simp at hk, by simp, fun w hw => by simp at hw; subst hw; simp⟩
      · obtain ⟨ks, s, h1, h2, h3, h4, h5⟩ := chn_way hn2.2 h.1 _ e
        refine ⟨k :: ks, s, ⟨b, a, c, h1⟩, h2, fun j hj => ?_, ?_, fun w hw => ?_⟩
        · rcases List.mem_cons.1 hj with rfl | hj
          · exact ⟨d, by rw [c]; exact f⟩
          · exact h3 j hj
        · simp only [List.map_cons]
          exact List.nodup_cons.2 ⟨fun hm => hn2.1 (h5 _ hm), h4⟩
        · simp only [List.map_cons] at hw
          rcases List.mem_cons.1 hw with rfl | hw
          · simp
          · exact List.mem_cons_of_mem _ (h5 _ hw)
    · obtain ⟨ks, s, h1, h2, h3, h4, h5⟩ := chn_way hn2.2 h.1 v hv
      exact ⟨ks, s, h1, h2, h3, h4, fun w hw => List.mem_cons_of_mem _ (h5 w hw)⟩
structure Sent (G : Gr) (n : Nat) (vi : List Int) (ks : List Nat) (s t : Nat) (x : Int) : Prop where
  way : Way G vi t ks s
  nod : (t :: ks.map G.frA).Nodup
  sn : s < n
  tn : t < n
  x0 : 0 < x
  xs : x ≤ G.lf s
  xt : x ≤ -G.lf t
  xr : ∀ k, k ∈ ks → x ≤ G.room k
theorem Sent.ok {G : Gr} {n : Nat} {vi : List Int} {ks : List Nat} {s t : Nat} {x : Int} (h : Sent G n vi ks s t x) (hG : G.Ok n) : (∀ k, k ∈ ks → k < G.es.length ∧ tw k < G.es.length) ∧ (∀ j, (G.pushL ks x).room j = G.room j - (if j ∈ ks then x else 0) + (if tw j ∈ ks then x else 0)) ∧ (G.pushL ks x).Ok n := by
  have hk : ∀ k, k ∈ ks → k < G.es.length ∧ tw k < G.es.length := fun k hk => ⟨h.way.lt k hk, hG.tl (h.way.lt k hk)⟩
  have hs := way_simple h.way h.nod
  have ha := pushL_alike (x := x) hk
  have hr : ∀ j, (G.pushL ks x).room j = G.room j - (if j ∈ ks then x else 0) + (if tw j ∈ ks then x else 0) := fun j => by
    rw [pushL_room hk j, hs.1.count, hs.1.count]
    by_cases h1 : j ∈ ks <;> by_cases h2 : tw j ∈ ks <;> simp [h1, h2]
  have hlf := pushL_lf (x := x) h.way hG.fine
  refine ⟨hk, hr, ?_⟩
  exact
  { n1 := hG.n1
    ll := by rw [ha.ll]; exact hG.ll
    lo := by rw [ha.outs]; exact hG.lo
    le := by rw [ha.le]; exact hG.le
    ev := by rw [ha.le]; exact hG.ev
    «to» := fun k hk => by rw [ha.to]; rw [ha.le] at hk; exact hG.to k hk
    ne := fun k hk => by rw [ha.toA, ha.frA]; rw [ha.le] at hk; exact hG.ne k hk
    co := fun k hk => by rw [ha.cost, ha.cost]; rw [ha.le] at hk; exact hG.co k hk
    cb := fun k hk => by rw [ha.cost]; rw [ha.le] at hk; exact hG.cb k hk
    rm := fun k hk => by
      rw [ha.le] at hk
      have h1 := hG.rm k hk
      have h2 := hs.2 k
      have h3 := h.x0
      rw [hr k, hr (tw k), tw_tw]
      by_cases a : k ∈ ks
      · have := h.xr k a
        have : tw k ∉ ks := fun hm => h2 ⟨a, hm⟩
        rw [if_pos a, if_neg this]; omega
      · rw [if_neg a]
        split <;> omega
    lb := fun v hv => by
      rw [hlf v]
      have h1 := hG.lb v hv
      have h3 := h.x0
      have h4 := h.xs
      have h5 := h.xt
      split
      · rename_i e; subst e
        split <;> omega
      · split
        · rename_i e; subst e; omega
        · omega
    o1 := fun v hv y hy => by
      rw [ha.outs] at hy
      rw [ha.le, ha.frA]
      exact hG.o1 v hv y hy
    o2 := fun k hk => by
      rw [ha.le] at hk
      rw [ha.outs, ha.frA]
      exact hG.o2 k hk
    o3 := fun v hv => by rw [ha.outs]; exact hG.o3 v hv }
structure PotD (G : Gr) (n : Nat) (p : List Int) (D : Int) : Prop where
  len : p.length = n
  lo : ∀ v, v < n → 0 ≤ p.getD v 0 ∧ p.getD v 0 ≤ D
  d : 0 ≤ D ∧ D ≤ 1048576 * (n - 1 : Int)
  need : ∀ v, v < n → G.lf v < 0 → p.getD v 0 = D
  rc : ∀ k, k < G.es.length → 0 < G.room k → 0 ≤ G.rc p k
  src : ∀ v, v < n → 0 < G.lf v → p.getD v 0 = 0
theorem PotD.pot {G : Gr} {n : Nat} {p : List Int} {D : Int} (h : PotD G n p D) (hn : n ≤ 1024) : G.Pot n p :=
  ⟨h.len, fun v hv => by have := h.lo v hv; have := h.d; omega, h.rc, h.src⟩
def potN (n : Nat) (p fa : List Int) (d : Int) : List Int := (List.range n).map fun v => p.getD v 0 + min (fa.getD v 0) d
theorem potN_get {n : Nat} {p fa : List Int} {d : Int} {v : Nat} (hv : v < n) : (potN n p fa d).getD v 0 = p.getD v 0 + min (fa.getD v 0) d := by
  simp [potN, List.getD_eq_getElem?_getD, hv]
theorem way_far {G : Gr} {n : Nat} {p fa vi : List Int} {s : Nat} (hG : G.Ok n) (hp : ∀ k, k < G.es.length → 0 < G.room k → 0 ≤ G.rc p k) : ∀ {ks : List Nat} {v : Nat}, Way G vi v ks s → (∀ k, k ∈ ks → 0 < G.room k ∧ fa.getD (G.toA k) 0 = fa.getD (G.frA k) 0 + G.rc p k) →
    ∀ u, u ∈ v :: ks.map G.frA → fa.getD u 0 ≤ fa.getD v 0
  | [], v, _, _, u, hu => by simp at hu; rw [hu]; exact Int.le_refl _
  | k :: ks, v, h, hk, u, hu => by
    have h1 := hk k (by simp)
    have h2 := hp k h.2.1 h1.1
    rw [h.2.2.1] at h1
    simp only [List.map_cons] at hu
    rcases List.mem_cons.1 hu with rfl | hu
    · exact Int.le_refl _
    · have := way_far hG hp h.2.2.2 (fun j hj => hk j (by simp [hj])) u hu
      omega
theorem round_pot {G : Gr} {n : Nat} {p fa vi : List Int} {D x : Int} {ks : List Nat} {s t : Nat} (hG : G.Ok n) (hp : PotD G n p D) (hr : NR G n p fa vi (t : Int)) (hs : Sent G n vi ks s t x)
    (hk : ∀ k, k ∈ ks → 0 < G.room k ∧ fa.getD (G.toA k) 0 = fa.getD (G.frA k) 0 + G.rc p k) : PotD (G.pushL ks x) n (potN n p fa (fa.getD t 0)) (D + fa.getD t 0) := by
  obtain ⟨h1, h2, h3⟩ := hs.ok hG
  have ha := pushL_alike (x := x) h1
  have hlf := pushL_lf (x := x) hs.way hG.fine
  have hfin : G.lf t < 0 ∧ fa.getD t 0 < never ∧ ∀ v, v < n → G.lf v < 0 → fa.getD t 0 ≤ fa.getD v 0 := by
    rcases hr.fin with ⟨e, _⟩ | ⟨t', e, _, h4, h5, h6⟩
    · omega
    · obtain rfl : t' = t := by omega
      exact ⟨h4, h5, h6⟩
  have hneg : ∀ v, v < n → (G.pushL ks x).lf v < 0 → G.lf v < 0 := fun v hv hl => by
    rw [hlf v] at hl
    have := hs.xs
    have := hs.x0
    by_cases e1 : v = s
    · subst e1
      by_cases e2 : v = t
      · subst e2; omega
      · rw [if_pos rfl, if_neg e2] at hl; omega
    · rw [if_neg e1] at hl
      split at hl <;> omega
  have hpos : ∀ v, v < n → 0 < (G.pushL ks x).lf v → 0 < G.lf v := fun v hv hl => by
    rw [hlf v] at hl
    have := hs.xs
    have := hs.x0
    have := hs.xt
    by_cases e2 : v = t
    · subst e2
      rw [if_pos rfl] at hl
      split at hl <;> omega
    · rw [if_neg e2] at hl
      split at hl <;> omega
  have ht0 := hr.top t hs.tn
  have hup := hr.up t hs.tn hfin.2.1
  have hpt := hp.need t hs.tn hfin.1
  have hrc : ∀ k, k < G.es.length → G.rc (potN n p fa (fa.getD t 0)) k = G.rc p k + min (fa.getD (G.frA k) 0) (fa.getD t 0) - min (fa.getD (G.toA k) 0) (fa.getD t 0) := fun k hk => by
    unfold Gr.rc
    rw [potN_get (hG.frL hk), potN_get (hG.toL hk)]
    omega
  have hrc0 : ∀ k, k < G.es.length → 0 < G.room k → 0 ≤ G.rc (potN n p fa (fa.getD t 0)) k := fun k hk hro => by
    rw [hrc k hk]
    have h4 := hp.rc k hk hro
    by_cases h5 : fa.getD (G.frA k) 0 < never
    · have := (hr.bel k hk h5 hro).1
      omega
    · omega
  have htight : ∀ k, k ∈ ks → G.rc (potN n p fa (fa.getD t 0)) k = 0 := fun k hm => by
    have hl := (h1 k hm).1
    have h4 := (hk k hm).2
    have h5 := way_far hG hp.rc hs.way hk (G.toA k) (hs.way.toIn k hm)
    have h6 := way_far hG hp.rc hs.way hk (G.frA k) (List.mem_cons_of_mem _ (List.mem_map_of_mem hm))
    rw [hrc k hl]
    omega
  exact
  { len := by simp [potN]
    lo := fun v hv => by
      rw [potN_get hv]
      have := hp.lo v hv
      have := hr.top v hv
      omega
    d := by have := hp.d; omega
    need := fun v hv hl => by
      rw [potN_get hv, hp.need v hv (hneg v hv hl)]
      have := hfin.2.2 v hv (hneg v hv hl)
      omega
    rc := fun k hkl hro => by
      rw [ha.le] at hkl
      rw [ha.rc]
      rw [h2 k] at hro
      by_cases h4 : 0 < G.room k
      · exact hrc0 k hkl h4
      · have h5 : tw k ∈ ks := Decidable.byContradiction fun hn => by
          rw [if_neg hn] at hro
          have := hs.x0
          split at hro <;> omega
        have h6 := htight _ h5
        have h7 : G.rc (potN n p fa (fa.getD t 0)) (tw k) = - G.rc (potN n p fa (fa.getD t 0)) k := by
          unfold Gr.rc
          rw [hG.co k hkl]
          unfold Gr.frA
          rw [tw_tw]
          omega
        omega
    src := fun v hv hl => by
      have h4 := hpos v hv hl
      rw [potN_get hv, hp.src v hv h4, hr.src v hv h4]
      omega }
end Dp
end Go.Proofs.Ytmebpglkeedaoaa
namespace Go.Proofs.Ytmebpglkeedaoaa
namespace Dp
structure Fits (N : Net) (G : Gr) : Prop where
  es : G.es.length = 2 * N.arcs.length
  ll : G.left.length = N.sup.length
  t0 : ∀ i, i < N.arcs.length → G.toA (2 * i) = toN N i ∧ G.toA (2 * i + 1) = frN N i
  c0 : ∀ i, i < N.arcs.length → G.cost (2 * i) = (N.arcs.getD i default).cost ∧ G.cost (2 * i + 1) = -(N.arcs.getD i default).cost
  r0 : ∀ i, i < N.arcs.length → G.room (2 * i) + G.room (2 * i + 1) = (N.arcs.getD i default).cap
  lf : ∀ v, v < N.sup.length → G.lf v = lv N (fun j => G.room (2 * j + 1)) N.arcs.length v
theorem tw_even (i : Nat) : tw (2 * i) = 2 * i + 1 := by unfold tw; rw [if_pos (by omega)]
theorem tw_odd (i : Nat) : tw (2 * i + 1) = 2 * i := by unfold tw; rw [if_neg (by omega)]; omega
theorem Fits.fr {N : Net} {G : Gr} (h : Fits N G) (i : Nat) (hi : i < N.arcs.length) : G.frA (2 * i) = frN N i ∧ G.frA (2 * i + 1) = toN N i := by
  unfold Gr.frA
  rw [tw_even, tw_odd]
  exact ⟨(h.t0 i hi).2, (h.t0 i hi).1⟩
theorem Fits.push1 {N : Net} {G : Gr} (h : Fits N G) (hf : Fine G) {k : Nat} (x : Int) (hk : k < G.es.length) : Fits N (G.push1 k x) := by
  have hfk := hf k hk
  have ha := push1_alike (x := x) hk hfk.2.2
  have hr := push1_room (x := x) hk hfk.2.2
  have hl := push1_lf (x := x) hfk.2.1 hfk.1
  refine ⟨by rw [ha.le]; exact h.es, by rw [ha.ll]; exact h.ll, fun i hi => by rw [ha.toA, ha.toA]; exact h.t0 i hi, fun i hi => by rw [ha.cost, ha.cost]; exact h.c0 i hi, fun i hi => ?_, fun v hv => ?_⟩
  · have := h.r0 i hi
    rw [hr, hr, tw_even, tw_odd]
    split <;> split <;> omega
  · rw [hl v, h.lf v hv]
    have hes := h.es
    have hi : k / 2 < N.arcs.length := by omega
    rcases (show k = 2 * (k / 2) ∨ k = 2 * (k / 2) + 1 by omega) with e | e
    · generalize k / 2 = i at *
      subst e
      have hc := lv_change (N := N) (f := fun j => G.room (2 * j + 1)) (f' := fun j => (G.push1 (2 * i) x).room (2 * j + 1)) (i := i) (d := x)
        (by show (G.push1 (2 * i) x).room (2 * i + 1) = G.room (2 * i + 1) + x; rw [hr, tw_odd, if_neg (by omega), if_pos rfl]; omega) (fun j hj => by show (G.push1 (2 * i) x).room (2 * j + 1) = G.room (2 * j + 1); rw [hr, tw_odd, if_neg (by omega), if_neg (by omega)]; omega) N.arcs.length v
      rw [hc, if_pos hi, (h.t0 i hi).1, (h.fr i hi).1]
      omega
    · generalize k / 2 = i at *
      subst e
      have hc := lv_change (N := N) (f := fun j => G.room (2 * j + 1)) (f' := fun j => (G.push1 (2 * i + 1) x).room (2 * j + 1)) (i := i) (d := -x)
        (by show (G.push1 (2 * i + 1) x).room (2 * i + 1) = G.room (2 * i + 1) + -x; rw [hr, tw_odd, if_pos rfl, if_neg (by omega)]; omega) (fun j hj => by show (G.push1 (2 * i + 1) x).room (2 * j + 1) = G.room (2 * j + 1); rw [hr, tw_odd, if_neg (by omega), if_neg (by omega)]; omega) N.arcs.length v
      rw [hc, if_pos hi, (h.t0 i hi).2, (h.fr i hi).2]
      split <;> split <;> omega
theorem Fits.pushL {N : Net} {x : Int} : ∀ {ks : List Nat} {G : Gr}, Fits N G → Fine G → (∀ k, k ∈ ks → k < G.es.length) → Fits N (G.pushL ks x)
  | [], _, h, _, _ => h
  | k :: ks, G, h, hf, hk => by
    have hk0 := hk k (by simp)
    have ha := push1_alike (x := x) hk0 (hf k hk0).2.2
    exact Fits.pushL (ks := ks) (h.push1 hf x hk0) (hf.alike ha) (fun j hj => by rw [ha.le]; exact hk j (by simp [hj]))
def flowL (N : Net) (G : Gr) : List Int := (List.range N.arcs.length).map fun i => G.room (2 * i + 1)
theorem flowL_get {N : Net} {G : Gr} {i : Nat} (hi : i < N.arcs.length) : (flowL N G).getD i 0 = G.room (2 * i + 1) := by
  simp [flowL, List.getD_eq_getElem?_getD, hi]
theorem flowL_len (N : Net) (G : Gr) : (flowL N G).length = N.arcs.length := by simp [flowL]
theorem lv_congr {N : Net} {f g : Nat → Int} : ∀ (k : Nat) (v : Nat), (∀ j, j < k → f j = g j) → lv N f k v = lv N g k v
  | 0, _, _ => rfl
  | k + 1, v, h => by simp only [lv]; rw [lv_congr k v (fun j hj => h j (by omega)), h k (by omega)]
def restV (l : List Int) : Int := sum (l.map (max 0))
theorem sum_dot : ∀ l : List Int, sum l = dotN (fun _ => 1) (fun v => l.getD v 0) l.length := by
  intro l
  have : ∀ k, k ≤ l.length → sum (l.take k) = dotN (fun _ => 1) (fun v => l.getD v 0) k := by
    intro k
    induction k with
    | zero => intro _; simp [sum, dotN]
    | succ k ih =>
      intro hk
      rw [sum_take l k (by omega), ih (by omega)]
      simp only [dotN]; omega
  have h := this l.length (Nat.le_refl _)
  rwa [List.take_length] at h
theorem dot_zero {g : Nat → Int} : ∀ n : Nat, (∀ v, v < n → 0 ≤ g v) → dotN (fun _ => 1) g n = 0 → ∀ v, v < n → g v = 0
  | 0, _, _, v, hv => absurd hv (Nat.not_lt_zero _)
  | n + 1, h, e, v, hv => by
    have h1 := dot_le (q := fun _ => 1) (g := g) n (fun v hv => by have := h v (by omega); omega)
    have h2 := h n (by omega)
    simp only [dotN] at e
    rcases (show v < n ∨ v = n by omega) with h3 | rfl
    · exact dot_zero n (fun v hv => h v (by omega)) (by omega) v h3
    · omega
theorem rest_dot (l : List Int) : restV l = dotN (fun _ => 1) (fun v => max 0 (l.getD v 0)) l.length := by
  unfold restV
  rw [sum_dot, List.length_map]
  exact dot_congr _ (fun v hv => by rw [getD_map (max 0) l v hv])
theorem rest_nn (l : List Int) : 0 ≤ restV l := by
  rw [rest_dot]
  exact dot_le _ (fun v _ => by omega)
theorem net_zero {N : Net} (h : chE N = 0) : sum N.sup = 0 := by
  have h2 := (chE_zero h).2
  simp only [okB, Bool.and_eq_true, decide_eq_true_eq] at h2
  exact h2.2.2.1
theorem left_zero {N : Net} {G : Gr} (h : chE N = 0) (hf : Fits N G) : dotN (fun _ => 1) G.lf N.sup.length = 0 := by
  rw [dot_congr _ hf.lf, lv_dot h _ _ _ (Nat.le_refl _), ← sum_dot, net_zero h]
  have : ∀ (f : Nat → Int) k, arcS f (fun _ => (1 : Int) - 1) k = 0 := fun f k => by
    induction k with
    | zero => rfl
    | succ k ih => simp only [arcS]; rw [ih]; simp
  rw [this]; rfl
theorem room_cap {N : Net} {G : Gr} {n : Nat} (hG : G.Ok n) (hf : Fits N G) (i : Nat) (hi : i < N.arcs.length) : 0 ≤ G.room (2 * i) ∧ 0 ≤ G.room (2 * i + 1) := by
  have h1 := hG.rm (2 * i) (by rw [hf.es]; omega)
  have h2 := hG.rm (2 * i + 1) (by rw [hf.es]; omega)
  exact ⟨h1.1, h2.1⟩
theorem end_flow {N : Net} {G : Gr} {p : List Int} (h : chE N = 0) (hG : G.Ok N.sup.length) (hf : Fits N G) (hp : ∀ k, k < G.es.length → 0 < G.room k → 0 ≤ G.rc p k) (h0 : restV G.left = 0) :
    isFlow N (flowL N G) = true ∧ costK N (flowL N G) N.arcs.length = prA N p N.arcs.length := by
  have hneg : ∀ v, v < N.sup.length → G.lf v ≤ 0 := fun v hv => by
    rw [rest_dot, hf.ll] at h0
    have := dot_zero _ (fun v _ => by omega) h0 v hv
    unfold Gr.lf
    omega
  have hz : ∀ v, v < N.sup.length → G.lf v = 0 := fun v hv => by
    have h1 := left_zero h hf
    have h2 : dotN (fun _ => 1) (fun v => - G.lf v) N.sup.length = 0 := by
      have e : (fun v => - G.lf v) = fun v => (fun _ => (0 : Int)) v - G.lf v := by funext v; simp
      rw [e, dot_sub, h1]
      generalize N.sup.length = n
      induction n with
      | zero => rfl
      | succ n ih => simp only [dotN]; omega
    have := dot_zero _ (fun v hv => by have := hneg v hv; omega) h2 v hv
    omega
  have hfl : isFlow N (flowL N G) = true := isFlow_yes (flowL_len N G) (fun k hk => by
    rw [flowL_get hk]
    have := room_cap hG hf k hk
    have := hf.r0 k hk
    omega) (fun v hv => by
    rw [leftK_lv h _ _ (Nat.le_refl _), lv_congr (g := fun j => G.room (2 * j + 1)) _ _ (fun j hj => flowL_get hj), ← hf.lf v hv]
    exact hz v hv)
  refine ⟨hfl, strong h hfl (fun j hj => ?_)⟩
  rw [flowL_get hj]
  have h1 := hf.r0 j hj
  have h2 := hf.c0 j hj
  have h3 := hf.t0 j hj
  have h4 := hf.fr j hj
  have h5 := hf.es
  constructor
  · intro hl
    have := hp (2 * j) (by omega) (by omega)
    unfold Gr.rc at this
    rw [h2.1, h3.1, h4.1] at this
    exact this
  · intro hl
    have := hp (2 * j + 1) (by omega) hl
    unfold Gr.rc at this
    rw [h2.2, h3.2, h4.2] at this
    unfold rcN
    omega
def cutL (n : Nat) (C : Nat → Bool) : List Int := ((List.range n).filter C).map (fun (v : Nat) => (v : Int))
theorem cutL_in {n : Nat} {C : Nat → Bool} {v : Nat} (hv : v < n) : inK (cutL n C) (cutL n C).length (v : Int) = C v := by
  unfold inK cutL
  rw [List.take_length]
  by_cases h : C v = true
  · rw [h, decide_eq_true_eq]
    exact List.mem_map.2 ⟨v, by simp [hv, h], rfl⟩
  · have h' : C v = false := by simpa using h
    rw [h', decide_eq_false_iff_not]
    intro hm
    obtain ⟨u, hu, e⟩ := List.mem_map.1 hm
    obtain rfl : u = v := by omega
    simp [h'] at hu
theorem cutL_ok {n : Nat} {C : Nat → Bool} : ∀ k, k < (cutL n C).length → cutAt n (cutL n C) k = true := by
  intro k hk
  have hlen : (cutL n C).length = ((List.range n).filter C).length := by simp [cutL]
  have hget : ∀ j, j < ((List.range n).filter C).length → (cutL n C).getD j 0 = (((List.range n).filter C).getD j 0 : Int) := fun j hj => by
    simp [cutL, List.getD_eq_getElem?_getD, hj]
  have hs : ((List.range n).filter C).Pairwise (· < ·) := List.Pairwise.filter _ List.pairwise_lt_range
  rw [hlen] at hk
  rw [cutAt_iff]
  have hm : ((List.range n).filter C).getD k 0 < n := by
    rw [List.getD_eq_getElem?_getD, List.getElem?_eq_getElem hk]
    have := List.getElem_mem hk
    have := (List.mem_filter.1 this).1
    simpa using this
  refine ⟨by rw [hget k hk]; omega, by rw [hget k hk]; omega, fun h0 => ?_⟩
  rw [hget k hk, hget (k - 1) (by omega)]
  have := List.pairwise_iff_getElem.1 hs (k - 1) k (by omega) hk (by omega)
  rw [List.getD_eq_getElem?_getD, List.getElem?_eq_getElem (show k - 1 < _ by omega), List.getD_eq_getElem?_getD, List.getElem?_eq_getElem hk]
  simp only [Option.getD_some]
  omega
theorem lkR_dot (N : Net) (c : List Int) (k : Nat) : ∀ j, lkR N c k j = dotN (fun v => if inK c k v = true then 1 else 0) (fun v => N.sup.getD v 0) j
  | 0 => rfl
  | j + 1 => by
    simp only [lkR, dotN]
    rw [lkR_dot N c k j]
    split <;> simp
theorem lkA_arc (N : Net) (c : List Int) : ∀ k, lkA N c k = lkS N c c.length - arcS (fun _ => 1) (fun j => if inK c c.length (N.arcs.getD j default).fr = true ∧ inK c c.length (N.arcs.getD j default).to = false then (N.arcs.getD j default).cap else 0) k
  | 0 => by simp [lkA, arcS]
  | k + 1 => by simp only [lkA, arcS]; rw [lkA_arc N c k]; omega
theorem net_ends {N : Net} (h : chE N = 0) (j : Nat) (hj : j < N.arcs.length) : (N.arcs.getD j default).fr = (frN N j : Int) ∧ (N.arcs.getD j default).to = (toN N j : Int) ∧ frN N j < N.sup.length ∧ toN N j < N.sup.length := by
  obtain ⟨a1, a2, _⟩ := net_arc h j hj
  unfold frN toN
  omega
theorem cut_none {N : Net} {c : List Int} (h : chE N = 0) (hc : ∀ k, k < c.length → cutAt N.sup.length c k = true) (hl : 0 < lkA N c N.arcs.length) (fl : List Int) : isFlow N fl = false := by
  cases hb : isFlow N fl
  · rfl
  · exfalso
    have h1 := flow_left h hb
    have h2 := cut_flow (C := fun v => inK c c.length v) (f := fun j => fl.getD j 0) h
    rw [dot_congr (h := fun _ => 0) _ h1.1, ← lkR_dot, lkR_eq _ (Nat.le_refl _) hc] at h2
    have h3 : dotN (fun v => if inK c c.length (v : Int) = true then (1 : Int) else 0) (fun _ => 0) N.sup.length = 0 := by
      generalize N.sup.length = n
      induction n with
      | zero => rfl
      | succ n ih => simp only [dotN]; rw [ih]; simp
    rw [h3] at h2
    rw [lkA_arc] at hl
    have h4 := arc_le (f := fun j => - fl.getD j 0) (g := fun j => (if inK c c.length (toN N j : Int) = true then (1 : Int) else 0) - (if inK c c.length (frN N j : Int) = true then 1 else 0))
      (h := fun j => - (if inK c c.length (N.arcs.getD j default).fr = true ∧ inK c c.length (N.arcs.getD j default).to = false then (N.arcs.getD j default).cap else 0)) N.arcs.length
    have neg1 : ∀ (f g : Nat → Int) k, arcS (fun j => - f j) g k = - arcS f g k := fun f g k => by
      induction k with
      | zero => rfl
      | succ k ih => simp only [arcS]; rw [ih, Int.neg_mul]; omega
    have neg2 : ∀ (g : Nat → Int) k, arcS (fun _ => 1) (fun j => - g j) k = - arcS (fun _ => 1) g k := fun g k => by
      induction k with
      | zero => rfl
      | succ k ih => simp only [arcS]; rw [ih]; omega
    have h5 : arcS (fun j => fl.getD j 0) (fun j => (if inK c c.length (toN N j : Int) = true then (1 : Int) else 0) - (if inK c c.length (frN N j : Int) = true then 1 else 0)) N.arcs.length ≥ - arcS (fun _ => 1) (fun j => if inK c c.length (N.arcs.getD j default).fr = true ∧ inK c c.length (N.arcs.getD j default).to = false then (N.arcs.getD j default).cap else 0) N.arcs.length := by
      have := arc_le (f := fun j => fl.getD j 0) (g := fun j => (if inK c c.length (toN N j : Int) = true then (1 : Int) else 0) - (if inK c c.length (frN N j : Int) = true then 1 else 0))
        (h := fun j => - (if inK c c.length (N.arcs.getD j default).fr = true ∧ inK c c.length (N.arcs.getD j default).to = false then (N.arcs.getD j default).cap else 0)) N.arcs.length (fun j hj => by
          have e := net_ends h j hj
          have b := h1.2 j hj
          rw [e.1, e.2.1]
          generalize fl.getD j 0 = f at *
          generalize (N.arcs.getD j default).cap = ca at *
          cases hA : inK c c.length (frN N j : Int) <;> cases hB : inK c c.length (toN N j : Int) <;> simp <;> omega)
      rw [neg2] at this
      exact this
    omega
theorem end_cut {N : Net} {G : Gr} {p fa vi : List Int} (h : chE N = 0) (hG : G.Ok N.sup.length) (hf : Fits N G) (hr : NR G N.sup.length p fa vi (-1)) :
    lkA N (cutL N.sup.length (fun v => decide (fa.getD v 0 < never))) N.arcs.length = restV G.left := by
  have hfin : ∀ v, v < N.sup.length → fa.getD v 0 < never → 0 ≤ G.lf v := by
    rcases hr.fin with ⟨_, h1⟩ | ⟨t, e, _⟩
    · exact h1
    · omega
  generalize hC : (fun v => decide (fa.getD v 0 < never)) = C
  have hCv : ∀ v, C v = decide (fa.getD v 0 < never) := fun v => by rw [← hC]
  have h1 := cut_flow (C := C) (f := fun j => G.room (2 * j + 1)) h
  have hc := cutL_ok (n := N.sup.length) (C := C)
  have h2 : dotN (fun v => if C v = true then 1 else 0) (lv N (fun j => G.room (2 * j + 1)) N.arcs.length) N.sup.length = restV G.left := by
    rw [rest_dot, hf.ll]
    have : ∀ k, k ≤ N.sup.length → dotN (fun v => if C v = true then 1 else 0) (lv N (fun j => G.room (2 * j + 1)) N.arcs.length) k = dotN (fun _ => 1) (fun v => max 0 (G.left.getD v 0)) k := by
      intro k
      induction k with
      | zero => intro _; rfl
      | succ k ih =>
        intro hk
        simp only [dotN]
        rw [ih (by omega), ← hf.lf k (by omega)]
        have h3 := hfin k (by omega)
        have h4 := hr.src k (by omega)
        have e : G.left.getD k 0 = G.lf k := rfl
        rw [e, hCv]
        by_cases h5 : fa.getD k 0 < never
        · rw [if_pos (by simpa using h5)]
          have := h3 h5
          omega
        · rw [if_neg (by simpa using h5)]
          have : ¬ 0 < G.lf k := fun hp => by have := h4 hp; unfold never at h5; omega
          omega
    exact this _ (Nat.le_refl _)
  rw [h2] at h1
  rw [lkA_arc, ← lkR_eq _ (Nat.le_refl _) hc, lkR_dot]
  have e1 : dotN (fun v => if inK (cutL N.sup.length C) (cutL N.sup.length C).length (v : Int) = true then (1 : Int) else 0) (fun v => N.sup.getD v 0) N.sup.length = dotN (fun v => if C v = true then 1 else 0) (fun v => N.sup.getD v 0) N.sup.length := by
    have : ∀ k, k ≤ N.sup.length → dotN (fun v => if inK (cutL N.sup.length C) (cutL N.sup.length C).length (v : Int) = true then (1 : Int) else 0) (fun v => N.sup.getD v 0) k = dotN (fun v => if C v = true then 1 else 0) (fun v => N.sup.getD v 0) k := by
      intro k
      induction k with
      | zero => intro _; rfl
      | succ k ih => intro hk; simp only [dotN]; rw [ih (by omega), cutL_in (by omega)]
    exact this _ (Nat.le_refl _)
  rw [e1, h1]
  have neg2 : ∀ (g : Nat → Int) k, arcS (fun _ => 1) (fun j => - g j) k = - arcS (fun _ => 1) g k := fun g k => by
    induction k with
    | zero => rfl
    | succ k ih => simp only [arcS]; rw [ih]; omega
  have h6 := arc_congr (f := fun j => G.room (2 * j + 1)) (g := fun j => (if C (toN N j) = true then (1 : Int) else 0) - (if C (frN N j) = true then 1 else 0))
    (h := fun j => - (if inK (cutL N.sup.length C) (cutL N.sup.length C).length (N.arcs.getD j default).fr = true ∧ inK (cutL N.sup.length C) (cutL N.sup.length C).length (N.arcs.getD j default).to = false then (N.arcs.getD j default).cap else 0)) N.arcs.length (fun j hj => by
      have e := net_ends h j hj
      have b := hf.r0 j hj
      have rc := room_cap hG hf j hj
      have t := hf.t0 j hj
      have f := hf.fr j hj
      have es := hf.es
      rw [e.1, e.2.1, cutL_in e.2.2.1, cutL_in e.2.2.2]
      have k1 := hr.bel (2 * j) (by omega)
      have k2 := hr.bel (2 * j + 1) (by omega)
      rw [f.1, t.1] at k1
      rw [f.2, t.2] at k2
      generalize (N.arcs.getD j default).cap = ca at b ⊢
      have c1 := hCv (frN N j)
      have c2 := hCv (toN N j)
      by_cases a1 : fa.getD (frN N j) 0 < never <;> by_cases a2 : fa.getD (toN N j) 0 < never <;> simp only [a1, a2, decide_true, decide_false] at c1 c2 <;> rw [c1, c2] <;> simp
      · have : ¬ 0 < G.room (2 * j) := fun hp => a2 ((k1 a1 hp).2)
        omega
      · have : ¬ 0 < G.room (2 * j + 1) := fun hp => a1 ((k2 a2 hp).2)
        omega)
  rw [neg2] at h6
  omega
end Dp
end Go.Proofs.Ytmebpglkeedaoaa
namespace Go.Proofs.Ytmebpglkeedaoaa
namespace Dp
def noC (a : Arc) : Arc := ⟨a.fr, a.to, a.cap, 0⟩
def zcN (N : Net) : Net := ⟨N.sup, N.arcs.map noC⟩
theorem fr_get {N : Net} {j : Nat} (hj : j < N.arcs.length) : (zcN N).arcs.getD j default = noC (N.arcs.getD j default) := by
  simp [zcN, List.getD_eq_getElem?_getD, hj]
theorem fr_len (N : Net) : (zcN N).arcs.length = N.arcs.length := by simp [zcN]
theorem fr_ch {N : Net} (h : chE N = 0) : chE (zcN N) = 0 := by
  have h2 := chE_zero h
  have h3 : manyB (zcN N) = manyB N := by simp [manyB, zcN]
  have h4 : okB (zcN N) = true := by
    have h5 := h2.2
    simp only [okB, Bool.and_eq_true, List.all_eq_true, zcN, List.mem_map] at h5 ⊢
    refine ⟨h5.1, fun a ⟨b, hb, e⟩ => ?_, h5.2.2⟩
    have := h5.2.1 b hb
    subst e
    have t := of_decide_eq_true this
    exact decide_eq_true ⟨t.1, t.2.1, t.2.2.1, t.2.2.2.1, by show (-1048576 : Int) ≤ 0 ∧ (0 : Int) ≤ 1048576; omega⟩
  have h5 : manyB N = false := h2.1
  simp only [chE, h3, h5, h4, if_true]
  rfl
theorem fr_lkA {N : Net} {c : List Int} : ∀ k, k ≤ N.arcs.length → lkA (zcN N) c k = lkA N c k
  | 0, _ => by
    simp only [lkA]
    have : ∀ k, lkS (zcN N) c k = lkS N c k := fun k => by
      induction k with
      | zero => rfl
      | succ k ih => simp only [lkS, ih]; rfl
    exact this _
  | k + 1, hk => by
    simp only [lkA]
    rw [fr_lkA k (by omega), fr_get (by omega)]
    rfl
theorem fr_left {N : Net} {fl : List Int} : ∀ k, k ≤ N.arcs.length → leftK (zcN N) fl k = leftK N fl k
  | 0, _ => rfl
  | k + 1, hk => by
    simp only [leftK]
    rw [fr_left k (by omega), fr_get (by omega)]
    rfl
theorem fr_flow {N : Net} {fl : List Int} : isFlow (zcN N) fl = isFlow N fl := by
  have h1 : capB (zcN N) fl = capB N fl := by
    unfold capB
    rw [fr_len]
    refine Bool.eq_iff_iff.2 ?_
    simp only [List.all_eq_true, List.mem_range, decide_eq_true_eq]
    exact ⟨fun h k hk => by have := h k hk; rw [fr_get hk] at this; exact this, fun h k hk => by rw [fr_get hk]; exact h k hk⟩
  simp only [isFlow, fr_len, h1]
  rw [fr_left _ (Nat.le_refl _)]
end Dp
end Go.Proofs.Ytmebpglkeedaoaa
namespace Go.Proofs.Ytmebpglkeedaoaa
namespace Dp
def exE (G : Gr) (u e k : Nat) : Prop := G.frA k = u ∧ e ≤ k
structure BfI (G : Gr) (n : Nat) (vi : List Int) (S P Q : List Nat) (ex : Nat → Prop) : Prop where
  nd : S.Nodup
  lt : ∀ v, v ∈ S → v < n
  vl : vi.length = n
  src : ∀ v, v < n → 0 < G.lf v → v ∈ S
  chn : Chn G [] [] vi S
  dn : ∀ v, v ∈ P → 0 ≤ G.lf v
  pq : (P ++ Q).Nodup
  mem : ∀ v, v ∈ S ↔ v ∈ P ∨ v ∈ Q
  cl : ∀ k, k < G.es.length → G.frA k ∈ P → 0 < G.room k → ¬ ex k → G.toA k ∈ S
structure BfS (G : Gr) (n : Nat) (vi : List Int) (S Q : List Nat) (i : Nat) : Prop where
  nd : S.Nodup
  lt : ∀ v, v ∈ S → v < i
  vl : vi.length = n
  src : ∀ v, v < i → 0 < G.lf v → v ∈ S
  chn : Chn G [] [] vi S
  qn : Q.Nodup
  mem : ∀ v, v ∈ S ↔ v ∈ Q
theorem getD_setN (l : List Int) (i j : Nat) (x : Int) (hi : i < l.length) : (l.set i x).getD j 0 = if j = i then x else l.getD j 0 := by
  rw [List.getD_eq_getElem?_getD, List.getElem?_set, List.getD_eq_getElem?_getD]
  by_cases h : i = j
  · subst h; simp [hi]
  · rw [if_neg h, if_neg (fun e => h e.symm)]
section
variable {G : Gr} {n : Nat} {vi : List Int} {S P Q : List Nat} {ex : Nat → Prop}
theorem BfS.start (G : Gr) (n : Nat) : BfS G n (List.replicate n 0) [] [] 0 :=
  ⟨List.nodup_nil, fun v h => by simp at h, by simp, fun v h => absurd h (Nat.not_lt_zero _), trivial, List.nodup_nil, fun v => Iff.rfl⟩
theorem BfS.no {i : Nat} (h : BfS G n vi S Q i) (hl : ¬ 0 < G.lf i) : BfS G n vi S Q (i + 1) :=
  { h with
    lt := fun v hv => Nat.lt_succ_of_lt (h.lt v hv)
    src := fun v hv h0 => by
      by_cases e : v = i
      · subst e; exact absurd h0 hl
      · exact h.src v (by omega) h0 }
theorem BfS.yes {i : Nat} (h : BfS G n vi S Q i) (hi : i < n) (hl : 0 < G.lf i) : BfS G n (vi.set i (-1)) (i :: S) (Q ++ [i]) (i + 1) := by
  have hS : i ∉ S := fun hm => absurd (h.lt i hm) (Nat.lt_irrefl i)
  have hne : ∀ u, u ∈ S → u ≠ i := fun u hu e => hS (e ▸ hu)
  refine ⟨List.nodup_cons.2 ⟨hS, h.nd⟩, fun v hv => ?_, by rw [List.length_set]; exact h.vl, fun v hv h0 => ?_, ⟨?_, ?_⟩, ?_, fun v => ?_⟩
  · rcases List.mem_cons.1 hv with rfl | hv
    · omega
    · have := h.lt v hv; omega
  · by_cases e : v = i
    · subst e; simp
    · exact List.mem_cons_of_mem _ (h.src v (by omega) h0)
  · exact h.chn.keep (fun u hu => ⟨rfl, by rw [getD_setN _ _ _ _ (by rw [h.vl]; exact hi), if_neg (hne u hu)]⟩)
  · exact .inl ⟨hl, rfl, by rw [getD_setN _ _ _ _ (by rw [h.vl]; exact hi), if_pos rfl]⟩
  · rw [List.nodup_append]
    refine ⟨h.qn, by simp, fun a ha b hb => ?_⟩
    simp at hb
    subst hb
    exact hne a ((h.mem a).2 ha)
  · rw [List.mem_cons, List.mem_append, List.mem_singleton, h.mem v]
    exact ⟨fun h => h.elim .inr .inl, fun h => h.elim .inr .inl⟩
theorem BfS.bf (h : BfS G n vi S Q n) : BfI G n vi S [] Q (fun _ => False) :=
  ⟨h.nd, h.lt, h.vl, h.src, h.chn, fun v hv => by simp at hv, by simpa using h.qn, fun v => by simp [h.mem v], fun k _ hk => by simp at hk⟩
theorem BfI.pop {u : Nat} (h : BfI G n vi S P (u :: Q) (fun _ => False)) (hl : 0 ≤ G.lf u) : BfI G n vi S (u :: P) Q (exE G u 0) := by
  have hp := h.pq
  refine ⟨h.nd, h.lt, h.vl, h.src, h.chn, fun v hv => ?_, ?_, fun v => ?_, fun k hk hf hr hx => ?_⟩
  · rcases List.mem_cons.1 hv with rfl | hv
    · exact hl
    · exact h.dn v hv
  · have : (u :: P ++ Q).Perm (P ++ u :: Q) := by
      simpa using (List.perm_middle (a := u) (l₁ := P) (l₂ := Q)).symm
    exact this.nodup_iff.2 hp
  · rw [h.mem v, List.mem_cons, List.mem_cons]
    exact ⟨fun h => h.elim (fun a => .inl (.inr a)) (fun h => h.elim (fun a => .inl (.inl a)) .inr), fun h => h.elim (fun h => h.elim (fun a => .inr (.inl a)) .inl) (fun a => .inr (.inr a))⟩
  · rcases List.mem_cons.1 hf with e | hf
    · exact absurd ⟨e, Nat.zero_le _⟩ hx
    · exact h.cl k hk hf hr (fun h => h)
theorem BfI.skip {u e : Nat} (h : BfI G n vi S P Q (exE G u e)) (hs : e < G.es.length → G.frA e = u → 0 < G.room e → G.toA e ∈ S) : BfI G n vi S P Q (exE G u (e + 1)) :=
  { h with
    cl := fun k hk hf hr hx => by
      by_cases e2 : k = e ∧ G.frA k = u
      · obtain ⟨e3, e4⟩ := e2
        subst e3
        exact hs hk e4 hr
      · exact h.cl k hk hf hr (fun hh => hx ⟨hh.1, by
          have := hh.2
          by_cases e3 : k = e
          · exact absurd ⟨e3, hh.1⟩ e2
          · omega⟩) }
theorem BfI.visit {u e : Nat} (hG : G.Ok n) (hz : ∀ k, k < G.es.length → G.cost k = 0) (h : BfI G n vi S P Q (exE G u e)) (he : e < G.es.length) (hf : G.frA e = u) (hu : u ∈ S) (hr : 0 < G.room e) (ht : G.toA e ∉ S) : BfI G n (vi.set (G.toA e) (e : Int)) (G.toA e :: S) P (Q ++ [G.toA e]) (exE G u (e + 1)) := by
  have hl : G.toA e < vi.length := by rw [h.vl]; exact hG.toL he
  have hne : ∀ v, v ∈ S → v ≠ G.toA e := fun v hv e2 => ht (e2 ▸ hv)
  have hrc : G.rc [] e = 0 := by unfold Gr.rc; rw [hz e he]; rfl
  refine ⟨List.nodup_cons.2 ⟨ht, h.nd⟩, fun v hv => ?_, by rw [List.length_set]; exact h.vl, fun v hv h0 => List.mem_cons_of_mem _ (h.src v hv h0), ⟨?_, ?_⟩, h.dn, ?_, fun v => ?_, fun k hk hfk hrk hx => ?_⟩
  · rcases List.mem_cons.1 hv with rfl | hv
    · exact hG.toL he
    · exact h.lt v hv
  · exact h.chn.keep (fun v hv => ⟨rfl, by rw [getD_setN _ _ _ _ hl, if_neg (hne v hv)]⟩)
  · exact .inr ⟨e, he, by rw [getD_setN _ _ _ _ hl, if_pos rfl], rfl, hr, by rw [hf]; exact hu, by rw [hrc]; rfl⟩
  · rw [← List.append_assoc, List.nodup_append]
    refine ⟨h.pq, by simp, fun a ha b hb => ?_⟩
    simp at hb
    subst hb
    exact hne a ((h.mem a).2 (List.mem_append.1 ha))
  · rw [List.mem_cons, List.mem_append, List.mem_singleton, h.mem v]
    exact ⟨fun h => h.elim (fun a => .inr (.inr a)) (fun h => h.elim .inl (fun a => .inr (.inl a))), fun h => h.elim (fun a => .inr (.inl a)) (fun h => h.elim (fun a => .inr (.inr a)) .inl)⟩
  · by_cases e3 : k = e
    · subst e3; simp
    · exact List.mem_cons_of_mem _ (h.cl k hk hfk hrk (fun hh => hx ⟨hh.1, by have := hh.2; omega⟩))
theorem BfI.over {u : Nat} (h : BfI G n vi S P Q (exE G u G.es.length)) : BfI G n vi S P Q (fun _ => False) :=
  { h with cl := fun k hk hf hr _ => h.cl k hk hf hr (fun hh => by have := hh.2; omega) }
theorem BfI.short (h : BfI G n vi S P Q ex) : P.length + Q.length ≤ n := by
  have h1 : (P ++ Q).length ≤ n := by
    have hsub : (P ++ Q) ⊆ List.range n := fun v hv => by simp; exact h.lt v ((h.mem v).2 (List.mem_append.1 hv))
    have := h.pq.length_le_of_subset hsub
    simpa using this
  simpa using h1
theorem BfI.cut {N : Net} (hG : G.Ok n) (hf : Fits (zcN N) G) (hn : n = (zcN N).sup.length) (hz : ∀ k, k < G.es.length → G.cost k = 0) (h : BfI G n vi S P [] (fun _ => False)) : ∃ fa wi, NR G n [] fa wi (-1) := by
  have hS : ∀ v, v ∈ S ↔ v ∈ P := fun v => by rw [h.mem v]; simp
  refine ⟨(List.range n).map (fun v => if v ∈ S then 0 else never), (List.range n).map (fun v => if v ∈ S then vi.getD v 0 else -1), ?_⟩
  have hfa : ∀ v, v < n → ((List.range n).map (fun v => if v ∈ S then (0 : Int) else never)).getD v 0 = if v ∈ S then 0 else never := fun v hv => by simp [List.getD_eq_getElem?_getD, hv]
  have hwi : ∀ v, v < n → ((List.range n).map (fun v => if v ∈ S then vi.getD v 0 else -1)).getD v 0 = if v ∈ S then vi.getD v 0 else -1 := fun v hv => by simp [List.getD_eq_getElem?_getD, hv]
  have hnv : (0 : Int) < never := by decide
  have hlk : ∀ v, v ∈ S → -1 ≤ vi.getD v 0 ∧ vi.getD v 0 < G.es.length := by
    have key : ∀ S, Chn G [] [] vi S → ∀ v, v ∈ S → -1 ≤ vi.getD v 0 ∧ vi.getD v 0 < G.es.length := fun S => by
      induction S with
      | nil => intro _ v hv; simp at hv
      | cons u S ih =>
        intro hc v hv
        rcases List.mem_cons.1 hv with rfl | hv
        · rcases hc.2 with ⟨_, _, e⟩ | ⟨k, hk, e, _⟩
          · rw [e]; omega
          · rw [e]; omega
        · exact ih hc.1 v hv
    exact key S h.chn
  refine
  { l1 := by simp
    l2 := by simp
    top := fun v hv => by rw [hfa v hv]; split <;> (unfold never; omega)
    src := fun v hv h0 => by rw [hfa v hv, if_pos (h.src v hv h0)]
    via := fun v hv => by
      rw [hwi v hv]
      split
      · rename_i hm; exact hlk v hm
      · omega
    up := fun v hv hl => by
      rw [hfa v hv] at hl ⊢
      split at hl
      · rename_i hm
        rw [if_pos hm]
        have h1 : ([] : List Int).getD v 0 = 0 := rfl
        rw [h1]; omega
      · omega
    bel := fun k hk hl hr => by
      have hv := hG.frL hk
      have hw := hG.toL hk
      rw [hfa _ hv] at hl ⊢
      rw [hfa _ hw]
      have hrc : G.rc [] k = 0 := by unfold Gr.rc; rw [hz k hk]; rfl
      split at hl
      · rename_i hm
        have ht := h.cl k hk ((hS _).1 hm) hr (fun h => h)
        rw [if_pos ht, if_pos hm, hrc]; omega
      · omega
    ch := ⟨S, h.nd, fun v hv => by
      rw [hfa v hv]
      constructor
      · intro hm; rw [if_pos hm]; exact hnv
      · intro hl
        split at hl
        · assumption
        · omega, h.lt, by
      have h1 : Chn G [] ((List.range n).map (fun v => if v ∈ S then (0 : Int) else never)) ((List.range n).map (fun v => if v ∈ S then vi.getD v 0 else -1)) S := h.chn.keep (fun u hu => by
        have hlt := h.lt u hu
        exact ⟨by rw [hfa u hlt, if_pos hu]; rfl, by rw [hwi u hlt, if_pos hu]⟩)
      exact h1⟩
    fin := .inl ⟨rfl, fun v hv hl => by
      rw [hfa v hv] at hl
      split at hl
      · rename_i hm; exact h.dn v ((hS v).1 hm)
      · omega⟩ }
end
theorem fits_cost {N : Net} {G : Gr} (hf : Fits (zcN N) G) : ∀ k, k < G.es.length → G.cost k = 0 := fun k hk => by
  have hl := hf.es
  have hm : k / 2 < (zcN N).arcs.length := by omega
  have h := hf.c0 (k / 2) hm
  rw [fr_get (by rw [← fr_len N]; exact hm)] at h
  have h0 : (noC (N.arcs.getD (k / 2) default)).cost = 0 := rfl
  rw [h0] at h
  rcases Nat.mod_two_eq_zero_or_one k with e | e
  · have : k = 2 * (k / 2) := by omega
    rw [this]; exact h.1
  · have : k = 2 * (k / 2) + 1 := by omega
    rw [this, h.2]; rfl
end Dp
end Go.Proofs.Ytmebpglkeedaoaa
namespace Go.Proofs.Ytmebpglkeedaoaa
open Go.RowKit Dp
theorem OwnI.cell {B : Nat} {W : World} {g c : Nat} {xs : List Int} (h : OwnI B W g c xs) (j : Nat) (hj : j < xs.length) : W.cell? ⟨g, j, none⟩ = some (.int .i64 (xs.getD j 0)) := by
  rw [World.ownsRow.cellAt h j (by omega), List.getElem?_map, List.getElem?_eq_getElem hj, List.getD_eq_getElem?_getD, List.getElem?_eq_getElem hj]
  rfl
theorem OwnI.free {B : Nat} {W : World} {g c : Nat} {xs : List Int} (h : OwnI B W g c xs) (j : Nat) : W.frozen? ⟨g, j, none⟩ = false := World.ownsRow.frozenAt h j
theorem OwnI.put {B : Nat} {W : World} {g c : Nat} {xs : List Int} (h : OwnI B W g c xs) (j : Nat) (v : Int) : OwnI B (W.setCell ⟨g, j, none⟩ (.int .i64 v)) g c (xs.set j v) := by
  have := (World.ownsRow.stored h j (.int .i64 v)).1
  unfold OwnI
  rw [List.length_set, List.map_set]
  exact this
theorem OwnI.below {B : Nat} {W W' : World} {g c : Nat} {xs : List Int} (h : OwnI B W g c xs) (hb : Below W.heap.size W W') : OwnI B W' g c xs := ownBelow h hb
theorem OwnI.lt {B : Nat} {W : World} {g c : Nat} {xs : List Int} (h : OwnI B W g c xs) : B ≤ g ∧ g < W.heap.size := World.ownsRow.lt h g rfl
theorem OwnI.mono {B B' : Nat} {W : World} {g c : Nat} {xs : List Int} (h : OwnI B W g c xs) (hb : B' ≤ B) : OwnI B' W g c xs := ⟨h.1, h.2.imp id (fun ⟨k, c, cur, hv, hb', r⟩ => ⟨k, c, cur, hv, Nat.le_trans hb hb', r⟩)⟩
end Go.Proofs.Ytmebpglkeedaoaa
namespace Go.Proofs.Ytmebpglkeedaoaa
open Go.RowKit Dp
def flat {α : Type} (f : α → List Value) (l : List α) : List Value := l.flatMap f
theorem flat_length {α : Type} {f : α → List Value} {s : Nat} (hf : ∀ x, (f x).length = s) : ∀ l : List α, (flat f l).length = l.length * s
  | [] => by simp [flat]
  | x :: l => by
    have := flat_length hf l
    unfold flat at *
    simp only [List.flatMap_cons, List.length_append, List.length_cons, hf, this, Nat.add_mul]
    omega
theorem flat_get {α : Type} {f : α → List Value} {s : Nat} (hf : ∀ x, (f x).length = s) : ∀ (l : List α) (i j : Nat) (x : α), l[i]? = some x → j < s → (flat f l)[i * s + j]? = (f x)[j]?
  | [], i, j, x, h, _ => by simp at h
  | y :: l, 0, j, x, h, hj => by
    simp only [List.getElem?_cons_zero, Option.some.injEq] at h
    subst h
    unfold flat
    rw [List.flatMap_cons, Nat.zero_mul, Nat.zero_add, List.getElem?_append_left (by rw [hf]; exact hj)]
  | y :: l, i + 1, j, x, h, hj => by
    simp only [List.getElem?_cons_succ] at h
    have ih := flat_get hf l i j x h hj
    unfold flat at *
    rw [List.flatMap_cons, List.getElem?_append_right (by rw [hf, Nat.add_mul]; omega), hf]
    rw [← ih]
    congr 1
    rw [Nat.add_mul]; omega
theorem flat_set {α : Type} {f : α → List Value} {s : Nat} (hf : ∀ x, (f x).length = s) (j : Nat) (v : Value) (hj : j < s) : ∀ (l : List α) (i : Nat) (x y : α), l[i]? = some y → f x = (f y).set j v → (flat f l).set (i * s + j) v = flat f (l.set i x)
  | [], i, x, y, h, _ => by simp at h
  | z :: l, 0, x, y, h, he => by
    simp only [List.getElem?_cons_zero, Option.some.injEq] at h
    subst h
    unfold flat
    rw [List.flatMap_cons, Nat.zero_mul, Nat.zero_add, List.set_append_left _ _ (by rw [hf]; exact hj), List.set_cons_zero, List.flatMap_cons, he]
  | z :: l, i + 1, x, y, h, he => by
    simp only [List.getElem?_cons_succ] at h
    have ih := flat_set hf j v hj l i x y h he
    unfold flat at *
    rw [List.flatMap_cons, List.set_cons_succ, List.flatMap_cons, List.set_append_right _ _ (by rw [hf, Nat.add_mul]; omega), hf, ← ih]
    congr 2
    rw [Nat.add_mul]; omega
theorem flat_append {α : Type} (f : α → List Value) (a b : List α) : flat f (a ++ b) = flat f a ++ flat f b := by simp [flat]
theorem getElem_D {α : Type} (l : List α) (i : Nat) (d : α) (h : i < l.length) : l[i]? = some (l.getD i d) := by
  rw [List.getD_eq_getElem?_getD, List.getElem?_eq_getElem h]; rfl
def OwnR {α : Type} (f : α → List Value) (e : TypeId) (s : Nat) (B : Nat) (W : World) (A : Option Addr) (c : Nat) (l : List α) : Prop := W.ownsRow B e s (.slice A l.length c) l.length (flat f l)
section
variable {α : Type} {f : α → List Value} {e : TypeId} {s B : Nat} {W W' : World} {g c : Nat} {l : List α} {A : Option Addr}
theorem OwnR.cell (hf : ∀ x, (f x).length = s) (h : OwnR f e s B W (some ⟨g, 0, none⟩) c l) (i j : Nat) (x : α) (hx : l[i]? = some x) (hj : j < s) : W.cell? ⟨g, i * s + j, none⟩ = (f x)[j]? := by
  have hi : i < l.length := (List.getElem?_eq_some_iff.1 hx).1
  have : i * s + j < l.length * s := by
    have := Nat.mul_le_mul_right s (show i + 1 ≤ l.length from hi)
    rw [Nat.add_mul] at this
    omega
  rw [World.ownsRow.cellAt h _ this, flat_get hf l i j x hx hj]
theorem OwnR.free (h : OwnR f e s B W (some ⟨g, 0, none⟩) c l) (j : Nat) : W.frozen? ⟨g, j, none⟩ = false := World.ownsRow.frozenAt h j
theorem OwnR.put (hf : ∀ x, (f x).length = s) (h : OwnR f e s B W (some ⟨g, 0, none⟩) c l) (i j : Nat) (x y : α) (v : Value) (hy : l[i]? = some y) (hj : j < s) (he : f x = (f y).set j v) : OwnR f e s B (W.setCell ⟨g, i * s + j, none⟩ v) (some ⟨g, 0, none⟩) c (l.set i x) := by
  have := (World.ownsRow.stored h (i * s + j) v).1
  unfold OwnR
  rw [List.length_set, ← flat_set hf j v hj l i x y hy he]
  exact this
theorem OwnR.below (h : OwnR f e s B W A c l) (hb : Below W.heap.size W W') : OwnR f e s B W' A c l := ownBelow h hb
theorem OwnR.touch {S : Nat → Prop} (h : OwnR f e s B W A c l) (k : Touch S W W') (hn : ∀ b, OwnB A b → ¬ S b) : OwnR f e s B W' A c l := ownTouch h k hn
theorem OwnR.lt (h : OwnR f e s B W (some ⟨g, 0, none⟩) c l) : B ≤ g ∧ g < W.heap.size := World.ownsRow.lt h g rfl
theorem OwnR.mono {B' : Nat} (h : OwnR f e s B W A c l) (hb : B' ≤ B) : OwnR f e s B' W A c l := ⟨h.1, h.2.imp id (fun ⟨k, c, cur, hv, hb', r⟩ => ⟨k, c, cur, hv, Nat.le_trans hb hb', r⟩)⟩
theorem OwnR.form (h : OwnR f e s B W A c l) (hn : 0 < l.length) : ∃ g, A = some ⟨g, 0, none⟩ ∧ B ≤ g ∧ g < W.heap.size ∧ l.length ≤ c ∧ c ≤ 9223372036854775807 := by
  rcases h.2 with ⟨h0, h1⟩ | ⟨g, cap', cur, hv, hb, hg, hn', hcm, _⟩
  · omega
  · cases hv
    exact ⟨g, rfl, hb, (Array.getElem?_eq_some_iff.1 hg).1, hn', by unfold maxLen at hcm; omega⟩
theorem OwnR.set_ne (h : OwnR f e s B W A c l) {p : Addr} (hp : ¬ OwnB A p.block) (u : Value) : OwnR f e s B (W.setCell p u) A c l := ownSet h hp u
theorem OwnR.pop (hf : ∀ x, (f x).length = s) (h : OwnR f e s B W (some ⟨g, 0, none⟩) c l) (k : Nat) (hk : k + 1 = l.length) : OwnR f e s B W (some ⟨g, 0, none⟩) c (l.take k) := by
  unfold OwnR at h ⊢
  rw [← hk] at h
  have hl : (l.take k).length = k := by simp; omega
  rw [hl]
  have e1 : flat f l = flat f (l.take k) ++ flat f (l.drop k) := by rw [← flat_append, List.take_append_drop]
  rw [e1] at h
  exact ownsRow_pop (by rw [flat_length hf, hl]) h
end
end Go.Proofs.Ytmebpglkeedaoaa
