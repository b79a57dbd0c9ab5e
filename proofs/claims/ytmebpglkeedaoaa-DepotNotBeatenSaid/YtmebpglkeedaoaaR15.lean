/- General: a region that draws its order: operations that read, each of which may come up at any time; a row of operations of any kind, each of which waits for the one before (a slice that is built, an append, a store); then a tail in order. -/
import Derived.Test.YtmebpglkeedaoaaB0
namespace Go.Proofs.Ytmebpglkeedaoaa
open Go Go.RowKit
set_option linter.unusedVariables false
/-- a world that is W -/
structure Same (W : World) where
  w : World
  is : w = W
instance (W : World) : Nonempty (Same W) := ⟨⟨W, rfl⟩⟩
@[simp, go_sem] theorem Same.eq {W : World} (x : Same W) : x.w = W := x.is
def isMove (o : Oper) : Bool := (match o.op with | .move _ => true | _ => false) && o.guard.isNone
/-- an operation leaves a value, whatever it is, and a world -/
def StepV (P : Program) (o : Oper) (a : Act) (w : World) (N : Value → World → Prop) : Prop :=
  match (execOp a.eval o).run P w with
  | .ok (.value v) w' => N v w'
  | .ok .skip w' => N undef w'
  | .ok (.enter f args) w' => Calls P f args w' fun e w'' => ∃ v, e = .returned v ∧ N v w''
  | _ => False
def SpineV (P : Program) (C : World → Prop) (T : Act → World → Prop) : List (Oper × Bool) → Act → World → Prop
  | [], a, w => T a w
  | (o, f) :: r, a, w => StepV P o a w fun v w' => (f = true → C w') ∧ SpineV P C T r (a.put o.dst v) w'
def spineB (ops : Array Oper) (k : Nat) (fl : List Bool) (lz : List Nat) (n : Nat) : Bool :=
  Region.noSelect ops && decide (k + fl.length ≤ ops.size) && dstsOk n (ops.toList.take k) &&
  (List.range ops.size).all (fun i => match ops[i]? with | some o => o.after.all (fun e => !Region.binds .any e || decide (e.on < i)) | none => false) &&
  (List.range k).all (fun i => (List.range k).all fun j => match ops[i]?, ops[j]? with
    | some oi, some oj => (match oj.dst with | some d => !(oi.looksAt ops).contains d || (decide (j < i) && waitsB1 .any ops i j) | none => false)
    | _, _ => false) &&
  (List.range k).all (fun i => (List.range fl.length).all fun j => match ops[i]?, ops[k + j]? with
    | some oi, some oj => (match oj.dst with | some d => !(oi.looksAt ops).contains d && oi.dst != some d | none => true)
    | _, _ => false) &&
  (List.range fl.length).all (fun s => match ops[k + s]? with
    | some o => o.guard.isNone && (decide (s = 0) || waitsB1 .any ops (k + s) (k + s - 1)) && (List.range k).all (fun j => match ops[j]? with
      | some oj => (match oj.dst with | some d => !(o.looksAt ops).contains d || waitsB1 .any ops (k + s) j | none => false)
      | none => false) && (fl.getD s true || (List.range k).all (fun i => lz.contains i || (coverB ops ops.size (depsB ops (k + s) (List.replicate ops.size false))).getD i false))
    | none => false) &&
  lz.all (fun i => match ops[i]? with | some o => isMove o | none => false) &&
  (List.range ops.size).all (fun t => decide (t < k + fl.length) || ((coverB ops ops.size (depsB ops t (List.replicate ops.size false))).take (k + fl.length)).all (fun b => b)) &&
  Region.seqB .any ops (ops.size - (k + fl.length)) (k + fl.length) (Array.replicate (k + fl.length) true ++ Array.replicate (ops.size - (k + fl.length)) false)
theorem slot_put_congr {a b : Act} {t : Tmp} (hs : a.tmps.size = b.tmps.size) (h : slotOf a t = slotOf b t) (x : Option Tmp) (v : Value) : slotOf (a.put x v) t = slotOf (b.put x v) t := by
  by_cases hx : x = some t
  · subst hx
    by_cases hl : t < a.tmps.size
    · have hl' : t < b.tmps.size := hs ▸ hl
      rw [slot_put_same v hl, slot_put_same v hl']
    · have hl' : ¬ t < b.tmps.size := hs ▸ hl
      simp [slotOf, Act.put, hl, hl']
  · rw [slot_put_ne v hx, slot_put_ne v hx, h]
theorem move_yields {P : Program} {ops : Array Oper} {o : Oper} {v : Value} {a : Act} {W : World} (he : isMove o = true) (h : YieldsIn P ops (fun w' => ∃ x : Same W, w' = x.w) o v a) (V : World) : YieldsIn P ops (fun w' => ∃ x : Same V, w' = x.w) o v a := by
  unfold isMove at he
  simp only [Bool.and_eq_true] at he
  have hw : Region.wanted o (yielded ops a.tmps) = true := by
    unfold Region.wanted
    rw [Option.isNone_iff_eq_none.1 he.2]
  rcases h with ⟨_, h1⟩ | ⟨h1, _⟩
  · refine .inl ⟨hw, fun w hx => ?_⟩
    have h2 := h1 W ⟨⟨W, rfl⟩, rfl⟩
    have h3 := he.1
    unfold Oper.quietAt at h2 ⊢
    cases ho : o.op <;> rw [ho] at h3 <;> simp at h3
    rename_i x
    have e : ∀ w, (execOp a.eval o).run P w = .ok (.value (a.eval x)) w := fun w => by
      unfold execOp
      simp only [ho]
      rfl
    rw [e] at h2 ⊢
    simp only [Oper.quietUpon] at h2 ⊢
    exact ⟨trivial, h2.2⟩
  · rw [hw] at h1; cases h1
theorem StepV.wp {P : Program} {o : Oper} {a b : Act} {w : World} {N : Value → World → Prop} {K : Act → World → Prop} {Q : Exit → Act → World → Prop} (h : StepV P o b w N) (he : execOp a.eval o = execOp b.eval o) (hK : ∀ v w', N v w' → K (a.put o.dst v) w') : o.wp P a w K Q := by
  unfold StepV at h
  unfold Oper.wp
  rw [he]
  generalize (execOp b.eval o).run P w = r at *
  cases r with
  | ok n w' =>
    cases n <;> simp only [Oper.upon] at h ⊢
    case value u => exact hK _ _ h
    case skip => exact hK _ _ h
    case enter f args => exact h.mono fun e w'' ⟨v, hv, hn⟩ => by subst hv; exact hK _ _ hn
    all_goals exact h.elim
  | halt x w' => exact h.elim
structure MidV (P : Program) (ops : Array Oper) (k m : Nat) (lz : List Nat) (C : World → Prop) (T : Act → World → Prop) (sp : List (Oper × Bool)) (a0 af : Act) (s : Nat) (b : Act) (listed : Array Bool) (a : Act) (w : World) : Prop where
  size : listed.size = ops.size
  closed : ∀ j oj, ops[j]? = some oj → listed.getD j false = true → ∀ e ∈ oj.after, Region.binds .any e = true → listed.getD e.on false = true
  le : s ≤ m
  sdone : ∀ j, j < s → listed.getD (k + j) false = true
  sleft : ∀ t, k + s ≤ t → t < ops.size → listed.getD t true = false
  adef : a.defers = b.defers
  asize : a.tmps.size = a0.tmps.size
  bsize : b.tmps.size = a0.tmps.size
  put : ∀ j o t, j < k → ops[j]? = some o → o.dst = some t → listed.getD j false = true → slotOf a t = slotOf b t
  same : ∀ t, (∀ j o, j < k → ops[j]? = some o → o.dst ≠ some t) → slotOf a t = slotOf b t
  keep : ∀ j o t, j < k → ops[j]? = some o → o.dst = some t → slotOf b t = slotOf af t
  other : ∀ t, (∀ j o, j < k → ops[j]? = some o → o.dst ≠ some t) → (∀ j o, j < m → ops[k + j]? = some o → o.dst ≠ some t) → slotOf b t = slotOf a0 t
  stage : SpineV P C T (sp.drop s) b w
  cw : C w ∨ ∀ i, i < k → i ∉ lz → listed.getD i false = true
section
variable {P : Program} {Q : Exit → Act → World → Prop} {W : World} {a0 af : Act} {l : List Oper}
theorem wp_region_spine {id : Nat} (k : Nat) (fl : List Bool) (lz : List Nat) (af : Act) (C : World → Prop) (hm : P.follows .mixedOrders = true)
    (hB : spineB l.toArray k fl lz a0.tmps.size = true) (hC : C W.drew)
    (hwalk : ∀ V : World, C V → wpQuiet P l.toArray (fun w' => ∃ x : Same V, w' = x.w) (fun a' => a' = af) (l.take k) a0)
    (hS : ∀ V : World, C V → SpineV P C (fun a w => wpList P l.toArray Q (l.drop (k + fl.length)) a w) (((l.drop k).take fl.length).zip fl) af V) :
    (Code.region id l.toArray true).wp P Q a0 W := by
  unfold spineB at hB
  rw [Bool.and_eq_true, Bool.and_eq_true, Bool.and_eq_true, Bool.and_eq_true, Bool.and_eq_true, Bool.and_eq_true, Bool.and_eq_true, Bool.and_eq_true, Bool.and_eq_true] at hB
  obtain ⟨⟨⟨⟨⟨⟨⟨⟨⟨hsel, hks⟩, hdst⟩, hback⟩, hdep⟩, hap⟩, hsp⟩, hlz⟩, htl⟩, hseq⟩ := hB
  simp only [decide_eq_true_eq, List.all_eq_true, List.mem_range, Bool.or_eq_true] at hks hback hdep hap htl hlz hsp
  have hsz : l.toArray.size = l.length := by simp
  generalize hfm : fl.length = m at *
  have hkl : k + m ≤ l.length := by rw [← hsz]; exact hks
  have hdk : dstsOk a0.tmps.size (l.take k) = true := hdst
  have hall : ∀ V : World, C V → AllIn P l.toArray (fun w' => ∃ x : Same V, w' = x.w) af (l.take k) a0 := fun V hV => allIn_of hdk (hwalk V hV)
  have hA0 := hall _ hC
  have hget : ∀ i, i < k → (l.take k)[i]? = l[i]? := fun i hi => by rw [List.getElem?_take]; simp [hi]
  have hafs : ∀ t, (∀ j o, j < k → l[j]? = some o → o.dst ≠ some t) → slotOf af t = slotOf a0 t := fun t ht => hA0.keep.2.2 t (fun o ho => by
    obtain ⟨j, hj⟩ := List.getElem?_of_mem ho
    rw [List.getElem?_take] at hj
    split at hj
    · exact ht j o (by assumption) hj
    · cases hj)
  have hback' : ∀ i o, l[i]? = some o → ∀ e ∈ o.after, Region.binds .any e = true → e.on < i := by
    intro i o hi e he hb
    have hil : i < l.length := (List.getElem?_eq_some_iff.1 hi).1
    have h1 := hback i (by rw [hsz]; exact hil)
    have hi' : l.toArray[i]? = some o := by simpa using hi
    rw [hi'] at h1
    have h2 := Array.all_eq_true_iff_forall_mem.1 h1 e he
    simpa [hb] using h2
  have hdep' : ∀ i o j oj d, i < k → l[i]? = some o → j < k → l[j]? = some oj → oj.dst = some d → d ∈ o.looksAt l.toArray → j < i ∧ waitsB1 .any l.toArray i j = true := by
    intro i o j oj d hi ho hj hoj hd hmem
    have h1 := hdep i hi j hj
    have ho' : l.toArray[i]? = some o := by simpa using ho
    have hoj' : l.toArray[j]? = some oj := by simpa using hoj
    rw [ho', hoj'] at h1
    simp only [hd] at h1
    have hc : (o.looksAt l.toArray).contains d = true := by simpa using hmem
    rw [hc] at h1
    simpa using h1
  have hap' : ∀ i o j oj d, i < k → l[i]? = some o → j < m → l[k + j]? = some oj → oj.dst = some d → d ∉ o.looksAt l.toArray ∧ o.dst ≠ some d := by
    intro i o j oj d hi ho hj hoj hd
    have h1 := hap i hi j hj
    have ho' : l.toArray[i]? = some o := by simpa using ho
    have hoj' : l.toArray[k + j]? = some oj := by simpa using hoj
    rw [ho', hoj'] at h1
    simpa [hd] using h1
  have hsp' : ∀ s o, s < m → l[k + s]? = some o → o.guard = none ∧ (s = 0 ∨ waitsB1 .any l.toArray (k + s) (k + s - 1) = true) ∧ (∀ j oj d, j < k → l[j]? = some oj → oj.dst = some d → d ∈ o.looksAt l.toArray → waitsB1 .any l.toArray (k + s) j = true) ∧ (fl.getD s true = true ∨ ∀ i, i < k → i ∉ lz → (coverB l.toArray l.toArray.size (depsB l.toArray (k + s) (List.replicate l.toArray.size false))).getD i false = true) := by
    intro s o hs ho
    have h1 := hsp s hs
    have ho' : l.toArray[k + s]? = some o := by simpa using ho
    rw [ho'] at h1
    simp only [Bool.and_eq_true, Bool.or_eq_true, decide_eq_true_eq, List.all_eq_true, List.mem_range] at h1
    obtain ⟨⟨⟨g1, g2⟩, g3⟩, g4⟩ := h1
    refine ⟨Option.isNone_iff_eq_none.1 g1, g2, fun j oj d hj hoj hd hmem => ?_, g4.imp (fun x => x) (fun h i hi hn => (h i hi).resolve_left (by simpa using hn))⟩
    have h2 := g3 j hj
    have hoj' : l.toArray[j]? = some oj := by simpa using hoj
    rw [hoj'] at h2
    simp only [hd] at h2
    have hc : (o.looksAt l.toArray).contains d = true := by simpa using hmem
    rw [hc] at h2
    simpa using h2
  have dlt : ∀ i o, i < k → l[i]? = some o → ∃ d, o.dst = some d ∧ d < a0.tmps.size := fun i o hi ho => dsts_lt _ _ i o hdk (by rw [hget i (by omega)]; exact ho)
  have dne : ∀ i j o oj t, i < k → j < k → l[i]? = some o → l[j]? = some oj → i ≠ j → oj.dst = some t → o.dst ≠ some t := fun i j o oj t hi hj ho hoj hne hd => dsts_ne _ _ j i oj o t hdk (by rw [hget j (by omega)]; exact hoj) (by rw [hget i (by omega)]; exact ho) (Ne.symm hne) hd
  have fin : ∀ (b : Act) (listed : Array Bool) (a : Act) (w : World), MidV P l.toArray k m lz C (fun a w => wpList P l.toArray Q (l.drop (k + m)) a w) (((l.drop k).take m).zip fl) a0 af m b listed a w → (∀ i, i < k → listed.getD i false = true) → ∀ fuel, unl listed = fuel → wpAny P .any l.toArray Q fuel listed a w := by
    intro b listed a w mm hdone fuel hu
    have hLH : listed = Array.replicate (k + m) true ++ Array.replicate (l.toArray.size - (k + m)) false := by
      apply Array.ext
      · simp [mm.size]; omega
      · intro i h1 h2
        rcases Nat.lt_or_ge i (k + m) with h' | h
        rotate_left 1
        · have := mm.sleft i h (by rw [← mm.size]; exact h1)
          rw [Array.getElem_append_right (by simp; omega)]
          simpa [h1] using this
        · have : listed.getD i false = true := by
            rcases Nat.lt_or_ge i k with h3 | h3
            · exact hdone i h3
            · have := mm.sdone (i - k) (by omega)
              rwa [show k + (i - k) = i by omega] at this
          rw [Array.getElem_append_left (by simp; omega)]
          simpa [h1] using this
    have hab : a = b := by
      refine act_ext (by rw [mm.asize, mm.bsize]) mm.adef (fun t => ?_)
      by_cases hex : ∃ j o, j < k ∧ l[j]? = some o ∧ o.dst = some t
      · obtain ⟨j, o, hj, ho, hd⟩ := hex
        exact mm.put j o t hj (by simpa using ho) hd (hdone j hj)
      · exact mm.same t (fun j o hj ho hd => hex ⟨j, o, hj, by simpa using ho, hd⟩)
    have hst := mm.stage
    have hnil : (((l.drop k).take m).zip fl).drop m = [] := List.drop_eq_nil_of_le (by simp; omega)
    rw [hnil] at hst
    have hfu : fuel = (l.drop (k + m)).length := by
      rw [← hu, hLH, unl_done]
      simp
    rw [hfu, hab, hLH]
    refine wpAny_of_seq (l.drop (k + m)) (k + m) _ b w (fun j => by simp [List.getElem?_drop]) ?_ hst
    have : (l.drop (k + m)).length = l.toArray.size - (k + m) := by simp
    rw [this]
    exact hseq
  have main : ∀ (fuel s : Nat) (b : Act) (listed : Array Bool) (a : Act) (w : World), MidV P l.toArray k m lz C (fun a w => wpList P l.toArray Q (l.drop (k + m)) a w) (((l.drop k).take m).zip fl) a0 af s b listed a w → unl listed = fuel → wpAny P .any l.toArray Q fuel listed a w := by
    intro fuel
    induction fuel with
    | zero =>
      intro s b listed a w mm hu
      have hlist : ∀ i, i < listed.size → listed.getD i false = true := by
        intro i hi
        cases hc : listed.getD i false
        · have := unl_set (listed := listed) (i := i) hi (by rw [getD_tf hi]; exact hc)
          omega
        · rfl
      have hsm : s = m := by
        rcases Nat.lt_or_ge s m with h | h
        · have h1 := mm.sleft (k + s) (Nat.le_refl _) (by omega)
          have h2 := hlist (k + s) (by rw [mm.size]; omega)
          rw [getD_tf (by rw [mm.size]; omega), h2] at h1
          cases h1
        · have := mm.le; omega
      subst hsm
      exact fin b listed a w mm (fun i hi => hlist i (by rw [mm.size]; omega)) _ hu
    | succ fuel ih =>
      intro s b listed a w mm hu
      by_cases hdone : (∀ i, i < k → listed.getD i false = true) ∧ s = m
      · obtain ⟨h1, rfl⟩ := hdone
        exact fin b listed a w mm h1 _ hu
      · have hex : ¬ ∀ i, i < k + m → listed.getD i false = true := by
          intro hh
          refine hdone ⟨fun i hi => hh i (by omega), ?_⟩
          rcases Nat.lt_or_ge s m with h | h
          · have h1 := mm.sleft (k + s) (Nat.le_refl _) (by omega)
            have h2 := hh (k + s) (by omega)
            rw [getD_tf (by rw [mm.size]; omega), h2] at h1
            cases h1
          · have := mm.le; omega
        obtain ⟨i0, hi0, hpre, hun0⟩ := first_no' listed (k + m) hex
        refine ⟨fun h0 => ?_, fun i hi => ?_⟩
        · have hr : i0 ∈ Region.ready .any l.toArray listed := by
            rw [mem_ready]
            refine ⟨by rw [getD_tf (by rw [mm.size]; omega)]; exact hun0, l[i0]'(by omega), by simp, fun e he hb => hpre _ ?_⟩
            exact hback' i0 _ (by simp) e he hb
          rw [h0] at hr
          cases hr
        · obtain ⟨hun, o, ho, hw⟩ := mem_ready.1 hi
          have hil : i < l.length := by
            have := (Array.getElem?_eq_some_iff.1 ho).1
            simpa using this
          have hol : l[i]? = some o := by simpa using ho
          have hun' : unl (listed.setIfInBounds i true) = fuel := by
            have := unl_set (listed := listed) (i := i) (by rw [mm.size]; omega) hun
            omega
          have hcov : ∀ q, (coverB l.toArray l.toArray.size (depsB l.toArray i (List.replicate l.toArray.size false))).getD q false = true → listed.getD q false = true := by
            intro q h2
            refine cover_listed (ops := l.toArray) mm.closed l.toArray.size _ (fun j hj => ?_) q h2
            unfold depsB at hj
            rw [ho] at hj
            refine deps_listed _ _ (fun e he hb => hw e (by simpa using he) hb) (fun q hq => ?_) j hj
            rw [List.getD_eq_getElem?_getD, List.getElem?_replicate] at hq
            split at hq <;> cases hq
          have hik : i < k + m := by
            rcases Nat.lt_or_ge i (k + m) with h | h
            rotate_left 1
            · have h1 := (htl i (by omega)).resolve_left (by omega)
              have h2 : (coverB l.toArray l.toArray.size (depsB l.toArray i (List.replicate l.toArray.size false))).getD i0 false = true := by
                have hlen := cover_length (ops := l.toArray) l.toArray.size (depsB l.toArray i (List.replicate l.toArray.size false))
                rw [deps_length, List.length_replicate] at hlen
                have hm : (coverB l.toArray l.toArray.size (depsB l.toArray i (List.replicate l.toArray.size false)))[i0]'(by rw [hlen, hsz]; omega) ∈ (coverB l.toArray l.toArray.size (depsB l.toArray i (List.replicate l.toArray.size false))).take (k + m) :=
                  List.mem_take_iff_getElem.2 ⟨i0, by rw [hlen, hsz]; omega, rfl⟩
                have := h1 _ hm
                rw [List.getD_eq_getElem?_getD, List.getElem?_eq_getElem (by rw [hlen, hsz]; omega)]
                exact this
              have h3 := hcov i0 h2
              rw [hun0] at h3
              cases h3
            · exact h
          have hclosed : ∀ j oj, l.toArray[j]? = some oj → (listed.setIfInBounds i true).getD j false = true → ∀ e ∈ oj.after, Region.binds .any e = true → (listed.setIfInBounds i true).getD e.on false = true := by
            intro j oj hj hl e he hb
            by_cases hji : i = j
            · subst hji
              rw [ho] at hj
              cases hj
              exact getD_set_true (hw e he hb)
            · rw [getD_set_ne false hji] at hl
              exact getD_set_true (mm.closed j oj hj hl e he hb)
          have hnow : (listed.setIfInBounds i true).getD i false = true := by
            have : i < listed.size := by rw [mm.size]; omega
            simp [this]
          rcases Nat.lt_or_ge i k with hikk | hikk
          · -- an operation that reads
            obtain ⟨d, hod, hdlt⟩ := dlt i o hikk hol
            have hlook : ∀ t ∈ o.looksAt l.toArray, slotOf a t = slotOf (accum af ((l.take k).take i) a0) t := by
              intro t ht
              rw [accum_slot _ _ _ (dstsOk_take _ _ _ hdk)]
              by_cases hex : ∃ j oj, j < k ∧ l[j]? = some oj ∧ oj.dst = some t
              · obtain ⟨j, oj, hj, hoj, hdt⟩ := hex
                obtain ⟨hji, hwt⟩ := hdep' i o j oj t hikk hol hj hoj hdt ht
                obtain ⟨e, he, hb, heo⟩ := waitsB1_spec ho hwt
                have hlj := hw e he hb
                rw [heo] at hlj
                rw [mm.put j oj t hj (by simpa using hoj) hdt hlj, mm.keep j oj t hj (by simpa using hoj) hdt, if_pos]
                rw [List.any_eq_true]
                refine ⟨oj, ?_, by simp [hdt]⟩
                refine List.mem_of_getElem? (i := j) ?_
                rw [List.getElem?_take, List.getElem?_take]
                simp only [hji, show j < k by omega, if_true, hoj]
              · rw [mm.same t (fun j oj hj hoj hdt => hex ⟨j, oj, hj, by simpa using hoj, hdt⟩), mm.other t (fun j oj hj hoj hdt => hex ⟨j, oj, hj, by simpa using hoj, hdt⟩) (fun j oj hj hoj hdt => (hap' i o j oj t hikk hol hj (by simpa using hoj) hdt).1 ht), if_neg]
                intro hany
                rw [List.any_eq_true] at hany
                obtain ⟨oj, hmem, hdt⟩ := hany
                obtain ⟨j, hj⟩ := List.getElem?_of_mem (List.mem_of_mem_take hmem)
                rw [List.getElem?_take] at hj
                split at hj
                · exact hex ⟨j, oj, by omega, hj, by simpa using hdt⟩
                · cases hj
            have hy : YieldsIn P l.toArray (fun w' => ∃ x : Same w, w' = x.w) o (leftBy af o) (accum af ((l.take k).take i) a0) := by
              by_cases hz : i ∈ lz
              · refine move_yields ?_ (hA0.get (i := i) (o := o) (by rw [List.getElem?_take]; simp [hikk, hol])) w
                have := hlz i hz
                rw [ho] at this
                exact this
              · have hcw : C w := mm.cw.resolve_right (fun h => by
                  have h1 := h i hikk hz
                  rw [getD_tf (by rw [mm.size]; omega), h1] at hun
                  cases hun)
                exact (hall w hcw).get (i := i) (o := o) (by rw [List.getElem?_take]; simp [hikk, hol])
            have he : execOp a.eval o = execOp (accum af ((l.take k).take i) a0).eval o := execOp_congr o (fun cs b => Region.noSelect_spec hsel i o cs b ho) (fun x hx => by
              cases x with
              | tmp t => exact hlook t (List.mem_append_left _ (List.mem_filterMap.2 ⟨.tmp t, by simpa using hx, rfl⟩))
              | _ => rfl)
            have hy' := hy.of_same he (wanted_congr hlook)
            refine wpOp_of_qOp (C := fun w' => ∃ x : Same w, w' = x.w) ⟨⟨w, rfl⟩, rfl⟩ (fun a' w' hx ha => ?_) (hy'.qOp ho (K := fun a' => a' = a.put o.dst (leftBy af o)) rfl)
            obtain ⟨⟨x, hxw⟩, rfl⟩ := hx
            subst hxw
            subst ha
            have hvb : leftBy af o = slotOf b d := by
              rw [mm.keep i o d hikk ho hod]
              simp [leftBy, hod]
            refine ih s b _ _ _ ⟨by simp [mm.size], hclosed, mm.le, fun j hj => getD_set_true (mm.sdone j hj), fun t ht ht' => by rw [getD_set_ne true (by omega)]; exact mm.sleft t ht ht', by rw [defers_put]; exact mm.adef, by rw [size_put]; exact mm.asize, mm.bsize, ?_, ?_, mm.keep, mm.other, mm.stage, mm.cw.imp (fun x => x) (fun h q hq hz => getD_set_true (h q hq hz))⟩ hun'
            · intro j oj t hj hoj hdt hl
              by_cases hji : i = j
              · subst hji
                rw [ho] at hoj
                cases hoj
                rw [hod] at hdt
                cases hdt
                rw [hod, slot_put_same _ (by rw [mm.asize]; exact hdlt), hvb]
              · rw [getD_set_ne false hji] at hl
                rw [slot_put_ne _ (dne i j o oj t hikk hj hol (by simpa using hoj) hji hdt)]
                exact mm.put j oj t hj hoj hdt hl
            · intro t hno
              rw [slot_put_ne _ (hno i o hikk ho)]
              exact mm.same t hno
          · -- the next one of the row
            have his : i = k + s := by
              rcases Nat.lt_or_ge i (k + s) with h | h
              · have := mm.sdone (i - k) (by omega)
                rw [show k + (i - k) = i by omega] at this
                rw [getD_tf (by rw [mm.size]; omega), this] at hun
                cases hun
              · rcases Nat.lt_or_ge (k + s) i with h2 | h2
                · obtain ⟨_, g2, _, _⟩ := hsp' (i - k) o (by omega) (by rw [show k + (i - k) = i by omega]; exact hol)
                  have g3 := g2.resolve_left (by omega)
                  rw [show k + (i - k) = i by omega] at g3
                  obtain ⟨e, he, hb, heo⟩ := waitsB1_spec ho g3
                  have hlj := hw e he hb
                  rw [heo] at hlj
                  have := mm.sleft (i - 1) (by omega) (by omega)
                  rw [getD_tf (by rw [mm.size]; omega), hlj] at this
                  cases this
                · omega
            subst his
            have hs : s < m := by omega
            obtain ⟨g1, g2, g3, g4⟩ := hsp' s o hs hol
            have hspl : (((l.drop k).take m).zip fl).drop s = (o, fl[s]'(by omega)) :: (((l.drop k).take m).zip fl).drop (s + 1) := by
              rw [List.drop_eq_getElem_cons (by simp; omega)]
              congr 1
              simp only [List.getElem_zip, List.getElem_take, List.getElem_drop]
              rw [List.getElem?_eq_getElem hil] at hol
              simp only [Option.some.injEq] at hol
              rw [hol]
            have hst := mm.stage
            rw [hspl] at hst
            have hlook : ∀ t ∈ o.looksAt l.toArray, slotOf a t = slotOf b t := by
              intro t ht
              by_cases hex : ∃ j oj, j < k ∧ l[j]? = some oj ∧ oj.dst = some t
              · obtain ⟨j, oj, hj, hoj, hdt⟩ := hex
                obtain ⟨e, he, hb, heo⟩ := waitsB1_spec ho (g3 j oj t hj hoj hdt ht)
                have hlj := hw e he hb
                rw [heo] at hlj
                exact mm.put j oj t hj (by simpa using hoj) hdt hlj
              · exact mm.same t (fun j oj hj hoj hdt => hex ⟨j, oj, hj, by simpa using hoj, hdt⟩)
            have he : execOp a.eval o = execOp b.eval o := execOp_congr o (fun cs b => Region.noSelect_spec hsel _ o cs b ho) (fun x hx => by
              cases x with
              | tmp t => exact hlook t (List.mem_append_left _ (List.mem_filterMap.2 ⟨.tmp t, by simpa using hx, rfl⟩))
              | _ => rfl)
            unfold wpOp
            rw [ho]
            simp only
            rw [if_pos (by unfold Region.wanted; rw [g1])]
            refine .inl (StepV.wp hst he (fun v w' hN => ?_))
            refine ih (s + 1) (b.put o.dst v) _ _ _ ⟨by simp [mm.size], hclosed, hs, fun j hj => ?_, fun t ht ht' => by rw [getD_set_ne true (by omega)]; exact mm.sleft t (by omega) ht', by rw [defers_put, defers_put]; exact mm.adef, by rw [size_put]; exact mm.asize, by rw [size_put]; exact mm.bsize, ?_, ?_, ?_, ?_, hN.2, ?_⟩ hun'
            · by_cases hjs : j = s
              · subst hjs; exact hnow
              · exact getD_set_true (mm.sdone j (by omega))
            · intro j oj t hj hoj hdt hl
              rw [getD_set_ne false (by omega)] at hl
              exact slot_put_congr (by rw [mm.asize, mm.bsize]) (mm.put j oj t hj hoj hdt hl) _ _
            · intro t hno
              exact slot_put_congr (by rw [mm.asize, mm.bsize]) (mm.same t hno) _ _
            · intro j oj t hj hoj hdt
              rw [slot_put_ne _ (fun e => (hap' j oj s o t hj (by simpa using hoj) hs hol e).2 hdt)]
              exact mm.keep j oj t hj hoj hdt
            · intro t h1 h2
              rw [slot_put_ne _ (h2 s o hs ho)]
              exact mm.other t h1 h2
            · rcases g4 with g4 | g4
              · refine .inl (hN.1 ?_)
                rw [List.getD_eq_getElem?_getD, List.getElem?_eq_getElem (by omega)] at g4
                exact g4
              · exact .inr (fun q hq hz => getD_set_true (hcov q (g4 q hq hz)))
  have hrep : ∀ i d, i < l.toArray.size → (Array.replicate l.toArray.size false).getD i d = false := fun i d hi => by simp at hi; simp [hi]
  refine wp_region_any hm (main _ 0 af _ a0 _ ?_ (by rw [unl_rep]))
  refine ⟨by simp, ?_, Nat.zero_le _, fun j hj => absurd hj (Nat.not_lt_zero _), fun t _ ht => hrep t _ ht, hA0.keep.2.1.symm, rfl, hA0.keep.1, ?_, ?_, fun _ _ _ _ _ _ => rfl, ?_, ?_, .inl hC⟩
  · intro j oj hj h
    rw [hrep j _ (Array.getElem?_eq_some_iff.1 hj).1] at h
    cases h
  · intro j o t _ ho _ h
    rw [hrep j _ (Array.getElem?_eq_some_iff.1 ho).1] at h
    cases h
  · intro t hno
    exact (hafs t (fun j o hj ho => hno j o hj (by simpa using ho))).symm
  · intro t h1 _
    exact hafs t (fun j o hj ho => h1 j o hj (by simpa using ho))
  · exact hS _ hC
end
end Go.Proofs.Ytmebpglkeedaoaa
