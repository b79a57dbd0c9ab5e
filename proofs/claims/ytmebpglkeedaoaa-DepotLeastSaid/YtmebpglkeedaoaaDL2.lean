/- Contracts that the claim leans on, part 2: R15 D1 D2 D3 D4 D5 D6 D7 M11 D8 D9 R2 D10 M12 D11 -/
import Derived.Test.YtmebpglkeedaoaaDL1
import Derived.Deep.LoopGhost
import Derived.Deep.CutRange
import Derived.Deep.RegionHeld3
import Derived.Deep.DrawnRows
import Derived.WalkKit
set_option linter.unusedVariables false
set_option linter.unusedSimpArgs false
set_option linter.unnecessarySimpa false
namespace Go.Proofs.Ytmebpglkeedaoaa
open Go Go.RowKit
structure Same (W : World) where
  w : World
  is : w = W
instance (W : World) : Nonempty (Same W) := ⟨⟨W, rfl⟩⟩
@[simp, go_sem] theorem Same.eq {W : World} (x : Same W) : x.w = W := x.is
def isMove (o : Oper) : Bool := (match o.op with | .move _ => true | _ => false) && o.guard.isNone
def StepV (P : Program) (o : Oper) (a : Act) (w : World) (N : Value → World → Prop) : Prop :=
  match (execOp a.eval o).run P w with
  | .ok (.value v) w' => N v w'
  | .ok .skip w' => N undef w'
  | .ok (.enter f args) w' => Calls P f args w' fun e w'' => ∃ v, e = .returned v ∧ N v w''
  | _ => False
def SpineV (P : Program) (C : World → Prop) (T : Act → World → Prop) : List (Oper × Bool) → Act → World → Prop
  | [], a, w => T a w
  | (o, f) :: r, a, w => StepV P o a w fun v w' => (f = true → C w') ∧ SpineV P C T r (a.put o.dst v) w'
def spineB (ops : Array Oper) (k : Nat) (fl : List Bool) (lz : List Nat) (n : Nat) : Bool :=
  Region.noSelect ops && decide (k + fl.length ≤ ops.size) && dstsOk n (ops.toList.take k) &&
  (List.range ops.size).all (fun i => match ops[i]? with | some o => o.after.all (fun e => !Region.binds .any e || decide (e.on < i)) | none => false) &&
  (List.range k).all (fun i => (List.range k).all fun j => match ops[i]?, ops[j]? with
    | some oi, some oj => (match oj.dst with | some d => !(oi.looksAt ops).contains d || (decide (j < i) && waitsB1 .any ops i j) | none => false)
    | _, _ => false) &&
  (List.range k).all (fun i => (List.range fl.length).all fun j => match ops[i]?, ops[k + j]? with
    | some oi, some oj => (match oj.dst with | some d => !(oi.looksAt ops).contains d && oi.dst != some d | none => true)
    | _, _ => false) &&
  (List.range fl.length).all (fun s => match ops[k + s]? with
    | some o => o.guard.isNone && (decide (s = 0) || waitsB1 .any ops (k + s) (k + s - 1)) && (List.range k).all (fun j => match ops[j]? with
      | some oj => (match oj.dst with | some d => !(o.looksAt ops).contains d || waitsB1 .any ops (k + s) j | none => false)
      | none => false) && (fl.getD s true || (List.range k).all (fun i => lz.contains i || (coverB ops ops.size (depsB ops (k + s) (List.replicate ops.size false))).getD i false))
    | none => false) &&
  lz.all (fun i => match ops[i]? with | some o => isMove o | none => false) &&
  (List.range ops.size).all (fun t => decide (t < k + fl.length) || ((coverB ops ops.size (depsB ops t (List.replicate ops.size false))).take (k + fl.length)).all (fun b => b)) &&
  Region.seqB .any ops (ops.size - (k + fl.length)) (k + fl.length) (Array.replicate (k + fl.length) true ++ Array.replicate (ops.size - (k + fl.length)) false)
theorem slot_put_congr {a b : Act} {t : Tmp} (hs : a.tmps.size = b.tmps.size) (h : slotOf a t = slotOf b t) (x : Option Tmp) (v : Value) : slotOf (a.put x v) t = slotOf (b.put x v) t := by
  by_cases hx : x = some t
  · subst hx
    by_cases hl : t < a.tmps.size
    · have hl' : t < b.tmps.size := hs ▸ hl
      rw [slot_put_same v hl, slot_put_same v hl']
    · have hl' : ¬ t < b.tmps.size := hs ▸ hl
      simp [slotOf, Act.put, hl, hl']
  · rw [slot_put_ne v hx, slot_put_ne v hx, h]
theorem move_yields {P : Program} {ops : Array Oper} {o : Oper} {v : Value} {a : Act} {W : World} (he : isMove o = true) (h : YieldsIn P ops (fun w' => ∃ x : Same W, w' = x.w) o v a) (V : World) : YieldsIn P ops (fun w' => ∃ x : Same V, w' = x.w) o v a := by
  unfold isMove at he
  simp only [Bool.and_eq_true] at he
  have hw : Region.wanted o (yielded ops a.tmps) = true := by
    unfold Region.wanted
    rw [Option.isNone_iff_eq_none.1 he.2]
  rcases h with ⟨_, h1⟩ | ⟨h1, _⟩
  · refine .inl ⟨hw, fun w hx => ?_⟩
    have h2 := h1 W ⟨⟨W, rfl⟩, rfl⟩
    have h3 := he.1
    unfold Oper.quietAt at h2 ⊢
    cases ho : o.op <;> rw [ho] at h3 <;> simp at h3
    rename_i x
    have e : ∀ w, (execOp a.eval o).run P w = .ok (.value (a.eval x)) w := fun w => by
      unfold execOp
      simp only [ho]
      rfl
    rw [e] at h2 ⊢
    simp only [Oper.quietUpon] at h2 ⊢
    exact ⟨trivial, h2.2⟩
  · rw [hw] at h1; cases h1
theorem StepV.wp {P : Program} {o : Oper} {a b : Act} {w : World} {N : Value → World → Prop} {K : Act → World → Prop} {Q : Exit → Act → World → Prop} (h : StepV P o b w N) (he : execOp a.eval o = execOp b.eval o) (hK : ∀ v w', N v w' → K (a.put o.dst v) w') : o.wp P a w K Q := by
  unfold StepV at h
  unfold Oper.wp
  rw [he]
  generalize (execOp b.eval o).run P w = r at *
  cases r with
  | ok n w' =>
    cases n <;> simp only [Oper.upon] at h ⊢
    case value u => exact hK _ _ h
    case skip => exact hK _ _ h
    case enter f args => exact h.mono fun e w'' ⟨v, hv, hn⟩ => by subst hv; exact hK _ _ hn
    all_goals exact h.elim
  | halt x w' => exact h.elim
structure MidV (P : Program) (ops : Array Oper) (k m : Nat) (lz : List Nat) (C : World → Prop) (T : Act → World → Prop) (sp : List (Oper × Bool)) (a0 af : Act) (s : Nat) (b : Act) (listed : Array Bool) (a : Act) (w : World) : Prop where
  size : listed.size = ops.size
  closed : ∀ j oj, ops[j]? = some oj → listed.getD j false = true → ∀ e ∈ oj.after, Region.binds .any e = true → listed.getD e.on false = true
  le : s ≤ m
  sdone : ∀ j, j < s → listed.getD (k + j) false = true
  sleft : ∀ t, k + s ≤ t → t < ops.size → listed.getD t true = false
  adef : a.defers = b.defers
  asize : a.tmps.size = a0.tmps.size
  bsize : b.tmps.size = a0.tmps.size
  put : ∀ j o t, j < k → ops[j]? = some o → o.dst = some t → listed.getD j false = true → slotOf a t = slotOf b t
  same : ∀ t, (∀ j o, j < k → ops[j]? = some o → o.dst ≠ some t) → slotOf a t = slotOf b t
  keep : ∀ j o t, j < k → ops[j]? = some o → o.dst = some t → slotOf b t = slotOf af t
  other : ∀ t, (∀ j o, j < k → ops[j]? = some o → o.dst ≠ some t) → (∀ j o, j < m → ops[k + j]? = some o → o.dst ≠ some t) → slotOf b t = slotOf a0 t
  stage : SpineV P C T (sp.drop s) b w
  cw : C w ∨ ∀ i, i < k → i ∉ lz → listed.getD i false = true
section
variable {P : Program} {Q : Exit → Act → World → Prop} {W : World} {a0 af : Act} {l : List Oper}
theorem wp_region_spine {id : Nat} (k : Nat) (fl : List Bool) (lz : List Nat) (af : Act) (C : World → Prop) (hm : P.follows .mixedOrders = true)
    (hB : spineB l.toArray k fl lz a0.tmps.size = true) (hC : C W.drew)
    (hwalk : ∀ V : World, C V → wpQuiet P l.toArray (fun w' => ∃ x : Same V, w' = x.w) (fun a' => a' = af) (l.take k) a0)
    (hS : ∀ V : World, C V → SpineV P C (fun a w => wpList P l.toArray Q (l.drop (k + fl.length)) a w) (((l.drop k).take fl.length).zip fl) af V) :
    (Code.region id l.toArray true).wp P Q a0 W := by
  unfold spineB at hB
  rw [Bool.and_eq_true, Bool.and_eq_true, Bool.and_eq_true, Bool.and_eq_true, Bool.and_eq_true, Bool.and_eq_true, Bool.and_eq_true, Bool.and_eq_true, Bool.and_eq_true] at hB
  obtain ⟨⟨⟨⟨⟨⟨⟨⟨⟨hsel, hks⟩, hdst⟩, hback⟩, hdep⟩, hap⟩, hsp⟩, hlz⟩, htl⟩, hseq⟩ := hB
  simp only [decide_eq_true_eq, List.all_eq_true, List.mem_range, Bool.or_eq_true] at hks hback hdep hap htl hlz hsp
  have hsz : l.toArray.size = l.length := by simp
  generalize hfm : fl.length = m at *
  have hkl : k + m ≤ l.length := by rw [← hsz]; exact hks
  have hdk : dstsOk a0.tmps.size (l.take k) = true := hdst
  have hall : ∀ V : World, C V → AllIn P l.toArray (fun w' => ∃ x : Same V, w' = x.w) af (l.take k) a0 := fun V hV => allIn_of hdk (hwalk V hV)
  have hA0 := hall _ hC
  have hget : ∀ i, i < k → (l.take k)[i]? = l[i]? := fun i hi => by rw [List.getElem?_take]; simp [hi]
  have hafs : ∀ t, (∀ j o, j < k → l[j]? = some o → o.dst ≠ some t) → slotOf af t = slotOf a0 t := fun t ht => hA0.keep.2.2 t (fun o ho => by
    obtain ⟨j, hj⟩ := List.getElem?_of_mem ho
    rw [List.getElem?_take] at hj
    split at hj
    · exact ht j o (by assumption) hj
    · cases hj)
  have hback' : ∀ i o, l[i]? = some o → ∀ e ∈ o.after, Region.binds .any e = true → e.on < i := by
    intro i o hi e he hb
    have hil : i < l.length := (List.getElem?_eq_some_iff.1 hi).1
    have h1 := hback i (by rw [hsz]; exact hil)
    have hi' : l.toArray[i]? = some o := by simpa using hi
    rw [hi'] at h1
    have h2 := Array.all_eq_true_iff_forall_mem.1 h1 e he
    simpa [hb] using h2
  have hdep' : ∀ i o j oj d, i < k → l[i]? = some o → j < k → l[j]? = some oj → oj.dst = some d → d ∈ o.looksAt l.toArray → j < i ∧ waitsB1 .any l.toArray i j = true := by
    intro i o j oj d hi ho hj hoj hd hmem
    have h1 := hdep i hi j hj
    have ho' : l.toArray[i]? = some o := by simpa using ho
    have hoj' : l.toArray[j]? = some oj := by simpa using hoj
    rw [ho', hoj'] at h1
    simp only [hd] at h1
    have hc : (o.looksAt l.toArray).contains d = true := by simpa using hmem
    rw [hc] at h1
    simpa using h1
  have hap' : ∀ i o j oj d, i < k → l[i]? = some o → j < m → l[k + j]? = some oj → oj.dst = some d → d ∉ o.looksAt l.toArray ∧ o.dst ≠ some d := by
    intro i o j oj d hi ho hj hoj hd
    have h1 := hap i hi j hj
    have ho' : l.toArray[i]? = some o := by simpa using ho
    have hoj' : l.toArray[k + j]? = some oj := by simpa using hoj
    rw [ho', hoj'] at h1
    simpa [hd] using h1
  have hsp' : ∀ s o, s < m → l[k + s]? = some o → o.guard = none ∧ (s = 0 ∨ waitsB1 .any l.toArray (k + s) (k + s - 1) = true) ∧ (∀ j oj d, j < k → l[j]? = some oj → oj.dst = some d → d ∈ o.looksAt l.toArray → waitsB1 .any l.toArray (k + s) j = true) ∧ (fl.getD s true = true ∨ ∀ i, i < k → i ∉ lz → (coverB l.toArray l.toArray.size (depsB l.toArray (k + s) (List.replicate l.toArray.size false))).getD i false = true) := by
    intro s o hs ho
    have h1 := hsp s hs
    have ho' : l.toArray[k + s]? = some o := by simpa using ho
    rw [ho'] at h1
    simp only [Bool.and_eq_true, Bool.or_eq_true, decide_eq_true_eq, List.all_eq_true, List.mem_range] at h1
    obtain ⟨⟨⟨g1, g2⟩, g3⟩, g4⟩ := h1
    refine ⟨Option.isNone_iff_eq_none.1 g1, g2, fun j oj d hj hoj hd hmem => ?_, g4.imp (fun x => x) (fun h i hi hn => (h i hi).resolve_left (by simpa using hn))⟩
    have h2 := g3 j hj
    have hoj' : l.toArray[j]? = some oj := by simpa using hoj
    rw [hoj'] at h2
    simp only [hd] at h2
    have hc : (o.looksAt l.toArray).contains d = true := by simpa using hmem
    rw [hc] at h2
    simpa using h2
  have dlt : ∀ i o, i < k → l[i]? = some o → ∃ d, o.dst = some d ∧ d < a0.tmps.size := fun i o hi ho => dsts_lt _ _ i o hdk (by rw [hget i (by omega)]; exact ho)
  have dne : ∀ i j o oj t, i < k → j < k → l[i]? = some o → l[j]? = some oj → i ≠ j → oj.dst = some t → o.dst ≠ some t := fun i j o oj t hi hj ho hoj hne hd => dsts_ne _ _ j i oj o t hdk (by rw [hget j (by omega)]; exact hoj) (by rw [hget i (by omega)]; exact ho) (Ne.symm hne) hd
  have fin : ∀ (b : Act) (listed : Array Bool) (a : Act) (w : World), MidV P l.toArray k m lz C (fun a w => wpList P l.toArray Q (l.drop (k + m)) a w) (((l.drop k).take m).zip fl) a0 af m b listed a w → (∀ i, i < k → listed.getD i false = true) → ∀ fuel, unl listed = fuel → wpAny P .any l.toArray Q fuel listed a w := by
    intro b listed a w mm hdone fuel hu
    have hLH : listed = Array.replicate (k + m) true ++ Array.replicate (l.toArray.size - (k + m)) false := by
      apply Array.ext
      · simp [mm.size]; omega
      · intro i h1 h2
        rcases Nat.lt_or_ge i (k + m) with h' | h
        rotate_left 1
        · have := mm.sleft i h (by rw [← mm.size]; exact h1)
          rw [Array.getElem_append_right (by simp; omega)]
          simpa [h1] using this
        · have : listed.getD i false = true := by
            rcases Nat.lt_or_ge i k with h3 | h3
            · exact hdone i h3
            · have := mm.sdone (i - k) (by omega)
              rwa [show k + (i - k) = i by omega] at this
          rw [Array.getElem_append_left (by simp; omega)]
          simpa [h1] using this
    have hab : a = b := by
      refine act_ext (by rw [mm.asize, mm.bsize]) mm.adef (fun t => ?_)
      by_cases hex : ∃ j o, j < k ∧ l[j]? = some o ∧ o.dst = some t
      · obtain ⟨j, o, hj, ho, hd⟩ := hex
        exact mm.put j o t hj (by simpa using ho) hd (hdone j hj)
      · exact mm.same t (fun j o hj ho hd => hex ⟨j, o, hj, by simpa using ho, hd⟩)
    have hst := mm.stage
    have hnil : (((l.drop k).take m).zip fl).drop m = [] := List.drop_eq_nil_of_le (by simp; omega)
    rw [hnil] at hst
    have hfu : fuel = (l.drop (k + m)).length := by
      rw [← hu, hLH, unl_done]
      simp
    rw [hfu, hab, hLH]
    refine wpAny_of_seq (l.drop (k + m)) (k + m) _ b w (fun j => by simp [List.getElem?_drop]) ?_ hst
    have : (l.drop (k + m)).length = l.toArray.size - (k + m) := by simp
    rw [this]
    exact hseq
  have main : ∀ (fuel s : Nat) (b : Act) (listed : Array Bool) (a : Act) (w : World), MidV P l.toArray k m lz C (fun a w => wpList P l.toArray Q (l.drop (k + m)) a w) (((l.drop k).take m).zip fl) a0 af s b listed a w → unl listed = fuel → wpAny P .any l.toArray Q fuel listed a w := by
    intro fuel
    induction fuel with
    | zero =>
      intro s b listed a w mm hu
      have hlist : ∀ i, i < listed.size → listed.getD i false = true := by
        intro i hi
        cases hc : listed.getD i false
        · have := unl_set (listed := listed) (i := i) hi (by rw [getD_tf hi]; exact hc)
          omega
        · rfl
      have hsm : s = m := by
        rcases Nat.lt_or_ge s m with h | h
        · have h1 := mm.sleft (k + s) (Nat.le_refl _) (by omega)
          have h2 := hlist (k + s) (by rw [mm.size]; omega)
          rw [getD_tf (by rw [mm.size]; omega), h2] at h1
          cases h1
        · have := mm.le; omega
      subst hsm
      exact fin b listed a w mm (fun i hi => hlist i (by rw [mm.size]; omega)) _ hu
    | succ fuel ih =>
      intro s b listed a w mm hu
      by_cases hdone : (∀ i, i < k → listed.getD i false = true) ∧ s = m
      · obtain ⟨h1, rfl⟩ := hdone
        exact fin b listed a w mm h1 _ hu
      · have hex : ¬ ∀ i, i < k + m → listed.getD i false = true := by
          intro hh
          refine hdone ⟨fun i hi => hh i (by omega), ?_⟩
          rcases Nat.lt_or_ge s m with h | h
          · have h1 := mm.sleft (k + s) (Nat.le_refl _) (by omega)
            have h2 := hh (k + s) (by omega)
            rw [getD_tf (by rw [mm.size]; omega), h2] at h1
            cases h1
          · have := mm.le; omega
        obtain ⟨i0, hi0, hpre, hun0⟩ := first_no' listed (k + m) hex
        refine ⟨fun h0 => ?_, fun i hi => ?_⟩
        · have hr : i0 ∈ Region.ready .any l.toArray listed := by
            rw [mem_ready]
            refine ⟨by rw [getD_tf (by rw [mm.size]; omega)]; exact hun0, l[i0]'(by omega), by simp, fun e he hb => hpre _ ?_⟩
            exact hback' i0 _ (by simp) e he hb
          rw [h0] at hr
          cases hr
        · obtain ⟨hun, o, ho, hw⟩ := mem_ready.1 hi
          have hil : i < l.length := by
            have := (Array.getElem?_eq_some_iff.1 ho).1
            simpa using this
          have hol : l[i]? = some o := by simpa using ho
          have hun' : unl (listed.setIfInBounds i true) = fuel := by
            have := unl_set (listed := listed) (i := i) (by rw [mm.size]; omega) hun
            omega
          have hcov : ∀ q, (coverB l.toArray l.toArray.size (depsB l.toArray i (List.replicate l.toArray.size false))).getD q false = true → listed.getD q false = true := by
            intro q h2
            refine cover_listed (ops := l.toArray) mm.closed l.toArray.size _ (fun j hj => ?_) q h2
            unfold depsB at hj
            rw [ho] at hj
            refine deps_listed _ _ (fun e he hb => hw e (by simpa using he) hb) (fun q hq => ?_) j hj
            rw [List.getD_eq_getElem?_getD, List.getElem?_replicate] at hq
            split at hq <;> cases hq
          have hik : i < k + m := by
            rcases Nat.lt_or_ge i (k + m) with h | h
            rotate_left 1
            · have h1 := (htl i (by omega)).resolve_left (by omega)
              have h2 : (coverB l.toArray l.toArray.size (depsB l.toArray i (List.replicate l.toArray.size false))).getD i0 false = true := by
                have hlen := cover_length (ops := l.toArray) l.toArray.size (depsB l.toArray i (List.replicate l.toArray.size false))
                rw [deps_length, List.length_replicate] at hlen
                have hm : (coverB l.toArray l.toArray.size (depsB l.toArray i (List.replicate l.toArray.size false)))[i0]'(by rw [hlen, hsz]; omega) ∈ (coverB l.toArray l.toArray.size (depsB l.toArray i (List.replicate l.toArray.size false))).take (k + m) :=
                  List.mem_take_iff_getElem.2 ⟨i0, by rw [hlen, hsz]; omega, rfl⟩
                have := h1 _ hm
                rw [List.getD_eq_getElem?_getD, List.getElem?_eq_getElem (by rw [hlen, hsz]; omega)]
                exact this
              have h3 := hcov i0 h2
              rw [hun0] at h3
              cases h3
            · exact h
          have hclosed : ∀ j oj, l.toArray[j]? = some oj → (listed.setIfInBounds i true).getD j false = true → ∀ e ∈ oj.after, Region.binds .any e = true → (listed.setIfInBounds i true).getD e.on false = true := by
            intro j oj hj hl e he hb
            by_cases hji : i = j
            · subst hji
              rw [ho] at hj
              cases hj
              exact getD_set_true (hw e he hb)
            · rw [getD_set_ne false hji] at hl
              exact getD_set_true (mm.closed j oj hj hl e he hb)
          have hnow : (listed.setIfInBounds i true).getD i false = true := by
            have : i < listed.size := by rw [mm.size]; omega
            simp [this]
          rcases Nat.lt_or_ge i k with hikk | hikk
          · -- an operation that reads
            obtain ⟨d, hod, hdlt⟩ := dlt i o hikk hol
            have hlook : ∀ t ∈ o.looksAt l.toArray, slotOf a t = slotOf (accum af ((l.take k).take i) a0) t := by
              intro t ht
              rw [accum_slot _ _ _ (dstsOk_take _ _ _ hdk)]
              by_cases hex : ∃ j oj, j < k ∧ l[j]? = some oj ∧ oj.dst = some t
              · obtain ⟨j, oj, hj, hoj, hdt⟩ := hex
                obtain ⟨hji, hwt⟩ := hdep' i o j oj t hikk hol hj hoj hdt ht
                obtain ⟨e, he, hb, heo⟩ := waitsB1_spec ho hwt
                have hlj := hw e he hb
                rw [heo] at hlj
                rw [mm.put j oj t hj (by simpa using hoj) hdt hlj, mm.keep j oj t hj (by simpa using hoj) hdt, if_pos]
                rw [List.any_eq_true]
                refine ⟨oj, ?_, by simp [hdt]⟩
                refine List.mem_of_getElem? (i := j) ?_
                rw [List.getElem?_take, List.getElem?_take]
                simp only [hji, show j < k by omega, if_true, hoj]
              · rw [mm.same t (fun j oj hj hoj hdt => hex ⟨j, oj, hj, by simpa using hoj, hdt⟩), mm.other t (fun j oj hj hoj hdt => hex ⟨j, oj, hj, by simpa using hoj, hdt⟩) (fun j oj hj hoj hdt => (hap' i o j oj t hikk hol hj (by simpa using hoj) hdt).1 ht), if_neg]
                intro hany
                rw [List.any_eq_true] at hany
                obtain ⟨oj, hmem, hdt⟩ := hany
                obtain ⟨j, hj⟩ := List.getElem?_of_mem (List.mem_of_mem_take hmem)
                rw [List.getElem?_take] at hj
                split at hj
                · exact hex ⟨j, oj, by omega, hj, by simpa using hdt⟩
                · cases hj
            have hy : YieldsIn P l.toArray (fun w' => ∃ x : Same w, w' = x.w) o (leftBy af o) (accum af ((l.take k).take i) a0) := by
              by_cases hz : i ∈ lz
              · refine move_yields ?_ (hA0.get (i := i) (o := o) (by rw [List.getElem?_take]; simp [hikk, hol])) w
                have := hlz i hz
                rw [ho] at this
                exact this
              · have hcw : C w := mm.cw.resolve_right (fun h => by
                  have h1 := h i hikk hz
                  rw [getD_tf (by rw [mm.size]; omega), h1] at hun
                  cases hun)
                exact (hall w hcw).get (i := i) (o := o) (by rw [List.getElem?_take]; simp [hikk, hol])
            have he : execOp a.eval o = execOp (accum af ((l.take k).take i) a0).eval o := execOp_congr o (fun cs b => Region.noSelect_spec hsel i o cs b ho) (fun x hx => by
              cases x with
              | tmp t => exact hlook t (List.mem_append_left _ (List.mem_filterMap.2 ⟨.tmp t, by simpa using hx, rfl⟩))
              | _ => rfl)
            have hy' := hy.of_same he (wanted_congr hlook)
            refine wpOp_of_qOp (C := fun w' => ∃ x : Same w, w' = x.w) ⟨⟨w, rfl⟩, rfl⟩ (fun a' w' hx ha => ?_) (hy'.qOp ho (K := fun a' => a' = a.put o.dst (leftBy af o)) rfl)
            obtain ⟨⟨x, hxw⟩, rfl⟩ := hx
            subst hxw
            subst ha
            have hvb : leftBy af o = slotOf b d := by
              rw [mm.keep i o d hikk ho hod]
              simp [leftBy, hod]
            refine ih s b _ _ _ ⟨by simp [mm.size], hclosed, mm.le, fun j hj => getD_set_true (mm.sdone j hj), fun t ht ht' => by rw [getD_set_ne true (by omega)]; exact mm.sleft t ht ht', by rw [defers_put]; exact mm.adef, by rw [size_put]; exact mm.asize, mm.bsize, ?_, ?_, mm.keep, mm.other, mm.stage, mm.cw.imp (fun x => x) (fun h q hq hz => getD_set_true (h q hq hz))⟩ hun'
            · intro j oj t hj hoj hdt hl
              by_cases hji : i = j
              · subst hji
                rw [ho] at hoj
                cases hoj
                rw [hod] at hdt
                cases hdt
                rw [hod, slot_put_same _ (by rw [mm.asize]; exact hdlt), hvb]
              · rw [getD_set_ne false hji] at hl
                rw [slot_put_ne _ (dne i j o oj t hikk hj hol (by simpa using hoj) hji hdt)]
                exact mm.put j oj t hj hoj hdt hl
            · intro t hno
              rw [slot_put_ne _ (hno i o hikk ho)]
              exact mm.same t hno
          · -- the next one of the row
            have his : i = k + s := by
              rcases Nat.lt_or_ge i (k + s) with h | h
              · have := mm.sdone (i - k) (by omega)
                rw [show k + (i - k) = i by omega] at this
                rw [getD_tf (by rw [mm.size]; omega), this] at hun
                cases hun
              · rcases Nat.lt_or_ge (k + s) i with h2 | h2
                · obtain ⟨_, g2, _, _⟩ := hsp' (i - k) o (by omega) (by rw [show k + (i - k) = i by omega]; exact hol)
                  have g3 := g2.resolve_left (by omega)
                  rw [show k + (i - k) = i by omega] at g3
                  obtain ⟨e, he, hb, heo⟩ := waitsB1_spec ho g3
                  have hlj := hw e he hb
                  rw [heo] at hlj
                  have := mm.sleft (i - 1) (by omega) (by omega)
                  rw [getD_tf (by rw [mm.size]; omega), hlj] at this
                  cases this
                · omega
            subst his
            have hs : s < m := by omega
            obtain ⟨g1, g2, g3, g4⟩ := hsp' s o hs hol
            have hspl : (((l.drop k).take m).zip fl).drop s = (o, fl[s]'(by omega)) :: (((l.drop k).take m).zip fl).drop (s + 1) := by
              rw [List.drop_eq_getElem_cons (by simp; omega)]
              congr 1
              simp only [List.getElem_zip, List.getElem_take, List.getElem_drop]
              rw [List.getElem?_eq_getElem hil] at hol
              simp only [Option.some.injEq] at hol
              rw [hol]
            have hst := mm.stage
            rw [hspl] at hst
            have hlook : ∀ t ∈ o.looksAt l.toArray, slotOf a t = slotOf b t := by
              intro t ht
              by_cases hex : ∃ j oj, j < k ∧ l[j]? = some oj ∧ oj.dst = some t
              · obtain ⟨j, oj, hj, hoj, hdt⟩ := hex
                obtain ⟨e, he, hb, heo⟩ := waitsB1_spec ho (g3 j oj t hj hoj hdt ht)
                have hlj := hw e he hb
                rw [heo] at hlj
                exact mm.put j oj t hj (by simpa using hoj) hdt hlj
              · exact mm.same t (fun j oj hj hoj hdt => hex ⟨j, oj, hj, by simpa using hoj, hdt⟩)
            have he : execOp a.eval o = execOp b.eval o := execOp_congr o (fun cs b => Region.noSelect_spec hsel _ o cs b ho) (fun x hx => by
              cases x with
              | tmp t => exact hlook t (List.mem_append_left _ (List.mem_filterMap.2 ⟨.tmp t, by simpa using hx, rfl⟩))
              | _ => rfl)
            unfold wpOp
            rw [ho]
            simp only
            rw [if_pos (by unfold Region.wanted; rw [g1])]
            refine .inl (StepV.wp hst he (fun v w' hN => ?_))
            refine ih (s + 1) (b.put o.dst v) _ _ _ ⟨by simp [mm.size], hclosed, hs, fun j hj => ?_, fun t ht ht' => by rw [getD_set_ne true (by omega)]; exact mm.sleft t (by omega) ht', by rw [defers_put, defers_put]; exact mm.adef, by rw [size_put]; exact mm.asize, by rw [size_put]; exact mm.bsize, ?_, ?_, ?_, ?_, hN.2, ?_⟩ hun'
            · by_cases hjs : j = s
              · subst hjs; exact hnow
              · exact getD_set_true (mm.sdone j (by omega))
            · intro j oj t hj hoj hdt hl
              rw [getD_set_ne false (by omega)] at hl
              exact slot_put_congr (by rw [mm.asize, mm.bsize]) (mm.put j oj t hj hoj hdt hl) _ _
            · intro t hno
              exact slot_put_congr (by rw [mm.asize, mm.bsize]) (mm.same t hno) _ _
            · intro j oj t hj hoj hdt
              rw [slot_put_ne _ (fun e => (hap' j oj s o t hj (by simpa using hoj) hs hol e).2 hdt)]
              exact mm.keep j oj t hj hoj hdt
            · intro t h1 h2
              rw [slot_put_ne _ (h2 s o hs ho)]
              exact mm.other t h1 h2
            · rcases g4 with g4 | g4
              · refine .inl (hN.1 ?_)
                rw [List.getD_eq_getElem?_getD, List.getElem?_eq_getElem (by omega)] at g4
                exact g4
              · exact .inr (fun q hq hz => getD_set_true (hcov q (g4 q hq hz)))
  have hrep : ∀ i d, i < l.toArray.size → (Array.replicate l.toArray.size false).getD i d = false := fun i d hi => by simp at hi; simp [hi]
  refine wp_region_any hm (main _ 0 af _ a0 _ ?_ (by rw [unl_rep]))
  refine ⟨by simp, ?_, Nat.zero_le _, fun j hj => absurd hj (Nat.not_lt_zero _), fun t _ ht => hrep t _ ht, hA0.keep.2.1.symm, rfl, hA0.keep.1, ?_, ?_, fun _ _ _ _ _ _ => rfl, ?_, ?_, .inl hC⟩
  · intro j oj hj h
    rw [hrep j _ (Array.getElem?_eq_some_iff.1 hj).1] at h
    cases h
  · intro j o t _ ho _ h
    rw [hrep j _ (Array.getElem?_eq_some_iff.1 ho).1] at h
    cases h
  · intro t hno
    exact (hafs t (fun j o hj ho => hno j o hj (by simpa using ho))).symm
  · intro t h1 _
    exact hafs t (fun j o hj ho => h1 j o hj (by simpa using ho))
  · exact hS _ hC
end
end Go.Proofs.Ytmebpglkeedaoaa
namespace Go.Proofs.Ytmebpglkeedaoaa
open Go.RowKit Dp
theorem stepV_append {P : Program} {o : Oper} {a : Act} {w : World} {N : Value → World → Prop} (s x : Operand) (t : TypeId)
    (ho : o.op = .call { callee := .builtin .append, args := #[s, x], argTypes := #[t, t] })
    (base : Nat) (e : TypeId) (i : TypeInfo) (z : Value) (size bytes : Nat) (ht : P.underlying t = some (.slice e)) (hi : P.info? e = some i) (hz : i.zero = some z)
    (hsize : i.size = size) (hby : i.bytes = bytes) (hzs : z.cells.size = size) (hsz : 0 < size)
    (A : Option Addr) (n cap : Nat) (xs : List Value) (hs : a.eval s = .slice A n cap) (hown : w.ownsRow base e size (.slice A n cap) n xs)
    (Bo : Option Addr) (m c : Nat) (news : List Value) (hx : a.eval x = .slice Bo m c) (hl : news.length = m * size) (hnews : SrcRow w Bo m news) (h1 : ∀ u ∈ news, u.oneCell' = true)
    (h63 : n + m ≤ maxLen) (hbytes : (n + m) * bytes ≤ 140737488355328) (hbase : base ≤ w.heap.size)
    (h : ∀ A' cap' w', w'.ownsRow base e size (.slice A' (n + m) cap') (n + m) (xs ++ news) → w.grownBy w' (Value.slice A n cap).ownBlock → (∀ k, OwnB A' k → OwnB A k ∨ k = w.heap.size) → N (.slice A' (n + m) cap') w') : StepV P o a w N := by
  obtain ⟨A', cap', w', hr, h2, h3, h4⟩ := run_append_any (P := P) t o.type base e i z size bytes ht hi hz hsize hby hzs hsz A n cap xs hown Bo m c news hl hnews h1 h63 hbytes hbase
  unfold StepV execOp
  simp only [ho, resolve, invoke, builtin, Sem.run_bind, Sem.run_pure, Result.andThen_ok, List.map_toArray, List.map_cons, List.map_nil, hs, hx, hr]
  exact h A' cap' w' h2 h3 h4
theorem spineV_cons {P : Program} {C : World → Prop} {T : Act → World → Prop} {o : Oper} {f : Bool} {r : List (Oper × Bool)} {a : Act} {w : World} (h : StepV P o a w fun v w' => (f = true → C w') ∧ SpineV P C T r (a.put o.dst v) w') : SpineV P C T ((o, f) :: r) a w := h
theorem spineV_nil {P : Program} {C : World → Prop} {T : Act → World → Prop} {a : Act} {w : World} (h : T a w) : SpineV P C T [] a w := h
theorem less_c (a b c d : Int) (w : World) : Calls Try.prog 101 #[.agg #[.int .i64 a, .int .i64 b], .agg #[.int .i64 c, .int .i64 d]] w fun e w' => e = .returned (.bool (decide (b < d))) ∧ Below w.heap.size w w' := by
  go_enter Try.func101, Try.ntmps101
  go_wp2
  go_ret
  refine ⟨rfl, ?_⟩
  exact ((Below.refl w.heap.size w).alloc (Nat.le_refl _) _).alloc (by simp) _
def visC (e : Vs) : List Value := [.int .i64 e.1, .int .i64 e.2]
theorem visC_len (e : Vs) : (visC e).length = 2 := rfl
theorem info154 : (Try.prog.info? 154).map (fun i => (i.zero, i.size, i.bytes)) = some (some (.agg #[.int .i64 0, .int .i64 0]), 2, 16) := by kernel_rfl
def HpAt (w : World) (B b : Nat) (A : Option Addr) (c : Nat) (l : List Vs) : Prop := Blk w b 158 [.slice A l.length c, .func (.func 101) #[] #[]] ∧ OwnR visC 154 2 B w A c l ∧ ¬ OwnB A b
theorem HpAt.touch {S : Nat → Prop} {w w' : World} {B b : Nat} {A : Option Addr} {c : Nat} {l : List Vs} (h : HpAt w B b A c l) (k : Touch S w w') (h1 : ¬ S b) (h2 : ∀ g, OwnB A g → ¬ S g) : HpAt w' B b A c l := ⟨h.1.touch k h1, h.2.1.touch k h2, h.2.2⟩
theorem HpAt.below {w w' : World} {B b : Nat} {A : Option Addr} {c : Nat} {l : List Vs} (h : HpAt w B b A c l) (k : Below w.heap.size w w') : HpAt w' B b A c l := ⟨h.1.below k h.1.lt, h.2.1.below k, h.2.2⟩
def PutC (w : World) (B b : Nat) (A : Option Addr) (c : Nat) (l : List Vs) (x y : Int) (V : World) : Prop := HpAt V B b A c l ∧ Below w.heap.size w V ∧ Blk V w.heap.size 154 [.int .i64 x, .int .i64 y]
theorem PutC.alloc {w : World} {B b : Nat} {A : Option Addr} {c : Nat} {l : List Vs} {x y : Int} {V : World} (h : PutC w B b A c l x y V) (o : Obj) : PutC w B b A c l x y (V.alloc o) :=
  ⟨h.1.below ((Below.refl _ _).alloc (Nat.le_refl _) _), h.2.1.alloc h.2.1.size _, h.2.2.alloc _⟩
theorem PutC.drew {w : World} {B b : Nat} {A : Option Addr} {c : Nat} {l : List Vs} {x y : Int} {V : World} (h : PutC w B b A c l x y V) : PutC w B b A c l x y V.drew := ⟨⟨h.1.1.drew, h.1.2.1.drew, h.1.2.2⟩, h.2.1.drew, h.2.2.drew⟩
def PutJ (w : World) (B b : Nat) (A : Option Addr) (l : List Vs) (x y : Int) (g c' : Nat) (l' : List Vs) (W : World) : Prop :=
  HpAt W B b (some ⟨g, 0, none⟩) c' l' ∧ l'.Perm ((x, y) :: l) ∧ Touch (fun k => k = b ∨ OwnB A k) w W ∧ (OwnB A g ∨ w.heap.size ≤ g)
theorem ownB_some {g k : Nat} : OwnB (some ⟨g, 0, none⟩) k ↔ k = g := ⟨fun ⟨a, h, e⟩ => by cases h; exact e.symm, fun h => ⟨_, rfl, h.symm⟩⟩
theorem putJ_new {w V W : World} {B b : Nat} {A : Option Addr} {c : Nat} {l : List Vs} {x y : Int} {g c' : Nat} (hV : PutC w B b A c l x y V) (ho : W.ownsRow B 154 2 (.slice (some ⟨g, 0, none⟩) (l.length + 1) c') (l.length + 1) (flat visC l ++ [.int .i64 x, .int .i64 y]))
    (hg : V.grownBy W (Value.slice A l.length c).ownBlock) (hk : OwnB A g ∨ g = V.heap.size) (hb : b < w.heap.size) :
    PutJ w B b A l x y g c' (l ++ [(x, y)]) (W.setCell ⟨b, 0, none⟩ (.slice (some ⟨g, 0, none⟩) (l.length + 1) c')) := by
  have hbV : b < V.heap.size := Nat.lt_of_lt_of_le hb hV.2.1.size
  have hbg : b ≠ g := by
    intro e; subst e
    rcases hk with hk | hk
    · exact hV.1.2.2 hk
    · omega
  have h1 : Blk W b 158 [.slice A l.length c, .func (.func 101) #[] #[]] := hV.1.1.grown hg (fun e => hV.1.2.2 (ownB_iff.2 e.symm))
  have h2 := h1.setCell 0 (.slice (some ⟨g, 0, none⟩) (l.length + 1) c')
  have hl : (l ++ [(x, y)]).length = l.length + 1 := by simp
  refine ⟨⟨by rw [hl]; exact h2, ?_, fun h => hbg (ownB_some.1 h)⟩, ?_, ?_, ?_⟩
  · have h3 : OwnR visC 154 2 B W (some ⟨g, 0, none⟩) c' (l ++ [(x, y)]) := by
      unfold OwnR
      rw [hl, flat_append]
      exact ho
    exact h3.set_ne (fun h => hbg (ownB_some.1 h)) _
  · exact List.perm_append_singleton _ _
  · refine Touch.setCell ?_ (.inl (.inl rfl)) _
    exact (Touch.of_below hV.2.1).grown hg (fun k e => .inl (.inr (ownB_iff.2 e)))
  · rcases hk with hk | hk
    · exact .inl hk
    · right; have := hV.2.1.size; omega
theorem PutJ.below {w W W' : World} {B b : Nat} {A : Option Addr} {l : List Vs} {x y : Int} {g c' : Nat} {l' : List Vs} (h : PutJ w B b A l x y g c' l' W) (hb : Below W.heap.size W W') : PutJ w B b A l x y g c' l' W' :=
  ⟨h.1.below hb, h.2.1, h.2.2.1.below hb, h.2.2.2⟩
theorem PutJ.drew {w W : World} {B b : Nat} {A : Option Addr} {l : List Vs} {x y : Int} {g c' : Nat} {l' : List Vs} (h : PutJ w B b A l x y g c' l' W) : PutJ w B b A l x y g c' l' W.drew := h.below (Below.refl _ _).drew
theorem HpAt.put {w : World} {B b g c : Nat} {l : List Vs} (h : HpAt w B b (some ⟨g, 0, none⟩) c l) (i : Nat) (e : Vs) (hi : i < l.length) : HpAt ((w.setCell ⟨g, i * 2, none⟩ (.int .i64 e.1)).setCell ⟨g, i * 2 + 1, none⟩ (.int .i64 e.2)) B b (some ⟨g, 0, none⟩) c (l.set i e) := by
  have hbg : b ≠ g := fun e => h.2.2 (ownB_some.2 e)
  refine ⟨by rw [List.length_set]; exact (h.1.setCell_ne (p := ⟨g, i * 2, none⟩) hbg _).setCell_ne (p := ⟨g, i * 2 + 1, none⟩) hbg _, ?_, h.2.2⟩
  have h1 := h.2.1.put visC_len i 0 (e.1, (l.getD i (0, 0)).2) (l.getD i (0, 0)) (.int .i64 e.1) (getElem_D l i (0, 0) hi) (by omega) rfl
  have h2 := h1.put visC_len i 1 e (e.1, (l.getD i (0, 0)).2) (.int .i64 e.2) (by rw [List.getElem?_set_self hi]) (by omega) rfl
  rw [List.set_set] at h2
  exact h2
theorem HpAt.cells {w : World} {B b g c : Nat} {l : List Vs} (h : HpAt w B b (some ⟨g, 0, none⟩) c l) (i : Nat) (hi : i < l.length) : w.cell? ⟨g, i * 2, none⟩ = some (.int .i64 (l.getD i (0, 0)).1) ∧ w.cell? ⟨g, i * 2 + 1, none⟩ = some (.int .i64 (l.getD i (0, 0)).2) :=
  ⟨h.2.1.cell visC_len i 0 _ (getElem_D l i (0, 0) hi) (by omega), h.2.1.cell visC_len i 1 _ (getElem_D l i (0, 0) hi) (by omega)⟩
theorem HpAt.swap {w : World} {B b g c : Nat} {l : List Vs} (h : HpAt w B b (some ⟨g, 0, none⟩) c l) (i j : Nat) (hi : i < l.length) (hj : j < l.length) :
    HpAt ((((w.setCell ⟨g, i * 2, none⟩ (.int .i64 (l.getD j (0, 0)).1)).setCell ⟨g, i * 2 + 1, none⟩ (.int .i64 (l.getD j (0, 0)).2)).setCell ⟨g, j * 2, none⟩ (.int .i64 (l.getD i (0, 0)).1)).setCell ⟨g, j * 2 + 1, none⟩ (.int .i64 (l.getD i (0, 0)).2)) B b (some ⟨g, 0, none⟩) c (swp l i j) :=
  (h.put i _ hi).put j _ (by simpa using hj)
theorem PutJ.swap {w W : World} {B b : Nat} {A : Option Addr} {l : List Vs} {x y : Int} {g c' : Nat} {l' : List Vs} (h : PutJ w B b A l x y g c' l' W) (i j : Nat) (hi : i < l'.length) (hj : j < l'.length) :
    PutJ w B b A l x y g c' (swp l' i j) ((((W.setCell ⟨g, i * 2, none⟩ (.int .i64 (l'.getD j (0, 0)).1)).setCell ⟨g, i * 2 + 1, none⟩ (.int .i64 (l'.getD j (0, 0)).2)).setCell ⟨g, j * 2, none⟩ (.int .i64 (l'.getD i (0, 0)).1)).setCell ⟨g, j * 2 + 1, none⟩ (.int .i64 (l'.getD i (0, 0)).2)) := by
  have hS : (g = b ∨ OwnB A g) ∨ w.heap.size ≤ g := h.2.2.2.elim (fun h => .inl (.inr h)) .inr
  exact ⟨h.1.swap i j hi hj, (swp_perm hi hj).trans h.2.1, (((h.2.2.1.setCell (p := ⟨g, i * 2, none⟩) hS _).setCell (p := ⟨g, i * 2 + 1, none⟩) hS _).setCell (p := ⟨g, j * 2, none⟩) hS _).setCell (p := ⟨g, j * 2 + 1, none⟩) hS _, h.2.2.2⟩
set_option maxRecDepth 100000 in
theorem put_c (b : Nat) (A : Option Addr) (n c : Nat) (l : List Vs) (x y : Int) (B : Nat) (w : World) (hn : n = l.length) (hn2 : n ≤ 8388608) (hB : B ≤ w.heap.size) (h : HpAt w B b A c l) (hp : Heap l) :
    Calls Try.prog 102 #[.pointer (some ⟨b, 0, none⟩), .agg #[.int .i64 x, .int .i64 y]] w fun e w' => e = .returned (.tuple #[]) ∧ ∃ A' c' l', HpAt w' B b A' c' l' ∧ l'.Perm ((x, y) :: l) ∧ Heap l' ∧ Touch (fun k => k = b ∨ OwnB A k) w w' ∧ ∀ k, OwnB A' k → OwnB A k ∨ w.heap.size ≤ k := by
  have HN := Lib.hid hn
  have HA := Lib.hid h
  have HP := Lib.hid hp
  clear h hp hn
  have hbl := HA.out.1.lt
  have X1 := Lib.hid (Blk.new' w #[.int .i64 x, .int .i64 y] 154)
  have B1 := Lib.hid (Below.refl w.heap.size w |>.alloc (Nat.le_refl _) (.cells #[.int .i64 x, .int .i64 y] 154))
  obtain ⟨i0, hi, hz0, hz1, hz2⟩ := info_parts info154
  go_enter Try.func102, Try.ntmps102
  go_wp2_with fail
  have J1 : Hid (PutC w B b A c l x y (w.alloc (.cells #[.int .i64 x, .int .i64 y] 154))) := Lib.hid ⟨HA.out.below B1.out, B1.out, X1.out⟩
  generalize w.alloc (.cells #[.int .i64 x, .int .i64 y] 154) = w1 at J1 ⊢
  clear X1 B1
  refine wp_region_spine 6 [true, false] [0] ?af1 (fun V => PutC w B b A c l x y V) (by kernel_rfl) (by kernel_rfl) J1.out.drew ?walk1 ?spine1
  case walk1 =>
    intro V hV
    have c0 := hV.1.1.cell 0 rfl
    have d0 := hV.2.2.cell 0 rfl
    have d1 := hV.2.2.cell 1 rfl
    clear hV
    rw [← HN.out] at c0
    simp only [List.take_succ_cons, List.take_zero]
    repeat (go_big_quiet_step (fail))
    refine wpQuiet_nil ?_
    rfl
  case spine1 =>
    intro V hV
    have JV := Lib.hid hV
    refine spineV_cons ?_
    unfold StepV
    clear hV
    go_simp
    refine ⟨JV.out.alloc _, ?_⟩
    have J2 := Lib.hid (JV.out.alloc (.cells #[.int .i64 x, .int .i64 y] 154))
    have X2 := Lib.hid (Blk.new' V #[.int .i64 x, .int .i64 y] 154)
    generalize V.alloc (.cells #[.int .i64 x, .int .i64 y] 154) = V2 at J2 X2 ⊢
    generalize V.heap.size = gv at *
    refine spineV_cons ?_
    refine stepV_append (.tmp 10) (.tmp 12) 156 rfl B 154 i0 (.agg #[.int .i64 0, .int .i64 0]) 2 16 Try.underlying156 hi hz0 hz1 hz2 rfl (by decide) A n c (flat visC l) (by rfl) (by rw [HN.out]; exact J2.out.1.2.1) (some ⟨gv, 0, none⟩) 1 1 [.int .i64 x, .int .i64 y] (by rfl) (by rfl) (.inr ⟨_, rfl, ?_⟩) (by simp [Value.oneCell']) (by unfold maxLen; omega) (by omega) ?_ ?_
    · intro j u hj
      rcases j with _ | _ | j
      · simp at hj; subst hj; exact X2.out.cell 0 rfl
      · simp at hj; subst hj; exact X2.out.cell 1 rfl
      · simp at hj
    · have := J2.out.2.1.size; omega
    intro A' c' w3 ho hg hk
    refine ⟨fun h => (by cases h), ?_⟩
    obtain ⟨g, c'', hA', _, _⟩ := ho.form (by omega)
    cases hA'
    have hk2 : OwnB A g ∨ g = V2.heap.size := hk g (ownB_some.2 rfl)
    have GB := J2.out.1.1.grown hg (fun e => J2.out.1.2.2 (ownB_iff.2 (by rw [HN.out] at e; exact e.symm)))
    have fz := GB.free 0
    have cc := GB.cell 0 rfl
    clear GB
    have J3 : Hid (PutJ w B b A l x y g c' (l ++ [(x, y)]) (w3.setCell ⟨b, 0, none⟩ (.slice (some ⟨g, 0, none⟩) (n + 1) c'))) := Lib.hid (by
      rw [HN.out] at ho hg ⊢
      exact putJ_new J2.out ho hg hk2 hbl)
    have U3 := Lib.hid (up_start HP.out (x, y))
    rw [← HN.out] at U3
    clear ho hg hk hk2 J2 X2 JV J1
    refine spineV_nil ?_
    go_wp2_with fail
    trace "loop"
    generalize w3.setCell ⟨b, 0, none⟩ (.slice (some ⟨g, 0, none⟩) (n + 1) c') = w4 at J3 ⊢
    clear fz cc
    go_loopw [4] (fun i wr => ∃ k : Nat, i = .int .i64 k ∧ k < n + 1 ∧ Hid (∃ l', PutJ w B b A l x y g c' l' wr ∧ UpAt l' k)) (fun i _ => (intOf i).toNat)
    case atStart =>
      refine ⟨n, ?_, by omega, Lib.hid ⟨_, J3.out, U3.out⟩⟩
      go_num
    case round =>
      obtain ⟨k, rfl, hk, HJ⟩ := hrel
      obtain ⟨l', j, u⟩ := HJ.out
      have JR := Lib.hid j
      have UR := Lib.hid u
      clear HJ j u
      have HL : Hid (l'.length = n + 1) := Lib.hid (by rw [JR.out.2.1.length_eq, HN.out]; rfl)
      by_cases h0 : k = 0
      · subst h0
        go_wp2
        refine bodyPost_end (v := .tuple #[]) (by simp [results, Try.results102, go_sem]) rfl ⟨rfl, _, _, l', JR.out.1, JR.out.2.1, up_done UR.out (.inl rfl), JR.out.2.2.1, ?_⟩
        intro q hq
        rw [ownB_some.1 hq]
        exact JR.out.2.2.2
      · obtain ⟨q, hq⟩ : ∃ q : Nat, q = (k - 1) / 2 := ⟨_, rfl⟩
        have HQ := Lib.hid hq
        have hq1 : ((k : Int) - 1) / 2 = (q : Int) := by omega
        have hqn : q < n + 1 := by omega
        clear hq
        have k0 : (0 : Int) < (k : Int) := by omega
        have c0 := JR.out.1.1.cell 0 rfl
        have c1 := JR.out.1.1.cell 1 rfl
        rw [HL.out] at c0
        have bl := JR.out.1.1.lt
        have gl := JR.out.1.2.1.lt.2
        obtain ⟨e0, e1⟩ := JR.out.1.cells k (by rw [HL.out]; exact hk)
        obtain ⟨f0, f1⟩ := JR.out.1.cells q (by rw [HL.out]; exact hqn)
        have HS := Lib.hid (fun V (h : PutJ w B b A l x y g c' l' V) => h.swap k q (by rw [HL.out]; exact hk) (by rw [HL.out]; exact hqn))
        have HE1 : Hid (keyAt l' k = (l'.getD k (0, 0)).2) := Lib.hid rfl
        have HE2 : Hid (keyAt l' q = (l'.getD q (0, 0)).2) := Lib.hid rfl
        generalize hek : (l'.getD k (0, 0)) = ek at *
        generalize heq : (l'.getD q (0, 0)) = eq at *
        obtain ⟨ek0, ek1⟩ := ek
        obtain ⟨eq0, eq1⟩ := eq
        have HEK := Lib.hid hek
        have HEQ := Lib.hid heq
        clear hek heq
        simp only at e0 e1 f0 f1 HE1 HE2 HS
        go_wp2_with fail
        refine wp_region_past (by kernel_rfl) (by kernel_rfl) ?_
        repeat (go_big_quiet_step (exact past_below (less_c _ _ _ _ _)))
        refine wpQuiet_nil ?_
        intro xx
        have J5 := Lib.hid (JR.out.below xx.far)
        generalize xx.w = w5 at J5 ⊢
        clear c0 c1 e0 e1 f0 f1 bl gl
        by_cases hlt : ek1 < eq1
        · have d1 : decide (ek1 < eq1) = true := decide_eq_true hlt
          simp only [d1, Bool.not_true]
          go_wp2_with fail
          refine wp_region_spine 25 [false] [9] ?af6 (fun V => PutJ w B b A l x y g c' l' V) (by kernel_rfl) (by kernel_rfl) J5.out.drew ?walk6 ?spine6
          case walk6 =>
            intro V hV
            have c0 := hV.1.1.cell 0 rfl
            rw [HL.out] at c0
            obtain ⟨e0, e1⟩ := hV.1.cells k (by rw [HL.out]; exact hk)
            obtain ⟨f0, f1⟩ := hV.1.cells q (by rw [HL.out]; exact hqn)
            rw [HEK.out] at e0 e1
            rw [HEQ.out] at f0 f1
            clear hV
            simp only [List.take_succ_cons, List.take_zero]
            repeat (go_big_quiet_step (fail))
            refine wpQuiet_nil ?_
            rfl
          case spine6 =>
            intro V hV
            have HSV := Lib.hid (HS.out V hV)
            have HUP : Hid (UpAt (swp l' k q) q) := Lib.hid (by
              have e1 := HE1.out
              have e2 := HE2.out
              rw [HQ.out] at e2 ⊢
              exact up_step UR.out (by omega) (by rw [HL.out]; exact hk) (by omega))
            have P1 := Lib.hid (hV.1.put k (eq0, eq1) (by rw [HL.out]; exact hk))
            obtain ⟨e0, e1⟩ := hV.1.cells k (by rw [HL.out]; exact hk)
            have z0 := hV.1.2.1.free (k * 2)
            have z1 := hV.1.2.1.free (k * 2 + 1)
            clear hV
            refine spineV_cons ?_
            unfold StepV
            go_simp
            generalize (V.setCell ⟨g, k * 2, none⟩ (.int .i64 eq0)).setCell ⟨g, k * 2 + 1, none⟩ (.int .i64 eq1) = V1 at HSV P1 ⊢
            clear e0 e1 z0 z1
            refine spineV_nil ?_
            obtain ⟨e0, e1⟩ := P1.out.cells q (by rw [List.length_set, HL.out]; exact hqn)
            have z0 := P1.out.2.1.free (q * 2)
            have z1 := P1.out.2.1.free (q * 2 + 1)
            go_wp2_with fail
            go_roundw
            case rel => exact ⟨q, rfl, by omega, Lib.hid ⟨_, HSV.out, HUP.out⟩⟩
            case measure => simp [intOf]; omega
        · have d1 : decide (ek1 < eq1) = false := decide_eq_false hlt
          simp only [d1, Bool.not_false]
          go_wp2
          refine bodyPost_ret (v := .tuple #[]) (by simp [results, Try.results102, go_sem]) rfl ⟨rfl, _, _, l', J5.out.1, J5.out.2.1, up_done UR.out (.inr ?_), J5.out.2.2.1, ?_⟩
          · rw [← HQ.out, HE1.out, HE2.out]; omega
          · intro q hq
            rw [ownB_some.1 hq]
            exact J5.out.2.2.2
end Go.Proofs.Ytmebpglkeedaoaa
namespace Go.Proofs.Ytmebpglkeedaoaa
open Go.RowKit Dp
@[go_sem] theorem idx_a (a b : Int) (w : World) : (Instr.index 173 (.agg #[.int .i64 a, .int .i64 b]) (.int .i64 0)).run Try.prog w = .ok (.int .i64 a) w := by kernel_rfl
@[go_sem] theorem idx_b (a b : Int) (w : World) : (Instr.index 173 (.agg #[.int .i64 a, .int .i64 b]) (.int .i64 1)).run Try.prog w = .ok (.int .i64 b) w := by kernel_rfl
theorem HpAt.pop {w : World} {B b g c : Nat} {l : List Vs} (h : HpAt w B b (some ⟨g, 0, none⟩) c l) (k : Nat) (hk : k + 1 = l.length) : HpAt (w.setCell ⟨b, 0, none⟩ (.slice (some ⟨g, 0, none⟩) k c)) B b (some ⟨g, 0, none⟩) c (l.take k) := by
  have hbg : b ≠ g := fun e => h.2.2 (ownB_some.2 e)
  have hl : (l.take k).length = k := by simp; omega
  exact ⟨by rw [hl]; exact h.1.setCell 0 _, (h.2.1.pop visC_len k hk).set_ne (fun e => hbg (ownB_some.1 e)) _, h.2.2⟩
def ChI (l : List Vs) (i L j : Nat) : Prop := (L = i ∨ ((L = 2 * i + 1 ∨ L = 2 * i + 2) ∧ L < l.length ∧ keyAt l L < keyAt l i)) ∧ keyAt l L ≤ keyAt l i ∧ ∀ t, t < j → 2 * i + 1 + t < l.length → keyAt l L ≤ keyAt l (2 * i + 1 + t)
theorem ch_start (l : List Vs) (i : Nat) : ChI l i i 0 := ⟨.inl rfl, Int.le_refl _, fun t h => absurd h (Nat.not_lt_zero _)⟩
theorem ch_yes {l : List Vs} {i L j : Nat} (h : ChI l i L j) (hj : j < 2) (h1 : 2 * i + 1 + j < l.length) (h2 : keyAt l (2 * i + 1 + j) < keyAt l L) : ChI l i (2 * i + 1 + j) (j + 1) := by
  have h3 := h.2.1
  refine ⟨.inr ⟨by omega, h1, by omega⟩, by omega, fun t ht hl => ?_⟩
  by_cases e : t = j
  · subst e; exact Int.le_refl _
  · have := h.2.2 t (by omega) hl; omega
theorem ch_no {l : List Vs} {i L j : Nat} (h : ChI l i L j) (h1 : ¬ (2 * i + 1 + j < l.length ∧ keyAt l (2 * i + 1 + j) < keyAt l L)) : ChI l i L (j + 1) := by
  refine ⟨h.1, h.2.1, fun t ht hl => ?_⟩
  by_cases e : t = j
  · subst e; omega
  · exact h.2.2 t (by omega) hl
theorem ch_done {l : List Vs} {i : Nat} (h : ChI l i i 2) (d : DnAt l i) : Heap l := dn_done d (fun hl => h.2.2 0 (by omega) hl) (fun hl => h.2.2 1 (by omega) hl)
theorem ch_step {l : List Vs} {i L : Nat} (h : ChI l i L 2) (d : DnAt l i) (hne : L ≠ i) : L < l.length ∧ i < L ∧ DnAt (swp l i L) L := by
  rcases h.1 with h1 | ⟨h1, h2, h3⟩
  · exact absurd h1 hne
  · refine ⟨h2, by omega, dn_step d h2 h1 h3 (fun j j0 hj hq => ?_)⟩
    rcases (show j = 2 * i + 1 + 0 ∨ j = 2 * i + 1 + 1 by omega) with e | e
    · rw [e] at hj ⊢; exact h.2.2 0 (by omega) hj
    · rw [e] at hj ⊢; exact h.2.2 1 (by omega) hj
def TkJ (w : World) (B b g c : Nat) (e : Vs) (l' : List Vs) (W : World) : Prop :=
  HpAt W B b (some ⟨g, 0, none⟩) c l' ∧ Touch (fun k => k = b ∨ k = g) w W ∧ Blk W w.heap.size 154 [.int .i64 0, .int .i64 0] ∧ Blk W (w.heap.size + 1) 154 [.int .i64 e.1, .int .i64 e.2] ∧ b < w.heap.size ∧ g < w.heap.size
section
variable {w W W' : World} {B b g c : Nat} {e : Vs} {l' : List Vs}
theorem TkJ.below (h : TkJ w B b g c e l' W) (hb : Below W.heap.size W W') : TkJ w B b g c e l' W' :=
  ⟨h.1.below hb, h.2.1.below hb, h.2.2.1.below hb h.2.2.1.lt, h.2.2.2.1.below hb h.2.2.2.1.lt, h.2.2.2.2⟩
theorem TkJ.drew (h : TkJ w B b g c e l' W) : TkJ w B b g c e l' W.drew := h.below (Below.refl _ _).drew
theorem TkJ.put (h : TkJ w B b g c e l' W) (i : Nat) (x : Vs) (hi : i < l'.length) : TkJ w B b g c e (l'.set i x) ((W.setCell ⟨g, i * 2, none⟩ (.int .i64 x.1)).setCell ⟨g, i * 2 + 1, none⟩ (.int .i64 x.2)) := by
  have hk := h.1.put i x hi
  refine ⟨hk, (h.2.1.setCell (p := ⟨g, i * 2, none⟩) (.inl (.inr rfl)) _).setCell (p := ⟨g, i * 2 + 1, none⟩) (.inl (.inr rfl)) _, ?_, ?_, h.2.2.2.2⟩
  · exact (h.2.2.1.setCell_ne (p := ⟨g, i * 2, none⟩) (by have := h.2.2.2.2.2; simp; omega) _).setCell_ne (p := ⟨g, i * 2 + 1, none⟩) (by have := h.2.2.2.2.2; simp; omega) _
  · exact (h.2.2.2.1.setCell_ne (p := ⟨g, i * 2, none⟩) (by have := h.2.2.2.2.2; simp; omega) _).setCell_ne (p := ⟨g, i * 2 + 1, none⟩) (by have := h.2.2.2.2.2; simp; omega) _
theorem TkJ.pop (h : TkJ w B b g c e l' W) (k : Nat) (hk : k + 1 = l'.length) : TkJ w B b g c e (l'.take k) (W.setCell ⟨b, 0, none⟩ (.slice (some ⟨g, 0, none⟩) k c)) :=
  ⟨h.1.pop k hk, h.2.1.setCell (.inl (.inl rfl)) _, h.2.2.1.setCell_ne (by have := h.2.2.2.2.1; simp; omega) _, h.2.2.2.1.setCell_ne (by have := h.2.2.2.2.1; simp; omega) _, h.2.2.2.2⟩
end
set_option maxHeartbeats 2000000 in
set_option maxRecDepth 100000 in
theorem take_c (b g n c : Nat) (l : List Vs) (B : Nat) (w : World) (hn : n = l.length) (hn0 : 0 < n) (hn2 : n ≤ 8388608) (h : HpAt w B b (some ⟨g, 0, none⟩) c l) (hp : Heap l) :
    Calls Try.prog 103 #[.pointer (some ⟨b, 0, none⟩)] w fun e w' => e = .returned (.agg #[.int .i64 (l.getD 0 (0, 0)).1, .int .i64 (l.getD 0 (0, 0)).2]) ∧ ∃ l', HpAt w' B b (some ⟨g, 0, none⟩) c l' ∧ (l.getD 0 (0, 0) :: l').Perm l ∧ Heap l' ∧ Touch (fun k => k = b ∨ k = g) w w' := by
  obtain ⟨m, rfl⟩ : ∃ m, n = m + 1 := ⟨n - 1, by omega⟩
  have HN := Lib.hid hn
  have HP := Lib.hid hp
  have hl0 : 0 < l.length := by omega
  have PP := Lib.hid (popd_perm hl0)
  have PD := Lib.hid (popd_dn hp)
  have J0 : Hid (TkJ w B b g c (l.getD 0 (0, 0)) l ((w.alloc (.cells #[.int .i64 0, .int .i64 0] 154)).alloc (.cells #[.int .i64 (l.getD 0 (0, 0)).1, .int .i64 (l.getD 0 (0, 0)).2] 154))) := Lib.hid (by
    have b1 := (Below.refl w.heap.size w).alloc (Nat.le_refl _) (.cells #[.int .i64 0, .int .i64 0] 154)
    have b2 := b1.alloc b1.size (.cells #[.int .i64 (l.getD 0 (0, 0)).1, .int .i64 (l.getD 0 (0, 0)).2] 154)
    refine ⟨h.below b2, Touch.of_below b2, (Blk.new' w _ 154).alloc _, ?_, h.1.lt, h.2.1.lt.2⟩
    have := Blk.new' (w.alloc (.cells #[.int .i64 0, .int .i64 0] 154)) #[.int .i64 (l.getD 0 (0, 0)).1, .int .i64 (l.getD 0 (0, 0)).2] 154
    simpa using this)
  have c0 := h.1.cell 0 rfl
  rw [← hn] at c0
  have bl := h.1.lt
  have gl := h.2.1.lt.2
  obtain ⟨e0, e1⟩ := h.cells 0 hl0
  have EL := Lib.hid (show (popd l) = (l.set 0 (l.getD m (0, 0))).take m from by unfold popd; rw [← hn]; rfl)
  have hmc : l.length ≤ c := by obtain ⟨gx, _, _, _, hmc, _⟩ := h.2.1.form hl0; exact hmc
  rw [← hn] at hmc
  clear h hp hn hl0
  generalize hx : l.getD 0 (0, 0) = x at *
  obtain ⟨x0, x1⟩ := x
  have HX := Lib.hid hx
  clear hx
  simp only [Nat.zero_mul, Nat.zero_add] at e0 e1
  go_enter Try.func103, Try.ntmps103
  go_wp2_with fail
  generalize (w.alloc (.cells #[.int .i64 0, .int .i64 0] 154)).alloc (.cells #[.int .i64 x0, .int .i64 x1] 154) = w1 at J0 ⊢
  clear c0 e0 e1 bl gl
  generalize hy : l.getD m (0, 0) = y at *
  obtain ⟨y0, y1⟩ := y
  have HY := Lib.hid hy
  clear hy
  refine wp_region_spine 12 [false] [] ?af3 (fun V => TkJ w B b g c (x0, x1) l V) (by kernel_rfl) (by kernel_rfl) J0.out.drew ?walk3 ?spine3
  case walk3 =>
    intro V hV
    have c0 := hV.1.1.cell 0 rfl
    rw [← HN.out] at c0
    obtain ⟨e0, e1⟩ := hV.1.cells m (by rw [← HN.out]; omega)
    rw [HY.out] at e0 e1
    clear hV
    simp only [List.take_succ_cons, List.take_zero]
    repeat (go_big_quiet_step (fail))
    refine wpQuiet_nil ?_
    rfl
  case spine3 =>
    intro V hV
    have P1 := Lib.hid (hV.put 0 (y0, y1) (by rw [← HN.out]; omega))
    simp only [Nat.zero_mul, Nat.zero_add] at P1
    obtain ⟨e0, e1⟩ := hV.1.cells 0 (by rw [← HN.out]; omega)
    simp only [Nat.zero_mul, Nat.zero_add] at e0 e1
    have z0 := hV.1.2.1.free 0
    have z1 := hV.1.2.1.free 1
    clear hV
    refine spineV_cons ?_
    unfold StepV
    go_simp
    generalize (V.setCell ⟨g, 0, none⟩ (.int .i64 y0)).setCell ⟨g, 1, none⟩ (.int .i64 y1) = V1 at P1 ⊢
    clear e0 e1 z0 z1
    refine spineV_nil ?_
    have c0 := P1.out.1.1.cell 0 rfl
    rw [List.length_set, ← HN.out] at c0
    have z0 := P1.out.1.1.free 0
    have P2 := Lib.hid (P1.out.pop m (by rw [List.length_set, ← HN.out]))
    rw [← EL.out] at P2
    clear P1
    go_wp2_with fail
    generalize V1.setCell ⟨b, 0, none⟩ (.slice (some ⟨g, 0, none⟩) m c) = w2 at P2 ⊢
    clear c0 z0
    go_loopw [5] (fun i wr => ∃ k : Nat, i = .int .i64 k ∧ (k = 0 ∨ k < m) ∧ Hid (∃ l', TkJ w B b g c (x0, x1) l' wr ∧ l'.Perm (popd l) ∧ DnAt l' k)) (fun i _ => m - (intOf i).toNat)
    case atStart => exact ⟨0, rfl, .inl rfl, Lib.hid ⟨_, P2.out, .refl _, PD.out⟩⟩
    case round =>
      obtain ⟨i, rfl, hi, HJ⟩ := hrel
      obtain ⟨l', j, pm, u⟩ := HJ.out
      have JR := Lib.hid j
      have PM := Lib.hid pm
      have UR := Lib.hid u
      have HL : Hid (l'.length = m) := Lib.hid (by rw [pm.length_eq, popd_length, ← HN.out]; rfl)
      clear HJ j u pm
      obtain ⟨k1, hq1⟩ : ∃ k1 : Nat, k1 = 2 * i + 1 := ⟨_, rfl⟩
      obtain ⟨k2, hq2⟩ : ∃ k2 : Nat, k2 = 2 * i + 2 := ⟨_, rfl⟩
      have hk1 : 2 * (i : Int) + 1 = (k1 : Int) := by omega
      have hk2 : 2 * (i : Int) + 2 = (k2 : Int) := by omega
      have HQ1 := Lib.hid hq1
      have HQ2 := Lib.hid hq2
      clear hq1 hq2
      go_wp2_with fail
      go_loopw [6, 50] (fun lv jv wq => ∃ L j : Nat, lv = .int .i64 L ∧ jv = .int .i64 j ∧ j ≤ 2 ∧ Hid (TkJ w B b g c (x0, x1) l' wq) ∧ Hid (ChI l' i L j)) (fun _ jv _ => 2 - (intOf jv).toNat)
      case atStart => exact ⟨i, 0, rfl, rfl, by omega, JR, Lib.hid (ch_start l' i)⟩
      case round =>
        obtain ⟨L, j, rfl, rfl, hj, JQ, CH⟩ := hrel
        rcases (show j = 0 ∨ j = 1 ∨ j = 2 by omega) with rfl | rfl | rfl
        · -- place 0
          have CY := Lib.hid (ch_yes (l := l') (i := i) (L := L) (j := 0) CH.out (by omega))
          have CN := Lib.hid (ch_no (l := l') (i := i) (L := L) (j := 0) CH.out)
          have HK : Hid (k1 = 2 * i + 1 + 0) := Lib.hid (by rw [HQ1.out])
          rw [← HK.out, HL.out] at CY CN
          by_cases hlt : k1 < m
          · have hkm : (k1 : Int) < (m : Int) := by omega
            have d1 : decide ((k1 : Int) < (m : Int)) = true := decide_eq_true hkm
            have d1n : decide (k1 < m) = true := decide_eq_true hlt
            have hLm : L < m := by
              rcases CH.out.1 with h | h
              · omega
              · have := h.2.1; rw [HL.out] at this; exact this
            have c0 := JQ.out.1.1.cell 0 rfl
            have c1 := JQ.out.1.1.cell 1 rfl
            rw [HL.out] at c0
            have bl := JQ.out.1.1.lt
            have gl := JQ.out.1.2.1.lt.2
            obtain ⟨e0, e1⟩ := JQ.out.1.cells k1 (by rw [HL.out]; exact hlt)
            obtain ⟨f0, f1⟩ := JQ.out.1.cells L (by rw [HL.out]; exact hLm)
            have HE1 : Hid (keyAt l' k1 = (l'.getD k1 (0, 0)).2) := Lib.hid rfl
            have HE2 : Hid (keyAt l' L = (l'.getD L (0, 0)).2) := Lib.hid rfl
            generalize l'.getD k1 (0, 0) = ek at *
            generalize l'.getD L (0, 0) = eq at *
            obtain ⟨ek0, ek1⟩ := ek
            obtain ⟨eq0, eq1⟩ := eq
            simp only at e0 e1 f0 f1 HE1 HE2
            rw [HE1.out, HE2.out] at CY CN
            go_wp2_with fail
            refine wp_region_past (by kernel_rfl) (by kernel_rfl) ?_
            repeat (go_big_quiet_step (exact past_below (less_c _ _ _ _ _)))
            refine wpQuiet_nil ?_
            intro xx
            have J5 := Lib.hid (JQ.out.below xx.far)
            generalize xx.w = w5 at J5 ⊢
            clear c0 c1 e0 e1 f0 f1 bl gl
            by_cases hle : ek1 < eq1
            · have d2 : decide (ek1 < eq1) = true := decide_eq_true hle
              simp only [d2]
              go_wp2_with fail
              go_roundw
              case rel => exact ⟨k1, 1, rfl, rfl, by omega, J5, Lib.hid (CY.out hlt hle)⟩
              case measure => simp [intOf]
            · have d2 : decide (ek1 < eq1) = false := decide_eq_false hle
              simp only [d2]
              go_wp2_with fail
              go_roundw
              case rel => exact ⟨L, 1, rfl, rfl, by omega, J5, Lib.hid (CN.out (fun h => hle h.2))⟩
              case measure => simp [intOf]
          · have hkm : ¬ (k1 : Int) < (m : Int) := by omega
            have d1 : decide ((k1 : Int) < (m : Int)) = false := decide_eq_false hkm
            have d1n : decide (k1 < m) = false := decide_eq_false hlt
            go_wp2_with fail
            refine wp_region_past (by kernel_rfl) (by kernel_rfl) ?_
            repeat (go_big_quiet_step (fail))
            refine wpQuiet_nil ?_
            intro xx
            have J5 := Lib.hid (JQ.out.below xx.far)
            generalize xx.w = w5 at J5 ⊢
            go_wp2_with fail
            go_roundw
            case rel => exact ⟨L, 1, rfl, rfl, by omega, J5, Lib.hid (CN.out (fun h => hlt h.1))⟩
            case measure => simp [intOf]
        · -- place 1
          have CY := Lib.hid (ch_yes (l := l') (i := i) (L := L) (j := 1) CH.out (by omega))
          have CN := Lib.hid (ch_no (l := l') (i := i) (L := L) (j := 1) CH.out)
          have HK : Hid (k2 = 2 * i + 1 + 1) := Lib.hid (by rw [HQ2.out])
          rw [← HK.out, HL.out] at CY CN
          by_cases hlt : k2 < m
          · have hkm : (k2 : Int) < (m : Int) := by omega
            have d1 : decide ((k2 : Int) < (m : Int)) = true := decide_eq_true hkm
            have d1n : decide (k2 < m) = true := decide_eq_true hlt
            have hLm : L < m := by
              rcases CH.out.1 with h | h
              · omega
              · have := h.2.1; rw [HL.out] at this; exact this
            have c0 := JQ.out.1.1.cell 0 rfl
            have c1 := JQ.out.1.1.cell 1 rfl
            rw [HL.out] at c0
            have bl := JQ.out.1.1.lt
            have gl := JQ.out.1.2.1.lt.2
            obtain ⟨e0, e1⟩ := JQ.out.1.cells k2 (by rw [HL.out]; exact hlt)
            obtain ⟨f0, f1⟩ := JQ.out.1.cells L (by rw [HL.out]; exact hLm)
            have HE1 : Hid (keyAt l' k2 = (l'.getD k2 (0, 0)).2) := Lib.hid rfl
            have HE2 : Hid (keyAt l' L = (l'.getD L (0, 0)).2) := Lib.hid rfl
            generalize l'.getD k2 (0, 0) = ek at *
            generalize l'.getD L (0, 0) = eq at *
            obtain ⟨ek0, ek1⟩ := ek
            obtain ⟨eq0, eq1⟩ := eq
            simp only at e0 e1 f0 f1 HE1 HE2
            rw [HE1.out, HE2.out] at CY CN
            go_wp2_with fail
            refine wp_region_past (by kernel_rfl) (by kernel_rfl) ?_
            repeat (go_big_quiet_step (exact past_below (less_c _ _ _ _ _)))
            refine wpQuiet_nil ?_
            intro xx
            have J5 := Lib.hid (JQ.out.below xx.far)
            generalize xx.w = w5 at J5 ⊢
            clear c0 c1 e0 e1 f0 f1 bl gl
            by_cases hle : ek1 < eq1
            · have d2 : decide (ek1 < eq1) = true := decide_eq_true hle
              simp only [d2]
              go_wp2_with fail
              go_roundw
              case rel => exact ⟨k2, 2, rfl, rfl, by omega, J5, Lib.hid (CY.out hlt hle)⟩
              case measure => simp [intOf]
            · have d2 : decide (ek1 < eq1) = false := decide_eq_false hle
              simp only [d2]
              go_wp2_with fail
              go_roundw
              case rel => exact ⟨L, 2, rfl, rfl, by omega, J5, Lib.hid (CN.out (fun h => hle h.2))⟩
              case measure => simp [intOf]
          · have hkm : ¬ (k2 : Int) < (m : Int) := by omega
            have d1 : decide ((k2 : Int) < (m : Int)) = false := decide_eq_false hkm
            have d1n : decide (k2 < m) = false := decide_eq_false hlt
            go_wp2_with fail
            refine wp_region_past (by kernel_rfl) (by kernel_rfl) ?_
            repeat (go_big_quiet_step (fail))
            refine wpQuiet_nil ?_
            intro xx
            have J5 := Lib.hid (JQ.out.below xx.far)
            generalize xx.w = w5 at J5 ⊢
            go_wp2_with fail
            go_roundw
            case rel => exact ⟨L, 2, rfl, rfl, by omega, J5, Lib.hid (CN.out (fun h => hlt h.1))⟩
            case measure => simp [intOf]
        · -- both seen
          by_cases hLi : L = i
          · subst hLi
            have c2 := JQ.out.2.2.1
            have c3 := JQ.out.2.2.2.1
            have a0 := c2.cell 0 rfl
            have a1 := c2.cell 1 rfl
            have z0 := c2.free 0
            have z1 := c2.free 1
            have e0 := c3.cell 0 rfl
            have e1 := c3.cell 1 rfl
            clear c2 c3
            go_wp2_with fail
            have hb := JQ.out.2.2.2.2
            have s1 := (JQ.out.1.1.setCell_ne (p := ⟨w.heap.size, 0, none⟩) (by simp; omega) (.int .i64 x0)).setCell_ne (p := ⟨w.heap.size, 1, none⟩) (by simp; omega) (.int .i64 x1)
            have s2 := (JQ.out.1.2.1.set_ne (p := ⟨w.heap.size, 0, none⟩) (fun e => by have := ownB_some.1 e; simp at this; omega) (.int .i64 x0)).set_ne (p := ⟨w.heap.size, 1, none⟩) (fun e => by have := ownB_some.1 e; simp at this; omega) (.int .i64 x1)
            have t1 := (JQ.out.2.1.setCell (p := ⟨w.heap.size, 0, none⟩) (.inr (Nat.le_refl _)) (.int .i64 x0)).setCell (p := ⟨w.heap.size, 1, none⟩) (.inr (Nat.le_refl _)) (.int .i64 x1)
            refine bodyPost_ret (v := .agg #[.int .i64 x0, .int .i64 x1]) (by simp [results, Try.results103, go_sem, *]) rfl ⟨rfl, l', ⟨s1, s2, JQ.out.1.2.2⟩, ((PM.out.cons _).trans PP.out), ch_done CH.out UR.out, t1⟩
          · have hLi' : ¬ (L : Int) = (i : Int) := by omega
            have hLb : ((L : Int) == (i : Int)) = false := by simpa using hLi'
            have HST := Lib.hid (ch_step CH.out UR.out hLi)
            rw [HL.out] at HST
            have hLm : L < m := HST.out.1
            have hiL : i < L := HST.out.2.1
            have him : i < m := by omega
            generalize hek : (l'.getD i (0, 0)) = ek at *
            generalize heq : (l'.getD L (0, 0)) = eq at *
            obtain ⟨ek0, ek1⟩ := ek
            obtain ⟨eq0, eq1⟩ := eq
            have HEK := Lib.hid hek
            have HEQ := Lib.hid heq
            clear hek heq
            go_wp2_with fail
            refine wp_region_spine 25 [false] [9] ?af6 (fun V => TkJ w B b g c (x0, x1) l' V) (by kernel_rfl) (by kernel_rfl) JQ.out.drew ?walk6 ?spine6
            case walk6 =>
              intro V hV
              have c0 := hV.1.1.cell 0 rfl
              rw [HL.out] at c0
              obtain ⟨e0, e1⟩ := hV.1.cells i (by rw [HL.out]; exact him)
              obtain ⟨f0, f1⟩ := hV.1.cells L (by rw [HL.out]; exact hLm)
              rw [HEK.out] at e0 e1
              rw [HEQ.out] at f0 f1
              clear hV
              simp only [List.take_succ_cons, List.take_zero]
              repeat (go_big_quiet_step (fail))
              refine wpQuiet_nil ?_
              rfl
            case spine6 =>
              intro V hV
              have P1 := Lib.hid (hV.put i (eq0, eq1) (by rw [HL.out]; exact him))
              have P2 := Lib.hid (P1.out.put L (ek0, ek1) (by rw [List.length_set, HL.out]; exact hLm))
              rw [show (l'.set i (eq0, eq1)).set L (ek0, ek1) = swp l' i L from by unfold swp; rw [HEK.out, HEQ.out]] at P2
              obtain ⟨e0, e1⟩ := hV.1.cells i (by rw [HL.out]; exact him)
              have z0 := hV.1.2.1.free (i * 2)
              have z1 := hV.1.2.1.free (i * 2 + 1)
              clear hV
              refine spineV_cons ?_
              unfold StepV
              go_simp
              generalize (V.setCell ⟨g, i * 2, none⟩ (.int .i64 eq0)).setCell ⟨g, i * 2 + 1, none⟩ (.int .i64 eq1) = V1 at P1 P2 ⊢
              clear e0 e1 z0 z1
              refine spineV_nil ?_
              obtain ⟨e0, e1⟩ := P1.out.1.cells L (by rw [List.length_set, HL.out]; exact hLm)
              have z0 := P1.out.1.2.1.free (L * 2)
              have z1 := P1.out.1.2.1.free (L * 2 + 1)
              go_wp2_with fail
              go_roundw
              case rel => exact ⟨L, rfl, by omega, Lib.hid ⟨_, P2.out, (swp_perm (by rw [HL.out]; exact him) (by rw [HL.out]; exact hLm)).trans PM.out, HST.out.2.2⟩⟩
              case measure => simp [intOf]; omega
end Go.Proofs.Ytmebpglkeedaoaa
namespace Go.Proofs.Ytmebpglkeedaoaa
open Go.RowKit Dp
theorem add_row (g i : Nat) : (⟨g, 0, none⟩ : Addr).add i = ⟨g, i, none⟩ := by
  unfold Addr.add
  split
  · rename_i h; subst h; rfl
  · simp
def Fl (e : TypeId) (W : World) (g : Nat) (xs : List Int) : Prop := Blk W g e (xs.map (Value.int .i64))
section
variable {e : TypeId} {W W' : World} {g : Nat} {xs : List Int}
theorem Fl.cell (h : Fl e W g xs) (k : Nat) (hk : k < xs.length) : W.cell? ⟨g, k, none⟩ = some (.int .i64 (xs.getD k 0)) := by
  refine Blk.cell h k ?_
  rw [List.getElem?_map, List.getElem?_eq_getElem hk, List.getD_eq_getElem?_getD, List.getElem?_eq_getElem hk]
  rfl
theorem Fl.free (h : Fl e W g xs) (k : Nat) : W.frozen? ⟨g, k, none⟩ = false := Blk.free h k
theorem Fl.lt (h : Fl e W g xs) : g < W.heap.size := Blk.lt h
theorem Fl.put (h : Fl e W g xs) (k : Nat) (v : Int) : Fl e (W.setCell ⟨g, k, none⟩ (.int .i64 v)) g (xs.set k v) := by
  unfold Fl
  rw [List.map_set]
  exact Blk.setCell h k _
theorem Fl.below (h : Fl e W g xs) (hb : Below W.heap.size W W') : Fl e W' g xs := Blk.below h hb h.lt
theorem Fl.set_ne (h : Fl e W g xs) {p : Addr} (hp : g ≠ p.block) (u : Value) : Fl e (W.setCell p u) g xs := Blk.setCell_ne h hp u
theorem Fl.touch {S : Nat → Prop} (h : Fl e W g xs) (k : Touch S W W') (hn : ¬ S g) : Fl e W' g xs := Blk.touch h k hn
theorem Fl.ints (h : Fl e W g xs) : IntsAt W (some ⟨g, 0, none⟩) xs := fun i hi => ⟨_, rfl, h.lt, by
  rw [add_row]
  exact h.cell i hi⟩
theorem Fl.ne {t : TypeId} {g' : Nat} {cs : List Value} (h : Fl e W g xs) (h' : Blk W g' t cs) (hn : e ≠ t) : g' ≠ g := blk_type_ne h h' hn
end
theorem own_ne {α : Type} {f : α → List Value} {e t : TypeId} {s B : Nat} {W : World} {A : Option Addr} {c g : Nat} {l : List α} {cs : List Value} (h : OwnR f e s B W A c l) (hb : OwnB A g) (h' : Blk W g t cs) (hn : e ≠ t) : False := by
  rcases h.2 with ⟨h0, _⟩ | ⟨g', cap', cur, hv, _, hg, _⟩
  · simp only [Value.slice.injEq] at h0
    obtain ⟨rfl, _⟩ := h0
    obtain ⟨a, ha, _⟩ := hb
    cases ha
  · simp only [Value.slice.injEq] at hv
    obtain ⟨rfl, _⟩ := hv
    have e1 := ownB_some.1 hb
    subst e1
    unfold Blk at h'
    rw [hg] at h'
    simp only [Option.some.injEq, Obj.cells.injEq] at h'
    exact hn h'.2.1
theorem info3 : (Try.prog.info? 3).map (fun i => (i.zero, i.size, i.bytes)) = some (some (.int .i64 0), 1, 8) := by kernel_rfl
theorem make_row (t e : TypeId) (ht : Try.prog.underlying t = some (.slice e)) (he : (Try.prog.info? e).map (fun i => (i.zero, i.size, i.bytes)) = some (some (.int .i64 0), 1, 8)) (n : Nat) (hn : n ≤ 4096) (W : World) :
    (Instr.makeSlice t (.int .i64 n) (.int .i64 n)).run Try.prog W = .ok (.slice (some ⟨W.heap.size, 0, none⟩) n n) (W.alloc (.cells (Array.replicate n (.int .i64 0)) e)) := by
  obtain ⟨i, hi, hz0, hz1, hz2⟩ := info_parts he
  have hr := run_make (P := Try.prog) W t e i _ ht hi hz0 .i64 .i64 n n (by omega) (by omega) (by rw [hz2]; omega) (by omega)
  simp only [Int.toNat_natCast, hz1, Nat.mul_one] at hr
  rw [hr]
  have e1 : madeCells (Value.int .i64 0).cells n = Array.replicate n (.int .i64 0) := by
    unfold madeCells
    apply Array.ext
    · simp
    · intro j h1 h2
      simp [Value.cells, Nat.mod_one]
  rw [e1]
theorem make_64 (n : Nat) (hn : n ≤ 4096) (W : World) : (Instr.makeSlice 22 (.int .i64 n) (.int .i64 n)).run Try.prog W = .ok (.slice (some ⟨W.heap.size, 0, none⟩) n n) (W.alloc (.cells (Array.replicate n (.int .i64 0)) 2)) := make_row 22 2 Try.underlying22 info2 n hn W
theorem make_int (n : Nat) (hn : n ≤ 4096) (W : World) : (Instr.makeSlice 26 (.int .i64 n) (.int .i64 n)).run Try.prog W = .ok (.slice (some ⟨W.heap.size, 0, none⟩) n n) (W.alloc (.cells (Array.replicate n (.int .i64 0)) 3)) := make_row 26 3 Try.underlying26 info3 n hn W
theorem fl_new (e : TypeId) (n : Nat) (W : World) : Fl e (W.alloc (.cells (Array.replicate n (.int .i64 0)) e)) W.heap.size (List.replicate n 0) := by
  have := Blk.new' W (Array.replicate n (.int .i64 0)) e
  unfold Fl
  simpa using this
def edC (x : Ed) : List Value := [.int .i64 x.to, .int .i64 x.room, .int .i64 x.cost]
theorem edC_len (x : Ed) : (edC x).length = 3 := rfl
def OutsAt (w : World) (bo : Nat) (outs : List (List Int)) (S : Nat → Prop) : Prop :=
  ∀ i, i < outs.length → ∃ A c, w.cell? ⟨bo, i, none⟩ = some (.slice A (outs.getD i []).length c) ∧ (outs.getD i []).length ≤ c ∧ c ≤ 9223372036854775807 ∧ IntsAt w A (outs.getD i []) ∧ ∀ k, OwnB A k → k < w.heap.size ∧ ¬ S k
structure GrAt (w : World) (B b gl cl : Nat) (E : Option Addr) (ce bo : Nat) (G : Gr) : Prop where
  blk : Blk w b 113 [.slice (some ⟨gl, 0, none⟩) G.left.length cl, .slice E G.es.length ce, .slice (some ⟨bo, 0, none⟩) G.outs.length G.outs.length]
  left : OwnI B w gl cl G.left
  es : OwnR edC 144 3 B w E ce G.es
  outs : OutsAt w bo G.outs (fun k => k = b ∨ k = gl ∨ OwnB E k)
  bo : bo < w.heap.size ∧ bo ≠ b ∧ bo ≠ gl ∧ ¬ OwnB E bo
  ne : b ≠ gl ∧ ¬ OwnB E b ∧ ¬ OwnB E gl
  base : B ≤ b ∧ B ≤ gl
theorem OutsAt.below {w w' : World} {bo : Nat} {outs : List (List Int)} {S : Nat → Prop} (h : OutsAt w bo outs S) (hbo : bo < w.heap.size) (hb : Below w.heap.size w w') : OutsAt w' bo outs S := by
  intro i hi
  obtain ⟨A, c, h1, h2, h3, h4, h5⟩ := h i hi
  exact ⟨A, c, (hb.cell (p := ⟨bo, i, none⟩) hbo).trans h1, h2, h3, h4.below hb (Nat.le_refl _), fun k hk => ⟨Nat.lt_of_lt_of_le (h5 k hk).1 hb.size, (h5 k hk).2⟩⟩
theorem OutsAt.touch {w w' : World} {bo : Nat} {outs : List (List Int)} {S T : Nat → Prop} (h : OutsAt w bo outs S) (hbo : bo < w.heap.size) (hT : ¬ T bo) (hs : ∀ k, T k → S k) (k : Touch T w w') : OutsAt w' bo outs S := by
  intro i hi
  obtain ⟨A, c, h1, h2, h3, h4, h5⟩ := h i hi
  refine ⟨A, c, (k.cell (p := ⟨bo, i, none⟩) hbo hT).trans h1, h2, h3, fun j hj => ?_, fun q hq => ⟨Nat.lt_of_lt_of_le (h5 q hq).1 k.size, (h5 q hq).2⟩⟩
  obtain ⟨ad, e, hlt, hc⟩ := h4 j hj
  refine ⟨ad, e, Nat.lt_of_lt_of_le hlt k.size, (k.cell (p := ad.add j) (by rw [block_add]; exact hlt) (fun ht => ?_)).trans hc⟩
  rw [block_add] at ht
  exact (h5 ad.block ⟨ad, e, rfl⟩).2 (hs _ ht)
section
variable {w w' : World} {B b gl cl ce bo : Nat} {E : Option Addr} {G : Gr}
theorem GrAt.below (h : GrAt w B b gl cl E ce bo G) (hb : Below w.heap.size w w') : GrAt w' B b gl cl E ce bo G :=
  { blk := h.blk.below hb h.blk.lt, left := h.left.below hb, es := h.es.below hb, outs := h.outs.below h.bo.1 hb, bo := ⟨Nat.lt_of_lt_of_le h.bo.1 hb.size, h.bo.2⟩, ne := h.ne, base := h.base }
theorem GrAt.edge (h : GrAt w B b gl cl E ce bo G) (k : Nat) (hk : k < G.es.length) : ∃ ge, E = some ⟨ge, 0, none⟩ ∧ ge < w.heap.size ∧ w.cell? ⟨ge, k * 3, none⟩ = some (.int .i64 (G.es.getD k default).to) ∧ w.cell? ⟨ge, k * 3 + 1, none⟩ = some (.int .i64 (G.es.getD k default).room) ∧ w.cell? ⟨ge, k * 3 + 2, none⟩ = some (.int .i64 (G.es.getD k default).cost) := by
  obtain ⟨ge, rfl, _, h2, _⟩ := h.es.form (by omega)
  exact ⟨ge, rfl, h2, h.es.cell edC_len k 0 _ (getElem_D G.es k default hk) (by omega), h.es.cell edC_len k 1 _ (getElem_D G.es k default hk) (by omega), h.es.cell edC_len k 2 _ (getElem_D G.es k default hk) (by omega)⟩
end
end Go.Proofs.Ytmebpglkeedaoaa
namespace Go.Proofs.Ytmebpglkeedaoaa
open Go.RowKit Dp
structure NrJ (w : World) (gf gb bh : Nat) (fa vi : List Int) (A : Option Addr) (c : Nat) (H : List Vs) (W : World) : Prop where
  bel : Below w.heap.size w W
  f : Fl 2 W gf fa
  v : Fl 3 W gb vi
  h : HpAt W w.heap.size bh A c H
  ge : w.heap.size ≤ gf ∧ w.heap.size ≤ gb ∧ w.heap.size ≤ bh
section
variable {w W W' : World} {gf gb bh c : Nat} {fa vi : List Int} {A : Option Addr} {H : List Vs}
theorem NrJ.below (h : NrJ w gf gb bh fa vi A c H W) (hb : Below W.heap.size W W') : NrJ w gf gb bh fa vi A c H W' :=
  { bel := h.bel.trans (hb.mono h.bel.size), f := h.f.below hb, v := h.v.below hb, h := h.h.below hb, ge := h.ge }
theorem NrJ.drew (h : NrJ w gf gb bh fa vi A c H W) : NrJ w gf gb bh fa vi A c H W.drew := h.below (Below.refl _ _).drew
theorem NrJ.nfb (h : NrJ w gf gb bh fa vi A c H W) : gf ≠ gb := fun e => by
  subst e
  exact (h.f.ne h.v (by decide)) rfl
theorem HpAt.set_ne {B b : Nat} (h : HpAt W B b A c H) {p : Addr} {e : TypeId} {cs : List Value} (hp : Blk W p.block e cs) (h1 : e ≠ 158) (h2 : (154 : Nat) ≠ e) (u : Value) : HpAt (W.setCell p u) B b A c H :=
  ⟨h.1.setCell_ne (blk_type_ne hp h.1 h1) u, h.2.1.set_ne (fun hb => own_ne h.2.1 hb hp h2) u, h.2.2⟩
theorem NrJ.putF (h : NrJ w gf gb bh fa vi A c H W) (k : Nat) (x : Int) : NrJ w gf gb bh (fa.set k x) vi A c H (W.setCell ⟨gf, k, none⟩ (.int .i64 x)) :=
  { bel := h.bel.setCell h.ge.1 _, f := h.f.put k x, v := h.v.set_ne (fun e => h.nfb e.symm) _, h := h.h.set_ne (p := ⟨gf, k, none⟩) h.f (by decide) (by decide) _, ge := h.ge }
theorem NrJ.putV (h : NrJ w gf gb bh fa vi A c H W) (k : Nat) (x : Int) : NrJ w gf gb bh fa (vi.set k x) A c H (W.setCell ⟨gb, k, none⟩ (.int .i64 x)) :=
  { bel := h.bel.setCell h.ge.2.1 _, f := h.f.set_ne h.nfb _, v := h.v.put k x, h := h.h.set_ne (p := ⟨gb, k, none⟩) h.v (by decide) (by decide) _, ge := h.ge }
theorem NrJ.queue (h : NrJ w gf gb bh fa vi A c H W) {A' : Option Addr} {c' : Nat} {H' : List Vs} (ht : Touch (fun k => k = bh ∨ OwnB A k) W W') (hh : HpAt W' w.heap.size bh A' c' H') : NrJ w gf gb bh fa vi A' c' H' W' :=
  { bel := Below.touch h.bel h.bel.size ht (fun k hk => by
      rcases hk with rfl | hk
      · exact h.ge.2.2
      · exact (ownLt h.h.2.1 hk).2)
    f := h.f.touch ht (fun hk => by
      rcases hk with e | hk
      · exact h.f.ne h.h.1 (by decide) e.symm
      · exact own_ne h.h.2.1 hk h.f (by decide))
    v := h.v.touch ht (fun hk => by
      rcases hk with e | hk
      · exact h.v.ne h.h.1 (by decide) e.symm
      · exact own_ne h.h.2.1 hk h.v (by decide))
    h := hh
    ge := h.ge }
end
theorem nrJ_start (w : World) (G : Gr) (n : Nat) : NrJ w w.heap.size (w.heap.size + 1) (w.heap.size + 1 + 1) (farI G n 0) (viaI n 0) none 0 [] (((w.alloc (.cells (Array.replicate n (.int .i64 0)) 2)).alloc (.cells (Array.replicate n (.int .i64 0)) 3)).alloc (.cells #[.slice none 0 0, .func (.func 101) #[] #[]] 158)) := by
  have f0 := fl_new 2 n w
  have v0 := fl_new 3 n (w.alloc (.cells (Array.replicate n (.int .i64 0)) 2))
  have h0 := Blk.new' ((w.alloc (.cells (Array.replicate n (.int .i64 0)) 2)).alloc (.cells (Array.replicate n (.int .i64 0)) 3)) #[.slice none 0 0, .func (.func 101) #[] #[]] 158
  rw [farI_zero G n] at f0
  rw [viaI_zero n] at v0
  have s1 : ∀ (W : World) (o : Obj), (W.alloc o).heap.size = W.heap.size + 1 := fun W o => by simp
  rw [s1] at v0 h0
  rw [s1] at h0
  have b0 := (Below.refl w.heap.size w).alloc (Nat.le_refl _) (.cells (Array.replicate n (.int .i64 0)) 2)
  have b1 := b0.alloc b0.size (.cells (Array.replicate n (.int .i64 0)) 3)
  have b2 := b1.alloc b1.size (.cells #[.slice none 0 0, .func (.func 101) #[] #[]] 158)
  exact { bel := b2, f := (Blk.alloc f0 _).alloc _, v := Blk.alloc v0 _, h := ⟨h0, World.ownsRow_nil _ _ _ _, fun ⟨a, e, _⟩ => by cases e⟩, ge := ⟨Nat.le_refl _, by omega, by omega⟩ }
set_option maxHeartbeats 2000000 in
set_option maxRecDepth 100000 in
theorem nearest_c (b gl cl ce bo B cp n : Nat) (E P : Option Addr) (G : Gr) (p : List Int) (w : World) (hG : G.Ok n) (hp : G.Pot n p) (hg : GrAt w B b gl cl E ce bo G) (hP : IntsAt w P p) (hcp : n ≤ cp ∧ cp ≤ 9223372036854775807) :
    Calls Try.prog 71 #[.pointer (some ⟨b, 0, none⟩), .slice P n cp] w fun e w' => ∃ (gf gb : Nat) (fa vi : List Int) (en : Int), e = .returned (.tuple #[.slice (some ⟨gf, 0, none⟩) n n, .slice (some ⟨gb, 0, none⟩) n n, .int .i64 en]) ∧
      Below w.heap.size w w' ∧ Fl 2 w' gf fa ∧ Fl 3 w' gb vi ∧ w.heap.size ≤ gf ∧ w.heap.size ≤ gb ∧ NR G n p fa vi en := by
  have HG := Lib.hid hG
  have HP := Lib.hid hp
  have HA := Lib.hid hg
  have HPA := Lib.hid hP
  have n1 : 1 ≤ n := hG.n1.1
  have n2 : n ≤ 1024 := hG.n1.2
  have LO := Lib.hid hG.lo
  have LL := Lib.hid hG.ll
  have o2 := hg.blk.cell 2 rfl
  rw [hG.lo] at o2
  have bl := hg.blk.lt
  clear hG hp hg hP
  have J0 := Lib.hid (nrJ_start w G n)
  have hm1 := make_64 n (by omega)
  have hm2 := make_int n (by omega)
  go_enter Try.func71, Try.ntmps71
  go_wp2_with fail
  generalize ((w.alloc (.cells (Array.replicate n (.int .i64 0)) 2)).alloc (.cells (Array.replicate n (.int .i64 0)) 3)).alloc (.cells #[.slice none 0 0, .func (.func 101) #[] #[]] 158) = w1 at J0 ⊢
  generalize hgb : w.heap.size + 1 = gb at *
  generalize hbh : gb + 1 = bh at *
  generalize hgf : w.heap.size = gf at J0 ⊢
  have WG := Lib.hid hgf
  clear hgb hbh hgf
  have GC : Hid (∀ W, Below w.heap.size w W → GrAt W B b gl cl E ce bo G) := Lib.hid (fun W h => HA.out.below h)
  have o0 := Lib.hid (HA.out.blk.cell 0 rfl)
  rw [LL.out] at o0
  go_loopw [33] (fun i wr => ∃ k : Nat, i = .int .i64 k ∧ k ≤ n ∧ Hid (∃ A c H, NrJ w gf gb bh (farI G n k) (viaI n k) A c H wr ∧ StI G k H)) (fun i _ => n - (intOf i).toNat)
  case atStart => exact ⟨0, rfl, Nat.zero_le _, Lib.hid ⟨_, _, _, J0.out, StI.start G⟩⟩
  case round =>
    obtain ⟨k, rfl, hk, HJ⟩ := hrel
    obtain ⟨A, c, H, j, st⟩ := HJ.out
    have JR := Lib.hid j
    have ST := Lib.hid st
    clear HJ j st
    by_cases hlt : k < n
    · have hkn : (k : Int) < (n : Int) := by omega
      have J1 := Lib.hid ((JR.out.putF k 1152921504606846976).putV k (-1))
      have f0 := JR.out.f.cell k (by rw [farI_len]; exact hlt)
      have v0 := JR.out.v.cell k (by rw [viaI_len]; exact hlt)
      have zf := JR.out.f.free k
      have zv := JR.out.v.free k
      have gw := JR.out.nfb
      go_upto_region 8 with fail
      generalize (wr.setCell ⟨gf, k, none⟩ (.int .i64 1152921504606846976)).setCell ⟨gb, k, none⟩ (.int .i64 (-1)) = w2 at J1 ⊢
      clear f0 v0 zf zv gw
      have c0 := (GC.out _ J1.out.bel).blk.cell 0 rfl
      rw [LL.out] at c0
      have l0 := (GC.out _ J1.out.bel).left.cell k (by rw [LL.out]; exact hlt)
      generalize hx : G.left.getD k 0 = x at *
      have HX : Hid (G.lf k = x) := Lib.hid hx
      clear hx
      by_cases hl : 0 < x
      · have J2 := Lib.hid (J1.out.putF k 0)
        have f0 := J1.out.f.cell k (by rw [List.length_set, farI_len]; exact hlt)
        have zf := J1.out.f.free k
        go_upto_region 10 with fail
        generalize w2.setCell ⟨gf, k, none⟩ (.int .i64 0) = w3 at J2 ⊢
        clear f0 zf c0 l0
        go_wp2_with fail
        refine (put_c bh A H.length c H k 0 w.heap.size w3 rfl (by have := ST.out.2.2.2.2; omega) J2.out.bel.size J2.out.h ST.out.2.2.2.1).mono ?_
        rintro e w4 ⟨rfl, A', c', H', hh, hpm, hhp, ht, _⟩
        have J4 := Lib.hid (J2.out.queue ht hh)
        have S4 := Lib.hid (ST.out.yes (by rw [HX.out]; exact hl) hpm hhp)
        clear hh hpm hhp ht
        rw [List.set_set, show (0 : Int) = if 0 < G.lf k then 0 else never from by rw [HX.out, if_pos hl], farI_succ G n k hlt, viaI_succ n k hlt] at J4
        go_wp2_with fail
        go_roundw
        case rel => exact ⟨k + 1, by go_num, by omega, Lib.hid ⟨A', c', H', J4.out, S4.out⟩⟩
        case measure => simp [intOf]; omega
      · have S4 := Lib.hid (ST.out.no (by rw [HX.out]; exact hl))
        rw [show (1152921504606846976 : Int) = if 0 < G.lf k then 0 else never from by rw [HX.out, if_neg hl]; rfl, farI_succ G n k hlt, viaI_succ n k hlt] at J1
        go_wp2_with fail
        go_roundw
        case rel => exact ⟨k + 1, by go_num, by omega, Lib.hid ⟨A, c, H, J1.out, S4.out⟩⟩
        case measure => simp [intOf]; omega
    · obtain rfl : n = k := by omega
      have N0 := Lib.hid (ST.out.ni (p := p))
      have H0 := Lib.hid ST.out.2.2.2
      clear ST
      go_wp2_with fail
      go_loopg [11] (mu (farI G n n) H) (fun m ev wr => ∃ en : Int, ev = .int .i64 en ∧ Hid (∃ fa vi A c H S ds, NrJ w gf gb bh fa vi A c H wr ∧ NI G n p fa vi H S en ds (fun _ => False) ∧ Heap H ∧ H.length ≤ n + S.length * 4096 ∧ mu fa H = m))
      case atStart => exact ⟨-1, rfl, Lib.hid ⟨_, _, _, _, _, [], 0, JR.out, N0.out, H0.out.1, by have := H0.out.2; simp; omega, rfl⟩⟩
      case round =>
        clear JR N0 H0 J0
        obtain ⟨en, rfl, HJ⟩ := hrel
        obtain ⟨fa, vi, A, c, H, S, ds, j, ni, hp, hb, hm⟩ := HJ.out
        have JR := Lib.hid j
        have NR0 := Lib.hid ni
        have HH := Lib.hid hp
        have HB := Lib.hid hb
        have HM := Lib.hid hm
        clear HJ j ni hp hb hm
        have c0 := JR.out.h.1.cell 0 rfl
        generalize hlen : H.length = hn at c0
        have HL := Lib.hid hlen
        clear hlen
        by_cases h0 : hn = 0
        · subst h0
          have he : H = [] := List.eq_nil_of_length_eq_zero HL.out
          have ND := NR0.out
          rw [he] at ND
          have ND := Lib.hid (ND.done HG.out HP.out)
          clear he
          go_wp2_with fail
          exact bodyPost_ret (v := .tuple #[.slice (some ⟨gf, 0, none⟩) n n, .slice (some ⟨gb, 0, none⟩) n n, .int .i64 en]) (by simp [results, Try.results71, go_sem]) rfl ⟨gf, gb, fa, vi, en, rfl, JR.out.bel, JR.out.f, JR.out.v, JR.out.ge.1, JR.out.ge.2.1, ND.out⟩
        · obtain ⟨g, rfl, _⟩ := JR.out.h.2.1.form (by rw [HL.out]; omega)
          have hn0 : 0 < hn := by omega
          have hni : (0 : Int) < (hn : Int) := by omega
          have hn8 : hn ≤ 8388608 := by have := HB.out; have := NR0.out.slen; rw [← HL.out]; omega
          have hmem : H.getD 0 (0, 0) ∈ H := by
            rw [List.getD_eq_getElem?_getD, List.getElem?_eq_getElem (by rw [HL.out]; exact hn0)]
            exact List.getElem_mem _
          have HE := Lib.hid (NR0.out.ent _ hmem)
          have HMN := Lib.hid (fun x (hx : x ∈ H) => heap_minE HH.out x hx)
          have TK := Lib.hid (take_c bh g hn c H w.heap.size wr HL.out.symm hn0 hn8 JR.out.h HH.out)
          have HK0 : Hid (keyAt H 0 = (H.getD 0 (0, 0)).2) := Lib.hid rfl
          clear hmem
          generalize H.getD 0 (0, 0) = e0 at *
          obtain ⟨e0, d⟩ := e0
          obtain ⟨u, rfl⟩ : ∃ u : Nat, e0 = (u : Int) := ⟨e0.toNat, by have := HE.out.1.1; simp only at this; omega⟩
          have hun : u < n := by have := HE.out.1.2; simp only at this; omega
          have hd : d < 1152921504606846976 := HE.out.2.2.1
          have hd0 : 0 ≤ d := by have h1 := HE.out.2.1; have h2 := NR0.out.top u hun; simp only [Int.toNat_natCast] at h1; omega
          go_wp2_with fail
          refine TK.out.mono ?_
          rintro e w2 ⟨rfl, H2, hh, hpm, hhp, ht⟩
          have J2 := Lib.hid (JR.out.queue (ht.mono (fun k hk => hk.imp id (fun h => ownB_some.2 h))) hh)
          have N2 := Lib.hid (NR0.out.perm hpm)
          have MN := Lib.hid (fun x (hx : x ∈ H2) => HMN.out x (hpm.mem_iff.1 (List.mem_cons_of_mem _ hx)))
          rw [HK0.out] at MN
          have HH2 := Lib.hid hhp
          have HM2 := Lib.hid (mu_pop (fa := fa) hpm)
          have HB2 : Hid (H2.length + 1 ≤ n + S.length * 4096) := Lib.hid (by have := hpm.length_eq; have := HB.out; simp only [List.length_cons] at *; omega)
          clear hh hpm hhp ht TK HMN HK0 HE c0
          go_upto_region 15 with fail
          have J3 := Lib.hid (J2.out.below ((Below.refl _ _).alloc (Nat.le_refl _) (.cells #[.int .i64 u, .int .i64 d] 154)))
          have X3 := Lib.hid (Blk.new' w2 #[.int .i64 u, .int .i64 d] 154)
          generalize w2.alloc (.cells #[.int .i64 u, .int .i64 d] 154) = w3 at J3 X3 ⊢
          have hgga : g ≠ w2.heap.size := by have := J2.out.h.2.1.lt.2; omega
          generalize w2.heap.size = ga at *
          clear J2
          have FC : Hid (∀ W, NrJ w gf gb bh fa vi (some ⟨g, 0, none⟩) c H2 W → W.cell? ⟨gf, u, none⟩ = some (.int .i64 (fa.getD u 0))) := Lib.hid (fun W h => h.f.cell u (by rw [NR0.out.l1]; exact hun))
          have NS := Lib.hid (fun h => N2.out.stale (e := ((u : Int), d)) h)
          have NF := Lib.hid (fun h => N2.out.fresh (u := u) (d := d) MN.out h)
          simp only [Int.toNat_natCast] at NS
          generalize hfu : fa.getD u 0 = fu at *
          have HFU := Lib.hid hfu
          clear hfu
          have a0 := X3.out.cell 0 rfl
          have a1 := X3.out.cell 1 rfl
          have gal := X3.out.lt
          have gfl := J3.out.f.lt
          have f0 := FC.out _ J3.out
          refine wp_region_past (by kernel_rfl) (by kernel_rfl) ?_
          repeat (go_big_quiet_step (fail))
          refine wpQuiet_nil ?_
          intro xx
          have J4 := Lib.hid (J3.out.below xx.far)
          have X4 := Lib.hid (X3.out.below xx.far gal)
          generalize xx.w = w4 at J4 X4 ⊢
          clear a0 a1 gal gfl f0 J3 X3
          by_cases hs : fu < d
          · have d1 : decide (fu < d) = true := decide_eq_true hs
            have NS := Lib.hid (NS.out hs)
            simp only [d1]
            go_wp2_with fail
            go_roundg (mu fa H2)
            case measure => rw [← HM.out, ← HM2.out]; omega
            case rel => exact ⟨en, rfl, Lib.hid ⟨fa, vi, _, c, H2, S, ds, J4.out, NS.out, HH2.out, by have := HB2.out; omega, rfl⟩⟩
          · have d1 : decide (fu < d) = false := decide_eq_false hs
            have NF := Lib.hid (NF.out hs)
            simp only [d1]
            clear NS d1
            go_upto_region 16 with fail
            have LC : Hid (∀ W, NrJ w gf gb bh fa vi (some ⟨g, 0, none⟩) c H2 W → W.cell? ⟨gl, u, none⟩ = some (.int .i64 (G.left.getD u 0)) ∧ W.cell? ⟨b, 0, none⟩ = some (.slice (some ⟨gl, 0, none⟩) n cl) ∧ gl < W.heap.size ∧ b < W.heap.size) := Lib.hid (fun W h => by
              have hA := GC.out _ h.bel
              have c0 := hA.blk.cell 0 rfl
              rw [LL.out] at c0
              exact ⟨hA.left.cell u (by rw [LL.out]; exact hun), c0, hA.left.lt.2, hA.blk.lt⟩)
            have HX : Hid (G.lf u = G.left.getD u 0) := Lib.hid rfl
            generalize G.left.getD u 0 = x at *
            rw [HX.out] at NF
            go_cut [86] from 58 to 154 (fun s86 wc => s86 = .bool (decide (x < 0 ∧ en < 0)) ∧ Hid (NrJ w gf gb bh fa vi (some ⟨g, 0, none⟩) c H2 wc ∧ Blk wc ga 154 [.int .i64 u, .int .i64 d]))
            case first =>
              obtain ⟨l0, c0, gll, bll⟩ := LC.out _ J4.out
              have a0 := X4.out.cell 0 rfl
              have gal := X4.out.lt
              by_cases h1 : x < 0
              · have d1 : decide (x < 0) = true := decide_eq_true h1
                by_cases h2 : en < 0
                · have d2 : decide (en < 0) = true := decide_eq_true h2
                  have d3 : decide (x < 0 ∧ en < 0) = true := decide_eq_true ⟨h1, h2⟩
                  refine wp_region_past (by kernel_rfl) (by kernel_rfl) ?_
                  repeat (go_big_quiet_step (fail))
                  refine wpQuiet_nil ?_
                  intro xx
                  have J5 := Lib.hid (J4.out.below xx.far)
                  have X5 := Lib.hid (X4.out.below xx.far gal)
                  generalize xx.w = w5 at J5 X5 ⊢
                  go_wp2_with fail
                  go_meet
                  case rel => exact ⟨by simp [d3], Lib.hid ⟨J5.out, X5.out⟩⟩
                · have d2 : decide (en < 0) = false := decide_eq_false h2
                  have d3 : decide (x < 0 ∧ en < 0) = false := decide_eq_false (fun h => h2 h.2)
                  refine wp_region_past (by kernel_rfl) (by kernel_rfl) ?_
                  repeat (go_big_quiet_step (fail))
                  refine wpQuiet_nil ?_
                  intro xx
                  have J5 := Lib.hid (J4.out.below xx.far)
                  have X5 := Lib.hid (X4.out.below xx.far gal)
                  generalize xx.w = w5 at J5 X5 ⊢
                  go_wp2_with fail
                  go_meet
                  case rel => exact ⟨by simp [d3], Lib.hid ⟨J5.out, X5.out⟩⟩
              · have d1 : decide (x < 0) = false := decide_eq_false h1
                have d3 : decide (x < 0 ∧ en < 0) = false := decide_eq_false (fun h => h1 h.1)
                refine wp_region_past (by kernel_rfl) (by kernel_rfl) ?_
                repeat (go_big_quiet_step (fail))
                refine wpQuiet_nil ?_
                intro xx
                have J5 := Lib.hid (J4.out.below xx.far)
                have X5 := Lib.hid (X4.out.below xx.far gal)
                generalize xx.w = w5 at J5 X5 ⊢
                go_wp2_with fail
                go_meet
                case rel => exact ⟨by simp [d3], Lib.hid ⟨J5.out, X5.out⟩⟩
            case rest =>
              clear J4 X4 LC
              obtain ⟨rfl, HC⟩ := hcut
              go_upto_if 86 with fail
              go_cut [11] from 58 to 154 (fun s11 wc => s11 = .int .i64 (if x < 0 ∧ en < 0 then (u : Int) else en) ∧ Hid (NrJ w gf gb bh fa vi (some ⟨g, 0, none⟩) c H2 wc ∧ Blk wc ga 154 [.int .i64 u, .int .i64 d]))
              case first =>
                have a0 := HC.out.2.cell 0 rfl
                by_cases h3 : x < 0 ∧ en < 0
                · have d3 : decide (x < 0 ∧ en < 0) = true := decide_eq_true h3
                  simp only [d3]
                  go_wp2_with fail
                  go_meet
                  case rel => exact ⟨by rw [if_pos h3], HC⟩
                · have d3 : decide (x < 0 ∧ en < 0) = false := decide_eq_false h3
                  simp only [d3]
                  go_wp2_with fail
                  go_meet
                  case rel => exact ⟨by rw [if_neg h3], HC⟩
              case rest =>
                clear HC
                obtain ⟨rfl, HC⟩ := hcut
                generalize (if x < 0 ∧ en < 0 then (u : Int) else en) = en2 at *
                have J5 := Lib.hid HC.out.1
                have X5 := Lib.hid HC.out.2
                clear HC
                have HU := Lib.hid (HFU.out.trans NF.out.1)
                have N5 := Lib.hid NF.out.2.2.2.2
                have ED : Hid (∀ j, j < (G.outs.getD u []).length → ∃ k : Nat, (G.outs.getD u []).getD j 0 = (k : Int) ∧ k < G.es.length ∧ G.frA k = u) := Lib.hid (fun j hj => edge_at HG.out hun hj)
                have N6 : Hid (NI G n p fa vi H2 (u :: S) en2 d (exJ (G.outs.getD u []) 0)) := Lib.hid (N5.out.excuse (fun k hk _ h => by
                  subst h
                  have := HG.out.o2 k hk
                  simpa [exJ] using this))
                have O3 := Lib.hid (HG.out.o3 u hun)
                have OX := Lib.hid (fun (j k : Nat) => exJ_step (l := G.outs.getD u []) (j := j) (k := k))
                have OE := Lib.hid (fun (k : Nat) => exJ_end (l := G.outs.getD u []) (k := k))
                have OC := Lib.hid (HA.out.outs u (by rw [LO.out]; exact hun))
                clear N5 NF
                generalize G.outs.getD u [] = ol at *
                have CC : Hid (∀ W, Below w.heap.size w W → W.cell? ⟨b, 2, none⟩ = some (.slice (some ⟨bo, 0, none⟩) n n) ∧ bo < W.heap.size ∧ b < W.heap.size) := Lib.hid (fun W h => by
                  have hA := GC.out _ h
                  have c2 := hA.blk.cell 2 rfl
                  rw [LO.out] at c2
                  exact ⟨c2, hA.bo.1, hA.blk.lt⟩)
                obtain ⟨Ao, co, oc0, oco, ocm, oia, _⟩ := OC.out
                have OI := Lib.hid oia
                have oc := (J5.out.bel.cell (p := ⟨bo, u, none⟩) HA.out.bo.1).trans oc0
                clear oc0
                obtain ⟨c2, bol, bll⟩ := CC.out _ J5.out.bel
                have a0 := X5.out.cell 0 rfl
                have gal := X5.out.lt
                clear oia
                generalize hol : ol.length = no at *
                have HOL := Lib.hid hol
                clear hol
                go_upto_region 18 with fail
                refine wp_region_past (by kernel_rfl) (by kernel_rfl) ?_
                repeat (go_big_quiet_step (fail))
                refine wpQuiet_nil ?_
                intro xx
                have J6 := Lib.hid (J5.out.below xx.far)
                have X6 := Lib.hid (X5.out.below xx.far gal)
                generalize xx.w = w6 at J6 X6 ⊢
                clear a0 gal c2 bol bll oc J5 X5
                go_wp2_with fail
                go_loopg [98] no (fun m jv wr => ∃ j : Nat, jv = .int .i64 j ∧ j + m = no ∧ Hid (∃ fa1 vi1 A1 c1 H1, NrJ w gf gb bh fa1 vi1 A1 c1 H1 wr ∧ Blk wr ga 154 [.int .i64 u, .int .i64 d] ∧ ¬ OwnB A1 ga ∧ NI G n p fa1 vi1 H1 (u :: S) en2 d (exJ ol j) ∧ Heap H1 ∧ H1.length + 1 ≤ n + S.length * 4096 + j ∧ mu fa1 H1 ≤ mu fa H2 ∧ fa1.getD u 0 = d))
                case atStart => exact ⟨0, rfl, by omega, Lib.hid ⟨fa, vi, _, c, H2, J6.out, X6.out, fun h => hgga (ownB_some.1 h).symm, N6.out, HH2.out, by have := HB2.out; omega, Nat.le_refl _, HU.out⟩⟩
                case round =>
                  obtain ⟨j, rfl, hjm, HJ⟩ := hrel
                  obtain ⟨fa1, vi1, A1, c1, H1, q1, q2, q8, q3, q4, q5, q6, q7⟩ := HJ.out
                  have JR := Lib.hid q1
                  have XR := Lib.hid q2
                  have NR1 := Lib.hid q3
                  have HH1 := Lib.hid q4
                  have HB1 := Lib.hid q5
                  have HM1 := Lib.hid q6
                  have HU1 := Lib.hid q7
                  have GAN := Lib.hid q8
                  clear HJ q1 q2 q3 q4 q5 q6 q7 q8 J6 X6 N6
                  by_cases hj : j < no
                  · have hji : (j : Int) < (no : Int) := by omega
                    obtain ⟨k, hk, hke, hfr⟩ := ED.out j hj
                    obtain ⟨ad, rfl, adl, ad0⟩ := (OI.out.below JR.out.bel (Nat.le_refl _)) j (by rw [HOL.out]; exact hj)
                    rw [hk] at ad0
                    have EX := Lib.hid (OX.out j k hj hk)
                    have HFR := Lib.hid hfr
                    clear hk hfr
                    obtain ⟨ge, rfl, gel, e0, e1, e2⟩ := (GC.out _ JR.out.bel).edge k hke
                    have hto := HG.out.to k hke
                    have hcb := HG.out.cb k hke
                    have hrm := HG.out.rm k hke
                    have HTO : Hid (G.toA k = (G.es.getD k default).to.toNat) := Lib.hid rfl
                    have HRM : Hid (G.room k = (G.es.getD k default).room) := Lib.hid rfl
                    have HCO : Hid (G.cost k = (G.es.getD k default).cost) := Lib.hid rfl
                    rw [HCO.out] at hcb
                    rw [HRM.out] at hrm
                    have ec1 := (GC.out _ JR.out.bel).blk.cell 1 rfl
                    have hkl : k < G.es.length := hke
                    generalize hml : G.es.length = ml at ec1 hkl
                    have HML := Lib.hid hml
                    clear hml hke
                    have hki : (k : Int) < (ml : Int) := by omega
                    generalize G.es.getD k default = ed at *
                    obtain ⟨t0, ro, co'⟩ := ed
                    simp only at e0 e1 e2 hto hcb hrm HTO HRM HCO
                    obtain ⟨v, rfl⟩ : ∃ v : Nat, t0 = (v : Int) := ⟨t0.toNat, by omega⟩
                    simp only [Int.toNat_natCast] at HTO
                    have hvn : v < n := by omega
                    have HRC : Hid (∀ q : List Int, G.rc q k = co' + q.getD u 0 - q.getD v 0) := Lib.hid (fun q => by unfold Gr.rc; rw [HCO.out, HFR.out, HTO.out])
                    have hpu := HP.out.bd u hun
                    have hpv := HP.out.bd v hvn
                    have PAT : Hid (∀ W, Below w.heap.size w W → ∃ ap, P = some ap ∧ W.cell? (ap.add u) = some (.int .i64 (p.getD u 0)) ∧ W.cell? (ap.add v) = some (.int .i64 (p.getD v 0)) ∧ (ap.add u).block < W.heap.size ∧ (ap.add v).block < W.heap.size) := Lib.hid (fun W h => by
                      have hI := HPA.out.below h (Nat.le_refl _)
                      obtain ⟨a1, e1, b1, c1⟩ := hI u (by rw [HP.out.len]; exact hun)
                      obtain ⟨a2, e2, b2, c2⟩ := hI v (by rw [HP.out.len]; exact hvn)
                      cases e1
                      cases e2
                      exact ⟨_, rfl, c1, c2, by rw [block_add]; exact b1, by rw [block_add]; exact b2⟩)
                    have HR0 := HRC.out p
                    generalize p.getD u 0 = pu at *
                    generalize p.getD v 0 = pv at *
                    have HRC := Lib.hid HR0
                    clear HR0
                    have FV : Hid (∀ W, NrJ w gf gb bh fa1 vi1 A1 c1 H1 W → W.cell? ⟨gf, v, none⟩ = some (.int .i64 (fa1.getD v 0)) ∧ gf < W.heap.size) := Lib.hid (fun W h => ⟨h.f.cell v (by rw [NR1.out.l1]; exact hvn), h.f.lt⟩)
                    have SKIP := Lib.hid (fun h => NR1.out.skip (ex' := exJ ol (j + 1)) (u := u) (k := k) (fun i _ hi => EX.out i hi) HFR.out h)
                    have RLX := Lib.hid (fun dd h1 h2 h3 => NR1.out.relax (ex' := exJ ol (j + 1)) (u := u) (k := k) (d := dd) HG.out HP.out (fun i _ hi => EX.out i hi) (by rw [HML.out]; exact hkl) HFR.out (by simp) HU1.out h1 h2 h3)
                    have MUR := Lib.hid (fun (dd : Int) (H' : List Vs) (e : Vs) (h1 : 0 ≤ dd) (h2 : dd < fa1.getD v 0) (h3 : H'.Perm (e :: H1)) => mu_relax (v := v) (by rw [NR1.out.l1]; exact hvn) (fun i hi => (NR1.out.top i (by rw [← NR1.out.l1]; exact hi)).1) h1 h2 h3)
                    have FU : Hid (∀ dd, (fa1.set v dd).getD u 0 = d) := Lib.hid (fun dd => by
                      rw [getD_setI _ _ _ _ (by rw [NR1.out.l1]; exact hvn), if_neg, HU1.out]
                      intro e
                      have := HG.out.ne k (by rw [HML.out]; exact hkl)
                      rw [HFR.out, HTO.out] at this
                      exact this e.symm)
                    rw [HTO.out, HRC.out, HRM.out, HU1.out] at SKIP
                    rw [HTO.out, HRC.out, HRM.out, HU1.out] at RLX
                    generalize hfv : fa1.getD v 0 = fv at *
                    clear hfv
                    go_upto_region 22 with fail
                    have J7 := Lib.hid (JR.out.below ((Below.refl _ _).alloc (Nat.le_refl _) (.cells #[.int .i64 v, .int .i64 ro, .int .i64 co'] 144)))
                    have X7 := Lib.hid (XR.out.alloc (.cells #[.int .i64 v, .int .i64 ro, .int .i64 co'] 144))
                    have Y7 := Lib.hid (Blk.new' wr #[.int .i64 v, .int .i64 ro, .int .i64 co'] 144)
                    generalize wr.alloc (.cells #[.int .i64 v, .int .i64 ro, .int .i64 co'] 144) = w7 at J7 X7 Y7 ⊢
                    generalize wr.heap.size = gx at *
                    clear e0 e1 e2 ec1 ad0
                    have a0 := X7.out.cell 0 rfl
                    have a1 := X7.out.cell 1 rfl
                    have x0 := Y7.out.cell 0 rfl
                    have x2 := Y7.out.cell 2 rfl
                    have gal := X7.out.lt
                    have gxl := Y7.out.lt
                    obtain ⟨ap, rfl, p0, p1, p2, p3⟩ := PAT.out _ J7.out.bel
                    have s1 : IntKind.i64.wrap (d + co') = d + co' := IntWalk.i64_in _ (by omega)
                    have s2 : IntKind.i64.wrap (d + co' + pu) = d + co' + pu := IntWalk.i64_in _ (by omega)
                    have s3 : IntKind.i64.wrap (d + co' + pu - pv) = d + co' + pu - pv := IntWalk.i64_in _ (by omega)
                    refine wp_region_past (by kernel_rfl) (by kernel_rfl) ?_
                    repeat (go_big_quiet_step (fail))
                    refine wpQuiet_nil ?_
                    intro xx
                    have J8 := Lib.hid (J7.out.below xx.far)
                    have X8 := Lib.hid (X7.out.below xx.far gal)
                    have Y8 := Lib.hid (Y7.out.below xx.far gxl)
                    generalize xx.w = w8 at J8 X8 Y8 ⊢
                    clear s1 s2 s3 a0 a1 x0 x2 gal gxl p0 p1 p2 p3 J7 X7 Y7
                    generalize hdd : d + co' + pu - pv = dd at *
                    have HDD := Lib.hid hdd
                    clear hdd
                    have x0 := Y8.out.cell 0 rfl
                    have x1 := Y8.out.cell 1 rfl
                    obtain ⟨f0, gfl⟩ := FV.out _ J8.out
                    by_cases hr : 0 < ro
                    · have d1 : decide (0 < ro) = true := decide_eq_true hr
                      by_cases hlt : dd < fv
                      · have d2 : decide (dd < fv) = true := decide_eq_true hlt
                        have RX := Lib.hid (RLX.out dd (by have := HDD.out; omega) hlt hr)
                        have v0 := J8.out.v.cell v (by rw [NR1.out.l2]; exact hvn)
                        go_upto_region 24 with fail
                        clear x0 x1 f0 gfl v0
                        have gln : Hid (fa1.length = n ∧ vi1.length = n) := Lib.hid ⟨NR1.out.l1, NR1.out.l2⟩
                        refine wp_region_spine 9 [true] [] ?af24 (fun V => (∃ fa2, NrJ w gf gb bh fa2 vi1 A1 c1 H1 V ∧ fa2.length = n ∧ fa2.set v dd = fa1.set v dd) ∧ Blk V ga 154 [.int .i64 u, .int .i64 d] ∧ Blk V gx 144 [.int .i64 v, .int .i64 ro, .int .i64 co']) (by kernel_rfl) (by kernel_rfl) ⟨⟨fa1, J8.out.drew, gln.out.1, rfl⟩, X8.out.drew, Y8.out.drew⟩ ?walk24 ?spine24
                        case walk24 =>
                          rintro V ⟨_, _, hV⟩
                          have x0 := hV.cell 0 rfl
                          clear hV
                          simp only [List.take_succ_cons, List.take_zero]
                          repeat (go_big_quiet_step (fail))
                          refine wpQuiet_nil ?_
                          rfl
                        case spine24 =>
                          rintro V ⟨⟨fa2, h1, h2, h3⟩, h4, h5⟩
                          have JV := Lib.hid h1
                          have L2 := Lib.hid h2
                          have SE := Lib.hid h3
                          have XV := Lib.hid h4
                          have YV := Lib.hid h5
                          have f0 := h1.f.cell v (by rw [h2]; exact hvn)
                          have zf := h1.f.free v
                          have J9 := Lib.hid (h1.putF v dd)
                          have X9 := Lib.hid (h4.setCell_ne (p := ⟨gf, v, none⟩) (h1.f.ne h4 (by decide)) (.int .i64 dd))
                          have Y9 := Lib.hid (h5.setCell_ne (p := ⟨gf, v, none⟩) (h1.f.ne h5 (by decide)) (.int .i64 dd))
                          clear h1 h2 h3 h4 h5
                          refine spineV_cons ?_
                          unfold StepV
                          go_simp
                          generalize V.setCell ⟨gf, v, none⟩ (.int .i64 dd) = V1 at J9 X9 Y9 ⊢
                          rw [SE.out] at J9
                          clear f0 zf
                          refine ⟨⟨⟨_, J9.out, by rw [List.length_set]; exact gln.out.1, List.set_set ..⟩, X9.out, Y9.out⟩, ?_⟩
                          refine spineV_nil ?_
                          have v0 := J9.out.v.cell v (by rw [gln.out.2]; exact hvn)
                          have zv := J9.out.v.free v
                          have x0 := Y9.out.cell 0 rfl
                          go_upto_region 25 with fail
                          have J10 := Lib.hid (J9.out.putV v k)
                          have X10 := Lib.hid (X9.out.setCell_ne (p := ⟨gb, v, none⟩) (J9.out.v.ne X9.out (by decide)) (.int .i64 k))
                          have Y10 := Lib.hid (Y9.out.setCell_ne (p := ⟨gb, v, none⟩) (J9.out.v.ne Y9.out (by decide)) (.int .i64 k))
                          generalize V1.setCell ⟨gb, v, none⟩ (.int .i64 k) = V2 at J10 X10 Y10 ⊢
                          clear v0 zv x0 J9 X9 Y9 XV YV JV
                          have x0 := Y10.out.cell 0 rfl
                          go_wp2_with fail
                          refine (put_c bh A1 H1.length c1 H1 v dd w.heap.size V2 rfl (by have := HB1.out; have := NR1.out.slen; have := O3.out; simp only [List.length_cons] at *; omega) J10.out.bel.size J10.out.h HH1.out).mono ?_
                          rintro e V3 ⟨rfl, A', c', H', hh, hpm, hhp, ht, hk⟩
                          have J11 := Lib.hid (J10.out.queue ht hh)
                          have X11 := Lib.hid (X10.out.touch ht (fun hs => by
                            rcases hs with hs | hs
                            · exact blk_type_ne X10.out J10.out.h.1 (by decide) hs.symm
                            · exact GAN.out hs))
                          have N11 := Lib.hid (RX.out.2.2.perm hpm)
                          have M11 := Lib.hid (MUR.out dd H' _ RX.out.2.1 hlt hpm)
                          have HH11 := Lib.hid hhp
                          have HL11 := Lib.hid hpm.length_eq
                          have GA11 : Hid (¬ OwnB A' ga) := Lib.hid (fun hs => by
                            rcases hk ga hs with h1 | h1
                            · exact GAN.out h1
                            · have := X10.out.lt; omega)
                          clear hh hpm hhp ht hk x0
                          go_wp2_with fail
                          go_roundg (gk - 1)
                          case measure => omega
                          case rel => exact ⟨j + 1, by go_num, by omega, Lib.hid ⟨_, _, A', c', H', J11.out, X11.out, GA11.out, N11.out, HH11.out, by have := HB1.out; have := HL11.out; simp only [List.length_cons] at this; omega, Nat.le_trans M11.out HM1.out, FU.out dd⟩⟩
                      · have d2 : decide (dd < fv) = false := decide_eq_false hlt
                        have SK := Lib.hid (SKIP.out (by have := HDD.out; omega))
                        go_wp2_with fail
                        go_roundg (gk - 1)
                        case measure => omega
                        case rel => exact ⟨j + 1, by go_num, by omega, Lib.hid ⟨fa1, vi1, A1, c1, H1, J8.out, X8.out, GAN.out, SK.out, HH1.out, by have := HB1.out; omega, HM1.out, HU1.out⟩⟩
                    · have d1 : decide (0 < ro) = false := decide_eq_false hr
                      have SK := Lib.hid (SKIP.out (by omega))
                      go_wp2_with fail
                      go_roundg (gk - 1)
                      case measure => omega
                      case rel => exact ⟨j + 1, by go_num, by omega, Lib.hid ⟨fa1, vi1, A1, c1, H1, J8.out, X8.out, GAN.out, SK.out, HH1.out, by have := HB1.out; omega, HM1.out, HU1.out⟩⟩
                  · obtain rfl : j = no := by omega
                    have NZ := NR1.out.excuse (ex' := fun _ => False) (fun k _ _ h => OE.out k h)
                    have NZ := Lib.hid NZ
                    go_wp2_with fail
                    go_roundg (mu fa1 H1)
                    case measure => have h1 := HM.out; have h2 := HM2.out; have h3 := HM1.out; omega
                    case rel => exact ⟨en2, rfl, Lib.hid ⟨fa1, vi1, _, c1, H1, u :: S, d, JR.out, NZ.out, HH1.out, by have := HB1.out; have := O3.out; simp only [List.length_cons]; omega, rfl⟩⟩
end Go.Proofs.Ytmebpglkeedaoaa
namespace Go.Proofs.Ytmebpglkeedaoaa
open Go.RowKit Dp
section
variable {w : World} {B b gl cl ce bo ge : Nat} {E : Option Addr} {G : Gr}
theorem GrAt.putL (h : GrAt w B b gl cl E ce bo G) (v : Nat) (x : Int) : GrAt (w.setCell ⟨gl, v, none⟩ (.int .i64 x)) B b gl cl E ce bo { G with left := G.left.set v x } :=
  { blk := by show Blk _ b 113 [.slice (some ⟨gl, 0, none⟩) (G.left.set v x).length cl, _, _]; rw [List.length_set]; exact h.blk.setCell_ne h.ne.1 _
    left := h.left.put v x
    es := h.es.set_ne (p := ⟨gl, v, none⟩) h.ne.2.2 _
    outs := h.outs.touch (T := fun k => k = gl) h.bo.1 h.bo.2.2.1 (fun k e => .inr (.inl e)) ((Touch.refl (fun k => k = gl) w).setCell (p := ⟨gl, v, none⟩) (.inl rfl) _)
    bo := ⟨by simp [World.setCell]; exact h.bo.1, h.bo.2⟩
    ne := h.ne
    base := h.base }
theorem GrAt.putE (h : GrAt w B b gl cl (some ⟨ge, 0, none⟩) ce bo G) (k : Nat) (r : Int) (hk : k < G.es.length) : GrAt (w.setCell ⟨ge, k * 3 + 1, none⟩ (.int .i64 r)) B b gl cl (some ⟨ge, 0, none⟩) ce bo { G with es := setRoom G.es k r } :=
  { blk := by
      show Blk _ b 113 [_, .slice (some ⟨ge, 0, none⟩) (setRoom G.es k r).length ce, _]
      rw [setRoom_len]
      exact h.blk.setCell_ne (fun e => h.ne.2.1 (ownB_some.2 e)) _
    left := by
      have hne : gl ≠ ge := fun e => h.ne.2.2 (ownB_some.2 e)
      have := ownSet h.left (p := ⟨ge, k * 3 + 1, none⟩) (fun e => hne (ownB_some.1 e).symm) (.int .i64 r)
      exact this
    es := h.es.put edC_len k 1 { G.es.getD k default with room := r } (G.es.getD k default) (.int .i64 r) (getElem_D G.es k default hk) (by omega) rfl
    outs := h.outs.touch (T := fun k => k = ge) h.bo.1 (fun e => h.bo.2.2.2 (ownB_some.2 e)) (fun k e => .inr (.inr (ownB_some.2 e))) ((Touch.refl (fun q => q = ge) w).setCell (p := ⟨ge, k * 3 + 1, none⟩) (.inl rfl) _)
    bo := ⟨by simp [World.setCell]; exact h.bo.1, h.bo.2⟩
    ne := h.ne
    base := h.base }
end
theorem xor_tw (k : Nat) (hk : k < 4294967296) : bits .xor .i64 (k : Int) 1 = (tw k : Int) := by
  have e : k ^^^ 1 = tw k := by
    have h1 : (k ^^^ 1) / 2 = k / 2 := by rw [Nat.xor_div_two]; simp
    have h2 : (k ^^^ 1) % 2 = (k + 1) % 2 := by have := @Nat.xor_mod_two_eq_one k 1; omega
    unfold tw
    split <;> omega
  have hx : k ^^^ 1 < 2 ^ 33 := Nat.xor_lt_two_pow (by omega) (by omega)
  have h1 : (BitVec.ofInt 64 (k : Int)).toNat = k := by
    rw [BitVec.ofInt_natCast, BitVec.toNat_ofNat]; exact Nat.mod_eq_of_lt (by omega)
  have h2 : (BitVec.ofInt 64 (1 : Int)).toNat = 1 := by decide
  show IntKind.i64.wrap ((BitVec.ofInt 64 (k : Int) ^^^ BitVec.ofInt 64 1).toNat : Int) = _
  rw [BitVec.toNat_xor, h1, h2, e, IntKind.wrap_i64]
  rw [e] at hx
  omega
theorem pushE_def (es : List Ed) (k : Nat) (x r1 r2 : Int) (h1 : r1 = (es.getD k default).room - x) (h2 : r2 = ((setRoom es k r1).getD (tw k) default).room + x) : setRoom (setRoom es k r1) (tw k) r2 = pushE es k x := by
  subst h1; subst h2; rfl
set_option maxRecDepth 100000 in
theorem push_c (b gl cl ce bo B : Nat) (E : Option Addr) (G : Gr) (k : Nat) (x : Int) (w : World) (hk : k < G.es.length) (ht : tw k < G.es.length) (hle : G.es.length ≤ 4096) (hr : -8589934592 ≤ G.room k ∧ G.room k ≤ 8589934592) (hr2 : -8589934592 ≤ G.room (tw k) ∧ G.room (tw k) ≤ 8589934592) (hx : -17179869184 ≤ x ∧ x ≤ 17179869184) (hg : GrAt w B b gl cl E ce bo G) :
    Calls Try.prog 97 #[.pointer (some ⟨b, 0, none⟩), .int .i64 k, .int .i64 x] w fun e w' => e = .returned (.tuple #[]) ∧ GrAt w' B b gl cl E ce bo { G with es := pushE G.es k x } ∧ Touch (fun q => OwnB E q) w w' := by
  have HA := Lib.hid hg
  obtain ⟨ge, rfl, gel, e0, e1, e2⟩ := hg.edge k hk
  have c1 := hg.blk.cell 1 rfl
  have bl := hg.blk.lt
  have z1 := hg.es.free (k * 3 + 1)
  have P1 := Lib.hid (fun r => hg.putE k r hk)
  have P2 := Lib.hid (fun r => (hg.putE k r hk).edge (tw k) (by show tw k < (setRoom G.es k r).length; rw [setRoom_len]; exact ht))
  have P3 := Lib.hid (fun r r2 => (hg.putE k r hk).putE (tw k) r2 (by show tw k < (setRoom G.es k r).length; rw [setRoom_len]; exact ht))
  have HR1 : Hid (G.room k = (G.es.getD k default).room) := Lib.hid rfl
  have HR2 : Hid (∀ r, ((setRoom G.es k r).getD (tw k) default).room = G.room (tw k)) := Lib.hid (fun r => by
    rw [(setRoom_get G.es k r hk (tw k)).2.2, if_neg (tw_ne k)]; rfl)
  have HT : Hid (tw k = if k % 2 = 0 then k + 1 else k - 1) := Lib.hid rfl
  rw [HR1.out] at hr
  have HS := Lib.hid (setRoom_len G.es k)
  generalize hml : G.es.length = ml at *
  have HML := Lib.hid hml
  clear hml hg
  generalize (G.es.getD k default).room = ro at *
  generalize G.room (tw k) = r2 at *
  have hki : (k : Int) < (ml : Int) := by omega
  obtain ⟨t, htt⟩ : ∃ t, t = tw k := ⟨_, rfl⟩
  rw [← htt] at ht P2 P3 HR2 HT
  have HTW := Lib.hid htt
  clear htt
  have hti : (t : Int) < (ml : Int) := by omega
  have hxo : bits .xor .i64 (k : Int) 1 = (t : Int) := by rw [HTW.out]; exact xor_tw k (by omega)
  go_enter Try.func97, Try.ntmps97
  go_upto_region 1 with fail
  have J1 := P1.out (ro - x)
  obtain ⟨ge', hge, gel1, f0, f1, f2⟩ := P2.out (ro - x)
  cases hge
  rw [HR2.out] at f1
  have c1 := J1.blk.cell 1 rfl
  simp only [HS.out] at c1
  have z1 := J1.es.free (t * 3 + 1)
  have J1 := Lib.hid J1
  have T1 := Lib.hid ((Touch.refl (fun q => OwnB (some ⟨ge, 0, none⟩) q) w).setCell (p := ⟨ge, k * 3 + 1, none⟩) (.inl (ownB_some.2 rfl)) (.int .i64 (ro - x)))
  have P4 := Lib.hid (P3.out (ro - x))
  generalize w.setCell ⟨ge, k * 3 + 1, none⟩ (.int .i64 (ro - x)) = w1 at *
  clear e0 e1 e2 P1 P2 P3
  go_wp2_with fail
  have P5 := P4.out (r2 + x)
  rw [HTW.out] at P5
  rw [pushE_def G.es k x (ro - x) (r2 + x) (by rw [← HR1.out]; rfl) (by rw [← HTW.out, HR2.out])] at P5
  rw [← HTW.out] at P5
  exact bodyPost_end (v := .tuple #[]) (by simp [results, Try.results97, go_sem]) rfl ⟨rfl, P5, T1.out.setCell (p := ⟨ge, t * 3 + 1, none⟩) (.inl (ownB_some.2 rfl)) _⟩
end Go.Proofs.Ytmebpglkeedaoaa
namespace Go.Proofs.Ytmebpglkeedaoaa
open Go.RowKit Dp
theorem pushL_app (G : Gr) (a b : List Nat) (x : Int) : G.pushL (a ++ b) x = (G.pushL a x).pushL b x := by simp [Gr.pushL, List.foldl_append]
theorem min_i64 (x y : Int) (ts : Array TypeId) (t : TypeId) (w : World) : (Builtin.min_ ts t #[.int .i64 x, .int .i64 y]).run Try.prog w = .ok (.int .i64 (min x y)) w := minTwo x y ts t w
theorem ok_to {G : Gr} {n : Nat} (h : G.Ok n) {k : Nat} (hk : k < G.es.length) : (G.es.getD k default).to = (G.toA k : Int) := by have := h.to k hk; unfold Gr.toA; omega
theorem intsAt_touch {S : Nat → Prop} {w W : World} {V : Option Addr} {xs : List Int} (h : IntsAt w V xs) (k : Touch S w W) (hn : ∀ b, OwnB V b → ¬ S b) : IntsAt W V xs := fun i hi => by
  obtain ⟨ad, e, hlt, c⟩ := h i hi
  exact ⟨ad, e, Nat.lt_of_lt_of_le hlt k.size, (k.cell (p := ad.add i) (by rw [block_add]; exact hlt) (by rw [block_add]; exact hn _ ⟨ad, e, rfl⟩)).trans c⟩
theorem left_end {G : Gr} {n : Nat} {vi : List Int} {ks : List Nat} {s t : Nat} {x : Int} (h : Sent G n vi ks s t x) (hG : G.Ok n) (hst : s ≠ t) : ({ left := (G.left.set s (G.lf s - x)).set t (G.lf t + x), es := (G.pushL ks x).es, outs := G.outs } : Gr) = G.pushL ks x := by
  have h1 := h.ok hG
  have ha := pushL_alike (x := x) h1.1
  have hl := pushL_lf (x := x) h.way hG.fine
  have e1 : (G.left.set s (G.lf s - x)).set t (G.lf t + x) = (G.pushL ks x).left := list_eq (by simp [ha.ll]) (fun v hv => by
    have hs : s < G.left.length := by rw [hG.ll]; exact h.sn
    have ht : t < (G.left.set s (G.lf s - x)).length := by rw [List.length_set, hG.ll]; exact h.tn
    rw [getD_setI _ _ _ _ ht, getD_setI _ _ _ _ hs]
    have := hl v
    unfold Gr.lf at this ⊢
    rw [this]
    by_cases e1 : v = t
    · subst e1; rw [if_pos rfl, if_pos rfl, if_neg (fun e => hst e.symm)]; omega
    · rw [if_neg e1, if_neg e1]
      by_cases e2 : v = s
      · subst e2; rw [if_pos rfl, if_pos rfl]; omega
      · rw [if_neg e2, if_neg e2]; omega)
  rw [e1]
  have e2 := ha.outs
  generalize G.pushL ks x = G' at *
  obtain ⟨a, b, c⟩ := G'
  simp only at e2 ⊢
  rw [e2]
set_option maxHeartbeats 2000000 in
set_option maxRecDepth 100000 in
theorem send_c (b gl cl ce bo B cv n s t : Nat) (E V : Option Addr) (G : Gr) (vi : List Int) (ks : List Nat) (w : World) (hG : G.Ok n) (hw : Dp.Way G vi t ks s) (hnd : (t :: ks.map G.frA).Nodup) (hsn : s < n) (htn : t < n) (hsl : 0 < G.lf s) (htl : G.lf t < 0)
    (hks : ∀ k, k ∈ ks → 0 < G.room k) (hvl : vi.length = n) (hcv : n ≤ cv ∧ cv ≤ 9223372036854775807) (hg : GrAt w B b gl cl E ce bo G) (hV : IntsAt w V vi) (hVn : ∀ k, OwnB V k → k ≠ gl ∧ ¬ OwnB E k) :
    Calls Try.prog 72 #[.pointer (some ⟨b, 0, none⟩), .slice V n cv, .int .i64 t] w fun e w' => e = .returned (.tuple #[]) ∧ ∃ x, Sent G n vi ks s t x ∧ GrAt w' B b gl cl E ce bo (G.pushL ks x) ∧ Touch (fun k => k = gl ∨ OwnB E k) w w' := by
  have HG := Lib.hid hG
  have HA := Lib.hid hg
  have HVA := Lib.hid hV
  have HW := Lib.hid hw
  have HKS := Lib.hid hks
  have HSN := Lib.hid hsn
  have HVL := Lib.hid hvl
  have LL := Lib.hid hG.ll
  have LE := Lib.hid hG.le
  have n2 : n ≤ 1024 := hG.n1.2
  have c0 := hg.blk.cell 0 rfl
  rw [hG.ll] at c0
  have l0 := hg.left.cell t (by rw [hG.ll]; exact htn)
  have hlb := hG.lb t htn
  have hlbs := hG.lb s hsn
  have HT : Hid (G.lf t = G.left.getD t 0) := Lib.hid rfl
  rw [HT.out] at htl hlb
  generalize G.left.getD t 0 = lt at *
  have hti : (t : Int) < (n : Int) := by omega
  have GC : Hid (∀ W, Below w.heap.size w W → GrAt W B b gl cl E ce bo G ∧ IntsAt W V vi) := Lib.hid (fun W h => ⟨HA.out.below h, HVA.out.below h (Nat.le_refl _)⟩)
  have SIM := Lib.hid (way_simple hw hnd)
  clear hG hg hV hw hks hsn hvl
  go_enter Try.func72, Try.ntmps72
  go_wp2_with fail
  go_loopg [6, 7] ks.length (fun m xv av wr => ∃ (x : Int) (u : Nat) (dn rs : List Nat), xv = .int .i64 x ∧ av = .int .i64 u ∧ m = rs.length ∧ (0 < x ∧ x ≤ -lt) ∧ u < n ∧ Hid (ks = dn ++ rs ∧ Dp.Way G vi u rs s ∧ Below w.heap.size w wr ∧ ∀ k, k ∈ dn → x ≤ G.room k))
  case atStart => exact ⟨-lt, t, [], ks, rfl, rfl, rfl, ⟨by omega, by omega⟩, htn, Lib.hid ⟨rfl, HW.out, Below.refl _ _, fun k hk => by simp at hk⟩⟩
  case round =>
    obtain ⟨x, u, dn, rs, rfl, rfl, hm, hx, hun, HJ⟩ := hrel
    obtain ⟨q1, q2, q3, q4⟩ := HJ.out
    have HS := Lib.hid q1
    have HWR := Lib.hid q2
    have HB := Lib.hid q3
    have HD := Lib.hid q4
    clear HJ q1 q2 q3 q4 c0 l0
    have hui : (u : Int) < (n : Int) := by omega
    obtain ⟨av, rfl, avl, av0⟩ := (GC.out _ HB.out).2 u (by rw [HVL.out]; exact hun)
    have avb : (av.add u).block < wr.heap.size := by rw [block_add]; exact avl
    cases rs with
    | nil =>
      have hv : vi.getD u 0 = -1 := HWR.out.1
      have hus : u = s := HWR.out.2
      subst hus
      rw [hv] at av0
      have hdn : dn = ks := by have := HS.out; rw [List.append_nil] at this; exact this.symm
      subst hdn
      have hsn' : u < n := hun
      have hA1 := (GC.out _ HB.out).1
      have c0 := hA1.blk.cell 0 rfl
      rw [LL.out] at c0
      have l0 := hA1.left.cell u (by rw [LL.out]; exact hun)
      have z0 := hA1.left.free u
      have HA1 := Lib.hid hA1
      have T1 : Hid (Touch (fun k => k = gl ∨ OwnB E k) w wr) := Lib.hid (Touch.of_below HB.out)
      have HLS : Hid (G.lf u = G.left.getD u 0) := Lib.hid rfl
      clear hA1
      rw [HLS.out] at hsl hlbs
      have PL := Lib.hid (fun y => HA1.out.putL u y)
      generalize G.left.getD u 0 = ls at *
      have hne : u ≠ t := fun e => by subst e; have h1 := HLS.out; have h2 := HT.out; omega
      have hmn := fun ts t W => min_i64 x ls ts t W
      generalize hy : min x ls = y at *
      have hy1 : 0 < y ∧ y ≤ -lt := by omega
      have HY : Hid (y ≤ x ∧ y ≤ ls) := Lib.hid (by omega)
      clear hy
      have SX : Hid (Sent G n vi dn u t y) := Lib.hid ⟨HW.out, hnd, hun, htn, hy1.1, by rw [HLS.out]; exact HY.out.2, by rw [HT.out]; omega, fun k hk => by have := HD.out k hk; have := HY.out.1; omega⟩
      have hys : y ≤ ls := HY.out.2
      go_upto_region 7 with fail
      have A2 := Lib.hid (PL.out (ls - y))
      have T2 := Lib.hid (T1.out.setCell (p := ⟨gl, u, none⟩) (.inl (.inl rfl)) (.int .i64 (ls - y)))
      generalize wr.setCell ⟨gl, u, none⟩ (.int .i64 (ls - y)) = w2 at A2 T2 ⊢
      clear c0 l0 z0 PL
      have c0 := A2.out.blk.cell 0 rfl
      simp only [List.length_set, LL.out] at c0
      have l0 := A2.out.left.cell t (by simp only [List.length_set, LL.out]; exact htn)
      have z0 := A2.out.left.free t
      have hlt2 : (G.left.set u (ls - y)).getD t 0 = lt := by
        rw [getD_setI _ _ _ _ (by rw [LL.out]; exact hun), if_neg (fun e => hne e.symm)]
        exact HT.out
      simp only [hlt2] at l0
      clear hlt2
      have PL := Lib.hid (A2.out.putL t (lt + y))
      have T3 := Lib.hid (T2.out.setCell (p := ⟨gl, t, none⟩) (.inl (.inl rfl)) (.int .i64 (lt + y)))
      go_wp2_with fail
      generalize w2.setCell ⟨gl, t, none⟩ (.int .i64 (lt + y)) = w3 at PL T3 ⊢
      clear c0 l0 z0 T1 T2 A2 HA1 av0 avl avb HB HD HWR
      have VI : Hid (∀ W, Touch (fun k => k = gl ∨ OwnB E k) w W → IntsAt W (some av) vi) := Lib.hid (fun W h => intsAt_touch HVA.out h (fun q hq hs => by
        have := hVn q hq
        rcases hs with hs | hs
        · exact this.1 hs
        · exact this.2 hs))
      go_loopg [7] dn.length (fun m av wr => ∃ (v : Nat) (d2 r2 : List Nat), av = .int .i64 v ∧ m = r2.length ∧ v < n ∧ Hid (dn = d2 ++ r2 ∧ Dp.Way G vi v r2 u ∧ GrAt wr B b gl cl E ce bo { left := (G.left.set u (ls - y)).set t (lt + y), es := (G.pushL d2 y).es, outs := G.outs } ∧ Touch (fun k => k = gl ∨ OwnB E k) w wr))
      case atStart => exact ⟨t, [], dn, rfl, rfl, htn, Lib.hid ⟨rfl, HW.out, PL.out, T3.out⟩⟩
      case round =>
        obtain ⟨v, d2, r2, rfl, hm2, hvn, HJ⟩ := hrel
        obtain ⟨q1, q2, q3, q4⟩ := HJ.out
        have HS2 := Lib.hid q1
        have HW2 := Lib.hid q2
        have HA2 := Lib.hid q3
        have HT2 := Lib.hid q4
        clear HJ q1 q2 q3 q4 PL T3
        have hvi : (v : Int) < (n : Int) := by omega
        obtain ⟨av', hav, avl, av0⟩ := (VI.out _ HT2.out) v (by rw [HVL.out]; exact hvn)
        cases hav
        have avb : (av.add v).block < wr.heap.size := by rw [block_add]; exact avl
        cases r2 with
        | nil =>
          have hv : vi.getD v 0 = -1 := HW2.out.1
          rw [hv] at av0
          have hd2 : d2 = dn := by have := HS2.out; rw [List.append_nil] at this; exact this.symm
          subst hd2
          have LE2 := left_end SX.out HG.out hne
          rw [HLS.out, HT.out] at LE2
          have HA3 := HA2.out
          rw [LE2] at HA3
          have HA3 := Lib.hid HA3
          clear LE2 HA2
          go_wp2_with fail
          exact bodyPost_end (v := .tuple #[]) (by simp [results, Try.results72, go_sem]) rfl ⟨rfl, y, SX.out, HA3.out, HT2.out⟩
        | cons k rs =>
          have hv : vi.getD v 0 = (k : Int) := HW2.out.1
          have hkl : k < G.es.length := HW2.out.2.1
          have hkm : k ∈ dn := by rw [HS2.out]; simp
          have hal  : Dp.Alike G (G.pushL d2 y) := pushL_alike (fun j hj => SX.out.ok HG.out |>.1 j (by rw [HS2.out]; simp [hj]))
          have hroom := pushL_room (x := y) (ks := d2) (G := G) (fun j hj => SX.out.ok HG.out |>.1 j (by rw [HS2.out]; simp [hj]))
          have hk2 : k ∉ d2 := fun hm => by
            have h1 := SIM.out.1
            rw [HS2.out] at h1
            exact (List.nodup_append.1 h1).2.2 k hm k (by simp) rfl
          have ht2 : tw k ∉ d2 := fun hm => SIM.out.2 k ⟨hkm, by rw [HS2.out]; simp [hm]⟩
          have hr1 : (G.pushL d2 y).room k = G.room k := by rw [hroom, List.count_eq_zero.2 hk2, List.count_eq_zero.2 ht2]; simp
          have hr2 : (G.pushL d2 y).room (tw k) = G.room (tw k) := by rw [hroom, tw_tw, List.count_eq_zero.2 hk2, List.count_eq_zero.2 ht2]; simp
          have hrm := HG.out.rm k hkl
          have hrm2 := HG.out.rm (tw k) (HG.out.tl hkl)
          rw [tw_tw] at hrm2
          have PU := Lib.hid (push_c b gl cl ce bo B E { left := (G.left.set u (ls - y)).set t (lt + y), es := (G.pushL d2 y).es, outs := G.outs } k y wr (by show k < (G.pushL d2 y).es.length; rw [hal.le]; exact hkl) (by show tw k < (G.pushL d2 y).es.length; rw [hal.le]; exact HG.out.tl hkl) (by show (G.pushL d2 y).es.length ≤ 4096; rw [hal.le]; exact LE.out)
            (by show -8589934592 ≤ (G.pushL d2 y).room k ∧ (G.pushL d2 y).room k ≤ 8589934592; rw [hr1]; omega) (by show -8589934592 ≤ (G.pushL d2 y).room (tw k) ∧ (G.pushL d2 y).room (tw k) ≤ 8589934592; rw [hr2]; omega) (by omega) HA2.out)
          have PE : Hid (({ left := (G.left.set u (ls - y)).set t (lt + y), es := pushE (G.pushL d2 y).es k y, outs := G.outs } : Gr) = { left := (G.left.set u (ls - y)).set t (lt + y), es := (G.pushL (d2 ++ [k]) y).es, outs := G.outs }) := Lib.hid (by rw [pushL_app]; rfl)
          have hal2  : Dp.Alike G (G.pushL (d2 ++ [k]) y) := pushL_alike (fun j hj => SX.out.ok HG.out |>.1 j (by
            rw [HS2.out]
            rcases List.mem_append.1 hj with h | h
            · simp [h]
            · simp at h; simp [h]))
          have HAL2 := Lib.hid hal2
          have HFR : Hid (G.toA (tw k) = G.frA k) := Lib.hid rfl
          have hfn := HG.out.frL hkl
          clear hroom hal hk2 ht2 hr1 hr2 hrm hrm2 hal2
          rw [hv] at av0
          clear hv
          go_wp2_with fail
          refine PU.out.mono ?_
          rintro e w5 ⟨rfl, h5, t5⟩
          rw [PE.out] at h5
          have T5 := Lib.hid (HT2.out.trans (t5.mono (fun q hq => .inr hq)))
          obtain ⟨ge, rfl, gel, f0, f1, f2⟩ := h5.edge (tw k) (by show tw k < (G.pushL (d2 ++ [k]) y).es.length; rw [HAL2.out.le]; exact HG.out.tl hkl)
          simp only [HAL2.out.to] at f0
          rw [ok_to HG.out (HG.out.tl hkl), HFR.out] at f0
          have c1 := h5.blk.cell 1 rfl
          simp only [HAL2.out.le] at c1
          have bl := h5.blk.lt
          obtain ⟨av', hav, avl2, av2⟩ := (VI.out _ T5.out) v (by rw [HVL.out]; exact hvn)
          cases hav
          have hv : vi.getD v 0 = (k : Int) := HW2.out.1
          rw [hv] at av2
          have avb2 : (av.add v).block < w5.heap.size := by rw [block_add]; exact avl2
          have H5 := Lib.hid h5
          have hle := LE.out
          have htl2 := HG.out.tl hkl
          clear h5 t5 PU PE av0 avl avb hv f1 f2
          generalize hml : G.es.length = ml at *
          have hxo : bits .xor .i64 (k : Int) 1 = (tw k : Int) := xor_tw k (by omega)
          generalize htk : tw k = tk at *
          have HTK := Lib.hid htk
          have HML := Lib.hid hml
          clear htk hml
          have hki : (k : Int) < (ml : Int) := by omega
          have htki : (tk : Int) < (ml : Int) := by omega
          go_upto_region 10 with fail
          refine wp_region_past (by kernel_rfl) (by kernel_rfl) ?_
          repeat (go_big_quiet_step (fail))
          refine wpQuiet_nil ?_
          intro xx
          have A6 := Lib.hid (H5.out.below xx.far)
          have T6 := Lib.hid (T5.out.below xx.far)
          generalize xx.w = w6 at A6 T6 ⊢
          clear f0 c1 bl av2 avb2 avl2
          go_wp2_with fail
          go_roundg rs.length
          case measure => rw [hm2]; simp
          case rel => exact ⟨G.frA k, d2 ++ [k], rs, rfl, rfl, hfn, Lib.hid ⟨by rw [HS2.out]; simp, HW2.out.2.2.2, A6.out, T6.out⟩⟩
    | cons k rs =>
      have hv : vi.getD u 0 = (k : Int) := HWR.out.1
      have hkl : k < G.es.length := HWR.out.2.1
      rw [hv] at av0
      obtain ⟨ge, rfl, gel, e0, e1, e2⟩ := (GC.out _ HB.out).1.edge k hkl
      obtain ⟨ge', hge, _, f0, _, _⟩ := (GC.out _ HB.out).1.edge (tw k) (HG.out.tl hkl)
      cases hge
      have hro := HKS.out k (by rw [HS.out]; simp)
      have hrb := HG.out.rm k hkl
      have hrb2 := HG.out.rm (tw k) (HG.out.tl hkl)
      have HRO : Hid (G.room k = (G.es.getD k default).room) := Lib.hid rfl
      rw [HRO.out] at hro hrb
      rw [ok_to HG.out (HG.out.tl hkl)] at f0
      have hfn := HG.out.frL hkl
      have HFR : Hid (G.frA k = G.toA (tw k)) := Lib.hid rfl
      rw [HFR.out] at hfn
      have hle := LE.out
      have htl2 := HG.out.tl hkl
      have c1 := (GC.out _ HB.out).1.blk.cell 1 rfl
      have bl := (GC.out _ HB.out).1.blk.lt
      generalize hml : G.es.length = ml at *
      have HML := Lib.hid hml
      clear hml
      generalize (G.es.getD k default).room = ro at *
      generalize G.room (tw k) = r2 at *
      have hxo : bits .xor .i64 (k : Int) 1 = (tw k : Int) := xor_tw k (by omega)
      generalize G.toA (tw k) = v at *
      generalize tw k = tk at *
      have hki : (k : Int) < (ml : Int) := by omega
      have htk : (tk : Int) < (ml : Int) := by omega
      have hmn := fun ts t W => min_i64 x ro ts t W
      generalize hy : min x ro = y at *
      have hy1 : 0 < y ∧ y ≤ -lt := by omega
      have HY : Hid (y ≤ x ∧ y ≤ ro) := Lib.hid (by omega)
      clear hy
      go_upto_region 3 with fail
      refine wp_region_past (by kernel_rfl) (by kernel_rfl) ?_
      repeat (go_big_quiet_step (fail))
      refine wpQuiet_nil ?_
      intro xx
      have HB4 := Lib.hid (HB.out.trans (xx.far.mono HB.out.size))
      have av1 := (xx.far.cell (p := av.add u) avb).trans av0
      have f1 := (xx.far.cell (p := ⟨ge, tk * 3, none⟩) gel).trans f0
      have c2 := (xx.far.cell (p := ⟨b, 1, none⟩) bl).trans c1
      have hsz := xx.far.size
      generalize xx.w = w4 at HB4 av1 f1 c2 hsz ⊢
      have avb4 : (av.add u).block < w4.heap.size := by omega
      have gel4 : ge < w4.heap.size := by omega
      have bl4 : b < w4.heap.size := by omega
      clear av0 f0 c1 e0 e1 e2 hmn
      go_upto_region 4 with fail
      refine wp_region_past (by kernel_rfl) (by kernel_rfl) ?_
      repeat (go_big_quiet_step (fail))
      refine wpQuiet_nil ?_
      intro xx
      have HB5 := Lib.hid (HB4.out.trans (xx.far.mono HB4.out.size))
      generalize xx.w = w5 at HB5 ⊢
      clear av1 f1 c2 avb4 gel4 bl4
      go_wp2_with fail
      go_roundg rs.length
      case measure => rw [hm]; simp
      case rel => exact ⟨y, v, dn ++ [k], rs, rfl, rfl, rfl, hy1, hfn, Lib.hid ⟨by rw [HS.out]; simp, by have := HWR.out.2.2.2; rw [HFR.out] at this; exact this, HB5.out, fun j hj => by
        rcases List.mem_append.1 hj with h | h
        · have := HD.out j h; have := HY.out.1; omega
        · simp at h; subst h; rw [HRO.out]; exact HY.out.2⟩⟩
end Go.Proofs.Ytmebpglkeedaoaa
namespace Go.Proofs.Ytmebpglkeedaoaa
open Go.RowKit Dp
theorem max_i64 (x y : Int) (ts : Array TypeId) (t : TypeId) (w : World) : (Builtin.max_ ts t #[.int .i64 x, .int .i64 y]).run Try.prog w = .ok (.int .i64 (max x y)) w := maxTwo x y ts t w
theorem rest_succ (l : List Int) (k : Nat) (hk : k < l.length) : sum ((l.map (max 0)).take (k + 1)) = sum ((l.map (max 0)).take k) + max 0 (l.getD k 0) := by
  rw [sum_take _ k (by rw [List.length_map]; exact hk), getD_map (max 0) l k hk]
theorem rest_part {l : List Int} (h : ∀ v, v < l.length → -8589934592 ≤ l.getD v 0 ∧ l.getD v 0 ≤ 8589934592) : ∀ k : Nat, k ≤ l.length → 0 ≤ sum ((l.map (max 0)).take k) ∧ sum ((l.map (max 0)).take k) ≤ 8589934592 * k
  | 0, _ => by simp [sum]
  | k + 1, hk => by
    have ih := rest_part h k (by omega)
    have := h k (by omega)
    rw [rest_succ l k (by omega), Int.natCast_add, Int.mul_add]
    omega
set_option maxRecDepth 100000 in
theorem rest_c (b gl cl ce bo B n : Nat) (E : Option Addr) (G : Gr) (w : World) (hG : G.Ok n) (hg : GrAt w B b gl cl E ce bo G) :
    Calls Try.prog 64 #[.pointer (some ⟨b, 0, none⟩)] w fun e w' => e = .returned (.int .i64 (restV G.left)) ∧ w = w' := by
  have HL := Lib.hid hG.ll
  have hle := hG.n1.2
  have HB := Lib.hid (rest_part (l := G.left) (fun v hv => hG.lb v (by rw [← hG.ll]; exact hv)))
  have HS := Lib.hid (rest_succ G.left)
  have HC := Lib.hid (fun k hk => hg.left.cell k hk)
  have HLB := Lib.hid hG.lb
  have c0 := hg.blk.cell 0 rfl
  rw [hG.ll] at c0
  have HR : Hid (restV G.left = sum ((G.left.map (max 0)).take n)) := Lib.hid (by unfold restV; rw [List.take_of_length_le]; rw [List.length_map, hG.ll]; exact Nat.le_refl _)
  clear hG hg
  go_enter Try.func64, Try.ntmps64
  go_wp2_with fail
  go_loop [2, 10] (fun sv iv => ∃ k : Nat, iv = .int .i64 k ∧ k ≤ n ∧ sv = .int .i64 (sum ((G.left.map (max 0)).take k))) (fun _ iv => n - (intOf iv).toNat)
  case atStart => exact ⟨0, rfl, Nat.zero_le _, rfl⟩
  case round =>
    obtain ⟨k, rfl, hk, rfl⟩ := hrel
    have b0 := HB.out k (by rw [HL.out]; exact hk)
    by_cases hlt : k < n
    · have hki : (k : Int) < (n : Int) := by omega
      have l0 := HC.out k (by rw [HL.out]; exact hlt)
      have b1 := HLB.out k hlt
      have e1 := HS.out k (by rw [HL.out]; exact hlt)
      have E1 : Hid (G.lf k = G.left.getD k 0) := Lib.hid rfl
      rw [E1.out] at b1
      generalize G.left.getD k 0 = x at *
      have HE := Lib.hid e1
      clear e1
      generalize sum ((G.left.map (max 0)).take k) = S at *
      have hmx := fun ts t W => max_i64 0 x ts t W
      generalize hy : max 0 x = y at *
      have hy1 : 0 ≤ y ∧ y ≤ 8589934592 := by omega
      clear hy
      go_wp2
      go_round
      case rel => exact ⟨k + 1, by go_num, by omega, by rw [HE.out]⟩
      case measure => simp [intOf]; omega
    · obtain rfl : k = n := by omega
      have HR := Lib.hid HR.out
      generalize sum ((G.left.map (max 0)).take k) = S at *
      go_wp2
      go_ret
      exact ⟨by rw [HR.out]; rfl, rfl⟩
def flowE (es : List Ed) (k : Nat) : List Int := (List.range (es.length / 2)).map fun i => if i < k then (es.getD (2 * i + 1) default).room else 0
theorem flowE_len (es : List Ed) (k : Nat) : (flowE es k).length = es.length / 2 := by simp [flowE]
theorem flowE_get {es : List Ed} {k i : Nat} (hi : i < es.length / 2) : (flowE es k).getD i 0 = if i < k then (es.getD (2 * i + 1) default).room else 0 := by
  simp [flowE, List.getD_eq_getElem?_getD, hi]
theorem flowE_zero (es : List Ed) : List.replicate (es.length / 2) 0 = flowE es 0 := by
  refine list_eq (by simp [flowE_len]) (fun v hv => ?_)
  rw [flowE_len] at hv
  rw [flowE_get hv]
  simp [List.getD_eq_getElem?_getD, hv]
theorem flowE_succ (es : List Ed) (k : Nat) (hk : k < es.length / 2) : (flowE es k).set k (es.getD (2 * k + 1) default).room = flowE es (k + 1) := by
  refine list_eq (by simp [flowE_len]) (fun v hv => ?_)
  rw [flowE_len] at hv
  rw [getD_setI _ _ _ _ (by rw [flowE_len]; exact hk), flowE_get hv, flowE_get hv]
  by_cases e : v = k
  · subst e; rw [if_pos rfl, if_pos (Nat.lt_succ_self v)]
  · rw [if_neg e]
    by_cases h : v < k
    · rw [if_pos h, if_pos (show v < k + 1 by omega)]
    · rw [if_neg h, if_neg (show ¬ v < k + 1 by omega)]
theorem flowE_flow {N : Net} {G : Gr} (h : Fits N G) : flowE G.es (G.es.length / 2) = flowL N G := by
  have e : G.es.length / 2 = N.arcs.length := by rw [h.es]; omega
  refine list_eq (by rw [flowE_len, flowL_len, e]) (fun v hv => ?_)
  rw [flowL_len] at hv
  rw [flowE_get (by rw [e]; exact hv), flowL_get hv, if_pos (by rw [e]; exact hv)]
  rfl
set_option maxRecDepth 100000 in
theorem flow_c (b gl cl ce bo B n : Nat) (E : Option Addr) (G : Gr) (w : World) (hG : G.Ok n) (hg : GrAt w B b gl cl E ce bo G) :
    Calls Try.prog 65 #[.pointer (some ⟨b, 0, none⟩)] w fun e w' => ∃ gf, e = .returned (.slice (some ⟨gf, 0, none⟩) (G.es.length / 2) (G.es.length / 2)) ∧ Below w.heap.size w w' ∧ Fl 2 w' gf (flowE G.es (G.es.length / 2)) ∧ w.heap.size ≤ gf := by
  have HA := Lib.hid hg
  have c1 := hg.blk.cell 1 rfl
  have bl := hg.blk.lt
  have hle := hG.le
  have F0 := Lib.hid (fl_new 2 (G.es.length / 2) w)
  rw [flowE_zero] at F0
  have FL := Lib.hid (flowE_len G.es)
  have FS := Lib.hid (flowE_succ G.es)
  have GC : Hid (∀ W, Below w.heap.size w W → GrAt W B b gl cl E ce bo G) := Lib.hid (fun W h => HA.out.below h)
  clear hG hg
  have ED : Hid (∀ W, Below w.heap.size w W → ∀ k, k < G.es.length → ∃ ge, E = some ⟨ge, 0, none⟩ ∧ W.cell? ⟨ge, k * 3 + 1, none⟩ = some (.int .i64 (G.es.getD k default).room)) := Lib.hid (fun W h k hk => by
    obtain ⟨ge, e, _, _, c, _⟩ := (GC.out W h).edge k hk
    exact ⟨ge, e, c⟩)
  have hm1 := make_64 (G.es.length / 2) (by omega)
  have CW : Hid (∀ W, Below w.heap.size w W → W.cell? ⟨b, 1, none⟩ = some (.slice E G.es.length ce)) := Lib.hid (fun W h => (GC.out W h).blk.cell 1 rfl)
  generalize hml : G.es.length = ml at *
  have HML := Lib.hid hml
  clear hml
  obtain ⟨m, hm⟩ : ∃ m, m = ml / 2 := ⟨_, rfl⟩
  have hm2 : (ml : Int) / 2 = (m : Int) := by omega
  rw [← hm] at hm1 F0 FL FS ⊢
  have HMM := Lib.hid hm
  clear hm
  go_enter Try.func65, Try.ntmps65
  go_wp2_with fail
  have B0 := Lib.hid ((Below.refl w.heap.size w).alloc (Nat.le_refl _) (.cells (Array.replicate m (.int .i64 0)) 2))
  generalize w.alloc (.cells (Array.replicate m (.int .i64 0)) 2) = w1 at F0 B0 ⊢
  generalize hgf : w.heap.size = gf at *
  clear c1 bl hm1
  go_loopw [14] (fun iv wr => ∃ k : Nat, iv = .int .i64 k ∧ k ≤ m ∧ Hid (Below gf w wr ∧ Fl 2 wr gf (flowE G.es k))) (fun iv _ => m - (intOf iv).toNat)
  case atStart => exact ⟨0, rfl, Nat.zero_le _, Lib.hid ⟨B0.out, F0.out⟩⟩
  case round =>
    obtain ⟨k, rfl, hk, HJ⟩ := hrel
    have HB := Lib.hid HJ.out.1
    have HF := Lib.hid HJ.out.2
    clear HJ F0 B0
    by_cases hlt : k < m
    · have hki : (k : Int) < (m : Int) := by omega
      have hMM := HMM.out
      obtain ⟨ge, rfl, e1⟩ := ED.out _ HB.out (2 * k + 1) (by omega)
      have c1 := CW.out _ HB.out
      have f0 := HF.out.cell k (by rw [FL.out]; exact hlt)
      have z0 := HF.out.free k
      have P1 := Lib.hid (fun x => HF.out.put k x)
      have FS1 := Lib.hid (FS.out k hlt)
      generalize (G.es.getD (2 * k + 1) default).room = ro at *
      obtain ⟨q, hq⟩ : ∃ q, q = 2 * k + 1 := ⟨_, rfl⟩
      have hq1 : 2 * (k : Int) + 1 = (q : Int) := by omega
      have hq2 : q < ml := by omega
      have hq3 : (q : Int) < (ml : Int) := by omega
      rw [← hq] at e1
      clear hq hMM
      go_wp2_with fail
      have F1 := P1.out ro
      rw [FS1.out] at F1
      have F1 := Lib.hid F1
      have B1 := Lib.hid (HB.out.setCell (p := ⟨gf, k, none⟩) (Nat.le_refl _) (.int .i64 ro))
      go_roundw
      case rel => exact ⟨k + 1, by go_num, by omega, Lib.hid ⟨B1.out, F1.out⟩⟩
      case measure => simp [intOf]; omega
    · obtain rfl : k = m := by omega
      go_wp2
      go_ret
      exact ⟨gf, rfl, by rw [hgf]; exact HB.out, HF.out, by rw [hgf]; exact Nat.le_refl _⟩
end Go.Proofs.Ytmebpglkeedaoaa
namespace Go.Proofs.Ytmebpglkeedaoaa
namespace Dp
def addAt (outs : List (List Int)) (v : Nat) (x : Int) : List (List Int) := outs.set v (outs.getD v [] ++ [x])
theorem addAt_len (outs : List (List Int)) (v : Nat) (x : Int) : (addAt outs v x).length = outs.length := by simp [addAt]
theorem addAt_get {outs : List (List Int)} {v : Nat} (hv : v < outs.length) (x : Int) (u : Nat) : (addAt outs v x).getD u [] = if u = v then outs.getD v [] ++ [x] else outs.getD u [] := by
  unfold addAt
  simp only [List.getD_eq_getElem?_getD, List.getElem?_set]
  by_cases h : v = u
  · subst h; simp [hv]
  · rw [if_neg h, if_neg (fun e => h e.symm)]
def esK (N : Net) : Nat → List Ed
  | 0 => []
  | k + 1 => esK N k ++ [⟨(N.arcs.getD k default).to, (N.arcs.getD k default).cap, (N.arcs.getD k default).cost⟩, ⟨(N.arcs.getD k default).fr, 0, -(N.arcs.getD k default).cost⟩]
def outsK (N : Net) : Nat → List (List Int)
  | 0 => List.replicate N.sup.length []
  | k + 1 => addAt (addAt (outsK N k) (frN N k) (2 * k : Nat)) (toN N k) (2 * k + 1 : Nat)
theorem esK_len (N : Net) : ∀ k, (esK N k).length = 2 * k
  | 0 => rfl
  | k + 1 => by simp [esK, esK_len N k]; omega
theorem outsK_len (N : Net) : ∀ k, (outsK N k).length = N.sup.length
  | 0 => by simp [outsK]
  | k + 1 => by simp [outsK, addAt_len, outsK_len N k]
theorem esK_get (N : Net) : ∀ (k j : Nat), j < k → (esK N k).getD (2 * j) default = ⟨(N.arcs.getD j default).to, (N.arcs.getD j default).cap, (N.arcs.getD j default).cost⟩ ∧ (esK N k).getD (2 * j + 1) default = ⟨(N.arcs.getD j default).fr, 0, -(N.arcs.getD j default).cost⟩
  | 0, j, h => absurd h (Nat.not_lt_zero _)
  | k + 1, j, h => by
    have hl := esK_len N k
    simp only [esK]
    by_cases e : j = k
    · subst e
      simp only [List.getD_eq_getElem?_getD]
      rw [List.getElem?_append_right (by omega), List.getElem?_append_right (by omega), hl]
      simp
    · have ih := esK_get N k j (by omega)
      simp only [List.getD_eq_getElem?_getD] at ih ⊢
      rw [List.getElem?_append_left (by omega), List.getElem?_append_left (by omega)]
      exact ih
theorem outsK_mem {N : Net} (h : chE N = 0) : ∀ k, k ≤ N.arcs.length → ∀ v, v < N.sup.length → ∀ x, x ∈ (outsK N k).getD v [] ↔ ∃ j, j < k ∧ ((x = (2 * j : Nat) ∧ frN N j = v) ∨ (x = (2 * j + 1 : Nat) ∧ toN N j = v))
  | 0, _, v, hv, x => by simp [outsK, List.getD_eq_getElem?_getD, hv]
  | k + 1, hk, v, hv, x => by
    have ih := outsK_mem h k (by omega) v hv x
    have e := net_ends h k (by omega)
    have hl := outsK_len N k
    have step : ∀ (j : Nat), j < k + 1 ↔ j < k ∨ j = k := fun j => by omega
    have hne : frN N k ≠ toN N k := by
      have := (net_arc h k (by omega)).2.2.1
      intro e2; rw [e.1, e.2.1, e2] at this; exact this rfl
    simp only [outsK]
    rw [addAt_get (by rw [addAt_len, hl]; exact e.2.2.2), addAt_get (by rw [hl]; exact e.2.2.1), addAt_get (by rw [hl]; exact e.2.2.1)]
    constructor
    · intro hx
      split at hx
      · rename_i e1
        rw [if_neg (fun e2 => hne e2.symm)] at hx
        rcases List.mem_append.1 hx with hx | hx
        · rw [← e1] at hx
          obtain ⟨j, hj, hx⟩ := ih.1 hx
          exact ⟨j, by omega, hx⟩
        · exact ⟨k, by omega, .inr ⟨by simpa using hx, e1.symm⟩⟩
      · split at hx
        · rename_i e1
          rcases List.mem_append.1 hx with hx | hx
          · rw [← e1] at hx
            obtain ⟨j, hj, hx⟩ := ih.1 hx
            exact ⟨j, by omega, hx⟩
          · exact ⟨k, by omega, .inl ⟨by simpa using hx, e1.symm⟩⟩
        · obtain ⟨j, hj, hx⟩ := ih.1 hx
          exact ⟨j, by omega, hx⟩
    · rintro ⟨j, hj, hx⟩
      rcases (step j).1 hj with hj | rfl
      · have hx := ih.2 ⟨j, hj, hx⟩
        split
        · rename_i e1
          rw [if_neg (fun e2 => hne e2.symm), ← e1]
          exact List.mem_append_left _ hx
        · split
          · rename_i e1
            rw [← e1]
            exact List.mem_append_left _ hx
          · exact hx
      · rcases hx with ⟨hx, e1⟩ | ⟨hx, e1⟩
        · rw [if_neg (fun e2 => hne (e1.trans e2)), if_pos e1.symm, hx]
          simp
        · rw [if_pos e1.symm, hx]
          simp
theorem outsK_short {N : Net} (h : chE N = 0) : ∀ k, k ≤ N.arcs.length → ∀ v, ((outsK N k).getD v []).length ≤ 2 * k
  | 0, _, v => by
    simp only [outsK, List.getD_eq_getElem?_getD, List.getElem?_replicate]
    split <;> simp
  | k + 1, hk, v => by
    have ih := outsK_short h k (by omega)
    have e := net_ends h k (by omega)
    have hl := outsK_len N k
    simp only [outsK]
    rw [addAt_get (by rw [addAt_len, hl]; exact e.2.2.2), addAt_get (by rw [hl]; exact e.2.2.1), addAt_get (by rw [hl]; exact e.2.2.1)]
    have h1 := ih v
    have h2 := ih (frN N k)
    have h3 := ih (toN N k)
    split
    · split <;> simp only [List.length_append, List.length_cons, List.length_nil] <;> omega
    · split
      · simp only [List.length_append, List.length_cons, List.length_nil]; omega
      · omega
def gr0 (N : Net) : Gr := { left := N.sup, es := esK N N.arcs.length, outs := outsK N N.arcs.length }
theorem lv_zero {N : Net} {f : Nat → Int} : ∀ (k : Nat) (v : Nat), (∀ j, j < k → f j = 0) → lv N f k v = N.sup.getD v 0
  | 0, _, _ => rfl
  | k + 1, v, h => by
    simp only [lv]
    rw [lv_zero k v (fun j hj => h j (by omega)), h k (by omega)]
    simp
theorem gr0_fits {N : Net} : Fits N (gr0 N) := by
  have hg := fun j hj => esK_get N N.arcs.length j hj
  refine ⟨by simp [gr0, esK_len], rfl, fun i hi => ?_, fun i hi => ?_, fun i hi => ?_, fun v hv => ?_⟩
  · unfold Gr.toA gr0 toN frN; simp only []
    rw [(hg i hi).1, (hg i hi).2]; exact ⟨rfl, rfl⟩
  · unfold Gr.cost gr0; simp only []
    rw [(hg i hi).1, (hg i hi).2]; exact ⟨rfl, rfl⟩
  · unfold Gr.room gr0; simp only []
    rw [(hg i hi).1, (hg i hi).2]; simp
  · rw [lv_zero]
    · rfl
    · intro j hj
      unfold Gr.room gr0; simp only []
      rw [(hg j hj).2]
theorem gr0_ok {N : Net} (h : chE N = 0) : (gr0 N).Ok N.sup.length := by
  have hf := gr0_fits (N := N)
  have hl := net_len h
  have half : ∀ k, k < (gr0 N).es.length → (∃ i, i < N.arcs.length ∧ k = 2 * i) ∨ ∃ i, i < N.arcs.length ∧ k = 2 * i + 1 := fun k hk => by
    rw [hf.es] at hk
    rcases (show k = 2 * (k / 2) ∨ k = 2 * (k / 2) + 1 by omega) with e | e
    · exact .inl ⟨k / 2, by omega, e⟩
    · exact .inr ⟨k / 2, by omega, e⟩
  have hg := fun j hj => esK_get N N.arcs.length j hj
  exact
  { n1 := ⟨hl.1, hl.2.1⟩
    ll := rfl
    lo := outsK_len N _
    le := by rw [hf.es]; omega
    ev := by rw [hf.es]; omega
    «to» := fun k hk => by
      rcases half k hk with ⟨i, hi, rfl⟩ | ⟨i, hi, rfl⟩
      · show 0 ≤ ((esK N N.arcs.length).getD (2 * i) default).to ∧ ((esK N N.arcs.length).getD (2 * i) default).to < _
        rw [(hg i hi).1]
        exact (net_arc h i hi).2.1
      · show 0 ≤ ((esK N N.arcs.length).getD (2 * i + 1) default).to ∧ ((esK N N.arcs.length).getD (2 * i + 1) default).to < _
        rw [(hg i hi).2]
        exact (net_arc h i hi).1
    ne := fun k hk => by
      rcases half k hk with ⟨i, hi, rfl⟩ | ⟨i, hi, rfl⟩
      · rw [(hf.t0 i hi).1, (hf.fr i hi).1]
        have e := net_ends h i hi
        have := (net_arc h i hi).2.2.1
        intro e2; rw [e.1, e.2.1, e2] at this; exact this rfl
      · rw [(hf.t0 i hi).2, (hf.fr i hi).2]
        have e := net_ends h i hi
        have := (net_arc h i hi).2.2.1
        intro e2; rw [e.1, e.2.1, e2] at this; exact this rfl
    co := fun k hk => by
      rcases half k hk with ⟨i, hi, rfl⟩ | ⟨i, hi, rfl⟩
      · rw [tw_even, (hf.c0 i hi).1, (hf.c0 i hi).2]
      · rw [tw_odd, (hf.c0 i hi).1, (hf.c0 i hi).2]; omega
    cb := fun k hk => by
      rcases half k hk with ⟨i, hi, rfl⟩ | ⟨i, hi, rfl⟩
      · rw [(hf.c0 i hi).1]; exact (net_arc h i hi).2.2.2.2
      · rw [(hf.c0 i hi).2]; have := (net_arc h i hi).2.2.2.2; omega
    rm := fun k hk => by
      rcases half k hk with ⟨i, hi, rfl⟩ | ⟨i, hi, rfl⟩
      · rw [tw_even]
        have h1 := hf.r0 i hi
        have h2 := (net_arc h i hi).2.2.2.1
        have h3 : (gr0 N).room (2 * i + 1) = 0 := by show ((esK N N.arcs.length).getD (2 * i + 1) default).room = 0; rw [(hg i hi).2]
        omega
      · rw [tw_odd]
        have h1 := hf.r0 i hi
        have h2 := (net_arc h i hi).2.2.2.1
        have h3 : (gr0 N).room (2 * i + 1) = 0 := by show ((esK N N.arcs.length).getD (2 * i + 1) default).room = 0; rw [(hg i hi).2]
        omega
    lb := fun v hv => by have := net_sup h v hv; show _ ≤ N.sup.getD v 0 ∧ N.sup.getD v 0 ≤ _; omega
    o1 := fun v hv x hx => by
      obtain ⟨j, hj, hx⟩ := (outsK_mem h _ (Nat.le_refl _) v hv x).1 hx
      rw [hf.es]
      rcases hx with ⟨rfl, e⟩ | ⟨rfl, e⟩
      · refine ⟨by omega, by omega, ?_⟩
        rw [Int.toNat_natCast, (hf.fr j hj).1, e]
      · refine ⟨by omega, by omega, ?_⟩
        rw [Int.toNat_natCast, (hf.fr j hj).2, e]
    o2 := fun k hk => by
      rcases half k hk with ⟨i, hi, rfl⟩ | ⟨i, hi, rfl⟩
      · rw [(hf.fr i hi).1]
        exact (outsK_mem h _ (Nat.le_refl _) _ (net_ends h i hi).2.2.1 _).2 ⟨i, hi, .inl ⟨rfl, rfl⟩⟩
      · rw [(hf.fr i hi).2]
        exact (outsK_mem h _ (Nat.le_refl _) _ (net_ends h i hi).2.2.2 _).2 ⟨i, hi, .inr ⟨rfl, rfl⟩⟩
    o3 := fun v _ => by
      have := outsK_short h _ (Nat.le_refl _) v
      show ((outsK N N.arcs.length).getD v []).length ≤ 4096
      omega }
end Dp
end Go.Proofs.Ytmebpglkeedaoaa
namespace Go.Proofs.Ytmebpglkeedaoaa
open Go.RowKit Dp
section
variable {P : Program} {w : World}
theorem run_append_keep (t ty : TypeId) (base : Nat) (e : TypeId) (i : TypeInfo) (z : Value) (size bytes : Nat) (ht : P.underlying t = some (.slice e)) (hi : P.info? e = some i) (hz : i.zero = some z)
    (hsize : i.size = size) (hby : i.bytes = bytes) (hzs : z.cells.size = size) (hsz : 0 < size)
    (A : Option Addr) (n cap : Nat) (xs : List Value) (hown : w.ownsRow base e size (.slice A n cap) n xs)
    (a : Addr) (m c : Nat) (news : List Value) (hl : news.length = m * size) (hnews : ∀ j u, news[j]? = some u → w.cell? (a.add j) = some u) (h1 : ∀ u ∈ news, u.oneCell' = true)
    (hm : 0 < m) (h63 : n + m ≤ maxLen) (hbytes : (n + m) * bytes ≤ 140737488355328) (hbase : base ≤ w.heap.size) :
    ∃ g cap' w', (Builtin.append_ #[t, t] ty #[.slice A n cap, .slice (some a) m c]).run P w = .ok (.slice (some ⟨g, 0, none⟩) (n + m) cap') w' ∧ w'.ownsRow base e size (.slice (some ⟨g, 0, none⟩) (n + m) cap') (n + m) (xs ++ news) ∧
      w.grownBy w' (Value.slice A n cap).ownBlock ∧ (OwnB A g ∨ g = w.heap.size) ∧ w'.ownsRow base e size (.slice A n cap) n xs := by
  obtain ⟨g, cap', w', hr, h2, h3, h4, h5⟩ := run_append_lies (P := P) w t ty base e i z size bytes ht hi hz hsize hby hzs hsz (.slice A n cap) n xs hown a m c news hl hnews h1 hm h63 hbytes hbase w.heap.size rfl
  refine ⟨g, cap', w', hr, h2, h3, h4.imp (fun h => ownB_iff.2 h) id, ?_⟩
  subst hsize
  rcases hown.2 with ⟨hv, hn0⟩ | ⟨g0, cap0, cur, hv, hbg, hg, hnc, hcm, hcs, htake⟩
  · cases hv
    exact ⟨hown.1, .inl ⟨rfl, hn0⟩⟩
  · cases hv
    by_cases hroom : n + m ≤ cap
    · have hfit : n * i.size + news.length ≤ cur.size := by rw [hl, hcs, ← Nat.add_mul]; exact Nat.mul_le_mul_right _ hroom
      have hr2 := run_append_room (P := P) w t ty e i ht hi g0 n cap cur hg a m c news hl hnews h1 hroom hfit
      rw [hr] at hr2
      simp only [Result.ok.injEq] at hr2
      obtain ⟨_, rfl⟩ := hr2
      refine ⟨hown.1, .inr ⟨g0, cap, _, rfl, hbg, setRow_heap w g0 cur _ e _ hg, hnc, hcm, ?_, ?_⟩⟩
      · simp only [List.size_toArray, List.length_append, List.length_take, List.length_drop, Array.length_toList]
        omega
      · have hx : xs.length = n * i.size := hown.1
        rw [htake]
        simp only [List.append_assoc]
        rw [List.take_append_of_le_length (by omega), ← hx, List.take_length]
    · have holds : ∀ j u, xs[j]? = some u → w.cell? ((⟨g0, 0, none⟩ : Addr).add j) = some u := hown.cells (g := g0) rfl
      have hr2 := run_append_grow (P := P) w t ty e i z ht hi hz ⟨g0, 0, none⟩ n cap xs hown.1 holds a m c news hl hnews (by unfold maxLen at h63; omega) (by unfold maxLen at h63; omega) (growslice_fits (by omega) (by rw [hby]; exact hbytes))
      rw [hr] at hr2
      simp only [Result.ok.injEq] at hr2
      obtain ⟨_, rfl⟩ := hr2
      exact hown.drew.alloc _
theorem stepV_keep {o : Oper} {a : Act} {N : Value → World → Prop} (s x : Operand) (t : TypeId)
    (ho : o.op = .call { callee := .builtin .append, args := #[s, x], argTypes := #[t, t] })
    (base : Nat) (e : TypeId) (i : TypeInfo) (z : Value) (size bytes : Nat) (ht : P.underlying t = some (.slice e)) (hi : P.info? e = some i) (hz : i.zero = some z)
    (hsize : i.size = size) (hby : i.bytes = bytes) (hzs : z.cells.size = size) (hsz : 0 < size)
    (A : Option Addr) (n cap : Nat) (xs : List Value) (hs : a.eval s = .slice A n cap) (hown : w.ownsRow base e size (.slice A n cap) n xs)
    (ad : Addr) (m c : Nat) (news : List Value) (hx : a.eval x = .slice (some ad) m c) (hl : news.length = m * size) (hnews : ∀ j u, news[j]? = some u → w.cell? (ad.add j) = some u) (h1 : ∀ u ∈ news, u.oneCell' = true)
    (hm : 0 < m) (h63 : n + m ≤ maxLen) (hbytes : (n + m) * bytes ≤ 140737488355328) (hbase : base ≤ w.heap.size)
    (h : ∀ g cap' w', w'.ownsRow base e size (.slice (some ⟨g, 0, none⟩) (n + m) cap') (n + m) (xs ++ news) → w.grownBy w' (Value.slice A n cap).ownBlock → (OwnB A g ∨ g = w.heap.size) → w'.ownsRow base e size (.slice A n cap) n xs → N (.slice (some ⟨g, 0, none⟩) (n + m) cap') w') : StepV P o a w N := by
  obtain ⟨g, cap', w', hr, h2, h3, h4, h5⟩ := run_append_keep (P := P) t o.type base e i z size bytes ht hi hz hsize hby hzs hsz A n cap xs hown ad m c news hl hnews h1 hm h63 hbytes hbase
  unfold StepV execOp
  simp only [ho, resolve, invoke, builtin, Sem.run_bind, Sem.run_pure, Result.andThen_ok, List.map_toArray, List.map_cons, List.map_nil, hs, hx, hr]
  exact h g cap' w' h2 h3 h4 h5
end
def intC (x : Int) : List Value := [.int .i64 x]
theorem intC_len (x : Int) : (intC x).length = 1 := rfl
theorem info26 : (Try.prog.info? 26).map (fun i => (i.zero, i.size, i.bytes)) = some (some (.slice none 0 0), 1, 24) := by kernel_rfl
theorem info144 : (Try.prog.info? 144).map (fun i => (i.zero, i.size, i.bytes)) = some (some (.agg #[.int .i64 0, .int .i64 0, .int .i64 0]), 3, 24) := by kernel_rfl
def slC (A : Nat → Option Addr) (c : Nat → Nat) (outs : List (List Int)) : List Value := (List.range outs.length).map fun i => .slice (A i) (outs.getD i []).length (c i)
theorem slC_get {A : Nat → Option Addr} {c : Nat → Nat} {outs : List (List Int)} {i : Nat} (hi : i < outs.length) : (slC A c outs)[i]? = some (.slice (A i) (outs.getD i []).length (c i)) := by
  simp [slC, hi]
def upd {α : Type} (f : Nat → α) (i : Nat) (x : α) (j : Nat) : α := if j = i then x else f j
theorem slC_set {A : Nat → Option Addr} {c : Nat → Nat} {outs : List (List Int)} {i : Nat} (hi : i < outs.length) (g cap : Nat) (x : Int) :
    (slC A c outs).set i (.slice (some ⟨g, 0, none⟩) ((outs.getD i []).length + 1) cap) = slC (upd A i (some ⟨g, 0, none⟩)) (upd c i cap) (addAt outs i x) := by
  apply List.ext_getElem
  · simp [slC, addAt_len]
  · intro j h1 h2
    have hj : j < outs.length := by simpa [slC] using h1
    rw [List.getElem_set]
    simp only [slC, List.getElem_map, List.getElem_range]
    rw [addAt_get hi]
    unfold upd
    by_cases e : i = j
    · subst e
      rw [if_pos rfl, if_pos rfl, if_pos rfl, if_pos rfl]
      simp
    · rw [if_neg e, if_neg (fun h => e h.symm), if_neg (fun h => e h.symm), if_neg (fun h => e h.symm)]
structure NgJ (w : World) (b gl cl bo : Nat) (E : Option Addr) (ce : Nat) (A : Nat → Option Addr) (c : Nat → Nat) (G : Gr) (W : World) : Prop where
  bel : Below w.heap.size w W
  blk : Blk W b 113 [.slice (some ⟨gl, 0, none⟩) G.left.length cl, .slice E G.es.length ce, .slice (some ⟨bo, 0, none⟩) G.outs.length G.outs.length]
  left : OwnI w.heap.size W gl cl G.left
  es : OwnR edC 144 3 w.heap.size W E ce G.es
  rows : Blk W bo 26 (slC A c G.outs)
  own : ∀ i, i < G.outs.length → OwnR intC 3 1 w.heap.size W (A i) (c i) (G.outs.getD i [])
  dis : ∀ i j, i < G.outs.length → j < G.outs.length → i ≠ j → ∀ k, OwnB (A i) k → ¬ OwnB (A j) k
  ge : w.heap.size ≤ b ∧ w.heap.size ≤ bo
theorem OwnI.typed {B : Nat} {W : World} {g c : Nat} {xs : List Int} {t : TypeId} {cs : List Value} (h : OwnI B W g c xs) (h' : Blk W g t cs) (hn : (2 : Nat) ≠ t) : False := by
  rcases h.2 with ⟨h0, _⟩ | ⟨g', cap', cur, hv, _, hg, _⟩
  · simp at h0
  · simp only [Value.slice.injEq, Option.some.injEq, Addr.mk.injEq] at hv
    obtain ⟨⟨rfl, _⟩, _⟩ := hv
    unfold Blk at h'
    rw [hg] at h'
    simp only [Option.some.injEq, Obj.cells.injEq] at h'
    exact hn h'.2.1
theorem own_own_ne {α β : Type} {f : α → List Value} {f' : β → List Value} {e e' : TypeId} {s s' B B' : Nat} {W : World} {A A' : Option Addr} {c c' g : Nat} {l : List α} {l' : List β} (h : OwnR f e s B W A c l) (h' : OwnR f' e' s' B' W A' c' l') (hn : e ≠ e') (h1 : OwnB A g) (h2 : OwnB A' g) : False := by
  rcases h'.2 with ⟨h0, _⟩ | ⟨g', cap', cur, hv, _, hg, _⟩
  · simp only [Value.slice.injEq] at h0
    obtain ⟨rfl, _⟩ := h0
    obtain ⟨a, ha, _⟩ := h2
    cases ha
  · simp only [Value.slice.injEq] at hv
    obtain ⟨rfl, _⟩ := hv
    have e1 := ownB_some.1 h2
    subst e1
    exact own_ne h h1 (show Blk W g e' cur.toList from by unfold Blk; rw [hg]) hn
end Go.Proofs.Ytmebpglkeedaoaa
namespace Go.Proofs.Ytmebpglkeedaoaa
open Go.RowKit Dp
theorem flat_int : ∀ l : List Int, flat intC l = l.map (Value.int .i64)
  | [] => rfl
  | x :: l => by
    have := flat_int l
    unfold flat at *
    rw [List.flatMap_cons, this]
    rfl
theorem OwnI.rows {B : Nat} {W : World} {g c : Nat} {l : List Int} (h : OwnI B W g c l) : OwnR intC 2 1 B W (some ⟨g, 0, none⟩) c l := by
  unfold OwnR
  rw [flat_int]
  exact h
section
variable {w V W : World} {b gl cl bo ce : Nat} {E : Option Addr} {A : Nat → Option Addr} {c : Nat → Nat} {G : Gr}
theorem NgJ.below (h : NgJ w b gl cl bo E ce A c G V) (hb : Below V.heap.size V W) : NgJ w b gl cl bo E ce A c G W :=
  { bel := h.bel.trans (hb.mono h.bel.size), blk := h.blk.below hb h.blk.lt, left := h.left.below hb, es := h.es.below hb, rows := h.rows.below hb h.rows.lt, own := fun i hi => (h.own i hi).below hb, dis := h.dis, ge := h.ge }
theorem NgJ.drew (h : NgJ w b gl cl bo E ce A c G V) : NgJ w b gl cl bo E ce A c G V.drew := h.below (Below.refl _ _).drew
theorem NgJ.grown (h : NgJ w b gl cl bo E ce A c G V) (i : Nat) (hi : i < G.outs.length) {n cap : Nat} (hn : n = (G.outs.getD i []).length) (hcap : cap = c i) (hg : V.grownBy W (Value.slice (A i) n cap).ownBlock) (hk : OwnR intC 3 1 w.heap.size W (A i) (c i) (G.outs.getD i [])) : NgJ w b gl cl bo E ce A c G W := by
  have hrow : ∀ k, (Value.slice (A i) n cap).ownBlock = some k → OwnB (A i) k := fun k e => ownB_iff.2 e
  have ho := h.own i hi
  have nb : ∀ (g : Nat) (t : TypeId) (cs : List Value), Blk V g t cs → (3 : Nat) ≠ t → some g ≠ (Value.slice (A i) n cap).ownBlock := fun g t cs hb ht e => own_ne ho (hrow g e.symm) hb ht
  exact
  { bel := h.bel.grown hg h.bel.size (fun k e => (ownLt ho (hrow k e)).2)
    blk := h.blk.grown hg (nb _ _ _ h.blk (by decide))
    left := ownGrown h.left hg (fun k hk e => by
      have h1 := hrow k e.symm
      have := ownB_some.1 hk
      subst this
      exact own_own_ne (f := intC) (f' := intC) (A' := some ⟨k, 0, none⟩) (c' := cl) (l' := G.left) (B' := w.heap.size) (e' := 2) (s' := 1) ho h.left.rows (by decide) h1 (ownB_some.2 rfl))
    es := ownGrown h.es hg (fun k hk e => own_own_ne ho h.es (by decide) (hrow k e.symm) hk)
    rows := h.rows.grown hg (nb _ _ _ h.rows (by decide))
    own := fun j hj => by
      by_cases e : j = i
      · subst e; exact hk
      · exact ownGrown (h.own j hj) hg (fun k hk' e' => h.dis j i hj hi e k hk' (hrow k e'.symm))
    dis := h.dis
    ge := h.ge }
theorem NgJ.store (h : NgJ w b gl cl bo E ce A c G W) (i : Nat) (hi : i < G.outs.length) {g cap : Nat} {x : Int} (ho : OwnR intC 3 1 w.heap.size W (some ⟨g, 0, none⟩) cap (G.outs.getD i [] ++ [x])) (hg : OwnB (A i) g ∨ ∀ j, j < G.outs.length → ∀ k, OwnB (A j) k → k < g) :
    NgJ w b gl cl bo E ce (upd A i (some ⟨g, 0, none⟩)) (upd c i cap) { G with outs := addAt G.outs i x } (W.setCell ⟨bo, i, none⟩ (.slice (some ⟨g, 0, none⟩) ((G.outs.getD i []).length + 1) cap)) := by
  have nb : ∀ (k : Nat) (t : TypeId) (cs : List Value), Blk W k t cs → t ≠ 26 → k ≠ bo := fun k t cs hb ht e => by
    subst e
    exact (blk_type_ne hb h.rows ht) rfl
  have no : ∀ {α : Type} {f : α → List Value} {e : TypeId} {s B c' : Nat} {A' : Option Addr} {l : List α}, OwnR f e s B W A' c' l → e ≠ 26 → ¬ OwnB A' bo := fun h' he hb => own_ne h' hb h.rows he
  exact
  { bel := h.bel.setCell h.ge.2 _
    blk := by
      show Blk _ b 113 [_, _, .slice (some ⟨bo, 0, none⟩) (addAt G.outs i x).length (addAt G.outs i x).length]
      rw [addAt_len]
      exact h.blk.setCell_ne (nb _ _ _ h.blk (by decide)) _
    left := ownSet h.left (p := ⟨bo, i, none⟩) (fun hb => by
      have e := ownB_some.1 hb
      simp only at e
      subst e
      exact h.left.typed h.rows (by decide)) _
    es := h.es.set_ne (p := ⟨bo, i, none⟩) (no h.es (by decide)) _
    rows := by
      show Blk _ bo 26 (slC _ _ (addAt G.outs i x))
      rw [← slC_set hi g cap x]
      exact h.rows.setCell i _
    own := fun j hj => by
      simp only [addAt_len] at hj
      show OwnR intC 3 1 w.heap.size _ _ _ ((addAt G.outs i x).getD j [])
      rw [addAt_get hi]
      unfold upd
      by_cases e : j = i
      · rw [if_pos e, if_pos e, if_pos e]
        exact ho.set_ne (p := ⟨bo, i, none⟩) (no ho (by decide)) _
      · rw [if_neg e, if_neg e, if_neg e]
        exact (h.own j hj).set_ne (p := ⟨bo, i, none⟩) (no (h.own j hj) (by decide)) _
    dis := fun j j' hj hj' hne k h1 h2 => by
      simp only [addAt_len] at hj hj'
      unfold upd at h1 h2
      by_cases e1 : j = i
      · rw [if_pos e1] at h1
        rw [if_neg (fun e2 => hne (e1.trans e2.symm))] at h2
        have := ownB_some.1 h1
        subst this
        rcases hg with hg | hg
        · exact h.dis i j' hi hj' (fun e => hne (e1.trans e)) k hg h2
        · have := hg j' hj' k h2; omega
      · rw [if_neg e1] at h1
        by_cases e2 : j' = i
        · rw [if_pos e2] at h2
          have := ownB_some.1 h2
          subst this
          rcases hg with hg | hg
          · exact h.dis i j hi hj (fun e => e1 e.symm) k hg h1
          · have := hg j hj k h1; omega
        · rw [if_neg e2] at h2
          exact h.dis j j' hj hj' hne k h1 h2
    ge := h.ge }
theorem NgJ.edges (h : NgJ w b gl cl bo E ce A c G V) {g cap n : Nat} {e1 e2 : Ed} (hn : n = G.es.length) (ho : OwnR edC 144 3 w.heap.size W (some ⟨g, 0, none⟩) cap (G.es ++ [e1, e2])) (hg : V.grownBy W (Value.slice E n ce).ownBlock) :
    NgJ w b gl cl bo (some ⟨g, 0, none⟩) cap A c { G with es := G.es ++ [e1, e2] } (W.setCell ⟨b, 1, none⟩ (.slice (some ⟨g, 0, none⟩) (G.es.length + 2) cap)) := by
  have hrow : ∀ k, (Value.slice E n ce).ownBlock = some k → OwnB E k := fun k e => ownB_iff.2 e
  have nb : ∀ (k : Nat) (t : TypeId) (cs : List Value), Blk V k t cs → (144 : Nat) ≠ t → some k ≠ (Value.slice E n ce).ownBlock := fun k t cs hb ht e => own_ne h.es (hrow k e.symm) hb ht
  have left1 : OwnI w.heap.size W gl cl G.left := ownGrown h.left hg (fun k hk e => by
    have h1 := hrow k e.symm
    have := ownB_some.1 hk
    subst this
    exact own_own_ne (f := edC) (f' := intC) (A' := some ⟨k, 0, none⟩) (c' := cl) (l' := G.left) (B' := w.heap.size) (e' := 2) (s' := 1) h.es h.left.rows (by decide) h1 (ownB_some.2 rfl))
  have blk1 := h.blk.grown hg (nb _ _ _ h.blk (by decide))
  have rows1 := h.rows.grown hg (nb _ _ _ h.rows (by decide))
  have no : ∀ {α : Type} {f : α → List Value} {e : TypeId} {s B c' : Nat} {A' : Option Addr} {l : List α}, OwnR f e s B W A' c' l → e ≠ 113 → ¬ OwnB A' b := fun h' he hb => own_ne h' hb blk1 he
  exact
  { bel := (h.bel.grown hg h.bel.size (fun k e => (ownLt h.es (hrow k e)).2)).setCell h.ge.1 _
    blk := by
      have h2 := blk1.setCell 1 (.slice (some ⟨g, 0, none⟩) (G.es.length + 2) cap)
      show Blk _ b 113 [_, .slice (some ⟨g, 0, none⟩) (G.es ++ [e1, e2]).length cap, _]
      rw [List.length_append]
      exact h2
    left := ownSet left1 (p := ⟨b, 1, none⟩) (fun hb => by
      have e := ownB_some.1 hb
      simp only at e
      subst e
      exact left1.typed blk1 (by decide)) _
    es := ho.set_ne (p := ⟨b, 1, none⟩) (no ho (by decide)) _
    rows := rows1.setCell_ne (fun e => by
      simp only at e
      subst e
      exact (blk_type_ne rows1 blk1 (by decide)) rfl) _
    own := fun j hj => by
      have h1 : OwnR intC 3 1 w.heap.size W (A j) (c j) (G.outs.getD j []) := ownGrown (h.own j hj) hg (fun k hk e' => own_own_ne h.es (h.own j hj) (by decide) (hrow k e'.symm) hk)
      exact h1.set_ne (p := ⟨b, 1, none⟩) (no h1 (by decide)) _
    dis := h.dis
    ge := h.ge }
theorem NgJ.done (h : NgJ w b gl cl bo E ce A c G W) : GrAt W w.heap.size b gl cl E ce bo G := by
  have hlx : ¬ OwnB E gl := fun hb => by
    have hl : OwnR intC 2 1 w.heap.size W (some ⟨gl, 0, none⟩) cl G.left := h.left.rows
    exact own_own_ne h.es hl (by decide) hb (ownB_some.2 rfl)
  exact
  { blk := h.blk
    left := h.left
    es := h.es
    outs := fun i hi => by
      have ho := h.own i hi
      refine ⟨A i, c i, h.rows.cell i (slC_get hi), ?_, ?_, fun j hj => ?_, fun k hk => ⟨(ownLt ho hk).1, fun hs => ?_⟩⟩
      · rcases ho.2 with ⟨h0, h1⟩ | ⟨g', cap', cur, hv, _, _, h2, _⟩
        · rw [h1]; exact Nat.zero_le _
        · simp only [Value.slice.injEq] at hv; omega
      · rcases ho.2 with ⟨h0, h1⟩ | ⟨g', cap', cur, hv, _, _, _, h2, _⟩
        · simp only [Value.slice.injEq] at h0; omega
        · simp only [Value.slice.injEq] at hv; unfold maxLen at h2; omega
      · obtain ⟨g, hA, _, hlt, _⟩ := ho.form (by omega)
        refine ⟨⟨g, 0, none⟩, hA, hlt, ?_⟩
        rw [hA] at ho
        have := ho.cell intC_len j 0 _ (getElem_D _ j 0 hj) (by omega)
        rw [add_row]
        simpa [intC] using this
      · rcases hs with rfl | rfl | hs
        · exact own_ne ho hk h.blk (by decide)
        · have hl : OwnR intC 2 1 w.heap.size W (some ⟨k, 0, none⟩) cl G.left := h.left.rows
          exact own_own_ne ho hl (by decide) hk (ownB_some.2 rfl)
        · exact own_own_ne ho h.es (by decide) hk hs
    bo := ⟨h.rows.lt, fun e => (by subst e; exact (blk_type_ne h.rows h.blk (by decide)) rfl), fun e => (by subst e; exact h.left.typed h.rows (by decide)), fun hb => own_ne h.es hb h.rows (by decide)⟩
    ne := ⟨fun e => (by subst e; exact h.left.typed h.blk (by decide)), fun hb => own_ne h.es hb h.blk (by decide), hlx⟩
    base := ⟨h.ge.1, h.left.lt.1⟩ }
end
end Go.Proofs.Ytmebpglkeedaoaa
namespace Go.Proofs.Ytmebpglkeedaoaa
open Go Go.RowKit
section
variable {P : Program} {ops : Array Oper} {Q : Exit → Act → World → Prop} {md : Region.Mode} {S : Array Bool → World → Prop}
def Kept (md : Region.Mode) (ops : Array Oper) (listed : Array Bool) : Prop :=
  ∀ (j : Nat) (oj : Oper), ops[j]? = some oj → listed.getD j false = true → ∀ e ∈ oj.after, Region.binds md e = true → listed.getD e.on false = true
def AnyL (P : Program) (md : Region.Mode) (ops : Array Oper) (Q : Exit → Act → World → Prop) (S : Array Bool → World → Prop) : Nat → Array Bool → Act → World → Prop
  | 0, listed, a, w => Region.ready md ops listed = [] ∧ Q .normal a w
  | fuel + 1, listed, a, w => (Region.ready md ops listed = [] → Q .normal a w) ∧
    ∀ i ∈ Region.ready md ops listed, wpOp P ops Q i (fun a' w' => S (listed.setIfInBounds i true) w' ∧ AnyL P md ops Q S fuel (listed.setIfInBounds i true) a' w') a w
theorem AnyL.any : ∀ (fuel : Nat) (listed : Array Bool) (a : Act) (w : World), AnyL P md ops Q S fuel listed a w → wpAny P md ops Q fuel listed a w
  | 0, _, _, _, h => h
  | fuel + 1, _, _, _, h => ⟨h.1, fun i hi => wpOp_mono (fun a' w' h' => AnyL.any fuel _ a' w' h'.2) (h.2 i hi)⟩
def Ahead (md : Region.Mode) (ops : Array Oper) (S : Array Bool → World → Prop) (i : Nat) (w : World) : Prop := ∃ listed, listed.getD i true = false ∧ Kept md ops listed ∧ S listed w
theorem kept_set {listed : Array Bool} {i : Nat} (h : Kept md ops listed) (hr : i ∈ Region.ready md ops listed) : Kept md ops (listed.setIfInBounds i true) := by
  intro j oj hj hl e he hb
  by_cases hji : i = j
  · subst hji
    obtain ⟨_, o, ho, hall⟩ := mem_ready.1 hr
    rw [ho] at hj
    cases hj
    exact getD_set_true (hall e he hb)
  · rw [getD_set_ne false hji] at hl
    exact getD_set_true (h j oj hj hl e he hb)
theorem anyL_first {i : Nat} {oi : Oper} {v : Value} (hi : ops[i]? = some oi) (hsel : ∀ (j : Nat) (o : Oper) cs b, ops[j]? = some o → o.op ≠ .select cs b)
    (hQ : ∀ c a w, Q (.panic c) (a.put oi.dst v) w → Q (.panic c) a w) (hSi : ∀ listed w, S (listed.setIfInBounds i true) w → S listed w) :
    ∀ (fuel : Nat) (listed : Array Bool) (a : Act) (w : World),
      (∀ j oj, ops[j]? = some oj → j ≠ i → listed.getD j true = false → (∀ e ∈ oj.after, Region.binds md e = true → e.on ≠ i) → oi.apart ops oj = true) →
      i ∈ Region.ready md ops listed → Kept md ops listed → YieldsIf P ops (Ahead md ops S i) oi v a → S listed w →
      AnyL P md ops Q S fuel (listed.setIfInBounds i true) (a.put oi.dst v) w → S (listed.setIfInBounds i true) w → AnyL P md ops Q S (fuel + 1) listed a w := by
  intro fuel
  induction fuel with
  | zero =>
    intro listed a w _ hr hk hy hS H hS1
    refine ⟨fun h => (by rw [h] at hr; cases hr), fun j hj => ?_⟩
    by_cases hji : j = i
    · subst hji; exact hy.wpOp hi ⟨listed, (mem_ready.1 hr).1, hk, hS⟩ ⟨hS1, H⟩
    · have := ready_mono hj hji
      rw [H.1] at this
      cases this
  | succ fuel ih =>
    intro listed a w hfree hr hk hy hS H hS1
    refine ⟨fun h => (by rw [h] at hr; cases hr), fun j hj => ?_⟩
    by_cases hji : j = i
    · subst hji; exact hy.wpOp hi ⟨listed, (mem_ready.1 hr).1, hk, hS⟩ ⟨hS1, H⟩
    · have h1 := H.2 j (ready_mono hj hji)
      obtain ⟨hjun, oj, hoj, hall⟩ := mem_ready.1 hj
      have hnot : ∀ e ∈ oj.after, Region.binds md e = true → e.on ≠ i := fun e he hb heq => by
        have h1 := hall e he hb
        have h0 := (mem_ready.1 hr).1
        rw [heq] at h1
        rcases Nat.lt_or_ge i listed.size with h' | h'
        · simp [h'] at h0 h1; rw [h0] at h1; cases h1
        · simp [Array.getElem?_eq_none h'] at h1
      have h2 := wpOp_putIf hoj (hfree j oj hoj hji hjun hnot) (fun cs b => hsel i oi cs b hi) (fun cs b => hsel j oj cs b hoj) hQ hy h1
      have hfree' : ∀ k ok, ops[k]? = some ok → k ≠ i → (listed.setIfInBounds j true).getD k true = false →
          (∀ e ∈ ok.after, Region.binds md e = true → e.on ≠ i) → oi.apart ops ok = true := fun k ok hk hki hun hno => by
        refine hfree k ok hk hki ?_ hno
        by_cases hjk : j = k
        · subst hjk; exact hjun
        · rw [getD_set_ne true hjk] at hun; exact hun
      refine wpOp_mono (fun a' w' h3 => ?_) h2
      have hc : (listed.setIfInBounds i true).setIfInBounds j true = (listed.setIfInBounds j true).setIfInBounds i true := by rw [Array.setIfInBounds_comm _ _ (Ne.symm hji)]
      have hS' : S (listed.setIfInBounds j true) w' := hSi _ _ (by rw [← hc]; exact h3.2.1)
      exact ⟨hS', ih (listed.setIfInBounds j true) a' w' hfree' (ready_mono hr (Ne.symm hji)) (kept_set hk hj) h3.1 hS' (by rw [← hc]; exact h3.2.2) (by rw [← hc]; exact h3.2.1)⟩
end
section
variable {P : Program} {l : List Oper} {Q : Exit → Act → World → Prop} {md : Region.Mode} {S : Array Bool → World → Prop}
def GoL (P : Program) (md : Region.Mode) (l : List Oper) (Q : Exit → Act → World → Prop) (S : Array Bool → World → Prop) (fuel : Nat) (listed : Array Bool) (a : Act) (w : World) : Prop :=
  Kept md l.toArray listed → AnyL P md l.toArray Q S fuel listed a w
theorem lTake {i : Nat} {oi : Oper} {v : Value} {fuel : Nat} {listed : Array Bool} {a : Act} {w : World} (hi : l[i]? = some oi)
    (hs : Region.noSelect l.toArray = true) (hf : Region.free md l.toArray listed i = true) (hr : (Region.ready md l.toArray listed).contains i = true)
    (hQ : ∀ c a w, Q (.panic c) (a.put oi.dst v) w → Q (.panic c) a w) (hw : Region.wanted oi (yielded l.toArray a.tmps) = true) (hSi : ∀ listed w, S (listed.setIfInBounds i true) w → S listed w) (hSj : ∀ listed w, S listed w → S (listed.setIfInBounds i true) w)
    (hy : ∀ L w, L.getD i true = false → Kept md l.toArray L → S L w → (execOp a.eval oi).run P w = .ok (.value v) w) (hS : S listed w)
    (h : S (listed.setIfInBounds i true) w → GoL P md l Q S fuel (listed.setIfInBounds i true) (a.put oi.dst v) w) : GoL P md l Q S (fuel + 1) listed a w := fun hk => by
  have hi' : l.toArray[i]? = some oi := by simpa using hi
  have hr' : i ∈ Region.ready md l.toArray listed := by simpa using hr
  exact anyL_first hi' (Region.noSelect_spec hs) hQ hSi fuel listed a w (Region.free_spec hi' hf) hr' hk (.inl ⟨hw, fun w' ⟨L, h1, h2, h3⟩ => hy L w' h1 h2 h3⟩) hS (h (hSj _ _ hS) (kept_set hk hr')) (hSj _ _ hS)
def AllL (P : Program) (md : Region.Mode) (l : List Oper) (Q : Exit → Act → World → Prop) (S : Array Bool → World → Prop) (fuel : Nat) (listed : Array Bool) (a : Act) (w : World) (rs : List Nat) : Prop :=
  ∀ i ∈ rs, wpOp P l.toArray Q i (fun a' w' => S (listed.setIfInBounds i true) w' ∧ GoL P md l Q S fuel (listed.setIfInBounds i true) a' w') a w
theorem AllL.nil {fuel : Nat} {listed : Array Bool} {a : Act} {w : World} : AllL P md l Q S fuel listed a w [] := fun _ h => by cases h
theorem AllL.cons {fuel : Nat} {listed : Array Bool} {a : Act} {w : World} {i : Nat} {o : Oper} {rs : List Nat} (ho : l[i]? = some o)
    (h : ∀ K' : Act → World → Prop, Shut (∀ a w, S (listed.setIfInBounds i true) w → (S (listed.setIfInBounds i true) w → GoL P md l Q S fuel (listed.setIfInBounds i true) a w) → K' a w) → if Region.wanted o (yielded l.toArray a.tmps) = true then Oper.wp P o a w K' Q else K' (a.put o.dst undef) w)
    (hs : AllL P md l Q S fuel listed a w rs) : AllL P md l Q S fuel listed a w (i :: rs) := fun j hj => by
  rcases List.mem_cons.1 hj with rfl | hj
  · exact wpOp_step (by simpa using ho) (fun K' hK => h K' (fun a w hS hW => hK a w ⟨hS, hW hS⟩))
  · exact hs j hj
theorem lReady {rs : List Nat} {fuel : Nat} {listed : Array Bool} {a : Act} {w : World} (hr : Region.ready md l.toArray listed = rs) (hne : rs ≠ [])
    (h : AllL P md l Q S fuel listed a w rs) : GoL P md l Q S (fuel + 1) listed a w := fun hk =>
  ⟨fun h0 => absurd (hr ▸ h0) hne, fun i hi => wpOp_mono (fun _ _ h' => ⟨h'.1, h'.2 (kept_set hk hi)⟩) (h i (hr ▸ hi))⟩
theorem lDone {listed : Array Bool} {a : Act} {w : World} (hr : Region.ready md l.toArray listed = []) (h : Q .normal a w) : ∀ fuel, GoL P md l Q S fuel listed a w
  | 0 => fun _ => ⟨hr, h⟩
  | _ + 1 => fun _ => ⟨fun _ => h, by rw [hr]; simp⟩
theorem lBegin {id : Nat} {a : Act} {w : World} (hm : P.follows .mixedOrders = true) (hS : S (Array.replicate l.length false) w.drew)
    (h : S (Array.replicate l.length false) w.drew → GoL P .any l Q S l.length (Array.replicate l.length false) a w.drew) : (Code.region id l.toArray true).wp P Q a w := by
  refine wp_region_any hm ?_
  have h1 := AnyL.any _ _ _ _ (h hS (fun j oj hj hl => by
    rw [Array.getD_eq_getD_getElem?, Array.getElem?_replicate] at hl
    split at hl <;> cases hl))
  have e : l.toArray.size = l.length := by simp
  rw [e]
  exact h1
end
end Go.Proofs.Ytmebpglkeedaoaa
namespace Go.Proofs.Ytmebpglkeedaoaa
open Go.RowKit Dp
theorem step_new {P : Program} {w : World} {ops : Array Oper} {o : Oper} {a : Act} {K : Act → World → Prop} {Q : Exit → Act → World → Prop} {E : Prop} (O : Obj) (vf : Nat → Value)
    (hgd : o.guard = none) (hsp : (execOp a.eval o).run P w = .ok (.value (vf w.heap.size)) (w.alloc O))
    (h : ∀ g w', w.heap.size ≤ g → w'.heap[g]? = some O → Below w.heap.size w w' → K (a.put o.dst (vf g)) w') :
    if Region.wanted o (yielded ops a.tmps) = true then Oper.wp P o a w K Q else E := by
  have hw : Region.wanted o (yielded ops a.tmps) = true := by simp [Region.wanted, hgd]
  rw [if_pos hw]
  unfold Oper.wp
  rw [hsp]
  exact h _ _ (Nat.le_refl _) (by show (w.heap.push O)[w.heap.size]? = _; simp) ((Below.refl _ _).alloc (Nat.le_refl _) _)
theorem make_sl (n : Nat) (hn : n ≤ 4096) (W : World) : (Instr.makeSlice 111 (.int .i64 n) (.int .i64 n)).run Try.prog W = .ok (.slice (some ⟨W.heap.size, 0, none⟩) n n) (W.alloc (.cells (Array.replicate n (.slice none 0 0)) 26)) := by
  obtain ⟨i, hi, hz0, hz1, hz2⟩ := info_parts info26
  have hr := run_make (P := Try.prog) W 111 26 i _ Try.underlying111 hi hz0 .i64 .i64 n n (by omega) (by omega) (by rw [hz2]; omega) (by omega)
  simp only [Int.toNat_natCast, hz1, Nat.mul_one] at hr
  rw [hr]
  have e1 : madeCells (Value.slice none 0 0).cells n = Array.replicate n (.slice none 0 0) := by
    unfold madeCells
    apply Array.ext
    · simp
    · intro j h1 h2
      simp [Value.cells, Nat.mod_one]
  rw [e1]
theorem slC_zero (N : Net) : slC (fun _ => none) (fun _ => 0) (outsK N 0) = List.replicate N.sup.length (.slice none 0 0) := by
  apply List.ext_getElem
  · simp [slC, outsK]
  · intro i h1 h2
    have hi : i < N.sup.length := by simpa using h2
    simp [slC, outsK, List.getD_eq_getElem?_getD, hi]
def grK (N : Net) (k : Nat) : Gr := { left := N.sup, es := esK N k, outs := outsK N k }
theorem ngJ_start {w W : World} {b gl cl bo n : Nat} {N : Net} (hn : n = N.sup.length) (hb : Below w.heap.size w W) (h1 : OwnI w.heap.size W gl cl N.sup) (h2 : Blk W bo 26 (List.replicate n (.slice none 0 0))) (h3 : Blk W b 113 [.slice (some ⟨gl, 0, none⟩) n cl, .slice none 0 0, .slice (some ⟨bo, 0, none⟩) n n]) (hb1 : w.heap.size ≤ b) (hb2 : w.heap.size ≤ bo) :
    NgJ w b gl cl bo none 0 (fun _ => none) (fun _ => 0) (grK N 0) W :=
  { bel := hb
    blk := by
      show Blk W b 113 [.slice (some ⟨gl, 0, none⟩) N.sup.length cl, .slice none 0 0, .slice (some ⟨bo, 0, none⟩) (outsK N 0).length (outsK N 0).length]
      rw [outsK_len, ← hn]; exact h3
    left := h1
    es := World.ownsRow_nil _ _ _ _
    rows := by
      show Blk W bo 26 (slC _ _ (outsK N 0))
      rw [slC_zero, ← hn]; exact h2
    own := fun i hi => by
      have : (grK N 0).outs.getD i [] = [] := by
        have hi' : i < N.sup.length := by have := outsK_len N 0; simp only [grK] at hi; omega
        simp [grK, outsK, List.getD_eq_getElem?_getD, hi']
      rw [this]
      exact World.ownsRow_nil _ _ _ _
    dis := fun i j _ _ _ k h => by obtain ⟨a, e, _⟩ := h; cases e
    ge := ⟨hb1, hb2⟩ }
set_option maxHeartbeats 2000000 in
set_option maxRecDepth 100000 in
theorem newGraph_c (A0 B0 : Option Addr) (N : Net) (n m cA cB : Nat) (w : World) (hn : n = N.sup.length) (hm : m = N.arcs.length) (hch : chE N = 0) (hA : n ≤ cA ∧ cA ≤ 9223372036854775807) (hB : m ≤ cB ∧ cB ≤ 9223372036854775807) (hN : NetAt w A0 B0 N) :
    Calls Try.prog 62 #[.agg #[.slice A0 n cA, .slice B0 m cB]] w fun e w' => ∃ b gl cl E ce bo, e = .returned (.pointer (some ⟨b, 0, none⟩)) ∧ Below w.heap.size w w' ∧ GrAt w' w.heap.size b gl cl E ce bo (gr0 N) := by
  have HN := Lib.hid hn
  have HM := Lib.hid hm
  have HCH := Lib.hid hch
  have HNA := Lib.hid hN
  have hl := net_len hch
  have n1 : 1 ≤ n := by rw [hn]; exact hl.1
  have n2 : n ≤ 1024 := by rw [hn]; exact hl.2.1
  have m2 : m ≤ 2048 := by rw [hm]; exact hl.2.2
  clear hn hm hch hN hl
  have hmk := make_sl n (by omega)
  have HB0 := Lib.hid ((Below.refl w.heap.size w).alloc (Nat.le_refl _) (.cells #[.slice A0 n cA, .slice B0 m cB] 25))
  have HX0 := Lib.hid (Blk.new' w #[.slice A0 n cA, .slice B0 m cB] 25)
  go_enter Try.func62, Try.ntmps62
  go_upto_region 1 with fail
  generalize w.alloc (.cells #[.slice A0 n cA, .slice B0 m cB] 25) = w1 at HB0 HX0 ⊢
  have RD : Hid (∀ W, Below w1.heap.size w1 W → W.cell? ⟨w.heap.size, 0, none⟩ = some (.slice A0 n cA) ∧ Blk W w.heap.size 25 [.slice A0 n cA, .slice B0 m cB] ∧ Below w.heap.size w W ∧ NetAt W A0 B0 N) := Lib.hid (fun W h => by
    have hb := HB0.out.trans (h.mono HB0.out.size)
    have hx := HX0.out.below h HX0.out.lt
    exact ⟨hx.cell 0 rfl, hx, hb, HNA.out.below hb (Nat.le_refl _)⟩)
  have HT := Lib.hid (Below.refl w1.heap.size w1).drew
  go_cut [3] from 4 (fun s3 wc => ∃ b gl cl bo, s3 = .pointer (some ⟨b, 0, none⟩) ∧ Hid (NgJ w b gl cl bo none 0 (fun _ => none) (fun _ => 0) (grK N 0) wc ∧ Below w1.heap.size w1 wc))
  case first =>
    refine lBegin (S := fun _ W => (W.cell? ⟨w.heap.size, 0, none⟩ = some (.slice A0 n cA))) (by kernel_rfl) ?_ (fun hHeld => ?_)
    · (try dsimp only); (first | with_reducible exact (RD.out _ HT.out).1 | with_reducible assumption)
    refine lTake (i := 0) (v := ?_) rfl (by kernel_rfl) (by kernel_rfl) (by kernel_rfl) (fun _ _ _ h => h) (by rfl) (fun _ _ h => h) (fun _ _ h => h) ?_ (by assumption) (fun hHeld2 => ?_)
    rotate_left 1
    · (intro _ _ _ _ _; first | (go_simp; done) | (go_simp; with_reducible rfl))
    clear hHeld; have hHeld := hHeld2; clear hHeld2
    (try simp only [Act.put, List.setIfInBounds_toArray, List.set_cons_zero, List.set_cons_succ])
    refine lTake (i := 1) (v := ?_) rfl (by kernel_rfl) (by kernel_rfl) (by kernel_rfl) (fun _ _ _ h => h) (by rfl) (fun _ _ h => h) (fun _ _ h => h) ?_ (by assumption) (fun hHeld2 => ?_)
    rotate_left 1
    · (intro L W _ _ hSw; (try dsimp only at hSw); first | (go_simp; done) | (go_simp; with_reducible rfl))
    clear hHeld; have hHeld := hHeld2; clear hHeld2
    (try simp only [Act.put, List.setIfInBounds_toArray, List.set_cons_zero, List.set_cons_succ])
    refine lTake (i := 3) (v := ?_) rfl (by kernel_rfl) (by kernel_rfl) (by kernel_rfl) (fun _ _ _ h => h) (by rfl) (fun _ _ h => h) (fun _ _ h => h) ?_ (by assumption) (fun hHeld2 => ?_)
    rotate_left 1
    · (intro _ _ _ _ _; first | (go_simp; done) | (go_simp; with_reducible rfl))
    clear hHeld; have hHeld := hHeld2; clear hHeld2
    (try simp only [Act.put, List.setIfInBounds_toArray, List.set_cons_zero, List.set_cons_succ])
    refine lTake (i := 4) (v := ?_) rfl (by kernel_rfl) (by kernel_rfl) (by kernel_rfl) (fun _ _ _ h => h) (by rfl) (fun _ _ h => h) (fun _ _ h => h) ?_ (by assumption) (fun hHeld2 => ?_)
    rotate_left 1
    · (intro L W _ _ hSw; (try dsimp only at hSw); first | (go_simp; done) | (go_simp; with_reducible rfl))
    clear hHeld; have hHeld := hHeld2; clear hHeld2
    (try simp only [Act.put, List.setIfInBounds_toArray, List.set_cons_zero, List.set_cons_succ])
    refine lTake (i := 5) (v := ?_) rfl (by kernel_rfl) (by kernel_rfl) (by kernel_rfl) (fun _ _ _ h => h) (by rfl) (fun _ _ h => h) (fun _ _ h => h) ?_ (by assumption) (fun hHeld2 => ?_)
    rotate_left 1
    · (intro _ _ _ _ _; first | (go_simp; done) | (go_simp; with_reducible rfl))
    clear hHeld; have hHeld := hHeld2; clear hHeld2
    (try simp only [Act.put, List.setIfInBounds_toArray, List.set_cons_zero, List.set_cons_succ])
    refine lReady (rs := [2, 6]) (by kernel_rfl) (by simp) ?_
    refine AllL.cons (i := 2) rfl (fun K hK => ?_) ?_
    · go_simp; (refine (clone_c A0 N.sup n cA _ HN.out n1 (by omega) (RD.out _ HT.out).2.2.2.1).mono ?_; rintro e w5 ⟨gl, cl, rfl, hb5, z5, y5, ho5⟩; (try have HMK := Lib.hid (Blk.below HMK.out hb5 (Blk.lt HMK.out))); have HCL := Lib.hid (OwnI.mono ho5 (RD.out _ HT.out).2.2.1.size); have HT := Lib.hid (HT.out.trans (hb5.mono HT.out.size)); clear hb5 ho5 y5)
      (try go_wp2_with fail)
      refine hK.out _ _ ?_ (fun hHeld2 => ?_)
      · (try dsimp only); (first | with_reducible exact (RD.out _ HT.out).1 | with_reducible assumption)
      clear hK K
      clear hHeld; have hHeld := hHeld2; clear hHeld2
      (try simp only [Act.put, List.setIfInBounds_toArray, List.set_cons_zero, List.set_cons_succ])
      refine lReady (rs := [6]) (by kernel_rfl) (by simp) ?_
      refine AllL.cons (i := 6) rfl (fun K hK => ?_) ?_
      · refine step_new (.cells (Array.replicate n (.slice none 0 0)) 26) (fun g => .slice (some ⟨g, 0, none⟩) n n) rfl (by unfold execOp; simp [hmk, go_sem]) ?_; intro bo w6 z6 hc6 hb6; (try have HCL := Lib.hid (OwnI.below HCL.out hb6)); have HMK := Lib.hid (show Blk w6 bo 26 (List.replicate n (.slice none 0 0)) from by unfold Blk; rw [hc6]; simp); have HMS := Lib.hid (Nat.le_trans (RD.out _ HT.out).2.2.1.size z6); have HT := Lib.hid (HT.out.trans (hb6.mono HT.out.size)); clear hb6 hc6 z6
        (try go_wp2_with fail)
        refine hK.out _ _ ?_ (fun hHeld2 => ?_)
        · (try dsimp only); (first | with_reducible exact (RD.out _ HT.out).1 | with_reducible assumption)
        clear hK K
        clear hHeld; have hHeld := hHeld2; clear hHeld2
        (try simp only [Act.put, List.setIfInBounds_toArray, List.set_cons_zero, List.set_cons_succ])
        refine lTake (i := 7) (v := ?_) rfl (by kernel_rfl) (by kernel_rfl) (by kernel_rfl) (fun _ _ _ h => h) (by rfl) (fun _ _ h => h) (fun _ _ h => h) ?_ (by assumption) (fun hHeld2 => ?_)
        rotate_left 1
        · (intro _ _ _ _ _; first | (go_simp; done) | (go_simp; with_reducible rfl))
        clear hHeld; have hHeld := hHeld2; clear hHeld2
        (try simp only [Act.put, List.setIfInBounds_toArray, List.set_cons_zero, List.set_cons_succ])
        refine lReady (rs := [8]) (by kernel_rfl) (by simp) ?_
        refine AllL.cons (i := 8) rfl (fun K hK => ?_) ?_
        · refine step_new (.cells #[.slice (some ⟨gl, 0, none⟩) n cl, .slice none 0 0, .slice (some ⟨bo, 0, none⟩) n n] 113) (fun g => .pointer (some ⟨g, 0, none⟩)) rfl (by kernel_rfl) ?_; intro b w7 z7 hc7 hb7; have HCL := Lib.hid (OwnI.below HCL.out hb7); have HMK := Lib.hid (Blk.below HMK.out hb7 (Blk.lt HMK.out)); have HBB := Lib.hid (show Blk w7 b 113 [.slice (some ⟨gl, 0, none⟩) n cl, .slice none 0 0, .slice (some ⟨bo, 0, none⟩) n n] from hc7); have HBS := Lib.hid (Nat.le_trans (RD.out _ HT.out).2.2.1.size z7); have HT := Lib.hid (HT.out.trans (hb7.mono HT.out.size)); clear hb7 hc7 z7
          (try go_wp2_with fail)
          refine hK.out _ _ ?_ (fun hHeld2 => ?_)
          · (try dsimp only); (first | with_reducible exact (RD.out _ HT.out).1 | with_reducible assumption)
          clear hK K
          clear hHeld; have hHeld := hHeld2; clear hHeld2
          (try simp only [Act.put, List.setIfInBounds_toArray, List.set_cons_zero, List.set_cons_succ])
          refine lTake (i := 9) (v := ?_) rfl (by kernel_rfl) (by kernel_rfl) (by kernel_rfl) (fun _ _ _ h => h) (by rfl) (fun _ _ h => h) (fun _ _ h => h) ?_ (by assumption) (fun hHeld2 => ?_)
          rotate_left 1
          · (intro _ _ _ _ _; first | (go_simp; done) | (go_simp; with_reducible rfl))
          clear hHeld; have hHeld := hHeld2; clear hHeld2
          (try simp only [Act.put, List.setIfInBounds_toArray, List.set_cons_zero, List.set_cons_succ])
          refine lDone (by kernel_rfl) ?_ _
          go_wp2_with fail
          go_meet
          case rel => exact ⟨b, gl, cl, bo, rfl, Lib.hid ⟨ngJ_start HN.out (RD.out _ HT.out).2.2.1 HCL.out HMK.out HBB.out HBS.out HMS.out, HT.out⟩⟩
        exact AllL.nil
      exact AllL.nil
    refine AllL.cons (i := 6) rfl (fun K hK => ?_) ?_
    · refine step_new (.cells (Array.replicate n (.slice none 0 0)) 26) (fun g => .slice (some ⟨g, 0, none⟩) n n) rfl (by unfold execOp; simp [hmk, go_sem]) ?_; intro bo w6 z6 hc6 hb6; (try have HCL := Lib.hid (OwnI.below HCL.out hb6)); have HMK := Lib.hid (show Blk w6 bo 26 (List.replicate n (.slice none 0 0)) from by unfold Blk; rw [hc6]; simp); have HMS := Lib.hid (Nat.le_trans (RD.out _ HT.out).2.2.1.size z6); have HT := Lib.hid (HT.out.trans (hb6.mono HT.out.size)); clear hb6 hc6 z6
      (try go_wp2_with fail)
      refine hK.out _ _ ?_ (fun hHeld2 => ?_)
      · (try dsimp only); (first | with_reducible exact (RD.out _ HT.out).1 | with_reducible assumption)
      clear hK K
      clear hHeld; have hHeld := hHeld2; clear hHeld2
      (try simp only [Act.put, List.setIfInBounds_toArray, List.set_cons_zero, List.set_cons_succ])
      refine lReady (rs := [2]) (by kernel_rfl) (by simp) ?_
      refine AllL.cons (i := 2) rfl (fun K hK => ?_) ?_
      · go_simp; (refine (clone_c A0 N.sup n cA _ HN.out n1 (by omega) (RD.out _ HT.out).2.2.2.1).mono ?_; rintro e w5 ⟨gl, cl, rfl, hb5, z5, y5, ho5⟩; (try have HMK := Lib.hid (Blk.below HMK.out hb5 (Blk.lt HMK.out))); have HCL := Lib.hid (OwnI.mono ho5 (RD.out _ HT.out).2.2.1.size); have HT := Lib.hid (HT.out.trans (hb5.mono HT.out.size)); clear hb5 ho5 y5)
        (try go_wp2_with fail)
        refine hK.out _ _ ?_ (fun hHeld2 => ?_)
        · (try dsimp only); (first | with_reducible exact (RD.out _ HT.out).1 | with_reducible assumption)
        clear hK K
        clear hHeld; have hHeld := hHeld2; clear hHeld2
        (try simp only [Act.put, List.setIfInBounds_toArray, List.set_cons_zero, List.set_cons_succ])
        refine lTake (i := 7) (v := ?_) rfl (by kernel_rfl) (by kernel_rfl) (by kernel_rfl) (fun _ _ _ h => h) (by rfl) (fun _ _ h => h) (fun _ _ h => h) ?_ (by assumption) (fun hHeld2 => ?_)
        rotate_left 1
        · (intro _ _ _ _ _; first | (go_simp; done) | (go_simp; with_reducible rfl))
        clear hHeld; have hHeld := hHeld2; clear hHeld2
        (try simp only [Act.put, List.setIfInBounds_toArray, List.set_cons_zero, List.set_cons_succ])
        refine lReady (rs := [8]) (by kernel_rfl) (by simp) ?_
        refine AllL.cons (i := 8) rfl (fun K hK => ?_) ?_
        · refine step_new (.cells #[.slice (some ⟨gl, 0, none⟩) n cl, .slice none 0 0, .slice (some ⟨bo, 0, none⟩) n n] 113) (fun g => .pointer (some ⟨g, 0, none⟩)) rfl (by kernel_rfl) ?_; intro b w7 z7 hc7 hb7; have HCL := Lib.hid (OwnI.below HCL.out hb7); have HMK := Lib.hid (Blk.below HMK.out hb7 (Blk.lt HMK.out)); have HBB := Lib.hid (show Blk w7 b 113 [.slice (some ⟨gl, 0, none⟩) n cl, .slice none 0 0, .slice (some ⟨bo, 0, none⟩) n n] from hc7); have HBS := Lib.hid (Nat.le_trans (RD.out _ HT.out).2.2.1.size z7); have HT := Lib.hid (HT.out.trans (hb7.mono HT.out.size)); clear hb7 hc7 z7
          (try go_wp2_with fail)
          refine hK.out _ _ ?_ (fun hHeld2 => ?_)
          · (try dsimp only); (first | with_reducible exact (RD.out _ HT.out).1 | with_reducible assumption)
          clear hK K
          clear hHeld; have hHeld := hHeld2; clear hHeld2
          (try simp only [Act.put, List.setIfInBounds_toArray, List.set_cons_zero, List.set_cons_succ])
          refine lTake (i := 9) (v := ?_) rfl (by kernel_rfl) (by kernel_rfl) (by kernel_rfl) (fun _ _ _ h => h) (by rfl) (fun _ _ h => h) (fun _ _ h => h) ?_ (by assumption) (fun hHeld2 => ?_)
          rotate_left 1
          · (intro _ _ _ _ _; first | (go_simp; done) | (go_simp; with_reducible rfl))
          clear hHeld; have hHeld := hHeld2; clear hHeld2
          (try simp only [Act.put, List.setIfInBounds_toArray, List.set_cons_zero, List.set_cons_succ])
          refine lDone (by kernel_rfl) ?_ _
          go_wp2_with fail
          go_meet
          case rel => exact ⟨b, gl, cl, bo, rfl, Lib.hid ⟨ngJ_start HN.out (RD.out _ HT.out).2.2.1 HCL.out HMK.out HBB.out HBS.out HMS.out, HT.out⟩⟩
        exact AllL.nil
      exact AllL.nil
    exact AllL.nil
  case rest =>
    clear HT
    obtain ⟨b, gl, cl, bo, rfl, HJ⟩ := hcut
    have J0 := Lib.hid HJ.out.1
    have T0 := Lib.hid HJ.out.2
    clear HJ
    have x1 := (RD.out _ T0.out).2.1.cell 1 rfl
    clear RD HB0 HX0
    obtain ⟨i3, h3i, h3z, h3s, h3b⟩ := info_parts info3
    obtain ⟨i4, h4i, h4z, h4s, h4b⟩ := info_parts info144
    go_wp2_with fail
    go_loopg [18] m (fun q iv wr => ∃ k : Nat, iv = .int .i64 k ∧ k + q = m ∧ Hid (∃ E ce A c, NgJ w b gl cl bo E ce A c (grK N k) wr))
    case atStart => exact ⟨0, rfl, by omega, Lib.hid ⟨_, _, _, _, J0.out⟩⟩
    case round =>
      clear J0 T0 x1
      obtain ⟨k, rfl, hkq, HJ⟩ := hrel
      obtain ⟨E, ce, A, c, j⟩ := HJ.out
      have JR := Lib.hid j
      clear HJ j
      by_cases hlt : k < m
      · have hki : (k : Int) < (m : Int) := by omega
        obtain ⟨ad, rfl, hbl, d0, d1, d2, d3⟩ := (HNA.out.2.below JR.out.bel (Nat.le_refl _)) k (by rw [← HM.out]; exact hlt)
        have HNX := Lib.hid (net_ends HCH.out k (by rw [← HM.out]; exact hlt))
        obtain ⟨a1, a2, a3, a4, a5⟩ := net_arc HCH.out k (by rw [← HM.out]; exact hlt)
        rw [← HN.out] at a1 a2
        have HESK : Hid (esK N (k + 1) = esK N k ++ [⟨(N.arcs.getD k default).to, (N.arcs.getD k default).cap, (N.arcs.getD k default).cost⟩, ⟨(N.arcs.getD k default).fr, 0, -(N.arcs.getD k default).cost⟩]) := Lib.hid rfl
        have HOK : Hid (outsK N (k + 1) = addAt (addAt (outsK N k) (frN N k) (2 * k : Nat)) (toN N k) (2 * k + 1 : Nat)) := Lib.hid rfl
        have HFA : Hid (frN N k = (N.arcs.getD k default).fr.toNat ∧ toN N k = (N.arcs.getD k default).to.toNat) := Lib.hid ⟨rfl, rfl⟩
        generalize N.arcs.getD k default = ar at *
        obtain ⟨fr, t0, ca, co⟩ := ar
        simp only at d0 d1 d2 d3 a1 a2 a3 a4 a5 HESK HFA
        obtain ⟨a, rfl⟩ : ∃ a : Nat, fr = a := ⟨fr.toNat, by omega⟩
        obtain ⟨d, rfl⟩ : ∃ d : Nat, t0 = d := ⟨t0.toNat, by omega⟩
        simp only [Int.toNat_natCast] at HFA
        rw [HFA.out.1, HFA.out.2] at HOK
        have han : a < n := by omega
        have hdn : d < n := by omega
        have hai : (a : Int) < (n : Int) := by omega
        have hdi : (d : Int) < (n : Int) := by omega
        have OL2 : Hid ((outsK N k).length = n) := Lib.hid (by rw [outsK_len, HN.out])
        have OL5b : Hid (∀ x, (addAt (outsK N k) a x).length = n) := Lib.hid (fun x => by rw [addAt_len, outsK_len, HN.out])
        obtain ⟨ne, hne⟩ : ∃ ne, ne = 2 * k := ⟨_, rfl⟩
        have HNE : Hid ((esK N k).length = ne) := Lib.hid (by rw [esK_len, hne])
        have hne2 : ne ≤ 4096 := by omega
        rw [← hne] at HOK
        have HOK : Hid (outsK N (k + 1) = addAt (addAt (outsK N k) a ((ne : Nat) : Int)) d ((ne : Int) + 1)) := Lib.hid HOK.out
        have HNK := Lib.hid hne
        go_upto_region 5 with fail
        have al := (Below.refl wr.heap.size wr).alloc (Nat.le_refl _) (.cells #[.int .i64 a, .int .i64 d, .int .i64 ca, .int .i64 co] 46)
        have J2 : Hid (NgJ w b gl cl bo E ce A c { left := N.sup, es := esK N k, outs := outsK N k } _) := Lib.hid (JR.out.below al)
        have X2 := Lib.hid (Blk.new' wr #[.int .i64 a, .int .i64 d, .int .i64 ca, .int .i64 co] 46)
        clear al
        generalize wr.alloc (.cells #[.int .i64 a, .int .i64 d, .int .i64 ca, .int .i64 co] 46) = w2 at J2 X2 ⊢
        generalize wr.heap.size = ga at *
        clear d0 d1 d2 d3 JR hne
        go_upto_region 5 with fail
        -- region 5: the list of node a grows by ((ne : Nat) : Int)
        have SHORT5 : Hid (((outsK N k).getD a []).length ≤ 8192) := Lib.hid (by have := outsK_short HCH.out k (by rw [← HM.out]; omega) a; omega)
        have SC5 : Hid (∀ W, NgJ w b gl cl bo E ce A c { left := N.sup, es := esK N k, outs := outsK N k } W ∧ Blk W ga 46 [.int .i64 a, .int .i64 d, .int .i64 ca, .int .i64 co] → W.cell? ⟨b, 1, none⟩ = some (.slice E ne ce) ∧ W.cell? ⟨b, 2, none⟩ = some (.slice (some ⟨bo, 0, none⟩) n n) ∧ W.cell? ⟨ga, 0, none⟩ = some (.int .i64 a) ∧ W.cell? ⟨ga, 1, none⟩ = some (.int .i64 d) ∧ W.cell? ⟨bo, a, none⟩ = some (.slice (A a) ((outsK N k).getD a []).length (c a))) := Lib.hid (fun W h => by
          have q1 := h.1.blk.cell 1 rfl
          have q2 := h.1.blk.cell 2 rfl
          simp only [HNE.out] at q1
          simp only [OL2.out] at q2
          exact ⟨q1, q2, h.2.cell 0 rfl, h.2.cell 1 rfl, h.1.rows.cell a (slC_get (by show a < (outsK N k).length; rw [OL2.out]; exact han))⟩)
        have ST5 : Hid (∀ V W g cap, NgJ w b gl cl bo E ce A c { left := N.sup, es := esK N k, outs := outsK N k } V → NgJ w b gl cl bo E ce A c { left := N.sup, es := esK N k, outs := outsK N k } W → OwnR intC 3 1 w.heap.size W (some ⟨g, 0, none⟩) cap ((outsK N k).getD a [] ++ [((ne : Nat) : Int)]) → (OwnB (A a) g ∨ g = V.heap.size) → NgJ w b gl cl bo E ce (upd A a (some ⟨g, 0, none⟩)) (upd c a cap) { left := N.sup, es := esK N k, outs := addAt (outsK N k) a ((ne : Nat) : Int) } (W.setCell ⟨bo, a, none⟩ (.slice (some ⟨g, 0, none⟩) (((outsK N k).getD a []).length + 1) cap))) := Lib.hid (fun V W g cap hV hW ho hg => hW.store a (by show a < (outsK N k).length; rw [OL2.out]; exact han) ho (hg.imp id (fun e j hj q hq => by rw [e]; exact (ownLt (hV.own j hj) hq).1)))
        have GW5 : Hid (∀ V W n' cap, n' = ((outsK N k).getD a []).length → cap = c a → NgJ w b gl cl bo E ce A c { left := N.sup, es := esK N k, outs := outsK N k } V → Blk V ga 46 [.int .i64 a, .int .i64 d, .int .i64 ca, .int .i64 co] → V.grownBy W (Value.slice (A a) n' cap).ownBlock → OwnR intC 3 1 w.heap.size W (A a) (c a) ((outsK N k).getD a []) → NgJ w b gl cl bo E ce A c { left := N.sup, es := esK N k, outs := outsK N k } W ∧ Blk W ga 46 [.int .i64 a, .int .i64 d, .int .i64 ca, .int .i64 co]) := Lib.hid (fun V W n' cap e1 e2 hV hX hg ho => ⟨hV.grown a (by show a < (outsK N k).length; rw [OL2.out]; exact han) e1 e2 hg ho, hX.grown hg (fun e => own_ne (hV.own a (by show a < (outsK N k).length; rw [OL2.out]; exact han)) (ownB_iff.2 e.symm) hX (by decide))⟩)
        have RW5 : Hid (∀ V, NgJ w b gl cl bo E ce A c { left := N.sup, es := esK N k, outs := outsK N k } V → OwnR intC 3 1 w.heap.size V (A a) (c a) ((outsK N k).getD a [])) := Lib.hid (fun V h => h.own a (by show a < (outsK N k).length; rw [OL2.out]; exact han))
        generalize hrow5 : (outsK N k).getD a [] = row5 at *
        have HROW5 := Lib.hid hrow5
        clear hrow5
        generalize hAv5 : A a = Av5 at *
        generalize hcv5 : c a = cv5 at *
        have HAV5 := Lib.hid hAv5
        have HCV5 := Lib.hid hcv5
        clear hAv5 hcv5
        generalize hln5 : row5.length = ln5 at *
        have HLN5 := Lib.hid hln5
        clear hln5
        have shl5 := SHORT5.out
        refine wp_region_spine 19 [true, true] [] ?af5 (fun V => NgJ w b gl cl bo E ce A c { left := N.sup, es := esK N k, outs := outsK N k } V ∧ Blk V ga 46 [.int .i64 a, .int .i64 d, .int .i64 ca, .int .i64 co]) (by kernel_rfl) (by kernel_rfl) ⟨J2.out.drew, X2.out.drew⟩ ?walk5 ?spine5
        case walk5 =>
          intro V hV
          obtain ⟨q1, q2, q3, q4, q5⟩ := SC5.out V hV
          clear hV
          simp only [List.take_succ_cons, List.take_zero]
          repeat (go_big_quiet_step (fail))
          refine wpQuiet_nil ?_
          rfl
        case spine5 =>
          rintro V ⟨h1, h2⟩
          have JV := Lib.hid h1
          have XV := Lib.hid h2
          clear h1 h2
          refine spineV_cons ?_
          unfold StepV
          go_simp
          have al := (Below.refl V.heap.size V).alloc (Nat.le_refl _) (.cells #[.int .i64 ((ne : Nat) : Int)] 3)
          have JV5 := Lib.hid (JV.out.below al)
          have XV5 := Lib.hid (XV.out.below al XV.out.lt)
          have YV5 := Lib.hid (Blk.new' V #[.int .i64 ((ne : Nat) : Int)] 3)
          clear al
          generalize V.alloc (.cells #[.int .i64 ((ne : Nat) : Int)] 3) = V2 at JV5 XV5 YV5 ⊢
          refine ⟨⟨JV5.out, XV5.out⟩, ?_⟩
          generalize V.heap.size = gv at *
          refine spineV_cons ?_
          have row0 := RW5.out _ JV5.out
          unfold OwnR at row0
          rw [HLN5.out] at row0
          refine stepV_keep (.tmp 35) (.tmp 41) 26 rfl w.heap.size 3 i3 (.int .i64 0) 1 8 Try.underlying26 h3i h3z h3s h3b rfl (by decide) Av5 ln5 cv5 (flat intC row5) (by rfl) row0 ⟨gv, 0, none⟩ 1 1 [.int .i64 ((ne : Nat) : Int)] (by rfl) (by rfl) ?_ (by simp [Value.oneCell']) (by omega) (by unfold maxLen; omega) (by omega) JV5.out.bel.size ?_
          · intro j u hj
            rcases j with _ | j
            · simp at hj; subst hj; exact YV5.out.cell 0 rfl
            · simp at hj
          intro g5 cap5 W3 ho hg hk hold
          have CK := GW5.out V2 W3 ln5 cv5 rfl rfl JV5.out XV5.out hg (by unfold OwnR; rw [HLN5.out]; exact hold)
          refine ⟨fun _ => CK, ?_⟩
          have J5b := Lib.hid (ST5.out V2 W3 g5 cap5 JV5.out CK.1 (by
            unfold OwnR
            rw [List.length_append, HLN5.out, flat_append]
            exact ho) hk)
          have X5b := Lib.hid (CK.2.setCell_ne (p := ⟨bo, a, none⟩) (fun e => by
            simp only at e
            subst e
            exact (blk_type_ne CK.2 CK.1.rows (by decide)) rfl) (.slice (some ⟨g5, 0, none⟩) (ln5 + 1) cap5))
          have z5 := CK.1.rows.free a
          obtain ⟨_, _, _, _, q5⟩ := SC5.out W3 CK
          clear ho hg hk hold CK row0
          refine spineV_nil ?_
          go_upto_region 6 with fail
          generalize W3.setCell ⟨bo, a, none⟩ (.slice (some ⟨g5, 0, none⟩) (ln5 + 1) cap5) = W5 at J5b X5b ⊢
          clear z5 q5 JV XV JV5 XV5 YV5 GW5 ST5 SC5 RW5
          go_upto_region 6 with fail
          -- region 6: the list of node d grows by ((ne : Int) + 1)
          have SHORT6 : Hid (((addAt (outsK N k) a ((ne : Nat) : Int)).getD d []).length ≤ 8192) := Lib.hid (by have h1 := outsK_short HCH.out k (by rw [← HM.out]; omega) d; have h2 := outsK_short HCH.out k (by rw [← HM.out]; omega) a; rw [addAt_get (by rw [outsK_len, ← HN.out]; exact han)]; split <;> (try simp only [List.length_append, List.length_cons, List.length_nil]) <;> omega)
          have SC6 : Hid (∀ W, NgJ w b gl cl bo E ce (upd A a (some ⟨g5, 0, none⟩)) (upd c a cap5) { left := N.sup, es := esK N k, outs := addAt (outsK N k) a ((ne : Nat) : Int) } W ∧ Blk W ga 46 [.int .i64 a, .int .i64 d, .int .i64 ca, .int .i64 co] → W.cell? ⟨b, 1, none⟩ = some (.slice E ne ce) ∧ W.cell? ⟨b, 2, none⟩ = some (.slice (some ⟨bo, 0, none⟩) n n) ∧ W.cell? ⟨ga, 0, none⟩ = some (.int .i64 a) ∧ W.cell? ⟨ga, 1, none⟩ = some (.int .i64 d) ∧ W.cell? ⟨bo, d, none⟩ = some (.slice ((upd A a (some ⟨g5, 0, none⟩)) d) ((addAt (outsK N k) a ((ne : Nat) : Int)).getD d []).length ((upd c a cap5) d))) := Lib.hid (fun W h => by
            have q1 := h.1.blk.cell 1 rfl
            have q2 := h.1.blk.cell 2 rfl
            simp only [HNE.out] at q1
            simp only [OL5b.out] at q2
            exact ⟨q1, q2, h.2.cell 0 rfl, h.2.cell 1 rfl, h.1.rows.cell d (slC_get (by show d < (addAt (outsK N k) a ((ne : Nat) : Int)).length; rw [OL5b.out]; exact hdn))⟩)
          have ST6 : Hid (∀ V W g cap, NgJ w b gl cl bo E ce (upd A a (some ⟨g5, 0, none⟩)) (upd c a cap5) { left := N.sup, es := esK N k, outs := addAt (outsK N k) a ((ne : Nat) : Int) } V → NgJ w b gl cl bo E ce (upd A a (some ⟨g5, 0, none⟩)) (upd c a cap5) { left := N.sup, es := esK N k, outs := addAt (outsK N k) a ((ne : Nat) : Int) } W → OwnR intC 3 1 w.heap.size W (some ⟨g, 0, none⟩) cap ((addAt (outsK N k) a ((ne : Nat) : Int)).getD d [] ++ [((ne : Int) + 1)]) → (OwnB ((upd A a (some ⟨g5, 0, none⟩)) d) g ∨ g = V.heap.size) → NgJ w b gl cl bo E ce (upd (upd A a (some ⟨g5, 0, none⟩)) d (some ⟨g, 0, none⟩)) (upd (upd c a cap5) d cap) { left := N.sup, es := esK N k, outs := addAt (addAt (outsK N k) a ((ne : Nat) : Int)) d ((ne : Int) + 1) } (W.setCell ⟨bo, d, none⟩ (.slice (some ⟨g, 0, none⟩) (((addAt (outsK N k) a ((ne : Nat) : Int)).getD d []).length + 1) cap))) := Lib.hid (fun V W g cap hV hW ho hg => hW.store d (by show d < (addAt (outsK N k) a ((ne : Nat) : Int)).length; rw [OL5b.out]; exact hdn) ho (hg.imp id (fun e j hj q hq => by rw [e]; exact (ownLt (hV.own j hj) hq).1)))
          have GW6 : Hid (∀ V W n' cap, n' = ((addAt (outsK N k) a ((ne : Nat) : Int)).getD d []).length → cap = (upd c a cap5) d → NgJ w b gl cl bo E ce (upd A a (some ⟨g5, 0, none⟩)) (upd c a cap5) { left := N.sup, es := esK N k, outs := addAt (outsK N k) a ((ne : Nat) : Int) } V → Blk V ga 46 [.int .i64 a, .int .i64 d, .int .i64 ca, .int .i64 co] → V.grownBy W (Value.slice ((upd A a (some ⟨g5, 0, none⟩)) d) n' cap).ownBlock → OwnR intC 3 1 w.heap.size W ((upd A a (some ⟨g5, 0, none⟩)) d) ((upd c a cap5) d) ((addAt (outsK N k) a ((ne : Nat) : Int)).getD d []) → NgJ w b gl cl bo E ce (upd A a (some ⟨g5, 0, none⟩)) (upd c a cap5) { left := N.sup, es := esK N k, outs := addAt (outsK N k) a ((ne : Nat) : Int) } W ∧ Blk W ga 46 [.int .i64 a, .int .i64 d, .int .i64 ca, .int .i64 co]) := Lib.hid (fun V W n' cap e1 e2 hV hX hg ho => ⟨hV.grown d (by show d < (addAt (outsK N k) a ((ne : Nat) : Int)).length; rw [OL5b.out]; exact hdn) e1 e2 hg ho, hX.grown hg (fun e => own_ne (hV.own d (by show d < (addAt (outsK N k) a ((ne : Nat) : Int)).length; rw [OL5b.out]; exact hdn)) (ownB_iff.2 e.symm) hX (by decide))⟩)
          have RW6 : Hid (∀ V, NgJ w b gl cl bo E ce (upd A a (some ⟨g5, 0, none⟩)) (upd c a cap5) { left := N.sup, es := esK N k, outs := addAt (outsK N k) a ((ne : Nat) : Int) } V → OwnR intC 3 1 w.heap.size V ((upd A a (some ⟨g5, 0, none⟩)) d) ((upd c a cap5) d) ((addAt (outsK N k) a ((ne : Nat) : Int)).getD d [])) := Lib.hid (fun V h => h.own d (by show d < (addAt (outsK N k) a ((ne : Nat) : Int)).length; rw [OL5b.out]; exact hdn))
          generalize hrow6 : (addAt (outsK N k) a ((ne : Nat) : Int)).getD d [] = row6 at *
          have HROW6 := Lib.hid hrow6
          clear hrow6
          generalize hAv6 : (upd A a (some ⟨g5, 0, none⟩)) d = Av6 at *
          generalize hcv6 : (upd c a cap5) d = cv6 at *
          have HAV6 := Lib.hid hAv6
          have HCV6 := Lib.hid hcv6
          clear hAv6 hcv6
          generalize hln6 : row6.length = ln6 at *
          have HLN6 := Lib.hid hln6
          clear hln6
          have shl6 := SHORT6.out
          refine wp_region_spine 20 [true, true] [] ?af6 (fun V => NgJ w b gl cl bo E ce (upd A a (some ⟨g5, 0, none⟩)) (upd c a cap5) { left := N.sup, es := esK N k, outs := addAt (outsK N k) a ((ne : Nat) : Int) } V ∧ Blk V ga 46 [.int .i64 a, .int .i64 d, .int .i64 ca, .int .i64 co]) (by kernel_rfl) (by kernel_rfl) ⟨J5b.out.drew, X5b.out.drew⟩ ?walk6 ?spine6
          case walk6 =>
            intro V hV
            obtain ⟨q1, q2, q3, q4, q5⟩ := SC6.out V hV
            clear hV
            simp only [List.take_succ_cons, List.take_zero]
            repeat (go_big_quiet_step (fail))
            refine wpQuiet_nil ?_
            rfl
          case spine6 =>
            rintro V ⟨h1, h2⟩
            have JV := Lib.hid h1
            have XV := Lib.hid h2
            clear h1 h2
            refine spineV_cons ?_
            unfold StepV
            go_simp
            have al := (Below.refl V.heap.size V).alloc (Nat.le_refl _) (.cells #[.int .i64 ((ne : Int) + 1)] 3)
            have JV6 := Lib.hid (JV.out.below al)
            have XV6 := Lib.hid (XV.out.below al XV.out.lt)
            have YV6 := Lib.hid (Blk.new' V #[.int .i64 ((ne : Int) + 1)] 3)
            clear al
            generalize V.alloc (.cells #[.int .i64 ((ne : Int) + 1)] 3) = V2 at JV6 XV6 YV6 ⊢
            refine ⟨⟨JV6.out, XV6.out⟩, ?_⟩
            generalize V.heap.size = gv at *
            refine spineV_cons ?_
            have row0 := RW6.out _ JV6.out
            unfold OwnR at row0
            rw [HLN6.out] at row0
            refine stepV_keep (.tmp 57) (.tmp 64) 26 rfl w.heap.size 3 i3 (.int .i64 0) 1 8 Try.underlying26 h3i h3z h3s h3b rfl (by decide) Av6 ln6 cv6 (flat intC row6) (by rfl) row0 ⟨gv, 0, none⟩ 1 1 [.int .i64 ((ne : Int) + 1)] (by rfl) (by rfl) ?_ (by simp [Value.oneCell']) (by omega) (by unfold maxLen; omega) (by omega) JV6.out.bel.size ?_
            · intro j u hj
              rcases j with _ | j
              · simp at hj; subst hj; exact YV6.out.cell 0 rfl
              · simp at hj
            intro g6 cap6 W3 ho hg hk hold
            have CK := GW6.out V2 W3 ln6 cv6 rfl rfl JV6.out XV6.out hg (by unfold OwnR; rw [HLN6.out]; exact hold)
            refine ⟨fun _ => CK, ?_⟩
            have J6b := Lib.hid (ST6.out V2 W3 g6 cap6 JV6.out CK.1 (by
              unfold OwnR
              rw [List.length_append, HLN6.out, flat_append]
              exact ho) hk)
            have X6b := Lib.hid (CK.2.setCell_ne (p := ⟨bo, d, none⟩) (fun e => by
              simp only at e
              subst e
              exact (blk_type_ne CK.2 CK.1.rows (by decide)) rfl) (.slice (some ⟨g6, 0, none⟩) (ln6 + 1) cap6))
            have z5 := CK.1.rows.free d
            obtain ⟨_, _, _, _, q5⟩ := SC6.out W3 CK
            clear ho hg hk hold CK row0
            refine spineV_nil ?_
            go_upto_region 7 with fail
            generalize W3.setCell ⟨bo, d, none⟩ (.slice (some ⟨g6, 0, none⟩) (ln6 + 1) cap6) = W6 at J6b X6b ⊢
            clear z5 q5 JV XV JV6 XV6 YV6 GW6 ST6 SC6 RW6
            go_upto_region 7 with fail
            rw [← HOK.out] at J6b
            generalize (upd (upd A a (some ⟨g5, 0, none⟩)) d (some ⟨g6, 0, none⟩)) = Af at J6b
            generalize (upd (upd c a cap5) d cap6) = cf at J6b
            have SC7 : Hid (∀ W, NgJ w b gl cl bo E ce Af cf { left := N.sup, es := esK N k, outs := outsK N (k + 1) } W ∧ Blk W ga 46 [.int .i64 a, .int .i64 d, .int .i64 ca, .int .i64 co] → W.cell? ⟨b, 1, none⟩ = some (.slice E ne ce) ∧ W.cell? ⟨ga, 0, none⟩ = some (.int .i64 a) ∧ W.cell? ⟨ga, 1, none⟩ = some (.int .i64 d) ∧ W.cell? ⟨ga, 2, none⟩ = some (.int .i64 ca) ∧ W.cell? ⟨ga, 3, none⟩ = some (.int .i64 co)) := Lib.hid (fun W h => by
              have q1 := h.1.blk.cell 1 rfl
              simp only [HNE.out] at q1
              exact ⟨q1, h.2.cell 0 rfl, h.2.cell 1 rfl, h.2.cell 2 rfl, h.2.cell 3 rfl⟩)
            have ES7 : Hid (∀ V, NgJ w b gl cl bo E ce Af cf { left := N.sup, es := esK N k, outs := outsK N (k + 1) } V → OwnR edC 144 3 w.heap.size V E ce (esK N k)) := Lib.hid (fun V h => h.es)
            have ED7 : Hid (∀ V W g cap, NgJ w b gl cl bo E ce Af cf { left := N.sup, es := esK N k, outs := outsK N (k + 1) } V → OwnR edC 144 3 w.heap.size W (some ⟨g, 0, none⟩) cap (esK N k ++ [⟨(d : Int), ca, co⟩, ⟨(a : Int), 0, -co⟩]) → V.grownBy W (Value.slice E ne ce).ownBlock → NgJ w b gl cl bo (some ⟨g, 0, none⟩) cap Af cf (grK N (k + 1)) (W.setCell ⟨b, 1, none⟩ (.slice (some ⟨g, 0, none⟩) (ne + 2) cap))) := Lib.hid (fun V W g cap h ho hg => by
              have := h.edges HNE.out.symm ho hg
              simp only [HNE.out] at this
              rw [← HESK.out] at this
              exact this)
            generalize hes : esK N k = es at *
            have HEE := Lib.hid hes
            clear hes
            refine wp_region_spine 18 [true, false] [0] ?af7 (fun V => NgJ w b gl cl bo E ce Af cf { left := N.sup, es := es, outs := outsK N (k + 1) } V ∧ Blk V ga 46 [.int .i64 a, .int .i64 d, .int .i64 ca, .int .i64 co]) (by kernel_rfl) (by kernel_rfl) ⟨J6b.out.drew, X6b.out.drew⟩ ?walk7 ?spine7
            case walk7 =>
              intro V hV
              obtain ⟨q1, q2, q3, q4, q5⟩ := SC7.out V hV
              clear hV
              simp only [List.take_succ_cons, List.take_zero]
              repeat (go_big_quiet_step (fail))
              refine wpQuiet_nil ?_
              rfl
            case spine7 =>
              rintro V ⟨h1, h2⟩
              have JV := Lib.hid h1
              have XV := Lib.hid h2
              clear h1 h2
              refine spineV_cons ?_
              unfold StepV
              go_simp
              have al := (Below.refl V.heap.size V).alloc (Nat.le_refl _) (.cells #[.int .i64 d, .int .i64 ca, .int .i64 co, .int .i64 a, .int .i64 0, .int .i64 (-co)] 144)
              have J8 := Lib.hid (JV.out.below al)
              have X8 := Lib.hid (XV.out.below al XV.out.lt)
              have Y8 := Lib.hid (Blk.new' V #[.int .i64 d, .int .i64 ca, .int .i64 co, .int .i64 a, .int .i64 0, .int .i64 (-co)] 144)
              clear al
              generalize V.alloc (.cells #[.int .i64 d, .int .i64 ca, .int .i64 co, .int .i64 a, .int .i64 0, .int .i64 (-co)] 144) = V2 at J8 X8 Y8 ⊢
              refine ⟨⟨J8.out, X8.out⟩, ?_⟩
              generalize V.heap.size = gv at *
              refine spineV_cons ?_
              have row0 := ES7.out _ J8.out
              unfold OwnR at row0
              rw [HNE.out] at row0
              refine stepV_keep (.tmp 71) (.tmp 85) 110 rfl w.heap.size 144 i4 (.agg #[.int .i64 0, .int .i64 0, .int .i64 0]) 3 24 Try.underlying110 h4i h4z h4s h4b rfl (by decide) E ne ce (flat edC es) (by rfl) row0 ⟨gv, 0, none⟩ 2 2 [.int .i64 d, .int .i64 ca, .int .i64 co, .int .i64 a, .int .i64 0, .int .i64 (-co)] (by rfl) (by rfl) ?_ (by simp [Value.oneCell']) (by omega) (by unfold maxLen; omega) (by omega) J8.out.bel.size ?_
              · intro j u hj
                rw [add_row]
                have hl : j < 6 := by
                  rcases Nat.lt_or_ge j 6 with h | h
                  · exact h
                  · rw [List.getElem?_eq_none (by simpa using h)] at hj; cases hj
                exact Y8.out.cell j hj
              intro g7 cap7 W3 ho hg hk hold
              refine ⟨fun h => (by cases h), ?_⟩
              have J9 := Lib.hid (ED7.out V2 W3 g7 cap7 J8.out (by
                unfold OwnR
                rw [List.length_append, HNE.out, flat_append]
                exact ho) hg)
              have blk1 := J8.out.blk.grown hg (fun e => own_ne J8.out.es (ownB_iff.2 e.symm) J8.out.blk (by decide))
              have z1 := blk1.free 1
              have q1 := blk1.cell 1 rfl
              clear ho hg hk hold row0 blk1
              refine spineV_nil ?_
              go_wp2_with fail
              generalize W3.setCell ⟨b, 1, none⟩ (.slice (some ⟨g7, 0, none⟩) (ne + 2) cap7) = W7 at J9 ⊢
              go_roundg (gk - 1)
              case measure => omega
              case rel => exact ⟨k + 1, by go_num, by omega, Lib.hid ⟨_, _, _, _, J9.out⟩⟩
      · obtain rfl : k = m := by omega
        go_wp2_with fail
        have hD := JR.out.done
        rw [show grK N k = gr0 N from by unfold grK gr0; rw [HM.out]] at hD
        exact bodyPost_ret (v := .pointer (some ⟨b, 0, none⟩)) (by simp [results, Try.results62, go_sem]) rfl ⟨b, gl, cl, E, ce, bo, rfl, JR.out.bel, hD⟩
end Go.Proofs.Ytmebpglkeedaoaa
namespace Go.Proofs.Ytmebpglkeedaoaa
namespace Dp
structure Sat (N : Net) (G : Gr) (k : Nat) : Prop where
  ok : G.Ok N.sup.length
  fit : Fits N G
  bd : ∀ v, v < N.sup.length → -(268435456 + 1048576 * k : Int) ≤ G.lf v ∧ G.lf v ≤ 268435456 + 1048576 * k
  todo : ∀ i, i < N.arcs.length → k ≤ 2 * i → G.room (2 * i + 1) = 0
  done : ∀ i, i < N.arcs.length → 2 * i < k → (G.cost (2 * i) < 0 → G.room (2 * i) = 0) ∧ (0 ≤ G.cost (2 * i) → G.room (2 * i + 1) = 0)
theorem sat_start {N : Net} {G : Gr} (h : chE N = 0) (hG : G.Ok N.sup.length) (hf : Fits N G) (h0 : ∀ i, i < N.arcs.length → G.room (2 * i + 1) = 0) : Sat N G 0 :=
  { ok := hG, fit := hf
    bd := fun v hv => by
      rw [hf.lf v hv, lv_zero _ _ (fun j hj => h0 j hj)]
      have := net_sup h v hv
      omega
    todo := fun i hi _ => h0 i hi
    done := fun i hi h => by omega }
theorem Sat.no {N : Net} {G : Gr} {k : Nat} (h : Sat N G k) (hc : ¬ (k % 2 = 0 ∧ G.cost k < 0)) : Sat N G (k + 1) :=
  { ok := h.ok, fit := h.fit
    bd := fun v hv => by have := h.bd v hv; omega
    todo := fun i hi hk => h.todo i hi (by omega)
    done := fun i hi hk => by
      by_cases e : 2 * i = k
      · refine ⟨fun hn => ?_, fun _ => h.todo i hi (by omega)⟩
        rw [e] at hn
        exact absurd ⟨by omega, hn⟩ hc
      · exact h.done i hi (by omega) }
theorem Sat.yes {N : Net} {G : Gr} {k : Nat} (h : Sat N G k) (hk : k < G.es.length) (h2 : k % 2 = 0) (hc : G.cost k < 0) : Sat N (G.push1 k (G.room k)) (k + 1) := by
  have hfine := h.ok.fine k hk
  have ha := push1_alike (x := G.room k) hk hfine.2.2
  have hr := push1_room (x := G.room k) hk hfine.2.2
  have hl := push1_lf (x := G.room k) hfine.2.1 hfine.1
  have hrk := h.ok.rm k hk
  have hrt := h.ok.rm (tw k) hfine.2.2
  rw [tw_tw] at hrt
  have hes := h.fit.es
  have hk3 : k < 4096 := by have := h.ok.le; omega
  exact
  { ok :=
    { n1 := h.ok.n1
      ll := by rw [ha.ll]; exact h.ok.ll
      lo := by rw [ha.outs]; exact h.ok.lo
      le := by rw [ha.le]; exact h.ok.le
      ev := by rw [ha.le]; exact h.ok.ev
      «to» := fun j hj => by rw [ha.to]; rw [ha.le] at hj; exact h.ok.to j hj
      ne := fun j hj => by rw [ha.toA, ha.frA]; rw [ha.le] at hj; exact h.ok.ne j hj
      co := fun j hj => by rw [ha.cost, ha.cost]; rw [ha.le] at hj; exact h.ok.co j hj
      cb := fun j hj => by rw [ha.cost]; rw [ha.le] at hj; exact h.ok.cb j hj
      rm := fun j hj => by
        rw [ha.le] at hj
        have h1 := h.ok.rm j hj
        rw [hr j, hr (tw j), tw_tw]
        by_cases a : j = k
        · subst a
          rw [if_pos rfl, if_neg (tw_ne j)]; omega
        · rw [if_neg a]
          by_cases b : tw j = k
          · have hb : G.room (tw j) = G.room k := by rw [b]
            rw [if_pos b]
            omega
          · rw [if_neg b]; omega
      lb := fun v hv => by
        have := h.bd v hv
        rw [hl v]
        split <;> split <;> omega
      o1 := fun v hv y hy => by
        rw [ha.outs] at hy
        rw [ha.le, ha.frA]
        exact h.ok.o1 v hv y hy
      o2 := fun j hj => by
        rw [ha.le] at hj
        rw [ha.outs, ha.frA]
        exact h.ok.o2 j hj
      o3 := fun v hv => by rw [ha.outs]; exact h.ok.o3 v hv }
    fit := h.fit.push1 h.ok.fine (G.room k) hk
    bd := fun v hv => by
      have := h.bd v hv
      rw [hl v]
      split <;> split <;> omega
    todo := fun i hi hki => by
      have e1 : ¬ 2 * i + 1 = k := by omega
      rw [hr, tw_odd, if_neg e1, if_neg (by omega)]
      have := h.todo i hi (by omega)
      omega
    done := fun i hi hki => by
      rw [ha.cost, hr, hr, tw_even, tw_odd]
      by_cases e : 2 * i = k
      · have e1 : ¬ 2 * i + 1 = k := by omega
        rw [if_pos e, if_neg e1, e]
        exact ⟨fun _ => by omega, fun hp => by omega⟩
      · have e1 : ¬ 2 * i + 1 = k := by omega
        rw [if_neg e, if_neg e1]
        have := h.done i hi (by omega)
        exact ⟨fun hp => by have := this.1 hp; omega, fun hp => by have := this.2 hp; omega⟩ }
theorem Sat.pot {N : Net} {G : Gr} (h : Sat N G G.es.length) : PotD G N.sup.length (List.replicate N.sup.length 0) 0 := by
  have hz : ∀ v, (List.replicate N.sup.length (0 : Int)).getD v 0 = 0 := fun v => by
    simp only [List.getD_eq_getElem?_getD, List.getElem?_replicate]
    split <;> rfl
  have hes := h.fit.es
  have hn := h.ok.n1
  exact
  { len := by simp
    lo := fun v _ => by rw [hz v]; omega
    d := by omega
    need := fun v _ _ => hz v
    rc := fun k hk hro => by
      unfold Gr.rc
      rw [hz, hz]
      rcases (show k = 2 * (k / 2) ∨ k = 2 * (k / 2) + 1 by omega) with e | e
      · generalize k / 2 = i at *
        subst e
        have := (h.done i (by omega) (by omega)).1
        omega
      · generalize k / 2 = i at *
        subst e
        have := (h.done i (by omega) (by omega)).2
        have h2 := h.fit.c0 i (by omega)
        omega
    src := fun v _ _ => hz v }
theorem rest_push {G : Gr} {n : Nat} {vi : List Int} {ks : List Nat} {s t : Nat} {x : Int} (h : Sent G n vi ks s t x) (hG : G.Ok n) : restV (G.pushL ks x).left = restV G.left - x := by
  have h1 := h.ok hG
  have ha := pushL_alike (x := x) h1.1
  have hl := pushL_lf (x := x) h.way hG.fine
  rw [rest_dot, rest_dot, ha.ll, hG.ll]
  have e : dotN (fun _ => 1) (fun v => max 0 ((G.pushL ks x).left.getD v 0)) n = dotN (fun _ => 1) (fun v => max 0 (G.left.getD v 0) - (if v = s then x else 0)) n := dot_congr n (fun v hv => by
    have := hl v
    unfold Gr.lf at this
    rw [this]
    have h2 := h.xs
    have h3 := h.xt
    have h4 := h.x0
    unfold Gr.lf at h2 h3
    by_cases e1 : v = s
    · subst e1
      by_cases e2 : v = t
      · subst e2; omega
      · rw [if_pos rfl, if_neg e2]; omega
    · rw [if_neg e1]
      by_cases e2 : v = t
      · subst e2; rw [if_pos rfl]; omega
      · rw [if_neg e2]; omega)
  rw [e, dot_sub, dot_at, if_pos h.sn]
  omega
def potI (n : Nat) (p fa : List Int) (d : Int) (k : Nat) : List Int := (List.range n).map fun v => if v < k then p.getD v 0 + min (fa.getD v 0) d else p.getD v 0
theorem potI_len (n : Nat) (p fa : List Int) (d : Int) (k : Nat) : (potI n p fa d k).length = n := by simp [potI]
theorem potI_get {n : Nat} {p fa : List Int} {d : Int} {k v : Nat} (hv : v < n) : (potI n p fa d k).getD v 0 = if v < k then p.getD v 0 + min (fa.getD v 0) d else p.getD v 0 := by
  simp [potI, List.getD_eq_getElem?_getD, hv]
theorem potI_zero {n : Nat} {p : List Int} (hp : p.length = n) (fa : List Int) (d : Int) : p = potI n p fa d 0 := by
  refine list_eq (by rw [potI_len, hp]) (fun v hv => ?_)
  rw [potI_len] at hv
  rw [potI_get hv, if_neg (Nat.not_lt_zero _)]
theorem potI_end (n : Nat) (p fa : List Int) (d : Int) : potI n p fa d n = potN n p fa d := by
  refine list_eq (by simp [potI, potN]) (fun v hv => ?_)
  have hv' : v < n := by simpa [potN] using hv
  rw [potI_get hv', potN_get hv', if_pos hv']
theorem potI_succ {n : Nat} {p fa : List Int} {d : Int} {k : Nat} (hk : k < n) : (potI n p fa d k).set k (p.getD k 0 + min (fa.getD k 0) d) = potI n p fa d (k + 1) := by
  refine list_eq (by simp [potI_len]) (fun v hv => ?_)
  rw [potI_len] at hv
  rw [getD_setI _ _ _ _ (by rw [potI_len]; exact hk), potI_get hv, potI_get hv]
  by_cases e : v = k
  · subst e; rw [if_pos rfl, if_pos (Nat.lt_succ_self v)]
  · rw [if_neg e]
    by_cases h : v < k
    · rw [if_pos h, if_pos (show v < k + 1 by omega)]
    · rw [if_neg h, if_neg (show ¬ v < k + 1 by omega)]
end Dp
end Go.Proofs.Ytmebpglkeedaoaa
namespace Go.Proofs.Ytmebpglkeedaoaa
open Go.RowKit Dp
theorem mv_at (l : List Int) (i : Nat) (d v : Int) (h : v = l.getD i 0 + d) : mv l (i : Int) d = l.set i v := by subst h; simp [mv]
theorem push1_eq {G : Gr} {n k : Nat} {x a d : Int} (hG : G.Ok n) (hk : k < G.es.length) (ha : a = G.lf (G.frA k) - x) (hd : d = G.lf (G.toA k) + x) :
    ({ left := (G.left.set (G.frA k) a).set (G.toA k) d, es := pushE G.es k x, outs := G.outs } : Gr) = G.push1 k x := by
  unfold Gr.push1
  rw [mv_at G.left (G.frA k) (-x) a (by rw [ha]; unfold Gr.lf; omega), mv_at _ (G.toA k) x d (by
    rw [getD_setI _ _ _ _ (by rw [hG.ll]; exact hG.frL hk), if_neg (hG.ne k hk), hd]; rfl)]
theorem OutsAt.more {w : World} {bo : Nat} {outs : List (List Int)} {S S' : Nat → Prop} (h : OutsAt w bo outs S) (hs : ∀ k, k < w.heap.size → ¬ S k → ¬ S' k) : OutsAt w bo outs S' := fun i hi => by
  obtain ⟨A, c, h1, h2, h3, h4, h5⟩ := h i hi
  exact ⟨A, c, h1, h2, h3, h4, fun k hk => ⟨(h5 k hk).1, hs k (h5 k hk).1 (h5 k hk).2⟩⟩
theorem GrAt.far {w : World} {B b gl cl ce bo gp : Nat} {E : Option Addr} {G : Gr} (h : GrAt w B b gl cl E ce bo G) (ho : OutsAt w bo G.outs (fun k => k = b ∨ k = gl ∨ OwnB E k ∨ k = gp)) {p : Addr} (hp : p.block = gp) (h1 : b ≠ gp) (h2 : gl ≠ gp) (h3 : ¬ OwnB E gp) (h4 : bo ≠ gp) (u : Value) :
    GrAt (w.setCell p u) B b gl cl E ce bo G ∧ OutsAt (w.setCell p u) bo G.outs (fun k => k = b ∨ k = gl ∨ OwnB E k ∨ k = gp) := by
  have ho2 := ho.touch (T := fun k => k = gp) h.bo.1 h4 (fun k e => .inr (.inr (.inr e))) ((Touch.refl (fun k => k = gp) w).setCell (p := p) (.inl hp) u)
  refine ⟨{ blk := h.blk.setCell_ne (by rw [hp]; exact h1) _, left := ownSet h.left (fun e => by have := ownB_some.1 e; rw [hp] at this; exact h2 this.symm) _, es := h.es.set_ne (by rw [hp]; exact h3) _, outs := ho2.more (fun k _ hn hs => hn (by rcases hs with a | a | a; exact .inl a; exact .inr (.inl a); exact .inr (.inr (.inl a)))), bo := ⟨by simp [World.setCell]; exact h.bo.1, h.bo.2⟩, ne := h.ne, base := h.base }, ho2⟩
set_option maxHeartbeats 2000000 in
set_option maxRecDepth 100000 in
theorem least_c (b gl cl ce bo B n : Nat) (E : Option Addr) (G : Gr) (N : Net) (w : World) (hn : N.sup.length = n) (hch : chE N = 0) (hG : G.Ok n) (hf : Fits N G) (h0 : ∀ i, i < N.arcs.length → G.room (2 * i + 1) = 0) (hg : GrAt w B b gl cl E ce bo G) :
    Calls Try.prog 63 #[.pointer (some ⟨b, 0, none⟩)] w fun e w' => ∃ (gp : Nat) (G' : Gr) (p fa vi : List Int) (D : Int), e = .returned (.slice (some ⟨gp, 0, none⟩) n n) ∧ Fl 2 w' gp p ∧ GrAt w' B b gl cl E ce bo G' ∧ G'.Ok n ∧ Fits N G' ∧ PotD G' n p D ∧ NR G' n p fa vi (-1) ∧ Touch (fun k => k = gl ∨ OwnB E k) w w' ∧ w.heap.size ≤ gp := by
  have HN := Lib.hid hn
  have HCH := Lib.hid hch
  have S0 : Hid (Sat N G 0) := Lib.hid (sat_start hch (by rw [hn]; exact hG) hf h0)
  have HA := Lib.hid hg
  have n1 := hG.n1.1
  have n2 := hG.n1.2
  have hle := hG.le
  have c1 := hg.blk.cell 1 rfl
  have gll := hg.left.lt.2
  have EBL := Lib.hid (fun k (h : OwnB E k) => (ownLt hg.es h).1)
  clear hn hch h0 hf hg
  generalize hml : G.es.length = ml at *
  have HML := Lib.hid hml
  clear hml
  go_enter Try.func63, Try.ntmps63
  go_wp2_with fail
  go_loopg [15] ml (fun q iv wr => ∃ k : Nat, iv = .int .i64 k ∧ k + q = ml ∧ Hid (∃ G1, Dp.Alike G G1 ∧ Sat N G1 k ∧ GrAt wr B b gl cl E ce bo G1 ∧ Touch (fun k => k = gl ∨ OwnB E k) w wr))
  case atStart => exact ⟨0, rfl, by omega, Lib.hid ⟨G, Alike.refl G, S0.out, HA.out, Touch.refl _ _⟩⟩
  case round =>
    obtain ⟨k, rfl, hkq, HJ⟩ := hrel
    obtain ⟨G1, q1, q2, q3, q4⟩ := HJ.out
    have AL := Lib.hid q1
    have SA := Lib.hid q2
    have GA := Lib.hid q3
    have TA := Lib.hid q4
    clear HJ q1 q2 q3 q4 c1
    by_cases hlt : k < ml
    · have hki : (k : Int) < (ml : Int) := by omega
      obtain ⟨ge, rfl, gel, e0, e1, e2⟩ := GA.out.edge k (by rw [AL.out.le, HML.out]; exact hlt)
      have HTO : Hid (G1.toA k = (G1.es.getD k default).to.toNat) := Lib.hid rfl
      have HRM : Hid (G1.room k = (G1.es.getD k default).room) := Lib.hid rfl
      have HCO : Hid (G1.cost k = (G1.es.getD k default).cost) := Lib.hid rfl
      have hto := SA.out.ok.to k (by rw [AL.out.le, HML.out]; exact hlt)
      generalize G1.es.getD k default = ed at *
      obtain ⟨t0, ro, co⟩ := ed
      simp only at e0 e1 e2 hto HTO HRM HCO
      obtain ⟨v, rfl⟩ : ∃ v : Nat, t0 = (v : Int) := ⟨t0.toNat, by omega⟩
      simp only [Int.toNat_natCast] at HTO
      by_cases hpar : k % 2 = 0
      · have hp1 : (k : Int) % 2 = 0 := by omega
        by_cases hco : co < 0
        · have d1 : decide (co < 0) = true := decide_eq_true hco
          -- the arc carries all it can
          have SY := Lib.hid (SA.out.yes (by rw [AL.out.le, HML.out]; exact hlt) hpar (by rw [HCO.out]; exact hco))
          have hkl : k < G1.es.length := by rw [AL.out.le, HML.out]; exact hlt
          have PE := Lib.hid (fun x a d => push1_eq (x := x) (a := a) (d := d) SA.out.ok hkl)
          have AY := Lib.hid (AL.out.trans (push1_alike (x := G1.room k) hkl (SA.out.ok.tl hkl)))
          have htl := SA.out.ok.tl hkl
          have hne : G1.toA k ≠ G1.frA k := SA.out.ok.ne k hkl
          have hfn := SA.out.ok.frL hkl
          have hvn := SA.out.ok.toL hkl
          have hbf := SA.out.bd _ hfn
          have hbv := SA.out.bd _ hvn
          have hrm := SA.out.ok.rm k hkl
          have hrt := SA.out.ok.rm (tw k) htl
          rw [tw_tw] at hrt
          have LL1 : Hid (G1.left.length = n) := Lib.hid (by rw [SA.out.ok.ll, HN.out])
          have hp2 : tw k = k + 1 := by unfold tw; rw [if_pos hpar]
          obtain ⟨ge', hge, _, f0, _, _⟩ := GA.out.edge (tw k) htl
          cases hge
          rw [ok_to SA.out.ok htl] at f0
          have HFR : Hid (G1.frA k = G1.toA (tw k)) := Lib.hid rfl
          rw [← HFR.out, hp2] at f0
          rw [AL.out.le, HML.out, hp2] at htl
          rw [hp2] at hrm hrt
          rw [HTO.out] at hne hvn hbv PE
          rw [HRM.out] at hrm hrt SY AY
          rw [HN.out] at hfn hvn
          generalize hfrg : G1.frA k = fr at *
          have HFG := Lib.hid hfrg
          have HLF : Hid (G1.lf fr = G1.left.getD fr 0 ∧ G1.lf v = G1.left.getD v 0) := Lib.hid ⟨rfl, rfl⟩
          rw [HLF.out.1, HLF.out.2] at PE
          rw [HLF.out.1] at hbf
          rw [HLF.out.2] at hbv
          clear hfrg
          have hk1 : k + 1 < ml := htl
          have hk1i : (k : Int) + 1 < (ml : Int) := by omega
          have hk2 : k < 4096 := by omega
          have CW : Hid (∀ W, GrAt W B b gl cl (some ⟨ge, 0, none⟩) ce bo G1 → W.cell? ⟨b, 0, none⟩ = some (.slice (some ⟨gl, 0, none⟩) n cl) ∧ W.cell? ⟨b, 1, none⟩ = some (.slice (some ⟨ge, 0, none⟩) ml ce) ∧ W.cell? ⟨ge, (k + 1) * 3, none⟩ = some (.int .i64 fr) ∧ W.cell? ⟨gl, fr, none⟩ = some (.int .i64 (G1.left.getD fr 0))) := Lib.hid (fun W h => by
            have q0 := h.blk.cell 0 rfl
            have q1 := h.blk.cell 1 rfl
            rw [LL1.out] at q0
            rw [AL.out.le, HML.out] at q1
            obtain ⟨ge', hge, _, g0, _, _⟩ := h.edge (k + 1) (by rw [AL.out.le, HML.out]; exact hk1)
            cases hge
            rw [← hp2, ok_to SA.out.ok (by rw [hp2, AL.out.le, HML.out]; exact hk1), ← HFR.out, hp2] at g0
            exact ⟨q0, q1, g0, h.left.cell fr (by rw [LL1.out]; exact hfn)⟩)
          have LV : Hid (∀ x, (G1.left.set fr x).getD v 0 = G1.left.getD v 0) := Lib.hid (fun x => by rw [getD_setI _ _ _ _ (by rw [LL1.out]; exact hfn), if_neg hne])
          go_upto_region 5 with fail
          have al := (Below.refl wr.heap.size wr).alloc (Nat.le_refl _) (.cells #[.int .i64 v, .int .i64 ro, .int .i64 co] 144)
          have G2 := Lib.hid (GA.out.below al)
          have T2 := Lib.hid (TA.out.below al)
          have X2 := Lib.hid (Blk.new' wr #[.int .i64 v, .int .i64 ro, .int .i64 co] 144)
          clear al f0 e0 e1 e2
          have hgx : wr.heap.size ≠ gl := by have := GA.out.left.lt.2; omega
          generalize wr.alloc (.cells #[.int .i64 v, .int .i64 ro, .int .i64 co] 144) = w2 at G2 T2 X2 ⊢
          generalize wr.heap.size = gx at *
          have hfi : (fr : Int) < (n : Int) := by omega
          have hvi : (v : Int) < (n : Int) := by omega
          generalize hlfr : G1.left.getD fr 0 = lfr at *
          generalize hlv : G1.left.getD v 0 = lv0 at *
          have HL1 := Lib.hid hlfr
          have HL2 := Lib.hid hlv
          clear hlfr hlv
          refine wp_region_spine 19 [false] [] ?af5 (fun V => GrAt V B b gl cl (some ⟨ge, 0, none⟩) ce bo G1 ∧ Touch (fun k => k = gl ∨ OwnB (some ⟨ge, 0, none⟩) k) w V ∧ Blk V gx 144 [.int .i64 v, .int .i64 ro, .int .i64 co]) (by kernel_rfl) (by kernel_rfl) ⟨G2.out.below (Below.refl _ _).drew, T2.out.drew, X2.out.drew⟩ ?walk5 ?spine5
          case walk5 =>
            rintro V ⟨h1, _, h3⟩
            obtain ⟨q0, q1, q2, q3⟩ := CW.out V h1
            have x1 := h3.cell 1 rfl
            clear h1 h3
            simp only [List.take_succ_cons, List.take_zero]
            repeat (go_big_quiet_step (fail))
            refine wpQuiet_nil ?_
            rfl
          case spine5 =>
            rintro V ⟨h1, h2, h3⟩
            obtain ⟨q0, q1, q2, q3⟩ := CW.out V h1
            have z0 := h1.left.free fr
            have G3 := Lib.hid (h1.putL fr (lfr - ro))
            have T3 := Lib.hid (h2.setCell (p := ⟨gl, fr, none⟩) (.inl (.inl rfl)) (.int .i64 (lfr - ro)))
            have X3 := Lib.hid (h3.setCell_ne (p := ⟨gl, fr, none⟩) hgx (.int .i64 (lfr - ro)))
            clear h1 h2 h3
            refine spineV_cons ?_
            unfold StepV
            go_simp
            generalize V.setCell ⟨gl, fr, none⟩ (.int .i64 (lfr - ro)) = V1 at G3 T3 X3 ⊢
            clear q0 q1 q2 q3 z0
            refine spineV_nil ?_
            go_upto_region 6 with fail
            have CV : Hid (∀ W, GrAt W B b gl cl (some ⟨ge, 0, none⟩) ce bo { G1 with left := G1.left.set fr (lfr - ro) } → W.cell? ⟨b, 0, none⟩ = some (.slice (some ⟨gl, 0, none⟩) n cl) ∧ W.cell? ⟨gl, v, none⟩ = some (.int .i64 lv0)) := Lib.hid (fun W h => by
              have q0 := h.blk.cell 0 rfl
              have q1 := h.left.cell v (by show v < (G1.left.set fr (lfr - ro)).length; rw [List.length_set, LL1.out]; exact hvn)
              simp only [List.length_set, LL1.out] at q0
              simp only [LV.out] at q1
              exact ⟨q0, q1⟩)
            refine wp_region_spine 12 [false] [] ?af6 (fun V => GrAt V B b gl cl (some ⟨ge, 0, none⟩) ce bo { G1 with left := G1.left.set fr (lfr - ro) } ∧ Touch (fun k => k = gl ∨ OwnB (some ⟨ge, 0, none⟩) k) w V ∧ Blk V gx 144 [.int .i64 v, .int .i64 ro, .int .i64 co]) (by kernel_rfl) (by kernel_rfl) ⟨G3.out.below (Below.refl _ _).drew, T3.out.drew, X3.out.drew⟩ ?walk6 ?spine6
            case walk6 =>
              rintro V ⟨h1, _, h3⟩
              obtain ⟨q0, q1⟩ := CV.out V h1
              have x0 := h3.cell 0 rfl
              have x1 := h3.cell 1 rfl
              clear h1 h3
              simp only [List.take_succ_cons, List.take_zero]
              repeat (go_big_quiet_step (fail))
              refine wpQuiet_nil ?_
              rfl
            case spine6 =>
              rintro V ⟨h1, h2, h3⟩
              obtain ⟨q0, q1⟩ := CV.out V h1
              have z0 := h1.left.free v
              have G4 := Lib.hid (h1.putL v (lv0 + ro))
              have T4 := Lib.hid (h2.setCell (p := ⟨gl, v, none⟩) (.inl (.inl rfl)) (.int .i64 (lv0 + ro)))
              have X4 := Lib.hid (h3.setCell_ne (p := ⟨gl, v, none⟩) hgx (.int .i64 (lv0 + ro)))
              clear h1 h2 h3
              refine spineV_cons ?_
              unfold StepV
              go_simp
              generalize V.setCell ⟨gl, v, none⟩ (.int .i64 (lv0 + ro)) = V2 at G4 T4 X4 ⊢
              clear q0 q1 z0
              refine spineV_nil ?_
              have x1 := X4.out.cell 1 rfl
              go_wp2_with fail
              have PU := push_c b gl cl ce bo B (some ⟨ge, 0, none⟩) { left := (G1.left.set fr (lfr - ro)).set v (lv0 + ro), es := G1.es, outs := G1.outs } k ro V2 (by show k < G1.es.length; rw [AL.out.le, HML.out]; exact hlt) (by show tw k < G1.es.length; rw [hp2, AL.out.le, HML.out]; exact hk1) (by show G1.es.length ≤ 4096; rw [AL.out.le, HML.out]; exact hle)
                (by show -8589934592 ≤ G1.room k ∧ G1.room k ≤ 8589934592; rw [HRM.out]; omega) (by show -8589934592 ≤ G1.room (tw k) ∧ G1.room (tw k) ≤ 8589934592; rw [hp2]; omega) (by omega) G4.out
              refine PU.mono ?_
              rintro e V3 ⟨rfl, g5, t5⟩
              have G5 : GrAt V3 B b gl cl (some ⟨ge, 0, none⟩) ce bo (G1.push1 k ro) := by
                have e := PE.out ro (lfr - ro) (lv0 + ro) rfl rfl
                rw [← e]
                exact g5
              have G5 := Lib.hid G5
              have T5 := Lib.hid (T4.out.trans (t5.mono (fun q hq => .inr hq)))
              clear g5 t5 PU x1
              go_wp2_with fail
              go_roundg (gk - 1)
              case measure => omega
              case rel => exact ⟨k + 1, by go_num, by omega, Lib.hid ⟨_, AY.out, SY.out, G5.out, T5.out⟩⟩
        · have d1 : decide (co < 0) = false := decide_eq_false hco
          have SN := Lib.hid (SA.out.no (fun h => hco (by have := h.2; rw [HCO.out] at this; exact this)))
          have al := (Below.refl wr.heap.size wr).alloc (Nat.le_refl _) (.cells #[.int .i64 v, .int .i64 ro, .int .i64 co] 144)
          have G2 := Lib.hid (GA.out.below al)
          have T2 := Lib.hid (TA.out.below al)
          clear al
          go_wp2_with fail
          go_roundg (gk - 1)
          case measure => omega
          case rel => exact ⟨k + 1, by go_num, by omega, Lib.hid ⟨G1, AL.out, SN.out, G2.out, T2.out⟩⟩
      · have hp1 : (k : Int) % 2 = 1 := by omega
        have SN := Lib.hid (SA.out.no (fun h => hpar h.1))
        have al := (Below.refl wr.heap.size wr).alloc (Nat.le_refl _) (.cells #[.int .i64 v, .int .i64 ro, .int .i64 co] 144)
        have G2 := Lib.hid (GA.out.below al)
        have T2 := Lib.hid (TA.out.below al)
        clear al
        go_wp2_with fail
        go_roundg (gk - 1)
        case measure => omega
        case rel => exact ⟨k + 1, by go_num, by omega, Lib.hid ⟨G1, AL.out, SN.out, G2.out, T2.out⟩⟩
    · obtain rfl : ml = k := by omega
      have SP : Hid (PotD G1 n (List.replicate n 0) 0) := Lib.hid (by
        have h := SA.out
        have e : G1.es.length = ml := by rw [AL.out.le, HML.out]
        rw [← e] at h
        have h2 := h.pot
        rw [HN.out] at h2
        exact h2)
      have OK1 : Hid (G1.Ok n) := Lib.hid (by have := SA.out.ok; rw [HN.out] at this; exact this)
      have FT1 := Lib.hid SA.out.fit
      have hm1 := make_64 n (by omega)
      have c2 := GA.out.blk.cell 2 rfl
      rw [OK1.out.lo] at c2
      clear SA S0
      have F0 := Lib.hid (fl_new 2 n wr)
      have al := (Below.refl wr.heap.size wr).alloc (Nat.le_refl _) (.cells (Array.replicate n (.int .i64 0)) 2)
      have G2 := Lib.hid (GA.out.below al)
      have T2 := Lib.hid (TA.out.below al)
      have hgp : w.heap.size ≤ wr.heap.size := TA.out.size
      have hgl : gl < wr.heap.size := GA.out.left.lt.2
      have EB2 := Lib.hid (fun k (h : OwnB E k) => (ownLt GA.out.es h).1)
      have HO1 := Lib.hid (GA.out.outs.more (S' := fun k => k = b ∨ k = gl ∨ OwnB E k ∨ k = wr.heap.size) (fun k hk hn hs => by
        rcases hs with a | a | a | a
        · exact hn (.inl a)
        · exact hn (.inr (.inl a))
        · exact hn (.inr (.inr a))
        · omega))
      have HO2 := Lib.hid (HO1.out.below GA.out.bo.1 al)
      have hbgp : b ≠ wr.heap.size := by have := GA.out.blk.lt; omega
      have hglp : gl ≠ wr.heap.size := by omega
      have hbop : bo ≠ wr.heap.size := by have := GA.out.bo.1; omega
      have hegp : ¬ OwnB E wr.heap.size := fun h => by have := EB2.out _ h; omega
      clear al HO1
      go_wp2_with fail
      generalize wr.alloc (.cells (Array.replicate n (.int .i64 0)) 2) = w2 at F0 G2 T2 HO2 ⊢
      generalize wr.heap.size = gp at *
      clear c2 GA TA
      go_loopg [8] (restV G1.left).toNat (fun q ev wr => Hid (∃ G2 p D, Dp.Alike G G2 ∧ G2.Ok n ∧ Fits N G2 ∧ GrAt wr B b gl cl E ce bo G2 ∧ Fl 2 wr gp p ∧ PotD G2 n p D ∧ (restV G2.left).toNat = q ∧ Touch (fun k => k = gl ∨ OwnB E k) w wr ∧ OutsAt wr bo G2.outs (fun k => k = b ∨ k = gl ∨ OwnB E k ∨ k = gp)))
      case atStart => exact Lib.hid ⟨G1, _, 0, AL.out, OK1.out, FT1.out, G2.out, F0.out, SP.out, rfl, T2.out, HO2.out⟩
      case round =>
        clear AL OK1 FT1 G2 F0 SP T2
        obtain ⟨G2, p, D, q1, q2, q3, q4, q5, q6, q7, q8, q9⟩ := hrel.out
        have AL := Lib.hid q1
        have OK := Lib.hid q2
        have FT := Lib.hid q3
        have GA := Lib.hid q4
        have FP := Lib.hid q5
        have PD := Lib.hid q6
        have HR := Lib.hid q7
        have TA := Lib.hid q8
        have PL := Lib.hid q6.len
        have HO := Lib.hid q9
        clear hrel q1 q2 q3 q4 q5 q6 q7 q8 q9 HO2
        go_wp2_with fail
        refine (nearest_c b gl cl ce bo B n n E (some ⟨gp, 0, none⟩) G2 p wr OK.out (PD.out.pot n2) GA.out FP.out.ints ⟨Nat.le_refl _, by omega⟩).mono ?_
        rintro e w3 ⟨gf, gb, fa, vi, en, rfl, hb3, hf3, hv3, z1, z2, nr⟩
        have G3 := Lib.hid (GA.out.below hb3)
        have T3 := Lib.hid (TA.out.below hb3)
        have P3 := Lib.hid (FP.out.below hb3)
        have F3 := Lib.hid hf3
        have V3 := Lib.hid hv3
        have O3 := Lib.hid (HO.out.below GA.out.bo.1 hb3)
        have NRR := Lib.hid nr
        have hpf : gp ≠ gf := by have := FP.out.lt; omega
        have hpb : gb ≠ gl ∧ ¬ OwnB E gb := by
          have h1 := GA.out.left.lt.2
          refine ⟨by omega, fun h => ?_⟩
          have := (ownLt GA.out.es h).1
          omega
        clear hb3 hf3 hv3 nr
        by_cases hen : en < 0
        · have hem : en = -1 := by
            rcases NRR.out.fin with ⟨e, _⟩ | ⟨t, e, _⟩
            · exact e
            · omega
          subst hem
          go_wp2_with fail
          exact bodyPost_ret (v := .slice (some ⟨gp, 0, none⟩) n n) (by simp [results, Try.results63, go_sem]) rfl ⟨gp, G2, p, fa, vi, D, rfl, P3.out, G3.out, OK.out, FT.out, PD.out, NRR.out, T3.out, hgp⟩
        · obtain ⟨t, rfl⟩ : ∃ t : Nat, en = t := ⟨en.toNat, by omega⟩
          have TF : Hid (t < n ∧ G2.lf t < 0 ∧ fa.getD t 0 < never ∧ ∀ v, v < n → G2.lf v < 0 → fa.getD t 0 ≤ fa.getD v 0) := Lib.hid (by
            rcases NRR.out.fin with ⟨e, _⟩ | ⟨t', e, h1, h2, h3, h4⟩
            · omega
            · obtain rfl : t' = t := by omega
              exact ⟨h1, h2, h3, h4⟩)
          have htn : t < n := TF.out.1
          have hti : (t : Int) < (n : Int) := by omega
          have ftb := NRR.out.top t htn
          have P0 : Hid (Fl 2 w3 gp (potI n p fa (fa.getD t 0) 0)) := Lib.hid (by rw [← potI_zero PL.out fa (fa.getD t 0)]; exact P3.out)
          have PG := Lib.hid (fun k v (hv : v < n) => potI_get (p := p) (fa := fa) (d := fa.getD t 0) (k := k) hv)
          have PS := Lib.hid (fun k (hk : k < n) => potI_succ (p := p) (fa := fa) (d := fa.getD t 0) hk)
          have PEN := Lib.hid (potI_end n p fa (fa.getD t 0))
          have PLN := Lib.hid (potI_len n p fa (fa.getD t 0))
          have FTC : Hid (∀ W, Fl 2 W gf fa → W.cell? ⟨gf, t, none⟩ = some (.int .i64 (fa.getD t 0))) := Lib.hid (fun W h => h.cell t (by rw [NRR.out.l1]; exact htn))
          have RP := Lib.hid (fun x ks s (h1 : Sent G2 n vi ks s t x) h2 => round_pot OK.out PD.out NRR.out h1 h2)
          generalize hft : fa.getD t 0 = ft at *
          have HFT := Lib.hid hft
          clear hft P3
          unfold never at ftb
          go_wp2_with fail
          go_loopw [83] (fun iv wr => ∃ k : Nat, iv = .int .i64 k ∧ k ≤ n ∧ Hid (Fl 2 wr gp (potI n p fa ft k) ∧ Fl 2 wr gf fa ∧ Fl 3 wr gb vi ∧ GrAt wr B b gl cl E ce bo G2 ∧ Touch (fun k => k = gl ∨ OwnB E k) w wr ∧ OutsAt wr bo G2.outs (fun k => k = b ∨ k = gl ∨ OwnB E k ∨ k = gp))) (fun iv _ => n - (intOf iv).toNat)
          case atStart => exact ⟨0, rfl, Nat.zero_le _, Lib.hid ⟨P0.out, F3.out, V3.out, G3.out, T3.out, O3.out⟩⟩
          case round =>
            clear P0 F3 V3 G3 T3 O3
            obtain ⟨k, rfl, hk, HJ⟩ := hrel
            by_cases hlt : k < n
            · have hki : (k : Int) < (n : Int) := by omega
              have pb := PD.out.lo k hlt
              have pd := PD.out.d
              have fkb := NRR.out.top k hlt
              unfold never at fkb
              have PCK : Hid (∀ W, Fl 2 W gp (potI n p fa ft k) → W.cell? ⟨gp, k, none⟩ = some (.int .i64 (p.getD k 0))) := Lib.hid (fun W h => by
                have := h.cell k (by rw [PLN.out]; exact hlt)
                rw [PG.out k k hlt, if_neg (Nat.lt_irrefl k)] at this
                exact this)
              have FKC : Hid (∀ W, Fl 2 W gf fa → W.cell? ⟨gf, k, none⟩ = some (.int .i64 (fa.getD k 0))) := Lib.hid (fun W h => h.cell k (by rw [NRR.out.l1]; exact hlt))
              have PSK := Lib.hid (PS.out k hlt)
              generalize p.getD k 0 = pk at *
              generalize fa.getD k 0 = fk at *
              have hmn := fun ts t W => min_i64 fk ft ts t W
              generalize hy : min fk ft = y at *
              have hy1 : 0 ≤ y ∧ y ≤ 1152921504606846976 := by omega
              have s1 : IntKind.i64.wrap (pk + y) = pk + y := IntWalk.i64_in _ (by omega)
              clear hy
              go_upto_region 16 with fail
              refine wp_region_spine 15 [false] [] ?af16 (fun V => Fl 2 V gp (potI n p fa ft k) ∧ Fl 2 V gf fa ∧ Fl 3 V gb vi ∧ GrAt V B b gl cl E ce bo G2 ∧ Touch (fun k => k = gl ∨ OwnB E k) w V ∧ OutsAt V bo G2.outs (fun k => k = b ∨ k = gl ∨ OwnB E k ∨ k = gp)) (by kernel_rfl) (by kernel_rfl) ⟨Blk.drew HJ.out.1, Blk.drew HJ.out.2.1, Blk.drew HJ.out.2.2.1, HJ.out.2.2.2.1.below (Below.refl _ _).drew, HJ.out.2.2.2.2.1.drew, HJ.out.2.2.2.2.2.below HJ.out.2.2.2.1.bo.1 (Below.refl _ _).drew⟩ ?walk16 ?spine16
              case walk16 =>
                rintro V ⟨h1, h2, _, _, _, _⟩
                have q0 := PCK.out V h1
                have q1 := FKC.out V h2
                have q2 := FTC.out V h2
                clear h1 h2
                simp only [List.take_succ_cons, List.take_zero]
                repeat (go_big_quiet_step (fail))
                refine wpQuiet_nil ?_
                rfl
              case spine16 =>
                rintro V ⟨h1, h2, h3, h4, h5, h6⟩
                have q0 := PCK.out V h1
                have z0 := h1.free k
                have H1 := h1.put k (pk + y)
                rw [PSK.out] at H1
                have H1 := Lib.hid H1
                have H2 := Lib.hid (h2.set_ne (p := ⟨gp, k, none⟩) (fun e => hpf e.symm) (.int .i64 (pk + y)))
                have H3 := Lib.hid (h3.set_ne (p := ⟨gp, k, none⟩) (fun e => by simp only at e; subst e; exact (h1.ne h3 (by decide)) rfl) (.int .i64 (pk + y)))
                have H5 := Lib.hid (h5.setCell (p := ⟨gp, k, none⟩) (.inr hgp) (.int .i64 (pk + y)))
                have H4 := Lib.hid (h4.far h6 (p := ⟨gp, k, none⟩) rfl hbgp hglp hegp hbop (.int .i64 (pk + y)))
                clear h1 h2 h3 h4 h5 h6
                refine spineV_cons ?_
                unfold StepV
                go_simp
                generalize V.setCell ⟨gp, k, none⟩ (.int .i64 (pk + y)) = V1 at H1 H2 H3 H4 H5 ⊢
                clear q0 z0
                refine spineV_nil ?_
                go_wp2_with fail
                go_roundw
                case rel => exact ⟨k + 1, by go_num, by omega, Lib.hid ⟨H1.out, H2.out, H3.out, H4.out.1, H5.out, H4.out.2⟩⟩
                case measure => simp [intOf]; omega
            · obtain rfl : n = k := by omega
              obtain ⟨h1, h2, h3, h4, h5, h6⟩ := HJ.out
              rw [PEN.out] at h1
              have H1 := Lib.hid h1
              have H4 := Lib.hid h4
              have H5 := Lib.hid h5
              have H6 := Lib.hid h6
              have HV := Lib.hid h3.ints
              obtain ⟨S, s1, s2, s3, s4⟩ := NRR.out.ch
              obtain ⟨ks, s, w1, w2', w3', w4, w5⟩ := chn_way s1 s4 t ((s2 t htn).2 (by rw [HFT.out]; exact TF.out.2.2.1))
              have hsn : s < n := s3 s (w5 s (w1.last))
              have SE := Lib.hid (send_c b gl cl ce bo B n n s t E (some ⟨gb, 0, none⟩) G2 vi ks wr OK.out w1 w4 hsn htn w2' TF.out.2.1 (fun j hj => (w3' j hj).1) NRR.out.l2 ⟨Nat.le_refl _, by omega⟩ H4.out HV.out (fun q hq => by rw [ownB_some.1 hq]; exact hpb))
              have RPK := Lib.hid (fun x h => RP.out x ks s h w3')
              clear h1 h2 h3 h4 h5 h6 HJ s1 s2 s3 s4 w1 w2' w3' w4 w5 RP
              go_wp2_with fail
              refine SE.out.mono ?_
              rintro e w6 ⟨rfl, x, hse, hga, hto⟩
              have SX := Lib.hid hse
              have G6 := Lib.hid hga
              have T6 := Lib.hid (H5.out.trans hto)
              have P6 := Lib.hid (H1.out.touch hto (fun h => by
                rcases h with h | h
                · exact hglp h.symm
                · exact hegp h))
              have ok := hse.ok OK.out
              have A6 := Lib.hid (AL.out.trans (pushL_alike (x := x) ok.1))
              have O6 := Lib.hid (H6.out.touch (T := fun k => k = gl ∨ OwnB E k) H4.out.bo.1 (fun h => by
                rcases h with h | h
                · exact H4.out.bo.2.2.1 h
                · exact H4.out.bo.2.2.2 h) (fun k hk => by
                rcases hk with h | h
                · exact .inr (.inl h)
                · exact .inr (.inr (.inl h))) hto)
              rw [← (pushL_alike (x := x) ok.1).outs] at O6
              have F6 := Lib.hid (FT.out.pushL OK.out.fine (ks := ks) (x := x) (fun j hj => (ok.1 j hj).1))
              have D6 := Lib.hid (RPK.out x hse)
              have M6 := Lib.hid (rest_push hse OK.out)
              have MN := Lib.hid (rest_nn (G2.pushL ks x).left)
              have OK6 := Lib.hid ok.2.2
              clear hse hga hto ok SE RPK
              go_wp2_with fail
              go_roundg (restV (G2.pushL ks x).left).toNat
              case measure => have h1 := M6.out; have h2 := MN.out; have h3 := SX.out.x0; have h4 := HR.out; omega
              case rel => exact Lib.hid ⟨_, _, _, A6.out, OK6.out, F6.out, G6.out, P6.out, D6.out, rfl, T6.out, O6.out⟩
end Go.Proofs.Ytmebpglkeedaoaa
