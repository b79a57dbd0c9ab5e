/- General: as R8, where some operations that only take a result apart may come up behind the first store. General: as R8, where the first store, of a struct into a new variable, may come up ahead of operations that read for the second one. The contract of ends of coulombref06. The contract of possible of coulombref06. The contracts of allowed and Allowed of coulombref06 and of Allowed of drive. The contracts of Allowed of drive and of coulombref06. Contracts of meet of drive and cut of coulombref06. Plain definitions of a play (P6.10): its head, a round, the whole. long (fn 64): the case is too long. The reference Play (fn 66): what it leaves; refused by the motor. The reference Play (fn 66): refused by Apply. Plain facts of a play: the code of its head, in each case. The states that a play has made, in memory. The reference Play (fn 66): its third loop. -/
import Derived.Test.YtcneohhfnnelgaaPl3
import Derived.Laws.CopyOwn
import Derived.OwnWalk
import Derived.Deep.Cut
namespace Go.Proofs.Ytcneohhfnnelgaa
open Go Go.RowKit
set_option linter.unusedVariables false

def isExtract (o : Oper) : Bool := (match o.op with | .extract _ _ => true | _ => false) && o.guard.isNone
theorem extract_any {P : Program} {v : Value} {ix : Nat} {w : World} {u : Value} (h : (Instr.extract v ix).run P w = .ok u w) (w' : World) : (Instr.extract v ix).run P w' = .ok u w' := by
  cases v with
  | tuple vs =>
    unfold Instr.extract at h ⊢
    by_cases hi : ix < vs.size
    · simp [hi] at h ⊢
      exact h
    · simp [hi] at h
  | _ => simp [Instr.extract] at h
theorem extract_yields {P : Program} {ops : Array Oper} {W : World} {o : Oper} {v : Value} {a : Act} (he : isExtract o = true) (h : YieldsIn P ops (fun w' => ∃ x : Past W, w' = x.w) o v a) : Yields P ops o v a := by
  unfold isExtract at he
  simp only [Bool.and_eq_true] at he
  have hw : Region.wanted o (yielded ops a.tmps) = true := by
    unfold Region.wanted
    rw [Option.isNone_iff_eq_none.1 he.2]
  refine .inl ⟨hw, fun w' => ?_⟩
  rcases h with ⟨_, h⟩ | ⟨h, _⟩
  · have h1 := h W ⟨⟨W, Below.refl _ _⟩, rfl⟩
    obtain ⟨dst, op, type, pos, after, guard⟩ := o
    cases op with
    | extract t ix =>
      unfold Oper.quietAt at h1
      have e : ∀ w, (execOp a.eval ⟨dst, .extract t ix, type, pos, after, guard⟩).run P w = ((Instr.extract (a.eval t) ix).run P w).andThen fun u w => .ok (.value u) w := fun w => by
        simp [execOp]
      rw [e] at h1 ⊢
      cases hr : (Instr.extract (a.eval t) ix).run P W with
      | ok u w1 =>
        rw [hr] at h1
        obtain ⟨h2, h3⟩ := (show w1 = W ∧ u = v from h1)
        subst h2; subst h3
        rw [extract_any hr w']
        rfl
      | halt x w1 =>
        rw [hr] at h1
        exact h1.elim
    | _ => cases he.1
  · rw [hw] at h; cases h
def privzB (ops : Array Oper) (k n : Nat) (rs : List Role) (lz : List Nat) : Bool :=
  Region.noSelect ops && decide (k ≤ ops.size) && dstsOk n (ops.toList.take k) &&
  (List.range ops.size).all (fun i => match ops[i]? with | some o => o.after.all (fun e => !Region.binds .any e || decide (e.on < i)) | none => false) &&
  (List.range ops.size).all (fun t => decide (t < k) || (List.range k).all (fun i => lz.contains i || (coverB ops ops.size (depsB ops t (List.replicate ops.size false))).getD i false)) &&
  (List.range k).all (fun i => (List.range k).all fun j => match ops[i]?, ops[j]? with
    | some oi, some oj => (match oj.dst with | some d => !(oi.looksAt ops).contains d || (decide (j < i) && waitsB1 .any ops i j) | none => false)
    | _, _ => false) &&
  Region.seqB .any ops (ops.size - k) k (Array.replicate k true ++ Array.replicate (ops.size - k) false) &&
  decide (rs.length = k) &&
  (List.range k).all (fun i => (List.range k).all fun j => match ops[i]?, ops[j]?, rs[i]?, rs[j]? with
    | some oi, some oj, some ri, some rj => !rj.isP || (match oj.dst with | some d => !(oi.looksAt ops).contains d || ri.eats j d | none => false)
    | _, _, _, _ => false) &&
  (List.range k).all (fun i => match ops[i]?, rs[i]? with
    | some oi, some (.c j d) => decide (j < k) && (match ops[j]?, rs[j]? with | some oj, some rj => rj.isP && (oj.dst == some d) | _, _ => false) && (oi.looksAt ops).contains d
    | _, _ => true) &&
  (List.range ops.size).all (fun i => !lz.contains i || (decide (i < k) && (match ops[i]?, rs[i]? with
    | some oi, some .q => isExtract oi && (List.range ops.size).all (fun j => j == i || (decide (j < k) && !lz.contains j) || (match ops[j]? with | some oj => oj.after.any (fun e => Region.binds .any e && e.on == i) || oi.apart ops oj | none => true))
    | _, _ => false))) &&
  lz.all (fun i => decide (i < ops.size))

section
variable {P : Program} {Q : Exit → Act → World → Prop} {W : World} {a0 af : Act} {l : List Oper} {k : Nat} {rs : List Role} {cont : Nat → Obj × (Nat → Value)}
theorem wp_region_privz {id : Nat} (k : Nat) (lz : List Nat) (rs : List Role) (cont : Nat → Obj × (Nat → Value)) (af : Act) (hm : P.follows .mixedOrders = true)
    (hB : privzB l.toArray k a0.tmps.size rs lz = true) (hQ : ∀ c a w d v, Q (.panic c) (Act.put a (some d) v) w → Q (.panic c) a w)
    (hwalk : ∀ V : World, Below W.heap.size W V → wpP P l.toArray af cont V 0 rs (l.take k) a0)
    (htail : ∀ (gs : Nat → Nat) (w' : World), Below W.heap.size W w' → (∀ j : Nat, rs[j]? = some Role.p → W.heap.size ≤ gs j ∧ w'.heap[gs j]? = some (cont j).1) → (∀ j j' : Nat, rs[j]? = some Role.p → rs[j']? = some Role.p → j ≠ j' → gs j ≠ gs j') → wpList P l.toArray Q (l.drop k) (fillP cont gs 0 rs (l.take k) af) w') :
    (Code.region id l.toArray true).wp P Q a0 W := by
  unfold privzB at hB
  simp only [Bool.and_eq_true, decide_eq_true_eq] at hB
  obtain ⟨⟨⟨⟨⟨⟨⟨⟨⟨⟨⟨hsel, hks⟩, hdst⟩, hback⟩, htl⟩, hdep⟩, hseq⟩, hrl⟩, hpc⟩, hcc⟩, hlz⟩, hlzs⟩ := hB
  have hbig : ∀ i, l.toArray.size ≤ i → i ∉ lz := fun i hi hm => by
    have := List.all_eq_true.1 hlzs i hm
    simp only [decide_eq_true_eq] at this
    omega
  simp only [List.all_eq_true, List.mem_range, Bool.or_eq_true, decide_eq_true_eq] at hback htl hdep hpc hcc
  rw [List.all_eq_true] at hlz
  have hlazy : ∀ i, i ∈ lz → i < k ∧ rs[i]? = some .q ∧ ∀ o, l[i]? = some o → isExtract o = true ∧ ∀ j oj, l[j]? = some oj → j ≠ i → ¬ (j < k ∧ j ∉ lz) → (∀ e ∈ oj.after, Region.binds .any e = true → e.on ≠ i) → o.apart l.toArray oj = true := by
    intro i hi
    have hil : i < l.toArray.size := by
      rcases Nat.lt_or_ge i l.toArray.size with h | h
      · exact h
      · exact absurd hi (hbig i h)
    have h1 := hlz i (List.mem_range.2 hil)
    rw [show lz.contains i = true from by simpa using hi] at h1
    simp only [Bool.not_true, Bool.false_or, Bool.and_eq_true, decide_eq_true_eq] at h1
    obtain ⟨hik, h2⟩ := h1
    have hoi : l.toArray[i]? = some (l.toArray[i]) := by simp
    rw [hoi] at h2
    split at h2
    · rename_i oi ri heq hr
      cases heq
      refine ⟨hik, hr, fun o ho => ?_⟩
      have hoo : l.toArray[i] = o := by
        have : l.toArray[i]? = some o := by simpa using ho
        rw [hoi] at this
        exact Option.some.inj this
      rw [hoo] at h2
      simp only [Bool.and_eq_true] at h2
      refine ⟨h2.1, fun j oj hoj hne hnd hno => ?_⟩
      have hjl : j < l.toArray.size := by
        have := (List.getElem?_eq_some_iff.1 hoj).1
        simpa using this
      have h3 := List.all_eq_true.1 h2.2 j (List.mem_range.2 hjl)
      have hoj' : l.toArray[j]? = some oj := by simpa using hoj
      rw [hoj'] at h3
      simp only [Bool.or_eq_true, beq_iff_eq, Bool.and_eq_true, decide_eq_true_eq, Bool.not_eq_true', List.contains_eq_mem, decide_eq_false_iff_not] at h3
      rcases h3 with (h3 | h3) | h3 | h3
      · exact absurd h3 hne
      · exact absurd h3 hnd
      · obtain ⟨e, he, hb⟩ := Array.any_eq_true'.1 h3
        simp only [Bool.and_eq_true, beq_iff_eq] at hb
        exact absurd hb.2 (hno e he hb.1)
      · exact h3
    · cases h2
  have hsz : l.toArray.size = l.length := by simp
  have hkl : k ≤ l.length := by rw [← hsz]; exact hks
  have hdk : dstsOk a0.tmps.size (l.take k) = true := hdst
  have hall : ∀ V : World, Below W.heap.size W V → AllInP P l.toArray af cont V 0 rs (l.take k) a0 := fun V hV => allInP_of hdk (hwalk V hV)
  have hA0 := hall W (Below.refl _ _)
  have hget : ∀ i, i < k → (l.take k)[i]? = l[i]? := fun i hi => by rw [List.getElem?_take]; simp [hi]
  have hrole : ∀ i, i < k → ∃ r, rs[i]? = some r := fun i hi => ⟨rs[i]'(by omega), by simp [hrl, hi]⟩
  have hafs : ∀ t, (∀ j o, j < k → l[j]? = some o → o.dst ≠ some t) → slotOf af t = slotOf a0 t := fun t ht => hA0.keep.2.2 t (fun o ho => by
    obtain ⟨j, hj⟩ := List.getElem?_of_mem ho
    rw [List.getElem?_take] at hj
    split at hj
    · exact ht j o (by assumption) hj
    · cases hj)
  have hback' : ∀ i o, l[i]? = some o → ∀ e ∈ o.after, Region.binds .any e = true → e.on < i := by
    intro i o hi e he hb
    have hil : i < l.length := (List.getElem?_eq_some_iff.1 hi).1
    have h1 := hback i (by rw [hsz]; exact hil)
    have hi' : l.toArray[i]? = some o := by simpa using hi
    rw [hi'] at h1
    have h2 := Array.all_eq_true_iff_forall_mem.1 h1 e he
    simpa [hb] using h2
  have hdep' : ∀ i o j oj d, i < k → l[i]? = some o → j < k → l[j]? = some oj → oj.dst = some d → d ∈ o.looksAt l.toArray → j < i ∧ waitsB1 .any l.toArray i j = true := by
    intro i o j oj d hi ho hj hoj hd hmem
    have h1 := hdep i hi j (by omega)
    have ho' : l.toArray[i]? = some o := by simpa using ho
    have hoj' : l.toArray[j]? = some oj := by simpa using hoj
    rw [ho', hoj'] at h1
    simp only [hd] at h1
    have hc : (o.looksAt l.toArray).contains d = true := by simpa using hmem
    rw [hc] at h1
    simpa using h1
  have heat : ∀ i o j oj d r, i < k → l[i]? = some o → j < k → l[j]? = some oj → oj.dst = some d → d ∈ o.looksAt l.toArray → rs[j]? = some Role.p → rs[i]? = some r → r.eats j d = true := by
    intro i o j oj d r hi ho hj hoj hd hmem hrj hri
    have h1 := hpc i hi j hj
    have ho' : l.toArray[i]? = some o := by simpa using ho
    have hoj' : l.toArray[j]? = some oj := by simpa using hoj
    rw [ho', hoj', hri, hrj] at h1
    simp only [hd] at h1
    have hc : (o.looksAt l.toArray).contains d = true := by simpa using hmem
    rw [hc] at h1
    simpa [Role.isP] using h1
  have hfood : ∀ i o j d, i < k → l[i]? = some o → rs[i]? = some (.c j d) → j < k ∧ rs[j]? = some Role.p ∧ (∃ oj, l[j]? = some oj ∧ oj.dst = some d) ∧ d ∈ o.looksAt l.toArray := by
    intro i o j d hi ho hri
    have h1 := hcc i hi
    have ho' : l.toArray[i]? = some o := by simpa using ho
    rw [ho', hri] at h1
    simp only [Bool.and_eq_true, decide_eq_true_eq] at h1
    obtain ⟨⟨hjk, h2⟩, h3⟩ := h1
    obtain ⟨rj, hrj⟩ := hrole j hjk
    have hoj : l[j]? = some (l[j]'(by omega)) := by simp
    have hoj' : l.toArray[j]? = some (l[j]'(by omega)) := by simp
    rw [hoj', hrj] at h2
    simp only [Bool.and_eq_true, beq_iff_eq] at h2
    refine ⟨hjk, ?_, ⟨_, hoj, h2.2⟩, by simpa using h3⟩
    cases rj with
    | p => exact hrj
    | q => cases h2.1
    | c _ _ => cases h2.1
  have dlt : ∀ i o, i < k → l[i]? = some o → ∃ d, o.dst = some d ∧ d < a0.tmps.size := fun i o hi ho => dsts_lt _ _ i o hdk (by rw [hget i (by omega)]; exact ho)
  have dne : ∀ i j o oj t, i < k → j < k → l[i]? = some o → l[j]? = some oj → i ≠ j → oj.dst = some t → o.dst ≠ some t := fun i j o oj t hi hj ho hoj hne hd => dsts_ne _ _ j i oj o t hdk (by rw [hget j (by omega)]; exact hoj) (by rw [hget i (by omega)]; exact ho) (Ne.symm hne) hd
  have fin : ∀ (gs : Nat → Nat) (listed : Array Bool) (a : Act) (w : World), MidP P l.toArray k rs cont a0 af W gs listed a w → (∀ i, i < k → listed.getD i false = true) → ∀ fuel, unl listed = fuel → wpAny P .any l.toArray Q fuel listed a w := by
    intro gs listed a w m hdone fuel hu
    have hLH : listed = Array.replicate k true ++ Array.replicate (l.toArray.size - k) false := by
      apply Array.ext
      · simp [m.size]; omega
      · intro i h1 h2
        rcases Nat.lt_or_ge i k with h' | h
        rotate_left 1
        · have := m.tail i h (by rw [← m.size]; exact h1)
          rw [Array.getElem_append_right (by simp; omega)]
          simpa [h1] using this
        · have := hdone i h'
          rw [Array.getElem_append_left (by simp; omega)]
          simpa [h1] using this
    have hae : a = fillP cont gs 0 rs (l.take k) af := by
      have hs0 := hA0.keep
      have hf0 := fillP_keep (cont := cont) gs rs 0 (l.take k) af
      refine act_ext ?_ ?_ ?_
      · rw [m.tsize, hf0.1, hs0.1]
      · rw [m.defers, hf0.2, hs0.2.1]
      · intro t
        by_cases hex : ∃ j o, j < k ∧ l[j]? = some o ∧ o.dst = some t
        · obtain ⟨j, o, hj, ho, hd⟩ := hex
          by_cases hp : rs[j]? = some Role.p
          · rw [(m.spec j o t hj (by simpa using ho) hd (hdone j hj) hp).1]
            have := fillP_at (cont := cont) gs rs 0 (l.take k) af a0.tmps.size j o t hdk hs0.1.symm (by rw [hget j hj]; exact ho) hp hd
            rw [this, Nat.zero_add]
          · rw [m.put j o t hj (by simpa using ho) hd (hdone j hj) hp]
            rw [fillP_ne gs rs 0 (l.take k) af t (fun i o' ho' hr' => ?_)]
            have hik : i < k := by
              have := (List.getElem?_eq_some_iff.1 ho').1
              simp at this
              omega
            by_cases hij : i = j
            · subst hij; exact absurd hr' hp
            · exact dne i j o' o t hik hj (by rw [← hget i hik]; exact ho') ho hij hd
        · rw [m.same t (fun j o hj ho _ hd => hex ⟨j, o, hj, by simpa using ho, hd⟩)]
          rw [fillP_ne gs rs 0 (l.take k) af t (fun i o' ho' hr' hd => hex ⟨i, o', by have := (List.getElem?_eq_some_iff.1 ho').1; simp at this; omega, by rw [← hget i (by have := (List.getElem?_eq_some_iff.1 ho').1; simp at this; omega)]; exact ho', hd⟩)]
          exact (hafs t (fun j o hj ho hd => hex ⟨j, o, hj, ho, hd⟩)).symm
    have hfu : fuel = (l.drop k).length := by
      rw [← hu, hLH, unl_done]
      simp
    rw [hfu, hae]
    have hpk : ∀ j, rs[j]? = some Role.p → j < k := fun j hj => by
      have := (List.getElem?_eq_some_iff.1 hj).1
      omega
    refine wpAny_of_seq (l.drop k) k listed _ w (fun j => by simp [List.getElem?_drop]) ?_ (htail gs w m.ahd (fun j hj => ?_) (fun j j' hj hj' hne => m.apart j j' (hpk j hj) (hpk j' hj') hne (hdone j (hpk j hj)) (hdone j' (hpk j' hj')) hj hj'))
    · rw [hLH]
      have : (l.drop k).length = l.toArray.size - k := by simp
      rw [this]
      exact hseq
    · have hjk := hpk j hj
      have hoj : l[j]? = some (l[j]'(by omega)) := by simp
      obtain ⟨d, hd, _⟩ := dlt j _ hjk hoj
      exact (m.spec j _ d hjk (by simp) hd (hdone j hjk) hj).2
  have stepq : ∀ (gs : Nat → Nat) (listed : Array Bool) (a : Act) (w : World) (i : Nat) (o : Oper), MidP P l.toArray k rs cont a0 af W gs listed a w → i ∈ Region.ready .any l.toArray listed → i < k → l[i]? = some o → rs[i]? ≠ some Role.p → ∀ x : Past w,
      MidP P l.toArray k rs cont a0 af W gs (listed.setIfInBounds i true) (a.put o.dst (leftBy af o)) x.w := by
    intro gs listed a w i o m hi hik hol hnp x
    obtain ⟨hun, o', ho, hw⟩ := mem_ready.1 hi
    have hoo : o' = o := by
      have : l.toArray[i]? = some o := by simpa using hol
      rw [ho] at this
      exact Option.some.inj this
    subst hoo
    have hil : i < l.length := (List.getElem?_eq_some_iff.1 hol).1
    obtain ⟨d, hod, hdlt⟩ := dlt i o' hik hol
    have hset : (listed.setIfInBounds i true).getD i false = true := by
      have : i < listed.size := by rw [m.size]; simpa using hil
      simp [this]
    refine ⟨by simp [m.size], ?_, fun t ht ht' => by rw [getD_set_ne true (by omega)]; exact m.tail t ht ht', m.ahd.trans (x.far.mono m.ahd.size), by rw [defers_put]; exact m.defers, by rw [size_put]; exact m.tsize, ?_, ?_, ?_, ?_⟩
    · intro j oj hj hl e he hb
      by_cases hji : i = j
      · subst hji
        rw [ho] at hj
        cases hj
        exact getD_set_true (hw e he hb)
      · rw [getD_set_ne false hji] at hl
        exact getD_set_true (m.closed j oj hj hl e he hb)
    · intro j oj t hj hoj hdt hl hrj
      by_cases hji : i = j
      · subst hji
        rw [ho] at hoj
        cases hoj
        have : leftBy af o' = slotOf af t := by simp [leftBy, hdt]
        rw [hdt, this]
        rw [hod] at hdt
        cases hdt
        exact slot_put_same _ (by rw [m.tsize]; exact hdlt)
      · rw [getD_set_ne false hji] at hl
        rw [slot_put_ne _ (dne i j o' oj t hik hj hol (by simpa using hoj) hji hdt)]
        exact m.put j oj t hj hoj hdt hl hrj
    · intro t hno
      rw [slot_put_ne _ (hno i o' hik ho hset)]
      exact m.same t (fun j oj hj hoj hl => hno j oj hj hoj (getD_set_true hl))
    · intro j oj t hj hoj hdt hl hrj
      have hji : i ≠ j := fun e => hnp (by rw [e]; exact hrj)
      rw [getD_set_ne false hji] at hl
      obtain ⟨h1, h2, h3⟩ := m.spec j oj t hj hoj hdt hl hrj
      refine ⟨by rw [slot_put_ne _ (dne i j o' oj t hik hj hol (by simpa using hoj) hji hdt)]; exact h1, h2, ?_⟩
      rw [x.far.block _ (Array.getElem?_eq_some_iff.1 h3).1]
      exact h3
    · intro j j' hj hj' hne hl hl' hrj hrj'
      have hji : i ≠ j := fun e => hnp (by rw [e]; exact hrj)
      have hji' : i ≠ j' := fun e => hnp (by rw [e]; exact hrj')
      rw [getD_set_ne false hji] at hl
      rw [getD_set_ne false hji'] at hl'
      exact m.apart j j' hj hj' hne hl hl' hrj hrj'
  -- what a reading operation looks at
  have lookq : ∀ (gs : Nat → Nat) (listed : Array Bool) (a : Act) (w : World) (i : Nat) (o : Oper), MidP P l.toArray k rs cont a0 af W gs listed a w → i ∈ Region.ready .any l.toArray listed → i < k → l[i]? = some o → ∀ t ∈ o.looksAt l.toArray, (∀ j oj, j < k → l[j]? = some oj → oj.dst = some t → rs[j]? = some Role.p → False) → slotOf a t = slotOf (accum af ((l.take k).take i) a0) t := by
    intro gs listed a w i o m hi hik hol t ht hnp
    obtain ⟨hun, o', ho, hw⟩ := mem_ready.1 hi
    have hoo : o' = o := by
      have : l.toArray[i]? = some o := by simpa using hol
      rw [ho] at this
      exact Option.some.inj this
    subst hoo
    rw [accum_slot _ _ _ (dstsOk_take _ _ _ hdk)]
    by_cases hex : ∃ j oj, j < k ∧ l[j]? = some oj ∧ oj.dst = some t
    · obtain ⟨j, oj, hj, hoj, hdt⟩ := hex
      obtain ⟨hji, hwt⟩ := hdep' i o' j oj t hik hol hj hoj hdt ht
      obtain ⟨e, he, hb, heo⟩ := waitsB1_spec ho hwt
      have hlj := hw e he hb
      rw [heo] at hlj
      rw [m.put j oj t (by omega) (by simpa using hoj) hdt hlj (fun h => hnp j oj hj hoj hdt h), if_pos]
      rw [List.any_eq_true]
      refine ⟨oj, ?_, by simp [hdt]⟩
      refine List.mem_of_getElem? (i := j) ?_
      rw [List.getElem?_take, List.getElem?_take]
      simp only [hji, show j < k by omega, if_true, hoj]
    · rw [m.same t (fun j oj hj hoj _ hdt => hex ⟨j, oj, by omega, by simpa using hoj, hdt⟩), if_neg]
      intro hany
      rw [List.any_eq_true] at hany
      obtain ⟨oj, hmem, hdt⟩ := hany
      obtain ⟨j, hj⟩ := List.getElem?_of_mem (List.mem_of_mem_take hmem)
      rw [List.getElem?_take] at hj
      split at hj
      · exact hex ⟨j, oj, by omega, hj, by simpa using hdt⟩
      · cases hj
  have finz : ∀ (fuel : Nat) (gs : Nat → Nat) (listed : Array Bool) (a : Act) (w : World), MidP P l.toArray k rs cont a0 af W gs listed a w → (∀ i, i < k → i ∉ lz → listed.getD i false = true) → unl listed = fuel → wpAny P .any l.toArray Q fuel listed a w := by
    intro fuel
    induction fuel with
    | zero =>
      intro gs listed a w m hnz hu
      by_cases hdone : ∀ i, i < k → listed.getD i false = true
      · exact fin gs listed a w m hdone _ hu
      · obtain ⟨i, hi, _, hun⟩ := first_no' listed k hdone
        have := unl_set (listed := listed) (i := i) (by rw [m.size]; omega) (by rw [getD_tf (by rw [m.size]; omega)]; exact hun)
        omega
    | succ fuel ih =>
      intro gs listed a w m hnz hu
      by_cases hdone : ∀ i, i < k → listed.getD i false = true
      · exact fin gs listed a w m hdone _ hu
      · obtain ⟨i, hi, hpre, hun⟩ := first_no' listed k hdone
        have hiz : i ∈ lz := by
          by_cases h : i ∈ lz
          · exact h
          · rw [hnz i hi h] at hun; cases hun
        obtain ⟨_, hrq, hz⟩ := hlazy i hiz
        have hol : l[i]? = some (l[i]'(by omega)) := by simp
        generalize l[i]'(by omega) = o at hol
        obtain ⟨hex, hap⟩ := hz o hol
        have ho : l.toArray[i]? = some o := by simpa using hol
        have hready : i ∈ Region.ready .any l.toArray listed := by
          rw [mem_ready]
          exact ⟨by rw [getD_tf (by rw [m.size]; omega)]; exact hun, o, ho, fun e he hb => hpre _ (hback' i o hol e he hb)⟩
        have hl : ∀ t ∈ o.looksAt l.toArray, slotOf a t = slotOf (accum af ((l.take k).take i) a0) t := fun t ht => lookq gs listed a w i o m hready hi hol t ht (fun j oj hj hoj hdt hrj => by
          have := heat i o j oj t _ hi hol hj hoj hdt ht hrj hrq
          cases this)
        have hstep := (hall w m.ahd).get (i := i) (o := o) (r := .q) (by rw [hget i hi]; exact hol) hrq
        have exec : execOp a.eval o = execOp (accum af ((l.take k).take i) a0).eval o := execOp_congr o (fun cs b => Region.noSelect_spec hsel i o cs b ho) (fun x hx => by
          cases x with
          | tmp t => exact hl t (List.mem_append_left _ (List.mem_filterMap.2 ⟨.tmp t, by simpa using hx, rfl⟩))
          | _ => rfl)
        have hy := extract_yields hex (YieldsIn.of_same (show YieldsIn P l.toArray _ o (leftBy af o) _ from hstep) exec (wanted_congr hl))
        obtain ⟨d, hod, _⟩ := dlt i o hi hol
        refine wpAny_first (i := i) (oi := o) (v := leftBy af o) ho (Region.noSelect_spec hsel) (fun c a w h => hQ c a w d _ (by rw [hod] at h; exact h)) fuel listed a w ?_ hready hy ?_
        · intro j oj hj hne hunj hno
          refine hap j oj (by simpa using hj) hne (fun hnd => ?_) hno
          have h1 := hnz j hnd.1 hnd.2
          rw [getD_tf (by rw [m.size]; omega), h1] at hunj
          cases hunj
        · have m' := stepq gs listed a w i o m hready hi hol (by rw [hrq]; simp) ⟨w, Below.refl _ _⟩
          refine ih gs _ _ _ m' (fun j hj hjz => getD_set_true (hnz j hj hjz)) ?_
          have := unl_set (listed := listed) (i := i) (by rw [m.size]; omega) (by rw [getD_tf (by rw [m.size]; omega)]; exact hun)
          omega
  have main : ∀ (fuel : Nat) (gs : Nat → Nat) (listed : Array Bool) (a : Act) (w : World), MidP P l.toArray k rs cont a0 af W gs listed a w → unl listed = fuel → wpAny P .any l.toArray Q fuel listed a w := by
    intro fuel
    induction fuel with
    | zero =>
      intro gs listed a w m hu
      by_cases hdone : ∀ i, i < k → listed.getD i false = true
      · exact fin gs listed a w m hdone _ hu
      · obtain ⟨i, hi, _, hun⟩ := first_no' listed k hdone
        have := unl_set (listed := listed) (i := i) (by rw [m.size]; omega) (by rw [getD_tf (by rw [m.size]; omega)]; exact hun)
        omega
    | succ fuel ih =>
      intro gs listed a w m hu
      by_cases hdone : ∀ i, i < k → i ∉ lz → listed.getD i false = true
      · exact finz _ gs listed a w m hdone hu
      · have hdone0 : ∃ i1, i1 < k ∧ i1 ∉ lz ∧ listed.getD i1 false = false := by
          refine Classical.byContradiction fun hno => hdone (fun i hi hz => ?_)
          cases hc : listed.getD i false
          · exact absurd ⟨i, hi, hz, hc⟩ hno
          · rfl
        obtain ⟨i1, hi1, hz1, hun1⟩ := hdone0
        obtain ⟨i0, hi0, hpre, hun0⟩ := first_no' listed k (fun h => by rw [h i1 hi1] at hun1; cases hun1)
        refine ⟨fun h0 => ?_, fun i hi => ?_⟩
        · have hr : i0 ∈ Region.ready .any l.toArray listed := by
            rw [mem_ready]
            refine ⟨by rw [getD_tf (by rw [m.size]; omega)]; exact hun0, l[i0]'(by omega), by simp, fun e he hb => hpre _ ?_⟩
            exact hback' i0 _ (by simp) e he hb
          rw [h0] at hr
          cases hr
        · have hi' := hi
          obtain ⟨hun, o, ho, hw⟩ := mem_ready.1 hi
          have hil : i < l.length := by
            have := (Array.getElem?_eq_some_iff.1 ho).1
            simpa using this
          have hol : l[i]? = some o := by simpa using ho
          have hun' : unl (listed.setIfInBounds i true) = fuel := by
            have := unl_set (listed := listed) (i := i) (by rw [m.size]; omega) hun
            omega
          have hik : i < k := by
            rcases Nat.lt_or_ge i k with h | h
            rotate_left 1
            · have h1 := ((htl i (by omega)).resolve_left (by omega) i1 hi1).resolve_left (by simpa using hz1)
              have h3 := cover_listed (ops := l.toArray) m.closed l.toArray.size _ (fun j hj => ?_) i1 h1
              · rw [hun1] at h3
                cases h3
              · unfold depsB at hj
                rw [ho] at hj
                refine deps_listed _ _ (fun e he hb => hw e (by simpa using he) hb) (fun q hq => ?_) j hj
                rw [List.getD_eq_getElem?_getD, List.getElem?_replicate] at hq
                split at hq <;> cases hq
            · exact h
          have hclosed : ∀ j oj, l.toArray[j]? = some oj → (listed.setIfInBounds i true).getD j false = true → ∀ e ∈ oj.after, Region.binds .any e = true → (listed.setIfInBounds i true).getD e.on false = true := by
            intro j oj hj hl e he hb
            by_cases hji : i = j
            · subst hji
              rw [ho] at hj
              cases hj
              exact getD_set_true (hw e he hb)
            · rw [getD_set_ne false hji] at hl
              exact getD_set_true (m.closed j oj hj hl e he hb)
          have htail' : ∀ t, k ≤ t → t < l.toArray.size → (listed.setIfInBounds i true).getD t true = false := fun t ht ht' => by rw [getD_set_ne true (by omega)]; exact m.tail t ht ht'
          obtain ⟨d, hod, hdlt⟩ := dlt i o hik hol
          obtain ⟨r, hri⟩ := hrole i hik
          have hset : (listed.setIfInBounds i true).getD i false = true := by
            have : i < listed.size := by rw [m.size]; omega
            simp [this]
          have hunl : listed.getD i false = false := by rw [← getD_tf (by rw [m.size]; omega)]; exact hun
          -- the slots that the operation looks at, but for a block of its own kind
          have hlook : ∀ t ∈ o.looksAt l.toArray, (∀ j oj, j < k → l[j]? = some oj → oj.dst = some t → rs[j]? = some Role.p → False) → slotOf a t = slotOf (accum af ((l.take k).take i) a0) t := by
            intro t ht hnp
            rw [accum_slot _ _ _ (dstsOk_take _ _ _ hdk)]
            by_cases hex : ∃ j oj, j < k ∧ l[j]? = some oj ∧ oj.dst = some t
            · obtain ⟨j, oj, hj, hoj, hdt⟩ := hex
              obtain ⟨hji, hwt⟩ := hdep' i o j oj t hik hol hj hoj hdt ht
              obtain ⟨e, he, hb, heo⟩ := waitsB1_spec ho hwt
              have hlj := hw e he hb
              rw [heo] at hlj
              rw [m.put j oj t (by omega) (by simpa using hoj) hdt hlj (fun h => hnp j oj hj hoj hdt h), if_pos]
              rw [List.any_eq_true]
              refine ⟨oj, ?_, by simp [hdt]⟩
              refine List.mem_of_getElem? (i := j) ?_
              rw [List.getElem?_take, List.getElem?_take]
              simp only [hji, show j < k by omega, if_true, hoj]
            · rw [m.same t (fun j oj hj hoj _ hdt => hex ⟨j, oj, by omega, by simpa using hoj, hdt⟩), if_neg]
              intro hany
              rw [List.any_eq_true] at hany
              obtain ⟨oj, hmem, hdt⟩ := hany
              obtain ⟨j, hj⟩ := List.getElem?_of_mem (List.mem_of_mem_take hmem)
              rw [List.getElem?_take] at hj
              split at hj
              · exact hex ⟨j, oj, by omega, hj, by simpa using hdt⟩
              · cases hj
          have hstep := (hall w m.ahd).get (i := i) (o := o) (r := r) (by rw [hget i hik]; exact hol) hri
          rw [Nat.zero_add] at hstep
          -- what comes behind an operation that leaves a fixed value
          have after : rs[i]? ≠ some Role.p → ∀ x : Past w, wpAny P .any l.toArray Q fuel (listed.setIfInBounds i true) (a.put o.dst (leftBy af o)) x.w := by
            intro hnp x
            refine ih gs _ _ _ ⟨by simp [m.size], hclosed, htail', m.ahd.trans (x.far.mono m.ahd.size), by rw [defers_put]; exact m.defers, by rw [size_put]; exact m.tsize, ?_, ?_, ?_, ?_⟩ hun'
            · intro j oj t hj hoj hdt hl hrj
              by_cases hji : i = j
              · subst hji
                rw [ho] at hoj
                cases hoj
                have : leftBy af o = slotOf af t := by simp [leftBy, hdt]
                rw [hdt, this]
                rw [hod] at hdt
                cases hdt
                exact slot_put_same _ (by rw [m.tsize]; exact hdlt)
              · rw [getD_set_ne false hji] at hl
                rw [slot_put_ne _ (dne i j o oj t hik hj hol (by simpa using hoj) hji hdt)]
                exact m.put j oj t hj hoj hdt hl hrj
            · intro t hno
              rw [slot_put_ne _ (hno i o hik ho hset)]
              exact m.same t (fun j oj hj hoj hl => hno j oj hj hoj (getD_set_true hl))
            · intro j oj t hj hoj hdt hl hrj
              have hji : i ≠ j := fun e => hnp (by rw [e]; exact hrj)
              rw [getD_set_ne false hji] at hl
              obtain ⟨h1, h2, h3⟩ := m.spec j oj t hj hoj hdt hl hrj
              refine ⟨by rw [slot_put_ne _ (dne i j o oj t hik hj hol (by simpa using hoj) hji hdt)]; exact h1, h2, ?_⟩
              rw [x.far.block _ (Array.getElem?_eq_some_iff.1 h3).1]
              exact h3
            · intro j j' hj hj' hne hl hl' hrj hrj'
              have hji : i ≠ j := fun e => hnp (by rw [e]; exact hrj)
              have hji' : i ≠ j' := fun e => hnp (by rw [e]; exact hrj')
              rw [getD_set_ne false hji] at hl
              rw [getD_set_ne false hji'] at hl'
              exact m.apart j j' hj hj' hne hl hl' hrj hrj'
          have exec : ∀ b : Act, (∀ t ∈ o.looksAt l.toArray, slotOf a t = slotOf b t) → execOp a.eval o = execOp b.eval o := fun b hb => execOp_congr o (fun cs b => Region.noSelect_spec hsel i o cs b ho) (fun x hx => by
            cases x with
            | tmp t => exact hb t (List.mem_append_left _ (List.mem_filterMap.2 ⟨.tmp t, by simpa using hx, rfl⟩))
            | _ => rfl)
          cases r with
          | q =>
            have hl : ∀ t ∈ o.looksAt l.toArray, slotOf a t = slotOf (accum af ((l.take k).take i) a0) t := fun t ht => hlook t ht (fun j oj hj hoj hdt hrj => by
              have := heat i o j oj t _ hik hol hj hoj hdt ht hrj hri
              cases this)
            have hy' := YieldsIn.of_same (show YieldsIn P l.toArray _ o (leftBy af o) _ from hstep) (exec _ hl) (wanted_congr hl)
            refine wpOp_of_qOp (C := fun w' => ∃ x : Past w, w' = x.w) ⟨⟨w, Below.refl _ _⟩, rfl⟩ (fun a' w' hx ha => ?_) (hy'.qOp ho (K := fun a' => a' = a.put o.dst (leftBy af o)) rfl)
            obtain ⟨x, rfl⟩ := hx
            subst ha
            exact after (by rw [hri]; simp) x
          | c j dd =>
            obtain ⟨hjk, hrj, ⟨oj, hoj, hdj⟩, hmem⟩ := hfood i o j dd hik hol hri
            obtain ⟨hji, hwt⟩ := hdep' i o j oj dd hik hol hjk hoj hdj hmem
            obtain ⟨e, he, hb, heo⟩ := waitsB1_spec ho hwt
            have hlj := hw e he hb
            rw [heo] at hlj
            obtain ⟨s1, s2, s3⟩ := m.spec j oj dd hjk (by simpa using hoj) hdj hlj hrj
            have hst := (show ∀ (V' : World) (g : Nat), _ → _ → YieldsIn P l.toArray _ o (leftBy af o) _ from hstep) w (gs j) (Below.refl _ _) s3
            obtain ⟨dj', hdj', hdjlt⟩ := dlt j oj hjk hoj
            have hdd : dj' = dd := by rw [hdj] at hdj'; exact (Option.some.inj hdj').symm
            rw [hdd] at hdjlt
            have hacc : (accum af ((l.take k).take i) a0).tmps.size = a0.tmps.size := by
              have : ∀ (l : List Oper) (a : Act), (accum af l a).tmps.size = a.tmps.size := by
                intro l
                induction l with
                | nil => intro a; rfl
                | cons o l ih => intro a; show (accum af l (a.put o.dst (leftBy af o))).tmps.size = _; rw [ih, size_put]
              exact this _ _
            have hl : ∀ t ∈ o.looksAt l.toArray, slotOf a t = slotOf ((accum af ((l.take k).take i) a0).put (some dd) ((cont j).2 (gs j))) t := by
              intro t ht
              by_cases htd : t = dd
              · subst htd
                rw [s1, slot_put_same _ (by rw [hacc]; exact hdjlt)]
              · rw [slot_put_ne _ (fun e => htd (by cases e; rfl))]
                refine hlook t ht (fun j' oj' hj' hoj' hdt' hrj' => ?_)
                have := heat i o j' oj' t _ hik hol hj' hoj' hdt' ht hrj' hri
                simp only [Role.eats, Bool.and_eq_true, beq_iff_eq] at this
                exact htd this.2.symm
            have hy' := YieldsIn.of_same hst (exec _ hl) (wanted_congr hl)
            refine wpOp_of_qOp (C := fun w' => ∃ x : Past w, w' = x.w) ⟨⟨w, Below.refl _ _⟩, rfl⟩ (fun a' w' hx ha => ?_) (hy'.qOp ho (K := fun a' => a' = a.put o.dst (leftBy af o)) rfl)
            obtain ⟨x, rfl⟩ := hx
            subst ha
            exact after (by rw [hri]; simp) x
          | p =>
            obtain ⟨hg, hrun⟩ := (show _ ∧ _ from hstep)
            have hl : ∀ t ∈ o.looksAt l.toArray, slotOf a t = slotOf (accum af ((l.take k).take i) a0) t := fun t ht => hlook t ht (fun j oj hj hoj hdt hrj => by
              have := heat i o j oj t _ hik hol hj hoj hdt ht hrj hri
              cases this)
            unfold wpOp
            simp only [ho]
            rw [if_pos (by rw [wanted_congr hl]; exact hg)]
            refine .inl ?_
            unfold Oper.wp
            rw [exec _ hl, hrun]
            show wpAny P .any l.toArray Q fuel (listed.setIfInBounds i true) (a.put o.dst ((cont i).2 w.heap.size)) (w.alloc (cont i).1)
            refine ih (fun j => if j = i then w.heap.size else gs j) _ _ _ ⟨by simp [m.size], hclosed, htail', m.ahd.alloc m.ahd.size _, by rw [defers_put]; exact m.defers, by rw [size_put]; exact m.tsize, ?_, ?_, ?_, ?_⟩ hun'
            · intro j oj t hj hoj hdt hlj hrj
              have hji : i ≠ j := fun e => hrj (by rw [← e]; exact hri)
              rw [getD_set_ne false hji] at hlj
              rw [slot_put_ne _ (dne i j o oj t hik hj hol (by simpa using hoj) hji hdt)]
              exact m.put j oj t hj hoj hdt hlj hrj
            · intro t hno
              rw [slot_put_ne _ (hno i o hik ho hset)]
              exact m.same t (fun j oj hj hoj hl => hno j oj hj hoj (getD_set_true hl))
            · intro j oj t hj hoj hdt hlj hrj
              by_cases hji : i = j
              · subst hji
                rw [ho] at hoj
                cases hoj
                simp only [if_true]
                refine ⟨?_, m.ahd.size, ?_⟩
                · rw [hdt]
                  rw [hod] at hdt
                  cases hdt
                  exact slot_put_same _ (by rw [m.tsize]; exact hdlt)
                · show (w.heap.push _)[w.heap.size]? = _
                  simp
              · rw [getD_set_ne false hji] at hlj
                obtain ⟨h1, h2, h3⟩ := m.spec j oj t hj hoj hdt hlj hrj
                have hne : ¬ j = i := fun e => hji e.symm
                simp only [if_neg hne]
                refine ⟨by rw [slot_put_ne _ (dne i j o oj t hik hj hol (by simpa using hoj) hji hdt)]; exact h1, h2, ?_⟩
                rw [Below.heap_alloc _ _ _ (Array.getElem?_eq_some_iff.1 h3).1]
                exact h3
            · have old : ∀ j, j < k → i ≠ j → (listed.setIfInBounds i true).getD j false = true → rs[j]? = some Role.p → gs j < w.heap.size := by
                intro j hj hji hlj hrj
                rw [getD_set_ne false hji] at hlj
                have hoj : l[j]? = some (l[j]'(by omega)) := by simp
                obtain ⟨d', hd', _⟩ := dlt j _ hj hoj
                exact (Array.getElem?_eq_some_iff.1 (m.spec j _ d' hj (by simp) hd' hlj hrj).2.2).1
              intro j j' hj hj' hne hlj hlj' hrj hrj'
              by_cases hji : i = j
              · subst hji
                have := old j' hj' hne hlj' hrj'
                rw [if_pos rfl, if_neg (fun e => hne e.symm)]
                omega
              · by_cases hji' : i = j'
                · subst hji'
                  have := old j hj hji hlj hrj
                  rw [if_neg hne, if_pos rfl]
                  omega
                · rw [if_neg (fun e => hji e.symm), if_neg (fun e => hji' e.symm)]
                  rw [getD_set_ne false hji] at hlj
                  rw [getD_set_ne false hji'] at hlj'
                  exact m.apart j j' hj hj' hne hlj hlj' hrj hrj'
  refine wp_region_any hm (main _ (fun _ => 0) _ a0 _ ?_ (by rw [unl_rep]))
  refine ⟨by simp, ?_, ?_, (Below.refl _ _).drew, rfl, rfl, ?_, ?_, ?_, ?_⟩
  · intro j oj hj h
    rw [getD_replicate_false] at h
    cases h
  · intro t _ ht
    have : (Array.replicate l.toArray.size false).getD t true = false := by simp at ht; simp [ht]
    exact this
  · intro j o t _ _ _ h
    rw [getD_replicate_false] at h
    cases h
  · intro t _; rfl
  · intro j o t _ _ _ h
    rw [getD_replicate_false] at h
    cases h
  · intro j j' _ _ _ h
    rw [getD_replicate_false] at h
    cases h
end
end Go.Proofs.Ytcneohhfnnelgaa
namespace Go.Proofs.Ytcneohhfnnelgaa
open Go Go.RowKit
set_option linter.unusedVariables false

def privsB (ops : Array Oper) (k n : Nat) (rs : List Role) (j1 : Nat) (ty : TypeId) (d1 y : Tmp) : Bool :=
  Region.noSelect ops && decide (k < ops.size) && dstsOk n (ops.toList.take k) &&
  (List.range ops.size).all (fun i => match ops[i]? with | some o => o.after.all (fun e => !Region.binds .any e || decide (e.on < i)) | none => false) &&
  (List.range ops.size).all (fun t => decide (t ≤ k) || (List.range (k + 1)).all (fun i => (coverB ops ops.size (depsB ops t (List.replicate ops.size false))).getD i false)) &&
  (List.range k).all (fun i => (List.range k).all fun j => match ops[i]?, ops[j]? with
    | some oi, some oj => (match oj.dst with | some d => !(oi.looksAt ops).contains d || (decide (j < i) && waitsB1 .any ops i j) | none => false)
    | _, _ => false) &&
  Region.seqB .any ops (ops.size - (k + 1)) (k + 1) (Array.replicate (k + 1) true ++ Array.replicate (ops.size - (k + 1)) false) &&
  decide (rs.length = k) &&
  (List.range k).all (fun i => (List.range k).all fun j => match ops[i]?, ops[j]?, rs[i]?, rs[j]? with
    | some oi, some oj, some ri, some rj => !rj.isP || (match oj.dst with | some d => !(oi.looksAt ops).contains d || ri.eats j d | none => false)
    | _, _, _, _ => false) &&
  (List.range k).all (fun i => match ops[i]?, rs[i]? with
    | some oi, some (.c j d) => decide (j < k) && (match ops[j]?, rs[j]? with | some oj, some rj => rj.isP && (oj.dst == some d) | _, _ => false) && (oi.looksAt ops).contains d && !(j == j1)
    | _, _ => true) &&
  (List.range k).all (fun j => match ops[j]?, rs[j]? with
    | some oj, some rj => (!(oj.dst == some d1) || waitsB1 .any ops k j) && (!(oj.dst == some y) || (waitsB1 .any ops k j && !rj.isP)) && (!(j == j1) || (rj.isP && (oj.dst == some d1)))
    | _, _ => false) &&
  decide (j1 < k) &&
  (match ops[k]? with
    | some o => (match o.op with | .store ty' (.tmp a) (.tmp b) => (ty' == ty) && (a == d1) && (b == y) | _ => false) && o.guard.isNone && o.dst.isNone
    | none => false)

structure MidS (P : Program) (ops : Array Oper) (k j1 : Nat) (N : Obj) (rs : List Role) (cont : Nat → Obj × (Nat → Value)) (a0 af : Act) (W : World) (gs : Nat → Nat) (listed : Array Bool) (a : Act) (w : World) : Prop where
  size : listed.size = ops.size
  closed : ∀ j oj, ops[j]? = some oj → listed.getD j false = true → ∀ e ∈ oj.after, Region.binds .any e = true → listed.getD e.on false = true
  tail : ∀ t, k < t → t < ops.size → listed.getD t true = false
  ahd : Below W.heap.size W w
  defers : a.defers = a0.defers
  tsize : a.tmps.size = a0.tmps.size
  put : ∀ j o t, j < k → ops[j]? = some o → o.dst = some t → listed.getD j false = true → rs[j]? ≠ some Role.p → slotOf a t = slotOf af t
  same : ∀ t, (∀ j o, j < k → ops[j]? = some o → listed.getD j false = true → o.dst ≠ some t) → slotOf a t = slotOf a0 t
  spec : ∀ j o t, j < k → ops[j]? = some o → o.dst = some t → listed.getD j false = true → rs[j]? = some Role.p → slotOf a t = (cont j).2 (gs j) ∧ W.heap.size ≤ gs j ∧ w.heap[gs j]? = some (if listed.getD k false = true ∧ j = j1 then N else (cont j).1)
  apart : ∀ j j', j < k → j' < k → j ≠ j' → listed.getD j false = true → listed.getD j' false = true → rs[j]? = some Role.p → rs[j']? = some Role.p → gs j ≠ gs j'

section
variable {P : Program} {Q : Exit → Act → World → Prop} {W : World} {a0 af : Act} {l : List Oper} {k : Nat} {rs : List Role} {cont : Nat → Obj × (Nat → Value)}
theorem wp_region_privs {id : Nat} (k : Nat) (rs : List Role) (cont : Nat → Obj × (Nat → Value)) (j1 : Nat) (ty t1 : TypeId) (d1 y : Tmp) (old cells : Array Value) (af : Act) (hm : P.follows .mixedOrders = true)
    (hB : privsB l.toArray k a0.tmps.size rs j1 ty d1 y = true)
    (hO : (cont j1).1 = .cells old t1 (0, 0)) (hPv : ∀ b, (cont j1).2 b = .pointer (some ⟨b, 0, none⟩)) (hi1 : (P.info? ty).map (·.size) = some cells.size) (hold : old.size = cells.size) (hone : cells.all (·.oneCell') = true)
    (hwalk : ∀ V : World, Below W.heap.size W V → wpP P l.toArray af cont V 0 rs (l.take k) a0)
    (hy : slotOf af y = .agg cells)
    (htail : ∀ (gs : Nat → Nat) (w' : World), Below W.heap.size W w' → (∀ j : Nat, rs[j]? = some Role.p → W.heap.size ≤ gs j ∧ w'.heap[gs j]? = some (if j = j1 then .cells cells t1 (0, 0) else (cont j).1)) → (∀ j j' : Nat, rs[j]? = some Role.p → rs[j']? = some Role.p → j ≠ j' → gs j ≠ gs j') → wpList P l.toArray Q (l.drop (k + 1)) (fillP cont gs 0 rs (l.take k) af) w') :
    (Code.region id l.toArray true).wp P Q a0 W := by
  unfold privsB at hB
  simp only [Bool.and_eq_true, decide_eq_true_eq] at hB
  obtain ⟨⟨⟨⟨⟨⟨⟨⟨⟨⟨⟨⟨hsel, hks⟩, hdst⟩, hback⟩, htl⟩, hdep⟩, hseq⟩, hrl⟩, hpc⟩, hcc⟩, hst⟩, hj1⟩, hsop⟩ := hB
  simp only [List.all_eq_true, List.mem_range, Bool.or_eq_true, decide_eq_true_eq] at hback htl hdep hpc hcc hst
  have hsz : l.toArray.size = l.length := by simp
  have hkl : k < l.length := by rw [← hsz]; exact hks
  have hdk : dstsOk a0.tmps.size (l.take k) = true := hdst
  have hall : ∀ V : World, Below W.heap.size W V → AllInP P l.toArray af cont V 0 rs (l.take k) a0 := fun V hV => allInP_of hdk (hwalk V hV)
  have hA0 := hall W (Below.refl _ _)
  have hget : ∀ i, i < k → (l.take k)[i]? = l[i]? := fun i hi => by rw [List.getElem?_take]; simp [hi]
  have hos : ∃ os, l[k]? = some os ∧ os.op = .store ty (.tmp d1) (.tmp y) ∧ os.guard = none ∧ os.dst = none := by
    have hk : l[k]? = some (l[k]'(by omega)) := by simp
    have hk' : l.toArray[k]? = some (l[k]'(by omega)) := by simp
    rw [hk'] at hsop
    simp only [Bool.and_eq_true] at hsop
    obtain ⟨⟨h1, h2⟩, h3⟩ := hsop
    refine ⟨_, hk, ?_, by simpa using h2, by simpa using h3⟩
    split at h1
    · rename_i ty' a b he
      simp only [Bool.and_eq_true, beq_iff_eq] at h1
      rw [he, h1.1.1, h1.1.2, h1.2]
    · cases h1
  obtain ⟨os, hosk, hoso, hosg, hosd⟩ := hos
  have hrole : ∀ i, i < k → ∃ r, rs[i]? = some r := fun i hi => ⟨rs[i]'(by omega), by simp [hrl, hi]⟩
  have hafs : ∀ t, (∀ j o, j < k → l[j]? = some o → o.dst ≠ some t) → slotOf af t = slotOf a0 t := fun t ht => hA0.keep.2.2 t (fun o ho => by
    obtain ⟨j, hj⟩ := List.getElem?_of_mem ho
    rw [List.getElem?_take] at hj
    split at hj
    · exact ht j o (by assumption) hj
    · cases hj)
  have hback' : ∀ i o, l[i]? = some o → ∀ e ∈ o.after, Region.binds .any e = true → e.on < i := by
    intro i o hi e he hb
    have hil : i < l.length := (List.getElem?_eq_some_iff.1 hi).1
    have h1 := hback i (by rw [hsz]; exact hil)
    have hi' : l.toArray[i]? = some o := by simpa using hi
    rw [hi'] at h1
    have h2 := Array.all_eq_true_iff_forall_mem.1 h1 e he
    simpa [hb] using h2
  have hdep' : ∀ i o j oj d, i < k → l[i]? = some o → j < k → l[j]? = some oj → oj.dst = some d → d ∈ o.looksAt l.toArray → j < i ∧ waitsB1 .any l.toArray i j = true := by
    intro i o j oj d hi ho hj hoj hd hmem
    have h1 := hdep i hi j (by omega)
    have ho' : l.toArray[i]? = some o := by simpa using ho
    have hoj' : l.toArray[j]? = some oj := by simpa using hoj
    rw [ho', hoj'] at h1
    simp only [hd] at h1
    have hc : (o.looksAt l.toArray).contains d = true := by simpa using hmem
    rw [hc] at h1
    simpa using h1
  have hwj1 : waitsB1 .any l.toArray k j1 = true := by
    obtain ⟨rj, hrj⟩ := hrole j1 hj1
    have h1 := hst j1 hj1
    have hoj' : l.toArray[j1]? = some (l[j1]'(by omega)) := by simp
    rw [hoj', hrj] at h1
    simp only [Bool.and_eq_true, Bool.or_eq_true, Bool.not_eq_true', beq_eq_false_iff_ne, ne_eq, beq_iff_eq, not_true_eq_false, false_or] at h1
    exact h1.1.1.resolve_left (fun h => h h1.2.2)
  have heat : ∀ i o j oj d r, i < k → l[i]? = some o → j < k → l[j]? = some oj → oj.dst = some d → d ∈ o.looksAt l.toArray → rs[j]? = some Role.p → rs[i]? = some r → r.eats j d = true := by
    intro i o j oj d r hi ho hj hoj hd hmem hrj hri
    have h1 := hpc i hi j hj
    have ho' : l.toArray[i]? = some o := by simpa using ho
    have hoj' : l.toArray[j]? = some oj := by simpa using hoj
    rw [ho', hoj', hri, hrj] at h1
    simp only [hd] at h1
    have hc : (o.looksAt l.toArray).contains d = true := by simpa using hmem
    rw [hc] at h1
    simpa [Role.isP] using h1
  have hfood : ∀ i o j d, i < k → l[i]? = some o → rs[i]? = some (.c j d) → j ≠ j1 ∧ j < k ∧ rs[j]? = some Role.p ∧ (∃ oj, l[j]? = some oj ∧ oj.dst = some d) ∧ d ∈ o.looksAt l.toArray := by
    intro i o j d hi ho hri
    have h1 := hcc i hi
    have ho' : l.toArray[i]? = some o := by simpa using ho
    rw [ho', hri] at h1
    simp only [Bool.and_eq_true, decide_eq_true_eq] at h1
    obtain ⟨⟨⟨hjk, h2⟩, h3⟩, h4⟩ := h1
    obtain ⟨rj, hrj⟩ := hrole j hjk
    have hoj : l[j]? = some (l[j]'(by omega)) := by simp
    have hoj' : l.toArray[j]? = some (l[j]'(by omega)) := by simp
    rw [hoj', hrj] at h2
    simp only [Bool.and_eq_true, beq_iff_eq] at h2
    refine ⟨by simpa using h4, hjk, ?_, ⟨_, hoj, h2.2⟩, by simpa using h3⟩
    cases rj with
    | p => exact hrj
    | q => cases h2.1
    | c _ _ => cases h2.1
  have dlt : ∀ i o, i < k → l[i]? = some o → ∃ d, o.dst = some d ∧ d < a0.tmps.size := fun i o hi ho => dsts_lt _ _ i o hdk (by rw [hget i (by omega)]; exact ho)
  have dne : ∀ i j o oj t, i < k → j < k → l[i]? = some o → l[j]? = some oj → i ≠ j → oj.dst = some t → o.dst ≠ some t := fun i j o oj t hi hj ho hoj hne hd => dsts_ne _ _ j i oj o t hdk (by rw [hget j (by omega)]; exact hoj) (by rw [hget i (by omega)]; exact ho) (Ne.symm hne) hd
  have fin : ∀ (gs : Nat → Nat) (listed : Array Bool) (a : Act) (w : World), MidS P l.toArray k j1 (.cells cells t1 (0, 0)) rs cont a0 af W gs listed a w → (∀ i, i < k + 1 → listed.getD i false = true) → ∀ fuel, unl listed = fuel → wpAny P .any l.toArray Q fuel listed a w := by
    intro gs listed a w m hdone fuel hu
    have hLH : listed = Array.replicate (k + 1) true ++ Array.replicate (l.toArray.size - (k + 1)) false := by
      apply Array.ext
      · simp [m.size]; omega
      · intro i h1 h2
        rcases Nat.lt_or_ge i (k + 1) with h' | h
        rotate_left 1
        · have := m.tail i h (by rw [← m.size]; exact h1)
          rw [Array.getElem_append_right (by simp; omega)]
          simpa [h1] using this
        · have := hdone i h'
          rw [Array.getElem_append_left (by simp; omega)]
          simpa [h1] using this
    have hae : a = fillP cont gs 0 rs (l.take k) af := by
      have hs0 := hA0.keep
      have hf0 := fillP_keep (cont := cont) gs rs 0 (l.take k) af
      refine act_ext ?_ ?_ ?_
      · rw [m.tsize, hf0.1, hs0.1]
      · rw [m.defers, hf0.2, hs0.2.1]
      · intro t
        by_cases hex : ∃ j o, j < k ∧ l[j]? = some o ∧ o.dst = some t
        · obtain ⟨j, o, hj, ho, hd⟩ := hex
          by_cases hp : rs[j]? = some Role.p
          · rw [(m.spec j o t hj (by simpa using ho) hd (hdone j (by omega)) hp).1]
            have := fillP_at (cont := cont) gs rs 0 (l.take k) af a0.tmps.size j o t hdk hs0.1.symm (by rw [hget j hj]; exact ho) hp hd
            rw [this, Nat.zero_add]
          · rw [m.put j o t hj (by simpa using ho) hd (hdone j (by omega)) hp]
            rw [fillP_ne gs rs 0 (l.take k) af t (fun i o' ho' hr' => ?_)]
            have hik : i < k := by
              have := (List.getElem?_eq_some_iff.1 ho').1
              simp at this
              omega
            by_cases hij : i = j
            · subst hij; exact absurd hr' hp
            · exact dne i j o' o t hik hj (by rw [← hget i hik]; exact ho') ho hij hd
        · rw [m.same t (fun j o hj ho _ hd => hex ⟨j, o, hj, by simpa using ho, hd⟩)]
          rw [fillP_ne gs rs 0 (l.take k) af t (fun i o' ho' hr' hd => hex ⟨i, o', by have := (List.getElem?_eq_some_iff.1 ho').1; simp at this; omega, by rw [← hget i (by have := (List.getElem?_eq_some_iff.1 ho').1; simp at this; omega)]; exact ho', hd⟩)]
          exact (hafs t (fun j o hj ho hd => hex ⟨j, o, hj, ho, hd⟩)).symm
    have hfu : fuel = (l.drop (k + 1)).length := by
      rw [← hu, hLH, unl_done]
      simp
    rw [hfu, hae]
    have hpk : ∀ j, rs[j]? = some Role.p → j < k := fun j hj => by
      have := (List.getElem?_eq_some_iff.1 hj).1
      omega
    refine wpAny_of_seq (l.drop (k + 1)) (k + 1) listed _ w (fun j => by simp [List.getElem?_drop]) ?_ (htail gs w m.ahd (fun j hj => ?_) (fun j j' hj hj' hne => m.apart j j' (hpk j hj) (hpk j' hj') hne (hdone j (by have := hpk j hj; omega)) (hdone j' (by have := hpk j' hj'; omega)) hj hj'))
    · rw [hLH]
      have : (l.drop (k + 1)).length = l.toArray.size - (k + 1) := by simp
      rw [this]
      exact hseq
    · have hjk := hpk j hj
      have hoj : l[j]? = some (l[j]'(by omega)) := by simp
      obtain ⟨d, hd, _⟩ := dlt j _ hjk hoj
      have h9 := (m.spec j _ d hjk (by simp) hd (hdone j (by omega)) hj).2
      have h10 := hdone k (by omega)
      simpa only [h10, true_and] using h9
  have main : ∀ (fuel : Nat) (gs : Nat → Nat) (listed : Array Bool) (a : Act) (w : World), MidS P l.toArray k j1 (.cells cells t1 (0, 0)) rs cont a0 af W gs listed a w → unl listed = fuel → wpAny P .any l.toArray Q fuel listed a w := by
    intro fuel
    induction fuel with
    | zero =>
      intro gs listed a w m hu
      by_cases hdone : ∀ i, i < k + 1 → listed.getD i false = true
      · exact fin gs listed a w m hdone _ hu
      · obtain ⟨i, hi, _, hun⟩ := first_no' listed (k + 1) hdone
        have := unl_set (listed := listed) (i := i) (by rw [m.size]; omega) (by rw [getD_tf (by rw [m.size]; omega)]; exact hun)
        omega
    | succ fuel ih =>
      intro gs listed a w m hu
      by_cases hdone : ∀ i, i < k + 1 → listed.getD i false = true
      · exact fin gs listed a w m hdone _ hu
      · obtain ⟨i0, hi0, hpre, hun0⟩ := first_no' listed (k + 1) hdone
        refine ⟨fun h0 => ?_, fun i hi => ?_⟩
        · have hr : i0 ∈ Region.ready .any l.toArray listed := by
            rw [mem_ready]
            refine ⟨by rw [getD_tf (by rw [m.size]; omega)]; exact hun0, l[i0]'(by omega), by simp, fun e he hb => hpre _ ?_⟩
            exact hback' i0 _ (by simp) e he hb
          rw [h0] at hr
          cases hr
        · have hi' := hi
          obtain ⟨hun, o, ho, hw⟩ := mem_ready.1 hi
          have hil : i < l.length := by
            have := (Array.getElem?_eq_some_iff.1 ho).1
            simpa using this
          have hol : l[i]? = some o := by simpa using ho
          have hun' : unl (listed.setIfInBounds i true) = fuel := by
            have := unl_set (listed := listed) (i := i) (by rw [m.size]; omega) hun
            omega
          have hik : i < k + 1 := by
            rcases Nat.lt_or_ge k i with h | h
            · have h1 := (htl i (by omega)).resolve_left (by omega) i0 hi0
              have h3 := cover_listed (ops := l.toArray) m.closed l.toArray.size _ (fun j hj => ?_) i0 h1
              · rw [hun0] at h3
                cases h3
              · unfold depsB at hj
                rw [ho] at hj
                refine deps_listed _ _ (fun e he hb => hw e (by simpa using he) hb) (fun q hq => ?_) j hj
                rw [List.getD_eq_getElem?_getD, List.getElem?_replicate] at hq
                split at hq <;> cases hq
            · omega
          have hclosed : ∀ j oj, l.toArray[j]? = some oj → (listed.setIfInBounds i true).getD j false = true → ∀ e ∈ oj.after, Region.binds .any e = true → (listed.setIfInBounds i true).getD e.on false = true := by
            intro j oj hj hl e he hb
            by_cases hji : i = j
            · subst hji
              rw [ho] at hj
              cases hj
              exact getD_set_true (hw e he hb)
            · rw [getD_set_ne false hji] at hl
              exact getD_set_true (m.closed j oj hj hl e he hb)
          have htail' : ∀ t, k < t → t < l.toArray.size → (listed.setIfInBounds i true).getD t true = false := fun t ht ht' => by rw [getD_set_ne true (by omega)]; exact m.tail t ht ht'
          by_cases hikk : i = k
          · subst hikk
            have hoo : o = os := by rw [hosk] at hol; exact (Option.some.inj hol).symm
            subst hoo
            have hunk : listed.getD i false = false := by rw [← getD_tf (by rw [m.size]; omega)]; exact hun
            have hstj : ∀ j oj d, j < i → l[j]? = some oj → oj.dst = some d → (d = d1 ∨ d = y) → listed.getD j false = true := by
              intro j oj d hj hoj hd hdy
              obtain ⟨rj, hrj⟩ := hrole j hj
              have h1 := hst j hj
              have hoj' : l.toArray[j]? = some oj := by simpa using hoj
              rw [hoj', hrj] at h1
              simp only [Bool.and_eq_true, Bool.or_eq_true, Bool.not_eq_true', beq_eq_false_iff_ne, ne_eq, beq_iff_eq] at h1
              have hwt : waitsB1 .any l.toArray i j = true := by
                rcases hdy with rfl | rfl
                · exact h1.1.1.resolve_left (fun h => h hd)
                · exact (h1.1.2.resolve_left (fun h => h hd)).1
              obtain ⟨e, he, hb, heo⟩ := waitsB1_spec ho hwt
              have := hw e he hb
              rwa [heo] at this
            obtain ⟨oj1, hoj1, hdj1, hrj1⟩ : ∃ oj, l[j1]? = some oj ∧ oj.dst = some d1 ∧ rs[j1]? = some Role.p := by
              obtain ⟨rj, hrj⟩ := hrole j1 hj1
              have hoj : l[j1]? = some (l[j1]'(by omega)) := by simp
              have h1 := hst j1 hj1
              have hoj' : l.toArray[j1]? = some (l[j1]'(by omega)) := by simp
              rw [hoj', hrj] at h1
              simp only [Bool.and_eq_true, Bool.or_eq_true, Bool.not_eq_true', beq_eq_false_iff_ne, ne_eq, beq_iff_eq, not_true_eq_false, false_or] at h1
              refine ⟨_, hoj, h1.2.2, ?_⟩
              cases rj with
              | p => exact hrj
              | q => cases h1.2.1
              | c _ _ => cases h1.2.1
            have hlj1 := hstj j1 oj1 d1 hj1 hoj1 hdj1 (.inl rfl)
            obtain ⟨s1, s2, s3⟩ := m.spec j1 oj1 d1 hj1 (by simpa using hoj1) hdj1 hlj1 hrj1
            rw [if_neg (fun h => by rw [hunk] at h; cases h.1), hO] at s3
            rw [hPv] at s1
            have hyy : slotOf a y = .agg cells := by
              rw [← hy]
              by_cases hex : ∃ j oj, j < i ∧ l[j]? = some oj ∧ oj.dst = some y
              · obtain ⟨j, oj, hj, hoj, hd⟩ := hex
                refine m.put j oj y hj (by simpa using hoj) hd (hstj j oj y hj hoj hd (.inr rfl)) (fun hrp => ?_)
                have h1 := hst j hj
                have hoj' : l.toArray[j]? = some oj := by simpa using hoj
                rw [hoj', hrp] at h1
                simp only [Bool.and_eq_true, Bool.or_eq_true, Bool.not_eq_true', beq_eq_false_iff_ne, ne_eq, beq_iff_eq] at h1
                have h2 := (h1.1.2.resolve_left (fun h => h hd)).2
                cases h2
              · rw [m.same y (fun j oj hj hoj _ hd => hex ⟨j, oj, hj, by simpa using hoj, hd⟩), hafs y (fun j oj hj hoj hd => hex ⟨j, oj, hj, hoj, hd⟩)]
            unfold wpOp
            simp only [ho]
            rw [if_pos (by unfold Region.wanted; rw [hosg])]
            refine .inl (wp_store_row ty (.tmp d1) (.tmp y) hoso (gs j1) cells s1 hyy t1 old s3 hi1 hold hone ?_)
            rw [hosd]
            show wpAny P .any l.toArray Q fuel (listed.setIfInBounds i true) a (w.setRow (gs j1) cells)
            have hseti : (listed.setIfInBounds i true).getD i false = true := by
              have : i < listed.size := by rw [m.size]; omega
              simp [this]
            refine ih gs _ _ _ ⟨by simp [m.size], hclosed, htail', below_setRow m.ahd s2 cells, m.defers, m.tsize, ?_, ?_, ?_, ?_⟩ hun'
            · intro j oj t hj hoj hdt hl hrj
              rw [getD_set_ne false (by omega)] at hl
              exact m.put j oj t hj hoj hdt hl hrj
            · intro t hno
              exact m.same t (fun j oj hj hoj hl => hno j oj hj hoj (getD_set_true hl))
            · intro j oj t hj hoj hdt hl hrj
              rw [getD_set_ne false (by omega)] at hl
              obtain ⟨h1, h2, h3⟩ := m.spec j oj t hj hoj hdt hl hrj
              refine ⟨h1, h2, ?_⟩
              by_cases hjj : j = j1
              · subst hjj
                rw [if_pos ⟨hseti, rfl⟩]
                exact setRow_heap w (gs j) old cells t1 (0, 0) s3
              · rw [if_neg (fun h => hjj h.2)]
                rw [if_neg (fun h => hjj h.2)] at h3
                rw [setRow_other _ _ _ _ (m.apart j j1 hj hj1 hjj hl hlj1 hrj hrj1)]
                exact h3
            · intro j j' hj hj' hne hl hl' hrj hrj'
              rw [getD_set_ne false (by omega)] at hl hl'
              exact m.apart j j' hj hj' hne hl hl' hrj hrj'
          replace hik : i < k := by omega
          have hkk : (listed.setIfInBounds i true).getD k false = listed.getD k false := getD_set_ne false (by omega)
          obtain ⟨d, hod, hdlt⟩ := dlt i o hik hol
          obtain ⟨r, hri⟩ := hrole i hik
          have hset : (listed.setIfInBounds i true).getD i false = true := by
            have : i < listed.size := by rw [m.size]; omega
            simp [this]
          have hunl : listed.getD i false = false := by rw [← getD_tf (by rw [m.size]; omega)]; exact hun
          -- the slots that the operation looks at, but for a block of its own kind
          have hlook : ∀ t ∈ o.looksAt l.toArray, (∀ j oj, j < k → l[j]? = some oj → oj.dst = some t → rs[j]? = some Role.p → False) → slotOf a t = slotOf (accum af ((l.take k).take i) a0) t := by
            intro t ht hnp
            rw [accum_slot _ _ _ (dstsOk_take _ _ _ hdk)]
            by_cases hex : ∃ j oj, j < k ∧ l[j]? = some oj ∧ oj.dst = some t
            · obtain ⟨j, oj, hj, hoj, hdt⟩ := hex
              obtain ⟨hji, hwt⟩ := hdep' i o j oj t hik hol hj hoj hdt ht
              obtain ⟨e, he, hb, heo⟩ := waitsB1_spec ho hwt
              have hlj := hw e he hb
              rw [heo] at hlj
              rw [m.put j oj t (by omega) (by simpa using hoj) hdt hlj (fun h => hnp j oj hj hoj hdt h), if_pos]
              rw [List.any_eq_true]
              refine ⟨oj, ?_, by simp [hdt]⟩
              refine List.mem_of_getElem? (i := j) ?_
              rw [List.getElem?_take, List.getElem?_take]
              simp only [hji, show j < k by omega, if_true, hoj]
            · rw [m.same t (fun j oj hj hoj _ hdt => hex ⟨j, oj, by omega, by simpa using hoj, hdt⟩), if_neg]
              intro hany
              rw [List.any_eq_true] at hany
              obtain ⟨oj, hmem, hdt⟩ := hany
              obtain ⟨j, hj⟩ := List.getElem?_of_mem (List.mem_of_mem_take hmem)
              rw [List.getElem?_take] at hj
              split at hj
              · exact hex ⟨j, oj, by omega, hj, by simpa using hdt⟩
              · cases hj
          have hstep := (hall w m.ahd).get (i := i) (o := o) (r := r) (by rw [hget i hik]; exact hol) hri
          rw [Nat.zero_add] at hstep
          -- what comes behind an operation that leaves a fixed value
          have after : rs[i]? ≠ some Role.p → ∀ x : Past w, wpAny P .any l.toArray Q fuel (listed.setIfInBounds i true) (a.put o.dst (leftBy af o)) x.w := by
            intro hnp x
            refine ih gs _ _ _ ⟨by simp [m.size], hclosed, htail', m.ahd.trans (x.far.mono m.ahd.size), by rw [defers_put]; exact m.defers, by rw [size_put]; exact m.tsize, ?_, ?_, ?_, ?_⟩ hun'
            · intro j oj t hj hoj hdt hl hrj
              by_cases hji : i = j
              · subst hji
                rw [ho] at hoj
                cases hoj
                have : leftBy af o = slotOf af t := by simp [leftBy, hdt]
                rw [hdt, this]
                rw [hod] at hdt
                cases hdt
                exact slot_put_same _ (by rw [m.tsize]; exact hdlt)
              · rw [getD_set_ne false hji] at hl
                rw [slot_put_ne _ (dne i j o oj t hik hj hol (by simpa using hoj) hji hdt)]
                exact m.put j oj t hj hoj hdt hl hrj
            · intro t hno
              rw [slot_put_ne _ (hno i o hik ho hset)]
              exact m.same t (fun j oj hj hoj hl => hno j oj hj hoj (getD_set_true hl))
            · intro j oj t hj hoj hdt hl hrj
              have hji : i ≠ j := fun e => hnp (by rw [e]; exact hrj)
              rw [getD_set_ne false hji] at hl
              obtain ⟨h1, h2, h3⟩ := m.spec j oj t hj hoj hdt hl hrj
              rw [hkk]
              refine ⟨by rw [slot_put_ne _ (dne i j o oj t hik hj hol (by simpa using hoj) hji hdt)]; exact h1, h2, ?_⟩
              rw [x.far.block _ (Array.getElem?_eq_some_iff.1 h3).1]
              exact h3
            · intro j j' hj hj' hne hl hl' hrj hrj'
              have hji : i ≠ j := fun e => hnp (by rw [e]; exact hrj)
              have hji' : i ≠ j' := fun e => hnp (by rw [e]; exact hrj')
              rw [getD_set_ne false hji] at hl
              rw [getD_set_ne false hji'] at hl'
              exact m.apart j j' hj hj' hne hl hl' hrj hrj'
          have exec : ∀ b : Act, (∀ t ∈ o.looksAt l.toArray, slotOf a t = slotOf b t) → execOp a.eval o = execOp b.eval o := fun b hb => execOp_congr o (fun cs b => Region.noSelect_spec hsel i o cs b ho) (fun x hx => by
            cases x with
            | tmp t => exact hb t (List.mem_append_left _ (List.mem_filterMap.2 ⟨.tmp t, by simpa using hx, rfl⟩))
            | _ => rfl)
          cases r with
          | q =>
            have hl : ∀ t ∈ o.looksAt l.toArray, slotOf a t = slotOf (accum af ((l.take k).take i) a0) t := fun t ht => hlook t ht (fun j oj hj hoj hdt hrj => by
              have := heat i o j oj t _ hik hol hj hoj hdt ht hrj hri
              cases this)
            have hy' := YieldsIn.of_same (show YieldsIn P l.toArray _ o (leftBy af o) _ from hstep) (exec _ hl) (wanted_congr hl)
            refine wpOp_of_qOp (C := fun w' => ∃ x : Past w, w' = x.w) ⟨⟨w, Below.refl _ _⟩, rfl⟩ (fun a' w' hx ha => ?_) (hy'.qOp ho (K := fun a' => a' = a.put o.dst (leftBy af o)) rfl)
            obtain ⟨x, rfl⟩ := hx
            subst ha
            exact after (by rw [hri]; simp) x
          | c j dd =>
            obtain ⟨hjj1, hjk, hrj, ⟨oj, hoj, hdj⟩, hmem⟩ := hfood i o j dd hik hol hri
            obtain ⟨hji, hwt⟩ := hdep' i o j oj dd hik hol hjk hoj hdj hmem
            obtain ⟨e, he, hb, heo⟩ := waitsB1_spec ho hwt
            have hlj := hw e he hb
            rw [heo] at hlj
            obtain ⟨s1, s2, s3⟩ := m.spec j oj dd hjk (by simpa using hoj) hdj hlj hrj
            rw [if_neg (fun h => hjj1 h.2)] at s3
            have hst := (show ∀ (V' : World) (g : Nat), _ → _ → YieldsIn P l.toArray _ o (leftBy af o) _ from hstep) w (gs j) (Below.refl _ _) s3
            obtain ⟨dj', hdj', hdjlt⟩ := dlt j oj hjk hoj
            have hdd : dj' = dd := by rw [hdj] at hdj'; exact (Option.some.inj hdj').symm
            rw [hdd] at hdjlt
            have hacc : (accum af ((l.take k).take i) a0).tmps.size = a0.tmps.size := by
              have : ∀ (l : List Oper) (a : Act), (accum af l a).tmps.size = a.tmps.size := by
                intro l
                induction l with
                | nil => intro a; rfl
                | cons o l ih => intro a; show (accum af l (a.put o.dst (leftBy af o))).tmps.size = _; rw [ih, size_put]
              exact this _ _
            have hl : ∀ t ∈ o.looksAt l.toArray, slotOf a t = slotOf ((accum af ((l.take k).take i) a0).put (some dd) ((cont j).2 (gs j))) t := by
              intro t ht
              by_cases htd : t = dd
              · subst htd
                rw [s1, slot_put_same _ (by rw [hacc]; exact hdjlt)]
              · rw [slot_put_ne _ (fun e => htd (by cases e; rfl))]
                refine hlook t ht (fun j' oj' hj' hoj' hdt' hrj' => ?_)
                have := heat i o j' oj' t _ hik hol hj' hoj' hdt' ht hrj' hri
                simp only [Role.eats, Bool.and_eq_true, beq_iff_eq] at this
                exact htd this.2.symm
            have hy' := YieldsIn.of_same hst (exec _ hl) (wanted_congr hl)
            refine wpOp_of_qOp (C := fun w' => ∃ x : Past w, w' = x.w) ⟨⟨w, Below.refl _ _⟩, rfl⟩ (fun a' w' hx ha => ?_) (hy'.qOp ho (K := fun a' => a' = a.put o.dst (leftBy af o)) rfl)
            obtain ⟨x, rfl⟩ := hx
            subst ha
            exact after (by rw [hri]; simp) x
          | p =>
            obtain ⟨hg, hrun⟩ := (show _ ∧ _ from hstep)
            have hl : ∀ t ∈ o.looksAt l.toArray, slotOf a t = slotOf (accum af ((l.take k).take i) a0) t := fun t ht => hlook t ht (fun j oj hj hoj hdt hrj => by
              have := heat i o j oj t _ hik hol hj hoj hdt ht hrj hri
              cases this)
            unfold wpOp
            simp only [ho]
            rw [if_pos (by rw [wanted_congr hl]; exact hg)]
            refine .inl ?_
            unfold Oper.wp
            rw [exec _ hl, hrun]
            show wpAny P .any l.toArray Q fuel (listed.setIfInBounds i true) (a.put o.dst ((cont i).2 w.heap.size)) (w.alloc (cont i).1)
            refine ih (fun j => if j = i then w.heap.size else gs j) _ _ _ ⟨by simp [m.size], hclosed, htail', m.ahd.alloc m.ahd.size _, by rw [defers_put]; exact m.defers, by rw [size_put]; exact m.tsize, ?_, ?_, ?_, ?_⟩ hun'
            · intro j oj t hj hoj hdt hlj hrj
              have hji : i ≠ j := fun e => hrj (by rw [← e]; exact hri)
              rw [getD_set_ne false hji] at hlj
              rw [slot_put_ne _ (dne i j o oj t hik hj hol (by simpa using hoj) hji hdt)]
              exact m.put j oj t hj hoj hdt hlj hrj
            · intro t hno
              rw [slot_put_ne _ (hno i o hik ho hset)]
              exact m.same t (fun j oj hj hoj hl => hno j oj hj hoj (getD_set_true hl))
            · intro j oj t hj hoj hdt hlj hrj
              by_cases hji : i = j
              · subst hji
                rw [ho] at hoj
                cases hoj
                simp only [if_true]
                rw [hkk]
                refine ⟨?_, m.ahd.size, ?_⟩
                · rw [hdt]
                  rw [hod] at hdt
                  cases hdt
                  exact slot_put_same _ (by rw [m.tsize]; exact hdlt)
                · rw [if_neg (fun h => by
                    obtain ⟨e, he, hb, heo⟩ := waitsB1_spec (show l.toArray[k]? = some os by simpa using hosk) hwj1
                    have h2 := m.closed k os (by simpa using hosk) h.1 e he hb
                    rw [heo, ← h.2, ← getD_tf (by rw [m.size]; omega), hun] at h2
                    cases h2)]
                  show (w.heap.push _)[w.heap.size]? = _
                  simp
              · rw [getD_set_ne false hji] at hlj
                obtain ⟨h1, h2, h3⟩ := m.spec j oj t hj hoj hdt hlj hrj
                have hne : ¬ j = i := fun e => hji e.symm
                simp only [if_neg hne]
                rw [hkk]
                refine ⟨by rw [slot_put_ne _ (dne i j o oj t hik hj hol (by simpa using hoj) hji hdt)]; exact h1, h2, ?_⟩
                rw [Below.heap_alloc _ _ _ (Array.getElem?_eq_some_iff.1 h3).1]
                exact h3
            · have old : ∀ j, j < k → i ≠ j → (listed.setIfInBounds i true).getD j false = true → rs[j]? = some Role.p → gs j < w.heap.size := by
                intro j hj hji hlj hrj
                rw [getD_set_ne false hji] at hlj
                have hoj : l[j]? = some (l[j]'(by omega)) := by simp
                obtain ⟨d', hd', _⟩ := dlt j _ hj hoj
                exact (Array.getElem?_eq_some_iff.1 (m.spec j _ d' hj (by simp) hd' hlj hrj).2.2).1
              intro j j' hj hj' hne hlj hlj' hrj hrj'
              by_cases hji : i = j
              · subst hji
                have := old j' hj' hne hlj' hrj'
                rw [if_pos rfl, if_neg (fun e => hne e.symm)]
                omega
              · by_cases hji' : i = j'
                · subst hji'
                  have := old j hj hji hlj hrj
                  rw [if_neg hne, if_pos rfl]
                  omega
                · rw [if_neg (fun e => hji e.symm), if_neg (fun e => hji' e.symm)]
                  rw [getD_set_ne false hji] at hlj
                  rw [getD_set_ne false hji'] at hlj'
                  exact m.apart j j' hj hj' hne hlj hlj' hrj hrj'
  refine wp_region_any hm (main _ (fun _ => 0) _ a0 _ ?_ (by rw [unl_rep]))
  refine ⟨by simp, ?_, ?_, (Below.refl _ _).drew, rfl, rfl, ?_, ?_, ?_, ?_⟩
  · intro j oj hj h
    rw [getD_replicate_false] at h
    cases h
  · intro t _ ht
    have : (Array.replicate l.toArray.size false).getD t true = false := by simp at ht; simp [ht]
    exact this
  · intro j o t _ _ _ h
    rw [getD_replicate_false] at h
    cases h
  · intro t _; rfl
  · intro j o t _ _ _ h
    rw [getD_replicate_false] at h
    cases h
  · intro j j' _ _ _ h
    rw [getD_replicate_false] at h
    cases h
end
end Go.Proofs.Ytcneohhfnnelgaa
namespace Go.Proofs.Ytcneohhfnnelgaa
open Go.RowKit
set_option linter.unusedVariables false

theorem infoTwo : (Try.prog.info? 2).map (fun i => (i.zero, i.size, i.bytes)) = some (some (.int .i64 0), 1, 8) := by kernel_rfl
theorem ownOn {P : World} {w w' : World} {B n cap : Nat} {A : Option Addr} {xs : List Value} (h : w.ownsRow B 2 1 (.slice A n cap) n xs) (hb : Below w.heap.size w w') : w'.ownsRow B 2 1 (.slice A n cap) n xs := by
  refine ⟨h.1, ?_⟩
  rcases h.2 with h2 | ⟨k, c, cur, hv, hb', hg, r⟩
  · exact .inl h2
  · cases hv
    exact .inr ⟨k, cap, cur, rfl, hb', by rw [hb.block k (Array.getElem?_eq_some_iff.1 hg).1]; exact hg, r⟩
theorem ownInts {w : World} {B n cap : Nat} {A : Option Addr} {ys : List Int} (h : w.ownsRow B 2 1 (.slice A n cap) n (ys.map (Value.int .i64))) : IntsAt w A ys := by
  intro i hi
  rcases h.2 with ⟨h2, hn⟩ | ⟨g, c, cur, hv, hb, hg, r⟩
  · have := h.1
    simp at this
    omega
  · cases hv
    have hc := World.ownsRow.cells (g := g) h rfl i (.int .i64 (ys.getD i 0)) (by simp [List.getD, hi])
    exact ⟨_, rfl, hc⟩

theorem ownGe {w : World} {B n cap : Nat} {A : Option Addr} {xs : List Value} (h : w.ownsRow B 2 1 (.slice A n cap) n xs) {k : Nat} (hk : (Value.slice A n cap).ownBlock = some k) : B ≤ k := by
  rcases h.2 with ⟨h2, _⟩ | ⟨g, c, cur, hv, hb, _⟩
  · cases h2; cases hk
  · cases hv; cases hk; exact hb
theorem Blk.cellOne {W : World} {g : Nat} {t : TypeId} {v : Value} (h : Blk W g t [v]) (j : Nat) (u : Value) (hu : [v][j]? = some u) : W.cell? ((⟨g, 0, none⟩ : Addr).add j) = some u := by
  cases j with
  | zero => cases hu; exact h.cell 0 rfl
  | succ j => cases hu

theorem own_grown {w w' : World} {row : Option Nat} {B n cap : Nat} {A : Option Addr} {xs : List Value} (h : w.ownsRow B 2 1 (.slice A n cap) n xs) (hg : w.grownBy w' row) (hne : ∀ k, OwnB A k → some k ≠ row) : w'.ownsRow B 2 1 (.slice A n cap) n xs := by
  refine ⟨h.1, ?_⟩
  rcases h.2 with h2 | ⟨k, c, cur, hv, hb', hgk, r⟩
  · exact .inl h2
  · cases hv
    exact .inr ⟨k, cap, cur, rfl, hb', by rw [hg.block k (Array.getElem?_eq_some_iff.1 hgk).1 (hne k ⟨_, rfl, rfl⟩)]; exact hgk, r⟩
theorem own_lt {w : World} {B n cap : Nat} {A : Option Addr} {xs : List Value} (h : w.ownsRow B 2 1 (.slice A n cap) n xs) {k : Nat} (hk : OwnB A k) : k < w.heap.size ∧ B ≤ k := by
  obtain ⟨a, rfl, rfl⟩ := hk
  rcases h.2 with ⟨h2, _⟩ | ⟨g, c, cur, hv, hb, hg, _⟩
  · cases h2
  · cases hv
    exact ⟨(Array.getElem?_eq_some_iff.1 hg).1, hb⟩
theorem St.grown {w W W' : World} {l : List BlkRow} {row : Option Nat} (h : St w l W) (hg : W.grownBy W' row) (hr : ∀ k, row = some k → w.heap.size ≤ k ∧ ∀ x, x ∈ l → x.1 ≠ k) : St w l W' :=
  ⟨h.1.grown hg h.1.size (fun k hk => (hr k hk).1), fun x hx => (h.2.1 x hx).grown hg (fun e => (hr _ e.symm).2 x hx rfl), h.2.2⟩

/-- the two rows that ends makes -/
structure EnW (w : World) (m : Mot) (A1 A2 : Option Addr) (k c1 c2 : Nat) (xs ys : List Int) (W : World) : Prop where
  st : St w [(w.heap.size + 1 + 1, 52, [.int .i64 mot0.r, .int .i64 mot0.ld, .int .i64 mot0.lq, .int .i64 mot0.fx, .int .i64 mot0.po, .int .i64 mot0.mi, .int .i64 mot0.sp, .int .i64 mot0.dr, .int .i64 mot0.cu, .int .i64 mot0.fa]), (w.heap.size + 1, 52, [.int .i64 mot0.r, .int .i64 mot0.ld, .int .i64 mot0.lq, .int .i64 mot0.fx, .int .i64 mot0.po, .int .i64 mot0.mi, .int .i64 mot0.sp, .int .i64 mot0.dr, .int .i64 mot0.cu, .int .i64 mot0.fa]), (w.heap.size, 52, [.int .i64 m.r, .int .i64 m.ld, .int .i64 m.lq, .int .i64 m.fx, .int .i64 m.po, .int .i64 m.mi, .int .i64 m.sp, .int .i64 m.dr, .int .i64 m.cu, .int .i64 m.fa])] W
  own1 : W.ownsRow (w.heap.size + 3) 2 1 (.slice A1 k c1) k (xs.map (Value.int .i64))
  own2 : W.ownsRow (w.heap.size + 3) 2 1 (.slice A2 k c2) k (ys.map (Value.int .i64))
  dis : ∀ b, OwnB A1 b → ¬ OwnB A2 b
theorem EnW.size {w : World} {m : Mot} {A1 A2 : Option Addr} {k c1 c2 : Nat} {xs ys : List Int} {W : World} (h : EnW w m A1 A2 k c1 c2 xs ys W) : w.heap.size + 3 ≤ W.heap.size := by
  have := (h.st.get 0 rfl).lt
  omega
theorem ids3 {w : World} {a b c : List Value} {k : Nat} (hk : w.heap.size + 3 ≤ k) : ∀ x : BlkRow, x ∈ [(w.heap.size + 1 + 1, 52, a), (w.heap.size + 1, 52, b), (w.heap.size, 52, c)] → x.1 ≠ k := by
  intro x hx e
  simp only [List.mem_cons, List.not_mem_nil, or_false] at hx
  rcases hx with rfl | rfl | rfl <;> (simp only at e; omega)
theorem own_row {A : Option Addr} {n cap k : Nat} (h : (Value.slice A n cap).ownBlock = some k) : OwnB A k := ownB_iff.2 h

set_option maxHeartbeats 4000000 in
set_option maxRecDepth 100000 in
theorem ends_r (m : Mot) (A : Option Addr) (s0 s1 s2 s3 s4 : Sp) (cap : Nat) (w : World) (hx : SpAt w A [s0, s1, s2, s3, s4]) (hm : Dv.chk m) (v0 : Dv.spV s0 = true) (v1 : Dv.spV s1 = true) (v2 : Dv.spV s2 = true) (v3 : Dv.spV s3 = true) :
    Calls Try.prog 113 #[.agg #[.int .i64 m.r, .int .i64 m.ld, .int .i64 m.lq, .int .i64 m.fx, .int .i64 m.po, .int .i64 m.mi, .int .i64 m.sp, .int .i64 m.dr, .int .i64 m.cu, .int .i64 m.fa], .slice A 5 cap] w fun e w' => e = .returned (.tuple #[.agg #[.int .i64 (m.plus s0.lo s1.lo s2.lo s3.lo).r, .int .i64 (m.plus s0.lo s1.lo s2.lo s3.lo).ld, .int .i64 (m.plus s0.lo s1.lo s2.lo s3.lo).lq, .int .i64 (m.plus s0.lo s1.lo s2.lo s3.lo).fx, .int .i64 m.po, .int .i64 m.mi, .int .i64 m.sp, .int .i64 m.dr, .int .i64 m.cu, .int .i64 m.fa], .agg #[.int .i64 (m.plus s0.hi s1.hi s2.hi s3.hi).r, .int .i64 (m.plus s0.hi s1.hi s2.hi s3.hi).ld, .int .i64 (m.plus s0.hi s1.hi s2.hi s3.hi).lq, .int .i64 (m.plus s0.hi s1.hi s2.hi s3.hi).fx, .int .i64 m.po, .int .i64 m.mi, .int .i64 m.sp, .int .i64 m.dr, .int .i64 m.cu, .int .i64 m.fa]]) ∧ Below w.heap.size w w' := by
  have q0 := spV_bd v0
  have q1 := spV_bd v1
  have q2 := spV_bd v2
  have q3 := spV_bd v3
  have HQ := Lib.hid (And.intro q0 (And.intro q1 (And.intro q2 q3)))
  clear q0 q1 q2 q3 v0 v1 v2 v3
  have HX := Lib.hid hx
  have HM := Lib.hid hm
  clear hx hm
  obtain ⟨i0, hi, hz0, hz1, hz2⟩ := info_parts infoTwo
  have S0 : Hid (St w [(w.heap.size + 1 + 1, 52, [.int .i64 mot0.r, .int .i64 mot0.ld, .int .i64 mot0.lq, .int .i64 mot0.fx, .int .i64 mot0.po, .int .i64 mot0.mi, .int .i64 mot0.sp, .int .i64 mot0.dr, .int .i64 mot0.cu, .int .i64 mot0.fa]), (w.heap.size + 1, 52, [.int .i64 mot0.r, .int .i64 mot0.ld, .int .i64 mot0.lq, .int .i64 mot0.fx, .int .i64 mot0.po, .int .i64 mot0.mi, .int .i64 mot0.sp, .int .i64 mot0.dr, .int .i64 mot0.cu, .int .i64 mot0.fa]), (w.heap.size, 52, [.int .i64 m.r, .int .i64 m.ld, .int .i64 m.lq, .int .i64 m.fx, .int .i64 m.po, .int .i64 m.mi, .int .i64 m.sp, .int .i64 m.dr, .int .i64 m.cu, .int .i64 m.fa])] (((w.alloc (.cells #[.int .i64 m.r, .int .i64 m.ld, .int .i64 m.lq, .int .i64 m.fx, .int .i64 m.po, .int .i64 m.mi, .int .i64 m.sp, .int .i64 m.dr, .int .i64 m.cu, .int .i64 m.fa] 52)).alloc (.cells #[.int .i64 0, .int .i64 0, .int .i64 0, .int .i64 0, .int .i64 0, .int .i64 0, .int .i64 0, .int .i64 0, .int .i64 0, .int .i64 0] 52)).alloc (.cells #[.int .i64 0, .int .i64 0, .int .i64 0, .int .i64 0, .int .i64 0, .int .i64 0, .int .i64 0, .int .i64 0, .int .i64 0, .int .i64 0] 52))) := Lib.hid (by
    have := (((St.start w).alloc [.int .i64 m.r, .int .i64 m.ld, .int .i64 m.lq, .int .i64 m.fx, .int .i64 m.po, .int .i64 m.mi, .int .i64 m.sp, .int .i64 m.dr, .int .i64 m.cu, .int .i64 m.fa] 52).alloc [.int .i64 mot0.r, .int .i64 mot0.ld, .int .i64 mot0.lq, .int .i64 mot0.fx, .int .i64 mot0.po, .int .i64 mot0.mi, .int .i64 mot0.sp, .int .i64 mot0.dr, .int .i64 mot0.cu, .int .i64 mot0.fa] 52).alloc [.int .i64 mot0.r, .int .i64 mot0.ld, .int .i64 mot0.lq, .int .i64 mot0.fx, .int .i64 mot0.po, .int .i64 mot0.mi, .int .i64 mot0.sp, .int .i64 mot0.dr, .int .i64 mot0.cu, .int .i64 mot0.fa] 52
    simp at this
    exact this)
  go_enter Try.func113, Try.ntmps113
  go_wp2
  go_loopw [6, 7, 8] (fun o p i wr => ∃ (k : Nat) (A1 A2 : Option Addr) (c1 c2 : Nat), k ≤ 4 ∧ i = .int .i64 k ∧ o = .slice A1 k c1 ∧ p = .slice A2 k c2 ∧ Hid (EnW w m A1 A2 k c1 c2 ([s0.lo, s1.lo, s2.lo, s3.lo, s4.lo].take k) ([s0.hi, s1.hi, s2.hi, s3.hi, s4.hi].take k) wr)) (fun _ _ i _ => 4 - (intOf i).toNat)
  case atStart => exact ⟨0, none, none, 0, 0, by omega, rfl, rfl, rfl, Lib.hid ⟨S0.out, World.ownsRow_nil _ _ _ _, World.ownsRow_nil _ _ _ _, fun b ⟨a, h, _⟩ => by cases h⟩⟩
  case round =>
    obtain ⟨k, A1, A2, c1, c2, hk, rfl, rfl, rfl, HW⟩ := hrel
    by_cases hlt : k < 4
    · have hl5 : k < [s0, s1, s2, s3, s4].length := by simp; omega
      obtain ⟨ad, rfl, z1, x0, x1⟩ := (HX.out.below HW.out.st.1) k hl5
      have HT1 := Lib.hid (show [s0.lo, s1.lo, s2.lo, s3.lo, s4.lo].take (k + 1) = [s0.lo, s1.lo, s2.lo, s3.lo, s4.lo].take k ++ [([s0, s1, s2, s3, s4].getD k default).lo] from by
        match k, hlt with
        | 0, _ => rfl
        | 1, _ => rfl
        | 2, _ => rfl
        | 3, _ => rfl)
      have HT2 := Lib.hid (show [s0.hi, s1.hi, s2.hi, s3.hi, s4.hi].take (k + 1) = [s0.hi, s1.hi, s2.hi, s3.hi, s4.hi].take k ++ [([s0, s1, s2, s3, s4].getD k default).hi] from by
        match k, hlt with
        | 0, _ => rfl
        | 1, _ => rfl
        | 2, _ => rfl
        | 3, _ => rfl)
      generalize [s0, s1, s2, s3, s4].getD k default = s at x0 x1 HT1 HT2
      generalize [s0.lo, s1.lo, s2.lo, s3.lo, s4.lo].take k = xs at HW HT1
      generalize [s0.hi, s1.hi, s2.hi, s3.hi, s4.hi].take k = ys at HW HT2
      have HZ := Lib.hid (show ad.block < w.heap.size from by
        obtain ⟨ad', e', hz, _⟩ := HX.out 0 (by simp)
        cases e'
        exact hz)
      have HC := Lib.hid x1
      clear hl5 x1
      go_upto_region 6 with (at_builtin; refine wpList_append_any (.tmp 13) (.tmp 19) 45 rfl rfl (w.heap.size + 3) 2 i0 (.int .i64 0) 1 8 Try.underlying45 hi hz0 hz1 hz2 rfl (by decide) A1 k c1 (xs.map (Value.int .i64)) (by rfl) (ownOn (P := wr) HW.out.own1 ((Below.refl _ _).alloc (Nat.le_refl _) _)) (some ⟨wr.heap.size, 0, none⟩) 1 1 [.int .i64 s.lo] (by rfl) rfl (.inr ⟨_, rfl, fun j u hu => (Blk.new' wr #[.int .i64 s.lo] 2).cellOne j u hu⟩) (by simp [Value.oneCell']) (by unfold maxLen; omega) (by omega) (by have := HW.out.size; simp; omega) ?_; intro A3 c3 w2 hown2 hgrow2 hat2; have HO2 := Lib.hid hown2; have HG2 := Lib.hid hgrow2; have HAT2 := Lib.hid hat2; clear hown2 hgrow2 hat2)
      have HW2 : Hid (EnW w m A3 A2 k c3 c2 xs ys w2 ∨ True) := Lib.hid (.inr trivial)
      have st1 : St w [(w.heap.size + 1 + 1, 52, [.int .i64 mot0.r, .int .i64 mot0.ld, .int .i64 mot0.lq, .int .i64 mot0.fx, .int .i64 mot0.po, .int .i64 mot0.mi, .int .i64 mot0.sp, .int .i64 mot0.dr, .int .i64 mot0.cu, .int .i64 mot0.fa]), (w.heap.size + 1, 52, [.int .i64 mot0.r, .int .i64 mot0.ld, .int .i64 mot0.lq, .int .i64 mot0.fx, .int .i64 mot0.po, .int .i64 mot0.mi, .int .i64 mot0.sp, .int .i64 mot0.dr, .int .i64 mot0.cu, .int .i64 mot0.fa]), (w.heap.size, 52, [.int .i64 m.r, .int .i64 m.ld, .int .i64 m.lq, .int .i64 m.fx, .int .i64 m.po, .int .i64 m.mi, .int .i64 m.sp, .int .i64 m.dr, .int .i64 m.cu, .int .i64 m.fa])] w2 := (HW.out.st.below ((Below.refl _ _).alloc (Nat.le_refl _) _)).grown HG2.out (fun q hq => by
        have hb := own_lt HW.out.own1 (own_row hq)
        exact ⟨by omega, ids3 hb.2⟩)
      have o2 : w2.ownsRow (w.heap.size + 3) 2 1 (.slice A2 k c2) k (ys.map (Value.int .i64)) := own_grown (ownOn (P := wr) HW.out.own2 ((Below.refl _ _).alloc (Nat.le_refl _) _)) HG2.out (fun q hq e => HW.out.dis q (own_row e.symm) hq)
      have d2 : ∀ b, OwnB A3 b → ¬ OwnB A2 b := fun b hb hb2 => by
        rcases HAT2.out b hb with h | h
        · exact HW.out.dis b h hb2
        · have := (own_lt HW.out.own2 hb2).1
          simp at h
          omega
      have ST1 := Lib.hid st1
      have O2 := Lib.hid o2
      have D2 := Lib.hid d2
      have x1 : w2.cell? ⟨(ad.add (k * 2)).block, (ad.add (k * 2)).off + 1, none⟩ = some (.int .i64 s.hi) := by
        have hbl : (ad.add (k * 2)).block < w.heap.size := by rw [block_add]; exact HZ.out
        have h1 := HW.out.st.1.cell (p := ⟨(ad.add (k * 2)).block, (ad.add (k * 2)).off + 1, none⟩) hbl
        have h2 := st1.1.cell (p := ⟨(ad.add (k * 2)).block, (ad.add (k * 2)).off + 1, none⟩) hbl
        rw [h2, ← h1]
        exact HC.out
      have z2 : ad.block < w2.heap.size := Nat.lt_of_lt_of_le HZ.out st1.1.size
      clear st1 o2 d2 x0 z1 HW2
      go_wp2_with (at_builtin; refine wpList_append_any (.tmp 21) (.tmp 27) 45 rfl rfl (w.heap.size + 3) 2 i0 (.int .i64 0) 1 8 Try.underlying45 hi hz0 hz1 hz2 rfl (by decide) A2 k c2 (ys.map (Value.int .i64)) (by rfl) (ownOn (P := w2) O2.out ((Below.refl _ _).alloc (Nat.le_refl _) _)) (some ⟨w2.heap.size, 0, none⟩) 1 1 [.int .i64 s.hi] (by rfl) rfl (.inr ⟨_, rfl, fun j u hu => (Blk.new' w2 #[.int .i64 s.hi] 2).cellOne j u hu⟩) (by simp [Value.oneCell']) (by unfold maxLen; omega) (by omega) (by have := (ST1.out.get 0 rfl).lt; simp; omega) ?_; intro A4 c4 w3 hown3 hgrow3 hat3; have HO3 := Lib.hid hown3; have HG3 := Lib.hid hgrow3; have HAT3 := Lib.hid hat3; clear hown3 hgrow3 hat3)
      have E : Hid (EnW w m A3 A4 (k + 1) c3 c4 (xs ++ [s.lo]) (ys ++ [s.hi]) w3) := Lib.hid ⟨(ST1.out.below ((Below.refl _ _).alloc (Nat.le_refl _) _)).grown HG3.out (fun q hq => by
          have hb := own_lt O2.out (own_row hq)
          exact ⟨by omega, ids3 hb.2⟩),
        by rw [List.map_append]; exact own_grown (ownOn (P := w2) HO2.out ((Below.refl _ _).alloc (Nat.le_refl _) _)) HG3.out (fun q hq e => D2.out q hq (own_row e.symm)),
        by rw [List.map_append]; exact HO3.out,
        fun b hb hb2 => by
          rcases HAT3.out b hb2 with h | h
          · exact D2.out b hb h
          · have := (own_lt HO2.out hb).1
            simp at h
            omega⟩
      go_wp2
      go_roundw
      case rel => exact ⟨k + 1, A3, A4, c3, c4, by omega, by go_num, rfl, rfl, by rw [HT1.out, HT2.out]; exact E⟩
      case measure => simp [intOf]; omega
    · obtain rfl : k = 4 := by omega
      have ia1 := ownInts (n := 4) HW.out.own1
      have ia2 := ownInts (n := 4) HW.out.own2
      obtain ⟨a1, rfl, h1⟩ := IntsAt.four (a := s0.lo) (b := s1.lo) (c := s2.lo) (d := s3.lo) ia1
      obtain ⟨a2, rfl, h2⟩ := IntsAt.four (a := s0.hi) (b := s1.hi) (c := s2.hi) (d := s3.hi) ia2
      have H1 := Lib.hid h1
      have H2 := Lib.hid h2
      have ST := Lib.hid HW.out.st
      clear HW h1 h2 ia1 ia2
      have KP1 := Lib.hid (show ∀ V : World, Below wr.heap.size wr V → Calls Try.prog 107 #[.agg #[.int .i64 m.r, .int .i64 m.ld, .int .i64 m.lq, .int .i64 m.fx, .int .i64 m.po, .int .i64 m.mi, .int .i64 m.sp, .int .i64 m.dr, .int .i64 m.cu, .int .i64 m.fa], .slice (some a1) 4 c1] V fun e w' => e = .returned (.agg #[.int .i64 (m.plus s0.lo s1.lo s2.lo s3.lo).r, .int .i64 (m.plus s0.lo s1.lo s2.lo s3.lo).ld, .int .i64 (m.plus s0.lo s1.lo s2.lo s3.lo).lq, .int .i64 (m.plus s0.lo s1.lo s2.lo s3.lo).fx, .int .i64 m.po, .int .i64 m.mi, .int .i64 m.sp, .int .i64 m.dr, .int .i64 m.cu, .int .i64 m.fa]) ∧ Below V.heap.size V w' from fun V hV => plus_c m s0.lo s1.lo s2.lo s3.lo a1 c1 V HM.out (H1.out.below hV H1.out.1) HQ.out.1.1 HQ.out.2.1.1 HQ.out.2.2.1.1 HQ.out.2.2.2.1)
      have KP2 := Lib.hid (show ∀ V : World, Below wr.heap.size wr V → Calls Try.prog 107 #[.agg #[.int .i64 m.r, .int .i64 m.ld, .int .i64 m.lq, .int .i64 m.fx, .int .i64 m.po, .int .i64 m.mi, .int .i64 m.sp, .int .i64 m.dr, .int .i64 m.cu, .int .i64 m.fa], .slice (some a2) 4 c2] V fun e w' => e = .returned (.agg #[.int .i64 (m.plus s0.hi s1.hi s2.hi s3.hi).r, .int .i64 (m.plus s0.hi s1.hi s2.hi s3.hi).ld, .int .i64 (m.plus s0.hi s1.hi s2.hi s3.hi).lq, .int .i64 (m.plus s0.hi s1.hi s2.hi s3.hi).fx, .int .i64 m.po, .int .i64 m.mi, .int .i64 m.sp, .int .i64 m.dr, .int .i64 m.cu, .int .i64 m.fa]) ∧ Below V.heap.size V w' from fun V hV => plus_c m s0.hi s1.hi s2.hi s3.hi a2 c2 V HM.out (H2.out.below hV H2.out.1) HQ.out.1.2.1 HQ.out.2.1.2.1 HQ.out.2.2.1.2.1 HQ.out.2.2.2.2.1)
      clear H1 H2
      go_wp2_with fail
      refine wp_region_priv 6 [.q, .q, .q, .q, .q, .q] (fun _ => (.cells #[] 29, fun b => .pointer none)) ?af (by kernel_rfl) (by kernel_rfl) ?walk ?tail
      case walk =>
        intro V hV
        have IV := Lib.hid (ST.out.below hV)
        have zz := (IV.out.get 2 rfl).lt
        obtain ⟨e0, e1, e2, e3, e4, e5, e6, e7, e8, e9⟩ := motOf (m := m) (IV.out.get 2 rfl)
        have HV := Lib.hid (show ∀ x : Past V, Below wr.heap.size wr x.w from fun x => hV.trans (x.far.mono hV.size))
        clear hV
        simp only [List.take_succ_cons, List.take_zero]
        repeat (refine wpP_q ?_; go_big_quiet_step (first | (go_at_call 107; with_reducible exact past_below (KP1.out _ (HV.out _))) | (go_at_call 107; with_reducible exact past_below (KP2.out _ (HV.out _)))); refine wpQuiet_nil ?_)
        refine wpP_nil ?_
        rfl
      case tail =>
      intro gs w3 hb3 _ _
      have S3 := Lib.hid (ST.out.below hb3)
      clear hb3 ST
      simp only [List.drop_succ_cons, List.drop_zero, List.take_succ_cons, List.take_zero, fillP]
      have zz := (S3.out.get 0 rfl).lt
      obtain ⟨e0, e1, e2, e3, e4, e5, e6, e7, e8, e9⟩ := motOf (m := mot0) (S3.out.get 0 rfl)
      obtain ⟨d0, d1, d2, d3, d4, d5, d6, d7, d8, d9⟩ := motOf (m := mot0) (S3.out.get 1 rfl)
      obtain ⟨f0, f1, f2, f3, f4, f5, f6, f7, f8, f9⟩ := freeMot (m := mot0) (S3.out.get 0 rfl)
      obtain ⟨g0, g1, g2, g3, g4, g5, g6, g7, g8, g9⟩ := freeMot (m := mot0) (S3.out.get 1 rfl)
      go_wp2
      exact bodyPost_ret (v := .tuple #[.agg #[.int .i64 (m.plus s0.lo s1.lo s2.lo s3.lo).r, .int .i64 (m.plus s0.lo s1.lo s2.lo s3.lo).ld, .int .i64 (m.plus s0.lo s1.lo s2.lo s3.lo).lq, .int .i64 (m.plus s0.lo s1.lo s2.lo s3.lo).fx, .int .i64 m.po, .int .i64 m.mi, .int .i64 m.sp, .int .i64 m.dr, .int .i64 m.cu, .int .i64 m.fa], .agg #[.int .i64 (m.plus s0.hi s1.hi s2.hi s3.hi).r, .int .i64 (m.plus s0.hi s1.hi s2.hi s3.hi).ld, .int .i64 (m.plus s0.hi s1.hi s2.hi s3.hi).lq, .int .i64 (m.plus s0.hi s1.hi s2.hi s3.hi).fx, .int .i64 m.po, .int .i64 m.mi, .int .i64 m.sp, .int .i64 m.dr, .int .i64 m.cu, .int .i64 m.fa]]) (by simp [results, Try.results113, go_sem, e0, e1, e2, e3, e4, e5, e6, e7, e8, e9, d0, d1, d2, d3, d4, d5, d6, d7, d8, d9]) rfl ⟨rfl, below_put10 (below_put10 S3.out.1 (by omega) _ _ _ _ _ _ _ _ _ _) (by omega) _ _ _ _ _ _ _ _ _ _⟩
end Go.Proofs.Ytcneohhfnnelgaa
namespace Go.Proofs.Ytcneohhfnnelgaa
open Go.RowKit
set_option linter.unusedVariables false

theorem quantity_is (x : Int) (b : Bool) (h : upB 1099511627776 [x] = b) (w : World) : Calls Try.prog 78 #[.int .i64 x] w fun e w' => e = .returned (.bool b) ∧ w = w' :=
  (quantity_c x w).mono fun _ _ ⟨h1, h2⟩ => ⟨by rw [h1, h], h2⟩
theorem speed_is (x : Int) (b : Int) (h : Dv.spE x = b) (w : World) : Calls Try.prog 98 #[.int .i64 x] w fun e w' => e = .returned (.int .i64 b) ∧ w = w' :=
  (speed_c x w).mono fun _ _ ⟨h1, h2⟩ => ⟨by rw [h1, h], h2⟩
theorem spanB_of {lo hi : Int} {b : Bool} (h : (upB 1099511627776 [lo] && (upB 1099511627776 [hi] && decide (lo ≤ hi))) = b) : Dv.spanB lo hi = b := by
  rw [← h]
  unfold Dv.spanB
  rw [show upB 1099511627776 [lo, hi] = (upB 1099511627776 [lo] && upB 1099511627776 [hi]) by simp [upB], Bool.and_assoc]
/-- a span of the five is not valid -/
theorem lmE_bad {m : Mot} {l : List Sp} {k : Nat} (hk : k < l.length) (h : Dv.spanB (l.getD k default).lo (l.getD k default).hi = false) : Dv.lmE m l = 2 := by
  unfold Dv.lmE
  rw [if_neg]
  intro ha
  unfold Dv.lmA at ha
  simp only [Bool.and_eq_true, List.all_eq_true] at ha
  have hm : l.getD k default ∈ l := by
    rw [List.getD_eq_getElem?_getD, List.getElem?_eq_getElem hk]
    exact List.getElem_mem _
  have := ha.2.2 _ hm
  unfold Dv.spV at this
  rw [h] at this
  cases this
theorem lmE_five {m : Mot} {s0 s1 s2 s3 s4 : Sp} (hC : Dv.chkB m = true) (v : ∀ j, j < 5 → Dv.spV ([s0, s1, s2, s3, s4].getD j default) = true) :
    Dv.lmE m [s0, s1, s2, s3, s4] = if (Dv.chkB (m.plus s0.lo s1.lo s2.lo s3.lo) && (Dv.chkB (m.plus s0.hi s1.hi s2.hi s3.hi) && upB 16384 [s4.lo, s4.hi])) = true then 0 else 3 := by
  have ha : Dv.lmA m [s0, s1, s2, s3, s4] = true := by
    unfold Dv.lmA
    rw [hC]
    simp only [List.all_cons, List.all_nil]
    rw [show Dv.spV s0 = true from v 0 (by omega), show Dv.spV s1 = true from v 1 (by omega), show Dv.spV s2 = true from v 2 (by omega), show Dv.spV s3 = true from v 3 (by omega), show Dv.spV s4 = true from v 4 (by omega)]
    rfl
  unfold Dv.lmE
  rw [if_pos ha]
  rfl

set_option maxHeartbeats 1000000 in
theorem possible_no1 (m : Mot) (A : Option Addr) (n cap : Nat) (w : World) (hC : Dv.chkB m = false) :
    Calls Try.prog 110 #[.agg #[.int .i64 m.r, .int .i64 m.ld, .int .i64 m.lq, .int .i64 m.fx, .int .i64 m.po, .int .i64 m.mi, .int .i64 m.sp, .int .i64 m.dr, .int .i64 m.cu, .int .i64 m.fa], .slice A n cap] w fun e w' => e = .returned (.int .i64 2) ∧ Below w.heap.size w w' := by
  go_enter Try.func110, Try.ntmps110
  go_wp2_with fail
  refine (CheckR_no m _ hC).mono ?_
  rintro e w1 ⟨rfl, hb1⟩
  have HB := Lib.hid (((Below.refl w.heap.size w).alloc (Nat.le_refl _) (.cells #[.int .i64 m.r, .int .i64 m.ld, .int .i64 m.lq, .int .i64 m.fx, .int .i64 m.po, .int .i64 m.mi, .int .i64 m.sp, .int .i64 m.dr, .int .i64 m.cu, .int .i64 m.fa] 52)).trans (hb1.mono (by simp)))
  clear hb1
  go_wp2
  go_ret
  exact ⟨rfl, HB.out⟩
set_option maxHeartbeats 1000000 in
theorem possible_no2 (m : Mot) (A : Option Addr) (n cap : Nat) (w : World) (hC : Dv.chkB m = true) (hl : ((n : Int) != 5) = true) :
    Calls Try.prog 110 #[.agg #[.int .i64 m.r, .int .i64 m.ld, .int .i64 m.lq, .int .i64 m.fx, .int .i64 m.po, .int .i64 m.mi, .int .i64 m.sp, .int .i64 m.dr, .int .i64 m.cu, .int .i64 m.fa], .slice A n cap] w fun e w' => e = .returned (.int .i64 2) ∧ Below w.heap.size w w' := by
  go_enter Try.func110, Try.ntmps110
  go_wp2_with fail
  refine (CheckR_yes m _ hC).mono ?_
  rintro e w1 ⟨rfl, hb1⟩
  have HB := Lib.hid (((Below.refl w.heap.size w).alloc (Nat.le_refl _) (.cells #[.int .i64 m.r, .int .i64 m.ld, .int .i64 m.lq, .int .i64 m.fx, .int .i64 m.po, .int .i64 m.mi, .int .i64 m.sp, .int .i64 m.dr, .int .i64 m.cu, .int .i64 m.fa] 52)).trans (hb1.mono (by simp)))
  clear hb1
  go_wp2
  go_ret
  exact ⟨rfl, HB.out⟩

set_option maxHeartbeats 4000000 in
set_option maxRecDepth 100000 in
theorem possible_go (m : Mot) (A : Option Addr) (s0 s1 s2 s3 s4 : Sp) (cap : Nat) (w : World) (hx : SpAt w A [s0, s1, s2, s3, s4]) (hC : Dv.chkB m = true) :
    Calls Try.prog 110 #[.agg #[.int .i64 m.r, .int .i64 m.ld, .int .i64 m.lq, .int .i64 m.fx, .int .i64 m.po, .int .i64 m.mi, .int .i64 m.sp, .int .i64 m.dr, .int .i64 m.cu, .int .i64 m.fa], .slice A 5 cap] w fun e w' => e = .returned (.int .i64 (Dv.lmE m [s0, s1, s2, s3, s4])) ∧ Below w.heap.size w w' := by
  have HX := Lib.hid hx
  have HC := Lib.hid hC
  clear hx
  obtain ⟨ad, hA, i5⟩ := HX.out.five
  subst hA
  have H5 := Lib.hid i5
  clear i5
  generalize hE : Dv.lmE m [s0, s1, s2, s3, s4] = E
  have HE0 := Lib.hid hE
  clear hE
  go_enter Try.func110, Try.ntmps110
  go_wp2_with fail
  refine (CheckR_yes m _ hC).mono ?_
  rintro e w1 ⟨rfl, hb1⟩
  have S1 := Lib.hid (((St.start w).alloc [.int .i64 m.r, .int .i64 m.ld, .int .i64 m.lq, .int .i64 m.fx, .int .i64 m.po, .int .i64 m.mi, .int .i64 m.sp, .int .i64 m.dr, .int .i64 m.cu, .int .i64 m.fa] 52).below hb1)
  clear hb1 hC
  go_wp2_with fail
  go_loopw [5] (fun i wr => ∃ k : Nat, k ≤ 5 ∧ i = .int .i64 k ∧ Hid (St w [(w.heap.size, 52, [.int .i64 m.r, .int .i64 m.ld, .int .i64 m.lq, .int .i64 m.fx, .int .i64 m.po, .int .i64 m.mi, .int .i64 m.sp, .int .i64 m.dr, .int .i64 m.cu, .int .i64 m.fa])] wr ∧ ∀ j, j < k → Dv.spV ([s0, s1, s2, s3, s4].getD j default) = true)) (fun i _ => 5 - (intOf i).toNat)
  case atStart => exact ⟨0, by omega, rfl, Lib.hid ⟨S1.out, fun j hj => absurd hj (Nat.not_lt_zero _)⟩⟩
  case round =>
    obtain ⟨k, hk, rfl, HW⟩ := hrel
    by_cases hlt : k < 5
    · obtain ⟨ad', e', z1, x0, x1⟩ := (HX.out.below HW.out.1.1) k hlt
      cases e'
      have HN := Lib.hid (show Dv.spanB ([s0, s1, s2, s3, s4].getD k default).lo ([s0, s1, s2, s3, s4].getD k default).hi = false → Dv.lmE m [s0, s1, s2, s3, s4] = 2 from fun hf => lmE_bad hlt hf)
      have HY := Lib.hid (show Dv.spanB ([s0, s1, s2, s3, s4].getD k default).lo ([s0, s1, s2, s3, s4].getD k default).hi = true → ∀ j, j < k + 1 → Dv.spV ([s0, s1, s2, s3, s4].getD j default) = true from fun ht j hj => by
        by_cases hjk : j = k
        · subst hjk; exact ht
        · exact HW.out.2 j (by omega))
      have HS := Lib.hid HW.out.1
      clear HW
      generalize [s0, s1, s2, s3, s4].getD k default = s at x0 x1 HN HY
      have HP := Lib.hid (show ∀ x : Past wr, x.w.cell? (ad.add (k * 2)) = some (.int .i64 s.lo) ∧ x.w.cell? ⟨(ad.add (k * 2)).block, (ad.add (k * 2)).off + 1, none⟩ = some (.int .i64 s.hi) ∧ ad.block < x.w.heap.size from fun x => ⟨(x.far.cell (by rw [block_add]; exact z1)).trans x0, (x.far.cell (p := ⟨_, _, none⟩) (by show (ad.add (k * 2)).block < _; rw [block_add]; exact z1)).trans x1, Nat.lt_of_lt_of_le z1 x.far.size⟩)
      have hp0 : ∀ x : Past wr, x.w.cell? (ad.add (k * 2)) = some (.int .i64 s.lo) := fun x => (HP.out x).1
      have hp1 : ∀ x : Past wr, x.w.cell? ⟨(ad.add (k * 2)).block, (ad.add (k * 2)).off + 1, none⟩ = some (.int .i64 s.hi) := fun x => (HP.out x).2.1
      clear HP x0 x1
      go_wp2_with fail
      cases u0 : upB 1099511627776 [s.lo]
      · have HE := Lib.hid (HN.out (spanB_of (by rw [u0]; rfl)))
        refine wp_region_past (by kernel_rfl) (by kernel_rfl) ?_
        repeat (go_big_quiet_step (first | (go_at_call 78; with_reducible exact past_same (quantity_is s.lo _ u0 _))))
        refine wpQuiet_nil ?_
        intro y
        have S2 := Lib.hid (HS.out.below y.far)
        clear hp0 hp1 u0
        generalize y.w = w4 at S2 ⊢
        go_wp2
        go_ret
        exact ⟨by rw [← HE0.out, HE.out]; rfl, S2.out.1⟩
      · cases u1 : upB 1099511627776 [s.hi]
        · have HE := Lib.hid (HN.out (spanB_of (by rw [u0, u1]; rfl)))
          refine wp_region_past (by kernel_rfl) (by kernel_rfl) ?_
          repeat (go_big_quiet_step (first | (go_at_call 78; with_reducible exact past_same (quantity_is s.lo _ u0 _)) | (go_at_call 78; with_reducible exact past_same (quantity_is s.hi _ u1 _))))
          refine wpQuiet_nil ?_
          intro y
          have S2 := Lib.hid (HS.out.below y.far)
          clear hp0 hp1 u0 u1
          generalize y.w = w4 at S2 ⊢
          go_wp2
          go_ret
          exact ⟨by rw [← HE0.out, HE.out]; rfl, S2.out.1⟩
        · by_cases hle : s.lo ≤ s.hi
          · have HF := Lib.hid (HY.out (spanB_of (by rw [u0, u1, decide_eq_true hle]; rfl)))
            have hb : decide (s.hi < s.lo) = false := decide_eq_false (by omega)
            refine wp_region_past (by kernel_rfl) (by kernel_rfl) ?_
            repeat (go_big_quiet_step (first | (go_at_call 78; with_reducible exact past_same (quantity_is s.lo _ u0 _)) | (go_at_call 78; with_reducible exact past_same (quantity_is s.hi _ u1 _))))
            refine wpQuiet_nil ?_
            intro y
            have S2 := Lib.hid (HS.out.below y.far)
            clear hp0 hp1 u0 u1 hb
            generalize y.w = w4 at S2 ⊢
            go_wp2
            go_roundw
            case rel => exact ⟨k + 1, by omega, by go_num, Lib.hid ⟨S2.out, HF.out⟩⟩
            case measure => simp [intOf]; omega
          · have HE := Lib.hid (HN.out (spanB_of (by rw [u0, u1, decide_eq_false hle]; rfl)))
            have hb : decide (s.hi < s.lo) = true := decide_eq_true (by omega)
            refine wp_region_past (by kernel_rfl) (by kernel_rfl) ?_
            repeat (go_big_quiet_step (first | (go_at_call 78; with_reducible exact past_same (quantity_is s.lo _ u0 _)) | (go_at_call 78; with_reducible exact past_same (quantity_is s.hi _ u1 _))))
            refine wpQuiet_nil ?_
            intro y
            have S2 := Lib.hid (HS.out.below y.far)
            clear hp0 hp1 u0 u1 hb
            generalize y.w = w4 at S2 ⊢
            go_wp2
            go_ret
            exact ⟨by rw [← HE0.out, HE.out]; rfl, S2.out.1⟩
    · obtain rfl : k = 5 := by omega
      have HEE := Lib.hid (lmE_five HC.out HW.out.2)
      have v0 := HW.out.2 0 (by omega)
      have v1 := HW.out.2 1 (by omega)
      have v2 := HW.out.2 2 (by omega)
      have v3 := HW.out.2 3 (by omega)
      have KE := Lib.hid (show ∀ V : World, Below w.heap.size w V → Calls Try.prog 113 #[.agg #[.int .i64 m.r, .int .i64 m.ld, .int .i64 m.lq, .int .i64 m.fx, .int .i64 m.po, .int .i64 m.mi, .int .i64 m.sp, .int .i64 m.dr, .int .i64 m.cu, .int .i64 m.fa], .slice (some ad) 5 cap] V fun e w' => e = .returned (.tuple #[.agg #[.int .i64 (m.plus s0.lo s1.lo s2.lo s3.lo).r, .int .i64 (m.plus s0.lo s1.lo s2.lo s3.lo).ld, .int .i64 (m.plus s0.lo s1.lo s2.lo s3.lo).lq, .int .i64 (m.plus s0.lo s1.lo s2.lo s3.lo).fx, .int .i64 m.po, .int .i64 m.mi, .int .i64 m.sp, .int .i64 m.dr, .int .i64 m.cu, .int .i64 m.fa], .agg #[.int .i64 (m.plus s0.hi s1.hi s2.hi s3.hi).r, .int .i64 (m.plus s0.hi s1.hi s2.hi s3.hi).ld, .int .i64 (m.plus s0.hi s1.hi s2.hi s3.hi).lq, .int .i64 (m.plus s0.hi s1.hi s2.hi s3.hi).fx, .int .i64 m.po, .int .i64 m.mi, .int .i64 m.sp, .int .i64 m.dr, .int .i64 m.cu, .int .i64 m.fa]]) ∧ Below V.heap.size V w' from fun V hV => ends_r m (some ad) s0 s1 s2 s3 s4 cap V (HX.out.below hV) (Dv.chkB_iff.1 HC.out) v0 v1 v2 v3)
      have S2 := Lib.hid HW.out.1
      clear HW v0 v1 v2 v3
      generalize hlo : m.plus s0.lo s1.lo s2.lo s3.lo = lo at KE HEE
      generalize hhi : m.plus s0.hi s1.hi s2.hi s3.hi = hi at KE HEE
      have PLO : Hid (lo.po = m.po ∧ lo.mi = m.mi ∧ lo.sp = m.sp ∧ lo.dr = m.dr ∧ lo.cu = m.cu ∧ lo.fa = m.fa) := Lib.hid (by subst hlo; exact ⟨rfl, rfl, rfl, rfl, rfl, rfl⟩)
      have PHI : Hid (hi.po = m.po ∧ hi.mi = m.mi ∧ hi.sp = m.sp ∧ hi.dr = m.dr ∧ hi.cu = m.cu ∧ hi.fa = m.fa) := Lib.hid (by subst hhi; exact ⟨rfl, rfl, rfl, rfl, rfl, rfl⟩)
      have KE := Lib.hid (show ∀ V : World, Below w.heap.size w V → Calls Try.prog 113 #[.agg #[.int .i64 m.r, .int .i64 m.ld, .int .i64 m.lq, .int .i64 m.fx, .int .i64 m.po, .int .i64 m.mi, .int .i64 m.sp, .int .i64 m.dr, .int .i64 m.cu, .int .i64 m.fa], .slice (some ad) 5 cap] V fun e w' => e = .returned (.tuple #[.agg #[.int .i64 lo.r, .int .i64 lo.ld, .int .i64 lo.lq, .int .i64 lo.fx, .int .i64 lo.po, .int .i64 lo.mi, .int .i64 lo.sp, .int .i64 lo.dr, .int .i64 lo.cu, .int .i64 lo.fa], .agg #[.int .i64 hi.r, .int .i64 hi.ld, .int .i64 hi.lq, .int .i64 hi.fx, .int .i64 hi.po, .int .i64 hi.mi, .int .i64 hi.sp, .int .i64 hi.dr, .int .i64 hi.cu, .int .i64 hi.fa]]) ∧ Below V.heap.size V w' from fun V hV => by
        have := KE.out V hV
        rw [PLO.out.1, PLO.out.2.1, PLO.out.2.2.1, PLO.out.2.2.2.1, PLO.out.2.2.2.2.1, PLO.out.2.2.2.2.2, PHI.out.1, PHI.out.2.1, PHI.out.2.2.1, PHI.out.2.2.2.1, PHI.out.2.2.2.2.1, PHI.out.2.2.2.2.2]
        exact this)
      clear hlo hhi PLO PHI
      have zm := (S2.out.get 0 rfl).lt
      obtain ⟨m0, m1, m2, m3, m4, m5, m6, m7, m8, m9⟩ := motOf (m := m) (S2.out.get 0 rfl)
      go_wp2_with fail
      refine (KE.out _ S2.out.1).mono ?_
      rintro e w3 ⟨rfl, hb3⟩
      have S3 := Lib.hid (((S2.out.below hb3).alloc [.int .i64 lo.r, .int .i64 lo.ld, .int .i64 lo.lq, .int .i64 lo.fx, .int .i64 lo.po, .int .i64 lo.mi, .int .i64 lo.sp, .int .i64 lo.dr, .int .i64 lo.cu, .int .i64 lo.fa] 52).alloc [.int .i64 hi.r, .int .i64 hi.ld, .int .i64 hi.lq, .int .i64 hi.fx, .int .i64 hi.po, .int .i64 hi.mi, .int .i64 hi.sp, .int .i64 hi.dr, .int .i64 hi.cu, .int .i64 hi.fa] 52)
      clear hb3 m0 m1 m2 m3 m4 m5 m6 m7 m8 m9 zm S2
      go_upto_region 9 with (fail)
      refine gen_world (fun W => St w [(w3.heap.size + 1, 52, [.int .i64 hi.r, .int .i64 hi.ld, .int .i64 hi.lq, .int .i64 hi.fx, .int .i64 hi.po, .int .i64 hi.mi, .int .i64 hi.sp, .int .i64 hi.dr, .int .i64 hi.cu, .int .i64 hi.fa]), (w3.heap.size, 52, [.int .i64 lo.r, .int .i64 lo.ld, .int .i64 lo.lq, .int .i64 lo.fx, .int .i64 lo.po, .int .i64 lo.mi, .int .i64 lo.sp, .int .i64 lo.dr, .int .i64 lo.cu, .int .i64 lo.fa]), (w.heap.size, 52, [.int .i64 m.r, .int .i64 m.ld, .int .i64 m.lq, .int .i64 m.fx, .int .i64 m.po, .int .i64 m.mi, .int .i64 m.sp, .int .i64 m.dr, .int .i64 m.cu, .int .i64 m.fa])] W) (by have := S3.out; simp at this; exact this) ?_
      clear S3
      generalize w3.heap.size = ga
      clear w3
      rintro w3 i3
      have S3 := Lib.hid i3
      clear i3
      have zl := (S3.out.get 1 rfl).lt
      obtain ⟨b0, b1, b2, b3, b4, b5, b6, b7, b8, b9⟩ := motOf (m := lo) (S3.out.get 1 rfl)
      go_wp2_with fail
      cases h1 : Dv.chkB lo
      · have HE : Hid (Dv.lmE m [s0, s1, s2, s3, s4] = 3) := Lib.hid (by rw [HEE.out, h1]; rfl)
        refine (CheckR_no lo _ h1).mono ?_
        rintro e w5 ⟨rfl, hb5⟩
        have S5 := Lib.hid (S3.out.below hb5)
        clear hb5 h1
        clear b0 b1 b2 b3 b4 b5 b6 b7 b8 b9 zl
        go_wp2
        go_ret
        exact ⟨by rw [← HE0.out, HE.out]; rfl, S5.out.1⟩
      · refine (CheckR_yes lo _ h1).mono ?_
        rintro e w5 ⟨rfl, hb5⟩
        have S5 := Lib.hid (S3.out.below hb5)
        clear hb5
        clear b0 b1 b2 b3 b4 b5 b6 b7 b8 b9 zl
        have zl := (S5.out.get 0 rfl).lt
        obtain ⟨b0, b1, b2, b3, b4, b5, b6, b7, b8, b9⟩ := motOf (m := hi) (S5.out.get 0 rfl)
        go_wp2_with fail
        cases h2 : Dv.chkB hi
        · have HE : Hid (Dv.lmE m [s0, s1, s2, s3, s4] = 3) := Lib.hid (by rw [HEE.out, h1, h2]; rfl)
          refine (CheckR_no hi _ h2).mono ?_
          rintro e w6 ⟨rfl, hb6⟩
          have S6 := Lib.hid (S5.out.below hb6)
          clear hb6 h1 h2
          clear b0 b1 b2 b3 b4 b5 b6 b7 b8 b9 zl
          go_wp2
          go_ret
          exact ⟨by rw [← HE0.out, HE.out]; rfl, S6.out.1⟩
        · refine (CheckR_yes hi _ h2).mono ?_
          rintro e w6 ⟨rfl, hb6⟩
          have S6 := Lib.hid (S5.out.below hb6)
          clear hb6
          clear b0 b1 b2 b3 b4 b5 b6 b7 b8 b9 zl
          have hz5 := H5.out.1
          obtain ⟨z5, x0, x1, x2, x3, x4, x5, x6, x7, x8, x9⟩ := H5.out.below S6.out.1 hz5
          have x99 : w6.cell? ⟨ad.block, ad.off + 8 + 1, none⟩ = some (.int .i64 s4.hi) := x9
          clear x0 x1 x2 x3 x4 x5 x6 x7
          cases h3 : upB 16384 [s4.lo]
          · have HE : Hid (Dv.lmE m [s0, s1, s2, s3, s4] = 3) := Lib.hid (by rw [HEE.out, h1, h2, show upB 16384 [s4.lo, s4.hi] = (upB 16384 [s4.lo] && upB 16384 [s4.hi]) by simp [upB], h3]; rfl)
            have e3 : Dv.spE s4.lo = 3 := by simp [Dv.spE, h3]
            clear h1 h2 h3
            go_wp2_with (go_at_call 98; with_reducible refine (speed_is s4.lo _ e3 _).mono ?_; rintro e w' ⟨rfl, rfl⟩)
            go_ret
            exact ⟨by rw [← HE0.out, HE.out]; rfl, S6.out.1⟩
          · have e3 : Dv.spE s4.lo = 0 := by simp [Dv.spE, h3]
            cases h4 : upB 16384 [s4.hi]
            · have HE : Hid (Dv.lmE m [s0, s1, s2, s3, s4] = 3) := Lib.hid (by rw [HEE.out, h1, h2, show upB 16384 [s4.lo, s4.hi] = (upB 16384 [s4.lo] && upB 16384 [s4.hi]) by simp [upB], h3, h4]; rfl)
              have e4 : Dv.spE s4.hi = 3 := by simp [Dv.spE, h4]
              clear h1 h2 h3 h4
              go_wp2_with (first | (go_at_call 98; (with_reducible refine (speed_is s4.lo _ e3 _).mono ?_); rintro e w' ⟨rfl, rfl⟩) | (go_at_call 98; (with_reducible refine (speed_is s4.hi _ e4 _).mono ?_); rintro e w' ⟨rfl, rfl⟩))
              go_ret
              exact ⟨by rw [← HE0.out, HE.out]; rfl, S6.out.1⟩
            · have HE : Hid (Dv.lmE m [s0, s1, s2, s3, s4] = 0) := Lib.hid (by rw [HEE.out, h1, h2, show upB 16384 [s4.lo, s4.hi] = (upB 16384 [s4.lo] && upB 16384 [s4.hi]) by simp [upB], h3, h4]; rfl)
              have e4 : Dv.spE s4.hi = 0 := by simp [Dv.spE, h4]
              clear h1 h2 h3 h4
              go_wp2_with (first | (go_at_call 98; (with_reducible refine (speed_is s4.lo _ e3 _).mono ?_); rintro e w' ⟨rfl, rfl⟩) | (go_at_call 98; (with_reducible refine (speed_is s4.hi _ e4 _).mono ?_); rintro e w' ⟨rfl, rfl⟩))
              go_ret
              exact ⟨by rw [← HE0.out, HE.out]; rfl, S6.out.1⟩

theorem possible_c (m : Mot) (A : Option Addr) (l : List Sp) (cap : Nat) (w : World) (hx : SpAt w A l) :
    Calls Try.prog 110 #[.agg #[.int .i64 m.r, .int .i64 m.ld, .int .i64 m.lq, .int .i64 m.fx, .int .i64 m.po, .int .i64 m.mi, .int .i64 m.sp, .int .i64 m.dr, .int .i64 m.cu, .int .i64 m.fa], .slice A l.length cap] w fun e w' => e = .returned (.int .i64 (Dv.lmE m l)) ∧ Below w.heap.size w w' := by
  cases hC : Dv.chkB m
  · exact (possible_no1 m A l.length cap w hC).mono fun _ _ ⟨h1, h2⟩ => ⟨by rw [h1, show Dv.lmE m l = 2 by simp [Dv.lmE, Dv.lmA, hC]], h2⟩
  · by_cases hl : l.length = 5
    · match l, hl with
      | [s0, s1, s2, s3, s4], _ => exact possible_go m A s0 s1 s2 s3 s4 cap w hx hC
    · exact (possible_no2 m A l.length cap w hC (by simp; omega)).mono fun _ _ ⟨h1, h2⟩ => ⟨by rw [h1, show Dv.lmE m l = 2 by simp [Dv.lmE, Dv.lmA, hl]], h2⟩
end Go.Proofs.Ytcneohhfnnelgaa
namespace Go.Proofs.Ytcneohhfnnelgaa
open Go.RowKit
set_option linter.unusedVariables false
namespace Dv
def aLo (m : Mot) (l : List Sp) (d q s : Int) : Int := alLo m.cu d (lmLo m l).ld m.mi (bdLo (lmLo m l) (lmHi m l) d q (s + (lmS l).lo) (s + (lmS l).hi))
def aHi (m : Mot) (l : List Sp) (d q s : Int) : Int := alHi m.cu d (lmLo m l).ld m.mi (bdHi (lmLo m l) (lmHi m l) d q (s + (lmS l).lo) (s + (lmS l).hi))
def bLo (m : Mot) (l : List Sp) (d q s : Int) : Int := alLo m.cu q (lmLo m l).lq m.mi (bqLo (lmLo m l) (lmHi m l) d q (s + (lmS l).lo) (s + (lmS l).hi))
def bHi (m : Mot) (l : List Sp) (d q s : Int) : Int := alHi m.cu q (lmLo m l).lq m.mi (bqHi (lmLo m l) (lmHi m l) d q (s + (lmS l).lo) (s + (lmS l).hi))
def alIn (m : Mot) (d q s : Int) : Bool := upB m.cu [d, q] && upB m.fa [s]
def alOk (m : Mot) (l : List Sp) (d q s : Int) : Bool := decide (aLo m l d q s ≤ aHi m l d q s) && decide (bLo m l d q s ≤ bHi m l d q s)
def alE (m : Mot) (l : List Sp) (d q s : Int) : Int := if lmE m l = 0 then (if alIn m d q s = true then (if alOk m l d q s = true then 0 else 17) else 3) else lmE m l
def alV (m : Mot) (l : List Sp) (d q s x : Int) : Int := if alE m l d q s = 0 then x else 0
theorem lmE_ok {m : Mot} {l : List Sp} (h : lmE m l = 0) : lmA m l = true ∧ lmB m l = true := by
  unfold lmE at h
  split at h
  · rename_i ha
    split at h
    · rename_i hb
      exact ⟨ha, hb⟩
    · omega
  · omega
/-- what a motor with possible tolerances is -/
theorem lm_parts {m : Mot} {l : List Sp} (h : lmE m l = 0) : chk m ∧ l.length = 5 ∧ chk (lmLo m l) ∧ chk (lmHi m l) ∧ (-16384 ≤ (lmS l).lo ∧ (lmS l).lo ≤ 16384) ∧ (-16384 ≤ (lmS l).hi ∧ (lmS l).hi ≤ 16384) ∧ (∀ x, x ∈ l → spV x = true) := by
  obtain ⟨ha, hb⟩ := lmE_ok h
  unfold lmA at ha
  unfold lmB at hb
  simp only [Bool.and_eq_true, decide_eq_true_eq, List.all_eq_true] at ha hb
  have := upB2.1 hb.2.2
  exact ⟨chkB_iff.1 ha.1, ha.2.1, chkB_iff.1 hb.1, chkB_iff.1 hb.2.1, this.1, this.2, ha.2.2⟩
end Dv
theorem St.add {w W W' : World} {l : List BlkRow} (h : St w l W) (hb : Below W.heap.size W W') {g : Nat} {t : TypeId} {cs : List Value} (hg : W.heap.size ≤ g) (k : Blk W' g t cs) : St w ((g, t, cs) :: l) W' := ⟨h.1.trans (hb.mono h.1.size), Has.cons k (h.2.1.below hb), by
  rw [List.map_cons, List.nodup_cons]
  exact ⟨h.apart' hg, h.2.2⟩⟩
/-- ends for a motor with possible tolerances -/
theorem ends_p (m : Mot) (A : Option Addr) (l : List Sp) (cap : Nat) (w : World) (hx : SpAt w A l) (h : Dv.lmE m l = 0) :
    Calls Try.prog 113 #[.agg #[.int .i64 m.r, .int .i64 m.ld, .int .i64 m.lq, .int .i64 m.fx, .int .i64 m.po, .int .i64 m.mi, .int .i64 m.sp, .int .i64 m.dr, .int .i64 m.cu, .int .i64 m.fa], .slice A l.length cap] w fun e w' => e = .returned (.tuple #[.agg #[.int .i64 (Dv.lmLo m l).r, .int .i64 (Dv.lmLo m l).ld, .int .i64 (Dv.lmLo m l).lq, .int .i64 (Dv.lmLo m l).fx, .int .i64 (Dv.lmLo m l).po, .int .i64 (Dv.lmLo m l).mi, .int .i64 (Dv.lmLo m l).sp, .int .i64 (Dv.lmLo m l).dr, .int .i64 (Dv.lmLo m l).cu, .int .i64 (Dv.lmLo m l).fa], .agg #[.int .i64 (Dv.lmHi m l).r, .int .i64 (Dv.lmHi m l).ld, .int .i64 (Dv.lmHi m l).lq, .int .i64 (Dv.lmHi m l).fx, .int .i64 (Dv.lmHi m l).po, .int .i64 (Dv.lmHi m l).mi, .int .i64 (Dv.lmHi m l).sp, .int .i64 (Dv.lmHi m l).dr, .int .i64 (Dv.lmHi m l).cu, .int .i64 (Dv.lmHi m l).fa]]) ∧ Below w.heap.size w w' := by
  obtain ⟨hm, hl, _, _, _, _, hv⟩ := Dv.lm_parts h
  match l, hl with
  | [s0, s1, s2, s3, s4], _ => exact ends_r m A s0 s1 s2 s3 s4 cap w hx hm (hv s0 (by simp)) (hv s1 (by simp)) (hv s2 (by simp)) (hv s3 (by simp))

set_option maxHeartbeats 4000000 in
set_option maxRecDepth 100000 in
theorem allowedR_go (m lo hi : Mot) (s0 s1 s2 s3 s4 : Sp) (d q s : Int) {x1 x2 x3 x4 : Int} (ad : Addr) (cap : Nat) (w : World) (h5 : Sp5 w ad s0 s1 s2 s3 s4) (hm : Dv.chk m) (hlo : Dv.chk lo) (hhi : Dv.chk hi) (hs : -16384 ≤ s ∧ s ≤ 16384) (hsl : -16384 ≤ s4.lo ∧ s4.lo ≤ 16384) (hsh : -16384 ≤ s4.hi ∧ s4.hi ≤ 16384) (hd : -1048576 ≤ d ∧ d ≤ 1048576) (hq : -1048576 ≤ q ∧ q ≤ 1048576)
    (hK : ∀ V : World, Below w.heap.size w V → Calls Try.prog 113 #[.agg #[.int .i64 m.r, .int .i64 m.ld, .int .i64 m.lq, .int .i64 m.fx, .int .i64 m.po, .int .i64 m.mi, .int .i64 m.sp, .int .i64 m.dr, .int .i64 m.cu, .int .i64 m.fa], .slice (some ad) 5 cap] V fun e w' => e = .returned (.tuple #[.agg #[.int .i64 lo.r, .int .i64 lo.ld, .int .i64 lo.lq, .int .i64 lo.fx, .int .i64 lo.po, .int .i64 lo.mi, .int .i64 lo.sp, .int .i64 lo.dr, .int .i64 lo.cu, .int .i64 lo.fa], .agg #[.int .i64 hi.r, .int .i64 hi.ld, .int .i64 hi.lq, .int .i64 hi.fx, .int .i64 hi.po, .int .i64 hi.mi, .int .i64 hi.sp, .int .i64 hi.dr, .int .i64 hi.cu, .int .i64 hi.fa]]) ∧ Below V.heap.size V w')
    (e1 : Dv.bdLo lo hi d q (s + s4.lo) (s + s4.hi) = x1) (e2 : Dv.bdHi lo hi d q (s + s4.lo) (s + s4.hi) = x2) (e3 : Dv.bqLo lo hi d q (s + s4.lo) (s + s4.hi) = x3) (e4 : Dv.bqHi lo hi d q (s + s4.lo) (s + s4.hi) = x4) :
    Calls Try.prog 111 #[.agg #[.int .i64 m.r, .int .i64 m.ld, .int .i64 m.lq, .int .i64 m.fx, .int .i64 m.po, .int .i64 m.mi, .int .i64 m.sp, .int .i64 m.dr, .int .i64 m.cu, .int .i64 m.fa], .slice (some ad) 5 cap, .int .i64 d, .int .i64 q, .int .i64 s] w fun e w' => e = .returned (.tuple #[.agg #[.int .i64 (Dv.alLo m.cu d lo.ld m.mi x1), .int .i64 (Dv.alHi m.cu d lo.ld m.mi x2)], .agg #[.int .i64 (Dv.alLo m.cu q lo.lq m.mi x3), .int .i64 (Dv.alHi m.cu q lo.lq m.mi x4)]]) ∧ Below w.heap.size w w' := by
  have hib := Dv.inn_bd lo hi d q (s + s4.lo) (s + s4.hi) hlo hhi hd hq (by omega) (by omega)
  rw [e1, e2, e3, e4] at hib
  have KI := Lib.hid (show ∀ W : World, Calls Try.prog 126 #[.agg #[.int .i64 lo.r, .int .i64 lo.ld, .int .i64 lo.lq, .int .i64 lo.fx, .int .i64 lo.po, .int .i64 lo.mi, .int .i64 lo.sp, .int .i64 lo.dr, .int .i64 lo.cu, .int .i64 lo.fa], .agg #[.int .i64 hi.r, .int .i64 hi.ld, .int .i64 hi.lq, .int .i64 hi.fx, .int .i64 hi.po, .int .i64 hi.mi, .int .i64 hi.sp, .int .i64 hi.dr, .int .i64 hi.cu, .int .i64 hi.fa], .int .i64 d, .int .i64 q, .agg #[.int .i64 (s + s4.lo), .int .i64 (s + s4.hi)]] W fun e w' => e = .returned (.tuple #[.agg #[.int .i64 x1, .int .i64 x2], .agg #[.int .i64 x3, .int .i64 x4]]) ∧ Below W.heap.size W w' from fun W => by rw [← e1, ← e2, ← e3, ← e4]; exact innersR_c lo hi (s + s4.lo) (s + s4.hi) d q W hlo hhi (by omega) (by omega) hd hq)
  clear e1 e2 e3 e4
  have KE := Lib.hid hK
  have H5 := Lib.hid h5
  clear hK h5
  unfold Dv.chk at hm hlo hhi
  have ab1 := al_bd (x := m.cu + d) (l := lo.ld) (by omega) (by omega)
  have ab2 := al_bd (x := m.cu - d + 1) (l := lo.ld) (by omega) (by omega)
  have ab3 := al_bd (x := m.cu + q) (l := lo.lq) (by omega) (by omega)
  have ab4 := al_bd (x := m.cu - q + 1) (l := lo.lq) (by omega) (by omega)
  have KA := Lib.hid (show ∀ W : World, Calls Try.prog 127 #[.int .i64 m.cu, .int .i64 d, .int .i64 lo.ld, .int .i64 m.mi, .agg #[.int .i64 x1, .int .i64 x2]] W fun e w' => e = .returned (.agg #[.int .i64 (Dv.alLo m.cu d lo.ld m.mi x1), .int .i64 (Dv.alHi m.cu d lo.ld m.mi x2)]) ∧ Below W.heap.size W w' from fun W => spanR_c m.cu d lo.ld m.mi x1 x2 W (by omega) (by omega) (by omega) ab1 ab2 hib.1 hib.2.1)
  have KB := Lib.hid (show ∀ W : World, Calls Try.prog 127 #[.int .i64 m.cu, .int .i64 q, .int .i64 lo.lq, .int .i64 m.mi, .agg #[.int .i64 x3, .int .i64 x4]] W fun e w' => e = .returned (.agg #[.int .i64 (Dv.alLo m.cu q lo.lq m.mi x3), .int .i64 (Dv.alHi m.cu q lo.lq m.mi x4)]) ∧ Below W.heap.size W w' from fun W => spanR_c m.cu q lo.lq m.mi x3 x4 W (by omega) (by omega) (by omega) ab3 ab4 hib.2.2.1 hib.2.2.2)
  clear ab1 ab2 ab3 ab4 hib
  have S0 := Lib.hid (show St w [(w.heap.size + 1 + 1, 29, [.int .i64 0, .int .i64 0]), (w.heap.size + 1, 29, [.int .i64 0, .int .i64 0]), (w.heap.size, 52, [.int .i64 m.r, .int .i64 m.ld, .int .i64 m.lq, .int .i64 m.fx, .int .i64 m.po, .int .i64 m.mi, .int .i64 m.sp, .int .i64 m.dr, .int .i64 m.cu, .int .i64 m.fa])] (((w.alloc (.cells #[.int .i64 m.r, .int .i64 m.ld, .int .i64 m.lq, .int .i64 m.fx, .int .i64 m.po, .int .i64 m.mi, .int .i64 m.sp, .int .i64 m.dr, .int .i64 m.cu, .int .i64 m.fa] 52)).alloc (.cells #[.int .i64 0, .int .i64 0] 29)).alloc (.cells #[.int .i64 0, .int .i64 0] 29)) from by
    have := (((St.start w).alloc [.int .i64 m.r, .int .i64 m.ld, .int .i64 m.lq, .int .i64 m.fx, .int .i64 m.po, .int .i64 m.mi, .int .i64 m.sp, .int .i64 m.dr, .int .i64 m.cu, .int .i64 m.fa] 52).alloc [.int .i64 0, .int .i64 0] 29).alloc [.int .i64 0, .int .i64 0] 29
    simp at this
    exact this)
  go_enter Try.func111, Try.ntmps111
  go_wp2_with fail
  refine (KE.out _ S0.out.1).mono ?_
  rintro e w1 ⟨rfl, hb1⟩
  have S1 := Lib.hid (((S0.out.below hb1).alloc [.int .i64 lo.r, .int .i64 lo.ld, .int .i64 lo.lq, .int .i64 lo.fx, .int .i64 lo.po, .int .i64 lo.mi, .int .i64 lo.sp, .int .i64 lo.dr, .int .i64 lo.cu, .int .i64 lo.fa] 52).alloc [.int .i64 hi.r, .int .i64 hi.ld, .int .i64 hi.lq, .int .i64 hi.fx, .int .i64 hi.po, .int .i64 hi.mi, .int .i64 hi.sp, .int .i64 hi.dr, .int .i64 hi.cu, .int .i64 hi.fa] 52)
  clear hb1 S0
  go_upto_region 2 with (fail)
  refine gen_world (fun W => St w [(w1.heap.size + 1, 52, [.int .i64 hi.r, .int .i64 hi.ld, .int .i64 hi.lq, .int .i64 hi.fx, .int .i64 hi.po, .int .i64 hi.mi, .int .i64 hi.sp, .int .i64 hi.dr, .int .i64 hi.cu, .int .i64 hi.fa]), (w1.heap.size, 52, [.int .i64 lo.r, .int .i64 lo.ld, .int .i64 lo.lq, .int .i64 lo.fx, .int .i64 lo.po, .int .i64 lo.mi, .int .i64 lo.sp, .int .i64 lo.dr, .int .i64 lo.cu, .int .i64 lo.fa]), (w.heap.size + 1 + 1, 29, [.int .i64 0, .int .i64 0]), (w.heap.size + 1, 29, [.int .i64 0, .int .i64 0]), (w.heap.size, 52, [.int .i64 m.r, .int .i64 m.ld, .int .i64 m.lq, .int .i64 m.fx, .int .i64 m.po, .int .i64 m.mi, .int .i64 m.sp, .int .i64 m.dr, .int .i64 m.cu, .int .i64 m.fa])] W) (by have := S1.out; simp at this; exact this) ?_
  clear S1
  rintro w2 i_
  have I1 := Lib.hid i_
  clear i_
  generalize w1.heap.size = ga at I1 ⊢
  refine wp_region_privz 23 [20] [.q, .q, .q, .q, .q, .q, .q, .q, .q, .q, .q, .q, .q, .q, .q, .q, .q, .q, .q, .q, .q, .p, .p] (fun _ => (.cells #[.int .i64 0, .int .i64 0] 29, fun b => .pointer (some ⟨b, 0, none⟩))) ?afr3 (by kernel_rfl) (by kernel_rfl) (fun _ _ _ _ _ h => h) ?walkr3 ?tailr3
  case walkr3 =>
    intro V hV
    have IV := Lib.hid (I1.out.below hV)
    have z_hi := (IV.out.get 0 rfl).lt
    have c_hi0 := (IV.out.get 0 rfl).cell 0 rfl
    have c_hi1 := (IV.out.get 0 rfl).cell 1 rfl
    have c_hi2 := (IV.out.get 0 rfl).cell 2 rfl
    have c_hi3 := (IV.out.get 0 rfl).cell 3 rfl
    have c_hi4 := (IV.out.get 0 rfl).cell 4 rfl
    have c_hi5 := (IV.out.get 0 rfl).cell 5 rfl
    have c_hi6 := (IV.out.get 0 rfl).cell 6 rfl
    have c_hi7 := (IV.out.get 0 rfl).cell 7 rfl
    have c_hi8 := (IV.out.get 0 rfl).cell 8 rfl
    have c_hi9 := (IV.out.get 0 rfl).cell 9 rfl
    have z_lo := (IV.out.get 1 rfl).lt
    have c_lo0 := (IV.out.get 1 rfl).cell 0 rfl
    have c_lo1 := (IV.out.get 1 rfl).cell 1 rfl
    have c_lo2 := (IV.out.get 1 rfl).cell 2 rfl
    have c_lo3 := (IV.out.get 1 rfl).cell 3 rfl
    have c_lo4 := (IV.out.get 1 rfl).cell 4 rfl
    have c_lo5 := (IV.out.get 1 rfl).cell 5 rfl
    have c_lo6 := (IV.out.get 1 rfl).cell 6 rfl
    have c_lo7 := (IV.out.get 1 rfl).cell 7 rfl
    have c_lo8 := (IV.out.get 1 rfl).cell 8 rfl
    have c_lo9 := (IV.out.get 1 rfl).cell 9 rfl
    have hz5 := H5.out.1
    obtain ⟨z5, _, _, _, _, _, _, _, _, x8, x9⟩ := H5.out.below IV.out.1 hz5
    simp only [List.take_succ_cons, List.take_zero]
    repeat (refine wpP_q ?_; go_big_quiet_step (first | (go_at_call 126; with_reducible exact past_below (KI.out _))); refine wpQuiet_nil ?_)
    refine wpP_p (by kernel_rfl) (fun _ => by kernel_rfl) ?_
    (try simp only [Act.put, List.setIfInBounds_toArray, List.set_cons_zero, List.set_cons_succ])
    refine wpP_p (by kernel_rfl) (fun _ => by kernel_rfl) ?_
    (try simp only [Act.put, List.setIfInBounds_toArray, List.set_cons_zero, List.set_cons_succ])
    refine wpP_nil ?_
    rfl
  case tailr3 =>
  intro gs w4 hb5 hP hD
  obtain ⟨hg_a, k_a⟩ := hP 21 rfl
  obtain ⟨hg_b, k_b⟩ := hP 22 rfl
  have hne := hD 21 22 rfl rfl (by decide)
  simp only [List.take_succ_cons, List.take_zero, fillP]
  (try simp only [Act.put, List.setIfInBounds_toArray, List.set_cons_zero, List.set_cons_succ])
  generalize gs 21 = g_a at hg_a k_a hne ⊢
  generalize gs 22 = g_b at hg_b k_b hne ⊢
  clear hP hD
  have k2_a : Blk w4 g_a 29 [.int .i64 0, .int .i64 0] := k_a
  have gz_a : w.heap.size ≤ g_a := Nat.le_trans I1.out.1.size hg_a
  have f_a0 := k2_a.free 0
  have d_a0 := k2_a.cell 0 rfl
  have f_a1 := k2_a.free 1
  have d_a1 := k2_a.cell 1 rfl
  have k2_b : Blk w4 g_b 29 [.int .i64 0, .int .i64 0] := k_b
  have gz_b : w.heap.size ≤ g_b := Nat.le_trans I1.out.1.size hg_b
  have f_b0 := k2_b.free 0
  have d_b0 := k2_b.cell 0 rfl
  have f_b1 := k2_b.free 1
  have d_b1 := k2_b.cell 1 rfl
  have J6 := Lib.hid (I1.out.lay2 hb5 hg_a hg_b hne k2_a k2_b [.int .i64 x1, .int .i64 x2] [.int .i64 x3, .int .i64 x4] rfl rfl)
  have hn1 : ¬ g_a = g_b := hne
  have hn2 : ¬ g_b = g_a := fun e => hne e.symm
  clear hb5 I1 hg_a k_a k2_a hg_b k_b k2_b hne
  simp only [List.drop_succ_cons, List.drop_zero]
  go_upto_region 3 with (fail)
  refine gen_world (fun W => St w [(g_b, 29, [.int .i64 x3, .int .i64 x4]), (g_a, 29, [.int .i64 x1, .int .i64 x2]), (ga + 1, 52, [.int .i64 hi.r, .int .i64 hi.ld, .int .i64 hi.lq, .int .i64 hi.fx, .int .i64 hi.po, .int .i64 hi.mi, .int .i64 hi.sp, .int .i64 hi.dr, .int .i64 hi.cu, .int .i64 hi.fa]), (ga, 52, [.int .i64 lo.r, .int .i64 lo.ld, .int .i64 lo.lq, .int .i64 lo.fx, .int .i64 lo.po, .int .i64 lo.mi, .int .i64 lo.sp, .int .i64 lo.dr, .int .i64 lo.cu, .int .i64 lo.fa]), (w.heap.size + 1 + 1, 29, [.int .i64 0, .int .i64 0]), (w.heap.size + 1, 29, [.int .i64 0, .int .i64 0]), (w.heap.size, 52, [.int .i64 m.r, .int .i64 m.ld, .int .i64 m.lq, .int .i64 m.fx, .int .i64 m.po, .int .i64 m.mi, .int .i64 m.sp, .int .i64 m.dr, .int .i64 m.cu, .int .i64 m.fa])] W) (J6.out) ?_
  clear J6 f_a0 d_a0 f_a1 d_a1 f_b0 d_b0 f_b1 d_b1 hn1 hn2
  rintro w8 i_
  have I7 := Lib.hid i_
  clear i_
  refine wp_region_priv 18 [.q, .q, .q, .q, .q, .q, .q, .q, .q, .q, .q, .q, .q, .q, .q, .q, .q, .q] (fun _ => (.cells #[] 29, fun b => .pointer none)) ?af (by kernel_rfl) (by kernel_rfl) ?walk ?tail
  case walk =>
    intro V hV
    have IV := Lib.hid (I7.out.below hV)
    have z_a := (IV.out.get 1 rfl).lt
    have c_a0 := (IV.out.get 1 rfl).cell 0 rfl
    have c_a1 := (IV.out.get 1 rfl).cell 1 rfl
    have z_b := (IV.out.get 0 rfl).lt
    have c_b0 := (IV.out.get 0 rfl).cell 0 rfl
    have c_b1 := (IV.out.get 0 rfl).cell 1 rfl
    have z_m := (IV.out.get 6 rfl).lt
    have c_m5 := (IV.out.get 6 rfl).cell 5 rfl
    have c_m8 := (IV.out.get 6 rfl).cell 8 rfl
    have z_lo := (IV.out.get 3 rfl).lt
    have c_lo1 := (IV.out.get 3 rfl).cell 1 rfl
    have c_lo2 := (IV.out.get 3 rfl).cell 2 rfl
    simp only [List.take_succ_cons, List.take_zero]
    repeat (refine wpP_q ?_; go_big_quiet_step (first | (go_at_call 127; with_reducible exact past_below (KA.out _)) | (go_at_call 127; with_reducible exact past_below (KB.out _))); refine wpQuiet_nil ?_)
    refine wpP_nil ?_
    rfl
  case tail =>
  intro gs w3 hb3 _ _
  have S3 := Lib.hid (I7.out.below hb3)
  clear hb3 I7
  simp only [List.drop_succ_cons, List.drop_zero, List.take_succ_cons, List.take_zero, fillP]
  have z_r0 := (S3.out.get 5 rfl).lt
  have c_r00 := (S3.out.get 5 rfl).cell 0 rfl
  have c_r01 := (S3.out.get 5 rfl).cell 1 rfl
  have z_r1 := (S3.out.get 4 rfl).lt
  have c_r10 := (S3.out.get 4 rfl).cell 0 rfl
  have c_r11 := (S3.out.get 4 rfl).cell 1 rfl
  have f_r00 := (S3.out.get 5 rfl).free 0
  have f_r01 := (S3.out.get 5 rfl).free 1
  have f_r10 := (S3.out.get 4 rfl).free 0
  have f_r11 := (S3.out.get 4 rfl).free 1
  go_wp2
  exact bodyPost_ret (v := .tuple #[.agg #[.int .i64 (Dv.alLo m.cu d lo.ld m.mi x1), .int .i64 (Dv.alHi m.cu d lo.ld m.mi x2)], .agg #[.int .i64 (Dv.alLo m.cu q lo.lq m.mi x3), .int .i64 (Dv.alHi m.cu q lo.lq m.mi x4)]]) (by simp [results, Try.results111, go_sem, c_r00, c_r01, c_r10, c_r11]) rfl ⟨rfl, below_put2 (below_put2 S3.out.1 (by omega) _ _) (by omega) _ _⟩
theorem allowedR_c (m : Mot) (A : Option Addr) (l : List Sp) (d q s : Int) (cap : Nat) (w : World) (hx : SpAt w A l) (h : Dv.lmE m l = 0) (hs : -16384 ≤ s ∧ s ≤ 16384) (hd : -1048576 ≤ d ∧ d ≤ 1048576) (hq : -1048576 ≤ q ∧ q ≤ 1048576) :
    Calls Try.prog 111 #[.agg #[.int .i64 m.r, .int .i64 m.ld, .int .i64 m.lq, .int .i64 m.fx, .int .i64 m.po, .int .i64 m.mi, .int .i64 m.sp, .int .i64 m.dr, .int .i64 m.cu, .int .i64 m.fa], .slice A l.length cap, .int .i64 d, .int .i64 q, .int .i64 s] w fun e w' => e = .returned (.tuple #[.agg #[.int .i64 (Dv.aLo m l d q s), .int .i64 (Dv.aHi m l d q s)], .agg #[.int .i64 (Dv.bLo m l d q s), .int .i64 (Dv.bHi m l d q s)]]) ∧ Below w.heap.size w w' := by
  obtain ⟨hm, hl, hlo, hhi, hsl, hsh, hv⟩ := Dv.lm_parts h
  match l, hl with
  | [s0, s1, s2, s3, s4], _ =>
    obtain ⟨ad, rfl, h5⟩ := hx.five
    exact allowedR_go m (Dv.lmLo m [s0, s1, s2, s3, s4]) (Dv.lmHi m [s0, s1, s2, s3, s4]) s0 s1 s2 s3 s4 d q s ad cap w h5 hm hlo hhi hs hsl hsh hd hq (fun V hV => ends_p m (some ad) [s0, s1, s2, s3, s4] cap V (hx.below hV) h) rfl rfl rfl rfl
end Go.Proofs.Ytcneohhfnnelgaa
namespace Go.Proofs.Ytcneohhfnnelgaa
open Go.RowKit
set_option linter.unusedVariables false

/-- what Allowed leaves -/
def AlP (m : Mot) (l : List Sp) (d q s : Int) (w : World) (e : Ending) (w' : World) : Prop :=
  e = .returned (.tuple #[.agg #[.int .i64 (Dv.alV m l d q s (Dv.aLo m l d q s)), .int .i64 (Dv.alV m l d q s (Dv.aHi m l d q s))], .agg #[.int .i64 (Dv.alV m l d q s (Dv.bLo m l d q s)), .int .i64 (Dv.alV m l d q s (Dv.bHi m l d q s))], .int .i64 (Dv.alE m l d q s)]) ∧ Below w.heap.size w w'
theorem AlP.no {m : Mot} {l : List Sp} {d q s : Int} {w w' : World} {e : Ending} {E : Int} (hE : Dv.alE m l d q s = E) (h0 : E ≠ 0) (he : e = .returned (.tuple #[.agg #[.int .i64 0, .int .i64 0], .agg #[.int .i64 0, .int .i64 0], .int .i64 E])) (hb : Below w.heap.size w w') : AlP m l d q s w e w' := by
  refine ⟨?_, hb⟩
  rw [he]
  unfold Dv.alV
  rw [hE]
  simp [h0]
theorem AlP.yes {m : Mot} {l : List Sp} {d q s : Int} {w w' : World} {e : Ending} (hE : Dv.alE m l d q s = 0) (he : e = .returned (.tuple #[.agg #[.int .i64 (Dv.aLo m l d q s), .int .i64 (Dv.aHi m l d q s)], .agg #[.int .i64 (Dv.bLo m l d q s), .int .i64 (Dv.bHi m l d q s)], .int .i64 0])) (hb : Below w.heap.size w w') : AlP m l d q s w e w' := by
  refine ⟨?_, hb⟩
  rw [he]
  unfold Dv.alV
  rw [hE]
  simp
theorem within_is (x c : Int) (b : Bool) (h : upB c [x] = b) (w : World) : Calls Try.prog 80 #[.int .i64 x, .int .i64 (-c), .int .i64 c] w fun e w' => e = .returned (.bool b) ∧ w = w' :=
  (within_c x (-c) c w).mono fun _ _ ⟨h1, h2⟩ => ⟨by rw [h1, ← h, ← inB_up], h2⟩
theorem St.tail {w W : World} {l : List BlkRow} {x : BlkRow} (h : St w (x :: l) W) : St w l W := ⟨h.1, h.2.1.sub (fun y hy => by simp [hy]), by have := h.2.2; rw [List.map_cons, List.nodup_cons] at this; exact this.2⟩
theorem alIn_bd {m : Mot} {d q s : Int} (hm : Dv.chk m) (h0 : upB m.cu [d, q] = true) (h1 : upB m.fa [s] = true) : (-1048576 ≤ d ∧ d ≤ 1048576) ∧ (-1048576 ≤ q ∧ q ≤ 1048576) ∧ (-16384 ≤ s ∧ s ≤ 16384) := by
  have a := upB2.1 h0
  have b := upB1.1 h1
  unfold Dv.chk at hm
  omega
theorem both_p (m : Mot) (l : List Sp) (d q s : Int) (g : Nat) (w : World) (hE : Dv.lmE m l = 0) (hg : Blk w g 131 (lmC m (Dv.lmLo m l) (Dv.lmHi m l) (Dv.lmS l).lo (Dv.lmS l).hi)) (hs : -16384 ≤ s ∧ s ≤ 16384) (hd : -1048576 ≤ d ∧ d ≤ 1048576) (hq : -1048576 ≤ q ∧ q ≤ 1048576) :
    Calls Try.prog 109 #[.pointer (some ⟨g, 0, none⟩), .int .i64 d, .int .i64 q, .int .i64 s] w fun e w' => e = .returned (.tuple #[.agg #[.int .i64 (Dv.aLo m l d q s), .int .i64 (Dv.aHi m l d q s)], .agg #[.int .i64 (Dv.bLo m l d q s), .int .i64 (Dv.bHi m l d q s)]]) ∧ Below w.heap.size w w' := by
  obtain ⟨hm, _, hlo, hhi, hsl, hsh, _⟩ := Dv.lm_parts hE
  exact both_c m (Dv.lmLo m l) (Dv.lmHi m l) (Dv.lmS l).lo (Dv.lmS l).hi d q s g w hg hm hlo hhi hs hsl hsh hd hq

set_option maxHeartbeats 4000000 in
set_option maxRecDepth 100000 in
theorem Allowed_c (m : Mot) (A : Option Addr) (l : List Sp) (d q s : Int) (cap : Nat) (w : World) (hx : SpAt w A l) (hll : l.length ≤ 4611686018427387904) :
    Calls Try.prog 57 #[.agg #[.int .i64 m.r, .int .i64 m.ld, .int .i64 m.lq, .int .i64 m.fx, .int .i64 m.po, .int .i64 m.mi, .int .i64 m.sp, .int .i64 m.dr, .int .i64 m.cu, .int .i64 m.fa], .slice A l.length cap, .int .i64 d, .int .i64 q, .int .i64 s] w (AlP m l d q s w) := by
  have HX := Lib.hid hx
  have HLL := Lib.hid hll
  clear hx hll
  have S0 := Lib.hid (show St w [(w.heap.size + 1 + 1, 29, [.int .i64 0, .int .i64 0]), (w.heap.size + 1, 29, [.int .i64 0, .int .i64 0]), (w.heap.size, 52, [.int .i64 m.r, .int .i64 m.ld, .int .i64 m.lq, .int .i64 m.fx, .int .i64 m.po, .int .i64 m.mi, .int .i64 m.sp, .int .i64 m.dr, .int .i64 m.cu, .int .i64 m.fa])] (((w.alloc (.cells #[.int .i64 m.r, .int .i64 m.ld, .int .i64 m.lq, .int .i64 m.fx, .int .i64 m.po, .int .i64 m.mi, .int .i64 m.sp, .int .i64 m.dr, .int .i64 m.cu, .int .i64 m.fa] 52)).alloc (.cells #[.int .i64 0, .int .i64 0] 29)).alloc (.cells #[.int .i64 0, .int .i64 0] 29)) from by
    have := (((St.start w).alloc [.int .i64 m.r, .int .i64 m.ld, .int .i64 m.lq, .int .i64 m.fx, .int .i64 m.po, .int .i64 m.mi, .int .i64 m.sp, .int .i64 m.dr, .int .i64 m.cu, .int .i64 m.fa] 52).alloc [.int .i64 0, .int .i64 0] 29).alloc [.int .i64 0, .int .i64 0] 29
    simp at this
    exact this)
  go_enter Try.func57, Try.ntmps57
  go_wp2_with fail
  refine (newLimiter_c m A l cap _ (HX.out.below S0.out.1) HLL.out).mono ?_
  rintro e w1 ⟨hb1, h⟩
  rcases h with ⟨hne, rfl⟩ | ⟨h0, g, hgz, rfl, hg⟩
  · have S1 := Lib.hid (S0.out.below hb1)
    have HE : Hid (Dv.alE m l d q s = Dv.lmE m l) := Lib.hid (by unfold Dv.alE; rw [if_neg hne])
    have HNE := Lib.hid hne
    have hbt : (Dv.lmE m l != 0) = true := by simpa using hne
    clear hb1 S0 hne
    generalize Dv.lmE m l = E at HE HNE hbt
    have f0 := (S1.out.get 1 rfl).free 0
    have f1 := (S1.out.get 1 rfl).free 1
    have f2 := (S1.out.get 0 rfl).free 0
    have f3 := (S1.out.get 0 rfl).free 1
    have y0 := (S1.out.get 1 rfl).cell 0 rfl
    have y1 := (S1.out.get 1 rfl).cell 1 rfl
    have y2 := (S1.out.get 0 rfl).cell 0 rfl
    have y3 := (S1.out.get 0 rfl).cell 1 rfl
    have zy := (S1.out.get 0 rfl).lt
    go_wp2
    exact bodyPost_ret (v := .tuple #[.agg #[.int .i64 0, .int .i64 0], .agg #[.int .i64 0, .int .i64 0], .int .i64 E]) (by simp [results, Try.results57, go_sem, y0, y1, y2, y3]) rfl (AlP.no HE.out (HNE.out) rfl (below_put2 (below_put2 S1.out.1 (by omega) _ _) (by omega) _ _))
  · have S1 := Lib.hid (S0.out.add hb1 hgz hg)
    have HL := Lib.hid h0
    have HM := Lib.hid (Dv.lm_parts h0).1
    clear hb1 S0 hgz hg h0
    have hm := HM.out
    unfold Dv.chk at hm
    have q8 := (S1.out.get 3 rfl).cell 8 rfl
    have q9 := (S1.out.get 3 rfl).cell 9 rfl
    have zm := (S1.out.get 3 rfl).lt
    go_wp2_with fail
    cases u0 : upB m.cu [d, q]
    · have HE : Hid (Dv.alE m l d q s = 3) := Lib.hid (by unfold Dv.alE Dv.alIn; rw [if_pos HL.out, u0]; rfl)
      refine (up2w m.cu d q w1 _ rfl (by omega) (by omega)).mono ?_
      rintro e w2 ⟨rfl, hb2⟩
      rw [u0]
      have S2 := Lib.hid (S1.out.below hb2)
      clear hb2 S1 q8 q9 u0 zm
      have f0 := (S2.out.get 2 rfl).free 0
      have f1 := (S2.out.get 2 rfl).free 1
      have f2 := (S2.out.get 1 rfl).free 0
      have f3 := (S2.out.get 1 rfl).free 1
      have y0 := (S2.out.get 2 rfl).cell 0 rfl
      have y1 := (S2.out.get 2 rfl).cell 1 rfl
      have y2 := (S2.out.get 1 rfl).cell 0 rfl
      have y3 := (S2.out.get 1 rfl).cell 1 rfl
      have zy := (S2.out.get 1 rfl).lt
      go_wp2
      exact bodyPost_ret (v := .tuple #[.agg #[.int .i64 0, .int .i64 0], .agg #[.int .i64 0, .int .i64 0], .int .i64 3]) (by simp [results, Try.results57, go_sem, y0, y1, y2, y3]) rfl (AlP.no HE.out (by decide) rfl (below_put2 (below_put2 S2.out.1 (by omega) _ _) (by omega) _ _))
    · refine (up2w m.cu d q w1 _ rfl (by omega) (by omega)).mono ?_
      rintro e w2 ⟨rfl, hb2⟩
      rw [u0]
      have S2 := Lib.hid (S1.out.below hb2)
      clear hb2 S1 q8 q9 zm
      have q9 := (S2.out.get 3 rfl).cell 9 rfl
      have zm := (S2.out.get 3 rfl).lt
      go_wp2_with fail
      cases u1 : upB m.fa [s]
      · have HE : Hid (Dv.alE m l d q s = 3) := Lib.hid (by unfold Dv.alE Dv.alIn; rw [if_pos HL.out, u0, u1]; rfl)
        refine (up1w m.fa s w2 _ rfl (by omega) (by omega)).mono ?_
        rintro e w3 ⟨rfl, hb3⟩
        rw [u1]
        have S3 := Lib.hid (S2.out.below hb3)
        clear hb3 S2 q9 u0 u1 zm
        have f0 := (S3.out.get 2 rfl).free 0
        have f1 := (S3.out.get 2 rfl).free 1
        have f2 := (S3.out.get 1 rfl).free 0
        have f3 := (S3.out.get 1 rfl).free 1
        have y0 := (S3.out.get 2 rfl).cell 0 rfl
        have y1 := (S3.out.get 2 rfl).cell 1 rfl
        have y2 := (S3.out.get 1 rfl).cell 0 rfl
        have y3 := (S3.out.get 1 rfl).cell 1 rfl
        have zy := (S3.out.get 1 rfl).lt
        go_wp2
        exact bodyPost_ret (v := .tuple #[.agg #[.int .i64 0, .int .i64 0], .agg #[.int .i64 0, .int .i64 0], .int .i64 3]) (by simp [results, Try.results57, go_sem, y0, y1, y2, y3]) rfl (AlP.no HE.out (by decide) rfl (below_put2 (below_put2 S3.out.1 (by omega) _ _) (by omega) _ _))
      · have HIN : Hid (Dv.alIn m d q s = true) := Lib.hid (by unfold Dv.alIn; rw [u0, u1]; rfl)
        obtain ⟨hd, hq, hs⟩ := alIn_bd HM.out u0 u1
        have KB := Lib.hid (show ∀ W : World, Blk W g 131 (lmC m (Dv.lmLo m l) (Dv.lmHi m l) (Dv.lmS l).lo (Dv.lmS l).hi) → Calls Try.prog 109 #[.pointer (some ⟨g, 0, none⟩), .int .i64 d, .int .i64 q, .int .i64 s] W fun e w' => e = .returned (.tuple #[.agg #[.int .i64 (Dv.aLo m l d q s), .int .i64 (Dv.aHi m l d q s)], .agg #[.int .i64 (Dv.bLo m l d q s), .int .i64 (Dv.bHi m l d q s)]]) ∧ Below W.heap.size W w' from fun W hW => both_p m l d q s g W HL.out hW hs hd hq)
        refine (up1w m.fa s w2 _ rfl (by omega) (by omega)).mono ?_
        rintro e w3 ⟨rfl, hb3⟩
        rw [u1]
        have S3 := Lib.hid (S2.out.below hb3)
        clear hb3 S2 q9 u0 u1 zm hd hq hs
        generalize hx1 : Dv.aLo m l d q s = x1 at KB
        generalize hx2 : Dv.aHi m l d q s = x2 at KB
        generalize hx3 : Dv.bLo m l d q s = x3 at KB
        generalize hx4 : Dv.bHi m l d q s = x4 at KB
        have X1 := Lib.hid hx1
        have X2 := Lib.hid hx2
        have X3 := Lib.hid hx3
        have X4 := Lib.hid hx4
        clear hx1 hx2 hx3 hx4
        go_wp2_with fail
        refine (KB.out _ (S3.out.get 0 rfl)).mono ?_
        rintro e w4 ⟨rfl, hb4⟩
        have S4 := Lib.hid ((((S3.out.below hb4).tail).alloc [.int .i64 x1, .int .i64 x2] 29).alloc [.int .i64 x3, .int .i64 x4] 29)
        clear hb4 S3
        go_upto_region 7 with (fail)
        refine gen_world (fun W => St w [(w4.heap.size + 1, 29, [.int .i64 x3, .int .i64 x4]), (w4.heap.size, 29, [.int .i64 x1, .int .i64 x2]), (w.heap.size + 1 + 1, 29, [.int .i64 0, .int .i64 0]), (w.heap.size + 1, 29, [.int .i64 0, .int .i64 0]), (w.heap.size, 52, [.int .i64 m.r, .int .i64 m.ld, .int .i64 m.lq, .int .i64 m.fx, .int .i64 m.po, .int .i64 m.mi, .int .i64 m.sp, .int .i64 m.dr, .int .i64 m.cu, .int .i64 m.fa])] W) (by have := S4.out; simp at this; exact this) ?_
        clear S4
        generalize w4.heap.size = ga
        clear w4
        rintro w4 i4
        have S4 := Lib.hid i4
        clear i4
        have c0 := (S4.out.get 1 rfl).cell 0 rfl
        have c1 := (S4.out.get 1 rfl).cell 1 rfl
        have c2 := (S4.out.get 0 rfl).cell 0 rfl
        have c3 := (S4.out.get 0 rfl).cell 1 rfl
        have zc0 := (S4.out.get 0 rfl).lt
        have zc1 := (S4.out.get 1 rfl).lt
        have HOK : Hid (∀ b1 b2 : Bool, decide (x1 ≤ x2) = b1 → decide (x3 ≤ x4) = b2 → Dv.alOk m l d q s = (b1 && b2)) := Lib.hid (fun b1 b2 h1 h2 => by unfold Dv.alOk; rw [X1.out, X2.out, X3.out, X4.out, h1, h2])
        by_cases k1 : x1 ≤ x2
        · by_cases k2 : x3 ≤ x4
          · have HE : Hid (Dv.alE m l d q s = 0) := Lib.hid (by unfold Dv.alE; rw [if_pos HL.out, if_pos HIN.out, if_pos (by rw [HOK.out _ _ (decide_eq_true k1) (decide_eq_true k2)]; rfl)])
            have j1 : decide (x2 < x1) = false := decide_eq_false (by omega)
            have j2 : decide (x4 < x3) = false := decide_eq_false (by omega)
            go_upto_region 9 with (fail)
            have f0 := (S4.out.get 3 rfl).free 0
            have f1 := (S4.out.get 3 rfl).free 1
            have f2 := (S4.out.get 2 rfl).free 0
            have f3 := (S4.out.get 2 rfl).free 1
            have y0 := (S4.out.get 3 rfl).cell 0 rfl
            have y1 := (S4.out.get 3 rfl).cell 1 rfl
            have y2 := (S4.out.get 2 rfl).cell 0 rfl
            have y3 := (S4.out.get 2 rfl).cell 1 rfl
            have zy := (S4.out.get 2 rfl).lt
            have n_0_2 := S4.out.ne 0 2 rfl rfl (by decide)
            have n_2_0 := S4.out.ne 2 0 rfl rfl (by decide)
            have n_0_3 := S4.out.ne 0 3 rfl rfl (by decide)
            have n_3_0 := S4.out.ne 3 0 rfl rfl (by decide)
            have n_1_2 := S4.out.ne 1 2 rfl rfl (by decide)
            have n_2_1 := S4.out.ne 2 1 rfl rfl (by decide)
            have n_1_3 := S4.out.ne 1 3 rfl rfl (by decide)
            have n_3_1 := S4.out.ne 3 1 rfl rfl (by decide)
            have n_2_3 := S4.out.ne 2 3 rfl rfl (by decide)
            have n_3_2 := S4.out.ne 3 2 rfl rfl (by decide)
            go_region
            all_goals
              go_wp2
              exact bodyPost_ret (v := .tuple #[.agg #[.int .i64 x1, .int .i64 x2], .agg #[.int .i64 x3, .int .i64 x4], .int .i64 0]) (by simp [results, Try.results57, go_sem, y0, y1, y2, y3]) rfl (AlP.yes HE.out (by rw [X1.out, X2.out, X3.out, X4.out]) (below_put2 (below_put2 S4.out.1.drew (by omega) _ _) (by omega) _ _))
          · have HE : Hid (Dv.alE m l d q s = 17) := Lib.hid (by unfold Dv.alE; rw [if_pos HL.out, if_pos HIN.out, if_neg (by rw [HOK.out _ _ (decide_eq_true k1) (decide_eq_false k2)]; decide)])
            have j1 : decide (x2 < x1) = false := decide_eq_false (by omega)
            have j2 : decide (x4 < x3) = true := decide_eq_true (by omega)
            have f0 := (S4.out.get 3 rfl).free 0
            have f1 := (S4.out.get 3 rfl).free 1
            have f2 := (S4.out.get 2 rfl).free 0
            have f3 := (S4.out.get 2 rfl).free 1
            have y0 := (S4.out.get 3 rfl).cell 0 rfl
            have y1 := (S4.out.get 3 rfl).cell 1 rfl
            have y2 := (S4.out.get 2 rfl).cell 0 rfl
            have y3 := (S4.out.get 2 rfl).cell 1 rfl
            have zy := (S4.out.get 2 rfl).lt
            go_wp2
            exact bodyPost_ret (v := .tuple #[.agg #[.int .i64 0, .int .i64 0], .agg #[.int .i64 0, .int .i64 0], .int .i64 17]) (by simp [results, Try.results57, go_sem, y0, y1, y2, y3]) rfl (AlP.no HE.out (by decide) rfl (below_put2 (below_put2 S4.out.1 (by omega) _ _) (by omega) _ _))
        · have HE : Hid (Dv.alE m l d q s = 17) := Lib.hid (by unfold Dv.alE; rw [if_pos HL.out, if_pos HIN.out, if_neg (by rw [HOK.out _ _ (decide_eq_false k1) rfl]; simp)])
          have j1 : decide (x2 < x1) = true := decide_eq_true (by omega)
          have f0 := (S4.out.get 3 rfl).free 0
          have f1 := (S4.out.get 3 rfl).free 1
          have f2 := (S4.out.get 2 rfl).free 0
          have f3 := (S4.out.get 2 rfl).free 1
          have y0 := (S4.out.get 3 rfl).cell 0 rfl
          have y1 := (S4.out.get 3 rfl).cell 1 rfl
          have y2 := (S4.out.get 2 rfl).cell 0 rfl
          have y3 := (S4.out.get 2 rfl).cell 1 rfl
          have zy := (S4.out.get 2 rfl).lt
          go_wp2
          exact bodyPost_ret (v := .tuple #[.agg #[.int .i64 0, .int .i64 0], .agg #[.int .i64 0, .int .i64 0], .int .i64 17]) (by simp [results, Try.results57, go_sem, y0, y1, y2, y3]) rfl (AlP.no HE.out (by decide) rfl (below_put2 (below_put2 S4.out.1 (by omega) _ _) (by omega) _ _))
set_option maxHeartbeats 4000000 in
set_option maxRecDepth 100000 in
theorem AllowedR_c (m : Mot) (A : Option Addr) (l : List Sp) (d q s : Int) (cap : Nat) (w : World) (hx : SpAt w A l) (hll : l.length ≤ 4611686018427387904) :
    Calls Try.prog 58 #[.agg #[.int .i64 m.r, .int .i64 m.ld, .int .i64 m.lq, .int .i64 m.fx, .int .i64 m.po, .int .i64 m.mi, .int .i64 m.sp, .int .i64 m.dr, .int .i64 m.cu, .int .i64 m.fa], .slice A l.length cap, .int .i64 d, .int .i64 q, .int .i64 s] w (AlP m l d q s w) := by
  have HX := Lib.hid hx
  have HLL := Lib.hid hll
  clear hx hll
  have S0 := Lib.hid (show St w [(w.heap.size + 1 + 1, 29, [.int .i64 0, .int .i64 0]), (w.heap.size + 1, 29, [.int .i64 0, .int .i64 0]), (w.heap.size, 52, [.int .i64 m.r, .int .i64 m.ld, .int .i64 m.lq, .int .i64 m.fx, .int .i64 m.po, .int .i64 m.mi, .int .i64 m.sp, .int .i64 m.dr, .int .i64 m.cu, .int .i64 m.fa])] (((w.alloc (.cells #[.int .i64 m.r, .int .i64 m.ld, .int .i64 m.lq, .int .i64 m.fx, .int .i64 m.po, .int .i64 m.mi, .int .i64 m.sp, .int .i64 m.dr, .int .i64 m.cu, .int .i64 m.fa] 52)).alloc (.cells #[.int .i64 0, .int .i64 0] 29)).alloc (.cells #[.int .i64 0, .int .i64 0] 29)) from by
    have := (((St.start w).alloc [.int .i64 m.r, .int .i64 m.ld, .int .i64 m.lq, .int .i64 m.fx, .int .i64 m.po, .int .i64 m.mi, .int .i64 m.sp, .int .i64 m.dr, .int .i64 m.cu, .int .i64 m.fa] 52).alloc [.int .i64 0, .int .i64 0] 29).alloc [.int .i64 0, .int .i64 0] 29
    simp at this
    exact this)
  go_enter Try.func58, Try.ntmps58
  go_wp2_with fail
  refine (possible_c m A l cap _ (HX.out.below S0.out.1)).mono ?_
  rintro e w1 ⟨rfl, hb1⟩
  have S1 := Lib.hid (S0.out.below hb1)
  clear hb1 S0
  by_cases h0 : Dv.lmE m l = 0
  rotate_left 1
  · have HE : Hid (Dv.alE m l d q s = Dv.lmE m l) := Lib.hid (by unfold Dv.alE; rw [if_neg h0])
    have HNE := Lib.hid h0
    have hbt : (Dv.lmE m l != 0) = true := by simpa using h0
    obtain ⟨m0, m1, m2, m3, m4, m5, m6, m7, m8, m9⟩ := motOf (m := m) (S1.out.get 2 rfl)
    have zm := (S1.out.get 2 rfl).lt
    have KP := Lib.hid (fun (V : World) (hV : Below w.heap.size w V) => possible_c m A l cap V (HX.out.below hV))
    clear h0
    generalize Dv.lmE m l = E at HE HNE hbt KP ⊢
    go_wp2_with fail
    refine (KP.out _ S1.out.1).mono ?_
    rintro e w2 ⟨rfl, hb2⟩
    have S2 := Lib.hid (S1.out.below hb2)
    clear hb2 S1 m0 m1 m2 m3 m4 m5 m6 m7 m8 m9 zm
    have f0 := (S2.out.get 1 rfl).free 0
    have f1 := (S2.out.get 1 rfl).free 1
    have f2 := (S2.out.get 0 rfl).free 0
    have f3 := (S2.out.get 0 rfl).free 1
    have y0 := (S2.out.get 1 rfl).cell 0 rfl
    have y1 := (S2.out.get 1 rfl).cell 1 rfl
    have y2 := (S2.out.get 0 rfl).cell 0 rfl
    have y3 := (S2.out.get 0 rfl).cell 1 rfl
    have zy := (S2.out.get 0 rfl).lt
    go_wp2
    exact bodyPost_ret (v := .tuple #[.agg #[.int .i64 0, .int .i64 0], .agg #[.int .i64 0, .int .i64 0], .int .i64 E]) (by simp [results, Try.results58, go_sem, y0, y1, y2, y3]) rfl (AlP.no HE.out (HNE.out) rfl (below_put2 (below_put2 S2.out.1 (by omega) _ _) (by omega) _ _))
  · have HL := Lib.hid h0
    have HM := Lib.hid (Dv.lm_parts h0).1
    rw [h0]
    clear h0
    have hm := HM.out
    unfold Dv.chk at hm
    have q8 := (S1.out.get 2 rfl).cell 8 rfl
    have q9 := (S1.out.get 2 rfl).cell 9 rfl
    have zm := (S1.out.get 2 rfl).lt
    have HU : Hid (∀ b1 b2 b3, upB m.cu [d] = b1 → upB m.cu [q] = b2 → upB m.fa [s] = b3 → Dv.alIn m d q s = (b1 && b2 && b3)) := Lib.hid (fun b1 b2 b3 h1 h2 h3 => by unfold Dv.alIn; rw [show upB m.cu [d, q] = (upB m.cu [d] && upB m.cu [q]) by simp [upB], h1, h2, h3])
    cases u0 : upB m.cu [d]
    · have HE : Hid (Dv.alE m l d q s = 3) := Lib.hid (by unfold Dv.alE; rw [if_pos HL.out, HU.out _ _ _ u0 rfl rfl]; rfl)
      go_upto_region 4 with (go_at_call 80; (with_reducible refine (within_is d m.cu _ u0 _).mono ?_); rintro e w' ⟨rfl, rfl⟩)
      clear q8 q9 u0 zm
      have f0 := (S1.out.get 1 rfl).free 0
      have f1 := (S1.out.get 1 rfl).free 1
      have f2 := (S1.out.get 0 rfl).free 0
      have f3 := (S1.out.get 0 rfl).free 1
      have y0 := (S1.out.get 1 rfl).cell 0 rfl
      have y1 := (S1.out.get 1 rfl).cell 1 rfl
      have y2 := (S1.out.get 0 rfl).cell 0 rfl
      have y3 := (S1.out.get 0 rfl).cell 1 rfl
      have zy := (S1.out.get 0 rfl).lt
      go_wp2
      exact bodyPost_ret (v := .tuple #[.agg #[.int .i64 0, .int .i64 0], .agg #[.int .i64 0, .int .i64 0], .int .i64 3]) (by simp [results, Try.results58, go_sem, y0, y1, y2, y3]) rfl (AlP.no HE.out (by decide) rfl (below_put2 (below_put2 S1.out.1 (by omega) _ _) (by omega) _ _))
    · cases u1 : upB m.cu [q]
      · have HE : Hid (Dv.alE m l d q s = 3) := Lib.hid (by unfold Dv.alE; rw [if_pos HL.out, HU.out _ _ _ u0 u1 rfl]; rfl)
        go_upto_region 4 with (first | (go_at_call 80; (with_reducible refine (within_is d m.cu _ u0 _).mono ?_); rintro e w' ⟨rfl, rfl⟩) | (go_at_call 80; (with_reducible refine (within_is q m.cu _ u1 _).mono ?_); rintro e w' ⟨rfl, rfl⟩))
        clear q8 q9 u0 u1 zm
        have f0 := (S1.out.get 1 rfl).free 0
        have f1 := (S1.out.get 1 rfl).free 1
        have f2 := (S1.out.get 0 rfl).free 0
        have f3 := (S1.out.get 0 rfl).free 1
        have y0 := (S1.out.get 1 rfl).cell 0 rfl
        have y1 := (S1.out.get 1 rfl).cell 1 rfl
        have y2 := (S1.out.get 0 rfl).cell 0 rfl
        have y3 := (S1.out.get 0 rfl).cell 1 rfl
        have zy := (S1.out.get 0 rfl).lt
        go_wp2
        exact bodyPost_ret (v := .tuple #[.agg #[.int .i64 0, .int .i64 0], .agg #[.int .i64 0, .int .i64 0], .int .i64 3]) (by simp [results, Try.results58, go_sem, y0, y1, y2, y3]) rfl (AlP.no HE.out (by decide) rfl (below_put2 (below_put2 S1.out.1 (by omega) _ _) (by omega) _ _))
      · cases u2 : upB m.fa [s]
        · have HE : Hid (Dv.alE m l d q s = 3) := Lib.hid (by unfold Dv.alE; rw [if_pos HL.out, HU.out _ _ _ u0 u1 u2]; rfl)
          go_upto_region 4 with (first | (go_at_call 80; (with_reducible refine (within_is d m.cu _ u0 _).mono ?_); rintro e w' ⟨rfl, rfl⟩) | (go_at_call 80; (with_reducible refine (within_is q m.cu _ u1 _).mono ?_); rintro e w' ⟨rfl, rfl⟩) | (go_at_call 80; (with_reducible refine (within_is s m.fa _ u2 _).mono ?_); rintro e w' ⟨rfl, rfl⟩))
          clear q8 q9 u0 u1 u2 zm
          have f0 := (S1.out.get 1 rfl).free 0
          have f1 := (S1.out.get 1 rfl).free 1
          have f2 := (S1.out.get 0 rfl).free 0
          have f3 := (S1.out.get 0 rfl).free 1
          have y0 := (S1.out.get 1 rfl).cell 0 rfl
          have y1 := (S1.out.get 1 rfl).cell 1 rfl
          have y2 := (S1.out.get 0 rfl).cell 0 rfl
          have y3 := (S1.out.get 0 rfl).cell 1 rfl
          have zy := (S1.out.get 0 rfl).lt
          go_wp2
          exact bodyPost_ret (v := .tuple #[.agg #[.int .i64 0, .int .i64 0], .agg #[.int .i64 0, .int .i64 0], .int .i64 3]) (by simp [results, Try.results58, go_sem, y0, y1, y2, y3]) rfl (AlP.no HE.out (by decide) rfl (below_put2 (below_put2 S1.out.1 (by omega) _ _) (by omega) _ _))
        · have HIN : Hid (Dv.alIn m d q s = true) := Lib.hid (by rw [HU.out _ _ _ u0 u1 u2]; rfl)
          go_upto_region 5 with (first | (go_at_call 80; (with_reducible refine (within_is d m.cu _ u0 _).mono ?_); rintro e w' ⟨rfl, rfl⟩) | (go_at_call 80; (with_reducible refine (within_is q m.cu _ u1 _).mono ?_); rintro e w' ⟨rfl, rfl⟩) | (go_at_call 80; (with_reducible refine (within_is s m.fa _ u2 _).mono ?_); rintro e w' ⟨rfl, rfl⟩))
          obtain ⟨hd, hq, hs⟩ := alIn_bd HM.out (show upB m.cu [d, q] = true by rw [show upB m.cu [d, q] = (upB m.cu [d] && upB m.cu [q]) by simp [upB], u0, u1]; rfl) u2
          have KB := Lib.hid (fun (V : World) (hV : Below w.heap.size w V) => allowedR_c m A l d q s cap V (HX.out.below hV) HL.out hs hd hq)
          clear q8 q9 u0 u1 u2 hd hq hs
          obtain ⟨m0, m1, m2, m3, m4, m5, m6, m7, m8, m9⟩ := motOf (m := m) (S1.out.get 2 rfl)
          generalize hx1 : Dv.aLo m l d q s = x1 at KB
          generalize hx2 : Dv.aHi m l d q s = x2 at KB
          generalize hx3 : Dv.bLo m l d q s = x3 at KB
          generalize hx4 : Dv.bHi m l d q s = x4 at KB
          have X1 := Lib.hid hx1
          have X2 := Lib.hid hx2
          have X3 := Lib.hid hx3
          have X4 := Lib.hid hx4
          clear hx1 hx2 hx3 hx4
          go_wp2_with fail
          refine (KB.out _ S1.out.1).mono ?_
          rintro e w4 ⟨rfl, hb4⟩
          have S4 := Lib.hid (((S1.out.below hb4).alloc [.int .i64 x1, .int .i64 x2] 29).alloc [.int .i64 x3, .int .i64 x4] 29)
          clear hb4 S1 m0 m1 m2 m3 m4 m5 m6 m7 m8 m9 zm
          go_upto_region 6 with (fail)
          refine gen_world (fun W => St w [(w4.heap.size + 1, 29, [.int .i64 x3, .int .i64 x4]), (w4.heap.size, 29, [.int .i64 x1, .int .i64 x2]), (w.heap.size + 1 + 1, 29, [.int .i64 0, .int .i64 0]), (w.heap.size + 1, 29, [.int .i64 0, .int .i64 0]), (w.heap.size, 52, [.int .i64 m.r, .int .i64 m.ld, .int .i64 m.lq, .int .i64 m.fx, .int .i64 m.po, .int .i64 m.mi, .int .i64 m.sp, .int .i64 m.dr, .int .i64 m.cu, .int .i64 m.fa])] W) (by have := S4.out; simp at this; exact this) ?_
          clear S4
          generalize w4.heap.size = ga
          clear w4
          rintro w4 i4
          have S4 := Lib.hid i4
          clear i4
          have c0 := (S4.out.get 1 rfl).cell 0 rfl
          have c1 := (S4.out.get 1 rfl).cell 1 rfl
          have c2 := (S4.out.get 0 rfl).cell 0 rfl
          have c3 := (S4.out.get 0 rfl).cell 1 rfl
          have zc0 := (S4.out.get 0 rfl).lt
          have zc1 := (S4.out.get 1 rfl).lt
          have HOK : Hid (∀ b1 b2 : Bool, decide (x1 ≤ x2) = b1 → decide (x3 ≤ x4) = b2 → Dv.alOk m l d q s = (b1 && b2)) := Lib.hid (fun b1 b2 h1 h2 => by unfold Dv.alOk; rw [X1.out, X2.out, X3.out, X4.out, h1, h2])
          by_cases k1 : x1 ≤ x2
          · by_cases k2 : x3 ≤ x4
            · have HE : Hid (Dv.alE m l d q s = 0) := Lib.hid (by unfold Dv.alE; rw [if_pos HL.out, if_pos HIN.out, if_pos (by rw [HOK.out _ _ (decide_eq_true k1) (decide_eq_true k2)]; rfl)])
              have j1 : decide (x2 < x1) = false := decide_eq_false (by omega)
              have j2 : decide (x4 < x3) = false := decide_eq_false (by omega)
              go_upto_region 8 with (fail)
              have f0 := (S4.out.get 3 rfl).free 0
              have f1 := (S4.out.get 3 rfl).free 1
              have f2 := (S4.out.get 2 rfl).free 0
              have f3 := (S4.out.get 2 rfl).free 1
              have y0 := (S4.out.get 3 rfl).cell 0 rfl
              have y1 := (S4.out.get 3 rfl).cell 1 rfl
              have y2 := (S4.out.get 2 rfl).cell 0 rfl
              have y3 := (S4.out.get 2 rfl).cell 1 rfl
              have zy := (S4.out.get 2 rfl).lt
              have n_0_2 := S4.out.ne 0 2 rfl rfl (by decide)
              have n_2_0 := S4.out.ne 2 0 rfl rfl (by decide)
              have n_0_3 := S4.out.ne 0 3 rfl rfl (by decide)
              have n_3_0 := S4.out.ne 3 0 rfl rfl (by decide)
              have n_1_2 := S4.out.ne 1 2 rfl rfl (by decide)
              have n_2_1 := S4.out.ne 2 1 rfl rfl (by decide)
              have n_1_3 := S4.out.ne 1 3 rfl rfl (by decide)
              have n_3_1 := S4.out.ne 3 1 rfl rfl (by decide)
              have n_2_3 := S4.out.ne 2 3 rfl rfl (by decide)
              have n_3_2 := S4.out.ne 3 2 rfl rfl (by decide)
              go_region
              all_goals
                go_wp2
                exact bodyPost_ret (v := .tuple #[.agg #[.int .i64 x1, .int .i64 x2], .agg #[.int .i64 x3, .int .i64 x4], .int .i64 0]) (by simp [results, Try.results58, go_sem, y0, y1, y2, y3]) rfl (AlP.yes HE.out (by rw [X1.out, X2.out, X3.out, X4.out]) (below_put2 (below_put2 S4.out.1.drew (by omega) _ _) (by omega) _ _))
            · have HE : Hid (Dv.alE m l d q s = 17) := Lib.hid (by unfold Dv.alE; rw [if_pos HL.out, if_pos HIN.out, if_neg (by rw [HOK.out _ _ (decide_eq_true k1) (decide_eq_false k2)]; decide)])
              have j1 : decide (x2 < x1) = false := decide_eq_false (by omega)
              have j2 : decide (x4 < x3) = true := decide_eq_true (by omega)
              have f0 := (S4.out.get 3 rfl).free 0
              have f1 := (S4.out.get 3 rfl).free 1
              have f2 := (S4.out.get 2 rfl).free 0
              have f3 := (S4.out.get 2 rfl).free 1
              have y0 := (S4.out.get 3 rfl).cell 0 rfl
              have y1 := (S4.out.get 3 rfl).cell 1 rfl
              have y2 := (S4.out.get 2 rfl).cell 0 rfl
              have y3 := (S4.out.get 2 rfl).cell 1 rfl
              have zy := (S4.out.get 2 rfl).lt
              go_wp2
              exact bodyPost_ret (v := .tuple #[.agg #[.int .i64 0, .int .i64 0], .agg #[.int .i64 0, .int .i64 0], .int .i64 17]) (by simp [results, Try.results58, go_sem, y0, y1, y2, y3]) rfl (AlP.no HE.out (by decide) rfl (below_put2 (below_put2 S4.out.1 (by omega) _ _) (by omega) _ _))
          · have HE : Hid (Dv.alE m l d q s = 17) := Lib.hid (by unfold Dv.alE; rw [if_pos HL.out, if_pos HIN.out, if_neg (by rw [HOK.out _ _ (decide_eq_false k1) rfl]; simp)])
            have j1 : decide (x2 < x1) = true := decide_eq_true (by omega)
            have f0 := (S4.out.get 3 rfl).free 0
            have f1 := (S4.out.get 3 rfl).free 1
            have f2 := (S4.out.get 2 rfl).free 0
            have f3 := (S4.out.get 2 rfl).free 1
            have y0 := (S4.out.get 3 rfl).cell 0 rfl
            have y1 := (S4.out.get 3 rfl).cell 1 rfl
            have y2 := (S4.out.get 2 rfl).cell 0 rfl
            have y3 := (S4.out.get 2 rfl).cell 1 rfl
            have zy := (S4.out.get 2 rfl).lt
            go_wp2
            exact bodyPost_ret (v := .tuple #[.agg #[.int .i64 0, .int .i64 0], .agg #[.int .i64 0, .int .i64 0], .int .i64 17]) (by simp [results, Try.results58, go_sem, y0, y1, y2, y3]) rfl (AlP.no HE.out (by decide) rfl (below_put2 (below_put2 S4.out.1 (by omega) _ _) (by omega) _ _))
end Go.Proofs.Ytcneohhfnnelgaa
namespace Go.Proofs.Ytcneohhfnnelgaa
open Go.RowKit
set_option linter.unusedVariables false
namespace Dv
def mtLo (lo r : Int) : Int := max lo (-r)
def mtHi (hi r : Int) : Int := min hi r
end Dv
theorem maxTwo (x y : Int) (ts : Array TypeId) (t : TypeId) (w : World) : (Builtin.max_ ts t #[.int .i64 x, .int .i64 y]).run Try.prog w = .ok (.int .i64 (max x y)) w := by
  have h : (Builtin.max_ ts t #[.int .i64 x, .int .i64 y]).run Try.prog w = .ok (.int .i64 (if y > x then y else x)) w := by simp [Builtin.max_]; rfl
  rw [h, ← gmax_eq]
theorem minTwo (x y : Int) (ts : Array TypeId) (t : TypeId) (w : World) : (Builtin.min_ ts t #[.int .i64 x, .int .i64 y]).run Try.prog w = .ok (.int .i64 (min x y)) w := by
  have h : (Builtin.min_ ts t #[.int .i64 x, .int .i64 y]).run Try.prog w = .ok (.int .i64 (if y < x then y else x)) w := by simp [Builtin.min_]; rfl
  rw [h, ← gmin_eq]

theorem St.upd29 {w W : World} {l : List BlkRow} (h : St w l W) (i : Nat) {g : Nat} {t : TypeId} {cs : List Value} (hx : l[i]? = some (g, t, cs)) (hg : w.heap.size ≤ g) (vs : List Value) (hl : cs.length = vs.length) : St w (l.set i (g, t, vs)) (setAll W g 0 vs) := by
  have hil := (List.getElem?_eq_some_iff.1 hx).1
  refine ⟨setAll_below hg vs 0 _ h.1, ?_, ?_⟩
  · intro x hx'
    obtain ⟨j, hj⟩ := List.getElem?_of_mem hx'
    by_cases hij : i = j
    · subst hij
      rw [List.getElem?_set_self hil] at hj
      cases hj
      exact setAll_blk vs cs [] W (h.get i hx) hl
    · rw [List.getElem?_set_ne hij] at hj
      obtain ⟨gx, tx, cx⟩ := x
      exact setAll_ne (h.ne j i hj hx (fun e => hij e.symm)) vs 0 W (h.get j hj)
  · have : (l.set i (g, t, vs)).map Prod.fst = l.map Prod.fst := by
      rw [List.map_set]
      apply List.ext_getElem?
      intro k
      by_cases hik : i = k
      · subst hik
        rw [List.getElem?_set_self (by simpa using hil), List.getElem?_map, hx]
        rfl
      · rw [List.getElem?_set_ne hik]
    rw [this]
    exact h.2.2

set_option maxHeartbeats 2000000 in
theorem meet_c (lo hi r : Int) (w : World) (hr : 0 ≤ r ∧ r ≤ 1073741824) :
    Calls Try.prog 115 #[.agg #[.int .i64 lo, .int .i64 hi], .int .i64 r] w fun e w' => e = .returned (.tuple #[.agg #[.int .i64 (Dv.mtLo lo r), .int .i64 (Dv.mtHi hi r)], .bool (decide (Dv.mtLo lo r ≤ Dv.mtHi hi r))]) ∧ Below w.heap.size w w' := by
  have S0 := Lib.hid (show St w [(w.heap.size + 1, 29, [.int .i64 0, .int .i64 0]), (w.heap.size, 29, [.int .i64 lo, .int .i64 hi])] ((w.alloc (.cells #[.int .i64 lo, .int .i64 hi] 29)).alloc (.cells #[.int .i64 0, .int .i64 0] 29)) from by
    have := ((St.start w).alloc [.int .i64 lo, .int .i64 hi] 29).alloc [.int .i64 0, .int .i64 0] 29
    simp at this
    exact this)
  have hm1 := fun ts t W => maxTwo lo (-r) ts t W
  have hm2 := fun ts t W => minTwo hi r ts t W
  rw [show max lo (-r) = Dv.mtLo lo r from rfl] at hm1
  rw [show min hi r = Dv.mtHi hi r from rfl] at hm2
  generalize Dv.mtLo lo r = a at hm1 ⊢
  generalize Dv.mtHi hi r = b at hm2 ⊢
  go_enter Try.func115, Try.ntmps115
  go_upto_region 1 with (fail)
  refine gen_world (fun W => St w [(w.heap.size + 1, 29, [.int .i64 0, .int .i64 0]), (w.heap.size, 29, [.int .i64 lo, .int .i64 hi])] W) S0.out ?_
  clear S0
  rintro w1 i1
  have S1 := Lib.hid i1
  clear i1
  have c0 := (S1.out.get 1 rfl).cell 0 rfl
  have c1 := (S1.out.get 1 rfl).cell 1 rfl
  have f0 := (S1.out.get 1 rfl).free 0
  have f1 := (S1.out.get 1 rfl).free 1
  have z1 := (S1.out.get 1 rfl).lt
  have S2 := Lib.hid (St.upd29 S1.out 1 rfl (Nat.le_refl _) [.int .i64 a, .int .i64 b] rfl)
  go_upto_region 2 with (fail)
  refine gen_world (fun W => St w [(w.heap.size + 1, 29, [.int .i64 0, .int .i64 0]), (w.heap.size, 29, [.int .i64 a, .int .i64 b])] W) S2.out ?_
  clear S1 S2 c0 c1 f0 f1 z1 hm1 hm2 w1
  rintro w1 i1
  have S1 := Lib.hid i1
  clear i1
  have c0 := (S1.out.get 1 rfl).cell 0 rfl
  have c1 := (S1.out.get 1 rfl).cell 1 rfl
  have d0 := (S1.out.get 0 rfl).cell 0 rfl
  have d1 := (S1.out.get 0 rfl).cell 1 rfl
  have f0 := (S1.out.get 0 rfl).free 0
  have f1 := (S1.out.get 0 rfl).free 1
  have z0 := (S1.out.get 0 rfl).lt
  have z1 := (S1.out.get 1 rfl).lt
  go_region
  all_goals
    go_wp2
    exact bodyPost_ret (v := .tuple #[.agg #[.int .i64 a, .int .i64 b], .bool (decide (a ≤ b))]) (by simp [results, Try.results115, go_sem, d0, d1]) rfl ⟨rfl, below_put2 S1.out.1.drew (by omega) _ _⟩
set_option maxHeartbeats 2000000 in
theorem cut_c (lo hi r : Int) (w : World) (hr : 0 ≤ r ∧ r ≤ 1073741824) :
    Calls Try.prog 116 #[.agg #[.int .i64 lo, .int .i64 hi], .int .i64 r] w fun e w' => e = .returned (.tuple #[.agg #[.int .i64 (Dv.mtLo lo r), .int .i64 (Dv.mtHi hi r)], .bool (decide (Dv.mtLo lo r ≤ Dv.mtHi hi r))]) ∧ Below w.heap.size w w' := by
  have S0 := Lib.hid (show St w [(w.heap.size + 1, 29, [.int .i64 0, .int .i64 0]), (w.heap.size, 29, [.int .i64 lo, .int .i64 hi])] ((w.alloc (.cells #[.int .i64 lo, .int .i64 hi] 29)).alloc (.cells #[.int .i64 0, .int .i64 0] 29)) from by
    have := ((St.start w).alloc [.int .i64 lo, .int .i64 hi] 29).alloc [.int .i64 0, .int .i64 0] 29
    simp at this
    exact this)
  have hm1 := fun ts t W => maxTwo lo (-r) ts t W
  have hm2 := fun ts t W => minTwo hi r ts t W
  rw [show max lo (-r) = Dv.mtLo lo r from rfl] at hm1
  rw [show min hi r = Dv.mtHi hi r from rfl] at hm2
  generalize Dv.mtLo lo r = a at hm1 ⊢
  generalize Dv.mtHi hi r = b at hm2 ⊢
  go_enter Try.func116, Try.ntmps116
  go_upto_region 1 with (fail)
  refine gen_world (fun W => St w [(w.heap.size + 1, 29, [.int .i64 0, .int .i64 0]), (w.heap.size, 29, [.int .i64 lo, .int .i64 hi])] W) S0.out ?_
  clear S0
  rintro w1 i1
  have S1 := Lib.hid i1
  clear i1
  have c0 := (S1.out.get 1 rfl).cell 0 rfl
  have c1 := (S1.out.get 1 rfl).cell 1 rfl
  have z1 := (S1.out.get 1 rfl).lt
  have S2 := Lib.hid (S1.out.alloc [.int .i64 a, .int .i64 b] 29)
  go_upto_region 2 with (fail)
  refine gen_world (fun W => St w [(w1.heap.size, 29, [.int .i64 a, .int .i64 b]), (w.heap.size + 1, 29, [.int .i64 0, .int .i64 0]), (w.heap.size, 29, [.int .i64 lo, .int .i64 hi])] W) S2.out ?_
  clear S1 S2 c0 c1 z1 hm1 hm2
  generalize w1.heap.size = gc
  clear w1
  rintro w1 i1
  have S1 := Lib.hid i1
  clear i1
  have c0 := (S1.out.get 0 rfl).cell 0 rfl
  have c1 := (S1.out.get 0 rfl).cell 1 rfl
  have d0 := (S1.out.get 1 rfl).cell 0 rfl
  have d1 := (S1.out.get 1 rfl).cell 1 rfl
  have f0 := (S1.out.get 1 rfl).free 0
  have f1 := (S1.out.get 1 rfl).free 1
  have z0 := (S1.out.get 0 rfl).lt
  have z1 := (S1.out.get 1 rfl).lt
  have n1 := S1.out.ne 0 1 rfl rfl (by decide)
  have n2 := S1.out.ne 1 0 rfl rfl (by decide)
  go_region
  all_goals
    go_wp2
    exact bodyPost_ret (v := .tuple #[.agg #[.int .i64 a, .int .i64 b], .bool (decide (a ≤ b))]) (by simp [results, Try.results116, go_sem, d0, d1]) rfl ⟨rfl, below_put2 S1.out.1.drew (by omega) _ _⟩
end Go.Proofs.Ytcneohhfnnelgaa
namespace Go.Proofs.Ytcneohhfnnelgaa
open Go.RowKit
set_option linter.unusedVariables false
/-- an order -/
structure Od where
  d : Int
  q : Int
  ld : Int
  deriving Inhabited
/-- what a play rests on: the motor, the real one, the tolerances, the two tunings, the bus -/
structure Pl where
  m : Mot
  rl : Mot
  tol : List Sp
  p0 : Int
  i0 : Int
  p1 : Int
  i1 : Int
  u : Int
namespace Dv
/-- offsets within the first tolerances -/
def ofB : List Int → List Sp → Bool
  | [], _ => true
  | x :: xs, t :: ts => inB x t.lo t.hi && ofB xs ts
  | _ :: _, [] => false
/-- an order and the error of its step are possible -/
def odB (t : Sp) (o : Od) (e : Int) : Bool := inB e t.lo t.hi && (upB 1048576 [o.d, o.q] && upB 68719476736 [o.ld])
def odsB (t : Sp) : List Od → List Int → Bool
  | [], _ => true
  | o :: os, e :: es => odB t o e && odsB t os es
  | _ :: _, [] => false
/-- the measured speed -/
def plW (s : Rot) (e : Int) : Int := s.w / 1000 - e
def plA1 (P : Pl) (s : Rot) (e : Int) : Int := mtLo (aLo P.m P.tol s.d s.q (plW s e)) (roomV P.u)
def plA2 (P : Pl) (s : Rot) (e : Int) : Int := mtHi (aHi P.m P.tol s.d s.q (plW s e)) (roomV P.u)
def plB1 (P : Pl) (s : Rot) (e : Int) : Int := mtLo (bLo P.m P.tol s.d s.q (plW s e)) (roomV P.u)
def plB2 (P : Pl) (s : Rot) (e : Int) : Int := mtHi (bHi P.m P.tol s.d s.q (plW s e)) (roomV P.u)
/-- the voltages of a round and the sums behind it -/
def plVd (P : Pl) (s : Rot) (sd : Int) (o : Od) (e : Int) : Int := clip (raw P.p0 sd (o.d - s.d)) (plA1 P s e) (plA2 P s e)
def plVq (P : Pl) (s : Rot) (sq : Int) (o : Od) (e : Int) : Int := clip (raw P.p1 sq (o.q - s.q)) (plB1 P s e) (plB2 P s e)
def plSd (P : Pl) (s : Rot) (sd : Int) (o : Od) (e : Int) : Int := regS P.i0 sd (o.d - s.d) (regC (raw P.p0 sd (o.d - s.d)) (o.d - s.d) (plA1 P s e) (plA2 P s e))
def plSq (P : Pl) (s : Rot) (sq : Int) (o : Od) (e : Int) : Int := regS P.i1 sq (o.q - s.q) (regC (raw P.p1 sq (o.q - s.q)) (o.q - s.q) (plB1 P s e) (plB2 P s e))
/-- the step of a round -/
def plR (P : Pl) (s : Rot) (sd sq : Int) (o : Od) (e : Int) : Rot × Int := stR P.rl s (plVd P s sd o e) (plVq P s sq o e) o.ld
/-- a round is refused: the code, or 0 -/
def plE (P : Pl) (s : Rot) (sd sq : Int) (o : Od) (e : Int) : Int :=
  if upB P.m.fa [plW s e] = true then (if (decide (plA1 P s e ≤ plA2 P s e) && decide (plB1 P s e ≤ plB2 P s e)) = true then (plR P s sd sq o e).2 else 17) else 17
/-- a state of a play: the rotor, and the two sums -/
structure PS where
  s : Rot
  sd : Int
  sq : Int
def plN (P : Pl) (x : PS) (o : Od) (e : Int) : PS := ⟨(plR P x.s x.sd x.sq o e).1, plSd P x.s x.sd o e, plSq P x.s x.sq o e⟩
/-- the state behind n rounds -/
def plAt (P : Pl) (os : List Od) (es : List Int) (x : PS) : Nat → PS
  | 0 => x
  | n + 1 => plN P (plAt P os es x n) (os.getD n default) (es.getD n 0)
/-- round n goes on -/
def plK (P : Pl) (os : List Od) (es : List Int) (x : PS) (n : Nat) : Int := plE P (plAt P os es x n).s (plAt P os es x n).sd (plAt P os es x n).sq (os.getD n default) (es.getD n 0)
/-- the states behind the first n rounds -/
def plOut (P : Pl) (os : List Od) (es : List Int) (x : PS) (n : Nat) : List Rot := (List.range n).map fun i => (plAt P os es x (i + 1)).s
theorem plOut_succ (P : Pl) (os : List Od) (es : List Int) (x : PS) (n : Nat) : plOut P os es x (n + 1) = plOut P os es x n ++ [(plAt P os es x (n + 1)).s] := by
  simp [plOut, List.range_succ]
theorem plOut_len (P : Pl) (os : List Od) (es : List Int) (x : PS) (n : Nat) : (plOut P os es x n).length = n := by simp [plOut]
theorem clip_in {x lo hi : Int} (h : lo ≤ hi) : lo ≤ clip x lo hi ∧ clip x lo hi ≤ hi := by simp only [clip]; omega
theorem plSd_bd (P : Pl) (s : Rot) (sd : Int) (o : Od) (e : Int) : -1073741824 ≤ plSd P s sd o e ∧ plSd P s sd o e ≤ 1073741824 := by
  unfold plSd regS
  exact clip_in (by decide)
theorem plSq_bd (P : Pl) (s : Rot) (sq : Int) (o : Od) (e : Int) : -1073741824 ≤ plSq P s sq o e ∧ plSq P s sq o e ≤ 1073741824 := by
  unfold plSq regS
  exact clip_in (by decide)
/-- a state of a play lies within the model -/
def PSk (x : PS) : Prop := rotB x.s = true ∧ (-1073741824 ≤ x.sd ∧ x.sd ≤ 1073741824) ∧ (-1073741824 ≤ x.sq ∧ x.sq ≤ 1073741824)
theorem stR_rot {m : Mot} {s : Rot} {vd vq ld : Int} (h : (stR m s vd vq ld).2 = 0) : rotB (stR m s vd vq ld).1 = true := by
  unfold stR at h ⊢
  by_cases h1 : chkB m = true
  · by_cases h2 : stB s vd vq ld = true
    · by_cases h3 : upB 68719476736 [tq m s.d s.q] = true ∧ rotB (stN m s vd vq ld) = true
      · simp [h1, h2, h3]
      · simp [h1, h2, h3] at h
    · simp [h1, h2] at h
  · simp [h1] at h
theorem plE_parts {P : Pl} {s : Rot} {sd sq : Int} {o : Od} {e : Int} (h : plE P s sd sq o e = 0) :
    upB P.m.fa [plW s e] = true ∧ plA1 P s e ≤ plA2 P s e ∧ plB1 P s e ≤ plB2 P s e ∧ (plR P s sd sq o e).2 = 0 := by
  unfold plE at h
  by_cases h1 : upB P.m.fa [plW s e] = true
  · by_cases h2 : (decide (plA1 P s e ≤ plA2 P s e) && decide (plB1 P s e ≤ plB2 P s e)) = true
    · rw [if_pos h1, if_pos h2] at h
      simp only [Bool.and_eq_true, decide_eq_true_eq] at h2
      exact ⟨h1, h2.1, h2.2, h⟩
    · rw [if_pos h1, if_neg h2] at h; cases h
  · rw [if_neg h1] at h; cases h
theorem PSk.next {P : Pl} {x : PS} {o : Od} {e : Int} (h : plE P x.s x.sd x.sq o e = 0) : PSk (plN P x o e) :=
  ⟨stR_rot (plE_parts h).2.2.2, plSd_bd .., plSq_bd ..⟩
/-- the code behind n rounds: that of the first round that is refused -/
def plC (P : Pl) (os : List Od) (es : List Int) (x : PS) : Nat → Int
  | 0 => 0
  | n + 1 => if plC P os es x n = 0 then plK P os es x n else plC P os es x n
theorem plC_stop {P : Pl} {os : List Od} {es : List Int} {x : PS} {n : Nat} (h : plC P os es x n ≠ 0) (k : Nat) : plC P os es x (n + k) = plC P os es x n := by
  induction k with
  | zero => rfl
  | succ k ih => rw [← Nat.add_assoc, plC, ih, if_neg h]
theorem plC_go {P : Pl} {os : List Od} {es : List Int} {x : PS} {n : Nat} (h : plC P os es x n = 0) (h' : plK P os es x n = 0) : plC P os es x (n + 1) = 0 := by rw [plC, if_pos h, h']
/-- a round that is refused gives the code of the play -/
theorem plC_at {P : Pl} {os : List Od} {es : List Int} {x : PS} {n N : Nat} (h : plC P os es x n = 0) (h' : plK P os es x n ≠ 0) (hn : n < N) : plC P os es x N = plK P os es x n := by
  have h1 : plC P os es x (n + 1) = plK P os es x n := by rw [plC, if_pos h]
  have h2 := plC_stop (k := N - (n + 1)) (by rw [h1]; exact h' : plC P os es x (n + 1) ≠ 0)
  rw [show n + 1 + (N - (n + 1)) = N by omega, h1] at h2
  exact h2
/-- while no round is refused, the state lies within the model -/
theorem plAt_ok {P : Pl} {os : List Od} {es : List Int} {x : PS} (hx : PSk x) : ∀ n, plC P os es x n = 0 → PSk (plAt P os es x n)
  | 0, _ => hx
  | n + 1, h => by
    by_cases h0 : plC P os es x n = 0
    · rw [plC, if_pos h0] at h
      exact PSk.next h
    · rw [plC, if_neg h0] at h; exact absurd h h0
/-- the head of a play: what refuses it ahead of the rounds -/
def plH (m : Mot) (xs : List Int) (tol : List Sp) (p0 i0 p1 i1 u : Int) (s : Rot) (os : List Od) (es : List Int) : Int :=
  if lmE m tol ≠ 0 then lmE m tol else
  if (apR m xs).2 ≠ 0 then (apR m xs).2 else
  if ofB xs tol = false then 3 else
  if (tunB p0 i0 && tunB p1 i1) = false then 2 else
  if busB u = false then 3 else
  if 2000 < os.length then 6 else
  if es.length ≠ os.length then 20 else
  if odsB (lmS tol) os es = false then 3 else
  if (rotB s && upB m.cu [s.d, s.q]) = false then 3 else 0
def plP (m : Mot) (xs : List Int) (tol : List Sp) (p0 i0 p1 i1 u : Int) : Pl := ⟨m, (apR m xs).1, tol, p0, i0, p1, i1, u⟩
/-- a play: its code, and its states -/
def plErr (m : Mot) (xs : List Int) (tol : List Sp) (p0 i0 p1 i1 u : Int) (s : Rot) (os : List Od) (es : List Int) : Int :=
  if plH m xs tol p0 i0 p1 i1 u s os es = 0 then plC (plP m xs tol p0 i0 p1 i1 u) os es ⟨s, 0, 0⟩ os.length else plH m xs tol p0 i0 p1 i1 u s os es
def plVal (m : Mot) (xs : List Int) (tol : List Sp) (p0 i0 p1 i1 u : Int) (s : Rot) (os : List Od) (es : List Int) : List Rot :=
  if plErr m xs tol p0 i0 p1 i1 u s os es = 0 then plOut (plP m xs tol p0 i0 p1 i1 u) os es ⟨s, 0, 0⟩ os.length else []
/-- the bounds of a round -/
theorem pl_bd {m : Mot} {tol : List Sp} (hE : lmE m tol = 0) {s : Rot} (hs : rotB s = true) {o : Od} {e : Int} (ho : odB (lmS tol) o e = true) :
    (-16384 ≤ s.w / 1000 ∧ s.w / 1000 ≤ 16384) ∧ (-16384 ≤ e ∧ e ≤ 16384) ∧ (-2097152 ≤ o.d - s.d ∧ o.d - s.d ≤ 2097152) ∧ (-2097152 ≤ o.q - s.q ∧ o.q - s.q ≤ 2097152) ∧ (-68719476736 ≤ o.ld ∧ o.ld ≤ 68719476736) ∧
    (-1048576 ≤ s.d ∧ s.d ≤ 1048576) ∧ (-1048576 ≤ s.q ∧ s.q ≤ 1048576) := by
  obtain ⟨_, _, _, _, hsl, hsh, _⟩ := lm_parts hE
  obtain ⟨h1, h2, h3, _⟩ := rotB_iff.1 hs
  unfold odB at ho
  rw [Bool.and_eq_true, Bool.and_eq_true, upB2, upB1] at ho
  obtain ⟨a, ⟨b1, b2⟩, c⟩ := ho
  simp only [inB, decide_eq_true_eq] at a
  omega
theorem plW_bd {m : Mot} (hm : chk m) {s : Rot} {e : Int} (h : upB m.fa [plW s e] = true) : -16384 ≤ plW s e ∧ plW s e ≤ 16384 := by
  have := upB1.1 h
  have := hm.2.2.2.2.2.2.2.2.2
  omega
theorem odsB_at {t : Sp} : ∀ {os : List Od} {es : List Int} (h : odsB t os es = true) (n : Nat), n < os.length → odB t (os.getD n default) (es.getD n 0) = true
  | [], _, _, n, hn => absurd hn (by simp)
  | o :: os, [], h, n, hn => by simp [odsB] at h
  | o :: os, e :: es, h, 0, _ => by
    simp only [odsB, Bool.and_eq_true] at h
    exact h.1
  | o :: os, e :: es, h, n + 1, hn => by
    simp only [odsB, Bool.and_eq_true] at h
    have := odsB_at h.2 n (by simpa using hn)
    simpa using this
end Dv
/-- a slice's orders -/
def OdAt (w : World) (A : Option Addr) (l : List Od) : Prop :=
  ∀ i, i < l.length → ∃ ad, A = some ad ∧ ad.block < w.heap.size ∧ w.cell? (ad.add (i * 3)) = some (.int .i64 (l.getD i default).d) ∧ w.cell? ⟨(ad.add (i * 3)).block, (ad.add (i * 3)).off + 1, none⟩ = some (.int .i64 (l.getD i default).q) ∧ w.cell? ⟨(ad.add (i * 3)).block, (ad.add (i * 3)).off + 2, none⟩ = some (.int .i64 (l.getD i default).ld)
theorem OdAt.below {w w1 : World} {A : Option Addr} {l : List Od} (h : OdAt w A l) (hb : Below w.heap.size w w1) : OdAt w1 A l := by
  intro i hi
  obtain ⟨ad, e, hlt, c0, c1, c2⟩ := h i hi
  have hbl : (ad.add (i * 3)).block < w.heap.size := by rw [block_add]; exact hlt
  exact ⟨ad, e, Nat.lt_of_lt_of_le hlt hb.size, (hb.cell hbl).trans c0, (hb.cell (p := ⟨_, _, none⟩) hbl).trans c1, (hb.cell (p := ⟨_, _, none⟩) hbl).trans c2⟩
theorem orders_of {w : World} {v : Value} (h : v = .slice none 0 0 ∨ ∃ a len cap, v = .slice (some a) len cap ∧ len ≤ cap ∧ cap ≤ maxLen ∧
      ∀ i, i < len → ∃ cs, cs.length = 3 ∧ (∀ j u, cs[j]? = some u → w.cell? ((a.add (i * 3)).add j) = some u) ∧ Rd w (.i .i64 (.i .i64 (.i .i64 .nil))) cs) :
    ∃ (A : Option Addr) (l : List Od) (cap : Nat), v = .slice A l.length cap ∧ l.length ≤ cap ∧ cap ≤ 9223372036854775807 ∧ OdAt w A l := by
  rcases h with rfl | ⟨a, len, cap, rfl, hl, hm, hi⟩
  · exact ⟨none, [], 0, rfl, Nat.le_refl _, by omega, fun i hi => by simp at hi⟩
  · obtain ⟨bs, hbl, hbs⟩ := choose_list (α := Od) (n := len) (Q := fun i x => w.cell? ((a.add (i * 3)).add 0) = some (.int .i64 x.d) ∧ w.cell? ((a.add (i * 3)).add 1) = some (.int .i64 x.q) ∧ w.cell? ((a.add (i * 3)).add 2) = some (.int .i64 x.ld)) (fun i hil => by
      obtain ⟨cs, _, hc, n0, _, rfl, _, n1, _, rfl, _, n2, _, rfl, _, rfl⟩ := hi i hil
      exact ⟨⟨n0, n1, n2⟩, hc 0 _ rfl, hc 1 _ rfl, hc 2 _ rfl⟩)
    refine ⟨some a, bs, cap, by rw [hbl], by omega, by unfold maxLen at hm; omega, fun i hi => ?_⟩
    have hg : bs[i]? = some (bs.getD i default) := by rw [List.getD_eq_getElem?_getD, List.getElem?_eq_getElem hi]; rfl
    obtain ⟨h0, h1, h2⟩ := hbs i _ hg
    rw [add_zero'] at h0
    have hb := World.block_lt_of_cell? _ _ h0
    rw [block_add] at hb
    exact ⟨a, rfl, hb, h0, h1, h2⟩
end Go.Proofs.Ytcneohhfnnelgaa
namespace Go.Proofs.Ytcneohhfnnelgaa
open Go.RowKit
set_option linter.unusedVariables false
/-- a case of the laws of plays, in memory -/
def caC (m : Mot) (A : Option Addr) (n c : Nat) (B : Option Addr) (n' c' : Nat) (p0 i0 p1 i1 u : Int) (s : Rot) (D : Option Addr) (k e : Nat) (F : Option Addr) (k' e' : Nat) : Array Value :=
  #[.int .i64 m.r, .int .i64 m.ld, .int .i64 m.lq, .int .i64 m.fx, .int .i64 m.po, .int .i64 m.mi, .int .i64 m.sp, .int .i64 m.dr, .int .i64 m.cu, .int .i64 m.fa, .slice A n c, .slice B n' c', .int .i64 p0, .int .i64 i0, .int .i64 p1, .int .i64 i1, .int .i64 u, .int .i64 s.d, .int .i64 s.q, .int .i64 s.w, .int .i64 s.a, .slice D k e, .slice F k' e']
namespace Dv
def longB (n n' k k' : Nat) : Bool := decide (20 < n) || (decide (20 < n') || (decide (100 < k) || decide (100 < k')))
end Dv
set_option maxHeartbeats 2000000 in
theorem long_c (m : Mot) (A : Option Addr) (n c : Nat) (B : Option Addr) (n' c' : Nat) (p0 i0 p1 i1 u : Int) (s : Rot) (D : Option Addr) (k e : Nat) (F : Option Addr) (k' e' : Nat) (w : World) :
    Calls Try.prog 64 #[.agg (caC m A n c B n' c' p0 i0 p1 i1 u s D k e F k' e')] w fun en w' => en = .returned (.bool (Dv.longB n n' k k')) ∧ Below w.heap.size w w' := by
  unfold caC
  by_cases h1 : 20 < n
  · have E := Lib.hid (show Dv.longB n n' k k' = true by simp [Dv.longB, h1])
    have g1 : (20 : Int) < (n : Int) := by omega
    go_enter Try.func64, Try.ntmps64
    go_wp2
    go_ret
    exact ⟨ret_bool E.out.symm, (Below.refl _ _).alloc (Nat.le_refl _) _⟩
  · by_cases h2 : 20 < n'
    · have E := Lib.hid (show Dv.longB n n' k k' = true by simp [Dv.longB, h2])
      have g1 : ¬ (20 : Int) < (n : Int) := by omega
      have g2 : (20 : Int) < (n' : Int) := by omega
      go_enter Try.func64, Try.ntmps64
      go_wp2
      go_ret
      exact ⟨ret_bool E.out.symm, (Below.refl _ _).alloc (Nat.le_refl _) _⟩
    · by_cases h3 : 100 < k
      · have E := Lib.hid (show Dv.longB n n' k k' = true by simp [Dv.longB, h3])
        have g1 : ¬ (20 : Int) < (n : Int) := by omega
        have g2 : ¬ (20 : Int) < (n' : Int) := by omega
        have g3 : (100 : Int) < (k : Int) := by omega
        go_enter Try.func64, Try.ntmps64
        go_wp2
        go_ret
        exact ⟨ret_bool E.out.symm, (Below.refl _ _).alloc (Nat.le_refl _) _⟩
      · by_cases h4 : 100 < k'
        · have E := Lib.hid (show Dv.longB n n' k k' = true by simp [Dv.longB, h4])
          have g1 : ¬ (20 : Int) < (n : Int) := by omega
          have g2 : ¬ (20 : Int) < (n' : Int) := by omega
          have g3 : ¬ (100 : Int) < (k : Int) := by omega
          have g4 : (100 : Int) < (k' : Int) := by omega
          go_enter Try.func64, Try.ntmps64
          go_wp2
          go_ret
          exact ⟨ret_bool E.out.symm, (Below.refl _ _).alloc (Nat.le_refl _) _⟩
        · have E := Lib.hid (show Dv.longB n n' k k' = false by simp [Dv.longB, h1, h2, h3, h4])
          have g1 : ¬ (20 : Int) < (n : Int) := by omega
          have g2 : ¬ (20 : Int) < (n' : Int) := by omega
          have g3 : ¬ (100 : Int) < (k : Int) := by omega
          have g4 : ¬ (100 : Int) < (k' : Int) := by omega
          go_enter Try.func64, Try.ntmps64
          go_wp2
          go_ret
          exact ⟨ret_bool E.out.symm, (Below.refl _ _).alloc (Nat.le_refl _) _⟩
end Go.Proofs.Ytcneohhfnnelgaa
namespace Go.Proofs.Ytcneohhfnnelgaa
open Go.RowKit
set_option linter.unusedVariables false
/-- a slice's states -/
def RoAt (w : World) (A : Option Addr) (l : List Rot) : Prop :=
  ∀ i, i < l.length → ∃ ad, A = some ad ∧ ad.block < w.heap.size ∧ w.cell? (ad.add (i * 4)) = some (.int .i64 (l.getD i ⟨0, 0, 0, 0⟩).d) ∧ w.cell? ⟨(ad.add (i * 4)).block, (ad.add (i * 4)).off + 1, none⟩ = some (.int .i64 (l.getD i ⟨0, 0, 0, 0⟩).q) ∧ w.cell? ⟨(ad.add (i * 4)).block, (ad.add (i * 4)).off + 2, none⟩ = some (.int .i64 (l.getD i ⟨0, 0, 0, 0⟩).w) ∧ w.cell? ⟨(ad.add (i * 4)).block, (ad.add (i * 4)).off + 3, none⟩ = some (.int .i64 (l.getD i ⟨0, 0, 0, 0⟩).a)
theorem RoAt.below {w w1 : World} {A : Option Addr} {l : List Rot} (h : RoAt w A l) (hb : Below w.heap.size w w1) : RoAt w1 A l := by
  intro i hi
  obtain ⟨ad, e, hlt, c0, c1, c2, c3⟩ := h i hi
  have hbl : (ad.add (i * 4)).block < w.heap.size := by rw [block_add]; exact hlt
  exact ⟨ad, e, Nat.lt_of_lt_of_le hlt hb.size, (hb.cell hbl).trans c0, (hb.cell (p := ⟨_, _, none⟩) hbl).trans c1, (hb.cell (p := ⟨_, _, none⟩) hbl).trans c2, (hb.cell (p := ⟨_, _, none⟩) hbl).trans c3⟩
/-- what a play leaves -/
def PlP (E : Int) (l : List Rot) (w : World) (e : Ending) (w' : World) : Prop :=
  Below w.heap.size w w' ∧ ∃ A cap, e = .returned (.tuple #[.slice A l.length cap, .int .i64 E]) ∧ RoAt w' A l
theorem PlP.no {E : Int} {w w' : World} {e : Ending} (he : e = .returned (.tuple #[.slice none 0 0, .int .i64 E])) (hb : Below w.heap.size w w') : PlP E [] w e w' :=
  ⟨hb, none, 0, he, fun i hi => by simp at hi⟩
set_option maxHeartbeats 4000000 in
set_option maxRecDepth 100000 in
theorem PlayR_no1 (m : Mot) (X : Option Addr) (n c : Nat) (A : Option Addr) (l : List Sp) (cap : Nat) (p0 i0 p1 i1 u : Int) (s : Rot) (D : Option Addr) (k ck : Nat) (F : Option Addr) (k' ck' : Nat) (w : World) (hx : SpAt w A l) (hne : Dv.lmE m l ≠ 0) :
    Calls Try.prog 66 #[.agg #[.int .i64 m.r, .int .i64 m.ld, .int .i64 m.lq, .int .i64 m.fx, .int .i64 m.po, .int .i64 m.mi, .int .i64 m.sp, .int .i64 m.dr, .int .i64 m.cu, .int .i64 m.fa], .slice X n c, .slice A l.length cap, .agg #[.int .i64 p0, .int .i64 i0, .int .i64 p1, .int .i64 i1], .int .i64 u, .agg #[.int .i64 s.d, .int .i64 s.q, .int .i64 s.w, .int .i64 s.a], .slice D k ck, .slice F k' ck'] w (PlP (Dv.lmE m l) [] w) := by
  have HX := Lib.hid hx
  clear hx
  have hbt : (Dv.lmE m l != 0) = true := by simpa using hne
  have KP := Lib.hid (fun (V : World) (hV : Below w.heap.size w V) => possible_c m A l cap V (HX.out.below hV))
  clear hne
  generalize Dv.lmE m l = E at hbt KP ⊢
  have S0 := Lib.hid (show St w [(w.heap.size + 1 + 1, 57, [.int .i64 s.d, .int .i64 s.q, .int .i64 s.w, .int .i64 s.a]), (w.heap.size + 1, 78, [.int .i64 p0, .int .i64 i0, .int .i64 p1, .int .i64 i1]), (w.heap.size, 52, [.int .i64 m.r, .int .i64 m.ld, .int .i64 m.lq, .int .i64 m.fx, .int .i64 m.po, .int .i64 m.mi, .int .i64 m.sp, .int .i64 m.dr, .int .i64 m.cu, .int .i64 m.fa])] (((w.alloc (.cells #[.int .i64 m.r, .int .i64 m.ld, .int .i64 m.lq, .int .i64 m.fx, .int .i64 m.po, .int .i64 m.mi, .int .i64 m.sp, .int .i64 m.dr, .int .i64 m.cu, .int .i64 m.fa] 52)).alloc (.cells #[.int .i64 p0, .int .i64 i0, .int .i64 p1, .int .i64 i1] 78)).alloc (.cells #[.int .i64 s.d, .int .i64 s.q, .int .i64 s.w, .int .i64 s.a] 57)) from by
    have := (((St.start w).alloc [.int .i64 m.r, .int .i64 m.ld, .int .i64 m.lq, .int .i64 m.fx, .int .i64 m.po, .int .i64 m.mi, .int .i64 m.sp, .int .i64 m.dr, .int .i64 m.cu, .int .i64 m.fa] 52).alloc [.int .i64 p0, .int .i64 i0, .int .i64 p1, .int .i64 i1] 78).alloc [.int .i64 s.d, .int .i64 s.q, .int .i64 s.w, .int .i64 s.a] 57
    simp at this
    exact this)
  go_enter Try.func66, Try.ntmps66
  go_wp2_with fail
  refine (KP.out _ S0.out.1).mono ?_
  rintro e w1 ⟨rfl, hb1⟩
  have S1 := Lib.hid (S0.out.below hb1)
  clear hb1 S0
  obtain ⟨m0, m1, m2, m3, m4, m5, m6, m7, m8, m9⟩ := motOf (m := m) (S1.out.get 2 rfl)
  have zm := (S1.out.get 2 rfl).lt
  go_wp2_with fail
  refine (KP.out _ S1.out.1).mono ?_
  rintro e w2 ⟨rfl, hb2⟩
  have S2 := Lib.hid (S1.out.below hb2)
  clear hb2 S1 m0 m1 m2 m3 m4 m5 m6 m7 m8 m9 zm
  go_wp2
  go_ret2
  exact PlP.no rfl S2.out.1
end Go.Proofs.Ytcneohhfnnelgaa
namespace Go.Proofs.Ytcneohhfnnelgaa
open Go.RowKit
set_option linter.unusedVariables false
set_option maxHeartbeats 4000000 in
set_option maxRecDepth 100000 in
theorem PlayR_no2 (m : Mot) (X : Option Addr) (xs : List Int) (c : Nat) (A : Option Addr) (l : List Sp) (cap : Nat) (p0 i0 p1 i1 u : Int) (s : Rot) (D : Option Addr) (k ck : Nat) (F : Option Addr) (k' ck' : Nat) (w : World) (hx : SpAt w A l) (hxs : IntsAt w X xs) (hll : xs.length ≤ 4611686018427387904) (h0 : Dv.lmE m l = 0) (hne : (Dv.apR m xs).2 ≠ 0) :
    Calls Try.prog 66 #[.agg #[.int .i64 m.r, .int .i64 m.ld, .int .i64 m.lq, .int .i64 m.fx, .int .i64 m.po, .int .i64 m.mi, .int .i64 m.sp, .int .i64 m.dr, .int .i64 m.cu, .int .i64 m.fa], .slice X xs.length c, .slice A l.length cap, .agg #[.int .i64 p0, .int .i64 i0, .int .i64 p1, .int .i64 i1], .int .i64 u, .agg #[.int .i64 s.d, .int .i64 s.q, .int .i64 s.w, .int .i64 s.a], .slice D k ck, .slice F k' ck'] w (PlP (Dv.apR m xs).2 [] w) := by
  have HX := Lib.hid hx
  have HY := Lib.hid hxs
  have HLL := Lib.hid hll
  clear hx hxs hll
  have hbt : ((Dv.apR m xs).2 != 0) = true := by simpa using hne
  have KP := Lib.hid (fun (V : World) (hV : Below w.heap.size w V) => possible_c m A l cap V (HX.out.below hV))
  have KA := Lib.hid (fun (V : World) (hV : Below w.heap.size w V) => ApplyR_c m X xs c V (HY.out.below hV) HLL.out)
  rw [h0] at KP
  clear hne h0
  generalize Dv.apR m xs = R at hbt KA ⊢
  have S0 := Lib.hid (show St w [(w.heap.size + 1 + 1, 57, [.int .i64 s.d, .int .i64 s.q, .int .i64 s.w, .int .i64 s.a]), (w.heap.size + 1, 78, [.int .i64 p0, .int .i64 i0, .int .i64 p1, .int .i64 i1]), (w.heap.size, 52, [.int .i64 m.r, .int .i64 m.ld, .int .i64 m.lq, .int .i64 m.fx, .int .i64 m.po, .int .i64 m.mi, .int .i64 m.sp, .int .i64 m.dr, .int .i64 m.cu, .int .i64 m.fa])] (((w.alloc (.cells #[.int .i64 m.r, .int .i64 m.ld, .int .i64 m.lq, .int .i64 m.fx, .int .i64 m.po, .int .i64 m.mi, .int .i64 m.sp, .int .i64 m.dr, .int .i64 m.cu, .int .i64 m.fa] 52)).alloc (.cells #[.int .i64 p0, .int .i64 i0, .int .i64 p1, .int .i64 i1] 78)).alloc (.cells #[.int .i64 s.d, .int .i64 s.q, .int .i64 s.w, .int .i64 s.a] 57)) from by
    have := (((St.start w).alloc [.int .i64 m.r, .int .i64 m.ld, .int .i64 m.lq, .int .i64 m.fx, .int .i64 m.po, .int .i64 m.mi, .int .i64 m.sp, .int .i64 m.dr, .int .i64 m.cu, .int .i64 m.fa] 52).alloc [.int .i64 p0, .int .i64 i0, .int .i64 p1, .int .i64 i1] 78).alloc [.int .i64 s.d, .int .i64 s.q, .int .i64 s.w, .int .i64 s.a] 57
    simp at this
    exact this)
  go_enter Try.func66, Try.ntmps66
  go_wp2_with fail
  refine (KP.out _ S0.out.1).mono ?_
  rintro e w1 ⟨rfl, hb1⟩
  have S1 := Lib.hid (S0.out.below hb1)
  clear hb1 S0
  obtain ⟨m0, m1, m2, m3, m4, m5, m6, m7, m8, m9⟩ := motOf (m := m) (S1.out.get 2 rfl)
  have zm := (S1.out.get 2 rfl).lt
  go_wp2_with fail
  refine (KA.out _ S1.out.1).mono ?_
  rintro e w2 ⟨rfl, hb2⟩
  have S2 := Lib.hid (S1.out.below hb2)
  clear hb2 S1 m0 m1 m2 m3 m4 m5 m6 m7 m8 m9 zm
  go_wp2
  go_ret2
  exact PlP.no rfl (S2.out.1.alloc S2.out.1.size _)
end Go.Proofs.Ytcneohhfnnelgaa
namespace Go.Proofs.Ytcneohhfnnelgaa
open Go.RowKit
set_option linter.unusedVariables false
theorem ofB_iff : ∀ (xs : List Int) (l : List Sp), Dv.ofB xs l = true ↔ ∀ i, i < xs.length → i < l.length ∧ Dv.inB (xs.getD i 0) (l.getD i default).lo (l.getD i default).hi = true
  | [], l => by simp [Dv.ofB]
  | x :: xs, [] => by
    simp only [Dv.ofB, Bool.false_eq_true, false_iff]
    intro h
    have := (h 0 (by simp)).1
    simp at this
  | x :: xs, t :: ts => by
    simp only [Dv.ofB, Bool.and_eq_true]
    rw [ofB_iff xs ts]
    constructor
    · rintro ⟨h1, h2⟩ i hi
      cases i with
      | zero => exact ⟨by simp, by simpa using h1⟩
      | succ i =>
        have := h2 i (by simpa using hi)
        exact ⟨by simpa using this.1, by simpa using this.2⟩
    · intro h
      refine ⟨by simpa using (h 0 (by simp)).2, fun i hi => ?_⟩
      have := h (i + 1) (by simpa using hi)
      exact ⟨by simpa using this.1, by simpa using this.2⟩
theorem odsB_iff (t : Sp) : ∀ (os : List Od) (es : List Int), os.length = es.length → (Dv.odsB t os es = true ↔ ∀ i, i < os.length → Dv.odB t (os.getD i default) (es.getD i 0) = true)
  | [], es, _ => by simp [Dv.odsB]
  | o :: os, [], h => by simp at h
  | o :: os, e :: es, h => by
    simp only [Dv.odsB, Bool.and_eq_true]
    rw [odsB_iff t os es (by simpa using h)]
    constructor
    · rintro ⟨h1, h2⟩ i hi
      cases i with
      | zero => simpa using h1
      | succ i => simpa using h2 i (by simpa using hi)
    · intro h
      refine ⟨by simpa using h 0 (by simp), fun i hi => ?_⟩
      simpa using h (i + 1) (by simpa using hi)
namespace Dv
section
variable {m : Mot} {xs : List Int} {tol : List Sp} {p0 i0 p1 i1 u : Int} {s : Rot} {os : List Od} {es : List Int}
theorem plH_of (h0 : lmE m tol = 0) (h1 : (apR m xs).2 = 0) (h : ofB xs tol = false) : plH m xs tol p0 i0 p1 i1 u s os es = 3 := by simp [plH, h0, h1, h]
theorem plH_tun (h0 : lmE m tol = 0) (h1 : (apR m xs).2 = 0) (h2 : ofB xs tol = true) (h : (tunB p0 i0 && tunB p1 i1) = false) : plH m xs tol p0 i0 p1 i1 u s os es = 2 := by
  unfold plH
  rw [if_neg (by simp [h0]), if_neg (by simp [h1]), if_neg (by simp [h2]), if_pos h]
theorem plH_bus (h0 : lmE m tol = 0) (h1 : (apR m xs).2 = 0) (h2 : ofB xs tol = true) (h3 : (tunB p0 i0 && tunB p1 i1) = true) (h : busB u = false) : plH m xs tol p0 i0 p1 i1 u s os es = 3 := by
  unfold plH
  rw [if_neg (by simp [h0]), if_neg (by simp [h1]), if_neg (by simp [h2]), if_neg (by rw [h3]; decide), if_pos h]
theorem plH_len (h0 : lmE m tol = 0) (h1 : (apR m xs).2 = 0) (h2 : ofB xs tol = true) (h3 : (tunB p0 i0 && tunB p1 i1) = true) (h4 : busB u = true) (h5 : os.length ≤ 100) (h : es.length ≠ os.length) : plH m xs tol p0 i0 p1 i1 u s os es = 20 := by
  unfold plH
  rw [if_neg (by simp [h0]), if_neg (by simp [h1]), if_neg (by simp [h2]), if_neg (by rw [h3]; decide), if_neg (by rw [h4]; decide), if_neg (by omega), if_pos h]
theorem plH_ods (h0 : lmE m tol = 0) (h1 : (apR m xs).2 = 0) (h2 : ofB xs tol = true) (h3 : (tunB p0 i0 && tunB p1 i1) = true) (h4 : busB u = true) (h5 : os.length ≤ 100) (h6 : es.length = os.length) (h : odsB (lmS tol) os es = false) : plH m xs tol p0 i0 p1 i1 u s os es = 3 := by
  unfold plH
  rw [if_neg (by simp [h0]), if_neg (by simp [h1]), if_neg (by simp [h2]), if_neg (by rw [h3]; decide), if_neg (by rw [h4]; decide), if_neg (by omega), if_neg (by simp [h6]), if_pos h]
theorem plH_rot (h0 : lmE m tol = 0) (h1 : (apR m xs).2 = 0) (h2 : ofB xs tol = true) (h3 : (tunB p0 i0 && tunB p1 i1) = true) (h4 : busB u = true) (h5 : os.length ≤ 100) (h6 : es.length = os.length) (h7 : odsB (lmS tol) os es = true) (h : (rotB s && upB m.cu [s.d, s.q]) = false) : plH m xs tol p0 i0 p1 i1 u s os es = 3 := by
  unfold plH
  rw [if_neg (by simp [h0]), if_neg (by simp [h1]), if_neg (by simp [h2]), if_neg (by rw [h3]; decide), if_neg (by rw [h4]; decide), if_neg (by omega), if_neg (by simp [h6]), if_neg (by rw [h7]; decide), if_pos h]
theorem plH_ok (h0 : lmE m tol = 0) (h1 : (apR m xs).2 = 0) (h2 : ofB xs tol = true) (h3 : (tunB p0 i0 && tunB p1 i1) = true) (h4 : busB u = true) (h5 : os.length ≤ 100) (h6 : es.length = os.length) (h7 : odsB (lmS tol) os es = true) (h : (rotB s && upB m.cu [s.d, s.q]) = true) : plH m xs tol p0 i0 p1 i1 u s os es = 0 := by
  unfold plH
  rw [if_neg (by simp [h0]), if_neg (by simp [h1]), if_neg (by simp [h2]), if_neg (by rw [h3]; decide), if_neg (by rw [h4]; decide), if_neg (by omega), if_neg (by simp [h6]), if_neg (by rw [h7]; decide), if_neg (by rw [h]; decide)]
theorem plH_lm (h0 : lmE m tol ≠ 0) : plH m xs tol p0 i0 p1 i1 u s os es = lmE m tol := by simp [plH, h0]
theorem plH_ap (h0 : lmE m tol = 0) (h1 : (apR m xs).2 ≠ 0) : plH m xs tol p0 i0 p1 i1 u s os es = (apR m xs).2 := by simp [plH, h0, h1]
theorem pl_head {E : Int} (hE : plH m xs tol p0 i0 p1 i1 u s os es = E) (h : E ≠ 0) : plErr m xs tol p0 i0 p1 i1 u s os es = E ∧ plVal m xs tol p0 i0 p1 i1 u s os es = [] := by
  have h1 : plErr m xs tol p0 i0 p1 i1 u s os es = E := by
    unfold plErr
    rw [if_neg (by rw [hE]; exact h), hE]
  exact ⟨h1, by unfold plVal; rw [if_neg (by rw [h1]; exact h)]⟩
theorem pl_stop {E : Int} {n : Nat} (hH : plH m xs tol p0 i0 p1 i1 u s os es = 0) (h0 : plC (plP m xs tol p0 i0 p1 i1 u) os es ⟨s, 0, 0⟩ n = 0) (hE : plK (plP m xs tol p0 i0 p1 i1 u) os es ⟨s, 0, 0⟩ n = E) (h : E ≠ 0) (hn : n < os.length) : plErr m xs tol p0 i0 p1 i1 u s os es = E ∧ plVal m xs tol p0 i0 p1 i1 u s os es = [] := by
  have h1 : plErr m xs tol p0 i0 p1 i1 u s os es = E := by
    unfold plErr
    rw [if_pos hH, plC_at h0 (by rw [hE]; exact h) hn, hE]
  exact ⟨h1, by unfold plVal; rw [if_neg (by rw [h1]; exact h)]⟩
theorem pl_done (hH : plH m xs tol p0 i0 p1 i1 u s os es = 0) (h0 : plC (plP m xs tol p0 i0 p1 i1 u) os es ⟨s, 0, 0⟩ os.length = 0) : plErr m xs tol p0 i0 p1 i1 u s os es = 0 ∧ plVal m xs tol p0 i0 p1 i1 u s os es = plOut (plP m xs tol p0 i0 p1 i1 u) os es ⟨s, 0, 0⟩ os.length := by
  have h1 : plErr m xs tol p0 i0 p1 i1 u s os es = 0 := by
    unfold plErr
    rw [if_pos hH, h0]
  exact ⟨h1, by unfold plVal; rw [if_pos h1]⟩
theorem ap_parts (h : (apR m xs).2 = 0) : xs.length = 4 ∧ chk m ∧ chk (apR m xs).1 := by
  unfold apR at h ⊢
  by_cases h1 : apB m xs = true
  · by_cases h2 : chkB (apM m xs) = true
    · simp only [if_pos h1, if_pos h2]
      unfold apB at h1
      simp only [Bool.and_eq_true, decide_eq_true_eq] at h1
      exact ⟨h1.2.1, chkB_iff.1 h1.1, chkB_iff.1 h2⟩
    · simp only [if_pos h1, if_neg h2] at h
      cases h
  · simp only [if_neg h1] at h
    cases h
end
end Dv
theorem PlP.of {E : Int} {l : List Rot} {E' : Int} (h : E' = E ∧ l = []) {w w' : World} {e : Ending} (he : e = .returned (.tuple #[.slice none 0 0, .int .i64 E])) (hb : Below w.heap.size w w') : PlP E' l w e w' := by
  rw [h.1, h.2]
  exact PlP.no he hb
end Go.Proofs.Ytcneohhfnnelgaa
namespace Go.Proofs.Ytcneohhfnnelgaa
open Go.RowKit
set_option linter.unusedVariables false
/-- the states' cells -/
def flatR (l : List Rot) : List Value := l.flatMap Rot.cs
theorem flatR_len : ∀ (l : List Rot), (flatR l).length = l.length * 4
  | [] => rfl
  | s :: l => by
    show (Rot.cs s ++ flatR l).length = _
    rw [List.length_append, flatR_len l, List.length_cons]
    show 4 + _ = _
    omega
theorem flatR_snoc (l : List Rot) (s : Rot) : flatR (l ++ [s]) = flatR l ++ s.cs := by simp [flatR, Rot.cs]
theorem flatR_at : ∀ (l : List Rot) (i j : Nat) (v : Value), i < l.length → (Rot.cs (l.getD i ⟨0, 0, 0, 0⟩))[j]? = some v → (flatR l)[i * 4 + j]? = some v
  | [], i, j, v, h, _ => by simp at h
  | s :: l, 0, j, v, _, hv => by
    show (Rot.cs s ++ flatR l)[0 * 4 + j]? = _
    have hv' : (Rot.cs s)[j]? = some v := by simpa using hv
    have hj := (List.getElem?_eq_some_iff.1 hv').1
    rw [Nat.zero_mul, Nat.zero_add, List.getElem?_append_left hj]
    exact hv'
  | s :: l, i + 1, j, v, h, hv => by
    show (Rot.cs s ++ flatR l)[(i + 1) * 4 + j]? = _
    rw [List.getElem?_append_right (by show 4 ≤ _; omega)]
    show (flatR l)[(i + 1) * 4 + j - 4]? = _
    rw [show (i + 1) * 4 + j - 4 = i * 4 + j by omega]
    exact flatR_at l i j v (by simpa using h) (by simpa using hv)
theorem ownBelow {w w' : World} {B e z n cap : Nat} {A : Option Addr} {xs : List Value} (h : w.ownsRow B e z (.slice A n cap) n xs) (hb : Below w.heap.size w w') : w'.ownsRow B e z (.slice A n cap) n xs := by
  refine ⟨h.1, ?_⟩
  rcases h.2 with h2 | ⟨k, c, cur, hv, hb', hg, r⟩
  · exact .inl h2
  · cases hv
    exact .inr ⟨k, cap, cur, rfl, hb', by rw [hb.block k (Array.getElem?_eq_some_iff.1 hg).1]; exact hg, r⟩
theorem ownGrown {w w' : World} {row : Option Nat} {B e z n cap : Nat} {A : Option Addr} {xs : List Value} (h : w.ownsRow B e z (.slice A n cap) n xs) (hg : w.grownBy w' row) (hne : ∀ k, OwnB A k → some k ≠ row) : w'.ownsRow B e z (.slice A n cap) n xs := by
  refine ⟨h.1, ?_⟩
  rcases h.2 with h2 | ⟨k, c, cur, hv, hb', hgk, r⟩
  · exact .inl h2
  · cases hv
    exact .inr ⟨k, cap, cur, rfl, hb', by rw [hg.block k (Array.getElem?_eq_some_iff.1 hgk).1 (hne k ⟨_, rfl, rfl⟩)]; exact hgk, r⟩
theorem ownLt {w : World} {B e z n cap : Nat} {A : Option Addr} {xs : List Value} (h : w.ownsRow B e z (.slice A n cap) n xs) {k : Nat} (hk : OwnB A k) : k < w.heap.size ∧ B ≤ k := by
  obtain ⟨a, rfl, rfl⟩ := hk
  rcases h.2 with ⟨h2, _⟩ | ⟨g, c, cur, hv, hb, hg, _⟩
  · cases h2
  · cases hv
    exact ⟨(Array.getElem?_eq_some_iff.1 hg).1, hb⟩
theorem ownSet {w : World} {B e z n cap : Nat} {A : Option Addr} {xs : List Value} (h : w.ownsRow B e z (.slice A n cap) n xs) {p : Addr} (hp : ¬ OwnB A p.block) (u : Value) : (w.setCell p u).ownsRow B e z (.slice A n cap) n xs := by
  refine ⟨h.1, ?_⟩
  rcases h.2 with h2 | ⟨k, c, cur, hv, hb', hg, r⟩
  · exact .inl h2
  · cases hv
    exact .inr ⟨k, cap, cur, rfl, hb', by rw [Below.heap_setCell _ _ _ _ (fun e => hp ⟨_, rfl, e⟩)]; exact hg, r⟩
theorem ownRot {w : World} {B n cap : Nat} {A : Option Addr} {l : List Rot} (h : w.ownsRow B 57 4 (.slice A n cap) n (flatR l)) : RoAt w A l := by
  intro i hi
  have hlen := h.1
  rw [flatR_len] at hlen
  rcases h.2 with ⟨h2, hn⟩ | ⟨g, c, cur, hv, hb, hg, r⟩
  · omega
  · cases hv
    have hc : ∀ j v, (Rot.cs (l.getD i ⟨0, 0, 0, 0⟩))[j]? = some v → w.cell? ((⟨g, 0, none⟩ : Addr).add (i * 4 + j)) = some v := fun j v hv => World.ownsRow.cells (g := g) h rfl _ _ (flatR_at l i j v hi hv)
    have ha : ∀ k, (⟨g, 0, none⟩ : Addr).add k = ⟨g, k, none⟩ := fun k => by unfold Addr.add; split <;> simp_all
    have c0 := hc 0 _ rfl
    have c1 := hc 1 _ rfl
    have c2 := hc 2 _ rfl
    have c3 := hc 3 _ rfl
    rw [ha] at c0 c1 c2 c3
    exact ⟨⟨g, 0, none⟩, rfl, World.block_lt_of_cell? _ ⟨g, i * 4 + 0, none⟩ c0, by rw [ha]; exact c0, by rw [ha]; exact c1, by rw [ha]; exact c2, by rw [ha]; exact c3⟩
theorem srcR {w : World} {g : Nat} {t : TypeId} {s : Rot} (h : Blk w g t s.cs) : SrcRow w (some ⟨g, 0, none⟩) 1 s.cs :=
  .inr ⟨_, rfl, fun j u hu => by
    have ha : (⟨g, 0, none⟩ : Addr).add j = ⟨g, j, none⟩ := by unfold Addr.add; split <;> simp_all
    rw [ha]
    exact h.cell j hu⟩
theorem infoRot : (Try.prog.info? 57).map (fun i => (i.zero, i.size, i.bytes)) = some (some (.agg #[.int .i64 0, .int .i64 0, .int .i64 0, .int .i64 0]), 4, 32) := by kernel_rfl
end Go.Proofs.Ytcneohhfnnelgaa
namespace Go.Proofs.Ytcneohhfnnelgaa
open Go.RowKit
set_option linter.unusedVariables false
/-- the code of block n, and that behind it -/
def blockOf (n : Nat) : Code → Option Code
  | .block k c => if k = n then some c else blockOf n c
  | .loop c => blockOf n c
  | .seq a b => match blockOf n a with
    | some c => some c
    | none => blockOf n b
  | .scope c => blockOf n c
  | .cond _ a b => match blockOf n a with
    | some c => some c
    | none => blockOf n b
  | _ => none
def endsIn (n : Nat) : Code → Bool
  | .block k _ => k == n
  | .seq _ b => endsIn n b
  | .scope c => endsIn n c
  | _ => false
def behind (n : Nat) : Code → Option Code
  | .block _ c => behind n c
  | .loop c => behind n c
  | .seq a b => match behind n a with
    | some c => some c
    | none => if endsIn n a then some b else behind n b
  | .scope c => behind n c
  | .cond _ a b => match behind n a with
    | some c => some c
    | none => behind n b
  | _ => none
theorem plE_all (P : Pl) (st : Rot) (sd sq : Int) (ok : Od) (ek : Int) {wv a1 a2 b1 b2 A1 A2 B1 B2 dd qq V1 V2 N1 N2 E : Int} {T : Rot} (hw : Dv.plW st ek = wv)
    (ha : a1 = Dv.aLo P.m P.tol st.d st.q wv ∧ a2 = Dv.aHi P.m P.tol st.d st.q wv ∧ b1 = Dv.bLo P.m P.tol st.d st.q wv ∧ b2 = Dv.bHi P.m P.tol st.d st.q wv)
    (hA : A1 = Dv.mtLo a1 (Dv.roomV P.u) ∧ A2 = Dv.mtHi a2 (Dv.roomV P.u)) (hB : B1 = Dv.mtLo b1 (Dv.roomV P.u) ∧ B2 = Dv.mtHi b2 (Dv.roomV P.u)) (hd : dd = ok.d - st.d) (hq : qq = ok.q - st.q)
    (hV1 : V1 = Dv.clip (Dv.raw P.p0 sd dd) A1 A2 ∧ N1 = Dv.regS P.i0 sd dd (Dv.regC (Dv.raw P.p0 sd dd) dd A1 A2)) (hV2 : V2 = Dv.clip (Dv.raw P.p1 sq qq) B1 B2 ∧ N2 = Dv.regS P.i1 sq qq (Dv.regC (Dv.raw P.p1 sq qq) qq B1 B2))
    (hT : Dv.stR P.rl st V1 V2 ok.ld = (T, E)) :
    Dv.plE P st sd sq ok ek = (if upB P.m.fa [wv] = true then (if (decide (A1 ≤ A2) && decide (B1 ≤ B2)) = true then E else 17) else 17) ∧ Dv.plN P ⟨st, sd, sq⟩ ok ek = ⟨T, N1, N2⟩ := by
  obtain ⟨rfl, rfl, rfl, rfl⟩ := ha
  obtain ⟨rfl, rfl⟩ := hA
  obtain ⟨rfl, rfl⟩ := hB
  obtain ⟨rfl, rfl⟩ := hV1
  obtain ⟨rfl, rfl⟩ := hV2
  subst hw hd hq
  have h1 : Dv.plR P st sd sq ok ek = (T, E) := hT
  constructor
  · unfold Dv.plE
    rw [h1]
    rfl
  · unfold Dv.plN
    rw [h1]
    rfl
noncomputable def loop66 : Code := ((Try.f66.body.bind (blockOf 4)).getD .skip)
noncomputable def tail66 : Code := ((Try.f66.body.bind (behind 4)).getD .skip)
theorem gen_own {P : Program} {c : Code} {Q : Exit → Act → World → Prop} {a : Act} {W : World} (J J' : World → Prop) (hJ : J W) (hJ' : J' W) (h : ∀ W', J W' → J' W' → Code.wp P c Q a W') : Code.wp P c Q a W := h W hJ hJ'
/-- what the loop leaves as it is -/
structure PlF (m R : Mot) (l : List Sp) (p0 i0 p1 i1 u : Int) (s : Rot) (os : List Od) (es : List Int) (n : Nat) (pE : Int) (pV : List Rot) : Prop where
  hE : Dv.lmE m l = 0
  hR : Dv.chk R
  hT0 : Dv.tunB p0 i0 = true
  hT1 : Dv.tunB p1 i1 = true
  hB : Dv.busB u = true
  hS : Dv.rotB s = true
  hOd : Dv.odsB (Dv.lmS l) os es = true
  hLo : os.length = n
  hLe : es.length = n
  hNo : ∀ k E, k < n → Dv.plC (⟨m, R, l, p0, i0, p1, i1, u⟩ : Pl) os es (⟨s, 0, 0⟩ : Dv.PS) k = 0 → Dv.plK (⟨m, R, l, p0, i0, p1, i1, u⟩ : Pl) os es (⟨s, 0, 0⟩ : Dv.PS) k = E → E ≠ 0 → pE = E ∧ pV = []
  hYes : Dv.plC (⟨m, R, l, p0, i0, p1, i1, u⟩ : Pl) os es (⟨s, 0, 0⟩ : Dv.PS) n = 0 → pE = 0 ∧ pV = Dv.plOut (⟨m, R, l, p0, i0, p1, i1, u⟩ : Pl) os es (⟨s, 0, 0⟩ : Dv.PS) n
/-- the loop's relation -/
def PlJ (m R : Mot) (l : List Sp) (p0 i0 p1 i1 u : Int) (s : Rot) (os : List Od) (es : List Int) (w : World) (g : Nat) (k : Nat) (st : Rot) (sd sq : Int) (Ao : Option Addr) (co : Nat) (W : World) : Prop :=
  (Dv.plAt (⟨m, R, l, p0, i0, p1, i1, u⟩ : Pl) os es (⟨s, 0, 0⟩ : Dv.PS) k = ⟨st, sd, sq⟩ ∧ Dv.plC (⟨m, R, l, p0, i0, p1, i1, u⟩ : Pl) os es (⟨s, 0, 0⟩ : Dv.PS) k = 0) ∧ St w [(w.heap.size + 1 + 1, 57, [.int .i64 st.d, .int .i64 st.q, .int .i64 st.w, .int .i64 st.a]), (g, 52, [.int .i64 R.r, .int .i64 R.ld, .int .i64 R.lq, .int .i64 R.fx, .int .i64 R.po, .int .i64 R.mi, .int .i64 R.sp, .int .i64 R.dr, .int .i64 R.cu, .int .i64 R.fa]), (w.heap.size + 1, 78, [.int .i64 p0, .int .i64 i0, .int .i64 p1, .int .i64 i1]), (w.heap.size, 52, [.int .i64 m.r, .int .i64 m.ld, .int .i64 m.lq, .int .i64 m.fx, .int .i64 m.po, .int .i64 m.mi, .int .i64 m.sp, .int .i64 m.dr, .int .i64 m.cu, .int .i64 m.fa])] W ∧ W.ownsRow (g + 1) 57 4 (.slice Ao k co) k (flatR (Dv.plOut (⟨m, R, l, p0, i0, p1, i1, u⟩ : Pl) os es (⟨s, 0, 0⟩ : Dv.PS) k))
set_option maxHeartbeats 16000000 in
set_option maxRecDepth 1000000 in
theorem PlayR_loop (m R : Mot) (A : Option Addr) (l : List Sp) (cap : Nat) (p0 i0 p1 i1 u : Int) (s : Rot) (D : Option Addr) (os : List Od) (n ck : Nat) (F : Option Addr) (es : List Int) (ck' : Nat) (w W : World) (g : Nat) (pE : Int) (pV : List Rot) (c1 c3 c4 c5 c9 c10 c12 c14 c15 c16 c17 c19 c20 c22 c27 c28 c29 c30 c31 c32 c33 c34 c35 c36 c37 c38 c39 c40 c41 c42 c43 c44 c45 c46 c47 c48 c49 c50 c51 c52 c53 c54 c55 c56 c57 c58 c59 c60 c61 c62 c63 c64 c65 c66 c67 c68 c69 c70 c71 c72 c73 c74 c75 c76 c77 c78 c79 c80 c81 c82 c83 c84 c85 c86 c87 c88 c89 c90 c91 c92 c93 c94 c95 c96 c97 c98 c99 c100 c101 c102 c103 c104 c105 c106 c107 c108 c109 c110 c111 c112 c113 c114 c115 c116 c117 c118 c119 c120 c121 c122 c123 c124 c125 c126 c127 c128 c129 c130 c131 c132 c133 c134 c135 c136 c137 c138 c139 c140 c141 c142 c143 c144 c145 c146 c147 c148 c149 c150 c151 c152 c153 c154 c155 c156 c157 c158 c159 c160 c161 c162 c163 c164 c165 c166 c167 c168 c169 c170 c171 c172 c173 c174 c175 c176 c177 c178 c179 c180 c181 c182 c183 c184 c185 c186 c187 c188 c189 c190 c191 c192 c193 c194 c195 c196 c197 c198 c199 c200 c201 c202 c203 c204 c205 c206 c207 c208 c209 c210 c211 c212 c213 c214 c215 c216 c217 c218 c219 c220 c221 c222 c223 c224 c225 c226 c227 c228 c229 c230 c231 c232 c233 c234 c235 c236 c237 c238 c239 c240 c241 c242 c243 c244 c245 c246 c247 c248 c249 c250 c251 c252 c253 c254 c255 c256 c257 c258 c259 c260 c261 c262 c263 c264 c265 c266 c267 c268 c269 c270 c271 c272 c273 c274 c275 c276 c277 : Value) (K : Act → World → Prop)
    (hx : SpAt w A l) (ho : OdAt w D os) (he : IntsAt w F es) (hn : n ≤ 100) (hF : PlF m R l p0 i0 p1 i1 u s os es n pE pV)
    (hS : St w [(g, 52, [.int .i64 R.r, .int .i64 R.ld, .int .i64 R.lq, .int .i64 R.fx, .int .i64 R.po, .int .i64 R.mi, .int .i64 R.sp, .int .i64 R.dr, .int .i64 R.cu, .int .i64 R.fa]), (w.heap.size + 1 + 1, 57, [.int .i64 s.d, .int .i64 s.q, .int .i64 s.w, .int .i64 s.a]), (w.heap.size + 1, 78, [.int .i64 p0, .int .i64 i0, .int .i64 p1, .int .i64 i1]), (w.heap.size, 52, [.int .i64 m.r, .int .i64 m.ld, .int .i64 m.lq, .int .i64 m.fx, .int .i64 m.po, .int .i64 m.mi, .int .i64 m.sp, .int .i64 m.dr, .int .i64 m.cu, .int .i64 m.fa])] W) (hg : w.heap.size + 1 + 1 < g)
    (hK : ∀ (a : Act) (w' : World), Code.wp Try.prog tail66 (bodyPost Try.prog Try.f66 (PlP pE pV w)) a w' → K a w') :
    Code.wp Try.prog loop66 (Exit.inBlock 4 (Exit.then K (bodyPost Try.prog Try.f66 (PlP pE pV w)))) ⟨List.toArray ((.agg #[.int .i64 m.r, .int .i64 m.ld, .int .i64 m.lq, .int .i64 m.fx, .int .i64 m.po, .int .i64 m.mi, .int .i64 m.sp, .int .i64 m.dr, .int .i64 m.cu, .int .i64 m.fa] : Value) :: c1 :: .slice A l.length cap :: c3 :: c4 :: c5 :: .slice D n ck :: .slice F n ck' :: .pointer (some ⟨w.heap.size, 0, none⟩) :: c9 :: c10 :: .pointer (some ⟨w.heap.size + 1, 0, none⟩) :: c12 :: .pointer (some ⟨w.heap.size + 1 + 1, 0, none⟩) :: c14 :: c15 :: c16 :: c17 :: .pointer (some ⟨g, 0, none⟩) :: c19 :: c20 :: .int .i64 (Dv.roomV u) :: c22 :: .slice none 0 0 :: .int .i64 0 :: .int .i64 0 :: .int .i64 0 :: c27 :: c28 :: c29 :: c30 :: c31 :: c32 :: c33 :: c34 :: c35 :: c36 :: c37 :: c38 :: c39 :: c40 :: c41 :: c42 :: c43 :: c44 :: c45 :: c46 :: c47 :: c48 :: c49 :: c50 :: c51 :: c52 :: c53 :: c54 :: c55 :: c56 :: c57 :: c58 :: c59 :: c60 :: c61 :: c62 :: c63 :: c64 :: c65 :: c66 :: c67 :: c68 :: c69 :: c70 :: c71 :: c72 :: c73 :: c74 :: c75 :: c76 :: c77 :: c78 :: c79 :: c80 :: c81 :: c82 :: c83 :: c84 :: c85 :: c86 :: c87 :: c88 :: c89 :: c90 :: c91 :: c92 :: c93 :: c94 :: c95 :: c96 :: c97 :: c98 :: c99 :: c100 :: c101 :: c102 :: c103 :: c104 :: c105 :: c106 :: c107 :: c108 :: c109 :: c110 :: c111 :: c112 :: c113 :: c114 :: c115 :: c116 :: c117 :: c118 :: c119 :: c120 :: c121 :: c122 :: c123 :: c124 :: c125 :: c126 :: c127 :: c128 :: c129 :: c130 :: c131 :: c132 :: c133 :: c134 :: c135 :: c136 :: c137 :: c138 :: c139 :: c140 :: c141 :: c142 :: c143 :: c144 :: c145 :: c146 :: c147 :: c148 :: c149 :: c150 :: c151 :: c152 :: c153 :: c154 :: c155 :: c156 :: c157 :: c158 :: c159 :: c160 :: c161 :: c162 :: c163 :: c164 :: c165 :: c166 :: c167 :: c168 :: c169 :: c170 :: c171 :: c172 :: c173 :: c174 :: c175 :: c176 :: c177 :: c178 :: c179 :: c180 :: c181 :: c182 :: c183 :: c184 :: c185 :: c186 :: c187 :: c188 :: c189 :: c190 :: c191 :: c192 :: c193 :: c194 :: c195 :: c196 :: c197 :: c198 :: c199 :: c200 :: c201 :: c202 :: c203 :: c204 :: c205 :: c206 :: c207 :: c208 :: c209 :: c210 :: c211 :: c212 :: c213 :: c214 :: c215 :: c216 :: c217 :: c218 :: c219 :: c220 :: c221 :: c222 :: c223 :: c224 :: c225 :: c226 :: c227 :: c228 :: c229 :: c230 :: c231 :: c232 :: c233 :: c234 :: c235 :: c236 :: c237 :: c238 :: c239 :: c240 :: c241 :: c242 :: c243 :: c244 :: c245 :: c246 :: c247 :: c248 :: c249 :: c250 :: c251 :: c252 :: c253 :: c254 :: c255 :: c256 :: c257 :: c258 :: c259 :: c260 :: c261 :: c262 :: c263 :: c264 :: c265 :: c266 :: c267 :: c268 :: c269 :: c270 :: c271 :: c272 :: c273 :: c274 :: c275 :: c276 :: c277 :: []), []⟩ W := by
  have HX := Lib.hid hx
  have HO := Lib.hid ho
  have HF := Lib.hid he
  have HP := Lib.hid hF
  have HS := Lib.hid hS
  clear hx ho he hF hS
  conv => arg 2; whnf
  go_loopw [23, 24, 25, 26] (fun v23 v24 v25 v26 wr => ∃ (k : Nat) (st : Rot) (sd sq : Int) (Ao : Option Addr) (co : Nat), k ≤ n ∧ v26 = .int .i64 k ∧ v24 = .int .i64 sd ∧ v25 = .int .i64 sq ∧ v23 = .slice Ao k co ∧ Hid (PlJ m R l p0 i0 p1 i1 u s os es w g k st sd sq Ao co wr)) (fun _ _ _ i _ => n - (intOf i).toNat)
  case atStart =>
    refine ⟨0, s, 0, 0, none, 0, Nat.zero_le _, rfl, rfl, rfl, rfl, Lib.hid ⟨⟨rfl, rfl⟩, ?_, ⟨rfl, .inl ⟨rfl, rfl⟩⟩⟩⟩
    have h := HS.out
    refine ⟨h.1, fun x hx => h.2.1 x ?_, ?_⟩
    · simp only [List.mem_cons, List.not_mem_nil, or_false] at hx ⊢
      rcases hx with h | h | h | h
      · exact .inr (.inl h)
      · exact .inl h
      · exact .inr (.inr (.inl h))
      · exact .inr (.inr (.inr h))
    · simp only [List.map_cons, List.map_nil, List.nodup_cons, List.mem_cons, List.not_mem_nil, or_false, not_or, List.nodup_nil, not_false_eq_true, and_true]
      omega
  case round =>
    clear HS
    obtain ⟨k, st, sd, sq, Ao, co, hk, rfl, rfl, rfl, rfl, HJ⟩ := hrel
    by_cases hlt : k < n
    · obtain ⟨hAt, hC0⟩ := HJ.out.1
      have HAT := Lib.hid hAt
      have HC0 := Lib.hid hC0
      have S0 := Lib.hid HJ.out.2.1
      have O0 := Lib.hid HJ.out.2.2
      clear HJ
      have hps := Dv.plAt_ok (P := (⟨m, R, l, p0, i0, p1, i1, u⟩ : Pl)) (os := os) (es := es) (x := (⟨s, 0, 0⟩ : Dv.PS)) ⟨HP.out.hS, (show (-1073741824 : Int) ≤ 0 ∧ (0 : Int) ≤ 1073741824 by decide), (show (-1073741824 : Int) ≤ 0 ∧ (0 : Int) ≤ 1073741824 by decide)⟩ k hC0
      rw [hAt] at hps
      have HPK : Hid (Dv.plK (⟨m, R, l, p0, i0, p1, i1, u⟩ : Pl) os es (⟨s, 0, 0⟩ : Dv.PS) k = Dv.plE (⟨m, R, l, p0, i0, p1, i1, u⟩ : Pl) st sd sq (os.getD k default) (es.getD k 0)) := Lib.hid (by unfold Dv.plK; rw [hAt])
      have HPN : Hid (Dv.plAt (⟨m, R, l, p0, i0, p1, i1, u⟩ : Pl) os es (⟨s, 0, 0⟩ : Dv.PS) (k + 1) = Dv.plN (⟨m, R, l, p0, i0, p1, i1, u⟩ : Pl) ⟨st, sd, sq⟩ (os.getD k default) (es.getD k 0)) := Lib.hid (by rw [Dv.plAt, hAt])
      clear hAt hC0
      obtain ⟨hrb, ⟨sd0, sd1⟩, ⟨sq0, sq1⟩⟩ := (show Dv.rotB st = true ∧ (-1073741824 ≤ sd ∧ sd ≤ 1073741824) ∧ (-1073741824 ≤ sq ∧ sq ≤ 1073741824) from hps)
      have hbd := Dv.pl_bd HP.out.hE hrb (Dv.odsB_at HP.out.hOd k (by rw [HP.out.hLo]; exact hlt))
      obtain ⟨⟨bw0, bw1⟩, ⟨be0, be1⟩, ⟨bd0, bd1⟩, ⟨bq0, bq1⟩, ⟨bl0, bl1⟩, ⟨sd2, sd3⟩, ⟨sq2, sq3⟩⟩ := hbd
      have hm := (Dv.lm_parts HP.out.hE).1
      have hrw := Dv.rotB_iff.1 hrb
      have HRB := Lib.hid hrb
      clear hrb
      obtain ⟨aD, rfl, zd, o0, o1, o2⟩ := (HO.out.below S0.out.1) k (by rw [HP.out.hLo]; exact hlt)
      obtain ⟨aF, rfl, f0⟩ := (HF.out.below S0.out.1) k (by rw [HP.out.hLe]; exact hlt)
      have zf := World.block_lt_of_cell? _ _ f0
      have HOD := Lib.hid (show ∀ V : World, Below w.heap.size w V → (aD.add (k * 3)).block < V.heap.size ∧ V.cell? (aD.add (k * 3)) = some (.int .i64 (os.getD k default).d) ∧ V.cell? ⟨(aD.add (k * 3)).block, (aD.add (k * 3)).off + 1, none⟩ = some (.int .i64 (os.getD k default).q) ∧ V.cell? ⟨(aD.add (k * 3)).block, (aD.add (k * 3)).off + 2, none⟩ = some (.int .i64 (os.getD k default).ld) from fun V hV => by
        obtain ⟨ad, e, z, x0, x1, x2⟩ := (HO.out.below hV) k (by rw [HP.out.hLo]; exact hlt)
        cases e
        exact ⟨by rw [block_add]; exact z, x0, x1, x2⟩)
      clear zd o0 o1 o2
      generalize hok : os.getD k default = ok at *
      generalize hek : es.getD k 0 = ek at *
      have HOK := Lib.hid hok
      have HEK := Lib.hid hek
      clear hok hek
      have fa1 : 0 ≤ m.fa ∧ m.fa ≤ 16384 := by unfold Dv.chk at hm; omega
      have HM := Lib.hid hm
      clear hm
      have k0 : (0 : Int) ≤ (k : Int) := by omega
      have kx : (k : Int) < (n : Int) := by omega
      have kd : decide ((k : Int) < (n : Int)) = true := decide_eq_true (by omega)
      have P85 := Lib.hid (fun W => floor_c st.w 1000 W (by omega) (by omega) (by omega))
      have HW0 : Hid (Dv.plW st ek = st.w / 1000 - ek) := Lib.hid rfl
      generalize st.w / 1000 = q1 at *
      obtain ⟨wv, hwv⟩ : ∃ wv, wv = q1 - ek := ⟨_, rfl⟩
      have HWV : Hid (Dv.plW st ek = wv) := Lib.hid (by rw [HW0.out, hwv])
      have wb : -32768 ≤ wv ∧ wv ≤ 32768 := by omega
      have hww : IntKind.i64.wrap (q1 - ek) = wv := by rw [hwv]; exact IntWalk.i64_in _ (by omega)
      clear hwv HW0
      have z_s := (S0.out.get 0 rfl).lt
      have c_s2 := (S0.out.get 0 rfl).cell 2 rfl
      go_wp2_with fail
      refine wp_region_past (by kernel_rfl) (by kernel_rfl) ?_
      repeat (go_big_quiet_step ((go_at_call 85; with_reducible exact past_same (P85.out _))))
      refine wpQuiet_nil ?_
      intro xx
      have HXX := Lib.hid xx.far
      generalize xx.w = w1 at HXX ⊢
      have S1 := Lib.hid (S0.out.below HXX.out)
      have O1 := Lib.hid (ownBelow O0.out HXX.out)
      clear S0 O0 HXX hww z_s c_s2 P85 f0 zf
      trace "r32"
      have z_m := (S1.out.get 3 rfl).lt
      have c_m9 := (S1.out.get 3 rfl).cell 9 rfl
      have K80 := Lib.hid (fun W => within_is wv m.fa _ rfl W)
      obtain ⟨b, hb⟩ : ∃ b, b = upB m.fa [wv] := ⟨_, rfl⟩
      rw [← hb] at K80
      have HB := Lib.hid hb
      clear hb
      go_wp2_with fail
      refine (K80.out _).mono ?_
      rintro e w' ⟨rfl, rfl⟩
      clear K80 z_m c_m9
      cases b
      · have HN := Lib.hid (HP.out.hNo k 17 hlt HC0.out (by rw [HPK.out]; unfold Dv.plE; rw [HWV.out, if_neg (by rw [show upB ((⟨m, R, l, p0, i0, p1, i1, u⟩ : Pl)).m.fa [wv] = false from HB.out.symm]; decide)]) (by decide))
        go_wp2
        go_ret2
        exact PlP.of HN.out rfl S1.out.1
      have hwb : -16384 ≤ wv ∧ wv ≤ 16384 := by
        have := upB1.1 HB.out.symm
        omega
      have KAl := Lib.hid (fun (V : World) (hV : Below w.heap.size w V) => allowedR_c m A l st.d st.q wv cap V (HX.out.below hV) HP.out.hE hwb ⟨sd2, sd3⟩ ⟨sq2, sq3⟩)
      obtain ⟨a1, ha1⟩ : ∃ x, x = Dv.aLo m l st.d st.q wv := ⟨_, rfl⟩
      obtain ⟨a2, ha2⟩ : ∃ x, x = Dv.aHi m l st.d st.q wv := ⟨_, rfl⟩
      obtain ⟨b1, hb1⟩ : ∃ x, x = Dv.bLo m l st.d st.q wv := ⟨_, rfl⟩
      obtain ⟨b2, hb2⟩ : ∃ x, x = Dv.bHi m l st.d st.q wv := ⟨_, rfl⟩
      rw [← ha1, ← ha2, ← hb1, ← hb2] at KAl
      have HAB := Lib.hid (And.intro ha1 (And.intro ha2 (And.intro hb1 hb2)))
      clear ha1 ha2 hb1 hb2
      obtain ⟨m0, m1, m2, m3, m4, m5, m6, m7, m8, m9⟩ := motOf (m := m) (S1.out.get 3 rfl)
      have zm := (S1.out.get 3 rfl).lt
      have z_s := (S1.out.get 0 rfl).lt
      have c_s0 := (S1.out.get 0 rfl).cell 0 rfl
      have c_s1 := (S1.out.get 0 rfl).cell 1 rfl
      go_wp2_with fail
      refine (KAl.out _ S1.out.1).mono ?_
      rintro e w2 ⟨rfl, hb2⟩
      have S2 := Lib.hid (show St w [(w2.heap.size + 1, 29, [.int .i64 b1, .int .i64 b2]), (w2.heap.size, 29, [.int .i64 a1, .int .i64 a2]), (w.heap.size + 1 + 1, 57, [.int .i64 st.d, .int .i64 st.q, .int .i64 st.w, .int .i64 st.a]), (g, 52, [.int .i64 R.r, .int .i64 R.ld, .int .i64 R.lq, .int .i64 R.fx, .int .i64 R.po, .int .i64 R.mi, .int .i64 R.sp, .int .i64 R.dr, .int .i64 R.cu, .int .i64 R.fa]), (w.heap.size + 1, 78, [.int .i64 p0, .int .i64 i0, .int .i64 p1, .int .i64 i1]), (w.heap.size, 52, [.int .i64 m.r, .int .i64 m.ld, .int .i64 m.lq, .int .i64 m.fx, .int .i64 m.po, .int .i64 m.mi, .int .i64 m.sp, .int .i64 m.dr, .int .i64 m.cu, .int .i64 m.fa])] ((w2.alloc (.cells #[.int .i64 a1, .int .i64 a2] 29)).alloc (.cells #[.int .i64 b1, .int .i64 b2] 29)) from by
        have h := ((S1.out.below hb2).alloc [.int .i64 a1, .int .i64 a2] 29).alloc [.int .i64 b1, .int .i64 b2] 29
        simp at h
        exact h)
      have O2 := Lib.hid (ownBelow (ownBelow O1.out hb2) (((Below.refl _ _).alloc (Nat.le_refl _) (.cells #[.int .i64 a1, .int .i64 a2] 29)).alloc (by simp) (.cells #[.int .i64 b1, .int .i64 b2] 29)))
      have HD := Lib.hid (show ∀ b, OwnB Ao b → b < w2.heap.size from fun b hb => (ownLt (ownBelow O1.out hb2) hb).1)
      have hg1 : g < w2.heap.size := ((S1.out.below hb2).get 1 rfl).lt
      clear hb2 KAl m0 m1 m2 m3 m4 m5 m6 m7 m8 m9 zm z_s c_s0 c_s1 S1 O1
      go_upto_region 36 with (fail)
      refine gen_own (fun W => St w [(w2.heap.size + 1, 29, [.int .i64 b1, .int .i64 b2]), (w2.heap.size, 29, [.int .i64 a1, .int .i64 a2]), (w.heap.size + 1 + 1, 57, [.int .i64 st.d, .int .i64 st.q, .int .i64 st.w, .int .i64 st.a]), (g, 52, [.int .i64 R.r, .int .i64 R.ld, .int .i64 R.lq, .int .i64 R.fx, .int .i64 R.po, .int .i64 R.mi, .int .i64 R.sp, .int .i64 R.dr, .int .i64 R.cu, .int .i64 R.fa]), (w.heap.size + 1, 78, [.int .i64 p0, .int .i64 i0, .int .i64 p1, .int .i64 i1]), (w.heap.size, 52, [.int .i64 m.r, .int .i64 m.ld, .int .i64 m.lq, .int .i64 m.fx, .int .i64 m.po, .int .i64 m.mi, .int .i64 m.sp, .int .i64 m.dr, .int .i64 m.cu, .int .i64 m.fa])] W) (fun W => W.ownsRow (g + 1) 57 4 (.slice Ao k co) k (flatR (Dv.plOut (⟨m, R, l, p0, i0, p1, i1, u⟩ : Pl) os es (⟨s, 0, 0⟩ : Dv.PS) k))) S2.out O2.out ?_
      clear S2 O2
      rintro w3 i3 o3
      have S3 := Lib.hid i3
      have O3 := Lib.hid o3
      clear i3 o3
      generalize w2.heap.size = g1 at S3 HD hg1 ⊢
      clear w2
      trace "r35"
      have hU := Dv.roomV_bd (Dv.busB_iff.1 HP.out.hB)
      have KCa := Lib.hid (fun W => cut_c a1 a2 (Dv.roomV u) W hU)
      have KCb := Lib.hid (fun W => cut_c b1 b2 (Dv.roomV u) W hU)
      obtain ⟨A1, hA1⟩ : ∃ x, x = Dv.mtLo a1 (Dv.roomV u) := ⟨_, rfl⟩
      obtain ⟨A2, hA2⟩ : ∃ x, x = Dv.mtHi a2 (Dv.roomV u) := ⟨_, rfl⟩
      obtain ⟨B1, hB1⟩ : ∃ x, x = Dv.mtLo b1 (Dv.roomV u) := ⟨_, rfl⟩
      obtain ⟨B2, hB2⟩ : ∃ x, x = Dv.mtHi b2 (Dv.roomV u) := ⟨_, rfl⟩
      rw [← hA1, ← hA2] at KCa
      rw [← hB1, ← hB2] at KCb
      have HAA := Lib.hid (And.intro hA1 hA2)
      have HBB := Lib.hid (And.intro hB1 hB2)
      clear hA1 hA2 hB1 hB2 hU
      obtain ⟨b5, hb5⟩ : ∃ x, x = decide (A1 ≤ A2) := ⟨_, rfl⟩
      obtain ⟨b6, hb6⟩ : ∃ x, x = decide (B1 ≤ B2) := ⟨_, rfl⟩
      rw [← hb5] at KCa
      rw [← hb6] at KCb
      have H56 := Lib.hid (And.intro hb5 hb6)
      clear hb5 hb6
      have z_x := (S3.out.get 1 rfl).lt
      have c_x0 := (S3.out.get 1 rfl).cell 0 rfl
      have c_x1 := (S3.out.get 1 rfl).cell 1 rfl
      go_wp2_with fail
      refine (KCa.out _).mono ?_
      rintro e w4 ⟨rfl, hb4⟩
      have S4 := Lib.hid (S3.out.below hb4)
      have O4 := Lib.hid (ownBelow O3.out hb4)
      clear hb4 KCa z_x c_x0 c_x1 S3 O3
      have z_x := (S4.out.get 1 rfl).lt
      have c_x0 := (S4.out.get 1 rfl).cell 0 rfl
      have f_x0 := (S4.out.get 1 rfl).free 0
      have c_x1 := (S4.out.get 1 rfl).cell 1 rfl
      have f_x1 := (S4.out.get 1 rfl).free 1
      go_upto_region 37 with (fail)
      refine gen_own (fun W => St w [(g1 + 1, 29, [.int .i64 b1, .int .i64 b2]), (g1, 29, [.int .i64 A1, .int .i64 A2]), (w.heap.size + 1 + 1, 57, [.int .i64 st.d, .int .i64 st.q, .int .i64 st.w, .int .i64 st.a]), (g, 52, [.int .i64 R.r, .int .i64 R.ld, .int .i64 R.lq, .int .i64 R.fx, .int .i64 R.po, .int .i64 R.mi, .int .i64 R.sp, .int .i64 R.dr, .int .i64 R.cu, .int .i64 R.fa]), (w.heap.size + 1, 78, [.int .i64 p0, .int .i64 i0, .int .i64 p1, .int .i64 i1]), (w.heap.size, 52, [.int .i64 m.r, .int .i64 m.ld, .int .i64 m.lq, .int .i64 m.fx, .int .i64 m.po, .int .i64 m.mi, .int .i64 m.sp, .int .i64 m.dr, .int .i64 m.cu, .int .i64 m.fa])] W) (fun W => W.ownsRow (g + 1) 57 4 (.slice Ao k co) k (flatR (Dv.plOut (⟨m, R, l, p0, i0, p1, i1, u⟩ : Pl) os es (⟨s, 0, 0⟩ : Dv.PS) k))) (S4.out.upd29 1 rfl (by omega) [.int .i64 A1, .int .i64 A2] rfl) (ownSet (ownSet O4.out (fun h => by have := HD.out _ h; simp at this) _) (fun h => by have := HD.out _ h; simp at this) _) ?_
      clear S4 O4 z_x c_x0 c_x1 f_x0 f_x1
      rintro w3 i3 o3
      have S3 := Lib.hid i3
      have O3 := Lib.hid o3
      clear i3 o3
      have z_x := (S3.out.get 0 rfl).lt
      have c_x0 := (S3.out.get 0 rfl).cell 0 rfl
      have c_x1 := (S3.out.get 0 rfl).cell 1 rfl
      go_wp2_with fail
      refine (KCb.out _).mono ?_
      rintro e w4 ⟨rfl, hb4⟩
      have S4 := Lib.hid (S3.out.below hb4)
      have O4 := Lib.hid (ownBelow O3.out hb4)
      clear hb4 KCb z_x c_x0 c_x1 S3 O3
      have z_x := (S4.out.get 0 rfl).lt
      have c_x0 := (S4.out.get 0 rfl).cell 0 rfl
      have f_x0 := (S4.out.get 0 rfl).free 0
      have c_x1 := (S4.out.get 0 rfl).cell 1 rfl
      have f_x1 := (S4.out.get 0 rfl).free 1
      go_upto_region 38 with (fail)
      refine gen_own (fun W => St w [(g1 + 1, 29, [.int .i64 B1, .int .i64 B2]), (g1, 29, [.int .i64 A1, .int .i64 A2]), (w.heap.size + 1 + 1, 57, [.int .i64 st.d, .int .i64 st.q, .int .i64 st.w, .int .i64 st.a]), (g, 52, [.int .i64 R.r, .int .i64 R.ld, .int .i64 R.lq, .int .i64 R.fx, .int .i64 R.po, .int .i64 R.mi, .int .i64 R.sp, .int .i64 R.dr, .int .i64 R.cu, .int .i64 R.fa]), (w.heap.size + 1, 78, [.int .i64 p0, .int .i64 i0, .int .i64 p1, .int .i64 i1]), (w.heap.size, 52, [.int .i64 m.r, .int .i64 m.ld, .int .i64 m.lq, .int .i64 m.fx, .int .i64 m.po, .int .i64 m.mi, .int .i64 m.sp, .int .i64 m.dr, .int .i64 m.cu, .int .i64 m.fa])] W) (fun W => W.ownsRow (g + 1) 57 4 (.slice Ao k co) k (flatR (Dv.plOut (⟨m, R, l, p0, i0, p1, i1, u⟩ : Pl) os es (⟨s, 0, 0⟩ : Dv.PS) k))) (S4.out.upd29 0 rfl (by omega) [.int .i64 B1, .int .i64 B2] rfl) (ownSet (ownSet O4.out (fun h => by have := HD.out _ h; simp at this; omega) _) (fun h => by have := HD.out _ h; simp at this; omega) _) ?_
      clear S4 O4 z_x c_x0 c_x1 f_x0 f_x1
      rintro w5 i3 o3
      have S5 := Lib.hid i3
      have O5 := Lib.hid o3
      clear i3 o3
      trace "r37"
      have HNA := Lib.hid (show (b5 && b6) = false → pE = 17 ∧ pV = [] from fun h => HP.out.hNo k 17 hlt HC0.out (by
        rw [HPK.out, (plE_all (⟨m, R, l, p0, i0, p1, i1, u⟩ : Pl) st sd sq ok ek HWV.out HAB.out HAA.out HBB.out rfl rfl ⟨rfl, rfl⟩ ⟨rfl, rfl⟩ rfl).1, if_pos (show upB ((⟨m, R, l, p0, i0, p1, i1, u⟩ : Pl)).m.fa [wv] = true from HB.out.symm), ← H56.out.1, ← H56.out.2, h]
        rfl) (by decide))
      cases b5
      · have HN := Lib.hid (HNA.out rfl)
        go_wp2
        go_ret2
        exact PlP.of HN.out rfl S5.out.1
      cases b6
      · have HN := Lib.hid (HNA.out rfl)
        go_wp2
        go_ret2
        exact PlP.of HN.out rfl S5.out.1
      clear HNA
      go_wp2_with fail
      trace "r38"
      have htun := HP.out.hT0
      have htun1 := HP.out.hT1
      simp only [Dv.tunB, decide_eq_true_eq] at htun htun1
      have h56 := H56.out
      simp only [eq_comm (a := true), decide_eq_true_eq] at h56
      obtain ⟨dd, hdd⟩ : ∃ x, x = ok.d - st.d := ⟨_, rfl⟩
      obtain ⟨qq, hqq⟩ : ∃ x, x = ok.q - st.q := ⟨_, rfl⟩
      have dd0 : -2097152 ≤ dd ∧ dd ≤ 2097152 := by omega
      have qq0 : -2097152 ≤ qq ∧ qq ≤ 2097152 := by omega
      have P81a := Lib.hid (fun W => regulate_c p0 i0 sd dd A1 A2 W ⟨htun.1, htun.2.1⟩ htun.2.2 ⟨sd0, sd1⟩ dd0 h56.1)
      have P81b := Lib.hid (fun W => regulate_c p1 i1 sq qq B1 B2 W ⟨htun1.1, htun1.2.1⟩ htun1.2.2 ⟨sq0, sq1⟩ qq0 h56.2)
      clear htun htun1 h56
      obtain ⟨V1, hV1⟩ : ∃ x, x = Dv.clip (Dv.raw p0 sd dd) A1 A2 := ⟨_, rfl⟩
      obtain ⟨N1, hN1⟩ : ∃ x, x = Dv.regS i0 sd dd (Dv.regC (Dv.raw p0 sd dd) dd A1 A2) := ⟨_, rfl⟩
      obtain ⟨V2, hV2⟩ : ∃ x, x = Dv.clip (Dv.raw p1 sq qq) B1 B2 := ⟨_, rfl⟩
      obtain ⟨N2, hN2⟩ : ∃ x, x = Dv.regS i1 sq qq (Dv.regC (Dv.raw p1 sq qq) qq B1 B2) := ⟨_, rfl⟩
      rw [← hV1, ← hN1] at P81a
      rw [← hV2, ← hN2] at P81b
      obtain ⟨T, E, hT⟩ : ∃ T E, Dv.stR R st V1 V2 ok.ld = (T, E) := ⟨_, _, rfl⟩
      have P51 := Lib.hid (show ∀ W, Calls Try.prog 51 #[.agg #[.int .i64 R.r, .int .i64 R.ld, .int .i64 R.lq, .int .i64 R.fx, .int .i64 R.po, .int .i64 R.mi, .int .i64 R.sp, .int .i64 R.dr, .int .i64 R.cu, .int .i64 R.fa], .agg #[.int .i64 st.d, .int .i64 st.q, .int .i64 st.w, .int .i64 st.a], .int .i64 V1, .int .i64 V2, .int .i64 ok.ld] W fun e w' => e = .returned (.tuple #[.agg #[.int .i64 T.d, .int .i64 T.q, .int .i64 T.w, .int .i64 T.a], .int .i64 E]) ∧ Below W.heap.size W w' from fun W => by
        have h := StepR_c R st V1 V2 ok.ld W
        rw [hT] at h
        exact h)
      have HALL := Lib.hid (plE_all (⟨m, R, l, p0, i0, p1, i1, u⟩ : Pl) st sd sq ok ek HWV.out HAB.out HAA.out HBB.out hdd hqq ⟨hV1, hN1⟩ ⟨hV2, hN2⟩ hT)
      have hwd : IntKind.i64.wrap (ok.d - st.d) = dd := by rw [← hdd]; exact IntWalk.i64_in _ (by omega)
      have hwq : IntKind.i64.wrap (ok.q - st.q) = qq := by rw [← hqq]; exact IntWalk.i64_in _ (by omega)
      clear hdd hqq hV1 hN1 hV2 hN2 hT bd0 bd1 bq0 bq1
      obtain ⟨zo, o0, o1, o2⟩ := HOD.out _ S5.out.1
      have z_x := (S5.out.get 1 rfl).lt
      have c_x0 := (S5.out.get 1 rfl).cell 0 rfl
      have c_x1 := (S5.out.get 1 rfl).cell 1 rfl
      have z_s := (S5.out.get 2 rfl).lt
      have c_s0 := (S5.out.get 2 rfl).cell 0 rfl
      have c_s1 := (S5.out.get 2 rfl).cell 1 rfl
      have c_s2 := (S5.out.get 2 rfl).cell 2 rfl
      have c_s3 := (S5.out.get 2 rfl).cell 3 rfl
      have z_p := (S5.out.get 4 rfl).lt
      have c_p0 := (S5.out.get 4 rfl).cell 0 rfl
      have c_p1 := (S5.out.get 4 rfl).cell 1 rfl
      have c_p2 := (S5.out.get 4 rfl).cell 2 rfl
      have c_p3 := (S5.out.get 4 rfl).cell 3 rfl
      go_upto_region 40 with (fail)
      refine wp_region_past (by kernel_rfl) (by kernel_rfl) ?_
      repeat (go_big_quiet_step ((go_at_call 81; with_reducible exact past_below (P81a.out _))))
      refine wpQuiet_nil ?_
      intro xx
      have HXX := Lib.hid xx.far
      generalize xx.w = w6 at HXX ⊢
      have S6 := Lib.hid (S5.out.below HXX.out)
      have O6 := Lib.hid (ownBelow O5.out HXX.out)
      clear S5 O5 HXX zo o0 o1 o2 z_x c_x0 c_x1 z_s c_s0 c_s1 c_s2 c_s3 z_p c_p0 c_p1 c_p2 c_p3 P81a
      trace "r40"
      obtain ⟨zo, o0, o1, o2⟩ := HOD.out _ S6.out.1
      have z_x := (S6.out.get 0 rfl).lt
      have c_x0 := (S6.out.get 0 rfl).cell 0 rfl
      have c_x1 := (S6.out.get 0 rfl).cell 1 rfl
      have z_s := (S6.out.get 2 rfl).lt
      have c_s0 := (S6.out.get 2 rfl).cell 0 rfl
      have c_s1 := (S6.out.get 2 rfl).cell 1 rfl
      have c_s2 := (S6.out.get 2 rfl).cell 2 rfl
      have c_s3 := (S6.out.get 2 rfl).cell 3 rfl
      have z_p := (S6.out.get 4 rfl).lt
      have c_p0 := (S6.out.get 4 rfl).cell 0 rfl
      have c_p1 := (S6.out.get 4 rfl).cell 1 rfl
      have c_p2 := (S6.out.get 4 rfl).cell 2 rfl
      have c_p3 := (S6.out.get 4 rfl).cell 3 rfl
      go_upto_region 41 with (fail)
      refine wp_region_past (by kernel_rfl) (by kernel_rfl) ?_
      repeat (go_big_quiet_step ((go_at_call 81; with_reducible exact past_below (P81b.out _))))
      refine wpQuiet_nil ?_
      intro xx
      have HXX := Lib.hid xx.far
      generalize xx.w = w7 at HXX ⊢
      have S7 := Lib.hid (S6.out.below HXX.out)
      have O7 := Lib.hid (ownBelow O6.out HXX.out)
      clear S6 O6 HXX zo o0 o1 o2 z_x c_x0 c_x1 z_s c_s0 c_s1 c_s2 c_s3 z_p c_p0 c_p1 c_p2 c_p3 P81b hwd hwq
      trace "r41"
      go_upto_region 42 with (fail)
      refine wp_region_privz 14 [12] [.q, .q, .q, .q, .q, .q, .q, .q, .q, .q, .q, .q, .q, .p] (fun _ => (.cells #[.int .i64 0, .int .i64 0, .int .i64 0, .int .i64 0] 57, fun b => .pointer (some ⟨b, 0, none⟩))) ?af42 (by kernel_rfl) (by kernel_rfl) (fun _ _ _ _ _ h => h) ?walk42 ?tail42
      case walk42 =>
        intro V hV
        have SV := Lib.hid (S7.out.below hV)
        obtain ⟨zo, o0, o1, o2⟩ := HOD.out _ SV.out.1
        have z_s := (SV.out.get 2 rfl).lt
        have c_s0 := (SV.out.get 2 rfl).cell 0 rfl
        have c_s1 := (SV.out.get 2 rfl).cell 1 rfl
        have c_s2 := (SV.out.get 2 rfl).cell 2 rfl
        have c_s3 := (SV.out.get 2 rfl).cell 3 rfl
        have z_r := (SV.out.get 3 rfl).lt
        have c_r0 := (SV.out.get 3 rfl).cell 0 rfl
        have c_r1 := (SV.out.get 3 rfl).cell 1 rfl
        have c_r2 := (SV.out.get 3 rfl).cell 2 rfl
        have c_r3 := (SV.out.get 3 rfl).cell 3 rfl
        have c_r4 := (SV.out.get 3 rfl).cell 4 rfl
        have c_r5 := (SV.out.get 3 rfl).cell 5 rfl
        have c_r6 := (SV.out.get 3 rfl).cell 6 rfl
        have c_r7 := (SV.out.get 3 rfl).cell 7 rfl
        have c_r8 := (SV.out.get 3 rfl).cell 8 rfl
        have c_r9 := (SV.out.get 3 rfl).cell 9 rfl
        simp only [List.take_succ_cons, List.take_zero]
        repeat (refine wpP_q ?_; go_big_quiet_step ((go_at_call 51; with_reducible exact past_below (P51.out _))); refine wpQuiet_nil ?_)
        refine wpP_p (by kernel_rfl) (fun _ => by kernel_rfl) ?_
        (try simp only [Act.put, List.setIfInBounds_toArray, List.set_cons_zero, List.set_cons_succ])
        refine wpP_nil ?_
        rfl
      case tail42 =>
      intro gs w8 hb8 hP _
      obtain ⟨hg_t, k_t⟩ := hP 13 rfl
      simp only [List.take_succ_cons, List.take_zero, fillP]
      (try simp only [Act.put, List.setIfInBounds_toArray, List.set_cons_zero, List.set_cons_succ])
      generalize gs 13 = gt at hg_t k_t ⊢
      clear hP
      have k2_t : Blk w8 gt 57 [.int .i64 0, .int .i64 0, .int .i64 0, .int .i64 0] := k_t
      have S8 := Lib.hid (S7.out.lay hb8 hg_t k2_t T.cs rfl)
      have O8 := Lib.hid (ownBelow O7.out hb8)
      have HDt := Lib.hid (show ¬ OwnB Ao gt from fun h => by have := (ownLt O7.out h).1; omega)
      have hgt : w.heap.size ≤ gt := Nat.le_trans S7.out.1.size hg_t
      have f_t0 := k2_t.free 0
      have f_t1 := k2_t.free 1
      have f_t2 := k2_t.free 2
      have f_t3 := k2_t.free 3
      have d_t0 := k2_t.cell 0 rfl
      have d_t1 := k2_t.cell 1 rfl
      have d_t2 := k2_t.cell 2 rfl
      have d_t3 := k2_t.cell 3 rfl
      clear hb8 S7 O7 hg_t k_t k2_t
      simp only [List.drop_succ_cons, List.drop_zero]
      go_upto_region 43 with (fail)
      refine gen_own (fun W => St w [(gt, 57, T.cs), (g1 + 1, 29, [.int .i64 B1, .int .i64 B2]), (g1, 29, [.int .i64 A1, .int .i64 A2]), (w.heap.size + 1 + 1, 57, [.int .i64 st.d, .int .i64 st.q, .int .i64 st.w, .int .i64 st.a]), (g, 52, [.int .i64 R.r, .int .i64 R.ld, .int .i64 R.lq, .int .i64 R.fx, .int .i64 R.po, .int .i64 R.mi, .int .i64 R.sp, .int .i64 R.dr, .int .i64 R.cu, .int .i64 R.fa]), (w.heap.size + 1, 78, [.int .i64 p0, .int .i64 i0, .int .i64 p1, .int .i64 i1]), (w.heap.size, 52, [.int .i64 m.r, .int .i64 m.ld, .int .i64 m.lq, .int .i64 m.fx, .int .i64 m.po, .int .i64 m.mi, .int .i64 m.sp, .int .i64 m.dr, .int .i64 m.cu, .int .i64 m.fa])] W) (fun W => W.ownsRow (g + 1) 57 4 (.slice Ao k co) k (flatR (Dv.plOut (⟨m, R, l, p0, i0, p1, i1, u⟩ : Pl) os es (⟨s, 0, 0⟩ : Dv.PS) k))) S8.out (ownSet (ownSet (ownSet (ownSet O8.out HDt.out _) HDt.out _) HDt.out _) HDt.out _) ?_
      clear S8 O8 f_t0 f_t1 f_t2 f_t3 d_t0 d_t1 d_t2 d_t3
      rintro w9 i3 o3
      have S9 := Lib.hid i3
      have O9 := Lib.hid o3
      clear i3 o3
      trace "r42"
      have HEQ := Lib.hid (show Dv.plK (⟨m, R, l, p0, i0, p1, i1, u⟩ : Pl) os es (⟨s, 0, 0⟩ : Dv.PS) k = E by
        rw [HPK.out, HALL.out.1, if_pos (show upB ((⟨m, R, l, p0, i0, p1, i1, u⟩ : Pl)).m.fa [wv] = true from HB.out.symm), ← H56.out.1, ← H56.out.2]
        rfl)
      by_cases hE0 : E = 0
      rotate_left 1
      · have HN := Lib.hid (HP.out.hNo k E hlt HC0.out HEQ.out hE0)
        have hbt : (E != 0) = true := by simpa using hE0
        clear hE0
        go_wp2
        go_ret2
        exact PlP.of HN.out rfl S9.out.1
      subst hE0
      have HC1 := Lib.hid (Dv.plC_go HC0.out HEQ.out)
      have HA1 := Lib.hid (HPN.out.trans HALL.out.2)
      have HO1 : Hid (flatR (Dv.plOut (⟨m, R, l, p0, i0, p1, i1, u⟩ : Pl) os es (⟨s, 0, 0⟩ : Dv.PS) k) ++ T.cs = flatR (Dv.plOut (⟨m, R, l, p0, i0, p1, i1, u⟩ : Pl) os es (⟨s, 0, 0⟩ : Dv.PS) (k + 1))) := Lib.hid (by rw [Dv.plOut_succ, flatR_snoc, HA1.out])
      have HD9 := Lib.hid (show ∀ b, OwnB Ao b → g + 1 ≤ b ∧ b < g1 ∧ b ≠ gt from fun b hb => ⟨(ownLt O9.out hb).2, HD.out b hb, fun e => HDt.out (e ▸ hb)⟩)
      clear HEQ HALL HPK HPN HB H56 HAA HBB HAB HDt HD
      obtain ⟨iR, hi, hz0, hz1, hz2⟩ := info_parts infoRot
      have z_t := (S9.out.get 0 rfl).lt
      have c_t0 := (S9.out.get 0 rfl).cell 0 rfl
      have c_t1 := (S9.out.get 0 rfl).cell 1 rfl
      have c_t2 := (S9.out.get 0 rfl).cell 2 rfl
      have c_t3 := (S9.out.get 0 rfl).cell 3 rfl
      have hgz := (S9.out.get 4 rfl).lt
      go_upto_region 46 with (at_builtin; refine wpList_append_any (.tmp 270) (.tmp 272) 83 rfl rfl (g + 1) 57 iR (.agg #[.int .i64 0, .int .i64 0, .int .i64 0, .int .i64 0]) 4 32 Try.underlying83 hi hz0 hz1 hz2 rfl (by decide) Ao k co (flatR (Dv.plOut (⟨m, R, l, p0, i0, p1, i1, u⟩ : Pl) os es (⟨s, 0, 0⟩ : Dv.PS) k)) (by rfl) (ownBelow O9.out ((Below.refl _ _).alloc (Nat.le_refl _) _)) (some ⟨w9.heap.size, 0, none⟩) 1 1 T.cs (by rfl) rfl (srcR (Blk.new' w9 #[.int .i64 T.d, .int .i64 T.q, .int .i64 T.w, .int .i64 T.a] 57)) (by simp [Rot.cs, Value.oneCell']) (by unfold maxLen; omega) (by omega) (by simp; omega) ?_; intro A2 co2 w10 hown2 hgrow2 hat2; have OA := Lib.hid hown2; have HG2 := Lib.hid hgrow2; have HAT2 := Lib.hid hat2; clear hown2 hgrow2 hat2)
      trace "r45"
      have ST0 := Lib.hid (S9.out.below ((Below.refl _ _).alloc (Nat.le_refl _) (.cells #[.int .i64 T.d, .int .i64 T.q, .int .i64 T.w, .int .i64 T.a] 57)))
      have SA := Lib.hid (ST0.out.grown HG2.out (fun b hb => by
        have := HD9.out b (ownB_iff.2 hb)
        refine ⟨by omega, fun x hx => ?_⟩
        simp only [List.mem_cons, List.not_mem_nil, or_false] at hx
        rcases hx with rfl | rfl | rfl | rfl | rfl | rfl | rfl <;> simp only <;> omega))
      have HDA := Lib.hid (show ¬ OwnB A2 (w.heap.size + 1 + 1) from fun h => by
        rcases HAT2.out _ h with h | h
        · have := HD9.out _ h; omega
        · simp at h; omega)
      clear ST0 HG2 HAT2 HD9 S9 O9 z_t c_t0 c_t1 c_t2 c_t3
      have z_t := (SA.out.get 0 rfl).lt
      have c_t0 := (SA.out.get 0 rfl).cell 0 rfl
      have c_t1 := (SA.out.get 0 rfl).cell 1 rfl
      have c_t2 := (SA.out.get 0 rfl).cell 2 rfl
      have c_t3 := (SA.out.get 0 rfl).cell 3 rfl
      have z_s := (SA.out.get 3 rfl).lt
      have c_s0 := (SA.out.get 3 rfl).cell 0 rfl
      have f_s0 := (SA.out.get 3 rfl).free 0
      have c_s1 := (SA.out.get 3 rfl).cell 1 rfl
      have f_s1 := (SA.out.get 3 rfl).free 1
      have c_s2 := (SA.out.get 3 rfl).cell 2 rfl
      have f_s2 := (SA.out.get 3 rfl).free 2
      have c_s3 := (SA.out.get 3 rfl).cell 3 rfl
      have f_s3 := (SA.out.get 3 rfl).free 3
      go_wp2
      go_roundw
      case rel =>
        refine ⟨k + 1, T, N1, N2, A2, co2, by omega, by go_num, rfl, rfl, rfl, Lib.hid ⟨⟨HA1.out, HC1.out⟩, ?_, ?_⟩⟩
        · exact SA.out.tail.tail.tail.upd29 0 rfl (by omega) T.cs rfl
        · rw [← HO1.out]
          exact ownSet (ownSet (ownSet (ownSet OA.out HDA.out _) HDA.out _) HDA.out _) HDA.out _
      case measure => simp [intOf]; omega
    · obtain rfl : k = n := by omega
      go_wp2
      conv => arg 2; whnf
      have HY := Lib.hid (HP.out.hYes HJ.out.1.2)
      go_wp2
      go_ret2
      have hl := Dv.plOut_len (⟨m, R, l, p0, i0, p1, i1, u⟩ : Pl) os es (⟨s, 0, 0⟩ : Dv.PS) k
      rw [HY.out.1, HY.out.2]
      exact ⟨HJ.out.2.1.1, Ao, co, by rw [hl]; rfl, ownRot HJ.out.2.2⟩
end Go.Proofs.Ytcneohhfnnelgaa
