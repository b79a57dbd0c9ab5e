/- General: a region that draws its order: operations that read and callees that read or make memory; then stores. One walk in the order of the text. -/
import Derived.Test.YtafajclbghofkaaR4
namespace Go.Proofs.Ytafajclbghofkaa
open Go Go.RowKit
set_option linter.unusedVariables false
/-- the region's form: k operations that are quiet, and a tail -/
def headB (ops : Array Oper) (k n : Nat) : Bool :=
  Region.noSelect ops && decide (k < ops.size) && dstsOk n (ops.toList.take k) &&
  (List.range ops.size).all (fun i => match ops[i]? with | some o => o.after.all (fun e => !Region.binds .any e || decide (e.on < i)) | none => false) &&
  (List.range ops.size).all (fun t => decide (t < k) || (List.range k).all (fun i => waitsB1 .any ops t i)) &&
  (List.range k).all (fun i => (List.range k).all fun j => match ops[i]?, ops[j]? with
    | some oi, some oj => (match oj.dst with | some d => !(oi.looksAt ops).contains d || (decide (j < i) && waitsB1 .any ops i j) | none => false)
    | _, _ => false) &&
  Region.seqB .any ops (ops.size - k) k (Array.replicate k true ++ Array.replicate (ops.size - k) false)

structure Mid0 (P : Program) (ops : Array Oper) (k : Nat) (a0 af : Act) (W : World) (listed : Array Bool) (a : Act) (w : World) : Prop where
  size : listed.size = ops.size
  closed : ∀ j oj, ops[j]? = some oj → listed.getD j false = true → ∀ e ∈ oj.after, Region.binds .any e = true → listed.getD e.on false = true
  tail : ∀ t, k ≤ t → t < ops.size → listed.getD t true = false
  ahd : Below W.heap.size W w
  defers : a.defers = a0.defers
  tsize : a.tmps.size = a0.tmps.size
  put : ∀ j o t, j < k → ops[j]? = some o → o.dst = some t → listed.getD j false = true → slotOf a t = slotOf af t
  same : ∀ t, (∀ j o, j < k → ops[j]? = some o → listed.getD j false = true → o.dst ≠ some t) → slotOf a t = slotOf a0 t
section
variable {P : Program} {Q : Exit → Act → World → Prop} {W : World} {a0 af : Act} {l : List Oper} {k : Nat}
theorem first_no' (listed : Array Bool) (k : Nat) (h : ¬ (∀ i, i < k → listed.getD i false = true)) : ∃ i, i < k ∧ (∀ j, j < i → listed.getD j false = true) ∧ listed.getD i false = false := by
  cases k with
  | zero => exact absurd (fun i hi => absurd hi (Nat.not_lt_zero _)) h
  | succ k =>
    obtain ⟨i, h1, h2, h3⟩ := first_no listed k (fun hk => h (fun i hi => hk i (by omega)))
    exact ⟨i, by omega, h2, h3⟩
theorem wp_region_head {id : Nat} (k : Nat) (af : Act) (hm : P.follows .mixedOrders = true)
    (hB : headB l.toArray k a0.tmps.size = true)
    (hwalk : ∀ V : World, Below W.heap.size W V → wpQuiet P l.toArray (fun w' => ∃ x : Past V, w' = x.w) (fun a' => a' = af) (l.take k) a0)
    (htail : ∀ (w' : World), Below W.heap.size W w' → wpList P l.toArray Q (l.drop k) af w') :
    (Code.region id l.toArray true).wp P Q a0 W := by
  unfold headB at hB
  simp only [Bool.and_eq_true, decide_eq_true_eq, List.all_eq_true, List.mem_range, Bool.or_eq_true] at hB
  obtain ⟨⟨⟨⟨⟨⟨hsel, hks⟩, hdst⟩, hback⟩, htl⟩, hdep⟩, hseq⟩ := hB
  have hsz : l.toArray.size = l.length := by simp
  have hkl : k < l.length := by rw [← hsz]; exact hks
  have hdk : dstsOk a0.tmps.size (l.take k) = true := hdst
  have hall : ∀ V : World, Below W.heap.size W V → AllIn P l.toArray (fun w' => ∃ x : Past V, w' = x.w) af (l.take k) a0 := fun V hV => allIn_of hdk (hwalk V hV)
  have hA0 := hall W (Below.refl _ _)
  have hget : ∀ i, i < k → (l.take k)[i]? = l[i]? := fun i hi => by rw [List.getElem?_take]; simp [hi]
  have hafs : ∀ t, (∀ j o, j < k → l[j]? = some o → o.dst ≠ some t) → slotOf af t = slotOf a0 t := fun t ht => hA0.keep.2.2 t (fun o ho => by
    obtain ⟨j, hj⟩ := List.getElem?_of_mem ho
    rw [List.getElem?_take] at hj
    split at hj
    · exact ht j o (by assumption) hj
    · cases hj)
  have hback' : ∀ i o, l[i]? = some o → ∀ e ∈ o.after, Region.binds .any e = true → e.on < i := by
    intro i o hi e he hb
    have hil : i < l.length := (List.getElem?_eq_some_iff.1 hi).1
    have h1 := hback i (by rw [hsz]; exact hil)
    have hi' : l.toArray[i]? = some o := by simpa using hi
    rw [hi'] at h1
    have h2 := Array.all_eq_true_iff_forall_mem.1 h1 e he
    simpa [hb] using h2
  have hdep' : ∀ i o j oj d, i < k → l[i]? = some o → j < k → l[j]? = some oj → oj.dst = some d → d ∈ o.looksAt l.toArray → j < i ∧ waitsB1 .any l.toArray i j = true := by
    intro i o j oj d hi ho hj hoj hd hmem
    have h1 := hdep i hi j (by omega)
    have ho' : l.toArray[i]? = some o := by simpa using ho
    have hoj' : l.toArray[j]? = some oj := by simpa using hoj
    rw [ho', hoj'] at h1
    simp only [hd] at h1
    have hc : (o.looksAt l.toArray).contains d = true := by simpa using hmem
    rw [hc] at h1
    simpa using h1
  have dlt : ∀ i o, i < k → l[i]? = some o → ∃ d, o.dst = some d ∧ d < a0.tmps.size := fun i o hi ho => dsts_lt _ _ i o hdk (by rw [hget i (by omega)]; exact ho)
  have dne : ∀ i j o oj t, i < k → j < k → l[i]? = some o → l[j]? = some oj → i ≠ j → oj.dst = some t → o.dst ≠ some t := fun i j o oj t hi hj ho hoj hne hd => dsts_ne _ _ j i oj o t hdk (by rw [hget j (by omega)]; exact hoj) (by rw [hget i (by omega)]; exact ho) (Ne.symm hne) hd
  have fin : ∀ (listed : Array Bool) (a : Act) (w : World), Mid0 P l.toArray k a0 af W listed a w → (∀ i, i < k → listed.getD i false = true) → ∀ fuel, unl listed = fuel → wpAny P .any l.toArray Q fuel listed a w := by
    intro listed a w m hdone fuel hu
    have hLH : listed = Array.replicate k true ++ Array.replicate (l.toArray.size - k) false := by
      apply Array.ext
      · simp [m.size]; omega
      · intro i h1 h2
        rcases Nat.lt_or_ge i k with h' | h
        rotate_left 1
        · have := m.tail i h (by rw [← m.size]; exact h1)
          rw [Array.getElem_append_right (by simp; omega)]
          simpa [h1] using this
        · have := hdone i h'
          rw [Array.getElem_append_left (by simp; omega)]
          simpa [h1] using this
    have hae : a = af := by
      have hs0 := hA0.keep
      refine act_ext ?_ ?_ ?_
      · rw [m.tsize, hs0.1]
      · rw [m.defers, hs0.2.1]
      · intro t
        by_cases hex : ∃ j o, j < k ∧ l[j]? = some o ∧ o.dst = some t
        · obtain ⟨j, o, hj, ho, hd⟩ := hex
          exact m.put j o t hj (by simpa using ho) hd (hdone j hj)
        · rw [m.same t (fun j o hj ho _ hd => hex ⟨j, o, hj, by simpa using ho, hd⟩), hafs t (fun j o hj ho hd => hex ⟨j, o, hj, ho, hd⟩)]
    have hfu : fuel = (l.drop k).length := by
      rw [← hu, hLH, unl_done]
      simp
    rw [hfu, hae]
    refine wpAny_of_seq (l.drop k) k listed _ w (fun j => by simp [List.getElem?_drop]) ?_ (htail w m.ahd)
    rw [hLH]
    have : (l.drop k).length = l.toArray.size - k := by simp
    rw [this]
    exact hseq
  have main : ∀ (fuel : Nat) (listed : Array Bool) (a : Act) (w : World), Mid0 P l.toArray k a0 af W listed a w → unl listed = fuel → wpAny P .any l.toArray Q fuel listed a w := by
    intro fuel
    induction fuel with
    | zero =>
      intro listed a w m hu
      by_cases hdone : ∀ i, i < k → listed.getD i false = true
      · exact fin listed a w m hdone _ hu
      · obtain ⟨i, hi, _, hun⟩ := first_no' listed k hdone
        have := unl_set (listed := listed) (i := i) (by rw [m.size]; omega) (by rw [getD_tf (by rw [m.size]; omega)]; exact hun)
        omega
    | succ fuel ih =>
      intro listed a w m hu
      by_cases hdone : ∀ i, i < k → listed.getD i false = true
      · exact fin listed a w m hdone _ hu
      · obtain ⟨i0, hi0, hpre, hun0⟩ := first_no' listed k hdone
        refine ⟨fun h0 => ?_, fun i hi => ?_⟩
        · have hr : i0 ∈ Region.ready .any l.toArray listed := by
            rw [mem_ready]
            refine ⟨by rw [getD_tf (by rw [m.size]; omega)]; exact hun0, l[i0]'(by omega), by simp, fun e he hb => hpre _ ?_⟩
            exact hback' i0 _ (by simp) e he hb
          rw [h0] at hr
          cases hr
        · have hi' := hi
          obtain ⟨hun, o, ho, hw⟩ := mem_ready.1 hi
          have hil : i < l.length := by
            have := (Array.getElem?_eq_some_iff.1 ho).1
            simpa using this
          have hol : l[i]? = some o := by simpa using ho
          have hun' : unl (listed.setIfInBounds i true) = fuel := by
            have := unl_set (listed := listed) (i := i) (by rw [m.size]; omega) hun
            omega
          have hik : i < k := by
            rcases Nat.lt_or_ge i k with h | h
            rotate_left 1
            · have h1 := (htl i (by omega)).resolve_left (by omega) i0 (by omega)
              obtain ⟨e, he, hb, heo⟩ := waitsB1_spec ho h1
              have h2 := hw e he hb
              rw [heo, hun0] at h2
              cases h2
            · exact h
          have hclosed : ∀ j oj, l.toArray[j]? = some oj → (listed.setIfInBounds i true).getD j false = true → ∀ e ∈ oj.after, Region.binds .any e = true → (listed.setIfInBounds i true).getD e.on false = true := by
            intro j oj hj hl e he hb
            by_cases hji : i = j
            · subst hji
              rw [ho] at hj
              cases hj
              exact getD_set_true (hw e he hb)
            · rw [getD_set_ne false hji] at hl
              exact getD_set_true (m.closed j oj hj hl e he hb)
          have htail' : ∀ t, k ≤ t → t < l.toArray.size → (listed.setIfInBounds i true).getD t true = false := fun t ht ht' => by rw [getD_set_ne true (by omega)]; exact m.tail t ht ht'
          obtain ⟨d, hod, hdlt⟩ := dlt i o hik hol
          have hlook : ∀ t ∈ o.looksAt l.toArray, slotOf a t = slotOf (accum af ((l.take k).take i) a0) t := by
            intro t ht
            rw [accum_slot _ _ _ (dstsOk_take _ _ _ hdk)]
            by_cases hex : ∃ j oj, j < k ∧ l[j]? = some oj ∧ oj.dst = some t
            · obtain ⟨j, oj, hj, hoj, hdt⟩ := hex
              obtain ⟨hji, hwt⟩ := hdep' i o j oj t hik hol hj hoj hdt ht
              obtain ⟨e, he, hb, heo⟩ := waitsB1_spec ho hwt
              have hlj := hw e he hb
              rw [heo] at hlj
              rw [m.put j oj t (by omega) (by simpa using hoj) hdt hlj, if_pos]
              rw [List.any_eq_true]
              refine ⟨oj, ?_, by simp [hdt]⟩
              refine List.mem_of_getElem? (i := j) ?_
              rw [List.getElem?_take, List.getElem?_take]
              simp only [hji, show j < k by omega, if_true, hoj]
            · rw [m.same t (fun j oj hj hoj _ hdt => hex ⟨j, oj, by omega, by simpa using hoj, hdt⟩), if_neg]
              intro hany
              rw [List.any_eq_true] at hany
              obtain ⟨oj, hmem, hdt⟩ := hany
              obtain ⟨j, hj⟩ := List.getElem?_of_mem (List.mem_of_mem_take hmem)
              rw [List.getElem?_take] at hj
              split at hj
              · exact hex ⟨j, oj, by omega, hj, by simpa using hdt⟩
              · cases hj
          have hy := (hall w m.ahd).get (i := i) (o := o) (by rw [List.getElem?_take]; simp [hik, hol])
          have he : execOp a.eval o = execOp (accum af ((l.take k).take i) a0).eval o := execOp_congr o (fun cs b => Region.noSelect_spec hsel i o cs b ho) (fun x hx => by
            cases x with
            | tmp t => exact hlook t (List.mem_append_left _ (List.mem_filterMap.2 ⟨.tmp t, by simpa using hx, rfl⟩))
            | _ => rfl)
          have hy' := hy.of_same he (wanted_congr hlook)
          refine wpOp_of_qOp (C := fun w' => ∃ x : Past w, w' = x.w) ⟨⟨w, Below.refl _ _⟩, rfl⟩ (fun a' w' hx ha => ?_) (hy'.qOp ho (K := fun a' => a' = a.put o.dst (leftBy af o)) rfl)
          obtain ⟨x, rfl⟩ := hx
          subst ha
          refine ih _ _ _ ⟨by simp [m.size], hclosed, htail', m.ahd.trans (x.far.mono m.ahd.size), by rw [defers_put]; exact m.defers, by rw [size_put]; exact m.tsize, ?_, ?_⟩ hun'
          · intro j oj t hj hoj hdt hl
            by_cases hji : i = j
            · subst hji
              rw [ho] at hoj
              cases hoj
              have : leftBy af o = slotOf af t := by simp [leftBy, hdt]
              rw [hdt, this]
              rw [hod] at hdt
              cases hdt
              exact slot_put_same _ (by rw [m.tsize]; exact hdlt)
            · rw [getD_set_ne false hji] at hl
              rw [slot_put_ne _ (dne i j o oj t hik (by omega) hol (by simpa using hoj) hji hdt)]
              exact m.put j oj t hj hoj hdt hl
          · intro t hno
            have h1 : (listed.setIfInBounds i true).getD i false = true := by
              have : i < listed.size := by rw [m.size]; omega
              simp [this]
            rw [slot_put_ne _ (hno i o hik ho h1)]
            exact m.same t (fun j oj hj hoj hl => hno j oj hj hoj (getD_set_true hl))
  refine wp_region_any hm (main _ _ a0 _ ?_ (by rw [unl_rep]))
  refine ⟨by simp, ?_, ?_, (Below.refl _ _).drew, rfl, rfl, ?_, ?_⟩
  · intro j oj hj h
    rw [getD_replicate_false] at h
    cases h
  · intro t _ ht
    have : (Array.replicate l.toArray.size false).getD t true = false := by simp at ht; simp [ht]
    exact this
  · intro j o t _ _ _ h
    rw [getD_replicate_false] at h
    cases h
  · intro t _; rfl
end
end Go.Proofs.Ytafajclbghofkaa
