/- General: a region that draws its order, where what is held may lapse behind a certain operation. -/
import Derived.Deep.RegionHeld3
import Derived.Deep.DrawnRows
import Derived.WalkKit
namespace Go.Proofs.Ytmebpglkeedaoaa
open Go Go.RowKit
section
variable {P : Program} {ops : Array Oper} {Q : Exit → Act → World → Prop} {md : Region.Mode} {S : Array Bool → World → Prop}
/-- what has come up has come up behind what it waits for -/
def Kept (md : Region.Mode) (ops : Array Oper) (listed : Array Bool) : Prop :=
  ∀ (j : Nat) (oj : Oper), ops[j]? = some oj → listed.getD j false = true → ∀ e ∈ oj.after, Region.binds md e = true → listed.getD e.on false = true
/-- whatever order is picked from here on; what is held hangs on what has come up -/
def AnyL (P : Program) (md : Region.Mode) (ops : Array Oper) (Q : Exit → Act → World → Prop) (S : Array Bool → World → Prop) : Nat → Array Bool → Act → World → Prop
  | 0, listed, a, w => Region.ready md ops listed = [] ∧ Q .normal a w
  | fuel + 1, listed, a, w => (Region.ready md ops listed = [] → Q .normal a w) ∧
    ∀ i ∈ Region.ready md ops listed, wpOp P ops Q i (fun a' w' => S (listed.setIfInBounds i true) w' ∧ AnyL P md ops Q S fuel (listed.setIfInBounds i true) a' w') a w
theorem AnyL.any : ∀ (fuel : Nat) (listed : Array Bool) (a : Act) (w : World), AnyL P md ops Q S fuel listed a w → wpAny P md ops Q fuel listed a w
  | 0, _, _, _, h => h
  | fuel + 1, _, _, _, h => ⟨h.1, fun i hi => wpOp_mono (fun a' w' h' => AnyL.any fuel _ a' w' h'.2) (h.2 i hi)⟩
/-- some state of the walk in which i has not come up -/
def Ahead (md : Region.Mode) (ops : Array Oper) (S : Array Bool → World → Prop) (i : Nat) (w : World) : Prop := ∃ listed, listed.getD i true = false ∧ Kept md ops listed ∧ S listed w
theorem kept_set {listed : Array Bool} {i : Nat} (h : Kept md ops listed) (hr : i ∈ Region.ready md ops listed) : Kept md ops (listed.setIfInBounds i true) := by
  intro j oj hj hl e he hb
  by_cases hji : i = j
  · subst hji
    obtain ⟨_, o, ho, hall⟩ := mem_ready.1 hr
    rw [ho] at hj
    cases hj
    exact getD_set_true (hall e he hb)
  · rw [getD_set_ne false hji] at hl
    exact getD_set_true (h j oj hj hl e he hb)
theorem anyL_first {i : Nat} {oi : Oper} {v : Value} (hi : ops[i]? = some oi) (hsel : ∀ (j : Nat) (o : Oper) cs b, ops[j]? = some o → o.op ≠ .select cs b)
    (hQ : ∀ c a w, Q (.panic c) (a.put oi.dst v) w → Q (.panic c) a w) (hSi : ∀ listed w, S (listed.setIfInBounds i true) w → S listed w) :
    ∀ (fuel : Nat) (listed : Array Bool) (a : Act) (w : World),
      (∀ j oj, ops[j]? = some oj → j ≠ i → listed.getD j true = false → (∀ e ∈ oj.after, Region.binds md e = true → e.on ≠ i) → oi.apart ops oj = true) →
      i ∈ Region.ready md ops listed → Kept md ops listed → YieldsIf P ops (Ahead md ops S i) oi v a → S listed w →
      AnyL P md ops Q S fuel (listed.setIfInBounds i true) (a.put oi.dst v) w → S (listed.setIfInBounds i true) w → AnyL P md ops Q S (fuel + 1) listed a w := by
  intro fuel
  induction fuel with
  | zero =>
    intro listed a w _ hr hk hy hS H hS1
    refine ⟨fun h => (by rw [h] at hr; cases hr), fun j hj => ?_⟩
    by_cases hji : j = i
    · subst hji; exact hy.wpOp hi ⟨listed, (mem_ready.1 hr).1, hk, hS⟩ ⟨hS1, H⟩
    · have := ready_mono hj hji
      rw [H.1] at this
      cases this
  | succ fuel ih =>
    intro listed a w hfree hr hk hy hS H hS1
    refine ⟨fun h => (by rw [h] at hr; cases hr), fun j hj => ?_⟩
    by_cases hji : j = i
    · subst hji; exact hy.wpOp hi ⟨listed, (mem_ready.1 hr).1, hk, hS⟩ ⟨hS1, H⟩
    · have h1 := H.2 j (ready_mono hj hji)
      obtain ⟨hjun, oj, hoj, hall⟩ := mem_ready.1 hj
      have hnot : ∀ e ∈ oj.after, Region.binds md e = true → e.on ≠ i := fun e he hb heq => by
        have h1 := hall e he hb
        have h0 := (mem_ready.1 hr).1
        rw [heq] at h1
        rcases Nat.lt_or_ge i listed.size with h' | h'
        · simp [h'] at h0 h1; rw [h0] at h1; cases h1
        · simp [Array.getElem?_eq_none h'] at h1
      have h2 := wpOp_putIf hoj (hfree j oj hoj hji hjun hnot) (fun cs b => hsel i oi cs b hi) (fun cs b => hsel j oj cs b hoj) hQ hy h1
      have hfree' : ∀ k ok, ops[k]? = some ok → k ≠ i → (listed.setIfInBounds j true).getD k true = false →
          (∀ e ∈ ok.after, Region.binds md e = true → e.on ≠ i) → oi.apart ops ok = true := fun k ok hk hki hun hno => by
        refine hfree k ok hk hki ?_ hno
        by_cases hjk : j = k
        · subst hjk; exact hjun
        · rw [getD_set_ne true hjk] at hun; exact hun
      refine wpOp_mono (fun a' w' h3 => ?_) h2
      have hc : (listed.setIfInBounds i true).setIfInBounds j true = (listed.setIfInBounds j true).setIfInBounds i true := by rw [Array.setIfInBounds_comm _ _ (Ne.symm hji)]
      have hS' : S (listed.setIfInBounds j true) w' := hSi _ _ (by rw [← hc]; exact h3.2.1)
      exact ⟨hS', ih (listed.setIfInBounds j true) a' w' hfree' (ready_mono hr (Ne.symm hji)) (kept_set hk hj) h3.1 hS' (by rw [← hc]; exact h3.2.2) (by rw [← hc]; exact h3.2.1)⟩

/-- a way by which b waits for i: each names the next among what it waits for -/
def waitsB (md : Region.Mode) (ops : Array Oper) : List Nat → Bool
  | b :: c :: r => (match ops[b]? with | some o => o.after.any (fun e => Region.binds md e && e.on == c) | none => false) && waitsB md ops (c :: r)
  | _ => true
theorem waits_no {listed : Array Bool} (hk : Kept md ops listed) : ∀ (p : List Nat) (b i : Nat), waitsB md ops (b :: (p ++ [i])) = true → listed.getD i true = false → listed.getD b false = false
  | [], b, i, h, hi => by
    simp only [List.nil_append, waitsB, Bool.and_true] at h
    split at h
    · rename_i o ho
      cases hb : listed.getD b false
      · rfl
      · obtain ⟨e, he, h1⟩ := Array.any_eq_true'.1 h
        simp only [Bool.and_eq_true, beq_iff_eq] at h1
        have h2 := hk b o ho hb e he h1.1
        rw [h1.2] at h2
        rcases Nat.lt_or_ge i listed.size with h' | h'
        · simp [h'] at hi h2; rw [hi] at h2; cases h2
        · simp [Array.getElem?_eq_none h'] at h2
    · cases h
  | c :: p, b, i, h, hi => by
    have h' : waitsB md ops (b :: c :: (p ++ [i])) = true := h
    simp only [waitsB, Bool.and_eq_true] at h'
    obtain ⟨h1, h2⟩ := h'
    have hc := waits_no hk p c i h2 hi
    split at h1
    · rename_i o ho
      cases hb : listed.getD b false
      · rfl
      · obtain ⟨e, he, h3⟩ := Array.any_eq_true'.1 h1
        simp only [Bool.and_eq_true, beq_iff_eq] at h3
        have h4 := hk b o ho hb e he h3.1
        rw [h3.2, hc] at h4
        cases h4
    · cases h1
end
section
variable {P : Program} {l : List Oper} {Q : Exit → Act → World → Prop} {md : Region.Mode} {S : Array Bool → World → Prop}
/-- what is held till b comes up is held while i has not, if b waits for i -/
theorem still {listed : Array Bool} {C : Prop} {b i : Nat} (p : List Nat) (hk : Kept md l.toArray listed) (hi : listed.getD i true = false) (hp : waitsB md l.toArray (b :: (p ++ [i])) = true) (h : listed.getD b false = true ∨ C) : C :=
  h.resolve_left (by rw [waits_no hk p b i hp hi]; decide)
/-- the state of the walk: with what has come up being in order -/
def GoL (P : Program) (md : Region.Mode) (l : List Oper) (Q : Exit → Act → World → Prop) (S : Array Bool → World → Prop) (fuel : Nat) (listed : Array Bool) (a : Act) (w : World) : Prop :=
  Kept md l.toArray listed → AnyL P md l.toArray Q S fuel listed a w
theorem lTake {i : Nat} {oi : Oper} {v : Value} {fuel : Nat} {listed : Array Bool} {a : Act} {w : World} (hi : l[i]? = some oi)
    (hs : Region.noSelect l.toArray = true) (hf : Region.free md l.toArray listed i = true) (hr : (Region.ready md l.toArray listed).contains i = true)
    (hQ : ∀ c a w, Q (.panic c) (a.put oi.dst v) w → Q (.panic c) a w) (hw : Region.wanted oi (yielded l.toArray a.tmps) = true) (hSi : ∀ listed w, S (listed.setIfInBounds i true) w → S listed w) (hSj : ∀ listed w, S listed w → S (listed.setIfInBounds i true) w)
    (hy : ∀ L w, L.getD i true = false → Kept md l.toArray L → S L w → (execOp a.eval oi).run P w = .ok (.value v) w) (hS : S listed w)
    (h : S (listed.setIfInBounds i true) w → GoL P md l Q S fuel (listed.setIfInBounds i true) (a.put oi.dst v) w) : GoL P md l Q S (fuel + 1) listed a w := fun hk => by
  have hi' : l.toArray[i]? = some oi := by simpa using hi
  have hr' : i ∈ Region.ready md l.toArray listed := by simpa using hr
  exact anyL_first hi' (Region.noSelect_spec hs) hQ hSi fuel listed a w (Region.free_spec hi' hf) hr' hk (.inl ⟨hw, fun w' ⟨L, h1, h2, h3⟩ => hy L w' h1 h2 h3⟩) hS (h (hSj _ _ hS) (kept_set hk hr')) (hSj _ _ hS)
theorem lDrop {i : Nat} {oi : Oper} {fuel : Nat} {listed : Array Bool} {a : Act} {w : World} (hi : l[i]? = some oi)
    (hs : Region.noSelect l.toArray = true) (hf : Region.free md l.toArray listed i = true) (hr : (Region.ready md l.toArray listed).contains i = true)
    (hQ : ∀ c a w, Q (.panic c) (a.put oi.dst undef) w → Q (.panic c) a w) (hw : Region.wanted oi (yielded l.toArray a.tmps) = false) (hSi : ∀ listed w, S (listed.setIfInBounds i true) w → S listed w) (hSj : ∀ listed w, S listed w → S (listed.setIfInBounds i true) w) (hS : S listed w)
    (h : S (listed.setIfInBounds i true) w → GoL P md l Q S fuel (listed.setIfInBounds i true) (a.put oi.dst undef) w) : GoL P md l Q S (fuel + 1) listed a w := fun hk => by
  have hi' : l.toArray[i]? = some oi := by simpa using hi
  have hr' : i ∈ Region.ready md l.toArray listed := by simpa using hr
  exact anyL_first hi' (Region.noSelect_spec hs) hQ hSi fuel listed a w (Region.free_spec hi' hf) hr' hk (.inr ⟨hw, rfl⟩) hS (h (hSj _ _ hS) (kept_set hk hr')) (hSj _ _ hS)
/-- each of rs comes up next -/
def AllL (P : Program) (md : Region.Mode) (l : List Oper) (Q : Exit → Act → World → Prop) (S : Array Bool → World → Prop) (fuel : Nat) (listed : Array Bool) (a : Act) (w : World) (rs : List Nat) : Prop :=
  ∀ i ∈ rs, wpOp P l.toArray Q i (fun a' w' => S (listed.setIfInBounds i true) w' ∧ GoL P md l Q S fuel (listed.setIfInBounds i true) a' w') a w
theorem AllL.nil {fuel : Nat} {listed : Array Bool} {a : Act} {w : World} : AllL P md l Q S fuel listed a w [] := fun _ h => by cases h
theorem AllL.cons {fuel : Nat} {listed : Array Bool} {a : Act} {w : World} {i : Nat} {o : Oper} {rs : List Nat} (ho : l[i]? = some o)
    (h : ∀ K' : Act → World → Prop, Shut (∀ a w, S (listed.setIfInBounds i true) w → (S (listed.setIfInBounds i true) w → GoL P md l Q S fuel (listed.setIfInBounds i true) a w) → K' a w) → if Region.wanted o (yielded l.toArray a.tmps) = true then Oper.wp P o a w K' Q else K' (a.put o.dst undef) w)
    (hs : AllL P md l Q S fuel listed a w rs) : AllL P md l Q S fuel listed a w (i :: rs) := fun j hj => by
  rcases List.mem_cons.1 hj with rfl | hj
  · exact wpOp_step (by simpa using ho) (fun K' hK => h K' (fun a w hS hW => hK a w ⟨hS, hW hS⟩))
  · exact hs j hj
theorem lReady {rs : List Nat} {fuel : Nat} {listed : Array Bool} {a : Act} {w : World} (hr : Region.ready md l.toArray listed = rs) (hne : rs ≠ [])
    (h : AllL P md l Q S fuel listed a w rs) : GoL P md l Q S (fuel + 1) listed a w := fun hk =>
  ⟨fun h0 => absurd (hr ▸ h0) hne, fun i hi => wpOp_mono (fun _ _ h' => ⟨h'.1, h'.2 (kept_set hk hi)⟩) (h i (hr ▸ hi))⟩
theorem lDone {listed : Array Bool} {a : Act} {w : World} (hr : Region.ready md l.toArray listed = []) (h : Q .normal a w) : ∀ fuel, GoL P md l Q S fuel listed a w
  | 0 => fun _ => ⟨hr, h⟩
  | _ + 1 => fun _ => ⟨fun _ => h, by rw [hr]; simp⟩
theorem lBegin {id : Nat} {a : Act} {w : World} (hm : P.follows .mixedOrders = true) (hS : S (Array.replicate l.length false) w.drew)
    (h : S (Array.replicate l.length false) w.drew → GoL P .any l Q S l.length (Array.replicate l.length false) a w.drew) : (Code.region id l.toArray true).wp P Q a w := by
  refine wp_region_any hm ?_
  have h1 := AnyL.any _ _ _ _ (h hS (fun j oj hj hl => by
    rw [Array.getD_eq_getD_getElem?, Array.getElem?_replicate] at hl
    split at hl <;> cases hl))
  have e : l.toArray.size = l.length := by simp
  rw [e]
  exact h1
end
end Go.Proofs.Ytmebpglkeedaoaa
