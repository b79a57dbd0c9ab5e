/- General: a region that draws its order: operations that read, callees that read or make memory, and operations that make a block of their own (a new variable, a slice that is built), which at most one callee of the region reads; then stores. One walk in the order of the text. -/
import Derived.Test.YtcneohhfnnelgaaR5
namespace Go.Proofs.Ytcneohhfnnelgaa
open Go Go.RowKit
set_option linter.unusedVariables false

/-- what an operation does: it reads or calls (q), it makes a block of its own (p), it calls with the block that operation j has laid into slot d (c) -/
inductive Role where
  | q
  | p
  | c (j d : Nat)
def Role.isP : Role → Bool
  | .p => true
  | _ => false
def Role.eats : Role → Nat → Nat → Bool
  | .c j d, j', d' => (j == j') && (d == d')
  | _, _, _ => false
/-- S, and what operation t waits for -/
def depsB (ops : Array Oper) (t : Nat) (S : List Bool) : List Bool :=
  match ops[t]? with
  | some o => o.after.toList.foldl (fun S e => if Region.binds .any e = true then S.set e.on true else S) S
  | none => S
/-- S, and all that its operations wait for, each through others -/
def coverB (ops : Array Oper) : Nat → List Bool → List Bool
  | 0, S => S
  | n + 1, S => coverB ops n (if S.getD n false = true then depsB ops n S else S)
theorem getD_set_list {S : List Bool} {i j : Nat} (h : (S.set i true).getD j false = true) : j = i ∨ S.getD j false = true := by
  by_cases hij : j = i
  · exact .inl hij
  · right
    rwa [List.getD_eq_getElem?_getD, List.getElem?_set_ne (fun e => hij e.symm), ← List.getD_eq_getElem?_getD] at h
theorem deps_listed {listed : Array Bool} (l : List Edge) (S : List Bool) (he : ∀ e ∈ l, Region.binds .any e = true → listed.getD e.on false = true) (hS : ∀ i, S.getD i false = true → listed.getD i false = true) (i : Nat)
    (h : (l.foldl (fun S e => if Region.binds .any e = true then S.set e.on true else S) S).getD i false = true) : listed.getD i false = true := by
  induction l generalizing S with
  | nil => exact hS i h
  | cons e l ih =>
    rw [List.foldl_cons] at h
    refine ih _ (fun e' he' => he e' (by simp [he'])) (fun j hj => ?_) h
    split at hj
    · rename_i hb
      rcases getD_set_list hj with rfl | h'
      · exact he e (by simp) hb
      · exact hS j h'
    · exact hS j hj
theorem cover_listed {ops : Array Oper} {listed : Array Bool} (hc : ∀ j oj, ops[j]? = some oj → listed.getD j false = true → ∀ e ∈ oj.after, Region.binds .any e = true → listed.getD e.on false = true) :
    ∀ (n : Nat) (S : List Bool), (∀ i, S.getD i false = true → listed.getD i false = true) → ∀ i, (coverB ops n S).getD i false = true → listed.getD i false = true
  | 0, S, hS, i, h => hS i h
  | n + 1, S, hS, i, h => by
    unfold coverB at h
    refine cover_listed hc n _ (fun j hj => ?_) i h
    split at hj
    · rename_i hn
      unfold depsB at hj
      split at hj
      · rename_i o ho
        exact deps_listed _ S (fun e he hb => hc n o ho (hS n hn) e (by simpa using he) hb) hS j hj
      · exact hS j hj
    · exact hS j hj
theorem deps_length (ops : Array Oper) (t : Nat) (S : List Bool) : (depsB ops t S).length = S.length := by
  unfold depsB
  split
  · rename_i o _
    generalize o.after.toList = l
    induction l generalizing S with
    | nil => rfl
    | cons e l ih =>
      rw [List.foldl_cons, ih]
      split
      · simp
      · rfl
  · rfl
theorem cover_length {ops : Array Oper} : ∀ (n : Nat) (S : List Bool), (coverB ops n S).length = S.length
  | 0, S => rfl
  | n + 1, S => by
    unfold coverB
    rw [cover_length n]
    split
    · exact deps_length ops n S
    · rfl
def headLB (ops : Array Oper) (k n : Nat) : Bool :=
  Region.noSelect ops && decide (k ≤ ops.size) && dstsOk n (ops.toList.take k) &&
  (List.range ops.size).all (fun i => match ops[i]? with | some o => o.after.all (fun e => !Region.binds .any e || decide (e.on < i)) | none => false) &&
  (List.range ops.size).all (fun t => decide (t < k) || ((coverB ops ops.size (depsB ops t (List.replicate ops.size false))).take k).all (fun b => b)) &&
  (List.range k).all (fun i => (List.range k).all fun j => match ops[i]?, ops[j]? with
    | some oi, some oj => (match oj.dst with | some d => !(oi.looksAt ops).contains d || (decide (j < i) && waitsB1 .any ops i j) | none => false)
    | _, _ => false) &&
  Region.seqB .any ops (ops.size - k) k (Array.replicate k true ++ Array.replicate (ops.size - k) false)
def privB (ops : Array Oper) (k n : Nat) (rs : List Role) : Bool :=
  headLB ops k n && decide (rs.length = k) &&
  (List.range k).all (fun i => (List.range k).all fun j => match ops[i]?, ops[j]?, rs[i]?, rs[j]? with
    | some oi, some oj, some ri, some rj => !rj.isP || (match oj.dst with | some d => !(oi.looksAt ops).contains d || ri.eats j d | none => false)
    | _, _, _, _ => false) &&
  (List.range k).all (fun i => match ops[i]?, rs[i]? with
    | some oi, some (.c j d) => decide (j < k) && (match ops[j]?, rs[j]? with | some oj, some rj => rj.isP && (oj.dst == some d) | _, _ => false) && (oi.looksAt ops).contains d
    | _, _ => true)
def slotTo (a : Act) : Option Tmp → Value
  | some t => slotOf a t
  | none => undef
section
variable {P : Program} {ops : Array Oper} {af : Act} {cont : Nat → Obj × (Nat → Value)} {V : World}
def StepP (P : Program) (ops : Array Oper) (af : Act) (cont : Nat → Obj × (Nat → Value)) (V : World) (i : Nat) (r : Role) (o : Oper) (a : Act) : Prop :=
  match r with
  | .q => YieldsIn P ops (fun w' => ∃ x : Past V, w' = x.w) o (leftBy af o) a
  | .p => Region.wanted o (yielded ops a.tmps) = true ∧ ∀ w : World, (execOp a.eval o).run P w = .ok (.value ((cont i).2 w.heap.size)) (w.alloc (cont i).1)
  | .c j d => ∀ (V' : World) (g : Nat), Below V.heap.size V V' → V'.heap[g]? = some (cont j).1 → YieldsIn P ops (fun w' => ∃ x : Past V', w' = x.w) o (leftBy af o) (a.put (some d) ((cont j).2 g))
def AllInP (P : Program) (ops : Array Oper) (af : Act) (cont : Nat → Obj × (Nat → Value)) (V : World) : Nat → List Role → List Oper → Act → Prop
  | _, [], [], a => a = af
  | i, r :: rs, o :: l, a => StepP P ops af cont V i r o a ∧ AllInP P ops af cont V (i + 1) rs l (a.put o.dst (leftBy af o))
  | _, _, _, _ => False
/-- the walk in the order of the text -/
def wpP (P : Program) (ops : Array Oper) (af : Act) (cont : Nat → Obj × (Nat → Value)) (V : World) : Nat → List Role → List Oper → Act → Prop
  | _, [], [], a => a = af
  | i, .q :: rs, o :: l, a => wpQuiet P ops (fun w' => ∃ x : Past V, w' = x.w) (fun a' => wpP P ops af cont V (i + 1) rs l a') [o] a
  | i, .p :: rs, o :: l, a => Region.wanted o (yielded ops a.tmps) = true ∧ (∀ w : World, (execOp a.eval o).run P w = .ok (.value ((cont i).2 w.heap.size)) (w.alloc (cont i).1)) ∧ wpP P ops af cont V (i + 1) rs l (a.put o.dst undef)
  | i, .c j d :: rs, o :: l, a => ∃ u, (∀ (V' : World) (g : Nat), Below V.heap.size V V' → V'.heap[g]? = some (cont j).1 → wpQuiet P ops (fun w' => ∃ x : Past V', w' = x.w) (fun a' => slotTo a' o.dst = u) [o] (a.put (some d) ((cont j).2 g))) ∧ wpP P ops af cont V (i + 1) rs l (a.put o.dst u)
  | _, _, _, _ => False
theorem wpP_nil {i : Nat} {a : Act} (h : a = af) : wpP P ops af cont V i [] [] a := h
theorem wpP_q {i : Nat} {rs : List Role} {o : Oper} {l : List Oper} {a : Act} (h : wpQuiet P ops (fun w' => ∃ x : Past V, w' = x.w) (fun a' => wpP P ops af cont V (i + 1) rs l a') [o] a) : wpP P ops af cont V i (.q :: rs) (o :: l) a := h
theorem wpP_p {i : Nat} {rs : List Role} {o : Oper} {l : List Oper} {a : Act} (hg : Region.wanted o (yielded ops a.tmps) = true) (h : ∀ w : World, (execOp a.eval o).run P w = .ok (.value ((cont i).2 w.heap.size)) (w.alloc (cont i).1)) (k : wpP P ops af cont V (i + 1) rs l (a.put o.dst undef)) : wpP P ops af cont V i (.p :: rs) (o :: l) a := ⟨hg, h, k⟩
theorem wpP_c {i j d : Nat} {rs : List Role} {o : Oper} {l : List Oper} {a : Act} (u : Value) (h : ∀ (V' : World) (g : Nat), Below V.heap.size V V' → V'.heap[g]? = some (cont j).1 → wpQuiet P ops (fun w' => ∃ x : Past V', w' = x.w) (fun a' => slotTo a' o.dst = u) [o] (a.put (some d) ((cont j).2 g))) (k : wpP P ops af cont V (i + 1) rs l (a.put o.dst u)) : wpP P ops af cont V i (.c j d :: rs) (o :: l) a := ⟨u, h, k⟩

theorem AllInP.keep : ∀ {i : Nat} {rs : List Role} {l : List Oper} {a : Act}, AllInP P ops af cont V i rs l a → af.tmps.size = a.tmps.size ∧ af.defers = a.defers ∧ (∀ t, (∀ o ∈ l, o.dst ≠ some t) → slotOf af t = slotOf a t)
  | _, [], [], a, h => by
    have : a = af := h
    subst this
    exact ⟨rfl, rfl, fun _ _ => rfl⟩
  | _, [], _ :: _, _, h => h.elim
  | _, _ :: _, [], _, h => h.elim
  | i, r :: rs, o :: l, a, h => by
    obtain ⟨h1, h2, h3⟩ := AllInP.keep h.2
    refine ⟨by rw [h1, size_put], by rw [h2, defers_put], fun t ht => ?_⟩
    rw [h3 t (fun o' ho' => ht o' (by simp [ho'])), slot_put_ne _ (ht o (by simp))]
theorem yields_of_quiet {C : World → Prop} {Q : Act → Prop} {o : Oper} {a : Act} (h : wpQuiet P ops C Q [o] a) : ∃ v, YieldsIn P ops C o v a ∧ Q (a.put o.dst v) := by
  unfold wpQuiet at h
  split at h
  · rename_i hw
    obtain ⟨v, h1, h2⟩ := h
    exact ⟨v, .inl ⟨hw, h1⟩, h2⟩
  · rename_i hw
    exact ⟨undef, .inr ⟨by simpa using hw, rfl⟩, h⟩
theorem allInP_of : ∀ {i : Nat} {rs : List Role} {l : List Oper} {a : Act}, dstsOk a.tmps.size l = true → wpP P ops af cont V i rs l a → AllInP P ops af cont V i rs l a
  | _, [], [], a, _, h => h
  | _, [], _ :: _, _, _, h => h.elim
  | _, .q :: _, [], _, _, h => h.elim
  | _, .p :: _, [], _, _, h => h.elim
  | _, .c _ _ :: _, [], _, _, h => h.elim
  | i, r :: rs, o :: l, a, hd, h => by
    have hd' := hd
    simp only [dstsOk, Bool.and_eq_true] at hd'
    obtain ⟨hd1, hd2⟩ := hd'
    split at hd1
    rotate_left 1
    · cases hd1
    · rename_i d hod
      simp only [Bool.and_eq_true, decide_eq_true_eq, List.all_eq_true] at hd1
      have key : ∀ v : Value, wpP P ops af cont V (i + 1) rs l (a.put o.dst v) → AllInP P ops af cont V (i + 1) rs l (a.put o.dst v) ∧ leftBy af o = v := by
        intro v hr
        have hA := allInP_of (i := i + 1) (rs := rs) (l := l) (a := a.put o.dst v) (by rw [size_put]; exact hd2) hr
        refine ⟨hA, ?_⟩
        unfold leftBy
        rw [hod]
        have := hA.keep.2.2 d (fun o' ho' => by simpa using hd1.2 o' ho')
        simp only [this, hod]
        exact slot_put_same v hd1.1
      cases r with
      | q =>
        obtain ⟨v, hy, hr⟩ := yields_of_quiet (show wpQuiet P ops _ _ [o] a from h)
        obtain ⟨hA, he⟩ := key v hr
        exact ⟨show YieldsIn P ops _ o (leftBy af o) a by rw [he]; exact hy, by rw [he]; exact hA⟩
      | p =>
        obtain ⟨hg, hrun, hr⟩ := (show _ ∧ _ ∧ _ from h)
        obtain ⟨hA, he⟩ := key undef hr
        exact ⟨⟨hg, hrun⟩, by rw [he]; exact hA⟩
      | c j dd =>
        obtain ⟨u, hu, hr⟩ := (show ∃ u, _ ∧ _ from h)
        obtain ⟨hA, he⟩ := key u hr
        refine ⟨fun V' g hb hg => ?_, by rw [he]; exact hA⟩
        obtain ⟨v, hy, hv⟩ := yields_of_quiet (hu V' g hb hg)
        have : v = u := by
          rw [← hv, hod]
          exact (slot_put_same v (by rw [size_put]; exact hd1.1)).symm
        rw [he, ← this]
        exact hy
theorem AllInP.get : ∀ {b : Nat} {rs : List Role} {l : List Oper} {a : Act} {i : Nat} {o : Oper} {r : Role}, AllInP P ops af cont V b rs l a → l[i]? = some o → rs[i]? = some r → StepP P ops af cont V (b + i) r o (accum af (l.take i) a)
  | _, [], [], _, _, _, _, _, hi, _ => by simp at hi
  | _, [], _ :: _, _, _, _, _, h, _, _ => h.elim
  | _, _ :: _, [], _, _, _, _, h, _, _ => h.elim
  | b, r :: rs, o :: l, a, 0, o', r', h, hi, hr => by
    have e1 : o = o' := by simpa using hi
    have e2 : r = r' := by simpa using hr
    subst e1; subst e2
    exact h.1
  | b, r :: rs, o :: l, a, i + 1, o', r', h, hi, hr => by
    have := AllInP.get (i := i) h.2 (by simpa using hi) (by simpa using hr)
    rw [show b + (i + 1) = b + 1 + i from by omega]
    simpa [accum] using this
/-- the frame behind the head, with the blocks that have been made -/
def fillP (cont : Nat → Obj × (Nat → Value)) (gs : Nat → Nat) : Nat → List Role → List Oper → Act → Act
  | i, .p :: rs, o :: l, a => fillP cont gs (i + 1) rs l (a.put o.dst ((cont i).2 (gs i)))
  | i, .q :: rs, _ :: l, a => fillP cont gs (i + 1) rs l a
  | i, .c _ _ :: rs, _ :: l, a => fillP cont gs (i + 1) rs l a
  | _, [], _, a => a
  | _, _, [], a => a
theorem fillP_keep (gs : Nat → Nat) : ∀ (rs : List Role) (b : Nat) (l : List Oper) (a : Act), (fillP cont gs b rs l a).tmps.size = a.tmps.size ∧ (fillP cont gs b rs l a).defers = a.defers
  | [], _, _, _ => by unfold fillP; exact ⟨rfl, rfl⟩
  | .p :: rs, b, [], a => by unfold fillP; exact ⟨rfl, rfl⟩
  | .q :: rs, b, [], a => by unfold fillP; exact ⟨rfl, rfl⟩
  | .c _ _ :: rs, b, [], a => by unfold fillP; exact ⟨rfl, rfl⟩
  | .q :: rs, b, o :: l, a => by unfold fillP; exact fillP_keep gs rs (b + 1) l a
  | .c _ _ :: rs, b, o :: l, a => by unfold fillP; exact fillP_keep gs rs (b + 1) l a
  | .p :: rs, b, o :: l, a => by
    unfold fillP
    obtain ⟨h1, h2⟩ := fillP_keep gs rs (b + 1) l (a.put o.dst ((cont b).2 (gs b)))
    exact ⟨by rw [h1, size_put], by rw [h2, defers_put]⟩
theorem fillP_ne (gs : Nat → Nat) : ∀ (rs : List Role) (b : Nat) (l : List Oper) (a : Act) (t : Tmp), (∀ (i : Nat) (o : Oper), l[i]? = some o → rs[i]? = some Role.p → o.dst ≠ some t) → slotOf (fillP cont gs b rs l a) t = slotOf a t
  | [], _, _, _, _, _ => by unfold fillP; rfl
  | .p :: rs, b, [], a, _, _ => by unfold fillP; rfl
  | .q :: rs, b, [], a, _, _ => by unfold fillP; rfl
  | .c _ _ :: rs, b, [], a, _, _ => by unfold fillP; rfl
  | .q :: rs, b, o :: l, a, t, h => by
    unfold fillP
    exact fillP_ne gs rs (b + 1) l a t (fun i o ho hr => h (i + 1) o (by simpa using ho) (by simpa using hr))
  | .c _ _ :: rs, b, o :: l, a, t, h => by
    unfold fillP
    exact fillP_ne gs rs (b + 1) l a t (fun i o ho hr => h (i + 1) o (by simpa using ho) (by simpa using hr))
  | .p :: rs, b, o :: l, a, t, h => by
    unfold fillP
    rw [fillP_ne gs rs (b + 1) l _ t (fun i o ho hr => h (i + 1) o (by simpa using ho) (by simpa using hr))]
    exact slot_put_ne _ (h 0 o (by simp) (by simp))
theorem fillP_at (gs : Nat → Nat) : ∀ (rs : List Role) (b : Nat) (l : List Oper) (a : Act) (n i : Nat) (o : Oper) (t : Tmp), dstsOk n l = true → n = a.tmps.size → l[i]? = some o → rs[i]? = some Role.p → o.dst = some t → slotOf (fillP cont gs b rs l a) t = (cont (b + i)).2 (gs (b + i))
  | [], _, _, _, _, _, _, _, _, _, _, hr, _ => by simp at hr
  | _ :: rs, b, [], a, _, _, _, _, _, _, ho, _, _ => by simp at ho
  | .q :: rs, b, o :: l, a, n, 0, o', t, hd, hn, ho, hr, ht => by simp at hr
  | .c _ _ :: rs, b, o :: l, a, n, 0, o', t, hd, hn, ho, hr, ht => by simp at hr
  | .p :: rs, b, o :: l, a, n, 0, o', t, hd, hn, ho, hr, ht => by
    have e : o = o' := by simpa using ho
    subst e
    unfold fillP
    simp only [dstsOk, Bool.and_eq_true] at hd
    have h1 := hd.1
    rw [ht] at h1
    simp only [Bool.and_eq_true, decide_eq_true_eq, List.all_eq_true] at h1
    rw [fillP_ne gs rs (b + 1) l _ t (fun i o' ho' _ => by simpa using h1.2 o' (List.mem_of_getElem? ho')), ht]
    exact slot_put_same _ (by rw [← hn]; exact h1.1)
  | r :: rs, b, o :: l, a, n, i + 1, o', t, hd, hn, ho, hr, ht => by
    simp only [dstsOk, Bool.and_eq_true] at hd
    have key : ∀ a' : Act, a'.tmps.size = n → slotOf (fillP cont gs (b + 1) rs l a') t = (cont (b + (i + 1))).2 (gs (b + (i + 1))) := by
      intro a' ha'
      have := fillP_at gs rs (b + 1) l a' n i o' t hd.2 ha'.symm (by simpa using ho) (by simpa using hr) ht
      rw [this, show b + 1 + i = b + (i + 1) from by omega]
    cases r <;> unfold fillP
    · exact key _ hn.symm
    · exact key _ (by rw [size_put]; exact hn.symm)
    · exact key _ hn.symm
end

structure MidP (P : Program) (ops : Array Oper) (k : Nat) (rs : List Role) (cont : Nat → Obj × (Nat → Value)) (a0 af : Act) (W : World) (gs : Nat → Nat) (listed : Array Bool) (a : Act) (w : World) : Prop where
  size : listed.size = ops.size
  closed : ∀ j oj, ops[j]? = some oj → listed.getD j false = true → ∀ e ∈ oj.after, Region.binds .any e = true → listed.getD e.on false = true
  tail : ∀ t, k ≤ t → t < ops.size → listed.getD t true = false
  ahd : Below W.heap.size W w
  defers : a.defers = a0.defers
  tsize : a.tmps.size = a0.tmps.size
  put : ∀ j o t, j < k → ops[j]? = some o → o.dst = some t → listed.getD j false = true → rs[j]? ≠ some Role.p → slotOf a t = slotOf af t
  same : ∀ t, (∀ j o, j < k → ops[j]? = some o → listed.getD j false = true → o.dst ≠ some t) → slotOf a t = slotOf a0 t
  spec : ∀ j o t, j < k → ops[j]? = some o → o.dst = some t → listed.getD j false = true → rs[j]? = some Role.p → slotOf a t = (cont j).2 (gs j) ∧ W.heap.size ≤ gs j ∧ w.heap[gs j]? = some (cont j).1
  apart : ∀ j j', j < k → j' < k → j ≠ j' → listed.getD j false = true → listed.getD j' false = true → rs[j]? = some Role.p → rs[j']? = some Role.p → gs j ≠ gs j'

section
variable {P : Program} {Q : Exit → Act → World → Prop} {W : World} {a0 af : Act} {l : List Oper} {k : Nat} {rs : List Role} {cont : Nat → Obj × (Nat → Value)}
theorem wp_region_priv {id : Nat} (k : Nat) (rs : List Role) (cont : Nat → Obj × (Nat → Value)) (af : Act) (hm : P.follows .mixedOrders = true)
    (hB : privB l.toArray k a0.tmps.size rs = true)
    (hwalk : ∀ V : World, Below W.heap.size W V → wpP P l.toArray af cont V 0 rs (l.take k) a0)
    (htail : ∀ (gs : Nat → Nat) (w' : World), Below W.heap.size W w' → (∀ j : Nat, rs[j]? = some Role.p → W.heap.size ≤ gs j ∧ w'.heap[gs j]? = some (cont j).1) → (∀ j j' : Nat, rs[j]? = some Role.p → rs[j']? = some Role.p → j ≠ j' → gs j ≠ gs j') → wpList P l.toArray Q (l.drop k) (fillP cont gs 0 rs (l.take k) af) w') :
    (Code.region id l.toArray true).wp P Q a0 W := by
  unfold privB at hB
  simp only [Bool.and_eq_true, decide_eq_true_eq] at hB
  obtain ⟨⟨⟨hB, hrl⟩, hpc⟩, hcc⟩ := hB
  unfold headLB at hB
  simp only [Bool.and_eq_true, decide_eq_true_eq, List.all_eq_true, List.mem_range, Bool.or_eq_true] at hB hpc hcc
  obtain ⟨⟨⟨⟨⟨⟨hsel, hks⟩, hdst⟩, hback⟩, htl⟩, hdep⟩, hseq⟩ := hB
  have hsz : l.toArray.size = l.length := by simp
  have hkl : k ≤ l.length := by rw [← hsz]; exact hks
  have hdk : dstsOk a0.tmps.size (l.take k) = true := hdst
  have hall : ∀ V : World, Below W.heap.size W V → AllInP P l.toArray af cont V 0 rs (l.take k) a0 := fun V hV => allInP_of hdk (hwalk V hV)
  have hA0 := hall W (Below.refl _ _)
  have hget : ∀ i, i < k → (l.take k)[i]? = l[i]? := fun i hi => by rw [List.getElem?_take]; simp [hi]
  have hrole : ∀ i, i < k → ∃ r, rs[i]? = some r := fun i hi => ⟨rs[i]'(by omega), by simp [hrl, hi]⟩
  have hafs : ∀ t, (∀ j o, j < k → l[j]? = some o → o.dst ≠ some t) → slotOf af t = slotOf a0 t := fun t ht => hA0.keep.2.2 t (fun o ho => by
    obtain ⟨j, hj⟩ := List.getElem?_of_mem ho
    rw [List.getElem?_take] at hj
    split at hj
    · exact ht j o (by assumption) hj
    · cases hj)
  have hback' : ∀ i o, l[i]? = some o → ∀ e ∈ o.after, Region.binds .any e = true → e.on < i := by
    intro i o hi e he hb
    have hil : i < l.length := (List.getElem?_eq_some_iff.1 hi).1
    have h1 := hback i (by rw [hsz]; exact hil)
    have hi' : l.toArray[i]? = some o := by simpa using hi
    rw [hi'] at h1
    have h2 := Array.all_eq_true_iff_forall_mem.1 h1 e he
    simpa [hb] using h2
  have hdep' : ∀ i o j oj d, i < k → l[i]? = some o → j < k → l[j]? = some oj → oj.dst = some d → d ∈ o.looksAt l.toArray → j < i ∧ waitsB1 .any l.toArray i j = true := by
    intro i o j oj d hi ho hj hoj hd hmem
    have h1 := hdep i hi j (by omega)
    have ho' : l.toArray[i]? = some o := by simpa using ho
    have hoj' : l.toArray[j]? = some oj := by simpa using hoj
    rw [ho', hoj'] at h1
    simp only [hd] at h1
    have hc : (o.looksAt l.toArray).contains d = true := by simpa using hmem
    rw [hc] at h1
    simpa using h1
  have heat : ∀ i o j oj d r, i < k → l[i]? = some o → j < k → l[j]? = some oj → oj.dst = some d → d ∈ o.looksAt l.toArray → rs[j]? = some Role.p → rs[i]? = some r → r.eats j d = true := by
    intro i o j oj d r hi ho hj hoj hd hmem hrj hri
    have h1 := hpc i hi j hj
    have ho' : l.toArray[i]? = some o := by simpa using ho
    have hoj' : l.toArray[j]? = some oj := by simpa using hoj
    rw [ho', hoj', hri, hrj] at h1
    simp only [hd] at h1
    have hc : (o.looksAt l.toArray).contains d = true := by simpa using hmem
    rw [hc] at h1
    simpa [Role.isP] using h1
  have hfood : ∀ i o j d, i < k → l[i]? = some o → rs[i]? = some (.c j d) → j < k ∧ rs[j]? = some Role.p ∧ (∃ oj, l[j]? = some oj ∧ oj.dst = some d) ∧ d ∈ o.looksAt l.toArray := by
    intro i o j d hi ho hri
    have h1 := hcc i hi
    have ho' : l.toArray[i]? = some o := by simpa using ho
    rw [ho', hri] at h1
    simp only [Bool.and_eq_true, decide_eq_true_eq] at h1
    obtain ⟨⟨hjk, h2⟩, h3⟩ := h1
    obtain ⟨rj, hrj⟩ := hrole j hjk
    have hoj : l[j]? = some (l[j]'(by omega)) := by simp
    have hoj' : l.toArray[j]? = some (l[j]'(by omega)) := by simp
    rw [hoj', hrj] at h2
    simp only [Bool.and_eq_true, beq_iff_eq] at h2
    refine ⟨hjk, ?_, ⟨_, hoj, h2.2⟩, by simpa using h3⟩
    cases rj with
    | p => exact hrj
    | q => cases h2.1
    | c _ _ => cases h2.1
  have dlt : ∀ i o, i < k → l[i]? = some o → ∃ d, o.dst = some d ∧ d < a0.tmps.size := fun i o hi ho => dsts_lt _ _ i o hdk (by rw [hget i (by omega)]; exact ho)
  have dne : ∀ i j o oj t, i < k → j < k → l[i]? = some o → l[j]? = some oj → i ≠ j → oj.dst = some t → o.dst ≠ some t := fun i j o oj t hi hj ho hoj hne hd => dsts_ne _ _ j i oj o t hdk (by rw [hget j (by omega)]; exact hoj) (by rw [hget i (by omega)]; exact ho) (Ne.symm hne) hd
  have fin : ∀ (gs : Nat → Nat) (listed : Array Bool) (a : Act) (w : World), MidP P l.toArray k rs cont a0 af W gs listed a w → (∀ i, i < k → listed.getD i false = true) → ∀ fuel, unl listed = fuel → wpAny P .any l.toArray Q fuel listed a w := by
    intro gs listed a w m hdone fuel hu
    have hLH : listed = Array.replicate k true ++ Array.replicate (l.toArray.size - k) false := by
      apply Array.ext
      · simp [m.size]; omega
      · intro i h1 h2
        rcases Nat.lt_or_ge i k with h' | h
        rotate_left 1
        · have := m.tail i h (by rw [← m.size]; exact h1)
          rw [Array.getElem_append_right (by simp; omega)]
          simpa [h1] using this
        · have := hdone i h'
          rw [Array.getElem_append_left (by simp; omega)]
          simpa [h1] using this
    have hae : a = fillP cont gs 0 rs (l.take k) af := by
      have hs0 := hA0.keep
      have hf0 := fillP_keep (cont := cont) gs rs 0 (l.take k) af
      refine act_ext ?_ ?_ ?_
      · rw [m.tsize, hf0.1, hs0.1]
      · rw [m.defers, hf0.2, hs0.2.1]
      · intro t
        by_cases hex : ∃ j o, j < k ∧ l[j]? = some o ∧ o.dst = some t
        · obtain ⟨j, o, hj, ho, hd⟩ := hex
          by_cases hp : rs[j]? = some Role.p
          · rw [(m.spec j o t hj (by simpa using ho) hd (hdone j hj) hp).1]
            have := fillP_at (cont := cont) gs rs 0 (l.take k) af a0.tmps.size j o t hdk hs0.1.symm (by rw [hget j hj]; exact ho) hp hd
            rw [this, Nat.zero_add]
          · rw [m.put j o t hj (by simpa using ho) hd (hdone j hj) hp]
            rw [fillP_ne gs rs 0 (l.take k) af t (fun i o' ho' hr' => ?_)]
            have hik : i < k := by
              have := (List.getElem?_eq_some_iff.1 ho').1
              simp at this
              omega
            by_cases hij : i = j
            · subst hij; exact absurd hr' hp
            · exact dne i j o' o t hik hj (by rw [← hget i hik]; exact ho') ho hij hd
        · rw [m.same t (fun j o hj ho _ hd => hex ⟨j, o, hj, by simpa using ho, hd⟩)]
          rw [fillP_ne gs rs 0 (l.take k) af t (fun i o' ho' hr' hd => hex ⟨i, o', by have := (List.getElem?_eq_some_iff.1 ho').1; simp at this; omega, by rw [← hget i (by have := (List.getElem?_eq_some_iff.1 ho').1; simp at this; omega)]; exact ho', hd⟩)]
          exact (hafs t (fun j o hj ho hd => hex ⟨j, o, hj, ho, hd⟩)).symm
    have hfu : fuel = (l.drop k).length := by
      rw [← hu, hLH, unl_done]
      simp
    rw [hfu, hae]
    have hpk : ∀ j, rs[j]? = some Role.p → j < k := fun j hj => by
      have := (List.getElem?_eq_some_iff.1 hj).1
      omega
    refine wpAny_of_seq (l.drop k) k listed _ w (fun j => by simp [List.getElem?_drop]) ?_ (htail gs w m.ahd (fun j hj => ?_) (fun j j' hj hj' hne => m.apart j j' (hpk j hj) (hpk j' hj') hne (hdone j (hpk j hj)) (hdone j' (hpk j' hj')) hj hj'))
    · rw [hLH]
      have : (l.drop k).length = l.toArray.size - k := by simp
      rw [this]
      exact hseq
    · have hjk := hpk j hj
      have hoj : l[j]? = some (l[j]'(by omega)) := by simp
      obtain ⟨d, hd, _⟩ := dlt j _ hjk hoj
      exact (m.spec j _ d hjk (by simp) hd (hdone j hjk) hj).2
  have main : ∀ (fuel : Nat) (gs : Nat → Nat) (listed : Array Bool) (a : Act) (w : World), MidP P l.toArray k rs cont a0 af W gs listed a w → unl listed = fuel → wpAny P .any l.toArray Q fuel listed a w := by
    intro fuel
    induction fuel with
    | zero =>
      intro gs listed a w m hu
      by_cases hdone : ∀ i, i < k → listed.getD i false = true
      · exact fin gs listed a w m hdone _ hu
      · obtain ⟨i, hi, _, hun⟩ := first_no' listed k hdone
        have := unl_set (listed := listed) (i := i) (by rw [m.size]; omega) (by rw [getD_tf (by rw [m.size]; omega)]; exact hun)
        omega
    | succ fuel ih =>
      intro gs listed a w m hu
      by_cases hdone : ∀ i, i < k → listed.getD i false = true
      · exact fin gs listed a w m hdone _ hu
      · obtain ⟨i0, hi0, hpre, hun0⟩ := first_no' listed k hdone
        refine ⟨fun h0 => ?_, fun i hi => ?_⟩
        · have hr : i0 ∈ Region.ready .any l.toArray listed := by
            rw [mem_ready]
            refine ⟨by rw [getD_tf (by rw [m.size]; omega)]; exact hun0, l[i0]'(by omega), by simp, fun e he hb => hpre _ ?_⟩
            exact hback' i0 _ (by simp) e he hb
          rw [h0] at hr
          cases hr
        · have hi' := hi
          obtain ⟨hun, o, ho, hw⟩ := mem_ready.1 hi
          have hil : i < l.length := by
            have := (Array.getElem?_eq_some_iff.1 ho).1
            simpa using this
          have hol : l[i]? = some o := by simpa using ho
          have hun' : unl (listed.setIfInBounds i true) = fuel := by
            have := unl_set (listed := listed) (i := i) (by rw [m.size]; omega) hun
            omega
          have hik : i < k := by
            rcases Nat.lt_or_ge i k with h | h
            rotate_left 1
            · have h1 := (htl i (by omega)).resolve_left (by omega)
              have h2 : (coverB l.toArray l.toArray.size (depsB l.toArray i (List.replicate l.toArray.size false))).getD i0 false = true := by
                have hlen := cover_length (ops := l.toArray) l.toArray.size (depsB l.toArray i (List.replicate l.toArray.size false))
                rw [deps_length, List.length_replicate] at hlen
                have hm : (coverB l.toArray l.toArray.size (depsB l.toArray i (List.replicate l.toArray.size false)))[i0]'(by rw [hlen, hsz]; omega) ∈ (coverB l.toArray l.toArray.size (depsB l.toArray i (List.replicate l.toArray.size false))).take k :=
                  List.mem_take_iff_getElem.2 ⟨i0, by rw [hlen, hsz]; omega, rfl⟩
                have := h1 _ hm
                rw [List.getD_eq_getElem?_getD, List.getElem?_eq_getElem (by rw [hlen, hsz]; omega)]
                exact this
              have h3 := cover_listed (ops := l.toArray) m.closed l.toArray.size _ (fun j hj => ?_) i0 h2
              · rw [hun0] at h3
                cases h3
              · unfold depsB at hj
                rw [ho] at hj
                refine deps_listed _ _ (fun e he hb => hw e (by simpa using he) hb) (fun q hq => ?_) j hj
                rw [List.getD_eq_getElem?_getD, List.getElem?_replicate] at hq
                split at hq <;> cases hq
            · exact h
          have hclosed : ∀ j oj, l.toArray[j]? = some oj → (listed.setIfInBounds i true).getD j false = true → ∀ e ∈ oj.after, Region.binds .any e = true → (listed.setIfInBounds i true).getD e.on false = true := by
            intro j oj hj hl e he hb
            by_cases hji : i = j
            · subst hji
              rw [ho] at hj
              cases hj
              exact getD_set_true (hw e he hb)
            · rw [getD_set_ne false hji] at hl
              exact getD_set_true (m.closed j oj hj hl e he hb)
          have htail' : ∀ t, k ≤ t → t < l.toArray.size → (listed.setIfInBounds i true).getD t true = false := fun t ht ht' => by rw [getD_set_ne true (by omega)]; exact m.tail t ht ht'
          obtain ⟨d, hod, hdlt⟩ := dlt i o hik hol
          obtain ⟨r, hri⟩ := hrole i hik
          have hset : (listed.setIfInBounds i true).getD i false = true := by
            have : i < listed.size := by rw [m.size]; omega
            simp [this]
          have hunl : listed.getD i false = false := by rw [← getD_tf (by rw [m.size]; omega)]; exact hun
          -- the slots that the operation looks at, but for a block of its own kind
          have hlook : ∀ t ∈ o.looksAt l.toArray, (∀ j oj, j < k → l[j]? = some oj → oj.dst = some t → rs[j]? = some Role.p → False) → slotOf a t = slotOf (accum af ((l.take k).take i) a0) t := by
            intro t ht hnp
            rw [accum_slot _ _ _ (dstsOk_take _ _ _ hdk)]
            by_cases hex : ∃ j oj, j < k ∧ l[j]? = some oj ∧ oj.dst = some t
            · obtain ⟨j, oj, hj, hoj, hdt⟩ := hex
              obtain ⟨hji, hwt⟩ := hdep' i o j oj t hik hol hj hoj hdt ht
              obtain ⟨e, he, hb, heo⟩ := waitsB1_spec ho hwt
              have hlj := hw e he hb
              rw [heo] at hlj
              rw [m.put j oj t (by omega) (by simpa using hoj) hdt hlj (fun h => hnp j oj hj hoj hdt h), if_pos]
              rw [List.any_eq_true]
              refine ⟨oj, ?_, by simp [hdt]⟩
              refine List.mem_of_getElem? (i := j) ?_
              rw [List.getElem?_take, List.getElem?_take]
              simp only [hji, show j < k by omega, if_true, hoj]
            · rw [m.same t (fun j oj hj hoj _ hdt => hex ⟨j, oj, by omega, by simpa using hoj, hdt⟩), if_neg]
              intro hany
              rw [List.any_eq_true] at hany
              obtain ⟨oj, hmem, hdt⟩ := hany
              obtain ⟨j, hj⟩ := List.getElem?_of_mem (List.mem_of_mem_take hmem)
              rw [List.getElem?_take] at hj
              split at hj
              · exact hex ⟨j, oj, by omega, hj, by simpa using hdt⟩
              · cases hj
          have hstep := (hall w m.ahd).get (i := i) (o := o) (r := r) (by rw [hget i hik]; exact hol) hri
          rw [Nat.zero_add] at hstep
          -- what comes behind an operation that leaves a fixed value
          have after : rs[i]? ≠ some Role.p → ∀ x : Past w, wpAny P .any l.toArray Q fuel (listed.setIfInBounds i true) (a.put o.dst (leftBy af o)) x.w := by
            intro hnp x
            refine ih gs _ _ _ ⟨by simp [m.size], hclosed, htail', m.ahd.trans (x.far.mono m.ahd.size), by rw [defers_put]; exact m.defers, by rw [size_put]; exact m.tsize, ?_, ?_, ?_, ?_⟩ hun'
            · intro j oj t hj hoj hdt hl hrj
              by_cases hji : i = j
              · subst hji
                rw [ho] at hoj
                cases hoj
                have : leftBy af o = slotOf af t := by simp [leftBy, hdt]
                rw [hdt, this]
                rw [hod] at hdt
                cases hdt
                exact slot_put_same _ (by rw [m.tsize]; exact hdlt)
              · rw [getD_set_ne false hji] at hl
                rw [slot_put_ne _ (dne i j o oj t hik hj hol (by simpa using hoj) hji hdt)]
                exact m.put j oj t hj hoj hdt hl hrj
            · intro t hno
              rw [slot_put_ne _ (hno i o hik ho hset)]
              exact m.same t (fun j oj hj hoj hl => hno j oj hj hoj (getD_set_true hl))
            · intro j oj t hj hoj hdt hl hrj
              have hji : i ≠ j := fun e => hnp (by rw [e]; exact hrj)
              rw [getD_set_ne false hji] at hl
              obtain ⟨h1, h2, h3⟩ := m.spec j oj t hj hoj hdt hl hrj
              refine ⟨by rw [slot_put_ne _ (dne i j o oj t hik hj hol (by simpa using hoj) hji hdt)]; exact h1, h2, ?_⟩
              rw [x.far.block _ (Array.getElem?_eq_some_iff.1 h3).1]
              exact h3
            · intro j j' hj hj' hne hl hl' hrj hrj'
              have hji : i ≠ j := fun e => hnp (by rw [e]; exact hrj)
              have hji' : i ≠ j' := fun e => hnp (by rw [e]; exact hrj')
              rw [getD_set_ne false hji] at hl
              rw [getD_set_ne false hji'] at hl'
              exact m.apart j j' hj hj' hne hl hl' hrj hrj'
          have exec : ∀ b : Act, (∀ t ∈ o.looksAt l.toArray, slotOf a t = slotOf b t) → execOp a.eval o = execOp b.eval o := fun b hb => execOp_congr o (fun cs b => Region.noSelect_spec hsel i o cs b ho) (fun x hx => by
            cases x with
            | tmp t => exact hb t (List.mem_append_left _ (List.mem_filterMap.2 ⟨.tmp t, by simpa using hx, rfl⟩))
            | _ => rfl)
          cases r with
          | q =>
            have hl : ∀ t ∈ o.looksAt l.toArray, slotOf a t = slotOf (accum af ((l.take k).take i) a0) t := fun t ht => hlook t ht (fun j oj hj hoj hdt hrj => by
              have := heat i o j oj t _ hik hol hj hoj hdt ht hrj hri
              cases this)
            have hy' := YieldsIn.of_same (show YieldsIn P l.toArray _ o (leftBy af o) _ from hstep) (exec _ hl) (wanted_congr hl)
            refine wpOp_of_qOp (C := fun w' => ∃ x : Past w, w' = x.w) ⟨⟨w, Below.refl _ _⟩, rfl⟩ (fun a' w' hx ha => ?_) (hy'.qOp ho (K := fun a' => a' = a.put o.dst (leftBy af o)) rfl)
            obtain ⟨x, rfl⟩ := hx
            subst ha
            exact after (by rw [hri]; simp) x
          | c j dd =>
            obtain ⟨hjk, hrj, ⟨oj, hoj, hdj⟩, hmem⟩ := hfood i o j dd hik hol hri
            obtain ⟨hji, hwt⟩ := hdep' i o j oj dd hik hol hjk hoj hdj hmem
            obtain ⟨e, he, hb, heo⟩ := waitsB1_spec ho hwt
            have hlj := hw e he hb
            rw [heo] at hlj
            obtain ⟨s1, s2, s3⟩ := m.spec j oj dd hjk (by simpa using hoj) hdj hlj hrj
            have hst := (show ∀ (V' : World) (g : Nat), _ → _ → YieldsIn P l.toArray _ o (leftBy af o) _ from hstep) w (gs j) (Below.refl _ _) s3
            obtain ⟨dj', hdj', hdjlt⟩ := dlt j oj hjk hoj
            have hdd : dj' = dd := by rw [hdj] at hdj'; exact (Option.some.inj hdj').symm
            rw [hdd] at hdjlt
            have hacc : (accum af ((l.take k).take i) a0).tmps.size = a0.tmps.size := by
              have : ∀ (l : List Oper) (a : Act), (accum af l a).tmps.size = a.tmps.size := by
                intro l
                induction l with
                | nil => intro a; rfl
                | cons o l ih => intro a; show (accum af l (a.put o.dst (leftBy af o))).tmps.size = _; rw [ih, size_put]
              exact this _ _
            have hl : ∀ t ∈ o.looksAt l.toArray, slotOf a t = slotOf ((accum af ((l.take k).take i) a0).put (some dd) ((cont j).2 (gs j))) t := by
              intro t ht
              by_cases htd : t = dd
              · subst htd
                rw [s1, slot_put_same _ (by rw [hacc]; exact hdjlt)]
              · rw [slot_put_ne _ (fun e => htd (by cases e; rfl))]
                refine hlook t ht (fun j' oj' hj' hoj' hdt' hrj' => ?_)
                have := heat i o j' oj' t _ hik hol hj' hoj' hdt' ht hrj' hri
                simp only [Role.eats, Bool.and_eq_true, beq_iff_eq] at this
                exact htd this.2.symm
            have hy' := YieldsIn.of_same hst (exec _ hl) (wanted_congr hl)
            refine wpOp_of_qOp (C := fun w' => ∃ x : Past w, w' = x.w) ⟨⟨w, Below.refl _ _⟩, rfl⟩ (fun a' w' hx ha => ?_) (hy'.qOp ho (K := fun a' => a' = a.put o.dst (leftBy af o)) rfl)
            obtain ⟨x, rfl⟩ := hx
            subst ha
            exact after (by rw [hri]; simp) x
          | p =>
            obtain ⟨hg, hrun⟩ := (show _ ∧ _ from hstep)
            have hl : ∀ t ∈ o.looksAt l.toArray, slotOf a t = slotOf (accum af ((l.take k).take i) a0) t := fun t ht => hlook t ht (fun j oj hj hoj hdt hrj => by
              have := heat i o j oj t _ hik hol hj hoj hdt ht hrj hri
              cases this)
            unfold wpOp
            simp only [ho]
            rw [if_pos (by rw [wanted_congr hl]; exact hg)]
            refine .inl ?_
            unfold Oper.wp
            rw [exec _ hl, hrun]
            show wpAny P .any l.toArray Q fuel (listed.setIfInBounds i true) (a.put o.dst ((cont i).2 w.heap.size)) (w.alloc (cont i).1)
            refine ih (fun j => if j = i then w.heap.size else gs j) _ _ _ ⟨by simp [m.size], hclosed, htail', m.ahd.alloc m.ahd.size _, by rw [defers_put]; exact m.defers, by rw [size_put]; exact m.tsize, ?_, ?_, ?_, ?_⟩ hun'
            · intro j oj t hj hoj hdt hlj hrj
              have hji : i ≠ j := fun e => hrj (by rw [← e]; exact hri)
              rw [getD_set_ne false hji] at hlj
              rw [slot_put_ne _ (dne i j o oj t hik hj hol (by simpa using hoj) hji hdt)]
              exact m.put j oj t hj hoj hdt hlj hrj
            · intro t hno
              rw [slot_put_ne _ (hno i o hik ho hset)]
              exact m.same t (fun j oj hj hoj hl => hno j oj hj hoj (getD_set_true hl))
            · intro j oj t hj hoj hdt hlj hrj
              by_cases hji : i = j
              · subst hji
                rw [ho] at hoj
                cases hoj
                simp only [if_true]
                refine ⟨?_, m.ahd.size, ?_⟩
                · rw [hdt]
                  rw [hod] at hdt
                  cases hdt
                  exact slot_put_same _ (by rw [m.tsize]; exact hdlt)
                · show (w.heap.push _)[w.heap.size]? = _
                  simp
              · rw [getD_set_ne false hji] at hlj
                obtain ⟨h1, h2, h3⟩ := m.spec j oj t hj hoj hdt hlj hrj
                have hne : ¬ j = i := fun e => hji e.symm
                simp only [if_neg hne]
                refine ⟨by rw [slot_put_ne _ (dne i j o oj t hik hj hol (by simpa using hoj) hji hdt)]; exact h1, h2, ?_⟩
                rw [Below.heap_alloc _ _ _ (Array.getElem?_eq_some_iff.1 h3).1]
                exact h3
            · have old : ∀ j, j < k → i ≠ j → (listed.setIfInBounds i true).getD j false = true → rs[j]? = some Role.p → gs j < w.heap.size := by
                intro j hj hji hlj hrj
                rw [getD_set_ne false hji] at hlj
                have hoj : l[j]? = some (l[j]'(by omega)) := by simp
                obtain ⟨d', hd', _⟩ := dlt j _ hj hoj
                exact (Array.getElem?_eq_some_iff.1 (m.spec j _ d' hj (by simp) hd' hlj hrj).2.2).1
              intro j j' hj hj' hne hlj hlj' hrj hrj'
              by_cases hji : i = j
              · subst hji
                have := old j' hj' hne hlj' hrj'
                rw [if_pos rfl, if_neg (fun e => hne e.symm)]
                omega
              · by_cases hji' : i = j'
                · subst hji'
                  have := old j hj hji hlj hrj
                  rw [if_neg hne, if_pos rfl]
                  omega
                · rw [if_neg (fun e => hji e.symm), if_neg (fun e => hji' e.symm)]
                  rw [getD_set_ne false hji] at hlj
                  rw [getD_set_ne false hji'] at hlj'
                  exact m.apart j j' hj hj' hne hlj hlj' hrj hrj'
  refine wp_region_any hm (main _ (fun _ => 0) _ a0 _ ?_ (by rw [unl_rep]))
  refine ⟨by simp, ?_, ?_, (Below.refl _ _).drew, rfl, rfl, ?_, ?_, ?_, ?_⟩
  · intro j oj hj h
    rw [getD_replicate_false] at h
    cases h
  · intro t _ ht
    have : (Array.replicate l.toArray.size false).getD t true = false := by simp at ht; simp [ht]
    exact this
  · intro j o t _ _ _ h
    rw [getD_replicate_false] at h
    cases h
  · intro t _; rfl
  · intro j o t _ _ _ h
    rw [getD_replicate_false] at h
    cases h
  · intro j j' _ _ _ h
    rw [getD_replicate_false] at h
    cases h
end
end Go.Proofs.Ytcneohhfnnelgaa
