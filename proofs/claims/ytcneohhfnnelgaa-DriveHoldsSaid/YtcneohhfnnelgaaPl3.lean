/- General: a region that draws its order: operations that read, callees that read or make memory, and operations that make a block of their own (a new variable, a slice that is built), which at most one callee of the region reads; then stores. One walk in the order of the text. The limiter of drive in memory; its parts; plain words for a motor with tolerances. The contract of newLimiter of drive. The contract of product of drive, at two and three spans. The contract of product of drive at three spans. General: a list of blocks that lie in memory; a block filled from its first cell on. The contract of the limiter's inners of drive. The contract of inners of coulombref06. The contracts of the limiter's inners and both of drive, and of inners of coulombref06, by plain words. General: append of any slice onto a row of the call's own. -/
import Derived.Test.YtcneohhfnnelgaaPl2
import Derived.Deep.Cut
import Derived.Deep.AppendLies
import Derived.Deep.AppendSrc
namespace Go.Proofs.Ytcneohhfnnelgaa
open Go Go.RowKit
set_option linter.unusedVariables false

/-- what an operation does: it reads or calls (q), it makes a block of its own (p), it calls with the block that operation j has laid into slot d (c) -/
inductive Role where
  | q
  | p
  | c (j d : Nat)
def Role.isP : Role → Bool
  | .p => true
  | _ => false
def Role.eats : Role → Nat → Nat → Bool
  | .c j d, j', d' => (j == j') && (d == d')
  | _, _, _ => false
/-- S, and what operation t waits for -/
def depsB (ops : Array Oper) (t : Nat) (S : List Bool) : List Bool :=
  match ops[t]? with
  | some o => o.after.toList.foldl (fun S e => if Region.binds .any e = true then S.set e.on true else S) S
  | none => S
/-- S, and all that its operations wait for, each through others -/
def coverB (ops : Array Oper) : Nat → List Bool → List Bool
  | 0, S => S
  | n + 1, S => coverB ops n (if S.getD n false = true then depsB ops n S else S)
theorem getD_set_list {S : List Bool} {i j : Nat} (h : (S.set i true).getD j false = true) : j = i ∨ S.getD j false = true := by
  by_cases hij : j = i
  · exact .inl hij
  · right
    rwa [List.getD_eq_getElem?_getD, List.getElem?_set_ne (fun e => hij e.symm), ← List.getD_eq_getElem?_getD] at h
theorem deps_listed {listed : Array Bool} (l : List Edge) (S : List Bool) (he : ∀ e ∈ l, Region.binds .any e = true → listed.getD e.on false = true) (hS : ∀ i, S.getD i false = true → listed.getD i false = true) (i : Nat)
    (h : (l.foldl (fun S e => if Region.binds .any e = true then S.set e.on true else S) S).getD i false = true) : listed.getD i false = true := by
  induction l generalizing S with
  | nil => exact hS i h
  | cons e l ih =>
    rw [List.foldl_cons] at h
    refine ih _ (fun e' he' => he e' (by simp [he'])) (fun j hj => ?_) h
    split at hj
    · rename_i hb
      rcases getD_set_list hj with rfl | h'
      · exact he e (by simp) hb
      · exact hS j h'
    · exact hS j hj
theorem cover_listed {ops : Array Oper} {listed : Array Bool} (hc : ∀ j oj, ops[j]? = some oj → listed.getD j false = true → ∀ e ∈ oj.after, Region.binds .any e = true → listed.getD e.on false = true) :
    ∀ (n : Nat) (S : List Bool), (∀ i, S.getD i false = true → listed.getD i false = true) → ∀ i, (coverB ops n S).getD i false = true → listed.getD i false = true
  | 0, S, hS, i, h => hS i h
  | n + 1, S, hS, i, h => by
    unfold coverB at h
    refine cover_listed hc n _ (fun j hj => ?_) i h
    split at hj
    · rename_i hn
      unfold depsB at hj
      split at hj
      · rename_i o ho
        exact deps_listed _ S (fun e he hb => hc n o ho (hS n hn) e (by simpa using he) hb) hS j hj
      · exact hS j hj
    · exact hS j hj
theorem deps_length (ops : Array Oper) (t : Nat) (S : List Bool) : (depsB ops t S).length = S.length := by
  unfold depsB
  split
  · rename_i o _
    generalize o.after.toList = l
    induction l generalizing S with
    | nil => rfl
    | cons e l ih =>
      rw [List.foldl_cons, ih]
      split
      · simp
      · rfl
  · rfl
theorem cover_length {ops : Array Oper} : ∀ (n : Nat) (S : List Bool), (coverB ops n S).length = S.length
  | 0, S => rfl
  | n + 1, S => by
    unfold coverB
    rw [cover_length n]
    split
    · exact deps_length ops n S
    · rfl
def headLB (ops : Array Oper) (k n : Nat) : Bool :=
  Region.noSelect ops && decide (k ≤ ops.size) && dstsOk n (ops.toList.take k) &&
  (List.range ops.size).all (fun i => match ops[i]? with | some o => o.after.all (fun e => !Region.binds .any e || decide (e.on < i)) | none => false) &&
  (List.range ops.size).all (fun t => decide (t < k) || ((coverB ops ops.size (depsB ops t (List.replicate ops.size false))).take k).all (fun b => b)) &&
  (List.range k).all (fun i => (List.range k).all fun j => match ops[i]?, ops[j]? with
    | some oi, some oj => (match oj.dst with | some d => !(oi.looksAt ops).contains d || (decide (j < i) && waitsB1 .any ops i j) | none => false)
    | _, _ => false) &&
  Region.seqB .any ops (ops.size - k) k (Array.replicate k true ++ Array.replicate (ops.size - k) false)
def privB (ops : Array Oper) (k n : Nat) (rs : List Role) : Bool :=
  headLB ops k n && decide (rs.length = k) &&
  (List.range k).all (fun i => (List.range k).all fun j => match ops[i]?, ops[j]?, rs[i]?, rs[j]? with
    | some oi, some oj, some ri, some rj => !rj.isP || (match oj.dst with | some d => !(oi.looksAt ops).contains d || ri.eats j d | none => false)
    | _, _, _, _ => false) &&
  (List.range k).all (fun i => match ops[i]?, rs[i]? with
    | some oi, some (.c j d) => decide (j < k) && (match ops[j]?, rs[j]? with | some oj, some rj => rj.isP && (oj.dst == some d) | _, _ => false) && (oi.looksAt ops).contains d
    | _, _ => true)
def slotTo (a : Act) : Option Tmp → Value
  | some t => slotOf a t
  | none => undef
section
variable {P : Program} {ops : Array Oper} {af : Act} {cont : Nat → Obj × (Nat → Value)} {V : World}
def StepP (P : Program) (ops : Array Oper) (af : Act) (cont : Nat → Obj × (Nat → Value)) (V : World) (i : Nat) (r : Role) (o : Oper) (a : Act) : Prop :=
  match r with
  | .q => YieldsIn P ops (fun w' => ∃ x : Past V, w' = x.w) o (leftBy af o) a
  | .p => Region.wanted o (yielded ops a.tmps) = true ∧ ∀ w : World, (execOp a.eval o).run P w = .ok (.value ((cont i).2 w.heap.size)) (w.alloc (cont i).1)
  | .c j d => ∀ (V' : World) (g : Nat), Below V.heap.size V V' → V'.heap[g]? = some (cont j).1 → YieldsIn P ops (fun w' => ∃ x : Past V', w' = x.w) o (leftBy af o) (a.put (some d) ((cont j).2 g))
def AllInP (P : Program) (ops : Array Oper) (af : Act) (cont : Nat → Obj × (Nat → Value)) (V : World) : Nat → List Role → List Oper → Act → Prop
  | _, [], [], a => a = af
  | i, r :: rs, o :: l, a => StepP P ops af cont V i r o a ∧ AllInP P ops af cont V (i + 1) rs l (a.put o.dst (leftBy af o))
  | _, _, _, _ => False
/-- the walk in the order of the text -/
def wpP (P : Program) (ops : Array Oper) (af : Act) (cont : Nat → Obj × (Nat → Value)) (V : World) : Nat → List Role → List Oper → Act → Prop
  | _, [], [], a => a = af
  | i, .q :: rs, o :: l, a => wpQuiet P ops (fun w' => ∃ x : Past V, w' = x.w) (fun a' => wpP P ops af cont V (i + 1) rs l a') [o] a
  | i, .p :: rs, o :: l, a => Region.wanted o (yielded ops a.tmps) = true ∧ (∀ w : World, (execOp a.eval o).run P w = .ok (.value ((cont i).2 w.heap.size)) (w.alloc (cont i).1)) ∧ wpP P ops af cont V (i + 1) rs l (a.put o.dst undef)
  | i, .c j d :: rs, o :: l, a => ∃ u, (∀ (V' : World) (g : Nat), Below V.heap.size V V' → V'.heap[g]? = some (cont j).1 → wpQuiet P ops (fun w' => ∃ x : Past V', w' = x.w) (fun a' => slotTo a' o.dst = u) [o] (a.put (some d) ((cont j).2 g))) ∧ wpP P ops af cont V (i + 1) rs l (a.put o.dst u)
  | _, _, _, _ => False
theorem wpP_nil {i : Nat} {a : Act} (h : a = af) : wpP P ops af cont V i [] [] a := h
theorem wpP_q {i : Nat} {rs : List Role} {o : Oper} {l : List Oper} {a : Act} (h : wpQuiet P ops (fun w' => ∃ x : Past V, w' = x.w) (fun a' => wpP P ops af cont V (i + 1) rs l a') [o] a) : wpP P ops af cont V i (.q :: rs) (o :: l) a := h
theorem wpP_p {i : Nat} {rs : List Role} {o : Oper} {l : List Oper} {a : Act} (hg : Region.wanted o (yielded ops a.tmps) = true) (h : ∀ w : World, (execOp a.eval o).run P w = .ok (.value ((cont i).2 w.heap.size)) (w.alloc (cont i).1)) (k : wpP P ops af cont V (i + 1) rs l (a.put o.dst undef)) : wpP P ops af cont V i (.p :: rs) (o :: l) a := ⟨hg, h, k⟩
theorem wpP_c {i j d : Nat} {rs : List Role} {o : Oper} {l : List Oper} {a : Act} (u : Value) (h : ∀ (V' : World) (g : Nat), Below V.heap.size V V' → V'.heap[g]? = some (cont j).1 → wpQuiet P ops (fun w' => ∃ x : Past V', w' = x.w) (fun a' => slotTo a' o.dst = u) [o] (a.put (some d) ((cont j).2 g))) (k : wpP P ops af cont V (i + 1) rs l (a.put o.dst u)) : wpP P ops af cont V i (.c j d :: rs) (o :: l) a := ⟨u, h, k⟩

theorem AllInP.keep : ∀ {i : Nat} {rs : List Role} {l : List Oper} {a : Act}, AllInP P ops af cont V i rs l a → af.tmps.size = a.tmps.size ∧ af.defers = a.defers ∧ (∀ t, (∀ o ∈ l, o.dst ≠ some t) → slotOf af t = slotOf a t)
  | _, [], [], a, h => by
    have : a = af := h
    subst this
    exact ⟨rfl, rfl, fun _ _ => rfl⟩
  | _, [], _ :: _, _, h => h.elim
  | _, _ :: _, [], _, h => h.elim
  | i, r :: rs, o :: l, a, h => by
    obtain ⟨h1, h2, h3⟩ := AllInP.keep h.2
    refine ⟨by rw [h1, size_put], by rw [h2, defers_put], fun t ht => ?_⟩
    rw [h3 t (fun o' ho' => ht o' (by simp [ho'])), slot_put_ne _ (ht o (by simp))]
theorem yields_of_quiet {C : World → Prop} {Q : Act → Prop} {o : Oper} {a : Act} (h : wpQuiet P ops C Q [o] a) : ∃ v, YieldsIn P ops C o v a ∧ Q (a.put o.dst v) := by
  unfold wpQuiet at h
  split at h
  · rename_i hw
    obtain ⟨v, h1, h2⟩ := h
    exact ⟨v, .inl ⟨hw, h1⟩, h2⟩
  · rename_i hw
    exact ⟨undef, .inr ⟨by simpa using hw, rfl⟩, h⟩
theorem allInP_of : ∀ {i : Nat} {rs : List Role} {l : List Oper} {a : Act}, dstsOk a.tmps.size l = true → wpP P ops af cont V i rs l a → AllInP P ops af cont V i rs l a
  | _, [], [], a, _, h => h
  | _, [], _ :: _, _, _, h => h.elim
  | _, .q :: _, [], _, _, h => h.elim
  | _, .p :: _, [], _, _, h => h.elim
  | _, .c _ _ :: _, [], _, _, h => h.elim
  | i, r :: rs, o :: l, a, hd, h => by
    have hd' := hd
    simp only [dstsOk, Bool.and_eq_true] at hd'
    obtain ⟨hd1, hd2⟩ := hd'
    split at hd1
    rotate_left 1
    · cases hd1
    · rename_i d hod
      simp only [Bool.and_eq_true, decide_eq_true_eq, List.all_eq_true] at hd1
      have key : ∀ v : Value, wpP P ops af cont V (i + 1) rs l (a.put o.dst v) → AllInP P ops af cont V (i + 1) rs l (a.put o.dst v) ∧ leftBy af o = v := by
        intro v hr
        have hA := allInP_of (i := i + 1) (rs := rs) (l := l) (a := a.put o.dst v) (by rw [size_put]; exact hd2) hr
        refine ⟨hA, ?_⟩
        unfold leftBy
        rw [hod]
        have := hA.keep.2.2 d (fun o' ho' => by simpa using hd1.2 o' ho')
        simp only [this, hod]
        exact slot_put_same v hd1.1
      cases r with
      | q =>
        obtain ⟨v, hy, hr⟩ := yields_of_quiet (show wpQuiet P ops _ _ [o] a from h)
        obtain ⟨hA, he⟩ := key v hr
        exact ⟨show YieldsIn P ops _ o (leftBy af o) a by rw [he]; exact hy, by rw [he]; exact hA⟩
      | p =>
        obtain ⟨hg, hrun, hr⟩ := (show _ ∧ _ ∧ _ from h)
        obtain ⟨hA, he⟩ := key undef hr
        exact ⟨⟨hg, hrun⟩, by rw [he]; exact hA⟩
      | c j dd =>
        obtain ⟨u, hu, hr⟩ := (show ∃ u, _ ∧ _ from h)
        obtain ⟨hA, he⟩ := key u hr
        refine ⟨fun V' g hb hg => ?_, by rw [he]; exact hA⟩
        obtain ⟨v, hy, hv⟩ := yields_of_quiet (hu V' g hb hg)
        have : v = u := by
          rw [← hv, hod]
          exact (slot_put_same v (by rw [size_put]; exact hd1.1)).symm
        rw [he, ← this]
        exact hy
theorem AllInP.get : ∀ {b : Nat} {rs : List Role} {l : List Oper} {a : Act} {i : Nat} {o : Oper} {r : Role}, AllInP P ops af cont V b rs l a → l[i]? = some o → rs[i]? = some r → StepP P ops af cont V (b + i) r o (accum af (l.take i) a)
  | _, [], [], _, _, _, _, _, hi, _ => by simp at hi
  | _, [], _ :: _, _, _, _, _, h, _, _ => h.elim
  | _, _ :: _, [], _, _, _, _, h, _, _ => h.elim
  | b, r :: rs, o :: l, a, 0, o', r', h, hi, hr => by
    have e1 : o = o' := by simpa using hi
    have e2 : r = r' := by simpa using hr
    subst e1; subst e2
    exact h.1
  | b, r :: rs, o :: l, a, i + 1, o', r', h, hi, hr => by
    have := AllInP.get (i := i) h.2 (by simpa using hi) (by simpa using hr)
    rw [show b + (i + 1) = b + 1 + i from by omega]
    simpa [accum] using this
/-- the frame behind the head, with the blocks that have been made -/
def fillP (cont : Nat → Obj × (Nat → Value)) (gs : Nat → Nat) : Nat → List Role → List Oper → Act → Act
  | i, .p :: rs, o :: l, a => fillP cont gs (i + 1) rs l (a.put o.dst ((cont i).2 (gs i)))
  | i, .q :: rs, _ :: l, a => fillP cont gs (i + 1) rs l a
  | i, .c _ _ :: rs, _ :: l, a => fillP cont gs (i + 1) rs l a
  | _, [], _, a => a
  | _, _, [], a => a
theorem fillP_keep (gs : Nat → Nat) : ∀ (rs : List Role) (b : Nat) (l : List Oper) (a : Act), (fillP cont gs b rs l a).tmps.size = a.tmps.size ∧ (fillP cont gs b rs l a).defers = a.defers
  | [], _, _, _ => by unfold fillP; exact ⟨rfl, rfl⟩
  | .p :: rs, b, [], a => by unfold fillP; exact ⟨rfl, rfl⟩
  | .q :: rs, b, [], a => by unfold fillP; exact ⟨rfl, rfl⟩
  | .c _ _ :: rs, b, [], a => by unfold fillP; exact ⟨rfl, rfl⟩
  | .q :: rs, b, o :: l, a => by unfold fillP; exact fillP_keep gs rs (b + 1) l a
  | .c _ _ :: rs, b, o :: l, a => by unfold fillP; exact fillP_keep gs rs (b + 1) l a
  | .p :: rs, b, o :: l, a => by
    unfold fillP
    obtain ⟨h1, h2⟩ := fillP_keep gs rs (b + 1) l (a.put o.dst ((cont b).2 (gs b)))
    exact ⟨by rw [h1, size_put], by rw [h2, defers_put]⟩
theorem fillP_ne (gs : Nat → Nat) : ∀ (rs : List Role) (b : Nat) (l : List Oper) (a : Act) (t : Tmp), (∀ (i : Nat) (o : Oper), l[i]? = some o → rs[i]? = some Role.p → o.dst ≠ some t) → slotOf (fillP cont gs b rs l a) t = slotOf a t
  | [], _, _, _, _, _ => by unfold fillP; rfl
  | .p :: rs, b, [], a, _, _ => by unfold fillP; rfl
  | .q :: rs, b, [], a, _, _ => by unfold fillP; rfl
  | .c _ _ :: rs, b, [], a, _, _ => by unfold fillP; rfl
  | .q :: rs, b, o :: l, a, t, h => by
    unfold fillP
    exact fillP_ne gs rs (b + 1) l a t (fun i o ho hr => h (i + 1) o (by simpa using ho) (by simpa using hr))
  | .c _ _ :: rs, b, o :: l, a, t, h => by
    unfold fillP
    exact fillP_ne gs rs (b + 1) l a t (fun i o ho hr => h (i + 1) o (by simpa using ho) (by simpa using hr))
  | .p :: rs, b, o :: l, a, t, h => by
    unfold fillP
    rw [fillP_ne gs rs (b + 1) l _ t (fun i o ho hr => h (i + 1) o (by simpa using ho) (by simpa using hr))]
    exact slot_put_ne _ (h 0 o (by simp) (by simp))
theorem fillP_at (gs : Nat → Nat) : ∀ (rs : List Role) (b : Nat) (l : List Oper) (a : Act) (n i : Nat) (o : Oper) (t : Tmp), dstsOk n l = true → n = a.tmps.size → l[i]? = some o → rs[i]? = some Role.p → o.dst = some t → slotOf (fillP cont gs b rs l a) t = (cont (b + i)).2 (gs (b + i))
  | [], _, _, _, _, _, _, _, _, _, _, hr, _ => by simp at hr
  | _ :: rs, b, [], a, _, _, _, _, _, _, ho, _, _ => by simp at ho
  | .q :: rs, b, o :: l, a, n, 0, o', t, hd, hn, ho, hr, ht => by simp at hr
  | .c _ _ :: rs, b, o :: l, a, n, 0, o', t, hd, hn, ho, hr, ht => by simp at hr
  | .p :: rs, b, o :: l, a, n, 0, o', t, hd, hn, ho, hr, ht => by
    have e : o = o' := by simpa using ho
    subst e
    unfold fillP
    simp only [dstsOk, Bool.and_eq_true] at hd
    have h1 := hd.1
    rw [ht] at h1
    simp only [Bool.and_eq_true, decide_eq_true_eq, List.all_eq_true] at h1
    rw [fillP_ne gs rs (b + 1) l _ t (fun i o' ho' _ => by simpa using h1.2 o' (List.mem_of_getElem? ho')), ht]
    exact slot_put_same _ (by rw [← hn]; exact h1.1)
  | r :: rs, b, o :: l, a, n, i + 1, o', t, hd, hn, ho, hr, ht => by
    simp only [dstsOk, Bool.and_eq_true] at hd
    have key : ∀ a' : Act, a'.tmps.size = n → slotOf (fillP cont gs (b + 1) rs l a') t = (cont (b + (i + 1))).2 (gs (b + (i + 1))) := by
      intro a' ha'
      have := fillP_at gs rs (b + 1) l a' n i o' t hd.2 ha'.symm (by simpa using ho) (by simpa using hr) ht
      rw [this, show b + 1 + i = b + (i + 1) from by omega]
    cases r <;> unfold fillP
    · exact key _ hn.symm
    · exact key _ (by rw [size_put]; exact hn.symm)
    · exact key _ hn.symm
end

structure MidP (P : Program) (ops : Array Oper) (k : Nat) (rs : List Role) (cont : Nat → Obj × (Nat → Value)) (a0 af : Act) (W : World) (gs : Nat → Nat) (listed : Array Bool) (a : Act) (w : World) : Prop where
  size : listed.size = ops.size
  closed : ∀ j oj, ops[j]? = some oj → listed.getD j false = true → ∀ e ∈ oj.after, Region.binds .any e = true → listed.getD e.on false = true
  tail : ∀ t, k ≤ t → t < ops.size → listed.getD t true = false
  ahd : Below W.heap.size W w
  defers : a.defers = a0.defers
  tsize : a.tmps.size = a0.tmps.size
  put : ∀ j o t, j < k → ops[j]? = some o → o.dst = some t → listed.getD j false = true → rs[j]? ≠ some Role.p → slotOf a t = slotOf af t
  same : ∀ t, (∀ j o, j < k → ops[j]? = some o → listed.getD j false = true → o.dst ≠ some t) → slotOf a t = slotOf a0 t
  spec : ∀ j o t, j < k → ops[j]? = some o → o.dst = some t → listed.getD j false = true → rs[j]? = some Role.p → slotOf a t = (cont j).2 (gs j) ∧ W.heap.size ≤ gs j ∧ w.heap[gs j]? = some (cont j).1
  apart : ∀ j j', j < k → j' < k → j ≠ j' → listed.getD j false = true → listed.getD j' false = true → rs[j]? = some Role.p → rs[j']? = some Role.p → gs j ≠ gs j'

section
variable {P : Program} {Q : Exit → Act → World → Prop} {W : World} {a0 af : Act} {l : List Oper} {k : Nat} {rs : List Role} {cont : Nat → Obj × (Nat → Value)}
theorem wp_region_priv {id : Nat} (k : Nat) (rs : List Role) (cont : Nat → Obj × (Nat → Value)) (af : Act) (hm : P.follows .mixedOrders = true)
    (hB : privB l.toArray k a0.tmps.size rs = true)
    (hwalk : ∀ V : World, Below W.heap.size W V → wpP P l.toArray af cont V 0 rs (l.take k) a0)
    (htail : ∀ (gs : Nat → Nat) (w' : World), Below W.heap.size W w' → (∀ j : Nat, rs[j]? = some Role.p → W.heap.size ≤ gs j ∧ w'.heap[gs j]? = some (cont j).1) → (∀ j j' : Nat, rs[j]? = some Role.p → rs[j']? = some Role.p → j ≠ j' → gs j ≠ gs j') → wpList P l.toArray Q (l.drop k) (fillP cont gs 0 rs (l.take k) af) w') :
    (Code.region id l.toArray true).wp P Q a0 W := by
  unfold privB at hB
  simp only [Bool.and_eq_true, decide_eq_true_eq] at hB
  obtain ⟨⟨⟨hB, hrl⟩, hpc⟩, hcc⟩ := hB
  unfold headLB at hB
  simp only [Bool.and_eq_true, decide_eq_true_eq, List.all_eq_true, List.mem_range, Bool.or_eq_true] at hB hpc hcc
  obtain ⟨⟨⟨⟨⟨⟨hsel, hks⟩, hdst⟩, hback⟩, htl⟩, hdep⟩, hseq⟩ := hB
  have hsz : l.toArray.size = l.length := by simp
  have hkl : k ≤ l.length := by rw [← hsz]; exact hks
  have hdk : dstsOk a0.tmps.size (l.take k) = true := hdst
  have hall : ∀ V : World, Below W.heap.size W V → AllInP P l.toArray af cont V 0 rs (l.take k) a0 := fun V hV => allInP_of hdk (hwalk V hV)
  have hA0 := hall W (Below.refl _ _)
  have hget : ∀ i, i < k → (l.take k)[i]? = l[i]? := fun i hi => by rw [List.getElem?_take]; simp [hi]
  have hrole : ∀ i, i < k → ∃ r, rs[i]? = some r := fun i hi => ⟨rs[i]'(by omega), by simp [hrl, hi]⟩
  have hafs : ∀ t, (∀ j o, j < k → l[j]? = some o → o.dst ≠ some t) → slotOf af t = slotOf a0 t := fun t ht => hA0.keep.2.2 t (fun o ho => by
    obtain ⟨j, hj⟩ := List.getElem?_of_mem ho
    rw [List.getElem?_take] at hj
    split at hj
    · exact ht j o (by assumption) hj
    · cases hj)
  have hback' : ∀ i o, l[i]? = some o → ∀ e ∈ o.after, Region.binds .any e = true → e.on < i := by
    intro i o hi e he hb
    have hil : i < l.length := (List.getElem?_eq_some_iff.1 hi).1
    have h1 := hback i (by rw [hsz]; exact hil)
    have hi' : l.toArray[i]? = some o := by simpa using hi
    rw [hi'] at h1
    have h2 := Array.all_eq_true_iff_forall_mem.1 h1 e he
    simpa [hb] using h2
  have hdep' : ∀ i o j oj d, i < k → l[i]? = some o → j < k → l[j]? = some oj → oj.dst = some d → d ∈ o.looksAt l.toArray → j < i ∧ waitsB1 .any l.toArray i j = true := by
    intro i o j oj d hi ho hj hoj hd hmem
    have h1 := hdep i hi j (by omega)
    have ho' : l.toArray[i]? = some o := by simpa using ho
    have hoj' : l.toArray[j]? = some oj := by simpa using hoj
    rw [ho', hoj'] at h1
    simp only [hd] at h1
    have hc : (o.looksAt l.toArray).contains d = true := by simpa using hmem
    rw [hc] at h1
    simpa using h1
  have heat : ∀ i o j oj d r, i < k → l[i]? = some o → j < k → l[j]? = some oj → oj.dst = some d → d ∈ o.looksAt l.toArray → rs[j]? = some Role.p → rs[i]? = some r → r.eats j d = true := by
    intro i o j oj d r hi ho hj hoj hd hmem hrj hri
    have h1 := hpc i hi j hj
    have ho' : l.toArray[i]? = some o := by simpa using ho
    have hoj' : l.toArray[j]? = some oj := by simpa using hoj
    rw [ho', hoj', hri, hrj] at h1
    simp only [hd] at h1
    have hc : (o.looksAt l.toArray).contains d = true := by simpa using hmem
    rw [hc] at h1
    simpa [Role.isP] using h1
  have hfood : ∀ i o j d, i < k → l[i]? = some o → rs[i]? = some (.c j d) → j < k ∧ rs[j]? = some Role.p ∧ (∃ oj, l[j]? = some oj ∧ oj.dst = some d) ∧ d ∈ o.looksAt l.toArray := by
    intro i o j d hi ho hri
    have h1 := hcc i hi
    have ho' : l.toArray[i]? = some o := by simpa using ho
    rw [ho', hri] at h1
    simp only [Bool.and_eq_true, decide_eq_true_eq] at h1
    obtain ⟨⟨hjk, h2⟩, h3⟩ := h1
    obtain ⟨rj, hrj⟩ := hrole j hjk
    have hoj : l[j]? = some (l[j]'(by omega)) := by simp
    have hoj' : l.toArray[j]? = some (l[j]'(by omega)) := by simp
    rw [hoj', hrj] at h2
    simp only [Bool.and_eq_true, beq_iff_eq] at h2
    refine ⟨hjk, ?_, ⟨_, hoj, h2.2⟩, by simpa using h3⟩
    cases rj with
    | p => exact hrj
    | q => cases h2.1
    | c _ _ => cases h2.1
  have dlt : ∀ i o, i < k → l[i]? = some o → ∃ d, o.dst = some d ∧ d < a0.tmps.size := fun i o hi ho => dsts_lt _ _ i o hdk (by rw [hget i (by omega)]; exact ho)
  have dne : ∀ i j o oj t, i < k → j < k → l[i]? = some o → l[j]? = some oj → i ≠ j → oj.dst = some t → o.dst ≠ some t := fun i j o oj t hi hj ho hoj hne hd => dsts_ne _ _ j i oj o t hdk (by rw [hget j (by omega)]; exact hoj) (by rw [hget i (by omega)]; exact ho) (Ne.symm hne) hd
  have fin : ∀ (gs : Nat → Nat) (listed : Array Bool) (a : Act) (w : World), MidP P l.toArray k rs cont a0 af W gs listed a w → (∀ i, i < k → listed.getD i false = true) → ∀ fuel, unl listed = fuel → wpAny P .any l.toArray Q fuel listed a w := by
    intro gs listed a w m hdone fuel hu
    have hLH : listed = Array.replicate k true ++ Array.replicate (l.toArray.size - k) false := by
      apply Array.ext
      · simp [m.size]; omega
      · intro i h1 h2
        rcases Nat.lt_or_ge i k with h' | h
        rotate_left 1
        · have := m.tail i h (by rw [← m.size]; exact h1)
          rw [Array.getElem_append_right (by simp; omega)]
          simpa [h1] using this
        · have := hdone i h'
          rw [Array.getElem_append_left (by simp; omega)]
          simpa [h1] using this
    have hae : a = fillP cont gs 0 rs (l.take k) af := by
      have hs0 := hA0.keep
      have hf0 := fillP_keep (cont := cont) gs rs 0 (l.take k) af
      refine act_ext ?_ ?_ ?_
      · rw [m.tsize, hf0.1, hs0.1]
      · rw [m.defers, hf0.2, hs0.2.1]
      · intro t
        by_cases hex : ∃ j o, j < k ∧ l[j]? = some o ∧ o.dst = some t
        · obtain ⟨j, o, hj, ho, hd⟩ := hex
          by_cases hp : rs[j]? = some Role.p
          · rw [(m.spec j o t hj (by simpa using ho) hd (hdone j hj) hp).1]
            have := fillP_at (cont := cont) gs rs 0 (l.take k) af a0.tmps.size j o t hdk hs0.1.symm (by rw [hget j hj]; exact ho) hp hd
            rw [this, Nat.zero_add]
          · rw [m.put j o t hj (by simpa using ho) hd (hdone j hj) hp]
            rw [fillP_ne gs rs 0 (l.take k) af t (fun i o' ho' hr' => ?_)]
            have hik : i < k := by
              have := (List.getElem?_eq_some_iff.1 ho').1
              simp at this
              omega
            by_cases hij : i = j
            · subst hij; exact absurd hr' hp
            · exact dne i j o' o t hik hj (by rw [← hget i hik]; exact ho') ho hij hd
        · rw [m.same t (fun j o hj ho _ hd => hex ⟨j, o, hj, by simpa using ho, hd⟩)]
          rw [fillP_ne gs rs 0 (l.take k) af t (fun i o' ho' hr' hd => hex ⟨i, o', by have := (List.getElem?_eq_some_iff.1 ho').1; simp at this; omega, by rw [← hget i (by have := (List.getElem?_eq_some_iff.1 ho').1; simp at this; omega)]; exact ho', hd⟩)]
          exact (hafs t (fun j o hj ho hd => hex ⟨j, o, hj, ho, hd⟩)).symm
    have hfu : fuel = (l.drop k).length := by
      rw [← hu, hLH, unl_done]
      simp
    rw [hfu, hae]
    have hpk : ∀ j, rs[j]? = some Role.p → j < k := fun j hj => by
      have := (List.getElem?_eq_some_iff.1 hj).1
      omega
    refine wpAny_of_seq (l.drop k) k listed _ w (fun j => by simp [List.getElem?_drop]) ?_ (htail gs w m.ahd (fun j hj => ?_) (fun j j' hj hj' hne => m.apart j j' (hpk j hj) (hpk j' hj') hne (hdone j (hpk j hj)) (hdone j' (hpk j' hj')) hj hj'))
    · rw [hLH]
      have : (l.drop k).length = l.toArray.size - k := by simp
      rw [this]
      exact hseq
    · have hjk := hpk j hj
      have hoj : l[j]? = some (l[j]'(by omega)) := by simp
      obtain ⟨d, hd, _⟩ := dlt j _ hjk hoj
      exact (m.spec j _ d hjk (by simp) hd (hdone j hjk) hj).2
  have main : ∀ (fuel : Nat) (gs : Nat → Nat) (listed : Array Bool) (a : Act) (w : World), MidP P l.toArray k rs cont a0 af W gs listed a w → unl listed = fuel → wpAny P .any l.toArray Q fuel listed a w := by
    intro fuel
    induction fuel with
    | zero =>
      intro gs listed a w m hu
      by_cases hdone : ∀ i, i < k → listed.getD i false = true
      · exact fin gs listed a w m hdone _ hu
      · obtain ⟨i, hi, _, hun⟩ := first_no' listed k hdone
        have := unl_set (listed := listed) (i := i) (by rw [m.size]; omega) (by rw [getD_tf (by rw [m.size]; omega)]; exact hun)
        omega
    | succ fuel ih =>
      intro gs listed a w m hu
      by_cases hdone : ∀ i, i < k → listed.getD i false = true
      · exact fin gs listed a w m hdone _ hu
      · obtain ⟨i0, hi0, hpre, hun0⟩ := first_no' listed k hdone
        refine ⟨fun h0 => ?_, fun i hi => ?_⟩
        · have hr : i0 ∈ Region.ready .any l.toArray listed := by
            rw [mem_ready]
            refine ⟨by rw [getD_tf (by rw [m.size]; omega)]; exact hun0, l[i0]'(by omega), by simp, fun e he hb => hpre _ ?_⟩
            exact hback' i0 _ (by simp) e he hb
          rw [h0] at hr
          cases hr
        · have hi' := hi
          obtain ⟨hun, o, ho, hw⟩ := mem_ready.1 hi
          have hil : i < l.length := by
            have := (Array.getElem?_eq_some_iff.1 ho).1
            simpa using this
          have hol : l[i]? = some o := by simpa using ho
          have hun' : unl (listed.setIfInBounds i true) = fuel := by
            have := unl_set (listed := listed) (i := i) (by rw [m.size]; omega) hun
            omega
          have hik : i < k := by
            rcases Nat.lt_or_ge i k with h | h
            rotate_left 1
            · have h1 := (htl i (by omega)).resolve_left (by omega)
              have h2 : (coverB l.toArray l.toArray.size (depsB l.toArray i (List.replicate l.toArray.size false))).getD i0 false = true := by
                have hlen := cover_length (ops := l.toArray) l.toArray.size (depsB l.toArray i (List.replicate l.toArray.size false))
                rw [deps_length, List.length_replicate] at hlen
                have hm : (coverB l.toArray l.toArray.size (depsB l.toArray i (List.replicate l.toArray.size false)))[i0]'(by rw [hlen, hsz]; omega) ∈ (coverB l.toArray l.toArray.size (depsB l.toArray i (List.replicate l.toArray.size false))).take k :=
                  List.mem_take_iff_getElem.2 ⟨i0, by rw [hlen, hsz]; omega, rfl⟩
                have := h1 _ hm
                rw [List.getD_eq_getElem?_getD, List.getElem?_eq_getElem (by rw [hlen, hsz]; omega)]
                exact this
              have h3 := cover_listed (ops := l.toArray) m.closed l.toArray.size _ (fun j hj => ?_) i0 h2
              · rw [hun0] at h3
                cases h3
              · unfold depsB at hj
                rw [ho] at hj
                refine deps_listed _ _ (fun e he hb => hw e (by simpa using he) hb) (fun q hq => ?_) j hj
                rw [List.getD_eq_getElem?_getD, List.getElem?_replicate] at hq
                split at hq <;> cases hq
            · exact h
          have hclosed : ∀ j oj, l.toArray[j]? = some oj → (listed.setIfInBounds i true).getD j false = true → ∀ e ∈ oj.after, Region.binds .any e = true → (listed.setIfInBounds i true).getD e.on false = true := by
            intro j oj hj hl e he hb
            by_cases hji : i = j
            · subst hji
              rw [ho] at hj
              cases hj
              exact getD_set_true (hw e he hb)
            · rw [getD_set_ne false hji] at hl
              exact getD_set_true (m.closed j oj hj hl e he hb)
          have htail' : ∀ t, k ≤ t → t < l.toArray.size → (listed.setIfInBounds i true).getD t true = false := fun t ht ht' => by rw [getD_set_ne true (by omega)]; exact m.tail t ht ht'
          obtain ⟨d, hod, hdlt⟩ := dlt i o hik hol
          obtain ⟨r, hri⟩ := hrole i hik
          have hset : (listed.setIfInBounds i true).getD i false = true := by
            have : i < listed.size := by rw [m.size]; omega
            simp [this]
          have hunl : listed.getD i false = false := by rw [← getD_tf (by rw [m.size]; omega)]; exact hun
          -- the slots that the operation looks at, but for a block of its own kind
          have hlook : ∀ t ∈ o.looksAt l.toArray, (∀ j oj, j < k → l[j]? = some oj → oj.dst = some t → rs[j]? = some Role.p → False) → slotOf a t = slotOf (accum af ((l.take k).take i) a0) t := by
            intro t ht hnp
            rw [accum_slot _ _ _ (dstsOk_take _ _ _ hdk)]
            by_cases hex : ∃ j oj, j < k ∧ l[j]? = some oj ∧ oj.dst = some t
            · obtain ⟨j, oj, hj, hoj, hdt⟩ := hex
              obtain ⟨hji, hwt⟩ := hdep' i o j oj t hik hol hj hoj hdt ht
              obtain ⟨e, he, hb, heo⟩ := waitsB1_spec ho hwt
              have hlj := hw e he hb
              rw [heo] at hlj
              rw [m.put j oj t (by omega) (by simpa using hoj) hdt hlj (fun h => hnp j oj hj hoj hdt h), if_pos]
              rw [List.any_eq_true]
              refine ⟨oj, ?_, by simp [hdt]⟩
              refine List.mem_of_getElem? (i := j) ?_
              rw [List.getElem?_take, List.getElem?_take]
              simp only [hji, show j < k by omega, if_true, hoj]
            · rw [m.same t (fun j oj hj hoj _ hdt => hex ⟨j, oj, by omega, by simpa using hoj, hdt⟩), if_neg]
              intro hany
              rw [List.any_eq_true] at hany
              obtain ⟨oj, hmem, hdt⟩ := hany
              obtain ⟨j, hj⟩ := List.getElem?_of_mem (List.mem_of_mem_take hmem)
              rw [List.getElem?_take] at hj
              split at hj
              · exact hex ⟨j, oj, by omega, hj, by simpa using hdt⟩
              · cases hj
          have hstep := (hall w m.ahd).get (i := i) (o := o) (r := r) (by rw [hget i hik]; exact hol) hri
          rw [Nat.zero_add] at hstep
          -- what comes behind an operation that leaves a fixed value
          have after : rs[i]? ≠ some Role.p → ∀ x : Past w, wpAny P .any l.toArray Q fuel (listed.setIfInBounds i true) (a.put o.dst (leftBy af o)) x.w := by
            intro hnp x
            refine ih gs _ _ _ ⟨by simp [m.size], hclosed, htail', m.ahd.trans (x.far.mono m.ahd.size), by rw [defers_put]; exact m.defers, by rw [size_put]; exact m.tsize, ?_, ?_, ?_, ?_⟩ hun'
            · intro j oj t hj hoj hdt hl hrj
              by_cases hji : i = j
              · subst hji
                rw [ho] at hoj
                cases hoj
                have : leftBy af o = slotOf af t := by simp [leftBy, hdt]
                rw [hdt, this]
                rw [hod] at hdt
                cases hdt
                exact slot_put_same _ (by rw [m.tsize]; exact hdlt)
              · rw [getD_set_ne false hji] at hl
                rw [slot_put_ne _ (dne i j o oj t hik hj hol (by simpa using hoj) hji hdt)]
                exact m.put j oj t hj hoj hdt hl hrj
            · intro t hno
              rw [slot_put_ne _ (hno i o hik ho hset)]
              exact m.same t (fun j oj hj hoj hl => hno j oj hj hoj (getD_set_true hl))
            · intro j oj t hj hoj hdt hl hrj
              have hji : i ≠ j := fun e => hnp (by rw [e]; exact hrj)
              rw [getD_set_ne false hji] at hl
              obtain ⟨h1, h2, h3⟩ := m.spec j oj t hj hoj hdt hl hrj
              refine ⟨by rw [slot_put_ne _ (dne i j o oj t hik hj hol (by simpa using hoj) hji hdt)]; exact h1, h2, ?_⟩
              rw [x.far.block _ (Array.getElem?_eq_some_iff.1 h3).1]
              exact h3
            · intro j j' hj hj' hne hl hl' hrj hrj'
              have hji : i ≠ j := fun e => hnp (by rw [e]; exact hrj)
              have hji' : i ≠ j' := fun e => hnp (by rw [e]; exact hrj')
              rw [getD_set_ne false hji] at hl
              rw [getD_set_ne false hji'] at hl'
              exact m.apart j j' hj hj' hne hl hl' hrj hrj'
          have exec : ∀ b : Act, (∀ t ∈ o.looksAt l.toArray, slotOf a t = slotOf b t) → execOp a.eval o = execOp b.eval o := fun b hb => execOp_congr o (fun cs b => Region.noSelect_spec hsel i o cs b ho) (fun x hx => by
            cases x with
            | tmp t => exact hb t (List.mem_append_left _ (List.mem_filterMap.2 ⟨.tmp t, by simpa using hx, rfl⟩))
            | _ => rfl)
          cases r with
          | q =>
            have hl : ∀ t ∈ o.looksAt l.toArray, slotOf a t = slotOf (accum af ((l.take k).take i) a0) t := fun t ht => hlook t ht (fun j oj hj hoj hdt hrj => by
              have := heat i o j oj t _ hik hol hj hoj hdt ht hrj hri
              cases this)
            have hy' := YieldsIn.of_same (show YieldsIn P l.toArray _ o (leftBy af o) _ from hstep) (exec _ hl) (wanted_congr hl)
            refine wpOp_of_qOp (C := fun w' => ∃ x : Past w, w' = x.w) ⟨⟨w, Below.refl _ _⟩, rfl⟩ (fun a' w' hx ha => ?_) (hy'.qOp ho (K := fun a' => a' = a.put o.dst (leftBy af o)) rfl)
            obtain ⟨x, rfl⟩ := hx
            subst ha
            exact after (by rw [hri]; simp) x
          | c j dd =>
            obtain ⟨hjk, hrj, ⟨oj, hoj, hdj⟩, hmem⟩ := hfood i o j dd hik hol hri
            obtain ⟨hji, hwt⟩ := hdep' i o j oj dd hik hol hjk hoj hdj hmem
            obtain ⟨e, he, hb, heo⟩ := waitsB1_spec ho hwt
            have hlj := hw e he hb
            rw [heo] at hlj
            obtain ⟨s1, s2, s3⟩ := m.spec j oj dd hjk (by simpa using hoj) hdj hlj hrj
            have hst := (show ∀ (V' : World) (g : Nat), _ → _ → YieldsIn P l.toArray _ o (leftBy af o) _ from hstep) w (gs j) (Below.refl _ _) s3
            obtain ⟨dj', hdj', hdjlt⟩ := dlt j oj hjk hoj
            have hdd : dj' = dd := by rw [hdj] at hdj'; exact (Option.some.inj hdj').symm
            rw [hdd] at hdjlt
            have hacc : (accum af ((l.take k).take i) a0).tmps.size = a0.tmps.size := by
              have : ∀ (l : List Oper) (a : Act), (accum af l a).tmps.size = a.tmps.size := by
                intro l
                induction l with
                | nil => intro a; rfl
                | cons o l ih => intro a; show (accum af l (a.put o.dst (leftBy af o))).tmps.size = _; rw [ih, size_put]
              exact this _ _
            have hl : ∀ t ∈ o.looksAt l.toArray, slotOf a t = slotOf ((accum af ((l.take k).take i) a0).put (some dd) ((cont j).2 (gs j))) t := by
              intro t ht
              by_cases htd : t = dd
              · subst htd
                rw [s1, slot_put_same _ (by rw [hacc]; exact hdjlt)]
              · rw [slot_put_ne _ (fun e => htd (by cases e; rfl))]
                refine hlook t ht (fun j' oj' hj' hoj' hdt' hrj' => ?_)
                have := heat i o j' oj' t _ hik hol hj' hoj' hdt' ht hrj' hri
                simp only [Role.eats, Bool.and_eq_true, beq_iff_eq] at this
                exact htd this.2.symm
            have hy' := YieldsIn.of_same hst (exec _ hl) (wanted_congr hl)
            refine wpOp_of_qOp (C := fun w' => ∃ x : Past w, w' = x.w) ⟨⟨w, Below.refl _ _⟩, rfl⟩ (fun a' w' hx ha => ?_) (hy'.qOp ho (K := fun a' => a' = a.put o.dst (leftBy af o)) rfl)
            obtain ⟨x, rfl⟩ := hx
            subst ha
            exact after (by rw [hri]; simp) x
          | p =>
            obtain ⟨hg, hrun⟩ := (show _ ∧ _ from hstep)
            have hl : ∀ t ∈ o.looksAt l.toArray, slotOf a t = slotOf (accum af ((l.take k).take i) a0) t := fun t ht => hlook t ht (fun j oj hj hoj hdt hrj => by
              have := heat i o j oj t _ hik hol hj hoj hdt ht hrj hri
              cases this)
            unfold wpOp
            simp only [ho]
            rw [if_pos (by rw [wanted_congr hl]; exact hg)]
            refine .inl ?_
            unfold Oper.wp
            rw [exec _ hl, hrun]
            show wpAny P .any l.toArray Q fuel (listed.setIfInBounds i true) (a.put o.dst ((cont i).2 w.heap.size)) (w.alloc (cont i).1)
            refine ih (fun j => if j = i then w.heap.size else gs j) _ _ _ ⟨by simp [m.size], hclosed, htail', m.ahd.alloc m.ahd.size _, by rw [defers_put]; exact m.defers, by rw [size_put]; exact m.tsize, ?_, ?_, ?_, ?_⟩ hun'
            · intro j oj t hj hoj hdt hlj hrj
              have hji : i ≠ j := fun e => hrj (by rw [← e]; exact hri)
              rw [getD_set_ne false hji] at hlj
              rw [slot_put_ne _ (dne i j o oj t hik hj hol (by simpa using hoj) hji hdt)]
              exact m.put j oj t hj hoj hdt hlj hrj
            · intro t hno
              rw [slot_put_ne _ (hno i o hik ho hset)]
              exact m.same t (fun j oj hj hoj hl => hno j oj hj hoj (getD_set_true hl))
            · intro j oj t hj hoj hdt hlj hrj
              by_cases hji : i = j
              · subst hji
                rw [ho] at hoj
                cases hoj
                simp only [if_true]
                refine ⟨?_, m.ahd.size, ?_⟩
                · rw [hdt]
                  rw [hod] at hdt
                  cases hdt
                  exact slot_put_same _ (by rw [m.tsize]; exact hdlt)
                · show (w.heap.push _)[w.heap.size]? = _
                  simp
              · rw [getD_set_ne false hji] at hlj
                obtain ⟨h1, h2, h3⟩ := m.spec j oj t hj hoj hdt hlj hrj
                have hne : ¬ j = i := fun e => hji e.symm
                simp only [if_neg hne]
                refine ⟨by rw [slot_put_ne _ (dne i j o oj t hik hj hol (by simpa using hoj) hji hdt)]; exact h1, h2, ?_⟩
                rw [Below.heap_alloc _ _ _ (Array.getElem?_eq_some_iff.1 h3).1]
                exact h3
            · have old : ∀ j, j < k → i ≠ j → (listed.setIfInBounds i true).getD j false = true → rs[j]? = some Role.p → gs j < w.heap.size := by
                intro j hj hji hlj hrj
                rw [getD_set_ne false hji] at hlj
                have hoj : l[j]? = some (l[j]'(by omega)) := by simp
                obtain ⟨d', hd', _⟩ := dlt j _ hj hoj
                exact (Array.getElem?_eq_some_iff.1 (m.spec j _ d' hj (by simp) hd' hlj hrj).2.2).1
              intro j j' hj hj' hne hlj hlj' hrj hrj'
              by_cases hji : i = j
              · subst hji
                have := old j' hj' hne hlj' hrj'
                rw [if_pos rfl, if_neg (fun e => hne e.symm)]
                omega
              · by_cases hji' : i = j'
                · subst hji'
                  have := old j hj hji hlj hrj
                  rw [if_neg hne, if_pos rfl]
                  omega
                · rw [if_neg (fun e => hji e.symm), if_neg (fun e => hji' e.symm)]
                  rw [getD_set_ne false hji] at hlj
                  rw [getD_set_ne false hji'] at hlj'
                  exact m.apart j j' hj hj' hne hlj hlj' hrj hrj'
  refine wp_region_any hm (main _ (fun _ => 0) _ a0 _ ?_ (by rw [unl_rep]))
  refine ⟨by simp, ?_, ?_, (Below.refl _ _).drew, rfl, rfl, ?_, ?_, ?_, ?_⟩
  · intro j oj hj h
    rw [getD_replicate_false] at h
    cases h
  · intro t _ ht
    have : (Array.replicate l.toArray.size false).getD t true = false := by simp at ht; simp [ht]
    exact this
  · intro j o t _ _ _ h
    rw [getD_replicate_false] at h
    cases h
  · intro t _; rfl
  · intro j o t _ _ _ h
    rw [getD_replicate_false] at h
    cases h
  · intro j j' _ _ _ h
    rw [getD_replicate_false] at h
    cases h
end
end Go.Proofs.Ytcneohhfnnelgaa
namespace Go.Proofs.Ytcneohhfnnelgaa
open Go.RowKit
set_option linter.unusedVariables false
namespace Dv
def spV (s : Sp) : Bool := spanB s.lo s.hi
def lmLo (m : Mot) (l : List Sp) : Mot := m.plus (l.getD 0 default).lo (l.getD 1 default).lo (l.getD 2 default).lo (l.getD 3 default).lo
def lmHi (m : Mot) (l : List Sp) : Mot := m.plus (l.getD 0 default).hi (l.getD 1 default).hi (l.getD 2 default).hi (l.getD 3 default).hi
def lmS (l : List Sp) : Sp := l.getD 4 default
def lmA (m : Mot) (l : List Sp) : Bool := chkB m && (decide (l.length = 5) && l.all spV)
def lmB (m : Mot) (l : List Sp) : Bool := chkB (lmLo m l) && (chkB (lmHi m l) && upB 16384 [(lmS l).lo, (lmS l).hi])
def lmE (m : Mot) (l : List Sp) : Int := if lmA m l = true then (if lmB m l = true then 0 else 3) else 2
end Dv
def lmC (m lo hi : Mot) (a b : Int) : List Value := m.cs ++ lo.cs ++ hi.cs ++ [.int .i64 a, .int .i64 b]
/-- what newLimiter leaves -/
def LmP (m : Mot) (l : List Sp) (w : World) (e : Ending) (w' : World) : Prop := Below w.heap.size w w' ∧
  ((Dv.lmE m l ≠ 0 ∧ e = .returned (.tuple #[.pointer none, .int .i64 (Dv.lmE m l)])) ∨
   (Dv.lmE m l = 0 ∧ ∃ g, w.heap.size ≤ g ∧ e = .returned (.tuple #[.pointer (some ⟨g, 0, none⟩), .int .i64 0]) ∧ Blk w' g 131 (lmC m (Dv.lmLo m l) (Dv.lmHi m l) (Dv.lmS l).lo (Dv.lmS l).hi)))

def ptrsAt (b o : Nat) : List Value := [.pointer (some ⟨b, o, none⟩), .pointer (some ⟨b, o + 1, none⟩), .pointer (some ⟨b, o + 2, none⟩), .pointer (some ⟨b, o + 3, none⟩)]
set_option maxHeartbeats 1000000 in
theorem parts10_c (b : Nat) (w : World) : Calls Try.prog 106 #[.pointer (some ⟨b, 10, none⟩)] w fun e w' => e = .returned (.agg #[.pointer (some ⟨b, 10, none⟩), .pointer (some ⟨b, 11, none⟩), .pointer (some ⟨b, 12, none⟩), .pointer (some ⟨b, 13, none⟩)]) ∧ Below w.heap.size w w' := by
  go_enter Try.func106, Try.ntmps106
  go_wp2_with fail
  refine gen_world (fun W => Blk W w.heap.size 119 [.pointer none, .pointer none, .pointer none, .pointer none] ∧ Below w.heap.size w W) ⟨Blk.new' _ _ _, (Below.refl _ _).alloc (Nat.le_refl _) _⟩ ?_
  rintro w1 ⟨H1, hB⟩
  refine wp_region_head 13 ?af (by kernel_rfl) (by kernel_rfl) ?walk ?tail
  case walk =>
    intro V hV
    simp only [List.take_succ_cons, List.take_zero]
    repeat (go_big_quiet_step (fail))
    refine wpQuiet_nil ?_
    rfl
  case tail =>
    intro w2 hb2
    have H2 := H1.below hb2 H1.lt
    have f0 := H2.free 0
    have f1 := H2.free 1
    have f2 := H2.free 2
    have f3 := H2.free 3
    have c0 : w2.cell? ⟨w.heap.size, 0, none⟩ = some (.pointer none) := H2.cell 0 rfl
    have c1 : w2.cell? ⟨w.heap.size, 1, none⟩ = some (.pointer none) := H2.cell 1 rfl
    have c2 : w2.cell? ⟨w.heap.size, 2, none⟩ = some (.pointer none) := H2.cell 2 rfl
    have c3 : w2.cell? ⟨w.heap.size, 3, none⟩ = some (.pointer none) := H2.cell 3 rfl
    have HB := Lib.hid (hB.trans (hb2.mono hB.size))
    clear hb2 H1 H2 hB
    simp only [List.drop_succ_cons, List.drop_zero]
    go_wp2
    exact bodyPost_ret (v := .agg #[.pointer (some ⟨b, 10, none⟩), .pointer (some ⟨b, 11, none⟩), .pointer (some ⟨b, 12, none⟩), .pointer (some ⟨b, 13, none⟩)]) (by simp [results, Try.results106, go_sem, c0, c1, c2, c3]) rfl ⟨rfl, below_put4 HB.out (Nat.le_refl _) _ _ _ _⟩
set_option maxHeartbeats 1000000 in
theorem parts20_c (b : Nat) (w : World) : Calls Try.prog 106 #[.pointer (some ⟨b, 20, none⟩)] w fun e w' => e = .returned (.agg #[.pointer (some ⟨b, 20, none⟩), .pointer (some ⟨b, 21, none⟩), .pointer (some ⟨b, 22, none⟩), .pointer (some ⟨b, 23, none⟩)]) ∧ Below w.heap.size w w' := by
  go_enter Try.func106, Try.ntmps106
  go_wp2_with fail
  refine gen_world (fun W => Blk W w.heap.size 119 [.pointer none, .pointer none, .pointer none, .pointer none] ∧ Below w.heap.size w W) ⟨Blk.new' _ _ _, (Below.refl _ _).alloc (Nat.le_refl _) _⟩ ?_
  rintro w1 ⟨H1, hB⟩
  refine wp_region_head 13 ?af (by kernel_rfl) (by kernel_rfl) ?walk ?tail
  case walk =>
    intro V hV
    simp only [List.take_succ_cons, List.take_zero]
    repeat (go_big_quiet_step (fail))
    refine wpQuiet_nil ?_
    rfl
  case tail =>
    intro w2 hb2
    have H2 := H1.below hb2 H1.lt
    have f0 := H2.free 0
    have f1 := H2.free 1
    have f2 := H2.free 2
    have f3 := H2.free 3
    have c0 : w2.cell? ⟨w.heap.size, 0, none⟩ = some (.pointer none) := H2.cell 0 rfl
    have c1 : w2.cell? ⟨w.heap.size, 1, none⟩ = some (.pointer none) := H2.cell 1 rfl
    have c2 : w2.cell? ⟨w.heap.size, 2, none⟩ = some (.pointer none) := H2.cell 2 rfl
    have c3 : w2.cell? ⟨w.heap.size, 3, none⟩ = some (.pointer none) := H2.cell 3 rfl
    have HB := Lib.hid (hB.trans (hb2.mono hB.size))
    clear hb2 H1 H2 hB
    simp only [List.drop_succ_cons, List.drop_zero]
    go_wp2
    exact bodyPost_ret (v := .agg #[.pointer (some ⟨b, 20, none⟩), .pointer (some ⟨b, 21, none⟩), .pointer (some ⟨b, 22, none⟩), .pointer (some ⟨b, 23, none⟩)]) (by simp [results, Try.results106, go_sem, c0, c1, c2, c3]) rfl ⟨rfl, below_put4 HB.out (Nat.le_refl _) _ _ _ _⟩
/-- what lies in memory while newLimiter runs -/
def LmI (w : World) (g p1 p2 : Nat) (cs : List Value) (W : World) : Prop := w.heap.size ≤ g ∧ Blk W g 131 cs ∧ Blk W p1 119 (ptrsAt g 10) ∧ Blk W p2 119 (ptrsAt g 20) ∧ Below w.heap.size w W
theorem LmI.below {w : World} {g p1 p2 : Nat} {cs : List Value} {W W' : World} (h : LmI w g p1 p2 cs W) (hb : Below W.heap.size W W') : LmI w g p1 p2 cs W' :=
  ⟨h.1, h.2.1.below hb h.2.1.lt, h.2.2.1.below hb h.2.2.1.lt, h.2.2.2.1.below hb h.2.2.2.1.lt, h.2.2.2.2.trans (hb.mono h.2.2.2.2.size)⟩
theorem blk_type_ne {W : World} {g g' : Nat} {t t' : TypeId} {cs cs' : List Value} (h : Blk W g t cs) (h' : Blk W g' t' cs') (hn : t ≠ t') : g' ≠ g := by
  intro e
  subst e
  unfold Blk at h h'
  rw [h] at h'
  simp only [Option.some.injEq, Obj.cells.injEq] at h'
  exact hn h'.2.1
theorem LmI.put {w : World} {g p1 p2 : Nat} {cs cs' : List Value} {W : World} (h : LmI w g p1 p2 cs W) (o : Nat) (v : Value) (he : cs.set o v = cs') : LmI w g p1 p2 cs' (W.setCell ⟨g, o, none⟩ v) :=
  ⟨h.1, he ▸ h.2.1.setCell o v, h.2.2.1.setCell_ne (p := ⟨g, o, none⟩) (blk_type_ne h.2.1 h.2.2.1 (by decide)) v, h.2.2.2.1.setCell_ne (p := ⟨g, o, none⟩) (blk_type_ne h.2.1 h.2.2.2.1 (by decide)) v, h.2.2.2.2.setCell h.1 v⟩
theorem blk_ints {W : World} {g : Nat} {t : TypeId} {ys : List Int} (h : Blk W g t (ys.map (Value.int .i64))) : IntsAt W (some ⟨g, 0, none⟩) ys := fun i hi => ⟨_, rfl, by
  have := h.cell i (v := .int .i64 (ys.getD i 0)) (by simp [List.getD, hi])
  cases i with
  | zero => exact this
  | succ i => simpa [Addr.add] using this⟩
theorem upTo2_at (mo a b : Int) (g : Nat) (W : World) (h : Blk W g 2 [.int .i64 a, .int .i64 b]) (hm0 : 0 ≤ mo) (hm1 : mo ≤ 4611686018427387904) :
    Calls Try.prog 67 #[.int .i64 mo, .slice (some ⟨g, 0, none⟩) 2 2] W fun e w' => e = .returned (.bool (upB mo [a, b])) ∧ W = w' :=
  upTo_c mo (some ⟨g, 0, none⟩) [a, b] 2 W hm0 hm1 (by simp) (blk_ints (ys := [a, b]) h)
/-- five spans in memory -/
def Sp5 (w : World) (ad : Addr) (s0 s1 s2 s3 s4 : Sp) : Prop := ad.block < w.heap.size ∧ w.cell? ad = some (.int .i64 s0.lo) ∧ w.cell? ⟨ad.block, ad.off + 1, none⟩ = some (.int .i64 s0.hi)
  ∧ w.cell? ⟨ad.block, ad.off + 2, none⟩ = some (.int .i64 s1.lo) ∧ w.cell? ⟨ad.block, ad.off + 3, none⟩ = some (.int .i64 s1.hi)
  ∧ w.cell? ⟨ad.block, ad.off + 4, none⟩ = some (.int .i64 s2.lo) ∧ w.cell? ⟨ad.block, ad.off + 5, none⟩ = some (.int .i64 s2.hi)
  ∧ w.cell? ⟨ad.block, ad.off + 6, none⟩ = some (.int .i64 s3.lo) ∧ w.cell? ⟨ad.block, ad.off + 7, none⟩ = some (.int .i64 s3.hi)
  ∧ w.cell? ⟨ad.block, ad.off + 8, none⟩ = some (.int .i64 s4.lo) ∧ w.cell? ⟨ad.block, ad.off + 9, none⟩ = some (.int .i64 s4.hi)
theorem SpAt.five {w : World} {A : Option Addr} {s0 s1 s2 s3 s4 : Sp} (h : SpAt w A [s0, s1, s2, s3, s4]) : ∃ ad, A = some ad ∧ Sp5 w ad s0 s1 s2 s3 s4 := by
  obtain ⟨ad, rfl, hb, h0, k0⟩ := h 0 (by simp)
  obtain ⟨ad1, e1, _, h1, k1⟩ := h 1 (by simp)
  obtain ⟨ad2, e2, _, h2, k2⟩ := h 2 (by simp)
  obtain ⟨ad3, e3, _, h3, k3⟩ := h 3 (by simp)
  obtain ⟨ad4, e4, _, h4, k4⟩ := h 4 (by simp)
  cases e1; cases e2; cases e3; cases e4
  exact ⟨ad, rfl, hb, by simpa [Addr.add] using h0, by simpa [Addr.add] using k0, by simpa [Addr.add] using h1, by simpa [Addr.add] using k1, by simpa [Addr.add] using h2, by simpa [Addr.add] using k2, by simpa [Addr.add] using h3, by simpa [Addr.add] using k3, by simpa [Addr.add] using h4, by simpa [Addr.add] using k4⟩
theorem Sp5.below {w w1 : World} {ad : Addr} {s0 s1 s2 s3 s4 : Sp} (h : Sp5 w ad s0 s1 s2 s3 s4) {B : Nat} (hb : Below B w w1) (hB : ad.block < B) : Sp5 w1 ad s0 s1 s2 s3 s4 := by
  obtain ⟨hlt, h0, h1, h2, h3, h4, h5, h6, h7, h8, h9⟩ := h
  exact ⟨Nat.lt_of_lt_of_le hlt hb.size, (hb.cell hB).trans h0, below_cell hb hB h1, below_cell hb hB h2, below_cell hb hB h3, below_cell hb hB h4, below_cell hb hB h5, below_cell hb hB h6, below_cell hb hB h7, below_cell hb hB h8, below_cell hb hB h9⟩
theorem spV_bd {s : Sp} (h : Dv.spV s = true) : (-1099511627776 ≤ s.lo ∧ s.lo ≤ 1099511627776) ∧ (-1099511627776 ≤ s.hi ∧ s.hi ≤ 1099511627776) ∧ s.lo ≤ s.hi := by
  unfold Dv.spV Dv.spanB at h
  simp only [Bool.and_eq_true, decide_eq_true_eq] at h
  exact ⟨(upB2.1 h.1).1, (upB2.1 h.1).2, h.2⟩
end Go.Proofs.Ytcneohhfnnelgaa
namespace Go.Proofs.Ytcneohhfnnelgaa
open Go.RowKit
set_option linter.unusedVariables false

theorem LmI.from {w W : World} {g p1 p2 : Nat} {cs : List Value} (h0 : w.heap.size ≤ g) (hg : Blk W g 131 cs) (hb : Below w.heap.size w W) (h1 : W.heap[p1]? = some (.cells #[.pointer none, .pointer none, .pointer none, .pointer none] 119)) (h2 : W.heap[p2]? = some (.cells #[.pointer none, .pointer none, .pointer none, .pointer none] 119)) (hne : p1 ≠ p2) (z1 : w.heap.size ≤ p1) (z2 : w.heap.size ≤ p2) :
    LmI w g p1 p2 cs ((((((((W.setCell ⟨p1, 0, none⟩ (.pointer (some ⟨g, 10, none⟩))).setCell ⟨p1, 1, none⟩ (.pointer (some ⟨g, 11, none⟩))).setCell ⟨p1, 2, none⟩ (.pointer (some ⟨g, 12, none⟩))).setCell ⟨p1, 3, none⟩ (.pointer (some ⟨g, 13, none⟩))).setCell ⟨p2, 0, none⟩ (.pointer (some ⟨g, 20, none⟩))).setCell ⟨p2, 1, none⟩ (.pointer (some ⟨g, 21, none⟩))).setCell ⟨p2, 2, none⟩ (.pointer (some ⟨g, 22, none⟩))).setCell ⟨p2, 3, none⟩ (.pointer (some ⟨g, 23, none⟩))) := by
  have b1 : Blk W p1 119 [.pointer none, .pointer none, .pointer none, .pointer none] := h1
  have b2 : Blk W p2 119 [.pointer none, .pointer none, .pointer none, .pointer none] := h2
  have n1 : g ≠ p1 := fun e => blk_type_ne hg b1 (by decide) e.symm
  have n2 : g ≠ p2 := fun e => blk_type_ne hg b2 (by decide) e.symm
  refine ⟨h0, ?_, ?_, ?_, ?_⟩
  · exact (((((((hg.setCell_ne (by exact n1) _).setCell_ne (by exact n1) _).setCell_ne (by exact n1) _).setCell_ne (by exact n1) _).setCell_ne (by exact n2) _).setCell_ne (by exact n2) _).setCell_ne (by exact n2) _).setCell_ne (by exact n2) _
  · exact (((((((b1.setCell 0 _).setCell 1 _).setCell 2 _).setCell 3 _).setCell_ne (by exact hne) _).setCell_ne (by exact hne) _).setCell_ne (by exact hne) _).setCell_ne (by exact hne) _
  · exact (((((((b2.setCell_ne (by exact hne.symm) _).setCell_ne (by exact hne.symm) _).setCell_ne (by exact hne.symm) _).setCell_ne (by exact hne.symm) _).setCell 0 _).setCell 1 _).setCell 2 _).setCell 3 _
  · exact (((((((hb.setCell z1 _).setCell z1 _).setCell z1 _).setCell z1 _).setCell z2 _).setCell z2 _).setCell z2 _).setCell z2 _
/-- the cells of the limiter's numbers -/
theorem lmCells {W : World} {g : Nat} {m lo hi : Mot} {a b : Int} (h : Blk W g 131 (lmC m lo hi a b)) :
    (W.cell? ⟨g, 0, none⟩ = some (.int .i64 m.r) ∧ W.cell? ⟨g, 1, none⟩ = some (.int .i64 m.ld) ∧ W.cell? ⟨g, 2, none⟩ = some (.int .i64 m.lq) ∧ W.cell? ⟨g, 3, none⟩ = some (.int .i64 m.fx) ∧ W.cell? ⟨g, 4, none⟩ = some (.int .i64 m.po) ∧ W.cell? ⟨g, 5, none⟩ = some (.int .i64 m.mi) ∧ W.cell? ⟨g, 6, none⟩ = some (.int .i64 m.sp) ∧ W.cell? ⟨g, 7, none⟩ = some (.int .i64 m.dr) ∧ W.cell? ⟨g, 8, none⟩ = some (.int .i64 m.cu) ∧ W.cell? ⟨g, 9, none⟩ = some (.int .i64 m.fa)) ∧
    (W.cell? ⟨g, 10, none⟩ = some (.int .i64 lo.r) ∧ W.cell? ⟨g, 11, none⟩ = some (.int .i64 lo.ld) ∧ W.cell? ⟨g, 12, none⟩ = some (.int .i64 lo.lq) ∧ W.cell? ⟨g, 13, none⟩ = some (.int .i64 lo.fx) ∧ W.cell? ⟨g, 14, none⟩ = some (.int .i64 lo.po) ∧ W.cell? ⟨g, 15, none⟩ = some (.int .i64 lo.mi) ∧ W.cell? ⟨g, 16, none⟩ = some (.int .i64 lo.sp) ∧ W.cell? ⟨g, 17, none⟩ = some (.int .i64 lo.dr) ∧ W.cell? ⟨g, 18, none⟩ = some (.int .i64 lo.cu) ∧ W.cell? ⟨g, 19, none⟩ = some (.int .i64 lo.fa)) ∧
    (W.cell? ⟨g, 20, none⟩ = some (.int .i64 hi.r) ∧ W.cell? ⟨g, 21, none⟩ = some (.int .i64 hi.ld) ∧ W.cell? ⟨g, 22, none⟩ = some (.int .i64 hi.lq) ∧ W.cell? ⟨g, 23, none⟩ = some (.int .i64 hi.fx) ∧ W.cell? ⟨g, 24, none⟩ = some (.int .i64 hi.po) ∧ W.cell? ⟨g, 25, none⟩ = some (.int .i64 hi.mi) ∧ W.cell? ⟨g, 26, none⟩ = some (.int .i64 hi.sp) ∧ W.cell? ⟨g, 27, none⟩ = some (.int .i64 hi.dr) ∧ W.cell? ⟨g, 28, none⟩ = some (.int .i64 hi.cu) ∧ W.cell? ⟨g, 29, none⟩ = some (.int .i64 hi.fa)) ∧
    (W.cell? ⟨g, 30, none⟩ = some (.int .i64 a) ∧ W.cell? ⟨g, 31, none⟩ = some (.int .i64 b)) :=
  ⟨⟨h.cell 0 rfl, h.cell 1 rfl, h.cell 2 rfl, h.cell 3 rfl, h.cell 4 rfl, h.cell 5 rfl, h.cell 6 rfl, h.cell 7 rfl, h.cell 8 rfl, h.cell 9 rfl⟩, ⟨h.cell 10 rfl, h.cell 11 rfl, h.cell 12 rfl, h.cell 13 rfl, h.cell 14 rfl, h.cell 15 rfl, h.cell 16 rfl, h.cell 17 rfl, h.cell 18 rfl, h.cell 19 rfl⟩, ⟨h.cell 20 rfl, h.cell 21 rfl, h.cell 22 rfl, h.cell 23 rfl, h.cell 24 rfl, h.cell 25 rfl, h.cell 26 rfl, h.cell 27 rfl, h.cell 28 rfl, h.cell 29 rfl⟩, ⟨h.cell 30 rfl, h.cell 31 rfl⟩⟩
theorem ptrCells {W : World} {p b o : Nat} (h : Blk W p 119 (ptrsAt b o)) : W.cell? ⟨p, 0, none⟩ = some (.pointer (some ⟨b, o, none⟩)) ∧ W.cell? ⟨p, 1, none⟩ = some (.pointer (some ⟨b, o + 1, none⟩)) ∧ W.cell? ⟨p, 2, none⟩ = some (.pointer (some ⟨b, o + 2, none⟩)) ∧ W.cell? ⟨p, 3, none⟩ = some (.pointer (some ⟨b, o + 3, none⟩)) :=
  ⟨h.cell 0 rfl, h.cell 1 rfl, h.cell 2 rfl, h.cell 3 rfl⟩

set_option maxHeartbeats 1000000 in
theorem newLimiter_no1 (m : Mot) (A : Option Addr) (n cap : Nat) (w : World) (hC : Dv.chkB m = false) :
    Calls Try.prog 108 #[.agg #[.int .i64 m.r, .int .i64 m.ld, .int .i64 m.lq, .int .i64 m.fx, .int .i64 m.po, .int .i64 m.mi, .int .i64 m.sp, .int .i64 m.dr, .int .i64 m.cu, .int .i64 m.fa], .slice A n cap] w fun e w' => e = .returned (.tuple #[.pointer none, .int .i64 2]) ∧ Below w.heap.size w w' := by
  go_enter Try.func108, Try.ntmps108
  go_wp2_with fail
  refine (Check_no m _ hC).mono ?_
  rintro e w1 ⟨rfl, hb1⟩
  have HB := Lib.hid (((Below.refl w.heap.size w).alloc (Nat.le_refl _) (.cells #[.int .i64 m.r, .int .i64 m.ld, .int .i64 m.lq, .int .i64 m.fx, .int .i64 m.po, .int .i64 m.mi, .int .i64 m.sp, .int .i64 m.dr, .int .i64 m.cu, .int .i64 m.fa] 52)).trans (hb1.mono (by simp)))
  clear hb1
  go_wp2
  go_ret2
  exact ⟨rfl, HB.out⟩

set_option maxHeartbeats 2000000 in
set_option maxRecDepth 100000 in
theorem newLimiter_no2 (m : Mot) (A : Option Addr) (l : List Sp) (cap : Nat) (w : World) (hx : SpAt w A l) (hC : Dv.chkB m = true) (hl : ((l.length : Int) != 5) = true) :
    Calls Try.prog 108 #[.agg #[.int .i64 m.r, .int .i64 m.ld, .int .i64 m.lq, .int .i64 m.fx, .int .i64 m.po, .int .i64 m.mi, .int .i64 m.sp, .int .i64 m.dr, .int .i64 m.cu, .int .i64 m.fa], .slice A l.length cap] w fun e w' => e = .returned (.tuple #[.pointer none, .int .i64 2]) ∧ Below w.heap.size w w' := by
  have HX := Lib.hid hx
  clear hx
  go_enter Try.func108, Try.ntmps108
  go_wp2_with fail
  refine (Check_yes m _ hC).mono ?_
  rintro e w1 ⟨rfl, hb1⟩
  have B1 := Lib.hid ((Blk.new' w #[.int .i64 m.r, .int .i64 m.ld, .int .i64 m.lq, .int .i64 m.fx, .int .i64 m.po, .int .i64 m.mi, .int .i64 m.sp, .int .i64 m.dr, .int .i64 m.cu, .int .i64 m.fa] 52).below hb1 (by simp))
  have HB := Lib.hid (((Below.refl w.heap.size w).alloc (Nat.le_refl _) (.cells #[.int .i64 m.r, .int .i64 m.ld, .int .i64 m.lq, .int .i64 m.fx, .int .i64 m.po, .int .i64 m.mi, .int .i64 m.sp, .int .i64 m.dr, .int .i64 m.cu, .int .i64 m.fa] 52)).trans (hb1.mono (by simp)))
  clear hb1
  have z1 := B1.out.lt
  obtain ⟨c0, c1, c2, c3, c4, c5, c6, c7, c8, c9⟩ := motOf (m := m) B1.out
  go_wp2_with fail
  refine gen_world (fun W => Blk W w1.heap.size 131 (lmC m m m 0 0) ∧ Below w.heap.size w W) ⟨Blk.new' _ _ _, HB.out.alloc HB.out.size _⟩ ?_
  have hg0 := HB.out.size
  generalize w1.heap.size = g at hg0 ⊢
  clear c0 c1 c2 c3 c4 c5 c6 c7 c8 c9 z1 B1 HB w1
  rintro w1 ⟨bg, hB1⟩
  have I0 := Lib.hid (And.intro bg hB1)
  clear bg hB1
  refine wp_region_priv 10 [.q, .q, .q, .q, .q, .q, .q, .q, .p, .p] (fun _ => (.cells #[.pointer none, .pointer none, .pointer none, .pointer none] 119, fun b => .pointer (some ⟨b, 0, none⟩))) ?af (by kernel_rfl) (by kernel_rfl) ?walk ?tail
  case walk =>
    intro V hV
    simp only [List.take_succ_cons, List.take_zero]
    repeat (refine wpP_q ?_; go_big_quiet_step (first | (go_at_call 106; with_reducible exact past_below (parts10_c g _)) | (go_at_call 106; with_reducible exact past_below (parts20_c g _))); refine wpQuiet_nil ?_)
    refine wpP_p (by kernel_rfl) (fun _ => by kernel_rfl) ?_
    (try simp only [Act.put, List.setIfInBounds_toArray, List.set_cons_zero, List.set_cons_succ])
    refine wpP_p (by kernel_rfl) (fun _ => by kernel_rfl) ?_
    (try simp only [Act.put, List.setIfInBounds_toArray, List.set_cons_zero, List.set_cons_succ])
    refine wpP_nil ?_
    rfl
  case tail =>
  intro gs w2 hb2 hP hD
  obtain ⟨hp1, k1⟩ := hP 8 rfl
  obtain ⟨hp2, k2⟩ := hP 9 rfl
  have hne := hD 8 9 rfl rfl (by decide)
  simp only [List.take_succ_cons, List.take_zero, fillP]
  (try simp only [Act.put, List.setIfInBounds_toArray, List.set_cons_zero, List.set_cons_succ])
  generalize gs 8 = p1 at hp1 k1 hne ⊢
  generalize gs 9 = p2 at hp2 k2 hne ⊢
  clear hP hD
  have hz1 := Nat.le_trans I0.out.2.size hp1
  have hz2 := Nat.le_trans I0.out.2.size hp2
  have HI := Lib.hid (LmI.from hg0 (I0.out.1.below hb2 I0.out.1.lt) (I0.out.2.trans (hb2.mono I0.out.2.size)) k1 k2 hne hz1 hz2)
  have f10 := Blk.free (t := 119) (cs := [.pointer none, .pointer none, .pointer none, .pointer none]) k1 0
  have f11 := Blk.free (t := 119) (cs := [.pointer none, .pointer none, .pointer none, .pointer none]) k1 1
  have f12 := Blk.free (t := 119) (cs := [.pointer none, .pointer none, .pointer none, .pointer none]) k1 2
  have f13 := Blk.free (t := 119) (cs := [.pointer none, .pointer none, .pointer none, .pointer none]) k1 3
  have f20 := Blk.free (t := 119) (cs := [.pointer none, .pointer none, .pointer none, .pointer none]) k2 0
  have f21 := Blk.free (t := 119) (cs := [.pointer none, .pointer none, .pointer none, .pointer none]) k2 1
  have f22 := Blk.free (t := 119) (cs := [.pointer none, .pointer none, .pointer none, .pointer none]) k2 2
  have f23 := Blk.free (t := 119) (cs := [.pointer none, .pointer none, .pointer none, .pointer none]) k2 3
  have d10 := Blk.cell (t := 119) (cs := [.pointer none, .pointer none, .pointer none, .pointer none]) k1 0 rfl
  have d11 := Blk.cell (t := 119) (cs := [.pointer none, .pointer none, .pointer none, .pointer none]) k1 1 rfl
  have d12 := Blk.cell (t := 119) (cs := [.pointer none, .pointer none, .pointer none, .pointer none]) k1 2 rfl
  have d13 := Blk.cell (t := 119) (cs := [.pointer none, .pointer none, .pointer none, .pointer none]) k1 3 rfl
  have d20 := Blk.cell (t := 119) (cs := [.pointer none, .pointer none, .pointer none, .pointer none]) k2 0 rfl
  have d21 := Blk.cell (t := 119) (cs := [.pointer none, .pointer none, .pointer none, .pointer none]) k2 1 rfl
  have d22 := Blk.cell (t := 119) (cs := [.pointer none, .pointer none, .pointer none, .pointer none]) k2 2 rfl
  have d23 := Blk.cell (t := 119) (cs := [.pointer none, .pointer none, .pointer none, .pointer none]) k2 3 rfl
  have hne1 : ¬ p1 = p2 := hne
  have hne2 : ¬ p2 = p1 := fun e => hne e.symm
  clear hb2 k1 k2 I0 hp1 hp2 hz1 hz2 hne
  simp only [List.drop_succ_cons, List.drop_zero]
  go_wp2
  go_ret2
  exact ⟨rfl, HI.out.2.2.2.2⟩

set_option maxHeartbeats 4000000 in
set_option maxRecDepth 100000 in
theorem newLimiter_go (m : Mot) (A : Option Addr) (s0 s1 s2 s3 s4 : Sp) (cap : Nat) (w : World) (hx : SpAt w A [s0, s1, s2, s3, s4]) (hC : Dv.chkB m = true) :
    Calls Try.prog 108 #[.agg #[.int .i64 m.r, .int .i64 m.ld, .int .i64 m.lq, .int .i64 m.fx, .int .i64 m.po, .int .i64 m.mi, .int .i64 m.sp, .int .i64 m.dr, .int .i64 m.cu, .int .i64 m.fa], .slice A 5 cap] w (LmP m [s0, s1, s2, s3, s4] w) := by
  have HK := Lib.hid (Dv.chkB_iff.1 hC)
  have HX := Lib.hid hx
  clear hx
  go_enter Try.func108, Try.ntmps108
  go_wp2_with fail
  refine (Check_yes m _ hC).mono ?_
  rintro e w1 ⟨rfl, hb1⟩
  have B1 := Lib.hid ((Blk.new' w #[.int .i64 m.r, .int .i64 m.ld, .int .i64 m.lq, .int .i64 m.fx, .int .i64 m.po, .int .i64 m.mi, .int .i64 m.sp, .int .i64 m.dr, .int .i64 m.cu, .int .i64 m.fa] 52).below hb1 (by simp))
  have HB := Lib.hid (((Below.refl w.heap.size w).alloc (Nat.le_refl _) (.cells #[.int .i64 m.r, .int .i64 m.ld, .int .i64 m.lq, .int .i64 m.fx, .int .i64 m.po, .int .i64 m.mi, .int .i64 m.sp, .int .i64 m.dr, .int .i64 m.cu, .int .i64 m.fa] 52)).trans (hb1.mono (by simp)))
  clear hb1
  have z1 := B1.out.lt
  obtain ⟨c0, c1, c2, c3, c4, c5, c6, c7, c8, c9⟩ := motOf (m := m) B1.out
  go_wp2_with fail
  refine gen_world (fun W => Blk W w1.heap.size 131 (lmC m m m 0 0) ∧ Below w.heap.size w W) ⟨Blk.new' _ _ _, HB.out.alloc HB.out.size _⟩ ?_
  have hg0 := HB.out.size
  generalize w1.heap.size = g at hg0 ⊢
  clear c0 c1 c2 c3 c4 c5 c6 c7 c8 c9 z1 B1 HB w1
  rintro w1 ⟨bg, hB1⟩
  have I0 := Lib.hid (And.intro bg hB1)
  clear bg hB1
  refine wp_region_priv 10 [.q, .q, .q, .q, .q, .q, .q, .q, .p, .p] (fun _ => (.cells #[.pointer none, .pointer none, .pointer none, .pointer none] 119, fun b => .pointer (some ⟨b, 0, none⟩))) ?af (by kernel_rfl) (by kernel_rfl) ?walk ?tail
  case walk =>
    intro V hV
    simp only [List.take_succ_cons, List.take_zero]
    repeat (refine wpP_q ?_; go_big_quiet_step (first | (go_at_call 106; with_reducible exact past_below (parts10_c g _)) | (go_at_call 106; with_reducible exact past_below (parts20_c g _))); refine wpQuiet_nil ?_)
    refine wpP_p (by kernel_rfl) (fun _ => by kernel_rfl) ?_
    (try simp only [Act.put, List.setIfInBounds_toArray, List.set_cons_zero, List.set_cons_succ])
    refine wpP_p (by kernel_rfl) (fun _ => by kernel_rfl) ?_
    (try simp only [Act.put, List.setIfInBounds_toArray, List.set_cons_zero, List.set_cons_succ])
    refine wpP_nil ?_
    rfl
  case tail =>
  intro gs w2 hb2 hP hD
  obtain ⟨hp1, k1⟩ := hP 8 rfl
  obtain ⟨hp2, k2⟩ := hP 9 rfl
  have hne := hD 8 9 rfl rfl (by decide)
  simp only [List.take_succ_cons, List.take_zero, fillP]
  (try simp only [Act.put, List.setIfInBounds_toArray, List.set_cons_zero, List.set_cons_succ])
  generalize gs 8 = p1 at hp1 k1 hne ⊢
  generalize gs 9 = p2 at hp2 k2 hne ⊢
  clear hP hD
  have hz1 := Nat.le_trans I0.out.2.size hp1
  have hz2 := Nat.le_trans I0.out.2.size hp2
  have HI := Lib.hid (LmI.from hg0 (I0.out.1.below hb2 I0.out.1.lt) (I0.out.2.trans (hb2.mono I0.out.2.size)) k1 k2 hne hz1 hz2)
  have f10 := Blk.free (t := 119) (cs := [.pointer none, .pointer none, .pointer none, .pointer none]) k1 0
  have f11 := Blk.free (t := 119) (cs := [.pointer none, .pointer none, .pointer none, .pointer none]) k1 1
  have f12 := Blk.free (t := 119) (cs := [.pointer none, .pointer none, .pointer none, .pointer none]) k1 2
  have f13 := Blk.free (t := 119) (cs := [.pointer none, .pointer none, .pointer none, .pointer none]) k1 3
  have f20 := Blk.free (t := 119) (cs := [.pointer none, .pointer none, .pointer none, .pointer none]) k2 0
  have f21 := Blk.free (t := 119) (cs := [.pointer none, .pointer none, .pointer none, .pointer none]) k2 1
  have f22 := Blk.free (t := 119) (cs := [.pointer none, .pointer none, .pointer none, .pointer none]) k2 2
  have f23 := Blk.free (t := 119) (cs := [.pointer none, .pointer none, .pointer none, .pointer none]) k2 3
  have d10 := Blk.cell (t := 119) (cs := [.pointer none, .pointer none, .pointer none, .pointer none]) k1 0 rfl
  have d11 := Blk.cell (t := 119) (cs := [.pointer none, .pointer none, .pointer none, .pointer none]) k1 1 rfl
  have d12 := Blk.cell (t := 119) (cs := [.pointer none, .pointer none, .pointer none, .pointer none]) k1 2 rfl
  have d13 := Blk.cell (t := 119) (cs := [.pointer none, .pointer none, .pointer none, .pointer none]) k1 3 rfl
  have d20 := Blk.cell (t := 119) (cs := [.pointer none, .pointer none, .pointer none, .pointer none]) k2 0 rfl
  have d21 := Blk.cell (t := 119) (cs := [.pointer none, .pointer none, .pointer none, .pointer none]) k2 1 rfl
  have d22 := Blk.cell (t := 119) (cs := [.pointer none, .pointer none, .pointer none, .pointer none]) k2 2 rfl
  have d23 := Blk.cell (t := 119) (cs := [.pointer none, .pointer none, .pointer none, .pointer none]) k2 3 rfl
  have hne1 : ¬ p1 = p2 := hne
  have hne2 : ¬ p2 = p1 := fun e => hne e.symm
  clear hb2 k1 k2 I0 hp1 hp2 hz1 hz2 hne
  simp only [List.drop_succ_cons, List.drop_zero]
  go_wp2_with fail
  refine gen_world (fun W => LmI w g p1 p2 (lmC m m m 0 0) W) HI.out ?_
  clear HI
  clear f10 f11 f12 f13 f20 f21 f22 f23 d10 d11 d12 d13 d20 d21 d22 d23 hne1 hne2
  rintro w2 i2
  have I2 := Lib.hid i2
  clear i2
  obtain ⟨ad, rfl, i5⟩ := HX.out.five
  have H5 := Lib.hid i5
  clear i5
  go_loopw [37] (fun i wr => ∃ k : Nat, k ≤ 5 ∧ i = .int .i64 k ∧ Hid (LmI w g p1 p2 (lmC m m m 0 0) wr ∧ ∀ j, j < k → Dv.spV ([s0, s1, s2, s3, s4].getD j default) = true)) (fun i _ => 5 - (intOf i).toNat)
  case atStart => exact ⟨0, by omega, rfl, Lib.hid ⟨I2.out, fun j hj => absurd hj (Nat.not_lt_zero _)⟩⟩
  case round =>
    obtain ⟨k, hk, rfl, HW⟩ := hrel
    by_cases hlt : k < 5
    · obtain ⟨ad', e', z1, x0, x1⟩ := (HX.out.below HW.out.1.2.2.2.2) k hlt
      cases e'
      have HV := Lib.hid (show ∀ b, Dv.spV ([s0, s1, s2, s3, s4].getD k default) = b → Dv.spanB ([s0, s1, s2, s3, s4].getD k default).lo ([s0, s1, s2, s3, s4].getD k default).hi = b from fun b hb => hb)
      have HN := Lib.hid (show Dv.spanB ([s0, s1, s2, s3, s4].getD k default).lo ([s0, s1, s2, s3, s4].getD k default).hi = false → Dv.lmE m [s0, s1, s2, s3, s4] = 2 from fun hf => by
        unfold Dv.lmE
        rw [if_neg]
        intro ha
        unfold Dv.lmA at ha
        simp only [Bool.and_eq_true, List.all_eq_true] at ha
        have hm : [s0, s1, s2, s3, s4].getD k default ∈ [s0, s1, s2, s3, s4] := by
          rw [List.getD_eq_getElem?_getD, List.getElem?_eq_getElem hlt]
          exact List.getElem_mem _
        have := ha.2.2 _ hm
        unfold Dv.spV at this
        rw [hf] at this
        cases this)
      have HY := Lib.hid (show Dv.spanB ([s0, s1, s2, s3, s4].getD k default).lo ([s0, s1, s2, s3, s4].getD k default).hi = true → ∀ j, j < k + 1 → Dv.spV ([s0, s1, s2, s3, s4].getD j default) = true from fun ht j hj => by
        by_cases hjk : j = k
        · subst hjk; exact ht
        · exact HW.out.2 j (by omega))
      have HI := Lib.hid HW.out.1
      clear HW HV
      generalize [s0, s1, s2, s3, s4].getD k default = s at x0 x1 HN HY
      go_wp2_with fail
      refine (span_c s.lo s.hi _).mono ?_
      rintro e w4 ⟨rfl, hb4⟩
      have I4 := Lib.hid ((HI.out.below ((Below.refl _ _).alloc (Nat.le_refl _) _)).below hb4)
      clear hb4 x0 x1 z1
      cases hv : Dv.spanB s.lo s.hi
      · have HE := Lib.hid (HN.out hv)
        clear hv
        go_wp2
        go_ret2
        exact ⟨I4.out.2.2.2.2, .inl ⟨by rw [HE.out]; decide, by rw [HE.out]; rfl⟩⟩
      · have HF := Lib.hid (HY.out hv)
        clear hv
        go_wp2
        go_roundw
        case rel => exact ⟨k + 1, by omega, by go_num, Lib.hid ⟨I4.out, HF.out⟩⟩
        case measure => simp [intOf]; omega
    · obtain rfl : k = 5 := by omega
      have v0 := HW.out.2 0 (by omega)
      have v1 := HW.out.2 1 (by omega)
      have v2 := HW.out.2 2 (by omega)
      have v3 := HW.out.2 3 (by omega)
      have v4 := HW.out.2 4 (by omega)
      have HA : Hid (Dv.lmA m [s0, s1, s2, s3, s4] = true) := Lib.hid (by
        unfold Dv.lmA
        rw [hC]
        simp only [List.all_cons, List.all_nil]
        rw [show Dv.spV s0 = true from v0, show Dv.spV s1 = true from v1, show Dv.spV s2 = true from v2, show Dv.spV s3 = true from v3, show Dv.spV s4 = true from v4]
        rfl)
      have q0 := spV_bd v0
      have q1 := spV_bd v1
      have q2 := spV_bd v2
      have q3 := spV_bd v3
      have q4 := spV_bd v4
      simp only [List.getD_cons_zero, List.getD_cons_succ] at q0 q1 q2 q3 q4
      have I4 := Lib.hid HW.out.1
      clear HW v0 v1 v2 v3 v4
      have hm := HK.out
      unfold Dv.chk at hm
      go_wp2_with fail
      refine wp_loop_rounds 5 ?_
      rw [rounds_succ]
      go_wp2_with fail
      refine wp_region_head 12 ?afL0 (by kernel_rfl) (by kernel_rfl) ?walkL0 ?tailL0
      case walkL0 =>
        intro V hV
        have IV := Lib.hid (I4.out.below hV)
        have hz5 := H5.out.1
        obtain ⟨z5, x0, x1, x2, x3, x4, x5, x6, x7, x8, x9⟩ := H5.out.below IV.out.2.2.2.2 hz5
        obtain ⟨_, ⟨y0, y1, y2, y3, _⟩, ⟨u0, u1, u2, u3, _⟩, _⟩ := lmCells IV.out.2.1
        obtain ⟨t0, t1, t2, t3⟩ := ptrCells IV.out.2.2.1
        obtain ⟨r0, r1, r2, r3⟩ := ptrCells IV.out.2.2.2.1
        have zz1 := IV.out.2.1.lt
        have zz2 := IV.out.2.2.1.lt
        have zz3 := IV.out.2.2.2.1.lt
        simp only [List.take_succ_cons, List.take_zero]
        repeat (go_big_quiet_step (fail))
        refine wpQuiet_nil ?_
        rfl
      case tailL0 =>
      intro w5 hb5
      have I5 := Lib.hid (I4.out.below hb5)
      clear hb5 I4
      have fr := I5.out.2.1.free 10
      obtain ⟨_, ⟨y0, y1, y2, y3, _⟩, ⟨u0, u1, u2, u3, _⟩, _⟩ := lmCells I5.out.2.1
      simp only [List.drop_succ_cons, List.drop_zero]
      go_wp2_with fail
      refine gen_world (fun W => LmI w g p1 p2 (lmC m (Mot.mk (m.r + s0.lo) m.ld m.lq m.fx m.po m.mi m.sp m.dr m.cu m.fa) (Mot.mk m.r m.ld m.lq m.fx m.po m.mi m.sp m.dr m.cu m.fa) 0 0) W) (I5.out.put 10 _ rfl) ?_
      clear I5 fr y0 y1 y2 y3 u0 u1 u2 u3
      rintro w4 i4
      have I4 := Lib.hid i4
      clear i4
      refine wp_region_head 12 ?afH0 (by kernel_rfl) (by kernel_rfl) ?walkH0 ?tailH0
      case walkH0 =>
        intro V hV
        have IV := Lib.hid (I4.out.below hV)
        have hz5 := H5.out.1
        obtain ⟨z5, x0, x1, x2, x3, x4, x5, x6, x7, x8, x9⟩ := H5.out.below IV.out.2.2.2.2 hz5
        obtain ⟨_, ⟨y0, y1, y2, y3, _⟩, ⟨u0, u1, u2, u3, _⟩, _⟩ := lmCells IV.out.2.1
        obtain ⟨t0, t1, t2, t3⟩ := ptrCells IV.out.2.2.1
        obtain ⟨r0, r1, r2, r3⟩ := ptrCells IV.out.2.2.2.1
        have zz1 := IV.out.2.1.lt
        have zz2 := IV.out.2.2.1.lt
        have zz3 := IV.out.2.2.2.1.lt
        simp only [List.take_succ_cons, List.take_zero]
        repeat (go_big_quiet_step (fail))
        refine wpQuiet_nil ?_
        rfl
      case tailH0 =>
      intro w5 hb5
      have I5 := Lib.hid (I4.out.below hb5)
      clear hb5 I4
      have fr := I5.out.2.1.free 20
      obtain ⟨_, ⟨y0, y1, y2, y3, _⟩, ⟨u0, u1, u2, u3, _⟩, _⟩ := lmCells I5.out.2.1
      simp only [List.drop_succ_cons, List.drop_zero]
      go_wp2_with fail
      refine gen_world (fun W => LmI w g p1 p2 (lmC m (Mot.mk (m.r + s0.lo) m.ld m.lq m.fx m.po m.mi m.sp m.dr m.cu m.fa) (Mot.mk (m.r + s0.hi) m.ld m.lq m.fx m.po m.mi m.sp m.dr m.cu m.fa) 0 0) W) (I5.out.put 20 _ rfl) ?_
      clear I5 fr y0 y1 y2 y3 u0 u1 u2 u3
      rintro w4 i4
      have I4 := Lib.hid i4
      clear i4
      go_wp2_with fail
      try (rw [rounds_succ]; go_wp2_with fail)
      refine wp_region_head 12 ?afL1 (by kernel_rfl) (by kernel_rfl) ?walkL1 ?tailL1
      case walkL1 =>
        intro V hV
        have IV := Lib.hid (I4.out.below hV)
        have hz5 := H5.out.1
        obtain ⟨z5, x0, x1, x2, x3, x4, x5, x6, x7, x8, x9⟩ := H5.out.below IV.out.2.2.2.2 hz5
        obtain ⟨_, ⟨y0, y1, y2, y3, _⟩, ⟨u0, u1, u2, u3, _⟩, _⟩ := lmCells IV.out.2.1
        obtain ⟨t0, t1, t2, t3⟩ := ptrCells IV.out.2.2.1
        obtain ⟨r0, r1, r2, r3⟩ := ptrCells IV.out.2.2.2.1
        have zz1 := IV.out.2.1.lt
        have zz2 := IV.out.2.2.1.lt
        have zz3 := IV.out.2.2.2.1.lt
        simp only [List.take_succ_cons, List.take_zero]
        repeat (go_big_quiet_step (fail))
        refine wpQuiet_nil ?_
        rfl
      case tailL1 =>
      intro w5 hb5
      have I5 := Lib.hid (I4.out.below hb5)
      clear hb5 I4
      have fr := I5.out.2.1.free 11
      obtain ⟨_, ⟨y0, y1, y2, y3, _⟩, ⟨u0, u1, u2, u3, _⟩, _⟩ := lmCells I5.out.2.1
      simp only [List.drop_succ_cons, List.drop_zero]
      go_wp2_with fail
      refine gen_world (fun W => LmI w g p1 p2 (lmC m (Mot.mk (m.r + s0.lo) (m.ld + s1.lo) m.lq m.fx m.po m.mi m.sp m.dr m.cu m.fa) (Mot.mk (m.r + s0.hi) m.ld m.lq m.fx m.po m.mi m.sp m.dr m.cu m.fa) 0 0) W) (I5.out.put 11 _ rfl) ?_
      clear I5 fr y0 y1 y2 y3 u0 u1 u2 u3
      rintro w4 i4
      have I4 := Lib.hid i4
      clear i4
      refine wp_region_head 12 ?afH1 (by kernel_rfl) (by kernel_rfl) ?walkH1 ?tailH1
      case walkH1 =>
        intro V hV
        have IV := Lib.hid (I4.out.below hV)
        have hz5 := H5.out.1
        obtain ⟨z5, x0, x1, x2, x3, x4, x5, x6, x7, x8, x9⟩ := H5.out.below IV.out.2.2.2.2 hz5
        obtain ⟨_, ⟨y0, y1, y2, y3, _⟩, ⟨u0, u1, u2, u3, _⟩, _⟩ := lmCells IV.out.2.1
        obtain ⟨t0, t1, t2, t3⟩ := ptrCells IV.out.2.2.1
        obtain ⟨r0, r1, r2, r3⟩ := ptrCells IV.out.2.2.2.1
        have zz1 := IV.out.2.1.lt
        have zz2 := IV.out.2.2.1.lt
        have zz3 := IV.out.2.2.2.1.lt
        simp only [List.take_succ_cons, List.take_zero]
        repeat (go_big_quiet_step (fail))
        refine wpQuiet_nil ?_
        rfl
      case tailH1 =>
      intro w5 hb5
      have I5 := Lib.hid (I4.out.below hb5)
      clear hb5 I4
      have fr := I5.out.2.1.free 21
      obtain ⟨_, ⟨y0, y1, y2, y3, _⟩, ⟨u0, u1, u2, u3, _⟩, _⟩ := lmCells I5.out.2.1
      simp only [List.drop_succ_cons, List.drop_zero]
      go_wp2_with fail
      refine gen_world (fun W => LmI w g p1 p2 (lmC m (Mot.mk (m.r + s0.lo) (m.ld + s1.lo) m.lq m.fx m.po m.mi m.sp m.dr m.cu m.fa) (Mot.mk (m.r + s0.hi) (m.ld + s1.hi) m.lq m.fx m.po m.mi m.sp m.dr m.cu m.fa) 0 0) W) (I5.out.put 21 _ rfl) ?_
      clear I5 fr y0 y1 y2 y3 u0 u1 u2 u3
      rintro w4 i4
      have I4 := Lib.hid i4
      clear i4
      go_wp2_with fail
      try (rw [rounds_succ]; go_wp2_with fail)
      refine wp_region_head 12 ?afL2 (by kernel_rfl) (by kernel_rfl) ?walkL2 ?tailL2
      case walkL2 =>
        intro V hV
        have IV := Lib.hid (I4.out.below hV)
        have hz5 := H5.out.1
        obtain ⟨z5, x0, x1, x2, x3, x4, x5, x6, x7, x8, x9⟩ := H5.out.below IV.out.2.2.2.2 hz5
        obtain ⟨_, ⟨y0, y1, y2, y3, _⟩, ⟨u0, u1, u2, u3, _⟩, _⟩ := lmCells IV.out.2.1
        obtain ⟨t0, t1, t2, t3⟩ := ptrCells IV.out.2.2.1
        obtain ⟨r0, r1, r2, r3⟩ := ptrCells IV.out.2.2.2.1
        have zz1 := IV.out.2.1.lt
        have zz2 := IV.out.2.2.1.lt
        have zz3 := IV.out.2.2.2.1.lt
        simp only [List.take_succ_cons, List.take_zero]
        repeat (go_big_quiet_step (fail))
        refine wpQuiet_nil ?_
        rfl
      case tailL2 =>
      intro w5 hb5
      have I5 := Lib.hid (I4.out.below hb5)
      clear hb5 I4
      have fr := I5.out.2.1.free 12
      obtain ⟨_, ⟨y0, y1, y2, y3, _⟩, ⟨u0, u1, u2, u3, _⟩, _⟩ := lmCells I5.out.2.1
      simp only [List.drop_succ_cons, List.drop_zero]
      go_wp2_with fail
      refine gen_world (fun W => LmI w g p1 p2 (lmC m (Mot.mk (m.r + s0.lo) (m.ld + s1.lo) (m.lq + s2.lo) m.fx m.po m.mi m.sp m.dr m.cu m.fa) (Mot.mk (m.r + s0.hi) (m.ld + s1.hi) m.lq m.fx m.po m.mi m.sp m.dr m.cu m.fa) 0 0) W) (I5.out.put 12 _ rfl) ?_
      clear I5 fr y0 y1 y2 y3 u0 u1 u2 u3
      rintro w4 i4
      have I4 := Lib.hid i4
      clear i4
      refine wp_region_head 12 ?afH2 (by kernel_rfl) (by kernel_rfl) ?walkH2 ?tailH2
      case walkH2 =>
        intro V hV
        have IV := Lib.hid (I4.out.below hV)
        have hz5 := H5.out.1
        obtain ⟨z5, x0, x1, x2, x3, x4, x5, x6, x7, x8, x9⟩ := H5.out.below IV.out.2.2.2.2 hz5
        obtain ⟨_, ⟨y0, y1, y2, y3, _⟩, ⟨u0, u1, u2, u3, _⟩, _⟩ := lmCells IV.out.2.1
        obtain ⟨t0, t1, t2, t3⟩ := ptrCells IV.out.2.2.1
        obtain ⟨r0, r1, r2, r3⟩ := ptrCells IV.out.2.2.2.1
        have zz1 := IV.out.2.1.lt
        have zz2 := IV.out.2.2.1.lt
        have zz3 := IV.out.2.2.2.1.lt
        simp only [List.take_succ_cons, List.take_zero]
        repeat (go_big_quiet_step (fail))
        refine wpQuiet_nil ?_
        rfl
      case tailH2 =>
      intro w5 hb5
      have I5 := Lib.hid (I4.out.below hb5)
      clear hb5 I4
      have fr := I5.out.2.1.free 22
      obtain ⟨_, ⟨y0, y1, y2, y3, _⟩, ⟨u0, u1, u2, u3, _⟩, _⟩ := lmCells I5.out.2.1
      simp only [List.drop_succ_cons, List.drop_zero]
      go_wp2_with fail
      refine gen_world (fun W => LmI w g p1 p2 (lmC m (Mot.mk (m.r + s0.lo) (m.ld + s1.lo) (m.lq + s2.lo) m.fx m.po m.mi m.sp m.dr m.cu m.fa) (Mot.mk (m.r + s0.hi) (m.ld + s1.hi) (m.lq + s2.hi) m.fx m.po m.mi m.sp m.dr m.cu m.fa) 0 0) W) (I5.out.put 22 _ rfl) ?_
      clear I5 fr y0 y1 y2 y3 u0 u1 u2 u3
      rintro w4 i4
      have I4 := Lib.hid i4
      clear i4
      go_wp2_with fail
      try (rw [rounds_succ]; go_wp2_with fail)
      refine wp_region_head 12 ?afL3 (by kernel_rfl) (by kernel_rfl) ?walkL3 ?tailL3
      case walkL3 =>
        intro V hV
        have IV := Lib.hid (I4.out.below hV)
        have hz5 := H5.out.1
        obtain ⟨z5, x0, x1, x2, x3, x4, x5, x6, x7, x8, x9⟩ := H5.out.below IV.out.2.2.2.2 hz5
        obtain ⟨_, ⟨y0, y1, y2, y3, _⟩, ⟨u0, u1, u2, u3, _⟩, _⟩ := lmCells IV.out.2.1
        obtain ⟨t0, t1, t2, t3⟩ := ptrCells IV.out.2.2.1
        obtain ⟨r0, r1, r2, r3⟩ := ptrCells IV.out.2.2.2.1
        have zz1 := IV.out.2.1.lt
        have zz2 := IV.out.2.2.1.lt
        have zz3 := IV.out.2.2.2.1.lt
        simp only [List.take_succ_cons, List.take_zero]
        repeat (go_big_quiet_step (fail))
        refine wpQuiet_nil ?_
        rfl
      case tailL3 =>
      intro w5 hb5
      have I5 := Lib.hid (I4.out.below hb5)
      clear hb5 I4
      have fr := I5.out.2.1.free 13
      obtain ⟨_, ⟨y0, y1, y2, y3, _⟩, ⟨u0, u1, u2, u3, _⟩, _⟩ := lmCells I5.out.2.1
      simp only [List.drop_succ_cons, List.drop_zero]
      go_wp2_with fail
      refine gen_world (fun W => LmI w g p1 p2 (lmC m (Mot.mk (m.r + s0.lo) (m.ld + s1.lo) (m.lq + s2.lo) (m.fx + s3.lo) m.po m.mi m.sp m.dr m.cu m.fa) (Mot.mk (m.r + s0.hi) (m.ld + s1.hi) (m.lq + s2.hi) m.fx m.po m.mi m.sp m.dr m.cu m.fa) 0 0) W) (I5.out.put 13 _ rfl) ?_
      clear I5 fr y0 y1 y2 y3 u0 u1 u2 u3
      rintro w4 i4
      have I4 := Lib.hid i4
      clear i4
      refine wp_region_head 12 ?afH3 (by kernel_rfl) (by kernel_rfl) ?walkH3 ?tailH3
      case walkH3 =>
        intro V hV
        have IV := Lib.hid (I4.out.below hV)
        have hz5 := H5.out.1
        obtain ⟨z5, x0, x1, x2, x3, x4, x5, x6, x7, x8, x9⟩ := H5.out.below IV.out.2.2.2.2 hz5
        obtain ⟨_, ⟨y0, y1, y2, y3, _⟩, ⟨u0, u1, u2, u3, _⟩, _⟩ := lmCells IV.out.2.1
        obtain ⟨t0, t1, t2, t3⟩ := ptrCells IV.out.2.2.1
        obtain ⟨r0, r1, r2, r3⟩ := ptrCells IV.out.2.2.2.1
        have zz1 := IV.out.2.1.lt
        have zz2 := IV.out.2.2.1.lt
        have zz3 := IV.out.2.2.2.1.lt
        simp only [List.take_succ_cons, List.take_zero]
        repeat (go_big_quiet_step (fail))
        refine wpQuiet_nil ?_
        rfl
      case tailH3 =>
      intro w5 hb5
      have I5 := Lib.hid (I4.out.below hb5)
      clear hb5 I4
      have fr := I5.out.2.1.free 23
      obtain ⟨_, ⟨y0, y1, y2, y3, _⟩, ⟨u0, u1, u2, u3, _⟩, _⟩ := lmCells I5.out.2.1
      simp only [List.drop_succ_cons, List.drop_zero]
      go_wp2_with fail
      refine gen_world (fun W => LmI w g p1 p2 (lmC m (Mot.mk (m.r + s0.lo) (m.ld + s1.lo) (m.lq + s2.lo) (m.fx + s3.lo) m.po m.mi m.sp m.dr m.cu m.fa) (Mot.mk (m.r + s0.hi) (m.ld + s1.hi) (m.lq + s2.hi) (m.fx + s3.hi) m.po m.mi m.sp m.dr m.cu m.fa) 0 0) W) (I5.out.put 23 _ rfl) ?_
      clear I5 fr y0 y1 y2 y3 u0 u1 u2 u3
      rintro w4 i4
      have I4 := Lib.hid i4
      clear i4
      have hz5 := H5.out.1
      obtain ⟨z5, x0, x1, x2, x3, x4, x5, x6, x7, x8, x9⟩ := H5.out.below I4.out.2.2.2.2 hz5
      have x99 : w4.cell? ⟨ad.block, ad.off + 8 + 1, none⟩ = some (.int .i64 s4.hi) := x9
      have f30 := I4.out.2.1.free 30
      have f31 := I4.out.2.1.free 31
      have y30 := (lmCells I4.out.2.1).2.2.2.1
      have y31 := (lmCells I4.out.2.1).2.2.2.2
      have zz1 := I4.out.2.1.lt
      go_wp2_with fail
      refine gen_world (fun W => LmI w g p1 p2 (lmC m (m.plus s0.lo s1.lo s2.lo s3.lo) (m.plus s0.hi s1.hi s2.hi s3.hi) s4.lo s4.hi) W) ((I4.out.put 30 _ rfl).put 31 _ rfl) ?_
      clear I4 z5 x0 x1 x2 x3 x4 x5 x6 x7 x8 x9 x99 f30 f31 y30 y31 zz1
      rintro w4 i4
      have I4 := Lib.hid i4
      clear i4 q0 q1 q2 q3 q4 hm
      have HLO : Hid (Dv.lmLo m [s0, s1, s2, s3, s4] = (m.plus s0.lo s1.lo s2.lo s3.lo)) := Lib.hid rfl
      have HHI : Hid (Dv.lmHi m [s0, s1, s2, s3, s4] = (m.plus s0.hi s1.hi s2.hi s3.hi)) := Lib.hid rfl
      generalize hlo : (m.plus s0.lo s1.lo s2.lo s3.lo) = lo at I4 HLO ⊢
      generalize hhi : (m.plus s0.hi s1.hi s2.hi s3.hi) = hi at I4 HHI ⊢
      clear hlo hhi
      have HEE : Hid (Dv.lmE m [s0, s1, s2, s3, s4] = if (Dv.chkB lo && (Dv.chkB hi && upB 16384 [s4.lo, s4.hi])) = true then 0 else 3) := Lib.hid (by unfold Dv.lmE Dv.lmB; rw [if_pos HA.out, HLO.out, HHI.out]; rfl)
      have cells : ∀ V, Below w4.heap.size w4 V → Hid (LmI w g p1 p2 (lmC m lo hi s4.lo s4.hi) V) := fun V hV => Lib.hid (I4.out.below hV)
      have zz1 := I4.out.2.1.lt
      obtain ⟨⟨a0, a1, a2, a3, a4, a5, a6, a7, a8, a9⟩, ⟨b0, b1, b2, b3, b4, b5, b6, b7, b8, b9⟩, ⟨c0, c1, c2, c3, c4, c5, c6, c7, c8, c9⟩, ⟨d0, d1⟩⟩ := lmCells I4.out.2.1
      clear a0 a1 a2 a3 a4 a5 a6 a7 a8 a9
      cases h1 : Dv.chkB lo
      · have HE : Hid (Dv.lmE m [s0, s1, s2, s3, s4] = 3) := Lib.hid (by rw [HEE.out, h1]; rfl)
        refine wp_region_past (by kernel_rfl) (by kernel_rfl) ?_
        repeat (go_big_quiet_step ((go_at_call 48; with_reducible exact past_below (Check_no lo _ h1))))
        refine wpQuiet_nil ?_
        intro y
        have I6 := cells y.w y.far
        generalize y.w = w6 at I6 ⊢
        clear b0 b1 b2 b3 b4 b5 b6 b7 b8 b9 c0 c1 c2 c3 c4 c5 c6 c7 c8 c9 d0 d1 h1
        go_wp2
        go_ret2
        exact ⟨I6.out.2.2.2.2, .inl ⟨by rw [HE.out]; decide, by rw [HE.out]; rfl⟩⟩
      · cases h2 : Dv.chkB hi
        · have HE : Hid (Dv.lmE m [s0, s1, s2, s3, s4] = 3) := Lib.hid (by rw [HEE.out, h1, h2]; rfl)
          refine wp_region_past (by kernel_rfl) (by kernel_rfl) ?_
          repeat (go_big_quiet_step (first | (go_at_call 48; with_reducible exact past_below (Check_yes lo _ h1)) | (go_at_call 48; with_reducible exact past_below (Check_no hi _ h2))))
          refine wpQuiet_nil ?_
          intro y
          have I6 := cells y.w y.far
          generalize y.w = w6 at I6 ⊢
          clear b0 b1 b2 b3 b4 b5 b6 b7 b8 b9 c0 c1 c2 c3 c4 c5 c6 c7 c8 c9 d0 d1 h1 h2
          go_wp2
          go_ret2
          exact ⟨I6.out.2.2.2.2, .inl ⟨by rw [HE.out]; decide, by rw [HE.out]; rfl⟩⟩
        · refine wp_region_priv 29 [.q, .q, .q, .q, .q, .q, .q, .q, .q, .q, .q, .q, .q, .q, .q, .q, .q, .q, .q, .q, .q, .q, .q, .q, .q, .p, .c 25 104, .q, .q] (fun _ => (.cells #[.int .i64 s4.lo, .int .i64 s4.hi] 2, fun g => .slice (some ⟨g, 0, none⟩) 2 2)) ?af9 (by kernel_rfl) (by kernel_rfl) ?walk9 ?tail9
          case walk9 =>
            intro V hV
            have IV := cells V hV
            obtain ⟨_, ⟨b0, b1, b2, b3, b4, b5, b6, b7, b8, b9⟩, ⟨c0, c1, c2, c3, c4, c5, c6, c7, c8, c9⟩, ⟨d0, d1⟩⟩ := lmCells IV.out.2.1
            have zz1 := IV.out.2.1.lt
            simp only [List.take_succ_cons, List.take_zero]
            repeat (refine wpP_q ?_; go_big_quiet_step (first | (go_at_call 48; with_reducible exact past_below (Check_yes lo _ h1)) | (go_at_call 48; with_reducible exact past_below (Check_yes hi _ h2))); refine wpQuiet_nil ?_)
            refine wpP_p (by kernel_rfl) (fun _ => by kernel_rfl) ?_
            (try simp only [Act.put, List.setIfInBounds_toArray, List.set_cons_zero, List.set_cons_succ])
            refine wpP_c (.bool (upB 16384 [s4.lo, s4.hi])) (fun V' g' hV' hg' => ?_) ?_
            · (try simp only [Act.put, List.setIfInBounds_toArray, List.set_cons_zero, List.set_cons_succ])
              have hbb : Blk V' g' 2 [.int .i64 s4.lo, .int .i64 s4.hi] := hg'
              have zg := hbb.lt
              go_big_quiet_step ((go_at_call 67; exact past_same (upTo2_at 16384 s4.lo s4.hi g' _ (hbb.below (Past.far _) hbb.lt) (by omega) (by omega))))
              refine wpQuiet_nil ?_
              rfl
            · (try simp only [Act.put, List.setIfInBounds_toArray, List.set_cons_zero, List.set_cons_succ])
              repeat (refine wpP_q ?_; go_big_quiet_step (fail); refine wpQuiet_nil ?_)
              refine wpP_nil ?_
              rfl
          case tail9 =>
          intro gs w6 hb6 _ _
          have I6 := cells w6 hb6
          clear hb6 cells b0 b1 b2 b3 b4 b5 b6 b7 b8 b9 c0 c1 c2 c3 c4 c5 c6 c7 c8 c9 d0 d1 I4
          simp only [List.drop_succ_cons, List.drop_nil, List.take_succ_cons, List.take_nil, fillP]
          (try simp only [Act.put, List.setIfInBounds_toArray, List.set_cons_zero, List.set_cons_succ])
          cases h3 : upB 16384 [s4.lo, s4.hi]
          · have HE : Hid (Dv.lmE m [s0, s1, s2, s3, s4] = 3) := Lib.hid (by rw [HEE.out, h1, h2, h3]; rfl)
            clear h1 h2 h3
            go_wp2
            go_ret2
            exact ⟨I6.out.2.2.2.2, .inl ⟨by rw [HE.out]; decide, by rw [HE.out]; rfl⟩⟩
          · have HE : Hid (Dv.lmE m [s0, s1, s2, s3, s4] = 0) := Lib.hid (by rw [HEE.out, h1, h2, h3]; rfl)
            clear h1 h2 h3
            go_wp2
            go_ret2
            exact ⟨I6.out.2.2.2.2, .inr ⟨HE.out, g, hg0, rfl, by rw [HLO.out, HHI.out]; exact I6.out.2.1⟩⟩
theorem newLimiter_c (m : Mot) (A : Option Addr) (l : List Sp) (cap : Nat) (w : World) (hx : SpAt w A l) (hll : l.length ≤ 4611686018427387904) :
    Calls Try.prog 108 #[.agg #[.int .i64 m.r, .int .i64 m.ld, .int .i64 m.lq, .int .i64 m.fx, .int .i64 m.po, .int .i64 m.mi, .int .i64 m.sp, .int .i64 m.dr, .int .i64 m.cu, .int .i64 m.fa], .slice A l.length cap] w (LmP m l w) := by
  cases hC : Dv.chkB m
  · exact (newLimiter_no1 m A l.length cap w hC).mono fun _ _ ⟨h1, h2⟩ => ⟨h2, .inl (by
      have : Dv.lmE m l = 2 := by simp [Dv.lmE, Dv.lmA, hC]
      rw [this]; exact ⟨by decide, h1⟩)⟩
  · by_cases hl : l.length = 5
    · match l, hl with
      | [s0, s1, s2, s3, s4], _ => exact newLimiter_go m A s0 s1 s2 s3 s4 cap w hx hC
    · exact (newLimiter_no2 m A l cap w hx hC (by simp; omega)).mono fun _ _ ⟨h1, h2⟩ => ⟨h2, .inl (by
        have : Dv.lmE m l = 2 := by simp [Dv.lmE, Dv.lmA, hl]
        rw [this]; exact ⟨by decide, h1⟩)⟩
end Go.Proofs.Ytcneohhfnnelgaa
namespace Go.Proofs.Ytcneohhfnnelgaa
open Go.RowKit
set_option linter.unusedVariables false

theorem ends4_c (p q r s : Int) (W : World) (g : Nat) (hg : W.heap.size = g) :
    Calls Try.prog 68 #[.slice (some ⟨g, 0, none⟩) 4 4] (W.alloc (.cells #[.int .i64 p, .int .i64 q, .int .i64 r, .int .i64 s] 2)) fun e w' => e = .returned (.tuple #[.int .i64 (Dv.mn4 p q r s), .int .i64 (Dv.mx4 p q r s)]) ∧ Below W.heap.size W w' := by
  subst hg
  refine (ends_c (some ⟨W.heap.size, 0, none⟩) [p, q, r, s] 4 _ (by simp) (by simp) (by omega) (intsAt_alloc W 2 [p, q, r, s])).mono ?_
  rintro e w' ⟨rfl, n, rfl⟩
  exact ⟨rfl, below_drewN ((Below.refl _ _).alloc (Nat.le_refl _) _) n⟩

/-- what lies in memory while product runs: the spans, the result, the product so far -/
def PrI (w : World) (g : Nat) (cs : List Value) (lo hi : Int) (W : World) : Prop := Blk W g 29 cs ∧ Blk W w.heap.size 29 [.int .i64 0, .int .i64 0] ∧ Blk W (w.heap.size + 1) 29 [.int .i64 lo, .int .i64 hi] ∧ Below w.heap.size w W
theorem PrI.below {w : World} {g : Nat} {cs : List Value} {lo hi : Int} {W W' : World} (h : PrI w g cs lo hi W) (hb : Below W.heap.size W W') : PrI w g cs lo hi W' :=
  ⟨h.1.below hb h.1.lt, h.2.1.below hb h.2.1.lt, h.2.2.1.below hb h.2.2.1.lt, h.2.2.2.trans (hb.mono h.2.2.2.size)⟩
theorem PrI.start {w : World} {g : Nat} {cs : List Value} {lo hi : Int} (h : Blk w g 29 cs) : PrI w g cs lo hi ((w.alloc (.cells #[.int .i64 0, .int .i64 0] 29)).alloc (.cells #[.int .i64 lo, .int .i64 hi] 29)) :=
  ⟨(h.alloc _).alloc _, (Blk.new' _ _ _).alloc _, by have := Blk.new' (w.alloc (.cells #[.int .i64 0, .int .i64 0] 29)) #[.int .i64 lo, .int .i64 hi] 29; simpa using this, ((Below.refl _ _).alloc (Nat.le_refl _) _).alloc (by simp) _⟩
theorem PrI.put {w : World} {g : Nat} {cs : List Value} {lo hi lo' hi' : Int} {W : World} (hg : g < w.heap.size) (h : PrI w g cs lo hi W) : PrI w g cs lo' hi' ((W.setCell ⟨w.heap.size + 1, 0, none⟩ (.int .i64 lo')).setCell ⟨w.heap.size + 1, 1, none⟩ (.int .i64 hi')) :=
  ⟨(h.1.setCell_ne (by simp; omega) _).setCell_ne (by simp; omega) _, (h.2.1.setCell_ne (by simp) _).setCell_ne (by simp) _, (h.2.2.1.setCell 0 _).setCell 1 _, (h.2.2.2.setCell (by simp) _).setCell (by simp) _⟩

set_option maxHeartbeats 2000000 in
theorem product2_c (a b c d : Int) (g : Nat) (w : World) (hg : Blk w g 29 [.int .i64 a, .int .i64 b, .int .i64 c, .int .i64 d]) (h1 : -4611686018427387904 ≤ a * c ∧ a * c ≤ 4611686018427387904) (h2 : -4611686018427387904 ≤ a * d ∧ a * d ≤ 4611686018427387904) (h3 : -4611686018427387904 ≤ b * c ∧ b * c ≤ 4611686018427387904) (h4 : -4611686018427387904 ≤ b * d ∧ b * d ≤ 4611686018427387904) :
    Calls Try.prog 130 #[.slice (some ⟨g, 0, none⟩) 2 2] w fun e w' => e = .returned (.agg #[.int .i64 (Dv.mn4 (a * c) (a * d) (b * c) (b * d)), .int .i64 (Dv.mx4 (a * c) (a * d) (b * c) (b * d))]) ∧ Below w.heap.size w w' := by
  have I0 := Lib.hid (PrI.start (lo := a) (hi := b) hg)
  have zg := hg.lt
  have e0 := hg.cell 0 rfl
  have e1 := hg.cell 1 rfl
  clear hg
  go_enter Try.func130, Try.ntmps130
  go_wp2_with fail
  clear e0 e1
  refine gen_world (fun W => PrI w g [.int .i64 a, .int .i64 b, .int .i64 c, .int .i64 d] a b W) I0.out ?_
  clear I0
  rintro w1 i1
  have I1 := Lib.hid i1
  have e2 := i1.1.cell 2 rfl
  have e3 := i1.1.cell 3 rfl
  have q0 := i1.2.2.1.cell 0 rfl
  have q1 := i1.2.2.1.cell 1 rfl
  have z1 := i1.2.2.1.lt
  have z2 := i1.1.lt
  clear i1
  refine wp_loop_rounds 2 ?_
  rw [rounds_succ]
  go_wp2_with fail
  refine (ends4_c (a * c) (a * d) (b * c) (b * d) _ _ (by simp)).mono ?_
  rintro e w2 ⟨rfl, hb2⟩
  have I2 := Lib.hid ((I1.out.below ((Below.refl _ _).alloc (Nat.le_refl _) (.cells #[.int .i64 c, .int .i64 d] 29))).below hb2)
  clear hb2 e2 e3 q0 q1 z1 z2
  have f0 := I2.out.2.2.1.free 0
  have f1 := I2.out.2.2.1.free 1
  have q0 := I2.out.2.2.1.cell 0 rfl
  have q1 := I2.out.2.2.1.cell 1 rfl
  have z1 := I2.out.2.2.1.lt
  have HP := Lib.hid (I2.out.put (lo' := Dv.mn4 (a * c) (a * d) (b * c) (b * d)) (hi' := Dv.mx4 (a * c) (a * d) (b * c) (b * d)) zg)
  go_wp2_with fail
  clear f0 f1 q0 q1 z1
  refine gen_world (fun W => PrI w g [.int .i64 a, .int .i64 b, .int .i64 c, .int .i64 d] (Dv.mn4 (a * c) (a * d) (b * c) (b * d)) (Dv.mx4 (a * c) (a * d) (b * c) (b * d)) W) HP.out ?_
  rintro w3 i3
  have I3 := Lib.hid i3
  have r0 := i3.2.1.cell 0 rfl
  have r1 := i3.2.1.cell 1 rfl
  have g0 := i3.2.1.free 0
  have g1 := i3.2.1.free 1
  have q0 := i3.2.2.1.cell 0 rfl
  have q1 := i3.2.2.1.cell 1 rfl
  have z1 := i3.2.2.1.lt
  clear i3
  go_wp2
  exact bodyPost_ret (v := .agg #[.int .i64 (Dv.mn4 (a * c) (a * d) (b * c) (b * d)), .int .i64 (Dv.mx4 (a * c) (a * d) (b * c) (b * d))]) (by simp [results, Try.results130, go_sem, r0, r1]) rfl ⟨rfl, (I3.out.2.2.2.setCell (by simp) _).setCell (by simp) _⟩
end Go.Proofs.Ytcneohhfnnelgaa
namespace Go.Proofs.Ytcneohhfnnelgaa
open Go.RowKit
set_option linter.unusedVariables false

set_option maxHeartbeats 4000000 in
theorem product3_c (a b c d e f l h l2 h2 : Int) (g : Nat) (w : World) (hg : Blk w g 29 [.int .i64 a, .int .i64 b, .int .i64 c, .int .i64 d, .int .i64 e, .int .i64 f]) (b1 : -4611686018427387904 ≤ a * c ∧ a * c ≤ 4611686018427387904) (b2 : -4611686018427387904 ≤ a * d ∧ a * d ≤ 4611686018427387904) (b3 : -4611686018427387904 ≤ b * c ∧ b * c ≤ 4611686018427387904) (b4 : -4611686018427387904 ≤ b * d ∧ b * d ≤ 4611686018427387904) (hl1 : Dv.mn4 (a * c) (a * d) (b * c) (b * d) = l) (hh1 : Dv.mx4 (a * c) (a * d) (b * c) (b * d) = h) (b5 : -4611686018427387904 ≤ l * e ∧ l * e ≤ 4611686018427387904) (b6 : -4611686018427387904 ≤ l * f ∧ l * f ≤ 4611686018427387904) (b7 : -4611686018427387904 ≤ h * e ∧ h * e ≤ 4611686018427387904) (b8 : -4611686018427387904 ≤ h * f ∧ h * f ≤ 4611686018427387904) (hl2 : Dv.mn4 (l * e) (l * f) (h * e) (h * f) = l2) (hh2 : Dv.mx4 (l * e) (l * f) (h * e) (h * f) = h2) :
    Calls Try.prog 130 #[.slice (some ⟨g, 0, none⟩) 3 3] w fun e w' => e = .returned (.agg #[.int .i64 l2, .int .i64 h2]) ∧ Below w.heap.size w w' := by
  have I0 := Lib.hid (PrI.start (lo := a) (hi := b) hg)
  have zg := hg.lt
  have e0 := hg.cell 0 rfl
  have e1 := hg.cell 1 rfl
  clear hg
  go_enter Try.func130, Try.ntmps130
  go_wp2_with fail
  clear e0 e1
  refine gen_world (fun W => PrI w g [.int .i64 a, .int .i64 b, .int .i64 c, .int .i64 d, .int .i64 e, .int .i64 f] a b W) I0.out ?_
  clear I0
  rintro w1 i1
  have I1 := Lib.hid i1
  have e2 := i1.1.cell 2 rfl
  have e3 := i1.1.cell 3 rfl
  have q0 := i1.2.2.1.cell 0 rfl
  have q1 := i1.2.2.1.cell 1 rfl
  have z1 := i1.2.2.1.lt
  have z2 := i1.1.lt
  clear i1
  refine wp_loop_rounds 3 ?_
  rw [rounds_succ]
  go_wp2_with fail
  refine (ends4_c (a * c) (a * d) (b * c) (b * d) _ _ (by simp)).mono ?_
  rintro e w2 ⟨rfl, hb2⟩
  have I2 := Lib.hid ((I1.out.below ((Below.refl _ _).alloc (Nat.le_refl _) (.cells #[.int .i64 c, .int .i64 d] 29))).below hb2)
  clear hb2 e2 e3 q0 q1 z1 z2
  have f0 := I2.out.2.2.1.free 0
  have f1 := I2.out.2.2.1.free 1
  have q0 := I2.out.2.2.1.cell 0 rfl
  have q1 := I2.out.2.2.1.cell 1 rfl
  have z1 := I2.out.2.2.1.lt
  rw [hl1, hh1]
  have HP := Lib.hid (I2.out.put (lo' := l) (hi' := h) zg)
  go_wp2_with fail
  clear f0 f1 q0 q1 z1
  refine gen_world (fun W => PrI w g [.int .i64 a, .int .i64 b, .int .i64 c, .int .i64 d, .int .i64 e, .int .i64 f] l h W) HP.out ?_
  clear HP
  rintro w3 i3
  have I3 := Lib.hid i3
  have e2 := i3.1.cell 4 rfl
  have e3 := i3.1.cell 5 rfl
  have q0 := i3.2.2.1.cell 0 rfl
  have q1 := i3.2.2.1.cell 1 rfl
  have z1 := i3.2.2.1.lt
  have z2 := i3.1.lt
  clear i3
  try rw [rounds_succ]
  go_wp2_with fail
  refine (ends4_c (l * e) (l * f) (h * e) (h * f) _ _ (by simp)).mono ?_
  rintro e w4 ⟨rfl, hb4⟩
  have I4 := Lib.hid ((I3.out.below ((Below.refl _ _).alloc (Nat.le_refl _) (.cells #[.int .i64 e, .int .i64 f] 29))).below hb4)
  clear hb4 e2 e3 q0 q1 z1 z2
  have f0 := I4.out.2.2.1.free 0
  have f1 := I4.out.2.2.1.free 1
  have q0 := I4.out.2.2.1.cell 0 rfl
  have q1 := I4.out.2.2.1.cell 1 rfl
  have z1 := I4.out.2.2.1.lt
  rw [hl2, hh2]
  have HP := Lib.hid (I4.out.put (lo' := l2) (hi' := h2) zg)
  go_wp2_with fail
  clear f0 f1 q0 q1 z1
  refine gen_world (fun W => PrI w g [.int .i64 a, .int .i64 b, .int .i64 c, .int .i64 d, .int .i64 e, .int .i64 f] l2 h2 W) HP.out ?_
  clear HP
  rintro w5 i5
  have I5 := Lib.hid i5
  have r0 := i5.2.1.cell 0 rfl
  have r1 := i5.2.1.cell 1 rfl
  have g0 := i5.2.1.free 0
  have g1 := i5.2.1.free 1
  have q0 := i5.2.2.1.cell 0 rfl
  have q1 := i5.2.2.1.cell 1 rfl
  have z1 := i5.2.2.1.lt
  clear i5
  go_wp2
  exact bodyPost_ret (v := .agg #[.int .i64 l2, .int .i64 h2]) (by simp [results, Try.results130, go_sem, r0, r1]) rfl ⟨rfl, (I5.out.2.2.2.setCell (by simp) _).setCell (by simp) _⟩
end Go.Proofs.Ytcneohhfnnelgaa
namespace Go.Proofs.Ytcneohhfnnelgaa
open Go Go.RowKit
set_option linter.unusedVariables false

abbrev BlkRow := Nat × TypeId × List Value
/-- the blocks of l lie in W -/
def Has (l : List BlkRow) (W : World) : Prop := ∀ x, x ∈ l → Blk W x.1 x.2.1 x.2.2
section
variable {l : List BlkRow} {W W' w : World}
theorem Has.nil (W : World) : Has [] W := fun _ h => by cases h
theorem Has.get (h : Has l W) (i : Nat) {g : Nat} {t : TypeId} {cs : List Value} (hx : l[i]? = some (g, t, cs)) : Blk W g t cs := h (g, t, cs) (List.mem_of_getElem? hx)
theorem Has.lt (h : Has l W) (x : BlkRow) (hx : x ∈ l) : x.1 < W.heap.size := (h x hx).lt
theorem Has.below (h : Has l W) (hb : Below W.heap.size W W') : Has l W' := fun x hx => (h x hx).below hb (h x hx).lt
theorem Has.cons {g : Nat} {t : TypeId} {cs : List Value} (k : Blk W g t cs) (h : Has l W) : Has ((g, t, cs) :: l) W := fun x hx => by
  rcases List.mem_cons.1 hx with rfl | h'
  · exact k
  · exact h x h'
theorem Has.setCell (h : Has l W) {p : Addr} (hn : ∀ x, x ∈ l → x.1 ≠ p.block) (v : Value) : Has l (W.setCell p v) := fun x hx => (h x hx).setCell_ne (hn x hx) v
theorem Has.sub {l' : List BlkRow} (h : Has l W) (hs : ∀ x, x ∈ l' → x ∈ l) : Has l' W := fun x hx => h x (hs x hx)
/-- block g with the values vs from cell i on -/
def setAll (W : World) (g : Nat) : Nat → List Value → World
  | _, [] => W
  | i, v :: vs => setAll (W.setCell ⟨g, i, none⟩ v) g (i + 1) vs
theorem setAll_size (g : Nat) : ∀ (vs : List Value) (i : Nat) (W : World), (setAll W g i vs).heap.size = W.heap.size
  | [], _, _ => rfl
  | v :: vs, i, W => by unfold setAll; rw [setAll_size g vs]; simp [World.setCell]
theorem setAll_below {n : Nat} {g : Nat} (hg : n ≤ g) : ∀ (vs : List Value) (i : Nat) (W : World), Below n w W → Below n w (setAll W g i vs)
  | [], _, _, h => h
  | v :: vs, i, W, h => by unfold setAll; exact setAll_below hg vs (i + 1) _ (h.setCell hg v)
theorem setAll_ne {g g' : Nat} {t : TypeId} {cs : List Value} (hn : g ≠ g') : ∀ (vs : List Value) (i : Nat) (W : World), Blk W g t cs → Blk (setAll W g' i vs) g t cs
  | [], _, _, h => h
  | v :: vs, i, W, h => by unfold setAll; exact setAll_ne hn vs (i + 1) _ (h.setCell_ne (p := ⟨g', i, none⟩) hn v)
theorem setAll_blk {g : Nat} {t : TypeId} : ∀ (vs cs pre : List Value) (W : World), Blk W g t (pre ++ cs) → cs.length = vs.length → Blk (setAll W g pre.length vs) g t (pre ++ vs)
  | [], cs, pre, W, h, hl => by
    have : cs = [] := List.eq_nil_of_length_eq_zero hl
    subst this
    exact h
  | v :: vs, [], pre, W, h, hl => by cases hl
  | v :: vs, c :: cs, pre, W, h, hl => by
    unfold setAll
    have h1 := h.setCell pre.length v
    rw [List.set_append_right _ _ (Nat.le_refl _)] at h1
    simp only [Nat.sub_self, List.set_cons_zero] at h1
    have h2 := setAll_blk (g := g) (t := t) vs cs (pre ++ [v]) (W.setCell ⟨g, pre.length, none⟩ v) (by simpa using h1) (by simpa using hl)
    simpa using h2
theorem Has.setAll {g : Nat} (h : Has l W) (hn : ∀ x, x ∈ l → x.1 ≠ g) (vs : List Value) (i : Nat) : Has l (setAll W g i vs) := fun x hx => setAll_ne (hn x hx) vs i W (h x hx)
/-- what there was lies as it lay, and the blocks of l lie there, each by itself -/
def St (w : World) (l : List BlkRow) (W : World) : Prop := Below w.heap.size w W ∧ Has l W ∧ (l.map Prod.fst).Nodup
theorem St.start (w : World) : St w [] w := ⟨Below.refl _ _, Has.nil _, List.nodup_nil⟩
theorem St.start1 {g : Nat} {t : TypeId} {cs : List Value} (h : Blk w g t cs) : St w [(g, t, cs)] w := ⟨Below.refl _ _, Has.cons h (Has.nil _), by simp⟩
theorem St.below (h : St w l W) (hb : Below W.heap.size W W') : St w l W' := ⟨h.1.trans (hb.mono h.1.size), h.2.1.below hb, h.2.2⟩
theorem St.get (h : St w l W) (i : Nat) {g : Nat} {t : TypeId} {cs : List Value} (hx : l[i]? = some (g, t, cs)) : Blk W g t cs := h.2.1.get i hx
theorem St.ne (h : St w l W) (i j : Nat) {g g' : Nat} {t t' : TypeId} {cs cs' : List Value} (hx : l[i]? = some (g, t, cs)) (hy : l[j]? = some (g', t', cs')) (hij : i ≠ j) : ¬ g = g' := by
  intro e
  refine hij ((List.getElem?_inj (l := l.map Prod.fst) (by have := (List.getElem?_eq_some_iff.1 hx).1; simpa using this) h.2.2).1 ?_)
  · rw [List.getElem?_map, List.getElem?_map, hx, hy]
    simp [e]
theorem St.drew (h : St w l W) : St w l W.drew := ⟨h.1.drew, fun x hx => (h.2.1 x hx).drew, h.2.2⟩
theorem St.apart (h : St w l W) {g : Nat} (hg : W.heap.size ≤ g) : ∀ x, x ∈ l → x.1 ≠ g := fun x hx e => by have := h.2.1.lt x hx; omega
theorem St.apart' (h : St w l W) {g : Nat} (hg : W.heap.size ≤ g) : g ∉ l.map Prod.fst := fun hm => by
  obtain ⟨x, hx, e⟩ := List.mem_map.1 hm
  exact h.apart hg x hx e
theorem St.alloc (h : St w l W) (cs : List Value) (t : TypeId) : St w ((W.heap.size, t, cs) :: l) (W.alloc (.cells cs.toArray t)) :=
  ⟨h.1.alloc h.1.size _, Has.cons (Blk.new W cs t) (h.2.1.below ((Below.refl _ _).alloc (Nat.le_refl _) _)), by
    rw [List.map_cons, List.nodup_cons]
    exact ⟨h.apart' (Nat.le_refl _), h.2.2⟩⟩
theorem St.lay (h : St w l W) (hb : Below W.heap.size W W') {g : Nat} {t : TypeId} {cs : List Value} (hg : W.heap.size ≤ g) (k : Blk W' g t cs) (vs : List Value) (hl : cs.length = vs.length) : St w ((g, t, vs) :: l) (setAll W' g 0 vs) :=
  ⟨setAll_below (Nat.le_trans h.1.size hg) vs 0 _ (h.1.trans (hb.mono h.1.size)), Has.cons (setAll_blk vs cs [] W' k hl) ((h.2.1.below hb).setAll (h.apart hg) vs 0), by
    rw [List.map_cons, List.nodup_cons]
    exact ⟨h.apart' hg, h.2.2⟩⟩
theorem St.lay2 (h : St w l W) (hb : Below W.heap.size W W') {g g' : Nat} {t t' : TypeId} {cs cs' : List Value} (hg : W.heap.size ≤ g) (hg' : W.heap.size ≤ g') (hne : g ≠ g') (k : Blk W' g t cs) (k' : Blk W' g' t' cs') (vs vs' : List Value) (hl : cs.length = vs.length) (hl' : cs'.length = vs'.length) :
    St w ((g', t', vs') :: (g, t, vs) :: l) (setAll (setAll W' g 0 vs) g' 0 vs') := by
  have hn' : ∀ x, x ∈ (g, t, vs) :: l → x.1 ≠ g' := fun x hx e => by
    rcases List.mem_cons.1 hx with rfl | hx
    · exact hne e
    · exact h.apart hg' x hx e
  have h1 : Has ((g, t, vs) :: l) (setAll W' g 0 vs) := Has.cons (setAll_blk vs cs [] W' k hl) ((h.2.1.below hb).setAll (h.apart hg) vs 0)
  refine ⟨setAll_below (Nat.le_trans h.1.size hg') vs' 0 _ (setAll_below (Nat.le_trans h.1.size hg) vs 0 _ (h.1.trans (hb.mono h.1.size))), Has.cons (setAll_blk vs' cs' [] _ (setAll_ne (fun e => hne e.symm) vs 0 _ k') hl') (h1.setAll hn' vs' 0), ?_⟩
  rw [List.map_cons, List.nodup_cons, List.map_cons, List.nodup_cons]
  refine ⟨fun hm => ?_, h.apart' hg, h.2.2⟩
  rcases List.mem_cons.1 hm with e | hm
  · exact hne e.symm
  · exact h.apart' hg' hm
end
end Go.Proofs.Ytcneohhfnnelgaa
namespace Go.Proofs.Ytcneohhfnnelgaa
open Go.RowKit
set_option linter.unusedVariables false
namespace Dv
def tmLo (a b c d : Int) : Int := mn4 (a * c) (a * d) (b * c) (b * d)
def tmHi (a b c d : Int) : Int := mx4 (a * c) (a * d) (b * c) (b * d)
end Dv
theorem Blk.put2 {W : World} {g g' : Nat} {t : TypeId} {cs : List Value} (h : Blk W g t cs) (hn : g ≠ g') (u v : Value) : Blk ((W.setCell ⟨g', 0, none⟩ u).setCell ⟨g', 1, none⟩ v) g t cs :=
  (h.setCell_ne (p := ⟨g', 0, none⟩) hn _).setCell_ne (p := ⟨g', 1, none⟩) hn _
theorem Blk.lay2 {W : World} {g : Nat} {t : TypeId} {x y : Value} (h : Blk W g t [x, y]) (u v : Value) : Blk ((W.setCell ⟨g, 0, none⟩ u).setCell ⟨g, 1, none⟩ v) g t [u, v] := (h.setCell 0 u).setCell 1 v
theorem below_put2 {n : Nat} {w W : World} (h : Below n w W) {g : Nat} (hg : n ≤ g) (u v : Value) : Below n w ((W.setCell ⟨g, 0, none⟩ u).setCell ⟨g, 1, none⟩ v) := (h.setCell hg u).setCell hg v
def z2 : List Value := [.int .i64 0, .int .i64 0]
def i2 (a b : Int) : List Value := [.int .i64 a, .int .i64 b]
/-- what lies in memory while inners runs -/
def InI (w : World) (g : Nat) (cs : List Value) (W : World) : Prop := Blk W g 131 cs ∧ Blk W w.heap.size 29 z2 ∧ Blk W (w.heap.size + 1) 29 z2 ∧ Below w.heap.size w W ∧ g < w.heap.size ∧ w.heap.size + 2 ≤ W.heap.size
theorem InI.below {w : World} {g : Nat} {cs : List Value} {W W' : World} (h : InI w g cs W) (hb : Below W.heap.size W W') : InI w g cs W' :=
  ⟨h.1.below hb h.1.lt, h.2.1.below hb h.2.1.lt, h.2.2.1.below hb h.2.2.1.lt, h.2.2.2.1.trans (hb.mono h.2.2.2.1.size), h.2.2.2.2.1, Nat.le_trans h.2.2.2.2.2 hb.size⟩
theorem InI.put {w : World} {g g' : Nat} {cs : List Value} {W : World} (h : InI w g cs W) (hg : w.heap.size + 2 ≤ g') (u v : Value) : InI w g cs ((W.setCell ⟨g', 0, none⟩ u).setCell ⟨g', 1, none⟩ v) := by
  have h5 := h.2.2.2.2.1
  exact ⟨h.1.put2 (by omega) u v, h.2.1.put2 (by omega) u v, h.2.2.1.put2 (by omega) u v, below_put2 h.2.2.2.1 (by omega) u v, h5, by have := h.2.2.2.2.2; simpa [World.setCell] using this⟩

set_option maxHeartbeats 4000000 in
set_option maxRecDepth 100000 in
theorem inners_go (m lo hi : Mot) (sl sh al ah d q s : Int) {A1 B1 A2 B2 A3 B3 A4 B4 A5 B5 A6 B6 A7 B7 : Int} (eA1 : Dv.tmLo al ah lo.lq hi.lq = A1) (eB1 : Dv.tmHi al ah lo.lq hi.lq = B1) (bA1 : -137438953472 ≤ A1 ∧ A1 ≤ 137438953472) (bB1 : -137438953472 ≤ B1 ∧ B1 ≤ 137438953472) (p00 : -4611686018427387904 ≤ al * lo.lq ∧ al * lo.lq ≤ 4611686018427387904) (p01 : -4611686018427387904 ≤ al * hi.lq ∧ al * hi.lq ≤ 4611686018427387904) (p02 : -4611686018427387904 ≤ ah * lo.lq ∧ ah * lo.lq ≤ 4611686018427387904) (p03 : -4611686018427387904 ≤ ah * hi.lq ∧ ah * hi.lq ≤ 4611686018427387904) (eA2 : Dv.tmLo A1 B1 q q = A2) (eB2 : Dv.tmHi A1 B1 q q = B2) (bA2 : -144115188075855872 ≤ A2 ∧ A2 ≤ 144115188075855872) (bB2 : -144115188075855872 ≤ B2 ∧ B2 ≤ 144115188075855872) (p10 : -4611686018427387904 ≤ A1 * q ∧ A1 * q ≤ 4611686018427387904) (p11 : -4611686018427387904 ≤ B1 * q ∧ B1 * q ≤ 4611686018427387904) (eA3 : Dv.tmLo lo.r hi.r d d = A3) (eB3 : Dv.tmHi lo.r hi.r d d = B3) (bA3 : -1099511627776 ≤ A3 ∧ A3 ≤ 1099511627776) (bB3 : -1099511627776 ≤ B3 ∧ B3 ≤ 1099511627776) (p20 : -4611686018427387904 ≤ lo.r * d ∧ lo.r * d ≤ 4611686018427387904) (p21 : -4611686018427387904 ≤ hi.r * d ∧ hi.r * d ≤ 4611686018427387904) (eA4 : Dv.tmLo lo.r hi.r q q = A4) (eB4 : Dv.tmHi lo.r hi.r q q = B4) (bA4 : -1099511627776 ≤ A4 ∧ A4 ≤ 1099511627776) (bB4 : -1099511627776 ≤ B4 ∧ B4 ≤ 1099511627776) (p30 : -4611686018427387904 ≤ lo.r * q ∧ lo.r * q ≤ 4611686018427387904) (p31 : -4611686018427387904 ≤ hi.r * q ∧ hi.r * q ≤ 4611686018427387904) (eA5 : Dv.tmLo al ah lo.ld hi.ld = A5) (eB5 : Dv.tmHi al ah lo.ld hi.ld = B5) (bA5 : -137438953472 ≤ A5 ∧ A5 ≤ 137438953472) (bB5 : -137438953472 ≤ B5 ∧ B5 ≤ 137438953472) (p40 : -4611686018427387904 ≤ al * lo.ld ∧ al * lo.ld ≤ 4611686018427387904) (p41 : -4611686018427387904 ≤ al * hi.ld ∧ al * hi.ld ≤ 4611686018427387904) (p42 : -4611686018427387904 ≤ ah * lo.ld ∧ ah * lo.ld ≤ 4611686018427387904) (p43 : -4611686018427387904 ≤ ah * hi.ld ∧ ah * hi.ld ≤ 4611686018427387904) (eA6 : Dv.tmLo A5 B5 d d = A6) (eB6 : Dv.tmHi A5 B5 d d = B6) (bA6 : -144115188075855872 ≤ A6 ∧ A6 ≤ 144115188075855872) (bB6 : -144115188075855872 ≤ B6 ∧ B6 ≤ 144115188075855872) (p50 : -4611686018427387904 ≤ A5 * d ∧ A5 * d ≤ 4611686018427387904) (p51 : -4611686018427387904 ≤ B5 * d ∧ B5 * d ≤ 4611686018427387904) (eA7 : Dv.tmLo al ah lo.fx hi.fx = A7) (eB7 : Dv.tmHi al ah lo.fx hi.fx = B7) (bA7 : -137438953472 ≤ A7 ∧ A7 ≤ 137438953472) (bB7 : -137438953472 ≤ B7 ∧ B7 ≤ 137438953472) (p60 : -4611686018427387904 ≤ al * lo.fx ∧ al * lo.fx ≤ 4611686018427387904) (p61 : -4611686018427387904 ≤ al * hi.fx ∧ al * hi.fx ≤ 4611686018427387904) (p62 : -4611686018427387904 ≤ ah * lo.fx ∧ ah * lo.fx ≤ 4611686018427387904) (p63 : -4611686018427387904 ≤ ah * hi.fx ∧ ah * hi.fx ≤ 4611686018427387904) (g : Nat) (w : World) (hg : Blk w g 131 (lmC m lo hi sl sh)) (hlo : Dv.chk lo) (hhi : Dv.chk hi) (hs : -16384 ≤ s ∧ s ≤ 16384) (hsl : -16384 ≤ sl ∧ sl ≤ 16384) (hsh : -16384 ≤ sh ∧ sh ≤ 16384) (hd : -1048576 ≤ d ∧ d ≤ 1048576) (hq : -1048576 ≤ q ∧ q ≤ 1048576) (eal : s + sl = al) (eah : s + sh = ah) :
    Calls Try.prog 124 #[.pointer (some ⟨g, 0, none⟩), .int .i64 d, .int .i64 q, .int .i64 s] w fun e w' => e = .returned (.tuple #[.agg #[.int .i64 (A2 / 1000000 - B3 / 1000), .int .i64 (B2 / 1000000 - A3 / 1000)], .agg #[.int .i64 (-(B4 / 1000) - B6 / 1000000 - B7), .int .i64 (-(A4 / 1000) - A6 / 1000000 - A7)]]) ∧ Below w.heap.size w w' := by
  have K1 := Lib.hid (show ∀ (g' : Nat) (W : World), Blk W g' 29 [.int .i64 al, .int .i64 ah, .int .i64 (lo.lq), .int .i64 (hi.lq), .int .i64 q, .int .i64 q] → Calls Try.prog 130 #[.slice (some ⟨g', 0, none⟩) 3 3] W fun e w' => e = .returned (.agg #[.int .i64 A2, .int .i64 B2]) ∧ Below W.heap.size W w' from fun g' W h => product3_c al ah lo.lq hi.lq q q A1 B1 A2 B2 g' W h p00 p01 p02 p03 eA1 eB1 p10 p10 p11 p11 eA2 eB2)
  have K2 := Lib.hid (show ∀ (g' : Nat) (W : World), Blk W g' 29 [.int .i64 (lo.r), .int .i64 (hi.r), .int .i64 (d), .int .i64 (d)] → Calls Try.prog 130 #[.slice (some ⟨g', 0, none⟩) 2 2] W fun e w' => e = .returned (.agg #[.int .i64 A3, .int .i64 B3]) ∧ Below W.heap.size W w' from fun g' W h => by rw [← eA3, ← eB3]; exact product2_c lo.r hi.r d d g' W h p20 p20 p21 p21)
  have K3 := Lib.hid (show ∀ (g' : Nat) (W : World), Blk W g' 29 [.int .i64 (lo.r), .int .i64 (hi.r), .int .i64 (q), .int .i64 (q)] → Calls Try.prog 130 #[.slice (some ⟨g', 0, none⟩) 2 2] W fun e w' => e = .returned (.agg #[.int .i64 A4, .int .i64 B4]) ∧ Below W.heap.size W w' from fun g' W h => by rw [← eA4, ← eB4]; exact product2_c lo.r hi.r q q g' W h p30 p30 p31 p31)
  have K4 := Lib.hid (show ∀ (g' : Nat) (W : World), Blk W g' 29 [.int .i64 al, .int .i64 ah, .int .i64 (lo.ld), .int .i64 (hi.ld), .int .i64 d, .int .i64 d] → Calls Try.prog 130 #[.slice (some ⟨g', 0, none⟩) 3 3] W fun e w' => e = .returned (.agg #[.int .i64 A6, .int .i64 B6]) ∧ Below W.heap.size W w' from fun g' W h => product3_c al ah lo.ld hi.ld d d A5 B5 A6 B6 g' W h p40 p41 p42 p43 eA5 eB5 p50 p50 p51 p51 eA6 eB6)
  have K5 := Lib.hid (show ∀ (g' : Nat) (W : World), Blk W g' 29 [.int .i64 (al), .int .i64 (ah), .int .i64 (lo.fx), .int .i64 (hi.fx)] → Calls Try.prog 130 #[.slice (some ⟨g', 0, none⟩) 2 2] W fun e w' => e = .returned (.agg #[.int .i64 A7, .int .i64 B7]) ∧ Below W.heap.size W w' from fun g' W h => by rw [← eA7, ← eB7]; exact product2_c al ah lo.fx hi.fx g' W h p60 p61 p62 p63)
  clear eA1 eB1 eA2 eB2 eA3 eB3 eA4 eB4 eA5 eB5 eA6 eB6 eA7 eB7 p00 p01 p02 p03 p10 p11 p20 p21 p30 p31 p40 p41 p42 p43 p50 p51 p60 p61 p62 p63
  have I0 := Lib.hid (show InI w g (lmC m lo hi sl sh) ((w.alloc (.cells #[.int .i64 0, .int .i64 0] 29)).alloc (.cells #[.int .i64 0, .int .i64 0] 29)) from ⟨(hg.alloc _).alloc _, (Blk.new' _ _ _).alloc _, by have := Blk.new' (w.alloc (.cells #[.int .i64 0, .int .i64 0] 29)) #[.int .i64 0, .int .i64 0] 29; simp at this; exact this, ((Below.refl _ _).alloc (Nat.le_refl _) _).alloc (by simp) _, hg.lt, by simp⟩)
  clear hg
  unfold Dv.chk at hlo hhi
  have hal := Lib.hid eal
  have hah := Lib.hid eah
  clear eal eah
  go_enter Try.func124, Try.ntmps124
  go_wp2_with fail
  refine gen_world (fun W => InI w g (lmC m lo hi sl sh) W) I0.out ?_
  clear I0
  rintro w1 i1
  have I1 := Lib.hid i1
  clear i1
  refine wp_region_priv 16 [.q, .q, .q, .q, .q, .q, .q, .q, .q, .q, .q, .q, .q, .q, .q, .p] (fun _ => (.cells #[.int .i64 0, .int .i64 0] 29, fun b => .pointer (some ⟨b, 0, none⟩))) ?af1 (by kernel_rfl) (by kernel_rfl) ?walk1 ?tail1
  case walk1 =>
    intro V hV
    have IV := Lib.hid (I1.out.below hV)
    obtain ⟨_, _, _, ⟨d0, d1⟩⟩ := lmCells IV.out.1
    have zg := IV.out.1.lt
    simp only [List.take_succ_cons, List.take_zero]
    repeat (refine wpP_q ?_; go_big_quiet_step (fail); refine wpQuiet_nil ?_)
    refine wpP_p (by kernel_rfl) (fun _ => by kernel_rfl) ?_
    (try simp only [Act.put, List.setIfInBounds_toArray, List.set_cons_zero, List.set_cons_succ])
    refine wpP_nil ?_
    rfl
  case tail1 =>
  intro gs w2 hb2 hP hD
  obtain ⟨hg1, k1⟩ := hP 15 rfl
  simp only [List.take_succ_cons, List.take_zero, fillP]
  (try simp only [Act.put, List.setIfInBounds_toArray, List.set_cons_zero, List.set_cons_succ])
  generalize gs 15 = g1 at hg1 k1 ⊢
  clear hP hD
  have n1 : w.heap.size + 2 ≤ g1 := Nat.le_trans I1.out.2.2.2.2.2 hg1
  have f0 := Blk.free (t := 29) (cs := z2) k1 0
  have f1 := Blk.free (t := 29) (cs := z2) k1 1
  have d0 := Blk.cell (t := 29) (cs := z2) k1 0 rfl
  have d1 := Blk.cell (t := 29) (cs := z2) k1 1 rfl
  have J1 := Lib.hid (And.intro ((I1.out.below hb2).put n1 (.int .i64 (s + sl)) (.int .i64 (s + sh))) (Blk.lay2 (show Blk w2 g1 29 z2 from k1) (.int .i64 (s + sl)) (.int .i64 (s + sh))))
  clear hb2 k1 hg1 I1
  simp only [List.drop_succ_cons, List.drop_zero]
  go_wp2_with fail
  refine gen_world (fun W => InI w g (lmC m lo hi sl sh) W ∧ Blk W g1 29 (i2 (s + sl) (s + sh))) J1.out ?_
  clear J1 f0 f1 d0 d1
  rintro w3 i3
  have I3 := Lib.hid i3
  clear i3
  refine wp_region_priv 12 [.q, .q, .q, .q, .q, .q, .q, .q, .q, .q, .q, .p] (fun _ => (.cells #[.int .i64 0, .int .i64 0] 29, fun b => .pointer (some ⟨b, 0, none⟩))) ?af2 (by kernel_rfl) (by kernel_rfl) ?walk2 ?tail2
  case walk2 =>
    intro V hV
    have IV := Lib.hid (I3.out.1.below hV)
    obtain ⟨_, ⟨b0, _⟩, ⟨c0, _⟩, _⟩ := lmCells IV.out.1
    have zg := IV.out.1.lt
    simp only [List.take_succ_cons, List.take_zero]
    repeat (refine wpP_q ?_; go_big_quiet_step (fail); refine wpQuiet_nil ?_)
    refine wpP_p (by kernel_rfl) (fun _ => by kernel_rfl) ?_
    (try simp only [Act.put, List.setIfInBounds_toArray, List.set_cons_zero, List.set_cons_succ])
    refine wpP_nil ?_
    rfl
  case tail2 =>
  intro gs w4 hb4 hP hD
  obtain ⟨hg2, k2⟩ := hP 11 rfl
  simp only [List.take_succ_cons, List.take_zero, fillP]
  (try simp only [Act.put, List.setIfInBounds_toArray, List.set_cons_zero, List.set_cons_succ])
  generalize gs 11 = g2 at hg2 k2 ⊢
  clear hP hD
  have n2 : w.heap.size + 2 ≤ g2 := Nat.le_trans I3.out.1.2.2.2.2.2 hg2
  have n12 : g1 ≠ g2 := by have := I3.out.2.lt; omega
  have f0 := Blk.free (t := 29) (cs := z2) k2 0
  have f1 := Blk.free (t := 29) (cs := z2) k2 1
  have d0 := Blk.cell (t := 29) (cs := z2) k2 0 rfl
  have d1 := Blk.cell (t := 29) (cs := z2) k2 1 rfl
  have J2 := Lib.hid (And.intro ((I3.out.1.below hb4).put n2 (.int .i64 lo.r) (.int .i64 hi.r)) (And.intro ((I3.out.2.below hb4 I3.out.2.lt).put2 n12 (.int .i64 lo.r) (.int .i64 hi.r)) (Blk.lay2 (show Blk w4 g2 29 z2 from k2) (.int .i64 lo.r) (.int .i64 hi.r))))
  clear hb4 k2 hg2 I3
  simp only [List.drop_succ_cons, List.drop_zero]
  go_wp2_with fail
  refine gen_world (fun W => InI w g (lmC m lo hi sl sh) W ∧ Blk W g1 29 (i2 al ah) ∧ Blk W g2 29 (i2 lo.r hi.r)) (by rw [← hal.out, ← hah.out]; exact J2.out) ?_
  clear J2 f0 f1 d0 d1
  rintro w5 i5
  have I5 := Lib.hid i5
  clear i5
  refine wp_region_priv 25 [.q, .q, .q, .q, .q, .q, .q, .q, .q, .q, .q, .q, .q, .q, .p, .c 14 54, .q, .q, .q, .q, .p, .c 20 60, .q, .q, .p] (fun n => (if n = 20 then (.cells #[.int .i64 lo.r, .int .i64 hi.r, .int .i64 d, .int .i64 d] 29, fun b => .slice (some ⟨b, 0, none⟩) 2 2) else (if n = 14 then (.cells #[.int .i64 al, .int .i64 ah, .int .i64 lo.lq, .int .i64 hi.lq, .int .i64 q, .int .i64 q] 29, fun b => .slice (some ⟨b, 0, none⟩) 3 3) else (.cells #[.int .i64 0, .int .i64 0] 29, fun b => .pointer (some ⟨b, 0, none⟩))))) ?af3 (by kernel_rfl) (by kernel_rfl) ?walk3 ?tail3
  case walk3 =>
    intro V hV
    have IV := Lib.hid (I5.out.1.below hV)
    have X1 := I5.out.2.1.below hV I5.out.2.1.lt
    have X2 := I5.out.2.2.below hV I5.out.2.2.lt
    obtain ⟨_, ⟨_, b1, b2, b3, _⟩, ⟨_, c1, c2, c3, _⟩, _⟩ := lmCells IV.out.1
    have zg := IV.out.1.lt
    have zx1 := X1.lt
    have zx2 := X2.lt
    have e0 := X1.cell 0 rfl
    have e1 := X1.cell 1 rfl
    have r0 := X2.cell 0 rfl
    have r1 := X2.cell 1 rfl
    clear X1 X2
    simp only [List.take_succ_cons, List.take_zero]
    repeat (refine wpP_q ?_; go_big_quiet_step (first | (go_at_call 129; with_reducible exact past_below (per_c _ _ _ _ (by omega) (by omega) (by omega))) | (go_at_call 131; with_reducible exact past_below (one_c _ _)) | (go_at_call 128; with_reducible exact past_below (less_c _ _ _ _ _ (by omega) (by omega) (by omega) (by omega) (by omega)))); refine wpQuiet_nil ?_)
    refine wpP_p (by kernel_rfl) (fun _ => by kernel_rfl) ?_
    (try simp only [Act.put, List.setIfInBounds_toArray, List.set_cons_zero, List.set_cons_succ])
    refine wpP_c (.agg #[.int .i64 A2, .int .i64 B2]) (fun V' g' hV' hg' => ?_) ?_
    · (try simp only [Act.put, List.setIfInBounds_toArray, List.set_cons_zero, List.set_cons_succ])
      have hbb : Blk V' g' 29 [.int .i64 al, .int .i64 ah, .int .i64 lo.lq, .int .i64 hi.lq, .int .i64 q, .int .i64 q] := hg'
      have zz := hbb.lt
      go_big_quiet_step ((go_at_call 130; exact past_below (K1.out g' _ (hbb.below (Past.far _) hbb.lt))))
      refine wpQuiet_nil ?_
      rfl
    (try simp only [Act.put, List.setIfInBounds_toArray, List.set_cons_zero, List.set_cons_succ])
    repeat (refine wpP_q ?_; go_big_quiet_step (first | (go_at_call 129; with_reducible exact past_below (per_c _ _ _ _ (by omega) (by omega) (by omega))) | (go_at_call 131; with_reducible exact past_below (one_c _ _)) | (go_at_call 128; with_reducible exact past_below (less_c _ _ _ _ _ (by omega) (by omega) (by omega) (by omega) (by omega)))); refine wpQuiet_nil ?_)
    refine wpP_p (by kernel_rfl) (fun _ => by kernel_rfl) ?_
    (try simp only [Act.put, List.setIfInBounds_toArray, List.set_cons_zero, List.set_cons_succ])
    refine wpP_c (.agg #[.int .i64 A3, .int .i64 B3]) (fun V' g' hV' hg' => ?_) ?_
    · (try simp only [Act.put, List.setIfInBounds_toArray, List.set_cons_zero, List.set_cons_succ])
      have hbb : Blk V' g' 29 [.int .i64 lo.r, .int .i64 hi.r, .int .i64 d, .int .i64 d] := hg'
      have zz := hbb.lt
      go_big_quiet_step ((go_at_call 130; exact past_below (K2.out g' _ (hbb.below (Past.far _) hbb.lt))))
      refine wpQuiet_nil ?_
      rfl
    (try simp only [Act.put, List.setIfInBounds_toArray, List.set_cons_zero, List.set_cons_succ])
    repeat (refine wpP_q ?_; go_big_quiet_step (first | (go_at_call 129; with_reducible exact past_below (per_c _ _ _ _ (by omega) (by omega) (by omega))) | (go_at_call 131; with_reducible exact past_below (one_c _ _)) | (go_at_call 128; with_reducible exact past_below (less_c _ _ _ _ _ (by omega) (by omega) (by omega) (by omega) (by omega)))); refine wpQuiet_nil ?_)
    refine wpP_p (by kernel_rfl) (fun _ => by kernel_rfl) ?_
    (try simp only [Act.put, List.setIfInBounds_toArray, List.set_cons_zero, List.set_cons_succ])
    refine wpP_nil ?_
    rfl
  case tail3 =>
  intro gs w6 hb6 hP hD
  obtain ⟨ng3, k3⟩ := hP 24 rfl
  simp only [List.drop_succ_cons, List.drop_zero, List.take_succ_cons, List.take_zero, fillP]
  (try simp only [Act.put, List.setIfInBounds_toArray, List.set_cons_zero, List.set_cons_succ])
  generalize gs 24 = g3 at ng3 k3 ⊢
  generalize gs 14 = ga
  generalize gs 20 = gb
  clear hP hD
  have n3 : w.heap.size + 2 ≤ g3 := Nat.le_trans I5.out.1.2.2.2.2.2 ng3
  have n13 : g1 ≠ g3 := by have := I5.out.2.1.lt; omega
  have n23 : g2 ≠ g3 := by have := I5.out.2.2.lt; omega
  have f0 := Blk.free (t := 29) (cs := z2) k3 0
  have f1 := Blk.free (t := 29) (cs := z2) k3 1
  have d0 := Blk.cell (t := 29) (cs := z2) k3 0 rfl
  have d1 := Blk.cell (t := 29) (cs := z2) k3 1 rfl
  have J3 := Lib.hid (And.intro ((I5.out.1.below hb6).put n3 (.int .i64 (A2 / 1000000 - B3 / 1000)) (.int .i64 (B2 / 1000000 - A3 / 1000))) (And.intro ((I5.out.2.1.below hb6 I5.out.2.1.lt).put2 n13 (.int .i64 (A2 / 1000000 - B3 / 1000)) (.int .i64 (B2 / 1000000 - A3 / 1000))) (And.intro ((I5.out.2.2.below hb6 I5.out.2.2.lt).put2 n23 (.int .i64 (A2 / 1000000 - B3 / 1000)) (.int .i64 (B2 / 1000000 - A3 / 1000))) (Blk.lay2 (show Blk w6 g3 29 z2 from k3) (.int .i64 (A2 / 1000000 - B3 / 1000)) (.int .i64 (B2 / 1000000 - A3 / 1000))))))
  clear hb6 k3 ng3 I5
  go_wp2_with fail
  refine gen_world (fun W => InI w g (lmC m lo hi sl sh) W ∧ Blk W g1 29 (i2 al ah) ∧ Blk W g2 29 (i2 lo.r hi.r) ∧ Blk W g3 29 (i2 (A2 / 1000000 - B3 / 1000) (B2 / 1000000 - A3 / 1000))) J3.out ?_
  clear J3 f0 f1 d0 d1
  rintro w5 i5
  have I5 := Lib.hid i5
  clear i5
  refine wp_region_priv 42 [.q, .q, .q, .q, .p, .c 4 68, .q, .q, .q, .q, .q, .q, .q, .q, .q, .q, .q, .q, .q, .q, .q, .q, .p, .c 22 86, .q, .q, .q, .q, .q, .q, .q, .q, .q, .q, .q, .q, .q, .q, .p, .c 38 102, .q, .p] (fun n => (if n = 38 then (.cells #[.int .i64 al, .int .i64 ah, .int .i64 lo.fx, .int .i64 hi.fx] 29, fun b => .slice (some ⟨b, 0, none⟩) 2 2) else (if n = 22 then (.cells #[.int .i64 al, .int .i64 ah, .int .i64 lo.ld, .int .i64 hi.ld, .int .i64 d, .int .i64 d] 29, fun b => .slice (some ⟨b, 0, none⟩) 3 3) else (if n = 4 then (.cells #[.int .i64 lo.r, .int .i64 hi.r, .int .i64 q, .int .i64 q] 29, fun b => .slice (some ⟨b, 0, none⟩) 2 2) else (.cells #[.int .i64 0, .int .i64 0] 29, fun b => .pointer (some ⟨b, 0, none⟩)))))) ?af4 (by kernel_rfl) (by kernel_rfl) ?walk4 ?tail4
  case walk4 =>
    intro V hV
    have IV := Lib.hid (I5.out.1.below hV)
    have X1 := I5.out.2.1.below hV I5.out.2.1.lt
    have X2 := I5.out.2.2.1.below hV I5.out.2.2.1.lt
    obtain ⟨_, ⟨_, b1, b2, b3, _⟩, ⟨_, c1, c2, c3, _⟩, _⟩ := lmCells IV.out.1
    have zg := IV.out.1.lt
    have zx1 := X1.lt
    have zx2 := X2.lt
    have e0 := X1.cell 0 rfl
    have e1 := X1.cell 1 rfl
    have r0 := X2.cell 0 rfl
    have r1 := X2.cell 1 rfl
    clear X1 X2
    simp only [List.take_succ_cons, List.take_zero]
    repeat (refine wpP_q ?_; go_big_quiet_step (first | (go_at_call 129; with_reducible exact past_below (per_c _ _ _ _ (by omega) (by omega) (by omega))) | (go_at_call 131; with_reducible exact past_below (one_c _ _)) | (go_at_call 128; with_reducible exact past_below (less_c _ _ _ _ _ (by omega) (by omega) (by omega) (by omega) (by omega)))); refine wpQuiet_nil ?_)
    refine wpP_p (by kernel_rfl) (fun _ => by kernel_rfl) ?_
    (try simp only [Act.put, List.setIfInBounds_toArray, List.set_cons_zero, List.set_cons_succ])
    refine wpP_c (.agg #[.int .i64 A4, .int .i64 B4]) (fun V' g' hV' hg' => ?_) ?_
    · (try simp only [Act.put, List.setIfInBounds_toArray, List.set_cons_zero, List.set_cons_succ])
      have hbb : Blk V' g' 29 [.int .i64 lo.r, .int .i64 hi.r, .int .i64 q, .int .i64 q] := hg'
      have zz := hbb.lt
      go_big_quiet_step ((go_at_call 130; exact past_below (K3.out g' _ (hbb.below (Past.far _) hbb.lt))))
      refine wpQuiet_nil ?_
      rfl
    (try simp only [Act.put, List.setIfInBounds_toArray, List.set_cons_zero, List.set_cons_succ])
    repeat (refine wpP_q ?_; go_big_quiet_step (first | (go_at_call 129; with_reducible exact past_below (per_c _ _ _ _ (by omega) (by omega) (by omega))) | (go_at_call 131; with_reducible exact past_below (one_c _ _)) | (go_at_call 128; with_reducible exact past_below (less_c _ _ _ _ _ (by omega) (by omega) (by omega) (by omega) (by omega)))); refine wpQuiet_nil ?_)
    refine wpP_p (by kernel_rfl) (fun _ => by kernel_rfl) ?_
    (try simp only [Act.put, List.setIfInBounds_toArray, List.set_cons_zero, List.set_cons_succ])
    refine wpP_c (.agg #[.int .i64 A6, .int .i64 B6]) (fun V' g' hV' hg' => ?_) ?_
    · (try simp only [Act.put, List.setIfInBounds_toArray, List.set_cons_zero, List.set_cons_succ])
      have hbb : Blk V' g' 29 [.int .i64 al, .int .i64 ah, .int .i64 lo.ld, .int .i64 hi.ld, .int .i64 d, .int .i64 d] := hg'
      have zz := hbb.lt
      go_big_quiet_step ((go_at_call 130; exact past_below (K4.out g' _ (hbb.below (Past.far _) hbb.lt))))
      refine wpQuiet_nil ?_
      rfl
    (try simp only [Act.put, List.setIfInBounds_toArray, List.set_cons_zero, List.set_cons_succ])
    repeat (refine wpP_q ?_; go_big_quiet_step (first | (go_at_call 129; with_reducible exact past_below (per_c _ _ _ _ (by omega) (by omega) (by omega))) | (go_at_call 131; with_reducible exact past_below (one_c _ _)) | (go_at_call 128; with_reducible exact past_below (less_c _ _ _ _ _ (by omega) (by omega) (by omega) (by omega) (by omega)))); refine wpQuiet_nil ?_)
    refine wpP_p (by kernel_rfl) (fun _ => by kernel_rfl) ?_
    (try simp only [Act.put, List.setIfInBounds_toArray, List.set_cons_zero, List.set_cons_succ])
    refine wpP_c (.agg #[.int .i64 A7, .int .i64 B7]) (fun V' g' hV' hg' => ?_) ?_
    · (try simp only [Act.put, List.setIfInBounds_toArray, List.set_cons_zero, List.set_cons_succ])
      have hbb : Blk V' g' 29 [.int .i64 al, .int .i64 ah, .int .i64 lo.fx, .int .i64 hi.fx] := hg'
      have zz := hbb.lt
      go_big_quiet_step ((go_at_call 130; exact past_below (K5.out g' _ (hbb.below (Past.far _) hbb.lt))))
      refine wpQuiet_nil ?_
      rfl
    (try simp only [Act.put, List.setIfInBounds_toArray, List.set_cons_zero, List.set_cons_succ])
    repeat (refine wpP_q ?_; go_big_quiet_step (first | (go_at_call 129; with_reducible exact past_below (per_c _ _ _ _ (by omega) (by omega) (by omega))) | (go_at_call 131; with_reducible exact past_below (one_c _ _)) | (go_at_call 128; with_reducible exact past_below (less_c _ _ _ _ _ (by omega) (by omega) (by omega) (by omega) (by omega)))); refine wpQuiet_nil ?_)
    refine wpP_p (by kernel_rfl) (fun _ => by kernel_rfl) ?_
    (try simp only [Act.put, List.setIfInBounds_toArray, List.set_cons_zero, List.set_cons_succ])
    refine wpP_nil ?_
    rfl
  case tail4 =>
  intro gs w6 hb6 hP hD
  obtain ⟨ng4, k4⟩ := hP 41 rfl
  simp only [List.drop_succ_cons, List.drop_zero, List.take_succ_cons, List.take_zero, fillP]
  (try simp only [Act.put, List.setIfInBounds_toArray, List.set_cons_zero, List.set_cons_succ])
  generalize gs 41 = g4 at ng4 k4 ⊢
  generalize gs 4 = gc
  generalize gs 22 = gd
  generalize gs 38 = ge
  clear hP hD
  have n4 : w.heap.size + 2 ≤ g4 := Nat.le_trans I5.out.1.2.2.2.2.2 ng4
  have n34 : g3 ≠ g4 := by have := I5.out.2.2.2.lt; omega
  have f0 := Blk.free (t := 29) (cs := z2) k4 0
  have f1 := Blk.free (t := 29) (cs := z2) k4 1
  have d0 := Blk.cell (t := 29) (cs := z2) k4 0 rfl
  have d1 := Blk.cell (t := 29) (cs := z2) k4 1 rfl
  have J4 := Lib.hid (And.intro ((I5.out.1.below hb6).put n4 (.int .i64 (-(B4 / 1000) - B6 / 1000000 - B7)) (.int .i64 (-(A4 / 1000) - A6 / 1000000 - A7))) (And.intro ((I5.out.2.2.2.below hb6 I5.out.2.2.2.lt).put2 n34 (.int .i64 (-(B4 / 1000) - B6 / 1000000 - B7)) (.int .i64 (-(A4 / 1000) - A6 / 1000000 - A7))) (Blk.lay2 (show Blk w6 g4 29 z2 from k4) (.int .i64 (-(B4 / 1000) - B6 / 1000000 - B7)) (.int .i64 (-(A4 / 1000) - A6 / 1000000 - A7)))))
  clear hb6 k4 ng4 I5
  go_wp2_with fail
  refine gen_world (fun W => InI w g (lmC m lo hi sl sh) W ∧ Blk W g3 29 (i2 (A2 / 1000000 - B3 / 1000) (B2 / 1000000 - A3 / 1000)) ∧ Blk W g4 29 (i2 (-(B4 / 1000) - B6 / 1000000 - B7) (-(A4 / 1000) - A6 / 1000000 - A7))) J4.out ?_
  clear J4 f0 f1 d0 d1
  rintro w5 i5
  have I5 := Lib.hid i5
  clear i5
  have x1 := I5.out.2.1
  have x2 := I5.out.2.2
  have ne1 : ¬ g3 = w.heap.size := by omega
  have ne2 : ¬ g3 = w.heap.size + 1 := by omega
  have ne3 : ¬ g4 = w.heap.size := by omega
  have ne4 : ¬ g4 = w.heap.size + 1 := by omega
  have ne5 : ¬ w.heap.size = g3 := by omega
  have ne6 : ¬ w.heap.size + 1 = g3 := by omega
  have ne7 : ¬ w.heap.size = g4 := by omega
  have ne8 : ¬ w.heap.size + 1 = g4 := by omega
  have zx1 := x1.lt
  have zx2 := x2.lt
  have e0 := x1.cell 0 rfl
  have e1 := x1.cell 1 rfl
  have r0 := x2.cell 0 rfl
  have r1 := x2.cell 1 rfl
  have f0 := I5.out.1.2.1.free 0
  have f1 := I5.out.1.2.1.free 1
  have f2 := I5.out.1.2.2.1.free 0
  have f3 := I5.out.1.2.2.1.free 1
  have y0 := I5.out.1.2.1.cell 0 rfl
  have y1 := I5.out.1.2.1.cell 1 rfl
  have y2 := I5.out.1.2.2.1.cell 0 rfl
  have y3 := I5.out.1.2.2.1.cell 1 rfl
  have zy := I5.out.1.2.2.1.lt
  clear x1 x2
  go_region
  all_goals
    go_wp2
    exact bodyPost_ret (v := .tuple #[.agg #[.int .i64 (A2 / 1000000 - B3 / 1000), .int .i64 (B2 / 1000000 - A3 / 1000)], .agg #[.int .i64 (-(B4 / 1000) - B6 / 1000000 - B7), .int .i64 (-(A4 / 1000) - A6 / 1000000 - A7)]]) (by simp [results, Try.results124, go_sem, y0, y1, y2, y3]) rfl ⟨rfl, below_put2 (below_put2 I5.out.1.2.2.2.1.drew (Nat.le_refl _) _ _) (by omega) _ _⟩
end Go.Proofs.Ytcneohhfnnelgaa
namespace Go.Proofs.Ytcneohhfnnelgaa
open Go.RowKit
set_option linter.unusedVariables false

set_option maxHeartbeats 4000000 in
set_option maxRecDepth 100000 in
theorem innersR_go (lo hi : Mot) (al ah d q : Int) {A1 B1 A2 B2 A3 B3 A4 B4 A5 B5 A6 B6 A7 B7 : Int} (eA1 : Dv.tmLo al ah lo.lq hi.lq = A1) (eB1 : Dv.tmHi al ah lo.lq hi.lq = B1) (bA1 : -137438953472 ≤ A1 ∧ A1 ≤ 137438953472) (bB1 : -137438953472 ≤ B1 ∧ B1 ≤ 137438953472) (p00 : -4611686018427387904 ≤ al * lo.lq ∧ al * lo.lq ≤ 4611686018427387904) (p01 : -4611686018427387904 ≤ al * hi.lq ∧ al * hi.lq ≤ 4611686018427387904) (p02 : -4611686018427387904 ≤ ah * lo.lq ∧ ah * lo.lq ≤ 4611686018427387904) (p03 : -4611686018427387904 ≤ ah * hi.lq ∧ ah * hi.lq ≤ 4611686018427387904) (eA2 : Dv.tmLo A1 B1 q q = A2) (eB2 : Dv.tmHi A1 B1 q q = B2) (bA2 : -144115188075855872 ≤ A2 ∧ A2 ≤ 144115188075855872) (bB2 : -144115188075855872 ≤ B2 ∧ B2 ≤ 144115188075855872) (p10 : -4611686018427387904 ≤ A1 * q ∧ A1 * q ≤ 4611686018427387904) (p11 : -4611686018427387904 ≤ B1 * q ∧ B1 * q ≤ 4611686018427387904) (eA3 : Dv.tmLo lo.r hi.r d d = A3) (eB3 : Dv.tmHi lo.r hi.r d d = B3) (bA3 : -1099511627776 ≤ A3 ∧ A3 ≤ 1099511627776) (bB3 : -1099511627776 ≤ B3 ∧ B3 ≤ 1099511627776) (p20 : -4611686018427387904 ≤ lo.r * d ∧ lo.r * d ≤ 4611686018427387904) (p21 : -4611686018427387904 ≤ hi.r * d ∧ hi.r * d ≤ 4611686018427387904) (eA4 : Dv.tmLo lo.r hi.r q q = A4) (eB4 : Dv.tmHi lo.r hi.r q q = B4) (bA4 : -1099511627776 ≤ A4 ∧ A4 ≤ 1099511627776) (bB4 : -1099511627776 ≤ B4 ∧ B4 ≤ 1099511627776) (p30 : -4611686018427387904 ≤ lo.r * q ∧ lo.r * q ≤ 4611686018427387904) (p31 : -4611686018427387904 ≤ hi.r * q ∧ hi.r * q ≤ 4611686018427387904) (eA5 : Dv.tmLo al ah lo.ld hi.ld = A5) (eB5 : Dv.tmHi al ah lo.ld hi.ld = B5) (bA5 : -137438953472 ≤ A5 ∧ A5 ≤ 137438953472) (bB5 : -137438953472 ≤ B5 ∧ B5 ≤ 137438953472) (p40 : -4611686018427387904 ≤ al * lo.ld ∧ al * lo.ld ≤ 4611686018427387904) (p41 : -4611686018427387904 ≤ al * hi.ld ∧ al * hi.ld ≤ 4611686018427387904) (p42 : -4611686018427387904 ≤ ah * lo.ld ∧ ah * lo.ld ≤ 4611686018427387904) (p43 : -4611686018427387904 ≤ ah * hi.ld ∧ ah * hi.ld ≤ 4611686018427387904) (eA6 : Dv.tmLo A5 B5 d d = A6) (eB6 : Dv.tmHi A5 B5 d d = B6) (bA6 : -144115188075855872 ≤ A6 ∧ A6 ≤ 144115188075855872) (bB6 : -144115188075855872 ≤ B6 ∧ B6 ≤ 144115188075855872) (p50 : -4611686018427387904 ≤ A5 * d ∧ A5 * d ≤ 4611686018427387904) (p51 : -4611686018427387904 ≤ B5 * d ∧ B5 * d ≤ 4611686018427387904) (eA7 : Dv.tmLo al ah lo.fx hi.fx = A7) (eB7 : Dv.tmHi al ah lo.fx hi.fx = B7) (bA7 : -137438953472 ≤ A7 ∧ A7 ≤ 137438953472) (bB7 : -137438953472 ≤ B7 ∧ B7 ≤ 137438953472) (p60 : -4611686018427387904 ≤ al * lo.fx ∧ al * lo.fx ≤ 4611686018427387904) (p61 : -4611686018427387904 ≤ al * hi.fx ∧ al * hi.fx ≤ 4611686018427387904) (p62 : -4611686018427387904 ≤ ah * lo.fx ∧ ah * lo.fx ≤ 4611686018427387904) (p63 : -4611686018427387904 ≤ ah * hi.fx ∧ ah * hi.fx ≤ 4611686018427387904) (w : World) (hlo : Dv.chk lo) (hhi : Dv.chk hi) (hd : -1048576 ≤ d ∧ d ≤ 1048576) (hq : -1048576 ≤ q ∧ q ≤ 1048576) :
    Calls Try.prog 126 #[.agg #[.int .i64 lo.r, .int .i64 lo.ld, .int .i64 lo.lq, .int .i64 lo.fx, .int .i64 lo.po, .int .i64 lo.mi, .int .i64 lo.sp, .int .i64 lo.dr, .int .i64 lo.cu, .int .i64 lo.fa], .agg #[.int .i64 hi.r, .int .i64 hi.ld, .int .i64 hi.lq, .int .i64 hi.fx, .int .i64 hi.po, .int .i64 hi.mi, .int .i64 hi.sp, .int .i64 hi.dr, .int .i64 hi.cu, .int .i64 hi.fa], .int .i64 d, .int .i64 q, .agg #[.int .i64 al, .int .i64 ah]] w fun e w' => e = .returned (.tuple #[.agg #[.int .i64 (A2 / 1000000 - B3 / 1000), .int .i64 (B2 / 1000000 - A3 / 1000)], .agg #[.int .i64 (-(B4 / 1000) - B6 / 1000000 - B7), .int .i64 (-(A4 / 1000) - A6 / 1000000 - A7)]]) ∧ Below w.heap.size w w' := by
  have K1 := Lib.hid (show ∀ (W : World), Calls Try.prog 132 #[.agg #[.int .i64 (al), .int .i64 (ah)], .agg #[.int .i64 (lo.lq), .int .i64 (hi.lq)]] W fun e w' => e = .returned (.agg #[.int .i64 A1, .int .i64 B1]) ∧ Below W.heap.size W w' from fun W => by rw [← eA1, ← eB1]; exact times_c al ah (lo.lq) (hi.lq) W p00 p01 p02 p03)
  have K2 := Lib.hid (show ∀ (W : World), Calls Try.prog 132 #[.agg #[.int .i64 (A1), .int .i64 (B1)], .agg #[.int .i64 (q), .int .i64 (q)]] W fun e w' => e = .returned (.agg #[.int .i64 A2, .int .i64 B2]) ∧ Below W.heap.size W w' from fun W => by rw [← eA2, ← eB2]; exact times_c A1 B1 q q W p10 p10 p11 p11)
  have K3 := Lib.hid (show ∀ (W : World), Calls Try.prog 132 #[.agg #[.int .i64 (lo.r), .int .i64 (hi.r)], .agg #[.int .i64 (d), .int .i64 (d)]] W fun e w' => e = .returned (.agg #[.int .i64 A3, .int .i64 B3]) ∧ Below W.heap.size W w' from fun W => by rw [← eA3, ← eB3]; exact times_c lo.r hi.r d d W p20 p20 p21 p21)
  have K4 := Lib.hid (show ∀ (W : World), Calls Try.prog 132 #[.agg #[.int .i64 (lo.r), .int .i64 (hi.r)], .agg #[.int .i64 (q), .int .i64 (q)]] W fun e w' => e = .returned (.agg #[.int .i64 A4, .int .i64 B4]) ∧ Below W.heap.size W w' from fun W => by rw [← eA4, ← eB4]; exact times_c lo.r hi.r q q W p30 p30 p31 p31)
  have K5 := Lib.hid (show ∀ (W : World), Calls Try.prog 132 #[.agg #[.int .i64 (al), .int .i64 (ah)], .agg #[.int .i64 (lo.ld), .int .i64 (hi.ld)]] W fun e w' => e = .returned (.agg #[.int .i64 A5, .int .i64 B5]) ∧ Below W.heap.size W w' from fun W => by rw [← eA5, ← eB5]; exact times_c al ah (lo.ld) (hi.ld) W p40 p41 p42 p43)
  have K6 := Lib.hid (show ∀ (W : World), Calls Try.prog 132 #[.agg #[.int .i64 (A5), .int .i64 (B5)], .agg #[.int .i64 (d), .int .i64 (d)]] W fun e w' => e = .returned (.agg #[.int .i64 A6, .int .i64 B6]) ∧ Below W.heap.size W w' from fun W => by rw [← eA6, ← eB6]; exact times_c A5 B5 d d W p50 p50 p51 p51)
  have K7 := Lib.hid (show ∀ (W : World), Calls Try.prog 132 #[.agg #[.int .i64 (al), .int .i64 (ah)], .agg #[.int .i64 (lo.fx), .int .i64 (hi.fx)]] W fun e w' => e = .returned (.agg #[.int .i64 A7, .int .i64 B7]) ∧ Below W.heap.size W w' from fun W => by rw [← eA7, ← eB7]; exact times_c al ah (lo.fx) (hi.fx) W p60 p61 p62 p63)
  clear eA1 eB1 eA2 eB2 eA3 eB3 eA4 eB4 eA5 eB5 eA6 eB6 eA7 eB7 p00 p01 p02 p03 p10 p11 p20 p21 p30 p31 p40 p41 p42 p43 p50 p51 p60 p61 p62 p63
  have E1 := Lib.hid (show -(B3 / 1000) + A2 / 1000000 = A2 / 1000000 - B3 / 1000 by omega)
  have E2 := Lib.hid (show -(A3 / 1000) + B2 / 1000000 = B2 / 1000000 - A3 / 1000 by omega)
  have S0 := Lib.hid (show St w [(w.heap.size + 1 + 1 + 1 + 1, 29, [.int .i64 0, .int .i64 0]), (w.heap.size + 1 + 1 + 1, 29, [.int .i64 0, .int .i64 0]), (w.heap.size + 1 + 1, 29, [.int .i64 al, .int .i64 ah]), (w.heap.size + 1, 52, [.int .i64 hi.r, .int .i64 hi.ld, .int .i64 hi.lq, .int .i64 hi.fx, .int .i64 hi.po, .int .i64 hi.mi, .int .i64 hi.sp, .int .i64 hi.dr, .int .i64 hi.cu, .int .i64 hi.fa]), (w.heap.size, 52, [.int .i64 lo.r, .int .i64 lo.ld, .int .i64 lo.lq, .int .i64 lo.fx, .int .i64 lo.po, .int .i64 lo.mi, .int .i64 lo.sp, .int .i64 lo.dr, .int .i64 lo.cu, .int .i64 lo.fa])] (((((w.alloc (.cells #[.int .i64 lo.r, .int .i64 lo.ld, .int .i64 lo.lq, .int .i64 lo.fx, .int .i64 lo.po, .int .i64 lo.mi, .int .i64 lo.sp, .int .i64 lo.dr, .int .i64 lo.cu, .int .i64 lo.fa] 52)).alloc (.cells #[.int .i64 hi.r, .int .i64 hi.ld, .int .i64 hi.lq, .int .i64 hi.fx, .int .i64 hi.po, .int .i64 hi.mi, .int .i64 hi.sp, .int .i64 hi.dr, .int .i64 hi.cu, .int .i64 hi.fa] 52)).alloc (.cells #[.int .i64 al, .int .i64 ah] 29)).alloc (.cells #[.int .i64 0, .int .i64 0] 29)).alloc (.cells #[.int .i64 0, .int .i64 0] 29)) from by
    have := (((((St.start w).alloc [.int .i64 lo.r, .int .i64 lo.ld, .int .i64 lo.lq, .int .i64 lo.fx, .int .i64 lo.po, .int .i64 lo.mi, .int .i64 lo.sp, .int .i64 lo.dr, .int .i64 lo.cu, .int .i64 lo.fa] 52).alloc [.int .i64 hi.r, .int .i64 hi.ld, .int .i64 hi.lq, .int .i64 hi.fx, .int .i64 hi.po, .int .i64 hi.mi, .int .i64 hi.sp, .int .i64 hi.dr, .int .i64 hi.cu, .int .i64 hi.fa] 52).alloc [.int .i64 al, .int .i64 ah] 29).alloc [.int .i64 0, .int .i64 0] 29).alloc [.int .i64 0, .int .i64 0] 29
    simp at this
    exact this)
  unfold Dv.chk at hlo hhi
  go_enter Try.func126, Try.ntmps126
  go_upto_region 1 with (fail)
  refine gen_world (fun W => St w [(w.heap.size + 1 + 1 + 1 + 1, 29, [.int .i64 0, .int .i64 0]), (w.heap.size + 1 + 1 + 1, 29, [.int .i64 0, .int .i64 0]), (w.heap.size + 1 + 1, 29, [.int .i64 al, .int .i64 ah]), (w.heap.size + 1, 52, [.int .i64 hi.r, .int .i64 hi.ld, .int .i64 hi.lq, .int .i64 hi.fx, .int .i64 hi.po, .int .i64 hi.mi, .int .i64 hi.sp, .int .i64 hi.dr, .int .i64 hi.cu, .int .i64 hi.fa]), (w.heap.size, 52, [.int .i64 lo.r, .int .i64 lo.ld, .int .i64 lo.lq, .int .i64 lo.fx, .int .i64 lo.po, .int .i64 lo.mi, .int .i64 lo.sp, .int .i64 lo.dr, .int .i64 lo.cu, .int .i64 lo.fa])] W) (S0.out) ?_
  clear S0
  rintro w2 i_
  have I1 := Lib.hid i_
  clear i_
  have z_lo := (I1.out.get 4 rfl).lt
  have c_lo0 := (I1.out.get 4 rfl).cell 0 rfl
  have z_hi := (I1.out.get 3 rfl).lt
  have c_hi0 := (I1.out.get 3 rfl).cell 0 rfl
  go_upto_region 2 with (fail)
  have gz_r := I1.out.1.size
  refine gen_world (fun W => St w [(w2.heap.size, 29, [.int .i64 lo.r, .int .i64 hi.r]), (w.heap.size + 1 + 1 + 1 + 1, 29, [.int .i64 0, .int .i64 0]), (w.heap.size + 1 + 1 + 1, 29, [.int .i64 0, .int .i64 0]), (w.heap.size + 1 + 1, 29, [.int .i64 al, .int .i64 ah]), (w.heap.size + 1, 52, [.int .i64 hi.r, .int .i64 hi.ld, .int .i64 hi.lq, .int .i64 hi.fx, .int .i64 hi.po, .int .i64 hi.mi, .int .i64 hi.sp, .int .i64 hi.dr, .int .i64 hi.cu, .int .i64 hi.fa]), (w.heap.size, 52, [.int .i64 lo.r, .int .i64 lo.ld, .int .i64 lo.lq, .int .i64 lo.fx, .int .i64 lo.po, .int .i64 lo.mi, .int .i64 lo.sp, .int .i64 lo.dr, .int .i64 lo.cu, .int .i64 lo.fa])] W) (I1.out.alloc [.int .i64 lo.r, .int .i64 hi.r] 29) ?_
  clear I1 z_lo c_lo0 z_hi c_hi0
  rintro w4 i_
  have I3 := Lib.hid i_
  clear i_
  generalize w2.heap.size = g_r at gz_r I3 ⊢
  refine wp_region_priv 10 [.q, .q, .q, .q, .q, .q, .q, .q, .p, .p] (fun _ => (.cells #[.int .i64 0, .int .i64 0] 29, fun b => .pointer (some ⟨b, 0, none⟩))) ?afr5 (by kernel_rfl) (by kernel_rfl) ?walkr5 ?tailr5
  case walkr5 =>
    intro V hV
    have IV := Lib.hid (I3.out.below hV)
    have z_r := (IV.out.get 0 rfl).lt
    have c_r0 := (IV.out.get 0 rfl).cell 0 rfl
    have c_r1 := (IV.out.get 0 rfl).cell 1 rfl
    simp only [List.take_succ_cons, List.take_zero]
    repeat (refine wpP_q ?_; go_big_quiet_step (first | (go_at_call 133; with_reducible exact past_below (point_c _ _)) | (go_at_call 132; with_reducible exact past_below (K3.out _)) | (go_at_call 132; with_reducible exact past_below (K4.out _))); refine wpQuiet_nil ?_)
    refine wpP_p (by kernel_rfl) (fun _ => by kernel_rfl) ?_
    (try simp only [Act.put, List.setIfInBounds_toArray, List.set_cons_zero, List.set_cons_succ])
    refine wpP_p (by kernel_rfl) (fun _ => by kernel_rfl) ?_
    (try simp only [Act.put, List.setIfInBounds_toArray, List.set_cons_zero, List.set_cons_succ])
    refine wpP_nil ?_
    rfl
  case tailr5 =>
  intro gs w6 hb7 hP hD
  obtain ⟨hg_rd, k_rd⟩ := hP 8 rfl
  obtain ⟨hg_rq, k_rq⟩ := hP 9 rfl
  have hne := hD 8 9 rfl rfl (by decide)
  simp only [List.take_succ_cons, List.take_zero, fillP]
  (try simp only [Act.put, List.setIfInBounds_toArray, List.set_cons_zero, List.set_cons_succ])
  generalize gs 8 = g_rd at hg_rd k_rd hne ⊢
  generalize gs 9 = g_rq at hg_rq k_rq hne ⊢
  clear hP hD
  have k2_rd : Blk w6 g_rd 29 [.int .i64 0, .int .i64 0] := k_rd
  have gz_rd : w.heap.size ≤ g_rd := Nat.le_trans I3.out.1.size hg_rd
  have f_rd0 := k2_rd.free 0
  have d_rd0 := k2_rd.cell 0 rfl
  have f_rd1 := k2_rd.free 1
  have d_rd1 := k2_rd.cell 1 rfl
  have k2_rq : Blk w6 g_rq 29 [.int .i64 0, .int .i64 0] := k_rq
  have gz_rq : w.heap.size ≤ g_rq := Nat.le_trans I3.out.1.size hg_rq
  have f_rq0 := k2_rq.free 0
  have d_rq0 := k2_rq.cell 0 rfl
  have f_rq1 := k2_rq.free 1
  have d_rq1 := k2_rq.cell 1 rfl
  have J8 := Lib.hid (I3.out.lay2 hb7 hg_rd hg_rq hne k2_rd k2_rq [.int .i64 A3, .int .i64 B3] [.int .i64 A4, .int .i64 B4] rfl rfl)
  have hn1 : ¬ g_rd = g_rq := hne
  have hn2 : ¬ g_rq = g_rd := fun e => hne e.symm
  clear hb7 I3 hg_rd k_rd k2_rd hg_rq k_rq k2_rq hne
  simp only [List.drop_succ_cons, List.drop_zero]
  go_upto_region 3 with (fail)
  refine gen_world (fun W => St w [(g_rq, 29, [.int .i64 A4, .int .i64 B4]), (g_rd, 29, [.int .i64 A3, .int .i64 B3]), (g_r, 29, [.int .i64 lo.r, .int .i64 hi.r]), (w.heap.size + 1 + 1 + 1 + 1, 29, [.int .i64 0, .int .i64 0]), (w.heap.size + 1 + 1 + 1, 29, [.int .i64 0, .int .i64 0]), (w.heap.size + 1 + 1, 29, [.int .i64 al, .int .i64 ah]), (w.heap.size + 1, 52, [.int .i64 hi.r, .int .i64 hi.ld, .int .i64 hi.lq, .int .i64 hi.fx, .int .i64 hi.po, .int .i64 hi.mi, .int .i64 hi.sp, .int .i64 hi.dr, .int .i64 hi.cu, .int .i64 hi.fa]), (w.heap.size, 52, [.int .i64 lo.r, .int .i64 lo.ld, .int .i64 lo.lq, .int .i64 lo.fx, .int .i64 lo.po, .int .i64 lo.mi, .int .i64 lo.sp, .int .i64 lo.dr, .int .i64 lo.cu, .int .i64 lo.fa])] W) (J8.out) ?_
  clear J8 f_rd0 d_rd0 f_rd1 d_rd1 f_rq0 d_rq0 f_rq1 d_rq1 hn1 hn2
  rintro w10 i_
  have I9 := Lib.hid i_
  clear i_
  have z_at := (I9.out.get 5 rfl).lt
  have c_at0 := (I9.out.get 5 rfl).cell 0 rfl
  have c_at1 := (I9.out.get 5 rfl).cell 1 rfl
  have z_lo := (I9.out.get 7 rfl).lt
  have c_lo2 := (I9.out.get 7 rfl).cell 2 rfl
  have z_hi := (I9.out.get 6 rfl).lt
  have c_hi2 := (I9.out.get 6 rfl).cell 2 rfl
  go_wp2_with fail
  refine (K1.out _).mono ?_
  rintro e w11 ⟨rfl, hb12⟩
  have I13 := Lib.hid (I9.out.below hb12)
  clear hb12 I9 z_at c_at0 c_at1 z_lo c_lo2 z_hi c_hi2
  go_wp2_with fail
  refine (point_c q _).mono ?_
  rintro e w14 ⟨rfl, hb15⟩
  have I16 := Lib.hid (I13.out.below hb15)
  clear hb15 I13
  go_wp2_with fail
  refine (K2.out _).mono ?_
  rintro e w17 ⟨rfl, hb18⟩
  have I19 := Lib.hid (I16.out.below hb18)
  clear hb18 I16
  go_upto_region 4 with (fail)
  have gz_wq := I19.out.1.size
  refine gen_world (fun W => St w [(w17.heap.size, 29, [.int .i64 A2, .int .i64 B2]), (g_rq, 29, [.int .i64 A4, .int .i64 B4]), (g_rd, 29, [.int .i64 A3, .int .i64 B3]), (g_r, 29, [.int .i64 lo.r, .int .i64 hi.r]), (w.heap.size + 1 + 1 + 1 + 1, 29, [.int .i64 0, .int .i64 0]), (w.heap.size + 1 + 1 + 1, 29, [.int .i64 0, .int .i64 0]), (w.heap.size + 1 + 1, 29, [.int .i64 al, .int .i64 ah]), (w.heap.size + 1, 52, [.int .i64 hi.r, .int .i64 hi.ld, .int .i64 hi.lq, .int .i64 hi.fx, .int .i64 hi.po, .int .i64 hi.mi, .int .i64 hi.sp, .int .i64 hi.dr, .int .i64 hi.cu, .int .i64 hi.fa]), (w.heap.size, 52, [.int .i64 lo.r, .int .i64 lo.ld, .int .i64 lo.lq, .int .i64 lo.fx, .int .i64 lo.po, .int .i64 lo.mi, .int .i64 lo.sp, .int .i64 lo.dr, .int .i64 lo.cu, .int .i64 lo.fa])] W) (I19.out.alloc [.int .i64 A2, .int .i64 B2] 29) ?_
  clear I19
  rintro w21 i_
  have I20 := Lib.hid i_
  clear i_
  generalize w17.heap.size = g_wq at gz_wq I20 ⊢
  have z_at := (I20.out.get 6 rfl).lt
  have c_at0 := (I20.out.get 6 rfl).cell 0 rfl
  have c_at1 := (I20.out.get 6 rfl).cell 1 rfl
  have z_lo := (I20.out.get 8 rfl).lt
  have c_lo1 := (I20.out.get 8 rfl).cell 1 rfl
  have z_hi := (I20.out.get 7 rfl).lt
  have c_hi1 := (I20.out.get 7 rfl).cell 1 rfl
  go_wp2_with fail
  refine (K5.out _).mono ?_
  rintro e w22 ⟨rfl, hb23⟩
  have I24 := Lib.hid (I20.out.below hb23)
  clear hb23 I20 z_at c_at0 c_at1 z_lo c_lo1 z_hi c_hi1
  go_wp2_with fail
  refine (point_c d _).mono ?_
  rintro e w25 ⟨rfl, hb26⟩
  have I27 := Lib.hid (I24.out.below hb26)
  clear hb26 I24
  go_wp2_with fail
  refine (K6.out _).mono ?_
  rintro e w28 ⟨rfl, hb29⟩
  have I30 := Lib.hid (I27.out.below hb29)
  clear hb29 I27
  go_upto_region 5 with (fail)
  have gz_wd := I30.out.1.size
  refine gen_world (fun W => St w [(w28.heap.size, 29, [.int .i64 A6, .int .i64 B6]), (g_wq, 29, [.int .i64 A2, .int .i64 B2]), (g_rq, 29, [.int .i64 A4, .int .i64 B4]), (g_rd, 29, [.int .i64 A3, .int .i64 B3]), (g_r, 29, [.int .i64 lo.r, .int .i64 hi.r]), (w.heap.size + 1 + 1 + 1 + 1, 29, [.int .i64 0, .int .i64 0]), (w.heap.size + 1 + 1 + 1, 29, [.int .i64 0, .int .i64 0]), (w.heap.size + 1 + 1, 29, [.int .i64 al, .int .i64 ah]), (w.heap.size + 1, 52, [.int .i64 hi.r, .int .i64 hi.ld, .int .i64 hi.lq, .int .i64 hi.fx, .int .i64 hi.po, .int .i64 hi.mi, .int .i64 hi.sp, .int .i64 hi.dr, .int .i64 hi.cu, .int .i64 hi.fa]), (w.heap.size, 52, [.int .i64 lo.r, .int .i64 lo.ld, .int .i64 lo.lq, .int .i64 lo.fx, .int .i64 lo.po, .int .i64 lo.mi, .int .i64 lo.sp, .int .i64 lo.dr, .int .i64 lo.cu, .int .i64 lo.fa])] W) (I30.out.alloc [.int .i64 A6, .int .i64 B6] 29) ?_
  clear I30
  rintro w32 i_
  have I31 := Lib.hid i_
  clear i_
  generalize w28.heap.size = g_wd at gz_wd I31 ⊢
  have z_at := (I31.out.get 7 rfl).lt
  have c_at0 := (I31.out.get 7 rfl).cell 0 rfl
  have c_at1 := (I31.out.get 7 rfl).cell 1 rfl
  have z_lo := (I31.out.get 9 rfl).lt
  have c_lo3 := (I31.out.get 9 rfl).cell 3 rfl
  have z_hi := (I31.out.get 8 rfl).lt
  have c_hi3 := (I31.out.get 8 rfl).cell 3 rfl
  go_wp2_with fail
  refine (K7.out _).mono ?_
  rintro e w33 ⟨rfl, hb34⟩
  have I35 := Lib.hid (I31.out.below hb34)
  clear hb34 I31 z_at c_at0 c_at1 z_lo c_lo3 z_hi c_hi3
  go_upto_region 6 with (fail)
  have gz_f := I35.out.1.size
  refine gen_world (fun W => St w [(w33.heap.size, 29, [.int .i64 A7, .int .i64 B7]), (g_wd, 29, [.int .i64 A6, .int .i64 B6]), (g_wq, 29, [.int .i64 A2, .int .i64 B2]), (g_rq, 29, [.int .i64 A4, .int .i64 B4]), (g_rd, 29, [.int .i64 A3, .int .i64 B3]), (g_r, 29, [.int .i64 lo.r, .int .i64 hi.r]), (w.heap.size + 1 + 1 + 1 + 1, 29, [.int .i64 0, .int .i64 0]), (w.heap.size + 1 + 1 + 1, 29, [.int .i64 0, .int .i64 0]), (w.heap.size + 1 + 1, 29, [.int .i64 al, .int .i64 ah]), (w.heap.size + 1, 52, [.int .i64 hi.r, .int .i64 hi.ld, .int .i64 hi.lq, .int .i64 hi.fx, .int .i64 hi.po, .int .i64 hi.mi, .int .i64 hi.sp, .int .i64 hi.dr, .int .i64 hi.cu, .int .i64 hi.fa]), (w.heap.size, 52, [.int .i64 lo.r, .int .i64 lo.ld, .int .i64 lo.lq, .int .i64 lo.fx, .int .i64 lo.po, .int .i64 lo.mi, .int .i64 lo.sp, .int .i64 lo.dr, .int .i64 lo.cu, .int .i64 lo.fa])] W) (I35.out.alloc [.int .i64 A7, .int .i64 B7] 29) ?_
  clear I35
  rintro w37 i_
  have I36 := Lib.hid i_
  clear i_
  generalize w33.heap.size = g_f at gz_f I36 ⊢
  refine wp_region_priv 18 [.q, .q, .q, .q, .q, .q, .q, .q, .q, .q, .q, .q, .q, .q, .q, .q, .q, .p] (fun _ => (.cells #[.int .i64 0, .int .i64 0] 29, fun b => .pointer (some ⟨b, 0, none⟩))) ?afr38 (by kernel_rfl) (by kernel_rfl) ?walkr38 ?tailr38
  case walkr38 =>
    intro V hV
    have IV := Lib.hid (I36.out.below hV)
    have z_rd := (IV.out.get 4 rfl).lt
    have c_rd0 := (IV.out.get 4 rfl).cell 0 rfl
    have c_rd1 := (IV.out.get 4 rfl).cell 1 rfl
    have z_wq := (IV.out.get 2 rfl).lt
    have c_wq0 := (IV.out.get 2 rfl).cell 0 rfl
    have c_wq1 := (IV.out.get 2 rfl).cell 1 rfl
    simp only [List.take_succ_cons, List.take_zero]
    repeat (refine wpP_q ?_; go_big_quiet_step (first | (go_at_call 85; exact past_same (floor_c _ _ _ (by omega) (by omega) (by omega)))); refine wpQuiet_nil ?_)
    refine wpP_p (by kernel_rfl) (fun _ => by kernel_rfl) ?_
    (try simp only [Act.put, List.setIfInBounds_toArray, List.set_cons_zero, List.set_cons_succ])
    refine wpP_nil ?_
    rfl
  case tailr38 =>
  intro gs w39 hb40 hP hD
  obtain ⟨hg_bd, k_bd⟩ := hP 17 rfl
  simp only [List.take_succ_cons, List.take_zero, fillP]
  (try simp only [Act.put, List.setIfInBounds_toArray, List.set_cons_zero, List.set_cons_succ])
  generalize gs 17 = g_bd at hg_bd k_bd ⊢
  clear hP hD
  have k2_bd : Blk w39 g_bd 29 [.int .i64 0, .int .i64 0] := k_bd
  have gz_bd : w.heap.size ≤ g_bd := Nat.le_trans I36.out.1.size hg_bd
  have f_bd0 := k2_bd.free 0
  have d_bd0 := k2_bd.cell 0 rfl
  have f_bd1 := k2_bd.free 1
  have d_bd1 := k2_bd.cell 1 rfl
  have J41 := Lib.hid (I36.out.lay hb40 hg_bd k2_bd [.int .i64 (-(B3 / 1000) + A2 / 1000000), .int .i64 (-(A3 / 1000) + B2 / 1000000)] rfl)
  clear hb40 I36 hg_bd k_bd k2_bd
  simp only [List.drop_succ_cons, List.drop_zero]
  go_upto_region 7 with (fail)
  refine gen_world (fun W => St w [(g_bd, 29, [.int .i64 (A2 / 1000000 - B3 / 1000), .int .i64 (B2 / 1000000 - A3 / 1000)]), (g_f, 29, [.int .i64 A7, .int .i64 B7]), (g_wd, 29, [.int .i64 A6, .int .i64 B6]), (g_wq, 29, [.int .i64 A2, .int .i64 B2]), (g_rq, 29, [.int .i64 A4, .int .i64 B4]), (g_rd, 29, [.int .i64 A3, .int .i64 B3]), (g_r, 29, [.int .i64 lo.r, .int .i64 hi.r]), (w.heap.size + 1 + 1 + 1 + 1, 29, [.int .i64 0, .int .i64 0]), (w.heap.size + 1 + 1 + 1, 29, [.int .i64 0, .int .i64 0]), (w.heap.size + 1 + 1, 29, [.int .i64 al, .int .i64 ah]), (w.heap.size + 1, 52, [.int .i64 hi.r, .int .i64 hi.ld, .int .i64 hi.lq, .int .i64 hi.fx, .int .i64 hi.po, .int .i64 hi.mi, .int .i64 hi.sp, .int .i64 hi.dr, .int .i64 hi.cu, .int .i64 hi.fa]), (w.heap.size, 52, [.int .i64 lo.r, .int .i64 lo.ld, .int .i64 lo.lq, .int .i64 lo.fx, .int .i64 lo.po, .int .i64 lo.mi, .int .i64 lo.sp, .int .i64 lo.dr, .int .i64 lo.cu, .int .i64 lo.fa])] W) (by rw [← E1.out, ← E2.out]; exact J41.out) ?_
  clear J41 f_bd0 d_bd0 f_bd1 d_bd1
  rintro w43 i_
  have I42 := Lib.hid i_
  clear i_
  refine wp_region_priv 24 [.q, .q, .q, .q, .q, .q, .q, .q, .q, .q, .q, .q, .q, .q, .q, .q, .q, .q, .q, .q, .q, .q, .q, .p] (fun _ => (.cells #[.int .i64 0, .int .i64 0] 29, fun b => .pointer (some ⟨b, 0, none⟩))) ?afr44 (by kernel_rfl) (by kernel_rfl) ?walkr44 ?tailr44
  case walkr44 =>
    intro V hV
    have IV := Lib.hid (I42.out.below hV)
    have z_rq := (IV.out.get 4 rfl).lt
    have c_rq0 := (IV.out.get 4 rfl).cell 0 rfl
    have c_rq1 := (IV.out.get 4 rfl).cell 1 rfl
    have z_wd := (IV.out.get 2 rfl).lt
    have c_wd0 := (IV.out.get 2 rfl).cell 0 rfl
    have c_wd1 := (IV.out.get 2 rfl).cell 1 rfl
    have z_f := (IV.out.get 1 rfl).lt
    have c_f0 := (IV.out.get 1 rfl).cell 0 rfl
    have c_f1 := (IV.out.get 1 rfl).cell 1 rfl
    simp only [List.take_succ_cons, List.take_zero]
    repeat (refine wpP_q ?_; go_big_quiet_step (first | (go_at_call 85; exact past_same (floor_c _ _ _ (by omega) (by omega) (by omega)))); refine wpQuiet_nil ?_)
    refine wpP_p (by kernel_rfl) (fun _ => by kernel_rfl) ?_
    (try simp only [Act.put, List.setIfInBounds_toArray, List.set_cons_zero, List.set_cons_succ])
    refine wpP_nil ?_
    rfl
  case tailr44 =>
  intro gs w45 hb46 hP hD
  obtain ⟨hg_bq, k_bq⟩ := hP 23 rfl
  simp only [List.take_succ_cons, List.take_zero, fillP]
  (try simp only [Act.put, List.setIfInBounds_toArray, List.set_cons_zero, List.set_cons_succ])
  generalize gs 23 = g_bq at hg_bq k_bq ⊢
  clear hP hD
  have k2_bq : Blk w45 g_bq 29 [.int .i64 0, .int .i64 0] := k_bq
  have gz_bq : w.heap.size ≤ g_bq := Nat.le_trans I42.out.1.size hg_bq
  have f_bq0 := k2_bq.free 0
  have d_bq0 := k2_bq.cell 0 rfl
  have f_bq1 := k2_bq.free 1
  have d_bq1 := k2_bq.cell 1 rfl
  have J47 := Lib.hid (I42.out.lay hb46 hg_bq k2_bq [.int .i64 (-(B4 / 1000) - B6 / 1000000 - B7), .int .i64 (-(A4 / 1000) - A6 / 1000000 - A7)] rfl)
  clear hb46 I42 hg_bq k_bq k2_bq
  simp only [List.drop_succ_cons, List.drop_zero]
  go_upto_region 8 with (fail)
  refine gen_world (fun W => St w [(g_bq, 29, [.int .i64 (-(B4 / 1000) - B6 / 1000000 - B7), .int .i64 (-(A4 / 1000) - A6 / 1000000 - A7)]), (g_bd, 29, [.int .i64 (A2 / 1000000 - B3 / 1000), .int .i64 (B2 / 1000000 - A3 / 1000)]), (g_f, 29, [.int .i64 A7, .int .i64 B7]), (g_wd, 29, [.int .i64 A6, .int .i64 B6]), (g_wq, 29, [.int .i64 A2, .int .i64 B2]), (g_rq, 29, [.int .i64 A4, .int .i64 B4]), (g_rd, 29, [.int .i64 A3, .int .i64 B3]), (g_r, 29, [.int .i64 lo.r, .int .i64 hi.r]), (w.heap.size + 1 + 1 + 1 + 1, 29, [.int .i64 0, .int .i64 0]), (w.heap.size + 1 + 1 + 1, 29, [.int .i64 0, .int .i64 0]), (w.heap.size + 1 + 1, 29, [.int .i64 al, .int .i64 ah]), (w.heap.size + 1, 52, [.int .i64 hi.r, .int .i64 hi.ld, .int .i64 hi.lq, .int .i64 hi.fx, .int .i64 hi.po, .int .i64 hi.mi, .int .i64 hi.sp, .int .i64 hi.dr, .int .i64 hi.cu, .int .i64 hi.fa]), (w.heap.size, 52, [.int .i64 lo.r, .int .i64 lo.ld, .int .i64 lo.lq, .int .i64 lo.fx, .int .i64 lo.po, .int .i64 lo.mi, .int .i64 lo.sp, .int .i64 lo.dr, .int .i64 lo.cu, .int .i64 lo.fa])] W) (J47.out) ?_
  clear J47 f_bq0 d_bq0 f_bq1 d_bq1
  rintro w49 i_
  have I48 := Lib.hid i_
  clear i_
  have z_bd := (I48.out.get 1 rfl).lt
  have c_bd0 := (I48.out.get 1 rfl).cell 0 rfl
  have c_bd1 := (I48.out.get 1 rfl).cell 1 rfl
  have z_bq := (I48.out.get 0 rfl).lt
  have c_bq0 := (I48.out.get 0 rfl).cell 0 rfl
  have c_bq1 := (I48.out.get 0 rfl).cell 1 rfl
  have z_r0 := (I48.out.get 9 rfl).lt
  have c_r00 := (I48.out.get 9 rfl).cell 0 rfl
  have c_r01 := (I48.out.get 9 rfl).cell 1 rfl
  have z_r1 := (I48.out.get 8 rfl).lt
  have c_r10 := (I48.out.get 8 rfl).cell 0 rfl
  have c_r11 := (I48.out.get 8 rfl).cell 1 rfl
  have f_r00 := (I48.out.get 9 rfl).free 0
  have f_r01 := (I48.out.get 9 rfl).free 1
  have f_r10 := (I48.out.get 8 rfl).free 0
  have f_r11 := (I48.out.get 8 rfl).free 1
  have n_bd_r0 := I48.out.ne 1 9 rfl rfl (by decide)
  have n_r0_bd := I48.out.ne 9 1 rfl rfl (by decide)
  have n_bd_r1 := I48.out.ne 1 8 rfl rfl (by decide)
  have n_r1_bd := I48.out.ne 8 1 rfl rfl (by decide)
  have n_bq_r0 := I48.out.ne 0 9 rfl rfl (by decide)
  have n_r0_bq := I48.out.ne 9 0 rfl rfl (by decide)
  have n_bq_r1 := I48.out.ne 0 8 rfl rfl (by decide)
  have n_r1_bq := I48.out.ne 8 0 rfl rfl (by decide)
  have n_r0_r1 := I48.out.ne 9 8 rfl rfl (by decide)
  have n_r1_r0 := I48.out.ne 8 9 rfl rfl (by decide)
  go_region
  all_goals
    go_wp2
    exact bodyPost_ret (v := .tuple #[.agg #[.int .i64 (A2 / 1000000 - B3 / 1000), .int .i64 (B2 / 1000000 - A3 / 1000)], .agg #[.int .i64 (-(B4 / 1000) - B6 / 1000000 - B7), .int .i64 (-(A4 / 1000) - A6 / 1000000 - A7)]]) (by simp [results, Try.results126, go_sem, c_r00, c_r01, c_r10, c_r11]) rfl ⟨rfl, below_put2 (below_put2 I48.out.1.drew (by omega) _ _) (by omega) _ _⟩
end Go.Proofs.Ytcneohhfnnelgaa
namespace Go.Proofs.Ytcneohhfnnelgaa
open Go.RowKit
set_option linter.unusedVariables false
namespace Dv
def bdLo (lo hi : Mot) (d q al ah : Int) : Int := tmLo (tmLo al ah lo.lq hi.lq) (tmHi al ah lo.lq hi.lq) q q / 1000000 - tmHi lo.r hi.r d d / 1000
def bdHi (lo hi : Mot) (d q al ah : Int) : Int := tmHi (tmLo al ah lo.lq hi.lq) (tmHi al ah lo.lq hi.lq) q q / 1000000 - tmLo lo.r hi.r d d / 1000
def bqLo (lo hi : Mot) (d q al ah : Int) : Int := -(tmHi lo.r hi.r q q / 1000) - tmHi (tmLo al ah lo.ld hi.ld) (tmHi al ah lo.ld hi.ld) d d / 1000000 - tmHi al ah lo.fx hi.fx
def bqHi (lo hi : Mot) (d q al ah : Int) : Int := -(tmLo lo.r hi.r q q / 1000) - tmLo (tmLo al ah lo.ld hi.ld) (tmHi al ah lo.ld hi.ld) d d / 1000000 - tmLo al ah lo.fx hi.fx
theorem tm_bd {a b c d : Int} (A B C : Int) (ha : -A ≤ a ∧ a ≤ A) (hb : -A ≤ b ∧ b ≤ A) (hc : -B ≤ c ∧ c ≤ B) (hd : -B ≤ d ∧ d ≤ B) (hC : A * B = C) :
    ((-C ≤ a * c ∧ a * c ≤ C) ∧ (-C ≤ a * d ∧ a * d ≤ C) ∧ (-C ≤ b * c ∧ b * c ≤ C) ∧ (-C ≤ b * d ∧ b * d ≤ C)) ∧ (-C ≤ tmLo a b c d ∧ tmLo a b c d ≤ C) ∧ (-C ≤ tmHi a b c d ∧ tmHi a b c d ≤ C) := by
  have h1 := mul_bd A B ha hc
  have h2 := mul_bd A B ha hd
  have h3 := mul_bd A B hb hc
  have h4 := mul_bd A B hb hd
  rw [hC] at h1 h2 h3 h4
  refine ⟨⟨h1, h2, h3, h4⟩, ?_, ?_⟩
  · unfold tmLo mn4; omega
  · unfold tmHi mx4; omega
/-- the bounds of all products of inners -/
theorem inn_bd (lo hi : Mot) (d q al ah : Int) (hlo : chk lo) (hhi : chk hi) (hd : -1048576 ≤ d ∧ d ≤ 1048576) (hq : -1048576 ≤ q ∧ q ≤ 1048576) (hal : -32768 ≤ al ∧ al ≤ 32768) (hah : -32768 ≤ ah ∧ ah ≤ 32768) :
    (-1152921504606846976 ≤ bdLo lo hi d q al ah ∧ bdLo lo hi d q al ah ≤ 1152921504606846976) ∧ (-1152921504606846976 ≤ bdHi lo hi d q al ah ∧ bdHi lo hi d q al ah ≤ 1152921504606846976) ∧ (-1152921504606846976 ≤ bqLo lo hi d q al ah ∧ bqLo lo hi d q al ah ≤ 1152921504606846976) ∧ (-1152921504606846976 ≤ bqHi lo hi d q al ah ∧ bqHi lo hi d q al ah ≤ 1152921504606846976) := by
  obtain ⟨⟨r1, r2⟩, ⟨d1, d2⟩, ⟨q1, q2⟩, ⟨f1, f2⟩, _⟩ := hlo
  obtain ⟨⟨r3, r4⟩, ⟨d3, d4⟩, ⟨q3, q4⟩, ⟨f3, f4⟩, _⟩ := hhi
  have t1 := tm_bd 32768 4194304 137438953472 hal hah (c := lo.lq) (d := hi.lq) (by omega) (by omega) (by decide)
  have t2 := tm_bd 137438953472 1048576 144115188075855872 t1.2.1 t1.2.2 hq hq (by decide)
  have t3 := tm_bd 1048576 1048576 1099511627776 (a := lo.r) (b := hi.r) (by omega) (by omega) hd hd (by decide)
  have t4 := tm_bd 1048576 1048576 1099511627776 (a := lo.r) (b := hi.r) (by omega) (by omega) hq hq (by decide)
  have t5 := tm_bd 32768 4194304 137438953472 hal hah (c := lo.ld) (d := hi.ld) (by omega) (by omega) (by decide)
  have t6 := tm_bd 137438953472 1048576 144115188075855872 t5.2.1 t5.2.2 hd hd (by decide)
  have t7 := tm_bd 32768 4194304 137438953472 hal hah (c := lo.fx) (d := hi.fx) (by omega) (by omega) (by decide)
  have := t2.2; have := t3.2; have := t4.2; have := t6.2; have := t7.2
  unfold bdLo bdHi bqLo bqHi
  omega
end Dv

theorem inners_c (m lo hi : Mot) (sl sh d q s : Int) (g : Nat) (w : World) (hg : Blk w g 131 (lmC m lo hi sl sh)) (hlo : Dv.chk lo) (hhi : Dv.chk hi) (hs : -16384 ≤ s ∧ s ≤ 16384) (hsl : -16384 ≤ sl ∧ sl ≤ 16384) (hsh : -16384 ≤ sh ∧ sh ≤ 16384) (hd : -1048576 ≤ d ∧ d ≤ 1048576) (hq : -1048576 ≤ q ∧ q ≤ 1048576) :
    Calls Try.prog 124 #[.pointer (some ⟨g, 0, none⟩), .int .i64 d, .int .i64 q, .int .i64 s] w fun e w' => e = .returned (.tuple #[.agg #[.int .i64 (Dv.bdLo lo hi d q (s + sl) (s + sh)), .int .i64 (Dv.bdHi lo hi d q (s + sl) (s + sh))], .agg #[.int .i64 (Dv.bqLo lo hi d q (s + sl) (s + sh)), .int .i64 (Dv.bqHi lo hi d q (s + sl) (s + sh))]]) ∧ Below w.heap.size w w' := by
  have hal : -32768 ≤ s + sl ∧ s + sl ≤ 32768 := by omega
  have hah : -32768 ≤ s + sh ∧ s + sh ≤ 32768 := by omega
  have hlo' := hlo
  have hhi' := hhi
  obtain ⟨⟨r1, r2⟩, ⟨d1, d2⟩, ⟨q1, q2⟩, ⟨f1, f2⟩, _⟩ := hlo
  obtain ⟨⟨r3, r4⟩, ⟨d3, d4⟩, ⟨q3, q4⟩, ⟨f3, f4⟩, _⟩ := hhi
  have t1 := Dv.tm_bd 32768 4194304 137438953472 hal hah (c := lo.lq) (d := hi.lq) (by omega) (by omega) (by decide)
  have t2 := Dv.tm_bd 137438953472 1048576 144115188075855872 t1.2.1 t1.2.2 hq hq (by decide)
  have t3 := Dv.tm_bd 1048576 1048576 1099511627776 (a := lo.r) (b := hi.r) (by omega) (by omega) hd hd (by decide)
  have t4 := Dv.tm_bd 1048576 1048576 1099511627776 (a := lo.r) (b := hi.r) (by omega) (by omega) hq hq (by decide)
  have t5 := Dv.tm_bd 32768 4194304 137438953472 hal hah (c := lo.ld) (d := hi.ld) (by omega) (by omega) (by decide)
  have t6 := Dv.tm_bd 137438953472 1048576 144115188075855872 t5.2.1 t5.2.2 hd hd (by decide)
  have t7 := Dv.tm_bd 32768 4194304 137438953472 hal hah (c := lo.fx) (d := hi.fx) (by omega) (by omega) (by decide)
  clear r1 r2 d1 d2 q1 q2 f1 f2 r3 r4 d3 d4 q3 q4 f3 f4
  exact inners_go m lo hi sl sh (s + sl) (s + sh) d q s rfl rfl t1.2.1 t1.2.2 ⟨by have := t1.1.1; omega, by have := t1.1.1; omega⟩ ⟨by have := t1.1.2.1; omega, by have := t1.1.2.1; omega⟩ ⟨by have := t1.1.2.2.1; omega, by have := t1.1.2.2.1; omega⟩ ⟨by have := t1.1.2.2.2; omega, by have := t1.1.2.2.2; omega⟩ rfl rfl t2.2.1 t2.2.2 ⟨by have := t2.1.1; omega, by have := t2.1.1; omega⟩ ⟨by have := t2.1.2.2.1; omega, by have := t2.1.2.2.1; omega⟩ rfl rfl t3.2.1 t3.2.2 ⟨by have := t3.1.1; omega, by have := t3.1.1; omega⟩ ⟨by have := t3.1.2.2.1; omega, by have := t3.1.2.2.1; omega⟩ rfl rfl t4.2.1 t4.2.2 ⟨by have := t4.1.1; omega, by have := t4.1.1; omega⟩ ⟨by have := t4.1.2.2.1; omega, by have := t4.1.2.2.1; omega⟩ rfl rfl t5.2.1 t5.2.2 ⟨by have := t5.1.1; omega, by have := t5.1.1; omega⟩ ⟨by have := t5.1.2.1; omega, by have := t5.1.2.1; omega⟩ ⟨by have := t5.1.2.2.1; omega, by have := t5.1.2.2.1; omega⟩ ⟨by have := t5.1.2.2.2; omega, by have := t5.1.2.2.2; omega⟩ rfl rfl t6.2.1 t6.2.2 ⟨by have := t6.1.1; omega, by have := t6.1.1; omega⟩ ⟨by have := t6.1.2.2.1; omega, by have := t6.1.2.2.1; omega⟩ rfl rfl t7.2.1 t7.2.2 ⟨by have := t7.1.1; omega, by have := t7.1.1; omega⟩ ⟨by have := t7.1.2.1; omega, by have := t7.1.2.1; omega⟩ ⟨by have := t7.1.2.2.1; omega, by have := t7.1.2.2.1; omega⟩ ⟨by have := t7.1.2.2.2; omega, by have := t7.1.2.2.2; omega⟩ g w hg hlo' hhi' hs hsl hsh hd hq rfl rfl
theorem innersR_c (lo hi : Mot) (al ah d q : Int) (w : World) (hlo : Dv.chk lo) (hhi : Dv.chk hi) (hal : -32768 ≤ al ∧ al ≤ 32768) (hah : -32768 ≤ ah ∧ ah ≤ 32768) (hd : -1048576 ≤ d ∧ d ≤ 1048576) (hq : -1048576 ≤ q ∧ q ≤ 1048576) :
    Calls Try.prog 126 #[.agg #[.int .i64 lo.r, .int .i64 lo.ld, .int .i64 lo.lq, .int .i64 lo.fx, .int .i64 lo.po, .int .i64 lo.mi, .int .i64 lo.sp, .int .i64 lo.dr, .int .i64 lo.cu, .int .i64 lo.fa], .agg #[.int .i64 hi.r, .int .i64 hi.ld, .int .i64 hi.lq, .int .i64 hi.fx, .int .i64 hi.po, .int .i64 hi.mi, .int .i64 hi.sp, .int .i64 hi.dr, .int .i64 hi.cu, .int .i64 hi.fa], .int .i64 d, .int .i64 q, .agg #[.int .i64 al, .int .i64 ah]] w fun e w' => e = .returned (.tuple #[.agg #[.int .i64 (Dv.bdLo lo hi d q al ah), .int .i64 (Dv.bdHi lo hi d q al ah)], .agg #[.int .i64 (Dv.bqLo lo hi d q al ah), .int .i64 (Dv.bqHi lo hi d q al ah)]]) ∧ Below w.heap.size w w' := by
  have hlo' := hlo
  have hhi' := hhi
  obtain ⟨⟨r1, r2⟩, ⟨d1, d2⟩, ⟨q1, q2⟩, ⟨f1, f2⟩, _⟩ := hlo
  obtain ⟨⟨r3, r4⟩, ⟨d3, d4⟩, ⟨q3, q4⟩, ⟨f3, f4⟩, _⟩ := hhi
  have t1 := Dv.tm_bd 32768 4194304 137438953472 hal hah (c := lo.lq) (d := hi.lq) (by omega) (by omega) (by decide)
  have t2 := Dv.tm_bd 137438953472 1048576 144115188075855872 t1.2.1 t1.2.2 hq hq (by decide)
  have t3 := Dv.tm_bd 1048576 1048576 1099511627776 (a := lo.r) (b := hi.r) (by omega) (by omega) hd hd (by decide)
  have t4 := Dv.tm_bd 1048576 1048576 1099511627776 (a := lo.r) (b := hi.r) (by omega) (by omega) hq hq (by decide)
  have t5 := Dv.tm_bd 32768 4194304 137438953472 hal hah (c := lo.ld) (d := hi.ld) (by omega) (by omega) (by decide)
  have t6 := Dv.tm_bd 137438953472 1048576 144115188075855872 t5.2.1 t5.2.2 hd hd (by decide)
  have t7 := Dv.tm_bd 32768 4194304 137438953472 hal hah (c := lo.fx) (d := hi.fx) (by omega) (by omega) (by decide)
  clear r1 r2 d1 d2 q1 q2 f1 f2 r3 r4 d3 d4 q3 q4 f3 f4
  exact innersR_go lo hi al ah d q rfl rfl t1.2.1 t1.2.2 ⟨by have := t1.1.1; omega, by have := t1.1.1; omega⟩ ⟨by have := t1.1.2.1; omega, by have := t1.1.2.1; omega⟩ ⟨by have := t1.1.2.2.1; omega, by have := t1.1.2.2.1; omega⟩ ⟨by have := t1.1.2.2.2; omega, by have := t1.1.2.2.2; omega⟩ rfl rfl t2.2.1 t2.2.2 ⟨by have := t2.1.1; omega, by have := t2.1.1; omega⟩ ⟨by have := t2.1.2.2.1; omega, by have := t2.1.2.2.1; omega⟩ rfl rfl t3.2.1 t3.2.2 ⟨by have := t3.1.1; omega, by have := t3.1.1; omega⟩ ⟨by have := t3.1.2.2.1; omega, by have := t3.1.2.2.1; omega⟩ rfl rfl t4.2.1 t4.2.2 ⟨by have := t4.1.1; omega, by have := t4.1.1; omega⟩ ⟨by have := t4.1.2.2.1; omega, by have := t4.1.2.2.1; omega⟩ rfl rfl t5.2.1 t5.2.2 ⟨by have := t5.1.1; omega, by have := t5.1.1; omega⟩ ⟨by have := t5.1.2.1; omega, by have := t5.1.2.1; omega⟩ ⟨by have := t5.1.2.2.1; omega, by have := t5.1.2.2.1; omega⟩ ⟨by have := t5.1.2.2.2; omega, by have := t5.1.2.2.2; omega⟩ rfl rfl t6.2.1 t6.2.2 ⟨by have := t6.1.1; omega, by have := t6.1.1; omega⟩ ⟨by have := t6.1.2.2.1; omega, by have := t6.1.2.2.1; omega⟩ rfl rfl t7.2.1 t7.2.2 ⟨by have := t7.1.1; omega, by have := t7.1.1; omega⟩ ⟨by have := t7.1.2.1; omega, by have := t7.1.2.1; omega⟩ ⟨by have := t7.1.2.2.1; omega, by have := t7.1.2.2.1; omega⟩ ⟨by have := t7.1.2.2.2; omega, by have := t7.1.2.2.2; omega⟩ w hlo' hhi' hd hq

theorem al_bd {x l : Int} (hx : -2097153 ≤ x ∧ x ≤ 2097153) (hl : -4194304 ≤ l ∧ l ≤ 4194304) : -1152921504606846976 ≤ x * l ∧ x * l ≤ 1152921504606846976 := by
  have := Dv.mul_bd 2097153 4194304 hx hl
  omega
set_option maxHeartbeats 4000000 in
set_option maxRecDepth 100000 in
theorem both_go (m lo hi : Mot) (sl sh d q s : Int) {x1 x2 x3 x4 : Int} (g : Nat) (w : World) (hg : Blk w g 131 (lmC m lo hi sl sh)) (hm : Dv.chk m) (hlo : Dv.chk lo) (hhi : Dv.chk hi) (hs : -16384 ≤ s ∧ s ≤ 16384) (hsl : -16384 ≤ sl ∧ sl ≤ 16384) (hsh : -16384 ≤ sh ∧ sh ≤ 16384) (hd : -1048576 ≤ d ∧ d ≤ 1048576) (hq : -1048576 ≤ q ∧ q ≤ 1048576)
    (e1 : Dv.bdLo lo hi d q (s + sl) (s + sh) = x1) (e2 : Dv.bdHi lo hi d q (s + sl) (s + sh) = x2) (e3 : Dv.bqLo lo hi d q (s + sl) (s + sh) = x3) (e4 : Dv.bqHi lo hi d q (s + sl) (s + sh) = x4) :
    Calls Try.prog 109 #[.pointer (some ⟨g, 0, none⟩), .int .i64 d, .int .i64 q, .int .i64 s] w fun e w' => e = .returned (.tuple #[.agg #[.int .i64 (Dv.alLo m.cu d lo.ld m.mi x1), .int .i64 (Dv.alHi m.cu d lo.ld m.mi x2)], .agg #[.int .i64 (Dv.alLo m.cu q lo.lq m.mi x3), .int .i64 (Dv.alHi m.cu q lo.lq m.mi x4)]]) ∧ Below w.heap.size w w' := by
  have hib := Dv.inn_bd lo hi d q (s + sl) (s + sh) hlo hhi hd hq (by omega) (by omega)
  rw [e1, e2, e3, e4] at hib
  have KI := Lib.hid (show ∀ W : World, Blk W g 131 (lmC m lo hi sl sh) → Calls Try.prog 124 #[.pointer (some ⟨g, 0, none⟩), .int .i64 d, .int .i64 q, .int .i64 s] W fun e w' => e = .returned (.tuple #[.agg #[.int .i64 x1, .int .i64 x2], .agg #[.int .i64 x3, .int .i64 x4]]) ∧ Below W.heap.size W w' from fun W hW => by rw [← e1, ← e2, ← e3, ← e4]; exact inners_c m lo hi sl sh d q s g W hW hlo hhi hs hsl hsh hd hq)
  clear e1 e2 e3 e4
  have hgl := hg.lt
  unfold Dv.chk at hm hlo hhi
  have ab1 := al_bd (x := m.cu + d) (l := lo.ld) (by omega) (by omega)
  have ab2 := al_bd (x := m.cu - d + 1) (l := lo.ld) (by omega) (by omega)
  have ab3 := al_bd (x := m.cu + q) (l := lo.lq) (by omega) (by omega)
  have ab4 := al_bd (x := m.cu - q + 1) (l := lo.lq) (by omega) (by omega)
  have KA := Lib.hid (show ∀ W : World, Blk W g 131 (lmC m lo hi sl sh) → Calls Try.prog 125 #[.pointer (some ⟨g, 0, none⟩), .int .i64 d, .int .i64 lo.ld, .agg #[.int .i64 x1, .int .i64 x2]] W fun e w' => e = .returned (.agg #[.int .i64 (Dv.alLo m.cu d lo.ld m.mi x1), .int .i64 (Dv.alHi m.cu d lo.ld m.mi x2)]) ∧ Below W.heap.size W w' from fun W hW => allowed1_c m.cu d lo.ld m.mi x1 x2 g W (hW.cell 8 rfl) (hW.cell 5 rfl) (by omega) (by omega) (by omega) ab1 ab2 hib.1 hib.2.1)
  have KB := Lib.hid (show ∀ W : World, Blk W g 131 (lmC m lo hi sl sh) → Calls Try.prog 125 #[.pointer (some ⟨g, 0, none⟩), .int .i64 q, .int .i64 lo.lq, .agg #[.int .i64 x3, .int .i64 x4]] W fun e w' => e = .returned (.agg #[.int .i64 (Dv.alLo m.cu q lo.lq m.mi x3), .int .i64 (Dv.alHi m.cu q lo.lq m.mi x4)]) ∧ Below W.heap.size W w' from fun W hW => allowed1_c m.cu q lo.lq m.mi x3 x4 g W (hW.cell 8 rfl) (hW.cell 5 rfl) (by omega) (by omega) (by omega) ab3 ab4 hib.2.2.1 hib.2.2.2)
  clear ab1 ab2 ab3 ab4 hib
  have S0 := Lib.hid (show St w [(w.heap.size + 1, 29, [.int .i64 0, .int .i64 0]), (w.heap.size, 29, [.int .i64 0, .int .i64 0]), (g, 131, lmC m lo hi sl sh)] ((w.alloc (.cells #[.int .i64 0, .int .i64 0] 29)).alloc (.cells #[.int .i64 0, .int .i64 0] 29)) from by
    have := ((St.start1 hg).alloc [.int .i64 0, .int .i64 0] 29).alloc [.int .i64 0, .int .i64 0] 29
    simp at this
    exact this)
  clear hg
  go_enter Try.func109, Try.ntmps109
  go_wp2_with fail
  refine (KI.out _ (S0.out.get 2 rfl)).mono ?_
  rintro e w1 ⟨rfl, hb1⟩
  have S1 := Lib.hid ((((S0.out.below hb1).alloc [.int .i64 x1, .int .i64 x2] 29).alloc [.int .i64 x3, .int .i64 x4] 29))
  have hz1 := S0.out.below hb1 |>.1.size
  clear hb1 S0
  go_upto_region 2 with (fail)
  refine gen_world (fun W => St w [(w1.heap.size + 1, 29, [.int .i64 x3, .int .i64 x4]), (w1.heap.size, 29, [.int .i64 x1, .int .i64 x2]), (w.heap.size + 1, 29, [.int .i64 0, .int .i64 0]), (w.heap.size, 29, [.int .i64 0, .int .i64 0]), (g, 131, lmC m lo hi sl sh)] W) (by have := S1.out; simp at this; exact this) ?_
  clear S1
  rintro w2 i_
  have I1 := Lib.hid i_
  clear i_
  generalize w1.heap.size = ga at hz1 I1 ⊢
  refine wp_region_priv 18 [.q, .q, .q, .q, .q, .q, .q, .q, .q, .q, .q, .q, .q, .q, .q, .q, .q, .q] (fun _ => (.cells #[] 29, fun b => .pointer none)) ?af (by kernel_rfl) (by kernel_rfl) ?walk ?tail
  case walk =>
    intro V hV
    have IV := Lib.hid (I1.out.below hV)
    have z_a := (IV.out.get 1 rfl).lt
    have c_a0 := (IV.out.get 1 rfl).cell 0 rfl
    have c_a1 := (IV.out.get 1 rfl).cell 1 rfl
    have z_b := (IV.out.get 0 rfl).lt
    have c_b0 := (IV.out.get 0 rfl).cell 0 rfl
    have c_b1 := (IV.out.get 0 rfl).cell 1 rfl
    have zg := (IV.out.get 4 rfl).lt
    obtain ⟨_, ⟨_, b1, b2, _⟩, _, _⟩ := lmCells (IV.out.get 4 rfl)
    have KA2 := Lib.hid (show ∀ x : Past V, Blk x.w g 131 (lmC m lo hi sl sh) from fun x => (IV.out.get 4 rfl).below x.far zg)
    simp only [List.take_succ_cons, List.take_zero]
    repeat (refine wpP_q ?_; go_big_quiet_step (first | (go_at_call 125; with_reducible exact past_below (KA.out _ (KA2.out _))) | (go_at_call 125; with_reducible exact past_below (KB.out _ (KA2.out _)))); refine wpQuiet_nil ?_)
    refine wpP_nil ?_
    rfl
  case tail =>
  intro gs w3 hb3 _ _
  have S3 := Lib.hid (I1.out.below hb3)
  clear hb3 I1
  simp only [List.drop_succ_cons, List.drop_zero, List.take_succ_cons, List.take_zero, fillP]
  have z_r0 := (S3.out.get 3 rfl).lt
  have c_r00 := (S3.out.get 3 rfl).cell 0 rfl
  have c_r01 := (S3.out.get 3 rfl).cell 1 rfl
  have z_r1 := (S3.out.get 2 rfl).lt
  have c_r10 := (S3.out.get 2 rfl).cell 0 rfl
  have c_r11 := (S3.out.get 2 rfl).cell 1 rfl
  have f_r00 := (S3.out.get 3 rfl).free 0
  have f_r01 := (S3.out.get 3 rfl).free 1
  have f_r10 := (S3.out.get 2 rfl).free 0
  have f_r11 := (S3.out.get 2 rfl).free 1
  go_wp2
  exact bodyPost_ret (v := .tuple #[.agg #[.int .i64 (Dv.alLo m.cu d lo.ld m.mi x1), .int .i64 (Dv.alHi m.cu d lo.ld m.mi x2)], .agg #[.int .i64 (Dv.alLo m.cu q lo.lq m.mi x3), .int .i64 (Dv.alHi m.cu q lo.lq m.mi x4)]]) (by simp [results, Try.results109, go_sem, c_r00, c_r01, c_r10, c_r11]) rfl ⟨rfl, below_put2 (below_put2 S3.out.1 (Nat.le_refl _) _ _) (by omega) _ _⟩

theorem both_c (m lo hi : Mot) (sl sh d q s : Int) (g : Nat) (w : World) (hg : Blk w g 131 (lmC m lo hi sl sh)) (hm : Dv.chk m) (hlo : Dv.chk lo) (hhi : Dv.chk hi) (hs : -16384 ≤ s ∧ s ≤ 16384) (hsl : -16384 ≤ sl ∧ sl ≤ 16384) (hsh : -16384 ≤ sh ∧ sh ≤ 16384) (hd : -1048576 ≤ d ∧ d ≤ 1048576) (hq : -1048576 ≤ q ∧ q ≤ 1048576) :
    Calls Try.prog 109 #[.pointer (some ⟨g, 0, none⟩), .int .i64 d, .int .i64 q, .int .i64 s] w fun e w' => e = .returned (.tuple #[.agg #[.int .i64 (Dv.alLo m.cu d lo.ld m.mi (Dv.bdLo lo hi d q (s + sl) (s + sh))), .int .i64 (Dv.alHi m.cu d lo.ld m.mi (Dv.bdHi lo hi d q (s + sl) (s + sh)))], .agg #[.int .i64 (Dv.alLo m.cu q lo.lq m.mi (Dv.bqLo lo hi d q (s + sl) (s + sh))), .int .i64 (Dv.alHi m.cu q lo.lq m.mi (Dv.bqHi lo hi d q (s + sl) (s + sh)))]]) ∧ Below w.heap.size w w' :=
  both_go m lo hi sl sh d q s g w hg hm hlo hhi hs hsl hsh hd hq rfl rfl rfl rfl
end Go.Proofs.Ytcneohhfnnelgaa
namespace Go.Proofs.Ytcneohhfnnelgaa
open Go Go.RowKit
set_option linter.unusedVariables false

/-- the cells of a slice that came in: nil has none -/
def SrcRow (w : World) (Bo : Option Addr) (m : Nat) (news : List Value) : Prop := (Bo = none ∧ m = 0) ∨ ∃ a, Bo = some a ∧ ∀ j u, news[j]? = some u → w.cell? (a.add j) = some u
/-- the block of an address -/
def OwnB (A : Option Addr) (k : Nat) : Prop := ∃ a, A = some a ∧ a.block = k
theorem ownB_iff {A : Option Addr} {n cap k : Nat} : OwnB A k ↔ (Value.slice A n cap).ownBlock = some k := by
  cases A with
  | none => exact ⟨fun ⟨a, h, _⟩ => (by cases h), fun h => (by cases h)⟩
  | some a =>
    show OwnB (some a) k ↔ some a.block = some k
    exact ⟨fun ⟨b, h, e⟩ => (by cases h; rw [e]), fun h => ⟨a, rfl, by simpa using h⟩⟩

section
variable {P : Program} {w : World}
theorem run_append_any (t ty : TypeId) (base : Nat) (e : TypeId) (i : TypeInfo) (z : Value) (size bytes : Nat) (ht : P.underlying t = some (.slice e)) (hi : P.info? e = some i) (hz : i.zero = some z)
    (hsize : i.size = size) (hby : i.bytes = bytes) (hzs : z.cells.size = size) (hsz : 0 < size)
    (A : Option Addr) (n cap : Nat) (xs : List Value) (hown : w.ownsRow base e size (.slice A n cap) n xs)
    (Bo : Option Addr) (m c : Nat) (news : List Value) (hl : news.length = m * size) (hnews : SrcRow w Bo m news) (h1 : ∀ u ∈ news, u.oneCell' = true)
    (h63 : n + m ≤ maxLen) (hbytes : (n + m) * bytes ≤ 140737488355328) (hbase : base ≤ w.heap.size) :
    ∃ A' cap' w', (Builtin.append_ #[t, t] ty #[.slice A n cap, .slice Bo m c]).run P w = .ok (.slice A' (n + m) cap') w' ∧ w'.ownsRow base e size (.slice A' (n + m) cap') (n + m) (xs ++ news) ∧
      w.grownBy w' (Value.slice A n cap).ownBlock ∧ (∀ k, OwnB A' k → OwnB A k ∨ k = w.heap.size) := by
  rcases hnews with ⟨rfl, rfl⟩ | ⟨a, rfl, hnews⟩
  · have hn : news = [] := List.eq_nil_of_length_eq_zero (by simpa using hl)
    subst hn
    refine ⟨A, cap, w, ?_, by simpa using hown, ⟨rfl, rfl, rfl, Nat.le_refl _, fun _ _ _ => rfl⟩, fun k hk => .inl hk⟩
    rcases hown.2 with ⟨hv, rfl⟩ | ⟨g, cap', cur, hv, hbg, hg, hnc, hcm, hcs, htake⟩
    · cases hv
      simp [Builtin.append_, run_underlying ht, sizeOf, typeInfo, hi, Builtin.lenOf, Builtin.firstCells]
    · cases hv
      have hr := run_append_room_src (P := P) w t t ty e i ht hi g 0 n cap (.slice none 0 c) 0 [] (Src.ofNil w ht c) (by omega) (by simp) (by simp)
      simpa [World.setCells] using hr
  · obtain ⟨v', w', hr, h2, h3, h4, h5⟩ := run_append_own_at (P := P) w base t ty e i z size bytes ht hi hz hsize hby hzs hsz (.slice A n cap) n xs hown a m c news hl hnews h1 h63 hbytes hbase
    have hform : ∃ A' cap', v' = .slice A' (n + m) cap' := by
      rcases h2.2 with ⟨rfl, hn⟩ | ⟨g, cap', cur, rfl, _⟩
      · exact ⟨none, 0, by rw [hn]⟩
      · exact ⟨_, _, rfl⟩
    obtain ⟨A', cap', rfl⟩ := hform
    refine ⟨A', cap', w', hr, h2, h3, fun k hk => ?_⟩
    have hk' := (ownB_iff (n := n + m) (cap := cap')).1 hk
    rcases h5 with h5 | h5
    · exact .inl ((ownB_iff (n := n) (cap := cap)).2 (h5 ▸ hk'))
    · rw [h5] at hk'
      exact .inr (by simpa using hk'.symm)

/-- at a step of a region that draws its order -/
theorem step_append_any {ops : Array Oper} {o : Oper} {a : Act} {K : Act → World → Prop} {Q : Exit → Act → World → Prop} {E : Prop} (s x : Operand) (t : TypeId)
    (ho : o.op = .call { callee := .builtin .append, args := #[s, x], argTypes := #[t, t] }) (hgd : o.guard = none)
    (base : Nat) (e : TypeId) (i : TypeInfo) (z : Value) (size bytes : Nat) (ht : P.underlying t = some (.slice e)) (hi : P.info? e = some i) (hz : i.zero = some z)
    (hsize : i.size = size) (hby : i.bytes = bytes) (hzs : z.cells.size = size) (hsz : 0 < size)
    (A : Option Addr) (n cap : Nat) (xs : List Value) (hs : a.eval s = .slice A n cap) (hown : w.ownsRow base e size (.slice A n cap) n xs)
    (Bo : Option Addr) (m c : Nat) (news : List Value) (hx : a.eval x = .slice Bo m c) (hl : news.length = m * size) (hnews : SrcRow w Bo m news) (h1 : ∀ u ∈ news, u.oneCell' = true)
    (h63 : n + m ≤ maxLen) (hbytes : (n + m) * bytes ≤ 140737488355328) (hbase : base ≤ w.heap.size)
    (h : ∀ A' cap' w', w'.ownsRow base e size (.slice A' (n + m) cap') (n + m) (xs ++ news) → w.grownBy w' (Value.slice A n cap).ownBlock → (∀ k, OwnB A' k → OwnB A k ∨ k = w.heap.size) → K (a.put o.dst (.slice A' (n + m) cap')) w') :
    if Region.wanted o (yielded ops a.tmps) = true then Oper.wp P o a w K Q else E := by
  have hw : Region.wanted o (yielded ops a.tmps) = true := by simp [Region.wanted, hgd]
  rw [if_pos hw]
  obtain ⟨A', cap', w', hr, h2, h3, h4⟩ := run_append_any (P := P) t o.type base e i z size bytes ht hi hz hsize hby hzs hsz A n cap xs hown Bo m c news hl hnews h1 h63 hbytes hbase
  unfold Oper.wp execOp
  simp only [ho, resolve, invoke, builtin, Sem.run_bind, Sem.run_pure, Result.andThen_ok, List.map_toArray, List.map_cons, List.map_nil, hs, hx, hr]
  exact h A' cap' w' h2 h3 h4
/-- at a plain region's list -/
theorem wpList_append_any {ops : Array Oper} {rest : List Oper} {o : Oper} {a : Act} {Q : Exit → Act → World → Prop} (s x : Operand) (t : TypeId)
    (ho : o.op = .call { callee := .builtin .append, args := #[s, x], argTypes := #[t, t] }) (hgd : o.guard = none)
    (base : Nat) (e : TypeId) (i : TypeInfo) (z : Value) (size bytes : Nat) (ht : P.underlying t = some (.slice e)) (hi : P.info? e = some i) (hz : i.zero = some z)
    (hsize : i.size = size) (hby : i.bytes = bytes) (hzs : z.cells.size = size) (hsz : 0 < size)
    (A : Option Addr) (n cap : Nat) (xs : List Value) (hs : a.eval s = .slice A n cap) (hown : w.ownsRow base e size (.slice A n cap) n xs)
    (Bo : Option Addr) (m c : Nat) (news : List Value) (hx : a.eval x = .slice Bo m c) (hl : news.length = m * size) (hnews : SrcRow w Bo m news) (h1 : ∀ u ∈ news, u.oneCell' = true)
    (h63 : n + m ≤ maxLen) (hbytes : (n + m) * bytes ≤ 140737488355328) (hbase : base ≤ w.heap.size)
    (h : ∀ A' cap' w', w'.ownsRow base e size (.slice A' (n + m) cap') (n + m) (xs ++ news) → w.grownBy w' (Value.slice A n cap).ownBlock → (∀ k, OwnB A' k → OwnB A k ∨ k = w.heap.size) → wpList P ops Q rest (a.put o.dst (.slice A' (n + m) cap')) w') :
    wpList P ops Q (o :: rest) a w := by
  refine wpList_plain hgd fun K hK => ?_
  obtain ⟨A', cap', w', hr, h2, h3, h4⟩ := run_append_any (P := P) t o.type base e i z size bytes ht hi hz hsize hby hzs hsz A n cap xs hown Bo m c news hl hnews h1 h63 hbytes hbase
  unfold Oper.wp execOp
  simp only [ho, resolve, invoke, builtin, Sem.run_bind, Sem.run_pure, Result.andThen_ok, List.map_toArray, List.map_cons, List.map_nil, hs, hx, hr]
  exact hK _ _ (h A' cap' w' h2 h3 h4)
end
end Go.Proofs.Ytcneohhfnnelgaa
