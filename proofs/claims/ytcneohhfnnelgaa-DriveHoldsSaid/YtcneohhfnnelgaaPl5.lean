/- General: as R10, where callees of the region may also write blocks that there were (S), one behind another; J n says what lies there when n of them have returned. Play (fn 65): its third loop. Plain words for Holds of drive and coulombref06, and its bounds. The contract of Holds of drive. The contract of Holds of coulombref06. The reference Play (fn 66): its head. Play (fn 65). The law of plays: coulomblaw06.DrivePlays returns true. Opening a slice of numbers that came in. -/
import Derived.Test.YtcneohhfnnelgaaPl4
import Derived.Laws.StructEq
namespace Go.Proofs.Ytcneohhfnnelgaa
open Go Go.RowKit
set_option linter.unusedVariables false
namespace Ef

/-- what an operation does: it reads or calls (q), it makes a block of its own (p), it calls with the block that operation j has laid into slot d (c) -/
inductive Role where
  | q
  | p
  | c (j d : Nat)
  | e (n : Nat)
def Role.isP : Role → Bool
  | .p => true
  | _ => false
def Role.eats : Role → Nat → Nat → Bool
  | .c j d, j', d' => (j == j') && (d == d')
  | _, _, _ => false
section
variable {P : Program} {ops : Array Oper} {af : Act} {cont : Nat → Obj × (Nat → Value)} {S : Nat → Prop} {J : Nat → World → Prop} {W V : World}
def StepP (P : Program) (ops : Array Oper) (af : Act) (cont : Nat → Obj × (Nat → Value)) (S : Nat → Prop) (J : Nat → World → Prop) (W V : World) (i : Nat) (r : Role) (o : Oper) (a : Act) : Prop :=
  match r with
  | .q => YieldsIn P ops (fun w' => ∃ x : Past V, w' = x.w) o (leftBy af o) a
  | .p => Region.wanted o (yielded ops a.tmps) = true ∧ ∀ w : World, (execOp a.eval o).run P w = .ok (.value ((cont i).2 w.heap.size)) (w.alloc (cont i).1)
  | .c j d => ∀ (V' : World) (g : Nat), Below V.heap.size V V' → V'.heap[g]? = some (cont j).1 → YieldsIn P ops (fun w' => ∃ x : Past V', w' = x.w) o (leftBy af o) (a.put (some d) ((cont j).2 g))
  | .e n => ∀ V' : World, Touch S W V' → J n V' → Region.wanted o (yielded ops a.tmps) = true ∧ ∃ f args, (execOp a.eval o).run P V' = .ok (.enter f args) V' ∧ Calls P f args V' (fun e w'' => e = .returned (leftBy af o) ∧ Touch S V' w'' ∧ J (n + 1) w'')
def AllInP (P : Program) (ops : Array Oper) (af : Act) (cont : Nat → Obj × (Nat → Value)) (S : Nat → Prop) (J : Nat → World → Prop) (W V : World) : Nat → List Role → List Oper → Act → Prop
  | _, [], [], a => a = af
  | i, r :: rs, o :: l, a => StepP P ops af cont S J W V i r o a ∧ AllInP P ops af cont S J W V (i + 1) rs l (a.put o.dst (leftBy af o))
  | _, _, _, _ => False
/-- the walk in the order of the text -/
def wpP (P : Program) (ops : Array Oper) (af : Act) (cont : Nat → Obj × (Nat → Value)) (S : Nat → Prop) (J : Nat → World → Prop) (W V : World) : Nat → List Role → List Oper → Act → Prop
  | _, [], [], a => a = af
  | i, .q :: rs, o :: l, a => wpQuiet P ops (fun w' => ∃ x : Past V, w' = x.w) (fun a' => wpP P ops af cont S J W V (i + 1) rs l a') [o] a
  | i, .p :: rs, o :: l, a => Region.wanted o (yielded ops a.tmps) = true ∧ (∀ w : World, (execOp a.eval o).run P w = .ok (.value ((cont i).2 w.heap.size)) (w.alloc (cont i).1)) ∧ wpP P ops af cont S J W V (i + 1) rs l (a.put o.dst undef)
  | i, .c j d :: rs, o :: l, a => ∃ u, (∀ (V' : World) (g : Nat), Below V.heap.size V V' → V'.heap[g]? = some (cont j).1 → wpQuiet P ops (fun w' => ∃ x : Past V', w' = x.w) (fun a' => slotTo a' o.dst = u) [o] (a.put (some d) ((cont j).2 g))) ∧ wpP P ops af cont S J W V (i + 1) rs l (a.put o.dst u)
  | i, .e n :: rs, o :: l, a => ∃ u, (∀ V' : World, Touch S W V' → J n V' → Region.wanted o (yielded ops a.tmps) = true ∧ ∃ f args, (execOp a.eval o).run P V' = .ok (.enter f args) V' ∧ Calls P f args V' (fun e w'' => e = .returned (u) ∧ Touch S V' w'' ∧ J (n + 1) w'')) ∧ wpP P ops af cont S J W V (i + 1) rs l (a.put o.dst u)
  | _, _, _, _ => False
theorem wpP_nil {i : Nat} {a : Act} (h : a = af) : wpP P ops af cont S J W V i [] [] a := h
theorem wpP_q {i : Nat} {rs : List Role} {o : Oper} {l : List Oper} {a : Act} (h : wpQuiet P ops (fun w' => ∃ x : Past V, w' = x.w) (fun a' => wpP P ops af cont S J W V (i + 1) rs l a') [o] a) : wpP P ops af cont S J W V i (.q :: rs) (o :: l) a := h
theorem wpP_p {i : Nat} {rs : List Role} {o : Oper} {l : List Oper} {a : Act} (hg : Region.wanted o (yielded ops a.tmps) = true) (h : ∀ w : World, (execOp a.eval o).run P w = .ok (.value ((cont i).2 w.heap.size)) (w.alloc (cont i).1)) (k : wpP P ops af cont S J W V (i + 1) rs l (a.put o.dst undef)) : wpP P ops af cont S J W V i (.p :: rs) (o :: l) a := ⟨hg, h, k⟩
theorem wpP_c {i j d : Nat} {rs : List Role} {o : Oper} {l : List Oper} {a : Act} (u : Value) (h : ∀ (V' : World) (g : Nat), Below V.heap.size V V' → V'.heap[g]? = some (cont j).1 → wpQuiet P ops (fun w' => ∃ x : Past V', w' = x.w) (fun a' => slotTo a' o.dst = u) [o] (a.put (some d) ((cont j).2 g))) (k : wpP P ops af cont S J W V (i + 1) rs l (a.put o.dst u)) : wpP P ops af cont S J W V i (.c j d :: rs) (o :: l) a := ⟨u, h, k⟩

theorem wpP_e {i n : Nat} {rs : List Role} {o : Oper} {l : List Oper} {a : Act} (u : Value) (h : ∀ V' : World, Touch S W V' → J n V' → Region.wanted o (yielded ops a.tmps) = true ∧ ∃ f args, (execOp a.eval o).run P V' = .ok (.enter f args) V' ∧ Calls P f args V' (fun e w'' => e = .returned (u) ∧ Touch S V' w'' ∧ J (n + 1) w'')) (k : wpP P ops af cont S J W V (i + 1) rs l (a.put o.dst u)) : wpP P ops af cont S J W V i (.e n :: rs) (o :: l) a := ⟨u, h, k⟩

theorem AllInP.keep : ∀ {i : Nat} {rs : List Role} {l : List Oper} {a : Act}, AllInP P ops af cont S J W V i rs l a → af.tmps.size = a.tmps.size ∧ af.defers = a.defers ∧ (∀ t, (∀ o ∈ l, o.dst ≠ some t) → slotOf af t = slotOf a t)
  | _, [], [], a, h => by
    have : a = af := h
    subst this
    exact ⟨rfl, rfl, fun _ _ => rfl⟩
  | _, [], _ :: _, _, h => h.elim
  | _, _ :: _, [], _, h => h.elim
  | i, r :: rs, o :: l, a, h => by
    obtain ⟨h1, h2, h3⟩ := AllInP.keep h.2
    refine ⟨by rw [h1, size_put], by rw [h2, defers_put], fun t ht => ?_⟩
    rw [h3 t (fun o' ho' => ht o' (by simp [ho'])), slot_put_ne _ (ht o (by simp))]
theorem allInP_of : ∀ {i : Nat} {rs : List Role} {l : List Oper} {a : Act}, dstsOk a.tmps.size l = true → wpP P ops af cont S J W V i rs l a → AllInP P ops af cont S J W V i rs l a
  | _, [], [], a, _, h => h
  | _, [], _ :: _, _, _, h => h.elim
  | _, .q :: _, [], _, _, h => h.elim
  | _, .p :: _, [], _, _, h => h.elim
  | _, .c _ _ :: _, [], _, _, h => h.elim
  | _, .e _ :: _, [], _, _, h => h.elim
  | i, r :: rs, o :: l, a, hd, h => by
    have hd' := hd
    simp only [dstsOk, Bool.and_eq_true] at hd'
    obtain ⟨hd1, hd2⟩ := hd'
    split at hd1
    rotate_left 1
    · cases hd1
    · rename_i d hod
      simp only [Bool.and_eq_true, decide_eq_true_eq, List.all_eq_true] at hd1
      have key : ∀ v : Value, wpP P ops af cont S J W V (i + 1) rs l (a.put o.dst v) → AllInP P ops af cont S J W V (i + 1) rs l (a.put o.dst v) ∧ leftBy af o = v := by
        intro v hr
        have hA := allInP_of (i := i + 1) (rs := rs) (l := l) (a := a.put o.dst v) (by rw [size_put]; exact hd2) hr
        refine ⟨hA, ?_⟩
        unfold leftBy
        rw [hod]
        have := hA.keep.2.2 d (fun o' ho' => by simpa using hd1.2 o' ho')
        simp only [this, hod]
        exact slot_put_same v hd1.1
      cases r with
      | q =>
        obtain ⟨v, hy, hr⟩ := yields_of_quiet (show wpQuiet P ops _ _ [o] a from h)
        obtain ⟨hA, he⟩ := key v hr
        exact ⟨show YieldsIn P ops _ o (leftBy af o) a by rw [he]; exact hy, by rw [he]; exact hA⟩
      | p =>
        obtain ⟨hg, hrun, hr⟩ := (show _ ∧ _ ∧ _ from h)
        obtain ⟨hA, he⟩ := key undef hr
        exact ⟨⟨hg, hrun⟩, by rw [he]; exact hA⟩
      | c j dd =>
        obtain ⟨u, hu, hr⟩ := (show ∃ u, _ ∧ _ from h)
        obtain ⟨hA, he⟩ := key u hr
        refine ⟨fun V' g hb hg => ?_, by rw [he]; exact hA⟩
        obtain ⟨v, hy, hv⟩ := yields_of_quiet (hu V' g hb hg)
        have : v = u := by
          rw [← hv, hod]
          exact (slot_put_same v (by rw [size_put]; exact hd1.1)).symm
        rw [he, ← this]
        exact hy
      | e n =>
        obtain ⟨u, hu, hr⟩ := (show ∃ u, _ ∧ _ from h)
        obtain ⟨hA, he⟩ := key u hr
        exact ⟨fun V' h1 h2 => by rw [he]; exact hu V' h1 h2, by rw [he]; exact hA⟩
theorem AllInP.get : ∀ {b : Nat} {rs : List Role} {l : List Oper} {a : Act} {i : Nat} {o : Oper} {r : Role}, AllInP P ops af cont S J W V b rs l a → l[i]? = some o → rs[i]? = some r → StepP P ops af cont S J W V (b + i) r o (accum af (l.take i) a)
  | _, [], [], _, _, _, _, _, hi, _ => by simp at hi
  | _, [], _ :: _, _, _, _, _, h, _, _ => h.elim
  | _, _ :: _, [], _, _, _, _, h, _, _ => h.elim
  | b, r :: rs, o :: l, a, 0, o', r', h, hi, hr => by
    have e1 : o = o' := by simpa using hi
    have e2 : r = r' := by simpa using hr
    subst e1; subst e2
    exact h.1
  | b, r :: rs, o :: l, a, i + 1, o', r', h, hi, hr => by
    have := AllInP.get (i := i) h.2 (by simpa using hi) (by simpa using hr)
    rw [show b + (i + 1) = b + 1 + i from by omega]
    simpa [accum] using this
/-- the frame behind the head, with the blocks that have been made -/
def fillP (cont : Nat → Obj × (Nat → Value)) (gs : Nat → Nat) : Nat → List Role → List Oper → Act → Act
  | i, .p :: rs, o :: l, a => fillP cont gs (i + 1) rs l (a.put o.dst ((cont i).2 (gs i)))
  | i, .q :: rs, _ :: l, a => fillP cont gs (i + 1) rs l a
  | i, .c _ _ :: rs, _ :: l, a => fillP cont gs (i + 1) rs l a
  | i, .e _ :: rs, _ :: l, a => fillP cont gs (i + 1) rs l a
  | _, [], _, a => a
  | _, _, [], a => a
theorem fillP_keep (gs : Nat → Nat) : ∀ (rs : List Role) (b : Nat) (l : List Oper) (a : Act), (fillP cont gs b rs l a).tmps.size = a.tmps.size ∧ (fillP cont gs b rs l a).defers = a.defers
  | [], _, _, _ => by unfold fillP; exact ⟨rfl, rfl⟩
  | .p :: rs, b, [], a => by unfold fillP; exact ⟨rfl, rfl⟩
  | .q :: rs, b, [], a => by unfold fillP; exact ⟨rfl, rfl⟩
  | .c _ _ :: rs, b, [], a => by unfold fillP; exact ⟨rfl, rfl⟩
  | .e _ :: rs, b, [], a => by unfold fillP; exact ⟨rfl, rfl⟩
  | .q :: rs, b, o :: l, a => by unfold fillP; exact fillP_keep gs rs (b + 1) l a
  | .c _ _ :: rs, b, o :: l, a => by unfold fillP; exact fillP_keep gs rs (b + 1) l a
  | .e _ :: rs, b, o :: l, a => by unfold fillP; exact fillP_keep gs rs (b + 1) l a
  | .p :: rs, b, o :: l, a => by
    unfold fillP
    obtain ⟨h1, h2⟩ := fillP_keep gs rs (b + 1) l (a.put o.dst ((cont b).2 (gs b)))
    exact ⟨by rw [h1, size_put], by rw [h2, defers_put]⟩
theorem fillP_ne (gs : Nat → Nat) : ∀ (rs : List Role) (b : Nat) (l : List Oper) (a : Act) (t : Tmp), (∀ (i : Nat) (o : Oper), l[i]? = some o → rs[i]? = some Role.p → o.dst ≠ some t) → slotOf (fillP cont gs b rs l a) t = slotOf a t
  | [], _, _, _, _, _ => by unfold fillP; rfl
  | .p :: rs, b, [], a, _, _ => by unfold fillP; rfl
  | .q :: rs, b, [], a, _, _ => by unfold fillP; rfl
  | .c _ _ :: rs, b, [], a, _, _ => by unfold fillP; rfl
  | .e _ :: rs, b, [], a, _, _ => by unfold fillP; rfl
  | .q :: rs, b, o :: l, a, t, h => by
    unfold fillP
    exact fillP_ne gs rs (b + 1) l a t (fun i o ho hr => h (i + 1) o (by simpa using ho) (by simpa using hr))
  | .c _ _ :: rs, b, o :: l, a, t, h => by
    unfold fillP
    exact fillP_ne gs rs (b + 1) l a t (fun i o ho hr => h (i + 1) o (by simpa using ho) (by simpa using hr))
  | .e _ :: rs, b, o :: l, a, t, h => by
    unfold fillP
    exact fillP_ne gs rs (b + 1) l a t (fun i o ho hr => h (i + 1) o (by simpa using ho) (by simpa using hr))
  | .p :: rs, b, o :: l, a, t, h => by
    unfold fillP
    rw [fillP_ne gs rs (b + 1) l _ t (fun i o ho hr => h (i + 1) o (by simpa using ho) (by simpa using hr))]
    exact slot_put_ne _ (h 0 o (by simp) (by simp))
theorem fillP_at (gs : Nat → Nat) : ∀ (rs : List Role) (b : Nat) (l : List Oper) (a : Act) (n i : Nat) (o : Oper) (t : Tmp), dstsOk n l = true → n = a.tmps.size → l[i]? = some o → rs[i]? = some Role.p → o.dst = some t → slotOf (fillP cont gs b rs l a) t = (cont (b + i)).2 (gs (b + i))
  | [], _, _, _, _, _, _, _, _, _, _, hr, _ => by simp at hr
  | _ :: rs, b, [], a, _, _, _, _, _, _, ho, _, _ => by simp at ho
  | .q :: rs, b, o :: l, a, n, 0, o', t, hd, hn, ho, hr, ht => by simp at hr
  | .c _ _ :: rs, b, o :: l, a, n, 0, o', t, hd, hn, ho, hr, ht => by simp at hr
  | .e _ :: rs, b, o :: l, a, n, 0, o', t, hd, hn, ho, hr, ht => by simp at hr
  | .p :: rs, b, o :: l, a, n, 0, o', t, hd, hn, ho, hr, ht => by
    have e : o = o' := by simpa using ho
    subst e
    unfold fillP
    simp only [dstsOk, Bool.and_eq_true] at hd
    have h1 := hd.1
    rw [ht] at h1
    simp only [Bool.and_eq_true, decide_eq_true_eq, List.all_eq_true] at h1
    rw [fillP_ne gs rs (b + 1) l _ t (fun i o' ho' _ => by simpa using h1.2 o' (List.mem_of_getElem? ho')), ht]
    exact slot_put_same _ (by rw [← hn]; exact h1.1)
  | r :: rs, b, o :: l, a, n, i + 1, o', t, hd, hn, ho, hr, ht => by
    simp only [dstsOk, Bool.and_eq_true] at hd
    have key : ∀ a' : Act, a'.tmps.size = n → slotOf (fillP cont gs (b + 1) rs l a') t = (cont (b + (i + 1))).2 (gs (b + (i + 1))) := by
      intro a' ha'
      have := fillP_at gs rs (b + 1) l a' n i o' t hd.2 ha'.symm (by simpa using ho) (by simpa using hr) ht
      rw [this, show b + 1 + i = b + (i + 1) from by omega]
    cases r <;> unfold fillP
    · exact key _ hn.symm
    · exact key _ (by rw [size_put]; exact hn.symm)
    · exact key _ hn.symm
    · exact key _ hn.symm
end

structure MidP (P : Program) (ops : Array Oper) (k : Nat) (rs : List Role) (cont : Nat → Obj × (Nat → Value)) (S : Nat → Prop) (J : Nat → World → Prop) (effs : List Nat) (a0 af : Act) (W : World) (n : Nat) (gs : Nat → Nat) (listed : Array Bool) (a : Act) (w : World) : Prop where
  size : listed.size = ops.size
  closed : ∀ j oj, ops[j]? = some oj → listed.getD j false = true → ∀ e ∈ oj.after, Region.binds .any e = true → listed.getD e.on false = true
  tail : ∀ t, k ≤ t → t < ops.size → listed.getD t true = false
  ahd : Touch S W w
  nle : n ≤ effs.length
  cnt : ∀ q i, effs[q]? = some i → (listed.getD i false = true ↔ q < n)
  jn : J n w
  defers : a.defers = a0.defers
  tsize : a.tmps.size = a0.tmps.size
  put : ∀ j o t, j < k → ops[j]? = some o → o.dst = some t → listed.getD j false = true → rs[j]? ≠ some Role.p → slotOf a t = slotOf af t
  same : ∀ t, (∀ j o, j < k → ops[j]? = some o → listed.getD j false = true → o.dst ≠ some t) → slotOf a t = slotOf a0 t
  spec : ∀ j o t, j < k → ops[j]? = some o → o.dst = some t → listed.getD j false = true → rs[j]? = some Role.p → slotOf a t = (cont j).2 (gs j) ∧ W.heap.size ≤ gs j ∧ w.heap[gs j]? = some (cont j).1
  apart : ∀ j j', j < k → j' < k → j ≠ j' → listed.getD j false = true → listed.getD j' false = true → rs[j]? = some Role.p → rs[j']? = some Role.p → gs j ≠ gs j'

def priveB (ops : Array Oper) (k n : Nat) (rs : List Role) (lz effs : List Nat) : Bool :=
  Region.noSelect ops && decide (k ≤ ops.size) && dstsOk n (ops.toList.take k) &&
  (List.range ops.size).all (fun i => match ops[i]? with | some o => o.after.all (fun e => !Region.binds .any e || decide (e.on < i)) | none => false) &&
  (List.range ops.size).all (fun t => decide (t < k) || (List.range k).all (fun i => lz.contains i || (coverB ops ops.size (depsB ops t (List.replicate ops.size false))).getD i false)) &&
  (List.range k).all (fun i => (List.range k).all fun j => match ops[i]?, ops[j]? with
    | some oi, some oj => (match oj.dst with | some d => !(oi.looksAt ops).contains d || (decide (j < i) && waitsB1 .any ops i j) | none => false)
    | _, _ => false) &&
  Region.seqB .any ops (ops.size - k) k (Array.replicate k true ++ Array.replicate (ops.size - k) false) &&
  decide (rs.length = k) &&
  (List.range k).all (fun i => (List.range k).all fun j => match ops[i]?, ops[j]?, rs[i]?, rs[j]? with
    | some oi, some oj, some ri, some rj => !rj.isP || (match oj.dst with | some d => !(oi.looksAt ops).contains d || ri.eats j d | none => false)
    | _, _, _, _ => false) &&
  (List.range k).all (fun i => match ops[i]?, rs[i]? with
    | some oi, some (.c j d) => decide (j < k) && (match ops[j]?, rs[j]? with | some oj, some rj => rj.isP && (oj.dst == some d) | _, _ => false) && (oi.looksAt ops).contains d
    | _, _ => true) &&
  (List.range ops.size).all (fun i => !lz.contains i || (decide (i < k) && (match ops[i]?, rs[i]? with
    | some oi, some .q => isExtract oi && (List.range ops.size).all (fun j => j == i || (decide (j < k) && !lz.contains j) || (match ops[j]? with | some oj => oj.after.any (fun e => Region.binds .any e && e.on == i) || oi.apart ops oj | none => true))
    | _, _ => false))) &&
  lz.all (fun i => decide (i < ops.size)) &&
  (List.range k).all (fun i => match rs[i]? with
    | some (.e p) => effs[p]? == some i && (List.range p).all (fun q => match effs[q]? with | some j => waitsB1 .any ops i j | none => false)
    | _ => true) &&
  (List.range effs.length).all (fun q => match effs[q]? with
    | some i => decide (i < k) && (match rs[i]? with | some (.e p) => p == q | _ => false)
    | none => false)

section
variable {P : Program} {Q : Exit → Act → World → Prop} {W : World} {a0 af : Act} {l : List Oper} {k : Nat} {rs : List Role} {cont : Nat → Obj × (Nat → Value)}
theorem wp_region_eff {id : Nat} (k : Nat) (lz effs : List Nat) (rs : List Role) (cont : Nat → Obj × (Nat → Value)) (S : Nat → Prop) (J : Nat → World → Prop) (hS : ∀ b, S b → b < W.heap.size) (hJ0 : J 0 W.drew) (hJb : ∀ n V V', J n V → Below V.heap.size V V' → J n V') (af : Act) (hm : P.follows .mixedOrders = true)
    (hB : priveB l.toArray k a0.tmps.size rs lz effs = true) (hQ : ∀ c a w d v, Q (.panic c) (Act.put a (some d) v) w → Q (.panic c) a w)
    (hwalk : ∀ V : World, Touch S W V → wpP P l.toArray af cont S J W V 0 rs (l.take k) a0)
    (htail : ∀ (gs : Nat → Nat) (w' : World), Touch S W w' → J effs.length w' → (∀ j : Nat, rs[j]? = some Role.p → W.heap.size ≤ gs j ∧ w'.heap[gs j]? = some (cont j).1) → (∀ j j' : Nat, rs[j]? = some Role.p → rs[j']? = some Role.p → j ≠ j' → gs j ≠ gs j') → wpList P l.toArray Q (l.drop k) (fillP cont gs 0 rs (l.take k) af) w') :
    (Code.region id l.toArray true).wp P Q a0 W := by
  unfold priveB at hB
  simp only [Bool.and_eq_true, decide_eq_true_eq] at hB
  obtain ⟨⟨⟨⟨⟨⟨⟨⟨⟨⟨⟨⟨⟨hsel, hks⟩, hdst⟩, hback⟩, htl⟩, hdep⟩, hseq⟩, hrl⟩, hpc⟩, hcc⟩, hlz⟩, hlzs⟩, hef1⟩, hef2⟩ := hB
  have hbig : ∀ i, l.toArray.size ≤ i → i ∉ lz := fun i hi hm => by
    have := List.all_eq_true.1 hlzs i hm
    simp only [decide_eq_true_eq] at this
    omega
  simp only [List.all_eq_true, List.mem_range, Bool.or_eq_true, decide_eq_true_eq] at hback htl hdep hpc hcc hef1 hef2
  rw [List.all_eq_true] at hlz
  have hlazy : ∀ i, i ∈ lz → i < k ∧ rs[i]? = some .q ∧ ∀ o, l[i]? = some o → isExtract o = true ∧ ∀ j oj, l[j]? = some oj → j ≠ i → ¬ (j < k ∧ j ∉ lz) → (∀ e ∈ oj.after, Region.binds .any e = true → e.on ≠ i) → o.apart l.toArray oj = true := by
    intro i hi
    have hil : i < l.toArray.size := by
      rcases Nat.lt_or_ge i l.toArray.size with h | h
      · exact h
      · exact absurd hi (hbig i h)
    have h1 := hlz i (List.mem_range.2 hil)
    rw [show lz.contains i = true from by simpa using hi] at h1
    simp only [Bool.not_true, Bool.false_or, Bool.and_eq_true, decide_eq_true_eq] at h1
    obtain ⟨hik, h2⟩ := h1
    have hoi : l.toArray[i]? = some (l.toArray[i]) := by simp
    rw [hoi] at h2
    split at h2
    · rename_i oi ri heq hr
      cases heq
      refine ⟨hik, hr, fun o ho => ?_⟩
      have hoo : l.toArray[i] = o := by
        have : l.toArray[i]? = some o := by simpa using ho
        rw [hoi] at this
        exact Option.some.inj this
      rw [hoo] at h2
      simp only [Bool.and_eq_true] at h2
      refine ⟨h2.1, fun j oj hoj hne hnd hno => ?_⟩
      have hjl : j < l.toArray.size := by
        have := (List.getElem?_eq_some_iff.1 hoj).1
        simpa using this
      have h3 := List.all_eq_true.1 h2.2 j (List.mem_range.2 hjl)
      have hoj' : l.toArray[j]? = some oj := by simpa using hoj
      rw [hoj'] at h3
      simp only [Bool.or_eq_true, beq_iff_eq, Bool.and_eq_true, decide_eq_true_eq, Bool.not_eq_true', List.contains_eq_mem, decide_eq_false_iff_not] at h3
      rcases h3 with (h3 | h3) | h3 | h3
      · exact absurd h3 hne
      · exact absurd h3 hnd
      · obtain ⟨e, he, hb⟩ := Array.any_eq_true'.1 h3
        simp only [Bool.and_eq_true, beq_iff_eq] at hb
        exact absurd hb.2 (hno e he hb.1)
      · exact h3
    · cases h2
  have hsz : l.toArray.size = l.length := by simp
  have hkl : k ≤ l.length := by rw [← hsz]; exact hks
  have hdk : dstsOk a0.tmps.size (l.take k) = true := hdst
  have hall : ∀ V : World, Touch S W V → AllInP P l.toArray af cont S J W V 0 rs (l.take k) a0 := fun V hV => allInP_of hdk (hwalk V hV)
  have hA0 := hall W (Touch.refl _ _)
  have hget : ∀ i, i < k → (l.take k)[i]? = l[i]? := fun i hi => by rw [List.getElem?_take]; simp [hi]
  have hrole : ∀ i, i < k → ∃ r, rs[i]? = some r := fun i hi => ⟨rs[i]'(by omega), by simp [hrl, hi]⟩
  have hafs : ∀ t, (∀ j o, j < k → l[j]? = some o → o.dst ≠ some t) → slotOf af t = slotOf a0 t := fun t ht => hA0.keep.2.2 t (fun o ho => by
    obtain ⟨j, hj⟩ := List.getElem?_of_mem ho
    rw [List.getElem?_take] at hj
    split at hj
    · exact ht j o (by assumption) hj
    · cases hj)
  have hback' : ∀ i o, l[i]? = some o → ∀ e ∈ o.after, Region.binds .any e = true → e.on < i := by
    intro i o hi e he hb
    have hil : i < l.length := (List.getElem?_eq_some_iff.1 hi).1
    have h1 := hback i (by rw [hsz]; exact hil)
    have hi' : l.toArray[i]? = some o := by simpa using hi
    rw [hi'] at h1
    have h2 := Array.all_eq_true_iff_forall_mem.1 h1 e he
    simpa [hb] using h2
  have hdep' : ∀ i o j oj d, i < k → l[i]? = some o → j < k → l[j]? = some oj → oj.dst = some d → d ∈ o.looksAt l.toArray → j < i ∧ waitsB1 .any l.toArray i j = true := by
    intro i o j oj d hi ho hj hoj hd hmem
    have h1 := hdep i hi j (by omega)
    have ho' : l.toArray[i]? = some o := by simpa using ho
    have hoj' : l.toArray[j]? = some oj := by simpa using hoj
    rw [ho', hoj'] at h1
    simp only [hd] at h1
    have hc : (o.looksAt l.toArray).contains d = true := by simpa using hmem
    rw [hc] at h1
    simpa using h1
  have hefr : ∀ q i, effs[q]? = some i → i < k ∧ rs[i]? = some (.e q) := by
    intro q i hq
    have hql : q < effs.length := (List.getElem?_eq_some_iff.1 hq).1
    have h1 := hef2 q hql
    rw [hq] at h1
    simp only [Bool.and_eq_true, decide_eq_true_eq] at h1
    refine ⟨h1.1, ?_⟩
    have h2 := h1.2
    split at h2
    · rename_i p hp
      rw [hp, (by simpa using h2 : p = q)]
    · cases h2
  have hefe : ∀ i p, i < k → rs[i]? = some (.e p) → effs[p]? = some i ∧ ∀ q j, q < p → effs[q]? = some j → waitsB1 .any l.toArray i j = true := by
    intro i p hi hp
    have h1 := hef1 i hi
    rw [hp] at h1
    simp only [Bool.and_eq_true, beq_iff_eq, List.all_eq_true, List.mem_range] at h1
    refine ⟨h1.1, fun q j hq hj => ?_⟩
    have h2 := h1.2 q hq
    rw [hj] at h2
    exact h2
  have heat : ∀ i o j oj d r, i < k → l[i]? = some o → j < k → l[j]? = some oj → oj.dst = some d → d ∈ o.looksAt l.toArray → rs[j]? = some Role.p → rs[i]? = some r → r.eats j d = true := by
    intro i o j oj d r hi ho hj hoj hd hmem hrj hri
    have h1 := hpc i hi j hj
    have ho' : l.toArray[i]? = some o := by simpa using ho
    have hoj' : l.toArray[j]? = some oj := by simpa using hoj
    rw [ho', hoj', hri, hrj] at h1
    simp only [hd] at h1
    have hc : (o.looksAt l.toArray).contains d = true := by simpa using hmem
    rw [hc] at h1
    simpa [Role.isP] using h1
  have hfood : ∀ i o j d, i < k → l[i]? = some o → rs[i]? = some (.c j d) → j < k ∧ rs[j]? = some Role.p ∧ (∃ oj, l[j]? = some oj ∧ oj.dst = some d) ∧ d ∈ o.looksAt l.toArray := by
    intro i o j d hi ho hri
    have h1 := hcc i hi
    have ho' : l.toArray[i]? = some o := by simpa using ho
    rw [ho', hri] at h1
    simp only [Bool.and_eq_true, decide_eq_true_eq] at h1
    obtain ⟨⟨hjk, h2⟩, h3⟩ := h1
    obtain ⟨rj, hrj⟩ := hrole j hjk
    have hoj : l[j]? = some (l[j]'(by omega)) := by simp
    have hoj' : l.toArray[j]? = some (l[j]'(by omega)) := by simp
    rw [hoj', hrj] at h2
    simp only [Bool.and_eq_true, beq_iff_eq] at h2
    refine ⟨hjk, ?_, ⟨_, hoj, h2.2⟩, by simpa using h3⟩
    cases rj with
    | p => exact hrj
    | q => cases h2.1
    | c _ _ => cases h2.1
    | e _ => cases h2.1
  have dlt : ∀ i o, i < k → l[i]? = some o → ∃ d, o.dst = some d ∧ d < a0.tmps.size := fun i o hi ho => dsts_lt _ _ i o hdk (by rw [hget i (by omega)]; exact ho)
  have dne : ∀ i j o oj t, i < k → j < k → l[i]? = some o → l[j]? = some oj → i ≠ j → oj.dst = some t → o.dst ≠ some t := fun i j o oj t hi hj ho hoj hne hd => dsts_ne _ _ j i oj o t hdk (by rw [hget j (by omega)]; exact hoj) (by rw [hget i (by omega)]; exact ho) (Ne.symm hne) hd
  have fin : ∀ (n : Nat) (gs : Nat → Nat) (listed : Array Bool) (a : Act) (w : World), MidP P l.toArray k rs cont S J effs a0 af W n gs listed a w → (∀ i, i < k → listed.getD i false = true) → ∀ fuel, unl listed = fuel → wpAny P .any l.toArray Q fuel listed a w := by
    intro n gs listed a w m hdone fuel hu
    have hLH : listed = Array.replicate k true ++ Array.replicate (l.toArray.size - k) false := by
      apply Array.ext
      · simp [m.size]; omega
      · intro i h1 h2
        rcases Nat.lt_or_ge i k with h' | h
        rotate_left 1
        · have := m.tail i h (by rw [← m.size]; exact h1)
          rw [Array.getElem_append_right (by simp; omega)]
          simpa [h1] using this
        · have := hdone i h'
          rw [Array.getElem_append_left (by simp; omega)]
          simpa [h1] using this
    have hae : a = fillP cont gs 0 rs (l.take k) af := by
      have hs0 := hA0.keep
      have hf0 := fillP_keep (cont := cont) gs rs 0 (l.take k) af
      refine act_ext ?_ ?_ ?_
      · rw [m.tsize, hf0.1, hs0.1]
      · rw [m.defers, hf0.2, hs0.2.1]
      · intro t
        by_cases hex : ∃ j o, j < k ∧ l[j]? = some o ∧ o.dst = some t
        · obtain ⟨j, o, hj, ho, hd⟩ := hex
          by_cases hp : rs[j]? = some Role.p
          · rw [(m.spec j o t hj (by simpa using ho) hd (hdone j hj) hp).1]
            have := fillP_at (cont := cont) gs rs 0 (l.take k) af a0.tmps.size j o t hdk hs0.1.symm (by rw [hget j hj]; exact ho) hp hd
            rw [this, Nat.zero_add]
          · rw [m.put j o t hj (by simpa using ho) hd (hdone j hj) hp]
            rw [fillP_ne gs rs 0 (l.take k) af t (fun i o' ho' hr' => ?_)]
            have hik : i < k := by
              have := (List.getElem?_eq_some_iff.1 ho').1
              simp at this
              omega
            by_cases hij : i = j
            · subst hij; exact absurd hr' hp
            · exact dne i j o' o t hik hj (by rw [← hget i hik]; exact ho') ho hij hd
        · rw [m.same t (fun j o hj ho _ hd => hex ⟨j, o, hj, by simpa using ho, hd⟩)]
          rw [fillP_ne gs rs 0 (l.take k) af t (fun i o' ho' hr' hd => hex ⟨i, o', by have := (List.getElem?_eq_some_iff.1 ho').1; simp at this; omega, by rw [← hget i (by have := (List.getElem?_eq_some_iff.1 ho').1; simp at this; omega)]; exact ho', hd⟩)]
          exact (hafs t (fun j o hj ho hd => hex ⟨j, o, hj, ho, hd⟩)).symm
    have hfu : fuel = (l.drop k).length := by
      rw [← hu, hLH, unl_done]
      simp
    rw [hfu, hae]
    have hpk : ∀ j, rs[j]? = some Role.p → j < k := fun j hj => by
      have := (List.getElem?_eq_some_iff.1 hj).1
      omega
    have hnl : n = effs.length := by
      rcases Nat.lt_or_ge n effs.length with h | h
      · have hq : effs[n]? = some (effs[n]'h) := by simp
        have := (m.cnt n _ hq).1 (hdone _ (hefr n _ hq).1)
        omega
      · exact Nat.le_antisymm m.nle h
    refine wpAny_of_seq (l.drop k) k listed _ w (fun j => by simp [List.getElem?_drop]) ?_ (htail gs w m.ahd (by rw [← hnl]; exact m.jn) (fun j hj => ?_) (fun j j' hj hj' hne => m.apart j j' (hpk j hj) (hpk j' hj') hne (hdone j (hpk j hj)) (hdone j' (hpk j' hj')) hj hj'))
    · rw [hLH]
      have : (l.drop k).length = l.toArray.size - k := by simp
      rw [this]
      exact hseq
    · have hjk := hpk j hj
      have hoj : l[j]? = some (l[j]'(by omega)) := by simp
      obtain ⟨d, hd, _⟩ := dlt j _ hjk hoj
      exact (m.spec j _ d hjk (by simp) hd (hdone j hjk) hj).2
  have stepq : ∀ (n : Nat) (gs : Nat → Nat) (listed : Array Bool) (a : Act) (w : World) (i : Nat) (o : Oper), MidP P l.toArray k rs cont S J effs a0 af W n gs listed a w → i ∈ Region.ready .any l.toArray listed → i < k → l[i]? = some o → rs[i]? ≠ some Role.p → (∀ p, rs[i]? ≠ some (Role.e p)) → ∀ x : Past w,
      MidP P l.toArray k rs cont S J effs a0 af W n gs (listed.setIfInBounds i true) (a.put o.dst (leftBy af o)) x.w := by
    intro n gs listed a w i o m hi hik hol hnp hnE x
    obtain ⟨hun, o', ho, hw⟩ := mem_ready.1 hi
    have hoo : o' = o := by
      have : l.toArray[i]? = some o := by simpa using hol
      rw [ho] at this
      exact Option.some.inj this
    subst hoo
    have hil : i < l.length := (List.getElem?_eq_some_iff.1 hol).1
    obtain ⟨d, hod, hdlt⟩ := dlt i o' hik hol
    have hset : (listed.setIfInBounds i true).getD i false = true := by
      have : i < listed.size := by rw [m.size]; simpa using hil
      simp [this]
    refine ⟨by simp [m.size], ?_, fun t ht ht' => by rw [getD_set_ne true (by omega)]; exact m.tail t ht ht', m.ahd.below x.far, m.nle, fun q j hq => by rw [getD_set_ne false (fun e => hnE q (by rw [e]; exact (hefr q j hq).2))]; exact m.cnt q j hq, hJb n _ _ m.jn x.far, by rw [defers_put]; exact m.defers, by rw [size_put]; exact m.tsize, ?_, ?_, ?_, ?_⟩
    · intro j oj hj hl e he hb
      by_cases hji : i = j
      · subst hji
        rw [ho] at hj
        cases hj
        exact getD_set_true (hw e he hb)
      · rw [getD_set_ne false hji] at hl
        exact getD_set_true (m.closed j oj hj hl e he hb)
    · intro j oj t hj hoj hdt hl hrj
      by_cases hji : i = j
      · subst hji
        rw [ho] at hoj
        cases hoj
        have : leftBy af o' = slotOf af t := by simp [leftBy, hdt]
        rw [hdt, this]
        rw [hod] at hdt
        cases hdt
        exact slot_put_same _ (by rw [m.tsize]; exact hdlt)
      · rw [getD_set_ne false hji] at hl
        rw [slot_put_ne _ (dne i j o' oj t hik hj hol (by simpa using hoj) hji hdt)]
        exact m.put j oj t hj hoj hdt hl hrj
    · intro t hno
      rw [slot_put_ne _ (hno i o' hik ho hset)]
      exact m.same t (fun j oj hj hoj hl => hno j oj hj hoj (getD_set_true hl))
    · intro j oj t hj hoj hdt hl hrj
      have hji : i ≠ j := fun e => hnp (by rw [e]; exact hrj)
      rw [getD_set_ne false hji] at hl
      obtain ⟨h1, h2, h3⟩ := m.spec j oj t hj hoj hdt hl hrj
      refine ⟨by rw [slot_put_ne _ (dne i j o' oj t hik hj hol (by simpa using hoj) hji hdt)]; exact h1, h2, ?_⟩
      rw [x.far.block _ (Array.getElem?_eq_some_iff.1 h3).1]
      exact h3
    · intro j j' hj hj' hne hl hl' hrj hrj'
      have hji : i ≠ j := fun e => hnp (by rw [e]; exact hrj)
      have hji' : i ≠ j' := fun e => hnp (by rw [e]; exact hrj')
      rw [getD_set_ne false hji] at hl
      rw [getD_set_ne false hji'] at hl'
      exact m.apart j j' hj hj' hne hl hl' hrj hrj'
  -- what a reading operation looks at
  have lookq : ∀ (n : Nat) (gs : Nat → Nat) (listed : Array Bool) (a : Act) (w : World) (i : Nat) (o : Oper), MidP P l.toArray k rs cont S J effs a0 af W n gs listed a w → i ∈ Region.ready .any l.toArray listed → i < k → l[i]? = some o → ∀ t ∈ o.looksAt l.toArray, (∀ j oj, j < k → l[j]? = some oj → oj.dst = some t → rs[j]? = some Role.p → False) → slotOf a t = slotOf (accum af ((l.take k).take i) a0) t := by
    intro n gs listed a w i o m hi hik hol t ht hnp
    obtain ⟨hun, o', ho, hw⟩ := mem_ready.1 hi
    have hoo : o' = o := by
      have : l.toArray[i]? = some o := by simpa using hol
      rw [ho] at this
      exact Option.some.inj this
    subst hoo
    rw [accum_slot _ _ _ (dstsOk_take _ _ _ hdk)]
    by_cases hex : ∃ j oj, j < k ∧ l[j]? = some oj ∧ oj.dst = some t
    · obtain ⟨j, oj, hj, hoj, hdt⟩ := hex
      obtain ⟨hji, hwt⟩ := hdep' i o' j oj t hik hol hj hoj hdt ht
      obtain ⟨e, he, hb, heo⟩ := waitsB1_spec ho hwt
      have hlj := hw e he hb
      rw [heo] at hlj
      rw [m.put j oj t (by omega) (by simpa using hoj) hdt hlj (fun h => hnp j oj hj hoj hdt h), if_pos]
      rw [List.any_eq_true]
      refine ⟨oj, ?_, by simp [hdt]⟩
      refine List.mem_of_getElem? (i := j) ?_
      rw [List.getElem?_take, List.getElem?_take]
      simp only [hji, show j < k by omega, if_true, hoj]
    · rw [m.same t (fun j oj hj hoj _ hdt => hex ⟨j, oj, by omega, by simpa using hoj, hdt⟩), if_neg]
      intro hany
      rw [List.any_eq_true] at hany
      obtain ⟨oj, hmem, hdt⟩ := hany
      obtain ⟨j, hj⟩ := List.getElem?_of_mem (List.mem_of_mem_take hmem)
      rw [List.getElem?_take] at hj
      split at hj
      · exact hex ⟨j, oj, by omega, hj, by simpa using hdt⟩
      · cases hj
  have finz : ∀ (fuel : Nat) (n : Nat) (gs : Nat → Nat) (listed : Array Bool) (a : Act) (w : World), MidP P l.toArray k rs cont S J effs a0 af W n gs listed a w → (∀ i, i < k → i ∉ lz → listed.getD i false = true) → unl listed = fuel → wpAny P .any l.toArray Q fuel listed a w := by
    intro fuel
    induction fuel with
    | zero =>
      intro n gs listed a w m hnz hu
      by_cases hdone : ∀ i, i < k → listed.getD i false = true
      · exact fin n gs listed a w m hdone _ hu
      · obtain ⟨i, hi, _, hun⟩ := first_no' listed k hdone
        have := unl_set (listed := listed) (i := i) (by rw [m.size]; omega) (by rw [getD_tf (by rw [m.size]; omega)]; exact hun)
        omega
    | succ fuel ih =>
      intro n gs listed a w m hnz hu
      by_cases hdone : ∀ i, i < k → listed.getD i false = true
      · exact fin n gs listed a w m hdone _ hu
      · obtain ⟨i, hi, hpre, hun⟩ := first_no' listed k hdone
        have hiz : i ∈ lz := by
          by_cases h : i ∈ lz
          · exact h
          · rw [hnz i hi h] at hun; cases hun
        obtain ⟨_, hrq, hz⟩ := hlazy i hiz
        have hol : l[i]? = some (l[i]'(by omega)) := by simp
        generalize l[i]'(by omega) = o at hol
        obtain ⟨hex, hap⟩ := hz o hol
        have ho : l.toArray[i]? = some o := by simpa using hol
        have hready : i ∈ Region.ready .any l.toArray listed := by
          rw [mem_ready]
          exact ⟨by rw [getD_tf (by rw [m.size]; omega)]; exact hun, o, ho, fun e he hb => hpre _ (hback' i o hol e he hb)⟩
        have hl : ∀ t ∈ o.looksAt l.toArray, slotOf a t = slotOf (accum af ((l.take k).take i) a0) t := fun t ht => lookq n gs listed a w i o m hready hi hol t ht (fun j oj hj hoj hdt hrj => by
          have := heat i o j oj t _ hi hol hj hoj hdt ht hrj hrq
          cases this)
        have hstep := (hall w m.ahd).get (i := i) (o := o) (r := .q) (by rw [hget i hi]; exact hol) hrq
        have exec : execOp a.eval o = execOp (accum af ((l.take k).take i) a0).eval o := execOp_congr o (fun cs b => Region.noSelect_spec hsel i o cs b ho) (fun x hx => by
          cases x with
          | tmp t => exact hl t (List.mem_append_left _ (List.mem_filterMap.2 ⟨.tmp t, by simpa using hx, rfl⟩))
          | _ => rfl)
        have hy := extract_yields hex (YieldsIn.of_same (show YieldsIn P l.toArray _ o (leftBy af o) _ from hstep) exec (wanted_congr hl))
        obtain ⟨d, hod, _⟩ := dlt i o hi hol
        refine wpAny_first (i := i) (oi := o) (v := leftBy af o) ho (Region.noSelect_spec hsel) (fun c a w h => hQ c a w d _ (by rw [hod] at h; exact h)) fuel listed a w ?_ hready hy ?_
        · intro j oj hj hne hunj hno
          refine hap j oj (by simpa using hj) hne (fun hnd => ?_) hno
          have h1 := hnz j hnd.1 hnd.2
          rw [getD_tf (by rw [m.size]; omega), h1] at hunj
          cases hunj
        · have m' := stepq n gs listed a w i o m hready hi hol (by rw [hrq]; simp) (by rw [hrq]; simp) ⟨w, Below.refl _ _⟩
          refine ih n gs _ _ _ m' (fun j hj hjz => getD_set_true (hnz j hj hjz)) ?_
          have := unl_set (listed := listed) (i := i) (by rw [m.size]; omega) (by rw [getD_tf (by rw [m.size]; omega)]; exact hun)
          omega
  have main : ∀ (fuel : Nat) (n : Nat) (gs : Nat → Nat) (listed : Array Bool) (a : Act) (w : World), MidP P l.toArray k rs cont S J effs a0 af W n gs listed a w → unl listed = fuel → wpAny P .any l.toArray Q fuel listed a w := by
    intro fuel
    induction fuel with
    | zero =>
      intro n gs listed a w m hu
      by_cases hdone : ∀ i, i < k → listed.getD i false = true
      · exact fin n gs listed a w m hdone _ hu
      · obtain ⟨i, hi, _, hun⟩ := first_no' listed k hdone
        have := unl_set (listed := listed) (i := i) (by rw [m.size]; omega) (by rw [getD_tf (by rw [m.size]; omega)]; exact hun)
        omega
    | succ fuel ih =>
      intro n gs listed a w m hu
      by_cases hdone : ∀ i, i < k → i ∉ lz → listed.getD i false = true
      · exact finz _ n gs listed a w m hdone hu
      · have hdone0 : ∃ i1, i1 < k ∧ i1 ∉ lz ∧ listed.getD i1 false = false := by
          refine Classical.byContradiction fun hno => hdone (fun i hi hz => ?_)
          cases hc : listed.getD i false
          · exact absurd ⟨i, hi, hz, hc⟩ hno
          · rfl
        obtain ⟨i1, hi1, hz1, hun1⟩ := hdone0
        obtain ⟨i0, hi0, hpre, hun0⟩ := first_no' listed k (fun h => by rw [h i1 hi1] at hun1; cases hun1)
        refine ⟨fun h0 => ?_, fun i hi => ?_⟩
        · have hr : i0 ∈ Region.ready .any l.toArray listed := by
            rw [mem_ready]
            refine ⟨by rw [getD_tf (by rw [m.size]; omega)]; exact hun0, l[i0]'(by omega), by simp, fun e he hb => hpre _ ?_⟩
            exact hback' i0 _ (by simp) e he hb
          rw [h0] at hr
          cases hr
        · have hi' := hi
          obtain ⟨hun, o, ho, hw⟩ := mem_ready.1 hi
          have hil : i < l.length := by
            have := (Array.getElem?_eq_some_iff.1 ho).1
            simpa using this
          have hol : l[i]? = some o := by simpa using ho
          have hun' : unl (listed.setIfInBounds i true) = fuel := by
            have := unl_set (listed := listed) (i := i) (by rw [m.size]; omega) hun
            omega
          have hik : i < k := by
            rcases Nat.lt_or_ge i k with h | h
            rotate_left 1
            · have h1 := ((htl i (by omega)).resolve_left (by omega) i1 hi1).resolve_left (by simpa using hz1)
              have h3 := cover_listed (ops := l.toArray) m.closed l.toArray.size _ (fun j hj => ?_) i1 h1
              · rw [hun1] at h3
                cases h3
              · unfold depsB at hj
                rw [ho] at hj
                refine deps_listed _ _ (fun e he hb => hw e (by simpa using he) hb) (fun q hq => ?_) j hj
                rw [List.getD_eq_getElem?_getD, List.getElem?_replicate] at hq
                split at hq <;> cases hq
            · exact h
          have hclosed : ∀ j oj, l.toArray[j]? = some oj → (listed.setIfInBounds i true).getD j false = true → ∀ e ∈ oj.after, Region.binds .any e = true → (listed.setIfInBounds i true).getD e.on false = true := by
            intro j oj hj hl e he hb
            by_cases hji : i = j
            · subst hji
              rw [ho] at hj
              cases hj
              exact getD_set_true (hw e he hb)
            · rw [getD_set_ne false hji] at hl
              exact getD_set_true (m.closed j oj hj hl e he hb)
          have htail' : ∀ t, k ≤ t → t < l.toArray.size → (listed.setIfInBounds i true).getD t true = false := fun t ht ht' => by rw [getD_set_ne true (by omega)]; exact m.tail t ht ht'
          obtain ⟨d, hod, hdlt⟩ := dlt i o hik hol
          obtain ⟨r, hri⟩ := hrole i hik
          have hset : (listed.setIfInBounds i true).getD i false = true := by
            have : i < listed.size := by rw [m.size]; omega
            simp [this]
          have hunl : listed.getD i false = false := by rw [← getD_tf (by rw [m.size]; omega)]; exact hun
          -- the slots that the operation looks at, but for a block of its own kind
          have hlook : ∀ t ∈ o.looksAt l.toArray, (∀ j oj, j < k → l[j]? = some oj → oj.dst = some t → rs[j]? = some Role.p → False) → slotOf a t = slotOf (accum af ((l.take k).take i) a0) t := by
            intro t ht hnp
            rw [accum_slot _ _ _ (dstsOk_take _ _ _ hdk)]
            by_cases hex : ∃ j oj, j < k ∧ l[j]? = some oj ∧ oj.dst = some t
            · obtain ⟨j, oj, hj, hoj, hdt⟩ := hex
              obtain ⟨hji, hwt⟩ := hdep' i o j oj t hik hol hj hoj hdt ht
              obtain ⟨e, he, hb, heo⟩ := waitsB1_spec ho hwt
              have hlj := hw e he hb
              rw [heo] at hlj
              rw [m.put j oj t (by omega) (by simpa using hoj) hdt hlj (fun h => hnp j oj hj hoj hdt h), if_pos]
              rw [List.any_eq_true]
              refine ⟨oj, ?_, by simp [hdt]⟩
              refine List.mem_of_getElem? (i := j) ?_
              rw [List.getElem?_take, List.getElem?_take]
              simp only [hji, show j < k by omega, if_true, hoj]
            · rw [m.same t (fun j oj hj hoj _ hdt => hex ⟨j, oj, by omega, by simpa using hoj, hdt⟩), if_neg]
              intro hany
              rw [List.any_eq_true] at hany
              obtain ⟨oj, hmem, hdt⟩ := hany
              obtain ⟨j, hj⟩ := List.getElem?_of_mem (List.mem_of_mem_take hmem)
              rw [List.getElem?_take] at hj
              split at hj
              · exact hex ⟨j, oj, by omega, hj, by simpa using hdt⟩
              · cases hj
          have hstep := (hall w m.ahd).get (i := i) (o := o) (r := r) (by rw [hget i hik]; exact hol) hri
          rw [Nat.zero_add] at hstep
          -- what comes behind an operation that leaves a fixed value
          have after : rs[i]? ≠ some Role.p → ∀ (n' : Nat) (x : World), Touch S W x → n' ≤ effs.length → (∀ q j, effs[q]? = some j → ((listed.setIfInBounds i true).getD j false = true ↔ q < n')) → J n' x → (∀ b, W.heap.size ≤ b → b < w.heap.size → x.heap[b]? = w.heap[b]?) → wpAny P .any l.toArray Q fuel (listed.setIfInBounds i true) (a.put o.dst (leftBy af o)) x := by
            intro hnp n' x hx1 hx2 hx3 hx4 hx5
            refine ih n' gs _ _ _ ⟨by simp [m.size], hclosed, htail', hx1, hx2, hx3, hx4, by rw [defers_put]; exact m.defers, by rw [size_put]; exact m.tsize, ?_, ?_, ?_, ?_⟩ hun'
            · intro j oj t hj hoj hdt hl hrj
              by_cases hji : i = j
              · subst hji
                rw [ho] at hoj
                cases hoj
                have : leftBy af o = slotOf af t := by simp [leftBy, hdt]
                rw [hdt, this]
                rw [hod] at hdt
                cases hdt
                exact slot_put_same _ (by rw [m.tsize]; exact hdlt)
              · rw [getD_set_ne false hji] at hl
                rw [slot_put_ne _ (dne i j o oj t hik hj hol (by simpa using hoj) hji hdt)]
                exact m.put j oj t hj hoj hdt hl hrj
            · intro t hno
              rw [slot_put_ne _ (hno i o hik ho hset)]
              exact m.same t (fun j oj hj hoj hl => hno j oj hj hoj (getD_set_true hl))
            · intro j oj t hj hoj hdt hl hrj
              have hji : i ≠ j := fun e => hnp (by rw [e]; exact hrj)
              rw [getD_set_ne false hji] at hl
              obtain ⟨h1, h2, h3⟩ := m.spec j oj t hj hoj hdt hl hrj
              refine ⟨by rw [slot_put_ne _ (dne i j o oj t hik hj hol (by simpa using hoj) hji hdt)]; exact h1, h2, ?_⟩
              rw [hx5 _ h2 (Array.getElem?_eq_some_iff.1 h3).1]
              exact h3
            · intro j j' hj hj' hne hl hl' hrj hrj'
              have hji : i ≠ j := fun e => hnp (by rw [e]; exact hrj)
              have hji' : i ≠ j' := fun e => hnp (by rw [e]; exact hrj')
              rw [getD_set_ne false hji] at hl
              rw [getD_set_ne false hji'] at hl'
              exact m.apart j j' hj hj' hne hl hl' hrj hrj'
          have exec : ∀ b : Act, (∀ t ∈ o.looksAt l.toArray, slotOf a t = slotOf b t) → execOp a.eval o = execOp b.eval o := fun b hb => execOp_congr o (fun cs b => Region.noSelect_spec hsel i o cs b ho) (fun x hx => by
            cases x with
            | tmp t => exact hb t (List.mem_append_left _ (List.mem_filterMap.2 ⟨.tmp t, by simpa using hx, rfl⟩))
            | _ => rfl)
          cases r with
          | q =>
            have hl : ∀ t ∈ o.looksAt l.toArray, slotOf a t = slotOf (accum af ((l.take k).take i) a0) t := fun t ht => hlook t ht (fun j oj hj hoj hdt hrj => by
              have := heat i o j oj t _ hik hol hj hoj hdt ht hrj hri
              cases this)
            have hy' := YieldsIn.of_same (show YieldsIn P l.toArray _ o (leftBy af o) _ from hstep) (exec _ hl) (wanted_congr hl)
            refine wpOp_of_qOp (C := fun w' => ∃ x : Past w, w' = x.w) ⟨⟨w, Below.refl _ _⟩, rfl⟩ (fun a' w' hx ha => ?_) (hy'.qOp ho (K := fun a' => a' = a.put o.dst (leftBy af o)) rfl)
            obtain ⟨x, rfl⟩ := hx
            subst ha
            exact after (by rw [hri]; simp) n x.w (m.ahd.below x.far) m.nle (fun q j hq => by rw [getD_set_ne false (fun e => by have h9 := (hefr q j hq).2; rw [← e, hri] at h9; cases h9)]; exact m.cnt q j hq) (hJb n _ _ m.jn x.far) (fun b _ hb => x.far.block b hb)
          | c j dd =>
            obtain ⟨hjk, hrj, ⟨oj, hoj, hdj⟩, hmem⟩ := hfood i o j dd hik hol hri
            obtain ⟨hji, hwt⟩ := hdep' i o j oj dd hik hol hjk hoj hdj hmem
            obtain ⟨e, he, hb, heo⟩ := waitsB1_spec ho hwt
            have hlj := hw e he hb
            rw [heo] at hlj
            obtain ⟨s1, s2, s3⟩ := m.spec j oj dd hjk (by simpa using hoj) hdj hlj hrj
            have hst := (show ∀ (V' : World) (g : Nat), _ → _ → YieldsIn P l.toArray _ o (leftBy af o) _ from hstep) w (gs j) (Below.refl _ _) s3
            obtain ⟨dj', hdj', hdjlt⟩ := dlt j oj hjk hoj
            have hdd : dj' = dd := by rw [hdj] at hdj'; exact (Option.some.inj hdj').symm
            rw [hdd] at hdjlt
            have hacc : (accum af ((l.take k).take i) a0).tmps.size = a0.tmps.size := by
              have : ∀ (l : List Oper) (a : Act), (accum af l a).tmps.size = a.tmps.size := by
                intro l
                induction l with
                | nil => intro a; rfl
                | cons o l ih => intro a; show (accum af l (a.put o.dst (leftBy af o))).tmps.size = _; rw [ih, size_put]
              exact this _ _
            have hl : ∀ t ∈ o.looksAt l.toArray, slotOf a t = slotOf ((accum af ((l.take k).take i) a0).put (some dd) ((cont j).2 (gs j))) t := by
              intro t ht
              by_cases htd : t = dd
              · subst htd
                rw [s1, slot_put_same _ (by rw [hacc]; exact hdjlt)]
              · rw [slot_put_ne _ (fun e => htd (by cases e; rfl))]
                refine hlook t ht (fun j' oj' hj' hoj' hdt' hrj' => ?_)
                have := heat i o j' oj' t _ hik hol hj' hoj' hdt' ht hrj' hri
                simp only [Role.eats, Bool.and_eq_true, beq_iff_eq] at this
                exact htd this.2.symm
            have hy' := YieldsIn.of_same hst (exec _ hl) (wanted_congr hl)
            refine wpOp_of_qOp (C := fun w' => ∃ x : Past w, w' = x.w) ⟨⟨w, Below.refl _ _⟩, rfl⟩ (fun a' w' hx ha => ?_) (hy'.qOp ho (K := fun a' => a' = a.put o.dst (leftBy af o)) rfl)
            obtain ⟨x, rfl⟩ := hx
            subst ha
            exact after (by rw [hri]; simp) n x.w (m.ahd.below x.far) m.nle (fun q j hq => by rw [getD_set_ne false (fun e => by have h9 := (hefr q j hq).2; rw [← e, hri] at h9; cases h9)]; exact m.cnt q j hq) (hJb n _ _ m.jn x.far) (fun b _ hb => x.far.block b hb)
          | e p =>
            obtain ⟨hep, hew⟩ := hefe i p hik hri
            have hpl : p < effs.length := (List.getElem?_eq_some_iff.1 hep).1
            have hnp : p = n := by
              have h1 : ¬ p < n := fun h => by
                have := (m.cnt p i hep).2 h
                rw [hunl] at this
                cases this
              have h2 : p ≤ n := by
                rcases Nat.lt_or_ge n p with h | h
                · have hq : effs[n]? = some (effs[n]'(by omega)) := by simp
                  obtain ⟨e, he, hb, heo⟩ := waitsB1_spec ho (hew n _ h hq)
                  have h3 := hw e he hb
                  rw [heo] at h3
                  have := (m.cnt n _ hq).1 h3
                  omega
                · exact h
              omega
            subst hnp
            have hl : ∀ t ∈ o.looksAt l.toArray, slotOf a t = slotOf (accum af ((l.take k).take i) a0) t := fun t ht => hlook t ht (fun j oj hj hoj hdt hrj => by
              have := heat i o j oj t _ hik hol hj hoj hdt ht hrj hri
              cases this)
            obtain ⟨hwant, f, args, hrun, hcall⟩ := (show ∀ V' : World, Touch S W V' → J p V' → _ from hstep) w m.ahd m.jn
            unfold wpOp
            simp only [ho]
            rw [if_pos (by rw [wanted_congr hl]; exact hwant)]
            refine .inl ?_
            unfold Oper.wp
            rw [exec _ hl, hrun, Oper.upon_enter]
            refine hcall.mono ?_
            rintro e w2 ⟨rfl, ht, hj⟩
            exact after (by rw [hri]; simp) (p + 1) w2 (m.ahd.trans ht) (by omega) (fun q j hq => by
              by_cases hij : i = j
              · subst hij
                have h9 := (hefr q i hq).2
                rw [hri] at h9
                have : p = q := by
                  have := Option.some.inj h9
                  injection this
                constructor
                · intro _; omega
                · intro _; exact hset
              · rw [getD_set_ne false hij, m.cnt q j hq]
                have : q ≠ p := fun e => by
                  rw [e, hep] at hq
                  exact hij (Option.some.inj hq)
                omega) hj (fun b hb1 hb2 => ht.block b hb2 (fun hs => by have := hS b hs; omega))
          | p =>
            obtain ⟨hg, hrun⟩ := (show _ ∧ _ from hstep)
            have hl : ∀ t ∈ o.looksAt l.toArray, slotOf a t = slotOf (accum af ((l.take k).take i) a0) t := fun t ht => hlook t ht (fun j oj hj hoj hdt hrj => by
              have := heat i o j oj t _ hik hol hj hoj hdt ht hrj hri
              cases this)
            unfold wpOp
            simp only [ho]
            rw [if_pos (by rw [wanted_congr hl]; exact hg)]
            refine .inl ?_
            unfold Oper.wp
            rw [exec _ hl, hrun]
            show wpAny P .any l.toArray Q fuel (listed.setIfInBounds i true) (a.put o.dst ((cont i).2 w.heap.size)) (w.alloc (cont i).1)
            refine ih n (fun j => if j = i then w.heap.size else gs j) _ _ _ ⟨by simp [m.size], hclosed, htail', m.ahd.alloc _, m.nle, (fun q j hq => by rw [getD_set_ne false (fun e => by have h9 := (hefr q j hq).2; rw [← e, hri] at h9; cases h9)]; exact m.cnt q j hq), hJb n _ _ m.jn ((Below.refl _ _).alloc (Nat.le_refl _) _), by rw [defers_put]; exact m.defers, by rw [size_put]; exact m.tsize, ?_, ?_, ?_, ?_⟩ hun'
            · intro j oj t hj hoj hdt hlj hrj
              have hji : i ≠ j := fun e => hrj (by rw [← e]; exact hri)
              rw [getD_set_ne false hji] at hlj
              rw [slot_put_ne _ (dne i j o oj t hik hj hol (by simpa using hoj) hji hdt)]
              exact m.put j oj t hj hoj hdt hlj hrj
            · intro t hno
              rw [slot_put_ne _ (hno i o hik ho hset)]
              exact m.same t (fun j oj hj hoj hl => hno j oj hj hoj (getD_set_true hl))
            · intro j oj t hj hoj hdt hlj hrj
              by_cases hji : i = j
              · subst hji
                rw [ho] at hoj
                cases hoj
                simp only [if_true]
                refine ⟨?_, m.ahd.size, ?_⟩
                · rw [hdt]
                  rw [hod] at hdt
                  cases hdt
                  exact slot_put_same _ (by rw [m.tsize]; exact hdlt)
                · show (w.heap.push _)[w.heap.size]? = _
                  simp
              · rw [getD_set_ne false hji] at hlj
                obtain ⟨h1, h2, h3⟩ := m.spec j oj t hj hoj hdt hlj hrj
                have hne : ¬ j = i := fun e => hji e.symm
                simp only [if_neg hne]
                refine ⟨by rw [slot_put_ne _ (dne i j o oj t hik hj hol (by simpa using hoj) hji hdt)]; exact h1, h2, ?_⟩
                rw [Below.heap_alloc _ _ _ (Array.getElem?_eq_some_iff.1 h3).1]
                exact h3
            · have old : ∀ j, j < k → i ≠ j → (listed.setIfInBounds i true).getD j false = true → rs[j]? = some Role.p → gs j < w.heap.size := by
                intro j hj hji hlj hrj
                rw [getD_set_ne false hji] at hlj
                have hoj : l[j]? = some (l[j]'(by omega)) := by simp
                obtain ⟨d', hd', _⟩ := dlt j _ hj hoj
                exact (Array.getElem?_eq_some_iff.1 (m.spec j _ d' hj (by simp) hd' hlj hrj).2.2).1
              intro j j' hj hj' hne hlj hlj' hrj hrj'
              by_cases hji : i = j
              · subst hji
                have := old j' hj' hne hlj' hrj'
                rw [if_pos rfl, if_neg (fun e => hne e.symm)]
                omega
              · by_cases hji' : i = j'
                · subst hji'
                  have := old j hj hji hlj hrj
                  rw [if_neg hne, if_pos rfl]
                  omega
                · rw [if_neg (fun e => hji e.symm), if_neg (fun e => hji' e.symm)]
                  rw [getD_set_ne false hji] at hlj
                  rw [getD_set_ne false hji'] at hlj'
                  exact m.apart j j' hj hj' hne hlj hlj' hrj hrj'
  refine wp_region_any hm (main _ 0 (fun _ => 0) _ a0 _ ?_ (by rw [unl_rep]))
  refine ⟨by simp, ?_, ?_, (Touch.refl _ _).drew, Nat.zero_le _, fun q i _ => by rw [getD_replicate_false]; simp, hJ0, rfl, rfl, ?_, ?_, ?_, ?_⟩
  · intro j oj hj h
    rw [getD_replicate_false] at h
    cases h
  · intro t _ ht
    have : (Array.replicate l.toArray.size false).getD t true = false := by simp at ht; simp [ht]
    exact this
  · intro j o t _ _ _ h
    rw [getD_replicate_false] at h
    cases h
  · intro t _; rfl
  · intro j o t _ _ _ h
    rw [getD_replicate_false] at h
    cases h
  · intro j j' _ _ _ h
    rw [getD_replicate_false] at h
    cases h
end
end Ef
end Go.Proofs.Ytcneohhfnnelgaa
namespace Go.Proofs.Ytcneohhfnnelgaa
open Go.RowKit
set_option linter.unusedVariables false
noncomputable def loop65 : Code := ((Try.f65.body.bind (blockOf 5)).getD .skip)
noncomputable def tail65 : Code := ((Try.f65.body.bind (behind 5)).getD .skip)
/-- a regulator in memory -/
def RgAt (W : World) (b : Nat) (p i s : Int) : Prop := b < W.heap.size ∧ W.cell? ⟨b, 0, none⟩ = some (.int .i64 p) ∧ W.cell? ⟨b, 1, none⟩ = some (.int .i64 i) ∧ W.cell? ⟨b, 2, none⟩ = some (.int .i64 s) ∧ W.frozen? ⟨b, 2, none⟩ = false
section
variable {W W' : World} {b : Nat} {p i s : Int}
theorem RgAt.of_eq (h : RgAt W b p i s) (e : W'.heap[b]? = W.heap[b]?) (hs : W.heap.size ≤ W'.heap.size) : RgAt W' b p i s :=
  ⟨Nat.lt_of_lt_of_le h.1 hs, (World.cell?_of_block (a := ⟨b, 0, none⟩) e).trans h.2.1, (World.cell?_of_block (a := ⟨b, 1, none⟩) e).trans h.2.2.1, (World.cell?_of_block (a := ⟨b, 2, none⟩) e).trans h.2.2.2.1, (World.frozen?_of_block (a := ⟨b, 2, none⟩) e).trans h.2.2.2.2⟩
theorem RgAt.below (h : RgAt W b p i s) (hb : Below W.heap.size W W') : RgAt W' b p i s := h.of_eq (hb.block b h.1) hb.size
theorem RgAt.set (h : RgAt W b p i s) {q : Addr} (hq : q.block ≠ b) (u : Value) : RgAt (W.setCell q u) b p i s := h.of_eq (Below.heap_setCell _ _ _ _ (fun e => hq e.symm)) (by simp [World.setCell])
theorem RgAt.setAll {g : Nat} (hg : g ≠ b) : ∀ (vs : List Value) (j : Nat) (W : World), RgAt W b p i s → RgAt (setAll W g j vs) b p i s
  | [], _, _, h => h
  | v :: vs, j, W, h => by unfold Go.Proofs.Ytcneohhfnnelgaa.setAll; exact RgAt.setAll hg vs (j + 1) _ (h.set (q := ⟨g, j, none⟩) hg v)
theorem RgAt.grown {row : Option Nat} (h : RgAt W b p i s) (hg : W.grownBy W' row) (hn : some b ≠ row) : RgAt W' b p i s := h.of_eq (hg.block b h.1 hn) hg.size
theorem RgAt.step {n : Int} (h : StepW W b p i n W') : RgAt W' b p i n := ⟨World.block_lt_of_cell? _ ⟨b, 0, none⟩ h.1, h.1, h.2.1, h.2.2.1, h.2.2.2.1⟩
theorem RgAt.drew (h : RgAt W b p i s) : RgAt W.drew b p i s := h
end
theorem St.touchR {S : Nat → Prop} {w W W' : World} {l : List BlkRow} (h : St w l W) (k : Touch S W W') (hS : ∀ b, S b → w.heap.size ≤ b ∧ ∀ x, x ∈ l → x.1 ≠ b) : St w l W' :=
  ⟨Below.touch h.1 h.1.size k (fun b hb => (hS b hb).1), fun x hx => (h.2.1 x hx).touch k (fun hs => (hS _ hs).2 x hx rfl), h.2.2⟩
theorem ownTouch {S : Nat → Prop} {w w' : World} {B e z n cap : Nat} {A : Option Addr} {xs : List Value} (h : w.ownsRow B e z (.slice A n cap) n xs) (k : Touch S w w') (hn : ∀ b, OwnB A b → ¬ S b) : w'.ownsRow B e z (.slice A n cap) n xs := by
  refine ⟨h.1, ?_⟩
  rcases h.2 with h2 | ⟨g, c, cur, hv, hb', hgk, r⟩
  · exact .inl h2
  · cases hv
    exact .inr ⟨g, cap, cur, rfl, hb', by rw [k.block g (Array.getElem?_eq_some_iff.1 hgk).1 (hn g ⟨_, rfl, rfl⟩)]; exact hgk, r⟩
theorem St.addT {w W : World} {l : List BlkRow} (h : St w l W) {g : Nat} {t : TypeId} {cs : List Value} (k : Blk W g t cs) (hn : g ∉ l.map Prod.fst) : St w ((g, t, cs) :: l) W :=
  ⟨h.1, Has.cons k h.2.1, by
    rw [List.map_cons, List.nodup_cons]
    exact ⟨hn, h.2.2⟩⟩
theorem upTo1_at (mo a : Int) (g : Nat) (W : World) (h : Blk W g 2 [.int .i64 a]) (hm0 : 0 ≤ mo) (hm1 : mo ≤ 4611686018427387904) :
    Calls Try.prog 67 #[.int .i64 mo, .slice (some ⟨g, 0, none⟩) 1 1] W fun e w' => e = .returned (.bool (upB mo [a])) ∧ W = w' :=
  upTo_c mo (some ⟨g, 0, none⟩) [a] 1 W hm0 hm1 (by simp) (blk_ints (ys := [a]) h)
/-- the regulators when n of them have made their step -/
def Rg43 (g5 g6 : Nat) (p0 i0 p1 i1 sd sq N1 N2 : Int) (n : Nat) (W : World) : Prop :=
  RgAt W g5 p0 i0 (match n with | 0 => sd | _ => N1) ∧ RgAt W g6 p1 i1 (match n with | 0 => sq | 1 => sq | _ => N2)
/-- the loop's relation -/
def PlK (m R : Mot) (l : List Sp) (p0 i0 p1 i1 u : Int) (s : Rot) (os : List Od) (es : List Int) (w : World) (g gl g5 g6 B : Nat) (k : Nat) (st : Rot) (sd sq : Int) (Ao : Option Addr) (co : Nat) (W : World) : Prop :=
  (Dv.plAt (⟨m, R, l, p0, i0, p1, i1, u⟩ : Pl) os es (⟨s, 0, 0⟩ : Dv.PS) k = ⟨st, sd, sq⟩ ∧ Dv.plC (⟨m, R, l, p0, i0, p1, i1, u⟩ : Pl) os es (⟨s, 0, 0⟩ : Dv.PS) k = 0) ∧ St w [(w.heap.size + 1 + 1, 57, [.int .i64 st.d, .int .i64 st.q, .int .i64 st.w, .int .i64 st.a]), (g, 52, [.int .i64 R.r, .int .i64 R.ld, .int .i64 R.lq, .int .i64 R.fx, .int .i64 R.po, .int .i64 R.mi, .int .i64 R.sp, .int .i64 R.dr, .int .i64 R.cu, .int .i64 R.fa]), (gl, 131, lmC m (Dv.lmLo m l) (Dv.lmHi m l) (Dv.lmS l).lo (Dv.lmS l).hi), (w.heap.size, 52, [.int .i64 m.r, .int .i64 m.ld, .int .i64 m.lq, .int .i64 m.fx, .int .i64 m.po, .int .i64 m.mi, .int .i64 m.sp, .int .i64 m.dr, .int .i64 m.cu, .int .i64 m.fa])] W ∧ W.ownsRow B 57 4 (.slice Ao k co) k (flatR (Dv.plOut (⟨m, R, l, p0, i0, p1, i1, u⟩ : Pl) os es (⟨s, 0, 0⟩ : Dv.PS) k)) ∧ RgAt W g5 p0 i0 sd ∧ RgAt W g6 p1 i1 sq
theorem gen_three {P : Program} {c : Code} {Q : Exit → Act → World → Prop} {a : Act} {W : World} (J J' J2 : World → Prop) (hJ : J W) (hJ' : J' W) (h2 : J2 W) (h : ∀ W', J W' → J' W' → J2 W' → Code.wp P c Q a W') : Code.wp P c Q a W := h W hJ hJ' h2
set_option maxHeartbeats 16000000 in
set_option maxRecDepth 1000000 in
theorem Play_loop (m R : Mot) (l : List Sp) (p0 i0 p1 i1 u : Int) (s : Rot) (D : Option Addr) (os : List Od) (n ck : Nat) (F : Option Addr) (es : List Int) (ck' : Nat) (w W : World) (g gl g5 g6 B : Nat) (Ao0 : Option Addr) (co0 : Nat) (pE : Int) (pV : List Rot) (c1 c2 c3 c5 c9 c10 c11 c12 c14 c15 c16 c17 c19 c21 c22 c23 c24 c25 c26 c30 c31 c32 c33 c34 c35 c36 c37 c38 c39 c40 c41 c42 c43 c44 c45 c46 c47 c48 c49 c50 c51 c52 c53 c54 c55 c56 c57 c58 c59 c60 c61 c62 c63 c64 c65 c66 c67 c68 c69 c70 c71 c72 c73 c74 c75 c76 c77 c78 c79 c80 c81 c82 c83 c84 c85 c86 c87 c88 c89 c90 c91 c92 c93 c94 c95 c96 c97 c98 c99 c100 c101 c102 c103 c104 c105 c106 c107 c108 c109 c110 c111 c112 c113 c114 c115 c116 c117 c118 c119 c120 c121 c122 c123 c124 c125 c126 c127 c128 c129 c130 c131 c132 c133 c134 c135 c136 c137 c138 c139 c140 c141 c142 c143 c144 c145 c146 c147 c148 c149 c150 c151 c152 c153 c154 c155 c156 c157 c158 c159 c160 c161 c162 c163 c164 c165 c166 c167 c168 c169 c170 c171 c172 c173 c174 c175 c176 c177 c178 c179 c183 c184 c185 c186 c187 c188 c189 c190 c191 c192 c193 c194 c195 c196 c197 c198 c199 c200 c201 c202 c203 c204 c205 c206 c207 c208 c209 c210 c211 c212 c213 c214 c215 c216 c217 c218 c219 c220 c221 c222 c223 c224 c225 c226 c227 c228 c229 c230 c231 c232 c233 c234 c235 c236 c237 c238 c239 c240 c241 c242 c243 c244 c245 c246 c247 c248 c249 c250 c251 c252 c253 c254 c255 c256 c257 c258 c259 c260 c261 c262 c263 c264 : Value) (K : Act → World → Prop)
    (ho : OdAt w D os) (he : IntsAt w F es) (hn : n ≤ 100) (hF : PlF m R l p0 i0 p1 i1 u s os es n pE pV)
    (hS : St w [(w.heap.size + 1 + 1, 57, [.int .i64 s.d, .int .i64 s.q, .int .i64 s.w, .int .i64 s.a]), (g, 52, [.int .i64 R.r, .int .i64 R.ld, .int .i64 R.lq, .int .i64 R.fx, .int .i64 R.po, .int .i64 R.mi, .int .i64 R.sp, .int .i64 R.dr, .int .i64 R.cu, .int .i64 R.fa]), (gl, 131, lmC m (Dv.lmLo m l) (Dv.lmHi m l) (Dv.lmS l).lo (Dv.lmS l).hi), (w.heap.size, 52, [.int .i64 m.r, .int .i64 m.ld, .int .i64 m.lq, .int .i64 m.fx, .int .i64 m.po, .int .i64 m.mi, .int .i64 m.sp, .int .i64 m.dr, .int .i64 m.cu, .int .i64 m.fa])] W) (hown : W.ownsRow B 57 4 (.slice Ao0 0 co0) 0 []) (hr5 : RgAt W g5 p0 i0 0) (hr6 : RgAt W g6 p1 i1 0)
    (hgl : w.heap.size + 1 + 1 < gl) (hg : gl < g) (hg5 : g < g5 ∧ g5 < B) (hg6 : g < g6 ∧ g6 < B) (h56 : g5 ≠ g6) (hBW : B ≤ W.heap.size)
    (hK : ∀ (a : Act) (w' : World), Code.wp Try.prog tail65 (bodyPost Try.prog Try.f65 (PlP pE pV w)) a w' → K a w') :
    Code.wp Try.prog loop65 (Exit.inBlock 5 (Exit.then K (bodyPost Try.prog Try.f65 (PlP pE pV w)))) ⟨List.toArray ((.agg #[.int .i64 m.r, .int .i64 m.ld, .int .i64 m.lq, .int .i64 m.fx, .int .i64 m.po, .int .i64 m.mi, .int .i64 m.sp, .int .i64 m.dr, .int .i64 m.cu, .int .i64 m.fa] : Value) :: c1 :: c2 :: c3 :: .int .i64 u :: c5 :: .slice D n ck :: .slice F n ck' :: .pointer (some ⟨w.heap.size, 0, none⟩) :: c9 :: c10 :: c11 :: c12 :: .pointer (some ⟨w.heap.size + 1 + 1, 0, none⟩) :: c14 :: c15 :: c16 :: c17 :: .pointer (some ⟨gl, 0, none⟩) :: c19 :: .pointer (some ⟨g, 0, none⟩) :: c21 :: c22 :: c23 :: c24 :: c25 :: c26 :: .func (.func 76) #[.pointer (some ⟨g5, 0, none⟩)] #[] :: .func (.func 76) #[.pointer (some ⟨g6, 0, none⟩)] #[] :: .slice Ao0 0 co0 :: c30 :: c31 :: c32 :: c33 :: c34 :: c35 :: c36 :: c37 :: c38 :: c39 :: c40 :: c41 :: c42 :: c43 :: c44 :: c45 :: c46 :: c47 :: c48 :: c49 :: c50 :: c51 :: c52 :: c53 :: c54 :: c55 :: c56 :: c57 :: c58 :: c59 :: c60 :: c61 :: c62 :: c63 :: c64 :: c65 :: c66 :: c67 :: c68 :: c69 :: c70 :: c71 :: c72 :: c73 :: c74 :: c75 :: c76 :: c77 :: c78 :: c79 :: c80 :: c81 :: c82 :: c83 :: c84 :: c85 :: c86 :: c87 :: c88 :: c89 :: c90 :: c91 :: c92 :: c93 :: c94 :: c95 :: c96 :: c97 :: c98 :: c99 :: c100 :: c101 :: c102 :: c103 :: c104 :: c105 :: c106 :: c107 :: c108 :: c109 :: c110 :: c111 :: c112 :: c113 :: c114 :: c115 :: c116 :: c117 :: c118 :: c119 :: c120 :: c121 :: c122 :: c123 :: c124 :: c125 :: c126 :: c127 :: c128 :: c129 :: c130 :: c131 :: c132 :: c133 :: c134 :: c135 :: c136 :: c137 :: c138 :: c139 :: c140 :: c141 :: c142 :: c143 :: c144 :: c145 :: c146 :: c147 :: c148 :: c149 :: c150 :: c151 :: c152 :: c153 :: c154 :: c155 :: c156 :: c157 :: c158 :: c159 :: c160 :: c161 :: c162 :: c163 :: c164 :: c165 :: c166 :: c167 :: c168 :: c169 :: c170 :: c171 :: c172 :: c173 :: c174 :: c175 :: c176 :: c177 :: c178 :: c179 :: .slice D n ck :: .int .i64 n :: .int .i64 0 :: c183 :: c184 :: c185 :: c186 :: c187 :: c188 :: c189 :: c190 :: c191 :: c192 :: c193 :: c194 :: c195 :: c196 :: c197 :: c198 :: c199 :: c200 :: c201 :: c202 :: c203 :: c204 :: c205 :: c206 :: c207 :: c208 :: c209 :: c210 :: c211 :: c212 :: c213 :: c214 :: c215 :: c216 :: c217 :: c218 :: c219 :: c220 :: c221 :: c222 :: c223 :: c224 :: c225 :: c226 :: c227 :: c228 :: c229 :: c230 :: c231 :: c232 :: c233 :: c234 :: c235 :: c236 :: c237 :: c238 :: c239 :: c240 :: c241 :: c242 :: c243 :: c244 :: c245 :: c246 :: c247 :: c248 :: c249 :: c250 :: c251 :: c252 :: c253 :: c254 :: c255 :: c256 :: c257 :: c258 :: c259 :: c260 :: c261 :: c262 :: c263 :: c264 :: []), []⟩ W := by
  have HO := Lib.hid ho
  have HF := Lib.hid he
  have HP := Lib.hid hF
  have HS := Lib.hid (And.intro hS (And.intro hown (And.intro hr5 hr6)))
  have H56n := Lib.hid h56
  clear ho he hF hS hown hr5 hr6 h56
  conv => arg 2; whnf
  go_loopw [29, 182] (fun v29 v182 wr => ∃ (k : Nat) (st : Rot) (sd sq : Int) (Ao : Option Addr) (co : Nat), k ≤ n ∧ v182 = .int .i64 k ∧ v29 = .slice Ao k co ∧ Hid (PlK m R l p0 i0 p1 i1 u s os es w g gl g5 g6 B k st sd sq Ao co wr ∧ B ≤ wr.heap.size)) (fun _ i _ => n - (intOf i).toNat)
  case atStart =>
    exact ⟨0, s, 0, 0, Ao0, co0, Nat.zero_le _, rfl, rfl, Lib.hid ⟨⟨⟨rfl, rfl⟩, HS.out.1, HS.out.2.1, HS.out.2.2.1, HS.out.2.2.2⟩, hBW⟩⟩
  case round =>
    clear HS hBW
    obtain ⟨k, st, sd, sq, Ao, co, hk, rfl, rfl, HJ⟩ := hrel
    by_cases hlt : k < n
    · obtain ⟨hAt, hC0⟩ := HJ.out.1.1
      have HAT := Lib.hid hAt
      have HC0 := Lib.hid hC0
      have S0 := Lib.hid HJ.out.1.2.1
      have O0 := Lib.hid HJ.out.1.2.2.1
      have R0 := Lib.hid HJ.out.1.2.2.2
      have hBW := HJ.out.2
      clear HJ
      have hps := Dv.plAt_ok (P := (⟨m, R, l, p0, i0, p1, i1, u⟩ : Pl)) (os := os) (es := es) (x := (⟨s, 0, 0⟩ : Dv.PS)) ⟨HP.out.hS, (show (-1073741824 : Int) ≤ 0 ∧ (0 : Int) ≤ 1073741824 by decide), (show (-1073741824 : Int) ≤ 0 ∧ (0 : Int) ≤ 1073741824 by decide)⟩ k hC0
      rw [hAt] at hps
      have HPK : Hid (Dv.plK (⟨m, R, l, p0, i0, p1, i1, u⟩ : Pl) os es (⟨s, 0, 0⟩ : Dv.PS) k = Dv.plE (⟨m, R, l, p0, i0, p1, i1, u⟩ : Pl) st sd sq (os.getD k default) (es.getD k 0)) := Lib.hid (by unfold Dv.plK; rw [hAt])
      have HPN : Hid (Dv.plAt (⟨m, R, l, p0, i0, p1, i1, u⟩ : Pl) os es (⟨s, 0, 0⟩ : Dv.PS) (k + 1) = Dv.plN (⟨m, R, l, p0, i0, p1, i1, u⟩ : Pl) ⟨st, sd, sq⟩ (os.getD k default) (es.getD k 0)) := Lib.hid (by rw [Dv.plAt, hAt])
      clear hAt hC0
      obtain ⟨hrb, ⟨sd0, sd1⟩, ⟨sq0, sq1⟩⟩ := (show Dv.rotB st = true ∧ (-1073741824 ≤ sd ∧ sd ≤ 1073741824) ∧ (-1073741824 ≤ sq ∧ sq ≤ 1073741824) from hps)
      have hbd := Dv.pl_bd HP.out.hE hrb (Dv.odsB_at HP.out.hOd k (by rw [HP.out.hLo]; exact hlt))
      obtain ⟨⟨bw0, bw1⟩, ⟨be0, be1⟩, ⟨bd0, bd1⟩, ⟨bq0, bq1⟩, ⟨bl0, bl1⟩, ⟨sd2, sd3⟩, ⟨sq2, sq3⟩⟩ := hbd
      have hm := (Dv.lm_parts HP.out.hE).1
      have hrw := Dv.rotB_iff.1 hrb
      have HRB := Lib.hid hrb
      clear hrb
      obtain ⟨aD, rfl, zd, o0, o1, o2⟩ := (HO.out.below S0.out.1) k (by rw [HP.out.hLo]; exact hlt)
      obtain ⟨aF, rfl, f0⟩ := (HF.out.below S0.out.1) k (by rw [HP.out.hLe]; exact hlt)
      have zd' : (aD.add (k * 3)).block < wr.heap.size := by rw [block_add]; exact zd
      have HFD := Lib.hid (show ∀ V : World, Below w.heap.size w V → (aF.add k).block < V.heap.size ∧ V.cell? (aF.add k) = some (.int .i64 (es.getD k 0)) from fun V hV => by
        obtain ⟨ad, e, x0⟩ := (HF.out.below hV) k (by rw [HP.out.hLe]; exact hlt)
        cases e
        exact ⟨World.block_lt_of_cell? _ _ x0, x0⟩)
      clear f0
      generalize hok : os.getD k default = ok at *
      generalize hek : es.getD k 0 = ek at *
      have HOK := Lib.hid hok
      have HEK := Lib.hid hek
      clear hok hek
      have fa1 : 0 ≤ m.fa ∧ m.fa ≤ 16384 := by unfold Dv.chk at hm; omega
      have HM := Lib.hid hm
      clear hm
      have k0 : (0 : Int) ≤ (k : Int) := by omega
      have kx : (k : Int) < (n : Int) := by omega
      have kd : decide ((k : Int) < (n : Int)) = true := decide_eq_true (by omega)
      have P69 := Lib.hid (fun W => div_c st.w 1000 W (by omega) (by omega) (by omega))
      have HW0 : Hid (Dv.plW st ek = st.w / 1000 - ek) := Lib.hid rfl
      generalize st.w / 1000 = q1 at *
      obtain ⟨wv, hwv⟩ : ∃ wv, wv = q1 - ek := ⟨_, rfl⟩
      have HWV : Hid (Dv.plW st ek = wv) := Lib.hid (by rw [HW0.out, hwv])
      have wb : -32768 ≤ wv ∧ wv ≤ 32768 := by omega
      have hww : IntKind.i64.wrap (q1 - ek) = wv := by rw [hwv]; exact IntWalk.i64_in _ (by omega)
      have hww2 : q1 - ek = wv := hwv.symm
      have HWW := Lib.hid (And.intro hww hww2)
      clear hwv HW0 hww hww2
      have S1 := Lib.hid (S0.out.alloc [.int .i64 ok.d, .int .i64 ok.q, .int .i64 ok.ld] 135)
      have O1 := Lib.hid (ownBelow O0.out ((Below.refl _ _).alloc (Nat.le_refl _) (.cells #[.int .i64 ok.d, .int .i64 ok.q, .int .i64 ok.ld] 135)))
      have R1 := Lib.hid (And.intro (R0.out.1.below ((Below.refl _ _).alloc (Nat.le_refl _) (.cells #[.int .i64 ok.d, .int .i64 ok.q, .int .i64 ok.ld] 135))) (R0.out.2.below ((Below.refl _ _).alloc (Nat.le_refl _) (.cells #[.int .i64 ok.d, .int .i64 ok.q, .int .i64 ok.ld] 135))))
      go_upto_region 35 with (fail)
      refine gen_three (fun W => St w [(wr.heap.size, 135, [.int .i64 ok.d, .int .i64 ok.q, .int .i64 ok.ld]), (w.heap.size + 1 + 1, 57, [.int .i64 st.d, .int .i64 st.q, .int .i64 st.w, .int .i64 st.a]), (g, 52, [.int .i64 R.r, .int .i64 R.ld, .int .i64 R.lq, .int .i64 R.fx, .int .i64 R.po, .int .i64 R.mi, .int .i64 R.sp, .int .i64 R.dr, .int .i64 R.cu, .int .i64 R.fa]), (gl, 131, lmC m (Dv.lmLo m l) (Dv.lmHi m l) (Dv.lmS l).lo (Dv.lmS l).hi), (w.heap.size, 52, [.int .i64 m.r, .int .i64 m.ld, .int .i64 m.lq, .int .i64 m.fx, .int .i64 m.po, .int .i64 m.mi, .int .i64 m.sp, .int .i64 m.dr, .int .i64 m.cu, .int .i64 m.fa])] W) (fun W => W.ownsRow B 57 4 (.slice Ao k co) k (flatR (Dv.plOut (⟨m, R, l, p0, i0, p1, i1, u⟩ : Pl) os es (⟨s, 0, 0⟩ : Dv.PS) k))) (fun W => RgAt W g5 p0 i0 sd ∧ RgAt W g6 p1 i1 sq) S1.out O1.out R1.out ?_
      have HDo := Lib.hid (show ∀ b, OwnB Ao b → B ≤ b ∧ b < wr.heap.size from fun b hb => ⟨(ownLt O0.out hb).2, (ownLt O0.out hb).1⟩)
      clear S1 O1 R1 S0 O0 R0 zd zd' o0 o1 o2
      rintro w1 i1 i2 i3
      have S1 := Lib.hid i1
      have O1 := Lib.hid i2
      have R1 := Lib.hid i3
      clear i1 i2 i3
      generalize hgo : wr.heap.size = go_ at *
      clear hgo
      trace "r34"
      have z_s := (S1.out.get 1 rfl).lt
      have c_s2 := (S1.out.get 1 rfl).cell 2 rfl
      obtain ⟨zf, f0⟩ := HFD.out _ S1.out.1
      have hww := HWW.out.1
      refine wp_region_past (by kernel_rfl) (by kernel_rfl) ?_
      repeat (go_big_quiet_step ((go_at_call 69; with_reducible exact past_same (P69.out _))))
      refine wpQuiet_nil ?_
      intro xx
      have HXX := Lib.hid xx.far
      generalize xx.w = w2 at HXX ⊢
      have S2 := Lib.hid (S1.out.below HXX.out)
      have O2 := Lib.hid (ownBelow O1.out HXX.out)
      have R2 := Lib.hid (And.intro (R1.out.1.below HXX.out) (R1.out.2.below HXX.out))
      clear S1 O1 R1 HXX hww z_s c_s2 P69 f0 zf HWW
      trace "r35"
      have z_m := (S2.out.get 4 rfl).lt
      have c_m9 := (S2.out.get 4 rfl).cell 9 rfl
      obtain ⟨b, hb⟩ : ∃ b, b = upB m.fa [wv] := ⟨_, rfl⟩
      have KU := Lib.hid (show ∀ (V : World) (gg : Nat), Blk V gg 2 [.int .i64 wv] → Calls Try.prog 67 #[.int .i64 m.fa, .slice (some ⟨gg, 0, none⟩) 1 1] V fun e w' => e = .returned (.bool b) ∧ V = w' from fun V gg h => by rw [hb]; exact upTo1_at m.fa wv gg V h (by omega) (by omega))
      have HB := Lib.hid hb
      clear hb
      go_wp2_with fail
      refine (KU.out _ _ (Blk.new' w2 #[.int .i64 wv] 2)).mono ?_
      rintro e w' ⟨rfl, rfl⟩
      have S3 := Lib.hid (S2.out.below ((Below.refl _ _).alloc (Nat.le_refl _) (.cells #[.int .i64 wv] 2)))
      have O3 := Lib.hid (ownBelow O2.out ((Below.refl _ _).alloc (Nat.le_refl _) (.cells #[.int .i64 wv] 2)))
      have R3 := Lib.hid (And.intro (R2.out.1.below ((Below.refl _ _).alloc (Nat.le_refl _) (.cells #[.int .i64 wv] 2))) (R2.out.2.below ((Below.refl _ _).alloc (Nat.le_refl _) (.cells #[.int .i64 wv] 2))))
      clear KU z_m c_m9 S2 O2 R2
      cases b
      · have HN := Lib.hid (HP.out.hNo k 17 hlt HC0.out (by rw [HPK.out]; unfold Dv.plE; rw [HWV.out, if_neg (by rw [show upB ((⟨m, R, l, p0, i0, p1, i1, u⟩ : Pl)).m.fa [wv] = false from HB.out.symm]; decide)]) (by decide))
        go_wp2
        go_ret2
        exact PlP.of HN.out rfl S3.out.1
      go_upto_region 38 with (fail)
      refine gen_three (fun W => St w [(go_, 135, [.int .i64 ok.d, .int .i64 ok.q, .int .i64 ok.ld]), (w.heap.size + 1 + 1, 57, [.int .i64 st.d, .int .i64 st.q, .int .i64 st.w, .int .i64 st.a]), (g, 52, [.int .i64 R.r, .int .i64 R.ld, .int .i64 R.lq, .int .i64 R.fx, .int .i64 R.po, .int .i64 R.mi, .int .i64 R.sp, .int .i64 R.dr, .int .i64 R.cu, .int .i64 R.fa]), (gl, 131, lmC m (Dv.lmLo m l) (Dv.lmHi m l) (Dv.lmS l).lo (Dv.lmS l).hi), (w.heap.size, 52, [.int .i64 m.r, .int .i64 m.ld, .int .i64 m.lq, .int .i64 m.fx, .int .i64 m.po, .int .i64 m.mi, .int .i64 m.sp, .int .i64 m.dr, .int .i64 m.cu, .int .i64 m.fa])] W) (fun W => W.ownsRow B 57 4 (.slice Ao k co) k (flatR (Dv.plOut (⟨m, R, l, p0, i0, p1, i1, u⟩ : Pl) os es (⟨s, 0, 0⟩ : Dv.PS) k))) (fun W => RgAt W g5 p0 i0 sd ∧ RgAt W g6 p1 i1 sq) S3.out O3.out R3.out ?_
      clear S3 O3 R3
      rintro w1 i1 i2 i3
      have S1 := Lib.hid i1
      have O1 := Lib.hid i2
      have R1 := Lib.hid i3
      clear i1 i2 i3
      have hwb : -16384 ≤ wv ∧ wv ≤ 16384 := by
        have := upB1.1 HB.out.symm
        omega
      have KAl := Lib.hid (fun (V : World) (hV : Blk V gl 131 (lmC m (Dv.lmLo m l) (Dv.lmHi m l) (Dv.lmS l).lo (Dv.lmS l).hi)) => both_p m l st.d st.q wv gl V HP.out.hE hV hwb ⟨sd2, sd3⟩ ⟨sq2, sq3⟩)
      obtain ⟨a1, ha1⟩ : ∃ x, x = Dv.aLo m l st.d st.q wv := ⟨_, rfl⟩
      obtain ⟨a2, ha2⟩ : ∃ x, x = Dv.aHi m l st.d st.q wv := ⟨_, rfl⟩
      obtain ⟨b1, hb1⟩ : ∃ x, x = Dv.bLo m l st.d st.q wv := ⟨_, rfl⟩
      obtain ⟨b2, hb2⟩ : ∃ x, x = Dv.bHi m l st.d st.q wv := ⟨_, rfl⟩
      rw [← ha1, ← ha2, ← hb1, ← hb2] at KAl
      have HAB := Lib.hid (And.intro ha1 (And.intro ha2 (And.intro hb1 hb2)))
      clear ha1 ha2 hb1 hb2
      have z_s := (S1.out.get 1 rfl).lt
      have c_s0 := (S1.out.get 1 rfl).cell 0 rfl
      have c_s1 := (S1.out.get 1 rfl).cell 1 rfl
      go_wp2_with fail
      refine (KAl.out _ (S1.out.get 3 rfl)).mono ?_
      rintro e w2 ⟨rfl, hb2⟩
      have S2 := Lib.hid (show St w [(w2.heap.size + 1, 29, [.int .i64 b1, .int .i64 b2]), (w2.heap.size, 29, [.int .i64 a1, .int .i64 a2]), (go_, 135, [.int .i64 ok.d, .int .i64 ok.q, .int .i64 ok.ld]), (w.heap.size + 1 + 1, 57, [.int .i64 st.d, .int .i64 st.q, .int .i64 st.w, .int .i64 st.a]), (g, 52, [.int .i64 R.r, .int .i64 R.ld, .int .i64 R.lq, .int .i64 R.fx, .int .i64 R.po, .int .i64 R.mi, .int .i64 R.sp, .int .i64 R.dr, .int .i64 R.cu, .int .i64 R.fa]), (gl, 131, lmC m (Dv.lmLo m l) (Dv.lmHi m l) (Dv.lmS l).lo (Dv.lmS l).hi), (w.heap.size, 52, [.int .i64 m.r, .int .i64 m.ld, .int .i64 m.lq, .int .i64 m.fx, .int .i64 m.po, .int .i64 m.mi, .int .i64 m.sp, .int .i64 m.dr, .int .i64 m.cu, .int .i64 m.fa])] ((w2.alloc (.cells #[.int .i64 a1, .int .i64 a2] 29)).alloc (.cells #[.int .i64 b1, .int .i64 b2] 29)) from by
        have h := ((S1.out.below hb2).alloc [.int .i64 a1, .int .i64 a2] 29).alloc [.int .i64 b1, .int .i64 b2] 29
        simp at h
        exact h)
      have hbb : Below w2.heap.size w2 ((w2.alloc (.cells #[.int .i64 a1, .int .i64 a2] 29)).alloc (.cells #[.int .i64 b1, .int .i64 b2] 29)) := ((Below.refl _ _).alloc (Nat.le_refl _) (.cells #[.int .i64 a1, .int .i64 a2] 29)).alloc (by simp) (.cells #[.int .i64 b1, .int .i64 b2] 29)
      have O2 := Lib.hid (ownBelow (ownBelow O1.out hb2) hbb)
      have R2 := Lib.hid (And.intro ((R1.out.1.below hb2).below hbb) ((R1.out.2.below hb2).below hbb))
      have hg1 : go_ < w2.heap.size := ((S1.out.below hb2).get 0 rfl).lt
      clear hb2 hbb KAl z_s c_s0 c_s1 S1 O1 R1
      go_upto_region 39 with (fail)
      refine gen_three (fun W => St w [(w2.heap.size + 1, 29, [.int .i64 b1, .int .i64 b2]), (w2.heap.size, 29, [.int .i64 a1, .int .i64 a2]), (go_, 135, [.int .i64 ok.d, .int .i64 ok.q, .int .i64 ok.ld]), (w.heap.size + 1 + 1, 57, [.int .i64 st.d, .int .i64 st.q, .int .i64 st.w, .int .i64 st.a]), (g, 52, [.int .i64 R.r, .int .i64 R.ld, .int .i64 R.lq, .int .i64 R.fx, .int .i64 R.po, .int .i64 R.mi, .int .i64 R.sp, .int .i64 R.dr, .int .i64 R.cu, .int .i64 R.fa]), (gl, 131, lmC m (Dv.lmLo m l) (Dv.lmHi m l) (Dv.lmS l).lo (Dv.lmS l).hi), (w.heap.size, 52, [.int .i64 m.r, .int .i64 m.ld, .int .i64 m.lq, .int .i64 m.fx, .int .i64 m.po, .int .i64 m.mi, .int .i64 m.sp, .int .i64 m.dr, .int .i64 m.cu, .int .i64 m.fa])] W) (fun W => W.ownsRow B 57 4 (.slice Ao k co) k (flatR (Dv.plOut (⟨m, R, l, p0, i0, p1, i1, u⟩ : Pl) os es (⟨s, 0, 0⟩ : Dv.PS) k))) (fun W => RgAt W g5 p0 i0 sd ∧ RgAt W g6 p1 i1 sq) S2.out O2.out R2.out ?_
      clear S2 O2 R2
      rintro w3 i1 i2 i3
      have S3 := Lib.hid i1
      have O3 := Lib.hid i2
      have R3 := Lib.hid i3
      clear i1 i2 i3
      generalize w2.heap.size = g1 at S3 hg1 ⊢
      clear w2
      trace "r38"
      have hu := Dv.busB_iff.1 HP.out.hB
      have hU := Dv.roomV_bd hu
      have K96 := Lib.hid (fun W => room_c u W hu)
      have KCa := Lib.hid (fun W => meet_c a1 a2 (Dv.roomV u) W hU)
      have KCb := Lib.hid (fun W => meet_c b1 b2 (Dv.roomV u) W hU)
      obtain ⟨A1, hA1⟩ : ∃ x, x = Dv.mtLo a1 (Dv.roomV u) := ⟨_, rfl⟩
      obtain ⟨A2, hA2⟩ : ∃ x, x = Dv.mtHi a2 (Dv.roomV u) := ⟨_, rfl⟩
      obtain ⟨B1, hB1⟩ : ∃ x, x = Dv.mtLo b1 (Dv.roomV u) := ⟨_, rfl⟩
      obtain ⟨B2, hB2⟩ : ∃ x, x = Dv.mtHi b2 (Dv.roomV u) := ⟨_, rfl⟩
      rw [← hA1, ← hA2] at KCa
      rw [← hB1, ← hB2] at KCb
      have HAA := Lib.hid (And.intro hA1 hA2)
      have HBB := Lib.hid (And.intro hB1 hB2)
      clear hA1 hA2 hB1 hB2 hU hu
      obtain ⟨b5, hb5⟩ : ∃ x, x = decide (A1 ≤ A2) := ⟨_, rfl⟩
      obtain ⟨b6, hb6⟩ : ∃ x, x = decide (B1 ≤ B2) := ⟨_, rfl⟩
      rw [← hb5] at KCa
      rw [← hb6] at KCb
      have H56 := Lib.hid (And.intro hb5 hb6)
      clear hb5 hb6
      have HDg := Lib.hid (show ∀ b, OwnB Ao b → b < g1 ∧ B ≤ b from fun b hb => by have := HDo.out b hb; omega)
      refine wp_region_privz 7 [6] [.q, .q, .q, .q, .q, .q, .q] (fun _ => (.cells #[] 29, fun b => .pointer none)) ?af39 (by kernel_rfl) (by kernel_rfl) (fun _ _ _ _ _ h => h) ?walk39 ?tail39
      case walk39 =>
        intro V hV
        have SV := Lib.hid (S3.out.below hV)
        have z_x := (SV.out.get 1 rfl).lt
        have c_x0 := (SV.out.get 1 rfl).cell 0 rfl
        have c_x1 := (SV.out.get 1 rfl).cell 1 rfl
        simp only [List.take_succ_cons, List.take_zero]
        repeat (refine wpP_q ?_; go_big_quiet_step (first | (go_at_call 96; with_reducible exact past_same (K96.out _)) | (go_at_call 115; with_reducible exact past_below (KCa.out _))); refine wpQuiet_nil ?_)
        refine wpP_nil ?_
        rfl
      case tail39 =>
      intro gs w4 hb4 _ _
      simp only [List.take_succ_cons, List.take_zero, fillP, List.drop_succ_cons, List.drop_zero]
      have S4 := Lib.hid (S3.out.below hb4)
      have O4 := Lib.hid (ownBelow O3.out hb4)
      have R4 := Lib.hid (And.intro (R3.out.1.below hb4) (R3.out.2.below hb4))
      clear hb4 KCa S3 O3 R3
      have z_x := (S4.out.get 1 rfl).lt
      have c_x0 := (S4.out.get 1 rfl).cell 0 rfl
      have f_x0 := (S4.out.get 1 rfl).free 0
      have c_x1 := (S4.out.get 1 rfl).cell 1 rfl
      have f_x1 := (S4.out.get 1 rfl).free 1
      go_upto_region 40 with (fail)
      refine gen_three (fun W => St w [(g1 + 1, 29, [.int .i64 b1, .int .i64 b2]), (g1, 29, [.int .i64 A1, .int .i64 A2]), (go_, 135, [.int .i64 ok.d, .int .i64 ok.q, .int .i64 ok.ld]), (w.heap.size + 1 + 1, 57, [.int .i64 st.d, .int .i64 st.q, .int .i64 st.w, .int .i64 st.a]), (g, 52, [.int .i64 R.r, .int .i64 R.ld, .int .i64 R.lq, .int .i64 R.fx, .int .i64 R.po, .int .i64 R.mi, .int .i64 R.sp, .int .i64 R.dr, .int .i64 R.cu, .int .i64 R.fa]), (gl, 131, lmC m (Dv.lmLo m l) (Dv.lmHi m l) (Dv.lmS l).lo (Dv.lmS l).hi), (w.heap.size, 52, [.int .i64 m.r, .int .i64 m.ld, .int .i64 m.lq, .int .i64 m.fx, .int .i64 m.po, .int .i64 m.mi, .int .i64 m.sp, .int .i64 m.dr, .int .i64 m.cu, .int .i64 m.fa])] W) (fun W => W.ownsRow B 57 4 (.slice Ao k co) k (flatR (Dv.plOut (⟨m, R, l, p0, i0, p1, i1, u⟩ : Pl) os es (⟨s, 0, 0⟩ : Dv.PS) k))) (fun W => RgAt W g5 p0 i0 sd ∧ RgAt W g6 p1 i1 sq) (S4.out.upd29 1 rfl (by omega) [.int .i64 A1, .int .i64 A2] rfl) (ownSet (ownSet O4.out (fun h => by have := HDg.out _ h; simp at this) _) (fun h => by have := HDg.out _ h; simp at this) _) ⟨(R4.out.1.set (by simp; omega) _).set (by simp; omega) _, (R4.out.2.set (by simp; omega) _).set (by simp; omega) _⟩ ?_
      clear S4 O4 R4 z_x c_x0 c_x1 f_x0 f_x1
      rintro w3 i1 i2 i3
      have S3 := Lib.hid i1
      have O3 := Lib.hid i2
      have R3 := Lib.hid i3
      clear i1 i2 i3
      trace "r39"
      refine wp_region_privz 7 [6] [.q, .q, .q, .q, .q, .q, .q] (fun _ => (.cells #[] 29, fun b => .pointer none)) ?af40 (by kernel_rfl) (by kernel_rfl) (fun _ _ _ _ _ h => h) ?walk40 ?tail40
      case walk40 =>
        intro V hV
        have SV := Lib.hid (S3.out.below hV)
        have z_x := (SV.out.get 0 rfl).lt
        have c_x0 := (SV.out.get 0 rfl).cell 0 rfl
        have c_x1 := (SV.out.get 0 rfl).cell 1 rfl
        simp only [List.take_succ_cons, List.take_zero]
        repeat (refine wpP_q ?_; go_big_quiet_step (first | (go_at_call 96; with_reducible exact past_same (K96.out _)) | (go_at_call 115; with_reducible exact past_below (KCb.out _))); refine wpQuiet_nil ?_)
        refine wpP_nil ?_
        rfl
      case tail40 =>
      intro gs w4 hb4 _ _
      simp only [List.take_succ_cons, List.take_zero, fillP, List.drop_succ_cons, List.drop_zero]
      have S4 := Lib.hid (S3.out.below hb4)
      have O4 := Lib.hid (ownBelow O3.out hb4)
      have R4 := Lib.hid (And.intro (R3.out.1.below hb4) (R3.out.2.below hb4))
      clear hb4 KCb K96 S3 O3 R3
      have z_x := (S4.out.get 0 rfl).lt
      have c_x0 := (S4.out.get 0 rfl).cell 0 rfl
      have f_x0 := (S4.out.get 0 rfl).free 0
      have c_x1 := (S4.out.get 0 rfl).cell 1 rfl
      have f_x1 := (S4.out.get 0 rfl).free 1
      go_upto_region 41 with (fail)
      refine gen_three (fun W => St w [(g1 + 1, 29, [.int .i64 B1, .int .i64 B2]), (g1, 29, [.int .i64 A1, .int .i64 A2]), (go_, 135, [.int .i64 ok.d, .int .i64 ok.q, .int .i64 ok.ld]), (w.heap.size + 1 + 1, 57, [.int .i64 st.d, .int .i64 st.q, .int .i64 st.w, .int .i64 st.a]), (g, 52, [.int .i64 R.r, .int .i64 R.ld, .int .i64 R.lq, .int .i64 R.fx, .int .i64 R.po, .int .i64 R.mi, .int .i64 R.sp, .int .i64 R.dr, .int .i64 R.cu, .int .i64 R.fa]), (gl, 131, lmC m (Dv.lmLo m l) (Dv.lmHi m l) (Dv.lmS l).lo (Dv.lmS l).hi), (w.heap.size, 52, [.int .i64 m.r, .int .i64 m.ld, .int .i64 m.lq, .int .i64 m.fx, .int .i64 m.po, .int .i64 m.mi, .int .i64 m.sp, .int .i64 m.dr, .int .i64 m.cu, .int .i64 m.fa])] W) (fun W => W.ownsRow B 57 4 (.slice Ao k co) k (flatR (Dv.plOut (⟨m, R, l, p0, i0, p1, i1, u⟩ : Pl) os es (⟨s, 0, 0⟩ : Dv.PS) k))) (fun W => RgAt W g5 p0 i0 sd ∧ RgAt W g6 p1 i1 sq) (S4.out.upd29 0 rfl (by omega) [.int .i64 B1, .int .i64 B2] rfl) (ownSet (ownSet O4.out (fun h => by have := HDg.out _ h; simp at this; omega) _) (fun h => by have := HDg.out _ h; simp at this; omega) _) ⟨(R4.out.1.set (by simp; omega) _).set (by simp; omega) _, (R4.out.2.set (by simp; omega) _).set (by simp; omega) _⟩ ?_
      clear S4 O4 R4 z_x c_x0 c_x1 f_x0 f_x1
      rintro w5 i1 i2 i3
      have S5 := Lib.hid i1
      have O5 := Lib.hid i2
      have R5 := Lib.hid i3
      clear i1 i2 i3
      trace "r40"
      have HNA := Lib.hid (show (b5 && b6) = false → pE = 17 ∧ pV = [] from fun h => HP.out.hNo k 17 hlt HC0.out (by
        rw [HPK.out, (plE_all (⟨m, R, l, p0, i0, p1, i1, u⟩ : Pl) st sd sq ok ek HWV.out HAB.out HAA.out HBB.out rfl rfl ⟨rfl, rfl⟩ ⟨rfl, rfl⟩ rfl).1, if_pos (show upB ((⟨m, R, l, p0, i0, p1, i1, u⟩ : Pl)).m.fa [wv] = true from HB.out.symm), ← H56.out.1, ← H56.out.2, h]
        rfl) (by decide))
      cases b5
      · have HN := Lib.hid (HNA.out rfl)
        go_wp2
        go_ret2
        exact PlP.of HN.out rfl S5.out.1
      cases b6
      · have HN := Lib.hid (HNA.out rfl)
        go_wp2
        go_ret2
        exact PlP.of HN.out rfl S5.out.1
      clear HNA
      go_upto_region 43 with (fail)
      trace "r41"
      have htun := HP.out.hT0
      have htun1 := HP.out.hT1
      simp only [Dv.tunB, decide_eq_true_eq] at htun htun1
      have h56 := H56.out
      simp only [eq_comm (a := true), decide_eq_true_eq] at h56
      obtain ⟨dd, hdd⟩ : ∃ x, x = ok.d - st.d := ⟨_, rfl⟩
      obtain ⟨qq, hqq⟩ : ∃ x, x = ok.q - st.q := ⟨_, rfl⟩
      have dd0 : -2097152 ≤ dd ∧ dd ≤ 2097152 := by omega
      have qq0 : -2097152 ≤ qq ∧ qq ≤ 2097152 := by omega
      have K76a := Lib.hid (fun (V : World) (h : RgAt V g5 p0 i0 sd) => step_c g5 p0 i0 sd dd A1 A2 V h.1 h.2.1 h.2.2.1 h.2.2.2.1 h.2.2.2.2 ⟨htun.1, htun.2.1⟩ htun.2.2 ⟨sd0, sd1⟩ dd0 h56.1)
      have K76b := Lib.hid (fun (V : World) (h : RgAt V g6 p1 i1 sq) => step_c g6 p1 i1 sq qq B1 B2 V h.1 h.2.1 h.2.2.1 h.2.2.2.1 h.2.2.2.2 ⟨htun1.1, htun1.2.1⟩ htun1.2.2 ⟨sq0, sq1⟩ qq0 h56.2)
      clear htun htun1 h56
      obtain ⟨V1, hV1⟩ : ∃ x, x = Dv.clip (Dv.raw p0 sd dd) A1 A2 := ⟨_, rfl⟩
      obtain ⟨N1, hN1⟩ : ∃ x, x = Dv.regS i0 sd dd (Dv.regC (Dv.raw p0 sd dd) dd A1 A2) := ⟨_, rfl⟩
      obtain ⟨V2, hV2⟩ : ∃ x, x = Dv.clip (Dv.raw p1 sq qq) B1 B2 := ⟨_, rfl⟩
      obtain ⟨N2, hN2⟩ : ∃ x, x = Dv.regS i1 sq qq (Dv.regC (Dv.raw p1 sq qq) qq B1 B2) := ⟨_, rfl⟩
      rw [← hV1, ← hN1] at K76a
      rw [← hV2, ← hN2] at K76b
      obtain ⟨T, E, hT⟩ : ∃ T E, Dv.stR R st V1 V2 ok.ld = (T, E) := ⟨_, _, rfl⟩
      have P50 := Lib.hid (show ∀ W, Calls Try.prog 50 #[.agg #[.int .i64 R.r, .int .i64 R.ld, .int .i64 R.lq, .int .i64 R.fx, .int .i64 R.po, .int .i64 R.mi, .int .i64 R.sp, .int .i64 R.dr, .int .i64 R.cu, .int .i64 R.fa], .agg #[.int .i64 st.d, .int .i64 st.q, .int .i64 st.w, .int .i64 st.a], .int .i64 V1, .int .i64 V2, .int .i64 ok.ld] W fun e w' => e = .returned (.tuple #[.agg #[.int .i64 T.d, .int .i64 T.q, .int .i64 T.w, .int .i64 T.a], .int .i64 E]) ∧ Below W.heap.size W w' from fun W => by
        have h := Step_c R st V1 V2 ok.ld W
        rw [hT] at h
        exact h)
      have HALL := Lib.hid (plE_all (⟨m, R, l, p0, i0, p1, i1, u⟩ : Pl) st sd sq ok ek HWV.out HAB.out HAA.out HBB.out hdd hqq ⟨hV1, hN1⟩ ⟨hV2, hN2⟩ hT)
      have hwd : IntKind.i64.wrap (ok.d - st.d) = dd := by rw [← hdd]; exact IntWalk.i64_in _ (by omega)
      have hwq : IntKind.i64.wrap (ok.q - st.q) = qq := by rw [← hqq]; exact IntWalk.i64_in _ (by omega)
      have HWD := Lib.hid (And.intro hwd hwq)
      clear hdd hqq hV1 hN1 hV2 hN2 hT bd0 bd1 bq0 bq1 hwd hwq
      have HSr := Lib.hid (show ∀ b, (b = g5 ∨ b = g6) → w.heap.size ≤ b ∧ ∀ x : BlkRow, x ∈ [(g1 + 1, 29, [.int .i64 B1, .int .i64 B2]), (g1, 29, [.int .i64 A1, .int .i64 A2]), (go_, 135, [.int .i64 ok.d, .int .i64 ok.q, .int .i64 ok.ld]), (w.heap.size + 1 + 1, 57, [.int .i64 st.d, .int .i64 st.q, .int .i64 st.w, .int .i64 st.a]), (g, 52, [.int .i64 R.r, .int .i64 R.ld, .int .i64 R.lq, .int .i64 R.fx, .int .i64 R.po, .int .i64 R.mi, .int .i64 R.sp, .int .i64 R.dr, .int .i64 R.cu, .int .i64 R.fa]), (gl, 131, lmC m (Dv.lmLo m l) (Dv.lmHi m l) (Dv.lmS l).lo (Dv.lmS l).hi), (w.heap.size, 52, [.int .i64 m.r, .int .i64 m.ld, .int .i64 m.lq, .int .i64 m.fx, .int .i64 m.po, .int .i64 m.mi, .int .i64 m.sp, .int .i64 m.dr, .int .i64 m.cu, .int .i64 m.fa])] → x.1 ≠ b from fun b hb => by
        refine ⟨by omega, fun x hx => ?_⟩
        simp only [List.mem_cons, List.not_mem_nil, or_false] at hx
        rcases hx with rfl | rfl | rfl | rfl | rfl | rfl | rfl <;> simp only <;> omega)
      refine Ef.wp_region_eff 25 [23] [9, 17] [.q, .q, .q, .q, .q, .q, .q, .q, .q, .e 0, .q, .q, .q, .q, .q, .q, .q, .e 1, .q, .q, .q, .q, .q, .q, .p] (fun _ => (.cells #[.int .i64 0, .int .i64 0, .int .i64 0, .int .i64 0] 57, fun b => .pointer (some ⟨b, 0, none⟩))) (fun b => b = g5 ∨ b = g6) (Rg43 g5 g6 p0 i0 p1 i1 sd sq N1 N2) (by rintro b (rfl | rfl); exact R5.out.1.1; exact R5.out.2.1) ⟨R5.out.1.drew, R5.out.2.drew⟩ (fun n V V' h hb => ⟨h.1.below hb, h.2.below hb⟩) ?af43 (by kernel_rfl) (by kernel_rfl) (fun _ _ _ _ _ h => h) ?walk43 ?tail43
      case walk43 =>
        intro V hT
        have SV := Lib.hid (S5.out.touchR hT HSr.out)
        clear hT
        have z_r := (SV.out.get 4 rfl).lt
        have c_r0 := (SV.out.get 4 rfl).cell 0 rfl
        have c_r1 := (SV.out.get 4 rfl).cell 1 rfl
        have c_r2 := (SV.out.get 4 rfl).cell 2 rfl
        have c_r3 := (SV.out.get 4 rfl).cell 3 rfl
        have c_r4 := (SV.out.get 4 rfl).cell 4 rfl
        have c_r5 := (SV.out.get 4 rfl).cell 5 rfl
        have c_r6 := (SV.out.get 4 rfl).cell 6 rfl
        have c_r7 := (SV.out.get 4 rfl).cell 7 rfl
        have c_r8 := (SV.out.get 4 rfl).cell 8 rfl
        have c_r9 := (SV.out.get 4 rfl).cell 9 rfl
        have z_s := (SV.out.get 3 rfl).lt
        have c_s0 := (SV.out.get 3 rfl).cell 0 rfl
        have c_s1 := (SV.out.get 3 rfl).cell 1 rfl
        have c_s2 := (SV.out.get 3 rfl).cell 2 rfl
        have c_s3 := (SV.out.get 3 rfl).cell 3 rfl
        have z_o := (SV.out.get 2 rfl).lt
        have c_o0 := (SV.out.get 2 rfl).cell 0 rfl
        have c_o1 := (SV.out.get 2 rfl).cell 1 rfl
        have c_o2 := (SV.out.get 2 rfl).cell 2 rfl
        have z_x := (SV.out.get 1 rfl).lt
        have c_x0 := (SV.out.get 1 rfl).cell 0 rfl
        have c_x1 := (SV.out.get 1 rfl).cell 1 rfl
        have z_y := (SV.out.get 0 rfl).lt
        have c_y0 := (SV.out.get 0 rfl).cell 0 rfl
        have c_y1 := (SV.out.get 0 rfl).cell 1 rfl
        obtain ⟨hwd, hwq⟩ := HWD.out
        simp only [List.take_succ_cons, List.take_zero]
        iterate 9 (refine Ef.wpP_q ?_; go_big_quiet_step (fail); refine wpQuiet_nil ?_)
        refine Ef.wpP_e (.int .i64 V1) ?_ ?_
        · intro V' hT' hJ'
          refine ⟨by kernel_rfl, 76, #[.pointer (some ⟨g5, 0, none⟩), .int .i64 dd, .agg #[.int .i64 A1, .int .i64 A2]], by go_simp, ?_⟩
          refine (K76a.out V' hJ'.1).mono ?_
          rintro e w'' ⟨he, hst⟩
          exact ⟨he, (Touch.refl _ _).grown hst.2.2.2.2 (fun k hk => .inl (.inl (Option.some.inj hk).symm)), RgAt.step hst, hJ'.2.grown hst.2.2.2.2 (fun e => H56n.out (Option.some.inj e).symm)⟩
        (try simp only [Act.put, List.setIfInBounds_toArray, List.set_cons_zero, List.set_cons_succ])
        iterate 7 (refine Ef.wpP_q ?_; go_big_quiet_step (fail); refine wpQuiet_nil ?_)
        refine Ef.wpP_e (.int .i64 V2) ?_ ?_
        · intro V' hT' hJ'
          refine ⟨by kernel_rfl, 76, #[.pointer (some ⟨g6, 0, none⟩), .int .i64 qq, .agg #[.int .i64 B1, .int .i64 B2]], by go_simp, ?_⟩
          refine (K76b.out V' hJ'.2).mono ?_
          rintro e w'' ⟨he, hst⟩
          exact ⟨he, (Touch.refl _ _).grown hst.2.2.2.2 (fun k hk => .inl (.inr (Option.some.inj hk).symm)), hJ'.1.grown hst.2.2.2.2 (fun e => H56n.out (Option.some.inj e)), RgAt.step hst⟩
        (try simp only [Act.put, List.setIfInBounds_toArray, List.set_cons_zero, List.set_cons_succ])
        iterate 6 (refine Ef.wpP_q ?_; go_big_quiet_step ((go_at_call 50; with_reducible exact past_below (P50.out _))); refine wpQuiet_nil ?_)
        refine Ef.wpP_p (by kernel_rfl) (fun _ => by kernel_rfl) ?_
        (try simp only [Act.put, List.setIfInBounds_toArray, List.set_cons_zero, List.set_cons_succ])
        refine Ef.wpP_nil ?_
        rfl
      case tail43 =>
      intro gs w8 hT8 hJ8 hP _
      obtain ⟨hg_t, k_t⟩ := hP 24 rfl
      simp only [List.take_succ_cons, List.take_zero, Ef.fillP]
      (try simp only [Act.put, List.setIfInBounds_toArray, List.set_cons_zero, List.set_cons_succ])
      generalize gs 24 = gt at hg_t k_t ⊢
      clear hP
      have k2_t : Blk w8 gt 57 [.int .i64 0, .int .i64 0, .int .i64 0, .int .i64 0] := k_t
      have S8 := Lib.hid ((S5.out.touchR hT8 HSr.out).addT k2_t (S5.out.apart' hg_t))
      have O8 := Lib.hid (ownTouch O5.out hT8 (fun b hb => by have := HDg.out b hb; omega))
      have R8 := Lib.hid (show RgAt w8 g5 p0 i0 N1 ∧ RgAt w8 g6 p1 i1 N2 from hJ8)
      have HDt := Lib.hid (show ¬ OwnB Ao gt from fun h => by have := (ownLt O5.out h).1; omega)
      have hgt : w.heap.size ≤ gt := Nat.le_trans S5.out.1.size hg_t
      have hgt5 : g5 < gt ∧ g6 < gt := ⟨Nat.lt_of_lt_of_le R5.out.1.1 hg_t, Nat.lt_of_lt_of_le R5.out.2.1 hg_t⟩
      have hwS : w5.heap.size ≤ w8.heap.size := hT8.size
      have hBW2 : B ≤ w8.heap.size := by have := (S5.out.get 2 rfl).lt; omega
      have z_t := (S8.out.get 0 rfl).lt
      have c_t0 := (S8.out.get 0 rfl).cell 0 rfl
      have f_t0 := (S8.out.get 0 rfl).free 0
      have c_t1 := (S8.out.get 0 rfl).cell 1 rfl
      have f_t1 := (S8.out.get 0 rfl).free 1
      have c_t2 := (S8.out.get 0 rfl).cell 2 rfl
      have f_t2 := (S8.out.get 0 rfl).free 2
      have c_t3 := (S8.out.get 0 rfl).cell 3 rfl
      have f_t3 := (S8.out.get 0 rfl).free 3
      clear hT8 hJ8 S5 O5 R5 hg_t k_t k2_t hwS
      simp only [List.drop_succ_cons, List.drop_zero]
      go_upto_region 44 with (fail)
      refine gen_three (fun W => St w [(gt, 57, T.cs), (g1 + 1, 29, [.int .i64 B1, .int .i64 B2]), (g1, 29, [.int .i64 A1, .int .i64 A2]), (go_, 135, [.int .i64 ok.d, .int .i64 ok.q, .int .i64 ok.ld]), (w.heap.size + 1 + 1, 57, [.int .i64 st.d, .int .i64 st.q, .int .i64 st.w, .int .i64 st.a]), (g, 52, [.int .i64 R.r, .int .i64 R.ld, .int .i64 R.lq, .int .i64 R.fx, .int .i64 R.po, .int .i64 R.mi, .int .i64 R.sp, .int .i64 R.dr, .int .i64 R.cu, .int .i64 R.fa]), (gl, 131, lmC m (Dv.lmLo m l) (Dv.lmHi m l) (Dv.lmS l).lo (Dv.lmS l).hi), (w.heap.size, 52, [.int .i64 m.r, .int .i64 m.ld, .int .i64 m.lq, .int .i64 m.fx, .int .i64 m.po, .int .i64 m.mi, .int .i64 m.sp, .int .i64 m.dr, .int .i64 m.cu, .int .i64 m.fa])] W ∧ B ≤ W.heap.size) (fun W => W.ownsRow B 57 4 (.slice Ao k co) k (flatR (Dv.plOut (⟨m, R, l, p0, i0, p1, i1, u⟩ : Pl) os es (⟨s, 0, 0⟩ : Dv.PS) k))) (fun W => RgAt W g5 p0 i0 N1 ∧ RgAt W g6 p1 i1 N2) ⟨S8.out.upd29 0 rfl hgt T.cs rfl, by simpa using hBW2⟩ (ownSet (ownSet (ownSet (ownSet O8.out HDt.out _) HDt.out _) HDt.out _) HDt.out _) ⟨(((R8.out.1.set (by simp; omega) _).set (by simp; omega) _).set (by simp; omega) _).set (by simp; omega) _, (((R8.out.2.set (by simp; omega) _).set (by simp; omega) _).set (by simp; omega) _).set (by simp; omega) _⟩ ?_
      clear S8 O8 R8 z_t c_t0 c_t1 c_t2 c_t3 f_t0 f_t1 f_t2 f_t3 hBW2
      rintro w9 ⟨i1, hBW2⟩ i2 i3
      have S9 := Lib.hid i1
      have O9 := Lib.hid i2
      have R9 := Lib.hid i3
      clear i1 i2 i3
      trace "r43"
      have HEQ := Lib.hid (show Dv.plK (⟨m, R, l, p0, i0, p1, i1, u⟩ : Pl) os es (⟨s, 0, 0⟩ : Dv.PS) k = E by
        rw [HPK.out, HALL.out.1, if_pos (show upB ((⟨m, R, l, p0, i0, p1, i1, u⟩ : Pl)).m.fa [wv] = true from HB.out.symm), ← H56.out.1, ← H56.out.2]
        rfl)
      by_cases hE0 : E = 0
      rotate_left 1
      · have HN := Lib.hid (HP.out.hNo k E hlt HC0.out HEQ.out hE0)
        have hbt : (E != 0) = true := by simpa using hE0
        clear hE0
        go_wp2
        go_ret2
        exact PlP.of HN.out rfl S9.out.1
      subst hE0
      have HC1 := Lib.hid (Dv.plC_go HC0.out HEQ.out)
      have HA1 := Lib.hid (HPN.out.trans HALL.out.2)
      have HO1 : Hid (flatR (Dv.plOut (⟨m, R, l, p0, i0, p1, i1, u⟩ : Pl) os es (⟨s, 0, 0⟩ : Dv.PS) k) ++ T.cs = flatR (Dv.plOut (⟨m, R, l, p0, i0, p1, i1, u⟩ : Pl) os es (⟨s, 0, 0⟩ : Dv.PS) (k + 1))) := Lib.hid (by rw [Dv.plOut_succ, flatR_snoc, HA1.out])
      have HD9 := Lib.hid (show ∀ b, OwnB Ao b → B ≤ b ∧ b < go_ ∧ b < g1 ∧ b ≠ gt from fun b hb => ⟨(ownLt O9.out hb).2, (HDo.out b hb).2, (HDg.out b hb).1, fun e => HDt.out (e ▸ hb)⟩)
      clear HEQ HALL HPK HPN HB H56 HAA HBB HAB HDt HDo HDg
      obtain ⟨iR, hi, hz0, hz1, hz2⟩ := info_parts infoRot
      have z_t := (S9.out.get 0 rfl).lt
      have c_t0 := (S9.out.get 0 rfl).cell 0 rfl
      have c_t1 := (S9.out.get 0 rfl).cell 1 rfl
      have c_t2 := (S9.out.get 0 rfl).cell 2 rfl
      have c_t3 := (S9.out.get 0 rfl).cell 3 rfl
      go_upto_region 47 with (at_builtin; refine wpList_append_any (.tmp 258) (.tmp 260) 83 rfl rfl B 57 iR (.agg #[.int .i64 0, .int .i64 0, .int .i64 0, .int .i64 0]) 4 32 Try.underlying83 hi hz0 hz1 hz2 rfl (by decide) Ao k co (flatR (Dv.plOut (⟨m, R, l, p0, i0, p1, i1, u⟩ : Pl) os es (⟨s, 0, 0⟩ : Dv.PS) k)) (by rfl) (ownBelow O9.out ((Below.refl _ _).alloc (Nat.le_refl _) _)) (some ⟨w9.heap.size, 0, none⟩) 1 1 T.cs (by rfl) rfl (srcR (Blk.new' w9 #[.int .i64 T.d, .int .i64 T.q, .int .i64 T.w, .int .i64 T.a] 57)) (by simp [Rot.cs, Value.oneCell']) (by unfold maxLen; omega) (by omega) (by simp; omega) ?_; intro A2 co2 w10 hown2 hgrow2 hat2; have OA := Lib.hid hown2; have HG2 := Lib.hid hgrow2; have HAT2 := Lib.hid hat2; clear hown2 hgrow2 hat2)
      trace "r46"
      have hba : Below w9.heap.size w9 (w9.alloc (.cells #[.int .i64 T.d, .int .i64 T.q, .int .i64 T.w, .int .i64 T.a] 57)) := (Below.refl _ _).alloc (Nat.le_refl _) _
      have ST0 := Lib.hid (S9.out.below hba)
      have RT0 := Lib.hid (And.intro (R9.out.1.below hba) (R9.out.2.below hba))
      have SA := Lib.hid (ST0.out.grown HG2.out (fun b hb => by
        have := HD9.out b (ownB_iff.2 hb)
        refine ⟨by omega, fun x hx => ?_⟩
        simp only [List.mem_cons, List.not_mem_nil, or_false] at hx
        rcases hx with rfl | rfl | rfl | rfl | rfl | rfl | rfl | rfl <;> simp only <;> omega))
      have RA := Lib.hid (And.intro (RT0.out.1.grown HG2.out (fun e => by have := HD9.out _ (ownB_iff.2 e.symm); omega)) (RT0.out.2.grown HG2.out (fun e => by have := HD9.out _ (ownB_iff.2 e.symm); omega)))
      have HDA := Lib.hid (show ¬ OwnB A2 (w.heap.size + 1 + 1) from fun h => by
        have hz := (S9.out.get 3 rfl).lt
        rcases HAT2.out _ h with h | h
        · have := HD9.out _ h; omega
        · simp at h; omega)
      have hBW3 : B ≤ w10.heap.size := by have := (SA.out.get 2 rfl).lt; omega
      clear ST0 RT0 hba HG2 HAT2 HD9 S9 O9 R9 z_t c_t0 c_t1 c_t2 c_t3
      have z_t := (SA.out.get 0 rfl).lt
      have c_t0 := (SA.out.get 0 rfl).cell 0 rfl
      have c_t1 := (SA.out.get 0 rfl).cell 1 rfl
      have c_t2 := (SA.out.get 0 rfl).cell 2 rfl
      have c_t3 := (SA.out.get 0 rfl).cell 3 rfl
      have z_s := (SA.out.get 4 rfl).lt
      have c_s0 := (SA.out.get 4 rfl).cell 0 rfl
      have f_s0 := (SA.out.get 4 rfl).free 0
      have c_s1 := (SA.out.get 4 rfl).cell 1 rfl
      have f_s1 := (SA.out.get 4 rfl).free 1
      have c_s2 := (SA.out.get 4 rfl).cell 2 rfl
      have f_s2 := (SA.out.get 4 rfl).free 2
      have c_s3 := (SA.out.get 4 rfl).cell 3 rfl
      have f_s3 := (SA.out.get 4 rfl).free 3
      go_wp2
      go_roundw
      case rel =>
        refine ⟨k + 1, T, N1, N2, A2, co2, by omega, by go_num, rfl, Lib.hid ⟨⟨⟨HA1.out, HC1.out⟩, ?_, ?_, ?_, ?_⟩, by simpa using hBW3⟩⟩
        · exact SA.out.tail.tail.tail.tail.upd29 0 rfl (by omega) T.cs rfl
        · rw [← HO1.out]
          exact ownSet (ownSet (ownSet (ownSet OA.out HDA.out _) HDA.out _) HDA.out _) HDA.out _
        · exact (((RA.out.1.set (by simp; omega) _).set (by simp; omega) _).set (by simp; omega) _).set (by simp; omega) _
        · exact (((RA.out.2.set (by simp; omega) _).set (by simp; omega) _).set (by simp; omega) _).set (by simp; omega) _
      case measure => simp [intOf]; omega
    · obtain rfl : k = n := by omega
      go_wp2
      conv => arg 2; whnf
      have HY := Lib.hid (HP.out.hYes HJ.out.1.1.2)
      go_wp2
      go_ret2
      have hl := Dv.plOut_len (⟨m, R, l, p0, i0, p1, i1, u⟩ : Pl) os es (⟨s, 0, 0⟩ : Dv.PS) k
      rw [HY.out.1, HY.out.2]
      exact ⟨HJ.out.1.2.1.1, Ao, co, by rw [hl]; rfl, ownRot HJ.out.1.2.2.1⟩
end Go.Proofs.Ytcneohhfnnelgaa
namespace Go.Proofs.Ytcneohhfnnelgaa
open Go.RowKit
set_option linter.unusedVariables false
namespace Dv
def up (n d : Int) : Int := -(-n / d)
def hoW (m : Mot) (l : List Sp) : Int := m.fa + max (lmS l).hi (-(lmS l).lo)
def hoS (l : List Sp) : Int := (lmS l).hi - (lmS l).lo
def hoC1 (m hi : Mot) (W : Int) : Int := up (hi.r * m.cu) 1000 + up (W * hi.lq * m.cu) 1000000
def hoC2 (m hi : Mot) (W : Int) : Int := up (hi.r * m.cu) 1000 + up (W * hi.ld * m.cu) 1000000 + W * hi.fx
def hoD (m lo hi : Mot) (W S : Int) : Int := up ((hi.r - lo.r) * m.cu) 1000 + up ((S * hi.lq + W * (hi.lq - lo.lq)) * m.cu) 1000000 + 4
def hoQ (m lo hi : Mot) (W S : Int) : Int := up ((hi.r - lo.r) * m.cu) 1000 + up ((S * hi.ld + W * (hi.ld - lo.ld)) * m.cu) 1000000 + S * hi.fx + W * (hi.fx - lo.fx) + 4
def hoG (m lo hi : Mot) (W S U : Int) : Bool := if U < max (hoC1 m hi W) (hoC2 m hi W) + 2 then false else (decide ((hoD m lo hi W S + 2) * m.mi ≤ 2 * m.cu * lo.ld) && decide ((hoQ m lo hi W S + 2) * m.mi ≤ 2 * m.cu * lo.lq))
def hoB (m : Mot) (l : List Sp) (u : Int) : Bool := hoG m (lmLo m l) (lmHi m l) (hoW m l) (hoS l) (roomV u)
def hoE (m : Mot) (l : List Sp) (u : Int) : Int := if lmE m l = 0 then (if busB u = true then 0 else 3) else lmE m l
def hoV (m : Mot) (l : List Sp) (u : Int) : Bool := if hoE m l u = 0 then hoB m l u else false
theorem up_bd {n d : Int} (hd : 1 ≤ d) (B : Int) (hB : 0 ≤ B) (h : -B ≤ n ∧ n ≤ B) : -B ≤ up n d ∧ up n d ≤ B := by
  unfold up
  have := ediv_bd (-n) d hd B (by omega) (by omega) hB
  omega
theorem ho_bd {m lo hi : Mot} {W S : Int} (hm : chk m) (hlo : chk lo) (hhi : chk hi) (hW : -32768 ≤ W ∧ W ≤ 32768) (hS : -32768 ≤ S ∧ S ≤ 32768) : (-1099511627776 ≤ hi.r * m.cu ∧ hi.r * m.cu ≤ 1099511627776) ∧ (-137438953472 ≤ W * hi.lq ∧ W * hi.lq ≤ 137438953472) ∧ (-144115188075855872 ≤ W * hi.lq * m.cu ∧ W * hi.lq * m.cu ≤ 144115188075855872) ∧ (-137438953472 ≤ W * hi.ld ∧ W * hi.ld ≤ 137438953472) ∧ (-144115188075855872 ≤ W * hi.ld * m.cu ∧ W * hi.ld * m.cu ≤ 144115188075855872) ∧ (-1099511627776 ≤ (hi.r - lo.r) * m.cu ∧ (hi.r - lo.r) * m.cu ≤ 1099511627776) ∧ (-137438953472 ≤ S * hi.lq ∧ S * hi.lq ≤ 137438953472) ∧ (-137438953472 ≤ W * (hi.lq - lo.lq) ∧ W * (hi.lq - lo.lq) ≤ 137438953472) ∧ (-288230376151711744 ≤ (S * hi.lq + W * (hi.lq - lo.lq)) * m.cu ∧ (S * hi.lq + W * (hi.lq - lo.lq)) * m.cu ≤ 288230376151711744) ∧ (-137438953472 ≤ S * hi.ld ∧ S * hi.ld ≤ 137438953472) ∧ (-137438953472 ≤ W * (hi.ld - lo.ld) ∧ W * (hi.ld - lo.ld) ≤ 137438953472) ∧ (-288230376151711744 ≤ (S * hi.ld + W * (hi.ld - lo.ld)) * m.cu ∧ (S * hi.ld + W * (hi.ld - lo.ld)) * m.cu ≤ 288230376151711744) ∧ (-137438953472 ≤ W * hi.fx ∧ W * hi.fx ≤ 137438953472) ∧ (-137438953472 ≤ S * hi.fx ∧ S * hi.fx ≤ 137438953472) ∧ (-137438953472 ≤ W * (hi.fx - lo.fx) ∧ W * (hi.fx - lo.fx) ≤ 137438953472) ∧ (-8796093022208 ≤ 2 * m.cu * lo.ld ∧ 2 * m.cu * lo.ld ≤ 8796093022208) ∧ (-8796093022208 ≤ 2 * m.cu * lo.lq ∧ 2 * m.cu * lo.lq ≤ 8796093022208) := by
  obtain ⟨⟨r1, r2⟩, ⟨d1, d2⟩, ⟨q1, q2⟩, ⟨f1, f2⟩, _⟩ := hlo
  obtain ⟨⟨r3, r4⟩, ⟨d3, d4⟩, ⟨q3, q4⟩, ⟨f3, f4⟩, _⟩ := hhi
  obtain ⟨_, _, _, _, _, _, _, _, ⟨c1, c2⟩, _⟩ := hm
  have b0 := mul_bd (x := hi.r) (y := m.cu) 1048576 1048576 (by omega) (by omega)
  have b1 := mul_bd (x := W) (y := hi.lq) 32768 4194304 (by omega) (by omega)
  have b2 := mul_bd (x := W * hi.lq) (y := m.cu) 137438953472 1048576 (by omega) (by omega)
  have b3 := mul_bd (x := W) (y := hi.ld) 32768 4194304 (by omega) (by omega)
  have b4 := mul_bd (x := W * hi.ld) (y := m.cu) 137438953472 1048576 (by omega) (by omega)
  have b5 := mul_bd (x := hi.r - lo.r) (y := m.cu) 1048576 1048576 (by omega) (by omega)
  have b6 := mul_bd (x := S) (y := hi.lq) 32768 4194304 (by omega) (by omega)
  have b7 := mul_bd (x := W) (y := hi.lq - lo.lq) 32768 4194304 (by omega) (by omega)
  have b8 := mul_bd (x := S * hi.lq + W * (hi.lq - lo.lq)) (y := m.cu) 274877906944 1048576 (by omega) (by omega)
  have b9 := mul_bd (x := S) (y := hi.ld) 32768 4194304 (by omega) (by omega)
  have b10 := mul_bd (x := W) (y := hi.ld - lo.ld) 32768 4194304 (by omega) (by omega)
  have b11 := mul_bd (x := S * hi.ld + W * (hi.ld - lo.ld)) (y := m.cu) 274877906944 1048576 (by omega) (by omega)
  have b12 := mul_bd (x := W) (y := hi.fx) 32768 4194304 (by omega) (by omega)
  have b13 := mul_bd (x := S) (y := hi.fx) 32768 4194304 (by omega) (by omega)
  have b14 := mul_bd (x := W) (y := hi.fx - lo.fx) 32768 4194304 (by omega) (by omega)
  have b15 := mul_bd (x := 2 * m.cu) (y := lo.ld) 2097152 4194304 (by omega) (by omega)
  have b16 := mul_bd (x := 2 * m.cu) (y := lo.lq) 2097152 4194304 (by omega) (by omega)
  exact ⟨b0, b1, b2, b3, b4, b5, b6, b7, b8, b9, b10, b11, b12, b13, b14, b15, b16⟩
theorem hoG_eq (m lo hi : Mot) (W S U : Int) {D1 C1 C2 D2 E1 E2 : Int} (e1 : up (hi.r * m.cu) 1000 = D1) (e2 : up (W * hi.lq * m.cu) 1000000 = C1) (e3 : up (W * hi.ld * m.cu) 1000000 = C2) (e4 : up ((hi.r - lo.r) * m.cu) 1000 = D2) (e5 : up ((S * hi.lq + W * (hi.lq - lo.lq)) * m.cu) 1000000 = E1) (e6 : up ((S * hi.ld + W * (hi.ld - lo.ld)) * m.cu) 1000000 = E2) :
    hoG m lo hi W S U = (if U < max (D1 + C1) (D1 + C2 + W * hi.fx) + 2 then false else (decide ((D2 + E1 + 4 + 2) * m.mi ≤ 2 * m.cu * lo.ld) && decide ((D2 + E2 + S * hi.fx + W * (hi.fx - lo.fx) + 4 + 2) * m.mi ≤ 2 * m.cu * lo.lq))) := by
  unfold hoG hoC1 hoC2 hoD hoQ
  rw [e1, e2, e3, e4, e5, e6]
theorem lm_span {m : Mot} {l : List Sp} (h : lmE m l = 0) : (lmS l).lo ≤ (lmS l).hi := by
  obtain ⟨_, hl, _, _, _, _, hv⟩ := lm_parts h
  match l, hl with
  | [s0, s1, s2, s3, s4], _ => exact (spV_bd (hv s4 (by simp))).2.2
theorem hoW_bd {m : Mot} {l : List Sp} (h : lmE m l = 0) : (-32768 ≤ hoW m l ∧ hoW m l ≤ 32768) ∧ (-32768 ≤ hoS l ∧ hoS l ≤ 32768) := by
  obtain ⟨hm, _, _, _, h1, h2, _⟩ := lm_parts h
  unfold chk at hm
  unfold hoW hoS
  omega
end Dv
theorem max2_run (x y : Int) (ts : Array TypeId) (t : TypeId) (w : World) : (Builtin.max_ ts t #[.int .i64 x, .int .i64 y]).run Try.prog w = .ok (.int .i64 (max x y)) w := by
  have h : (Builtin.max_ ts t #[.int .i64 x, .int .i64 y]).run Try.prog w = .ok (.int .i64 (if y > x then y else x)) w := by simp [Builtin.max_]; rfl
  rw [h, ← gmax_eq]
end Go.Proofs.Ytcneohhfnnelgaa
namespace Go.Proofs.Ytcneohhfnnelgaa
open Go.RowKit
set_option linter.unusedVariables false

/-- what Holds leaves -/
def HoP (m : Mot) (l : List Sp) (u : Int) (w : World) (e : Ending) (w' : World) : Prop := e = .returned (.tuple #[.bool (Dv.hoV m l u), .int .i64 (Dv.hoE m l u)]) ∧ Below w.heap.size w w'
theorem HoP.no {m : Mot} {l : List Sp} {u : Int} {w w' : World} {e : Ending} {E : Int} (hE : Dv.hoE m l u = E) (h0 : E ≠ 0) (he : e = .returned (.tuple #[.bool false, .int .i64 E])) (hb : Below w.heap.size w w') : HoP m l u w e w' := by
  refine ⟨?_, hb⟩
  rw [he]
  unfold Dv.hoV
  rw [hE, if_neg h0]
theorem HoP.yes {m : Mot} {l : List Sp} {u : Int} {w w' : World} {e : Ending} {B : Bool} (hE : Dv.hoE m l u = 0) (hB : Dv.hoB m l u = B) (he : e = .returned (.tuple #[.bool B, .int .i64 0])) (hb : Below w.heap.size w w') : HoP m l u w e w' := by
  refine ⟨?_, hb⟩
  rw [he]
  unfold Dv.hoV
  rw [hE, if_pos rfl, hB]

theorem St.fill {w W : World} {l : List BlkRow} (h : St w l W) {g : Nat} {t : TypeId} {cs : List Value} (k : Blk W g t cs) (hg : w.heap.size ≤ g) (hn : ∀ x, x ∈ l → x.1 ≠ g) (vs : List Value) (hl : cs.length = vs.length) : St w ((g, t, vs) :: l) (setAll W g 0 vs) :=
  ⟨setAll_below hg vs 0 _ h.1, Has.cons (setAll_blk vs cs [] W k hl) (h.2.1.setAll hn vs 0), by
    rw [List.map_cons, List.nodup_cons]
    refine ⟨fun hm => ?_, h.2.2⟩
    obtain ⟨x, hx, e⟩ := List.mem_map.1 hm
    exact hn x hx e⟩

set_option maxHeartbeats 8000000 in
set_option maxRecDepth 100000 in
theorem Holds_c (m : Mot) (A : Option Addr) (l : List Sp) (u : Int) (cap : Nat) (w : World) (hx : SpAt w A l) (hll : l.length ≤ 4611686018427387904) :
    Calls Try.prog 59 #[.agg #[.int .i64 m.r, .int .i64 m.ld, .int .i64 m.lq, .int .i64 m.fx, .int .i64 m.po, .int .i64 m.mi, .int .i64 m.sp, .int .i64 m.dr, .int .i64 m.cu, .int .i64 m.fa], .slice A l.length cap, .int .i64 u] w (HoP m l u w) := by
  have HX := Lib.hid hx
  have HLL := Lib.hid hll
  clear hx hll
  have S0 := Lib.hid ((St.start w).alloc [.int .i64 m.r, .int .i64 m.ld, .int .i64 m.lq, .int .i64 m.fx, .int .i64 m.po, .int .i64 m.mi, .int .i64 m.sp, .int .i64 m.dr, .int .i64 m.cu, .int .i64 m.fa] 52)
  go_enter Try.func59, Try.ntmps59
  go_wp2_with fail
  refine (newLimiter_c m A l cap _ (HX.out.below S0.out.1) HLL.out).mono ?_
  rintro e w1 ⟨hb1, h⟩
  rcases h with ⟨hne, rfl⟩ | ⟨h0, g, hgz, rfl, hg⟩
  · have S1 := Lib.hid (S0.out.below hb1)
    have HE : Hid (Dv.hoE m l u = Dv.lmE m l) := Lib.hid (by unfold Dv.hoE; rw [if_neg hne])
    have HNE := Lib.hid hne
    have hbt : (Dv.lmE m l != 0) = true := by simpa using hne
    clear hb1 S0 hne
    generalize Dv.lmE m l = E at HE HNE hbt
    go_wp2
    go_ret2
    exact HoP.no HE.out HNE.out rfl S1.out.1
  · have S1 := Lib.hid (S0.out.add hb1 hgz hg)
    have HL := Lib.hid h0
    clear hb1 S0 hgz hg h0
    by_cases hu : 1 ≤ u ∧ u ≤ 1073741824
    rotate_left 1
    · have HE : Hid (Dv.hoE m l u = 3) := Lib.hid (by unfold Dv.hoE; rw [if_pos HL.out, if_neg (fun h => hu (Dv.busB_iff.1 h))])
      by_cases hu1 : u < 1
      · clear hu
        go_wp2
        go_ret2
        exact HoP.no HE.out (by decide) rfl S1.out.1
      · have hu2 : 1073741824 < u := by omega
        clear hu
        go_wp2
        go_ret2
        exact HoP.no HE.out (by decide) rfl S1.out.1
    · obtain ⟨hu1, hu2⟩ := hu
      have HU : Hid (Dv.busB u = true) := Lib.hid (Dv.busB_iff.2 ⟨hu1, hu2⟩)
      have HE : Hid (Dv.hoE m l u = 0) := Lib.hid (by unfold Dv.hoE; rw [if_pos HL.out, if_pos HU.out])
      obtain ⟨hm, _, hlo, hhi, hsl, hsh, _⟩ := Dv.lm_parts HL.out
      obtain ⟨hW, hS⟩ := Dv.hoW_bd HL.out
      have hsp := Dv.lm_span HL.out
      have hU := Dv.roomV_bd (Dv.busB_iff.1 HU.out)
      have HR := Lib.hid (show ∀ V : World, Calls Try.prog 96 #[.int .i64 u] V fun e w' => e = .returned (.int .i64 (Dv.roomV u)) ∧ V = w' from fun V => room_c u V (Dv.busB_iff.1 HU.out))
      obtain ⟨D1, e1⟩ : ∃ x, Dv.up ((Dv.lmHi m l).r * m.cu) 1000 = x := ⟨_, rfl⟩
      obtain ⟨C1, e2⟩ : ∃ x, Dv.up (Dv.hoW m l * (Dv.lmHi m l).lq * m.cu) 1000000 = x := ⟨_, rfl⟩
      obtain ⟨C2, e3⟩ : ∃ x, Dv.up (Dv.hoW m l * (Dv.lmHi m l).ld * m.cu) 1000000 = x := ⟨_, rfl⟩
      obtain ⟨D2, e4⟩ : ∃ x, Dv.up (((Dv.lmHi m l).r - (Dv.lmLo m l).r) * m.cu) 1000 = x := ⟨_, rfl⟩
      obtain ⟨E1, e5⟩ : ∃ x, Dv.up ((Dv.hoS l * (Dv.lmHi m l).lq + Dv.hoW m l * ((Dv.lmHi m l).lq - (Dv.lmLo m l).lq)) * m.cu) 1000000 = x := ⟨_, rfl⟩
      obtain ⟨E2, e6⟩ : ∃ x, Dv.up ((Dv.hoS l * (Dv.lmHi m l).ld + Dv.hoW m l * ((Dv.lmHi m l).ld - (Dv.lmLo m l).ld)) * m.cu) 1000000 = x := ⟨_, rfl⟩
      have HB : Hid (Dv.hoB m l u = _) := Lib.hid (Dv.hoG_eq m (Dv.lmLo m l) (Dv.lmHi m l) (Dv.hoW m l) (Dv.hoS l) (Dv.roomV u) e1 e2 e3 e4 e5 e6)
      have HWD : Hid (m.fa + max (Dv.lmS l).hi (-(Dv.lmS l).lo) = Dv.hoW m l) := Lib.hid rfl
      have HSD : Hid ((Dv.lmS l).hi - (Dv.lmS l).lo = Dv.hoS l) := Lib.hid rfl
      generalize hglo : Dv.lmLo m l = lo at S1 HB HWD HSD hlo hhi hsl hsh hW hS hsp hU HR e1 e2 e3 e4 e5 e6
      generalize hghi : Dv.lmHi m l = hi at S1 HB HWD HSD hlo hhi hsl hsh hW hS hsp hU HR e1 e2 e3 e4 e5 e6
      generalize hgw : Dv.hoW m l = ww at S1 HB HWD HSD hlo hhi hsl hsh hW hS hsp hU HR e1 e2 e3 e4 e5 e6
      generalize hgs : Dv.hoS l = ss at S1 HB HWD HSD hlo hhi hsl hsh hW hS hsp hU HR e1 e2 e3 e4 e5 e6
      generalize hgu : Dv.roomV u = U at S1 HB HWD HSD hlo hhi hsl hsh hW hS hsp hU HR e1 e2 e3 e4 e5 e6
      generalize hgsl : Dv.lmS l = sx at S1 HB HWD HSD hlo hhi hsl hsh hW hS hsp hU HR e1 e2 e3 e4 e5 e6
      clear hglo hghi hgw hgs hgu hgsl
      have q1 := Lib.hid e1
      have q2 := Lib.hid e2
      have q3 := Lib.hid e3
      have q4 := Lib.hid e4
      have q5 := Lib.hid e5
      have q6 := Lib.hid e6
      clear e1 e2 e3 e4 e5 e6
      go_upto_region 6 with (fail)
      refine wp_region_privs 13 [.q, .q, .q, .q, .q, .q, .q, .q, .q, .q, .p, .p, .q] (fun _ => (.cells #[.int .i64 0, .int .i64 0, .int .i64 0, .int .i64 0, .int .i64 0, .int .i64 0, .int .i64 0, .int .i64 0, .int .i64 0, .int .i64 0] 52, fun b => .pointer (some ⟨b, 0, none⟩))) 10 52 52 11 38 #[.int .i64 0, .int .i64 0, .int .i64 0, .int .i64 0, .int .i64 0, .int .i64 0, .int .i64 0, .int .i64 0, .int .i64 0, .int .i64 0] #[.int .i64 lo.r, .int .i64 lo.ld, .int .i64 lo.lq, .int .i64 lo.fx, .int .i64 lo.po, .int .i64 lo.mi, .int .i64 lo.sp, .int .i64 lo.dr, .int .i64 lo.cu, .int .i64 lo.fa] ?af (by kernel_rfl) (by kernel_rfl) rfl (fun _ => rfl) (by kernel_rfl) rfl (by simp [Value.oneCell']) ?walk ?hy ?tail
      case walk =>
        intro V hV
        have IV := Lib.hid (S1.out.below hV)
        obtain ⟨_, ⟨b0', b1', b2', b3', b4', b5', b6', b7', b8', b9'⟩, ⟨c0', c1', c2', c3', c4', c5', c6', c7', c8', c9'⟩, _⟩ := lmCells (IV.out.get 0 rfl)
        have a8 := (IV.out.get 1 rfl).cell 8 rfl
        have z0 := (IV.out.get 0 rfl).lt
        have z1 := (IV.out.get 1 rfl).lt
        simp only [List.take_succ_cons, List.take_zero]
        repeat (refine wpP_q ?_; go_big_quiet_step (fail); refine wpQuiet_nil ?_)
        refine wpP_p (by kernel_rfl) (fun _ => by kernel_rfl) ?_
        (try simp only [Act.put, List.setIfInBounds_toArray, List.set_cons_zero, List.set_cons_succ])
        refine wpP_p (by kernel_rfl) (fun _ => by kernel_rfl) ?_
        (try simp only [Act.put, List.setIfInBounds_toArray, List.set_cons_zero, List.set_cons_succ])
        repeat (refine wpP_q ?_; go_big_quiet_step (fail); refine wpQuiet_nil ?_)
        refine wpP_nil ?_
        rfl
      case hy => rfl
      case tail =>
      intro gs w2 hb2 hP hD
      obtain ⟨hza, hka⟩ := hP 10 rfl
      obtain ⟨hzb, hkb⟩ := hP 11 rfl
      have hne := hD 10 11 rfl rfl (by decide)
      rw [if_pos rfl] at hka
      rw [if_neg (by decide)] at hkb
      simp only [List.take_succ_cons, List.take_zero, fillP]
      (try simp only [Act.put, List.setIfInBounds_toArray, List.set_cons_zero, List.set_cons_succ])
      generalize gs 10 = ga at hza hka hne ⊢
      generalize gs 11 = gb at hzb hkb hne ⊢
      clear hP hD
      have kb : Blk w2 gb 52 [.int .i64 0, .int .i64 0, .int .i64 0, .int .i64 0, .int .i64 0, .int .i64 0, .int .i64 0, .int .i64 0, .int .i64 0, .int .i64 0] := hkb
      have S2 := Lib.hid (((S1.out.add hb2 hza (show Blk w2 ga 52 [.int .i64 lo.r, .int .i64 lo.ld, .int .i64 lo.lq, .int .i64 lo.fx, .int .i64 lo.po, .int .i64 lo.mi, .int .i64 lo.sp, .int .i64 lo.dr, .int .i64 lo.cu, .int .i64 lo.fa] from hka)).fill kb (Nat.le_trans S1.out.1.size hzb) (by
        intro x hx
        rcases List.mem_cons.1 hx with rfl | hx
        · exact hne
        · exact S1.out.apart hzb x hx) [.int .i64 hi.r, .int .i64 hi.ld, .int .i64 hi.lq, .int .i64 hi.fx, .int .i64 hi.po, .int .i64 hi.mi, .int .i64 hi.sp, .int .i64 hi.dr, .int .i64 hi.cu, .int .i64 hi.fa] rfl))
      have f0 := kb.free 0
      have f1 := kb.free 1
      have f2 := kb.free 2
      have f3 := kb.free 3
      have f4 := kb.free 4
      have f5 := kb.free 5
      have f6 := kb.free 6
      have f7 := kb.free 7
      have f8 := kb.free 8
      have f9 := kb.free 9
      obtain ⟨d0, d1, d2, d3, d4, d5, d6, d7, d8, d9⟩ := motOf (m := mot0) kb
      clear hb2 hza hka hzb hkb hne kb S1
      simp only [List.drop_succ_cons, List.drop_zero]
      go_upto_region 7 with (fail)
      refine gen_world (fun W => St w [(gb, 52, [.int .i64 hi.r, .int .i64 hi.ld, .int .i64 hi.lq, .int .i64 hi.fx, .int .i64 hi.po, .int .i64 hi.mi, .int .i64 hi.sp, .int .i64 hi.dr, .int .i64 hi.cu, .int .i64 hi.fa]), (ga, 52, [.int .i64 lo.r, .int .i64 lo.ld, .int .i64 lo.lq, .int .i64 lo.fx, .int .i64 lo.po, .int .i64 lo.mi, .int .i64 lo.sp, .int .i64 lo.dr, .int .i64 lo.cu, .int .i64 lo.fa]), (g, 131, lmC m lo hi sx.lo sx.hi), (w.heap.size, 52, [.int .i64 m.r, .int .i64 m.ld, .int .i64 m.lq, .int .i64 m.fx, .int .i64 m.po, .int .i64 m.mi, .int .i64 m.sp, .int .i64 m.dr, .int .i64 m.cu, .int .i64 m.fa])] W) S2.out ?_
      clear S2 f0 f1 f2 f3 f4 f5 f6 f7 f8 f9 d0 d1 d2 d3 d4 d5 d6 d7 d8 d9 w2
      rintro w2 i2
      have S2 := Lib.hid i2
      clear i2
      have e1 := q1.out
      have e2 := q2.out
      have e3 := q3.out
      have e4 := q4.out
      have e5 := q5.out
      have e6 := q6.out
      obtain ⟨b0, b1, b2, b3, b4, b5, b6, b7, b8, b9, b10, b11, b12, b13, b14, b15, b16⟩ := Dv.ho_bd hm hlo hhi hW hS
      have v1 : -1099511628 ≤ D1 ∧ D1 ≤ 1099511628 := by rw [← e1]; unfold Dv.up; omega
      have K1 := Lib.hid (show ∀ V : World, Calls Try.prog 112 #[.int .i64 (hi.r * m.cu), .int .i64 1000] V fun e w' => e = .returned (.int .i64 D1) ∧ V = w' from fun V => by rw [← e1]; exact ceil_c (hi.r * m.cu) 1000 V (by omega) (by omega) (by omega))
      have v2 : -144115188076 ≤ C1 ∧ C1 ≤ 144115188076 := by rw [← e2]; unfold Dv.up; omega
      have K2 := Lib.hid (show ∀ V : World, Calls Try.prog 112 #[.int .i64 (ww * hi.lq * m.cu), .int .i64 1000000] V fun e w' => e = .returned (.int .i64 C1) ∧ V = w' from fun V => by rw [← e2]; exact ceil_c (ww * hi.lq * m.cu) 1000000 V (by omega) (by omega) (by omega))
      have v3 : -144115188076 ≤ C2 ∧ C2 ≤ 144115188076 := by rw [← e3]; unfold Dv.up; omega
      have K3 := Lib.hid (show ∀ V : World, Calls Try.prog 112 #[.int .i64 (ww * hi.ld * m.cu), .int .i64 1000000] V fun e w' => e = .returned (.int .i64 C2) ∧ V = w' from fun V => by rw [← e3]; exact ceil_c (ww * hi.ld * m.cu) 1000000 V (by omega) (by omega) (by omega))
      have v4 : -1099511628 ≤ D2 ∧ D2 ≤ 1099511628 := by rw [← e4]; unfold Dv.up; omega
      have K4 := Lib.hid (show ∀ V : World, Calls Try.prog 112 #[.int .i64 ((hi.r - lo.r) * m.cu), .int .i64 1000] V fun e w' => e = .returned (.int .i64 D2) ∧ V = w' from fun V => by rw [← e4]; exact ceil_c ((hi.r - lo.r) * m.cu) 1000 V (by omega) (by omega) (by omega))
      have v5 : -288230376152 ≤ E1 ∧ E1 ≤ 288230376152 := by rw [← e5]; unfold Dv.up; omega
      have K5 := Lib.hid (show ∀ V : World, Calls Try.prog 112 #[.int .i64 ((ss * hi.lq + ww * (hi.lq - lo.lq)) * m.cu), .int .i64 1000000] V fun e w' => e = .returned (.int .i64 E1) ∧ V = w' from fun V => by rw [← e5]; exact ceil_c ((ss * hi.lq + ww * (hi.lq - lo.lq)) * m.cu) 1000000 V (by omega) (by omega) (by omega))
      have v6 : -288230376152 ≤ E2 ∧ E2 ≤ 288230376152 := by rw [← e6]; unfold Dv.up; omega
      have K6 := Lib.hid (show ∀ V : World, Calls Try.prog 112 #[.int .i64 ((ss * hi.ld + ww * (hi.ld - lo.ld)) * m.cu), .int .i64 1000000] V fun e w' => e = .returned (.int .i64 E2) ∧ V = w' from fun V => by rw [← e6]; exact ceil_c ((ss * hi.ld + ww * (hi.ld - lo.ld)) * m.cu) 1000000 V (by omega) (by omega) (by omega))
      clear e1 e2 e3 e4 e5 e6
      unfold Dv.chk at hm hlo hhi
      have GMX := fun (x y : Int) ts t W => max2_run x y ts t W
      have z_m := (S2.out.get 3 rfl).lt
      have m9 := (S2.out.get 3 rfl).cell 9 rfl
      have z_g := (S2.out.get 2 rfl).lt
      have g30 := (S2.out.get 2 rfl).cell 30 rfl
      have g31 := (S2.out.get 2 rfl).cell 31 rfl
      refine wp_region_past (by kernel_rfl) (by kernel_rfl) ?_
      repeat (go_big_quiet_step (fail))
      refine wpQuiet_nil ?_
      intro y
      have S3 := Lib.hid (S2.out.below y.far)
      clear S2 z_m m9 z_g g30 g31
      generalize y.w = wy at S3 ⊢
      rw [HWD.out]
      go_upto_region 8 with (fail)
      have z_g := (S3.out.get 2 rfl).lt
      have g30 := (S3.out.get 2 rfl).cell 30 rfl
      have g31 := (S3.out.get 2 rfl).cell 31 rfl
      refine wp_region_past (by kernel_rfl) (by kernel_rfl) ?_
      repeat (go_big_quiet_step (fail))
      refine wpQuiet_nil ?_
      intro y
      have S4 := Lib.hid (S3.out.below y.far)
      clear S3 z_g g30 g31
      generalize y.w = wy at S4 ⊢
      rw [HSD.out]
      have z_gb := (S4.out.get 0 rfl).lt
      have gb0 := (S4.out.get 0 rfl).cell 0 rfl
      go_upto_region 10 with (first | (go_at_call 112; (with_reducible refine (K1.out _).mono ?_); rintro e w' ⟨rfl, rfl⟩))
      clear z_gb gb0
      by_cases hr : U < max (D1 + C1) (D1 + C2 + ww * hi.fx) + 2
      · have HBB := Lib.hid (show Dv.hoB m l u = false by rw [HB.out, if_pos hr])
        have z_gb := (S4.out.get 0 rfl).lt
        have gb1 := (S4.out.get 0 rfl).cell 1 rfl
        have gb2 := (S4.out.get 0 rfl).cell 2 rfl
        have gb3 := (S4.out.get 0 rfl).cell 3 rfl
        refine wp_region_past (by kernel_rfl) (by kernel_rfl) ?_
        repeat (go_big_quiet_step (first | (go_at_call 96; with_reducible exact past_same (HR.out _)) | (go_at_call 112; with_reducible exact past_same (K2.out _)) | (go_at_call 112; with_reducible exact past_same (K3.out _))))
        refine wpQuiet_nil ?_
        intro y
        have S5 := Lib.hid (S4.out.below y.far)
        clear S4 z_gb gb1 gb2 gb3
        generalize y.w = wy at S5 ⊢
        go_wp2
        go_ret2
        exact HoP.yes HE.out HBB.out rfl S5.out.1
      · have HRR := Lib.hid (Int.not_lt.1 hr)
        have z_gb := (S4.out.get 0 rfl).lt
        have gb1 := (S4.out.get 0 rfl).cell 1 rfl
        have gb2 := (S4.out.get 0 rfl).cell 2 rfl
        have gb3 := (S4.out.get 0 rfl).cell 3 rfl
        refine wp_region_past (by kernel_rfl) (by kernel_rfl) ?_
        repeat (go_big_quiet_step (first | (go_at_call 96; with_reducible exact past_same (HR.out _)) | (go_at_call 112; with_reducible exact past_same (K2.out _)) | (go_at_call 112; with_reducible exact past_same (K3.out _))))
        refine wpQuiet_nil ?_
        intro y
        have S5 := Lib.hid (S4.out.below y.far)
        clear S4 z_gb gb1 gb2 gb3
        generalize y.w = wy at S5 ⊢
        go_upto_region 12 with (fail)
        clear hr
        have z_ga := (S5.out.get 1 rfl).lt
        have ga0 := (S5.out.get 1 rfl).cell 0 rfl
        have ga2 := (S5.out.get 1 rfl).cell 2 rfl
        have z_gb := (S5.out.get 0 rfl).lt
        have gb0 := (S5.out.get 0 rfl).cell 0 rfl
        have gb2 := (S5.out.get 0 rfl).cell 2 rfl
        go_upto_region 14 with (first | (go_at_call 112; (with_reducible refine (K4.out _).mono ?_); rintro e w' ⟨rfl, rfl⟩) | (go_at_call 112; (with_reducible refine (K5.out _).mono ?_); rintro e w' ⟨rfl, rfl⟩))
        clear z_ga ga0 ga2 z_gb gb0 gb2
        have z_ga := (S5.out.get 1 rfl).lt
        have ga1 := (S5.out.get 1 rfl).cell 1 rfl
        have ga3 := (S5.out.get 1 rfl).cell 3 rfl
        have z_gb := (S5.out.get 0 rfl).lt
        have gb1 := (S5.out.get 0 rfl).cell 1 rfl
        have gb3 := (S5.out.get 0 rfl).cell 3 rfl
        refine wp_region_past (by kernel_rfl) (by kernel_rfl) ?_
        repeat (go_big_quiet_step (first | (go_at_call 112; with_reducible exact past_same (K6.out _))))
        refine wpQuiet_nil ?_
        intro y
        have SB := Lib.hid (S5.out.below y.far)
        clear S5 z_ga ga1 ga3 z_gb gb1 gb3
        generalize y.w = wy at SB ⊢
        have hsd : -1000000000000 ≤ D2 + E1 + 4 ∧ D2 + E1 + 4 ≤ 1000000000000 := by omega
        have hsq : -1000000000000 ≤ D2 + E2 + ss * hi.fx + ww * (hi.fx - lo.fx) + 4 ∧ D2 + E2 + ss * hi.fx + ww * (hi.fx - lo.fx) + 4 ≤ 1000000000000 := by omega
        generalize D2 + E1 + 4 = SD at HB hsd ⊢
        generalize D2 + E2 + ss * hi.fx + ww * (hi.fx - lo.fx) + 4 = SQ at HB hsq ⊢
        have p1 := Dv.mul_bd (x := SD + 2) (y := m.mi) 1000000000002 1000 (by omega) (by omega)
        have p2 := Dv.mul_bd (x := SQ + 2) (y := m.mi) 1000000000002 1000 (by omega) (by omega)
        clear b0 b1 b2 b3 b4 b5 b6 b7 b8 b9 b10 b11 b12 b13 b14 v1 v2 v3 v4 v5 v6
        have z_m := (SB.out.get 3 rfl).lt
        have m5 := (SB.out.get 3 rfl).cell 5 rfl
        have z_ga := (SB.out.get 1 rfl).lt
        have ga1 := (SB.out.get 1 rfl).cell 1 rfl
        have ga2 := (SB.out.get 1 rfl).cell 2 rfl
        by_cases t1 : (SD + 2) * m.mi ≤ 2 * m.cu * lo.ld
        · by_cases t2 : (SQ + 2) * m.mi ≤ 2 * m.cu * lo.lq
          · have HBB := Lib.hid (show Dv.hoB m l u = true by rw [HB.out, if_neg (Int.not_lt.2 HRR.out), decide_eq_true t1, decide_eq_true t2]; rfl)
            go_wp2
            go_ret2
            exact HoP.yes HE.out HBB.out rfl SB.out.1
          · have HBB := Lib.hid (show Dv.hoB m l u = false by rw [HB.out, if_neg (Int.not_lt.2 HRR.out), decide_eq_false t2]; simp)
            go_wp2
            go_ret2
            exact HoP.yes HE.out HBB.out rfl SB.out.1
        · have HBB := Lib.hid (show Dv.hoB m l u = false by rw [HB.out, if_neg (Int.not_lt.2 HRR.out), decide_eq_false t1]; rfl)
          go_wp2
          go_ret2
          exact HoP.yes HE.out HBB.out rfl SB.out.1
end Go.Proofs.Ytcneohhfnnelgaa
namespace Go.Proofs.Ytcneohhfnnelgaa
open Go.RowKit
set_option linter.unusedVariables false

theorem RoomRef_c (u : Int) (w : World) : Calls Try.prog 56 #[.int .i64 u] w fun e w' => e = .returned (.tuple #[.int .i64 (Dv.RoomV u), .int .i64 (Dv.RoomE u)]) ∧ w = w' := by
  cases h : Dv.busB u
  · have hE : Dv.busE u = 3 := by simp [Dv.busE, h]
    have E := Lib.hid (show Dv.RoomV u = 0 ∧ Dv.RoomE u = 3 from by simp [Dv.RoomV, Dv.RoomE, h])
    go_enter Try.func56, Try.ntmps56
    go_wp2_with (go_at_call 87; refine (busR_c u _).mono ?_; rintro e w' ⟨rfl, rfl⟩)
    go_ret2
    exact ⟨by rw [E.out.1, E.out.2]; rfl, rfl⟩
  · have hE : Dv.busE u = 0 := by simp [Dv.busE, h]
    have hu := Dv.busB_iff.1 h
    have E := Lib.hid (show Dv.RoomV u = Dv.roomV u ∧ Dv.RoomE u = 0 from by simp [Dv.RoomV, Dv.RoomE, h])
    go_enter Try.func56, Try.ntmps56
    go_wp2_with (first | (go_at_call 87; refine (busR_c u _).mono ?_; rintro e w' ⟨rfl, rfl⟩) | (go_at_call 85; refine (floor_c _ _ _ (by omega) (by omega) (by omega)).mono ?_; rintro e w' ⟨rfl, rfl⟩))
    go_ret2
    exact ⟨by rw [E.out.1, E.out.2]; rfl, rfl⟩

set_option maxHeartbeats 2000000 in
set_option maxRecDepth 100000 in
theorem HoldsR_no (m : Mot) (A : Option Addr) (l : List Sp) (u : Int) (cap : Nat) (w : World) (hx : SpAt w A l) (hne : Dv.lmE m l ≠ 0) :
    Calls Try.prog 60 #[.agg #[.int .i64 m.r, .int .i64 m.ld, .int .i64 m.lq, .int .i64 m.fx, .int .i64 m.po, .int .i64 m.mi, .int .i64 m.sp, .int .i64 m.dr, .int .i64 m.cu, .int .i64 m.fa], .slice A l.length cap, .int .i64 u] w (HoP m l u w) := by
  have HX := Lib.hid hx
  clear hx
  have HE : Hid (Dv.hoE m l u = Dv.lmE m l) := Lib.hid (by unfold Dv.hoE; rw [if_neg hne])
  have HNE := Lib.hid hne
  have hbt : (Dv.lmE m l != 0) = true := by simpa using hne
  have KP := Lib.hid (fun (V : World) (hV : Below w.heap.size w V) => possible_c m A l cap V (HX.out.below hV))
  clear hne
  generalize Dv.lmE m l = E at HE HNE hbt KP
  have S0 := Lib.hid ((St.start w).alloc [.int .i64 m.r, .int .i64 m.ld, .int .i64 m.lq, .int .i64 m.fx, .int .i64 m.po, .int .i64 m.mi, .int .i64 m.sp, .int .i64 m.dr, .int .i64 m.cu, .int .i64 m.fa] 52)
  go_enter Try.func60, Try.ntmps60
  go_wp2_with fail
  refine (KP.out _ S0.out.1).mono ?_
  rintro e w1 ⟨rfl, hb1⟩
  have S1 := Lib.hid (S0.out.below hb1)
  clear hb1 S0
  obtain ⟨m0, m1, m2, m3, m4, m5, m6, m7, m8, m9⟩ := motOf (m := m) (S1.out.get 0 rfl)
  have zm := (S1.out.get 0 rfl).lt
  go_wp2_with fail
  refine (KP.out _ S1.out.1).mono ?_
  rintro e w2 ⟨rfl, hb2⟩
  have S2 := Lib.hid (S1.out.below hb2)
  clear hb2 S1 m0 m1 m2 m3 m4 m5 m6 m7 m8 m9 zm
  go_wp2
  go_ret2
  exact HoP.no HE.out HNE.out rfl S2.out.1

set_option maxHeartbeats 8000000 in
set_option maxRecDepth 100000 in
theorem HoldsR_go (m : Mot) (ad : Addr) (l : List Sp) (u : Int) (cap : Nat) (w : World) (hL : Dv.lmE m l = 0)
    (h8 : ∀ V : World, Below w.heap.size w V → V.cell? ⟨ad.block, ad.off + 8, none⟩ = some (.int .i64 (Dv.lmS l).lo) ∧ V.cell? ⟨ad.block, ad.off + 8 + 1, none⟩ = some (.int .i64 (Dv.lmS l).hi) ∧ ad.block < V.heap.size)
    (hP : ∀ V : World, Below w.heap.size w V → Calls Try.prog 110 #[.agg #[.int .i64 m.r, .int .i64 m.ld, .int .i64 m.lq, .int .i64 m.fx, .int .i64 m.po, .int .i64 m.mi, .int .i64 m.sp, .int .i64 m.dr, .int .i64 m.cu, .int .i64 m.fa], .slice (some ad) 5 cap] V fun e w' => e = .returned (.int .i64 0) ∧ Below V.heap.size V w')
    (hK : ∀ V : World, Below w.heap.size w V → Calls Try.prog 113 #[.agg #[.int .i64 m.r, .int .i64 m.ld, .int .i64 m.lq, .int .i64 m.fx, .int .i64 m.po, .int .i64 m.mi, .int .i64 m.sp, .int .i64 m.dr, .int .i64 m.cu, .int .i64 m.fa], .slice (some ad) 5 cap] V fun e w' => e = .returned (.tuple #[.agg #[.int .i64 (Dv.lmLo m l).r, .int .i64 (Dv.lmLo m l).ld, .int .i64 (Dv.lmLo m l).lq, .int .i64 (Dv.lmLo m l).fx, .int .i64 (Dv.lmLo m l).po, .int .i64 (Dv.lmLo m l).mi, .int .i64 (Dv.lmLo m l).sp, .int .i64 (Dv.lmLo m l).dr, .int .i64 (Dv.lmLo m l).cu, .int .i64 (Dv.lmLo m l).fa], .agg #[.int .i64 (Dv.lmHi m l).r, .int .i64 (Dv.lmHi m l).ld, .int .i64 (Dv.lmHi m l).lq, .int .i64 (Dv.lmHi m l).fx, .int .i64 (Dv.lmHi m l).po, .int .i64 (Dv.lmHi m l).mi, .int .i64 (Dv.lmHi m l).sp, .int .i64 (Dv.lmHi m l).dr, .int .i64 (Dv.lmHi m l).cu, .int .i64 (Dv.lmHi m l).fa]]) ∧ Below V.heap.size V w') :
    Calls Try.prog 60 #[.agg #[.int .i64 m.r, .int .i64 m.ld, .int .i64 m.lq, .int .i64 m.fx, .int .i64 m.po, .int .i64 m.mi, .int .i64 m.sp, .int .i64 m.dr, .int .i64 m.cu, .int .i64 m.fa], .slice (some ad) 5 cap, .int .i64 u] w (HoP m l u w) := by
  have HL := Lib.hid hL
  have KP := Lib.hid hP
  have KE := Lib.hid hK
  have H8 := Lib.hid h8
  clear hL hP hK h8
  have S0 := Lib.hid ((St.start w).alloc [.int .i64 m.r, .int .i64 m.ld, .int .i64 m.lq, .int .i64 m.fx, .int .i64 m.po, .int .i64 m.mi, .int .i64 m.sp, .int .i64 m.dr, .int .i64 m.cu, .int .i64 m.fa] 52)
  go_enter Try.func60, Try.ntmps60
  go_wp2_with fail
  refine (KP.out _ S0.out.1).mono ?_
  rintro e w1 ⟨rfl, hb1⟩
  have S1 := Lib.hid (S0.out.below hb1)
  clear hb1 S0
  cases hu : Dv.busB u
  · have HE : Hid (Dv.hoE m l u = 3) := Lib.hid (by unfold Dv.hoE; rw [if_pos HL.out, hu]; rfl)
    have KR := Lib.hid (show ∀ V : World, Calls Try.prog 56 #[.int .i64 u] V fun e w' => e = .returned (.tuple #[.int .i64 0, .int .i64 3]) ∧ V = w' from fun V => (RoomRef_c u V).mono fun _ _ ⟨h1, h2⟩ => ⟨by rw [h1]; unfold Dv.RoomV Dv.RoomE; rw [hu]; rfl, h2⟩)
    clear hu
    go_wp2_with (go_at_call 56; refine (KR.out _).mono ?_; rintro e w' ⟨rfl, rfl⟩)
    go_ret2
    exact HoP.no HE.out (by decide) rfl S1.out.1
  · have HU := Lib.hid hu
    have KR := Lib.hid (show ∀ V : World, Calls Try.prog 56 #[.int .i64 u] V fun e w' => e = .returned (.tuple #[.int .i64 (Dv.roomV u), .int .i64 0]) ∧ V = w' from fun V => (RoomRef_c u V).mono fun _ _ ⟨h1, h2⟩ => ⟨by rw [h1]; unfold Dv.RoomV Dv.RoomE; rw [hu]; rfl, h2⟩)
    clear hu
    have HE : Hid (Dv.hoE m l u = 0) := Lib.hid (by unfold Dv.hoE; rw [if_pos HL.out, if_pos HU.out])
    obtain ⟨hm, _, hlo, hhi, hsl, hsh, _⟩ := Dv.lm_parts HL.out
    obtain ⟨hW, hS⟩ := Dv.hoW_bd HL.out
    have hsp := Dv.lm_span HL.out
    have hU := Dv.roomV_bd (Dv.busB_iff.1 HU.out)
    have HR := Lib.hid (show ∀ V : World, Calls Try.prog 96 #[.int .i64 u] V fun e w' => e = .returned (.int .i64 (Dv.roomV u)) ∧ V = w' from fun V => room_c u V (Dv.busB_iff.1 HU.out))
    obtain ⟨D1, e1⟩ : ∃ x, Dv.up ((Dv.lmHi m l).r * m.cu) 1000 = x := ⟨_, rfl⟩
    obtain ⟨C1, e2⟩ : ∃ x, Dv.up (Dv.hoW m l * (Dv.lmHi m l).lq * m.cu) 1000000 = x := ⟨_, rfl⟩
    obtain ⟨C2, e3⟩ : ∃ x, Dv.up (Dv.hoW m l * (Dv.lmHi m l).ld * m.cu) 1000000 = x := ⟨_, rfl⟩
    obtain ⟨D2, e4⟩ : ∃ x, Dv.up (((Dv.lmHi m l).r - (Dv.lmLo m l).r) * m.cu) 1000 = x := ⟨_, rfl⟩
    obtain ⟨E1, e5⟩ : ∃ x, Dv.up ((Dv.hoS l * (Dv.lmHi m l).lq + Dv.hoW m l * ((Dv.lmHi m l).lq - (Dv.lmLo m l).lq)) * m.cu) 1000000 = x := ⟨_, rfl⟩
    obtain ⟨E2, e6⟩ : ∃ x, Dv.up ((Dv.hoS l * (Dv.lmHi m l).ld + Dv.hoW m l * ((Dv.lmHi m l).ld - (Dv.lmLo m l).ld)) * m.cu) 1000000 = x := ⟨_, rfl⟩
    have HB : Hid (Dv.hoB m l u = _) := Lib.hid (Dv.hoG_eq m (Dv.lmLo m l) (Dv.lmHi m l) (Dv.hoW m l) (Dv.hoS l) (Dv.roomV u) e1 e2 e3 e4 e5 e6)
    have HWD : Hid (m.fa + max (Dv.lmS l).hi (-(Dv.lmS l).lo) = Dv.hoW m l) := Lib.hid rfl
    have HSD : Hid ((Dv.lmS l).hi - (Dv.lmS l).lo = Dv.hoS l) := Lib.hid rfl
    generalize hglo : Dv.lmLo m l = lo at KE KR H8 HB HWD HSD hlo hhi hsl hsh hW hS hsp hU HR e1 e2 e3 e4 e5 e6
    generalize hghi : Dv.lmHi m l = hi at KE KR H8 HB HWD HSD hlo hhi hsl hsh hW hS hsp hU HR e1 e2 e3 e4 e5 e6
    generalize hgw : Dv.hoW m l = ww at KE KR H8 HB HWD HSD hlo hhi hsl hsh hW hS hsp hU HR e1 e2 e3 e4 e5 e6
    generalize hgs : Dv.hoS l = ss at KE KR H8 HB HWD HSD hlo hhi hsl hsh hW hS hsp hU HR e1 e2 e3 e4 e5 e6
    generalize hgu : Dv.roomV u = U at KE KR H8 HB HWD HSD hlo hhi hsl hsh hW hS hsp hU HR e1 e2 e3 e4 e5 e6
    generalize hgsl : Dv.lmS l = sx at KE KR H8 HB HWD HSD hlo hhi hsl hsh hW hS hsp hU HR e1 e2 e3 e4 e5 e6
    clear hglo hghi hgw hgs hgu hgsl
    have q1 := Lib.hid e1
    have q2 := Lib.hid e2
    have q3 := Lib.hid e3
    have q4 := Lib.hid e4
    have q5 := Lib.hid e5
    have q6 := Lib.hid e6
    clear e1 e2 e3 e4 e5 e6
    obtain ⟨m0, m1, m2, m3, m4, m5, m6, m7, m8, m9⟩ := motOf (m := m) (S1.out.get 0 rfl)
    have zm := (S1.out.get 0 rfl).lt
    go_upto_region 6 with (go_at_call 56; refine (KR.out _).mono ?_; rintro e w' ⟨rfl, rfl⟩)
    go_wp2_with fail
    refine (KE.out _ S1.out.1).mono ?_
    rintro e w3 ⟨rfl, hb3⟩
    have S2 := Lib.hid (((S1.out.below hb3).alloc [.int .i64 lo.r, .int .i64 lo.ld, .int .i64 lo.lq, .int .i64 lo.fx, .int .i64 lo.po, .int .i64 lo.mi, .int .i64 lo.sp, .int .i64 lo.dr, .int .i64 lo.cu, .int .i64 lo.fa] 52).alloc [.int .i64 hi.r, .int .i64 hi.ld, .int .i64 hi.lq, .int .i64 hi.fx, .int .i64 hi.po, .int .i64 hi.mi, .int .i64 hi.sp, .int .i64 hi.dr, .int .i64 hi.cu, .int .i64 hi.fa] 52)
    clear hb3 S1 m0 m1 m2 m3 m4 m5 m6 m7 m8 m9 zm
    go_upto_region 7 with (fail)
    refine gen_world (fun W => St w [(w3.heap.size + 1, 52, [.int .i64 hi.r, .int .i64 hi.ld, .int .i64 hi.lq, .int .i64 hi.fx, .int .i64 hi.po, .int .i64 hi.mi, .int .i64 hi.sp, .int .i64 hi.dr, .int .i64 hi.cu, .int .i64 hi.fa]), (w3.heap.size, 52, [.int .i64 lo.r, .int .i64 lo.ld, .int .i64 lo.lq, .int .i64 lo.fx, .int .i64 lo.po, .int .i64 lo.mi, .int .i64 lo.sp, .int .i64 lo.dr, .int .i64 lo.cu, .int .i64 lo.fa]), (w.heap.size, 52, [.int .i64 m.r, .int .i64 m.ld, .int .i64 m.lq, .int .i64 m.fx, .int .i64 m.po, .int .i64 m.mi, .int .i64 m.sp, .int .i64 m.dr, .int .i64 m.cu, .int .i64 m.fa])] W) (by have := S2.out; simp at this; exact this) ?_
    clear S2
    generalize w3.heap.size = gz
    clear w3
    rintro w3 i3
    have S2 := Lib.hid i3
    clear i3
    have z_m := (S2.out.get 2 rfl).lt
    have m8 := (S2.out.get 2 rfl).cell 8 rfl
    go_upto_region 8 with (fail)
    clear z_m m8
    have e1 := q1.out
    have e2 := q2.out
    have e3 := q3.out
    have e4 := q4.out
    have e5 := q5.out
    have e6 := q6.out
    obtain ⟨b0, b1, b2, b3, b4, b5, b6, b7, b8, b9, b10, b11, b12, b13, b14, b15, b16⟩ := Dv.ho_bd hm hlo hhi hW hS
    have v1 : -1099511628 ≤ D1 ∧ D1 ≤ 1099511628 := by rw [← e1]; unfold Dv.up; omega
    have K1 := Lib.hid (show ∀ V : World, Calls Try.prog 114 #[.int .i64 (hi.r * m.cu), .int .i64 1000] V fun e w' => e = .returned (.int .i64 D1) ∧ V = w' from fun V => by rw [← e1]; exact upR_c (hi.r * m.cu) 1000 V (by omega) (by omega) (by omega))
    have v2 : -144115188076 ≤ C1 ∧ C1 ≤ 144115188076 := by rw [← e2]; unfold Dv.up; omega
    have K2 := Lib.hid (show ∀ V : World, Calls Try.prog 114 #[.int .i64 (ww * hi.lq * m.cu), .int .i64 1000000] V fun e w' => e = .returned (.int .i64 C1) ∧ V = w' from fun V => by rw [← e2]; exact upR_c (ww * hi.lq * m.cu) 1000000 V (by omega) (by omega) (by omega))
    have v3 : -144115188076 ≤ C2 ∧ C2 ≤ 144115188076 := by rw [← e3]; unfold Dv.up; omega
    have K3 := Lib.hid (show ∀ V : World, Calls Try.prog 114 #[.int .i64 (ww * hi.ld * m.cu), .int .i64 1000000] V fun e w' => e = .returned (.int .i64 C2) ∧ V = w' from fun V => by rw [← e3]; exact upR_c (ww * hi.ld * m.cu) 1000000 V (by omega) (by omega) (by omega))
    have v4 : -1099511628 ≤ D2 ∧ D2 ≤ 1099511628 := by rw [← e4]; unfold Dv.up; omega
    have K4 := Lib.hid (show ∀ V : World, Calls Try.prog 114 #[.int .i64 ((hi.r - lo.r) * m.cu), .int .i64 1000] V fun e w' => e = .returned (.int .i64 D2) ∧ V = w' from fun V => by rw [← e4]; exact upR_c ((hi.r - lo.r) * m.cu) 1000 V (by omega) (by omega) (by omega))
    have v5 : -288230376152 ≤ E1 ∧ E1 ≤ 288230376152 := by rw [← e5]; unfold Dv.up; omega
    have K5 := Lib.hid (show ∀ V : World, Calls Try.prog 114 #[.int .i64 ((ss * hi.lq + ww * (hi.lq - lo.lq)) * m.cu), .int .i64 1000000] V fun e w' => e = .returned (.int .i64 E1) ∧ V = w' from fun V => by rw [← e5]; exact upR_c ((ss * hi.lq + ww * (hi.lq - lo.lq)) * m.cu) 1000000 V (by omega) (by omega) (by omega))
    have v6 : -288230376152 ≤ E2 ∧ E2 ≤ 288230376152 := by rw [← e6]; unfold Dv.up; omega
    have K6 := Lib.hid (show ∀ V : World, Calls Try.prog 114 #[.int .i64 ((ss * hi.ld + ww * (hi.ld - lo.ld)) * m.cu), .int .i64 1000000] V fun e w' => e = .returned (.int .i64 E2) ∧ V = w' from fun V => by rw [← e6]; exact upR_c ((ss * hi.ld + ww * (hi.ld - lo.ld)) * m.cu) 1000000 V (by omega) (by omega) (by omega))
    clear e1 e2 e3 e4 e5 e6
    unfold Dv.chk at hm hlo hhi
    have GMX := fun (x y : Int) ts t W => max2_run x y ts t W
    obtain ⟨x8, x9, zad⟩ := H8.out _ S2.out.1
    have z_m := (S2.out.get 2 rfl).lt
    have m9 := (S2.out.get 2 rfl).cell 9 rfl
    refine wp_region_past (by kernel_rfl) (by kernel_rfl) ?_
    repeat (go_big_quiet_step (fail))
    refine wpQuiet_nil ?_
    intro y
    have S3 := Lib.hid (S2.out.below y.far)
    clear S2 z_m m9
    generalize y.w = wy at S3 ⊢
    clear x8 x9 zad
    rw [HWD.out]
    go_upto_region 9 with (fail)
    obtain ⟨x8, x9, zad⟩ := H8.out _ S3.out.1
    refine wp_region_past (by kernel_rfl) (by kernel_rfl) ?_
    repeat (go_big_quiet_step (fail))
    refine wpQuiet_nil ?_
    intro y
    have S4 := Lib.hid (S3.out.below y.far)
    clear S3 
    generalize y.w = wy at S4 ⊢
    clear x8 x9 zad
    rw [HSD.out]
    go_upto_region 10 with (fail)
    by_cases r1 : U < D1 + C1 + 2
    · have HBB := Lib.hid (show Dv.hoB m l u = false by rw [HB.out, if_pos (by omega)])
      have z_gb := (S4.out.get 0 rfl).lt
      have gb0 := (S4.out.get 0 rfl).cell 0 rfl
      have gb1 := (S4.out.get 0 rfl).cell 1 rfl
      have gb2 := (S4.out.get 0 rfl).cell 2 rfl
      have gb3 := (S4.out.get 0 rfl).cell 3 rfl
      refine wp_region_past (by kernel_rfl) (by kernel_rfl) ?_
      repeat (go_big_quiet_step (first | (go_at_call 114; with_reducible exact past_same (K1.out _)) | (go_at_call 114; with_reducible exact past_same (K2.out _))))
      refine wpQuiet_nil ?_
      intro y
      have S5 := Lib.hid (S4.out.below y.far)
      clear S4 z_gb gb0 gb1 gb2 gb3
      generalize y.w = wy at S5 ⊢
      go_wp2
      go_ret2
      exact HoP.yes HE.out HBB.out rfl S5.out.1
    · by_cases r2 : U < D1 + C2 + ww * hi.fx + 2
      · have HBB := Lib.hid (show Dv.hoB m l u = false by rw [HB.out, if_pos (by omega)])
        have z_gb := (S4.out.get 0 rfl).lt
        have gb0 := (S4.out.get 0 rfl).cell 0 rfl
        have gb1 := (S4.out.get 0 rfl).cell 1 rfl
        have gb2 := (S4.out.get 0 rfl).cell 2 rfl
        have gb3 := (S4.out.get 0 rfl).cell 3 rfl
        refine wp_region_past (by kernel_rfl) (by kernel_rfl) ?_
        repeat (go_big_quiet_step (first | (go_at_call 114; with_reducible exact past_same (K1.out _)) | (go_at_call 114; with_reducible exact past_same (K2.out _)) | (go_at_call 114; with_reducible exact past_same (K3.out _))))
        refine wpQuiet_nil ?_
        intro y
        have S5 := Lib.hid (S4.out.below y.far)
        clear S4 z_gb gb0 gb1 gb2 gb3
        generalize y.w = wy at S5 ⊢
        go_wp2
        go_ret2
        exact HoP.yes HE.out HBB.out rfl S5.out.1
      · have HRR := Lib.hid (show max (D1 + C1) (D1 + C2 + ww * hi.fx) + 2 ≤ U by omega)
        have z_gb := (S4.out.get 0 rfl).lt
        have gb0 := (S4.out.get 0 rfl).cell 0 rfl
        have gb1 := (S4.out.get 0 rfl).cell 1 rfl
        have gb2 := (S4.out.get 0 rfl).cell 2 rfl
        have gb3 := (S4.out.get 0 rfl).cell 3 rfl
        refine wp_region_past (by kernel_rfl) (by kernel_rfl) ?_
        repeat (go_big_quiet_step (first | (go_at_call 114; with_reducible exact past_same (K1.out _)) | (go_at_call 114; with_reducible exact past_same (K2.out _)) | (go_at_call 114; with_reducible exact past_same (K3.out _))))
        refine wpQuiet_nil ?_
        intro y
        have S5 := Lib.hid (S4.out.below y.far)
        clear S4 z_gb gb0 gb1 gb2 gb3
        generalize y.w = wy at S5 ⊢
        clear r1 r2
        have hr := True.intro
        go_upto_region 12 with (fail)
        clear hr
        have z_ga := (S5.out.get 1 rfl).lt
        have ga0 := (S5.out.get 1 rfl).cell 0 rfl
        have ga2 := (S5.out.get 1 rfl).cell 2 rfl
        have z_gb := (S5.out.get 0 rfl).lt
        have gb0 := (S5.out.get 0 rfl).cell 0 rfl
        have gb2 := (S5.out.get 0 rfl).cell 2 rfl
        go_upto_region 14 with (first | (go_at_call 114; (with_reducible refine (K4.out _).mono ?_); rintro e w' ⟨rfl, rfl⟩) | (go_at_call 114; (with_reducible refine (K5.out _).mono ?_); rintro e w' ⟨rfl, rfl⟩))
        clear z_ga ga0 ga2 z_gb gb0 gb2
        have z_ga := (S5.out.get 1 rfl).lt
        have ga1 := (S5.out.get 1 rfl).cell 1 rfl
        have ga3 := (S5.out.get 1 rfl).cell 3 rfl
        have z_gb := (S5.out.get 0 rfl).lt
        have gb1 := (S5.out.get 0 rfl).cell 1 rfl
        have gb3 := (S5.out.get 0 rfl).cell 3 rfl
        refine wp_region_past (by kernel_rfl) (by kernel_rfl) ?_
        repeat (go_big_quiet_step (first | (go_at_call 114; with_reducible exact past_same (K6.out _))))
        refine wpQuiet_nil ?_
        intro y
        have SB := Lib.hid (S5.out.below y.far)
        clear S5 z_ga ga1 ga3 z_gb gb1 gb3
        generalize y.w = wy at SB ⊢
        have hsd : -1000000000000 ≤ D2 + E1 + 4 ∧ D2 + E1 + 4 ≤ 1000000000000 := by omega
        have hsq : -1000000000000 ≤ D2 + E2 + ss * hi.fx + ww * (hi.fx - lo.fx) + 4 ∧ D2 + E2 + ss * hi.fx + ww * (hi.fx - lo.fx) + 4 ≤ 1000000000000 := by omega
        generalize D2 + E1 + 4 = SD at HB hsd ⊢
        generalize D2 + E2 + ss * hi.fx + ww * (hi.fx - lo.fx) + 4 = SQ at HB hsq ⊢
        have p1 := Dv.mul_bd (x := SD + 2) (y := m.mi) 1000000000002 1000 (by omega) (by omega)
        have p2 := Dv.mul_bd (x := SQ + 2) (y := m.mi) 1000000000002 1000 (by omega) (by omega)
        clear b0 b1 b2 b3 b4 b5 b6 b7 b8 b9 b10 b11 b12 b13 b14 v1 v2 v3 v4 v5 v6
        have z_m := (SB.out.get 2 rfl).lt
        have m5 := (SB.out.get 2 rfl).cell 5 rfl
        have z_ga := (SB.out.get 1 rfl).lt
        have ga1 := (SB.out.get 1 rfl).cell 1 rfl
        have ga2 := (SB.out.get 1 rfl).cell 2 rfl
        by_cases t1 : (SD + 2) * m.mi ≤ 2 * m.cu * lo.ld
        · by_cases t2 : (SQ + 2) * m.mi ≤ 2 * m.cu * lo.lq
          · have HBB := Lib.hid (show Dv.hoB m l u = true by rw [HB.out, if_neg (Int.not_lt.2 HRR.out), decide_eq_true t1, decide_eq_true t2]; rfl)
            go_wp2
            go_ret2
            exact HoP.yes HE.out HBB.out rfl SB.out.1
          · have HBB := Lib.hid (show Dv.hoB m l u = false by rw [HB.out, if_neg (Int.not_lt.2 HRR.out), decide_eq_false t2]; simp)
            go_wp2
            go_ret2
            exact HoP.yes HE.out HBB.out rfl SB.out.1
        · have HBB := Lib.hid (show Dv.hoB m l u = false by rw [HB.out, if_neg (Int.not_lt.2 HRR.out), decide_eq_false t1]; rfl)
          go_wp2
          go_ret2
          exact HoP.yes HE.out HBB.out rfl SB.out.1

theorem HoldsR_c (m : Mot) (A : Option Addr) (l : List Sp) (u : Int) (cap : Nat) (w : World) (hx : SpAt w A l) :
    Calls Try.prog 60 #[.agg #[.int .i64 m.r, .int .i64 m.ld, .int .i64 m.lq, .int .i64 m.fx, .int .i64 m.po, .int .i64 m.mi, .int .i64 m.sp, .int .i64 m.dr, .int .i64 m.cu, .int .i64 m.fa], .slice A l.length cap, .int .i64 u] w (HoP m l u w) := by
  by_cases h : Dv.lmE m l = 0
  · obtain ⟨_, hl, _⟩ := Dv.lm_parts h
    match l, hl with
    | [s0, s1, s2, s3, s4], _ =>
      obtain ⟨ad, rfl, h5⟩ := hx.five
      refine HoldsR_go m ad [s0, s1, s2, s3, s4] u cap w h (fun V hV => ?_) (fun V hV => ?_) (fun V hV => ends_p m (some ad) [s0, s1, s2, s3, s4] cap V (hx.below hV) h)
      · obtain ⟨z, _, _, _, _, _, _, _, _, x8, x9⟩ := h5.below hV h5.1
        exact ⟨x8, x9, z⟩
      · have := possible_c m (some ad) [s0, s1, s2, s3, s4] cap V (hx.below hV)
        rw [h] at this
        exact this
  · exact HoldsR_no m A l u cap w hx h
end Go.Proofs.Ytcneohhfnnelgaa
namespace Go.Proofs.Ytcneohhfnnelgaa
open Go.RowKit
set_option linter.unusedVariables false
theorem wp_codeP {P : Program} {c c' : Code} {Q : Exit → Act → World → Prop} {a : Act} {W : World} (h : c = c') (hw : Code.wp P c' Q a W) : Code.wp P c Q a W := h ▸ hw
set_option maxHeartbeats 16000000 in
set_option maxRecDepth 100000 in
theorem PlayR_go (m : Mot) (X : Option Addr) (xs : List Int) (c : Nat) (A : Option Addr) (l : List Sp) (cap : Nat) (p0 i0 p1 i1 u : Int) (s : Rot) (D : Option Addr) (os : List Od) (n ck : Nat) (F : Option Addr) (es : List Int) (n' ck' : Nat) (w : World) (hx : SpAt w A l) (hxs : IntsAt w X xs) (ho : OdAt w D os) (he : IntsAt w F es) (hno : os.length = n) (hne : es.length = n') (hn : n ≤ 100) (hn' : n' ≤ 100) (h0 : Dv.lmE m l = 0) (hap : (Dv.apR m xs).2 = 0) :
    Calls Try.prog 66 #[.agg #[.int .i64 m.r, .int .i64 m.ld, .int .i64 m.lq, .int .i64 m.fx, .int .i64 m.po, .int .i64 m.mi, .int .i64 m.sp, .int .i64 m.dr, .int .i64 m.cu, .int .i64 m.fa], .slice X xs.length c, .slice A l.length cap, .agg #[.int .i64 p0, .int .i64 i0, .int .i64 p1, .int .i64 i1], .int .i64 u, .agg #[.int .i64 s.d, .int .i64 s.q, .int .i64 s.w, .int .i64 s.a], .slice D n ck, .slice F n' ck'] w (PlP (Dv.plErr m xs l p0 i0 p1 i1 u s os es) (Dv.plVal m xs l p0 i0 p1 i1 u s os es) w) := by
  have HX := Lib.hid hx
  have HY := Lib.hid hxs
  have HO := Lib.hid ho
  have HF := Lib.hid he
  have HLO := Lib.hid hno
  have HLE := Lib.hid hne
  have H0 := Lib.hid h0
  have HAP := Lib.hid hap
  have H4 := Lib.hid (Dv.ap_parts hap).1
  have H5 := Lib.hid (Dv.lm_parts h0).2.1
  have KP := Lib.hid (fun (V : World) (hV : Below w.heap.size w V) => possible_c m A l cap V (HX.out.below hV))
  have KA := Lib.hid (fun (V : World) (hV : Below w.heap.size w V) => ApplyR_c m X xs c V (HY.out.below hV) (by have := H4.out; omega))
  rw [h0] at KP
  rw [hap] at KA
  clear hx hxs ho he hno hne h0 hap
  obtain ⟨R, hR⟩ : ∃ R, R = (Dv.apR m xs).1 := ⟨_, rfl⟩
  rw [← hR] at KA
  have HR := Lib.hid hR
  clear hR
  obtain ⟨pE, hpE⟩ : ∃ pE, pE = (Dv.plErr m xs l p0 i0 p1 i1 u s os es) := ⟨_, rfl⟩
  obtain ⟨pV, hpV⟩ : ∃ pV, pV = (Dv.plVal m xs l p0 i0 p1 i1 u s os es) := ⟨_, rfl⟩
  rw [← hpE, ← hpV]
  have HPE := Lib.hid (show ∀ E, Dv.plH m xs l p0 i0 p1 i1 u s os es = E → E ≠ 0 → pE = E ∧ pV = [] from fun E h h' => by rw [hpE, hpV]; exact Dv.pl_head h h')
  have HPP := Lib.hid (And.intro hpE hpV)
  clear hpE hpV
  have S0 := Lib.hid (show St w [(w.heap.size + 1 + 1, 57, [.int .i64 s.d, .int .i64 s.q, .int .i64 s.w, .int .i64 s.a]), (w.heap.size + 1, 78, [.int .i64 p0, .int .i64 i0, .int .i64 p1, .int .i64 i1]), (w.heap.size, 52, [.int .i64 m.r, .int .i64 m.ld, .int .i64 m.lq, .int .i64 m.fx, .int .i64 m.po, .int .i64 m.mi, .int .i64 m.sp, .int .i64 m.dr, .int .i64 m.cu, .int .i64 m.fa])] (((w.alloc (.cells #[.int .i64 m.r, .int .i64 m.ld, .int .i64 m.lq, .int .i64 m.fx, .int .i64 m.po, .int .i64 m.mi, .int .i64 m.sp, .int .i64 m.dr, .int .i64 m.cu, .int .i64 m.fa] 52)).alloc (.cells #[.int .i64 p0, .int .i64 i0, .int .i64 p1, .int .i64 i1] 78)).alloc (.cells #[.int .i64 s.d, .int .i64 s.q, .int .i64 s.w, .int .i64 s.a] 57)) from by
    have := (((St.start w).alloc [.int .i64 m.r, .int .i64 m.ld, .int .i64 m.lq, .int .i64 m.fx, .int .i64 m.po, .int .i64 m.mi, .int .i64 m.sp, .int .i64 m.dr, .int .i64 m.cu, .int .i64 m.fa] 52).alloc [.int .i64 p0, .int .i64 i0, .int .i64 p1, .int .i64 i1] 78).alloc [.int .i64 s.d, .int .i64 s.q, .int .i64 s.w, .int .i64 s.a] 57
    simp at this
    exact this)
  go_enter Try.func66, Try.ntmps66
  go_wp2_with fail
  refine (KP.out _ S0.out.1).mono ?_
  rintro e w1 ⟨rfl, hb1⟩
  have S1 := Lib.hid (S0.out.below hb1)
  clear hb1 S0
  obtain ⟨m0, m1, m2, m3, m4, m5, m6, m7, m8, m9⟩ := motOf (m := m) (S1.out.get 2 rfl)
  have zm := (S1.out.get 2 rfl).lt
  go_wp2_with fail
  refine (KA.out _ S1.out.1).mono ?_
  rintro e w2 ⟨rfl, hb2⟩
  have S2 := Lib.hid (S1.out.below hb2)
  clear hb2 S1 m0 m1 m2 m3 m4 m5 m6 m7 m8 m9 zm KP KA
  go_upto_region 6 with fail
  have S3 := Lib.hid (S2.out.alloc [.int .i64 R.r, .int .i64 R.ld, .int .i64 R.lq, .int .i64 R.fx, .int .i64 R.po, .int .i64 R.mi, .int .i64 R.sp, .int .i64 R.dr, .int .i64 R.cu, .int .i64 R.fa] 52)
  refine gen_world (fun W => ∃ g, St w ((g, 52, [.int .i64 R.r, .int .i64 R.ld, .int .i64 R.lq, .int .i64 R.fx, .int .i64 R.po, .int .i64 R.mi, .int .i64 R.sp, .int .i64 R.dr, .int .i64 R.cu, .int .i64 R.fa]) :: [(w.heap.size + 1 + 1, 57, [.int .i64 s.d, .int .i64 s.q, .int .i64 s.w, .int .i64 s.a]), (w.heap.size + 1, 78, [.int .i64 p0, .int .i64 i0, .int .i64 p1, .int .i64 i1]), (w.heap.size, 52, [.int .i64 m.r, .int .i64 m.ld, .int .i64 m.lq, .int .i64 m.fx, .int .i64 m.po, .int .i64 m.mi, .int .i64 m.sp, .int .i64 m.dr, .int .i64 m.cu, .int .i64 m.fa])]) W ∧ g = w2.heap.size) ⟨_, S3.out, rfl⟩ ?_
  rintro w3 ⟨g, i3, hg⟩
  have hgw : w.heap.size + 1 + 1 < g := by rw [hg]; exact (S2.out.get 0 rfl).lt
  rw [← hg]
  clear hg S2 S3
  have S3 := Lib.hid i3
  clear i3
  go_wp2_with fail
  go_loopw [20] (fun i wr => ∃ k : Nat, k ≤ 4 ∧ i = .int .i64 k ∧ Hid (St w ((g, 52, [.int .i64 R.r, .int .i64 R.ld, .int .i64 R.lq, .int .i64 R.fx, .int .i64 R.po, .int .i64 R.mi, .int .i64 R.sp, .int .i64 R.dr, .int .i64 R.cu, .int .i64 R.fa]) :: [(w.heap.size + 1 + 1, 57, [.int .i64 s.d, .int .i64 s.q, .int .i64 s.w, .int .i64 s.a]), (w.heap.size + 1, 78, [.int .i64 p0, .int .i64 i0, .int .i64 p1, .int .i64 i1]), (w.heap.size, 52, [.int .i64 m.r, .int .i64 m.ld, .int .i64 m.lq, .int .i64 m.fx, .int .i64 m.po, .int .i64 m.mi, .int .i64 m.sp, .int .i64 m.dr, .int .i64 m.cu, .int .i64 m.fa])]) wr ∧ ∀ j, j < k → Dv.inB (xs.getD j 0) (l.getD j default).lo (l.getD j default).hi = true)) (fun i _ => 4 - (intOf i).toNat)
  case atStart => exact ⟨0, by omega, rfl, Lib.hid ⟨S3.out, fun j hj => absurd hj (Nat.not_lt_zero _)⟩⟩
  case round =>
    clear S3
    obtain ⟨k, hk, rfl, HB⟩ := hrel
    by_cases hlt : k < 4
    · have hd4 : decide ((k : Int) < 4) = true := decide_eq_true (by omega)
      obtain ⟨aX, rfl, x0⟩ := (HY.out.below HB.out.1.1) k (by have := H4.out; omega)
      obtain ⟨aA, rfl, _, t0, t1⟩ := (HX.out.below HB.out.1.1) k (by have := H5.out; omega)
      have zx := World.block_lt_of_cell? _ _ x0
      have zt := World.block_lt_of_cell? _ _ t0
      have k0 : (0 : Int) ≤ (k : Int) := by omega
      have kx : (k : Int) < (xs.length : Int) := by have := H4.out; omega
      have kl : (k : Int) < (l.length : Int) := by have := H5.out; omega
      obtain ⟨b, hb⟩ : ∃ b, b = Dv.inB (xs.getD k 0) (l.getD k default).lo (l.getD k default).hi := ⟨_, rfl⟩
      have HT := Lib.hid (show b = true → ∀ j, j < k + 1 → Dv.inB (xs.getD j 0) (l.getD j default).lo (l.getD j default).hi = true from fun h j hj => by
        by_cases hjk : j = k
        · subst hjk; rw [← hb]; exact h
        · exact HB.out.2 j (by omega))
      have HNo := Lib.hid (show b = false → Dv.ofB xs l = false from fun h => by
        cases hq : Dv.ofB xs l
        · rfl
        · have := ((ofB_iff xs l).1 hq k (by have := H4.out; omega)).2
          rw [← hb, h] at this
          cases this)
      generalize xs.getD k 0 = xk at *
      generalize l.getD k default = lk at *
      have P80 := Lib.hid (fun W => within_c xk lk.lo lk.hi W)
      rw [← hb] at P80
      clear hb
      go_wp2_with fail
      refine wp_region_past (by kernel_rfl) (by kernel_rfl) ?_
      repeat (go_big_quiet_step ((go_at_call 80; exact past_same (P80.out _))))
      refine wpQuiet_nil ?_
      intro xx
      have HXX := Lib.hid xx.far
      generalize xx.w = w4 at HXX ⊢
      have S4 := Lib.hid (HB.out.1.below HXX.out)
      cases b
      · have HN := Lib.hid (HPE.out 3 (Dv.plH_of H0.out HAP.out (HNo.out rfl)) (by decide))
        go_wp2
        go_ret2
        exact PlP.of HN.out rfl S4.out.1
      · clear HB
        go_wp2
        go_roundw
        case rel => exact ⟨k + 1, by omega, by go_num, Lib.hid ⟨S4.out, HT.out rfl⟩⟩
        case measure => simp [intOf]; omega
    · obtain rfl : k = 4 := by omega
      have HOF : Hid (Dv.ofB xs l = true) := Lib.hid ((ofB_iff xs l).2 fun i hi => ⟨by have := H4.out; have := H5.out; omega, HB.out.2 i (by have := H4.out; omega)⟩)
      have S4 := Lib.hid HB.out.1
      clear HB
      have z_g := (S4.out.get 2 rfl).lt
      have c_g0 := (S4.out.get 2 rfl).cell 0 rfl
      have c_g1 := (S4.out.get 2 rfl).cell 1 rfl
      have c_g2 := (S4.out.get 2 rfl).cell 2 rfl
      have c_g3 := (S4.out.get 2 rfl).cell 3 rfl
      have KG0 := Lib.hid (fun W => gains_c p0 i0 W)
      have KG1 := Lib.hid (fun W => gains_c p1 i1 W)
      have HTn := Lib.hid (show (Dv.tunB p0 i0 && Dv.tunB p1 i1) = false → pE = 2 ∧ pV = [] from fun h => HPE.out 2 (Dv.plH_tun H0.out HAP.out HOF.out h) (by decide))
      obtain ⟨b0, hb0⟩ : ∃ b0, b0 = Dv.tunB p0 i0 := ⟨_, rfl⟩
      obtain ⟨b1, hb1⟩ : ∃ b1, b1 = Dv.tunB p1 i1 := ⟨_, rfl⟩
      rw [← hb0, ← hb1] at HTn
      rw [← hb0] at KG0
      rw [← hb1] at KG1
      have HT0 := Lib.hid hb0
      have HT1 := Lib.hid hb1
      clear hb0 hb1
      go_wp2_with fail
      refine (KG0.out _).mono ?_
      rintro e w5 ⟨rfl, hb5⟩
      have S5 := Lib.hid (S4.out.below hb5)
      clear hb5 S4 z_g c_g0 c_g1 c_g2 c_g3
      cases b0
      · have HN := Lib.hid (HTn.out rfl)
        go_wp2
        go_ret2
        exact PlP.of HN.out rfl S5.out.1
      have z_g := (S5.out.get 2 rfl).lt
      have c_g0 := (S5.out.get 2 rfl).cell 0 rfl
      have c_g1 := (S5.out.get 2 rfl).cell 1 rfl
      have c_g2 := (S5.out.get 2 rfl).cell 2 rfl
      have c_g3 := (S5.out.get 2 rfl).cell 3 rfl
      go_wp2_with fail
      refine (KG1.out _).mono ?_
      rintro e w6 ⟨rfl, hb6⟩
      have S6 := Lib.hid (S5.out.below hb6)
      clear hb6 S5 z_g c_g0 c_g1 c_g2 c_g3 KG0 KG1
      cases b1
      · have HN := Lib.hid (HTn.out rfl)
        go_wp2
        go_ret2
        exact PlP.of HN.out rfl S6.out.1
      have HTU : Hid ((Dv.tunB p0 i0 && Dv.tunB p1 i1) = true) := Lib.hid (by rw [← HT0.out, ← HT1.out]; rfl)
      clear HTn HT0 HT1
      trace "gains"
      have KR := Lib.hid (fun W => RoomRef_c u W)
      have HBn := Lib.hid (show Dv.busB u = false → pE = 3 ∧ pV = [] from fun h => HPE.out 3 (Dv.plH_bus H0.out HAP.out HOF.out HTU.out h) (by decide))
      cases hbu : Dv.busB u
      · have HN := Lib.hid (HBn.out hbu)
        have e1 : Dv.RoomE u = 3 := by simp [Dv.RoomE, hbu]
        rw [e1] at KR
        clear hbu e1
        go_wp2_with fail
        refine (KR.out _).mono ?_
        rintro e w' ⟨rfl, rfl⟩
        go_wp2
        go_ret2
        exact PlP.of HN.out rfl S6.out.1
      have HBU := Lib.hid hbu
      have e1 : Dv.RoomE u = 0 := by simp [Dv.RoomE, hbu]
      have e2 : Dv.RoomV u = Dv.roomV u := by simp [Dv.RoomV, hbu]
      rw [e1, e2] at KR
      clear hbu e1 e2 HBn
      go_wp2_with fail
      refine (KR.out _).mono ?_
      rintro e w' ⟨rfl, rfl⟩
      clear KR
      trace "room"
      have hn2 : ¬ (2000 : Int) < (n : Int) := by omega
      by_cases hnn : n' = n
      rotate_left 1
      · have HN := Lib.hid (HPE.out 20 (Dv.plH_len H0.out HAP.out HOF.out HTU.out HBU.out (by rw [HLO.out]; exact hn) (by rw [HLO.out, HLE.out]; exact hnn)) (by decide))
        have d1 : ((n' : Int) == (n : Int)) = false := by rw [beq_eq_false_iff_ne]; omega
        have d2 : ((n' : Int) != (n : Int)) = true := by rw [bne_iff_ne]; omega
        have d3 : (n' == n) = false := by rw [beq_eq_false_iff_ne]; omega
        have d4 : (n' != n) = true := by rw [bne_iff_ne]; omega
        clear hnn
        go_wp2
        go_ret2
        exact PlP.of HN.out rfl S6.out.1
      subst hnn
      trace "lens"
      go_wp2_with fail
      go_loopw [22] (fun i wr => ∃ k : Nat, k ≤ n' ∧ i = .int .i64 k ∧ Hid (St w ((g, 52, [.int .i64 R.r, .int .i64 R.ld, .int .i64 R.lq, .int .i64 R.fx, .int .i64 R.po, .int .i64 R.mi, .int .i64 R.sp, .int .i64 R.dr, .int .i64 R.cu, .int .i64 R.fa]) :: [(w.heap.size + 1 + 1, 57, [.int .i64 s.d, .int .i64 s.q, .int .i64 s.w, .int .i64 s.a]), (w.heap.size + 1, 78, [.int .i64 p0, .int .i64 i0, .int .i64 p1, .int .i64 i1]), (w.heap.size, 52, [.int .i64 m.r, .int .i64 m.ld, .int .i64 m.lq, .int .i64 m.fx, .int .i64 m.po, .int .i64 m.mi, .int .i64 m.sp, .int .i64 m.dr, .int .i64 m.cu, .int .i64 m.fa])]) wr ∧ ∀ j, j < k → Dv.odB (Dv.lmS l) (os.getD j default) (es.getD j 0) = true)) (fun i _ => n' - (intOf i).toNat)
      case atStart => exact ⟨0, by omega, rfl, Lib.hid ⟨S6.out, fun j hj => absurd hj (Nat.not_lt_zero _)⟩⟩
      case round =>
        clear S6
        obtain ⟨k, hk, rfl, HB⟩ := hrel
        by_cases hlt : k < n'
        · obtain ⟨aD, rfl, zd, o0, o1, o2⟩ := (HO.out.below HB.out.1.1) k (by rw [HLO.out]; exact hlt)
          obtain ⟨aF, rfl, f0⟩ := (HF.out.below HB.out.1.1) k (by rw [HLE.out]; exact hlt)
          obtain ⟨aA, rfl, zt, t0, t1⟩ := (HX.out.below HB.out.1.1) 4 (by rw [H5.out]; decide)
          have zf := World.block_lt_of_cell? _ _ f0
          have t0' : wr.cell? ⟨aA.block, aA.off + 8, none⟩ = some (.int .i64 (Dv.lmS l).lo) := by simpa [Addr.add, Dv.lmS] using t0
          have t1' : wr.cell? ⟨aA.block, aA.off + 9, none⟩ = some (.int .i64 (Dv.lmS l).hi) := by simpa [Addr.add, Dv.lmS] using t1
          clear t0 t1
          have zd' : (aD.add (k * 3)).block < wr.heap.size := by rw [block_add]; exact zd
          have k0 : (0 : Int) ≤ (k : Int) := by omega
          have kx : (k : Int) < (n' : Int) := by omega
          have kd : decide ((k : Int) < (n' : Int)) = true := decide_eq_true (by omega)
          have kl : (4 : Int) < (l.length : Int) := by have := H5.out; omega
          obtain ⟨b1, hb1⟩ : ∃ b, b = Dv.inB (es.getD k 0) (Dv.lmS l).lo (Dv.lmS l).hi := ⟨_, rfl⟩
          obtain ⟨b2, hb2⟩ : ∃ b, b = upB 1048576 [(os.getD k default).d] := ⟨_, rfl⟩
          obtain ⟨b3, hb3⟩ : ∃ b, b = upB 1048576 [(os.getD k default).q] := ⟨_, rfl⟩
          obtain ⟨b4, hb4⟩ : ∃ b, b = upB 68719476736 [(os.getD k default).ld] := ⟨_, rfl⟩
          have hod : Dv.odB (Dv.lmS l) (os.getD k default) (es.getD k 0) = (b1 && (b2 && b3 && b4)) := by
            unfold Dv.odB
            rw [upB_two, hb1, hb2, hb3, hb4]
          have HT := Lib.hid (show (b1 && (b2 && b3 && b4)) = true → ∀ j, j < k + 1 → Dv.odB (Dv.lmS l) (os.getD j default) (es.getD j 0) = true from fun h j hj => by
            by_cases hjk : j = k
            · subst hjk; rw [hod]; exact h
            · exact HB.out.2 j (by omega))
          have HNo := Lib.hid (show (b1 && (b2 && b3 && b4)) = false → pE = 3 ∧ pV = [] from fun h => HPE.out 3 (Dv.plH_ods H0.out HAP.out HOF.out HTU.out HBU.out (by rw [HLO.out]; exact hn) (by rw [HLO.out, HLE.out]) (by
            cases hq : Dv.odsB (Dv.lmS l) os es
            · rfl
            · have := (odsB_iff (Dv.lmS l) os es (by rw [HLO.out, HLE.out])).1 hq k (by rw [HLO.out]; exact hlt)
              rw [hod, h] at this
              cases this)) (by decide))
          have P80 := Lib.hid (fun W => within_c (es.getD k 0) (Dv.lmS l).lo (Dv.lmS l).hi W)
          have P97d := Lib.hid (fun W => current_c (os.getD k default).d W)
          have P97q := Lib.hid (fun W => current_c (os.getD k default).q W)
          have P89 := Lib.hid (fun W => great_c (os.getD k default).ld W)
          rw [← hb1] at P80
          rw [← hb2] at P97d
          rw [← hb3] at P97q
          rw [← hb4] at P89
          clear hb1 hb2 hb3 hb4 hod
          have S7 := Lib.hid HB.out.1
          clear HB
          generalize es.getD k 0 = ek at f0 P80
          generalize os.getD k default = ok at o0 o1 o2 P97d P97q P89
          generalize Dv.lmS l = t4 at t0' t1' P80 HT
          go_wp2_with fail
          trace "r23"
          cases b1
          · refine wp_region_past (by kernel_rfl) (by kernel_rfl) ?_
            repeat (go_big_quiet_step (first | (go_at_call 80; with_reducible exact past_same (P80.out _)) | (go_at_call 97; with_reducible exact past_same (P97d.out _)) | (go_at_call 97; with_reducible exact past_same (P97q.out _)) | (go_at_call 89; with_reducible exact past_same (P89.out _))))
            refine wpQuiet_nil ?_
            intro xx
            have HXX := Lib.hid xx.far
            generalize xx.w = w7 at HXX ⊢
            have S8 := Lib.hid (S7.out.below HXX.out)
            have HN := Lib.hid (HNo.out rfl)
            go_wp2
            go_ret2
            exact PlP.of HN.out rfl S8.out.1
          cases b2
          · refine wp_region_past (by kernel_rfl) (by kernel_rfl) ?_
            repeat (go_big_quiet_step (first | (go_at_call 80; with_reducible exact past_same (P80.out _)) | (go_at_call 97; with_reducible exact past_same (P97d.out _)) | (go_at_call 97; with_reducible exact past_same (P97q.out _)) | (go_at_call 89; with_reducible exact past_same (P89.out _))))
            refine wpQuiet_nil ?_
            intro xx
            have HXX := Lib.hid xx.far
            generalize xx.w = w7 at HXX ⊢
            have S8 := Lib.hid (S7.out.below HXX.out)
            have HN := Lib.hid (HNo.out rfl)
            go_wp2
            go_ret2
            exact PlP.of HN.out rfl S8.out.1
          cases b3
          · refine wp_region_past (by kernel_rfl) (by kernel_rfl) ?_
            repeat (go_big_quiet_step (first | (go_at_call 80; with_reducible exact past_same (P80.out _)) | (go_at_call 97; with_reducible exact past_same (P97d.out _)) | (go_at_call 97; with_reducible exact past_same (P97q.out _)) | (go_at_call 89; with_reducible exact past_same (P89.out _))))
            refine wpQuiet_nil ?_
            intro xx
            have HXX := Lib.hid xx.far
            generalize xx.w = w7 at HXX ⊢
            have S8 := Lib.hid (S7.out.below HXX.out)
            have HN := Lib.hid (HNo.out rfl)
            go_wp2
            go_ret2
            exact PlP.of HN.out rfl S8.out.1
          cases b4
          · refine wp_region_past (by kernel_rfl) (by kernel_rfl) ?_
            repeat (go_big_quiet_step (first | (go_at_call 80; with_reducible exact past_same (P80.out _)) | (go_at_call 97; with_reducible exact past_same (P97d.out _)) | (go_at_call 97; with_reducible exact past_same (P97q.out _)) | (go_at_call 89; with_reducible exact past_same (P89.out _))))
            refine wpQuiet_nil ?_
            intro xx
            have HXX := Lib.hid xx.far
            generalize xx.w = w7 at HXX ⊢
            have S8 := Lib.hid (S7.out.below HXX.out)
            have HN := Lib.hid (HNo.out rfl)
            go_wp2
            go_ret2
            exact PlP.of HN.out rfl S8.out.1
          refine wp_region_past (by kernel_rfl) (by kernel_rfl) ?_
          repeat (go_big_quiet_step (first | (go_at_call 80; with_reducible exact past_same (P80.out _)) | (go_at_call 97; with_reducible exact past_same (P97d.out _)) | (go_at_call 97; with_reducible exact past_same (P97q.out _)) | (go_at_call 89; with_reducible exact past_same (P89.out _))))
          refine wpQuiet_nil ?_
          intro xx
          have HXX := Lib.hid xx.far
          generalize xx.w = w7 at HXX ⊢
          have S8 := Lib.hid (S7.out.below HXX.out)
          have HT1 := Lib.hid (HT.out rfl)
          clear HT HNo
          go_wp2
          go_roundw
          case rel => exact ⟨k + 1, by omega, by go_num, Lib.hid ⟨S8.out, HT1.out⟩⟩
          case measure => simp [intOf]; omega
        · obtain rfl : k = n' := by omega
          have HOD : Hid (Dv.odsB (Dv.lmS l) os es = true) := Lib.hid ((odsB_iff (Dv.lmS l) os es (by rw [HLO.out, HLE.out])).2 fun i hi => HB.out.2 i (by have := HLO.out; omega))
          have S7 := Lib.hid HB.out.1
          clear HB
          have hkk : ¬ (k : Int) < (k : Int) := by omega
          have z_s := (S7.out.get 1 rfl).lt
          have c_s0 := (S7.out.get 1 rfl).cell 0 rfl
          have c_s1 := (S7.out.get 1 rfl).cell 1 rfl
          have c_s2 := (S7.out.get 1 rfl).cell 2 rfl
          have c_s3 := (S7.out.get 1 rfl).cell 3 rfl
          have z_m := (S7.out.get 3 rfl).lt
          have c_m8 := (S7.out.get 3 rfl).cell 8 rfl
          have hcu := (Dv.ap_parts HAP.out).2.1
          unfold Dv.chk at hcu
          have hcu1 : 1 ≤ m.cu ∧ m.cu ≤ 1048576 := by omega
          clear hcu
          obtain ⟨b1, hb1⟩ : ∃ b, b = Dv.rotB s := ⟨_, rfl⟩
          obtain ⟨b2, hb2⟩ : ∃ b, b = upB m.cu [s.d] := ⟨_, rfl⟩
          obtain ⟨b3, hb3⟩ : ∃ b, b = upB m.cu [s.q] := ⟨_, rfl⟩
          have hod : (Dv.rotB s && upB m.cu [s.d, s.q]) = (b1 && (b2 && b3)) := by rw [upB_two, hb1, hb2, hb3]
          have HNo := Lib.hid (show (b1 && (b2 && b3)) = false → pE = 3 ∧ pV = [] from fun h => HPE.out 3 (Dv.plH_rot H0.out HAP.out HOF.out HTU.out HBU.out (by rw [HLO.out]; exact hn) (by rw [HLO.out, HLE.out]) HOD.out (by rw [hod]; exact h)) (by decide))
          have HYs := Lib.hid (show (b1 && (b2 && b3)) = true → Dv.plH m xs l p0 i0 p1 i1 u s os es = 0 from fun h => Dv.plH_ok H0.out HAP.out HOF.out HTU.out HBU.out (by rw [HLO.out]; exact hn) (by rw [HLO.out, HLE.out]) HOD.out (by rw [hod]; exact h))
          have K105 := Lib.hid (fun W => rotor_c s W)
          have K80d := Lib.hid (show ∀ W, Calls Try.prog 80 #[.int .i64 s.d, .int .i64 (-m.cu), .int .i64 m.cu] W fun e w' => e = .returned (.bool (upB m.cu [s.d])) ∧ W = w' from fun W => within_is s.d m.cu _ rfl W)
          have K80q := Lib.hid (show ∀ W, Calls Try.prog 80 #[.int .i64 s.q, .int .i64 (-m.cu), .int .i64 m.cu] W fun e w' => e = .returned (.bool (upB m.cu [s.q])) ∧ W = w' from fun W => within_is s.q m.cu _ rfl W)
          rw [← hb1] at K105
          rw [← hb2] at K80d
          rw [← hb3] at K80q
          have HBB := Lib.hid (And.intro hb1 (And.intro hb2 hb3))
          clear hb1 hb2 hb3 hod
          go_wp2_with fail
          refine (K105.out _).mono ?_
          rintro e w8 ⟨rfl, hb8⟩
          have S8 := Lib.hid (S7.out.below hb8)
          clear hb8 S7 z_s c_s0 c_s1 c_s2 c_s3 z_m c_m8
          cases b1
          · have HN := Lib.hid (HNo.out rfl)
            go_wp2
            go_ret2
            exact PlP.of HN.out rfl S8.out.1
          have z_s := (S8.out.get 1 rfl).lt
          have c_s0 := (S8.out.get 1 rfl).cell 0 rfl
          have c_s1 := (S8.out.get 1 rfl).cell 1 rfl
          have c_s2 := (S8.out.get 1 rfl).cell 2 rfl
          have c_s3 := (S8.out.get 1 rfl).cell 3 rfl
          have z_m := (S8.out.get 3 rfl).lt
          have c_m8 := (S8.out.get 3 rfl).cell 8 rfl
          go_wp2_with fail
          refine (K80d.out _).mono ?_
          rintro e w' ⟨rfl, rfl⟩
          cases b2
          · have HN := Lib.hid (HNo.out rfl)
            go_wp2
            go_ret2
            exact PlP.of HN.out rfl S8.out.1
          go_wp2_with fail
          refine (K80q.out _).mono ?_
          rintro e w' ⟨rfl, rfl⟩
          cases b3
          · have HN := Lib.hid (HNo.out rfl)
            go_wp2
            go_ret2
            exact PlP.of HN.out rfl S8.out.1
          have HH0 := Lib.hid (HYs.out rfl)
          clear HNo HYs K105 K80d K80q z_s c_s0 c_s1 c_s2 c_s3 z_m c_m8
          trace "state"
          go_wp2_with fail
          rename_i KK hKK
          have hbs := HBB.out
          have hP : PlF m R l p0 i0 p1 i1 u s os es k pE pV := by
            have hpp := HPP.out
            have e1 : Dv.plP m xs l p0 i0 p1 i1 u = ⟨m, R, l, p0, i0, p1, i1, u⟩ := by unfold Dv.plP; rw [← HR.out]
            have ht := HTU.out
            rw [Bool.and_eq_true] at ht
            refine ⟨H0.out, by rw [HR.out]; exact (Dv.ap_parts HAP.out).2.2, ht.1, ht.2, HBU.out, hbs.1.symm, HOD.out, HLO.out, HLE.out, fun j E hj hC hE hne => ?_, fun hC => ?_⟩
            · rw [← e1] at hC hE
              rw [hpp.1, hpp.2]
              exact Dv.pl_stop HH0.out hC hE hne (by rw [HLO.out]; exact hj)
            · rw [← e1] at hC ⊢
              rw [hpp.1, hpp.2]
              have := Dv.pl_done HH0.out (by rw [HLO.out]; exact hC)
              rw [HLO.out] at this
              exact this
          refine wp_codeP (c' := loop66) (by kernel_rfl) ?_
          exact PlayR_loop m R A l cap p0 i0 p1 i1 u s D os k ck F es ck' w _ g pE pV _ _ _ _ _ _ _ _ _ _ _ _ _ _ _ _ _ _ _ _ _ _ _ _ _ _ _ _ _ _ _ _ _ _ _ _ _ _ _ _ _ _ _ _ _ _ _ _ _ _ _ _ _ _ _ _ _ _ _ _ _ _ _ _ _ _ _ _ _ _ _ _ _ _ _ _ _ _ _ _ _ _ _ _ _ _ _ _ _ _ _ _ _ _ _ _ _ _ _ _ _ _ _ _ _ _ _ _ _ _ _ _ _ _ _ _ _ _ _ _ _ _ _ _ _ _ _ _ _ _ _ _ _ _ _ _ _ _ _ _ _ _ _ _ _ _ _ _ _ _ _ _ _ _ _ _ _ _ _ _ _ _ _ _ _ _ _ _ _ _ _ _ _ _ _ _ _ _ _ _ _ _ _ _ _ _ _ _ _ _ _ _ _ _ _ _ _ _ _ _ _ _ _ _ _ _ _ _ _ _ _ _ _ _ _ _ _ _ _ _ _ _ _ _ _ _ _ _ _ _ _ _ _ _ _ _ _ _ _ _ _ _ _ _ _ _ _ _ _ _ _ _ _ _ _ _ _ _ _ _ _ _ _ _ _ KK HX.out HO.out HF.out hn hP S8.out hgw (fun a w' h => hKK a w' (wp_codeP (by kernel_rfl) h))
end Go.Proofs.Ytcneohhfnnelgaa
namespace Go.Proofs.Ytcneohhfnnelgaa
open Go.RowKit
set_option linter.unusedVariables false
theorem newLimiter_y (m : Mot) (A : Option Addr) (l : List Sp) (cap : Nat) (w : World) (hx : SpAt w A l) :
    Calls Try.prog 108 #[.agg #[.int .i64 m.r, .int .i64 m.ld, .int .i64 m.lq, .int .i64 m.fx, .int .i64 m.po, .int .i64 m.mi, .int .i64 m.sp, .int .i64 m.dr, .int .i64 m.cu, .int .i64 m.fa], .slice A l.length cap] w (LmP m l w) := by
  cases hC : Dv.chkB m
  · exact (newLimiter_no1 m A l.length cap w hC).mono fun _ _ ⟨h1, h2⟩ => ⟨h2, .inl (by
      have : Dv.lmE m l = 2 := by simp [Dv.lmE, Dv.lmA, hC]
      rw [this]; exact ⟨by decide, h1⟩)⟩
  · by_cases hl : l.length = 5
    · match l, hl with
      | [s0, s1, s2, s3, s4], _ => exact newLimiter_go m A s0 s1 s2 s3 s4 cap w hx hC
    · exact (newLimiter_no2 m A l cap w hx hC (by simp; omega)).mono fun _ _ ⟨h1, h2⟩ => ⟨h2, .inl (by
        have : Dv.lmE m l = 2 := by simp [Dv.lmE, Dv.lmA, hl]
        rw [this]; exact ⟨by decide, h1⟩)⟩
theorem St.pick {w W : World} {l : List BlkRow} (h : St w l W) (l' : List BlkRow) (hs : ∀ x, x ∈ l' → x ∈ l) (hn : (l'.map Prod.fst).Nodup) : St w l' W := ⟨h.1, fun x hx => h.2.1 x (hs x hx), hn⟩
theorem RgAt.of {W : World} {b : Nat} {p i s : Int} (h : Blk W b 97 [.int .i64 p, .int .i64 i, .int .i64 s]) : RgAt W b p i s := ⟨h.lt, h.cell 0 rfl, h.cell 1 rfl, h.cell 2 rfl, h.free 2⟩
theorem lm_ends {V : World} {gl : Nat} {m : Mot} {l : List Sp} (h : Blk V gl 131 (lmC m (Dv.lmLo m l) (Dv.lmHi m l) (Dv.lmS l).lo (Dv.lmS l).hi)) : V.cell? ⟨gl, 30, none⟩ = some (.int .i64 (Dv.lmS l).lo) ∧ V.cell? ⟨gl, 31, none⟩ = some (.int .i64 (Dv.lmS l).hi) := ⟨h.cell 30 rfl, h.cell 31 rfl⟩
set_option maxHeartbeats 16000000 in
set_option maxRecDepth 100000 in
theorem Play_c (m : Mot) (X : Option Addr) (xs : List Int) (c : Nat) (A : Option Addr) (l : List Sp) (cap : Nat) (p0 i0 p1 i1 u : Int) (s : Rot) (D : Option Addr) (os : List Od) (n ck : Nat) (F : Option Addr) (es : List Int) (n' ck' : Nat) (w : World) (hx : SpAt w A l) (hxs : IntsAt w X xs) (hll : xs.length ≤ 4611686018427387904) (ho : OdAt w D os) (he : IntsAt w F es) (hno : os.length = n) (hne : es.length = n') (hn : n ≤ 100) (hn' : n' ≤ 100) :
    Calls Try.prog 65 #[.agg #[.int .i64 m.r, .int .i64 m.ld, .int .i64 m.lq, .int .i64 m.fx, .int .i64 m.po, .int .i64 m.mi, .int .i64 m.sp, .int .i64 m.dr, .int .i64 m.cu, .int .i64 m.fa], .slice X xs.length c, .slice A l.length cap, .agg #[.int .i64 p0, .int .i64 i0, .int .i64 p1, .int .i64 i1], .int .i64 u, .agg #[.int .i64 s.d, .int .i64 s.q, .int .i64 s.w, .int .i64 s.a], .slice D n ck, .slice F n' ck'] w (PlP (Dv.plErr m xs l p0 i0 p1 i1 u s os es) (Dv.plVal m xs l p0 i0 p1 i1 u s os es) w) := by
  have HX := Lib.hid hx
  have HY := Lib.hid hxs
  have HO := Lib.hid ho
  have HF := Lib.hid he
  have HLO := Lib.hid hno
  have HLE := Lib.hid hne
  have HLL := Lib.hid hll
  have KP := Lib.hid (fun (V : World) (hV : Below w.heap.size w V) => newLimiter_y m A l cap V (HX.out.below hV))
  have KA := Lib.hid (fun (V : World) (hV : Below w.heap.size w V) => Apply_c m X xs c V (HY.out.below hV) HLL.out)
  clear hx hxs ho he hno hne hll
  obtain ⟨pE, hpE⟩ : ∃ pE, pE = (Dv.plErr m xs l p0 i0 p1 i1 u s os es) := ⟨_, rfl⟩
  obtain ⟨pV, hpV⟩ : ∃ pV, pV = (Dv.plVal m xs l p0 i0 p1 i1 u s os es) := ⟨_, rfl⟩
  rw [← hpE, ← hpV]
  have HPE := Lib.hid (show ∀ E, Dv.plH m xs l p0 i0 p1 i1 u s os es = E → E ≠ 0 → pE = E ∧ pV = [] from fun E h h' => by rw [hpE, hpV]; exact Dv.pl_head h h')
  have HPP := Lib.hid (And.intro hpE hpV)
  clear hpE hpV
  have S0 := Lib.hid (show St w [(w.heap.size + 1 + 1, 57, [.int .i64 s.d, .int .i64 s.q, .int .i64 s.w, .int .i64 s.a]), (w.heap.size + 1, 78, [.int .i64 p0, .int .i64 i0, .int .i64 p1, .int .i64 i1]), (w.heap.size, 52, [.int .i64 m.r, .int .i64 m.ld, .int .i64 m.lq, .int .i64 m.fx, .int .i64 m.po, .int .i64 m.mi, .int .i64 m.sp, .int .i64 m.dr, .int .i64 m.cu, .int .i64 m.fa])] (((w.alloc (.cells #[.int .i64 m.r, .int .i64 m.ld, .int .i64 m.lq, .int .i64 m.fx, .int .i64 m.po, .int .i64 m.mi, .int .i64 m.sp, .int .i64 m.dr, .int .i64 m.cu, .int .i64 m.fa] 52)).alloc (.cells #[.int .i64 p0, .int .i64 i0, .int .i64 p1, .int .i64 i1] 78)).alloc (.cells #[.int .i64 s.d, .int .i64 s.q, .int .i64 s.w, .int .i64 s.a] 57)) from by
    have := (((St.start w).alloc [.int .i64 m.r, .int .i64 m.ld, .int .i64 m.lq, .int .i64 m.fx, .int .i64 m.po, .int .i64 m.mi, .int .i64 m.sp, .int .i64 m.dr, .int .i64 m.cu, .int .i64 m.fa] 52).alloc [.int .i64 p0, .int .i64 i0, .int .i64 p1, .int .i64 i1] 78).alloc [.int .i64 s.d, .int .i64 s.q, .int .i64 s.w, .int .i64 s.a] 57
    simp at this
    exact this)
  go_enter Try.func65, Try.ntmps65
  go_wp2_with fail
  refine (KP.out _ S0.out.1).mono ?_
  rintro e w1 ⟨hb1, h⟩
  rcases h with ⟨hne, rfl⟩ | ⟨h0, gl, hgz, rfl, hgb⟩
  · have S1 := Lib.hid (S0.out.below hb1)
    have HN := Lib.hid (HPE.out _ (Dv.plH_lm hne) hne)
    have hbt : (Dv.lmE m l != 0) = true := by simpa using hne
    clear hb1 S0 hne HPE HPP KA
    generalize Dv.lmE m l = E at HN hbt
    go_wp2
    go_ret2
    exact PlP.of HN.out rfl S1.out.1
  have H0 := Lib.hid h0
  have H5 := Lib.hid (Dv.lm_parts h0).2.1
  have S1 := Lib.hid (show St w ((gl, 131, lmC m (Dv.lmLo m l) (Dv.lmHi m l) (Dv.lmS l).lo (Dv.lmS l).hi) :: [(w.heap.size + 1 + 1, 57, [.int .i64 s.d, .int .i64 s.q, .int .i64 s.w, .int .i64 s.a]), (w.heap.size + 1, 78, [.int .i64 p0, .int .i64 i0, .int .i64 p1, .int .i64 i1]), (w.heap.size, 52, [.int .i64 m.r, .int .i64 m.ld, .int .i64 m.lq, .int .i64 m.fx, .int .i64 m.po, .int .i64 m.mi, .int .i64 m.sp, .int .i64 m.dr, .int .i64 m.cu, .int .i64 m.fa])]) w1 from S0.out.add hb1 (by simpa using hgz) hgb)
  have hgl : w.heap.size + 1 + 1 < gl := by simp at hgz; omega
  clear hb1 S0 h0 hgz hgb KP
  obtain ⟨m0, m1, m2, m3, m4, m5, m6, m7, m8, m9⟩ := motOf (m := m) (S1.out.get 3 rfl)
  have zm := (S1.out.get 3 rfl).lt
  go_wp2_with fail
  refine (KA.out _ S1.out.1).mono ?_
  rintro e w2 ⟨rfl, hb2⟩
  have S2 := Lib.hid (S1.out.below hb2)
  clear hb2 S1 m0 m1 m2 m3 m4 m5 m6 m7 m8 m9 zm KA
  obtain ⟨R, hR⟩ : ∃ R, R = (Dv.apR m xs).1 := ⟨_, rfl⟩
  rw [← hR]
  have HR := Lib.hid hR
  clear hR
  have S3 := Lib.hid (S2.out.alloc [.int .i64 R.r, .int .i64 R.ld, .int .i64 R.lq, .int .i64 R.fx, .int .i64 R.po, .int .i64 R.mi, .int .i64 R.sp, .int .i64 R.dr, .int .i64 R.cu, .int .i64 R.fa] 52)
  go_upto_region 5 with fail
  refine gen_world (fun W => ∃ g, St w ((g, 52, [.int .i64 R.r, .int .i64 R.ld, .int .i64 R.lq, .int .i64 R.fx, .int .i64 R.po, .int .i64 R.mi, .int .i64 R.sp, .int .i64 R.dr, .int .i64 R.cu, .int .i64 R.fa]) :: (gl, 131, lmC m (Dv.lmLo m l) (Dv.lmHi m l) (Dv.lmS l).lo (Dv.lmS l).hi) :: [(w.heap.size + 1 + 1, 57, [.int .i64 s.d, .int .i64 s.q, .int .i64 s.w, .int .i64 s.a]), (w.heap.size + 1, 78, [.int .i64 p0, .int .i64 i0, .int .i64 p1, .int .i64 i1]), (w.heap.size, 52, [.int .i64 m.r, .int .i64 m.ld, .int .i64 m.lq, .int .i64 m.fx, .int .i64 m.po, .int .i64 m.mi, .int .i64 m.sp, .int .i64 m.dr, .int .i64 m.cu, .int .i64 m.fa])]) W ∧ g = w2.heap.size) ⟨_, S3.out, rfl⟩ ?_
  rintro w3 ⟨g, i3, hg⟩
  have hgw : gl < g := by rw [hg]; exact (S2.out.get 0 rfl).lt
  rw [← hg]
  clear hg S2 S3
  have S3 := Lib.hid i3
  clear i3
  by_cases hap : (Dv.apR m xs).2 = 0
  rotate_left 1
  · have HN := Lib.hid (HPE.out _ (Dv.plH_ap H0.out hap) hap)
    have hbt : ((Dv.apR m xs).2 != 0) = true := by simpa using hap
    clear hap HPE HPP HR
    generalize (Dv.apR m xs).2 = E at HN hbt ⊢
    go_wp2
    go_ret2
    exact PlP.of HN.out rfl S3.out.1
  rw [hap]
  have HAP := Lib.hid hap
  have H4 := Lib.hid (Dv.ap_parts hap).1
  clear hap
  trace "apply"
  obtain ⟨nx, hnx⟩ : ∃ nx, nx = xs.length := ⟨_, rfl⟩
  have HNX := Lib.hid hnx
  rw [← hnx]
  have nx4 : nx ≤ 4 := by have := H4.out; omega
  clear hnx
  go_wp2_with fail
  go_loopw [59] (fun i wr => ∃ k : Nat, k ≤ nx ∧ i = .int .i64 k ∧ Hid (St w ((g, 52, [.int .i64 R.r, .int .i64 R.ld, .int .i64 R.lq, .int .i64 R.fx, .int .i64 R.po, .int .i64 R.mi, .int .i64 R.sp, .int .i64 R.dr, .int .i64 R.cu, .int .i64 R.fa]) :: (gl, 131, lmC m (Dv.lmLo m l) (Dv.lmHi m l) (Dv.lmS l).lo (Dv.lmS l).hi) :: [(w.heap.size + 1 + 1, 57, [.int .i64 s.d, .int .i64 s.q, .int .i64 s.w, .int .i64 s.a]), (w.heap.size + 1, 78, [.int .i64 p0, .int .i64 i0, .int .i64 p1, .int .i64 i1]), (w.heap.size, 52, [.int .i64 m.r, .int .i64 m.ld, .int .i64 m.lq, .int .i64 m.fx, .int .i64 m.po, .int .i64 m.mi, .int .i64 m.sp, .int .i64 m.dr, .int .i64 m.cu, .int .i64 m.fa])]) wr ∧ ∀ j, j < k → Dv.inB (xs.getD j 0) (l.getD j default).lo (l.getD j default).hi = true)) (fun i _ => nx - (intOf i).toNat)
  case atStart => exact ⟨0, by omega, rfl, Lib.hid ⟨S3.out, fun j hj => absurd hj (Nat.not_lt_zero _)⟩⟩
  case round =>
    clear S3
    obtain ⟨k, hk, rfl, HB⟩ := hrel
    by_cases hlt : k < nx
    · obtain ⟨aX, rfl, x0⟩ := (HY.out.below HB.out.1.1) k (by have := HNX.out; omega)
      obtain ⟨aA, rfl, _, t0, t1⟩ := (HX.out.below HB.out.1.1) k (by have := H5.out; omega)
      have zx := World.block_lt_of_cell? _ _ x0
      have zt := World.block_lt_of_cell? _ _ t0
      have k0 : (0 : Int) ≤ (k : Int) := by omega
      have kx : (k : Int) < (nx : Int) := by omega
      have kl : (k : Int) < (l.length : Int) := by have := H5.out; omega
      have HT := Lib.hid (show Dv.inB (xs.getD k 0) (l.getD k default).lo (l.getD k default).hi = true → ∀ j, j < k + 1 → Dv.inB (xs.getD j 0) (l.getD j default).lo (l.getD j default).hi = true from fun h j hj => by
        by_cases hjk : j = k
        · subst hjk; exact h
        · exact HB.out.2 j (by omega))
      have HNo := Lib.hid (show Dv.inB (xs.getD k 0) (l.getD k default).lo (l.getD k default).hi = false → pE = 3 ∧ pV = [] from fun h => HPE.out 3 (Dv.plH_of H0.out HAP.out (by
        cases hq : Dv.ofB xs l
        · rfl
        · have := ((ofB_iff xs l).1 hq k (by have := HNX.out; omega)).2
          rw [h] at this
          cases this)) (by decide))
      have S4 := Lib.hid HB.out.1
      clear HB
      generalize xs.getD k 0 = xk at *
      generalize l.getD k default = lk at *
      by_cases hl1 : xk < lk.lo
      · have HN := Lib.hid (HNo.out (inB_false (by omega)))
        have d1 : decide (xk < lk.lo) = true := decide_eq_true hl1
        go_wp2
        go_ret2
        exact PlP.of HN.out rfl S4.out.1
      have d1 : decide (xk < lk.lo) = false := decide_eq_false hl1
      by_cases hl2 : lk.hi < xk
      · have HN := Lib.hid (HNo.out (inB_false (by omega)))
        have d2 : decide (lk.hi < xk) = true := decide_eq_true hl2
        go_wp2
        go_ret2
        exact PlP.of HN.out rfl S4.out.1
      have d2 : decide (lk.hi < xk) = false := decide_eq_false hl2
      have HF1 := Lib.hid (HT.out (inB_true (by omega) (by omega)))
      clear HT HNo
      go_wp2
      go_roundw
      case rel => exact ⟨k + 1, by omega, by go_num, Lib.hid ⟨S4.out, HF1.out⟩⟩
      case measure => simp [intOf]; omega
    · obtain rfl : k = nx := by omega
      have HOF : Hid (Dv.ofB xs l = true) := Lib.hid ((ofB_iff xs l).2 fun i hi => ⟨by have := H4.out; have := H5.out; omega, HB.out.2 i (by have := HNX.out; omega)⟩)
      have S4 := Lib.hid HB.out.1
      clear HB
      trace "loop1"
      have z_g := (S4.out.get 3 rfl).lt
      have c_g0 := (S4.out.get 3 rfl).cell 0 rfl
      have c_g1 := (S4.out.get 3 rfl).cell 1 rfl
      have c_g2 := (S4.out.get 3 rfl).cell 2 rfl
      have c_g3 := (S4.out.get 3 rfl).cell 3 rfl
      have KG0 := Lib.hid (fun W => tuned_c p0 i0 W)
      have KG1 := Lib.hid (fun W => tuned_c p1 i1 W)
      have HTn := Lib.hid (show (Dv.tunB p0 i0 && Dv.tunB p1 i1) = false → pE = 2 ∧ pV = [] from fun h => HPE.out 2 (Dv.plH_tun H0.out HAP.out HOF.out h) (by decide))
      obtain ⟨b0, hb0⟩ : ∃ b0, b0 = Dv.tunB p0 i0 := ⟨_, rfl⟩
      obtain ⟨b1, hb1⟩ : ∃ b1, b1 = Dv.tunB p1 i1 := ⟨_, rfl⟩
      rw [← hb0, ← hb1] at HTn
      rw [← hb0] at KG0
      rw [← hb1] at KG1
      have HT0 := Lib.hid hb0
      have HT1 := Lib.hid hb1
      clear hb0 hb1
      go_wp2_with fail
      refine (KG0.out _).mono ?_
      rintro e w5 ⟨rfl, hb5⟩
      have S5 := Lib.hid (S4.out.below hb5)
      clear hb5 S4 z_g c_g0 c_g1 c_g2 c_g3
      cases b0
      · have HN := Lib.hid (HTn.out rfl)
        go_wp2
        go_ret2
        exact PlP.of HN.out rfl S5.out.1
      have z_g := (S5.out.get 3 rfl).lt
      have c_g0 := (S5.out.get 3 rfl).cell 0 rfl
      have c_g1 := (S5.out.get 3 rfl).cell 1 rfl
      have c_g2 := (S5.out.get 3 rfl).cell 2 rfl
      have c_g3 := (S5.out.get 3 rfl).cell 3 rfl
      go_wp2_with fail
      refine (KG1.out _).mono ?_
      rintro e w6 ⟨rfl, hb6⟩
      have S6 := Lib.hid (S5.out.below hb6)
      clear hb6 S5 z_g c_g0 c_g1 c_g2 c_g3 KG0 KG1
      cases b1
      · have HN := Lib.hid (HTn.out rfl)
        go_wp2
        go_ret2
        exact PlP.of HN.out rfl S6.out.1
      have HTU : Hid ((Dv.tunB p0 i0 && Dv.tunB p1 i1) = true) := Lib.hid (by rw [← HT0.out, ← HT1.out]; rfl)
      clear HTn HT0 HT1
      trace "gains"
      have HBn := Lib.hid (show Dv.busB u = false → pE = 3 ∧ pV = [] from fun h => HPE.out 3 (Dv.plH_bus H0.out HAP.out HOF.out HTU.out h) (by decide))
      by_cases hu1 : u < 1
      · have HN := Lib.hid (HBn.out (by cases hq : Dv.busB u; rfl; have := Dv.busB_iff.1 hq; omega))
        have d1 : decide (u < 1) = true := decide_eq_true hu1
        go_wp2
        go_ret2
        exact PlP.of HN.out rfl S6.out.1
      have du1 : decide (u < 1) = false := decide_eq_false hu1
      by_cases hu2 : 1073741824 < u
      · have HN := Lib.hid (HBn.out (by cases hq : Dv.busB u; rfl; have := Dv.busB_iff.1 hq; omega))
        have d1 : decide (1073741824 < u) = true := decide_eq_true hu2
        go_wp2
        go_ret2
        exact PlP.of HN.out rfl S6.out.1
      have du2 : decide (1073741824 < u) = false := decide_eq_false hu2
      have HBU : Hid (Dv.busB u = true) := Lib.hid (Dv.busB_iff.2 (by omega))
      clear HBn
      have hn2 : ¬ (2000 : Int) < (n : Int) := by omega
      by_cases hnn : n' = n
      rotate_left 1
      · have HN := Lib.hid (HPE.out 20 (Dv.plH_len H0.out HAP.out HOF.out HTU.out HBU.out (by rw [HLO.out]; exact hn) (by rw [HLO.out, HLE.out]; exact hnn)) (by decide))
        have d1 : ((n' : Int) == (n : Int)) = false := by rw [beq_eq_false_iff_ne]; omega
        have d2 : ((n' : Int) != (n : Int)) = true := by rw [bne_iff_ne]; omega
        have d3 : (n' == n) = false := by rw [beq_eq_false_iff_ne]; omega
        have d4 : (n' != n) = true := by rw [bne_iff_ne]; omega
        clear hnn
        go_wp2
        go_ret2
        exact PlP.of HN.out rfl S6.out.1
      subst hnn
      go_upto_region 21 with fail
      clear hu1 du1 hu2 du2
      trace "lens"
      go_wp2_with fail
      go_loopw [111] (fun i wr => ∃ k : Nat, k ≤ n' ∧ i = .int .i64 k ∧ Hid (St w ((g, 52, [.int .i64 R.r, .int .i64 R.ld, .int .i64 R.lq, .int .i64 R.fx, .int .i64 R.po, .int .i64 R.mi, .int .i64 R.sp, .int .i64 R.dr, .int .i64 R.cu, .int .i64 R.fa]) :: (gl, 131, lmC m (Dv.lmLo m l) (Dv.lmHi m l) (Dv.lmS l).lo (Dv.lmS l).hi) :: [(w.heap.size + 1 + 1, 57, [.int .i64 s.d, .int .i64 s.q, .int .i64 s.w, .int .i64 s.a]), (w.heap.size + 1, 78, [.int .i64 p0, .int .i64 i0, .int .i64 p1, .int .i64 i1]), (w.heap.size, 52, [.int .i64 m.r, .int .i64 m.ld, .int .i64 m.lq, .int .i64 m.fx, .int .i64 m.po, .int .i64 m.mi, .int .i64 m.sp, .int .i64 m.dr, .int .i64 m.cu, .int .i64 m.fa])]) wr ∧ ∀ j, j < k → Dv.odB (Dv.lmS l) (os.getD j default) (es.getD j 0) = true)) (fun i _ => n' - (intOf i).toNat)
      case atStart => exact ⟨0, by omega, rfl, Lib.hid ⟨S6.out, fun j hj => absurd hj (Nat.not_lt_zero _)⟩⟩
      case round =>
        clear S6
        obtain ⟨k, hk, rfl, HB⟩ := hrel
        by_cases hlt : k < n'
        · obtain ⟨aD, rfl, zd, o0, o1, o2⟩ := (HO.out.below HB.out.1.1) k (by rw [HLO.out]; exact hlt)
          obtain ⟨aF, rfl, f0⟩ := (HF.out.below HB.out.1.1) k (by rw [HLE.out]; exact hlt)
          have zd' : (aD.add (k * 3)).block < wr.heap.size := by rw [block_add]; exact zd
          have HFD := Lib.hid (show ∀ V : World, Below w.heap.size w V → (aF.add k).block < V.heap.size ∧ V.cell? (aF.add k) = some (.int .i64 (es.getD k 0)) from fun V hV => by
            obtain ⟨ad, e, x0⟩ := (HF.out.below hV) k (by rw [HLE.out]; exact hlt)
            cases e
            exact ⟨World.block_lt_of_cell? _ _ x0, x0⟩)
          clear f0
          have k0 : (0 : Int) ≤ (k : Int) := by omega
          have kx : (k : Int) < (n' : Int) := by omega
          have kd : decide ((k : Int) < (n' : Int)) = true := decide_eq_true (by omega)
          obtain ⟨b1, hb1⟩ : ∃ b, b = Dv.inB (es.getD k 0) (Dv.lmS l).lo (Dv.lmS l).hi := ⟨_, rfl⟩
          obtain ⟨b2, hb2⟩ : ∃ b, b = upB 1048576 [(os.getD k default).d, (os.getD k default).q] := ⟨_, rfl⟩
          obtain ⟨b3, hb3⟩ : ∃ b, b = upB 68719476736 [(os.getD k default).ld] := ⟨_, rfl⟩
          have hod : Dv.odB (Dv.lmS l) (os.getD k default) (es.getD k 0) = (b1 && (b2 && b3)) := by
            unfold Dv.odB
            rw [hb1, hb2, hb3]
          have HT := Lib.hid (show (b1 && (b2 && b3)) = true → ∀ j, j < k + 1 → Dv.odB (Dv.lmS l) (os.getD j default) (es.getD j 0) = true from fun h j hj => by
            by_cases hjk : j = k
            · subst hjk; rw [hod]; exact h
            · exact HB.out.2 j (by omega))
          have HNo := Lib.hid (show (b1 && (b2 && b3)) = false → pE = 3 ∧ pV = [] from fun h => HPE.out 3 (Dv.plH_ods H0.out HAP.out HOF.out HTU.out HBU.out (by rw [HLO.out]; exact hn) (by rw [HLO.out, HLE.out]) (by
            cases hq : Dv.odsB (Dv.lmS l) os es
            · rfl
            · have := (odsB_iff (Dv.lmS l) os es (by rw [HLO.out, HLE.out])).1 hq k (by rw [HLO.out]; exact hlt)
              rw [hod, h] at this
              cases this)) (by decide))
          have K67 := Lib.hid (show ∀ (gg : Nat) (V : World), Blk V gg 2 [.int .i64 (os.getD k default).d, .int .i64 (os.getD k default).q] → Calls Try.prog 67 #[.int .i64 1048576, .slice (some ⟨gg, 0, none⟩) 2 2] V fun e w' => e = .returned (.bool b2) ∧ V = w' from fun gg V h => by rw [hb2]; exact upTo2_at _ _ _ gg V h (by omega) (by omega))
          have K67l := Lib.hid (show ∀ (gg : Nat) (V : World), Blk V gg 2 [.int .i64 (os.getD k default).ld] → Calls Try.prog 67 #[.int .i64 68719476736, .slice (some ⟨gg, 0, none⟩) 1 1] V fun e w' => e = .returned (.bool b3) ∧ V = w' from fun gg V h => by rw [hb3]; exact upTo1_at _ _ gg V h (by omega) (by omega))
          have Hb1 := Lib.hid hb1
          clear hb1 hb2 hb3 hod
          have S6 := Lib.hid HB.out.1
          clear HB
          generalize hok : os.getD k default = ok at *
          generalize hek : es.getD k 0 = ek at *
          clear hok hek
          obtain ⟨t4, ht4⟩ : ∃ t4, t4 = Dv.lmS l := ⟨_, rfl⟩
          have HL4 := Lib.hid ht4
          have HL30 := Lib.hid (show ∀ V : World, Blk V gl 131 (lmC m (Dv.lmLo m l) (Dv.lmHi m l) (Dv.lmS l).lo (Dv.lmS l).hi) → V.cell? ⟨gl, 30, none⟩ = some (.int .i64 t4.lo) ∧ V.cell? ⟨gl, 31, none⟩ = some (.int .i64 t4.hi) from fun V h => by rw [ht4]; exact lm_ends h)
          rw [← ht4] at Hb1
          clear ht4
          have S7 := Lib.hid (S6.out.alloc [.int .i64 ok.d, .int .i64 ok.q, .int .i64 ok.ld] 135)
          go_upto_region 24 with (fail)
          refine gen_world (fun W => St w ((wr.heap.size, 135, [.int .i64 ok.d, .int .i64 ok.q, .int .i64 ok.ld]) :: ((g, 52, [.int .i64 R.r, .int .i64 R.ld, .int .i64 R.lq, .int .i64 R.fx, .int .i64 R.po, .int .i64 R.mi, .int .i64 R.sp, .int .i64 R.dr, .int .i64 R.cu, .int .i64 R.fa]) :: (gl, 131, lmC m (Dv.lmLo m l) (Dv.lmHi m l) (Dv.lmS l).lo (Dv.lmS l).hi) :: [(w.heap.size + 1 + 1, 57, [.int .i64 s.d, .int .i64 s.q, .int .i64 s.w, .int .i64 s.a]), (w.heap.size + 1, 78, [.int .i64 p0, .int .i64 i0, .int .i64 p1, .int .i64 i1]), (w.heap.size, 52, [.int .i64 m.r, .int .i64 m.ld, .int .i64 m.lq, .int .i64 m.fx, .int .i64 m.po, .int .i64 m.mi, .int .i64 m.sp, .int .i64 m.dr, .int .i64 m.cu, .int .i64 m.fa])])) W) S7.out ?_
          clear S7 S6 zd zd' o0 o1 o2
          rintro w7 i7
          have S7 := Lib.hid i7
          clear i7
          trace "r23"
          generalize wr.heap.size = go_ at *
          obtain ⟨zf, f0⟩ := HFD.out _ S7.out.1
          have c_l30 := (HL30.out _ (S7.out.get 2 rfl)).1
          have c_l31 := (HL30.out _ (S7.out.get 2 rfl)).2
          have z_l := (S7.out.get 2 rfl).lt
          by_cases h1 : ek < t4.lo
          · have d1 : decide (ek < t4.lo) = true := decide_eq_true h1
            obtain rfl : b1 = false := by rw [Hb1.out]; exact inB_false (by omega)
            refine wp_region_past (by kernel_rfl) (by kernel_rfl) ?_
            repeat (go_big_quiet_step (fail))
            refine wpQuiet_nil ?_
            intro xx
            have HXX := Lib.hid xx.far
            generalize xx.w = w7 at HXX ⊢
            have S8 := Lib.hid (S7.out.below HXX.out)
            have HN := Lib.hid (HNo.out rfl)
            go_wp2
            go_ret2
            exact PlP.of HN.out rfl S8.out.1
          have d1 : decide (ek < t4.lo) = false := decide_eq_false h1
          by_cases h2 : t4.hi < ek
          · have d2 : decide (t4.hi < ek) = true := decide_eq_true h2
            obtain rfl : b1 = false := by rw [Hb1.out]; exact inB_false (by omega)
            refine wp_region_past (by kernel_rfl) (by kernel_rfl) ?_
            repeat (go_big_quiet_step (fail))
            refine wpQuiet_nil ?_
            intro xx
            have HXX := Lib.hid xx.far
            generalize xx.w = w7 at HXX ⊢
            have S8 := Lib.hid (S7.out.below HXX.out)
            have HN := Lib.hid (HNo.out rfl)
            go_wp2
            go_ret2
            exact PlP.of HN.out rfl S8.out.1
          have d2 : decide (t4.hi < ek) = false := decide_eq_false h2
          obtain rfl : b1 = true := by rw [Hb1.out]; exact inB_true (by omega) (by omega)
          clear zf f0 c_l30 c_l31 z_l
          cases b2
          · refine wp_region_privz 38 [] [.q, .q, .q, .q, .q, .q, .q, .q, .q, .q, .q, .q, .q, .q, .q, .q, .q, .q, .q, .q, .q, .q, .q, .q, .q, .q, .q, .p, .c 27 143, .q, .q, .q, .q, .q, .q, .q, .q, .q] (fun j => if j = 27 then (.cells #[.int .i64 ok.d, .int .i64 ok.q] 2, fun b => .slice (some ⟨b, 0, none⟩) 2 2) else (.cells #[.int .i64 ok.ld] 2, fun b => .slice (some ⟨b, 0, none⟩) 1 1)) ?af24c (by kernel_rfl) (by kernel_rfl) (fun _ _ _ _ _ h => h) ?walk24c ?tail24c
            case walk24c =>
              intro V hV
              have SV := Lib.hid (S7.out.below hV)
              obtain ⟨zf, f0⟩ := HFD.out V SV.out.1
              have z_o := (SV.out.get 0 rfl).lt
              have c_o0 := (SV.out.get 0 rfl).cell 0 rfl
              have c_o1 := (SV.out.get 0 rfl).cell 1 rfl
              have c_o2 := (SV.out.get 0 rfl).cell 2 rfl
              have c_l30 : V.cell? ⟨gl, 30, none⟩ = some (.int .i64 t4.lo) := (HL30.out V (SV.out.get 2 rfl)).1
              have c_l31 : V.cell? ⟨gl, 31, none⟩ = some (.int .i64 t4.hi) := (HL30.out V (SV.out.get 2 rfl)).2
              have z_l := (SV.out.get 2 rfl).lt
              simp only [List.take_succ_cons, List.take_zero]
              iterate 27 (refine wpP_q ?_; go_big_quiet_step (fail); refine wpQuiet_nil ?_)
              refine wpP_p (by kernel_rfl) (fun _ => by kernel_rfl) ?_
              (try simp only [Act.put, List.setIfInBounds_toArray, List.set_cons_zero, List.set_cons_succ])
              refine wpP_c (.bool false) (fun V' g' hV' hg' => ?_) ?_
              · (try simp only [Act.put, List.setIfInBounds_toArray, List.set_cons_zero, List.set_cons_succ])
                have hbb : Blk V' g' 2 [.int .i64 ok.d, .int .i64 ok.q] := hg'
                have zg := hbb.lt
                go_big_quiet_step ((go_at_call 67; with_reducible exact past_same (K67.out g' _ (hbb.below (Past.far _) hbb.lt))))
                refine wpQuiet_nil ?_
                rfl
              (try simp only [Act.put, List.setIfInBounds_toArray, List.set_cons_zero, List.set_cons_succ])
              repeat (refine wpP_q ?_; go_big_quiet_step (fail); refine wpQuiet_nil ?_)
              refine wpP_nil ?_
              rfl
            case tail24c =>
            intro gs w7 hb7 _ _
            have S8 := Lib.hid (S7.out.below hb7)
            clear hb7 S7
            simp only [List.drop_succ_cons, List.drop_nil, List.take_succ_cons, List.take_nil, fillP]
            (try simp only [Act.put, List.setIfInBounds_toArray, List.set_cons_zero, List.set_cons_succ])
            have HN := Lib.hid (HNo.out rfl)
            go_wp2
            go_ret2
            exact PlP.of HN.out rfl S8.out.1
          refine wp_region_privz 38 [] [.q, .q, .q, .q, .q, .q, .q, .q, .q, .q, .q, .q, .q, .q, .q, .q, .q, .q, .q, .q, .q, .q, .q, .q, .q, .q, .q, .p, .c 27 143, .q, .q, .q, .q, .q, .p, .c 34 150, .q, .q] (fun j => if j = 27 then (.cells #[.int .i64 ok.d, .int .i64 ok.q] 2, fun b => .slice (some ⟨b, 0, none⟩) 2 2) else (.cells #[.int .i64 ok.ld] 2, fun b => .slice (some ⟨b, 0, none⟩) 1 1)) ?af24d (by kernel_rfl) (by kernel_rfl) (fun _ _ _ _ _ h => h) ?walk24d ?tail24d
          case walk24d =>
            intro V hV
            have SV := Lib.hid (S7.out.below hV)
            obtain ⟨zf, f0⟩ := HFD.out V SV.out.1
            have z_o := (SV.out.get 0 rfl).lt
            have c_o0 := (SV.out.get 0 rfl).cell 0 rfl
            have c_o1 := (SV.out.get 0 rfl).cell 1 rfl
            have c_o2 := (SV.out.get 0 rfl).cell 2 rfl
            have c_l30 : V.cell? ⟨gl, 30, none⟩ = some (.int .i64 t4.lo) := (HL30.out V (SV.out.get 2 rfl)).1
            have c_l31 : V.cell? ⟨gl, 31, none⟩ = some (.int .i64 t4.hi) := (HL30.out V (SV.out.get 2 rfl)).2
            have z_l := (SV.out.get 2 rfl).lt
            simp only [List.take_succ_cons, List.take_zero]
            iterate 27 (refine wpP_q ?_; go_big_quiet_step (fail); refine wpQuiet_nil ?_)
            refine wpP_p (by kernel_rfl) (fun _ => by kernel_rfl) ?_
            (try simp only [Act.put, List.setIfInBounds_toArray, List.set_cons_zero, List.set_cons_succ])
            refine wpP_c (.bool true) (fun V' g' hV' hg' => ?_) ?_
            · (try simp only [Act.put, List.setIfInBounds_toArray, List.set_cons_zero, List.set_cons_succ])
              have hbb : Blk V' g' 2 [.int .i64 ok.d, .int .i64 ok.q] := hg'
              have zg := hbb.lt
              go_big_quiet_step ((go_at_call 67; with_reducible exact past_same (K67.out g' _ (hbb.below (Past.far _) hbb.lt))))
              refine wpQuiet_nil ?_
              rfl
            (try simp only [Act.put, List.setIfInBounds_toArray, List.set_cons_zero, List.set_cons_succ])
            iterate 5 (refine wpP_q ?_; go_big_quiet_step (fail); refine wpQuiet_nil ?_)
            refine wpP_p (by kernel_rfl) (fun _ => by kernel_rfl) ?_
            (try simp only [Act.put, List.setIfInBounds_toArray, List.set_cons_zero, List.set_cons_succ])
            refine wpP_c (.bool b3) (fun V' g' hV' hg' => ?_) ?_
            · (try simp only [Act.put, List.setIfInBounds_toArray, List.set_cons_zero, List.set_cons_succ])
              have hbb : Blk V' g' 2 [.int .i64 ok.ld] := hg'
              have zg := hbb.lt
              go_big_quiet_step ((go_at_call 67; with_reducible exact past_same (K67l.out g' _ (hbb.below (Past.far _) hbb.lt))))
              refine wpQuiet_nil ?_
              rfl
            (try simp only [Act.put, List.setIfInBounds_toArray, List.set_cons_zero, List.set_cons_succ])
            repeat (refine wpP_q ?_; go_big_quiet_step (fail); refine wpQuiet_nil ?_)
            refine wpP_nil ?_
            rfl
          case tail24d =>
          intro gs w7 hb7 _ _
          have S8 := Lib.hid (S7.out.below hb7)
          clear hb7 S7
          simp only [List.drop_succ_cons, List.drop_nil, List.take_succ_cons, List.take_nil, fillP]
          (try simp only [Act.put, List.setIfInBounds_toArray, List.set_cons_zero, List.set_cons_succ])
          trace "r24"
          cases b3
          · have HN := Lib.hid (HNo.out rfl)
            go_wp2
            go_ret2
            exact PlP.of HN.out rfl S8.out.1
          have HT1 := Lib.hid (HT.out rfl)
          clear HT HNo K67 K67l h1 h2 d1 d2
          go_wp2
          go_roundw
          case rel => exact ⟨k + 1, by omega, by go_num, Lib.hid ⟨S8.out.tail, HT1.out⟩⟩
          case measure => simp [intOf]; omega
        · obtain rfl : k = n' := by omega
          have HOD : Hid (Dv.odsB (Dv.lmS l) os es = true) := Lib.hid ((odsB_iff (Dv.lmS l) os es (by rw [HLO.out, HLE.out])).2 fun i hi => HB.out.2 i (by have := HLO.out; omega))
          have S7 := Lib.hid HB.out.1
          clear HB
          trace "loop2"
          have hkk : ¬ (k : Int) < (k : Int) := by omega
          have z_s := (S7.out.get 2 rfl).lt
          have c_s0 := (S7.out.get 2 rfl).cell 0 rfl
          have c_s1 := (S7.out.get 2 rfl).cell 1 rfl
          have c_s2 := (S7.out.get 2 rfl).cell 2 rfl
          have c_s3 := (S7.out.get 2 rfl).cell 3 rfl
          have z_m := (S7.out.get 4 rfl).lt
          have c_m8 := (S7.out.get 4 rfl).cell 8 rfl
          have hcu := (Dv.ap_parts HAP.out).2.1
          unfold Dv.chk at hcu
          have hcu1 : 1 ≤ m.cu ∧ m.cu ≤ 1048576 := by omega
          clear hcu
          obtain ⟨b1, hb1⟩ : ∃ b, b = Dv.rotB s := ⟨_, rfl⟩
          obtain ⟨b2, hb2⟩ : ∃ b, b = upB m.cu [s.d, s.q] := ⟨_, rfl⟩
          have hod : (Dv.rotB s && upB m.cu [s.d, s.q]) = (b1 && b2) := by rw [hb1, hb2]
          have HNo := Lib.hid (show (b1 && b2) = false → pE = 3 ∧ pV = [] from fun h => HPE.out 3 (Dv.plH_rot H0.out HAP.out HOF.out HTU.out HBU.out (by rw [HLO.out]; exact hn) (by rw [HLO.out, HLE.out]) HOD.out (by rw [hod]; exact h)) (by decide))
          have HYs := Lib.hid (show (b1 && b2) = true → Dv.plH m xs l p0 i0 p1 i1 u s os es = 0 from fun h => Dv.plH_ok H0.out HAP.out HOF.out HTU.out HBU.out (by rw [HLO.out]; exact hn) (by rw [HLO.out, HLE.out]) HOD.out (by rw [hod]; exact h))
          have K104 := Lib.hid (fun W => valid_c s W)
          rw [← hb1] at K104
          have K67 := Lib.hid (show ∀ (gg : Nat) (V : World), Blk V gg 2 [.int .i64 s.d, .int .i64 s.q] → Calls Try.prog 67 #[.int .i64 m.cu, .slice (some ⟨gg, 0, none⟩) 2 2] V fun e w' => e = .returned (.bool b2) ∧ V = w' from fun gg V h => by rw [hb2]; exact upTo2_at _ _ _ gg V h (by omega) (by omega))
          have HBB := Lib.hid hb1
          clear hb1 hb2 hod
          go_wp2_with fail
          refine (K104.out _).mono ?_
          rintro e w8 ⟨rfl, hb8⟩
          have S8 := Lib.hid (S7.out.below hb8)
          clear hb8 S7 z_s c_s0 c_s1 c_s2 c_s3 z_m c_m8
          cases b1
          · have HN := Lib.hid (HNo.out rfl)
            go_wp2
            go_ret2
            exact PlP.of HN.out rfl S8.out.1
          have z_s := (S8.out.get 2 rfl).lt
          have c_s0 := (S8.out.get 2 rfl).cell 0 rfl
          have c_s1 := (S8.out.get 2 rfl).cell 1 rfl
          have c_s2 := (S8.out.get 2 rfl).cell 2 rfl
          have c_s3 := (S8.out.get 2 rfl).cell 3 rfl
          have z_m := (S8.out.get 4 rfl).lt
          have c_m8 := (S8.out.get 4 rfl).cell 8 rfl
          go_wp2_with fail
          refine (K67.out _ _ (Blk.new' w8 #[.int .i64 s.d, .int .i64 s.q] 2)).mono ?_
          rintro e w' ⟨rfl, rfl⟩
          have S9 := Lib.hid (S8.out.below ((Below.refl _ _).alloc (Nat.le_refl _) (.cells #[.int .i64 s.d, .int .i64 s.q] 2)))
          clear S8 z_s c_s0 c_s1 c_s2 c_s3 z_m c_m8 K104 K67
          cases b2
          · have HN := Lib.hid (HNo.out rfl)
            go_wp2
            go_ret2
            exact PlP.of HN.out rfl S9.out.1
          have HH0 := Lib.hid (HYs.out rfl)
          clear HNo HYs
          trace "state"
          go_upto_region 29 with (fail)
          refine wp_region_privs 8 [.q, .q, .q, .q, .q, .q, .p, .p] (fun _ => (.cells #[.int .i64 0, .int .i64 0, .int .i64 0] 97, fun b => .pointer (some ⟨b, 0, none⟩))) 6 97 97 25 171 #[.int .i64 0, .int .i64 0, .int .i64 0] #[.int .i64 p0, .int .i64 i0, .int .i64 0] ?af29 (by kernel_rfl) (by kernel_rfl) rfl (fun _ => rfl) (by kernel_rfl) rfl (by simp [Value.oneCell']) ?walk29 ?hy29 ?tail29
          case walk29 =>
            intro V hV
            have SV := Lib.hid (S9.out.below hV)
            have z_g := (SV.out.get 3 rfl).lt
            have c_g0 := (SV.out.get 3 rfl).cell 0 rfl
            have c_g1 := (SV.out.get 3 rfl).cell 1 rfl
            have c_g2 := (SV.out.get 3 rfl).cell 2 rfl
            have c_g3 := (SV.out.get 3 rfl).cell 3 rfl
            simp only [List.take_succ_cons, List.take_zero]
            repeat (refine wpP_q ?_; go_big_quiet_step (fail); refine wpQuiet_nil ?_)
            refine wpP_p (by kernel_rfl) (fun _ => by kernel_rfl) ?_
            (try simp only [Act.put, List.setIfInBounds_toArray, List.set_cons_zero, List.set_cons_succ])
            refine wpP_p (by kernel_rfl) (fun _ => by kernel_rfl) ?_
            (try simp only [Act.put, List.setIfInBounds_toArray, List.set_cons_zero, List.set_cons_succ])
            refine wpP_nil ?_
            rfl
          case hy29 => rfl
          case tail29 =>
          intro gs w9 hb9 hP hD
          obtain ⟨hg5, k5⟩ := hP 6 rfl
          obtain ⟨hg6, k6⟩ := hP 7 rfl
          have h56 := hD 6 7 rfl rfl (by decide)
          simp only [List.take_succ_cons, List.take_zero, fillP, List.drop_succ_cons, List.drop_zero]
          (try simp only [Act.put, List.setIfInBounds_toArray, List.set_cons_zero, List.set_cons_succ])
          generalize gs 6 = g5 at hg5 k5 h56 ⊢
          generalize gs 7 = g6 at hg6 k6 h56 ⊢
          clear hP hD
          have k5' : Blk w9 g5 97 [.int .i64 p0, .int .i64 i0, .int .i64 0] := k5
          have k6' : Blk w9 g6 97 [.int .i64 0, .int .i64 0, .int .i64 0] := k6
          have SB := S9.out.below hb9
          have hn5 : g5 ∉ (((g, 52, [.int .i64 R.r, .int .i64 R.ld, .int .i64 R.lq, .int .i64 R.fx, .int .i64 R.po, .int .i64 R.mi, .int .i64 R.sp, .int .i64 R.dr, .int .i64 R.cu, .int .i64 R.fa]) :: (gl, 131, lmC m (Dv.lmLo m l) (Dv.lmHi m l) (Dv.lmS l).lo (Dv.lmS l).hi) :: [(w.heap.size + 1 + 1, 57, [.int .i64 s.d, .int .i64 s.q, .int .i64 s.w, .int .i64 s.a]), (w.heap.size + 1, 78, [.int .i64 p0, .int .i64 i0, .int .i64 p1, .int .i64 i1]), (w.heap.size, 52, [.int .i64 m.r, .int .i64 m.ld, .int .i64 m.lq, .int .i64 m.fx, .int .i64 m.po, .int .i64 m.mi, .int .i64 m.sp, .int .i64 m.dr, .int .i64 m.cu, .int .i64 m.fa])])).map Prod.fst := S9.out.apart' (by simpa using hg5)
          have hn6 : g6 ∉ ((g5, 97, [.int .i64 p0, .int .i64 i0, .int .i64 0]) :: ((g, 52, [.int .i64 R.r, .int .i64 R.ld, .int .i64 R.lq, .int .i64 R.fx, .int .i64 R.po, .int .i64 R.mi, .int .i64 R.sp, .int .i64 R.dr, .int .i64 R.cu, .int .i64 R.fa]) :: (gl, 131, lmC m (Dv.lmLo m l) (Dv.lmHi m l) (Dv.lmS l).lo (Dv.lmS l).hi) :: [(w.heap.size + 1 + 1, 57, [.int .i64 s.d, .int .i64 s.q, .int .i64 s.w, .int .i64 s.a]), (w.heap.size + 1, 78, [.int .i64 p0, .int .i64 i0, .int .i64 p1, .int .i64 i1]), (w.heap.size, 52, [.int .i64 m.r, .int .i64 m.ld, .int .i64 m.lq, .int .i64 m.fx, .int .i64 m.po, .int .i64 m.mi, .int .i64 m.sp, .int .i64 m.dr, .int .i64 m.cu, .int .i64 m.fa])]) : List BlkRow).map Prod.fst := by
            intro h
            rw [List.map_cons, List.mem_cons] at h
            rcases h with h | h
            · exact h56 h.symm
            · exact S9.out.apart' (by simpa using hg6) h
          have S10 := Lib.hid ((SB.addT k5' hn5).addT k6' hn6)
          have hz6 : w.heap.size ≤ g6 := Nat.le_trans S9.out.1.size (by simpa using hg6)
          have hg5g : g < g5 := Nat.lt_of_lt_of_le (S9.out.get 0 rfl).lt (by simpa using hg5)
          have hg6g : g < g6 := Nat.lt_of_lt_of_le (S9.out.get 0 rfl).lt (by simpa using hg6)
          have H56 := Lib.hid (show g5 ≠ g6 from h56)
          clear k5 k6 k5' k6' SB hn5 hn6 S9 hb9 h56 hg5 hg6
          have z_r := (S10.out.get 0 rfl).lt
          have c_r0 := (S10.out.get 0 rfl).cell 0 rfl
          have f_r0 := (S10.out.get 0 rfl).free 0
          have c_r1 := (S10.out.get 0 rfl).cell 1 rfl
          have f_r1 := (S10.out.get 0 rfl).free 1
          have c_r2 := (S10.out.get 0 rfl).cell 2 rfl
          have f_r2 := (S10.out.get 0 rfl).free 2
          go_upto_region 30 with (fail)
          refine gen_world (fun W => St w ((g6, 97, [.int .i64 p1, .int .i64 i1, .int .i64 0]) :: (g5, 97, [.int .i64 p0, .int .i64 i0, .int .i64 0]) :: ((g, 52, [.int .i64 R.r, .int .i64 R.ld, .int .i64 R.lq, .int .i64 R.fx, .int .i64 R.po, .int .i64 R.mi, .int .i64 R.sp, .int .i64 R.dr, .int .i64 R.cu, .int .i64 R.fa]) :: (gl, 131, lmC m (Dv.lmLo m l) (Dv.lmHi m l) (Dv.lmS l).lo (Dv.lmS l).hi) :: [(w.heap.size + 1 + 1, 57, [.int .i64 s.d, .int .i64 s.q, .int .i64 s.w, .int .i64 s.a]), (w.heap.size + 1, 78, [.int .i64 p0, .int .i64 i0, .int .i64 p1, .int .i64 i1]), (w.heap.size, 52, [.int .i64 m.r, .int .i64 m.ld, .int .i64 m.lq, .int .i64 m.fx, .int .i64 m.po, .int .i64 m.mi, .int .i64 m.sp, .int .i64 m.dr, .int .i64 m.cu, .int .i64 m.fa])])) W) (S10.out.upd29 0 rfl hz6 [.int .i64 p1, .int .i64 i1, .int .i64 0] rfl) ?_
          clear S10 z_r c_r0 c_r1 c_r2 f_r0 f_r1 f_r2
          rintro w10 i10
          have S10 := Lib.hid i10
          clear i10
          trace "r29"
          go_upto_region 31 with (fail)
          obtain ⟨iR, hi, hz0, hz1, hz2⟩ := info_parts infoRot
          go_wp2_with (refine wpList_make_own _ rfl _ _ 83 rfl w10.heap.size 57 iR (.agg #[.int .i64 0, .int .i64 0, .int .i64 0, .int .i64 0]) 4 Try.underlying83 hi hz0 hz1 .i64 .i64 _ k (by rfl) (by rfl) rfl (by rw [hz2]; omega) (by unfold maxLen; omega) (Nat.le_refl _) ?_; intro w11 hown hgrow; have HOW := Lib.hid hown; have HGW := Lib.hid hgrow; clear hown hgrow)
          trace "r31"
          rename_i KK hKK
          have S11 := Lib.hid (S10.out.grown HGW.out (fun _ h => by cases h))
          have hBW : w10.heap.size ≤ w11.heap.size := HGW.out.size
          have hz5 := (S10.out.get 1 rfl).lt
          have hz6b := (S10.out.get 0 rfl).lt
          have hP : PlF m R l p0 i0 p1 i1 u s os es k pE pV := by
            have hpp := HPP.out
            have e1 : Dv.plP m xs l p0 i0 p1 i1 u = ⟨m, R, l, p0, i0, p1, i1, u⟩ := by unfold Dv.plP; rw [← HR.out]
            have ht := HTU.out
            rw [Bool.and_eq_true] at ht
            refine ⟨H0.out, by rw [HR.out]; exact (Dv.ap_parts HAP.out).2.2, ht.1, ht.2, HBU.out, HBB.out.symm, HOD.out, HLO.out, HLE.out, fun j E hj hC hE hne => ?_, fun hC => ?_⟩
            · rw [← e1] at hC hE
              rw [hpp.1, hpp.2]
              exact Dv.pl_stop HH0.out hC hE hne (by rw [HLO.out]; exact hj)
            · rw [← e1] at hC ⊢
              rw [hpp.1, hpp.2]
              have := Dv.pl_done HH0.out (by rw [HLO.out]; exact hC)
              rw [HLO.out] at this
              exact this
          have hSS := S11.out.pick [(w.heap.size + 1 + 1, 57, [.int .i64 s.d, .int .i64 s.q, .int .i64 s.w, .int .i64 s.a]), (g, 52, [.int .i64 R.r, .int .i64 R.ld, .int .i64 R.lq, .int .i64 R.fx, .int .i64 R.po, .int .i64 R.mi, .int .i64 R.sp, .int .i64 R.dr, .int .i64 R.cu, .int .i64 R.fa]), (gl, 131, lmC m (Dv.lmLo m l) (Dv.lmHi m l) (Dv.lmS l).lo (Dv.lmS l).hi), (w.heap.size, 52, [.int .i64 m.r, .int .i64 m.ld, .int .i64 m.lq, .int .i64 m.fx, .int .i64 m.po, .int .i64 m.mi, .int .i64 m.sp, .int .i64 m.dr, .int .i64 m.cu, .int .i64 m.fa])] (fun x hx => by
            simp only [List.mem_cons, List.not_mem_nil, or_false] at hx ⊢
            rcases hx with h | h | h | h <;> simp [h]) (by
            simp only [List.map_cons, List.map_nil, List.nodup_cons, List.mem_cons, List.not_mem_nil, or_false, not_or, List.nodup_nil, not_false_eq_true, and_true]
            omega)
          refine wp_codeP (c' := loop65) (by kernel_rfl) ?_
          exact Play_loop m R l p0 i0 p1 i1 u s D os k ck F es ck' w _ g gl g5 g6 w10.heap.size _ _ pE pV _ _ _ _ _ _ _ _ _ _ _ _ _ _ _ _ _ _ _ _ _ _ _ _ _ _ _ _ _ _ _ _ _ _ _ _ _ _ _ _ _ _ _ _ _ _ _ _ _ _ _ _ _ _ _ _ _ _ _ _ _ _ _ _ _ _ _ _ _ _ _ _ _ _ _ _ _ _ _ _ _ _ _ _ _ _ _ _ _ _ _ _ _ _ _ _ _ _ _ _ _ _ _ _ _ _ _ _ _ _ _ _ _ _ _ _ _ _ _ _ _ _ _ _ _ _ _ _ _ _ _ _ _ _ _ _ _ _ _ _ _ _ _ _ _ _ _ _ _ _ _ _ _ _ _ _ _ _ _ _ _ _ _ _ _ _ _ _ _ _ _ _ _ _ _ _ _ _ _ _ _ _ _ _ _ _ _ _ _ _ _ _ _ _ _ _ _ _ _ _ _ _ _ _ _ _ _ _ _ _ _ _ _ _ _ _ _ _ _ _ _ _ _ _ _ _ _ _ _ _ _ _ _ _ _ _ _ _ _ _ _ _ _ _ _ _ _ _ _ _ _ KK HO.out HF.out hn hP hSS HOW.out (RgAt.of (S11.out.get 1 rfl)) (RgAt.of (S11.out.get 0 rfl)) hgl hgw ⟨hg5g, hz5⟩ ⟨hg6g, hz6b⟩ H56.out hBW (fun a w' h => hKK a w' (wp_codeP (by kernel_rfl) h))
end Go.Proofs.Ytcneohhfnnelgaa
namespace Go.Proofs.Ytcneohhfnnelgaa
open Go.RowKit
set_option linter.unusedVariables false
theorem eqP_cons {P : Program} {d : Nat} {xs ys : Array Value} {f : Field} {fs : List Field} {w : World} {n : String} {t : TypeId} {o : Nat} {x y : Value} (h : (f.name, f.type, f.offset) = (n, t, o)) (hn : n ≠ "_") (hx : (part t xs o).run P w = .ok x w) (hy : (part t ys o).run P w = .ok y w)
    (he : (Op.equalIn d t x y).run P w = .ok true w) (hr : (Op.eqFields d xs ys fs).run P w = .ok true w) : (Op.eqFields d xs ys (f :: fs)).run P w = .ok true w := by
  simp only [Prod.mk.injEq] at h
  obtain ⟨h1, h2, h3⟩ := h
  simp only [Op.eqFields, Sem.run_bind, Sem.run_ite]
  rw [h1, h2, h3, if_pos hn, hx]
  simp only [Result.andThen_ok]
  rw [hy]
  simp only [Result.andThen_ok]
  rw [he]
  simp [hr]
/-- a struct of numbers equals itself -/
theorem eqP_self (d : Nat) (xs : List Int) (w : World) : ∀ fs : List Field, (fs.all fun f => f.name != "_" && f.type == 2 && decide (f.offset < xs.length)) = true → (Op.eqFields (d + 1) (xs.map (Value.int .i64)).toArray (xs.map (Value.int .i64)).toArray fs).run Try.prog w = .ok true w
  | [], _ => by simp [Op.eqFields]
  | f :: fs, h => by
    simp only [List.all_cons, Bool.and_eq_true, bne_iff_ne, beq_iff_eq, decide_eq_true_eq] at h
    obtain ⟨⟨⟨h1, h2⟩, h3⟩, h4⟩ := h
    have hp : (xs.map (Value.int .i64)).toArray[f.offset]? = some (.int .i64 xs[f.offset]) := by simp [h3]
    exact eqP_cons (n := f.name) (t := 2) (o := f.offset) (by rw [← h2]) h1 (partAt w _ _ _ hp) (partAt w _ _ _ hp) ((elInt d w _ _).trans (by simp)) (eqP_self d xs w fs h4)
@[go_sem] theorem eqRotP (w : World) (a b c d : Int) : (Op.equalIn 10000 57 (.agg #[.int .i64 a, .int .i64 b, .int .i64 c, .int .i64 d]) (.agg #[.int .i64 a, .int .i64 b, .int .i64 c, .int .i64 d])).run Try.prog w = .ok true w := by
  rw [run_equalIn_struct w 9999 57 _ _ (by kernel_rfl) (by kernel_rfl)]
  exact eqP_self 9998 [a, b, c, d] w _ (by kernel_rfl)
theorem PlayR_c (m : Mot) (X : Option Addr) (xs : List Int) (c : Nat) (A : Option Addr) (l : List Sp) (cap : Nat) (p0 i0 p1 i1 u : Int) (s : Rot) (D : Option Addr) (os : List Od) (ck : Nat) (F : Option Addr) (es : List Int) (ck' : Nat) (w : World) (hx : SpAt w A l) (hxs : IntsAt w X xs) (hll : xs.length ≤ 4611686018427387904) (ho : OdAt w D os) (he : IntsAt w F es) (hn : os.length ≤ 100) (hn' : es.length ≤ 100) :
    Calls Try.prog 66 #[.agg #[.int .i64 m.r, .int .i64 m.ld, .int .i64 m.lq, .int .i64 m.fx, .int .i64 m.po, .int .i64 m.mi, .int .i64 m.sp, .int .i64 m.dr, .int .i64 m.cu, .int .i64 m.fa], .slice X xs.length c, .slice A l.length cap, .agg #[.int .i64 p0, .int .i64 i0, .int .i64 p1, .int .i64 i1], .int .i64 u, .agg #[.int .i64 s.d, .int .i64 s.q, .int .i64 s.w, .int .i64 s.a], .slice D os.length ck, .slice F es.length ck'] w (PlP (Dv.plErr m xs l p0 i0 p1 i1 u s os es) (Dv.plVal m xs l p0 i0 p1 i1 u s os es) w) := by
  by_cases h0 : Dv.lmE m l = 0
  · by_cases hap : (Dv.apR m xs).2 = 0
    · exact PlayR_go m X xs c A l cap p0 i0 p1 i1 u s D os _ ck F es _ ck' w hx hxs ho he rfl rfl hn hn' h0 hap
    · have h := Dv.pl_head (p0 := p0) (i0 := i0) (p1 := p1) (i1 := i1) (u := u) (s := s) (os := os) (es := es) (Dv.plH_ap h0 hap) hap
      rw [h.1, h.2]
      exact PlayR_no2 m X xs c A l cap p0 i0 p1 i1 u s D os.length ck F es.length ck' w hx hxs hll h0 hap
  · have h := Dv.pl_head (xs := xs) (p0 := p0) (i0 := i0) (p1 := p1) (i1 := i1) (u := u) (s := s) (os := os) (es := es) (Dv.plH_lm h0) h0
    rw [h.1, h.2]
    exact PlayR_no1 m X xs.length c A l cap p0 i0 p1 i1 u s D os.length ck F es.length ck' w hx h0
theorem Play_z (m : Mot) (X : Option Addr) (xs : List Int) (c : Nat) (A : Option Addr) (l : List Sp) (cap : Nat) (p0 i0 p1 i1 u : Int) (s : Rot) (D : Option Addr) (os : List Od) (ck : Nat) (F : Option Addr) (es : List Int) (ck' : Nat) (w : World) (hx : SpAt w A l) (hxs : IntsAt w X xs) (hll : xs.length ≤ 4611686018427387904) (ho : OdAt w D os) (he : IntsAt w F es) (hn : os.length ≤ 100) (hn' : es.length ≤ 100) :
    Calls Try.prog 65 #[.agg #[.int .i64 m.r, .int .i64 m.ld, .int .i64 m.lq, .int .i64 m.fx, .int .i64 m.po, .int .i64 m.mi, .int .i64 m.sp, .int .i64 m.dr, .int .i64 m.cu, .int .i64 m.fa], .slice X xs.length c, .slice A l.length cap, .agg #[.int .i64 p0, .int .i64 i0, .int .i64 p1, .int .i64 i1], .int .i64 u, .agg #[.int .i64 s.d, .int .i64 s.q, .int .i64 s.w, .int .i64 s.a], .slice D os.length ck, .slice F es.length ck'] w (PlP (Dv.plErr m xs l p0 i0 p1 i1 u s os es) (Dv.plVal m xs l p0 i0 p1 i1 u s os es) w) :=
  Play_c m X xs c A l cap p0 i0 p1 i1 u s D os _ ck F es _ ck' w hx hxs hll ho he rfl rfl hn hn'
theorem plVal_len (m : Mot) (xs : List Int) (tol : List Sp) (p0 i0 p1 i1 u : Int) (s : Rot) (os : List Od) (es : List Int) : (Dv.plVal m xs tol p0 i0 p1 i1 u s os es).length ≤ os.length := by
  unfold Dv.plVal
  split
  · rw [Dv.plOut_len]
    exact Nat.le_refl _
  · simp
set_option maxHeartbeats 4000000 in
set_option maxRecDepth 100000 in
theorem Plays_any (m : Mot) (X : Option Addr) (xs : List Int) (c : Nat) (A : Option Addr) (l : List Sp) (cap : Nat) (p0 i0 p1 i1 u : Int) (s : Rot) (D : Option Addr) (os : List Od) (ck : Nat) (F : Option Addr) (es : List Int) (ck' : Nat) (w : World) (hx : SpAt w A l) (hxs : IntsAt w X xs) (ho : OdAt w D os) (he : IntsAt w F es) :
    Calls Try.prog 16 #[.agg (caC m X xs.length c A l.length cap p0 i0 p1 i1 u s D os.length ck F es.length ck')] w fun e w' => e = .returned (.bool true) ∧ Below w.heap.size w w' := by
  have HX := Lib.hid hx
  have HY := Lib.hid hxs
  have HO := Lib.hid ho
  have HF := Lib.hid he
  clear hx hxs ho he
  have KL := Lib.hid (fun W => long_c m X xs.length c A l.length cap p0 i0 p1 i1 u s D os.length ck F es.length ck' W)
  unfold caC at KL
  unfold caC
  have S0 := Lib.hid (show St w [(w.heap.size, 81, [.int .i64 m.r, .int .i64 m.ld, .int .i64 m.lq, .int .i64 m.fx, .int .i64 m.po, .int .i64 m.mi, .int .i64 m.sp, .int .i64 m.dr, .int .i64 m.cu, .int .i64 m.fa, .slice X xs.length c, .slice A l.length cap, .int .i64 p0, .int .i64 i0, .int .i64 p1, .int .i64 i1, .int .i64 u, .int .i64 s.d, .int .i64 s.q, .int .i64 s.w, .int .i64 s.a, .slice D os.length ck, .slice F es.length ck'])] (w.alloc (.cells [.int .i64 m.r, .int .i64 m.ld, .int .i64 m.lq, .int .i64 m.fx, .int .i64 m.po, .int .i64 m.mi, .int .i64 m.sp, .int .i64 m.dr, .int .i64 m.cu, .int .i64 m.fa, .slice X xs.length c, .slice A l.length cap, .int .i64 p0, .int .i64 i0, .int .i64 p1, .int .i64 i1, .int .i64 u, .int .i64 s.d, .int .i64 s.q, .int .i64 s.w, .int .i64 s.a, .slice D os.length ck, .slice F es.length ck'].toArray 81)) from (St.start w).alloc [.int .i64 m.r, .int .i64 m.ld, .int .i64 m.lq, .int .i64 m.fx, .int .i64 m.po, .int .i64 m.mi, .int .i64 m.sp, .int .i64 m.dr, .int .i64 m.cu, .int .i64 m.fa, .slice X xs.length c, .slice A l.length cap, .int .i64 p0, .int .i64 i0, .int .i64 p1, .int .i64 i1, .int .i64 u, .int .i64 s.d, .int .i64 s.q, .int .i64 s.w, .int .i64 s.a, .slice D os.length ck, .slice F es.length ck'] 81)
  cases hb : Dv.longB xs.length l.length os.length es.length
  rotate_left 1
  · rw [hb] at KL
    clear hb
    go_enter Try.func16, Try.ntmps16
    go_upto_region 1 with (fail)
    refine gen_world (fun W => St w [(w.heap.size, 81, [.int .i64 m.r, .int .i64 m.ld, .int .i64 m.lq, .int .i64 m.fx, .int .i64 m.po, .int .i64 m.mi, .int .i64 m.sp, .int .i64 m.dr, .int .i64 m.cu, .int .i64 m.fa, .slice X xs.length c, .slice A l.length cap, .int .i64 p0, .int .i64 i0, .int .i64 p1, .int .i64 i1, .int .i64 u, .int .i64 s.d, .int .i64 s.q, .int .i64 s.w, .int .i64 s.a, .slice D os.length ck, .slice F es.length ck'])] W) S0.out ?_
    clear S0
    rintro w0 i0_
    have S0 := Lib.hid i0_
    clear i0_
    have HBK := Lib.hid (S0.out.get 0 rfl)
    have zz := HBK.out.lt
    go_wp2_with (refine wpList_load_row rfl 81 _ rfl w.heap.size rfl 81 _ (0, 0) _ HBK.out Try.underlying81 rfl (by kernel_rfl) ?_)
    refine (KL.out _).mono ?_
    rintro e w1 ⟨rfl, hb1⟩
    have S1 := Lib.hid (S0.out.below hb1)
    clear hb1 S0 HBK zz
    go_wp2_with fail
    refine (known_c _).mono ?_
    rintro e w2 ⟨rfl, hb2⟩
    go_wp2
    go_ret
    exact ⟨rfl, (S1.out.below hb2).1⟩
  have hB := hb
  unfold Dv.longB at hB
  simp only [Bool.or_eq_false_iff, decide_eq_false_iff_not] at hB
  rw [hb] at KL
  have KA := Lib.hid (fun (V : World) (hV : Below w.heap.size w V) => Play_z m X xs c A l cap p0 i0 p1 i1 u s D os ck F es ck' V (HX.out.below hV) (HY.out.below hV) (by omega) (HO.out.below hV) (HF.out.below hV) (by omega) (by omega))
  have KB := Lib.hid (fun (V : World) (hV : Below w.heap.size w V) => PlayR_c m X xs c A l cap p0 i0 p1 i1 u s D os ck F es ck' V (HX.out.below hV) (HY.out.below hV) (by omega) (HO.out.below hV) (HF.out.below hV) (by omega) (by omega))
  have HVL := Lib.hid (show (Dv.plVal m xs l p0 i0 p1 i1 u s os es).length ≤ 100 from Nat.le_trans (plVal_len ..) (by omega))
  clear hb hB
  generalize Dv.plErr m xs l p0 i0 p1 i1 u s os es = E at KA KB
  generalize Dv.plVal m xs l p0 i0 p1 i1 u s os es = L at KA KB HVL
  generalize xs.length = nx at *
  generalize l.length = nl at *
  generalize os.length = no at *
  generalize es.length = ne at *
  go_enter Try.func16, Try.ntmps16
  go_upto_region 1 with (fail)
  refine gen_world (fun W => St w [(w.heap.size, 81, [.int .i64 m.r, .int .i64 m.ld, .int .i64 m.lq, .int .i64 m.fx, .int .i64 m.po, .int .i64 m.mi, .int .i64 m.sp, .int .i64 m.dr, .int .i64 m.cu, .int .i64 m.fa, .slice X nx c, .slice A nl cap, .int .i64 p0, .int .i64 i0, .int .i64 p1, .int .i64 i1, .int .i64 u, .int .i64 s.d, .int .i64 s.q, .int .i64 s.w, .int .i64 s.a, .slice D no ck, .slice F ne ck'])] W) S0.out ?_
  clear S0
  rintro w0 i0_
  have S0 := Lib.hid i0_
  clear i0_
  have HBK := Lib.hid (S0.out.get 0 rfl)
  have zz := HBK.out.lt
  go_wp2_with (refine wpList_load_row rfl 81 _ rfl w.heap.size rfl 81 _ (0, 0) _ HBK.out Try.underlying81 rfl (by kernel_rfl) ?_)
  refine (KL.out _).mono ?_
  rintro e w1 ⟨rfl, hb1⟩
  have S1 := Lib.hid (S0.out.below hb1)
  clear hb1 S0 HBK zz KL
  have z_a := (S1.out.get 0 rfl).lt
  have c_a0 := (S1.out.get 0 rfl).cell 0 rfl
  have c_a1 := (S1.out.get 0 rfl).cell 1 rfl
  have c_a2 := (S1.out.get 0 rfl).cell 2 rfl
  have c_a3 := (S1.out.get 0 rfl).cell 3 rfl
  have c_a4 := (S1.out.get 0 rfl).cell 4 rfl
  have c_a5 := (S1.out.get 0 rfl).cell 5 rfl
  have c_a6 := (S1.out.get 0 rfl).cell 6 rfl
  have c_a7 := (S1.out.get 0 rfl).cell 7 rfl
  have c_a8 := (S1.out.get 0 rfl).cell 8 rfl
  have c_a9 := (S1.out.get 0 rfl).cell 9 rfl
  have c_a10 := (S1.out.get 0 rfl).cell 10 rfl
  have c_a11 := (S1.out.get 0 rfl).cell 11 rfl
  have c_a12 := (S1.out.get 0 rfl).cell 12 rfl
  have c_a13 := (S1.out.get 0 rfl).cell 13 rfl
  have c_a14 := (S1.out.get 0 rfl).cell 14 rfl
  have c_a15 := (S1.out.get 0 rfl).cell 15 rfl
  have c_a16 := (S1.out.get 0 rfl).cell 16 rfl
  have c_a17 := (S1.out.get 0 rfl).cell 17 rfl
  have c_a18 := (S1.out.get 0 rfl).cell 18 rfl
  have c_a19 := (S1.out.get 0 rfl).cell 19 rfl
  have c_a20 := (S1.out.get 0 rfl).cell 20 rfl
  have c_a21 := (S1.out.get 0 rfl).cell 21 rfl
  have c_a22 := (S1.out.get 0 rfl).cell 22 rfl
  go_wp2_with fail
  refine (KA.out _ S1.out.1).mono ?_
  rintro e w2 ⟨hb2, A1, c1, rfl, hR1⟩
  have S2 := Lib.hid (S1.out.below hb2)
  have HR1 := Lib.hid hR1
  clear hb2 S1 KA hR1 z_a c_a0 c_a1 c_a2 c_a3 c_a4 c_a5 c_a6 c_a7 c_a8 c_a9 c_a10 c_a11 c_a12 c_a13 c_a14 c_a15 c_a16 c_a17 c_a18 c_a19 c_a20 c_a21 c_a22
  have z_a := (S2.out.get 0 rfl).lt
  have c_a0 := (S2.out.get 0 rfl).cell 0 rfl
  have c_a1 := (S2.out.get 0 rfl).cell 1 rfl
  have c_a2 := (S2.out.get 0 rfl).cell 2 rfl
  have c_a3 := (S2.out.get 0 rfl).cell 3 rfl
  have c_a4 := (S2.out.get 0 rfl).cell 4 rfl
  have c_a5 := (S2.out.get 0 rfl).cell 5 rfl
  have c_a6 := (S2.out.get 0 rfl).cell 6 rfl
  have c_a7 := (S2.out.get 0 rfl).cell 7 rfl
  have c_a8 := (S2.out.get 0 rfl).cell 8 rfl
  have c_a9 := (S2.out.get 0 rfl).cell 9 rfl
  have c_a10 := (S2.out.get 0 rfl).cell 10 rfl
  have c_a11 := (S2.out.get 0 rfl).cell 11 rfl
  have c_a12 := (S2.out.get 0 rfl).cell 12 rfl
  have c_a13 := (S2.out.get 0 rfl).cell 13 rfl
  have c_a14 := (S2.out.get 0 rfl).cell 14 rfl
  have c_a15 := (S2.out.get 0 rfl).cell 15 rfl
  have c_a16 := (S2.out.get 0 rfl).cell 16 rfl
  have c_a17 := (S2.out.get 0 rfl).cell 17 rfl
  have c_a18 := (S2.out.get 0 rfl).cell 18 rfl
  have c_a19 := (S2.out.get 0 rfl).cell 19 rfl
  have c_a20 := (S2.out.get 0 rfl).cell 20 rfl
  have c_a21 := (S2.out.get 0 rfl).cell 21 rfl
  have c_a22 := (S2.out.get 0 rfl).cell 22 rfl
  go_wp2_with fail
  refine (KB.out _ S2.out.1).mono ?_
  rintro e w3 ⟨hb3, A2, c2, rfl, hR2⟩
  have S3 := Lib.hid (S2.out.below hb3)
  have HR1' := Lib.hid (HR1.out.below hb3)
  have HR2 := Lib.hid hR2
  clear hb3 S2 KB hR2 HR1 z_a c_a0 c_a1 c_a2 c_a3 c_a4 c_a5 c_a6 c_a7 c_a8 c_a9 c_a10 c_a11 c_a12 c_a13 c_a14 c_a15 c_a16 c_a17 c_a18 c_a19 c_a20 c_a21 c_a22
  trace "both"
  obtain ⟨nL, hnL⟩ : ∃ n, n = L.length := ⟨_, rfl⟩
  have HNL := Lib.hid hnL
  rw [← hnL]
  clear hnL
  have hmx : nL ≤ 100 := by have := HVL.out; have := HNL.out; omega
  go_wp2_with fail
  go_loopw [7] (fun i wr => ∃ k : Nat, k ≤ nL ∧ i = .int .i64 k ∧ Hid (Below w3.heap.size w3 wr)) (fun i _ => nL - (intOf i).toNat)
  case atStart => exact ⟨0, by omega, rfl, Lib.hid (Below.refl _ _)⟩
  case round =>
    obtain ⟨k, hk, rfl, HB⟩ := hrel
    by_cases hlt : k < nL
    · obtain ⟨a1, rfl, z1, x0, x1, x2, x3⟩ := (HR1'.out.below HB.out) k (by rw [← HNL.out]; exact hlt)
      obtain ⟨a2, rfl, z2, y0, y1, y2, y3⟩ := (HR2.out.below HB.out) k (by rw [← HNL.out]; exact hlt)
      generalize L.getD k ⟨0, 0, 0, 0⟩ = r at *
      have k0 : (0 : Int) ≤ (k : Int) := by omega
      have kx : (k : Int) < (nL : Int) := by omega
      have kd : decide ((k : Int) < (nL : Int)) = true := decide_eq_true (by omega)
      have z1' : (a1.add (k * 4)).block < wr.heap.size := by rw [block_add]; exact z1
      have z2' : (a2.add (k * 4)).block < wr.heap.size := by rw [block_add]; exact z2
      go_wp2_with fail
      refine wp_region_past (by kernel_rfl) (by kernel_rfl) ?_
      repeat (go_big_quiet_step (fail))
      refine wpQuiet_nil ?_
      intro xx
      have HXX := Lib.hid xx.far
      generalize xx.w = w4 at HXX ⊢
      trace "cmp"
      go_wp2
      go_roundw
      case rel => exact ⟨k + 1, by omega, by go_num, Lib.hid (HB.out.trans (HXX.out.mono HB.out.size))⟩
      case measure => simp [intOf]; omega
    · go_wp2_with fail
      refine (known_c _).mono ?_
      rintro e w5 ⟨rfl, hb5⟩
      go_wp2
      go_ret
      exact ⟨rfl, (S3.out.below (HB.out.trans (hb5.mono HB.out.size))).1⟩
end Go.Proofs.Ytcneohhfnnelgaa
namespace Go.Proofs.Ytcneohhfnnelgaa
open Go.RowKit
set_option linter.unusedVariables false
theorem ints_of {w : World} {v : Value} (h : v = .slice none 0 0 ∨ ∃ a len cap, v = .slice (some a) len cap ∧ len ≤ cap ∧ cap ≤ maxLen ∧
      ∀ i, i < len → ∃ cs, cs.length = 1 ∧ (∀ j u, cs[j]? = some u → w.cell? ((a.add (i * 1)).add j) = some u) ∧ Rd w (.i .i64 .nil) cs) :
    ∃ (A : Option Addr) (xs : List Int) (cap : Nat), v = .slice A xs.length cap ∧ xs.length ≤ cap ∧ cap ≤ 9223372036854775807 ∧ IntsAt w A xs := by
  rcases h with rfl | ⟨a, len, cap, rfl, hl, hm, hi⟩
  · exact ⟨none, [], 0, rfl, Nat.le_refl _, by omega, fun i hi => by simp at hi⟩
  · obtain ⟨xs, hbl, hbs⟩ := choose_list (α := Int) (n := len) (Q := fun i x => w.cell? ((a.add (i * 1)).add 0) = some (.int .i64 x)) (fun i hil => by
      obtain ⟨cs, _, hc, n0, _, rfl, _, rfl⟩ := hi i hil
      exact ⟨n0, hc 0 _ rfl⟩)
    refine ⟨some a, xs, cap, by rw [hbl], by omega, by unfold maxLen at hm; omega, fun i hi => ⟨a, rfl, ?_⟩⟩
    have hg : xs[i]? = some (xs.getD i 0) := by rw [List.getD_eq_getElem?_getD, List.getElem?_eq_getElem hi]; rfl
    have h0 := hbs i _ hg
    rw [add_zero', Nat.mul_one] at h0
    exact h0
end Go.Proofs.Ytcneohhfnnelgaa
