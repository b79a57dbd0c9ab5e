/- General: append leaves what the old slice held; the memory of newGraph of depot. -/
import Derived.Test.YtmebpglkeedaoaaD7
import Derived.Test.YtmebpglkeedaoaaM11
namespace Go.Proofs.Ytmebpglkeedaoaa
open Go.RowKit Dp
set_option linter.unusedVariables false

section
variable {P : Program} {w : World}
/-- append, and the old slice's row is as it was -/
theorem run_append_keep (t ty : TypeId) (base : Nat) (e : TypeId) (i : TypeInfo) (z : Value) (size bytes : Nat) (ht : P.underlying t = some (.slice e)) (hi : P.info? e = some i) (hz : i.zero = some z)
    (hsize : i.size = size) (hby : i.bytes = bytes) (hzs : z.cells.size = size) (hsz : 0 < size)
    (A : Option Addr) (n cap : Nat) (xs : List Value) (hown : w.ownsRow base e size (.slice A n cap) n xs)
    (a : Addr) (m c : Nat) (news : List Value) (hl : news.length = m * size) (hnews : ∀ j u, news[j]? = some u → w.cell? (a.add j) = some u) (h1 : ∀ u ∈ news, u.oneCell' = true)
    (hm : 0 < m) (h63 : n + m ≤ maxLen) (hbytes : (n + m) * bytes ≤ 140737488355328) (hbase : base ≤ w.heap.size) :
    ∃ g cap' w', (Builtin.append_ #[t, t] ty #[.slice A n cap, .slice (some a) m c]).run P w = .ok (.slice (some ⟨g, 0, none⟩) (n + m) cap') w' ∧ w'.ownsRow base e size (.slice (some ⟨g, 0, none⟩) (n + m) cap') (n + m) (xs ++ news) ∧
      w.grownBy w' (Value.slice A n cap).ownBlock ∧ (OwnB A g ∨ g = w.heap.size) ∧ w'.ownsRow base e size (.slice A n cap) n xs := by
  obtain ⟨g, cap', w', hr, h2, h3, h4, h5⟩ := run_append_lies (P := P) w t ty base e i z size bytes ht hi hz hsize hby hzs hsz (.slice A n cap) n xs hown a m c news hl hnews h1 hm h63 hbytes hbase w.heap.size rfl
  refine ⟨g, cap', w', hr, h2, h3, h4.imp (fun h => ownB_iff.2 h) id, ?_⟩
  subst hsize
  rcases hown.2 with ⟨hv, hn0⟩ | ⟨g0, cap0, cur, hv, hbg, hg, hnc, hcm, hcs, htake⟩
  · cases hv
    exact ⟨hown.1, .inl ⟨rfl, hn0⟩⟩
  · cases hv
    by_cases hroom : n + m ≤ cap
    · have hfit : n * i.size + news.length ≤ cur.size := by rw [hl, hcs, ← Nat.add_mul]; exact Nat.mul_le_mul_right _ hroom
      have hr2 := run_append_room (P := P) w t ty e i ht hi g0 n cap cur hg a m c news hl hnews h1 hroom hfit
      rw [hr] at hr2
      simp only [Result.ok.injEq] at hr2
      obtain ⟨_, rfl⟩ := hr2
      refine ⟨hown.1, .inr ⟨g0, cap, _, rfl, hbg, setRow_heap w g0 cur _ e _ hg, hnc, hcm, ?_, ?_⟩⟩
      · simp only [List.size_toArray, List.length_append, List.length_take, List.length_drop, Array.length_toList]
        omega
      · have hx : xs.length = n * i.size := hown.1
        rw [htake]
        simp only [List.append_assoc]
        rw [List.take_append_of_le_length (by omega), ← hx, List.take_length]
    · have holds : ∀ j u, xs[j]? = some u → w.cell? ((⟨g0, 0, none⟩ : Addr).add j) = some u := hown.cells (g := g0) rfl
      have hr2 := run_append_grow (P := P) w t ty e i z ht hi hz ⟨g0, 0, none⟩ n cap xs hown.1 holds a m c news hl hnews (by unfold maxLen at h63; omega) (by unfold maxLen at h63; omega) (growslice_fits (by omega) (by rw [hby]; exact hbytes))
      rw [hr] at hr2
      simp only [Result.ok.injEq] at hr2
      obtain ⟨_, rfl⟩ := hr2
      exact hown.drew.alloc _
theorem stepV_keep {o : Oper} {a : Act} {N : Value → World → Prop} (s x : Operand) (t : TypeId)
    (ho : o.op = .call { callee := .builtin .append, args := #[s, x], argTypes := #[t, t] })
    (base : Nat) (e : TypeId) (i : TypeInfo) (z : Value) (size bytes : Nat) (ht : P.underlying t = some (.slice e)) (hi : P.info? e = some i) (hz : i.zero = some z)
    (hsize : i.size = size) (hby : i.bytes = bytes) (hzs : z.cells.size = size) (hsz : 0 < size)
    (A : Option Addr) (n cap : Nat) (xs : List Value) (hs : a.eval s = .slice A n cap) (hown : w.ownsRow base e size (.slice A n cap) n xs)
    (ad : Addr) (m c : Nat) (news : List Value) (hx : a.eval x = .slice (some ad) m c) (hl : news.length = m * size) (hnews : ∀ j u, news[j]? = some u → w.cell? (ad.add j) = some u) (h1 : ∀ u ∈ news, u.oneCell' = true)
    (hm : 0 < m) (h63 : n + m ≤ maxLen) (hbytes : (n + m) * bytes ≤ 140737488355328) (hbase : base ≤ w.heap.size)
    (h : ∀ g cap' w', w'.ownsRow base e size (.slice (some ⟨g, 0, none⟩) (n + m) cap') (n + m) (xs ++ news) → w.grownBy w' (Value.slice A n cap).ownBlock → (OwnB A g ∨ g = w.heap.size) → w'.ownsRow base e size (.slice A n cap) n xs → N (.slice (some ⟨g, 0, none⟩) (n + m) cap') w') : StepV P o a w N := by
  obtain ⟨g, cap', w', hr, h2, h3, h4, h5⟩ := run_append_keep (P := P) t o.type base e i z size bytes ht hi hz hsize hby hzs hsz A n cap xs hown ad m c news hl hnews h1 hm h63 hbytes hbase
  unfold StepV execOp
  simp only [ho, resolve, invoke, builtin, Sem.run_bind, Sem.run_pure, Result.andThen_ok, List.map_toArray, List.map_cons, List.map_nil, hs, hx, hr]
  exact h g cap' w' h2 h3 h4 h5
end
def intC (x : Int) : List Value := [.int .i64 x]
theorem intC_len (x : Int) : (intC x).length = 1 := rfl
theorem info26 : (Try.prog.info? 26).map (fun i => (i.zero, i.size, i.bytes)) = some (some (.slice none 0 0), 1, 24) := by kernel_rfl
theorem info144 : (Try.prog.info? 144).map (fun i => (i.zero, i.size, i.bytes)) = some (some (.agg #[.int .i64 0, .int .i64 0, .int .i64 0]), 3, 24) := by kernel_rfl
/-- the slices of the nodes' lists -/
def slC (A : Nat → Option Addr) (c : Nat → Nat) (outs : List (List Int)) : List Value := (List.range outs.length).map fun i => .slice (A i) (outs.getD i []).length (c i)
theorem slC_get {A : Nat → Option Addr} {c : Nat → Nat} {outs : List (List Int)} {i : Nat} (hi : i < outs.length) : (slC A c outs)[i]? = some (.slice (A i) (outs.getD i []).length (c i)) := by
  simp [slC, hi]
def upd {α : Type} (f : Nat → α) (i : Nat) (x : α) (j : Nat) : α := if j = i then x else f j
theorem slC_set {A : Nat → Option Addr} {c : Nat → Nat} {outs : List (List Int)} {i : Nat} (hi : i < outs.length) (g cap : Nat) (x : Int) :
    (slC A c outs).set i (.slice (some ⟨g, 0, none⟩) ((outs.getD i []).length + 1) cap) = slC (upd A i (some ⟨g, 0, none⟩)) (upd c i cap) (addAt outs i x) := by
  apply List.ext_getElem
  · simp [slC, addAt_len]
  · intro j h1 h2
    have hj : j < outs.length := by simpa [slC] using h1
    rw [List.getElem_set]
    simp only [slC, List.getElem_map, List.getElem_range]
    rw [addAt_get hi]
    unfold upd
    by_cases e : i = j
    · subst e
      rw [if_pos rfl, if_pos rfl, if_pos rfl, if_pos rfl]
      simp
    · rw [if_neg e, if_neg (fun h => e h.symm), if_neg (fun h => e h.symm), if_neg (fun h => e h.symm)]
/-- memory while a graph is built -/
structure NgJ (w : World) (b gl cl bo : Nat) (E : Option Addr) (ce : Nat) (A : Nat → Option Addr) (c : Nat → Nat) (G : Gr) (W : World) : Prop where
  bel : Below w.heap.size w W
  blk : Blk W b 113 [.slice (some ⟨gl, 0, none⟩) G.left.length cl, .slice E G.es.length ce, .slice (some ⟨bo, 0, none⟩) G.outs.length G.outs.length]
  left : OwnI w.heap.size W gl cl G.left
  es : OwnR edC 144 3 w.heap.size W E ce G.es
  rows : Blk W bo 26 (slC A c G.outs)
  own : ∀ i, i < G.outs.length → OwnR intC 3 1 w.heap.size W (A i) (c i) (G.outs.getD i [])
  dis : ∀ i j, i < G.outs.length → j < G.outs.length → i ≠ j → ∀ k, OwnB (A i) k → ¬ OwnB (A j) k
  ge : w.heap.size ≤ b ∧ w.heap.size ≤ bo
theorem OwnI.typed {B : Nat} {W : World} {g c : Nat} {xs : List Int} {t : TypeId} {cs : List Value} (h : OwnI B W g c xs) (h' : Blk W g t cs) (hn : (2 : Nat) ≠ t) : False := by
  rcases h.2 with ⟨h0, _⟩ | ⟨g', cap', cur, hv, _, hg, _⟩
  · simp at h0
  · simp only [Value.slice.injEq, Option.some.injEq, Addr.mk.injEq] at hv
    obtain ⟨⟨rfl, _⟩, _⟩ := hv
    unfold Blk at h'
    rw [hg] at h'
    simp only [Option.some.injEq, Obj.cells.injEq] at h'
    exact hn h'.2.1
theorem own_own_ne {α β : Type} {f : α → List Value} {f' : β → List Value} {e e' : TypeId} {s s' B B' : Nat} {W : World} {A A' : Option Addr} {c c' g : Nat} {l : List α} {l' : List β} (h : OwnR f e s B W A c l) (h' : OwnR f' e' s' B' W A' c' l') (hn : e ≠ e') (h1 : OwnB A g) (h2 : OwnB A' g) : False := by
  rcases h'.2 with ⟨h0, _⟩ | ⟨g', cap', cur, hv, _, hg, _⟩
  · simp only [Value.slice.injEq] at h0
    obtain ⟨rfl, _⟩ := h0
    obtain ⟨a, ha, _⟩ := h2
    cases ha
  · simp only [Value.slice.injEq] at hv
    obtain ⟨rfl, _⟩ := hv
    have e1 := ownB_some.1 h2
    subst e1
    exact own_ne h h1 (show Blk W g e' cur.toList from by unfold Blk; rw [hg]) hn
end Go.Proofs.Ytmebpglkeedaoaa
