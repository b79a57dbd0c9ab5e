/- slices.Clone, IndexFunc and DeleteFunc of leases; Ack's own test. -/
import Derived.Test.YtafajclbghofkaaS6b
import Derived.Laws.IdiomCopy
namespace Go.Proofs.Ytafajclbghofkaa
open Go.RowKit
set_option linter.unusedVariables false

/-- a row of leases in its block -/
def RowM (W : World) (g c : Nat) (M : List Ls) : Prop := ∃ cur : Array Value, W.heap[g]? = some (.cells cur 43 (0, 0)) ∧ cur.size = c * 4 ∧ M.length ≤ c ∧ ∀ i, i < M.length → ∀ j u, (M.getD i default).vals[j]? = some u → cur[i * 4 + j]? = some u
section
variable {W W' : World} {g c : Nat} {M : List Ls}
theorem RowM.lt (h : RowM W g c M) : g < W.heap.size := by
  obtain ⟨cur, h, _⟩ := h
  exact (Array.getElem?_eq_some_iff.1 h).1
theorem RowM.cell (h : RowM W g c M) {i : Nat} (hi : i < M.length) (j : Nat) {u : Value} (hu : (M.getD i default).vals[j]? = some u) : W.cell? ⟨g, i * 4 + j, none⟩ = some u := by
  obtain ⟨cur, h, _, _, hc⟩ := h
  simp [World.cell?, h, hc i hi j u hu]
theorem RowM.isSome (h : RowM W g c M) {k : Nat} (hk : k < c * 4) : (W.cell? ⟨g, k, none⟩).isSome = true := by
  obtain ⟨cur, h, hs, _, hc⟩ := h
  simp [World.cell?, h]
  omega
theorem RowM.free (h : RowM W g c M) (o : Nat) : W.frozen? ⟨g, o, none⟩ = false := by
  obtain ⟨cur, h, _⟩ := h
  simp [World.frozen?, h]
theorem RowM.of_eq (h : RowM W g c M) (e : W'.heap[g]? = W.heap[g]?) : RowM W' g c M := by
  obtain ⟨cur, h, r⟩ := h
  exact ⟨cur, e.trans h, r⟩
theorem RowM.below (h : RowM W g c M) (hb : Below W.heap.size W W') : RowM W' g c M := h.of_eq (hb.block g h.lt)
theorem RowM.of_row {B cap : Nat} {A : Option Addr} {L : List Ls} (h : LRow B A cap L W) (hn : 0 < L.length) : ∃ g, A = some ⟨g, 0, none⟩ ∧ B ≤ g ∧ cap ≤ maxLen ∧ RowM W g cap L := by
  rcases h.2 with ⟨h2, hx⟩ | ⟨g, c, cur, hv, hb, hg, hnc, hcm, hcs, htk⟩
  · omega
  · cases hv
    refine ⟨g, rfl, hb, hcm, cur, hg, hcs, hnc, fun i hi j u hu => ?_⟩
    have h1 := flatLs_at L hi j u hu
    rw [← htk, List.getElem?_take] at h1
    split at h1
    · simpa using h1
    · cases h1
theorem vals_four (l : Ls) : l.vals.length = 4 := rfl
theorem RowM.to_row (h : RowM W g c M) {B : Nat} (hB : B ≤ g) (hc : c ≤ maxLen) {n : Nat} (hn : n ≤ M.length) : LRow B (some ⟨g, 0, none⟩) c (M.take n) W := by
  obtain ⟨cur, h, hs, hm, hcl⟩ := h
  have hl : (M.take n).length = n := by rw [List.length_take]; omega
  unfold LRow World.ownsRow
  rw [hl]
  refine ⟨by rw [flatLs_length, hl], .inr ⟨g, c, cur, rfl, hB, h, by omega, hc, hs, ?_⟩⟩
  apply List.ext_getElem?
  intro k
  by_cases hk : k < n * 4
  · have hi : k / 4 < (M.take n).length := by rw [hl]; omega
    have hj : k % 4 < ((M.take n).getD (k / 4) default).vals.length := by rw [vals_four]; omega
    have h1 := flatLs_at (M.take n) hi (k % 4) _ (List.getElem?_eq_getElem hj)
    have hg : (M.take n).getD (k / 4) default = M.getD (k / 4) default := by
      rw [List.getD_eq_getElem?_getD, List.getD_eq_getElem?_getD, List.getElem?_take, if_pos (by omega)]
    have h2 := hcl (k / 4) (by omega) (k % 4) _ (by rw [← hg]; exact List.getElem?_eq_getElem hj)
    have e : k / 4 * 4 + k % 4 = k := by omega
    rw [e] at h1 h2
    rw [h1, List.getElem?_take, if_pos hk]
    simpa using h2
  · rw [List.getElem?_take, if_neg hk]
    symm
    rw [List.getElem?_eq_none_iff, flatLs_length, hl]
    omega
/-- a lease is laid -/
theorem RowM.store (h : RowM W g c M) {i : Nat} (hi : i < M.length) (l : Ls) :
    RowM ((((W.setCell ⟨g, i * 4, none⟩ (.int .i64 l.n)).setCell ⟨g, i * 4 + 1, none⟩ (.int .i64 l.d)).setCell ⟨g, i * 4 + 2, none⟩ (.int .i64 l.b)).setCell ⟨g, i * 4 + 3, none⟩ (.int .i64 l.u)) g c (M.set i l) := by
  have step : ∀ {W : World} {cur : Array Value} (o : Nat) (v : Value), W.heap[g]? = some (.cells cur 43 (0, 0)) → (W.setCell ⟨g, o, none⟩ v).heap[g]? = some (.cells (cur.setIfInBounds o v) 43 (0, 0)) := by
    intro W cur o v hW
    have hlt := (Array.getElem?_eq_some_iff.1 hW).1
    have h' : W.heap[g] = .cells cur 43 (0, 0) := by simpa [Array.getElem?_eq_getElem hlt] using hW
    show (W.heap.modify g _)[g]? = _
    rw [Array.getElem?_eq_getElem (by simpa using hlt), Array.getElem_modify_self, h']
    rfl
  obtain ⟨cur, hg, hs, hm, hc⟩ := h
  refine ⟨_, step _ _ (step _ _ (step _ _ (step _ _ hg))), by simpa using hs, by simpa using hm, fun k hk j u hu => ?_⟩
  have hk' : k < M.length := by simpa using hk
  have hj : j < 4 := by rw [← vals_four ((M.set i l).getD k default)]; exact (List.getElem?_eq_some_iff.1 hu).1
  have hd : (M.set i l).getD k default = if k = i then l else M.getD k default := by
    rw [List.getD_eq_getElem?_getD, List.getElem?_set]
    by_cases h : i = k
    · subst h; simp [hi]
    · rw [if_neg h, if_neg (fun e => h e.symm), ← List.getD_eq_getElem?_getD]
  rw [hd] at hu
  have hb : i * 4 + 3 < cur.size := by omega
  by_cases hki : k = i
  · subst hki
    rw [if_pos rfl] at hu
    have : j = 0 ∨ j = 1 ∨ j = 2 ∨ j = 3 := by omega
    rcases this with rfl | rfl | rfl | rfl
    · cases hu; rw [Array.getElem?_setIfInBounds_ne (by omega), Array.getElem?_setIfInBounds_ne (by omega), Array.getElem?_setIfInBounds_ne (by omega)]; exact Array.getElem?_setIfInBounds_self_of_lt (by omega)
    · cases hu; rw [Array.getElem?_setIfInBounds_ne (by omega), Array.getElem?_setIfInBounds_ne (by omega)]; exact Array.getElem?_setIfInBounds_self_of_lt (by simp; omega)
    · cases hu; rw [Array.getElem?_setIfInBounds_ne (by omega)]; exact Array.getElem?_setIfInBounds_self_of_lt (by simp; omega)
    · cases hu; exact Array.getElem?_setIfInBounds_self_of_lt (by simp; omega)
  · rw [if_neg hki] at hu
    rw [Array.getElem?_setIfInBounds_ne (by omega), Array.getElem?_setIfInBounds_ne (by omega), Array.getElem?_setIfInBounds_ne (by omega), Array.getElem?_setIfInBounds_ne (by omega)]
    exact hc k hk' j u hu
theorem heap_setCells {ty : TypeId} {fz : Nat × Nat} : ∀ (vs : List Value) (o : Nat) (W : World) (cur : Array Value), W.heap[g]? = some (.cells cur ty fz) → ∃ cur', (W.setCells g o vs).heap[g]? = some (.cells cur' ty fz) ∧ cur'.size = cur.size ∧ ∀ k, k < o → cur'[k]? = cur[k]?
  | [], _, W, cur, h => ⟨cur, h, rfl, fun _ _ => rfl⟩
  | v :: r, o, W, cur, hW => by
    have hlt := (Array.getElem?_eq_some_iff.1 hW).1
    have h' : W.heap[g] = .cells cur ty fz := by simpa [Array.getElem?_eq_getElem hlt] using hW
    have h1 : (W.setCell ⟨g, o, none⟩ v).heap[g]? = some (.cells (cur.setIfInBounds o v) ty fz) := by
      show (W.heap.modify g _)[g]? = _
      rw [Array.getElem?_eq_getElem (by simpa using hlt), Array.getElem_modify_self, h']
      rfl
    obtain ⟨cur', h2, h3, h4⟩ := heap_setCells r (o + 1) _ _ h1
    exact ⟨cur', h2, by simpa using h3, fun k hk => by rw [h4 k (by omega), Array.getElem?_setIfInBounds_ne (by omega)]⟩
theorem touch_setCells {S : Nat → Prop} {a : World} (hg : S g) : ∀ (vs : List Value) (o : Nat) (W : World), Touch S a W → Touch S a (W.setCells g o vs)
  | [], _, _, h => h
  | v :: r, o, W, h => touch_setCells hg r (o + 1) _ (h.setCell (.inl hg) v)
theorem RowM.clear (h : RowM W g c M) {i : Nat} (hi : i ≤ M.length) (vs : List Value) : RowM (W.setCells g (i * 4) vs) g c (M.take i) := by
  obtain ⟨cur, hg, hs, hm, hc⟩ := h
  obtain ⟨cur', h1, h2, h3⟩ := heap_setCells vs (i * 4) W cur hg
  refine ⟨cur', h1, by omega, by rw [List.length_take]; omega, fun k hk j u hu => ?_⟩
  have hk' : k < i := by rw [List.length_take] at hk; omega
  have hj : j < 4 := by rw [← vals_four ((M.take i).getD k default)]; exact (List.getElem?_eq_some_iff.1 hu).1
  rw [List.getD_eq_getElem?_getD, List.getElem?_take, if_pos hk', ← List.getD_eq_getElem?_getD] at hu
  rw [h3 _ (by omega)]
  exact hc k (by omega) j u hu
end
theorem run_clear_ls (w : World) (g o n c : Nat) (hn : 0 < n) (hc : ∀ j, j < n * 4 → (w.cell? ⟨g, o + j, none⟩).isSome = true) (hf : ∀ j, w.frozen? ⟨g, j, none⟩ = false) :
    ∃ vs, ∀ ty, (Builtin.clear_ #[36] ty #[.slice (some ⟨g, o, none⟩) n c]).run Try.prog w = .ok (.tuple #[]) (w.setCells g o vs) := by
  have hz : ∀ w, (zeroValue 43).run Try.prog w = .ok (.agg #[.int .i64 0, .int .i64 0, .int .i64 0, .int .i64 0]) w := fun w => by
    obtain ⟨i0, hi, z0, z1, z2⟩ := info_parts info43
    simp [zeroValue, typeInfo, hi, z0]
  obtain ⟨vs, hvs⟩ : ∃ vs, vs = (Builtin.zeroCells (Value.agg #[.int .i64 0, .int .i64 0, .int .i64 0, .int .i64 0]).cells n).toList := ⟨_, rfl⟩
  have hcl : (Value.agg #[.int .i64 0, .int .i64 0, .int .i64 0, .int .i64 0]).cells = #[.int .i64 0, .int .i64 0, .int .i64 0, .int .i64 0] := rfl
  have hl : vs.length = n * 4 := by rw [hvs, hcl]; simp [Builtin.zeroCells]
  have h1 : ∀ v ∈ vs, v.oneCell' = true := by
    intro v hv
    rw [hvs, hcl] at hv
    simp only [Builtin.zeroCells, Array.toList_map, List.mem_map] at hv
    obtain ⟨i, _, rfl⟩ := hv
    have : i % 4 = 0 ∨ i % 4 = 1 ∨ i % 4 = 2 ∨ i % 4 = 3 := by omega
    have hs : (#[Value.int .i64 0, .int .i64 0, .int .i64 0, .int .i64 0] : Array Value).size = 4 := rfl
    rw [hs]
    rcases this with e | e | e | e <;> rw [e] <;> rfl
  have hst := run_storeCells_cells (P := Try.prog) g o vs 0 w (fun j hj => by simpa using hc j (by omega)) (fun j _ => hf _) h1
  refine ⟨vs, fun ty => ?_⟩
  obtain ⟨m, rfl⟩ : ∃ m, n = m + 1 := ⟨n - 1, by omega⟩
  simp only [Nat.add_zero] at hst
  simp [Builtin.clear_, run_underlying Try.underlying36, hz, ← hvs, hst]
end Go.Proofs.Ytafajclbghofkaa
