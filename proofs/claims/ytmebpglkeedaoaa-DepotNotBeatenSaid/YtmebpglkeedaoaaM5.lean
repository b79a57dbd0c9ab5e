/- Plain: a heap of visits. -/
import Derived.Test.YtmebpglkeedaoaaM1
namespace Go.Proofs.Ytmebpglkeedaoaa
namespace Dp
abbrev Vs := Int × Int
def keyAt (l : List Vs) (i : Nat) : Int := (l.getD i (0, 0)).2
/-- each is at least the one above it -/
def Heap (l : List Vs) : Prop := ∀ j, 0 < j → j < l.length → keyAt l ((j - 1) / 2) ≤ keyAt l j
/-- a heap, but place i may be less than the one above it -/
def UpAt (l : List Vs) (i : Nat) : Prop := (∀ j, 0 < j → j < l.length → j ≠ i → keyAt l ((j - 1) / 2) ≤ keyAt l j) ∧ (0 < i → ∀ j, 0 < j → j < l.length → (j - 1) / 2 = i → keyAt l ((i - 1) / 2) ≤ keyAt l j)
/-- a heap, but place i may be more than those below it -/
def DnAt (l : List Vs) (i : Nat) : Prop := (∀ j, 0 < j → j < l.length → (j - 1) / 2 ≠ i → keyAt l ((j - 1) / 2) ≤ keyAt l j) ∧ (0 < i → ∀ j, 0 < j → j < l.length → (j - 1) / 2 = i → keyAt l ((i - 1) / 2) ≤ keyAt l j)
def swp (l : List Vs) (i j : Nat) : List Vs := (l.set i (l.getD j (0, 0))).set j (l.getD i (0, 0))
theorem swp_length (l : List Vs) (i j : Nat) : (swp l i j).length = l.length := by simp [swp]
theorem swp_perm {l : List Vs} {i j : Nat} (hi : i < l.length) (hj : j < l.length) : (swp l i j).Perm l := by
  unfold swp
  rw [List.getD_eq_getElem?_getD, List.getD_eq_getElem?_getD, List.getElem?_eq_getElem hi, List.getElem?_eq_getElem hj]
  exact List.set_set_perm hi hj
theorem getD_setV (l : List Vs) (i j : Nat) (v : Vs) (h : i < l.length) : (l.set i v).getD j (0, 0) = if j = i then v else l.getD j (0, 0) := by
  simp only [List.getD_eq_getElem?_getD, List.getElem?_set]
  by_cases hj : i = j
  · subst hj; simp [h]
  · rw [if_neg hj, if_neg (fun e => hj e.symm)]
theorem key_swp {l : List Vs} {i j : Nat} (hi : i < l.length) (hj : j < l.length) (k : Nat) : keyAt (swp l i j) k = if k = j then keyAt l i else if k = i then keyAt l j else keyAt l k := by
  unfold keyAt swp
  rw [getD_setV _ _ _ _ (by simpa using hj), getD_setV _ _ _ _ hi]
  split
  · rfl
  · split <;> rfl
theorem heap_min {l : List Vs} (h : Heap l) : ∀ j, j < l.length → keyAt l 0 ≤ keyAt l j := by
  intro j
  induction j using Nat.strongRecOn with
  | _ j ih =>
    intro hj
    rcases Nat.eq_zero_or_pos j with rfl | h0
    · exact Int.le_refl _
    · have h1 := ih ((j - 1) / 2) (by omega) (by omega)
      have h2 := h j h0 hj
      omega
theorem heap_minE {l : List Vs} (h : Heap l) (e : Vs) (he : e ∈ l) : keyAt l 0 ≤ e.2 := by
  obtain ⟨i, hi, rfl⟩ := List.getElem_of_mem he
  have := heap_min h i hi
  simpa [keyAt, List.getD, hi] using this
theorem heap_nil : Heap [] := fun _ _ h => absurd h (Nat.not_lt_zero _)
theorem key_app {l : List Vs} {x : Vs} {j : Nat} (hj : j < l.length) : keyAt (l ++ [x]) j = keyAt l j := by
  simp [keyAt, List.getD, List.getElem?_append_left hj]
theorem up_start {l : List Vs} (h : Heap l) (x : Vs) : UpAt (l ++ [x]) l.length := by
  constructor
  · intro j h0 hj hne
    simp only [List.length_append, List.length_cons, List.length_nil] at hj
    rw [key_app (by omega), key_app (by omega)]
    exact h j h0 (by omega)
  · intro h0 j h1 h2 h3
    simp only [List.length_append, List.length_cons, List.length_nil] at h2
    omega
theorem up_done {l : List Vs} {i : Nat} (h : UpAt l i) (hk : i = 0 ∨ keyAt l ((i - 1) / 2) ≤ keyAt l i) : Heap l := by
  intro j h0 hj
  by_cases he : j = i
  · subst he; rcases hk with hk | hk
    · omega
    · exact hk
  · exact h.1 j h0 hj he
theorem up_step {l : List Vs} {i : Nat} (h : UpAt l i) (h0 : 0 < i) (hi : i < l.length) (hk : keyAt l i < keyAt l ((i - 1) / 2)) : UpAt (swp l i ((i - 1) / 2)) ((i - 1) / 2) := by
  have hp : (i - 1) / 2 < l.length := by omega
  constructor
  · intro j j0 hj hne
    rw [swp_length] at hj
    rw [key_swp hi hp, key_swp hi hp, if_neg hne]
    by_cases hji : j = i
    · subst hji
      rw [if_pos rfl, if_pos rfl]
      omega
    · rw [if_neg hji]
      have h1 := h.1 j j0 hj hji
      by_cases hq : (j - 1) / 2 = (i - 1) / 2
      · rw [if_pos hq]; rw [hq] at h1; omega
      · rw [if_neg hq]
        by_cases hqi : (j - 1) / 2 = i
        · rw [if_pos hqi]
          exact h.2 h0 j j0 hj hqi
        · rw [if_neg hqi]; exact h1
  · intro g0 j j0 hj hq
    rw [swp_length] at hj
    have hpp : ((i - 1) / 2 - 1) / 2 ≠ i := by omega
    have hpp2 : ((i - 1) / 2 - 1) / 2 ≠ (i - 1) / 2 := by omega
    have hpq := h.1 ((i - 1) / 2) g0 hp (by omega)
    rw [key_swp hi hp, key_swp hi hp, if_neg hpp2, if_neg hpp, if_neg (show j ≠ (i - 1) / 2 by omega)]
    by_cases hji : j = i
    · rw [if_pos hji]; exact hpq
    · rw [if_neg hji]
      have h1 := h.1 j j0 hj hji
      rw [hq] at h1
      omega
theorem dn_done {l : List Vs} {i : Nat} (h : DnAt l i) (h1 : 2 * i + 1 < l.length → keyAt l i ≤ keyAt l (2 * i + 1)) (h2 : 2 * i + 2 < l.length → keyAt l i ≤ keyAt l (2 * i + 2)) : Heap l := by
  intro j j0 hj
  by_cases he : (j - 1) / 2 = i
  · rw [he]
    rcases (show j = 2 * i + 1 ∨ j = 2 * i + 2 by omega) with rfl | rfl
    · exact h1 hj
    · exact h2 hj
  · exact h.1 j j0 hj he
/-- a step down to the least child -/
theorem dn_step {l : List Vs} {i c : Nat} (h : DnAt l i) (hc : c < l.length) (hci : c = 2 * i + 1 ∨ c = 2 * i + 2) (hk : keyAt l c < keyAt l i)
    (hl : ∀ j, 0 < j → j < l.length → (j - 1) / 2 = i → keyAt l c ≤ keyAt l j) : DnAt (swp l i c) c := by
  have hi : i < l.length := by omega
  have hcp : (c - 1) / 2 = i := by omega
  constructor
  · intro j j0 hj hne
    rw [swp_length] at hj
    rw [key_swp hi hc, key_swp hi hc, if_neg hne]
    by_cases hq : (j - 1) / 2 = i
    · rw [if_pos hq]
      by_cases hjc : j = c
      · rw [if_pos hjc]; omega
      · rw [if_neg hjc, if_neg (show j ≠ i by omega)]
        exact hl j j0 hj hq
    · rw [if_neg hq]
      have h1 := h.1 j j0 hj hq
      rw [if_neg (show j ≠ c by omega)]
      by_cases hji : j = i
      · rw [if_pos hji]
        subst hji
        exact h.2 j0 c (by omega) hc hcp
      · rw [if_neg hji]; exact h1
  · intro c0 j j0 hj hq
    rw [swp_length] at hj
    rw [key_swp hi hc, key_swp hi hc, if_neg (show (c - 1) / 2 ≠ c by omega), if_pos hcp, if_neg (show j ≠ c by omega), if_neg (show j ≠ i by omega)]
    have := h.1 j j0 hj (by omega)
    rw [hq] at this
    exact this
/-- the last in the first one's place, and the list shorter by one -/
def popd (l : List Vs) : List Vs := (l.set 0 (l.getD (l.length - 1) (0, 0))).take (l.length - 1)
theorem popd_length (l : List Vs) : (popd l).length = l.length - 1 := by simp [popd]
theorem popd_perm {l : List Vs} (h : 0 < l.length) : (l.getD 0 (0, 0) :: popd l).Perm l := by
  rcases Nat.lt_or_ge 1 l.length with h1 | h1
  · obtain ⟨a, t, rfl⟩ : ∃ a t, l = a :: t := by cases l with
      | nil => simp at h
      | cons a t => exact ⟨a, t, rfl⟩
    have ht : t ≠ [] := by intro e; subst e; simp at h1
    have e := List.dropLast_concat_getLast ht
    have hl : 0 < t.length := List.length_pos_iff.2 ht
    have e1 : popd (a :: t) = t.getLast ht :: t.dropLast := by
      unfold popd
      have : (a :: t).getD ((a :: t).length - 1) (0, 0) = t.getLast ht := by
        simp only [List.length_cons, Nat.add_sub_cancel]
        rw [List.getD_eq_getElem?_getD, List.getLast_eq_getElem]
        obtain ⟨n, hn⟩ : ∃ n, t.length = n + 1 := ⟨t.length - 1, by omega⟩
        simp [hn]
      rw [this]
      simp only [List.set_cons_zero, List.length_cons, Nat.add_sub_cancel]
      obtain ⟨n, hn⟩ : ∃ n, t.length = n + 1 := ⟨t.length - 1, by omega⟩
      rw [hn, List.take_succ_cons, List.dropLast_eq_take, hn]
      rfl
    rw [e1]
    simp only [List.getD_cons_zero]
    refine List.Perm.cons a ?_
    have : (t.getLast ht :: t.dropLast).Perm (t.dropLast ++ [t.getLast ht]) := (List.perm_append_singleton _ _).symm
    rw [e] at this
    exact this
  · have : l.length = 1 := by omega
    obtain ⟨a, rfl⟩ := List.length_eq_one_iff.1 this
    simp [popd]
theorem key_popd {l : List Vs} {j : Nat} (hj : j < l.length - 1) : keyAt (popd l) j = if j = 0 then keyAt l (l.length - 1) else keyAt l j := by
  have : keyAt (popd l) j = keyAt (l.set 0 (l.getD (l.length - 1) (0, 0))) j := by
    simp only [keyAt, popd, List.getD_eq_getElem?_getD]
    rw [List.getElem?_take_of_lt hj]
  rw [this]
  unfold keyAt
  rw [getD_setV _ _ _ _ (by omega)]
  split <;> rfl
theorem popd_dn {l : List Vs} (h : Heap l) : DnAt (popd l) 0 := by
  constructor
  · intro j j0 hj hne
    rw [popd_length] at hj
    rw [key_popd (by omega), key_popd hj, if_neg hne, if_neg (by omega)]
    exact h j j0 (by omega)
  · intro h0; omega
end Dp
end Go.Proofs.Ytmebpglkeedaoaa
