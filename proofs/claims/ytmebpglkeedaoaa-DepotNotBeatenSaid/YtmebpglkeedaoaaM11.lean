/- Plain: the graph of a net, arc by arc. -/
import Derived.Test.YtmebpglkeedaoaaM10
namespace Go.Proofs.Ytmebpglkeedaoaa
namespace Dp
def addAt (outs : List (List Int)) (v : Nat) (x : Int) : List (List Int) := outs.set v (outs.getD v [] ++ [x])
theorem addAt_len (outs : List (List Int)) (v : Nat) (x : Int) : (addAt outs v x).length = outs.length := by simp [addAt]
theorem addAt_get {outs : List (List Int)} {v : Nat} (hv : v < outs.length) (x : Int) (u : Nat) : (addAt outs v x).getD u [] = if u = v then outs.getD v [] ++ [x] else outs.getD u [] := by
  unfold addAt
  simp only [List.getD_eq_getElem?_getD, List.getElem?_set]
  by_cases h : v = u
  · subst h; simp [hv]
  · rw [if_neg h, if_neg (fun e => h e.symm)]
/-- the edges of the first k arcs -/
def esK (N : Net) : Nat → List Ed
  | 0 => []
  | k + 1 => esK N k ++ [⟨(N.arcs.getD k default).to, (N.arcs.getD k default).cap, (N.arcs.getD k default).cost⟩, ⟨(N.arcs.getD k default).fr, 0, -(N.arcs.getD k default).cost⟩]
/-- the nodes' lists behind k arcs -/
def outsK (N : Net) : Nat → List (List Int)
  | 0 => List.replicate N.sup.length []
  | k + 1 => addAt (addAt (outsK N k) (frN N k) (2 * k : Nat)) (toN N k) (2 * k + 1 : Nat)
theorem esK_len (N : Net) : ∀ k, (esK N k).length = 2 * k
  | 0 => rfl
  | k + 1 => by simp [esK, esK_len N k]; omega
theorem outsK_len (N : Net) : ∀ k, (outsK N k).length = N.sup.length
  | 0 => by simp [outsK]
  | k + 1 => by simp [outsK, addAt_len, outsK_len N k]
theorem esK_get (N : Net) : ∀ (k j : Nat), j < k → (esK N k).getD (2 * j) default = ⟨(N.arcs.getD j default).to, (N.arcs.getD j default).cap, (N.arcs.getD j default).cost⟩ ∧ (esK N k).getD (2 * j + 1) default = ⟨(N.arcs.getD j default).fr, 0, -(N.arcs.getD j default).cost⟩
  | 0, j, h => absurd h (Nat.not_lt_zero _)
  | k + 1, j, h => by
    have hl := esK_len N k
    simp only [esK]
    by_cases e : j = k
    · subst e
      simp only [List.getD_eq_getElem?_getD]
      rw [List.getElem?_append_right (by omega), List.getElem?_append_right (by omega), hl]
      simp
    · have ih := esK_get N k j (by omega)
      simp only [List.getD_eq_getElem?_getD] at ih ⊢
      rw [List.getElem?_append_left (by omega), List.getElem?_append_left (by omega)]
      exact ih
theorem outsK_mem {N : Net} (h : chE N = 0) : ∀ k, k ≤ N.arcs.length → ∀ v, v < N.sup.length → ∀ x, x ∈ (outsK N k).getD v [] ↔ ∃ j, j < k ∧ ((x = (2 * j : Nat) ∧ frN N j = v) ∨ (x = (2 * j + 1 : Nat) ∧ toN N j = v))
  | 0, _, v, hv, x => by simp [outsK, List.getD_eq_getElem?_getD, hv]
  | k + 1, hk, v, hv, x => by
    have ih := outsK_mem h k (by omega) v hv x
    have e := net_ends h k (by omega)
    have hl := outsK_len N k
    have step : ∀ (j : Nat), j < k + 1 ↔ j < k ∨ j = k := fun j => by omega
    have hne : frN N k ≠ toN N k := by
      have := (net_arc h k (by omega)).2.2.1
      intro e2; rw [e.1, e.2.1, e2] at this; exact this rfl
    simp only [outsK]
    rw [addAt_get (by rw [addAt_len, hl]; exact e.2.2.2), addAt_get (by rw [hl]; exact e.2.2.1), addAt_get (by rw [hl]; exact e.2.2.1)]
    constructor
    · intro hx
      split at hx
      · rename_i e1
        rw [if_neg (fun e2 => hne e2.symm)] at hx
        rcases List.mem_append.1 hx with hx | hx
        · rw [← e1] at hx
          obtain ⟨j, hj, hx⟩ := ih.1 hx
          exact ⟨j, by omega, hx⟩
        · exact ⟨k, by omega, .inr ⟨by simpa using hx, e1.symm⟩⟩
      · split at hx
        · rename_i e1
          rcases List.mem_append.1 hx with hx | hx
          · rw [← e1] at hx
            obtain ⟨j, hj, hx⟩ := ih.1 hx
            exact ⟨j, by omega, hx⟩
          · exact ⟨k, by omega, .inl ⟨by simpa using hx, e1.symm⟩⟩
        · obtain ⟨j, hj, hx⟩ := ih.1 hx
          exact ⟨j, by omega, hx⟩
    · rintro ⟨j, hj, hx⟩
      rcases (step j).1 hj with hj | rfl
      · have hx := ih.2 ⟨j, hj, hx⟩
        split
        · rename_i e1
          rw [if_neg (fun e2 => hne e2.symm), ← e1]
          exact List.mem_append_left _ hx
        · split
          · rename_i e1
            rw [← e1]
            exact List.mem_append_left _ hx
          · exact hx
      · rcases hx with ⟨hx, e1⟩ | ⟨hx, e1⟩
        · rw [if_neg (fun e2 => hne (e1.trans e2)), if_pos e1.symm, hx]
          simp
        · rw [if_pos e1.symm, hx]
          simp
theorem outsK_short {N : Net} (h : chE N = 0) : ∀ k, k ≤ N.arcs.length → ∀ v, ((outsK N k).getD v []).length ≤ 2 * k
  | 0, _, v => by
    simp only [outsK, List.getD_eq_getElem?_getD, List.getElem?_replicate]
    split <;> simp
  | k + 1, hk, v => by
    have ih := outsK_short h k (by omega)
    have e := net_ends h k (by omega)
    have hl := outsK_len N k
    simp only [outsK]
    rw [addAt_get (by rw [addAt_len, hl]; exact e.2.2.2), addAt_get (by rw [hl]; exact e.2.2.1), addAt_get (by rw [hl]; exact e.2.2.1)]
    have h1 := ih v
    have h2 := ih (frN N k)
    have h3 := ih (toN N k)
    split
    · split <;> simp only [List.length_append, List.length_cons, List.length_nil] <;> omega
    · split
      · simp only [List.length_append, List.length_cons, List.length_nil]; omega
      · omega
/-- the graph of a net, nothing sent -/
def gr0 (N : Net) : Gr := { left := N.sup, es := esK N N.arcs.length, outs := outsK N N.arcs.length }
theorem lv_zero {N : Net} {f : Nat → Int} : ∀ (k : Nat) (v : Nat), (∀ j, j < k → f j = 0) → lv N f k v = N.sup.getD v 0
  | 0, _, _ => rfl
  | k + 1, v, h => by
    simp only [lv]
    rw [lv_zero k v (fun j hj => h j (by omega)), h k (by omega)]
    simp
theorem gr0_fits {N : Net} : Fits N (gr0 N) := by
  have hg := fun j hj => esK_get N N.arcs.length j hj
  refine ⟨by simp [gr0, esK_len], rfl, fun i hi => ?_, fun i hi => ?_, fun i hi => ?_, fun v hv => ?_⟩
  · unfold Gr.toA gr0 toN frN; simp only []
    rw [(hg i hi).1, (hg i hi).2]; exact ⟨rfl, rfl⟩
  · unfold Gr.cost gr0; simp only []
    rw [(hg i hi).1, (hg i hi).2]; exact ⟨rfl, rfl⟩
  · unfold Gr.room gr0; simp only []
    rw [(hg i hi).1, (hg i hi).2]; simp
  · rw [lv_zero]
    · rfl
    · intro j hj
      unfold Gr.room gr0; simp only []
      rw [(hg j hj).2]
theorem gr0_ok {N : Net} (h : chE N = 0) : (gr0 N).Ok N.sup.length := by
  have hf := gr0_fits (N := N)
  have hl := net_len h
  have half : ∀ k, k < (gr0 N).es.length → (∃ i, i < N.arcs.length ∧ k = 2 * i) ∨ ∃ i, i < N.arcs.length ∧ k = 2 * i + 1 := fun k hk => by
    rw [hf.es] at hk
    rcases (show k = 2 * (k / 2) ∨ k = 2 * (k / 2) + 1 by omega) with e | e
    · exact .inl ⟨k / 2, by omega, e⟩
    · exact .inr ⟨k / 2, by omega, e⟩
  have hg := fun j hj => esK_get N N.arcs.length j hj
  exact
  { n1 := ⟨hl.1, hl.2.1⟩
    ll := rfl
    lo := outsK_len N _
    le := by rw [hf.es]; omega
    ev := by rw [hf.es]; omega
    to := fun k hk => by
      rcases half k hk with ⟨i, hi, rfl⟩ | ⟨i, hi, rfl⟩
      · show 0 ≤ ((esK N N.arcs.length).getD (2 * i) default).to ∧ ((esK N N.arcs.length).getD (2 * i) default).to < _
        rw [(hg i hi).1]
        exact (net_arc h i hi).2.1
      · show 0 ≤ ((esK N N.arcs.length).getD (2 * i + 1) default).to ∧ ((esK N N.arcs.length).getD (2 * i + 1) default).to < _
        rw [(hg i hi).2]
        exact (net_arc h i hi).1
    ne := fun k hk => by
      rcases half k hk with ⟨i, hi, rfl⟩ | ⟨i, hi, rfl⟩
      · rw [(hf.t0 i hi).1, (hf.fr i hi).1]
        have e := net_ends h i hi
        have := (net_arc h i hi).2.2.1
        intro e2; rw [e.1, e.2.1, e2] at this; exact this rfl
      · rw [(hf.t0 i hi).2, (hf.fr i hi).2]
        have e := net_ends h i hi
        have := (net_arc h i hi).2.2.1
        intro e2; rw [e.1, e.2.1, e2] at this; exact this rfl
    co := fun k hk => by
      rcases half k hk with ⟨i, hi, rfl⟩ | ⟨i, hi, rfl⟩
      · rw [tw_even, (hf.c0 i hi).1, (hf.c0 i hi).2]
      · rw [tw_odd, (hf.c0 i hi).1, (hf.c0 i hi).2]; omega
    cb := fun k hk => by
      rcases half k hk with ⟨i, hi, rfl⟩ | ⟨i, hi, rfl⟩
      · rw [(hf.c0 i hi).1]; exact (net_arc h i hi).2.2.2.2
      · rw [(hf.c0 i hi).2]; have := (net_arc h i hi).2.2.2.2; omega
    rm := fun k hk => by
      rcases half k hk with ⟨i, hi, rfl⟩ | ⟨i, hi, rfl⟩
      · rw [tw_even]
        have h1 := hf.r0 i hi
        have h2 := (net_arc h i hi).2.2.2.1
        have h3 : (gr0 N).room (2 * i + 1) = 0 := by show ((esK N N.arcs.length).getD (2 * i + 1) default).room = 0; rw [(hg i hi).2]
        omega
      · rw [tw_odd]
        have h1 := hf.r0 i hi
        have h2 := (net_arc h i hi).2.2.2.1
        have h3 : (gr0 N).room (2 * i + 1) = 0 := by show ((esK N N.arcs.length).getD (2 * i + 1) default).room = 0; rw [(hg i hi).2]
        omega
    lb := fun v hv => by have := net_sup h v hv; show _ ≤ N.sup.getD v 0 ∧ N.sup.getD v 0 ≤ _; omega
    o1 := fun v hv x hx => by
      obtain ⟨j, hj, hx⟩ := (outsK_mem h _ (Nat.le_refl _) v hv x).1 hx
      rw [hf.es]
      rcases hx with ⟨rfl, e⟩ | ⟨rfl, e⟩
      · refine ⟨by omega, by omega, ?_⟩
        rw [Int.toNat_natCast, (hf.fr j hj).1, e]
      · refine ⟨by omega, by omega, ?_⟩
        rw [Int.toNat_natCast, (hf.fr j hj).2, e]
    o2 := fun k hk => by
      rcases half k hk with ⟨i, hi, rfl⟩ | ⟨i, hi, rfl⟩
      · rw [(hf.fr i hi).1]
        exact (outsK_mem h _ (Nat.le_refl _) _ (net_ends h i hi).2.2.1 _).2 ⟨i, hi, .inl ⟨rfl, rfl⟩⟩
      · rw [(hf.fr i hi).2]
        exact (outsK_mem h _ (Nat.le_refl _) _ (net_ends h i hi).2.2.2 _).2 ⟨i, hi, .inr ⟨rfl, rfl⟩⟩
    o3 := fun v _ => by
      have := outsK_short h _ (Nat.le_refl _) v
      show ((outsK N N.arcs.length).getD v []).length ≤ 4096
      omega }
end Dp
end Go.Proofs.Ytmebpglkeedaoaa
