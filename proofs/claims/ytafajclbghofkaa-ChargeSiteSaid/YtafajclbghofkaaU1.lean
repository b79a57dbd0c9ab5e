/- Plain: a site and its posts: what may be used is within the limits. No program is in sight. -/
import Derived.Test.YtafajclbghofkaaT7
namespace Go.Proofs.Ytafajclbghofkaa
open Go.RowKit
set_option linter.unusedVariables false
namespace Sx
theorem mx_le {L : List Ls} {x y : Int} (hx : 0 ≤ x) (hy : 0 ≤ y) (h : ∀ l ∈ L, l.d ≤ x ∧ l.b ≤ y) : mxD L ≤ x ∧ mxB L ≤ y := by
  induction L using snoc_ind with
  | h0 => exact ⟨hx, hy⟩
  | h1 L l ih =>
    have h1 := ih (fun a ha => h a (List.mem_append_left _ ha))
    have h2 := h l (by simp)
    rw [mxD_snoc, mxB_snoc]
    omega
theorem le_mx {L : List Ls} {l : Ls} (h : l ∈ L) : l.d ≤ mxD L ∧ l.b ≤ mxB L := by
  induction L using snoc_ind with
  | h0 => cases h
  | h1 L a ih =>
    rw [mxD_snoc, mxB_snoc]
    rcases List.mem_append.1 h with h | h
    · have := ih h; omega
    · obtain rfl : l = a := by simpa using h
      omega
theorem mx_nn (L : List Ls) : 0 ≤ mxD L ∧ 0 ≤ mxB L := by
  induction L using snoc_ind with
  | h0 => exact ⟨by decide, by decide⟩
  | h1 L a ih => rw [mxD_snoc, mxB_snoc]; omega
theorem mx_sub {L M : List Ls} (h : ∀ l ∈ L, l ∈ M) : mxD L ≤ mxD M ∧ mxB L ≤ mxB M := mx_le (mx_nn M).1 (mx_nn M).2 (fun l hl => le_mx (h l hl))
theorem r_mono (c : Cl) {t t' : Int} (h : t ≤ t') : rD c t' ≤ rD c t ∧ rB c t' ≤ rB c t := mx_sub (fun l hl => by
  unfold live at hl ⊢
  rw [List.mem_filter] at hl ⊢
  refine ⟨hl.1, ?_⟩
  have := hl.2
  simp only [liveB, Bool.and_eq_true, decide_eq_true_eq] at this ⊢
  omega)
theorem r_ack (c : Cl) (nu t : Int) : rD (aI c nu) t ≤ rD c t ∧ rB (aI c nu) t ≤ rB c t := mx_sub (fun l hl => by
  unfold aI at hl
  split at hl
  · rename_i hk
    unfold live at hl ⊢
    rw [List.mem_filter] at hl ⊢
    refine ⟨(List.mem_filter.1 hl.1).1, ?_⟩
    have := hl.2
    simp only [liveB, Bool.and_eq_true, decide_eq_true_eq] at this ⊢
    omega
  · exact hl)
theorem r_grant {c : Cl} {l : Ls} {t x : Int} (hn : c.kn ≤ l.n) (hu : t < l.u) : rD { c with L := c.L ++ [l], last := x } t = max (rD c t) l.d ∧ rB { c with L := c.L ++ [l], last := x } t = max (rB c t) l.b := by
  have e : live { c with L := c.L ++ [l], last := x } t = live c t ++ [l] := by
    unfold live
    show (c.L ++ [l]).filter (liveB c.kn t) = _
    rw [List.filter_append]
    simp [liveB, hn, hu]
  unfold rD rB
  rw [e]
  exact ⟨mxD_snoc _ _, mxB_snoc _ _⟩
def sumN (f : Nat → Int) : Nat → Int
  | 0 => 0
  | k + 1 => sumN f k + f k
theorem sumN_le {f g : Nat → Int} : ∀ n, (∀ i, i < n → f i ≤ g i) → sumN f n ≤ sumN g n
  | 0, _ => Int.le_refl _
  | n + 1, h => by
    have h1 := sumN_le n (fun i hi => h i (by omega))
    have h2 := h n (by omega)
    unfold sumN
    omega
theorem sumN_congr {f g : Nat → Int} : ∀ n, (∀ i, i < n → f i = g i) → sumN f n = sumN g n
  | 0, _ => rfl
  | n + 1, h => by unfold sumN; rw [sumN_congr n (fun i hi => h i (by omega)), h n (by omega)]
theorem sumN_nn {f : Nat → Int} : ∀ n, (∀ i, i < n → 0 ≤ f i) → 0 ≤ sumN f n
  | 0, _ => Int.le_refl _
  | n + 1, h => by
    have h1 := sumN_nn n (fun i hi => h i (by omega))
    have h2 := h n (by omega)
    unfold sumN
    omega
theorem sumF_N (f : Cl → Int) (cs : List Cl) (st : Nat) (x : Int) : ∀ k, sumF f cs st x k = sumN (fun i => if i = st then x else f (cs.getD i default)) k
  | 0 => rfl
  | k + 1 => by unfold sumF sumN; rw [sumF_N f cs st x k]
/-- a station, the leases that it was granted, and its post -/
structure StI (K : Int) (c : Cl) (G : List Ls) (P : Ls) : Prop where
  g : ∀ l ∈ G, (1 ≤ l.n ∧ l.n ≤ c.last) ∧ ((0 ≤ l.d ∧ l.d ≤ 1073741824) ∧ (0 ≤ l.b ∧ l.b ≤ 1073741824)) ∧ (c.kn ≤ l.n → l ∈ c.L)
  p : P = ⟨0, 0, 0, 0⟩ ∨ P ∈ G
  k : c.kn ≤ P.n
  o : OkC K c
  l : (G.length : Int) ≤ K
theorem m_le {K : Int} {c : Cl} {G : List Ls} {P : Ls} (h : StI K c G P) {t : Int} (ht : 0 ≤ t) : (0 ≤ Po.m1 P t ∧ Po.m1 P t ≤ rD c t ∧ Po.m1 P t ≤ 1073741824) ∧ (0 ≤ Po.m2 P t ∧ Po.m2 P t ≤ rB c t ∧ Po.m2 P t ≤ 1073741824) := by
  have hnn := mx_nn (live c t)
  unfold Po.m1 Po.m2
  by_cases hu : P.u ≤ t
  · rw [if_pos hu, if_pos hu]
    exact ⟨⟨by omega, hnn.1, by omega⟩, by omega, hnn.2, by omega⟩
  · rw [if_neg hu, if_neg hu]
    rcases h.p with e | hp
    · rw [e] at hu; exact absurd ht hu
    · obtain ⟨h1, h2, h3⟩ := h.g P hp
      have hl : P ∈ live c t := by
        unfold live
        rw [List.mem_filter]
        refine ⟨h3 h.k, ?_⟩
        have := h.k
        simp only [liveB, Bool.and_eq_true, decide_eq_true_eq]
        omega
      have h4 := le_mx hl
      exact ⟨⟨h2.1.1, h4.1, h2.1.2⟩, h2.2.1, h4.2, h2.2.2⟩
/-- what holds between the things that happen -/
structure SI (K D B now N : Int) (cs : List Cl) (G : Nat → List Ls) (P : Nat → Ls) : Prop where
  len : cs.length = 4
  st : ∀ i, i < 4 → StI K (cs.getD i default) (G i) (P i)
  td : sumN (fun i => rD (cs.getD i default) now) 4 ≤ D
  tb : sumN (fun i => rB (cs.getD i default) now) 4 ≤ B
  n : N ≤ now
theorem StI.up {K K' : Int} {c : Cl} {G : List Ls} {P : Ls} (h : StI K c G P) (hK : K ≤ K') : StI K' c G P :=
  ⟨h.g, h.p, h.k, ⟨h.o.k0, h.o.k1, by have := h.o.l1; omega, h.o.ls, by have := h.o.ln; omega⟩, by have := h.l; omega⟩
section
variable {K D B now N : Int} {cs : List Cl} {G : Nat → List Ls} {P : Nat → Ls}
theorem SI.up (h : SI K D B now N cs G P) {K' : Int} (hK : K ≤ K') : SI K' D B now N cs G P := ⟨h.len, fun i hi => (h.st i hi).up hK, h.td, h.tb, h.n⟩
theorem SI.time (h : SI K D B now N cs G P) {now' : Int} (ht : now ≤ now') : SI K D B now' N cs G P :=
  ⟨h.len, h.st, Int.le_trans (sumN_le 4 (fun i _ => (r_mono _ ht).1)) h.td, Int.le_trans (sumN_le 4 (fun i _ => (r_mono _ ht).2)) h.tb, by have := h.n; omega⟩
theorem SI.oks (h : SI K D B now N cs G P) : ∀ c ∈ cs, OkC K c := fun c hc => by
  obtain ⟨i, hi, rfl⟩ := List.mem_iff_getElem.1 hc
  have := (h.st i (by rw [← h.len]; exact hi)).o
  rwa [getD_at' hi] at this
where getD_at' {L : List Cl} {i : Nat} (hi : i < L.length) : L.getD i default = L[i] := by rw [List.getD_eq_getElem?_getD, List.getElem?_eq_getElem hi]; rfl
/-- what all may use at a time -/
theorem SI.most (h : SI K D B now N cs G P) {t : Int} (ht : now ≤ t) (h0 : 0 ≤ t) : sumN (fun i => Po.m1 (P i) t) 4 ≤ D ∧ sumN (fun i => Po.m2 (P i) t) 4 ≤ B := by
  have h' := h.time ht
  exact ⟨Int.le_trans (sumN_le 4 (fun i hi => (m_le (h.st i hi) h0).1.2.1)) h'.td, Int.le_trans (sumN_le 4 (fun i hi => (m_le (h.st i hi) h0).2.2.1)) h'.tb⟩
theorem SI.take (h : SI K D B now N cs G P) {k : Nat} (hk : k < 4) {l : Ls} (hl : l ∈ G k) : SI K D B now N cs G (fun i => if i = k then Po.tk (P k) l else P i) := by
  refine ⟨h.len, fun i hi => ?_, h.td, h.tb, h.n⟩
  by_cases hik : i = k
  · subst hik
    simp only [if_true]
    have hs := h.st i hi
    unfold Po.tk
    split
    · rename_i hn
      exact ⟨hs.g, .inr hl, by have := hs.k; omega, hs.o, hs.l⟩
    · exact hs
  · simp only [hik, if_false]
    exact h.st i hi
theorem SI.code (h : SI K D B now N cs G P) {k : Nat} (hk : k < 4) {dr bk un : Int} (ha : askOk dr bk un now) : grE cs D B N k dr bk un now = 0 ∨ grE cs D B N k dr bk un now = 11 ∨ grE cs D B N k dr bk un now = 17 := by
  have hn := h.n
  unfold grE
  rw [if_pos (by rw [h.len]; omega)]
  unfold gE
  rw [if_pos ha, if_neg (by omega)]
  split
  · exact .inr (.inl rfl)
  · split
    · exact .inr (.inr rfl)
    · exact .inl rfl
theorem SI.grant (h : SI K D B now N cs G P) {k : Nat} (hk : k < 4) {dr bk un : Int} (he : grE cs D B N k dr bk un now = 0) :
    SI (K + 1) D B now (grN cs D B N k dr bk un now) (grS cs D B N k dr bk un now) (fun i => if i = k then G k ++ [grL cs D B N k dr bk un now] else G i) P := by
  obtain ⟨hs, ha⟩ := grE_in he
  have hi : k < cs.length := by rw [h.len]; exact hk
  have hE : gE cs D B N k dr bk un now = 0 := by
    have := he
    unfold grE at this
    rwa [if_pos hs] at this
  have hst := h.st k hk
  have hl : grL cs D B N k dr bk un now = ⟨(cs.getD k default).last + 1, dr, bk, un⟩ := by unfold grL; rw [if_pos he]; rfl
  have hS : grS cs D B N k dr bk un now = cs.set k { (cs.getD k default) with L := (cs.getD k default).L ++ [⟨(cs.getD k default).last + 1, dr, bk, un⟩], last := (cs.getD k default).last + 1 } := by unfold grS; rw [if_pos he]; rfl
  have hN : grN cs D B N k dr bk un now = now := by unfold grN; rw [if_pos he]
  have hr := r_grant (c := cs.getD k default) (l := ⟨(cs.getD k default).last + 1, dr, bk, un⟩) (t := now) (x := (cs.getD k default).last + 1) (by have := hst.o.k1; show (cs.getD k default).kn ≤ (cs.getD k default).last + 1; omega) (by have := ha.2.2.2; show now < un; omega)
  have hlim : ¬ (D < sumD cs now k (max (rD (cs.getD k default) now) dr) cs.length ∨ B < sumB cs now k (max (rB (cs.getD k default) now) bk) cs.length) := by
    unfold gE at hE
    rw [if_pos ha] at hE
    split at hE
    · cases hE
    · split at hE
      · cases hE
      · split at hE
        · cases hE
        · assumption
  rw [hl, hS, hN]
  refine ⟨by rw [List.length_set, h.len], fun i hi4 => ?_, ?_, ?_, Int.le_refl _⟩
  · rw [getD_set' hi]
    by_cases hik : i = k
    · subst hik
      simp only [if_true]
      refine ⟨fun l hl => ?_, ?_, hst.k, okC_grant hst.o ha, by have := hst.l; rw [List.length_append]; simp; omega⟩
      · rcases List.mem_append.1 hl with hl | hl
        · obtain ⟨h1, h2, h3⟩ := hst.g l hl
          exact ⟨⟨h1.1, by show l.n ≤ (cs.getD i default).last + 1; omega⟩, h2, fun hk => List.mem_append_left _ (h3 hk)⟩
        · obtain rfl : l = _ := by simpa using hl
          refine ⟨⟨?_, Int.le_refl _⟩, ⟨ha.1, ha.2.1⟩, fun _ => by simp⟩
          have := hst.o.k0; have := hst.o.k1
          show 1 ≤ (cs.getD i default).last + 1
          omega
      · rcases hst.p with e | hp
        · exact .inl e
        · exact .inr (List.mem_append_left _ hp)
    · simp only [hik, if_false]
      exact (h.st i hi4).up (by omega)
  · have e : sumN (fun i => rD ((cs.set k { (cs.getD k default) with L := (cs.getD k default).L ++ [⟨(cs.getD k default).last + 1, dr, bk, un⟩], last := (cs.getD k default).last + 1 }).getD i default) now) 4 = sumD cs now k (max (rD (cs.getD k default) now) dr) cs.length := by
      unfold sumD
      rw [sumF_N, h.len]
      refine sumN_congr 4 (fun i _ => ?_)
      rw [getD_set' hi]
      by_cases hik : i = k
      · subst hik; simp only [if_true]; exact hr.1
      · simp only [hik, if_false]
    rw [e]
    omega
  · have e : sumN (fun i => rB ((cs.set k { (cs.getD k default) with L := (cs.getD k default).L ++ [⟨(cs.getD k default).last + 1, dr, bk, un⟩], last := (cs.getD k default).last + 1 }).getD i default) now) 4 = sumB cs now k (max (rB (cs.getD k default) now) bk) cs.length := by
      unfold sumB
      rw [sumF_N, h.len]
      refine sumN_congr 4 (fun i _ => ?_)
      rw [getD_set' hi]
      by_cases hik : i = k
      · subst hik; simp only [if_true]; exact hr.2
      · simp only [hik, if_false]
    rw [e]
    omega
/-- Ack of what the post has: taken, just if it has something -/
theorem SI.ackE (h : SI K D B now N cs G P) {k : Nat} (hk : k < 4) : (akE cs k (P k).n = 0 ∧ 0 < (P k).n) ∨ (akE cs k (P k).n = 5 ∧ (P k).n = 0) := by
  have hst := h.st k hk
  have hin : (0 : Int) ≤ (k : Int) ∧ (k : Int) < cs.length := by rw [h.len]; omega
  unfold akE
  rw [if_pos hin]
  unfold aE
  rcases hst.p with e | hp
  · have : (P k).n = 0 := by rw [e]
    rw [this, if_neg (by omega)]
    exact .inr ⟨rfl, rfl⟩
  · obtain ⟨h1, _⟩ := hst.g _ hp
    rw [if_pos (by simpa using h1)]
    exact .inl ⟨rfl, by omega⟩
theorem SI.ack (h : SI K D B now N cs G P) {k : Nat} (hk : k < 4) : SI (K + 1) D B now N (akS cs k (P k).n) G P := by
  have hi : k < cs.length := by rw [h.len]; exact hk
  unfold akS
  by_cases he : akE cs k (P k).n = 0
  · rw [if_pos he]
    obtain ⟨_, hn⟩ := akE_in he
    simp only [Int.toNat_natCast] at hn ⊢
    have hst := h.st k hk
    refine ⟨by rw [List.length_set, h.len], fun i hi4 => ?_, ?_, ?_, h.n⟩
    · rw [getD_set' hi]
      by_cases hik : i = k
      · subst hik
        simp only [if_true]
        refine ⟨fun l hl => ?_, hst.p, ?_, okC_ackI hst.o hn.2, by have := hst.l; omega⟩
        · obtain ⟨h1, h2, h3⟩ := hst.g l hl
          unfold aI
          split
          · rename_i hkn
            refine ⟨h1, h2, fun hk2 => ?_⟩
            have hk3 : (P i).n ≤ l.n := hk2
            exact List.mem_filter.2 ⟨h3 (by omega), by simp; omega⟩
          · exact ⟨h1, h2, h3⟩
        · unfold aI
          split
          · exact Int.le_refl _
          · exact hst.k
      · simp only [hik, if_false]
        exact (h.st i hi4).up (by omega)
    · refine Int.le_trans (sumN_le 4 (fun i _ => ?_)) h.td
      rw [getD_set' hi]
      by_cases hik : i = k
      · subst hik; simp only [if_true]; exact (r_ack _ _ _).1
      · simp only [hik, if_false]; exact Int.le_refl _
    · refine Int.le_trans (sumN_le 4 (fun i _ => ?_)) h.tb
      rw [getD_set' hi]
      by_cases hik : i = k
      · subst hik; simp only [if_true]; exact (r_ack _ _ _).2
      · simp only [hik, if_false]; exact Int.le_refl _
  · rw [if_neg he]
    exact h.up (by omega)
end
theorem SI.start {D B : Int} (hD : 0 ≤ D) (hB : 0 ≤ B) : SI 0 D B 0 0 (cs0 4) (fun _ => []) (fun _ => ⟨0, 0, 0, 0⟩) :=
  ⟨rfl, fun i hi => by
    rw [cs0_at hi]
    exact ⟨fun l hl => (by cases hl), .inl rfl, Int.le_refl _, oks_cs0 1 cl0 (by simp [cs0]), by decide⟩, by show (0 : Int) + 0 + 0 + 0 + 0 ≤ D; omega, by show (0 : Int) + 0 + 0 + 0 + 0 ≤ B; omega, Int.le_refl _⟩
end Sx
end Go.Proofs.Ytafajclbghofkaa
