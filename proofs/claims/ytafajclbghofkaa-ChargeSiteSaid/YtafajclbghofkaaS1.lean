/- Plain: sites, their stations, and what is done with them. No program is in sight. -/
import Derived.Test.YtafajclbghofkaaC1
namespace Go.Proofs.Ytafajclbghofkaa
open Go.RowKit
set_option linter.unusedVariables false
instance : Inhabited Ls := ⟨⟨0, 0, 0, 0⟩⟩
namespace Sx
/-- what a site knows of a station -/
structure Cl where
  L : List Ls
  last : Int
  kn : Int
instance : Inhabited Cl := ⟨⟨[], 0, 0⟩⟩
def liveB (kn t : Int) (l : Ls) : Bool := decide (kn ≤ l.n) && decide (t < l.u)
def live (c : Cl) (t : Int) : List Ls := c.L.filter (liveB c.kn t)
def mxD (L : List Ls) : Int := L.foldl (fun m l => max m l.d) 0
def mxB (L : List Ls) : Int := L.foldl (fun m l => max m l.b) 0
theorem mxD_snoc (L : List Ls) (l : Ls) : mxD (L ++ [l]) = max (mxD L) l.d := by unfold mxD; rw [List.foldl_append]; rfl
theorem mxB_snoc (L : List Ls) (l : Ls) : mxB (L ++ [l]) = max (mxB L) l.b := by unfold mxB; rw [List.foldl_append]; rfl
def okL (L : List Ls) : Prop := ∀ l ∈ L, (0 ≤ l.d ∧ l.d ≤ 1073741824) ∧ (0 ≤ l.b ∧ l.b ≤ 1073741824)
theorem snoc_ind {P : List Ls → Prop} (h0 : P []) (h1 : ∀ L l, P L → P (L ++ [l])) (L : List Ls) : P L := by
  have h : ∀ n (L : List Ls), L.length = n → P L := by
    intro n
    induction n with
    | zero => intro L hl; rw [List.eq_nil_of_length_eq_zero hl]; exact h0
    | succ n ih =>
      intro L hl
      rcases List.eq_nil_or_concat L with rfl | ⟨L', l, rfl⟩
      · cases hl
      · rw [List.concat_eq_append] at hl ⊢
        exact h1 L' l (ih L' (by simpa using hl))
  exact h _ L rfl
theorem mx_bd {L : List Ls} (h : okL L) : (0 ≤ mxD L ∧ mxD L ≤ 1073741824) ∧ (0 ≤ mxB L ∧ mxB L ≤ 1073741824) := by
  induction L using snoc_ind with
  | h0 => exact ⟨⟨by decide, by decide⟩, by decide, by decide⟩
  | h1 L l ih =>
    have := ih (fun x hx => h x (List.mem_append_left _ hx))
    have := h l (by simp)
    rw [mxD_snoc, mxB_snoc]
    omega
theorem okL_live {c : Cl} (h : okL c.L) (t : Int) : okL (live c t) := fun l hl => h l (List.mem_filter.1 hl).1
/-- of the first k leases those that are not over -/
def lv (c : Cl) (t : Int) (k : Nat) : List Ls := (c.L.take k).filter (liveB c.kn t)
theorem lv_zero (c : Cl) (t : Int) : lv c t 0 = [] := rfl
theorem lv_succ (c : Cl) (t : Int) (k : Nat) (hk : k < c.L.length) : lv c t (k + 1) = if liveB c.kn t (c.L.getD k default) = true then lv c t k ++ [c.L.getD k default] else lv c t k := by
  unfold lv
  have hg : c.L.getD k default = c.L[k] := by rw [List.getD_eq_getElem?_getD, List.getElem?_eq_getElem hk]; rfl
  rw [List.take_succ_eq_append_getElem hk, List.filter_append, hg]
  cases h : liveB c.kn t c.L[k] <;> simp [h]
theorem lv_all (c : Cl) (t : Int) : lv c t c.L.length = live c t := by unfold lv live; rw [List.take_length]
theorem lv_len (c : Cl) (t : Int) (k : Nat) : (lv c t k).length ≤ k := by
  unfold lv
  exact Nat.le_trans (List.length_filter_le _ _) (by rw [List.length_take]; omega)
theorem okL_lv {c : Cl} (h : okL c.L) (t : Int) (k : Nat) : okL (lv c t k) := fun l hl => h l (List.mem_of_mem_take (List.mem_filter.1 hl).1)
def rD (c : Cl) (t : Int) : Int := mxD (live c t)
def rB (c : Cl) (t : Int) : Int := mxB (live c t)
def many (c : Cl) (t : Int) : Nat := (live c t).length
/-- what all stations have together, among the first k: of station st it is x -/
def sumF (f : Cl → Int) (cs : List Cl) (st : Nat) (x : Int) : Nat → Int
  | 0 => 0
  | k + 1 => sumF f cs st x k + (if k = st then x else f (cs.getD k default))
def sumD (cs : List Cl) (t : Int) (st : Nat) (x : Int) (k : Nat) : Int := sumF (fun c => rD c t) cs st x k
def sumB (cs : List Cl) (t : Int) (st : Nat) (x : Int) (k : Nat) : Int := sumF (fun c => rB c t) cs st x k
theorem sumF_bd {f : Cl → Int} {cs : List Cl} {st : Nat} {x : Int} (hx : 0 ≤ x ∧ x ≤ 1073741824) (k : Nat) (hk : k ≤ cs.length) (h : ∀ c ∈ cs, 0 ≤ f c ∧ f c ≤ 1073741824) : 0 ≤ sumF f cs st x k ∧ sumF f cs st x k ≤ k * 1073741824 := by
  induction k with
  | zero => simp [sumF]
  | succ k ih =>
    have h1 := ih (by omega)
    have h2 := h (cs.getD k default) (by rw [List.getD_eq_getElem?_getD, List.getElem?_eq_getElem (by omega)]; exact List.getElem_mem _)
    have e : ((k + 1 : Nat) : Int) * 1073741824 = (k : Int) * 1073741824 + 1073741824 := by rw [Int.natCast_add, Int.add_mul]; rfl
    rw [e]
    unfold sumF
    split <;> omega
def P30 : Int := 1073741824
/-- what is asked of a lease -/
def askOk (dr bk un now : Int) : Prop := (0 ≤ dr ∧ dr ≤ 1073741824) ∧ (0 ≤ bk ∧ bk ≤ 1073741824) ∧ (0 ≤ now ∧ now ≤ 1099511627776) ∧ (now + 1 ≤ un ∧ un ≤ now + 100000)
instance (dr bk un now : Int) : Decidable (askOk dr bk un now) := by unfold askOk; infer_instance
/-- what Grant says of station s -/
def gE (cs : List Cl) (D B N : Int) (s : Nat) (dr bk un now : Int) : Int :=
  if askOk dr bk un now then if now < N then 14 else if 64 ≤ many (cs.getD s default) now then 11
    else if D < sumD cs now s (max (rD (cs.getD s default) now) dr) cs.length ∨ B < sumB cs now s (max (rB (cs.getD s default) now) bk) cs.length then 17 else 0 else 2
def gLs (cs : List Cl) (s : Nat) (dr bk un : Int) : Ls := ⟨(cs.getD s default).last + 1, dr, bk, un⟩
def gS (cs : List Cl) (s : Nat) (dr bk un : Int) : List Cl := cs.set s { (cs.getD s default) with L := (cs.getD s default).L ++ [gLs cs s dr bk un], last := (cs.getD s default).last + 1 }
/-- what Ack says of station s -/
def aE (cs : List Cl) (s : Nat) (nu : Int) : Int := if 1 ≤ nu ∧ nu ≤ (cs.getD s default).last then 0 else 5
def aI (c : Cl) (nu : Int) : Cl := if c.kn < nu then { c with L := c.L.filter (fun l => !decide (l.n < nu)), kn := nu } else c
def aR (c : Cl) (nu : Int) : Cl := { c with kn := max c.kn nu }
/-- the site and the reference say the same -/
def Rel (a b : Cl) : Prop := a.last = b.last ∧ a.kn = b.kn ∧ a.L = b.L.filter (fun l => decide (b.kn ≤ l.n))
structure OkC (k : Int) (c : Cl) : Prop where
  k0 : 0 ≤ c.kn
  k1 : c.kn ≤ c.last
  l1 : c.last ≤ k
  ls : okL c.L
  ln : (c.L.length : Int) ≤ k
theorem live_rel {a b : Cl} (h : Rel a b) (t : Int) : live a t = live b t := by
  unfold live
  rw [h.2.2, h.2.1, List.filter_filter]
  congr 1
  funext l
  unfold liveB
  cases decide (b.kn ≤ l.n) <;> simp
theorem r_rel {a b : Cl} (h : Rel a b) (t : Int) : rD a t = rD b t ∧ rB a t = rB b t ∧ many a t = many b t := by
  unfold rD rB many; rw [live_rel h]; exact ⟨rfl, rfl, rfl⟩
theorem rel_grant {a b : Cl} (h : Rel a b) {n : Int} (hn : b.kn ≤ n) (l : Ls) (hl : l.n = n) (x : Int) : Rel { a with L := a.L ++ [l], last := x } { b with L := b.L ++ [l], last := x } := by
  refine ⟨rfl, h.2.1, ?_⟩
  show a.L ++ [l] = (b.L ++ [l]).filter _
  rw [List.filter_append, ← h.2.2]
  simp [hl, hn]
theorem rel_ack {a b : Cl} (h : Rel a b) (nu : Int) : Rel (aI a nu) (aR b nu) := by
  unfold aI aR
  by_cases hn : a.kn < nu
  · rw [if_pos hn]
    have e : max b.kn nu = nu := by have := h.2.1; omega
    refine ⟨h.1, e.symm, ?_⟩
    show a.L.filter _ = b.L.filter _
    rw [h.2.2, List.filter_filter]
    congr 1
    funext l
    have h2 := h.2.1
    rw [Bool.eq_iff_iff]
    simp only [Bool.and_eq_true, Bool.not_eq_true', decide_eq_false_iff_not, decide_eq_true_eq]
    omega
  · rw [if_neg hn]
    have e : max b.kn nu = b.kn := by have := h.2.1; omega
    refine ⟨h.1, h.2.1.trans e.symm, ?_⟩
    show a.L = b.L.filter _
    rw [h.2.2]
    simp only [e]
/-- lists of stations that say the same -/
def Rels (xs ys : List Cl) : Prop := xs.length = ys.length ∧ ∀ i, i < xs.length → Rel (xs.getD i default) (ys.getD i default)
theorem getD_set' {cs : List Cl} {i : Nat} (hi : i < cs.length) (c : Cl) (j : Nat) : (cs.set i c).getD j default = if j = i then c else cs.getD j default := by
  rw [List.getD_eq_getElem?_getD, List.getElem?_set]
  by_cases h : i = j
  · subst h; simp [hi]
  · rw [if_neg h, if_neg (fun e => h e.symm), ← List.getD_eq_getElem?_getD]
theorem Rels.set {xs ys : List Cl} (h : Rels xs ys) {i : Nat} (hi : i < xs.length) {a b : Cl} (hr : Rel a b) : Rels (xs.set i a) (ys.set i b) := by
  refine ⟨by simp [h.1], fun j hj => ?_⟩
  rw [getD_set' hi, getD_set' (by rw [← h.1]; exact hi)]
  split
  · exact hr
  · exact h.2 j (by simpa using hj)
theorem sumF_congr {f : Cl → Int} {xs ys : List Cl} {s : Nat} {x : Int} (k : Nat) (hk : k ≤ xs.length) (h : ∀ i, i < xs.length → f (xs.getD i default) = f (ys.getD i default)) : sumF f xs s x k = sumF f ys s x k := by
  induction k with
  | zero => rfl
  | succ k ih => unfold sumF; rw [ih (by omega), h k (by omega)]
theorem gE_rel {xs ys : List Cl} (h : Rels xs ys) {s : Nat} (hs : s < xs.length) (D B N dr bk un now : Int) : gE xs D B N s dr bk un now = gE ys D B N s dr bk un now := by
  unfold gE sumD sumB
  obtain ⟨h1, h2, h3⟩ := r_rel (h.2 s hs) now
  rw [h1, h2, h3, ← h.1, sumF_congr xs.length (Nat.le_refl _) (fun i hi => (r_rel (h.2 i hi) now).1), sumF_congr xs.length (Nat.le_refl _) (fun i hi => (r_rel (h.2 i hi) now).2.1)]
end Sx
end Go.Proofs.Ytafajclbghofkaa
