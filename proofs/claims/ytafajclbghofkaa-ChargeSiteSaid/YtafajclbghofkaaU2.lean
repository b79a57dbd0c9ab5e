/- A site, its posts, and the leases granted, in memory. -/
import Derived.Test.YtafajclbghofkaaU1
import Derived.Test.YtafajclbghofkaaT8
namespace Go.Proofs.Ytafajclbghofkaa
open Go.RowKit
set_option linter.unusedVariables false
/-- a block of a type -/
def Ty (W : World) (g : Nat) (t : TypeId) : Prop := ∃ cs, W.heap[g]? = some (.cells cs t (0, 0))
theorem ty_ne {W : World} {g g' : Nat} {t t' : TypeId} (h : Ty W g t) (h' : Ty W g' t') (ht : t ≠ t') : g ≠ g' := fun e => by
  obtain ⟨c, h⟩ := h
  obtain ⟨c', h'⟩ := h'
  rw [e, h'] at h
  simp at h
  exact ht h.2.symm
theorem Ty.blk {W : World} {g : Nat} {t : TypeId} {cs : List Value} (h : Blk W g t cs) : Ty W g t := ⟨_, h⟩
theorem Ty.row {W : World} {B n cap sz k : Nat} {e : TypeId} {A : Option Addr} {xs : List Value} (h : W.ownsRow B e sz (.slice A n cap) n xs) (hk : OwnB A k) : Ty W k e := by
  rcases h.2 with ⟨h2, _⟩ | ⟨g', c, cur, hv, hb, hg, r⟩
  · cases h2; obtain ⟨a, e1, _⟩ := hk; cases e1
  · cases hv
    obtain ⟨a, e1, rfl⟩ := hk
    cases e1
    exact ⟨_, hg⟩
theorem SiteAt.ty {W : World} {B gs gc cc : Nat} {A : Nat → Option Addr} {q : Nat → Nat} {cs : List Sx.Cl} {D Bk N : Int} (h : SiteAt W B gs gc cc A q cs D Bk N) {k : Nat} (hk : SOwn gs gc A cs.length k) : Ty W k 141 ∨ Ty W k 147 ∨ Ty W k 43 := by
  rcases hk with rfl | rfl | ⟨i, hi, hk⟩
  · exact .inl (.blk h.s)
  · obtain ⟨c, hc, _⟩ := h.a
    exact .inr (.inl ⟨c, hc⟩)
  · exact .inr (.inr (.row (h.r i hi) hk))
theorem SiteAt.not_ty {W : World} {B gs gc cc : Nat} {A : Nat → Option Addr} {q : Nat → Nat} {cs : List Sx.Cl} {D Bk N : Int} (h : SiteAt W B gs gc cc A q cs D Bk N) {g : Nat} {t : TypeId} (hg : Ty W g t) (h1 : t ≠ 141) (h2 : t ≠ 147) (h3 : t ≠ 43) : ¬ SOwn gs gc A cs.length g := fun hk => by
  rcases h.ty hk with e | e | e
  · exact ty_ne hg e h1 rfl
  · exact ty_ne hg e h2 rfl
  · exact ty_ne hg e h3 rfl
def ptrs (pb : Nat → Nat) : List Value := [.pointer (some ⟨pb 0, 0, none⟩), .pointer (some ⟨pb 1, 0, none⟩), .pointer (some ⟨pb 2, 0, none⟩), .pointer (some ⟨pb 3, 0, none⟩)]
def gsl (Ga : Nat → Option Addr) (gq : Nat → Nat) (G : Nat → List Ls) : List Value := [.slice (Ga 0) (G 0).length (gq 0), .slice (Ga 1) (G 1).length (gq 1), .slice (Ga 2) (G 2).length (gq 2), .slice (Ga 3) (G 3).length (gq 3)]
theorem gsl_at (Ga : Nat → Option Addr) (gq : Nat → Nat) (G : Nat → List Ls) {k : Nat} (hk : k < 4) : (gsl Ga gq G)[k]? = some (.slice (Ga k) (G k).length (gq k)) := by
  have : k = 0 ∨ k = 1 ∨ k = 2 ∨ k = 3 := by omega
  rcases this with rfl | rfl | rfl | rfl <;> rfl
theorem ptrs_at (pb : Nat → Nat) {k : Nat} (hk : k < 4) : (ptrs pb)[k]? = some (.pointer (some ⟨pb k, 0, none⟩)) := by
  have : k = 0 ∨ k = 1 ∨ k = 2 ∨ k = 3 := by omega
  rcases this with rfl | rfl | rfl | rfl <;> rfl
/-- the posts, and the leases granted -/
structure UsP (w : World) (gp cp g10 : Nat) (pb : Nat → Nat) (P : Nat → Ls) (Ga : Nat → Option Addr) (gq : Nat → Nat) (G : Nat → List Ls) (W : World) : Prop where
  b : Below w.heap.size w W
  row : W.ownsRow w.heap.size 37 1 (.slice (some ⟨gp, 0, none⟩) 4 cp) 4 (ptrs pb)
  p : ∀ i, i < 4 → PostAt W (pb i) (P i)
  pd : ∀ i j, i < 4 → j < 4 → i ≠ j → pb i ≠ pb j
  pg : ∀ i, i < 4 → w.heap.size ≤ pb i
  g : Blk W g10 108 (gsl Ga gq G)
  gg : w.heap.size ≤ g10
  gr : ∀ i, i < 4 → LRow w.heap.size (Ga i) (gq i) (G i) W
  gd : ∀ i j, i < 4 → j < 4 → i ≠ j → ∀ k, OwnB (Ga i) k → ¬ OwnB (Ga j) k
structure UsI (w : World) (gs gc gp cp g10 : Nat) (pb : Nat → Nat) (A : Nat → Option Addr) (q : Nat → Nat) (cs : List Sx.Cl) (D Bk N : Int) (P : Nat → Ls) (Ga : Nat → Option Addr) (gq : Nat → Nat) (G : Nat → List Ls) (W : World) : Prop where
  u : UsP w gp cp g10 pb P Ga gq G W
  s : SiteAt W w.heap.size gs gc 4 A q cs D Bk N
  n : cs.length = 4
  sg : ∀ i j, i < 4 → j < 4 → ∀ k, OwnB (A i) k → ¬ OwnB (Ga j) k
section
variable {w W W1 : World} {gs gc gp cp g10 : Nat} {pb : Nat → Nat} {A : Nat → Option Addr} {q : Nat → Nat} {cs : List Sx.Cl} {D Bk N : Int} {P : Nat → Ls} {Ga : Nat → Option Addr} {gq : Nat → Nat} {G : Nat → List Ls}
theorem UsP.touch {S : Nat → Prop} (h : UsP w gp cp g10 pb P Ga gq G W) (ht : Touch S W W1) (hb : ∀ k, S k → w.heap.size ≤ k) (h1 : ∀ k t, Ty W k t → (t = 37 ∨ t = 124 ∨ t = 108) → ¬ S k) (h2 : ∀ i, i < 4 → ∀ k, OwnB (Ga i) k → ¬ S k) : UsP w gp cp g10 pb P Ga gq G W1 :=
  ⟨Below.touch h.b h.b.size ht hb, rowE_keep h.row ht (fun k hk => h1 k 37 (.row h.row hk) (.inl rfl)), fun i hi => (h.p i hi).touch ht (h1 _ 124 (.blk (h.p i hi)) (.inr (.inl rfl))), h.pd, h.pg, h.g.touch ht (h1 _ 108 (.blk h.g) (.inr (.inr rfl))), h.gg, fun i hi => rowE_keep (h.gr i hi) ht (fun k hk => h2 i hi k hk), h.gd⟩
theorem UsI.bel (h : UsI w gs gc gp cp g10 pb A q cs D Bk N P Ga gq G W) (hb : Below W.heap.size W W1) : UsI w gs gc gp cp g10 pb A q cs D Bk N P Ga gq G W1 :=
  ⟨h.u.touch (Touch.of_below (S := fun _ => False) hb) (fun _ e => e.elim) (fun _ _ _ _ e => e) (fun _ _ _ _ e => e), h.s.below hb, h.n, h.sg⟩
/-- the site has done something -/
theorem UsI.site (h : UsI w gs gc gp cp g10 pb A q cs D Bk N P Ga gq G W) {A2 : Nat → Option Addr} {q2 : Nat → Nat} {cs2 : List Sx.Cl} {N2 : Int} (hs : SiteAt W1 w.heap.size gs gc 4 A2 q2 cs2 D Bk N2) (hn : cs2.length = 4) (ht : Touch (SOwn gs gc A cs.length) W W1) (hA : ∀ i k, OwnB (A2 i) k → OwnB (A i) k ∨ W.heap.size ≤ k) :
    UsI w gs gc gp cp g10 pb A2 q2 cs2 D Bk N2 P Ga gq G W1 := by
  have hrow : ∀ i, i < 4 → ∀ k, OwnB (Ga i) k → ¬ SOwn gs gc A cs.length k := fun i hi k hk hs2 => by
    have hty := Ty.row (h.u.gr i hi) hk
    rcases hs2 with e | e | ⟨j, hj, e⟩
    · subst e; exact ty_ne hty (.blk h.s.s) (by decide) rfl
    · subst e
      obtain ⟨c, hc, _⟩ := h.s.a
      exact ty_ne hty ⟨c, hc⟩ (by decide) rfl
    · exact h.sg j i (by rw [← h.n]; exact hj) hi k e hk
  refine ⟨h.u.touch ht (fun k hk => h.s.own_ge hk) (fun k t hty ht2 => h.s.not_ty hty (by rcases ht2 with rfl | rfl | rfl <;> decide) (by rcases ht2 with rfl | rfl | rfl <;> decide) (by rcases ht2 with rfl | rfl | rfl <;> decide)) hrow, hs, hn, fun i j hi hj k h1 h2 => ?_⟩
  rcases hA i k h1 with h3 | h3
  · exact h.sg i j hi hj k h3 h2
  · have := (rowE_lt (h.u.gr j hj) h2).2; omega
/-- a post has taken a lease -/
theorem UsI.post (h : UsI w gs gc gp cp g10 pb A q cs D Bk N P Ga gq G W) {k : Nat} (hk : k < 4) {p : Ls} (hp : PostAt W1 (pb k) p) (ht : Touch (· = pb k) W W1) : UsI w gs gc gp cp g10 pb A q cs D Bk N (fun i => if i = k then p else P i) Ga gq G W1 := by
  have hty : Ty W (pb k) 124 := .blk (h.u.p k hk)
  refine ⟨⟨Below.touch h.u.b h.u.b.size ht (fun x e => by rw [e]; exact h.u.pg k hk), rowE_keep h.u.row ht (fun x hx e => ty_ne (.row h.u.row hx) hty (by decide) e), fun i hi => ?_, h.u.pd, h.u.pg, h.u.g.touch ht (fun e => ty_ne (.blk h.u.g) hty (by decide) e), h.u.gg, fun i hi => rowE_keep (h.u.gr i hi) ht (fun x hx e => ty_ne (.row (h.u.gr i hi) hx) hty (by decide) e), h.u.gd⟩, h.s.touch ht (fun x hx e => ?_), h.n, h.sg⟩
  · by_cases hik : i = k
    · subst hik; simp only [if_true]; exact hp
    · simp only [hik, if_false]
      exact (h.u.p i hi).touch ht (h.u.pd i k hi hk hik)
  · subst e
    exact h.s.not_ty hty (by decide) (by decide) (by decide) hx
/-- a lease is put to those granted -/
theorem UsI.put (h : UsI w gs gc gp cp g10 pb A q cs D Bk N P Ga gq G W) {k : Nat} (hk : k < 4) {A2 : Option Addr} {c2 : Nat} {L2 : List Ls} (ht : Touch (fun x => OwnB (Ga k) x) W W1) (hr : LRow w.heap.size A2 c2 L2 W1) (hA : ∀ x, OwnB A2 x → OwnB (Ga k) x ∨ W.heap.size ≤ x) :
    UsI w gs gc gp cp g10 pb A q cs D Bk N P (fun i => if i = k then A2 else Ga i) (fun i => if i = k then c2 else gq i) (fun i => if i = k then L2 else G i) (W1.setCell ⟨g10, k, none⟩ (.slice A2 L2.length c2)) := by
  have hS : SiteAt W1 w.heap.size gs gc 4 A q cs D Bk N := h.s.touch ht (fun x hx e => by
    have hty := Ty.row (h.u.gr k hk) e
    rcases hx with e2 | e2 | ⟨j, hj, e2⟩
    · subst e2; exact ty_ne hty (.blk h.s.s) (by decide) rfl
    · subst e2
      obtain ⟨c, hc, _⟩ := h.s.a
      exact ty_ne hty ⟨c, hc⟩ (by decide) rfl
    · exact h.sg j k (by rw [← h.n]; exact hj) hk x e2 e)
  have hb1 : Below w.heap.size w W1 := Below.touch h.u.b h.u.b.size ht (fun x hx => (rowE_lt (h.u.gr k hk) hx).1)
  have hno : ∀ x t, Ty W x t → t ≠ 43 → ¬ OwnB (Ga k) x := fun x t hx ht2 e => ty_ne hx (.row (h.u.gr k hk) e) ht2 rfl
  have hrow1 : W1.ownsRow w.heap.size 37 1 (.slice (some ⟨gp, 0, none⟩) 4 cp) 4 (ptrs pb) := rowE_keep h.u.row ht (fun x hx => hno x 37 (.row h.u.row hx) (by decide))
  have hp1 : ∀ i, i < 4 → PostAt W1 (pb i) (P i) := fun i hi => (h.u.p i hi).touch ht (hno _ 124 (.blk (h.u.p i hi)) (by decide))
  have hg1 : Blk W1 g10 108 (gsl Ga gq G) := h.u.g.touch ht (hno _ 108 (.blk h.u.g) (by decide))
  have hgr1 : ∀ i, i < 4 → i ≠ k → LRow w.heap.size (Ga i) (gq i) (G i) W1 := fun i hi hik => rowE_keep (h.u.gr i hi) ht (fun x hx e => h.u.gd i k hi hk hik x hx e)
  have ht2 := (Touch.refl (fun x => x = g10) W1).put k (.slice A2 L2.length c2)
  have hno2 : ∀ x t, Ty W1 x t → t ≠ 108 → ¬ x = g10 := fun x t hx h1 e => ty_ne hx (.blk hg1) h1 e
  refine ⟨⟨hb1.setCell h.u.gg _, rowE_keep hrow1 ht2 (fun x hx => hno2 x 37 (.row hrow1 hx) (by decide)), fun i hi => (hp1 i hi).touch ht2 (hno2 _ 124 (.blk (hp1 i hi)) (by decide)), h.u.pd, h.u.pg, ?_, h.u.gg, fun i hi => ?_, fun i j hi hj hij x h1 h2 => ?_⟩, hS.touch ht2 (fun x hx e => hS.not_ty (.blk hg1) (by decide) (by decide) (by decide) (by rw [← e]; exact hx)), h.n, fun i j hi hj x h1 h2 => ?_⟩
  · have h1 := hg1.setCell k (.slice A2 L2.length c2)
    have e : (gsl Ga gq G).set k (.slice A2 L2.length c2) = gsl (fun i => if i = k then A2 else Ga i) (fun i => if i = k then c2 else gq i) (fun i => if i = k then L2 else G i) := by
      have : k = 0 ∨ k = 1 ∨ k = 2 ∨ k = 3 := by omega
      rcases this with rfl | rfl | rfl | rfl <;> rfl
    rw [← e]
    exact h1
  · by_cases hik : i = k
    · subst hik
      simp only [if_true]
      exact rowE_keep hr ht2 (fun x hx => hno2 x 43 (.row hr hx) (by decide))
    · simp only [hik, if_false]
      exact rowE_keep (hgr1 i hi hik) ht2 (fun x hx => hno2 x 43 (.row (hgr1 i hi hik) hx) (by decide))
  · by_cases hik : i = k
    · have hjk : j ≠ k := by omega
      simp only [hik, hjk, if_true, if_false] at h1 h2
      rcases hA x h1 with h3 | h3
      · exact h.u.gd k j hk hj (by omega) x h3 h2
      · have := (rowE_lt (h.u.gr j hj) h2).2; omega
    · by_cases hjk : j = k
      · simp only [hik, hjk, if_true, if_false] at h1 h2
        rcases hA x h2 with h3 | h3
        · exact h.u.gd i k hi hk hik x h1 h3
        · have := (rowE_lt (h.u.gr i hi) h1).2; omega
      · simp only [hik, hjk, if_false] at h1 h2
        exact h.u.gd i j hi hj hij x h1 h2
  · by_cases hjk : j = k
    · simp only [hjk, if_true] at h2
      rcases hA x h2 with h3 | h3
      · exact h.sg i k hi hk x h1 h3
      · have := h.s.row_lt (by rw [h.n]; exact hi) h1; omega
    · simp only [hjk, if_false] at h2
      exact h.sg i j hi hj x h1 h2
end
end Go.Proofs.Ytafajclbghofkaa
