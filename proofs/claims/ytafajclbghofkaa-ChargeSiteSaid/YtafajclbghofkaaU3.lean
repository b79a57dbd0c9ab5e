/- The law of a site and its posts: the posts are made. -/
import Derived.Test.YtafajclbghofkaaU2
import Derived.Test.YtafajclbghofkaaB1
import Derived.Deep.DeepCutAuto
import Derived.Deep.CutBlock
namespace Go.Proofs.Ytafajclbghofkaa
open Go.RowKit
set_option linter.unusedVariables false
theorem info37 : (Try.prog.info? 37).map (fun i => (i.zero, i.size, i.bytes)) = some (some (.pointer none), 1, 8) := by kernel_rfl
def ptrL (pb : Nat → Nat) (k : Nat) : List Value := (List.range k).map (fun i => Value.pointer (some ⟨pb i, 0, none⟩))
theorem ptrL_len (pb : Nat → Nat) (k : Nat) : (ptrL pb k).length = k := by simp [ptrL]
theorem ptrL_next (pb : Nat → Nat) (k g : Nat) : ptrL (fun i => if i = k then g else pb i) (k + 1) = ptrL pb k ++ [.pointer (some ⟨g, 0, none⟩)] := by
  unfold ptrL
  rw [List.range_succ, List.map_append]
  congr 1
  · apply List.map_congr_left
    intro i hi
    have : i < k := List.mem_range.1 hi
    simp [show i ≠ k by omega]
  · simp
theorem ptrL_one (pb : Nat → Nat) (k : Nat) : ∀ u ∈ ptrL pb k, u.oneCell' = true := by
  intro u hu
  obtain ⟨i, _, rfl⟩ := List.mem_map.1 hu
  rfl
/-- while the posts are made -/
structure LpI (w : World) (gs gc g10 : Nat) (D Bk : Int) (k : Nat) (A : Option Addr) (c : Nat) (pb : Nat → Nat) (W : World) : Prop where
  b : Below w.heap.size w W
  s : SiteAt W w.heap.size gs gc 4 (fun _ => none) (fun _ => 0) (Sx.cs0 4) D Bk 0
  g : Blk W g10 108 [.slice none 0 0, .slice none 0 0, .slice none 0 0, .slice none 0 0]
  row : W.ownsRow w.heap.size 37 1 (.slice A k c) k (ptrL pb k)
  p : ∀ i, i < k → PostAt W (pb i) ⟨0, 0, 0, 0⟩
  pd : ∀ i j, i < k → j < k → i ≠ j → pb i ≠ pb j
  pg : ∀ i, i < k → w.heap.size ≤ pb i
theorem LpI.bel {w W W1 : World} {gs gc g10 : Nat} {D Bk : Int} {k : Nat} {A : Option Addr} {c : Nat} {pb : Nat → Nat} (h : LpI w gs gc g10 D Bk k A c pb W) (hb : Below W.heap.size W W1) : LpI w gs gc g10 D Bk k A c pb W1 :=
  ⟨bel_bel h.b hb, h.s.below hb, blk_bel hb h.g, rowE_below h.row hb, fun i hi => blk_bel hb (h.p i hi), h.pd, h.pg⟩
/-- one more post -/
theorem LpI.next {w W W1 W2 : World} {gs gc g10 g : Nat} {D Bk : Int} {k : Nat} {A A2 : Option Addr} {c c2 : Nat} {pb : Nat → Nat} (h : LpI w gs gc g10 D Bk k A c pb W) (hb : Below W.heap.size W W1) (hp : PostAt W1 g ⟨0, 0, 0, 0⟩) (hg : W.heap.size ≤ g)
    (ht : Touch (fun x => OwnB A x) W1 W2) (hr : W2.ownsRow w.heap.size 37 1 (.slice A2 (k + 1) c2) (k + 1) (ptrL pb k ++ [.pointer (some ⟨g, 0, none⟩)])) : LpI w gs gc g10 D Bk (k + 1) A2 c2 (fun i => if i = k then g else pb i) W2 := by
  have h1 := h.bel hb
  have hno : ∀ x t, Ty W1 x t → t ≠ 37 → ¬ OwnB A x := fun x t hx ht2 e => ty_ne hx (.row h1.row e) ht2 rfl
  have hbb := h.b.size
  refine ⟨Below.touch h1.b h1.b.size ht (fun x hx => (rowE_lt h1.row hx).1), h1.s.touch ht (fun x hx e => h1.s.not_ty (.row h1.row e) (by decide) (by decide) (by decide) hx), h1.g.touch ht (hno _ 108 (.blk h1.g) (by decide)), by rw [ptrL_next]; exact hr, fun i hi => ?_, fun i j hi hj hij => ?_, fun i hi => ?_⟩
  · by_cases hik : i = k
    · subst hik; simp only [if_true]
      exact hp.touch ht (hno _ 124 (.blk hp) (by decide))
    · simp only [hik, if_false]
      exact (h1.p i (by omega)).touch ht (hno _ 124 (.blk (h1.p i (by omega))) (by decide))
  · have hlt : ∀ i, i < k → pb i < W.heap.size := fun i hi => (h.p i hi).lt
    by_cases hik : i = k
    · have hjk : j ≠ k := by omega
      have := hlt j (by omega)
      simp only [hik, hjk, if_true, if_false]; omega
    · by_cases hjk : j = k
      · have := hlt i (by omega)
        simp only [hik, hjk, if_true, if_false]; omega
      · simp only [hik, hjk, if_false]
        exact h.pd i j (by omega) (by omega) hij
  · by_cases hik : i = k
    · simp only [hik, if_true]; omega
    · simp only [hik, if_false]
      exact h.pg i (by omega)
/-- all posts are made -/
theorem LpI.done {w W : World} {gs gc g10 : Nat} {D Bk : Int} {A : Option Addr} {c : Nat} {pb : Nat → Nat} (h : LpI w gs gc g10 D Bk 4 A c pb W) (hg : w.heap.size ≤ g10) : ∃ gp, A = some ⟨gp, 0, none⟩ ∧ UsI w gs gc gp c g10 pb (fun _ => none) (fun _ => 0) (Sx.cs0 4) D Bk 0 (fun _ => ⟨0, 0, 0, 0⟩) (fun _ => none) (fun _ => 0) (fun _ => []) W := by
  have hno : ∀ j : Nat, ¬ OwnB none j := fun j ⟨a, e, _⟩ => by cases e
  rcases h.row.2 with ⟨h2, hx⟩ | ⟨g, cp, cur, hv, hb, hgc, hnc, hcm, hcs, htk⟩
  · omega
  · cases hv
    exact ⟨g, rfl, ⟨h.b, h.row, h.p, h.pd, h.pg, h.g, hg, fun i hi => row_nil _ _, fun i j _ _ _ x hx => absurd hx (hno x)⟩, h.s, rfl, fun i j _ _ x hx => absurd hx (hno x)⟩
/-- what may happen, by small numbers -/
structure Us where
  d : Int
  s : Int
  dr : Int
  bk : Int
  fo : Int
  at_ : Int
instance : Inhabited Us := ⟨⟨0, 0, 0, 0, 0, 0⟩⟩
def U8 (x : Int) : Prop := 0 ≤ x ∧ x ≤ 255
structure Us.Ok (u : Us) : Prop where
  d : U8 u.d
  s : U8 u.s
  dr : U8 u.dr
  bk : U8 u.bk
  fo : U8 u.fo
  at_ : U8 u.at_
def UseAt (w : World) (ad : Addr) (u : Us) : Prop := w.cell? ad = some (.int .u8 u.d) ∧ w.cell? ⟨ad.block, ad.off + 1, none⟩ = some (.int .u8 u.s) ∧ w.cell? ⟨ad.block, ad.off + 2, none⟩ = some (.int .u8 u.dr) ∧ w.cell? ⟨ad.block, ad.off + 3, none⟩ = some (.int .u8 u.bk) ∧ w.cell? ⟨ad.block, ad.off + 4, none⟩ = some (.int .u8 u.fo) ∧ w.cell? ⟨ad.block, ad.off + 5, none⟩ = some (.int .u8 u.at_)
theorem UseAt.below {w w1 : World} {ad : Addr} {u : Us} (h : UseAt w ad u) (hb : Below w.heap.size w w1) : UseAt w1 ad u := by
  have hl := World.block_lt_of_cell? _ _ h.1
  exact ⟨(hb.cell hl).trans h.1, (hb.cell (p := ⟨_, _, none⟩) hl).trans h.2.1, (hb.cell (p := ⟨_, _, none⟩) hl).trans h.2.2.1, (hb.cell (p := ⟨_, _, none⟩) hl).trans h.2.2.2.1, (hb.cell (p := ⟨_, _, none⟩) hl).trans h.2.2.2.2.1, (hb.cell (p := ⟨_, _, none⟩) hl).trans h.2.2.2.2.2⟩
def UsesAt (w : World) (A : Option Addr) (us : List Us) : Prop := ∀ i, i < us.length → ∃ ad, A = some ad ∧ UseAt w (ad.add (i * 6)) (us.getD i default) ∧ (us.getD i default).Ok
/-- what holds of the site and the posts -/
def StU (w : World) (gs gc gp cp g10 : Nat) (pb : Nat → Nat) (D Bk K now : Int) (W : World) : Prop := ∃ A q cs N P Ga gq G, UsI w gs gc gp cp g10 pb A q cs D Bk N P Ga gq G W ∧ Sx.SI K D Bk now N cs G P
theorem StU.bel {w W W1 : World} {gs gc gp cp g10 : Nat} {pb : Nat → Nat} {D Bk K now : Int} (h : StU w gs gc gp cp g10 pb D Bk K now W) (hb : Below W.heap.size W W1) : StU w gs gc gp cp g10 pb D Bk K now W1 := by
  obtain ⟨A, q, cs, N, P, Ga, gq, G, h1, h2⟩ := h
  exact ⟨A, q, cs, N, P, Ga, gq, G, h1.bel hb, h2⟩
end Go.Proofs.Ytafajclbghofkaa
