/- Lines in memory; Send and Waiting. -/
import Derived.Test.YtafajclbghofkaaH2
import Derived.Test.YtafajclbghofkaaN1
import Derived.Test.YtafajclbghofkaaR2
import Derived.Test.YtafajclbghofkaaB1
import Derived.Deep.Slices
namespace Go.Proofs.Ytafajclbghofkaa
open Go.RowKit
set_option linter.unusedVariables false

def Nt.vals (n : Nt) : List Value := [.int .i64 n.k, .int .i64 n.s, .int .i64 n.a, .int .i64 n.b, .int .i64 n.c]
def flat (L : List Nt) : List Value := L.flatMap Nt.vals
theorem flat_append (a b : List Nt) : flat (a ++ b) = flat a ++ flat b := by simp [flat]
theorem flat_one (n : Nt) : flat [n] = n.vals := by simp [flat]
theorem flat_length (L : List Nt) : (flat L).length = L.length * 5 := by
  induction L with
  | nil => rfl
  | cons n L ih =>
    have e : flat (n :: L) = n.vals ++ flat L := rfl
    rw [e, List.length_append, ih, List.length_cons]
    simp [Nt.vals]
    omega
theorem flat_drop (L : List Nt) : ∀ k, (flat L).drop (k * 5) = flat (L.drop k) := by
  induction L with
  | nil => intro k; simp [flat]
  | cons n L ih =>
    intro k
    cases k with
    | zero => rfl
    | succ k =>
      have e : flat (n :: L) = n.vals ++ flat L := rfl
      rw [e, show (k + 1) * 5 = n.vals.length + k * 5 by simp [Nt.vals]; omega, ← List.drop_drop, List.drop_left, ih k]
      rfl
theorem flat_one' (L : List Nt) : ∀ u ∈ flat L, u.oneCell' = true := by
  intro u hu
  simp only [flat, List.mem_flatMap, Nt.vals] at hu
  obtain ⟨n, _, hu⟩ := hu
  simp at hu
  rcases hu with rfl | rfl | rfl | rfl | rfl <;> rfl

/-- a line of charge -/
structure LineAt (w : World) (B g : Nat) (A : Option Addr) (cap : Nat) (l : Ln) : Prop where
  blk : Blk w g 130 [.bool true, .slice A l.L.length cap, .int .i64 l.dn, .int .i64 l.tk, .bool l.ow]
  own : w.ownsRow B 60 5 (.slice A l.L.length cap) l.L.length (flat l.L)
  base : B ≤ g
  apart : ¬ OwnB A g
/-- a line of the reference -/
structure LineRAt (w : World) (B g : Nat) (A : Option Addr) (cap : Nat) (l : Ln) : Prop where
  blk : Blk w g 78 [.slice A l.L.length cap, .int .i64 l.dn, .int .i64 l.tk, .bool l.ow]
  own : w.ownsRow B 60 5 (.slice A l.L.length cap) l.L.length (flat l.L)
  base : B ≤ g
  apart : ¬ OwnB A g
section
variable {w w' : World} {B g : Nat} {A : Option Addr} {cap : Nat} {l : Ln}
theorem own_ne {g n : Nat} (h : ¬ OwnB A g) : some g ≠ (Value.slice A n cap).ownBlock := fun e => h (ownB_iff.2 e.symm)
theorem own_keep {S : Nat → Prop} {n : Nat} {xs : List Value} (h : w.ownsRow B 60 5 (.slice A n cap) n xs) (ht : Touch S w w') (hn : ∀ k, OwnB A k → ¬ S k) : w'.ownsRow B 60 5 (.slice A n cap) n xs := by
  refine ⟨h.1, ?_⟩
  rcases h.2 with h2 | ⟨k, c, cur, hv, hb, hg, r⟩
  · exact .inl h2
  · cases hv
    exact .inr ⟨k, cap, cur, rfl, hb, by rw [ht.block k (Array.getElem?_eq_some_iff.1 hg).1 (hn k ⟨_, rfl, rfl⟩)]; exact hg, r⟩
theorem own_lt {n : Nat} {xs : List Value} (h : w.ownsRow B 60 5 (.slice A n cap) n xs) {k : Nat} (hk : OwnB A k) : B ≤ k ∧ k < w.heap.size := by
  rcases h.2 with ⟨h2, _⟩ | ⟨g', c, cur, hv, hb, hg, r⟩
  · cases h2; obtain ⟨a, e, _⟩ := hk; cases e
  · cases hv
    obtain ⟨a, e, rfl⟩ := hk
    cases e
    exact ⟨hb, (Array.getElem?_eq_some_iff.1 hg).1⟩
/-- the cells of a row -/
theorem own_src {n : Nat} {L : List Nt} (h : w.ownsRow B 60 5 (.slice A n cap) n (flat L)) (k : Nat) (hk : k ≤ L.length) : SrcRow w (A.map fun a => a.add (k * 5)) (L.length - k) (flat (L.drop k)) ∧ (A = none → L = []) := by
  rcases h.2 with ⟨h2, hn⟩ | ⟨g', c, cur, hv, hb, hg, hnc, hcm, hcs, htake⟩
  · cases h2
    have hl := h.1
    rw [hn, flat_length] at hl
    have : L = [] := List.eq_nil_of_length_eq_zero (by omega)
    subst this
    exact ⟨.inl ⟨rfl, by simp⟩, fun _ => rfl⟩
  · cases hv
    refine ⟨.inr ⟨_, rfl, fun j u hu => ?_⟩, fun e => by cases e⟩
    rw [← flat_drop, List.getElem?_drop] at hu
    have hc := World.ownsRow.cells (g := g') h rfl (k * 5 + j) u hu
    rw [Go.Deep.add_add]
    exact hc
theorem LineAt.touch {S : Nat → Prop} (h : LineAt w B g A cap l) (ht : Touch S w w') (hg : ¬ S g) (hn : ∀ k, OwnB A k → ¬ S k) : LineAt w' B g A cap l := ⟨h.blk.touch ht hg, own_keep h.own ht hn, h.base, h.apart⟩
theorem LineRAt.touch {S : Nat → Prop} (h : LineRAt w B g A cap l) (ht : Touch S w w') (hg : ¬ S g) (hn : ∀ k, OwnB A k → ¬ S k) : LineRAt w' B g A cap l := ⟨h.blk.touch ht hg, own_keep h.own ht hn, h.base, h.apart⟩
end
/-- the row is the old one, or a new one -/
def NewRow (w : World) (A A' : Option Addr) : Prop := ∀ k, OwnB A' k → OwnB A k ∨ w.heap.size ≤ k
/-- behind an operation of a line -/
def LineTo (w : World) (B g : Nat) (A : Option Addr) (l' : Ln) (w' : World) : Prop := (∃ A' cap', LineAt w' B g A' cap' l' ∧ NewRow w A A') ∧ Touch (fun k => k = g ∨ OwnB A k) w w'
def LineRTo (w : World) (B g : Nat) (A : Option Addr) (l' : Ln) (w' : World) : Prop := (∃ A' cap', LineRAt w' B g A' cap' l' ∧ NewRow w A A') ∧ Touch (fun k => k = g) w w'

theorem validL_c (g : Nat) (w : World) (c0 : w.cell? ⟨g, 0, none⟩ = some (.bool true)) : Calls Try.prog 57 #[.pointer (some ⟨g, 0, none⟩)] w fun e w' => e = .returned (.bool true) ∧ w = w' := by
  go_enter Try.func57, Try.ntmps57
  go_wp2
  go_ret
  exact ⟨rfl, rfl⟩
theorem WaitingL_c (B g : Nat) (A : Option Addr) (cap : Nat) (l : Ln) (w : World) (h : LineAt w B g A cap l) : Calls Try.prog 29 #[.pointer (some ⟨g, 0, none⟩)] w fun e w' => e = .returned (.int .i64 l.L.length) ∧ w = w' :=
  (Waiting_c g _ _ _ w (h.blk.cell 0 rfl) (h.blk.cell 1 rfl)).mono fun _ _ ⟨h1, h2⟩ => ⟨h1, h2.symm⟩

theorem noteC {W : World} {b : Nat} {n : Nt} (h : Blk W b 60 n.vals) : W.cell? ⟨b, 0, none⟩ = some (.int .i64 n.k) ∧ W.cell? ⟨b, 1, none⟩ = some (.int .i64 n.s) ∧ W.cell? ⟨b, 2, none⟩ = some (.int .i64 n.a) ∧ W.cell? ⟨b, 3, none⟩ = some (.int .i64 n.b) ∧ W.cell? ⟨b, 4, none⟩ = some (.int .i64 n.c) :=
  ⟨h.cell 0 rfl, h.cell 1 rfl, h.cell 2 rfl, h.cell 3 rfl, h.cell 4 rfl⟩
theorem send_end {w w1 : World} {B g : Nat} {A A' : Option Addr} {cap cap' len : Nat} {l : Ln} {n : Nt} {o o' : Obj} (h : LineAt w B g A cap l) (hl : len = l.L.length)
    (hb : Blk w1 g 130 [.bool true, .slice A l.L.length cap, .int .i64 l.dn, .int .i64 l.tk, .bool l.ow]) (hown : w1.ownsRow B 60 5 (.slice A' (len + 1) cap') (len + 1) (flat l.L ++ n.vals))
    (hg : (((w.alloc o).drew).alloc o').grownBy w1 (Value.slice A len cap).ownBlock) (ha : ∀ k, OwnB A' k → OwnB A k ∨ k = (((w.alloc o).drew).alloc o').heap.size) : LineTo w B g A { l with L := l.L ++ [n] } (w1.setCell ⟨g, 1, none⟩ (.slice A' (len + 1) cap')) := by
  subst hl
  have hA : ¬ OwnB A' g := fun e => by
    rcases ha g e with e | e
    · exact h.apart e
    · have := h.blk.lt; simp at e; omega
  have ht : Touch (fun k => k = g ∨ OwnB A k) w w1 := ((((Touch.refl _ _).alloc _).drew).alloc _).grown hg (fun k hk => .inl (.inr (ownB_iff.2 hk)))
  refine ⟨⟨A', cap', ⟨?_, ?_, h.base, hA⟩, fun k hk => ?_⟩, ht.setCell (.inl (.inl rfl)) _⟩
  · have := hb.setCell 1 (.slice A' (l.L.length + 1) cap')
    simpa using this
  · have : w1.ownsRow B 60 5 (.slice A' (l.L.length + 1) cap') (l.L.length + 1) (flat (l.L ++ [n])) := by rw [flat_append, flat_one]; exact hown
    have h2 := own_keep this (S := fun k => k = g) (w' := w1.setCell ⟨g, 1, none⟩ (.slice A' (l.L.length + 1) cap')) ((Touch.refl _ _).put 1 _) (fun k hk e => hA (e ▸ hk))
    simpa using h2
  · rcases ha k hk with e | e
    · exact .inl e
    · right; simp at e; omega

set_option maxHeartbeats 2000000 in
theorem Send_c (B g : Nat) (A : Option Addr) (cap : Nat) (l : Ln) (n : Nt) (w : World) (h : LineAt w B g A cap l) (hB : B ≤ w.heap.size) : Calls Try.prog 28 #[.pointer (some ⟨g, 0, none⟩), .agg #[.int .i64 n.k, .int .i64 n.s, .int .i64 n.a, .int .i64 n.b, .int .i64 n.c]] w
    fun e w' => e = .returned (.int .i64 (Lx.sendE l)) ∧ LineTo w B g A (Lx.sendL l n) w' := by
  have hlt := h.blk.lt
  have c0 := h.blk.cell 0 rfl
  have c1 := h.blk.cell 1 rfl
  have f1 := h.blk.free 1
  have H := Lib.hid h
  have HB := Lib.hid hB
  clear h hB
  by_cases hn : 64 ≤ l.L.length
  · have e1 : Lx.sendE l = 11 := by unfold Lx.sendE; rw [if_pos hn]
    have e2 : Lx.sendL l n = l := by unfold Lx.sendL; rw [if_pos hn]
    have hd : decide (64 ≤ (l.L.length : Int)) = true := by simp; omega
    rw [e1, e2]
    clear e1 e2
    go_enter Try.func28, Try.ntmps28
    go_wp2_with (go_at_call 57; refine (validL_c _ _ (by go_simp)).mono ?_; rintro e w' ⟨rfl, rfl⟩)
    go_ret
    have ht : Touch (fun k => k = g ∨ OwnB A k) w (w.alloc (.cells #[.int .i64 n.k, .int .i64 n.s, .int .i64 n.a, .int .i64 n.b, .int .i64 n.c] 60)) := (Touch.refl _ _).alloc _
    exact ⟨rfl, ⟨A, cap, H.out.touch (S := fun _ => False) ((Touch.refl _ _).alloc _) (fun h => h) (fun _ _ h => h), fun k hk => .inl hk⟩, ht⟩
  · have e1 : Lx.sendE l = 0 := by unfold Lx.sendE; rw [if_neg hn]
    have e2 : Lx.sendL l n = { l with L := l.L ++ [n] } := by unfold Lx.sendL; rw [if_neg hn]
    have hd : decide (64 ≤ (l.L.length : Int)) = false := by simp; omega
    rw [e1, e2]
    clear e1 e2
    obtain ⟨i0, hi, hz0, hz1, hz2⟩ := info_parts info60
    obtain ⟨len, hlen⟩ : ∃ len, len = l.L.length := ⟨_, rfl⟩
    rw [← hlen] at c1 hd
    have HN := Lib.hid hn
    have HLen := Lib.hid hlen
    have HO : w.ownsRow B 60 5 (.slice A len cap) len (flat l.L) := by rw [hlen]; exact H.out.own
    have HOwn := Lib.hid HO
    clear hn hlen HO
    go_enter Try.func28, Try.ntmps28
    go_wp2_with (go_at_call 57; refine (validL_c _ _ (by go_simp)).mono ?_; rintro e w' ⟨rfl, rfl⟩)
    refine lBegin (S := fun L W => (W.cell? ⟨w.heap.size, 0, none⟩ = some (.int .i64 n.k) ∧ W.cell? ⟨w.heap.size, 1, none⟩ = some (.int .i64 n.s) ∧ W.cell? ⟨w.heap.size, 2, none⟩ = some (.int .i64 n.a) ∧ W.cell? ⟨w.heap.size, 3, none⟩ = some (.int .i64 n.b) ∧ W.cell? ⟨w.heap.size, 4, none⟩ = some (.int .i64 n.c)) ∧ (L.getD 12 false = true ∨ (W.cell? ⟨g, 1, none⟩ = some (.slice A len cap)))) (by kernel_rfl) ?_ (fun hHeld => ?_)
    · (try dsimp only); refine ⟨?_, Or.inr ?_⟩
      · (first | with_reducible assumption | exact noteC ((Blk.new' w _ 60).drew) | exact noteC ((Blk.new' w _ 60).drew.alloc _) | exact noteC HBx.out | exact noteC (HBx.out.setCell_ne (by show w.heap.size ≠ g; omega) _))
      · (first | with_reducible assumption | go_simp)
    refine lTake (i := 0) (v := ?_) rfl (by kernel_rfl) (by kernel_rfl) (by kernel_rfl) (fun _ _ _ h => h) (by rfl) (fun _ _ h => by simpa only [getD_set_ne false (show 0 ≠ 12 by decide)] using h) (fun _ _ h => by simpa only [getD_set_ne false (show 0 ≠ 12 by decide)] using h) ?_ (by assumption) (fun hHeld2 => ?_)
    rotate_left 1
    · (intro _ _ _ _ _; first | (go_simp; done) | (go_simp; with_reducible rfl))
    clear hHeld; have hHeld := hHeld2; clear hHeld2
    (try simp only [Act.put, List.setIfInBounds_toArray, List.set_cons_zero, List.set_cons_succ])
    refine lTake (i := 1) (v := ?_) rfl (by kernel_rfl) (by kernel_rfl) (by kernel_rfl) (fun _ _ _ h => h) (by rfl) (fun _ _ h => by simpa only [getD_set_ne false (show 1 ≠ 12 by decide)] using h) (fun _ _ h => by simpa only [getD_set_ne false (show 1 ≠ 12 by decide)] using h) ?_ (by assumption) (fun hHeld2 => ?_)
    rotate_left 1
    · (intro _ _ _ _ _; first | (go_simp; done) | (go_simp; with_reducible rfl))
    clear hHeld; have hHeld := hHeld2; clear hHeld2
    (try simp only [Act.put, List.setIfInBounds_toArray, List.set_cons_zero, List.set_cons_succ])
    refine lTake (i := 2) (v := ?_) rfl (by kernel_rfl) (by kernel_rfl) (by kernel_rfl) (fun _ _ _ h => h) (by rfl) (fun _ _ h => by simpa only [getD_set_ne false (show 2 ≠ 12 by decide)] using h) (fun _ _ h => by simpa only [getD_set_ne false (show 2 ≠ 12 by decide)] using h) ?_ (by assumption) (fun hHeld2 => ?_)
    rotate_left 1
    · (intro _ _ _ _ _; first | (go_simp; done) | (go_simp; with_reducible rfl))
    clear hHeld; have hHeld := hHeld2; clear hHeld2
    (try simp only [Act.put, List.setIfInBounds_toArray, List.set_cons_zero, List.set_cons_succ])
    refine lTake (i := 3) (v := ?_) rfl (by kernel_rfl) (by kernel_rfl) (by kernel_rfl) (fun _ _ _ h => h) (by rfl) (fun _ _ h => by simpa only [getD_set_ne false (show 3 ≠ 12 by decide)] using h) (fun _ _ h => by simpa only [getD_set_ne false (show 3 ≠ 12 by decide)] using h) ?_ (by assumption) (fun hHeld2 => ?_)
    rotate_left 1
    · (intro _ _ _ _ _; first | (go_simp; done) | (go_simp; with_reducible rfl))
    clear hHeld; have hHeld := hHeld2; clear hHeld2
    (try simp only [Act.put, List.setIfInBounds_toArray, List.set_cons_zero, List.set_cons_succ])
    refine lTake (i := 4) (v := ?_) rfl (by kernel_rfl) (by kernel_rfl) (by kernel_rfl) (fun _ _ _ h => h) (by rfl) (fun _ _ h => by simpa only [getD_set_ne false (show 4 ≠ 12 by decide)] using h) (fun _ _ h => by simpa only [getD_set_ne false (show 4 ≠ 12 by decide)] using h) ?_ (by assumption) (fun hHeld2 => ?_)
    rotate_left 1
    · (intro _ _ _ _ _; first | (go_simp; done) | (go_simp; with_reducible rfl))
    clear hHeld; have hHeld := hHeld2; clear hHeld2
    (try simp only [Act.put, List.setIfInBounds_toArray, List.set_cons_zero, List.set_cons_succ])
    refine lTake (i := 5) (v := ?_) rfl (by kernel_rfl) (by kernel_rfl) (by kernel_rfl) (fun _ _ _ h => h) (by rfl) (fun _ _ h => by simpa only [getD_set_ne false (show 5 ≠ 12 by decide)] using h) (fun _ _ h => by simpa only [getD_set_ne false (show 5 ≠ 12 by decide)] using h) ?_ (by assumption) (fun hHeld2 => ?_)
    rotate_left 1
    · (intro L W hL hK hSw; (try dsimp only at hSw); obtain ⟨h0, h1⟩ := hSw; replace h1 := still [] hK hL (by kernel_rfl) h1; clear hL hK; first | (go_simp; done) | (go_simp; with_reducible rfl))
    clear hHeld; have hHeld := hHeld2; clear hHeld2
    (try simp only [Act.put, List.setIfInBounds_toArray, List.set_cons_zero, List.set_cons_succ])
    refine lTake (i := 6) (v := ?_) rfl (by kernel_rfl) (by kernel_rfl) (by kernel_rfl) (fun _ _ _ h => h) (by rfl) (fun _ _ h => by simpa only [getD_set_ne false (show 6 ≠ 12 by decide)] using h) (fun _ _ h => by simpa only [getD_set_ne false (show 6 ≠ 12 by decide)] using h) ?_ (by assumption) (fun hHeld2 => ?_)
    rotate_left 1
    · (intro L W hL hK hSw; (try dsimp only at hSw); obtain ⟨h0, h1⟩ := hSw; replace h1 := still [] hK hL (by kernel_rfl) h1; clear hL hK; first | (go_simp; done) | (go_simp; with_reducible rfl))
    clear hHeld; have hHeld := hHeld2; clear hHeld2
    (try simp only [Act.put, List.setIfInBounds_toArray, List.set_cons_zero, List.set_cons_succ])
    refine lReady (rs := [7]) (by kernel_rfl) (by simp) ?_
    refine AllL.cons (i := 7) rfl (fun K hK => ?_) ?_
    · go_simp
      (try go_wp2_with fail)
      refine hK.out _ _ ?_ (fun hHeld2 => ?_)
      · (try dsimp only); refine ⟨?_, Or.inr ?_⟩
        · (first | with_reducible assumption | exact noteC ((Blk.new' w _ 60).drew) | exact noteC ((Blk.new' w _ 60).drew.alloc _) | exact noteC HBx.out | exact noteC (HBx.out.setCell_ne (by show w.heap.size ≠ g; omega) _))
        · (first | with_reducible assumption | go_simp)
      clear hK K
      clear hHeld; have hHeld := hHeld2; clear hHeld2
      (try simp only [Act.put, List.setIfInBounds_toArray, List.set_cons_zero, List.set_cons_succ])
      refine lReady (rs := [8]) (by kernel_rfl) (by simp) ?_
      refine AllL.cons (i := 8) rfl (fun K hK => ?_) ?_
      · refine step_append_any (.tmp 20) (.tmp 22) 76 rfl rfl B 60 i0 (.agg #[.int .i64 0, .int .i64 0, .int .i64 0, .int .i64 0, .int .i64 0]) 5 40 Try.underlying76 hi hz0 hz1 hz2 rfl (by decide) A len cap (flat l.L) (by rfl) (own_keep HOwn.out (S := fun _ => False) ((((Touch.refl _ _).alloc _).drew).alloc _) (fun _ _ h => h)) (some ⟨w.heap.size + 1, 0, none⟩) 1 1 n.vals (by rfl) rfl (.inr ⟨_, rfl, fun j u hu => by have hb := (Blk.new' (w.alloc (.cells #[.int .i64 n.k, .int .i64 n.s, .int .i64 n.a, .int .i64 n.b, .int .i64 n.c] 60)).drew #[.int .i64 n.k, .int .i64 n.s, .int .i64 n.a, .int .i64 n.b, .int .i64 n.c] 60); have hs : (w.alloc (.cells #[.int .i64 n.k, .int .i64 n.s, .int .i64 n.a, .int .i64 n.b, .int .i64 n.c] 60)).drew.heap.size = w.heap.size + 1 := (by simp); rw [hs] at hb; have := hb.cell j hu; rw [show ((⟨w.heap.size + 1, 0, none⟩ : Addr).add j) = ⟨w.heap.size + 1, j, none⟩ from (by unfold Addr.add; split <;> simp_all)]; exact this⟩) (fun u hu => flat_one' [n] u (by rw [flat_one]; exact hu)) (by have := HN.out; have := HLen.out; unfold maxLen; omega) (by have := HN.out; have := HLen.out; omega) (by have := HB.out; simp; omega) ?_; intro A' cap' w1 hown hgrow hat; have hb1 := Blk.grown (((H.out.blk.alloc _).drew).alloc _) hgrow (own_ne H.out.apart); have HBx := Lib.hid (Blk.grown ((Blk.new' w #[.int .i64 n.k, .int .i64 n.s, .int .i64 n.a, .int .i64 n.b, .int .i64 n.c] 60).drew.alloc _) hgrow (own_ne (fun h => by have := own_lt HOwn.out h; omega))); have d1 : w1.cell? ⟨g, 1, none⟩ = some (.slice A len cap) := (by rw [HLen.out]; exact hb1.cell 1 rfl); have e1 := hb1.free 1; have HB1 := Lib.hid hb1; have HOw := Lib.hid hown; have HG := Lib.hid hgrow; have HA := Lib.hid hat; clear hb1 hown hgrow hat
        (try go_wp2_with fail)
        refine hK.out _ _ ?_ (fun hHeld2 => ?_)
        · (try dsimp only); refine ⟨?_, Or.inr ?_⟩
          · (first | with_reducible assumption | exact noteC ((Blk.new' w _ 60).drew) | exact noteC ((Blk.new' w _ 60).drew.alloc _) | exact noteC HBx.out | exact noteC (HBx.out.setCell_ne (by show w.heap.size ≠ g; omega) _))
          · (first | with_reducible assumption | go_simp)
        clear hK K
        clear hHeld; have hHeld := hHeld2; clear hHeld2
        (try simp only [Act.put, List.setIfInBounds_toArray, List.set_cons_zero, List.set_cons_succ])
        refine lTake (i := 9) (v := ?_) rfl (by kernel_rfl) (by kernel_rfl) (by kernel_rfl) (fun _ _ _ h => h) (by rfl) (fun _ _ h => by simpa only [getD_set_ne false (show 9 ≠ 12 by decide)] using h) (fun _ _ h => by simpa only [getD_set_ne false (show 9 ≠ 12 by decide)] using h) ?_ (by assumption) (fun hHeld2 => ?_)
        rotate_left 1
        · (intro _ _ _ _ _; first | (go_simp; done) | (go_simp; with_reducible rfl))
        clear hHeld; have hHeld := hHeld2; clear hHeld2
        (try simp only [Act.put, List.setIfInBounds_toArray, List.set_cons_zero, List.set_cons_succ])
        refine lTake (i := 10) (v := ?_) rfl (by kernel_rfl) (by kernel_rfl) (by kernel_rfl) (fun _ _ _ h => h) (by rfl) (fun _ _ h => by simpa only [getD_set_ne false (show 10 ≠ 12 by decide)] using h) (fun _ _ h => by simpa only [getD_set_ne false (show 10 ≠ 12 by decide)] using h) ?_ (by assumption) (fun hHeld2 => ?_)
        rotate_left 1
        · (intro _ _ _ _ _; first | (go_simp; done) | (go_simp; with_reducible rfl))
        clear hHeld; have hHeld := hHeld2; clear hHeld2
        (try simp only [Act.put, List.setIfInBounds_toArray, List.set_cons_zero, List.set_cons_succ])
        refine lTake (i := 11) (v := ?_) rfl (by kernel_rfl) (by kernel_rfl) (by kernel_rfl) (fun _ _ _ h => h) (by rfl) (fun _ _ h => by simpa only [getD_set_ne false (show 11 ≠ 12 by decide)] using h) (fun _ _ h => by simpa only [getD_set_ne false (show 11 ≠ 12 by decide)] using h) ?_ (by assumption) (fun hHeld2 => ?_)
        rotate_left 1
        · (intro _ _ _ _ _; first | (go_simp; done) | (go_simp; with_reducible rfl))
        clear hHeld; have hHeld := hHeld2; clear hHeld2
        (try simp only [Act.put, List.setIfInBounds_toArray, List.set_cons_zero, List.set_cons_succ])
        refine lReady (rs := [12]) (by kernel_rfl) (by simp) ?_
        refine AllL.cons (i := 12) rfl (fun K hK => ?_) ?_
        · go_simp
          (try go_wp2_with fail)
          refine hK.out _ _ ?_ (fun hHeld2 => ?_)
          · (try dsimp only); refine ⟨?_, Or.inl (by rfl)⟩
            · (first | with_reducible assumption | exact noteC ((Blk.new' w _ 60).drew) | exact noteC ((Blk.new' w _ 60).drew.alloc _) | exact noteC HBx.out | exact noteC (HBx.out.setCell_ne (by show w.heap.size ≠ g; omega) _))
          clear hK K
          clear hHeld; have hHeld := hHeld2; clear hHeld2
          (try simp only [Act.put, List.setIfInBounds_toArray, List.set_cons_zero, List.set_cons_succ])
          refine lDone (by kernel_rfl) ?_ _
          go_wp2_with fail
          go_ret
          exact ⟨rfl, send_end H.out HLen.out HB1.out HOw.out HG.out HA.out⟩
        exact AllL.nil
      exact AllL.nil
    exact AllL.nil
end Go.Proofs.Ytafajclbghofkaa
