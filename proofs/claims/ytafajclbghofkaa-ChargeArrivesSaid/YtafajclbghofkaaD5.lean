/- Lines of the reference: NewLine, Poll, Copy, Send. -/
import Derived.Test.YtafajclbghofkaaD4
namespace Go.Proofs.Ytafajclbghofkaa
open Go.RowKit
set_option linter.unusedVariables false

theorem NewLineR_c (w : World) : Calls Try.prog 32 #[] w fun e w' => e = .returned (.pointer (some ⟨w.heap.size, 0, none⟩)) ∧ w' = w.alloc (.cells #[.slice none 0 0, .int .i64 0, .int .i64 0, .bool false] 78) := by
  go_enter Try.func32, Try.ntmps32
  go_wp2
  go_ret
  exact ⟨rfl, rfl⟩
theorem CopyR_c (B g : Nat) (A : Option Addr) (cap : Nat) (l : Ln) (w : World) (h : LineRAt w B g A cap l) : Calls Try.prog 34 #[.pointer (some ⟨g, 0, none⟩)] w
    fun e w' => e = .returned (.pointer (some ⟨w.heap.size, 0, none⟩)) ∧ LineRAt w' B w.heap.size A cap l ∧ Below w.heap.size w w' := by
  have hlt := h.blk.lt
  have c0 := h.blk.cell 0 rfl
  have c1 := h.blk.cell 1 rfl
  have c2 := h.blk.cell 2 rfl
  have c3 := h.blk.cell 3 rfl
  have H := Lib.hid h
  have HN := Lib.hid (Blk.new' w #[.slice A l.L.length cap, .int .i64 l.dn, .int .i64 l.tk, .bool l.ow] 78)
  clear h
  obtain ⟨len, hlen⟩ : ∃ len, len = l.L.length := ⟨_, rfl⟩
  rw [← hlen] at c0
  have HLen := Lib.hid hlen
  clear hlen
  go_enter Try.func34, Try.ntmps34
  go_wp2
  go_ret
  refine ⟨rfl, ⟨?_, own_keep H.out.own (S := fun _ => False) ((Touch.refl _ _).alloc _) (fun _ _ e => e), by have := H.out.base; omega, fun e => by have := (own_lt H.out.own e).2; omega⟩, (Below.refl _ _).alloc (Nat.le_refl _) _⟩
  rw [HLen.out]
  exact HN.out
/-- behind Poll: the line owes nothing -/
theorem pollR_end {w w1 : World} {B g : Nat} {A : Option Addr} {cap : Nat} {l : Ln} (h : LineRAt w B g A cap l) (ht : Touch (fun k => k = g) w w1)
    (hb : Blk w1 g 78 [.slice A l.L.length cap, .int .i64 l.dn, .int .i64 l.tk, .bool false]) : LineRTo w B g A (Lx.pollL l) w1 :=
  ⟨⟨A, cap, ⟨hb, own_keep h.own ht (fun k hk e => h.apart (e ▸ hk)), h.base, h.apart⟩, fun k hk => .inl hk⟩, ht⟩
def PollRTo (w : World) (B g : Nat) (A : Option Addr) (l : Ln) (e : Ending) (w' : World) : Prop :=
  e = .returned (.tuple #[.agg #[.bool (Lx.pollP l).has, .int .i64 (Lx.pollP l).nu, .int .i64 (Lx.pollP l).nt.k, .int .i64 (Lx.pollP l).nt.s, .int .i64 (Lx.pollP l).nt.a, .int .i64 (Lx.pollP l).nt.b, .int .i64 (Lx.pollP l).nt.c, .int .i64 (Lx.pollP l).ak], .bool (Lx.pollB l)]) ∧ LineRTo w B g A (Lx.pollL l) w'
set_option maxRecDepth 100000 in
set_option maxHeartbeats 8000000 in
theorem PollR_c (b : Int) (B g : Nat) (A : Option Addr) (cap : Nat) (l : Ln) (w : World) (h : LineRAt w B g A cap l) (hl : Lx.ok b l) (hb : b ≤ 4611686018427387904) : Calls Try.prog 60 #[.pointer (some ⟨g, 0, none⟩)] w (PollRTo w B g A l) := by
  have hlt := h.blk.lt
  have c0 := h.blk.cell 0 rfl
  have c1 := h.blk.cell 1 rfl
  have c2 := h.blk.cell 2 rfl
  have c3 := h.blk.cell 3 rfl
  have f3 := h.blk.free 3
  have H := Lib.hid h
  have bd := hl.1
  have bt := hl.2.1
  clear hl
  obtain ⟨L, dn, tk, ow⟩ := l
  cases L with
  | nil =>
    cases ow
    · clear h
      go_enter Try.func60, Try.ntmps60
      go_wp2
      refine bodyPost_ret (v := .tuple #[.agg #[.bool false, .int .i64 0, .int .i64 0, .int .i64 0, .int .i64 0, .int .i64 0, .int .i64 0, .int .i64 0], .bool false]) (by simp [results, Try.results60, go_sem]) rfl ⟨rfl, pollR_end H.out ?_ ?_⟩
      · repeat (with_reducible (first | exact Touch.refl _ _ | refine Touch.put ?_ _ _ | refine Touch.alloc ?_ _ | refine Touch.drew ?_ | refine Touch.drewN ?_ _ | refine Touch.setCell ?_ (Or.inr (by simp)) _))
      · (repeat (with_reducible (first | refine Blk.drew ?_ | refine Blk.drewN ?_ _ | refine Blk.alloc ?_ _ | refine Blk.setCell_ne ?_ (by simp; omega) _))); exact H.out.blk
    · clear h
      go_enter Try.func60, Try.ntmps60
      go_wp2
      refine bodyPost_ret (v := .tuple #[.agg #[.bool false, .int .i64 0, .int .i64 0, .int .i64 0, .int .i64 0, .int .i64 0, .int .i64 0, .int .i64 tk], .bool true]) (by simp [results, Try.results60, go_sem]) rfl ⟨rfl, pollR_end H.out ?_ ?_⟩
      · repeat (with_reducible (first | exact Touch.refl _ _ | refine Touch.put ?_ _ _ | refine Touch.alloc ?_ _ | refine Touch.drew ?_ | refine Touch.drewN ?_ _ | refine Touch.setCell ?_ (Or.inr (by simp)) _))
      · (repeat (with_reducible (first | refine Blk.drew ?_ | refine Blk.drewN ?_ _ | refine Blk.alloc ?_ _ | refine Blk.setCell_ne ?_ (by simp; omega) _))); exact Blk.s4_3 H.out.blk
  | cons x L =>
    obtain ⟨r, rfl, hr, r0, r1, r2, r3, r4⟩ := line_row h.own
    have hrg : r ≠ g := fun e => h.apart ⟨_, rfl, e⟩
    have bl := dn + 1
    have hdn : 0 ≤ dn := bd.1
    have hdn2 : dn ≤ 4611686018427387904 := by have := bd.2; simp only at this; omega
    clear h bd bt bl
    go_enter Try.func60, Try.ntmps60
    go_wp2
    refine bodyPost_ret (v := .tuple #[.agg #[.bool true, .int .i64 (dn + 1), .int .i64 x.k, .int .i64 x.s, .int .i64 x.a, .int .i64 x.b, .int .i64 x.c, .int .i64 tk], .bool true]) (by simp [results, Try.results60, go_sem]) rfl ⟨rfl, pollR_end H.out ?_ ?_⟩
    · repeat (with_reducible (first | exact Touch.refl _ _ | refine Touch.put ?_ _ _ | refine Touch.alloc ?_ _ | refine Touch.drew ?_ | refine Touch.drewN ?_ _ | refine Touch.setCell ?_ (Or.inr (by simp)) _))
    · (repeat (with_reducible (first | refine Blk.drew ?_ | refine Blk.drewN ?_ _ | refine Blk.alloc ?_ _ | refine Blk.setCell_ne ?_ (by simp; omega) _))); exact Blk.s4_3 H.out.blk
end Go.Proofs.Ytafajclbghofkaa
