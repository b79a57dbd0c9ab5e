/- Lines: Poll of charge. -/
import Derived.Test.YtafajclbghofkaaD2
namespace Go.Proofs.Ytafajclbghofkaa
open Go.RowKit
set_option linter.unusedVariables false

theorem line_row {w : World} {B n cap : Nat} {A : Option Addr} {x : Nt} {L : List Nt} (h : w.ownsRow B 60 5 (.slice A n cap) n (flat (x :: L))) :
    ∃ r, A = some ⟨r, 0, none⟩ ∧ r < w.heap.size ∧ w.cell? ⟨r, 0, none⟩ = some (.int .i64 x.k) ∧ w.cell? ⟨r, 1, none⟩ = some (.int .i64 x.s) ∧ w.cell? ⟨r, 2, none⟩ = some (.int .i64 x.a) ∧ w.cell? ⟨r, 3, none⟩ = some (.int .i64 x.b) ∧ w.cell? ⟨r, 4, none⟩ = some (.int .i64 x.c) := by
  have hc := own_src0 h
  rcases h.2 with ⟨h2, hn⟩ | ⟨g', c, cur, hv, hb, hg, _⟩
  · cases h2
    exact absurd (hc.2 rfl) (by simp)
  · cases hv
    refine ⟨g', rfl, (Array.getElem?_eq_some_iff.1 hg).1, ?_⟩
    rcases hc.1 with ⟨e, _⟩ | ⟨a, e, hcc⟩
    · cases e
    · cases e
      exact ⟨hcc 0 _ rfl, hcc 1 _ rfl, hcc 2 _ rfl, hcc 3 _ rfl, hcc 4 _ rfl⟩
theorem Blk.s5_1 {w : World} {g : Nat} {t : TypeId} {a b c d e u : Value} (h : Blk w g t [a, b, c, d, e]) : Blk (w.setCell ⟨g, 1, none⟩ u) g t [a, u, c, d, e] := h.setCell 1 u
theorem Blk.s5_2 {w : World} {g : Nat} {t : TypeId} {a b c d e u : Value} (h : Blk w g t [a, b, c, d, e]) : Blk (w.setCell ⟨g, 2, none⟩ u) g t [a, b, u, d, e] := h.setCell 2 u
theorem Blk.s5_3 {w : World} {g : Nat} {t : TypeId} {a b c d e u : Value} (h : Blk w g t [a, b, c, d, e]) : Blk (w.setCell ⟨g, 3, none⟩ u) g t [a, b, c, u, e] := h.setCell 3 u
theorem Blk.s5_4 {w : World} {g : Nat} {t : TypeId} {a b c d e u : Value} (h : Blk w g t [a, b, c, d, e]) : Blk (w.setCell ⟨g, 4, none⟩ u) g t [a, b, c, d, u] := h.setCell 4 u
theorem Blk.s4_0 {w : World} {g : Nat} {t : TypeId} {a b c d u : Value} (h : Blk w g t [a, b, c, d]) : Blk (w.setCell ⟨g, 0, none⟩ u) g t [u, b, c, d] := h.setCell 0 u
theorem Blk.s4_1 {w : World} {g : Nat} {t : TypeId} {a b c d u : Value} (h : Blk w g t [a, b, c, d]) : Blk (w.setCell ⟨g, 1, none⟩ u) g t [a, u, c, d] := h.setCell 1 u
theorem Blk.s4_2 {w : World} {g : Nat} {t : TypeId} {a b c d u : Value} (h : Blk w g t [a, b, c, d]) : Blk (w.setCell ⟨g, 2, none⟩ u) g t [a, b, u, d] := h.setCell 2 u
theorem Blk.s4_3 {w : World} {g : Nat} {t : TypeId} {a b c d u : Value} (h : Blk w g t [a, b, c, d]) : Blk (w.setCell ⟨g, 3, none⟩ u) g t [a, b, c, u] := h.setCell 3 u
/-- behind Poll: the line owes nothing -/
theorem poll_end {w w1 : World} {B g : Nat} {A : Option Addr} {cap : Nat} {l : Ln} (h : LineAt w B g A cap l) (ht : Touch (fun k => k = g) w w1)
    (hb : Blk w1 g 130 [.bool true, .slice A l.L.length cap, .int .i64 l.dn, .int .i64 l.tk, .bool false]) : LineTo w B g A (Lx.pollL l) w1 :=
  ⟨⟨A, cap, ⟨hb, own_keep h.own ht (fun k hk e => h.apart (e ▸ hk)), h.base, h.apart⟩, fun k hk => .inl hk⟩, ht.mono fun k hk => .inl hk⟩
def PollTo (w : World) (B g : Nat) (A : Option Addr) (l : Ln) (e : Ending) (w' : World) : Prop :=
  e = .returned (.tuple #[.agg #[.bool (Lx.pollP l).has, .int .i64 (Lx.pollP l).nu, .int .i64 (Lx.pollP l).nt.k, .int .i64 (Lx.pollP l).nt.s, .int .i64 (Lx.pollP l).nt.a, .int .i64 (Lx.pollP l).nt.b, .int .i64 (Lx.pollP l).nt.c, .int .i64 (Lx.pollP l).ak], .bool (Lx.pollB l)]) ∧ LineTo w B g A (Lx.pollL l) w'
set_option maxRecDepth 100000 in
set_option maxHeartbeats 4000000 in
theorem Poll_c (b : Int) (B g : Nat) (A : Option Addr) (cap : Nat) (l : Ln) (w : World) (h : LineAt w B g A cap l) (hl : Lx.ok b l) (hb : b ≤ 4611686018427387904) : Calls Try.prog 30 #[.pointer (some ⟨g, 0, none⟩)] w (PollTo w B g A l) := by
  have hlt := h.blk.lt
  have c0 := h.blk.cell 0 rfl
  have c1 := h.blk.cell 1 rfl
  have c2 := h.blk.cell 2 rfl
  have c3 := h.blk.cell 3 rfl
  have c4 := h.blk.cell 4 rfl
  have f4 := h.blk.free 4
  have H := Lib.hid h
  have bd := hl.1
  have bt := hl.2.1
  clear hl
  obtain ⟨L, dn, tk, ow⟩ := l
  cases L with
  | nil =>
    cases ow
    · clear h
      go_enter Try.func30, Try.ntmps30
      go_wp2_with (go_at_call 57; refine (validL_c _ _ (by go_simp)).mono ?_; rintro e w' ⟨rfl, rfl⟩)
      exact bodyPost_ret (v := .tuple #[.agg #[.bool false, .int .i64 0, .int .i64 0, .int .i64 0, .int .i64 0, .int .i64 0, .int .i64 0, .int .i64 0], .bool false]) (by simp [results, Try.results30, go_sem]) rfl ⟨rfl, poll_end H.out ((Touch.refl _ _).alloc _) (H.out.blk.alloc _)⟩
    · clear h
      go_enter Try.func30, Try.ntmps30
      go_wp2_with (go_at_call 57; refine (validL_c _ _ (by go_simp)).mono ?_; rintro e w' ⟨rfl, rfl⟩)
      refine bodyPost_ret (v := .tuple #[.agg #[.bool false, .int .i64 0, .int .i64 0, .int .i64 0, .int .i64 0, .int .i64 0, .int .i64 0, .int .i64 tk], .bool true]) (by simp [results, Try.results30, go_sem]) rfl ⟨rfl, poll_end H.out ?_ ?_⟩
      · repeat (first | exact Touch.refl _ _ | refine Touch.put ?_ _ _ | refine Touch.alloc ?_ _ | refine Touch.drew ?_ | refine Touch.drewN ?_ _ | (refine Touch.setCell ?_ (Or.inr (by simp)) _))
      · repeat (first | exact H.out.blk | exact Blk.s5_4 H.out.blk | refine Blk.drew ?_ | refine Blk.drewN ?_ _ | refine Blk.alloc ?_ _ | (refine Blk.setCell_ne ?_ (by simp; omega) _))
  | cons x L =>
    obtain ⟨r, rfl, hr, r0, r1, r2, r3, r4⟩ := line_row h.own
    have hrg : r ≠ g := fun e => h.apart ⟨_, rfl, e⟩
    have hd1 : IntKind.i64.wrap (dn + 1) = dn + 1 := IntWalk.i64_in _ (by have := bd.1; have := bd.2; simp only at *; omega)
    have HD := Lib.hid hd1
    clear h hd1
    go_enter Try.func30, Try.ntmps30
    go_wp2_with (go_at_call 57; refine (validL_c _ _ (by go_simp)).mono ?_; rintro e w' ⟨rfl, rfl⟩)
    have hd1 := HD.out
    refine lBegin (S := fun _ W => (W.cell? ⟨g, 1, none⟩ = some (.slice (some ⟨r, 0, none⟩) (L.length + 1) cap) ∧ W.cell? ⟨g, 2, none⟩ = some (.int .i64 dn) ∧ W.cell? ⟨r, 0, none⟩ = some (.int .i64 x.k) ∧ W.cell? ⟨r, 1, none⟩ = some (.int .i64 x.s) ∧ W.cell? ⟨r, 2, none⟩ = some (.int .i64 x.a) ∧ W.cell? ⟨r, 3, none⟩ = some (.int .i64 x.b) ∧ W.cell? ⟨r, 4, none⟩ = some (.int .i64 x.c))) (by kernel_rfl) ?_ (fun hHeld => ?_)
    · (try dsimp only); (first | with_reducible assumption | go_simp)
    refine lTake (i := 0) (v := ?_) rfl (by kernel_rfl) (by kernel_rfl) (by kernel_rfl) (fun _ _ _ h => h) (by rfl) (fun _ _ h => h) (fun _ _ h => h) ?_ (by assumption) (fun hHeld2 => ?_)
    rotate_left 1
    · (intro _ _ _ _ _; first | (go_simp; done) | (go_simp; with_reducible rfl))
    clear hHeld; have hHeld := hHeld2; clear hHeld2
    (try simp only [Act.put, List.setIfInBounds_toArray, List.set_cons_zero, List.set_cons_succ])
    refine lTake (i := 1) (v := ?_) rfl (by kernel_rfl) (by kernel_rfl) (by kernel_rfl) (fun _ _ _ h => h) (by rfl) (fun _ _ h => h) (fun _ _ h => h) ?_ (by assumption) (fun hHeld2 => ?_)
    rotate_left 1
    · (intro _ _ _ _ _; first | (go_simp; done) | (go_simp; with_reducible rfl))
    clear hHeld; have hHeld := hHeld2; clear hHeld2
    (try simp only [Act.put, List.setIfInBounds_toArray, List.set_cons_zero, List.set_cons_succ])
    refine lTake (i := 2) (v := ?_) rfl (by kernel_rfl) (by kernel_rfl) (by kernel_rfl) (fun _ _ _ h => h) (by rfl) (fun _ _ h => h) (fun _ _ h => h) ?_ (by assumption) (fun hHeld2 => ?_)
    rotate_left 1
    · (intro _ _ _ _ _; first | (go_simp; done) | (go_simp; with_reducible rfl))
    clear hHeld; have hHeld := hHeld2; clear hHeld2
    (try simp only [Act.put, List.setIfInBounds_toArray, List.set_cons_zero, List.set_cons_succ])
    refine lTake (i := 3) (v := ?_) rfl (by kernel_rfl) (by kernel_rfl) (by kernel_rfl) (fun _ _ _ h => h) (by rfl) (fun _ _ h => h) (fun _ _ h => h) ?_ (by assumption) (fun hHeld2 => ?_)
    rotate_left 1
    · (intro _ _ _ _ _; first | (go_simp; done) | (go_simp; with_reducible rfl))
    clear hHeld; have hHeld := hHeld2; clear hHeld2
    (try simp only [Act.put, List.setIfInBounds_toArray, List.set_cons_zero, List.set_cons_succ])
    refine lTake (i := 4) (v := ?_) rfl (by kernel_rfl) (by kernel_rfl) (by kernel_rfl) (fun _ _ _ h => h) (by rfl) (fun _ _ h => h) (fun _ _ h => h) ?_ (by assumption) (fun hHeld2 => ?_)
    rotate_left 1
    · (intro L W _ _ hSw; (try dsimp only at hSw); first | (go_simp; done) | (go_simp; with_reducible rfl))
    clear hHeld; have hHeld := hHeld2; clear hHeld2
    (try simp only [Act.put, List.setIfInBounds_toArray, List.set_cons_zero, List.set_cons_succ])
    refine lTake (i := 5) (v := ?_) rfl (by kernel_rfl) (by kernel_rfl) (by kernel_rfl) (fun _ _ _ h => h) (by rfl) (fun _ _ h => h) (fun _ _ h => h) ?_ (by assumption) (fun hHeld2 => ?_)
    rotate_left 1
    · (intro _ _ _ _ _; first | (go_simp; done) | (go_simp; with_reducible rfl))
    clear hHeld; have hHeld := hHeld2; clear hHeld2
    (try simp only [Act.put, List.setIfInBounds_toArray, List.set_cons_zero, List.set_cons_succ])
    refine lTake (i := 6) (v := ?_) rfl (by kernel_rfl) (by kernel_rfl) (by kernel_rfl) (fun _ _ _ h => h) (by rfl) (fun _ _ h => h) (fun _ _ h => h) ?_ (by assumption) (fun hHeld2 => ?_)
    rotate_left 1
    · (intro _ _ _ _ _; first | (go_simp; done) | (go_simp; with_reducible rfl))
    clear hHeld; have hHeld := hHeld2; clear hHeld2
    (try simp only [Act.put, List.setIfInBounds_toArray, List.set_cons_zero, List.set_cons_succ])
    refine lTake (i := 7) (v := ?_) rfl (by kernel_rfl) (by kernel_rfl) (by kernel_rfl) (fun _ _ _ h => h) (by rfl) (fun _ _ h => h) (fun _ _ h => h) ?_ (by assumption) (fun hHeld2 => ?_)
    rotate_left 1
    · (intro _ _ _ _ _; first | (go_simp; done) | (go_simp; with_reducible rfl))
    clear hHeld; have hHeld := hHeld2; clear hHeld2
    (try simp only [Act.put, List.setIfInBounds_toArray, List.set_cons_zero, List.set_cons_succ])
    refine lTake (i := 8) (v := ?_) rfl (by kernel_rfl) (by kernel_rfl) (by kernel_rfl) (fun _ _ _ h => h) (by rfl) (fun _ _ h => h) (fun _ _ h => h) ?_ (by assumption) (fun hHeld2 => ?_)
    rotate_left 1
    · (intro _ _ _ _ _; first | (go_simp; done) | (go_simp; with_reducible rfl))
    clear hHeld; have hHeld := hHeld2; clear hHeld2
    (try simp only [Act.put, List.setIfInBounds_toArray, List.set_cons_zero, List.set_cons_succ])
    refine lTake (i := 9) (v := ?_) rfl (by kernel_rfl) (by kernel_rfl) (by kernel_rfl) (fun _ _ _ h => h) (by rfl) (fun _ _ h => h) (fun _ _ h => h) ?_ (by assumption) (fun hHeld2 => ?_)
    rotate_left 1
    · (intro _ _ _ _ _; first | (go_simp; done) | (go_simp; with_reducible rfl))
    clear hHeld; have hHeld := hHeld2; clear hHeld2
    (try simp only [Act.put, List.setIfInBounds_toArray, List.set_cons_zero, List.set_cons_succ])
    refine lTake (i := 10) (v := ?_) rfl (by kernel_rfl) (by kernel_rfl) (by kernel_rfl) (fun _ _ _ h => h) (by rfl) (fun _ _ h => h) (fun _ _ h => h) ?_ (by assumption) (fun hHeld2 => ?_)
    rotate_left 1
    · (intro L W _ _ hSw; (try dsimp only at hSw); first | (go_simp; done) | (go_simp; with_reducible rfl))
    clear hHeld; have hHeld := hHeld2; clear hHeld2
    (try simp only [Act.put, List.setIfInBounds_toArray, List.set_cons_zero, List.set_cons_succ])
    refine lTake (i := 11) (v := ?_) rfl (by kernel_rfl) (by kernel_rfl) (by kernel_rfl) (fun _ _ _ h => h) (by rfl) (fun _ _ h => h) (fun _ _ h => h) ?_ (by assumption) (fun hHeld2 => ?_)
    rotate_left 1
    · (intro _ _ _ _ _; first | (go_simp; done) | (go_simp; with_reducible rfl))
    clear hHeld; have hHeld := hHeld2; clear hHeld2
    (try simp only [Act.put, List.setIfInBounds_toArray, List.set_cons_zero, List.set_cons_succ])
    refine lTake (i := 12) (v := ?_) rfl (by kernel_rfl) (by kernel_rfl) (by kernel_rfl) (fun _ _ _ h => h) (by rfl) (fun _ _ h => h) (fun _ _ h => h) ?_ (by assumption) (fun hHeld2 => ?_)
    rotate_left 1
    · (intro L W _ _ hSw; (try dsimp only at hSw); first | (go_simp; done) | (go_simp; with_reducible rfl))
    clear hHeld; have hHeld := hHeld2; clear hHeld2
    (try simp only [Act.put, List.setIfInBounds_toArray, List.set_cons_zero, List.set_cons_succ])
    refine lTake (i := 13) (v := ?_) rfl (by kernel_rfl) (by kernel_rfl) (by kernel_rfl) (fun _ _ _ h => h) (by rfl) (fun _ _ h => h) (fun _ _ h => h) ?_ (by assumption) (fun hHeld2 => ?_)
    rotate_left 1
    · (intro _ _ _ _ _; first | (go_simp; done) | (go_simp; with_reducible rfl))
    clear hHeld; have hHeld := hHeld2; clear hHeld2
    (try simp only [Act.put, List.setIfInBounds_toArray, List.set_cons_zero, List.set_cons_succ])
    refine lReady (rs := [14]) (by kernel_rfl) (by simp) ?_
    refine AllL.cons (i := 14) rfl (fun K hK => ?_) ?_
    · go_simp
      (try go_wp2_with fail)
      refine hK.out _ _ ?_ (fun hHeld2 => ?_)
      · (try dsimp only); (first | with_reducible assumption | go_simp)
      clear hK K
      clear hHeld; have hHeld := hHeld2; clear hHeld2
      (try simp only [Act.put, List.setIfInBounds_toArray, List.set_cons_zero, List.set_cons_succ])
      refine lTake (i := 15) (v := ?_) rfl (by kernel_rfl) (by kernel_rfl) (by kernel_rfl) (fun _ _ _ h => h) (by rfl) (fun _ _ h => h) (fun _ _ h => h) ?_ (by assumption) (fun hHeld2 => ?_)
      rotate_left 1
      · (intro _ _ _ _ _; first | (go_simp; done) | (go_simp; with_reducible rfl))
      clear hHeld; have hHeld := hHeld2; clear hHeld2
      (try simp only [Act.put, List.setIfInBounds_toArray, List.set_cons_zero, List.set_cons_succ])
      refine lReady (rs := [16]) (by kernel_rfl) (by simp) ?_
      refine AllL.cons (i := 16) rfl (fun K hK => ?_) ?_
      · go_simp
        (try go_wp2_with fail)
        refine hK.out _ _ ?_ (fun hHeld2 => ?_)
        · (try dsimp only); (first | with_reducible assumption | go_simp)
        clear hK K
        clear hHeld; have hHeld := hHeld2; clear hHeld2
        (try simp only [Act.put, List.setIfInBounds_toArray, List.set_cons_zero, List.set_cons_succ])
        refine lTake (i := 17) (v := ?_) rfl (by kernel_rfl) (by kernel_rfl) (by kernel_rfl) (fun _ _ _ h => h) (by rfl) (fun _ _ h => h) (fun _ _ h => h) ?_ (by assumption) (fun hHeld2 => ?_)
        rotate_left 1
        · (intro _ _ _ _ _; first | (go_simp; done) | (go_simp; with_reducible rfl))
        clear hHeld; have hHeld := hHeld2; clear hHeld2
        (try simp only [Act.put, List.setIfInBounds_toArray, List.set_cons_zero, List.set_cons_succ])
        refine lReady (rs := [18]) (by kernel_rfl) (by simp) ?_
        refine AllL.cons (i := 18) rfl (fun K hK => ?_) ?_
        · go_simp
          (try go_wp2_with fail)
          refine hK.out _ _ ?_ (fun hHeld2 => ?_)
          · (try dsimp only); (first | with_reducible assumption | go_simp)
          clear hK K
          clear hHeld; have hHeld := hHeld2; clear hHeld2
          (try simp only [Act.put, List.setIfInBounds_toArray, List.set_cons_zero, List.set_cons_succ])
          refine lDone (by kernel_rfl) ?_ _
          clear hHeld
          go_wp2_with fail
          refine bodyPost_ret (v := .tuple #[.agg #[.bool true, .int .i64 (dn + 1), .int .i64 x.k, .int .i64 x.s, .int .i64 x.a, .int .i64 x.b, .int .i64 x.c, .int .i64 tk], .bool true]) (by simp [results, Try.results30, go_sem]) rfl ⟨rfl, poll_end H.out ?_ ?_⟩
          · repeat (first | exact Touch.refl _ _ | refine Touch.put ?_ _ _ | refine Touch.alloc ?_ _ | refine Touch.drew ?_ | refine Touch.drewN ?_ _ | (refine Touch.setCell ?_ (Or.inr (by simp)) _))
          · repeat (first | exact H.out.blk | exact Blk.s5_4 H.out.blk | refine Blk.drew ?_ | refine Blk.drewN ?_ _ | refine Blk.alloc ?_ _ | (refine Blk.setCell_ne ?_ (by simp; omega) _))
        exact AllL.nil
      exact AllL.nil
    exact AllL.nil
end Go.Proofs.Ytafajclbghofkaa
