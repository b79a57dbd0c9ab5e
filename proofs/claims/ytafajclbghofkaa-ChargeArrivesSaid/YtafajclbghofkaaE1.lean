/- A step with a line and the reference's. -/
import Derived.Test.YtafajclbghofkaaE0
namespace Go.Proofs.Ytafajclbghofkaa
open Go.RowKit
set_option linter.unusedVariables false

/-- a line and one of the reference, apart in memory -/
structure LnS (B gx : Nat) (Ax : Option Addr) (cx : Nat) (lx : Ln) (gy : Nat) (Ay : Option Addr) (cy : Nat) (ly : Ln) (W : World) : Prop where
  x : LineAt W B gx Ax cx lx
  y : LineRAt W B gy Ay cy ly
  ne : gx ≠ gy
  xy : ¬ OwnB Ax gy
  yx : ¬ OwnB Ay gx
  rows : ∀ k, OwnB Ax k → ¬ OwnB Ay k
theorem LnS.touch {B gx gy cx cy : Nat} {Ax Ay : Option Addr} {lx ly : Ln} {W W1 : World} {S : Nat → Prop} (h : LnS B gx Ax cx lx gy Ay cy ly W) (ht : Touch S W W1) (h1 : ¬ S gx) (h2 : ¬ S gy) (h3 : ∀ k, OwnB Ax k → ¬ S k) (h4 : ∀ k, OwnB Ay k → ¬ S k) : LnS B gx Ax cx lx gy Ay cy ly W1 :=
  ⟨h.x.touch ht h1 h3, h.y.touch ht h2 h4, h.ne, h.xy, h.yx, h.rows⟩
theorem LnS.below {B gx gy cx cy : Nat} {Ax Ay : Option Addr} {lx ly : Ln} {W W1 : World} (h : LnS B gx Ax cx lx gy Ay cy ly W) (hb : Below W.heap.size W W1) : LnS B gx Ax cx lx gy Ay cy ly W1 :=
  h.touch (S := fun _ => False) (Touch.of_below hb) (fun e => e) (fun e => e) (fun _ _ e => e) (fun _ _ e => e)
theorem LnS.stepX {B gx gy cx cy : Nat} {Ax Ay : Option Addr} {lx ly lx' : Ln} {W W1 : World} (h : LnS B gx Ax cx lx gy Ay cy ly W) (hx : LineTo W B gx Ax lx' W1) : ∃ A' c', LnS B gx A' c' lx' gy Ay cy ly W1 ∧ NewRow W Ax A' := by
  obtain ⟨⟨A', c', hl, hn⟩, ht⟩ := hx
  have hy := h.y.touch ht (fun e => e.elim (fun e => h.ne e.symm) h.xy) (fun k hk e => e.elim (fun e => h.yx (e ▸ hk)) (fun e => h.rows k e hk))
  refine ⟨A', c', ⟨hl, hy, h.ne, fun e => ?_, h.yx, fun k hk hk2 => ?_⟩, hn⟩
  · rcases hn _ e with e | e
    · exact h.xy e
    · have := h.y.blk.lt; omega
  · rcases hn _ hk with e | e
    · exact h.rows k e hk2
    · have := (own_lt h.y.own hk2).2; omega
theorem LnS.stepY {B gx gy cx cy : Nat} {Ax Ay : Option Addr} {lx ly ly' : Ln} {W W1 : World} (h : LnS B gx Ax cx lx gy Ay cy ly W) (hy : LineRTo W B gy Ay ly' W1) : ∃ A' c', LnS B gx Ax cx lx gy A' c' ly' W1 ∧ NewRow W Ay A' := by
  obtain ⟨⟨A', c', hl, hn⟩, ht⟩ := hy
  have hx := h.x.touch ht (fun e => h.ne e) (fun k hk e => h.xy (e ▸ hk))
  refine ⟨A', c', ⟨hx, hl, h.ne, h.xy, fun e => ?_, fun k hk hk2 => ?_⟩, hn⟩
  · rcases hn _ e with e | e
    · exact h.yx e
    · have := h.x.blk.lt; omega
  · rcases hn _ hk2 with e | e
    · exact h.rows k hk e
    · have := (own_lt h.x.own hk).2; omega

/-- in the course of a step: both lines, and the step's own variable -/
structure Run (w : World) (B gx : Nat) (Ax0 : Option Addr) (gy : Nat) (Ay0 : Option Addr) (cs : List Value) (Ax : Option Addr) (cx : Nat) (lx : Ln) (Ay : Option Addr) (cy : Nat) (ly : Ln) (W : World) : Prop where
  s : LnS B gx Ax cx lx gy Ay cy ly W
  t : Touch (fun k => k = gx ∨ OwnB Ax0 k ∨ k = gy) w W
  nx : NewRow w Ax0 Ax
  ny : NewRow w Ay0 Ay
  box : Blk W w.heap.size 75 cs
  hx : gx < w.heap.size
  hy : gy < w.heap.size
  qx : ¬ OwnB Ax w.heap.size
section
variable {w : World} {B gx gy : Nat} {Ax0 Ay0 : Option Addr} {cs : List Value} {Ax Ay : Option Addr} {cx cy : Nat} {lx ly : Ln} {W W1 : World}
theorem Run.stepX {lx' : Ln} (h : Run w B gx Ax0 gy Ay0 cs Ax cx lx Ay cy ly W) (hx : LineTo W B gx Ax lx' W1) : ∃ A' c', Run w B gx Ax0 gy Ay0 cs A' c' lx' Ay cy ly W1 := by
  have ht := hx.2
  obtain ⟨A', c', hs, hn⟩ := h.s.stepX hx
  refine ⟨A', c', hs, h.t.then ht (fun k hk => ?_), fun k hk => ?_, h.ny, h.box.touch ht (fun e => ?_), h.hx, h.hy, fun e => ?_⟩
  · rcases hk with e | e
    · exact .inl (.inl e)
    · rcases h.nx k e with e | e
      · exact .inl (.inr (.inl e))
      · exact .inr e
  · rcases hn k hk with e | e
    · exact h.nx k e
    · exact .inr (Nat.le_trans h.t.size e)
  · rcases e with e | e
    · have := h.hx; omega
    · exact h.qx e
  · rcases hn _ e with e | e
    · exact h.qx e
    · have := h.box.lt; omega
theorem Run.stepY {ly' : Ln} (h : Run w B gx Ax0 gy Ay0 cs Ax cx lx Ay cy ly W) (hy : LineRTo W B gy Ay ly' W1) : ∃ A' c', Run w B gx Ax0 gy Ay0 cs Ax cx lx A' c' ly' W1 := by
  have ht := hy.2
  obtain ⟨A', c', hs, hn⟩ := h.s.stepY hy
  refine ⟨A', c', hs, h.t.then ht (fun k hk => .inl (.inr (.inr hk))), h.nx, fun k hk => ?_, h.box.touch ht (fun e => by have := h.hy; omega), h.hx, h.hy, h.qx⟩
  rcases hn k hk with e | e
  · exact h.ny k e
  · exact .inr (Nat.le_trans h.t.size e)
theorem Run.below (h : Run w B gx Ax0 gy Ay0 cs Ax cx lx Ay cy ly W) (hb : Below W.heap.size W W1) : Run w B gx Ax0 gy Ay0 cs Ax cx lx Ay cy ly W1 :=
  ⟨h.s.below hb, h.t.below hb, h.nx, h.ny, h.box.below hb h.box.lt, h.hx, h.hy, h.qx⟩
theorem Run.alloc (h : Run w B gx Ax0 gy Ay0 cs Ax cx lx Ay cy ly W) (o : Obj) : Run w B gx Ax0 gy Ay0 cs Ax cx lx Ay cy ly (W.alloc o) := h.below ((Below.refl _ _).alloc (Nat.le_refl _) _)
theorem Run.drew (h : Run w B gx Ax0 gy Ay0 cs Ax cx lx Ay cy ly W) : Run w B gx Ax0 gy Ay0 cs Ax cx lx Ay cy ly W.drew := h.below (Below.refl _ _).drew
theorem Run.init (h : LnS B gx Ax cx lx gy Ay cy ly w) (a : Array Value) : Run w B gx Ax gy Ay a.toList Ax cx lx Ay cy ly (w.alloc (.cells a 75)) :=
  ⟨h.below ((Below.refl _ _).alloc (Nat.le_refl _) _), (Touch.refl _ _).alloc _, fun _ h => .inl h, fun _ h => .inl h, Blk.new' w a 75, h.x.blk.lt, h.y.blk.lt, fun e => by have := (own_lt h.x.own e).2; omega⟩
end
/-- what a step leaves -/
def StepTo (b : Int) (w : World) (B gx : Nat) (Ax : Option Addr) (gy : Nat) (Ay : Option Addr) (e : Ending) (w' : World) : Prop :=
  e = .returned (.bool true) ∧ Touch (fun k => k = gx ∨ OwnB Ax k ∨ k = gy) w w' ∧ ∃ Ax' cx' Ay' cy' l', LnS B gx Ax' cx' l' gy Ay' cy' l' w' ∧ Lx.ok (b + 64) l'
theorem Run.done {b : Int} {w W : World} {B gx gy cx cy : Nat} {Ax0 Ay0 Ax Ay : Option Addr} {cs : List Value} {l : Ln} (h : Run w B gx Ax0 gy Ay0 cs Ax cx l Ay cy l W) (hl : Lx.ok (b + 64) l) : StepTo b w B gx Ax0 gy Ay0 (.returned (.bool true)) W :=
  ⟨rfl, h.t, Ax, cx, Ay, cy, l, h.s, hl⟩

theorem boxNote {W : World} {q : Nat} {d : Int} {n : Nt} {r : List Value} (h : Blk W q 75 (.int .u8 d :: .int .i64 n.k :: .int .i64 n.s :: .int .i64 n.a :: .int .i64 n.b :: .int .i64 n.c :: r)) :
    W.cell? ⟨q, 1, none⟩ = some (.int .i64 n.k) ∧ W.cell? ⟨q, 2, none⟩ = some (.int .i64 n.s) ∧ W.cell? ⟨q, 3, none⟩ = some (.int .i64 n.a) ∧ W.cell? ⟨q, 4, none⟩ = some (.int .i64 n.b) ∧ W.cell? ⟨q, 5, none⟩ = some (.int .i64 n.c) :=
  ⟨h.cell 1 rfl, h.cell 2 rfl, h.cell 3 rfl, h.cell 4 rfl, h.cell 5 rfl⟩
theorem Run.hB {w W : World} {B gx gy cx cy : Nat} {Ax0 Ay0 Ax Ay : Option Addr} {cs : List Value} {lx ly : Ln} (h : Run w B gx Ax0 gy Ay0 cs Ax cx lx Ay cy ly W) (hB : B ≤ w.heap.size) : B ≤ W.heap.size := Nat.le_trans hB h.t.size
set_option maxRecDepth 100000 in
set_option maxHeartbeats 8000000 in
theorem line_send (b : Int) (B gx : Nat) (Ax : Option Addr) (cx gy : Nat) (Ay : Option Addr) (cy : Nat) (l : Ln) (d : Int) (n : Nt) (p : Pk) (w : World) (h : LnS B gx Ax cx l gy Ay cy l w) (hB : B ≤ w.heap.size) (hl : Lx.ok b l) (hb : b ≤ 4611686018427387904) (hak : p.ak ≤ 9223372036854775807) (hd : d.tmod 3 = 0) (hd0 : 0 ≤ d ∧ d ≤ 255) :
    Calls Try.prog 35 #[.pointer (some ⟨gx, 0, none⟩), .pointer (some ⟨gy, 0, none⟩), .agg #[.int .u8 d, .int .i64 n.k, .int .i64 n.s, .int .i64 n.a, .int .i64 n.b, .int .i64 n.c, .bool p.has, .int .i64 p.nu, .int .i64 p.nt.k, .int .i64 p.nt.s, .int .i64 p.nt.a, .int .i64 p.nt.b, .int .i64 p.nt.c, .int .i64 p.ak]] w (StepTo b w B gx Ax gy Ay) := by
  have HR := Lib.hid (Run.init h #[.int .u8 d, .int .i64 n.k, .int .i64 n.s, .int .i64 n.a, .int .i64 n.b, .int .i64 n.c, .bool p.has, .int .i64 p.nu, .int .i64 p.nt.k, .int .i64 p.nt.s, .int .i64 p.nt.a, .int .i64 p.nt.b, .int .i64 p.nt.c, .int .i64 p.ak])
  have HB := Lib.hid hB
  have HL := Lib.hid hl
  have Hb := Lib.hid hb
  have HAk := Lib.hid hak
  have HOk := Lib.hid (Lx.ok_mono (Lx.ok_send (n := n) hl) (show b ≤ b + 64 by omega))
  clear h hB hl hb hak
  obtain ⟨se, hse⟩ : ∃ se, se = Lx.sendE l := ⟨_, rfl⟩
  have HSe := Lib.hid hse
  clear hse
  go_enter Try.func35, Try.ntmps35
  go_wp2_with fail
  refine lBegin (S := fun _ W => (W.cell? ⟨w.heap.size, 1, none⟩ = some (.int .i64 n.k) ∧ W.cell? ⟨w.heap.size, 2, none⟩ = some (.int .i64 n.s) ∧ W.cell? ⟨w.heap.size, 3, none⟩ = some (.int .i64 n.a) ∧ W.cell? ⟨w.heap.size, 4, none⟩ = some (.int .i64 n.b) ∧ W.cell? ⟨w.heap.size, 5, none⟩ = some (.int .i64 n.c))) (by kernel_rfl) ?_ (fun hHeld => ?_)
  · (try dsimp only); (first | with_reducible assumption | with_reducible exact boxNote HR.out.drew.box | with_reducible exact boxNote HR2.out.box | with_reducible exact boxNote HR1.out.box)
  refine lTake (i := 0) (v := ?_) rfl (by kernel_rfl) (by kernel_rfl) (by kernel_rfl) (fun _ _ _ h => h) (by rfl) (fun _ _ h => h) (fun _ _ h => h) ?_ (by assumption) (fun hHeld2 => ?_)
  rotate_left 1
  · (intro _ _ _ _ _; first | (go_simp; done) | (go_simp; with_reducible rfl))
  clear hHeld; have hHeld := hHeld2; clear hHeld2
  (try simp only [Act.put, List.setIfInBounds_toArray, List.set_cons_zero, List.set_cons_succ])
  refine lTake (i := 1) (v := ?_) rfl (by kernel_rfl) (by kernel_rfl) (by kernel_rfl) (fun _ _ _ h => h) (by rfl) (fun _ _ h => h) (fun _ _ h => h) ?_ (by assumption) (fun hHeld2 => ?_)
  rotate_left 1
  · (intro _ _ _ _ _; first | (go_simp; done) | (go_simp; with_reducible rfl))
  clear hHeld; have hHeld := hHeld2; clear hHeld2
  (try simp only [Act.put, List.setIfInBounds_toArray, List.set_cons_zero, List.set_cons_succ])
  refine lTake (i := 2) (v := ?_) rfl (by kernel_rfl) (by kernel_rfl) (by kernel_rfl) (fun _ _ _ h => h) (by rfl) (fun _ _ h => h) (fun _ _ h => h) ?_ (by assumption) (fun hHeld2 => ?_)
  rotate_left 1
  · (intro L W _ _ hSw; (try dsimp only at hSw); first | (go_simp; done) | (go_simp; with_reducible rfl))
  clear hHeld; have hHeld := hHeld2; clear hHeld2
  (try simp only [Act.put, List.setIfInBounds_toArray, List.set_cons_zero, List.set_cons_succ])
  refine lTake (i := 4) (v := ?_) rfl (by kernel_rfl) (by kernel_rfl) (by kernel_rfl) (fun _ _ _ h => h) (by rfl) (fun _ _ h => h) (fun _ _ h => h) ?_ (by assumption) (fun hHeld2 => ?_)
  rotate_left 1
  · (intro _ _ _ _ _; first | (go_simp; done) | (go_simp; with_reducible rfl))
  clear hHeld; have hHeld := hHeld2; clear hHeld2
  (try simp only [Act.put, List.setIfInBounds_toArray, List.set_cons_zero, List.set_cons_succ])
  refine lTake (i := 5) (v := ?_) rfl (by kernel_rfl) (by kernel_rfl) (by kernel_rfl) (fun _ _ _ h => h) (by rfl) (fun _ _ h => h) (fun _ _ h => h) ?_ (by assumption) (fun hHeld2 => ?_)
  rotate_left 1
  · (intro _ _ _ _ _; first | (go_simp; done) | (go_simp; with_reducible rfl))
  clear hHeld; have hHeld := hHeld2; clear hHeld2
  (try simp only [Act.put, List.setIfInBounds_toArray, List.set_cons_zero, List.set_cons_succ])
  refine lTake (i := 6) (v := ?_) rfl (by kernel_rfl) (by kernel_rfl) (by kernel_rfl) (fun _ _ _ h => h) (by rfl) (fun _ _ h => h) (fun _ _ h => h) ?_ (by assumption) (fun hHeld2 => ?_)
  rotate_left 1
  · (intro L W _ _ hSw; (try dsimp only at hSw); first | (go_simp; done) | (go_simp; with_reducible rfl))
  clear hHeld; have hHeld := hHeld2; clear hHeld2
  (try simp only [Act.put, List.setIfInBounds_toArray, List.set_cons_zero, List.set_cons_succ])
  refine lReady (rs := [3]) (by kernel_rfl) (by simp) ?_
  refine AllL.cons (i := 3) rfl (fun K hK => ?_) ?_
  · go_simp; (refine (Send_c B gx Ax cx l n _ HR.out.drew.s.x (HR.out.drew.hB HB.out)).mono ?_; rintro e w1 ⟨he, hto⟩; rw [← HSe.out] at he; subst he; obtain ⟨A1, c1, hr1⟩ := HR.out.drew.stepX hto; have HR1 := Lib.hid hr1; clear hr1 hto)
    (try go_wp2_with fail)
    refine hK.out _ _ ?_ (fun hHeld2 => ?_)
    · (try dsimp only); (first | with_reducible assumption | with_reducible exact boxNote HR.out.drew.box | with_reducible exact boxNote HR2.out.box | with_reducible exact boxNote HR1.out.box)
    clear hK K
    clear hHeld; have hHeld := hHeld2; clear hHeld2
    (try simp only [Act.put, List.setIfInBounds_toArray, List.set_cons_zero, List.set_cons_succ])
    refine lReady (rs := [7]) (by kernel_rfl) (by simp) ?_
    refine AllL.cons (i := 7) rfl (fun K hK => ?_) ?_
    · go_simp; (refine (SendR_c B gy Ay cy l n _ HR1.out.s.y (HR1.out.hB HB.out)).mono ?_; rintro e w2 ⟨he, hto⟩; rw [← HSe.out] at he; subst he; obtain ⟨A2, c2, hr2⟩ := HR1.out.stepY hto; have HR2 := Lib.hid hr2; clear hr2 hto)
      (try go_wp2_with fail)
      refine hK.out _ _ ?_ (fun hHeld2 => ?_)
      · (try dsimp only); (first | with_reducible assumption | with_reducible exact boxNote HR.out.drew.box | with_reducible exact boxNote HR2.out.box | with_reducible exact boxNote HR1.out.box)
      clear hK K
      clear hHeld; have hHeld := hHeld2; clear hHeld2
      (try simp only [Act.put, List.setIfInBounds_toArray, List.set_cons_zero, List.set_cons_succ])
      refine lTake (i := 8) (v := ?_) rfl (by kernel_rfl) (by kernel_rfl) (by kernel_rfl) (fun _ _ _ h => h) (by rfl) (fun _ _ h => h) (fun _ _ h => h) ?_ (by assumption) (fun hHeld2 => ?_)
      rotate_left 1
      · (intro _ _ _ _ _; first | (go_simp; done) | (go_simp; with_reducible rfl))
      clear hHeld; have hHeld := hHeld2; clear hHeld2
      (try simp only [Act.put, List.setIfInBounds_toArray, List.set_cons_zero, List.set_cons_succ])
      refine lTake (i := 9) (v := ?_) rfl (by kernel_rfl) (by kernel_rfl) (by kernel_rfl) (fun _ _ _ h => h) (by rfl) (fun _ _ h => h) (fun _ _ h => h) ?_ (by assumption) (fun hHeld2 => ?_)
      rotate_left 1
      · (intro _ _ _ _ _; first | (go_simp; done) | (go_simp; with_reducible rfl))
      clear hHeld; have hHeld := hHeld2; clear hHeld2
      (try simp only [Act.put, List.setIfInBounds_toArray, List.set_cons_zero, List.set_cons_succ])
      refine lDone (by kernel_rfl) ?_ _
      clear hHeld
      go_wp2_with fail
      go_ret
      exact HR2.out.done HOk.out
    exact AllL.nil
  exact AllL.nil
set_option maxRecDepth 100000 in
set_option maxHeartbeats 8000000 in
theorem line_poll (b : Int) (B gx : Nat) (Ax : Option Addr) (cx gy : Nat) (Ay : Option Addr) (cy : Nat) (l : Ln) (d : Int) (n : Nt) (p : Pk) (w : World) (h : LnS B gx Ax cx l gy Ay cy l w) (hB : B ≤ w.heap.size) (hl : Lx.ok b l) (hb : b ≤ 4611686018427387904) (hak : p.ak ≤ 9223372036854775807) (hd : d.tmod 3 = 1) (hd0 : 0 ≤ d ∧ d ≤ 255) :
    Calls Try.prog 35 #[.pointer (some ⟨gx, 0, none⟩), .pointer (some ⟨gy, 0, none⟩), .agg #[.int .u8 d, .int .i64 n.k, .int .i64 n.s, .int .i64 n.a, .int .i64 n.b, .int .i64 n.c, .bool p.has, .int .i64 p.nu, .int .i64 p.nt.k, .int .i64 p.nt.s, .int .i64 p.nt.a, .int .i64 p.nt.b, .int .i64 p.nt.c, .int .i64 p.ak]] w (StepTo b w B gx Ax gy Ay) := by
  have HR := Lib.hid (Run.init h #[.int .u8 d, .int .i64 n.k, .int .i64 n.s, .int .i64 n.a, .int .i64 n.b, .int .i64 n.c, .bool p.has, .int .i64 p.nu, .int .i64 p.nt.k, .int .i64 p.nt.s, .int .i64 p.nt.a, .int .i64 p.nt.b, .int .i64 p.nt.c, .int .i64 p.ak])
  have HB := Lib.hid hB
  have HL := Lib.hid hl
  have Hb := Lib.hid hb
  have HAk := Lib.hid hak
  have HOk := Lib.hid (Lx.ok_mono (Lx.ok_poll hl) (show b ≤ b + 64 by omega))
  clear h hB hl hb hak
  obtain ⟨q, hq⟩ : ∃ q, q = Lx.pollP l := ⟨_, rfl⟩
  obtain ⟨qb, hqb⟩ : ∃ q, q = Lx.pollB l := ⟨_, rfl⟩
  have HQ := Lib.hid hq
  have HQb := Lib.hid hqb
  clear hq hqb
  have heq := fun (w : World) (q : Pk) => runPk w q.has q.nu q.nt.k q.nt.s q.nt.a q.nt.b q.nt.c q.ak
  have hgd := guard62
  go_enter Try.func35, Try.ntmps35
  go_wp2_with (first
    | (go_at_call 30; refine (Poll_c b B gx Ax cx l _ HR.out.s.x HL.out Hb.out).mono ?_; rintro e w1 ⟨he, hto⟩; rw [← HQ.out, ← HQb.out] at he; subst he; obtain ⟨A1, c1, hr1⟩ := HR.out.stepX hto; have HR1 := Lib.hid hr1; clear hr1 hto)
    | (go_at_call 60; refine (PollR_c b B gy Ay cy l _ (HR1.out.alloc _).s.y HL.out Hb.out).mono ?_; rintro e w2 ⟨he, hto⟩; rw [← HQ.out, ← HQb.out] at he; subst he; have bk := Blk.touch (Blk.new' w1 #[.bool q.has, .int .i64 q.nu, .int .i64 q.nt.k, .int .i64 q.nt.s, .int .i64 q.nt.a, .int .i64 q.nt.b, .int .i64 q.nt.c, .int .i64 q.ak] 62) hto.2 (fun e => by have h1 := HR1.out.hy; have h2 := HR1.out.t.size; omega); have hz := bk.lt; have b0 := bk.cell 0 rfl; have b1 := bk.cell 1 rfl; have b2 := bk.cell 2 rfl; have b3 := bk.cell 3 rfl; have b4 := bk.cell 4 rfl; have b5 := bk.cell 5 rfl; have b6 := bk.cell 6 rfl; have b7 := bk.cell 7 rfl; obtain ⟨A2, c2, hr2⟩ := (HR1.out.alloc _).stepY hto; have HR2 := Lib.hid hr2; clear hr2 hto bk))
  go_ret
  exact (HR2.out.alloc _).done HOk.out
set_option maxRecDepth 100000 in
set_option maxHeartbeats 8000000 in
theorem line_recv (b : Int) (B gx : Nat) (Ax : Option Addr) (cx gy : Nat) (Ay : Option Addr) (cy : Nat) (l : Ln) (d : Int) (n : Nt) (p : Pk) (w : World) (h : LnS B gx Ax cx l gy Ay cy l w) (hB : B ≤ w.heap.size) (hl : Lx.ok b l) (hb : b ≤ 4611686018427387904) (hak : p.ak ≤ 9223372036854775807) (hd : d.tmod 3 = 2) (hd0 : 0 ≤ d ∧ d ≤ 255) :
    Calls Try.prog 35 #[.pointer (some ⟨gx, 0, none⟩), .pointer (some ⟨gy, 0, none⟩), .agg #[.int .u8 d, .int .i64 n.k, .int .i64 n.s, .int .i64 n.a, .int .i64 n.b, .int .i64 n.c, .bool p.has, .int .i64 p.nu, .int .i64 p.nt.k, .int .i64 p.nt.s, .int .i64 p.nt.a, .int .i64 p.nt.b, .int .i64 p.nt.c, .int .i64 p.ak]] w (StepTo b w B gx Ax gy Ay) := by
  have HR := Lib.hid (Run.init h #[.int .u8 d, .int .i64 n.k, .int .i64 n.s, .int .i64 n.a, .int .i64 n.b, .int .i64 n.c, .bool p.has, .int .i64 p.nu, .int .i64 p.nt.k, .int .i64 p.nt.s, .int .i64 p.nt.a, .int .i64 p.nt.b, .int .i64 p.nt.c, .int .i64 p.ak])
  have HB := Lib.hid hB
  have HL := Lib.hid hl
  have Hb := Lib.hid hb
  have HAk := Lib.hid hak
  have HOk := Lib.hid (Lx.ok_recv (p := p) hl)
  clear h hB hl hb hak
  obtain ⟨q, hq⟩ : ∃ q, q = Lx.recvN l p := ⟨_, rfl⟩
  obtain ⟨qb, hqb⟩ : ∃ q, q = Lx.recvB l p := ⟨_, rfl⟩
  have HQ := Lib.hid hq
  have HQb := Lib.hid hqb
  clear hq hqb
  have heq := fun (w : World) (q : Nt) => runNt w q.k q.s q.a q.b q.c
  have hgd := guard60
  go_enter Try.func35, Try.ntmps35
  go_wp2_with (first
    | (go_at_call 31; refine (Receive_c b B gx Ax cx l p _ HR.out.s.x (HR.out.hB HB.out) HL.out Hb.out HAk.out).mono ?_; rintro e w1 ⟨he, hto⟩; rw [← HQ.out, ← HQb.out] at he; subst he; obtain ⟨A1, c1, hr1⟩ := HR.out.stepX hto; have hzq := hr1.box.lt; have x6 := hr1.box.cell 6 rfl; have x7 := hr1.box.cell 7 rfl; have x8 := hr1.box.cell 8 rfl; have x9 := hr1.box.cell 9 rfl; have x10 := hr1.box.cell 10 rfl; have x11 := hr1.box.cell 11 rfl; have x12 := hr1.box.cell 12 rfl; have x13 := hr1.box.cell 13 rfl; have HR1 := Lib.hid hr1; clear hr1 hto)
    | (go_at_call 61; refine (ReceiveR_c b B gy Ay cy l p _ (HR1.out.alloc _).s.y ((HR1.out.alloc _).hB HB.out) HL.out Hb.out HAk.out).mono ?_; rintro e w2 ⟨he, hto⟩; rw [← HQ.out, ← HQb.out] at he; subst he; have bk := Blk.touch (Blk.new' w1 #[.int .i64 q.k, .int .i64 q.s, .int .i64 q.a, .int .i64 q.b, .int .i64 q.c] 60) hto.2 (fun e => by have h1 := HR1.out.hy; have h2 := HR1.out.t.size; omega); have hz := bk.lt; have b0 := bk.cell 0 rfl; have b1 := bk.cell 1 rfl; have b2 := bk.cell 2 rfl; have b3 := bk.cell 3 rfl; have b4 := bk.cell 4 rfl; obtain ⟨A2, c2, hr2⟩ := (HR1.out.alloc _).stepY hto; have HR2 := Lib.hid hr2; clear hr2 hto bk x6 x7 x8 x9 x10 x11 x12 x13))
  go_ret
  exact (HR2.out.alloc _).done HOk.out
theorem line_c (b : Int) (B gx : Nat) (Ax : Option Addr) (cx gy : Nat) (Ay : Option Addr) (cy : Nat) (l : Ln) (d : Int) (n : Nt) (p : Pk) (w : World) (h : LnS B gx Ax cx l gy Ay cy l w) (hB : B ≤ w.heap.size) (hl : Lx.ok b l) (hb : b ≤ 4611686018427387904) (hak : p.ak ≤ 9223372036854775807) (hd0 : 0 ≤ d ∧ d ≤ 255) :
    Calls Try.prog 35 #[.pointer (some ⟨gx, 0, none⟩), .pointer (some ⟨gy, 0, none⟩), .agg #[.int .u8 d, .int .i64 n.k, .int .i64 n.s, .int .i64 n.a, .int .i64 n.b, .int .i64 n.c, .bool p.has, .int .i64 p.nu, .int .i64 p.nt.k, .int .i64 p.nt.s, .int .i64 p.nt.a, .int .i64 p.nt.b, .int .i64 p.nt.c, .int .i64 p.ak]] w (StepTo b w B gx Ax gy Ay) := by
  have h3 := Int.emod_nonneg d (show (3 : Int) ≠ 0 by decide)
  have h4 := Int.emod_lt_of_pos d (show (0 : Int) < 3 by decide)
  have h5 : d.tmod 3 = d % 3 := Int.tmod_eq_emod_of_nonneg hd0.1
  have h6 : d.tmod 3 = 0 ∨ d.tmod 3 = 1 ∨ d.tmod 3 = 2 := by omega
  rcases h6 with h6 | h6 | h6
  · exact line_send b B gx Ax cx gy Ay cy l d n p w h hB hl hb hak h6 hd0
  · exact line_poll b B gx Ax cx gy Ay cy l d n p w h hB hl hb hak h6 hd0
  · exact line_recv b B gx Ax cx gy Ay cy l d n p w h hB hl hb hak h6 hd0
end Go.Proofs.Ytafajclbghofkaa
