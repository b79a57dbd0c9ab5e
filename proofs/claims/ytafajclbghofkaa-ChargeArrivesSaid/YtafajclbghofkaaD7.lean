/- Lines of the reference: Receive. -/
import Derived.Test.YtafajclbghofkaaD6
namespace Go.Proofs.Ytafajclbghofkaa
open Go.RowKit
set_option linter.unusedVariables false

/-- behind the acknowledgement, in the reference -/
structure RecvMidR (w : World) (B g : Nat) (A : Option Addr) (p : Pk) (l1 : Ln) (A1 : Option Addr) (cap1 : Nat) (W : World) : Prop where
  line : LineRAt W B g A1 cap1 l1
  row : NewRow w A A1
  touch : Touch (fun k => k = g) w W
  box : Blk W w.heap.size 62 p.cells
  res : Blk W (w.heap.size + 1) 60 Lx.nt0.vals
  off : ¬ OwnB A1 (w.heap.size + 1)
theorem recvR_end {w W W' : World} {B g : Nat} {A A1 : Option Addr} {cap1 : Nat} {p : Pk} {l1 l2 : Ln} (h : RecvMidR w B g A p l1 A1 cap1 W) (hlt : g < w.heap.size) (ht : Touch (fun k => k = g ∨ k = w.heap.size + 1) W W') (hL : l2.L = l1.L)
    (hb : Blk W' g 78 [.slice A1 l1.L.length cap1, .int .i64 l2.dn, .int .i64 l2.tk, .bool l2.ow]) : LineRTo w B g A l2 W' := by
  refine ⟨⟨A1, cap1, ⟨by rw [hL]; exact hb, ?_, h.line.base, h.line.apart⟩, h.row⟩, h.touch.then ht (fun k hk => ?_)⟩
  · rw [hL]
    exact own_keep h.line.own ht (fun k hk e => by
      rcases e with e | e
      · exact h.line.apart (e ▸ hk)
      · exact h.off (e ▸ hk))
  · rcases hk with e | e
    · exact .inl e
    · right; omega
def RecvRTo (w : World) (B g : Nat) (A : Option Addr) (l : Ln) (p : Pk) (e : Ending) (w' : World) : Prop :=
  e = .returned (.tuple #[.agg #[.int .i64 (Lx.recvN l p).k, .int .i64 (Lx.recvN l p).s, .int .i64 (Lx.recvN l p).a, .int .i64 (Lx.recvN l p).b, .int .i64 (Lx.recvN l p).c], .bool (Lx.recvB l p)]) ∧ LineRTo w B g A (Lx.recvL l p) w'
theorem RecvPre.lineR {w W : World} {p : Pk} (h : RecvPre w p W) {B g : Nat} {A : Option Addr} {cap : Nat} {l : Ln} (hl : LineRAt w B g A cap l) : LineRAt W B g A cap l := hl.touch h.t (fun e => e) (fun _ _ e => e)
theorem RecvPre.grown {w W w1 : World} {p : Pk} (h : RecvPre w p W) {e : Nat} (hg : W.grownBy w1 (Value.slice (some ⟨e, 0, none⟩) 0 0).ownBlock) (he : w.heap.size + 2 ≤ e) : RecvPre w p w1 :=
  ⟨h.t.grown hg (fun k hk => .inr (by simp [Value.ownBlock] at hk; omega)), Nat.le_trans h.sz hg.size, h.box.grown hg (by simp [Value.ownBlock]; omega), h.res.grown hg (by simp [Value.ownBlock]; omega)⟩
theorem RecvPre.alloc {w W : World} {p : Pk} (h : RecvPre w p W) (o : Obj) : RecvPre w p (W.alloc o) := ⟨h.t.alloc o, Nat.le_trans h.sz (by simp), h.box.alloc o, h.res.alloc o⟩
theorem RecvPre.drew {w W : World} {p : Pk} (h : RecvPre w p W) : RecvPre w p W.drew := ⟨h.t.drew, h.sz, h.box.drew, h.res.drew⟩
theorem midR_no {w W : World} {B g : Nat} {A : Option Addr} {cap : Nat} {l : Ln} {p : Pk} (h : LineRAt w B g A cap l) (hn : Lx.ackB l p = false) (hP : RecvPre w p W) : ∃ A1 cap1, RecvMidR w B g A p (Lx.ack l p) A1 cap1 W := by
  rw [ack_no hn]
  exact ⟨A, cap, hP.lineR h, fun k hk => .inl hk, hP.t.mono (fun _ e => e.elim), hP.box, hP.res, fun e => by have := (own_lt h.own e).2; omega⟩
theorem midR_yes {w w1 : World} {B Bx g m n' : Nat} {A A' : Option Addr} {cap cap' : Nat} {l : Ln} {p : Pk} (h : LineRAt w B g A cap l) (hB : B ≤ w.heap.size) (hm1 : 1 ≤ m) (hm2 : m ≤ l.L.length) (hp : p.ak = l.dn + m) (hP : RecvPre w p w1) (hsz : w.heap.size + 2 ≤ Bx)
    (hown : w1.ownsRow Bx 60 5 (.slice A' (l.L.drop m).length cap') (l.L.drop m).length (flat (l.L.drop m))) (hn : n' = (l.L.drop m).length) :
    ∃ A1 cap1, RecvMidR w B g A p (Lx.ack l p) A1 cap1 ((w1.setCell ⟨g, 0, none⟩ (.slice A' n' cap')).setCell ⟨g, 1, none⟩ (.int .i64 p.ak)) := by
  subst hn
  rw [ack_yes hp hm1 hm2]
  have hlt := h.blk.lt
  have hA : ∀ k, OwnB A' k → Bx ≤ k := fun k hk => (own_lt hown hk).1
  have hT : Touch (fun k => k = g) w1 ((w1.setCell ⟨g, 0, none⟩ (.slice A' (l.L.drop m).length cap')).setCell ⟨g, 1, none⟩ (.int .i64 p.ak)) := ((Touch.refl _ _).put 0 _).put 1 _
  refine ⟨A', cap', ⟨⟨?_, ?_, h.base, fun e => by have := hA g e; omega⟩, fun k hk => .inr (by have := hA k hk; omega), ?_, ?_, ?_, fun e => by have := hA _ e; omega⟩⟩
  · have h1 := ((hP.lineR h).blk.setCell 0 (.slice A' (l.L.drop m).length cap')).setCell 1 (.int .i64 p.ak)
    rw [hp] at h1 ⊢
    exact h1
  · exact own_keep (own_base hown (by omega)) hT (fun k hk e => by have := hA k hk; omega)
  · exact (hP.t.mono (fun _ e => e.elim)).then hT (fun k e => .inl e)
  · exact hP.box.touch hT (fun e => by omega)
  · exact hP.res.touch hT (fun e => by omega)

set_option maxRecDepth 100000 in
set_option maxHeartbeats 8000000 in
theorem ReceiveR_3 (b : Int) (B g : Nat) (A : Option Addr) (cap : Nat) (l : Ln) (p : Pk) (w : World) (h : LineRAt w B g A cap l) (hB : B ≤ w.heap.size) (hl : Lx.ok b l) (hb : b ≤ 4611686018427387904) (hak : p.ak ≤ 9223372036854775807) (k1 : p.ak ≤ l.dn) :
    Calls Try.prog 61 #[.pointer (some ⟨g, 0, none⟩), .agg #[.bool p.has, .int .i64 p.nu, .int .i64 p.nt.k, .int .i64 p.nt.s, .int .i64 p.nt.a, .int .i64 p.nt.b, .int .i64 p.nt.c, .int .i64 p.ak]] w (RecvRTo w B g A l p) := by
  have hlt := h.blk.lt
  have c0 := h.blk.cell 0 rfl
  have c1 := h.blk.cell 1 rfl
  have c2 := h.blk.cell 2 rfl
  have c3 := h.blk.cell 3 rfl
  have f0 := h.blk.free 0
  have f1 := h.blk.free 1
  have H := Lib.hid h
  have HBase := Lib.hid hB
  have bd := hl.1
  have bt := hl.2.1
  have bl := hl.2.2
  have h1 : IntKind.i64.wrap (l.tk + 1) = l.tk + 1 := IntWalk.i64_in _ (by omega)
  have H1 := Lib.hid h1
  have HP := Lib.hid (pre_init w p)
  have HA := Lib.hid hak
  obtain ⟨len, hlen⟩ : ∃ len, len = l.L.length := ⟨_, rfl⟩
  rw [← hlen] at c0 bl
  have HLen := Lib.hid hlen
  clear h hB hl h1 hak hlen
  have hd : decide (l.dn < p.ak) = false := by simp; omega
  have HD := Lib.hid (show Lx.ackB l p = false by unfold Lx.ackB; rw [hd]; rfl)
  clear bd bt bl k1
  go_enter Try.func61, Try.ntmps61
  go_wp2
  go_quiet (fail)
  refine then_world (fun W => ∃ A1 cap1, RecvMidR w B g A p (Lx.ack l p) A1 cap1 W) (midR_no H.out HD.out (HP.out.drewN _)) ?_
  intro W1 hM
  have HM := Lib.hid hM
  clear hM HD HLen c0 c1 c2 c3 f0 f1 HP
  clear hd
  obtain ⟨A1, cap1, hM⟩ := HM.out
  clear HM
  have d0 := hM.line.blk.cell 0 rfl
  have d1 := hM.line.blk.cell 1 rfl
  have d2 := hM.line.blk.cell 2 rfl
  have d3 := hM.line.blk.cell 3 rfl
  have e2 := hM.line.blk.free 2
  have e3 := hM.line.blk.free 3
  rw [ack_tk] at d2
  have x0 := hM.box.cell 0 rfl
  have x1 := hM.box.cell 1 rfl
  have x2 := hM.box.cell 2 rfl
  have x3 := hM.box.cell 3 rfl
  have x4 := hM.box.cell 4 rfl
  have x5 := hM.box.cell 5 rfl
  have x6 := hM.box.cell 6 rfl
  have r0 := hM.res.cell 0 rfl
  have r1 := hM.res.cell 1 rfl
  have r2 := hM.res.cell 2 rfl
  have r3 := hM.res.cell 3 rfl
  have r4 := hM.res.cell 4 rfl
  have s0 := hM.res.free 0
  have s1 := hM.res.free 1
  have s2 := hM.res.free 2
  have s3 := hM.res.free 3
  have s4 := hM.res.free 4
  have hz : w.heap.size + 1 < W1.heap.size := hM.res.lt
  have HMid := Lib.hid hM
  clear hM
  cases hh : p.has
  · rw [hh] at x0
    have HR := Lib.hid (recv_no (l := l) hh)
    clear hh
    go_wp2_with fail
    refine bodyPost_ret (v := .tuple #[.agg #[.int .i64 0, .int .i64 0, .int .i64 0, .int .i64 0, .int .i64 0], .bool false]) (by simp [results, Try.results61, go_sem, *]) rfl ⟨by rw [HR.out.1, HR.out.2.1]; rfl, ?_⟩
    rw [HR.out.2.2]
    refine recvR_end HMid.out hlt ?_ rfl ?_
    · repeat (first | (refine Touch.setCell ?_ (Or.inl (by simp)) _) | refine Touch.drewN ?_ _ | exact Touch.refl _ _)
    · repeat (first | (refine Blk.setCell_ne ?_ (by simp; omega) _) | refine Blk.drewN ?_ _ | exact HMid.out.line.blk)
  · rw [hh] at x0
    by_cases hn : p.nu = l.tk + 1
    · have HR := Lib.hid (recv_next (l := l) hh hn)
      have hb1 : (p.nu != l.tk + 1) = false := by simp [hn]
      have hw1 := H1.out
      clear hn hh
      go_wp2_with fail
      go_quiet (fail)
      go_wp2_with fail
      refine bodyPost_ret (v := .tuple #[.agg #[.int .i64 p.nt.k, .int .i64 p.nt.s, .int .i64 p.nt.a, .int .i64 p.nt.b, .int .i64 p.nt.c], .bool true]) (by simp [results, Try.results61, go_sem, *]) rfl ⟨by rw [HR.out.1, HR.out.2.1], ?_⟩
      rw [HR.out.2.2]
      refine recvR_end HMid.out hlt ?_ rfl ?_
      · repeat (first | (refine Touch.setCell ?_ (Or.inl (by simp)) _) | refine Touch.drewN ?_ _ | exact Touch.refl _ _)
      · repeat (first | (refine Blk.setCell_ne ?_ (by simp; omega) _) | refine Blk.drewN ?_ _ | exact Blk.s4_2 (Blk.s4_3 HMid.out.line.blk) | exact Blk.s4_2 ((Blk.s4_3 HMid.out.line.blk).drewN _))
    · have HR := Lib.hid (recv_other (l := l) hh hn)
      have hb1 : (p.nu != l.tk + 1) = true := by simp [hn]
      have hw1 := H1.out
      clear hn hh
      go_wp2_with fail
      go_quiet (fail)
      go_wp2_with fail
      refine bodyPost_ret (v := .tuple #[.agg #[.int .i64 0, .int .i64 0, .int .i64 0, .int .i64 0, .int .i64 0], .bool false]) (by simp [results, Try.results61, go_sem, *]) rfl ⟨by rw [HR.out.1, HR.out.2.1]; rfl, ?_⟩
      rw [HR.out.2.2]
      refine recvR_end HMid.out hlt ?_ rfl ?_
      · repeat (first | (refine Touch.setCell ?_ (Or.inl (by simp)) _) | refine Touch.drewN ?_ _ | exact Touch.refl _ _)
      · repeat (first | (refine Blk.setCell_ne ?_ (by simp; omega) _) | refine Blk.drewN ?_ _ | exact Blk.s4_3 HMid.out.line.blk)
set_option maxRecDepth 100000 in
set_option maxHeartbeats 8000000 in
theorem ReceiveR_2 (b : Int) (B g : Nat) (A : Option Addr) (cap : Nat) (l : Ln) (p : Pk) (w : World) (h : LineRAt w B g A cap l) (hB : B ≤ w.heap.size) (hl : Lx.ok b l) (hb : b ≤ 4611686018427387904) (hak : p.ak ≤ 9223372036854775807) (k1 : l.dn < p.ak) (k2 : (l.L.length : Int) < p.ak - l.dn) :
    Calls Try.prog 61 #[.pointer (some ⟨g, 0, none⟩), .agg #[.bool p.has, .int .i64 p.nu, .int .i64 p.nt.k, .int .i64 p.nt.s, .int .i64 p.nt.a, .int .i64 p.nt.b, .int .i64 p.nt.c, .int .i64 p.ak]] w (RecvRTo w B g A l p) := by
  have hlt := h.blk.lt
  have c0 := h.blk.cell 0 rfl
  have c1 := h.blk.cell 1 rfl
  have c2 := h.blk.cell 2 rfl
  have c3 := h.blk.cell 3 rfl
  have f0 := h.blk.free 0
  have f1 := h.blk.free 1
  have H := Lib.hid h
  have HBase := Lib.hid hB
  have bd := hl.1
  have bt := hl.2.1
  have bl := hl.2.2
  have h1 : IntKind.i64.wrap (l.tk + 1) = l.tk + 1 := IntWalk.i64_in _ (by omega)
  have H1 := Lib.hid h1
  have HP := Lib.hid (pre_init w p)
  have HA := Lib.hid hak
  obtain ⟨len, hlen⟩ : ∃ len, len = l.L.length := ⟨_, rfl⟩
  rw [← hlen] at c0 bl
  have HLen := Lib.hid hlen
  clear h hB hl h1 hak hlen
  rw [← HLen.out] at k2
  have hd : decide (l.dn < p.ak) = true := by simp; omega
  have hd2 : decide (p.ak ≤ l.dn + (len : Int)) = false := by simp; omega
  have hw : IntKind.i64.wrap (l.dn + (len : Int)) = l.dn + (len : Int) := IntWalk.i64_in _ (by omega)
  have HD := Lib.hid (show Lx.ackB l p = false by unfold Lx.ackB; rw [hd, ← HLen.out]; simp; omega)
  have HW := Lib.hid hw
  clear bd bt bl k1 k2 hw
  go_enter Try.func61, Try.ntmps61
  go_wp2
  have hw := HW.out
  go_quiet (fail)
  clear hw
  refine then_world (fun W => ∃ A1 cap1, RecvMidR w B g A p (Lx.ack l p) A1 cap1 W) (midR_no H.out HD.out (HP.out.drewN _)) ?_
  intro W1 hM
  have HM := Lib.hid hM
  clear hM HD HLen c0 c1 c2 c3 f0 f1 HP
  clear hd hd2
  obtain ⟨A1, cap1, hM⟩ := HM.out
  clear HM
  have d0 := hM.line.blk.cell 0 rfl
  have d1 := hM.line.blk.cell 1 rfl
  have d2 := hM.line.blk.cell 2 rfl
  have d3 := hM.line.blk.cell 3 rfl
  have e2 := hM.line.blk.free 2
  have e3 := hM.line.blk.free 3
  rw [ack_tk] at d2
  have x0 := hM.box.cell 0 rfl
  have x1 := hM.box.cell 1 rfl
  have x2 := hM.box.cell 2 rfl
  have x3 := hM.box.cell 3 rfl
  have x4 := hM.box.cell 4 rfl
  have x5 := hM.box.cell 5 rfl
  have x6 := hM.box.cell 6 rfl
  have r0 := hM.res.cell 0 rfl
  have r1 := hM.res.cell 1 rfl
  have r2 := hM.res.cell 2 rfl
  have r3 := hM.res.cell 3 rfl
  have r4 := hM.res.cell 4 rfl
  have s0 := hM.res.free 0
  have s1 := hM.res.free 1
  have s2 := hM.res.free 2
  have s3 := hM.res.free 3
  have s4 := hM.res.free 4
  have hz : w.heap.size + 1 < W1.heap.size := hM.res.lt
  have HMid := Lib.hid hM
  clear hM
  cases hh : p.has
  · rw [hh] at x0
    have HR := Lib.hid (recv_no (l := l) hh)
    clear hh
    go_wp2_with fail
    refine bodyPost_ret (v := .tuple #[.agg #[.int .i64 0, .int .i64 0, .int .i64 0, .int .i64 0, .int .i64 0], .bool false]) (by simp [results, Try.results61, go_sem, *]) rfl ⟨by rw [HR.out.1, HR.out.2.1]; rfl, ?_⟩
    rw [HR.out.2.2]
    refine recvR_end HMid.out hlt ?_ rfl ?_
    · repeat (first | (refine Touch.setCell ?_ (Or.inl (by simp)) _) | refine Touch.drewN ?_ _ | exact Touch.refl _ _)
    · repeat (first | (refine Blk.setCell_ne ?_ (by simp; omega) _) | refine Blk.drewN ?_ _ | exact HMid.out.line.blk)
  · rw [hh] at x0
    by_cases hn : p.nu = l.tk + 1
    · have HR := Lib.hid (recv_next (l := l) hh hn)
      have hb1 : (p.nu != l.tk + 1) = false := by simp [hn]
      have hw1 := H1.out
      clear hn hh
      go_wp2_with fail
      go_quiet (fail)
      go_wp2_with fail
      refine bodyPost_ret (v := .tuple #[.agg #[.int .i64 p.nt.k, .int .i64 p.nt.s, .int .i64 p.nt.a, .int .i64 p.nt.b, .int .i64 p.nt.c], .bool true]) (by simp [results, Try.results61, go_sem, *]) rfl ⟨by rw [HR.out.1, HR.out.2.1], ?_⟩
      rw [HR.out.2.2]
      refine recvR_end HMid.out hlt ?_ rfl ?_
      · repeat (first | (refine Touch.setCell ?_ (Or.inl (by simp)) _) | refine Touch.drewN ?_ _ | exact Touch.refl _ _)
      · repeat (first | (refine Blk.setCell_ne ?_ (by simp; omega) _) | refine Blk.drewN ?_ _ | exact Blk.s4_2 (Blk.s4_3 HMid.out.line.blk) | exact Blk.s4_2 ((Blk.s4_3 HMid.out.line.blk).drewN _))
    · have HR := Lib.hid (recv_other (l := l) hh hn)
      have hb1 : (p.nu != l.tk + 1) = true := by simp [hn]
      have hw1 := H1.out
      clear hn hh
      go_wp2_with fail
      go_quiet (fail)
      go_wp2_with fail
      refine bodyPost_ret (v := .tuple #[.agg #[.int .i64 0, .int .i64 0, .int .i64 0, .int .i64 0, .int .i64 0], .bool false]) (by simp [results, Try.results61, go_sem, *]) rfl ⟨by rw [HR.out.1, HR.out.2.1]; rfl, ?_⟩
      rw [HR.out.2.2]
      refine recvR_end HMid.out hlt ?_ rfl ?_
      · repeat (first | (refine Touch.setCell ?_ (Or.inl (by simp)) _) | refine Touch.drewN ?_ _ | exact Touch.refl _ _)
      · repeat (first | (refine Blk.setCell_ne ?_ (by simp; omega) _) | refine Blk.drewN ?_ _ | exact Blk.s4_3 HMid.out.line.blk)
set_option maxRecDepth 100000 in
set_option maxHeartbeats 8000000 in
theorem ReceiveR_a (b : Int) (B g : Nat) (A : Option Addr) (cap : Nat) (l : Ln) (p : Pk) (w : World) (h : LineRAt w B g A cap l) (hB : B ≤ w.heap.size) (hl : Lx.ok b l) (hb : b ≤ 4611686018427387904) (hak : p.ak ≤ 9223372036854775807) (m : Nat) (hm1 : 1 ≤ m) (hm2 : m ≤ l.L.length) (hpk : p.ak = l.dn + m) (hmc : m < cap) :
    Calls Try.prog 61 #[.pointer (some ⟨g, 0, none⟩), .agg #[.bool p.has, .int .i64 p.nu, .int .i64 p.nt.k, .int .i64 p.nt.s, .int .i64 p.nt.a, .int .i64 p.nt.b, .int .i64 p.nt.c, .int .i64 p.ak]] w (RecvRTo w B g A l p) := by
  have hlt := h.blk.lt
  have c0 := h.blk.cell 0 rfl
  have c1 := h.blk.cell 1 rfl
  have c2 := h.blk.cell 2 rfl
  have c3 := h.blk.cell 3 rfl
  have f0 := h.blk.free 0
  have f1 := h.blk.free 1
  have H := Lib.hid h
  have HBase := Lib.hid hB
  have bd := hl.1
  have bt := hl.2.1
  have bl := hl.2.2
  have h1 : IntKind.i64.wrap (l.tk + 1) = l.tk + 1 := IntWalk.i64_in _ (by omega)
  have H1 := Lib.hid h1
  have HP := Lib.hid (pre_init w p)
  have HA := Lib.hid hak
  obtain ⟨len, hlen⟩ : ∃ len, len = l.L.length := ⟨_, rfl⟩
  rw [← hlen] at c0 bl
  have HLen := Lib.hid hlen
  clear h hB hl h1 hak hlen
  rw [← HLen.out] at hm2
  obtain ⟨r, rfl, hnc, hcm⟩ := row_form H.out.own (by rw [← HLen.out]; omega)
  rw [← HLen.out] at hnc
  have hd : decide (l.dn < p.ak) = true := by simp; omega
  have hd2 : decide (p.ak ≤ l.dn + (len : Int)) = true := by simp; omega
  have hw2 : IntKind.i64.wrap (l.dn + (len : Int)) = l.dn + (len : Int) := IntWalk.i64_in _ (by omega)
  have hw : IntKind.i64.wrap (p.ak - l.dn) = (m : Int) := by rw [IntWalk.i64_in _ (by have := HA.out; omega)]; omega
  have HW2 := Lib.hid hw2
  have HW := Lib.hid hw
  have HK := Lib.hid hpk
  clear hpk hw hw2
  unfold maxLen at hcm
  have HLm := Lib.hid (show len - m = (l.L.drop m).length by rw [List.length_drop, HLen.out])
  have HL2 := Lib.hid (show (l.L.drop m).length ≤ 1000000 by rw [List.length_drop, ← HLen.out]; omega)
  have HSrc := Lib.hid (show ∀ W, Touch (fun _ => False) w W → SrcRow W (some ⟨r, m * 5, none⟩) (len - m) (flat (l.L.drop m)) from fun W ht => by
    have h0 := (own_src (own_keep H.out.own ht (fun _ _ e => e)) m (by rw [← HLen.out]; exact hm2)).1
    rw [← HLen.out] at h0
    have ha : (⟨r, 0, none⟩ : Addr).add (m * 5) = ⟨r, m * 5, none⟩ := by unfold Addr.add; rw [if_neg (by omega)]; simp
    simpa [ha] using h0)
  obtain ⟨i0, hi, hz0, hz1, hz2⟩ := info_parts info60
  have F1 := Lib.hid (fun q : Nat => show Blk _ (w.heap.size + 1 + 1) 60 [] from by have := Blk.new' (((w.alloc (.cells #[.bool p.has, .int .i64 p.nu, .int .i64 p.nt.k, .int .i64 p.nt.s, .int .i64 p.nt.a, .int .i64 p.nt.b, .int .i64 p.nt.c, .int .i64 p.ak] 62)).alloc (.cells #[.int .i64 0, .int .i64 0, .int .i64 0, .int .i64 0, .int .i64 0] 60)).drewN q) #[] 60; simp at this; exact this)
  have i1 : (0 : Int) ≤ (m : Int) := by omega
  have i2 : (m : Int) ≤ (len : Int) := by omega
  have i3 : (len : Int) ≤ (cap : Int) := by omega
  go_enter Try.func61, Try.ntmps61
  go_wp2
  have hw2 := HW2.out
  go_quiet (fail)
  clear hw2
  go_wp2_with fail
  have hw := HW.out
  refine lBegin (S := fun L W => (W.cell? ⟨g, 1, none⟩ = some (.int .i64 l.dn) ∧ W.cell? ⟨w.heap.size, 7, none⟩ = some (.int .i64 p.ak)) ∧ (L.getD 17 false = true ∨ (W.cell? ⟨g, 0, none⟩ = some (.slice (some ⟨r, 0, none⟩) len cap)))) (by kernel_rfl) ?_ (fun hHeld => ?_)
  · (try dsimp only); refine ⟨?_, Or.inr ?_⟩
    · (first | with_reducible assumption | with_reducible exact ⟨(((HP.out.drewN _).alloc _).lineR H.out).blk.cell 1 rfl, ((HP.out.drewN _).alloc _).box.cell 7 rfl⟩ | (go_simp; done))
    · (first | with_reducible assumption | (rw [HLen.out]; with_reducible exact (((HP.out.drewN _).alloc _).lineR H.out).blk.cell 0 rfl) | (go_simp; done))
  refine lTake (i := 0) (v := ?_) rfl (by kernel_rfl) (by kernel_rfl) (by kernel_rfl) (fun _ _ _ h => h) (by rfl) (fun _ _ h => by simpa only [getD_set_ne false (show 0 ≠ 17 by decide)] using h) (fun _ _ h => by simpa only [getD_set_ne false (show 0 ≠ 17 by decide)] using h) ?_ (by assumption) (fun hHeld2 => ?_)
  rotate_left 1
  · (intro _ _ _ _ _; first | (go_simp; done) | (go_simp; with_reducible rfl))
  clear hHeld; have hHeld := hHeld2; clear hHeld2
  (try simp only [Act.put, List.setIfInBounds_toArray, List.set_cons_zero, List.set_cons_succ])
  refine lTake (i := 2) (v := ?_) rfl (by kernel_rfl) (by kernel_rfl) (by kernel_rfl) (fun _ _ _ h => h) (by rfl) (fun _ _ h => by simpa only [getD_set_ne false (show 2 ≠ 17 by decide)] using h) (fun _ _ h => by simpa only [getD_set_ne false (show 2 ≠ 17 by decide)] using h) ?_ (by assumption) (fun hHeld2 => ?_)
  rotate_left 1
  · (intro _ _ _ _ _; first | (go_simp; done) | (go_simp; with_reducible rfl))
  clear hHeld; have hHeld := hHeld2; clear hHeld2
  (try simp only [Act.put, List.setIfInBounds_toArray, List.set_cons_zero, List.set_cons_succ])
  refine lTake (i := 3) (v := ?_) rfl (by kernel_rfl) (by kernel_rfl) (by kernel_rfl) (fun _ _ _ h => h) (by rfl) (fun _ _ h => by simpa only [getD_set_ne false (show 3 ≠ 17 by decide)] using h) (fun _ _ h => by simpa only [getD_set_ne false (show 3 ≠ 17 by decide)] using h) ?_ (by assumption) (fun hHeld2 => ?_)
  rotate_left 1
  · (intro _ _ _ _ _; first | (go_simp; done) | (go_simp; with_reducible rfl))
  clear hHeld; have hHeld := hHeld2; clear hHeld2
  (try simp only [Act.put, List.setIfInBounds_toArray, List.set_cons_zero, List.set_cons_succ])
  refine lTake (i := 4) (v := ?_) rfl (by kernel_rfl) (by kernel_rfl) (by kernel_rfl) (fun _ _ _ h => h) (by rfl) (fun _ _ h => by simpa only [getD_set_ne false (show 4 ≠ 17 by decide)] using h) (fun _ _ h => by simpa only [getD_set_ne false (show 4 ≠ 17 by decide)] using h) ?_ (by assumption) (fun hHeld2 => ?_)
  rotate_left 1
  · (intro _ _ _ _ _; first | (go_simp; done) | (go_simp; with_reducible rfl))
  clear hHeld; have hHeld := hHeld2; clear hHeld2
  (try simp only [Act.put, List.setIfInBounds_toArray, List.set_cons_zero, List.set_cons_succ])
  refine lTake (i := 5) (v := ?_) rfl (by kernel_rfl) (by kernel_rfl) (by kernel_rfl) (fun _ _ _ h => h) (by rfl) (fun _ _ h => by simpa only [getD_set_ne false (show 5 ≠ 17 by decide)] using h) (fun _ _ h => by simpa only [getD_set_ne false (show 5 ≠ 17 by decide)] using h) ?_ (by assumption) (fun hHeld2 => ?_)
  rotate_left 1
  · (intro L W hL hK hSw; (try dsimp only at hSw); obtain ⟨h0, h1⟩ := hSw; replace h1 := still [] hK hL (by kernel_rfl) h1; clear hL hK; first | (go_simp; done) | (go_simp; with_reducible rfl))
  clear hHeld; have hHeld := hHeld2; clear hHeld2
  (try simp only [Act.put, List.setIfInBounds_toArray, List.set_cons_zero, List.set_cons_succ])
  refine lTake (i := 6) (v := ?_) rfl (by kernel_rfl) (by kernel_rfl) (by kernel_rfl) (fun _ _ _ h => h) (by rfl) (fun _ _ h => by simpa only [getD_set_ne false (show 6 ≠ 17 by decide)] using h) (fun _ _ h => by simpa only [getD_set_ne false (show 6 ≠ 17 by decide)] using h) ?_ (by assumption) (fun hHeld2 => ?_)
  rotate_left 1
  · (intro _ _ _ _ _; first | (go_simp; done) | (go_simp; with_reducible rfl))
  clear hHeld; have hHeld := hHeld2; clear hHeld2
  (try simp only [Act.put, List.setIfInBounds_toArray, List.set_cons_zero, List.set_cons_succ])
  refine lTake (i := 7) (v := ?_) rfl (by kernel_rfl) (by kernel_rfl) (by kernel_rfl) (fun _ _ _ h => h) (by rfl) (fun _ _ h => by simpa only [getD_set_ne false (show 7 ≠ 17 by decide)] using h) (fun _ _ h => by simpa only [getD_set_ne false (show 7 ≠ 17 by decide)] using h) ?_ (by assumption) (fun hHeld2 => ?_)
  rotate_left 1
  · (intro L W hL hK hSw; (try dsimp only at hSw); obtain ⟨h0, h1⟩ := hSw; replace h1 := still [] hK hL (by kernel_rfl) h1; clear hL hK; first | (go_simp; done) | (go_simp; with_reducible rfl))
  clear hHeld; have hHeld := hHeld2; clear hHeld2
  (try simp only [Act.put, List.setIfInBounds_toArray, List.set_cons_zero, List.set_cons_succ])
  refine lTake (i := 8) (v := ?_) rfl (by kernel_rfl) (by kernel_rfl) (by kernel_rfl) (fun _ _ _ h => h) (by rfl) (fun _ _ h => by simpa only [getD_set_ne false (show 8 ≠ 17 by decide)] using h) (fun _ _ h => by simpa only [getD_set_ne false (show 8 ≠ 17 by decide)] using h) ?_ (by assumption) (fun hHeld2 => ?_)
  rotate_left 1
  · (intro _ _ _ _ _; first | (go_simp; done) | (go_simp; with_reducible rfl))
  clear hHeld; have hHeld := hHeld2; clear hHeld2
  (try simp only [Act.put, List.setIfInBounds_toArray, List.set_cons_zero, List.set_cons_succ])
  refine lTake (i := 9) (v := ?_) rfl (by kernel_rfl) (by kernel_rfl) (by kernel_rfl) (fun _ _ _ h => h) (by rfl) (fun _ _ h => by simpa only [getD_set_ne false (show 9 ≠ 17 by decide)] using h) (fun _ _ h => by simpa only [getD_set_ne false (show 9 ≠ 17 by decide)] using h) ?_ (by assumption) (fun hHeld2 => ?_)
  rotate_left 1
  · (intro _ _ _ _ _; first | (go_simp; done) | (go_simp; with_reducible rfl))
  clear hHeld; have hHeld := hHeld2; clear hHeld2
  (try simp only [Act.put, List.setIfInBounds_toArray, List.set_cons_zero, List.set_cons_succ])
  refine lTake (i := 10) (v := ?_) rfl (by kernel_rfl) (by kernel_rfl) (by kernel_rfl) (fun _ _ _ h => h) (by rfl) (fun _ _ h => by simpa only [getD_set_ne false (show 10 ≠ 17 by decide)] using h) (fun _ _ h => by simpa only [getD_set_ne false (show 10 ≠ 17 by decide)] using h) ?_ (by assumption) (fun hHeld2 => ?_)
  rotate_left 1
  · (intro _ _ _ _ _; first | (go_simp; done) | (go_simp; with_reducible rfl))
  clear hHeld; have hHeld := hHeld2; clear hHeld2
  (try simp only [Act.put, List.setIfInBounds_toArray, List.set_cons_zero, List.set_cons_succ])
  refine lTake (i := 11) (v := ?_) rfl (by kernel_rfl) (by kernel_rfl) (by kernel_rfl) (fun _ _ _ h => h) (by rfl) (fun _ _ h => by simpa only [getD_set_ne false (show 11 ≠ 17 by decide)] using h) (fun _ _ h => by simpa only [getD_set_ne false (show 11 ≠ 17 by decide)] using h) ?_ (by assumption) (fun hHeld2 => ?_)
  rotate_left 1
  · (intro L W hL hK hSw; (try dsimp only at hSw); obtain ⟨h0, h1⟩ := hSw; replace h1 := still [] hK hL (by kernel_rfl) h1; clear hL hK; first | (go_simp; done) | (go_simp; with_reducible rfl))
  clear hHeld; have hHeld := hHeld2; clear hHeld2
  (try simp only [Act.put, List.setIfInBounds_toArray, List.set_cons_zero, List.set_cons_succ])
  refine lTake (i := 12) (v := ?_) rfl (by kernel_rfl) (by kernel_rfl) (by kernel_rfl) (fun _ _ _ h => h) (by rfl) (fun _ _ h => by simpa only [getD_set_ne false (show 12 ≠ 17 by decide)] using h) (fun _ _ h => by simpa only [getD_set_ne false (show 12 ≠ 17 by decide)] using h) ?_ (by assumption) (fun hHeld2 => ?_)
  rotate_left 1
  · (intro _ _ _ _ _; first | (go_simp; done) | (go_simp; with_reducible rfl))
  clear hHeld; have hHeld := hHeld2; clear hHeld2
  (try simp only [Act.put, List.setIfInBounds_toArray, List.set_cons_zero, List.set_cons_succ])
  refine lTake (i := 13) (v := ?_) rfl (by kernel_rfl) (by kernel_rfl) (by kernel_rfl) (fun _ _ _ h => h) (by rfl) (fun _ _ h => by simpa only [getD_set_ne false (show 13 ≠ 17 by decide)] using h) (fun _ _ h => by simpa only [getD_set_ne false (show 13 ≠ 17 by decide)] using h) ?_ (by assumption) (fun hHeld2 => ?_)
  rotate_left 1
  · (intro _ _ _ _ _; first | (go_simp; done) | (go_simp; with_reducible rfl))
  clear hHeld; have hHeld := hHeld2; clear hHeld2
  (try simp only [Act.put, List.setIfInBounds_toArray, List.set_cons_zero, List.set_cons_succ])
  refine lReady (rs := [1]) (by kernel_rfl) (by simp) ?_
  refine AllL.cons (i := 1) rfl (fun K hK => ?_) ?_
  · go_simp
    (try go_wp2_with fail)
    refine hK.out _ _ ?_ (fun hHeld2 => ?_)
    · (try dsimp only); refine ⟨?_, Or.inr ?_⟩
      · (first | with_reducible assumption | with_reducible exact ⟨(((HP.out.drewN _).alloc _).lineR H.out).blk.cell 1 rfl, ((HP.out.drewN _).alloc _).box.cell 7 rfl⟩ | (go_simp; done))
      · (first | with_reducible assumption | (rw [HLen.out]; with_reducible exact (((HP.out.drewN _).alloc _).lineR H.out).blk.cell 0 rfl) | (go_simp; done))
    clear hK K
    clear hHeld; have hHeld := hHeld2; clear hHeld2
    (try simp only [Act.put, List.setIfInBounds_toArray, List.set_cons_zero, List.set_cons_succ])
    refine lReady (rs := [14]) (by kernel_rfl) (by simp) ?_
    refine AllL.cons (i := 14) rfl (fun K hK => ?_) ?_
    · refine step_append_any (.tmp 29) (.tmp 41) 76 rfl rfl (w.heap.size + 2) 60 i0 (.agg #[.int .i64 0, .int .i64 0, .int .i64 0, .int .i64 0, .int .i64 0]) 5 40 Try.underlying76 hi hz0 hz1 hz2 rfl (by decide) _ 0 0 [] (by rfl) (own_empty (F1.out _) (by omega)) (some ⟨r, m * 5, none⟩) (len - m) (cap - m) (flat (l.L.drop m)) (by rfl) (by rw [flat_length, HLm.out]) (HSrc.out _ (by repeat (with_reducible (first | exact Touch.refl _ _ | refine Touch.alloc ?_ _ | refine Touch.drew ?_ | refine Touch.drewN ?_ _)))) (flat_one' (l.L.drop m)) (by have := HL2.out; have := HLm.out; unfold maxLen; omega) (by have := HL2.out; have := HLm.out; omega) (by simp) ?_; intro A1 cap1 w1 hown hgrow hat; have HP1 := Lib.hid (RecvPre.grown ((HP.out.drewN _).alloc _) hgrow (by omega)); have HOw := Lib.hid (show w1.ownsRow (w.heap.size + 2) 60 5 (.slice A1 (l.L.drop m).length cap1) (l.L.drop m).length (flat (l.L.drop m)) from by rw [← HLm.out]; simpa using hown); have hg := (HP1.out.lineR H.out).blk; have d0 : w1.cell? ⟨g, 0, none⟩ = some (.slice (some ⟨r, 0, none⟩) len cap) := (by rw [HLen.out]; exact hg.cell 0 rfl); have d1 := hg.cell 1 rfl; have e0 := hg.free 0; have e1 := hg.free 1; have x7 := HP1.out.box.cell 7 rfl; clear hg hown hgrow hat; try simp only [Nat.zero_add]
      (try go_wp2_with fail)
      refine hK.out _ _ ?_ (fun hHeld2 => ?_)
      · (try dsimp only); refine ⟨?_, Or.inr ?_⟩
        · (first | with_reducible assumption | with_reducible exact ⟨(((HP.out.drewN _).alloc _).lineR H.out).blk.cell 1 rfl, ((HP.out.drewN _).alloc _).box.cell 7 rfl⟩ | (go_simp; done))
        · (first | with_reducible assumption | (rw [HLen.out]; with_reducible exact (((HP.out.drewN _).alloc _).lineR H.out).blk.cell 0 rfl) | (go_simp; done))
      clear hK K
      clear hHeld; have hHeld := hHeld2; clear hHeld2
      (try simp only [Act.put, List.setIfInBounds_toArray, List.set_cons_zero, List.set_cons_succ])
      refine lTake (i := 15) (v := ?_) rfl (by kernel_rfl) (by kernel_rfl) (by kernel_rfl) (fun _ _ _ h => h) (by rfl) (fun _ _ h => by simpa only [getD_set_ne false (show 15 ≠ 17 by decide)] using h) (fun _ _ h => by simpa only [getD_set_ne false (show 15 ≠ 17 by decide)] using h) ?_ (by assumption) (fun hHeld2 => ?_)
      rotate_left 1
      · (intro _ _ _ _ _; first | (go_simp; done) | (go_simp; with_reducible rfl))
      clear hHeld; have hHeld := hHeld2; clear hHeld2
      (try simp only [Act.put, List.setIfInBounds_toArray, List.set_cons_zero, List.set_cons_succ])
      refine lTake (i := 16) (v := ?_) rfl (by kernel_rfl) (by kernel_rfl) (by kernel_rfl) (fun _ _ _ h => h) (by rfl) (fun _ _ h => by simpa only [getD_set_ne false (show 16 ≠ 17 by decide)] using h) (fun _ _ h => by simpa only [getD_set_ne false (show 16 ≠ 17 by decide)] using h) ?_ (by assumption) (fun hHeld2 => ?_)
      rotate_left 1
      · (intro _ _ _ _ _; first | (go_simp; done) | (go_simp; with_reducible rfl))
      clear hHeld; have hHeld := hHeld2; clear hHeld2
      (try simp only [Act.put, List.setIfInBounds_toArray, List.set_cons_zero, List.set_cons_succ])
      refine lReady (rs := [17]) (by kernel_rfl) (by simp) ?_
      refine AllL.cons (i := 17) rfl (fun K hK => ?_) ?_
      · go_simp
        (try go_wp2_with fail)
        refine hK.out _ _ ?_ (fun hHeld2 => ?_)
        · (try dsimp only); refine ⟨?_, Or.inl (by rfl)⟩
          · (first | with_reducible assumption | with_reducible exact ⟨(((HP.out.drewN _).alloc _).lineR H.out).blk.cell 1 rfl, ((HP.out.drewN _).alloc _).box.cell 7 rfl⟩ | (go_simp; done))
        clear hK K
        clear hHeld; have hHeld := hHeld2; clear hHeld2
        (try simp only [Act.put, List.setIfInBounds_toArray, List.set_cons_zero, List.set_cons_succ])
        refine lDone (by kernel_rfl) ?_ _
        clear hHeld hw
        go_upto_region 4 with fail
        refine wp_world (fun W => ∃ A1 cap1, RecvMidR w B g (some ⟨r, 0, none⟩) p (Lx.ack l p) A1 cap1 W) (midR_yes H.out HBase.out hm1 (by rw [← HLen.out]; exact hm2) HK.out HP1.out (Nat.le_refl _) HOw.out HLm.out) ?_
        intro W1 hM
        have HM := Lib.hid hM
        clear hM d0 d1 e0 e1 x7 HP1 HOw HP HLen HLm HL2 HSrc HK HW HW2 F1 c0 c1 c2 c3 f0 f1 hd hd2 hm1 hm2 hnc hcm hmc bd bt bl i1 i2 i3
        obtain ⟨A1, cap1, hM⟩ := HM.out
        clear HM
        have d0 := hM.line.blk.cell 0 rfl
        have d1 := hM.line.blk.cell 1 rfl
        have d2 := hM.line.blk.cell 2 rfl
        have d3 := hM.line.blk.cell 3 rfl
        have e2 := hM.line.blk.free 2
        have e3 := hM.line.blk.free 3
        rw [ack_tk] at d2
        have x0 := hM.box.cell 0 rfl
        have x1 := hM.box.cell 1 rfl
        have x2 := hM.box.cell 2 rfl
        have x3 := hM.box.cell 3 rfl
        have x4 := hM.box.cell 4 rfl
        have x5 := hM.box.cell 5 rfl
        have x6 := hM.box.cell 6 rfl
        have r0 := hM.res.cell 0 rfl
        have r1 := hM.res.cell 1 rfl
        have r2 := hM.res.cell 2 rfl
        have r3 := hM.res.cell 3 rfl
        have r4 := hM.res.cell 4 rfl
        have s0 := hM.res.free 0
        have s1 := hM.res.free 1
        have s2 := hM.res.free 2
        have s3 := hM.res.free 3
        have s4 := hM.res.free 4
        have hz : w.heap.size + 1 < W1.heap.size := hM.res.lt
        have HMid := Lib.hid hM
        clear hM
        cases hh : p.has
        · rw [hh] at x0
          have HR := Lib.hid (recv_no (l := l) hh)
          clear hh
          go_wp2_with fail
          refine bodyPost_ret (v := .tuple #[.agg #[.int .i64 0, .int .i64 0, .int .i64 0, .int .i64 0, .int .i64 0], .bool false]) (by simp [results, Try.results61, go_sem, *]) rfl ⟨by rw [HR.out.1, HR.out.2.1]; rfl, ?_⟩
          rw [HR.out.2.2]
          refine recvR_end HMid.out hlt ?_ rfl ?_
          · repeat (first | (refine Touch.setCell ?_ (Or.inl (by simp)) _) | refine Touch.drewN ?_ _ | exact Touch.refl _ _)
          · repeat (first | (refine Blk.setCell_ne ?_ (by simp; omega) _) | refine Blk.drewN ?_ _ | exact HMid.out.line.blk)
        · rw [hh] at x0
          by_cases hn : p.nu = l.tk + 1
          · have HR := Lib.hid (recv_next (l := l) hh hn)
            have hb1 : (p.nu != l.tk + 1) = false := by simp [hn]
            have hw1 := H1.out
            clear hn hh
            go_wp2_with fail
            go_quiet (fail)
            go_wp2_with fail
            refine bodyPost_ret (v := .tuple #[.agg #[.int .i64 p.nt.k, .int .i64 p.nt.s, .int .i64 p.nt.a, .int .i64 p.nt.b, .int .i64 p.nt.c], .bool true]) (by simp [results, Try.results61, go_sem, *]) rfl ⟨by rw [HR.out.1, HR.out.2.1], ?_⟩
            rw [HR.out.2.2]
            refine recvR_end HMid.out hlt ?_ rfl ?_
            · repeat (first | (refine Touch.setCell ?_ (Or.inl (by simp)) _) | refine Touch.drewN ?_ _ | exact Touch.refl _ _)
            · repeat (first | (refine Blk.setCell_ne ?_ (by simp; omega) _) | refine Blk.drewN ?_ _ | exact Blk.s4_2 (Blk.s4_3 HMid.out.line.blk) | exact Blk.s4_2 ((Blk.s4_3 HMid.out.line.blk).drewN _))
          · have HR := Lib.hid (recv_other (l := l) hh hn)
            have hb1 : (p.nu != l.tk + 1) = true := by simp [hn]
            have hw1 := H1.out
            clear hn hh
            go_wp2_with fail
            go_quiet (fail)
            go_wp2_with fail
            refine bodyPost_ret (v := .tuple #[.agg #[.int .i64 0, .int .i64 0, .int .i64 0, .int .i64 0, .int .i64 0], .bool false]) (by simp [results, Try.results61, go_sem, *]) rfl ⟨by rw [HR.out.1, HR.out.2.1]; rfl, ?_⟩
            rw [HR.out.2.2]
            refine recvR_end HMid.out hlt ?_ rfl ?_
            · repeat (first | (refine Touch.setCell ?_ (Or.inl (by simp)) _) | refine Touch.drewN ?_ _ | exact Touch.refl _ _)
            · repeat (first | (refine Blk.setCell_ne ?_ (by simp; omega) _) | refine Blk.drewN ?_ _ | exact Blk.s4_3 HMid.out.line.blk)
      exact AllL.nil
    exact AllL.nil
  exact AllL.nil
set_option maxRecDepth 100000 in
set_option maxHeartbeats 8000000 in
theorem ReceiveR_b (b : Int) (B g : Nat) (A : Option Addr) (cap : Nat) (l : Ln) (p : Pk) (w : World) (h : LineRAt w B g A cap l) (hB : B ≤ w.heap.size) (hl : Lx.ok b l) (hb : b ≤ 4611686018427387904) (hak : p.ak ≤ 9223372036854775807) (m : Nat) (hm1 : 1 ≤ m) (hm2 : m ≤ l.L.length) (hpk : p.ak = l.dn + m) (hmc : cap ≤ m) :
    Calls Try.prog 61 #[.pointer (some ⟨g, 0, none⟩), .agg #[.bool p.has, .int .i64 p.nu, .int .i64 p.nt.k, .int .i64 p.nt.s, .int .i64 p.nt.a, .int .i64 p.nt.b, .int .i64 p.nt.c, .int .i64 p.ak]] w (RecvRTo w B g A l p) := by
  have hlt := h.blk.lt
  have c0 := h.blk.cell 0 rfl
  have c1 := h.blk.cell 1 rfl
  have c2 := h.blk.cell 2 rfl
  have c3 := h.blk.cell 3 rfl
  have f0 := h.blk.free 0
  have f1 := h.blk.free 1
  have H := Lib.hid h
  have HBase := Lib.hid hB
  have bd := hl.1
  have bt := hl.2.1
  have bl := hl.2.2
  have h1 : IntKind.i64.wrap (l.tk + 1) = l.tk + 1 := IntWalk.i64_in _ (by omega)
  have H1 := Lib.hid h1
  have HP := Lib.hid (pre_init w p)
  have HA := Lib.hid hak
  obtain ⟨len, hlen⟩ : ∃ len, len = l.L.length := ⟨_, rfl⟩
  rw [← hlen] at c0 bl
  have HLen := Lib.hid hlen
  clear h hB hl h1 hak hlen
  rw [← HLen.out] at hm2
  obtain ⟨r, rfl, hnc, hcm⟩ := row_form H.out.own (by rw [← HLen.out]; omega)
  rw [← HLen.out] at hnc
  have hd : decide (l.dn < p.ak) = true := by simp; omega
  have hd2 : decide (p.ak ≤ l.dn + (len : Int)) = true := by simp; omega
  have hw2 : IntKind.i64.wrap (l.dn + (len : Int)) = l.dn + (len : Int) := IntWalk.i64_in _ (by omega)
  have hw : IntKind.i64.wrap (p.ak - l.dn) = (m : Int) := by rw [IntWalk.i64_in _ (by have := HA.out; omega)]; omega
  have HW2 := Lib.hid hw2
  have HW := Lib.hid hw
  have HK := Lib.hid hpk
  clear hpk hw hw2
  unfold maxLen at hcm
  have HLm := Lib.hid (show len - m = (l.L.drop m).length by rw [List.length_drop, HLen.out])
  have HL2 := Lib.hid (show (l.L.drop m).length ≤ 1000000 by rw [List.length_drop, ← HLen.out]; omega)
  have HSrc := Lib.hid (show ∀ W, Touch (fun _ => False) w W → SrcRow W (some ⟨r, 0, none⟩) (len - m) (flat (l.L.drop m)) from fun W ht => by
    rw [List.drop_eq_nil_of_le (by rw [← HLen.out]; omega)]
    exact .inr ⟨_, rfl, fun j u hu => by simp [flat] at hu⟩)
  obtain ⟨i0, hi, hz0, hz1, hz2⟩ := info_parts info60
  have F1 := Lib.hid (fun q : Nat => show Blk _ (w.heap.size + 1 + 1) 60 [] from by have := Blk.new' (((w.alloc (.cells #[.bool p.has, .int .i64 p.nu, .int .i64 p.nt.k, .int .i64 p.nt.s, .int .i64 p.nt.a, .int .i64 p.nt.b, .int .i64 p.nt.c, .int .i64 p.ak] 62)).alloc (.cells #[.int .i64 0, .int .i64 0, .int .i64 0, .int .i64 0, .int .i64 0] 60)).drewN q) #[] 60; simp at this; exact this)
  have i1 : (0 : Int) ≤ (m : Int) := by omega
  have i2 : (m : Int) ≤ (len : Int) := by omega
  have i3 : (len : Int) ≤ (cap : Int) := by omega
  go_enter Try.func61, Try.ntmps61
  go_wp2
  have hw2 := HW2.out
  go_quiet (fail)
  clear hw2
  go_wp2_with fail
  have hw := HW.out
  refine lBegin (S := fun L W => (W.cell? ⟨g, 1, none⟩ = some (.int .i64 l.dn) ∧ W.cell? ⟨w.heap.size, 7, none⟩ = some (.int .i64 p.ak)) ∧ (L.getD 17 false = true ∨ (W.cell? ⟨g, 0, none⟩ = some (.slice (some ⟨r, 0, none⟩) len cap)))) (by kernel_rfl) ?_ (fun hHeld => ?_)
  · (try dsimp only); refine ⟨?_, Or.inr ?_⟩
    · (first | with_reducible assumption | with_reducible exact ⟨(((HP.out.drewN _).alloc _).lineR H.out).blk.cell 1 rfl, ((HP.out.drewN _).alloc _).box.cell 7 rfl⟩ | (go_simp; done))
    · (first | with_reducible assumption | (rw [HLen.out]; with_reducible exact (((HP.out.drewN _).alloc _).lineR H.out).blk.cell 0 rfl) | (go_simp; done))
  refine lTake (i := 0) (v := ?_) rfl (by kernel_rfl) (by kernel_rfl) (by kernel_rfl) (fun _ _ _ h => h) (by rfl) (fun _ _ h => by simpa only [getD_set_ne false (show 0 ≠ 17 by decide)] using h) (fun _ _ h => by simpa only [getD_set_ne false (show 0 ≠ 17 by decide)] using h) ?_ (by assumption) (fun hHeld2 => ?_)
  rotate_left 1
  · (intro _ _ _ _ _; first | (go_simp; done) | (go_simp; with_reducible rfl))
  clear hHeld; have hHeld := hHeld2; clear hHeld2
  (try simp only [Act.put, List.setIfInBounds_toArray, List.set_cons_zero, List.set_cons_succ])
  refine lTake (i := 2) (v := ?_) rfl (by kernel_rfl) (by kernel_rfl) (by kernel_rfl) (fun _ _ _ h => h) (by rfl) (fun _ _ h => by simpa only [getD_set_ne false (show 2 ≠ 17 by decide)] using h) (fun _ _ h => by simpa only [getD_set_ne false (show 2 ≠ 17 by decide)] using h) ?_ (by assumption) (fun hHeld2 => ?_)
  rotate_left 1
  · (intro _ _ _ _ _; first | (go_simp; done) | (go_simp; with_reducible rfl))
  clear hHeld; have hHeld := hHeld2; clear hHeld2
  (try simp only [Act.put, List.setIfInBounds_toArray, List.set_cons_zero, List.set_cons_succ])
  refine lTake (i := 3) (v := ?_) rfl (by kernel_rfl) (by kernel_rfl) (by kernel_rfl) (fun _ _ _ h => h) (by rfl) (fun _ _ h => by simpa only [getD_set_ne false (show 3 ≠ 17 by decide)] using h) (fun _ _ h => by simpa only [getD_set_ne false (show 3 ≠ 17 by decide)] using h) ?_ (by assumption) (fun hHeld2 => ?_)
  rotate_left 1
  · (intro _ _ _ _ _; first | (go_simp; done) | (go_simp; with_reducible rfl))
  clear hHeld; have hHeld := hHeld2; clear hHeld2
  (try simp only [Act.put, List.setIfInBounds_toArray, List.set_cons_zero, List.set_cons_succ])
  refine lTake (i := 4) (v := ?_) rfl (by kernel_rfl) (by kernel_rfl) (by kernel_rfl) (fun _ _ _ h => h) (by rfl) (fun _ _ h => by simpa only [getD_set_ne false (show 4 ≠ 17 by decide)] using h) (fun _ _ h => by simpa only [getD_set_ne false (show 4 ≠ 17 by decide)] using h) ?_ (by assumption) (fun hHeld2 => ?_)
  rotate_left 1
  · (intro _ _ _ _ _; first | (go_simp; done) | (go_simp; with_reducible rfl))
  clear hHeld; have hHeld := hHeld2; clear hHeld2
  (try simp only [Act.put, List.setIfInBounds_toArray, List.set_cons_zero, List.set_cons_succ])
  refine lTake (i := 5) (v := ?_) rfl (by kernel_rfl) (by kernel_rfl) (by kernel_rfl) (fun _ _ _ h => h) (by rfl) (fun _ _ h => by simpa only [getD_set_ne false (show 5 ≠ 17 by decide)] using h) (fun _ _ h => by simpa only [getD_set_ne false (show 5 ≠ 17 by decide)] using h) ?_ (by assumption) (fun hHeld2 => ?_)
  rotate_left 1
  · (intro L W hL hK hSw; (try dsimp only at hSw); obtain ⟨h0, h1⟩ := hSw; replace h1 := still [] hK hL (by kernel_rfl) h1; clear hL hK; first | (go_simp; done) | (go_simp; with_reducible rfl))
  clear hHeld; have hHeld := hHeld2; clear hHeld2
  (try simp only [Act.put, List.setIfInBounds_toArray, List.set_cons_zero, List.set_cons_succ])
  refine lTake (i := 6) (v := ?_) rfl (by kernel_rfl) (by kernel_rfl) (by kernel_rfl) (fun _ _ _ h => h) (by rfl) (fun _ _ h => by simpa only [getD_set_ne false (show 6 ≠ 17 by decide)] using h) (fun _ _ h => by simpa only [getD_set_ne false (show 6 ≠ 17 by decide)] using h) ?_ (by assumption) (fun hHeld2 => ?_)
  rotate_left 1
  · (intro _ _ _ _ _; first | (go_simp; done) | (go_simp; with_reducible rfl))
  clear hHeld; have hHeld := hHeld2; clear hHeld2
  (try simp only [Act.put, List.setIfInBounds_toArray, List.set_cons_zero, List.set_cons_succ])
  refine lTake (i := 7) (v := ?_) rfl (by kernel_rfl) (by kernel_rfl) (by kernel_rfl) (fun _ _ _ h => h) (by rfl) (fun _ _ h => by simpa only [getD_set_ne false (show 7 ≠ 17 by decide)] using h) (fun _ _ h => by simpa only [getD_set_ne false (show 7 ≠ 17 by decide)] using h) ?_ (by assumption) (fun hHeld2 => ?_)
  rotate_left 1
  · (intro L W hL hK hSw; (try dsimp only at hSw); obtain ⟨h0, h1⟩ := hSw; replace h1 := still [] hK hL (by kernel_rfl) h1; clear hL hK; first | (go_simp; done) | (go_simp; with_reducible rfl))
  clear hHeld; have hHeld := hHeld2; clear hHeld2
  (try simp only [Act.put, List.setIfInBounds_toArray, List.set_cons_zero, List.set_cons_succ])
  refine lTake (i := 8) (v := ?_) rfl (by kernel_rfl) (by kernel_rfl) (by kernel_rfl) (fun _ _ _ h => h) (by rfl) (fun _ _ h => by simpa only [getD_set_ne false (show 8 ≠ 17 by decide)] using h) (fun _ _ h => by simpa only [getD_set_ne false (show 8 ≠ 17 by decide)] using h) ?_ (by assumption) (fun hHeld2 => ?_)
  rotate_left 1
  · (intro _ _ _ _ _; first | (go_simp; done) | (go_simp; with_reducible rfl))
  clear hHeld; have hHeld := hHeld2; clear hHeld2
  (try simp only [Act.put, List.setIfInBounds_toArray, List.set_cons_zero, List.set_cons_succ])
  refine lTake (i := 9) (v := ?_) rfl (by kernel_rfl) (by kernel_rfl) (by kernel_rfl) (fun _ _ _ h => h) (by rfl) (fun _ _ h => by simpa only [getD_set_ne false (show 9 ≠ 17 by decide)] using h) (fun _ _ h => by simpa only [getD_set_ne false (show 9 ≠ 17 by decide)] using h) ?_ (by assumption) (fun hHeld2 => ?_)
  rotate_left 1
  · (intro _ _ _ _ _; first | (go_simp; done) | (go_simp; with_reducible rfl))
  clear hHeld; have hHeld := hHeld2; clear hHeld2
  (try simp only [Act.put, List.setIfInBounds_toArray, List.set_cons_zero, List.set_cons_succ])
  refine lTake (i := 10) (v := ?_) rfl (by kernel_rfl) (by kernel_rfl) (by kernel_rfl) (fun _ _ _ h => h) (by rfl) (fun _ _ h => by simpa only [getD_set_ne false (show 10 ≠ 17 by decide)] using h) (fun _ _ h => by simpa only [getD_set_ne false (show 10 ≠ 17 by decide)] using h) ?_ (by assumption) (fun hHeld2 => ?_)
  rotate_left 1
  · (intro _ _ _ _ _; first | (go_simp; done) | (go_simp; with_reducible rfl))
  clear hHeld; have hHeld := hHeld2; clear hHeld2
  (try simp only [Act.put, List.setIfInBounds_toArray, List.set_cons_zero, List.set_cons_succ])
  refine lTake (i := 11) (v := ?_) rfl (by kernel_rfl) (by kernel_rfl) (by kernel_rfl) (fun _ _ _ h => h) (by rfl) (fun _ _ h => by simpa only [getD_set_ne false (show 11 ≠ 17 by decide)] using h) (fun _ _ h => by simpa only [getD_set_ne false (show 11 ≠ 17 by decide)] using h) ?_ (by assumption) (fun hHeld2 => ?_)
  rotate_left 1
  · (intro L W hL hK hSw; (try dsimp only at hSw); obtain ⟨h0, h1⟩ := hSw; replace h1 := still [] hK hL (by kernel_rfl) h1; clear hL hK; first | (go_simp; done) | (go_simp; with_reducible rfl))
  clear hHeld; have hHeld := hHeld2; clear hHeld2
  (try simp only [Act.put, List.setIfInBounds_toArray, List.set_cons_zero, List.set_cons_succ])
  refine lTake (i := 12) (v := ?_) rfl (by kernel_rfl) (by kernel_rfl) (by kernel_rfl) (fun _ _ _ h => h) (by rfl) (fun _ _ h => by simpa only [getD_set_ne false (show 12 ≠ 17 by decide)] using h) (fun _ _ h => by simpa only [getD_set_ne false (show 12 ≠ 17 by decide)] using h) ?_ (by assumption) (fun hHeld2 => ?_)
  rotate_left 1
  · (intro _ _ _ _ _; first | (go_simp; done) | (go_simp; with_reducible rfl))
  clear hHeld; have hHeld := hHeld2; clear hHeld2
  (try simp only [Act.put, List.setIfInBounds_toArray, List.set_cons_zero, List.set_cons_succ])
  refine lTake (i := 13) (v := ?_) rfl (by kernel_rfl) (by kernel_rfl) (by kernel_rfl) (fun _ _ _ h => h) (by rfl) (fun _ _ h => by simpa only [getD_set_ne false (show 13 ≠ 17 by decide)] using h) (fun _ _ h => by simpa only [getD_set_ne false (show 13 ≠ 17 by decide)] using h) ?_ (by assumption) (fun hHeld2 => ?_)
  rotate_left 1
  · (intro _ _ _ _ _; first | (go_simp; done) | (go_simp; with_reducible rfl))
  clear hHeld; have hHeld := hHeld2; clear hHeld2
  (try simp only [Act.put, List.setIfInBounds_toArray, List.set_cons_zero, List.set_cons_succ])
  refine lReady (rs := [1]) (by kernel_rfl) (by simp) ?_
  refine AllL.cons (i := 1) rfl (fun K hK => ?_) ?_
  · go_simp
    (try go_wp2_with fail)
    refine hK.out _ _ ?_ (fun hHeld2 => ?_)
    · (try dsimp only); refine ⟨?_, Or.inr ?_⟩
      · (first | with_reducible assumption | with_reducible exact ⟨(((HP.out.drewN _).alloc _).lineR H.out).blk.cell 1 rfl, ((HP.out.drewN _).alloc _).box.cell 7 rfl⟩ | (go_simp; done))
      · (first | with_reducible assumption | (rw [HLen.out]; with_reducible exact (((HP.out.drewN _).alloc _).lineR H.out).blk.cell 0 rfl) | (go_simp; done))
    clear hK K
    clear hHeld; have hHeld := hHeld2; clear hHeld2
    (try simp only [Act.put, List.setIfInBounds_toArray, List.set_cons_zero, List.set_cons_succ])
    refine lReady (rs := [14]) (by kernel_rfl) (by simp) ?_
    refine AllL.cons (i := 14) rfl (fun K hK => ?_) ?_
    · refine step_append_any (.tmp 29) (.tmp 41) 76 rfl rfl (w.heap.size + 2) 60 i0 (.agg #[.int .i64 0, .int .i64 0, .int .i64 0, .int .i64 0, .int .i64 0]) 5 40 Try.underlying76 hi hz0 hz1 hz2 rfl (by decide) _ 0 0 [] (by rfl) (own_empty (F1.out _) (by omega)) (some ⟨r, 0, none⟩) (len - m) _ (flat (l.L.drop m)) (by rfl) (by rw [flat_length, HLm.out]) (HSrc.out _ (by repeat (with_reducible (first | exact Touch.refl _ _ | refine Touch.alloc ?_ _ | refine Touch.drew ?_ | refine Touch.drewN ?_ _)))) (flat_one' (l.L.drop m)) (by have := HL2.out; have := HLm.out; unfold maxLen; omega) (by have := HL2.out; have := HLm.out; omega) (by simp) ?_; intro A1 cap1 w1 hown hgrow hat; have HP1 := Lib.hid (RecvPre.grown ((HP.out.drewN _).alloc _) hgrow (by omega)); have HOw := Lib.hid (show w1.ownsRow (w.heap.size + 2) 60 5 (.slice A1 (l.L.drop m).length cap1) (l.L.drop m).length (flat (l.L.drop m)) from by rw [← HLm.out]; simpa using hown); have hg := (HP1.out.lineR H.out).blk; have d0 : w1.cell? ⟨g, 0, none⟩ = some (.slice (some ⟨r, 0, none⟩) len cap) := (by rw [HLen.out]; exact hg.cell 0 rfl); have d1 := hg.cell 1 rfl; have e0 := hg.free 0; have e1 := hg.free 1; have x7 := HP1.out.box.cell 7 rfl; clear hg hown hgrow hat; try simp only [Nat.zero_add]
      (try go_wp2_with fail)
      refine hK.out _ _ ?_ (fun hHeld2 => ?_)
      · (try dsimp only); refine ⟨?_, Or.inr ?_⟩
        · (first | with_reducible assumption | with_reducible exact ⟨(((HP.out.drewN _).alloc _).lineR H.out).blk.cell 1 rfl, ((HP.out.drewN _).alloc _).box.cell 7 rfl⟩ | (go_simp; done))
        · (first | with_reducible assumption | (rw [HLen.out]; with_reducible exact (((HP.out.drewN _).alloc _).lineR H.out).blk.cell 0 rfl) | (go_simp; done))
      clear hK K
      clear hHeld; have hHeld := hHeld2; clear hHeld2
      (try simp only [Act.put, List.setIfInBounds_toArray, List.set_cons_zero, List.set_cons_succ])
      refine lTake (i := 15) (v := ?_) rfl (by kernel_rfl) (by kernel_rfl) (by kernel_rfl) (fun _ _ _ h => h) (by rfl) (fun _ _ h => by simpa only [getD_set_ne false (show 15 ≠ 17 by decide)] using h) (fun _ _ h => by simpa only [getD_set_ne false (show 15 ≠ 17 by decide)] using h) ?_ (by assumption) (fun hHeld2 => ?_)
      rotate_left 1
      · (intro _ _ _ _ _; first | (go_simp; done) | (go_simp; with_reducible rfl))
      clear hHeld; have hHeld := hHeld2; clear hHeld2
      (try simp only [Act.put, List.setIfInBounds_toArray, List.set_cons_zero, List.set_cons_succ])
      refine lTake (i := 16) (v := ?_) rfl (by kernel_rfl) (by kernel_rfl) (by kernel_rfl) (fun _ _ _ h => h) (by rfl) (fun _ _ h => by simpa only [getD_set_ne false (show 16 ≠ 17 by decide)] using h) (fun _ _ h => by simpa only [getD_set_ne false (show 16 ≠ 17 by decide)] using h) ?_ (by assumption) (fun hHeld2 => ?_)
      rotate_left 1
      · (intro _ _ _ _ _; first | (go_simp; done) | (go_simp; with_reducible rfl))
      clear hHeld; have hHeld := hHeld2; clear hHeld2
      (try simp only [Act.put, List.setIfInBounds_toArray, List.set_cons_zero, List.set_cons_succ])
      refine lReady (rs := [17]) (by kernel_rfl) (by simp) ?_
      refine AllL.cons (i := 17) rfl (fun K hK => ?_) ?_
      · go_simp
        (try go_wp2_with fail)
        refine hK.out _ _ ?_ (fun hHeld2 => ?_)
        · (try dsimp only); refine ⟨?_, Or.inl (by rfl)⟩
          · (first | with_reducible assumption | with_reducible exact ⟨(((HP.out.drewN _).alloc _).lineR H.out).blk.cell 1 rfl, ((HP.out.drewN _).alloc _).box.cell 7 rfl⟩ | (go_simp; done))
        clear hK K
        clear hHeld; have hHeld := hHeld2; clear hHeld2
        (try simp only [Act.put, List.setIfInBounds_toArray, List.set_cons_zero, List.set_cons_succ])
        refine lDone (by kernel_rfl) ?_ _
        clear hHeld hw
        go_upto_region 4 with fail
        refine wp_world (fun W => ∃ A1 cap1, RecvMidR w B g (some ⟨r, 0, none⟩) p (Lx.ack l p) A1 cap1 W) (midR_yes H.out HBase.out hm1 (by rw [← HLen.out]; exact hm2) HK.out HP1.out (Nat.le_refl _) HOw.out HLm.out) ?_
        intro W1 hM
        have HM := Lib.hid hM
        clear hM d0 d1 e0 e1 x7 HP1 HOw HP HLen HLm HL2 HSrc HK HW HW2 F1 c0 c1 c2 c3 f0 f1 hd hd2 hm1 hm2 hnc hcm hmc bd bt bl i1 i2 i3
        obtain ⟨A1, cap1, hM⟩ := HM.out
        clear HM
        have d0 := hM.line.blk.cell 0 rfl
        have d1 := hM.line.blk.cell 1 rfl
        have d2 := hM.line.blk.cell 2 rfl
        have d3 := hM.line.blk.cell 3 rfl
        have e2 := hM.line.blk.free 2
        have e3 := hM.line.blk.free 3
        rw [ack_tk] at d2
        have x0 := hM.box.cell 0 rfl
        have x1 := hM.box.cell 1 rfl
        have x2 := hM.box.cell 2 rfl
        have x3 := hM.box.cell 3 rfl
        have x4 := hM.box.cell 4 rfl
        have x5 := hM.box.cell 5 rfl
        have x6 := hM.box.cell 6 rfl
        have r0 := hM.res.cell 0 rfl
        have r1 := hM.res.cell 1 rfl
        have r2 := hM.res.cell 2 rfl
        have r3 := hM.res.cell 3 rfl
        have r4 := hM.res.cell 4 rfl
        have s0 := hM.res.free 0
        have s1 := hM.res.free 1
        have s2 := hM.res.free 2
        have s3 := hM.res.free 3
        have s4 := hM.res.free 4
        have hz : w.heap.size + 1 < W1.heap.size := hM.res.lt
        have HMid := Lib.hid hM
        clear hM
        cases hh : p.has
        · rw [hh] at x0
          have HR := Lib.hid (recv_no (l := l) hh)
          clear hh
          go_wp2_with fail
          refine bodyPost_ret (v := .tuple #[.agg #[.int .i64 0, .int .i64 0, .int .i64 0, .int .i64 0, .int .i64 0], .bool false]) (by simp [results, Try.results61, go_sem, *]) rfl ⟨by rw [HR.out.1, HR.out.2.1]; rfl, ?_⟩
          rw [HR.out.2.2]
          refine recvR_end HMid.out hlt ?_ rfl ?_
          · repeat (first | (refine Touch.setCell ?_ (Or.inl (by simp)) _) | refine Touch.drewN ?_ _ | exact Touch.refl _ _)
          · repeat (first | (refine Blk.setCell_ne ?_ (by simp; omega) _) | refine Blk.drewN ?_ _ | exact HMid.out.line.blk)
        · rw [hh] at x0
          by_cases hn : p.nu = l.tk + 1
          · have HR := Lib.hid (recv_next (l := l) hh hn)
            have hb1 : (p.nu != l.tk + 1) = false := by simp [hn]
            have hw1 := H1.out
            clear hn hh
            go_wp2_with fail
            go_quiet (fail)
            go_wp2_with fail
            refine bodyPost_ret (v := .tuple #[.agg #[.int .i64 p.nt.k, .int .i64 p.nt.s, .int .i64 p.nt.a, .int .i64 p.nt.b, .int .i64 p.nt.c], .bool true]) (by simp [results, Try.results61, go_sem, *]) rfl ⟨by rw [HR.out.1, HR.out.2.1], ?_⟩
            rw [HR.out.2.2]
            refine recvR_end HMid.out hlt ?_ rfl ?_
            · repeat (first | (refine Touch.setCell ?_ (Or.inl (by simp)) _) | refine Touch.drewN ?_ _ | exact Touch.refl _ _)
            · repeat (first | (refine Blk.setCell_ne ?_ (by simp; omega) _) | refine Blk.drewN ?_ _ | exact Blk.s4_2 (Blk.s4_3 HMid.out.line.blk) | exact Blk.s4_2 ((Blk.s4_3 HMid.out.line.blk).drewN _))
          · have HR := Lib.hid (recv_other (l := l) hh hn)
            have hb1 : (p.nu != l.tk + 1) = true := by simp [hn]
            have hw1 := H1.out
            clear hn hh
            go_wp2_with fail
            go_quiet (fail)
            go_wp2_with fail
            refine bodyPost_ret (v := .tuple #[.agg #[.int .i64 0, .int .i64 0, .int .i64 0, .int .i64 0, .int .i64 0], .bool false]) (by simp [results, Try.results61, go_sem, *]) rfl ⟨by rw [HR.out.1, HR.out.2.1]; rfl, ?_⟩
            rw [HR.out.2.2]
            refine recvR_end HMid.out hlt ?_ rfl ?_
            · repeat (first | (refine Touch.setCell ?_ (Or.inl (by simp)) _) | refine Touch.drewN ?_ _ | exact Touch.refl _ _)
            · repeat (first | (refine Blk.setCell_ne ?_ (by simp; omega) _) | refine Blk.drewN ?_ _ | exact Blk.s4_3 HMid.out.line.blk)
      exact AllL.nil
    exact AllL.nil
  exact AllL.nil
theorem ReceiveR_c (b : Int) (B g : Nat) (A : Option Addr) (cap : Nat) (l : Ln) (p : Pk) (w : World) (h : LineRAt w B g A cap l) (hB : B ≤ w.heap.size) (hl : Lx.ok b l) (hb : b ≤ 4611686018427387904) (hak : p.ak ≤ 9223372036854775807) :
    Calls Try.prog 61 #[.pointer (some ⟨g, 0, none⟩), .agg #[.bool p.has, .int .i64 p.nu, .int .i64 p.nt.k, .int .i64 p.nt.s, .int .i64 p.nt.a, .int .i64 p.nt.b, .int .i64 p.nt.c, .int .i64 p.ak]] w (RecvRTo w B g A l p) := by
  rcases ack_cases l p b hl hb with ⟨m, hm1, hm2, hpk⟩ | ⟨k1, k2⟩ | k1
  · rcases Nat.lt_or_ge m cap with hmc | hmc
    · exact ReceiveR_a b B g A cap l p w h hB hl hb hak m hm1 hm2 hpk hmc
    · exact ReceiveR_b b B g A cap l p w h hB hl hb hak m hm1 hm2 hpk hmc
  · exact ReceiveR_2 b B g A cap l p w h hB hl hb hak k1 k2
  · exact ReceiveR_3 b B g A cap l p w h hB hl hb hak k1
end Go.Proofs.Ytafajclbghofkaa
