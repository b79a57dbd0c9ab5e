/- Lines: Receive of charge. -/
import Derived.Test.YtafajclbghofkaaD3
import Derived.Deep.CutBlock
import Derived.Deep.DeepCutAuto
namespace Go.Proofs.Ytafajclbghofkaa
open Go.RowKit
set_option linter.unusedVariables false

def Pk.cells (p : Pk) : List Value := [.bool p.has, .int .i64 p.nu, .int .i64 p.nt.k, .int .i64 p.nt.s, .int .i64 p.nt.a, .int .i64 p.nt.b, .int .i64 p.nt.c, .int .i64 p.ak]
/-- behind the acknowledgement -/
structure RecvMid (w : World) (B g : Nat) (A : Option Addr) (p : Pk) (l1 : Ln) (A1 : Option Addr) (cap1 : Nat) (W : World) : Prop where
  line : LineAt W B g A1 cap1 l1
  row : NewRow w A A1
  touch : Touch (fun k => k = g ∨ OwnB A k) w W
  box : Blk W w.heap.size 62 p.cells
  res : Blk W (w.heap.size + 1) 60 Lx.nt0.vals
  off : ¬ OwnB A1 (w.heap.size + 1)
theorem recv_end {w W W' : World} {B g : Nat} {A A1 : Option Addr} {cap1 : Nat} {p : Pk} {l1 l2 : Ln} (h : RecvMid w B g A p l1 A1 cap1 W) (hlt : g < w.heap.size) (ht : Touch (fun k => k = g ∨ k = w.heap.size + 1) W W') (hL : l2.L = l1.L)
    (hb : Blk W' g 130 [.bool true, .slice A1 l1.L.length cap1, .int .i64 l2.dn, .int .i64 l2.tk, .bool l2.ow]) : LineTo w B g A l2 W' := by
  refine ⟨⟨A1, cap1, ⟨by rw [hL]; exact hb, ?_, h.line.base, h.line.apart⟩, h.row⟩, h.touch.then ht (fun k hk => ?_)⟩
  · rw [hL]
    exact own_keep h.line.own ht (fun k hk e => by
      rcases e with e | e
      · exact h.line.apart (e ▸ hk)
      · exact h.off (e ▸ hk))
  · rcases hk with e | e
    · exact .inl (.inl e)
    · right; omega
theorem ack_no {l : Ln} {p : Pk} (h : Lx.ackB l p = false) : Lx.ack l p = l := by unfold Lx.ack; rw [h]; rfl
theorem ack_yes {l : Ln} {p : Pk} {m : Nat} (h : p.ak = l.dn + m) (h1 : 1 ≤ m) (h2 : m ≤ l.L.length) : Lx.ack l p = { l with L := l.L.drop m, dn := l.dn + m } := by
  have hb : Lx.ackB l p = true := by unfold Lx.ackB; simp; omega
  unfold Lx.ack
  rw [hb, if_pos rfl, show (p.ak - l.dn).toNat = m by omega, h]
def RecvTo (w : World) (B g : Nat) (A : Option Addr) (l : Ln) (p : Pk) (e : Ending) (w' : World) : Prop :=
  e = .returned (.tuple #[.agg #[.int .i64 (Lx.recvN l p).k, .int .i64 (Lx.recvN l p).s, .int .i64 (Lx.recvN l p).a, .int .i64 (Lx.recvN l p).b, .int .i64 (Lx.recvN l p).c], .bool (Lx.recvB l p)]) ∧ LineTo w B g A (Lx.recvL l p) w'
theorem row_form {w : World} {B n cap : Nat} {A : Option Addr} {xs : List Value} (h : w.ownsRow B 60 5 (.slice A n cap) n xs) (hn : 0 < n) : ∃ r, A = some ⟨r, 0, none⟩ ∧ n ≤ cap ∧ cap ≤ maxLen := by
  rcases h.2 with ⟨_, h0⟩ | ⟨g', c, cur, hv, hb, hg, hnc, hcm, _⟩
  · omega
  · cases hv
    exact ⟨_, rfl, hnc, hcm⟩
/-- what is acknowledged, in three cases -/
theorem ack_cases (l : Ln) (p : Pk) (b : Int) (hl : Lx.ok b l) (hb : b ≤ 4611686018427387904) :
    (∃ m : Nat, 1 ≤ m ∧ m ≤ l.L.length ∧ p.ak = l.dn + m) ∨ (l.dn < p.ak ∧ (l.L.length : Int) < p.ak - l.dn) ∨ p.ak ≤ l.dn := by
  by_cases h : l.dn < p.ak
  · by_cases h2 : p.ak - l.dn ≤ l.L.length
    · exact .inl ⟨(p.ak - l.dn).toNat, by omega, by omega, by omega⟩
    · exact .inr (.inl ⟨h, by omega⟩)
  · exact .inr (.inr (by omega))

/-- the call's own variables are laid; nothing else has happened -/
structure RecvPre (w : World) (p : Pk) (W : World) : Prop where
  t : Touch (fun _ => False) w W
  sz : w.heap.size + 2 ≤ W.heap.size
  box : Blk W w.heap.size 62 p.cells
  res : Blk W (w.heap.size + 1) 60 Lx.nt0.vals
theorem pre_init (w : World) (p : Pk) : RecvPre w p ((w.alloc (.cells #[.bool p.has, .int .i64 p.nu, .int .i64 p.nt.k, .int .i64 p.nt.s, .int .i64 p.nt.a, .int .i64 p.nt.b, .int .i64 p.nt.c, .int .i64 p.ak] 62)).alloc (.cells #[.int .i64 0, .int .i64 0, .int .i64 0, .int .i64 0, .int .i64 0] 60)) := by
  refine ⟨((Touch.refl _ _).alloc _).alloc _, by simp, (Blk.new' w _ 62).alloc _, ?_⟩
  have := Blk.new' (w.alloc (.cells #[.bool p.has, .int .i64 p.nu, .int .i64 p.nt.k, .int .i64 p.nt.s, .int .i64 p.nt.a, .int .i64 p.nt.b, .int .i64 p.nt.c, .int .i64 p.ak] 62)) #[.int .i64 0, .int .i64 0, .int .i64 0, .int .i64 0, .int .i64 0] 60
  simp at this
  exact this
theorem RecvPre.drewN {w W : World} {p : Pk} (h : RecvPre w p W) (n : Nat) : RecvPre w p (W.drewN n) := ⟨h.t.drewN n, h.sz, h.box.drewN n, h.res.drewN n⟩
theorem RecvPre.below {w W W1 : World} {p : Pk} (h : RecvPre w p W) (hb : Below W.heap.size W W1) : RecvPre w p W1 := ⟨h.t.below hb, Nat.le_trans h.sz hb.size, h.box.below hb h.box.lt, h.res.below hb h.res.lt⟩
theorem pre_call {w W0 w1 : World} {p : Pk} {n1 : Nat} (h : RecvPre w p W0) (hb : Below (W0.drewN n1).heap.size (W0.drewN n1) w1) : RecvPre w p w1 := (h.drewN n1).below hb
theorem RecvPre.line {w W : World} {p : Pk} (h : RecvPre w p W) {B g : Nat} {A : Option Addr} {cap : Nat} {l : Ln} (hl : LineAt w B g A cap l) : LineAt W B g A cap l := hl.touch h.t (fun e => e) (fun _ _ e => e)
/-- where nothing is acknowledged -/
theorem mid_no {w W : World} {B g : Nat} {A : Option Addr} {cap : Nat} {l : Ln} {p : Pk} (h : LineAt w B g A cap l) (hn : Lx.ackB l p = false) (hP : RecvPre w p W) : ∃ A1 cap1, RecvMid w B g A p (Lx.ack l p) A1 cap1 W := by
  rw [ack_no hn]
  exact ⟨A, cap, hP.line h, fun k hk => .inl hk, hP.t.mono (fun _ e => e.elim), hP.box, hP.res, fun e => by have := (own_lt h.own e).2; omega⟩
/-- where notes are acknowledged: behind the clone and two stores -/
theorem mid_yes {w w1 : World} {B Bx g m n' : Nat} {A A' : Option Addr} {cap cap' : Nat} {l : Ln} {p : Pk} (h : LineAt w B g A cap l) (hB : B ≤ w.heap.size) (hm1 : 1 ≤ m) (hm2 : m ≤ l.L.length) (hp : p.ak = l.dn + m) (hP : RecvPre w p w1) (hsz : w.heap.size + 2 ≤ Bx)
    (hown : w1.ownsRow Bx 60 5 (.slice A' (l.L.drop m).length cap') (l.L.drop m).length (flat (l.L.drop m))) (hn : n' = (l.L.drop m).length) :
    ∃ A1 cap1, RecvMid w B g A p (Lx.ack l p) A1 cap1 ((w1.setCell ⟨g, 1, none⟩ (.slice A' n' cap')).setCell ⟨g, 2, none⟩ (.int .i64 p.ak)) := by
  subst hn
  rw [ack_yes hp hm1 hm2]
  have hlt := h.blk.lt
  have hA : ∀ k, OwnB A' k → Bx ≤ k := fun k hk => (own_lt hown hk).1
  have hT : Touch (fun k => k = g) w1 ((w1.setCell ⟨g, 1, none⟩ (.slice A' (l.L.drop m).length cap')).setCell ⟨g, 2, none⟩ (.int .i64 p.ak)) := ((Touch.refl _ _).put 1 _).put 2 _
  refine ⟨A', cap', ⟨⟨?_, ?_, h.base, fun e => by have := hA g e; omega⟩, fun k hk => .inr (by have := hA k hk; omega), ?_, ?_, ?_, fun e => by have := hA _ e; omega⟩⟩
  · have h1 := ((hP.line h).blk.setCell 1 (.slice A' (l.L.drop m).length cap')).setCell 2 (.int .i64 p.ak)
    rw [hp] at h1 ⊢
    exact h1
  · exact own_keep (own_base hown (by omega)) hT (fun k hk e => by have := hA k hk; omega)
  · exact (hP.t.mono (fun _ e => e.elim)).then hT (fun k e => .inl (.inl e))
  · exact hP.box.touch hT (fun e => by omega)
  · exact hP.res.touch hT (fun e => by omega)
theorem then_world {K : Act → World → Prop} {Q : Exit → Act → World → Prop} {a : Act} {W0 : World} (R : World → Prop) (h0 : R W0) (h : ∀ W, R W → Exit.then K Q .normal a W) : Exit.then K Q .normal a W0 := h _ h0
/-- the world under a letter -/
theorem wp_world {P : Program} {C : Code} {Q : Exit → Act → World → Prop} {a : Act} {W0 : World} (R : World → Prop) (h0 : R W0) (h : ∀ W, R W → Code.wp P C Q a W) : Code.wp P C Q a W0 := h _ h0

theorem recv_no {l : Ln} {p : Pk} (h : p.has = false) : Lx.recvB l p = false ∧ Lx.recvN l p = Lx.nt0 ∧ Lx.recvL l p = Lx.ack l p := by
  have hb : Lx.recvB l p = false := by unfold Lx.recvB; rw [h]; rfl
  exact ⟨hb, by unfold Lx.recvN; rw [hb]; rfl, by unfold Lx.recvL; rw [h]; rfl⟩
theorem recv_other {l : Ln} {p : Pk} (h : p.has = true) (hn : p.nu ≠ l.tk + 1) : Lx.recvB l p = false ∧ Lx.recvN l p = Lx.nt0 ∧ Lx.recvL l p = { Lx.ack l p with ow := true } := by
  have hb : Lx.recvB l p = false := by unfold Lx.recvB; rw [h, decide_eq_false hn]; rfl
  exact ⟨hb, by unfold Lx.recvN; rw [hb]; rfl, by unfold Lx.recvL; rw [h, if_pos rfl, if_neg hn]⟩
theorem recv_next {l : Ln} {p : Pk} (h : p.has = true) (hn : p.nu = l.tk + 1) : Lx.recvB l p = true ∧ Lx.recvN l p = p.nt ∧ Lx.recvL l p = { Lx.ack l p with ow := true, tk := l.tk + 1 } := by
  have hb : Lx.recvB l p = true := by unfold Lx.recvB; rw [h, decide_eq_true hn]; rfl
  exact ⟨hb, by unfold Lx.recvN; rw [hb]; rfl, by unfold Lx.recvL; rw [h, if_pos rfl, if_pos hn]⟩
theorem ack_tk (l : Ln) (p : Pk) : (Lx.ack l p).tk = l.tk := by unfold Lx.ack; split <;> rfl

set_option maxRecDepth 100000 in
set_option maxHeartbeats 8000000 in
theorem Receive_3 (b : Int) (B g : Nat) (A : Option Addr) (cap : Nat) (l : Ln) (p : Pk) (w : World) (h : LineAt w B g A cap l) (hB : B ≤ w.heap.size) (hl : Lx.ok b l) (hb : b ≤ 4611686018427387904) (hak : p.ak ≤ 9223372036854775807) (k1 : p.ak ≤ l.dn) :
    Calls Try.prog 31 #[.pointer (some ⟨g, 0, none⟩), .agg #[.bool p.has, .int .i64 p.nu, .int .i64 p.nt.k, .int .i64 p.nt.s, .int .i64 p.nt.a, .int .i64 p.nt.b, .int .i64 p.nt.c, .int .i64 p.ak]] w (RecvTo w B g A l p) := by
  have hlt := h.blk.lt
  have c0 := h.blk.cell 0 rfl
  have c1 := h.blk.cell 1 rfl
  have c2 := h.blk.cell 2 rfl
  have c3 := h.blk.cell 3 rfl
  have c4 := h.blk.cell 4 rfl
  have f1 := h.blk.free 1
  have f2 := h.blk.free 2
  have H := Lib.hid h
  have HBase := Lib.hid hB
  have bd := hl.1
  have bt := hl.2.1
  have bl := hl.2.2
  have h1 : IntKind.i64.wrap (l.tk + 1) = l.tk + 1 := IntWalk.i64_in _ (by omega)
  have H1 := Lib.hid h1
  have HP := Lib.hid (pre_init w p)
  have HA := Lib.hid hak
  obtain ⟨len, hlen⟩ : ∃ len, len = l.L.length := ⟨_, rfl⟩
  rw [← hlen] at c1 bl
  have HLen := Lib.hid hlen
  clear h hB hl h1 hak hlen
  have hd : decide (l.dn < p.ak) = false := by simp; omega
  have HD := Lib.hid (show Lx.ackB l p = false by unfold Lx.ackB; rw [hd]; rfl)
  clear bd bt bl k1
  go_enter Try.func31, Try.ntmps31
  go_wp2_with (go_at_call 57; refine (validL_c _ _ (by go_simp)).mono ?_; rintro e w' ⟨rfl, rfl⟩)
  go_quiet (fail)
  go_wp2_with fail
  go_quiet (fail)
  refine then_world (fun W => ∃ A1 cap1, RecvMid w B g A p (Lx.ack l p) A1 cap1 W) (mid_no H.out HD.out ((HP.out.drewN _).drewN _)) ?_
  intro W1 hM
  have HM := Lib.hid hM
  clear hM HD HLen c1 c2 c3 c4 f1 f2 HP
  clear hd
  obtain ⟨A1, cap1, hM⟩ := HM.out
  clear HM
  have d0 := hM.line.blk.cell 0 rfl
  have d1 := hM.line.blk.cell 1 rfl
  have d2 := hM.line.blk.cell 2 rfl
  have d3 := hM.line.blk.cell 3 rfl
  have d4 := hM.line.blk.cell 4 rfl
  have e3 := hM.line.blk.free 3
  have e4 := hM.line.blk.free 4
  rw [ack_tk] at d3
  have x0 := hM.box.cell 0 rfl
  have x1 := hM.box.cell 1 rfl
  have x2 := hM.box.cell 2 rfl
  have x3 := hM.box.cell 3 rfl
  have x4 := hM.box.cell 4 rfl
  have x5 := hM.box.cell 5 rfl
  have x6 := hM.box.cell 6 rfl
  have r0 := hM.res.cell 0 rfl
  have r1 := hM.res.cell 1 rfl
  have r2 := hM.res.cell 2 rfl
  have r3 := hM.res.cell 3 rfl
  have r4 := hM.res.cell 4 rfl
  have s0 := hM.res.free 0
  have s1 := hM.res.free 1
  have s2 := hM.res.free 2
  have s3 := hM.res.free 3
  have s4 := hM.res.free 4
  have hz : w.heap.size + 1 < W1.heap.size := hM.res.lt
  have HMid := Lib.hid hM
  clear hM
  cases hh : p.has
  · rw [hh] at x0
    have HR := Lib.hid (recv_no (l := l) hh)
    clear hh
    go_wp2_with fail
    refine bodyPost_ret (v := .tuple #[.agg #[.int .i64 0, .int .i64 0, .int .i64 0, .int .i64 0, .int .i64 0], .bool false]) (by simp [results, Try.results31, go_sem, *]) rfl ⟨by rw [HR.out.1, HR.out.2.1]; rfl, ?_⟩
    rw [HR.out.2.2]
    refine recv_end HMid.out hlt ?_ rfl ?_
    · repeat (first | (refine Touch.setCell ?_ (Or.inl (by simp)) _) | refine Touch.drewN ?_ _ | exact Touch.refl _ _)
    · repeat (first | (refine Blk.setCell_ne ?_ (by simp; omega) _) | refine Blk.drewN ?_ _ | exact HMid.out.line.blk)
  · rw [hh] at x0
    by_cases hn : p.nu = l.tk + 1
    · have HR := Lib.hid (recv_next (l := l) hh hn)
      have hb1 : (p.nu != l.tk + 1) = false := by simp [hn]
      have hw1 := H1.out
      clear hn hh
      go_wp2_with fail
      go_quiet (fail)
      go_wp2_with fail
      refine bodyPost_ret (v := .tuple #[.agg #[.int .i64 p.nt.k, .int .i64 p.nt.s, .int .i64 p.nt.a, .int .i64 p.nt.b, .int .i64 p.nt.c], .bool true]) (by simp [results, Try.results31, go_sem, *]) rfl ⟨by rw [HR.out.1, HR.out.2.1], ?_⟩
      rw [HR.out.2.2]
      refine recv_end HMid.out hlt ?_ rfl ?_
      · repeat (first | (refine Touch.setCell ?_ (Or.inl (by simp)) _) | refine Touch.drewN ?_ _ | exact Touch.refl _ _)
      · repeat (first | (refine Blk.setCell_ne ?_ (by simp; omega) _) | refine Blk.drewN ?_ _ | exact Blk.s5_3 (Blk.s5_4 HMid.out.line.blk) | exact Blk.s5_3 ((Blk.s5_4 HMid.out.line.blk).drewN _))
    · have HR := Lib.hid (recv_other (l := l) hh hn)
      have hb1 : (p.nu != l.tk + 1) = true := by simp [hn]
      have hw1 := H1.out
      clear hn hh
      go_wp2_with fail
      go_quiet (fail)
      go_wp2_with fail
      refine bodyPost_ret (v := .tuple #[.agg #[.int .i64 0, .int .i64 0, .int .i64 0, .int .i64 0, .int .i64 0], .bool false]) (by simp [results, Try.results31, go_sem, *]) rfl ⟨by rw [HR.out.1, HR.out.2.1]; rfl, ?_⟩
      rw [HR.out.2.2]
      refine recv_end HMid.out hlt ?_ rfl ?_
      · repeat (first | (refine Touch.setCell ?_ (Or.inl (by simp)) _) | refine Touch.drewN ?_ _ | exact Touch.refl _ _)
      · repeat (first | (refine Blk.setCell_ne ?_ (by simp; omega) _) | refine Blk.drewN ?_ _ | exact Blk.s5_4 HMid.out.line.blk)
set_option maxRecDepth 100000 in
set_option maxHeartbeats 8000000 in
theorem Receive_2 (b : Int) (B g : Nat) (A : Option Addr) (cap : Nat) (l : Ln) (p : Pk) (w : World) (h : LineAt w B g A cap l) (hB : B ≤ w.heap.size) (hl : Lx.ok b l) (hb : b ≤ 4611686018427387904) (hak : p.ak ≤ 9223372036854775807) (k1 : l.dn < p.ak) (k2 : (l.L.length : Int) < p.ak - l.dn) :
    Calls Try.prog 31 #[.pointer (some ⟨g, 0, none⟩), .agg #[.bool p.has, .int .i64 p.nu, .int .i64 p.nt.k, .int .i64 p.nt.s, .int .i64 p.nt.a, .int .i64 p.nt.b, .int .i64 p.nt.c, .int .i64 p.ak]] w (RecvTo w B g A l p) := by
  have hlt := h.blk.lt
  have c0 := h.blk.cell 0 rfl
  have c1 := h.blk.cell 1 rfl
  have c2 := h.blk.cell 2 rfl
  have c3 := h.blk.cell 3 rfl
  have c4 := h.blk.cell 4 rfl
  have f1 := h.blk.free 1
  have f2 := h.blk.free 2
  have H := Lib.hid h
  have HBase := Lib.hid hB
  have bd := hl.1
  have bt := hl.2.1
  have bl := hl.2.2
  have h1 : IntKind.i64.wrap (l.tk + 1) = l.tk + 1 := IntWalk.i64_in _ (by omega)
  have H1 := Lib.hid h1
  have HP := Lib.hid (pre_init w p)
  have HA := Lib.hid hak
  obtain ⟨len, hlen⟩ : ∃ len, len = l.L.length := ⟨_, rfl⟩
  rw [← hlen] at c1 bl
  have HLen := Lib.hid hlen
  clear h hB hl h1 hak hlen
  rw [← HLen.out] at k2
  have hd : decide (l.dn < p.ak) = true := by simp; omega
  have hd2 : decide (p.ak - l.dn ≤ (len : Int)) = false := by simp; omega
  have hw : IntKind.i64.wrap (p.ak - l.dn) = p.ak - l.dn := IntWalk.i64_in _ (by have := HA.out; omega)
  have HD := Lib.hid (show Lx.ackB l p = false by unfold Lx.ackB; rw [hd, ← HLen.out, hd2]; rfl)
  clear bd bt bl k1 k2
  go_enter Try.func31, Try.ntmps31
  go_wp2_with (go_at_call 57; refine (validL_c _ _ (by go_simp)).mono ?_; rintro e w' ⟨rfl, rfl⟩)
  go_quiet (fail)
  go_wp2_with fail
  go_quiet (fail)
  refine then_world (fun W => ∃ A1 cap1, RecvMid w B g A p (Lx.ack l p) A1 cap1 W) (mid_no H.out HD.out ((HP.out.drewN _).drewN _)) ?_
  intro W1 hM
  have HM := Lib.hid hM
  clear hM HD HLen c1 c2 c3 c4 f1 f2 HP
  clear hd hd2 hw
  obtain ⟨A1, cap1, hM⟩ := HM.out
  clear HM
  have d0 := hM.line.blk.cell 0 rfl
  have d1 := hM.line.blk.cell 1 rfl
  have d2 := hM.line.blk.cell 2 rfl
  have d3 := hM.line.blk.cell 3 rfl
  have d4 := hM.line.blk.cell 4 rfl
  have e3 := hM.line.blk.free 3
  have e4 := hM.line.blk.free 4
  rw [ack_tk] at d3
  have x0 := hM.box.cell 0 rfl
  have x1 := hM.box.cell 1 rfl
  have x2 := hM.box.cell 2 rfl
  have x3 := hM.box.cell 3 rfl
  have x4 := hM.box.cell 4 rfl
  have x5 := hM.box.cell 5 rfl
  have x6 := hM.box.cell 6 rfl
  have r0 := hM.res.cell 0 rfl
  have r1 := hM.res.cell 1 rfl
  have r2 := hM.res.cell 2 rfl
  have r3 := hM.res.cell 3 rfl
  have r4 := hM.res.cell 4 rfl
  have s0 := hM.res.free 0
  have s1 := hM.res.free 1
  have s2 := hM.res.free 2
  have s3 := hM.res.free 3
  have s4 := hM.res.free 4
  have hz : w.heap.size + 1 < W1.heap.size := hM.res.lt
  have HMid := Lib.hid hM
  clear hM
  cases hh : p.has
  · rw [hh] at x0
    have HR := Lib.hid (recv_no (l := l) hh)
    clear hh
    go_wp2_with fail
    refine bodyPost_ret (v := .tuple #[.agg #[.int .i64 0, .int .i64 0, .int .i64 0, .int .i64 0, .int .i64 0], .bool false]) (by simp [results, Try.results31, go_sem, *]) rfl ⟨by rw [HR.out.1, HR.out.2.1]; rfl, ?_⟩
    rw [HR.out.2.2]
    refine recv_end HMid.out hlt ?_ rfl ?_
    · repeat (first | (refine Touch.setCell ?_ (Or.inl (by simp)) _) | refine Touch.drewN ?_ _ | exact Touch.refl _ _)
    · repeat (first | (refine Blk.setCell_ne ?_ (by simp; omega) _) | refine Blk.drewN ?_ _ | exact HMid.out.line.blk)
  · rw [hh] at x0
    by_cases hn : p.nu = l.tk + 1
    · have HR := Lib.hid (recv_next (l := l) hh hn)
      have hb1 : (p.nu != l.tk + 1) = false := by simp [hn]
      have hw1 := H1.out
      clear hn hh
      go_wp2_with fail
      go_quiet (fail)
      go_wp2_with fail
      refine bodyPost_ret (v := .tuple #[.agg #[.int .i64 p.nt.k, .int .i64 p.nt.s, .int .i64 p.nt.a, .int .i64 p.nt.b, .int .i64 p.nt.c], .bool true]) (by simp [results, Try.results31, go_sem, *]) rfl ⟨by rw [HR.out.1, HR.out.2.1], ?_⟩
      rw [HR.out.2.2]
      refine recv_end HMid.out hlt ?_ rfl ?_
      · repeat (first | (refine Touch.setCell ?_ (Or.inl (by simp)) _) | refine Touch.drewN ?_ _ | exact Touch.refl _ _)
      · repeat (first | (refine Blk.setCell_ne ?_ (by simp; omega) _) | refine Blk.drewN ?_ _ | exact Blk.s5_3 (Blk.s5_4 HMid.out.line.blk) | exact Blk.s5_3 ((Blk.s5_4 HMid.out.line.blk).drewN _))
    · have HR := Lib.hid (recv_other (l := l) hh hn)
      have hb1 : (p.nu != l.tk + 1) = true := by simp [hn]
      have hw1 := H1.out
      clear hn hh
      go_wp2_with fail
      go_quiet (fail)
      go_wp2_with fail
      refine bodyPost_ret (v := .tuple #[.agg #[.int .i64 0, .int .i64 0, .int .i64 0, .int .i64 0, .int .i64 0], .bool false]) (by simp [results, Try.results31, go_sem, *]) rfl ⟨by rw [HR.out.1, HR.out.2.1]; rfl, ?_⟩
      rw [HR.out.2.2]
      refine recv_end HMid.out hlt ?_ rfl ?_
      · repeat (first | (refine Touch.setCell ?_ (Or.inl (by simp)) _) | refine Touch.drewN ?_ _ | exact Touch.refl _ _)
      · repeat (first | (refine Blk.setCell_ne ?_ (by simp; omega) _) | refine Blk.drewN ?_ _ | exact Blk.s5_4 HMid.out.line.blk)
set_option maxRecDepth 100000 in
set_option maxHeartbeats 8000000 in
theorem Receive_a (b : Int) (B g : Nat) (A : Option Addr) (cap : Nat) (l : Ln) (p : Pk) (w : World) (h : LineAt w B g A cap l) (hB : B ≤ w.heap.size) (hl : Lx.ok b l) (hb : b ≤ 4611686018427387904) (hak : p.ak ≤ 9223372036854775807) (m : Nat) (hm1 : 1 ≤ m) (hm2 : m ≤ l.L.length) (hpk : p.ak = l.dn + m) (hmc : m < cap) :
    Calls Try.prog 31 #[.pointer (some ⟨g, 0, none⟩), .agg #[.bool p.has, .int .i64 p.nu, .int .i64 p.nt.k, .int .i64 p.nt.s, .int .i64 p.nt.a, .int .i64 p.nt.b, .int .i64 p.nt.c, .int .i64 p.ak]] w (RecvTo w B g A l p) := by
  have hlt := h.blk.lt
  have c0 := h.blk.cell 0 rfl
  have c1 := h.blk.cell 1 rfl
  have c2 := h.blk.cell 2 rfl
  have c3 := h.blk.cell 3 rfl
  have c4 := h.blk.cell 4 rfl
  have f1 := h.blk.free 1
  have f2 := h.blk.free 2
  have H := Lib.hid h
  have HBase := Lib.hid hB
  have bd := hl.1
  have bt := hl.2.1
  have bl := hl.2.2
  have h1 : IntKind.i64.wrap (l.tk + 1) = l.tk + 1 := IntWalk.i64_in _ (by omega)
  have H1 := Lib.hid h1
  have HP := Lib.hid (pre_init w p)
  have HA := Lib.hid hak
  obtain ⟨len, hlen⟩ : ∃ len, len = l.L.length := ⟨_, rfl⟩
  rw [← hlen] at c1 bl
  have HLen := Lib.hid hlen
  clear h hB hl h1 hak hlen
  rw [← HLen.out] at hm2
  obtain ⟨r, rfl, hnc, hcm⟩ := row_form H.out.own (by rw [← HLen.out]; omega)
  rw [← HLen.out] at hnc
  have hd : decide (l.dn < p.ak) = true := by simp; omega
  have hd2 : decide ((m : Int) ≤ (len : Int)) = true := by simp; omega
  have hw : IntKind.i64.wrap (p.ak - l.dn) = (m : Int) := by rw [IntWalk.i64_in _ (by have := HA.out; omega)]; omega
  have HK := Lib.hid hpk
  clear hpk
  unfold maxLen at hcm
  have HLm := Lib.hid (show len - m = (l.L.drop m).length by rw [List.length_drop, HLen.out])
  have HL2 := Lib.hid (show (l.L.drop m).length ≤ 1000000 by rw [List.length_drop, ← HLen.out]; omega)
  have HSrc := Lib.hid (show ∀ W, Touch (fun _ => False) w W → SrcRow W (some ⟨r, m * 5, none⟩) (len - m) (flat (l.L.drop m)) from fun W ht => by
    have h0 := (own_src (own_keep H.out.own ht (fun _ _ e => e)) m (by rw [← HLen.out]; exact hm2)).1
    rw [← HLen.out] at h0
    have ha : (⟨r, 0, none⟩ : Addr).add (m * 5) = ⟨r, m * 5, none⟩ := by unfold Addr.add; rw [if_neg (by omega)]; simp
    simpa [ha] using h0)
  go_enter Try.func31, Try.ntmps31
  go_wp2_with (go_at_call 57; refine (validL_c _ _ (by go_simp)).mono ?_; rintro e w' ⟨rfl, rfl⟩)
  go_quiet (fail)
  go_wp2_with fail
  go_quiet (fail)
  go_upto_region 7 with (go_at_call 58; refine (Clone_c (some ⟨r, m * 5, none⟩) (len - m) (cap - m) (l.L.drop m) _ HLm.out (HSrc.out _ (HP.out.drewN _).t) (fun e => by cases e) HL2.out).mono ?_; rintro e w1 ⟨A', cap', rfl, hown, hbel⟩; have hP1 := pre_call HP.out hbel; have hg := (hP1.line H.out).blk; have d1 := hg.cell 1 rfl; have d2 := hg.cell 2 rfl; have e1 := hg.free 1; have e2 := hg.free 2; have x7 := hP1.box.cell 7 rfl; have HP1 := Lib.hid hP1; have HOw := Lib.hid hown; clear hg hP1 hown hbel)
  refine wp_world (fun W => ∃ A1 cap1, RecvMid w B g (some ⟨r, 0, none⟩) p (Lx.ack l p) A1 cap1 W) (mid_yes H.out HBase.out hm1 (by rw [← HLen.out]; exact hm2) HK.out HP1.out ?_ HOw.out ?_) ?_
  · simp
  · simp
  intro W1 hM
  have HM := Lib.hid hM
  clear hM d1 d2 e1 e2 x7 HP1 HOw HP HLen HLm HL2 HSrc HK c1 c2 c3 c4 f1 f2 hd hd2 hw hm1 hm2 hnc hcm hmc bd bt bl
  obtain ⟨A1, cap1, hM⟩ := HM.out
  clear HM
  have d0 := hM.line.blk.cell 0 rfl
  have d1 := hM.line.blk.cell 1 rfl
  have d2 := hM.line.blk.cell 2 rfl
  have d3 := hM.line.blk.cell 3 rfl
  have d4 := hM.line.blk.cell 4 rfl
  have e3 := hM.line.blk.free 3
  have e4 := hM.line.blk.free 4
  rw [ack_tk] at d3
  have x0 := hM.box.cell 0 rfl
  have x1 := hM.box.cell 1 rfl
  have x2 := hM.box.cell 2 rfl
  have x3 := hM.box.cell 3 rfl
  have x4 := hM.box.cell 4 rfl
  have x5 := hM.box.cell 5 rfl
  have x6 := hM.box.cell 6 rfl
  have r0 := hM.res.cell 0 rfl
  have r1 := hM.res.cell 1 rfl
  have r2 := hM.res.cell 2 rfl
  have r3 := hM.res.cell 3 rfl
  have r4 := hM.res.cell 4 rfl
  have s0 := hM.res.free 0
  have s1 := hM.res.free 1
  have s2 := hM.res.free 2
  have s3 := hM.res.free 3
  have s4 := hM.res.free 4
  have hz : w.heap.size + 1 < W1.heap.size := hM.res.lt
  have HMid := Lib.hid hM
  clear hM
  cases hh : p.has
  · rw [hh] at x0
    have HR := Lib.hid (recv_no (l := l) hh)
    clear hh
    go_wp2_with fail
    refine bodyPost_ret (v := .tuple #[.agg #[.int .i64 0, .int .i64 0, .int .i64 0, .int .i64 0, .int .i64 0], .bool false]) (by simp [results, Try.results31, go_sem, *]) rfl ⟨by rw [HR.out.1, HR.out.2.1]; rfl, ?_⟩
    rw [HR.out.2.2]
    refine recv_end HMid.out hlt ?_ rfl ?_
    · repeat (first | (refine Touch.setCell ?_ (Or.inl (by simp)) _) | refine Touch.drewN ?_ _ | exact Touch.refl _ _)
    · repeat (first | (refine Blk.setCell_ne ?_ (by simp; omega) _) | refine Blk.drewN ?_ _ | exact HMid.out.line.blk)
  · rw [hh] at x0
    by_cases hn : p.nu = l.tk + 1
    · have HR := Lib.hid (recv_next (l := l) hh hn)
      have hb1 : (p.nu != l.tk + 1) = false := by simp [hn]
      have hw1 := H1.out
      clear hn hh
      go_wp2_with fail
      go_quiet (fail)
      go_wp2_with fail
      refine bodyPost_ret (v := .tuple #[.agg #[.int .i64 p.nt.k, .int .i64 p.nt.s, .int .i64 p.nt.a, .int .i64 p.nt.b, .int .i64 p.nt.c], .bool true]) (by simp [results, Try.results31, go_sem, *]) rfl ⟨by rw [HR.out.1, HR.out.2.1], ?_⟩
      rw [HR.out.2.2]
      refine recv_end HMid.out hlt ?_ rfl ?_
      · repeat (first | (refine Touch.setCell ?_ (Or.inl (by simp)) _) | refine Touch.drewN ?_ _ | exact Touch.refl _ _)
      · repeat (first | (refine Blk.setCell_ne ?_ (by simp; omega) _) | refine Blk.drewN ?_ _ | exact Blk.s5_3 (Blk.s5_4 HMid.out.line.blk) | exact Blk.s5_3 ((Blk.s5_4 HMid.out.line.blk).drewN _))
    · have HR := Lib.hid (recv_other (l := l) hh hn)
      have hb1 : (p.nu != l.tk + 1) = true := by simp [hn]
      have hw1 := H1.out
      clear hn hh
      go_wp2_with fail
      go_quiet (fail)
      go_wp2_with fail
      refine bodyPost_ret (v := .tuple #[.agg #[.int .i64 0, .int .i64 0, .int .i64 0, .int .i64 0, .int .i64 0], .bool false]) (by simp [results, Try.results31, go_sem, *]) rfl ⟨by rw [HR.out.1, HR.out.2.1]; rfl, ?_⟩
      rw [HR.out.2.2]
      refine recv_end HMid.out hlt ?_ rfl ?_
      · repeat (first | (refine Touch.setCell ?_ (Or.inl (by simp)) _) | refine Touch.drewN ?_ _ | exact Touch.refl _ _)
      · repeat (first | (refine Blk.setCell_ne ?_ (by simp; omega) _) | refine Blk.drewN ?_ _ | exact Blk.s5_4 HMid.out.line.blk)
set_option maxRecDepth 100000 in
set_option maxHeartbeats 8000000 in
theorem Receive_b (b : Int) (B g : Nat) (A : Option Addr) (cap : Nat) (l : Ln) (p : Pk) (w : World) (h : LineAt w B g A cap l) (hB : B ≤ w.heap.size) (hl : Lx.ok b l) (hb : b ≤ 4611686018427387904) (hak : p.ak ≤ 9223372036854775807) (m : Nat) (hm1 : 1 ≤ m) (hm2 : m ≤ l.L.length) (hpk : p.ak = l.dn + m) (hmc : cap ≤ m) :
    Calls Try.prog 31 #[.pointer (some ⟨g, 0, none⟩), .agg #[.bool p.has, .int .i64 p.nu, .int .i64 p.nt.k, .int .i64 p.nt.s, .int .i64 p.nt.a, .int .i64 p.nt.b, .int .i64 p.nt.c, .int .i64 p.ak]] w (RecvTo w B g A l p) := by
  have hlt := h.blk.lt
  have c0 := h.blk.cell 0 rfl
  have c1 := h.blk.cell 1 rfl
  have c2 := h.blk.cell 2 rfl
  have c3 := h.blk.cell 3 rfl
  have c4 := h.blk.cell 4 rfl
  have f1 := h.blk.free 1
  have f2 := h.blk.free 2
  have H := Lib.hid h
  have HBase := Lib.hid hB
  have bd := hl.1
  have bt := hl.2.1
  have bl := hl.2.2
  have h1 : IntKind.i64.wrap (l.tk + 1) = l.tk + 1 := IntWalk.i64_in _ (by omega)
  have H1 := Lib.hid h1
  have HP := Lib.hid (pre_init w p)
  have HA := Lib.hid hak
  obtain ⟨len, hlen⟩ : ∃ len, len = l.L.length := ⟨_, rfl⟩
  rw [← hlen] at c1 bl
  have HLen := Lib.hid hlen
  clear h hB hl h1 hak hlen
  rw [← HLen.out] at hm2
  obtain ⟨r, rfl, hnc, hcm⟩ := row_form H.out.own (by rw [← HLen.out]; omega)
  rw [← HLen.out] at hnc
  have hd : decide (l.dn < p.ak) = true := by simp; omega
  have hd2 : decide ((m : Int) ≤ (len : Int)) = true := by simp; omega
  have hw : IntKind.i64.wrap (p.ak - l.dn) = (m : Int) := by rw [IntWalk.i64_in _ (by have := HA.out; omega)]; omega
  have HK := Lib.hid hpk
  clear hpk
  unfold maxLen at hcm
  have HLm := Lib.hid (show len - m = (l.L.drop m).length by rw [List.length_drop, HLen.out])
  have HL2 := Lib.hid (show (l.L.drop m).length ≤ 1000000 by rw [List.length_drop, ← HLen.out]; omega)
  have HSrc := Lib.hid (show ∀ W, Touch (fun _ => False) w W → SrcRow W (some ⟨r, 0, none⟩) (len - m) (flat (l.L.drop m)) from fun W ht => by
    rw [List.drop_eq_nil_of_le (by rw [← HLen.out]; omega)]
    exact .inr ⟨_, rfl, fun j u hu => by simp [flat] at hu⟩)
  go_enter Try.func31, Try.ntmps31
  go_wp2_with (go_at_call 57; refine (validL_c _ _ (by go_simp)).mono ?_; rintro e w' ⟨rfl, rfl⟩)
  go_quiet (fail)
  go_wp2_with fail
  go_quiet (fail)
  go_upto_region 7 with (go_at_call 58; refine (Clone_c (some ⟨r, 0, none⟩) (len - m) _ (l.L.drop m) _ HLm.out (HSrc.out _ (HP.out.drewN _).t) (fun e => by cases e) HL2.out).mono ?_; rintro e w1 ⟨A', cap', rfl, hown, hbel⟩; have hP1 := pre_call HP.out hbel; have hg := (hP1.line H.out).blk; have d1 := hg.cell 1 rfl; have d2 := hg.cell 2 rfl; have e1 := hg.free 1; have e2 := hg.free 2; have x7 := hP1.box.cell 7 rfl; have HP1 := Lib.hid hP1; have HOw := Lib.hid hown; clear hg hP1 hown hbel)
  refine wp_world (fun W => ∃ A1 cap1, RecvMid w B g (some ⟨r, 0, none⟩) p (Lx.ack l p) A1 cap1 W) (mid_yes H.out HBase.out hm1 (by rw [← HLen.out]; exact hm2) HK.out HP1.out ?_ HOw.out ?_) ?_
  · simp
  · simp
  intro W1 hM
  have HM := Lib.hid hM
  clear hM d1 d2 e1 e2 x7 HP1 HOw HP HLen HLm HL2 HSrc HK c1 c2 c3 c4 f1 f2 hd hd2 hw hm1 hm2 hnc hcm hmc bd bt bl
  obtain ⟨A1, cap1, hM⟩ := HM.out
  clear HM
  have d0 := hM.line.blk.cell 0 rfl
  have d1 := hM.line.blk.cell 1 rfl
  have d2 := hM.line.blk.cell 2 rfl
  have d3 := hM.line.blk.cell 3 rfl
  have d4 := hM.line.blk.cell 4 rfl
  have e3 := hM.line.blk.free 3
  have e4 := hM.line.blk.free 4
  rw [ack_tk] at d3
  have x0 := hM.box.cell 0 rfl
  have x1 := hM.box.cell 1 rfl
  have x2 := hM.box.cell 2 rfl
  have x3 := hM.box.cell 3 rfl
  have x4 := hM.box.cell 4 rfl
  have x5 := hM.box.cell 5 rfl
  have x6 := hM.box.cell 6 rfl
  have r0 := hM.res.cell 0 rfl
  have r1 := hM.res.cell 1 rfl
  have r2 := hM.res.cell 2 rfl
  have r3 := hM.res.cell 3 rfl
  have r4 := hM.res.cell 4 rfl
  have s0 := hM.res.free 0
  have s1 := hM.res.free 1
  have s2 := hM.res.free 2
  have s3 := hM.res.free 3
  have s4 := hM.res.free 4
  have hz : w.heap.size + 1 < W1.heap.size := hM.res.lt
  have HMid := Lib.hid hM
  clear hM
  cases hh : p.has
  · rw [hh] at x0
    have HR := Lib.hid (recv_no (l := l) hh)
    clear hh
    go_wp2_with fail
    refine bodyPost_ret (v := .tuple #[.agg #[.int .i64 0, .int .i64 0, .int .i64 0, .int .i64 0, .int .i64 0], .bool false]) (by simp [results, Try.results31, go_sem, *]) rfl ⟨by rw [HR.out.1, HR.out.2.1]; rfl, ?_⟩
    rw [HR.out.2.2]
    refine recv_end HMid.out hlt ?_ rfl ?_
    · repeat (first | (refine Touch.setCell ?_ (Or.inl (by simp)) _) | refine Touch.drewN ?_ _ | exact Touch.refl _ _)
    · repeat (first | (refine Blk.setCell_ne ?_ (by simp; omega) _) | refine Blk.drewN ?_ _ | exact HMid.out.line.blk)
  · rw [hh] at x0
    by_cases hn : p.nu = l.tk + 1
    · have HR := Lib.hid (recv_next (l := l) hh hn)
      have hb1 : (p.nu != l.tk + 1) = false := by simp [hn]
      have hw1 := H1.out
      clear hn hh
      go_wp2_with fail
      go_quiet (fail)
      go_wp2_with fail
      refine bodyPost_ret (v := .tuple #[.agg #[.int .i64 p.nt.k, .int .i64 p.nt.s, .int .i64 p.nt.a, .int .i64 p.nt.b, .int .i64 p.nt.c], .bool true]) (by simp [results, Try.results31, go_sem, *]) rfl ⟨by rw [HR.out.1, HR.out.2.1], ?_⟩
      rw [HR.out.2.2]
      refine recv_end HMid.out hlt ?_ rfl ?_
      · repeat (first | (refine Touch.setCell ?_ (Or.inl (by simp)) _) | refine Touch.drewN ?_ _ | exact Touch.refl _ _)
      · repeat (first | (refine Blk.setCell_ne ?_ (by simp; omega) _) | refine Blk.drewN ?_ _ | exact Blk.s5_3 (Blk.s5_4 HMid.out.line.blk) | exact Blk.s5_3 ((Blk.s5_4 HMid.out.line.blk).drewN _))
    · have HR := Lib.hid (recv_other (l := l) hh hn)
      have hb1 : (p.nu != l.tk + 1) = true := by simp [hn]
      have hw1 := H1.out
      clear hn hh
      go_wp2_with fail
      go_quiet (fail)
      go_wp2_with fail
      refine bodyPost_ret (v := .tuple #[.agg #[.int .i64 0, .int .i64 0, .int .i64 0, .int .i64 0, .int .i64 0], .bool false]) (by simp [results, Try.results31, go_sem, *]) rfl ⟨by rw [HR.out.1, HR.out.2.1]; rfl, ?_⟩
      rw [HR.out.2.2]
      refine recv_end HMid.out hlt ?_ rfl ?_
      · repeat (first | (refine Touch.setCell ?_ (Or.inl (by simp)) _) | refine Touch.drewN ?_ _ | exact Touch.refl _ _)
      · repeat (first | (refine Blk.setCell_ne ?_ (by simp; omega) _) | refine Blk.drewN ?_ _ | exact Blk.s5_4 HMid.out.line.blk)
theorem Receive_c (b : Int) (B g : Nat) (A : Option Addr) (cap : Nat) (l : Ln) (p : Pk) (w : World) (h : LineAt w B g A cap l) (hB : B ≤ w.heap.size) (hl : Lx.ok b l) (hb : b ≤ 4611686018427387904) (hak : p.ak ≤ 9223372036854775807) :
    Calls Try.prog 31 #[.pointer (some ⟨g, 0, none⟩), .agg #[.bool p.has, .int .i64 p.nu, .int .i64 p.nt.k, .int .i64 p.nt.s, .int .i64 p.nt.a, .int .i64 p.nt.b, .int .i64 p.nt.c, .int .i64 p.ak]] w (RecvTo w B g A l p) := by
  rcases ack_cases l p b hl hb with ⟨m, hm1, hm2, hpk⟩ | ⟨k1, k2⟩ | k1
  · rcases Nat.lt_or_ge m cap with hmc | hmc
    · exact Receive_a b B g A cap l p w h hB hl hb hak m hm1 hm2 hpk hmc
    · exact Receive_b b B g A cap l p w h hB hl hb hak m hm1 hm2 hpk hmc
  · exact Receive_2 b B g A cap l p w h hB hl hb hak k1 k2
  · exact Receive_3 b B g A cap l p w h hB hl hb hak k1
end Go.Proofs.Ytafajclbghofkaa
