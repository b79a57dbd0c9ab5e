/- The contract of newLimiter of drive. -/
import Derived.Test.YtcneohhfnnelgaaW50
namespace Go.Proofs.Ytcneohhfnnelgaa
open Go.RowKit
set_option linter.unusedVariables false

theorem LmI.from {w W : World} {g p1 p2 : Nat} {cs : List Value} (h0 : w.heap.size ≤ g) (hg : Blk W g 131 cs) (hb : Below w.heap.size w W) (h1 : W.heap[p1]? = some (.cells #[.pointer none, .pointer none, .pointer none, .pointer none] 119)) (h2 : W.heap[p2]? = some (.cells #[.pointer none, .pointer none, .pointer none, .pointer none] 119)) (hne : p1 ≠ p2) (z1 : w.heap.size ≤ p1) (z2 : w.heap.size ≤ p2) :
    LmI w g p1 p2 cs ((((((((W.setCell ⟨p1, 0, none⟩ (.pointer (some ⟨g, 10, none⟩))).setCell ⟨p1, 1, none⟩ (.pointer (some ⟨g, 11, none⟩))).setCell ⟨p1, 2, none⟩ (.pointer (some ⟨g, 12, none⟩))).setCell ⟨p1, 3, none⟩ (.pointer (some ⟨g, 13, none⟩))).setCell ⟨p2, 0, none⟩ (.pointer (some ⟨g, 20, none⟩))).setCell ⟨p2, 1, none⟩ (.pointer (some ⟨g, 21, none⟩))).setCell ⟨p2, 2, none⟩ (.pointer (some ⟨g, 22, none⟩))).setCell ⟨p2, 3, none⟩ (.pointer (some ⟨g, 23, none⟩))) := by
  have b1 : Blk W p1 119 [.pointer none, .pointer none, .pointer none, .pointer none] := h1
  have b2 : Blk W p2 119 [.pointer none, .pointer none, .pointer none, .pointer none] := h2
  have n1 : g ≠ p1 := fun e => blk_type_ne hg b1 (by decide) e.symm
  have n2 : g ≠ p2 := fun e => blk_type_ne hg b2 (by decide) e.symm
  refine ⟨h0, ?_, ?_, ?_, ?_⟩
  · exact (((((((hg.setCell_ne (by exact n1) _).setCell_ne (by exact n1) _).setCell_ne (by exact n1) _).setCell_ne (by exact n1) _).setCell_ne (by exact n2) _).setCell_ne (by exact n2) _).setCell_ne (by exact n2) _).setCell_ne (by exact n2) _
  · exact (((((((b1.setCell 0 _).setCell 1 _).setCell 2 _).setCell 3 _).setCell_ne (by exact hne) _).setCell_ne (by exact hne) _).setCell_ne (by exact hne) _).setCell_ne (by exact hne) _
  · exact (((((((b2.setCell_ne (by exact hne.symm) _).setCell_ne (by exact hne.symm) _).setCell_ne (by exact hne.symm) _).setCell_ne (by exact hne.symm) _).setCell 0 _).setCell 1 _).setCell 2 _).setCell 3 _
  · exact (((((((hb.setCell z1 _).setCell z1 _).setCell z1 _).setCell z1 _).setCell z2 _).setCell z2 _).setCell z2 _).setCell z2 _
/-- the cells of the limiter's numbers -/
theorem lmCells {W : World} {g : Nat} {m lo hi : Mot} {a b : Int} (h : Blk W g 131 (lmC m lo hi a b)) :
    (W.cell? ⟨g, 0, none⟩ = some (.int .i64 m.r) ∧ W.cell? ⟨g, 1, none⟩ = some (.int .i64 m.ld) ∧ W.cell? ⟨g, 2, none⟩ = some (.int .i64 m.lq) ∧ W.cell? ⟨g, 3, none⟩ = some (.int .i64 m.fx) ∧ W.cell? ⟨g, 4, none⟩ = some (.int .i64 m.po) ∧ W.cell? ⟨g, 5, none⟩ = some (.int .i64 m.mi) ∧ W.cell? ⟨g, 6, none⟩ = some (.int .i64 m.sp) ∧ W.cell? ⟨g, 7, none⟩ = some (.int .i64 m.dr) ∧ W.cell? ⟨g, 8, none⟩ = some (.int .i64 m.cu) ∧ W.cell? ⟨g, 9, none⟩ = some (.int .i64 m.fa)) ∧
    (W.cell? ⟨g, 10, none⟩ = some (.int .i64 lo.r) ∧ W.cell? ⟨g, 11, none⟩ = some (.int .i64 lo.ld) ∧ W.cell? ⟨g, 12, none⟩ = some (.int .i64 lo.lq) ∧ W.cell? ⟨g, 13, none⟩ = some (.int .i64 lo.fx) ∧ W.cell? ⟨g, 14, none⟩ = some (.int .i64 lo.po) ∧ W.cell? ⟨g, 15, none⟩ = some (.int .i64 lo.mi) ∧ W.cell? ⟨g, 16, none⟩ = some (.int .i64 lo.sp) ∧ W.cell? ⟨g, 17, none⟩ = some (.int .i64 lo.dr) ∧ W.cell? ⟨g, 18, none⟩ = some (.int .i64 lo.cu) ∧ W.cell? ⟨g, 19, none⟩ = some (.int .i64 lo.fa)) ∧
    (W.cell? ⟨g, 20, none⟩ = some (.int .i64 hi.r) ∧ W.cell? ⟨g, 21, none⟩ = some (.int .i64 hi.ld) ∧ W.cell? ⟨g, 22, none⟩ = some (.int .i64 hi.lq) ∧ W.cell? ⟨g, 23, none⟩ = some (.int .i64 hi.fx) ∧ W.cell? ⟨g, 24, none⟩ = some (.int .i64 hi.po) ∧ W.cell? ⟨g, 25, none⟩ = some (.int .i64 hi.mi) ∧ W.cell? ⟨g, 26, none⟩ = some (.int .i64 hi.sp) ∧ W.cell? ⟨g, 27, none⟩ = some (.int .i64 hi.dr) ∧ W.cell? ⟨g, 28, none⟩ = some (.int .i64 hi.cu) ∧ W.cell? ⟨g, 29, none⟩ = some (.int .i64 hi.fa)) ∧
    (W.cell? ⟨g, 30, none⟩ = some (.int .i64 a) ∧ W.cell? ⟨g, 31, none⟩ = some (.int .i64 b)) :=
  ⟨⟨h.cell 0 rfl, h.cell 1 rfl, h.cell 2 rfl, h.cell 3 rfl, h.cell 4 rfl, h.cell 5 rfl, h.cell 6 rfl, h.cell 7 rfl, h.cell 8 rfl, h.cell 9 rfl⟩, ⟨h.cell 10 rfl, h.cell 11 rfl, h.cell 12 rfl, h.cell 13 rfl, h.cell 14 rfl, h.cell 15 rfl, h.cell 16 rfl, h.cell 17 rfl, h.cell 18 rfl, h.cell 19 rfl⟩, ⟨h.cell 20 rfl, h.cell 21 rfl, h.cell 22 rfl, h.cell 23 rfl, h.cell 24 rfl, h.cell 25 rfl, h.cell 26 rfl, h.cell 27 rfl, h.cell 28 rfl, h.cell 29 rfl⟩, ⟨h.cell 30 rfl, h.cell 31 rfl⟩⟩
theorem ptrCells {W : World} {p b o : Nat} (h : Blk W p 119 (ptrsAt b o)) : W.cell? ⟨p, 0, none⟩ = some (.pointer (some ⟨b, o, none⟩)) ∧ W.cell? ⟨p, 1, none⟩ = some (.pointer (some ⟨b, o + 1, none⟩)) ∧ W.cell? ⟨p, 2, none⟩ = some (.pointer (some ⟨b, o + 2, none⟩)) ∧ W.cell? ⟨p, 3, none⟩ = some (.pointer (some ⟨b, o + 3, none⟩)) :=
  ⟨h.cell 0 rfl, h.cell 1 rfl, h.cell 2 rfl, h.cell 3 rfl⟩

set_option maxHeartbeats 1000000 in
theorem newLimiter_no1 (m : Mot) (A : Option Addr) (n cap : Nat) (w : World) (hC : Dv.chkB m = false) :
    Calls Try.prog 108 #[.agg #[.int .i64 m.r, .int .i64 m.ld, .int .i64 m.lq, .int .i64 m.fx, .int .i64 m.po, .int .i64 m.mi, .int .i64 m.sp, .int .i64 m.dr, .int .i64 m.cu, .int .i64 m.fa], .slice A n cap] w fun e w' => e = .returned (.tuple #[.pointer none, .int .i64 2]) ∧ Below w.heap.size w w' := by
  go_enter Try.func108, Try.ntmps108
  go_wp2_with fail
  refine (Check_no m _ hC).mono ?_
  rintro e w1 ⟨rfl, hb1⟩
  have HB := Lib.hid (((Below.refl w.heap.size w).alloc (Nat.le_refl _) (.cells #[.int .i64 m.r, .int .i64 m.ld, .int .i64 m.lq, .int .i64 m.fx, .int .i64 m.po, .int .i64 m.mi, .int .i64 m.sp, .int .i64 m.dr, .int .i64 m.cu, .int .i64 m.fa] 52)).trans (hb1.mono (by simp)))
  clear hb1
  go_wp2
  go_ret2
  exact ⟨rfl, HB.out⟩

set_option maxHeartbeats 2000000 in
set_option maxRecDepth 100000 in
theorem newLimiter_no2 (m : Mot) (A : Option Addr) (l : List Sp) (cap : Nat) (w : World) (hx : SpAt w A l) (hC : Dv.chkB m = true) (hl : ((l.length : Int) != 5) = true) :
    Calls Try.prog 108 #[.agg #[.int .i64 m.r, .int .i64 m.ld, .int .i64 m.lq, .int .i64 m.fx, .int .i64 m.po, .int .i64 m.mi, .int .i64 m.sp, .int .i64 m.dr, .int .i64 m.cu, .int .i64 m.fa], .slice A l.length cap] w fun e w' => e = .returned (.tuple #[.pointer none, .int .i64 2]) ∧ Below w.heap.size w w' := by
  have HX := Lib.hid hx
  clear hx
  go_enter Try.func108, Try.ntmps108
  go_wp2_with fail
  refine (Check_yes m _ hC).mono ?_
  rintro e w1 ⟨rfl, hb1⟩
  have B1 := Lib.hid ((Blk.new' w #[.int .i64 m.r, .int .i64 m.ld, .int .i64 m.lq, .int .i64 m.fx, .int .i64 m.po, .int .i64 m.mi, .int .i64 m.sp, .int .i64 m.dr, .int .i64 m.cu, .int .i64 m.fa] 52).below hb1 (by simp))
  have HB := Lib.hid (((Below.refl w.heap.size w).alloc (Nat.le_refl _) (.cells #[.int .i64 m.r, .int .i64 m.ld, .int .i64 m.lq, .int .i64 m.fx, .int .i64 m.po, .int .i64 m.mi, .int .i64 m.sp, .int .i64 m.dr, .int .i64 m.cu, .int .i64 m.fa] 52)).trans (hb1.mono (by simp)))
  clear hb1
  have z1 := B1.out.lt
  obtain ⟨c0, c1, c2, c3, c4, c5, c6, c7, c8, c9⟩ := motOf (m := m) B1.out
  go_wp2_with fail
  refine gen_world (fun W => Blk W w1.heap.size 131 (lmC m m m 0 0) ∧ Below w.heap.size w W) ⟨Blk.new' _ _ _, HB.out.alloc HB.out.size _⟩ ?_
  have hg0 := HB.out.size
  generalize w1.heap.size = g at hg0 ⊢
  clear c0 c1 c2 c3 c4 c5 c6 c7 c8 c9 z1 B1 HB w1
  rintro w1 ⟨bg, hB1⟩
  have I0 := Lib.hid (And.intro bg hB1)
  clear bg hB1
  refine wp_region_priv 10 [.q, .q, .q, .q, .q, .q, .q, .q, .p, .p] (fun _ => (.cells #[.pointer none, .pointer none, .pointer none, .pointer none] 119, fun b => .pointer (some ⟨b, 0, none⟩))) ?af (by kernel_rfl) (by kernel_rfl) ?walk ?tail
  case walk =>
    intro V hV
    simp only [List.take_succ_cons, List.take_zero]
    repeat (refine wpP_q ?_; go_big_quiet_step (first | (go_at_call 106; with_reducible exact past_below (parts10_c g _)) | (go_at_call 106; with_reducible exact past_below (parts20_c g _))); refine wpQuiet_nil ?_)
    refine wpP_p (by kernel_rfl) (fun _ => by kernel_rfl) ?_
    (try simp only [Act.put, List.setIfInBounds_toArray, List.set_cons_zero, List.set_cons_succ])
    refine wpP_p (by kernel_rfl) (fun _ => by kernel_rfl) ?_
    (try simp only [Act.put, List.setIfInBounds_toArray, List.set_cons_zero, List.set_cons_succ])
    refine wpP_nil ?_
    rfl
  case tail =>
  intro gs w2 hb2 hP hD
  obtain ⟨hp1, k1⟩ := hP 8 rfl
  obtain ⟨hp2, k2⟩ := hP 9 rfl
  have hne := hD 8 9 rfl rfl (by decide)
  simp only [List.take_succ_cons, List.take_zero, fillP]
  (try simp only [Act.put, List.setIfInBounds_toArray, List.set_cons_zero, List.set_cons_succ])
  generalize gs 8 = p1 at hp1 k1 hne ⊢
  generalize gs 9 = p2 at hp2 k2 hne ⊢
  clear hP hD
  have hz1 := Nat.le_trans I0.out.2.size hp1
  have hz2 := Nat.le_trans I0.out.2.size hp2
  have HI := Lib.hid (LmI.from hg0 (I0.out.1.below hb2 I0.out.1.lt) (I0.out.2.trans (hb2.mono I0.out.2.size)) k1 k2 hne hz1 hz2)
  have f10 := Blk.free (t := 119) (cs := [.pointer none, .pointer none, .pointer none, .pointer none]) k1 0
  have f11 := Blk.free (t := 119) (cs := [.pointer none, .pointer none, .pointer none, .pointer none]) k1 1
  have f12 := Blk.free (t := 119) (cs := [.pointer none, .pointer none, .pointer none, .pointer none]) k1 2
  have f13 := Blk.free (t := 119) (cs := [.pointer none, .pointer none, .pointer none, .pointer none]) k1 3
  have f20 := Blk.free (t := 119) (cs := [.pointer none, .pointer none, .pointer none, .pointer none]) k2 0
  have f21 := Blk.free (t := 119) (cs := [.pointer none, .pointer none, .pointer none, .pointer none]) k2 1
  have f22 := Blk.free (t := 119) (cs := [.pointer none, .pointer none, .pointer none, .pointer none]) k2 2
  have f23 := Blk.free (t := 119) (cs := [.pointer none, .pointer none, .pointer none, .pointer none]) k2 3
  have d10 := Blk.cell (t := 119) (cs := [.pointer none, .pointer none, .pointer none, .pointer none]) k1 0 rfl
  have d11 := Blk.cell (t := 119) (cs := [.pointer none, .pointer none, .pointer none, .pointer none]) k1 1 rfl
  have d12 := Blk.cell (t := 119) (cs := [.pointer none, .pointer none, .pointer none, .pointer none]) k1 2 rfl
  have d13 := Blk.cell (t := 119) (cs := [.pointer none, .pointer none, .pointer none, .pointer none]) k1 3 rfl
  have d20 := Blk.cell (t := 119) (cs := [.pointer none, .pointer none, .pointer none, .pointer none]) k2 0 rfl
  have d21 := Blk.cell (t := 119) (cs := [.pointer none, .pointer none, .pointer none, .pointer none]) k2 1 rfl
  have d22 := Blk.cell (t := 119) (cs := [.pointer none, .pointer none, .pointer none, .pointer none]) k2 2 rfl
  have d23 := Blk.cell (t := 119) (cs := [.pointer none, .pointer none, .pointer none, .pointer none]) k2 3 rfl
  have hne1 : ¬ p1 = p2 := hne
  have hne2 : ¬ p2 = p1 := fun e => hne e.symm
  clear hb2 k1 k2 I0 hp1 hp2 hz1 hz2 hne
  simp only [List.drop_succ_cons, List.drop_zero]
  go_wp2
  go_ret2
  exact ⟨rfl, HI.out.2.2.2.2⟩

set_option maxHeartbeats 4000000 in
set_option maxRecDepth 100000 in
theorem newLimiter_go (m : Mot) (A : Option Addr) (s0 s1 s2 s3 s4 : Sp) (cap : Nat) (w : World) (hx : SpAt w A [s0, s1, s2, s3, s4]) (hC : Dv.chkB m = true) :
    Calls Try.prog 108 #[.agg #[.int .i64 m.r, .int .i64 m.ld, .int .i64 m.lq, .int .i64 m.fx, .int .i64 m.po, .int .i64 m.mi, .int .i64 m.sp, .int .i64 m.dr, .int .i64 m.cu, .int .i64 m.fa], .slice A 5 cap] w (LmP m [s0, s1, s2, s3, s4] w) := by
  have HK := Lib.hid (Dv.chkB_iff.1 hC)
  have HX := Lib.hid hx
  clear hx
  go_enter Try.func108, Try.ntmps108
  go_wp2_with fail
  refine (Check_yes m _ hC).mono ?_
  rintro e w1 ⟨rfl, hb1⟩
  have B1 := Lib.hid ((Blk.new' w #[.int .i64 m.r, .int .i64 m.ld, .int .i64 m.lq, .int .i64 m.fx, .int .i64 m.po, .int .i64 m.mi, .int .i64 m.sp, .int .i64 m.dr, .int .i64 m.cu, .int .i64 m.fa] 52).below hb1 (by simp))
  have HB := Lib.hid (((Below.refl w.heap.size w).alloc (Nat.le_refl _) (.cells #[.int .i64 m.r, .int .i64 m.ld, .int .i64 m.lq, .int .i64 m.fx, .int .i64 m.po, .int .i64 m.mi, .int .i64 m.sp, .int .i64 m.dr, .int .i64 m.cu, .int .i64 m.fa] 52)).trans (hb1.mono (by simp)))
  clear hb1
  have z1 := B1.out.lt
  obtain ⟨c0, c1, c2, c3, c4, c5, c6, c7, c8, c9⟩ := motOf (m := m) B1.out
  go_wp2_with fail
  refine gen_world (fun W => Blk W w1.heap.size 131 (lmC m m m 0 0) ∧ Below w.heap.size w W) ⟨Blk.new' _ _ _, HB.out.alloc HB.out.size _⟩ ?_
  have hg0 := HB.out.size
  generalize w1.heap.size = g at hg0 ⊢
  clear c0 c1 c2 c3 c4 c5 c6 c7 c8 c9 z1 B1 HB w1
  rintro w1 ⟨bg, hB1⟩
  have I0 := Lib.hid (And.intro bg hB1)
  clear bg hB1
  refine wp_region_priv 10 [.q, .q, .q, .q, .q, .q, .q, .q, .p, .p] (fun _ => (.cells #[.pointer none, .pointer none, .pointer none, .pointer none] 119, fun b => .pointer (some ⟨b, 0, none⟩))) ?af (by kernel_rfl) (by kernel_rfl) ?walk ?tail
  case walk =>
    intro V hV
    simp only [List.take_succ_cons, List.take_zero]
    repeat (refine wpP_q ?_; go_big_quiet_step (first | (go_at_call 106; with_reducible exact past_below (parts10_c g _)) | (go_at_call 106; with_reducible exact past_below (parts20_c g _))); refine wpQuiet_nil ?_)
    refine wpP_p (by kernel_rfl) (fun _ => by kernel_rfl) ?_
    (try simp only [Act.put, List.setIfInBounds_toArray, List.set_cons_zero, List.set_cons_succ])
    refine wpP_p (by kernel_rfl) (fun _ => by kernel_rfl) ?_
    (try simp only [Act.put, List.setIfInBounds_toArray, List.set_cons_zero, List.set_cons_succ])
    refine wpP_nil ?_
    rfl
  case tail =>
  intro gs w2 hb2 hP hD
  obtain ⟨hp1, k1⟩ := hP 8 rfl
  obtain ⟨hp2, k2⟩ := hP 9 rfl
  have hne := hD 8 9 rfl rfl (by decide)
  simp only [List.take_succ_cons, List.take_zero, fillP]
  (try simp only [Act.put, List.setIfInBounds_toArray, List.set_cons_zero, List.set_cons_succ])
  generalize gs 8 = p1 at hp1 k1 hne ⊢
  generalize gs 9 = p2 at hp2 k2 hne ⊢
  clear hP hD
  have hz1 := Nat.le_trans I0.out.2.size hp1
  have hz2 := Nat.le_trans I0.out.2.size hp2
  have HI := Lib.hid (LmI.from hg0 (I0.out.1.below hb2 I0.out.1.lt) (I0.out.2.trans (hb2.mono I0.out.2.size)) k1 k2 hne hz1 hz2)
  have f10 := Blk.free (t := 119) (cs := [.pointer none, .pointer none, .pointer none, .pointer none]) k1 0
  have f11 := Blk.free (t := 119) (cs := [.pointer none, .pointer none, .pointer none, .pointer none]) k1 1
  have f12 := Blk.free (t := 119) (cs := [.pointer none, .pointer none, .pointer none, .pointer none]) k1 2
  have f13 := Blk.free (t := 119) (cs := [.pointer none, .pointer none, .pointer none, .pointer none]) k1 3
  have f20 := Blk.free (t := 119) (cs := [.pointer none, .pointer none, .pointer none, .pointer none]) k2 0
  have f21 := Blk.free (t := 119) (cs := [.pointer none, .pointer none, .pointer none, .pointer none]) k2 1
  have f22 := Blk.free (t := 119) (cs := [.pointer none, .pointer none, .pointer none, .pointer none]) k2 2
  have f23 := Blk.free (t := 119) (cs := [.pointer none, .pointer none, .pointer none, .pointer none]) k2 3
  have d10 := Blk.cell (t := 119) (cs := [.pointer none, .pointer none, .pointer none, .pointer none]) k1 0 rfl
  have d11 := Blk.cell (t := 119) (cs := [.pointer none, .pointer none, .pointer none, .pointer none]) k1 1 rfl
  have d12 := Blk.cell (t := 119) (cs := [.pointer none, .pointer none, .pointer none, .pointer none]) k1 2 rfl
  have d13 := Blk.cell (t := 119) (cs := [.pointer none, .pointer none, .pointer none, .pointer none]) k1 3 rfl
  have d20 := Blk.cell (t := 119) (cs := [.pointer none, .pointer none, .pointer none, .pointer none]) k2 0 rfl
  have d21 := Blk.cell (t := 119) (cs := [.pointer none, .pointer none, .pointer none, .pointer none]) k2 1 rfl
  have d22 := Blk.cell (t := 119) (cs := [.pointer none, .pointer none, .pointer none, .pointer none]) k2 2 rfl
  have d23 := Blk.cell (t := 119) (cs := [.pointer none, .pointer none, .pointer none, .pointer none]) k2 3 rfl
  have hne1 : ¬ p1 = p2 := hne
  have hne2 : ¬ p2 = p1 := fun e => hne e.symm
  clear hb2 k1 k2 I0 hp1 hp2 hz1 hz2 hne
  simp only [List.drop_succ_cons, List.drop_zero]
  go_wp2_with fail
  refine gen_world (fun W => LmI w g p1 p2 (lmC m m m 0 0) W) HI.out ?_
  clear HI
  clear f10 f11 f12 f13 f20 f21 f22 f23 d10 d11 d12 d13 d20 d21 d22 d23 hne1 hne2
  rintro w2 i2
  have I2 := Lib.hid i2
  clear i2
  obtain ⟨ad, rfl, i5⟩ := HX.out.five
  have H5 := Lib.hid i5
  clear i5
  go_loopw [37] (fun i wr => ∃ k : Nat, k ≤ 5 ∧ i = .int .i64 k ∧ Hid (LmI w g p1 p2 (lmC m m m 0 0) wr ∧ ∀ j, j < k → Dv.spV ([s0, s1, s2, s3, s4].getD j default) = true)) (fun i _ => 5 - (intOf i).toNat)
  case atStart => exact ⟨0, by omega, rfl, Lib.hid ⟨I2.out, fun j hj => absurd hj (Nat.not_lt_zero _)⟩⟩
  case round =>
    obtain ⟨k, hk, rfl, HW⟩ := hrel
    by_cases hlt : k < 5
    · obtain ⟨ad', e', z1, x0, x1⟩ := (HX.out.below HW.out.1.2.2.2.2) k hlt
      cases e'
      have HV := Lib.hid (show ∀ b, Dv.spV ([s0, s1, s2, s3, s4].getD k default) = b → Dv.spanB ([s0, s1, s2, s3, s4].getD k default).lo ([s0, s1, s2, s3, s4].getD k default).hi = b from fun b hb => hb)
      have HN := Lib.hid (show Dv.spanB ([s0, s1, s2, s3, s4].getD k default).lo ([s0, s1, s2, s3, s4].getD k default).hi = false → Dv.lmE m [s0, s1, s2, s3, s4] = 2 from fun hf => by
        unfold Dv.lmE
        rw [if_neg]
        intro ha
        unfold Dv.lmA at ha
        simp only [Bool.and_eq_true, List.all_eq_true] at ha
        have hm : [s0, s1, s2, s3, s4].getD k default ∈ [s0, s1, s2, s3, s4] := by
          rw [List.getD_eq_getElem?_getD, List.getElem?_eq_getElem hlt]
          exact List.getElem_mem _
        have := ha.2.2 _ hm
        unfold Dv.spV at this
        rw [hf] at this
        cases this)
      have HY := Lib.hid (show Dv.spanB ([s0, s1, s2, s3, s4].getD k default).lo ([s0, s1, s2, s3, s4].getD k default).hi = true → ∀ j, j < k + 1 → Dv.spV ([s0, s1, s2, s3, s4].getD j default) = true from fun ht j hj => by
        by_cases hjk : j = k
        · subst hjk; exact ht
        · exact HW.out.2 j (by omega))
      have HI := Lib.hid HW.out.1
      clear HW HV
      generalize [s0, s1, s2, s3, s4].getD k default = s at x0 x1 HN HY
      go_wp2_with fail
      refine (span_c s.lo s.hi _).mono ?_
      rintro e w4 ⟨rfl, hb4⟩
      have I4 := Lib.hid ((HI.out.below ((Below.refl _ _).alloc (Nat.le_refl _) _)).below hb4)
      clear hb4 x0 x1 z1
      cases hv : Dv.spanB s.lo s.hi
      · have HE := Lib.hid (HN.out hv)
        clear hv
        go_wp2
        go_ret2
        exact ⟨I4.out.2.2.2.2, .inl ⟨by rw [HE.out]; decide, by rw [HE.out]; rfl⟩⟩
      · have HF := Lib.hid (HY.out hv)
        clear hv
        go_wp2
        go_roundw
        case rel => exact ⟨k + 1, by omega, by go_num, Lib.hid ⟨I4.out, HF.out⟩⟩
        case measure => simp [intOf]; omega
    · obtain rfl : k = 5 := by omega
      have v0 := HW.out.2 0 (by omega)
      have v1 := HW.out.2 1 (by omega)
      have v2 := HW.out.2 2 (by omega)
      have v3 := HW.out.2 3 (by omega)
      have v4 := HW.out.2 4 (by omega)
      have HA : Hid (Dv.lmA m [s0, s1, s2, s3, s4] = true) := Lib.hid (by
        unfold Dv.lmA
        rw [hC]
        simp only [List.all_cons, List.all_nil]
        rw [show Dv.spV s0 = true from v0, show Dv.spV s1 = true from v1, show Dv.spV s2 = true from v2, show Dv.spV s3 = true from v3, show Dv.spV s4 = true from v4]
        rfl)
      have q0 := spV_bd v0
      have q1 := spV_bd v1
      have q2 := spV_bd v2
      have q3 := spV_bd v3
      have q4 := spV_bd v4
      simp only [List.getD_cons_zero, List.getD_cons_succ] at q0 q1 q2 q3 q4
      have I4 := Lib.hid HW.out.1
      clear HW v0 v1 v2 v3 v4
      have hm := HK.out
      unfold Dv.chk at hm
      go_wp2_with fail
      refine wp_loop_rounds 5 ?_
      rw [rounds_succ]
      go_wp2_with fail
      refine wp_region_head 12 ?afL0 (by kernel_rfl) (by kernel_rfl) ?walkL0 ?tailL0
      case walkL0 =>
        intro V hV
        have IV := Lib.hid (I4.out.below hV)
        have hz5 := H5.out.1
        obtain ⟨z5, x0, x1, x2, x3, x4, x5, x6, x7, x8, x9⟩ := H5.out.below IV.out.2.2.2.2 hz5
        obtain ⟨_, ⟨y0, y1, y2, y3, _⟩, ⟨u0, u1, u2, u3, _⟩, _⟩ := lmCells IV.out.2.1
        obtain ⟨t0, t1, t2, t3⟩ := ptrCells IV.out.2.2.1
        obtain ⟨r0, r1, r2, r3⟩ := ptrCells IV.out.2.2.2.1
        have zz1 := IV.out.2.1.lt
        have zz2 := IV.out.2.2.1.lt
        have zz3 := IV.out.2.2.2.1.lt
        simp only [List.take_succ_cons, List.take_zero]
        repeat (go_big_quiet_step (fail))
        refine wpQuiet_nil ?_
        rfl
      case tailL0 =>
      intro w5 hb5
      have I5 := Lib.hid (I4.out.below hb5)
      clear hb5 I4
      have fr := I5.out.2.1.free 10
      obtain ⟨_, ⟨y0, y1, y2, y3, _⟩, ⟨u0, u1, u2, u3, _⟩, _⟩ := lmCells I5.out.2.1
      simp only [List.drop_succ_cons, List.drop_zero]
      go_wp2_with fail
      refine gen_world (fun W => LmI w g p1 p2 (lmC m (Mot.mk (m.r + s0.lo) m.ld m.lq m.fx m.po m.mi m.sp m.dr m.cu m.fa) (Mot.mk m.r m.ld m.lq m.fx m.po m.mi m.sp m.dr m.cu m.fa) 0 0) W) (I5.out.put 10 _ rfl) ?_
      clear I5 fr y0 y1 y2 y3 u0 u1 u2 u3
      rintro w4 i4
      have I4 := Lib.hid i4
      clear i4
      refine wp_region_head 12 ?afH0 (by kernel_rfl) (by kernel_rfl) ?walkH0 ?tailH0
      case walkH0 =>
        intro V hV
        have IV := Lib.hid (I4.out.below hV)
        have hz5 := H5.out.1
        obtain ⟨z5, x0, x1, x2, x3, x4, x5, x6, x7, x8, x9⟩ := H5.out.below IV.out.2.2.2.2 hz5
        obtain ⟨_, ⟨y0, y1, y2, y3, _⟩, ⟨u0, u1, u2, u3, _⟩, _⟩ := lmCells IV.out.2.1
        obtain ⟨t0, t1, t2, t3⟩ := ptrCells IV.out.2.2.1
        obtain ⟨r0, r1, r2, r3⟩ := ptrCells IV.out.2.2.2.1
        have zz1 := IV.out.2.1.lt
        have zz2 := IV.out.2.2.1.lt
        have zz3 := IV.out.2.2.2.1.lt
        simp only [List.take_succ_cons, List.take_zero]
        repeat (go_big_quiet_step (fail))
        refine wpQuiet_nil ?_
        rfl
      case tailH0 =>
      intro w5 hb5
      have I5 := Lib.hid (I4.out.below hb5)
      clear hb5 I4
      have fr := I5.out.2.1.free 20
      obtain ⟨_, ⟨y0, y1, y2, y3, _⟩, ⟨u0, u1, u2, u3, _⟩, _⟩ := lmCells I5.out.2.1
      simp only [List.drop_succ_cons, List.drop_zero]
      go_wp2_with fail
      refine gen_world (fun W => LmI w g p1 p2 (lmC m (Mot.mk (m.r + s0.lo) m.ld m.lq m.fx m.po m.mi m.sp m.dr m.cu m.fa) (Mot.mk (m.r + s0.hi) m.ld m.lq m.fx m.po m.mi m.sp m.dr m.cu m.fa) 0 0) W) (I5.out.put 20 _ rfl) ?_
      clear I5 fr y0 y1 y2 y3 u0 u1 u2 u3
      rintro w4 i4
      have I4 := Lib.hid i4
      clear i4
      go_wp2_with fail
      try (rw [rounds_succ]; go_wp2_with fail)
      refine wp_region_head 12 ?afL1 (by kernel_rfl) (by kernel_rfl) ?walkL1 ?tailL1
      case walkL1 =>
        intro V hV
        have IV := Lib.hid (I4.out.below hV)
        have hz5 := H5.out.1
        obtain ⟨z5, x0, x1, x2, x3, x4, x5, x6, x7, x8, x9⟩ := H5.out.below IV.out.2.2.2.2 hz5
        obtain ⟨_, ⟨y0, y1, y2, y3, _⟩, ⟨u0, u1, u2, u3, _⟩, _⟩ := lmCells IV.out.2.1
        obtain ⟨t0, t1, t2, t3⟩ := ptrCells IV.out.2.2.1
        obtain ⟨r0, r1, r2, r3⟩ := ptrCells IV.out.2.2.2.1
        have zz1 := IV.out.2.1.lt
        have zz2 := IV.out.2.2.1.lt
        have zz3 := IV.out.2.2.2.1.lt
        simp only [List.take_succ_cons, List.take_zero]
        repeat (go_big_quiet_step (fail))
        refine wpQuiet_nil ?_
        rfl
      case tailL1 =>
      intro w5 hb5
      have I5 := Lib.hid (I4.out.below hb5)
      clear hb5 I4
      have fr := I5.out.2.1.free 11
      obtain ⟨_, ⟨y0, y1, y2, y3, _⟩, ⟨u0, u1, u2, u3, _⟩, _⟩ := lmCells I5.out.2.1
      simp only [List.drop_succ_cons, List.drop_zero]
      go_wp2_with fail
      refine gen_world (fun W => LmI w g p1 p2 (lmC m (Mot.mk (m.r + s0.lo) (m.ld + s1.lo) m.lq m.fx m.po m.mi m.sp m.dr m.cu m.fa) (Mot.mk (m.r + s0.hi) m.ld m.lq m.fx m.po m.mi m.sp m.dr m.cu m.fa) 0 0) W) (I5.out.put 11 _ rfl) ?_
      clear I5 fr y0 y1 y2 y3 u0 u1 u2 u3
      rintro w4 i4
      have I4 := Lib.hid i4
      clear i4
      refine wp_region_head 12 ?afH1 (by kernel_rfl) (by kernel_rfl) ?walkH1 ?tailH1
      case walkH1 =>
        intro V hV
        have IV := Lib.hid (I4.out.below hV)
        have hz5 := H5.out.1
        obtain ⟨z5, x0, x1, x2, x3, x4, x5, x6, x7, x8, x9⟩ := H5.out.below IV.out.2.2.2.2 hz5
        obtain ⟨_, ⟨y0, y1, y2, y3, _⟩, ⟨u0, u1, u2, u3, _⟩, _⟩ := lmCells IV.out.2.1
        obtain ⟨t0, t1, t2, t3⟩ := ptrCells IV.out.2.2.1
        obtain ⟨r0, r1, r2, r3⟩ := ptrCells IV.out.2.2.2.1
        have zz1 := IV.out.2.1.lt
        have zz2 := IV.out.2.2.1.lt
        have zz3 := IV.out.2.2.2.1.lt
        simp only [List.take_succ_cons, List.take_zero]
        repeat (go_big_quiet_step (fail))
        refine wpQuiet_nil ?_
        rfl
      case tailH1 =>
      intro w5 hb5
      have I5 := Lib.hid (I4.out.below hb5)
      clear hb5 I4
      have fr := I5.out.2.1.free 21
      obtain ⟨_, ⟨y0, y1, y2, y3, _⟩, ⟨u0, u1, u2, u3, _⟩, _⟩ := lmCells I5.out.2.1
      simp only [List.drop_succ_cons, List.drop_zero]
      go_wp2_with fail
      refine gen_world (fun W => LmI w g p1 p2 (lmC m (Mot.mk (m.r + s0.lo) (m.ld + s1.lo) m.lq m.fx m.po m.mi m.sp m.dr m.cu m.fa) (Mot.mk (m.r + s0.hi) (m.ld + s1.hi) m.lq m.fx m.po m.mi m.sp m.dr m.cu m.fa) 0 0) W) (I5.out.put 21 _ rfl) ?_
      clear I5 fr y0 y1 y2 y3 u0 u1 u2 u3
      rintro w4 i4
      have I4 := Lib.hid i4
      clear i4
      go_wp2_with fail
      try (rw [rounds_succ]; go_wp2_with fail)
      refine wp_region_head 12 ?afL2 (by kernel_rfl) (by kernel_rfl) ?walkL2 ?tailL2
      case walkL2 =>
        intro V hV
        have IV := Lib.hid (I4.out.below hV)
        have hz5 := H5.out.1
        obtain ⟨z5, x0, x1, x2, x3, x4, x5, x6, x7, x8, x9⟩ := H5.out.below IV.out.2.2.2.2 hz5
        obtain ⟨_, ⟨y0, y1, y2, y3, _⟩, ⟨u0, u1, u2, u3, _⟩, _⟩ := lmCells IV.out.2.1
        obtain ⟨t0, t1, t2, t3⟩ := ptrCells IV.out.2.2.1
        obtain ⟨r0, r1, r2, r3⟩ := ptrCells IV.out.2.2.2.1
        have zz1 := IV.out.2.1.lt
        have zz2 := IV.out.2.2.1.lt
        have zz3 := IV.out.2.2.2.1.lt
        simp only [List.take_succ_cons, List.take_zero]
        repeat (go_big_quiet_step (fail))
        refine wpQuiet_nil ?_
        rfl
      case tailL2 =>
      intro w5 hb5
      have I5 := Lib.hid (I4.out.below hb5)
      clear hb5 I4
      have fr := I5.out.2.1.free 12
      obtain ⟨_, ⟨y0, y1, y2, y3, _⟩, ⟨u0, u1, u2, u3, _⟩, _⟩ := lmCells I5.out.2.1
      simp only [List.drop_succ_cons, List.drop_zero]
      go_wp2_with fail
      refine gen_world (fun W => LmI w g p1 p2 (lmC m (Mot.mk (m.r + s0.lo) (m.ld + s1.lo) (m.lq + s2.lo) m.fx m.po m.mi m.sp m.dr m.cu m.fa) (Mot.mk (m.r + s0.hi) (m.ld + s1.hi) m.lq m.fx m.po m.mi m.sp m.dr m.cu m.fa) 0 0) W) (I5.out.put 12 _ rfl) ?_
      clear I5 fr y0 y1 y2 y3 u0 u1 u2 u3
      rintro w4 i4
      have I4 := Lib.hid i4
      clear i4
      refine wp_region_head 12 ?afH2 (by kernel_rfl) (by kernel_rfl) ?walkH2 ?tailH2
      case walkH2 =>
        intro V hV
        have IV := Lib.hid (I4.out.below hV)
        have hz5 := H5.out.1
        obtain ⟨z5, x0, x1, x2, x3, x4, x5, x6, x7, x8, x9⟩ := H5.out.below IV.out.2.2.2.2 hz5
        obtain ⟨_, ⟨y0, y1, y2, y3, _⟩, ⟨u0, u1, u2, u3, _⟩, _⟩ := lmCells IV.out.2.1
        obtain ⟨t0, t1, t2, t3⟩ := ptrCells IV.out.2.2.1
        obtain ⟨r0, r1, r2, r3⟩ := ptrCells IV.out.2.2.2.1
        have zz1 := IV.out.2.1.lt
        have zz2 := IV.out.2.2.1.lt
        have zz3 := IV.out.2.2.2.1.lt
        simp only [List.take_succ_cons, List.take_zero]
        repeat (go_big_quiet_step (fail))
        refine wpQuiet_nil ?_
        rfl
      case tailH2 =>
      intro w5 hb5
      have I5 := Lib.hid (I4.out.below hb5)
      clear hb5 I4
      have fr := I5.out.2.1.free 22
      obtain ⟨_, ⟨y0, y1, y2, y3, _⟩, ⟨u0, u1, u2, u3, _⟩, _⟩ := lmCells I5.out.2.1
      simp only [List.drop_succ_cons, List.drop_zero]
      go_wp2_with fail
      refine gen_world (fun W => LmI w g p1 p2 (lmC m (Mot.mk (m.r + s0.lo) (m.ld + s1.lo) (m.lq + s2.lo) m.fx m.po m.mi m.sp m.dr m.cu m.fa) (Mot.mk (m.r + s0.hi) (m.ld + s1.hi) (m.lq + s2.hi) m.fx m.po m.mi m.sp m.dr m.cu m.fa) 0 0) W) (I5.out.put 22 _ rfl) ?_
      clear I5 fr y0 y1 y2 y3 u0 u1 u2 u3
      rintro w4 i4
      have I4 := Lib.hid i4
      clear i4
      go_wp2_with fail
      try (rw [rounds_succ]; go_wp2_with fail)
      refine wp_region_head 12 ?afL3 (by kernel_rfl) (by kernel_rfl) ?walkL3 ?tailL3
      case walkL3 =>
        intro V hV
        have IV := Lib.hid (I4.out.below hV)
        have hz5 := H5.out.1
        obtain ⟨z5, x0, x1, x2, x3, x4, x5, x6, x7, x8, x9⟩ := H5.out.below IV.out.2.2.2.2 hz5
        obtain ⟨_, ⟨y0, y1, y2, y3, _⟩, ⟨u0, u1, u2, u3, _⟩, _⟩ := lmCells IV.out.2.1
        obtain ⟨t0, t1, t2, t3⟩ := ptrCells IV.out.2.2.1
        obtain ⟨r0, r1, r2, r3⟩ := ptrCells IV.out.2.2.2.1
        have zz1 := IV.out.2.1.lt
        have zz2 := IV.out.2.2.1.lt
        have zz3 := IV.out.2.2.2.1.lt
        simp only [List.take_succ_cons, List.take_zero]
        repeat (go_big_quiet_step (fail))
        refine wpQuiet_nil ?_
        rfl
      case tailL3 =>
      intro w5 hb5
      have I5 := Lib.hid (I4.out.below hb5)
      clear hb5 I4
      have fr := I5.out.2.1.free 13
      obtain ⟨_, ⟨y0, y1, y2, y3, _⟩, ⟨u0, u1, u2, u3, _⟩, _⟩ := lmCells I5.out.2.1
      simp only [List.drop_succ_cons, List.drop_zero]
      go_wp2_with fail
      refine gen_world (fun W => LmI w g p1 p2 (lmC m (Mot.mk (m.r + s0.lo) (m.ld + s1.lo) (m.lq + s2.lo) (m.fx + s3.lo) m.po m.mi m.sp m.dr m.cu m.fa) (Mot.mk (m.r + s0.hi) (m.ld + s1.hi) (m.lq + s2.hi) m.fx m.po m.mi m.sp m.dr m.cu m.fa) 0 0) W) (I5.out.put 13 _ rfl) ?_
      clear I5 fr y0 y1 y2 y3 u0 u1 u2 u3
      rintro w4 i4
      have I4 := Lib.hid i4
      clear i4
      refine wp_region_head 12 ?afH3 (by kernel_rfl) (by kernel_rfl) ?walkH3 ?tailH3
      case walkH3 =>
        intro V hV
        have IV := Lib.hid (I4.out.below hV)
        have hz5 := H5.out.1
        obtain ⟨z5, x0, x1, x2, x3, x4, x5, x6, x7, x8, x9⟩ := H5.out.below IV.out.2.2.2.2 hz5
        obtain ⟨_, ⟨y0, y1, y2, y3, _⟩, ⟨u0, u1, u2, u3, _⟩, _⟩ := lmCells IV.out.2.1
        obtain ⟨t0, t1, t2, t3⟩ := ptrCells IV.out.2.2.1
        obtain ⟨r0, r1, r2, r3⟩ := ptrCells IV.out.2.2.2.1
        have zz1 := IV.out.2.1.lt
        have zz2 := IV.out.2.2.1.lt
        have zz3 := IV.out.2.2.2.1.lt
        simp only [List.take_succ_cons, List.take_zero]
        repeat (go_big_quiet_step (fail))
        refine wpQuiet_nil ?_
        rfl
      case tailH3 =>
      intro w5 hb5
      have I5 := Lib.hid (I4.out.below hb5)
      clear hb5 I4
      have fr := I5.out.2.1.free 23
      obtain ⟨_, ⟨y0, y1, y2, y3, _⟩, ⟨u0, u1, u2, u3, _⟩, _⟩ := lmCells I5.out.2.1
      simp only [List.drop_succ_cons, List.drop_zero]
      go_wp2_with fail
      refine gen_world (fun W => LmI w g p1 p2 (lmC m (Mot.mk (m.r + s0.lo) (m.ld + s1.lo) (m.lq + s2.lo) (m.fx + s3.lo) m.po m.mi m.sp m.dr m.cu m.fa) (Mot.mk (m.r + s0.hi) (m.ld + s1.hi) (m.lq + s2.hi) (m.fx + s3.hi) m.po m.mi m.sp m.dr m.cu m.fa) 0 0) W) (I5.out.put 23 _ rfl) ?_
      clear I5 fr y0 y1 y2 y3 u0 u1 u2 u3
      rintro w4 i4
      have I4 := Lib.hid i4
      clear i4
      have hz5 := H5.out.1
      obtain ⟨z5, x0, x1, x2, x3, x4, x5, x6, x7, x8, x9⟩ := H5.out.below I4.out.2.2.2.2 hz5
      have x99 : w4.cell? ⟨ad.block, ad.off + 8 + 1, none⟩ = some (.int .i64 s4.hi) := x9
      have f30 := I4.out.2.1.free 30
      have f31 := I4.out.2.1.free 31
      have y30 := (lmCells I4.out.2.1).2.2.2.1
      have y31 := (lmCells I4.out.2.1).2.2.2.2
      have zz1 := I4.out.2.1.lt
      go_wp2_with fail
      refine gen_world (fun W => LmI w g p1 p2 (lmC m (m.plus s0.lo s1.lo s2.lo s3.lo) (m.plus s0.hi s1.hi s2.hi s3.hi) s4.lo s4.hi) W) ((I4.out.put 30 _ rfl).put 31 _ rfl) ?_
      clear I4 z5 x0 x1 x2 x3 x4 x5 x6 x7 x8 x9 x99 f30 f31 y30 y31 zz1
      rintro w4 i4
      have I4 := Lib.hid i4
      clear i4 q0 q1 q2 q3 q4 hm
      have HLO : Hid (Dv.lmLo m [s0, s1, s2, s3, s4] = (m.plus s0.lo s1.lo s2.lo s3.lo)) := Lib.hid rfl
      have HHI : Hid (Dv.lmHi m [s0, s1, s2, s3, s4] = (m.plus s0.hi s1.hi s2.hi s3.hi)) := Lib.hid rfl
      generalize hlo : (m.plus s0.lo s1.lo s2.lo s3.lo) = lo at I4 HLO ⊢
      generalize hhi : (m.plus s0.hi s1.hi s2.hi s3.hi) = hi at I4 HHI ⊢
      clear hlo hhi
      have HEE : Hid (Dv.lmE m [s0, s1, s2, s3, s4] = if (Dv.chkB lo && (Dv.chkB hi && upB 16384 [s4.lo, s4.hi])) = true then 0 else 3) := Lib.hid (by unfold Dv.lmE Dv.lmB; rw [if_pos HA.out, HLO.out, HHI.out]; rfl)
      have cells : ∀ V, Below w4.heap.size w4 V → Hid (LmI w g p1 p2 (lmC m lo hi s4.lo s4.hi) V) := fun V hV => Lib.hid (I4.out.below hV)
      have zz1 := I4.out.2.1.lt
      obtain ⟨⟨a0, a1, a2, a3, a4, a5, a6, a7, a8, a9⟩, ⟨b0, b1, b2, b3, b4, b5, b6, b7, b8, b9⟩, ⟨c0, c1, c2, c3, c4, c5, c6, c7, c8, c9⟩, ⟨d0, d1⟩⟩ := lmCells I4.out.2.1
      clear a0 a1 a2 a3 a4 a5 a6 a7 a8 a9
      cases h1 : Dv.chkB lo
      · have HE : Hid (Dv.lmE m [s0, s1, s2, s3, s4] = 3) := Lib.hid (by rw [HEE.out, h1]; rfl)
        refine wp_region_past (by kernel_rfl) (by kernel_rfl) ?_
        repeat (go_big_quiet_step ((go_at_call 48; with_reducible exact past_below (Check_no lo _ h1))))
        refine wpQuiet_nil ?_
        intro y
        have I6 := cells y.w y.far
        generalize y.w = w6 at I6 ⊢
        clear b0 b1 b2 b3 b4 b5 b6 b7 b8 b9 c0 c1 c2 c3 c4 c5 c6 c7 c8 c9 d0 d1 h1
        go_wp2
        go_ret2
        exact ⟨I6.out.2.2.2.2, .inl ⟨by rw [HE.out]; decide, by rw [HE.out]; rfl⟩⟩
      · cases h2 : Dv.chkB hi
        · have HE : Hid (Dv.lmE m [s0, s1, s2, s3, s4] = 3) := Lib.hid (by rw [HEE.out, h1, h2]; rfl)
          refine wp_region_past (by kernel_rfl) (by kernel_rfl) ?_
          repeat (go_big_quiet_step (first | (go_at_call 48; with_reducible exact past_below (Check_yes lo _ h1)) | (go_at_call 48; with_reducible exact past_below (Check_no hi _ h2))))
          refine wpQuiet_nil ?_
          intro y
          have I6 := cells y.w y.far
          generalize y.w = w6 at I6 ⊢
          clear b0 b1 b2 b3 b4 b5 b6 b7 b8 b9 c0 c1 c2 c3 c4 c5 c6 c7 c8 c9 d0 d1 h1 h2
          go_wp2
          go_ret2
          exact ⟨I6.out.2.2.2.2, .inl ⟨by rw [HE.out]; decide, by rw [HE.out]; rfl⟩⟩
        · refine wp_region_priv 29 [.q, .q, .q, .q, .q, .q, .q, .q, .q, .q, .q, .q, .q, .q, .q, .q, .q, .q, .q, .q, .q, .q, .q, .q, .q, .p, .c 25 104, .q, .q] (fun _ => (.cells #[.int .i64 s4.lo, .int .i64 s4.hi] 2, fun g => .slice (some ⟨g, 0, none⟩) 2 2)) ?af9 (by kernel_rfl) (by kernel_rfl) ?walk9 ?tail9
          case walk9 =>
            intro V hV
            have IV := cells V hV
            obtain ⟨_, ⟨b0, b1, b2, b3, b4, b5, b6, b7, b8, b9⟩, ⟨c0, c1, c2, c3, c4, c5, c6, c7, c8, c9⟩, ⟨d0, d1⟩⟩ := lmCells IV.out.2.1
            have zz1 := IV.out.2.1.lt
            simp only [List.take_succ_cons, List.take_zero]
            repeat (refine wpP_q ?_; go_big_quiet_step (first | (go_at_call 48; with_reducible exact past_below (Check_yes lo _ h1)) | (go_at_call 48; with_reducible exact past_below (Check_yes hi _ h2))); refine wpQuiet_nil ?_)
            refine wpP_p (by kernel_rfl) (fun _ => by kernel_rfl) ?_
            (try simp only [Act.put, List.setIfInBounds_toArray, List.set_cons_zero, List.set_cons_succ])
            refine wpP_c (.bool (upB 16384 [s4.lo, s4.hi])) (fun V' g' hV' hg' => ?_) ?_
            · (try simp only [Act.put, List.setIfInBounds_toArray, List.set_cons_zero, List.set_cons_succ])
              have hbb : Blk V' g' 2 [.int .i64 s4.lo, .int .i64 s4.hi] := hg'
              have zg := hbb.lt
              go_big_quiet_step ((go_at_call 67; exact past_same (upTo2_at 16384 s4.lo s4.hi g' _ (hbb.below (Past.far _) hbb.lt) (by omega) (by omega))))
              refine wpQuiet_nil ?_
              rfl
            · (try simp only [Act.put, List.setIfInBounds_toArray, List.set_cons_zero, List.set_cons_succ])
              repeat (refine wpP_q ?_; go_big_quiet_step (fail); refine wpQuiet_nil ?_)
              refine wpP_nil ?_
              rfl
          case tail9 =>
          intro gs w6 hb6 _ _
          have I6 := cells w6 hb6
          clear hb6 cells b0 b1 b2 b3 b4 b5 b6 b7 b8 b9 c0 c1 c2 c3 c4 c5 c6 c7 c8 c9 d0 d1 I4
          simp only [List.drop_succ_cons, List.drop_nil, List.take_succ_cons, List.take_nil, fillP]
          (try simp only [Act.put, List.setIfInBounds_toArray, List.set_cons_zero, List.set_cons_succ])
          cases h3 : upB 16384 [s4.lo, s4.hi]
          · have HE : Hid (Dv.lmE m [s0, s1, s2, s3, s4] = 3) := Lib.hid (by rw [HEE.out, h1, h2, h3]; rfl)
            clear h1 h2 h3
            go_wp2
            go_ret2
            exact ⟨I6.out.2.2.2.2, .inl ⟨by rw [HE.out]; decide, by rw [HE.out]; rfl⟩⟩
          · have HE : Hid (Dv.lmE m [s0, s1, s2, s3, s4] = 0) := Lib.hid (by rw [HEE.out, h1, h2, h3]; rfl)
            clear h1 h2 h3
            go_wp2
            go_ret2
            exact ⟨I6.out.2.2.2.2, .inr ⟨HE.out, g, hg0, rfl, by rw [HLO.out, HHI.out]; exact I6.out.2.1⟩⟩
theorem newLimiter_c (m : Mot) (A : Option Addr) (l : List Sp) (cap : Nat) (w : World) (hx : SpAt w A l) (hll : l.length ≤ 4611686018427387904) :
    Calls Try.prog 108 #[.agg #[.int .i64 m.r, .int .i64 m.ld, .int .i64 m.lq, .int .i64 m.fx, .int .i64 m.po, .int .i64 m.mi, .int .i64 m.sp, .int .i64 m.dr, .int .i64 m.cu, .int .i64 m.fa], .slice A l.length cap] w (LmP m l w) := by
  cases hC : Dv.chkB m
  · exact (newLimiter_no1 m A l.length cap w hC).mono fun _ _ ⟨h1, h2⟩ => ⟨h2, .inl (by
      have : Dv.lmE m l = 2 := by simp [Dv.lmE, Dv.lmA, hC]
      rw [this]; exact ⟨by decide, h1⟩)⟩
  · by_cases hl : l.length = 5
    · match l, hl with
      | [s0, s1, s2, s3, s4], _ => exact newLimiter_go m A s0 s1 s2 s3 s4 cap w hx hC
    · exact (newLimiter_no2 m A l cap w hx hC (by simp; omega)).mono fun _ _ ⟨h1, h2⟩ => ⟨h2, .inl (by
        have : Dv.lmE m l = 2 := by simp [Dv.lmE, Dv.lmA, hl]
        rw [this]; exact ⟨by decide, h1⟩)⟩
end Go.Proofs.Ytcneohhfnnelgaa
