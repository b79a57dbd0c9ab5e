/- The contract of weaken of drive: the walk. -/
import Derived.Test.YtcneohhfnnelgaaW30
namespace Go.Proofs.Ytcneohhfnnelgaa
open Go.RowKit
set_option linter.unusedVariables false

set_option maxHeartbeats 1000000 in
theorem hold_c (m : Mot) (q s room N n : Int) (bm bq bs b0 br b1 bN bf : Nat) (W : World) (hm : Dv.chk m) (hN : 0 ≤ N ∧ N ≤ 1048576) (hn : 0 ≤ n ∧ n ≤ N + 1) (hq : -1048576 ≤ q ∧ q ≤ 1048576) (hs : -16384 ≤ s ∧ s ≤ 16384) (hr : 0 ≤ room ∧ room ≤ 1073741824)
    (hM : MotAt W bm m) (cq : W.cell? ⟨bq, 0, none⟩ = some (.int .i64 q)) (cs : W.cell? ⟨bs, 0, none⟩ = some (.int .i64 s)) (c0' : W.cell? ⟨b0, 0, none⟩ = some (.int .i64 (Dv.ibd m 0 q s))) (cr : W.cell? ⟨br, 0, none⟩ = some (.int .i64 room)) (c1' : W.cell? ⟨b1, 0, none⟩ = some (.int .i64 (Dv.ibq m 0 q s)))
    (cN : W.cell? ⟨bN, 0, none⟩ = some (.int .i64 N)) (cf : W.cell? ⟨bf, 0, none⟩ = some (.func (.func 121) #[] #[.pointer (some ⟨bm, 0, none⟩), .pointer (some ⟨bq, 0, none⟩), .pointer (some ⟨bs, 0, none⟩), .pointer (some ⟨b0, 0, none⟩), .pointer (some ⟨br, 0, none⟩), .pointer (some ⟨b1, 0, none⟩)])) (hb0 : b0 < W.heap.size) (hbr : br < W.heap.size) (hb1 : b1 < W.heap.size) :
    Calls Try.prog 122 #[.int .i64 n, .pointer (some ⟨bN, 0, none⟩), .pointer (some ⟨bf, 0, none⟩)] W fun e W' => e = .returned (.bool (Dv.holdP m q s room N n)) ∧ Below W.heap.size W W' := by
  by_cases h0 : n = 0
  · have E := Lib.hid (show Dv.holdP m q s room N n = true from by simp [Dv.holdP, h0])
    have hz : (n == 0) = true := by simpa using h0
    clear h0
    go_enter Try.func122, Try.ntmps122
    go_wp2
    go_ret
    exact ⟨ret_bool E.out.symm, Below.refl _ _⟩
  · have hz : (n == 0) = false := by simpa using h0
    by_cases h1 : n ≤ N
    · have E := Lib.hid (show Dv.holdP m q s room N n = Dv.outB room (Dv.ibd m 0 q s) (Dv.ibq m 0 q s) (Dv.ibd m (-n + 1) q s) (Dv.ibq m (-n + 1) q s) from by simp [Dv.holdP, h0, h1, Dv.outV])
      have OC := Lib.hid (out_c m (-n + 1) q s room (Dv.ibd m 0 q s) (Dv.ibq m 0 q s) bm bq bs b0 br b1 W hm (by omega) hq hs hr hM cq cs c0' cr c1' hb0 hbr hb1)
      clear hM cq cs c0' cr c1'
      go_enter Try.func122, Try.ntmps122
      go_wp2_with fail
      refine OC.out.mono ?_
      rintro e w1 ⟨rfl, hbb⟩
      go_wp2
      go_ret
      exact ⟨ret_bool E.out.symm, hbb⟩
    · have E := Lib.hid (show Dv.holdP m q s room N n = false from by simp [Dv.holdP, h0, h1])
      clear h0
      go_enter Try.func122, Try.ntmps122
      go_wp2
      go_ret
      exact ⟨ret_bool E.out.symm, Below.refl _ _⟩

/-- what lies in memory while weaken runs -/
def WkI (w : World) (m : Mot) (q s N room : Int) (W : World) : Prop := Blk W w.heap.size 110 m.cs ∧ Blk W (w.heap.size + 1) 2 [.int .i64 q] ∧ Blk W (w.heap.size + 1 + 1) 2 [.int .i64 s] ∧ Blk W (w.heap.size + 1 + 1 + 1) 2 [.int .i64 N] ∧ Blk W (w.heap.size + 1 + 1 + 1 + 1) 2 [.int .i64 room] ∧ Below w.heap.size w W
theorem WkI.below {w : World} {m : Mot} {q s N room : Int} {W W' : World} (h : WkI w m q s N room W) (hb : Below W.heap.size W W') : WkI w m q s N room W' :=
  ⟨h.1.below hb h.1.lt, h.2.1.below hb h.2.1.lt, h.2.2.1.below hb h.2.2.1.lt, h.2.2.2.1.below hb h.2.2.2.1.lt, h.2.2.2.2.1.below hb h.2.2.2.2.1.lt, h.2.2.2.2.2.trans (hb.mono h.2.2.2.2.2.size)⟩
theorem WkI.start (w : World) (m : Mot) (q s N room : Int) : WkI w m q s N room (((((w.alloc (.cells #[.int .i64 m.r, .int .i64 m.ld, .int .i64 m.lq, .int .i64 m.fx, .int .i64 m.po, .int .i64 m.mi, .int .i64 m.sp, .int .i64 m.dr, .int .i64 m.cu, .int .i64 m.fa] 110)).alloc (.cells #[.int .i64 q] 2)).alloc (.cells #[.int .i64 s] 2)).alloc (.cells #[.int .i64 N] 2)).alloc (.cells #[.int .i64 room] 2)) := by
  refine ⟨((((Blk.new' _ _ _).alloc _).alloc _).alloc _).alloc _, ?_, ?_, ?_, ?_, ?_⟩
  · have := (((Blk.new' (w.alloc (.cells #[.int .i64 m.r, .int .i64 m.ld, .int .i64 m.lq, .int .i64 m.fx, .int .i64 m.po, .int .i64 m.mi, .int .i64 m.sp, .int .i64 m.dr, .int .i64 m.cu, .int .i64 m.fa] 110)) #[.int .i64 q] 2).alloc (.cells #[.int .i64 s] 2)).alloc (.cells #[.int .i64 N] 2)).alloc (.cells #[.int .i64 room] 2)
    simpa using this
  · have := ((Blk.new' ((w.alloc (.cells #[.int .i64 m.r, .int .i64 m.ld, .int .i64 m.lq, .int .i64 m.fx, .int .i64 m.po, .int .i64 m.mi, .int .i64 m.sp, .int .i64 m.dr, .int .i64 m.cu, .int .i64 m.fa] 110)).alloc (.cells #[.int .i64 q] 2)) #[.int .i64 s] 2).alloc (.cells #[.int .i64 N] 2)).alloc (.cells #[.int .i64 room] 2)
    simpa using this
  · have := (Blk.new' (((w.alloc (.cells #[.int .i64 m.r, .int .i64 m.ld, .int .i64 m.lq, .int .i64 m.fx, .int .i64 m.po, .int .i64 m.mi, .int .i64 m.sp, .int .i64 m.dr, .int .i64 m.cu, .int .i64 m.fa] 110)).alloc (.cells #[.int .i64 q] 2)).alloc (.cells #[.int .i64 s] 2)) #[.int .i64 N] 2).alloc (.cells #[.int .i64 room] 2)
    simpa using this
  · have := Blk.new' ((((w.alloc (.cells #[.int .i64 m.r, .int .i64 m.ld, .int .i64 m.lq, .int .i64 m.fx, .int .i64 m.po, .int .i64 m.mi, .int .i64 m.sp, .int .i64 m.dr, .int .i64 m.cu, .int .i64 m.fa] 110)).alloc (.cells #[.int .i64 q] 2)).alloc (.cells #[.int .i64 s] 2)).alloc (.cells #[.int .i64 N] 2)) #[.int .i64 room] 2
    simpa using this
  · exact ((((((Below.refl _ _).alloc (Nat.le_refl _) _).alloc (by simp) _).alloc (by simp; omega) _).alloc (by simp; omega) _).alloc (by simp; omega) _)
theorem WkI.cells {w : World} {m : Mot} {q s N room : Int} {W : World} (h : WkI w m q s N room W) : MotAt W w.heap.size m ∧ W.cell? ⟨w.heap.size + 1, 0, none⟩ = some (.int .i64 q) ∧ W.cell? ⟨w.heap.size + 1 + 1, 0, none⟩ = some (.int .i64 s) ∧ W.cell? ⟨w.heap.size + 1 + 1 + 1, 0, none⟩ = some (.int .i64 N) ∧ W.cell? ⟨w.heap.size + 1 + 1 + 1 + 1, 0, none⟩ = some (.int .i64 room) :=
  ⟨motOf h.1, h.2.1.cell 0 rfl, h.2.2.1.cell 0 rfl, h.2.2.2.1.cell 0 rfl, h.2.2.2.2.1.cell 0 rfl⟩
/-- the closure that looks whether it is too far out -/
def outF (w : World) (g : Nat) : Value := .func (.func 121) #[] #[.pointer (some ⟨w.heap.size, 0, none⟩), .pointer (some ⟨w.heap.size + 1, 0, none⟩), .pointer (some ⟨w.heap.size + 1 + 1, 0, none⟩), .pointer (some ⟨g, 0, none⟩), .pointer (some ⟨w.heap.size + 1 + 1 + 1 + 1, 0, none⟩), .pointer (some ⟨g + 1, 0, none⟩)]
def WkG (w : World) (m : Mot) (q s : Int) (g : Nat) (W : World) : Prop := Blk W g 2 [.int .i64 (Dv.ibd m 0 q s)] ∧ Blk W (g + 1) 2 [.int .i64 (Dv.ibq m 0 q s)] ∧ Blk W (g + 1 + 1) 92 [outF w g]
theorem WkG.below {w : World} {m : Mot} {q s : Int} {g : Nat} {W W' : World} (h : WkG w m q s g W) (hb : Below W.heap.size W W') : WkG w m q s g W' := ⟨h.1.below hb h.1.lt, h.2.1.below hb h.2.1.lt, h.2.2.below hb h.2.2.lt⟩

set_option maxHeartbeats 1000000 in
theorem weaken_now (m : Mot) (q s room : Int) (N : Nat) (w : World) (hm : Dv.chk m) (hN : N ≤ 1048576) (hq : -1048576 ≤ q ∧ q ≤ 1048576) (hs : -16384 ≤ s ∧ s ≤ 16384) (hr : 0 ≤ room ∧ room ≤ 1073741824) (hf : Dv.fitB m q s room 0 = true) :
    Calls Try.prog 95 #[.agg #[.int .i64 m.r, .int .i64 m.ld, .int .i64 m.lq, .int .i64 m.fx, .int .i64 m.po, .int .i64 m.mi, .int .i64 m.sp, .int .i64 m.dr, .int .i64 m.cu, .int .i64 m.fa], .int .i64 q, .int .i64 s, .int .i64 N, .int .i64 room] w fun e w' => e = .returned (.tuple #[.int .i64 0, .bool true]) ∧ Below w.heap.size w w' := by
  have I0 := Lib.hid (WkI.start w m q s N room)
  go_enter Try.func95, Try.ntmps95
  go_wp2_with fail
  refine (fits1_c m 0 q s room w.heap.size (w.heap.size + 1) (w.heap.size + 1 + 1) (w.heap.size + 1 + 1 + 1 + 1) _ hm (by omega) hq hs hr I0.out.cells.1 I0.out.cells.2.1 I0.out.cells.2.2.1 I0.out.cells.2.2.2.2 I0.out.2.2.2.2.1.lt).mono ?_
  rintro e w1 ⟨rfl, hb1⟩
  have I1 := Lib.hid (I0.out.below hb1)
  clear hb1
  go_wp2
  go_ret2
  exact ⟨rfl, I1.out.2.2.2.2.2⟩

set_option maxHeartbeats 2000000 in
set_option maxRecDepth 100000 in
theorem weaken_later (m : Mot) (q s room : Int) (N : Nat) (w : World) (hm : Dv.chk m) (hN : N ≤ 1048576) (hq : -1048576 ≤ q ∧ q ≤ 1048576) (hs : -16384 ≤ s ∧ s ≤ 16384) (hr : 0 ≤ room ∧ room ≤ 1073741824) (hf : Dv.fitB m q s room 0 = false) :
    Calls Try.prog 95 #[.agg #[.int .i64 m.r, .int .i64 m.ld, .int .i64 m.lq, .int .i64 m.fx, .int .i64 m.po, .int .i64 m.mi, .int .i64 m.sp, .int .i64 m.dr, .int .i64 m.cu, .int .i64 m.fa], .int .i64 q, .int .i64 s, .int .i64 N, .int .i64 room] w fun e w' => e = .returned (.tuple #[.int .i64 (Dv.wkD (Dv.wkO m q s room N)), .bool (Dv.wkO m q s room N).isSome]) ∧ Below w.heap.size w w' := by
  have I0 := Lib.hid (WkI.start w m q s N room)
  have HM := Lib.hid hm
  go_enter Try.func95, Try.ntmps95
  go_wp2_with fail
  refine (fits1_c m 0 q s room w.heap.size (w.heap.size + 1) (w.heap.size + 1 + 1) (w.heap.size + 1 + 1 + 1 + 1) _ hm (by omega) hq hs hr I0.out.cells.1 I0.out.cells.2.1 I0.out.cells.2.2.1 I0.out.cells.2.2.2.2 I0.out.2.2.2.2.1.lt).mono ?_
  rintro e w1 ⟨rfl, hb1⟩
  have I1 := Lib.hid (I0.out.below hb1)
  clear hb1
  obtain ⟨⟨c0, c1, c2, c3, c4, c5, c6, c7, c8, c9⟩, dq, ds, dN, dr⟩ := I1.out.cells
  go_wp2_with fail
  refine (inner_c m 0 q s _ hm (by omega) hq hs).mono ?_
  rintro e w2 ⟨rfl, hb2⟩
  have I2 := Lib.hid (I1.out.below hb2)
  clear hb2 c0 c1 c2 c3 c4 c5 c6 c7 c8 c9 dq ds dN dr
  obtain ⟨⟨c0, c1, c2, c3, c4, c5, c6, c7, c8, c9⟩, dq, ds, dN, dr⟩ := I2.out.cells
  have z1 := I2.out.2.2.2.1.lt
  have z1' : w.heap.size + 1 + 1 + 1 < w2.heap.size + 1 := by omega
  have z1'' : w.heap.size + 1 + 1 + 1 < w2.heap.size + 1 + 1 := by omega
  go_wp2_with fail
  have I3 : WkI w m q s N room (((w2.alloc (.cells #[.int .i64 (Dv.ibd m 0 q s)] 2)).alloc (.cells #[.int .i64 (Dv.ibq m 0 q s)] 2)).alloc (.cells #[outF w w2.heap.size] 92)) := I2.out.below (((Below.refl _ _).alloc (Nat.le_refl _) _ |>.alloc (by simp) _).alloc (by simp; omega) _)
  have G3 : WkG w m q s w2.heap.size (((w2.alloc (.cells #[.int .i64 (Dv.ibd m 0 q s)] 2)).alloc (.cells #[.int .i64 (Dv.ibq m 0 q s)] 2)).alloc (.cells #[outF w w2.heap.size] 92)) := by
    refine ⟨((Blk.new' _ _ _).alloc _).alloc _, ?_, ?_⟩
    · have := (Blk.new' (w2.alloc (.cells #[.int .i64 (Dv.ibd m 0 q s)] 2)) #[.int .i64 (Dv.ibq m 0 q s)] 2).alloc (.cells #[outF w w2.heap.size] 92)
      simpa using this
    · have := Blk.new' ((w2.alloc (.cells #[.int .i64 (Dv.ibd m 0 q s)] 2)).alloc (.cells #[.int .i64 (Dv.ibq m 0 q s)] 2)) #[outF w w2.heap.size] 92
      simpa using this
  have I3' := Lib.hid I3
  have G3' := Lib.hid G3
  clear I3 G3 c0 c1 c2 c3 c4 c5 c6 c7 c8 c9 dq ds dN dr
  refine (most_c 122 (.pointer (some ⟨w.heap.size + 1 + 1 + 1, 0, none⟩)) (.pointer (some ⟨w2.heap.size + 1 + 1, 0, none⟩)) (Dv.holdP m q s room N) 0 (N + 1) _ (by omega) (by omega) (by omega) (by simp [Dv.holdP]) (fun _ _ => by kernel_rfl) (fun x W hx0 hx1 hb => ?_)).mono ?_
  · have I := I3'.out.below hb
    have G := G3'.out.below hb
    exact hold_c m q s room N x w.heap.size (w.heap.size + 1) (w.heap.size + 1 + 1) w2.heap.size (w.heap.size + 1 + 1 + 1 + 1) (w2.heap.size + 1) (w.heap.size + 1 + 1 + 1) (w2.heap.size + 1 + 1) W HM.out (by omega) (by omega) hq hs hr I.cells.1 I.cells.2.1 I.cells.2.2.1 (G.1.cell 0 rfl) I.cells.2.2.2.2 (G.2.1.cell 0 rfl) I.cells.2.2.2.1 (G.2.2.cell 0 rfl) G.1.lt I.2.2.2.2.1.lt G.2.1.lt
  rintro e w3 ⟨r, rfl, h0, h1, hp, hn, hb3⟩
  obtain ⟨hrN, hwk⟩ := Dv.weaken_found HM.out hr.1 h0 h1 hp hn
  have HW := Lib.hid hwk
  have I4 := Lib.hid (I3'.out.below hb3)
  clear hb3 hp hn hwk z1 z1' z1''
  obtain ⟨⟨c0, c1, c2, c3, c4, c5, c6, c7, c8, c9⟩, dq, ds, dN, dr⟩ := I4.out.cells
  cases hb : Dv.fitB m q s room (-r)
  · have E := Lib.hid (show Dv.wkD (Dv.wkO m q s room N) = 0 ∧ (Dv.wkO m q s room N).isSome = false from by rw [HW.out, hb]; exact ⟨rfl, rfl⟩)
    go_wp2_with fail
    refine (fits1_c m (-r) q s room w.heap.size (w.heap.size + 1) (w.heap.size + 1 + 1) (w.heap.size + 1 + 1 + 1 + 1) _ HM.out (by omega) hq hs hr I4.out.cells.1 dq ds dr I4.out.2.2.2.2.1.lt).mono ?_
    rintro e w5 ⟨rfl, hb5⟩
    have I5 := Lib.hid (I4.out.below hb5)
    clear hb5
    go_wp2
    go_ret2
    exact ⟨by rw [E.out.1, E.out.2]; rfl, I5.out.2.2.2.2.2⟩
  · have E := Lib.hid (show Dv.wkD (Dv.wkO m q s room N) = -r ∧ (Dv.wkO m q s room N).isSome = true from by rw [HW.out, hb]; exact ⟨by show -((r.toNat : Nat) : Int) = -r; omega, rfl⟩)
    go_wp2_with fail
    refine (fits1_c m (-r) q s room w.heap.size (w.heap.size + 1) (w.heap.size + 1 + 1) (w.heap.size + 1 + 1 + 1 + 1) _ HM.out (by omega) hq hs hr I4.out.cells.1 dq ds dr I4.out.2.2.2.2.1.lt).mono ?_
    rintro e w5 ⟨rfl, hb5⟩
    have I5 := Lib.hid (I4.out.below hb5)
    clear hb5
    go_wp2
    go_ret2
    exact ⟨by rw [E.out.1, E.out.2]; rfl, I5.out.2.2.2.2.2⟩

theorem weaken_c (m : Mot) (q s room : Int) (N : Nat) (w : World) (hm : Dv.chk m) (hN : N ≤ 1048576) (hq : -1048576 ≤ q ∧ q ≤ 1048576) (hs : -16384 ≤ s ∧ s ≤ 16384) (hr : 0 ≤ room ∧ room ≤ 1073741824) :
    Calls Try.prog 95 #[.agg #[.int .i64 m.r, .int .i64 m.ld, .int .i64 m.lq, .int .i64 m.fx, .int .i64 m.po, .int .i64 m.mi, .int .i64 m.sp, .int .i64 m.dr, .int .i64 m.cu, .int .i64 m.fa], .int .i64 q, .int .i64 s, .int .i64 N, .int .i64 room] w fun e w' => e = .returned (.tuple #[.int .i64 (Dv.wkD (Dv.wkO m q s room N)), .bool (Dv.wkO m q s room N).isSome]) ∧ Below w.heap.size w w' := by
  cases hf : Dv.fitB m q s room 0
  · exact weaken_later m q s room N w hm hN hq hs hr hf
  · have e : Dv.wkO m q s room N = some 0 := Dv.wkV_some (by simpa using hf) (fun j hj => absurd hj (Nat.not_lt_zero _)) (Nat.zero_le _)
    exact (weaken_now m q s room N w hm hN hq hs hr hf).mono fun _ _ ⟨h1, h2⟩ => ⟨by rw [h1, e]; rfl, h2⟩
end Go.Proofs.Ytcneohhfnnelgaa
