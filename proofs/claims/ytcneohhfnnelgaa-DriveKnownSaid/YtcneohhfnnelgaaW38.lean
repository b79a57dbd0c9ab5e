/- The contract of Shares of drive, where it shares. -/
import Derived.Test.YtcneohhfnnelgaaW37
namespace Go.Proofs.Ytcneohhfnnelgaa
open Go.RowKit Go.Shelf
set_option linter.unusedVariables false
attribute [local go_sem] Oper.semAt_some

theorem Sh2.put' {w : World} {T : Int} {A : Option Addr} {xs : List Int} {cap b8 O : Nat} {cs : List Int} {W : World} (hx : IntsAt w A xs) (h1 : w.heap.size + 1 < b8) (h2 : b8 < O) (h : Sh2 w T A xs cap b8 O cs W) (p : Addr) (hp : O + 1 < p.block) (v : Value) : Sh2 w T A xs cap b8 O cs (W.setCell p v) :=
  ⟨h.1.put hx _ (by omega) _, h.2.1.setCell_ne (by omega) _, ⟨h.2.2.1.1, h.2.2.1.2.setCell_ne (by omega) _⟩, h.2.2.2.setCell_ne (by omega) _⟩
theorem RgI.go {w : World} {T : Int} {A : Option Addr} {xs : List Int} {cap b8 O g h0 : Nat} {L R : Int} {pre : List Nat} {W : World} {cs : List Int} {x : Nat} {v : Int} (hx : IntsAt w A xs) (y1 : w.heap.size + 1 < b8) (y2 : b8 < O) (y3 : O + 1 < g) (y4 : g < h0) (hxl : x < xs.length) (hxp : x ∉ pre) (hv : v = min L (xs.getD x 0) + 1) (hne : R - pre.length ≠ 0)
    (i1 : Sh2 w T A xs cap b8 O cs W) (i2 : Blk W g 2 [.int .i64 (R - pre.length)]) (i3 : Blk W h0 45 [.slice (some ⟨O, 0, none⟩) xs.length xs.length]) (i4 : Blk W (h0 + 1) 45 [.slice A xs.length cap]) (i5 : (pre.length : Int) ≤ R) (i6 : ∀ j, j < xs.length → cs.getD j 0 = min L (xs.getD j 0) + if j ∈ pre then 1 else 0) :
    RgI w T A xs cap b8 O g h0 L R (pre ++ [x]) ((W.setCell ⟨O, x, none⟩ (.int .i64 v)).setCell ⟨g, 0, none⟩ (.int .i64 (R - pre.length - 1))) := by
  have hl := i1.2.2.1.1
  refine ⟨cs.set x v, (i1.put hx y1 y2 x v).put' hx y1 y2 _ y3 _, ?_, (i3.setCell_ne (by simp; omega) _).setCell_ne (by simp; omega) _, (i4.setCell_ne (by simp; omega) _).setCell_ne (by simp; omega) _, by rw [List.length_append]; simp only [List.length_singleton]; omega, fun j hj => ?_⟩
  · have h := (i2.setCell_ne (p := ⟨O, x, none⟩) (by simp; omega) (.int .i64 v)).setCell 0 (.int .i64 (R - pre.length - 1))
    have e : R - ((pre ++ [x]).length : Int) = R - pre.length - 1 := by rw [List.length_append]; simp only [List.length_singleton]; omega
    rw [e]
    simpa using h
  · rw [getD_set cs x j v (by omega)]
    by_cases hjx : j = x
    · subst hjx
      rw [if_pos rfl, if_pos (by simp), hv]
    · rw [if_neg hjx, i6 j hj]
      congr 1
      simp [hjx]

set_option maxHeartbeats 4000000 in
set_option maxRecDepth 100000 in
theorem Shares_go (T : Int) (A : Option Addr) (xs : List Int) (cap : Nat) (w : World) (hx : IntsAt w A xs) (h1 : 1 ≤ xs.length) (h8 : xs.length ≤ 8) (hT : 0 ≤ T ∧ T ≤ 68719476736) (hok : Dv.okS xs) :
    Calls Try.prog 37 #[.int .i64 T, .slice A xs.length cap] w fun e w' => ∃ (L : Int) (g : Nat), Dv.Lev T xs L ∧ e = .returned (.tuple #[.slice (some ⟨g, 0, none⟩) xs.length xs.length, .int .i64 0]) ∧ Below w.heap.size w w' ∧ Blk w' g 2 ((Dv.shR L (T - Dv.pour L xs) xs).map (Value.int .i64)) := by
  have I0 := Lib.hid (ShI.start (T := T) (cap := cap) hx)
  have HO := Lib.hid hok
  have HX := Lib.hid hx
  clear hx hok
  have hu : upB 68719476736 [T] = true := upB1.2 (by omega)
  refine (callsIn_wide (n := 3)).1 (callsIn_of_wp_marks Try.func37 rfl trivial (wpIn_wide.2 ?_) rfl)
  simp only [Try.ntmps37, List.size_toArray, List.length_cons, List.length_nil, Nat.reduceAdd, Nat.reduceSub, Array.replicate_succ, Array.replicate_zero, List.push_toArray, List.append_toArray, List.nil_append, List.cons_append]
  go_wp2_with fail
  refine (up1w _ T _ _ (by simp) (by omega) (by omega)).mono ?_
  rintro e w1 ⟨rfl, hb1⟩
  have I1 := Lib.hid (I0.out.below hb1)
  clear hb1
  obtain ⟨p1, p2⟩ := I1.out.b
  go_wp2_with fail
  go_loop [33] (fun i => ∃ k : Nat, k ≤ xs.length ∧ i = .int .i64 k) (fun i => xs.length - (intOf i).toNat)
  case atStart => exact ⟨0, Nat.zero_le _, rfl⟩
  case round =>
    obtain ⟨k, hk, rfl⟩ := hrel
    by_cases hlt : k < xs.length
    · obtain ⟨ad, rfl, hcell⟩ := I1.out.2.2.1 k hlt
      have hxk := Dv.okS_get HO.out k hlt
      generalize hxx : xs.getD k 0 = x at hcell hxk
      clear hxx
      go_wp2
      go_round
      case rel => exact ⟨k + 1, by omega, by go_num⟩
      case measure => simp [intOf]; omega
    · go_wp2_with fail
      refine (most_c 92 _ _ (fun l => decide (Dv.pour l xs ≤ T)) 0 68719476736 _ (by omega) (by omega) (by omega) (by simpa [Dv.pour_zero HO.out] using hT.1) (fun _ _ => by kernel_rfl) (fun l W h1' h2' hb => by
        have J := I1.out.below ((((Below.refl _ _).alloc (Nat.le_refl _) _)).trans (hb.mono (by simp)))
        have c8 := (Blk.new' w1 #[.func (.func 90) #[] #[.pointer (some ⟨w.heap.size + 1, 0, none⟩)]] 93).below hb (by simp)
        exact pour2_c T l _ _ (w.heap.size + 1) A xs cap W (by omega) HO.out h8 (c8.cell 0 rfl) J.b.1 J.b.2 J.2.2.1)).mono ?_
      rintro e w2 ⟨L, rfl, l0, l1, l2, l3, hb2⟩
      have HL : Hid (Dv.Lev T xs L) := Lib.hid ⟨l0, l1, of_decide_eq_true l2, l3.imp id (fun h => by simpa using h)⟩
      have I2 := Lib.hid (I1.out.below ((((Below.refl _ _).alloc (Nat.le_refl _) _)).trans (hb2.mono (by simp))))
      have C8 : Hid (Blk w2 w1.heap.size 93 [.func (.func 90) #[] #[.pointer (some ⟨w.heap.size + 1, 0, none⟩)]]) := Lib.hid ((Blk.new' w1 _ 93).below hb2 (by simp))
      clear hb2 l2 l3 p1 p2
      obtain ⟨p1, p2⟩ := I2.out.b
      have hmk := make_ints xs.length (by omega)
      have z1 := I2.out.2.1.lt
      have z2 := I2.out.1.lt
      have z3 : w.heap.size + 1 < w2.heap.size + 1 := by omega
      have z4 : w.heap.size < w2.heap.size + 1 := by omega
      go_wp2_with fail
      refine gen_world (fun W => Sh2 w T A xs cap w1.heap.size w2.heap.size (List.replicate xs.length 0) W) ⟨I2.out.below (((Below.refl _ _).alloc (Nat.le_refl _) _).alloc (by simp) _), (C8.out.alloc _).alloc _, (Fill.new _ _).alloc _, by have := Blk.new' (w2.alloc (.cells (Array.replicate xs.length (.int .i64 0)) 2)) #[.slice (some ⟨w2.heap.size, 0, none⟩) xs.length xs.length] 45; simpa using this⟩ ?_
      rintro w3 j3
      have J3 := Lib.hid j3
      have y1 : w.heap.size + 1 < w1.heap.size := I1.out.2.1.lt
      have y2 : w1.heap.size < w2.heap.size := C8.out.lt
      generalize w1.heap.size = b8 at J3 y1 y2 ⊢
      generalize w2.heap.size = O at J3 y2 ⊢
      clear j3 p1 p2 I2 C8 I1 hmk z1 z2 z3 z4
      have GM := gmin_eq
      go_loopw [52] (fun i wr => ∃ (k : Nat) (cs : List Int), k ≤ xs.length ∧ i = .int .i64 k ∧ Hid ((∀ j, j < k → cs.getD j 0 = min L (xs.getD j 0)) ∧ Sh2 w T A xs cap b8 O cs wr)) (fun i _ => xs.length - (intOf i).toNat)
      case atStart => exact ⟨0, _, Nat.zero_le _, rfl, Lib.hid ⟨fun j hj => absurd hj (Nat.not_lt_zero _), J3.out⟩⟩
      case round =>
        obtain ⟨k, cs, hk, rfl, HJ⟩ := hrel
        obtain ⟨p1, p2, p3, p4⟩ := HJ.out.2.cells
        by_cases hlt : k < xs.length
        · obtain ⟨ad, rfl, hcell⟩ := HJ.out.2.1.2.2.1 k hlt
          have hxk := Dv.okS_get HO.out k hlt
          have hO := HJ.out.2.2.2.1.cell k hlt
          have hF := HJ.out.2.2.2.1.2.free k
          have HX' := Lib.hid (fun (v : Int) => HJ.out.2.put HX.out y1 y2 k v)
          have HR := Lib.hid (fun (v : Int) (j : Nat) => getD_set cs k j v (by have := HJ.out.2.2.2.1.1; omega))
          generalize hxx : xs.getD k 0 = x at hcell hxk
          have HXX := Lib.hid hxx
          clear hxx
          go_wp2
          go_roundw
          case rel =>
            refine ⟨k + 1, cs.set k (min L x), by omega, by go_num, Lib.hid ⟨fun j hj => ?_, HX'.out _⟩⟩
            rw [HR.out]
            by_cases hjk : j = k
            · rw [if_pos hjk, hjk, HXX.out]
            · rw [if_neg hjk]
              exact HJ.out.1 j (by omega)
          case measure => simp [intOf]; omega
        · have hn : xs.length ≤ k := by omega
          have HM : Hid (Sh2 w T A xs cap b8 O (xs.map (fun x => min L x)) wr) := Lib.hid (by
            have e : cs = xs.map (fun x => min L x) := by
              have hl := HJ.out.2.2.2.1.1
              apply List.ext_getElem (by simpa using hl)
              intro j h1 h2
              have := HJ.out.1 j (by simp at h2; omega)
              simp at h2
              simpa [List.getD, h1, h2] using this
            rw [← e]
            exact HJ.out.2)
          clear p1 p2 p3 p4 HJ
          obtain ⟨p1, p2, p3, p4⟩ := HM.out.cells
          have PB := Dv.pour_bd HO.out (show 0 ≤ L from HL.out.1)
          have PL := HL.out.2.2.1
          go_wp2_with fail
          clear p1 p2 p3 p4
          refine wp_region_float 5 _ (.cells #[.int .i64 0] 2) 13 ?af (by kernel_rfl) rfl rfl rfl (by kernel_rfl) (fun _ _ => by kernel_rfl) ?walk ?tail
          case walk =>
            intro V hV
            have IV := Lib.hid (HM.out.below hV)
            obtain ⟨p1, p2, p3, p4⟩ := IV.out.cells
            have z1 := IV.out.1.1.lt
            have z2 := IV.out.1.2.1.lt
            have z3 := IV.out.2.1.lt
            have PC := Lib.hid (fun W (h : Below V.heap.size V W) => pour1_c L (w.heap.size + 1) A xs cap W ⟨HL.out.1, by have := HL.out.2.1; omega⟩ HO.out h8 (IV.out.below h).1.b.2 (IV.out.below h).1.2.2.1)
            simp only [List.take_succ_cons, List.take_zero]
            repeat (go_big_quiet_step ((go_at_call 90; exact past_same (PC.out _ (Past.far _)))))
            refine wpQuiet_nil ?_
            rfl
          case tail =>
            intro g w5 hg hb5 hcell5
            have H5 : Blk w5 g 2 [.int .i64 0] := hcell5
            have I5 := Lib.hid (HM.out.below hb5)
            have f0 := H5.free 0
            have c0 := H5.cell 0 rfl
            simp only [List.drop_succ_cons, List.drop_zero]
            simp only [Act.put, List.setIfInBounds_toArray, List.set_cons_zero, List.set_cons_succ]
            obtain ⟨p1, p2, p3, p4⟩ := I5.out.cells
            have z3 : O + 1 < g := by have := HM.out.2.2.2.lt; omega
            have z4 : g ≠ O + 1 := by omega
            have z5 : O + 1 ≠ g := by omega
            have z6 : g ≠ w.heap.size + 1 := by omega
            have z7 : w.heap.size + 1 ≠ g := by omega
            go_wp2_with fail
            refine (hungry_c _ _ _ _ _ _ _).mono ?_
            rintro e w6 ⟨rfl, hb6, q1, q2⟩
            have hR : 0 ≤ T - Dv.pour L xs ∧ T - Dv.pour L xs ≤ 68719476736 := by omega
            generalize hRR : T - Dv.pour L xs = R at q1 q2 hb6 hR ⊢
            have HRR := Lib.hid hRR
            clear hRR
            have y3 : O + 1 < g := z3
            have y4 : g < w5.heap.size := H5.lt
            have HB5 := ((H5.setCell 0 (.int .i64 R)).below hb6 (by simpa using y4))
            have HS5 := ((I5.out.put' HX.out y1 y2 ⟨g, 0, none⟩ z3 (.int .i64 R)).below hb6)
            simp only [World.size_setCell] at q1 q2 ⊢
            have HI : Hid (RgI w T A xs cap b8 O g w5.heap.size L R [] w6) := Lib.hid ⟨_, HS5, by simpa using HB5, q1, q2, by simpa using hR.1, fun j hj => by simp [List.getD, hj]⟩
            clear hb6 q1 q2 HB5 HS5 p1 p2 p3 p4 c0 f0 H5 I5 hcell5 hb5 z3 z4 z5 z6 z7
            have hW6 : w.heap.size ≤ w6.heap.size := by
              obtain ⟨_, a1, _⟩ := HI.out
              exact a1.1.2.2.2.size
            go_wp2_with fail
            refine (wpIn_wide (n := 3)).1 (range_mine (F := Fence.wide) (n := 3) rfl (by omega) (gf := 119) (lb := #[.pointer (some ⟨w5.heap.size, 0, none⟩), .pointer (some ⟨w5.heap.size + 1, 0, none⟩)]) rfl trivial (fun _ _ => by kernel_rfl)
              (encs := fun x : Nat => #[.int .i64 (x : Int)]) (fun _ => rfl) (RgI w T A xs cap b8 O g w5.heap.size L R) (RgX w T A xs cap b8 O g w5.heap.size L R) (.exit 4) (fun ys => ys = Dv.hs L xs xs.length) (fun pre => ∃ k, pre = Dv.hs L xs k ++ [k]) (fun pre x => x < xs.length ∧ x ∉ pre)
              (RgI.own HX.out hW6) (RgX.own HX.out hW6) HI.out (fun l J Jx W hJ hY hj => hungry1_c w T A xs cap b8 O g w5.heap.size L R l h8 J Jx hJ hY W hj) ?a1 ?assign ?body ?done ?stop)
            case assign =>
              intro l x W K hK
              gi_wp2
              exact hK
            case body =>
              rintro l pre x W ⟨cs, i1, i2, i3, i4, i5, i6⟩ ⟨hx1, hx2⟩
              have c0 := i2.cell 0 rfl
              have f0 := i2.free 0
              have GO := Lib.hid (fun v hv hne => RgI.go (v := v) HX.out y1 y2 y3 y4 hx1 hx2 hv hne i1 i2 i3 i4 i5 i6)
              have GX := Lib.hid (fun (hz : (pre.length : Int) = R) => (⟨pre, x, rfl, hz, cs, i1, i2, i3, i4, i5, i6⟩ : RgX w T A xs cap b8 O g w5.heap.size L R (pre ++ [x]) W))
              have c1 := i1.2.2.1.cell x hx1
              have f1 := i1.2.2.1.2.free x
              rw [i6 x hx1, if_neg hx2, Int.add_zero] at c1
              have c3 := (Sh2.cells i1).2.2.2
              have hxk := Dv.okS_get HO.out x hx1
              have hL := HL.out.1
              have hL2 := HL.out.2.1
              clear i1 i2 i3 i4 i6
              generalize hxx : xs.getD x 0 = y at c1 hxk GO
              by_cases hz : R - (pre.length : Int) = 0
              · gi_wp2
                exact (⟨rfl, KeepsFrom.refl _ _, GX.out (by omega)⟩ : _ ∧ _ ∧ _)
              · gi_wp2
                exact (⟨((KeepsOthers.setCell _ _ _).trans (KeepsOthers.setCell _ _ _)).from _, GO.out _ rfl hz⟩ : _ ∧ _)
            case done =>
              rintro D ys W hD rfl ⟨cs, i1, i2, i3, i4, i5, i6⟩ hK
              have HE := Lib.hid (Dv.shares_done hR.1 i1.2.2.1.1 i5 i6)
              have HB := Lib.hid i1.1.2.2.2
              have H2 := Lib.hid i1.2.2.1.2
              have c3 := (Sh2.cells i1).2.2.2
              clear i1 i2 i3 i4 i5 i6
              go_wp2
              refine ⟨by simp, .inl ⟨_, _, rfl, run_takeDeferred hK, ?_⟩⟩
              refine ⟨_, results_tmp2 rfl _ _ _, L, O, HL.out, rfl, Below.turn HB.out (grownBy_putObj' W D _) (fun r e => by cases e; omega), ?_⟩
              rw [HRR.out, ← HE.out]
              exact H2.out.turn (grownBy_putObj' W D _) (fun r e => by cases e; exact ⟨_, hK, rfl⟩)
            case stop =>
              rintro D pre0 W hD ⟨k, hk⟩ ⟨pre, x, e1, hl, cs, i1, i2, i3, i4, i5, i6⟩ hK
              obtain ⟨rfl, -⟩ := List.append_inj' (e1.symm.trans hk) rfl
              have HE := Lib.hid (Dv.shares_stop hR.1 i1.2.2.1.1 k hl i6)
              have HB := Lib.hid i1.1.2.2.2
              have H2 := Lib.hid i1.2.2.1.2
              have c3 := (Sh2.cells i1).2.2.2
              clear i1 i2 i3 i4 i5 i6
              refine wpIn_wide.2 ?_
              go_wp2
              refine ⟨by simp, .inl ⟨_, _, rfl, run_takeDeferred hK, ?_⟩⟩
              refine ⟨_, results_tmp2 rfl _ _ _, L, O, HL.out, rfl, Below.turn HB.out (grownBy_putObj' W D _) (fun r e => by cases e; omega), ?_⟩
              rw [HRR.out, ← HE.out]
              exact H2.out.turn (grownBy_putObj' W D _) (fun r e => by cases e; exact ⟨_, hK, rfl⟩)
end Go.Proofs.Ytcneohhfnnelgaa
