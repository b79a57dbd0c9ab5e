/- Contracts that the claim leans on, part 3: D12 A1 A3 X5 M35 T20 C6 C7 C8 C9 C10 C11 C12 N14 M17 N3 S1 M18 M19 S4b S4 S2 S3 R16 S6 S7 M20 R17 S8a S9 S8 S10 S11 S12 S14 M21 M22 T1 M23 T3 T30 T31 T32 T33 -/
import Derived.Test.YtmebpglkeedaoaaDL2
import Derived.Deep.CutRange
import Derived.Deep.Cut
import Derived.RangeFuncNested
import Derived.RangeFuncLeaves
import Derived.RangeFuncWrites
import Derived.RangeFuncBound
import Derived.Shelf.Abstract
import Derived.OwnWalkIn
import Derived.TacticsInMore
import Derived.LoopNIn
import Derived.LoopIn
import Derived.Sort.CutIn
set_option linter.unusedVariables false
set_option linter.unusedSimpArgs false
set_option linter.unnecessarySimpa false
namespace Go.Proofs.Ytmebpglkeedaoaa
open Go.RowKit Dp
def LeastP (N : Net) (w : World) (e : Ending) (w' : World) : Prop :=
  (chE N ≠ 0 ∧ e = .returned (.tuple #[.slice none 0 0, .slice none 0 0, .int .i64 (chE N)])) ∨
  (chE N = 0 ∧ ∃ gf gp fl p, e = .returned (.tuple #[.slice (some ⟨gf, 0, none⟩) N.arcs.length N.arcs.length, .slice (some ⟨gp, 0, none⟩) N.sup.length N.sup.length, .int .i64 0]) ∧ Fl 2 w' gf fl ∧ Fl 2 w' gp p ∧ w.heap.size ≤ gf ∧ w.heap.size ≤ gp ∧ fl.length = N.arcs.length ∧ isFlow N fl = true ∧ p.length = N.sup.length ∧ (∀ v, v < p.length → potOk (p.getD v 0) = true) ∧ costK N fl N.arcs.length = prA N p N.arcs.length) ∨
  (chE N = 0 ∧ e = .returned (.tuple #[.slice none 0 0, .slice none 0 0, .int .i64 18]) ∧ ∃ c : List Int, (∀ k, k < c.length → cutAt N.sup.length c k = true) ∧ 0 < lkA N c N.arcs.length ∧ ∀ fl, isFlow N fl = false)
set_option maxHeartbeats 2000000 in
set_option maxRecDepth 100000 in
theorem Least_c (A B : Option Addr) (N : Net) (n m cA cB : Nat) (w : World) (hn : n = N.sup.length) (hm : m = N.arcs.length) (hA : n ≤ cA ∧ cA ≤ 9223372036854775807) (hB : m ≤ cB ∧ cB ≤ 9223372036854775807) (hN : NetAt w A B N) :
    Calls Try.prog 25 #[.agg #[.slice A n cA, .slice B m cB]] w fun e w' => LeastP N w e w' ∧ Below w.heap.size w w' := by
  have HN := Lib.hid hn
  have HM := Lib.hid hm
  have HNA := Lib.hid hN
  clear hn hm hN
  have B1 := Lib.hid (Blk.new' w #[.slice A n cA, .slice B m cB] 25)
  have HB1 := Lib.hid ((Below.refl w.heap.size w).alloc (Nat.le_refl _) (.cells #[.slice A n cA, .slice B m cB] 25))
  go_enter Try.func25, Try.ntmps25
  go_wp2_with fail
  generalize w.alloc (.cells #[.slice A n cA, .slice B m cB] 25) = w1 at B1 HB1 ⊢
  refine (Check_c A B N n m cA cB w1 HN.out HM.out hA hB (HNA.out.below HB1.out (Nat.le_refl _))).mono ?_
  rintro e w2 ⟨rfl, hb2⟩
  have B2 := Lib.hid (B1.out.below hb2 B1.out.lt)
  have HB2 := Lib.hid (HB1.out.trans (hb2.mono HB1.out.size))
  clear hb2 B1 HB1
  have cA0 := B2.out.cell 0 rfl
  have cB0 := B2.out.cell 1 rfl
  by_cases hch : chE N = 0
  · have HCH := Lib.hid hch
    have n2 : n ≤ 1024 := by rw [HN.out]; exact (net_len hch).2.1
    rw [hch]
    clear hch
    go_wp2_with fail
    refine (newGraph_c A B N n m cA cB w2 HN.out HM.out HCH.out hA hB (HNA.out.below HB2.out (Nat.le_refl _))).mono ?_
    rintro e w3 ⟨b, gl, cl, E, ce, bo, rfl, hb3, hg3⟩
    have HB3 := Lib.hid (HB2.out.trans (hb3.mono HB2.out.size))
    have G3 := Lib.hid hg3
    have hsz := HB2.out.size
    have S3 : Hid (∀ k, k = gl ∨ OwnB E k → w.heap.size ≤ k) := Lib.hid (fun k hk => by
      rcases hk with h | h
      · have := hg3.base.2; omega
      · have := (ownLt hg3.es h).2; omega)
    clear hb3 hg3 cA0 cB0
    go_wp2_with fail
    refine (least_c b gl cl ce bo w2.heap.size n E (gr0 N) N w3 HN.out.symm HCH.out (by rw [HN.out]; exact gr0_ok HCH.out) gr0_fits (fun i hi => by show ((esK N N.arcs.length).getD (2 * i + 1) default).room = 0; rw [(esK_get N _ i hi).2]) G3.out).mono ?_
    rintro e w4 ⟨gp, G', p, fa, vi, D, rfl, hp4, hg4, hok, hft, hpd, hnr, ht4, hgp⟩
    have HB4 := Lib.hid (Below.touch HB3.out HB3.out.size ht4 S3.out)
    have G4 := Lib.hid hg4
    have OK := Lib.hid hok
    have FT := Lib.hid hft
    have PD := Lib.hid hpd
    have NRR := Lib.hid hnr
    have P4 := Lib.hid hp4
    have hgpw : w.heap.size ≤ gp := by have := HB3.out.size; omega
    clear hp4 hg4 hok hft hpd hnr ht4
    have RN := rest_nn G'.left
    go_wp2_with fail
    refine (rest_c b gl cl ce bo w2.heap.size n E G' w4 OK.out G4.out).mono ?_
    rintro e w5 ⟨rfl, rfl⟩
    have OKN : Hid (G'.Ok N.sup.length) := Lib.hid (by rw [← HN.out]; exact OK.out)
    have CUT : Hid (lkA N (cutL N.sup.length (fun v => decide (fa.getD v 0 < never))) N.arcs.length = restV G'.left) := Lib.hid (by
      have h := NRR.out
      rw [HN.out] at h
      exact end_cut HCH.out OKN.out FT.out h)
    have FLO := Lib.hid (fun h => end_flow HCH.out OKN.out FT.out PD.out.rc h)
    generalize restV G'.left = R at *
    by_cases hr : 0 < R
    · have d1 : decide (0 < R) = true := decide_eq_true hr
      have C1 : Hid (∃ c : List Int, (∀ k, k < c.length → cutAt N.sup.length c k = true) ∧ 0 < lkA N c N.arcs.length ∧ ∀ fl, isFlow N fl = false) := Lib.hid ⟨_, cutL_ok, by rw [CUT.out]; exact hr, cut_none HCH.out cutL_ok (by rw [CUT.out]; exact hr)⟩
      go_wp2_with fail
      exact bodyPost_ret (v := .tuple #[.slice none 0 0, .slice none 0 0, .int .i64 18]) (by simp [results, Try.results25, go_sem]) rfl ⟨.inr (.inr ⟨HCH.out, rfl, C1.out⟩), HB4.out⟩
    · have d1 : decide (0 < R) = false := decide_eq_false hr
      have FL := Lib.hid (FLO.out (by omega))
      go_wp2_with fail
      refine (flow_c b gl cl ce bo w2.heap.size n E G' w4 OK.out G4.out).mono ?_
      rintro e w5 ⟨gf, rfl, hb5, hf5, hgf⟩
      have HB5 := Lib.hid (HB4.out.trans (hb5.mono HB4.out.size))
      have P5 := Lib.hid (P4.out.below hb5)
      rw [flowE_flow FT.out] at hf5
      have F5 := Lib.hid hf5
      have hgfw : w.heap.size ≤ gf := by have := HB4.out.size; omega
      have e1 : G'.es.length / 2 = N.arcs.length := by rw [FT.out.es]; omega
      rw [e1]
      have POK : Hid (∀ v, v < p.length → potOk (p.getD v 0) = true) := Lib.hid (fun v hv => by
        rw [PD.out.len] at hv
        have := PD.out.lo v hv
        have := PD.out.d
        rw [potOk_iff]
        omega)
      clear hb5 hf5
      go_wp2_with fail
      exact bodyPost_ret (v := .tuple #[.slice (some ⟨gf, 0, none⟩) N.arcs.length N.arcs.length, .slice (some ⟨gp, 0, none⟩) n n, .int .i64 0]) (by simp [results, Try.results25, go_sem]) rfl ⟨.inr (.inl ⟨HCH.out, gf, gp, flowL N G', p, by rw [HN.out], F5.out, P5.out, hgfw, hgpw, flowL_len N G', FL.out.1, by rw [PD.out.len, HN.out], POK.out, FL.out.2⟩), HB5.out⟩
  · have hne : (chE N == 0) = false := by simpa using hch
    have HCH := Lib.hid hch
    generalize hq : chE N = q at *
    have HQ := Lib.hid hq
    clear hq
    go_wp2_with fail
    exact bodyPost_ret (v := .tuple #[.slice none 0 0, .slice none 0 0, .int .i64 q]) (by simp [results, Try.results25, go_sem]) rfl ⟨.inl ⟨by rw [HQ.out]; exact HCH.out, by rw [HQ.out]⟩, HB2.out⟩
end Go.Proofs.Ytmebpglkeedaoaa
namespace Go.Proofs.Ytmebpglkeedaoaa
open Go.RowKit Dp
@[go_sem] theorem on_0 : bits BinOp.and IntKind.u64 0 6148914691236517205 = 0 := by kernel_rfl
@[go_sem] theorem on_1 : IntKind.u64.wrap (0 + 0) = 0 := by kernel_rfl
@[go_sem] theorem on_2 : IntKind.u64.wrap 0 = 0 := by kernel_rfl
@[go_sem] theorem on_3 : bits BinOp.and IntKind.u64 0 3689348814741910323 = 0 := by kernel_rfl
@[go_sem] theorem on_4 : bits BinOp.and IntKind.u64 0 1085102592571150095 = 0 := by kernel_rfl
@[go_sem] theorem on_5 : bits BinOp.and IntKind.i64 0 127 = 0 := by kernel_rfl
@[go_sem] theorem on_6 : IntKind.i64.wrap 0 = 0 := by kernel_rfl
@[go_sem] theorem on_7 : bits BinOp.and IntKind.u64 1 6148914691236517205 = 1 := by kernel_rfl
@[go_sem] theorem on_8 : IntKind.u64.wrap (0 + 1) = 1 := by kernel_rfl
@[go_sem] theorem on_9 : IntKind.u64.wrap 1 = 1 := by kernel_rfl
@[go_sem] theorem on_10 : bits BinOp.and IntKind.u64 1 3689348814741910323 = 1 := by kernel_rfl
@[go_sem] theorem on_11 : bits BinOp.and IntKind.u64 1 1085102592571150095 = 1 := by kernel_rfl
@[go_sem] theorem on_12 : IntKind.u64.wrap (1 + 0) = 1 := by kernel_rfl
@[go_sem] theorem on_13 : bits BinOp.and IntKind.i64 1 127 = 1 := by kernel_rfl
@[go_sem] theorem on_14 : IntKind.i64.wrap 1 = 1 := by kernel_rfl
@[go_sem] theorem on_15 : bits BinOp.and IntKind.u64 2 6148914691236517205 = 0 := by kernel_rfl
@[go_sem] theorem on_16 : IntKind.u64.wrap 2 = 2 := by kernel_rfl
@[go_sem] theorem on_17 : bits BinOp.and IntKind.u64 3 6148914691236517205 = 1 := by kernel_rfl
@[go_sem] theorem on_18 : IntKind.u64.wrap (1 + 1) = 2 := by kernel_rfl
@[go_sem] theorem on_19 : bits BinOp.and IntKind.u64 2 3689348814741910323 = 2 := by kernel_rfl
@[go_sem] theorem on_20 : IntKind.u64.wrap (0 + 2) = 2 := by kernel_rfl
@[go_sem] theorem on_21 : bits BinOp.and IntKind.u64 2 1085102592571150095 = 2 := by kernel_rfl
@[go_sem] theorem on_22 : IntKind.u64.wrap (2 + 0) = 2 := by kernel_rfl
@[go_sem] theorem on_23 : bits BinOp.and IntKind.i64 2 127 = 2 := by kernel_rfl
@[go_sem] theorem on_24 : IntKind.u64.wrap 3 = 3 := by kernel_rfl
@[go_sem] theorem on_25 : IntKind.i64.wrap 2 = 2 := by kernel_rfl
set_option maxHeartbeats 2000000 in
set_option maxRecDepth 100000 in
theorem ones64_0 (w : World) : Calls Try.prog 112 #[.int .u64 0] w fun e w' => e = .returned (.int .i64 0) ∧ w = w' := by
  go_enter Try.func112, Try.ntmps112
  go_wp2_with fail
  exact bodyPost_ret (v := .int .i64 0) (by simp [results, Try.results112, go_sem]) rfl ⟨rfl, rfl⟩
set_option maxHeartbeats 2000000 in
set_option maxRecDepth 100000 in
theorem ones_0 (w : World) : Calls Try.prog 95 #[.int .u64 0] w fun e w' => e = .returned (.int .i64 0) ∧ w = w' := by
  go_enter Try.func95, Try.ntmps95
  go_wp2_with fail
  refine (ones64_0 w).mono ?_
  rintro e w1 ⟨rfl, rfl⟩
  go_wp2_with fail
  exact bodyPost_ret (v := .int .i64 0) (by simp [results, Try.results95, go_sem]) rfl ⟨rfl, rfl⟩
set_option maxHeartbeats 2000000 in
set_option maxRecDepth 100000 in
theorem ones64_1 (w : World) : Calls Try.prog 112 #[.int .u64 1] w fun e w' => e = .returned (.int .i64 1) ∧ w = w' := by
  go_enter Try.func112, Try.ntmps112
  go_wp2_with fail
  exact bodyPost_ret (v := .int .i64 1) (by simp [results, Try.results112, go_sem]) rfl ⟨rfl, rfl⟩
set_option maxHeartbeats 2000000 in
set_option maxRecDepth 100000 in
theorem ones_1 (w : World) : Calls Try.prog 95 #[.int .u64 1] w fun e w' => e = .returned (.int .i64 1) ∧ w = w' := by
  go_enter Try.func95, Try.ntmps95
  go_wp2_with fail
  refine (ones64_1 w).mono ?_
  rintro e w1 ⟨rfl, rfl⟩
  go_wp2_with fail
  exact bodyPost_ret (v := .int .i64 1) (by simp [results, Try.results95, go_sem]) rfl ⟨rfl, rfl⟩
set_option maxHeartbeats 2000000 in
set_option maxRecDepth 100000 in
theorem ones64_2 (w : World) : Calls Try.prog 112 #[.int .u64 2] w fun e w' => e = .returned (.int .i64 1) ∧ w = w' := by
  go_enter Try.func112, Try.ntmps112
  go_wp2_with fail
  exact bodyPost_ret (v := .int .i64 1) (by simp [results, Try.results112, go_sem]) rfl ⟨rfl, rfl⟩
set_option maxHeartbeats 2000000 in
set_option maxRecDepth 100000 in
theorem ones_2 (w : World) : Calls Try.prog 95 #[.int .u64 2] w fun e w' => e = .returned (.int .i64 1) ∧ w = w' := by
  go_enter Try.func95, Try.ntmps95
  go_wp2_with fail
  refine (ones64_2 w).mono ?_
  rintro e w1 ⟨rfl, rfl⟩
  go_wp2_with fail
  exact bodyPost_ret (v := .int .i64 1) (by simp [results, Try.results95, go_sem]) rfl ⟨rfl, rfl⟩
set_option maxHeartbeats 2000000 in
set_option maxRecDepth 100000 in
theorem ones64_3 (w : World) : Calls Try.prog 112 #[.int .u64 3] w fun e w' => e = .returned (.int .i64 2) ∧ w = w' := by
  go_enter Try.func112, Try.ntmps112
  go_wp2_with fail
  exact bodyPost_ret (v := .int .i64 2) (by simp [results, Try.results112, go_sem]) rfl ⟨rfl, rfl⟩
set_option maxHeartbeats 2000000 in
set_option maxRecDepth 100000 in
theorem ones_3 (w : World) : Calls Try.prog 95 #[.int .u64 3] w fun e w' => e = .returned (.int .i64 2) ∧ w = w' := by
  go_enter Try.func95, Try.ntmps95
  go_wp2_with fail
  refine (ones64_3 w).mono ?_
  rintro e w1 ⟨rfl, rfl⟩
  go_wp2_with fail
  exact bodyPost_ret (v := .int .i64 2) (by simp [results, Try.results95, go_sem]) rfl ⟨rfl, rfl⟩
structure CO (w : World) (gL gA gB : Nat) : Prop where
  L : Blk w gL 22 [.slice (some ⟨gA, 0, none⟩) 2 2, .slice (some ⟨gB, 0, none⟩) 2 2]
  A : Blk w gA 2 [.int .i64 4, .int .i64 1]
  B : Blk w gB 2 [.int .i64 2, .int .i64 3]
theorem CO.below {w w' : World} {gL gA gB k : Nat} (h : CO w gL gA gB) (hb : Below k w w') (hk : w.heap.size ≤ k) : CO w' gL gA gB :=
  ⟨h.L.below hb (by have := h.L.lt; omega), h.A.below hb (by have := h.A.lt; omega), h.B.below hb (by have := h.B.lt; omega)⟩
set_option maxHeartbeats 4000000 in
set_option maxRecDepth 100000 in
theorem checkCosts_c (gL gA gB : Nat) (w : World) (h : CO w gL gA gB) : Calls Try.prog 94 #[.slice (some ⟨gL, 0, none⟩) 2 2] w fun e w' => e = .returned (.int .i64 0) ∧ w = w' := by
  have H0 := Lib.hid h
  clear h
  have l0 := H0.out.L.cell 0 rfl
  have l1 := H0.out.L.cell 1 rfl
  have a0 := H0.out.A.cell 0 rfl
  have a1 := H0.out.A.cell 1 rfl
  have b0 := H0.out.B.cell 0 rfl
  have b1 := H0.out.B.cell 1 rfl
  go_enter Try.func94, Try.ntmps94
  go_wp2_with fail
  refine wp_loop_rounds 3 ?_
  rw [rounds_succ]
  go_wp2_with fail
  rw [rounds_succ]
  go_wp2_with fail
  rw [rounds_succ]
  go_wp2_with fail
  refine wp_loop_rounds 3 ?_
  rw [rounds_succ]
  go_wp2_with fail
  refine wp_loop_rounds 3 ?_
  rw [rounds_succ]
  go_wp2_with fail
  rw [rounds_succ]
  go_wp2_with fail
  rw [rounds_succ]
  go_wp2_with fail
  rw [rounds_succ]
  go_wp2_with fail
  refine wp_loop_rounds 3 ?_
  rw [rounds_succ]
  go_wp2_with fail
  rw [rounds_succ]
  go_wp2_with fail
  rw [rounds_succ]
  go_wp2_with fail
  rw [rounds_succ]
  go_wp2_with fail
  exact bodyPost_ret (v := .int .i64 0) (by simp [results, Try.results94, go_sem]) rfl ⟨rfl, rfl⟩
end Go.Proofs.Ytmebpglkeedaoaa
namespace Go.Proofs.Ytmebpglkeedaoaa
open Go.RowKit Dp
theorem info46 : (Try.prog.info? 46).map (fun i => (i.zero, i.size, i.bytes)) = some (some (.agg #[.int .i64 0, .int .i64 0, .int .i64 0, .int .i64 0]), 4, 32) := by kernel_rfl
def arcV (a : Arc) : List Value := [.int .i64 a.fr, .int .i64 a.to, .int .i64 a.cap, .int .i64 a.cost]
structure BuJ (w : World) (gL gA gB gs gb : Nat) (A : Option Addr) (n cap : Nat) (sup : List Int) (arcs : List Arc) (W : World) : Prop where
  co : CO W gL gA gB
  b : Blk W gb 125 [.slice (some ⟨gs, 0, none⟩) 5 5, .slice A n cap, .slice none 0 0, .slice none 0 0]
  s : Fl 2 W gs sup
  own : W.ownsRow (gb + 1) 46 4 (.slice A n cap) n (flat arcV arcs)
  lt : gL < gs ∧ gA < gs ∧ gB < gs ∧ gs < gb ∧ w.heap.size ≤ gs
  bel : Below w.heap.size w W
section
variable {w W V : World} {gL gA gB gs gb n cap n2 cap2 : Nat} {A A2 : Option Addr} {sup : List Int} {arcs arcs2 : List Arc}
theorem BuJ.below (h : BuJ w gL gA gB gs gb A n cap sup arcs W) (hb : Below W.heap.size W V) : BuJ w gL gA gB gs gb A n cap sup arcs V :=
  ⟨h.co.below hb (Nat.le_refl _), h.b.below hb h.b.lt, h.s.below hb, ownBelow h.own hb, h.lt, h.bel.trans (hb.mono h.bel.size)⟩
theorem BuJ.alloc (h : BuJ w gL gA gB gs gb A n cap sup arcs W) (o : Obj) : BuJ w gL gA gB gs gb A n cap sup arcs (W.alloc o) :=
  h.below ((Below.refl _ _).alloc (Nat.le_refl _) o)
theorem BuJ.set (h : BuJ w gL gA gB gs gb A n cap sup arcs W) (k : Nat) (v : Int) : BuJ w gL gA gB gs gb A n cap (sup.set k v) arcs (W.setCell ⟨gs, k, none⟩ (.int .i64 v)) := by
  have hl := h.lt
  refine ⟨⟨h.co.L.setCell_ne (by simp; omega) _, h.co.A.setCell_ne (by simp; omega) _, h.co.B.setCell_ne (by simp; omega) _⟩, h.b.setCell_ne (by simp; omega) _, h.s.put k v, ?_, h.lt, h.bel.setCell (by simp; omega) _⟩
  exact ownGrown h.own ⟨rfl, rfl, rfl, by simp [World.setCell], fun k hk hne => Below.heap_setCell _ _ _ _ (fun e => hne (by rw [e]))⟩ (row := some gs) (fun k hk e => by
    have := (World.ownsRow.lt h.own k (ownB_iff.1 hk)).1
    cases e; omega)
theorem BuJ.mid (h : BuJ w gL gA gB gs gb A n cap sup arcs W) (hg : W.grownBy V (Value.slice A n cap).ownBlock) :
    Blk V gb 125 [.slice (some ⟨gs, 0, none⟩) 5 5, .slice A n cap, .slice none 0 0, .slice none 0 0] := by
  have hk : ∀ k, (Value.slice A n cap).ownBlock = some k → gb + 1 ≤ k := fun k e => (World.ownsRow.lt h.own k e).1
  exact h.b.grown hg (fun e => by have := hk gb e.symm; omega)
theorem BuJ.push (h : BuJ w gL gA gB gs gb A n cap sup arcs W) (hg : W.grownBy V (Value.slice A n cap).ownBlock)
    (ho : V.ownsRow (gb + 1) 46 4 (.slice A2 n2 cap2) n2 (flat arcV arcs2)) : BuJ w gL gA gB gs gb A2 n2 cap2 sup arcs2 (V.setCell ⟨gb, 1, none⟩ (.slice A2 n2 cap2)) := by
  have hk : ∀ k, (Value.slice A n cap).ownBlock = some k → gb + 1 ≤ k := fun k e => (World.ownsRow.lt h.own k e).1
  have hne : ∀ k, k ≤ gb → some k ≠ (Value.slice A n cap).ownBlock := fun k hk' e => by have := hk k e.symm; omega
  have hl := h.lt
  have hbs := h.bel.size
  have m2 := h.mid hg
  refine ⟨⟨(h.co.L.grown hg (hne _ (by omega))).setCell_ne (by simp; omega) _, (h.co.A.grown hg (hne _ (by omega))).setCell_ne (by simp; omega) _, (h.co.B.grown hg (hne _ (by omega))).setCell_ne (by simp; omega) _⟩, m2.setCell 1 _, Blk.setCell_ne (Blk.grown h.s hg (hne _ (by omega))) (by simp; omega) _, ?_, hl, (h.bel.grown hg hbs (fun k e => by have := hk k e; omega)).setCell (by simp; omega) _⟩
  exact ownGrown ho ⟨rfl, rfl, rfl, by simp [World.setCell], fun k hk hne => Below.heap_setCell _ _ _ _ (fun e => hne (by rw [e]))⟩ (row := some gb) (fun k hk e => by
    have := (World.ownsRow.lt ho k (ownB_iff.1 hk)).1
    cases e; omega)
end
set_option maxHeartbeats 2000000 in
set_option maxRecDepth 100000 in
theorem add_c (w W : World) (gL gA gB gs gb n cap gx : Nat) (A : Option Addr) (sup : List Int) (arcs : List Arc) (x : Arc) (hn : n ≤ 100) (h : BuJ w gL gA gB gs gb A n cap sup arcs W) (hX : Blk W gx 46 (arcV x)) (hal : arcs.length = n) :
    Calls Try.prog 108 #[.pointer (some ⟨gb, 0, none⟩), .slice (some ⟨gx, 0, none⟩) 1 1] W fun e W' => ∃ A2 cap2, e = .returned (.int .i64 n) ∧ BuJ w gL gA gB gs gb A2 (n + 1) cap2 sup (arcs ++ [x]) W' := by
  have H0 := Lib.hid h
  have X := Lib.hid hX
  have HAL := Lib.hid hal
  clear h hX hal
  obtain ⟨i3, h3i, h3z, h3s, h3b⟩ := info_parts info46
  have y0 := H0.out.b.cell 1 rfl
  go_enter Try.func108, Try.ntmps108
  go_wp2_with (at_builtin; refine wpList_append_any (.tmp 10) (.tmp 11) 23 rfl rfl (gb + 1) 46 i3 (.agg #[.int .i64 0, .int .i64 0, .int .i64 0, .int .i64 0]) 4 32 Try.underlying23 h3i h3z h3s h3b rfl (by decide) A n cap (flat arcV arcs) (by rfl) H0.out.own (some ⟨gx, 0, none⟩) 1 1 (arcV x) (by rfl) (by rfl) (.inr ⟨_, rfl, fun k u hk => by rw [show ((⟨gx, 0, none⟩ : Addr).add k) = ⟨gx, k, none⟩ from (by unfold Addr.add; split <;> simp_all)]; exact X.out.cell k hk⟩) (by simp [arcV, Value.oneCell']) (by unfold maxLen; omega) (by omega) (by have := H0.out.b.lt; omega) ?_; intro A2 c2 v hown hgrow hat; have H1 := Lib.hid (show BuJ w gL gA gB gs gb A2 (n + 1) c2 sup (arcs ++ [x]) (v.setCell ⟨gb, 1, none⟩ (.slice A2 (n + 1) c2)) from H0.out.push hgrow (by rw [flat_append]; simpa [flat] using hown)); have MM := H0.out.mid hgrow; clear y0; have y0 := MM.cell 1 rfl; have q0 := MM.free 1; clear MM hown hgrow hat)
  go_upto_region 2 with fail
  generalize v.setCell ⟨gb, 1, none⟩ (.slice A2 (n + 1) c2) = v1 at H1 ⊢
  clear y0 q0
  have y0 := H1.out.b.cell 1 rfl
  go_wp2_with fail
  trace_state
  exact bodyPost_ret (v := .int .i64 n) (by simp [results, Try.results108, go_sem]) rfl ⟨A2, c2, rfl, H1.out⟩
end Go.Proofs.Ytmebpglkeedaoaa
namespace Go.Proofs.Ytmebpglkeedaoaa
open Go.RowKit Dp
theorem add_add' (a : Addr) (m k : Nat) : (a.add m).add k = a.add (m + k) := by
  unfold Addr.add
  split <;> split <;> (try split) <;> simp_all [Nat.add_assoc]
set_option maxHeartbeats 1000000 in
set_option maxRecDepth 100000 in
theorem cloneA_some (ad : Addr) (l : List Arc) (n cap : Nat) (w : World) (hn : n = l.length) (h2 : n ≤ 4096) (hA : ArcsAt w (some ad) l) :
    Calls Try.prog 70 #[.slice (some ad) n cap] w fun e w' => ∃ A c, e = .returned (.slice A n c) ∧ Below w.heap.size w w' ∧ w'.ownsRow w.heap.size 46 4 (.slice A n c) n (flat arcV l) := by
  have HA := Lib.hid hA
  have HN := Lib.hid hn
  have hsrc : SrcRow (w.alloc (.cells #[] 46)) (some ad) n (flat arcV l) := .inr ⟨ad, rfl, fun j u hu => by
    have hj : j < l.length * 4 := by
      rcases Nat.lt_or_ge j (l.length * 4) with h | h
      · exact h
      · rw [List.getElem?_eq_none (by rw [flat_length (s := 4) (fun _ => rfl)]; exact h)] at hu; cases hu
    have hq : j / 4 < l.length := by omega
    obtain ⟨ad', e, hb, c0, c1, c2, c3⟩ := HA.out (j / 4) hq
    cases e
    have e1 := flat_get (f := arcV) (s := 4) (fun _ => rfl) l (j / 4) (j % 4) _ (getElem_D _ _ default hq) (by omega)
    rw [show j / 4 * 4 + j % 4 = j by omega, hu] at e1
    have hadd : ad.add j = (ad.add (j / 4 * 4)).add (j % 4) := by rw [add_add', show j / 4 * 4 + j % 4 = j by omega]
    refine (((Below.refl w.heap.size w).alloc (Nat.le_refl _) (.cells #[] 46)).cell (by rw [block_add]; exact hb)).trans ?_
    rw [hadd]
    have h4 : j % 4 = 0 ∨ j % 4 = 1 ∨ j % 4 = 2 ∨ j % 4 = 3 := by omega
    rcases h4 with h | h | h | h <;> rw [h] at e1 ⊢ <;> simp [arcV] at e1 <;> subst e1
    · rw [add_zero']; exact c0
    · exact c1
    · exact c2
    · exact c3⟩
  have HS := Lib.hid hsrc
  have FL := Lib.hid (flat_length (f := arcV) (s := 4) (fun _ => rfl) l)
  clear hsrc hA hn
  obtain ⟨i0, hi, hz0, hz1, hz2⟩ := info_parts info46
  have qT : ∀ w : World, (binOp .eql 23 (.slice (some ad) n cap) (.slice none 0 0)).run Try.prog w = .ok (.bool false) w := fun w => Lib.run_eql_slice_nil w 23 46 (some ad) n cap 0 0 Try.underlying23
  go_enter Try.func70, Try.ntmps70
  go_wp2_with (at_builtin; refine wpList_append_any (.tmp 5) (.tmp 6) 23 rfl rfl w.heap.size 46 i0 (.agg #[.int .i64 0, .int .i64 0, .int .i64 0, .int .i64 0]) 4 32 Try.underlying23 hi hz0 hz1 hz2 rfl (by decide) (some ⟨w.heap.size, 0, none⟩) 0 0 [] (by rfl) (World.ownsRow_lit w #[] 0 (Nat.le_refl _) (Nat.zero_le _) rfl) (some ad) n cap (flat arcV l) (by rfl) (by rw [FL.out, HN.out]) HS.out (by intro u hu; obtain ⟨a, _, ha⟩ := List.mem_flatMap.1 hu; simp [arcV] at ha; rcases ha with rfl | rfl | rfl | rfl <;> rfl) (by unfold maxLen; omega) (by omega) (by simp) ?_; intro A3 c3 w2 hown2 hgrow2 hat2; have HO2 := Lib.hid hown2; have HG2 := Lib.hid hgrow2; clear hown2 hgrow2 hat2)
  have BB : Hid (Below w.heap.size w w2) := Lib.hid (((Below.refl w.heap.size w).alloc (Nat.le_refl _) (.cells #[] 46)).grown HG2.out (by simp) (fun k hk => by cases hk; exact Nat.le_refl _))
  have OO : Hid (w2.ownsRow w.heap.size 46 4 (.slice A3 n c3) n (flat arcV l)) := Lib.hid (by simpa using HO2.out)
  go_ret
  exact ⟨A3, c3, rfl, BB.out, OO.out⟩
set_option maxRecDepth 100000 in
theorem cloneA_c (A0 : Option Addr) (l : List Arc) (n cap : Nat) (w : World) (hn : n = l.length) (h2 : n ≤ 4096) (hA : ArcsAt w A0 l) :
    Calls Try.prog 70 #[.slice A0 n cap] w fun e w' => ∃ A c, e = .returned (.slice A n c) ∧ Below w.heap.size w w' ∧ w'.ownsRow w.heap.size 46 4 (.slice A n c) n (flat arcV l) := by
  cases A0 with
  | some ad => exact cloneA_some ad l n cap w hn h2 hA
  | none =>
    have hl : l = [] := by
      cases l with
      | nil => rfl
      | cons a t => obtain ⟨ad, h, _⟩ := hA 0 (by simp); cases h
    subst hl
    simp only [List.length_nil] at hn
    subst hn
    clear hA h2
    have qT : ∀ w : World, (binOp .eql 23 (.slice none 0 cap) (.slice none 0 0)).run Try.prog w = .ok (.bool true) w := fun w => Lib.run_eql_slice_nil w 23 46 none 0 cap 0 0 Try.underlying23
    go_enter Try.func70, Try.ntmps70
    go_wp2_with fail
    exact bodyPost_ret (v := .slice none 0 0) (by simp [results, Try.results70, go_sem]) rfl ⟨none, 0, rfl, Below.refl _ _, World.ownsRow_nil _ _ _ _⟩
end Go.Proofs.Ytmebpglkeedaoaa
namespace Go.Proofs.Ytmebpglkeedaoaa
namespace Dp
theorem rest_max {N : Net} {G : Gr} {c : List Int} (h : chE N = 0) (hG : G.Ok N.sup.length) (hf : Fits N G) (hc : ∀ k, k < c.length → cutAt N.sup.length c k = true) : lkA N c N.arcs.length ≤ restV G.left := by
  have h2 := cut_flow (C := fun v => inK c c.length v) (f := fun j => G.room (2 * j + 1)) h
  rw [← lkR_dot, lkR_eq _ (Nat.le_refl _) hc] at h2
  have h3 : dotN (fun v => if inK c c.length (v : Int) = true then (1 : Int) else 0) (lv N (fun j => G.room (2 * j + 1)) N.arcs.length) N.sup.length ≤ restV G.left := by
    rw [rest_dot, hf.ll]
    have : ∀ k, k ≤ N.sup.length → dotN (fun v => if inK c c.length (v : Int) = true then (1 : Int) else 0) (lv N (fun j => G.room (2 * j + 1)) N.arcs.length) k ≤ dotN (fun _ => 1) (fun v => max 0 (G.left.getD v 0)) k := by
      intro k
      induction k with
      | zero => intro _; exact Int.le_refl _
      | succ k ih =>
        intro hk
        simp only [dotN]
        have h1 := ih (by omega)
        rw [← hf.lf k (by omega)]
        have e : G.left.getD k 0 = G.lf k := rfl
        rw [e]
        split <;> omega
    exact this _ (Nat.le_refl _)
  rw [lkA_arc]
  have neg2 : ∀ (g : Nat → Int) k, arcS (fun _ => 1) (fun j => - g j) k = - arcS (fun _ => 1) g k := fun g k => by
    induction k with
    | zero => rfl
    | succ k ih => simp only [arcS]; rw [ih]; omega
  have h5 := arc_le (f := fun j => G.room (2 * j + 1)) (g := fun j => (if inK c c.length (toN N j : Int) = true then (1 : Int) else 0) - (if inK c c.length (frN N j : Int) = true then 1 else 0))
    (h := fun j => - (if inK c c.length (N.arcs.getD j default).fr = true ∧ inK c c.length (N.arcs.getD j default).to = false then (N.arcs.getD j default).cap else 0)) N.arcs.length (fun j hj => by
      have e := net_ends h j hj
      have b := hf.r0 j hj
      have rc := room_cap hG hf j hj
      rw [e.1, e.2.1]
      generalize G.room (2 * j + 1) = f at *
      generalize G.room (2 * j) = g at *
      generalize (N.arcs.getD j default).cap = ca at *
      cases hA : inK c c.length (frN N j : Int) <;> cases hB : inK c c.length (toN N j : Int) <;> simp <;> omega)
  rw [neg2] at h5
  omega
end Dp
end Go.Proofs.Ytmebpglkeedaoaa
namespace Go.Proofs.Ytmebpglkeedaoaa
open Go.RowKit Dp
theorem own_arcs2 {W : World} {D n cap : Nat} {A : Option Addr} {l : List Arc} (hA : W.ownsRow D 46 4 (.slice A n cap) n (flat arcV l)) (hn : n = l.length) : ArcsAt W A l ∧ n ≤ cap ∧ cap ≤ 9223372036854775807 := by
  refine ⟨fun i hi => ?_, ?_⟩
  · obtain ⟨g, c, hv, hb, hlt⟩ := hA.form (by omega)
    cases hv
    have hc : ∀ j, j < 4 → W.cell? ⟨g, i * 4 + j, none⟩ = (arcV (l.getD i default))[j]? := fun j hj => by
      rw [World.ownsRow.cellAt hA (i * 4 + j) (by omega)]
      exact flat_get (f := arcV) (s := 4) (fun _ => rfl) _ _ _ _ (getElem_D _ _ _ hi) hj
    have had : (⟨g, 0, none⟩ : Addr).add (i * 4) = ⟨g, i * 4, none⟩ := by unfold Addr.add; split <;> simp_all
    exact ⟨⟨g, 0, none⟩, rfl, hlt, by rw [had]; exact hc 0 (by omega), by rw [had]; exact hc 1 (by omega), by rw [had]; exact hc 2 (by omega), by rw [had]; exact hc 3 (by omega)⟩
  · rcases hA.2 with ⟨h0, h1⟩ | ⟨g', c', cur, hv, _, _, hc1, hc2, _⟩
    · cases h0
      simp
    · cases hv
      unfold maxLen at hc2
      omega
theorem own_cap2 {W : World} {b c cp : Nat} {A : Option Addr} {l : List Value} (h : W.ownsRow b 3 1 (.slice A c cp) c l) : c ≤ cp ∧ cp ≤ 9223372036854775807 := by
  rcases h.2 with ⟨h0, h1⟩ | ⟨g', c', cur, hv, _, _, hc1, hc2, _⟩
  · cases h0
    omega
  · cases hv
    unfold maxLen at hc2
    omega
theorem lkA_nil (N : Net) : ∀ k, lkA N [] k = 0
  | 0 => rfl
  | k + 1 => by simp only [lkA]; rw [lkA_nil N k]; simp [inK]
theorem blk_own_ne2 {W : World} {g t B e z n cap : Nat} {cs xs : List Value} {A : Option Addr} (hb : Blk W g t cs) (h : W.ownsRow B e z (.slice A n cap) n xs) (hne : t ≠ e) : some g ≠ (Value.slice A n cap).ownBlock := by
  intro hk
  rcases h.2 with ⟨h0, _⟩ | ⟨g', cap', cur, hv, _, hg, _⟩
  · rw [h0] at hk; cases hk
  · rw [hv] at hk
    simp only [Value.ownBlock, Option.some.injEq] at hk
    subst hk
    unfold Blk at hb
    rw [hg] at hb
    simp only [Option.some.injEq, Obj.cells.injEq] at hb
    exact hne hb.2.1.symm
theorem own_blk_no2 {W : World} {g t B e z n cap : Nat} {cs xs : List Value} {A : Option Addr} (hb : Blk W g t cs) (h : W.ownsRow B e z (.slice A n cap) n xs) (hne : t ≠ e) : ¬ OwnB A g := fun hk => blk_own_ne2 hb h hne (ownB_iff.1 hk).symm
theorem ownV_mono2 {w : World} {B B' e z n : Nat} {v : Value} {xs : List Value} (h : w.ownsRow B e z v n xs) (hb : B' ≤ B) : w.ownsRow B' e z v n xs := ⟨h.1, h.2.imp id (fun ⟨k, c, cur, hv, hb', r⟩ => ⟨k, c, cur, hv, Nat.le_trans hb hb', r⟩)⟩
theorem own_ints2 {W : World} {b c cp : Nat} {A : Option Addr} {l : List Int} (h : W.ownsRow b 3 1 (.slice A c cp) c (l.map (Value.int .i64))) (hc : c = l.length) : IntsAt W A l := fun i hi => by
  obtain ⟨g, cap, hv, hb, hlt⟩ := h.form (by omega)
  cases hv
  refine ⟨⟨g, 0, none⟩, rfl, hlt, ?_⟩
  rw [show (⟨g, 0, none⟩ : Addr).add i = ⟨g, i, none⟩ from (by unfold Addr.add; split <;> simp_all), World.ownsRow.cellAt h i (by omega), List.getElem?_map, List.getElem?_eq_getElem hi, List.getD_eq_getElem?_getD, List.getElem?_eq_getElem hi]
  rfl
def MissP (N : Net) (w : World) (e : Ending) (w' : World) : Prop :=
  (chE N ≠ 0 ∧ e = .returned (.tuple #[.slice none 0 0, .int .i64 0, .int .i64 (chE N)])) ∨
  (chE N = 0 ∧ e = .returned (.tuple #[.slice none 0 0, .int .i64 0, .int .i64 18]) ∧ ∃ fl, isFlow N fl = true) ∨
  (chE N = 0 ∧ ∃ (g c : Nat) (cut : List Int), e = .returned (.tuple #[.slice (some ⟨g, 0, none⟩) cut.length c, .int .i64 (lkA N cut N.arcs.length), .int .i64 0]) ∧ w'.ownsRow w.heap.size 3 1 (.slice (some ⟨g, 0, none⟩) cut.length c) cut.length (cut.map (.int .i64)) ∧ cut.length ≤ 1024 ∧ (∀ k, k < cut.length → cutAt N.sup.length cut k = true) ∧ 0 < lkA N cut N.arcs.length ∧ ∀ fl, isFlow N fl = false)
def MaxC (N : Net) (e : Ending) : Prop := ∀ (a : Value) (R : Int), e = .returned (.tuple #[a, .int .i64 R, .int .i64 0]) → ∀ c, (∀ k, k < c.length → cutAt N.sup.length c k = true) → lkA N c N.arcs.length ≤ R
theorem MaxC.no {N : Net} {a : Value} {R z : Int} (hz : z ≠ 0) : MaxC N (.returned (.tuple #[a, .int .i64 R, .int .i64 z])) := fun a' R' h => by simp at h; exact absurd h.2.2 hz
theorem MaxC.yes {N : Net} {a : Value} {R : Int} (h : ∀ c, (∀ k, k < c.length → cutAt N.sup.length c k = true) → lkA N c N.arcs.length ≤ R) : MaxC N (.returned (.tuple #[a, .int .i64 R, .int .i64 0])) := fun a' R' e => by simp at e; rw [← e.2]; exact h
def zcL (l : List Arc) (k : Nat) : List Arc := (l.take k).map noC ++ l.drop k
theorem zcL_len (l : List Arc) (k : Nat) : (zcL l k).length = l.length := by simp [zcL]; omega
theorem zcL_0 (l : List Arc) : zcL l 0 = l := by simp [zcL]
theorem zcL_all (l : List Arc) : zcL l l.length = l.map noC := by simp [zcL]
theorem zcL_get {l : List Arc} {k : Nat} (hk : k < l.length) : (zcL l k)[k]? = some (l.getD k default) := by
  unfold zcL
  rw [List.getElem?_append_right (by simp; omega)]
  simp only [List.length_map, List.length_take, Nat.min_eq_left (Nat.le_of_lt hk), Nat.sub_self, List.getElem?_drop, Nat.add_zero]
  exact getElem_D l k default hk
theorem zcL_set {l : List Arc} {k : Nat} (hk : k < l.length) : (zcL l k).set k (noC (l.getD k default)) = zcL l (k + 1) := by
  have h1 : l.drop k = l.getD k default :: l.drop (k + 1) := by
    rw [List.drop_eq_getElem_cons hk, List.getD_eq_getElem?_getD, List.getElem?_eq_getElem hk]; rfl
  have h2 : l.take (k + 1) = l.take k ++ [l.getD k default] := by
    rw [List.take_add_one, getElem_D l k default hk]; rfl
  unfold zcL
  rw [List.set_append_right _ _ (by simp; omega), h2, h1]
  simp only [List.length_map, List.length_take, Nat.min_eq_left (Nat.le_of_lt hk), Nat.sub_self, List.set_cons_zero, List.map_append, List.append_assoc, List.map_cons, List.map_nil, List.cons_append, List.nil_append]
theorem zero_pot {N : Net} {G : Gr} {n : Nat} (hf : Fits (zcN N) G) : G.Pot n (List.replicate n 0) := by
  have hz : ∀ v, (List.replicate n (0 : Int)).getD v 0 = 0 := fun v => by simp [List.getD_eq_getElem?_getD, List.getElem?_replicate]; split <;> rfl
  refine ⟨by simp, fun v _ => by rw [hz]; omega, fun k hk _ => ?_, fun v _ _ => hz v⟩
  have hc : G.cost k = 0 := by
    have hl := hf.es
    have hm : k / 2 < (zcN N).arcs.length := by omega
    have h := hf.c0 (k / 2) hm
    rw [fr_get (by rw [← fr_len N]; exact hm)] at h
    have h0 : (noC (N.arcs.getD (k / 2) default)).cost = 0 := rfl
    rw [h0] at h
    rcases Nat.mod_two_eq_zero_or_one k with e | e
    · have : k = 2 * (k / 2) := by omega
      rw [this]; exact h.1
    · have : k = 2 * (k / 2) + 1 := by omega
      rw [this, h.2]; rfl
  unfold Gr.rc
  rw [hc, hz, hz]
  omega
theorem cutP_yes {C : Nat → Bool} {k : Nat} (h : C k = true) : cutL (k + 1) C = cutL k C ++ [(k : Int)] := by simp [cutL, List.range_succ, h]
theorem cutP_no {C : Nat → Bool} {k : Nat} (h : C k = false) : cutL (k + 1) C = cutL k C := by simp [cutL, List.range_succ, h]
theorem cutP_len (C : Nat → Bool) (k : Nat) : (cutL k C).length ≤ k := by
  unfold cutL
  rw [List.length_map]
  exact Nat.le_trans (List.length_filter_le _ _) (by simp)
set_option maxHeartbeats 4000000 in
set_option maxRecDepth 100000 in
theorem MissingM_c (A B : Option Addr) (N : Net) (n m cA cB : Nat) (w : World) (hn : n = N.sup.length) (hm : m = N.arcs.length) (hA : n ≤ cA ∧ cA ≤ 9223372036854775807) (hB : m ≤ cB ∧ cB ≤ 9223372036854775807) (hN : NetAt w A B N) :
    Calls Try.prog 28 #[.agg #[.slice A n cA, .slice B m cB]] w fun e w' => (MissP N w e w' ∧ MaxC N e) ∧ Below w.heap.size w w' := by
  have HN := Lib.hid hn
  have HM := Lib.hid hm
  have HNA := Lib.hid hN
  clear hn hm hN
  have B1 := Lib.hid (Blk.new' w #[.slice A n cA, .slice B m cB] 25)
  have HB1 := Lib.hid ((Below.refl w.heap.size w).alloc (Nat.le_refl _) (.cells #[.slice A n cA, .slice B m cB] 25))
  go_enter Try.func28, Try.ntmps28
  go_wp2_with fail
  generalize w.alloc (.cells #[.slice A n cA, .slice B m cB] 25) = w1 at B1 HB1 ⊢
  refine (Check_c A B N n m cA cB w1 HN.out HM.out hA hB (HNA.out.below HB1.out (Nat.le_refl _))).mono ?_
  rintro e w2 ⟨rfl, hb2⟩
  have B2 := Lib.hid (B1.out.below hb2 B1.out.lt)
  have HB2 := Lib.hid (HB1.out.trans (hb2.mono HB1.out.size))
  clear hb2 B1 HB1
  by_cases hch : chE N = 0
  rotate_left
  · have hb0 : (chE N == 0) = false := by simpa using hch
    have HNE := Lib.hid hch
    clear hch
    go_wp2_with fail
    exact bodyPost_ret (v := .tuple #[.slice none 0 0, .int .i64 0, .int .i64 (chE N)]) (by simp [results, Try.results28, go_sem]) rfl ⟨⟨.inl ⟨HNE.out, rfl⟩, MaxC.no HNE.out⟩, HB2.out⟩
  have HCH := Lib.hid hch
  have n1 : 1 ≤ n := by rw [HN.out]; exact (net_len hch).1
  have n2 : n ≤ 1024 := by rw [HN.out]; exact (net_len hch).2.1
  have m2 : m ≤ 2048 := by rw [HM.out]; exact (net_len hch).2.2
  rw [hch]
  clear hch
  have hmk := make_64 n (by omega)
  go_upto_region 4 with fail
  have RD : Hid (∀ W, Below w2.heap.size w2 W → (W.cell? ⟨w.heap.size, 0, none⟩ = some (.slice A n cA) ∧ W.cell? ⟨w.heap.size, 1, none⟩ = some (.slice B m cB)) ∧ Below w.heap.size w W ∧ NetAt W A B N) := Lib.hid (fun W h => by
    have hb := HB2.out.trans (h.mono HB2.out.size)
    have hx := B2.out.below h B2.out.lt
    exact ⟨⟨hx.cell 0 rfl, hx.cell 1 rfl⟩, hb, HNA.out.below hb (Nat.le_refl _)⟩)
  have HT := Lib.hid (Below.refl w2.heap.size w2).drew
  have HS2 := Lib.hid HB2.out.size
  go_cut [6] from 7 (fun s6 wc => ∃ b Ac cc, s6 = .pointer (some ⟨b, 0, none⟩) ∧ Hid (Blk wc b 25 [.slice A n cA, .slice Ac m cc] ∧ OwnR arcV 46 4 w.heap.size wc Ac cc N.arcs ∧ Below w.heap.size w wc ∧ w.heap.size ≤ b))
  case first =>
    refine lBegin (S := fun _ W => (W.cell? ⟨w.heap.size, 0, none⟩ = some (.slice A n cA) ∧ W.cell? ⟨w.heap.size, 1, none⟩ = some (.slice B m cB))) (by kernel_rfl) ?_ (fun hHeld => ?_)
    · (try dsimp only); (first | with_reducible exact (RD.out _ HT.out).1 | with_reducible assumption)
    refine lTake (i := 0) (v := ?_) rfl (by kernel_rfl) (by kernel_rfl) (by kernel_rfl) (fun _ _ _ h => h) (by rfl) (fun _ _ h => h) (fun _ _ h => h) ?_ (by assumption) (fun hHeld2 => ?_)
    rotate_left 1
    · (intro _ _ _ _ _; first | (go_simp; done) | (go_simp; with_reducible rfl))
    clear hHeld; have hHeld := hHeld2; clear hHeld2
    (try simp only [Act.put, List.setIfInBounds_toArray, List.set_cons_zero, List.set_cons_succ])
    refine lTake (i := 1) (v := ?_) rfl (by kernel_rfl) (by kernel_rfl) (by kernel_rfl) (fun _ _ _ h => h) (by rfl) (fun _ _ h => h) (fun _ _ h => h) ?_ (by assumption) (fun hHeld2 => ?_)
    rotate_left 1
    · (intro L W _ _ hSw; (try dsimp only at hSw); first | (go_simp; done) | (go_simp; with_reducible rfl))
    clear hHeld; have hHeld := hHeld2; clear hHeld2
    (try simp only [Act.put, List.setIfInBounds_toArray, List.set_cons_zero, List.set_cons_succ])
    refine lTake (i := 2) (v := ?_) rfl (by kernel_rfl) (by kernel_rfl) (by kernel_rfl) (fun _ _ _ h => h) (by rfl) (fun _ _ h => h) (fun _ _ h => h) ?_ (by assumption) (fun hHeld2 => ?_)
    rotate_left 1
    · (intro _ _ _ _ _; first | (go_simp; done) | (go_simp; with_reducible rfl))
    clear hHeld; have hHeld := hHeld2; clear hHeld2
    (try simp only [Act.put, List.setIfInBounds_toArray, List.set_cons_zero, List.set_cons_succ])
    refine lTake (i := 3) (v := ?_) rfl (by kernel_rfl) (by kernel_rfl) (by kernel_rfl) (fun _ _ _ h => h) (by rfl) (fun _ _ h => h) (fun _ _ h => h) ?_ (by assumption) (fun hHeld2 => ?_)
    rotate_left 1
    · (intro L W _ _ hSw; (try dsimp only at hSw); first | (go_simp; done) | (go_simp; with_reducible rfl))
    clear hHeld; have hHeld := hHeld2; clear hHeld2
    (try simp only [Act.put, List.setIfInBounds_toArray, List.set_cons_zero, List.set_cons_succ])
    refine lReady (rs := [4, 6]) (by kernel_rfl) (by simp) ?_
    refine AllL.cons (i := 4) rfl (fun K hK => ?_) ?_
    · go_simp; (refine (cloneA_c B N.arcs m cB _ HM.out (by omega) (RD.out _ HT.out).2.2.2).mono ?_; rintro e w5 ⟨Ac, cc, rfl, hb5, ho5⟩; (try have HMK := Lib.hid (Blk.below HMK.out hb5 (Blk.lt HMK.out))); have HCL := Lib.hid (show OwnR arcV 46 4 w.heap.size w5 Ac cc N.arcs from (by unfold OwnR; rw [← HM.out]; exact ownV_mono2 ho5 (RD.out _ HT.out).2.1.size)); have HT := Lib.hid (HT.out.trans (hb5.mono HT.out.size)); clear hb5 ho5)
      (try go_wp2_with fail)
      refine hK.out _ _ ?_ (fun hHeld2 => ?_)
      · (try dsimp only); (first | with_reducible exact (RD.out _ HT.out).1 | with_reducible assumption)
      clear hK K
      clear hHeld; have hHeld := hHeld2; clear hHeld2
      (try simp only [Act.put, List.setIfInBounds_toArray, List.set_cons_zero, List.set_cons_succ])
      refine lTake (i := 5) (v := ?_) rfl (by kernel_rfl) (by kernel_rfl) (by kernel_rfl) (fun _ _ _ h => h) (by rfl) (fun _ _ h => h) (fun _ _ h => h) ?_ (by assumption) (fun hHeld2 => ?_)
      rotate_left 1
      · (intro _ _ _ _ _; first | (go_simp; done) | (go_simp; with_reducible rfl))
      clear hHeld; have hHeld := hHeld2; clear hHeld2
      (try simp only [Act.put, List.setIfInBounds_toArray, List.set_cons_zero, List.set_cons_succ])
      refine lReady (rs := [6]) (by kernel_rfl) (by simp) ?_
      refine AllL.cons (i := 6) rfl (fun K hK => ?_) ?_
      · refine step_new (.cells #[.slice none 0 0, .slice none 0 0] 25) (fun g => .pointer (some ⟨g, 0, none⟩)) rfl (by kernel_rfl) ?_; intro b w6 z6 hc6 hb6; (try have HCL := Lib.hid (OwnR.below HCL.out hb6)); have HMK := Lib.hid (show Blk w6 b 25 [.slice none 0 0, .slice none 0 0] from hc6); have HMS := Lib.hid (Nat.le_trans (RD.out _ HT.out).2.1.size z6); have HMT := Lib.hid (Nat.le_trans HT.out.size z6); have HT := Lib.hid (HT.out.trans (hb6.mono HT.out.size)); clear hb6 hc6 z6
        (try go_wp2_with fail)
        refine hK.out _ _ ?_ (fun hHeld2 => ?_)
        · (try dsimp only); (first | with_reducible exact (RD.out _ HT.out).1 | with_reducible assumption)
        clear hK K
        clear hHeld; have hHeld := hHeld2; clear hHeld2
        (try simp only [Act.put, List.setIfInBounds_toArray, List.set_cons_zero, List.set_cons_succ])
        refine lReady (rs := [7]) (by kernel_rfl) (by simp) ?_
        refine AllL.cons (i := 7) rfl (fun K hK => ?_) ?_
        · (have q0 := HMK.out.cell 0 rfl; have q1 := HMK.out.cell 1 rfl; have z0 := HMK.out.free 0; have z1 := HMK.out.free 1; have zl := HMK.out.lt; have HE1 := Lib.hid ((HMK.out.setCell 0 (.slice A n cA)).setCell 1 (.slice Ac m cc)); have HE2 := Lib.hid ((HCL.out.set_ne (p := ⟨b, 0, none⟩) (own_blk_no2 HMK.out HCL.out (by decide)) (.slice A n cA)).set_ne (p := ⟨b, 1, none⟩) (own_blk_no2 (HMK.out.setCell 0 (.slice A n cA)) (HCL.out.set_ne (p := ⟨b, 0, none⟩) (own_blk_no2 HMK.out HCL.out (by decide)) (.slice A n cA)) (by decide)) (.slice Ac m cc)); have HT := Lib.hid ((HT.out.setCell (p := ⟨b, 0, none⟩) HMT.out (.slice A n cA)).setCell (p := ⟨b, 1, none⟩) HMT.out (.slice Ac m cc)); go_simp)
          (try go_wp2_with fail)
          refine hK.out _ _ ?_ (fun hHeld2 => ?_)
          · (try dsimp only); (first | with_reducible exact (RD.out _ HT.out).1 | with_reducible assumption)
          clear hK K
          clear hHeld; have hHeld := hHeld2; clear hHeld2
          (try simp only [Act.put, List.setIfInBounds_toArray, List.set_cons_zero, List.set_cons_succ])
          refine lDone (by kernel_rfl) ?_ _
          go_wp2_with fail
          go_meet
          case rel => exact ⟨b, Ac, cc, rfl, Lib.hid ⟨HE1.out, HE2.out, (RD.out _ HT.out).2.1, HMS.out⟩⟩
        exact AllL.nil
      exact AllL.nil
    refine AllL.cons (i := 6) rfl (fun K hK => ?_) ?_
    · refine step_new (.cells #[.slice none 0 0, .slice none 0 0] 25) (fun g => .pointer (some ⟨g, 0, none⟩)) rfl (by kernel_rfl) ?_; intro b w6 z6 hc6 hb6; (try have HCL := Lib.hid (OwnR.below HCL.out hb6)); have HMK := Lib.hid (show Blk w6 b 25 [.slice none 0 0, .slice none 0 0] from hc6); have HMS := Lib.hid (Nat.le_trans (RD.out _ HT.out).2.1.size z6); have HMT := Lib.hid (Nat.le_trans HT.out.size z6); have HT := Lib.hid (HT.out.trans (hb6.mono HT.out.size)); clear hb6 hc6 z6
      (try go_wp2_with fail)
      refine hK.out _ _ ?_ (fun hHeld2 => ?_)
      · (try dsimp only); (first | with_reducible exact (RD.out _ HT.out).1 | with_reducible assumption)
      clear hK K
      clear hHeld; have hHeld := hHeld2; clear hHeld2
      (try simp only [Act.put, List.setIfInBounds_toArray, List.set_cons_zero, List.set_cons_succ])
      refine lReady (rs := [4]) (by kernel_rfl) (by simp) ?_
      refine AllL.cons (i := 4) rfl (fun K hK => ?_) ?_
      · go_simp; (refine (cloneA_c B N.arcs m cB _ HM.out (by omega) (RD.out _ HT.out).2.2.2).mono ?_; rintro e w5 ⟨Ac, cc, rfl, hb5, ho5⟩; (try have HMK := Lib.hid (Blk.below HMK.out hb5 (Blk.lt HMK.out))); have HCL := Lib.hid (show OwnR arcV 46 4 w.heap.size w5 Ac cc N.arcs from (by unfold OwnR; rw [← HM.out]; exact ownV_mono2 ho5 (RD.out _ HT.out).2.1.size)); have HT := Lib.hid (HT.out.trans (hb5.mono HT.out.size)); clear hb5 ho5)
        (try go_wp2_with fail)
        refine hK.out _ _ ?_ (fun hHeld2 => ?_)
        · (try dsimp only); (first | with_reducible exact (RD.out _ HT.out).1 | with_reducible assumption)
        clear hK K
        clear hHeld; have hHeld := hHeld2; clear hHeld2
        (try simp only [Act.put, List.setIfInBounds_toArray, List.set_cons_zero, List.set_cons_succ])
        refine lTake (i := 5) (v := ?_) rfl (by kernel_rfl) (by kernel_rfl) (by kernel_rfl) (fun _ _ _ h => h) (by rfl) (fun _ _ h => h) (fun _ _ h => h) ?_ (by assumption) (fun hHeld2 => ?_)
        rotate_left 1
        · (intro _ _ _ _ _; first | (go_simp; done) | (go_simp; with_reducible rfl))
        clear hHeld; have hHeld := hHeld2; clear hHeld2
        (try simp only [Act.put, List.setIfInBounds_toArray, List.set_cons_zero, List.set_cons_succ])
        refine lReady (rs := [7]) (by kernel_rfl) (by simp) ?_
        refine AllL.cons (i := 7) rfl (fun K hK => ?_) ?_
        · (have q0 := HMK.out.cell 0 rfl; have q1 := HMK.out.cell 1 rfl; have z0 := HMK.out.free 0; have z1 := HMK.out.free 1; have zl := HMK.out.lt; have HE1 := Lib.hid ((HMK.out.setCell 0 (.slice A n cA)).setCell 1 (.slice Ac m cc)); have HE2 := Lib.hid ((HCL.out.set_ne (p := ⟨b, 0, none⟩) (own_blk_no2 HMK.out HCL.out (by decide)) (.slice A n cA)).set_ne (p := ⟨b, 1, none⟩) (own_blk_no2 (HMK.out.setCell 0 (.slice A n cA)) (HCL.out.set_ne (p := ⟨b, 0, none⟩) (own_blk_no2 HMK.out HCL.out (by decide)) (.slice A n cA)) (by decide)) (.slice Ac m cc)); have HT := Lib.hid ((HT.out.setCell (p := ⟨b, 0, none⟩) HMT.out (.slice A n cA)).setCell (p := ⟨b, 1, none⟩) HMT.out (.slice Ac m cc)); go_simp)
          (try go_wp2_with fail)
          refine hK.out _ _ ?_ (fun hHeld2 => ?_)
          · (try dsimp only); (first | with_reducible exact (RD.out _ HT.out).1 | with_reducible assumption)
          clear hK K
          clear hHeld; have hHeld := hHeld2; clear hHeld2
          (try simp only [Act.put, List.setIfInBounds_toArray, List.set_cons_zero, List.set_cons_succ])
          refine lDone (by kernel_rfl) ?_ _
          go_wp2_with fail
          go_meet
          case rel => exact ⟨b, Ac, cc, rfl, Lib.hid ⟨HE1.out, HE2.out, (RD.out _ HT.out).2.1, HMS.out⟩⟩
        exact AllL.nil
      exact AllL.nil
    exact AllL.nil
  case rest =>
    clear HT RD B2 HB2
    obtain ⟨b, Ac, cc, rfl, HJ⟩ := hcut
    have j1 := HJ.out.1.cell 1 rfl
    have jl := HJ.out.1.lt
    have HJ0 : Hid (Blk wc b 25 [.slice A n cA, .slice Ac m cc] ∧ OwnR arcV 46 4 w.heap.size wc Ac cc (zcL N.arcs 0) ∧ Below w.heap.size w wc) := Lib.hid ⟨HJ.out.1, by rw [zcL_0]; exact HJ.out.2.1, HJ.out.2.2.1⟩
    have hbw := HJ.out.2.2.2
    clear HJ
    go_upto_region 6 with fail
    go_wp2_with fail
    clear j1 jl
    go_loopg [30] m (fun q iv wr => ∃ k : Nat, iv = .int .i64 k ∧ k + q = m ∧ Hid (Blk wr b 25 [.slice A n cA, .slice Ac m cc] ∧ OwnR arcV 46 4 w.heap.size wr Ac cc (zcL N.arcs k) ∧ Below w.heap.size w wr))
    case atStart => exact ⟨0, rfl, by omega, HJ0⟩
    case round =>
      clear HJ0
      obtain ⟨k, rfl, hkq, HJ⟩ := hrel
      have j0 := HJ.out.1.cell 0 rfl
      have j1 := HJ.out.1.cell 1 rfl
      have jl := HJ.out.1.lt
      by_cases hlt : k < m
      · have hki : (k : Int) < (m : Int) := by omega
        have kA : k < N.arcs.length := by rw [← HM.out]; exact hlt
        obtain ⟨g, rfl, hg1, hg2, _⟩ := HJ.out.2.1.form (by rw [zcL_len]; omega)
        have c3 := HJ.out.2.1.cell (s := 4) (f := arcV) (fun _ => rfl) k 3 _ (zcL_get kA) (by decide)
        have z3 := HJ.out.2.1.free (k * 4 + 3)
        have HE : Hid (Blk (wr.setCell ⟨g, k * 4 + 3, none⟩ (.int .i64 0)) b 25 [.slice A n cA, .slice (some ⟨g, 0, none⟩) m cc] ∧ OwnR arcV 46 4 w.heap.size (wr.setCell ⟨g, k * 4 + 3, none⟩ (.int .i64 0)) (some ⟨g, 0, none⟩) cc (zcL N.arcs (k + 1)) ∧ Below w.heap.size w (wr.setCell ⟨g, k * 4 + 3, none⟩ (.int .i64 0))) := Lib.hid ⟨HJ.out.1.setCell_ne (p := ⟨g, k * 4 + 3, none⟩) (fun e => own_blk_no2 HJ.out.1 HJ.out.2.1 (by decide) (ownB_some.2 e)) _, by
          have h := HJ.out.2.1.put (s := 4) (f := arcV) (fun _ => rfl) k 3 (noC (N.arcs.getD k default)) (N.arcs.getD k default) (.int .i64 0) (zcL_get kA) (by decide) rfl
          rw [zcL_set kA] at h
          exact h, HJ.out.2.2.setCell (p := ⟨g, k * 4 + 3, none⟩) hg1 _⟩
        generalize N.arcs.getD k default = ar at *
        obtain ⟨x1, x2, x3, x4⟩ := ar
        have c3 : wr.cell? ⟨g, k * 4 + 3, none⟩ = some (.int .i64 x4) := c3
        go_wp2_with fail
        go_roundg (gk - 1)
        case measure => omega
        case rel => exact ⟨k + 1, by go_num, by omega, HE⟩
      · obtain rfl : m = k := by omega
        have HZ : Hid (OwnR arcV 46 4 w.heap.size wr Ac cc (zcN N).arcs) := Lib.hid (by have h := HJ.out.2.1; rw [HM.out, zcL_all] at h; exact h)
        have HF := Lib.hid (fr_ch HCH.out)
        have HZL : Hid (m = (zcN N).arcs.length) := Lib.hid (by rw [fr_len]; exact HM.out)
        have HBW := Lib.hid HJ.out.2.2
        obtain ⟨ha, hc1, hc2⟩ := own_arcs2 (by have h := HZ.out; unfold OwnR at h; rw [← HZL.out] at h; exact h) HZL.out
        have HNZ : Hid (NetAt wr A Ac (zcN N)) := Lib.hid ⟨(HNA.out.below HBW.out (Nat.le_refl _)).1, ha⟩
        clear ha HJ HZ
        go_wp2_with fail
        refine (newGraph_c A Ac (zcN N) n m cA cc wr HN.out HZL.out HF.out hA ⟨hc1, hc2⟩ HNZ.out).mono ?_
        obtain ⟨BB, hBB⟩ : ∃ BB, BB = wr.heap.size := ⟨_, rfl⟩
        rw [← hBB]
        rintro e w3 ⟨b3, gl, cl, E, ce, bo, rfl, hb3, hg3⟩
        rw [hBB] at hb3
        clear j0 j1 jl HNZ
        have HB3 := Lib.hid (HBW.out.trans (hb3.mono HBW.out.size))
        have c2 := hg3.blk.cell 2 rfl
        have c2l := hg3.blk.lt
        have OK0 : Hid ((gr0 (zcN N)).Ok n) := Lib.hid (by have h := gr0_ok HF.out; rw [show (zcN N).sup.length = n from HN.out.symm] at h; exact h)
        rw [OK0.out.lo] at c2
        have FT0 := Lib.hid (gr0_fits (N := zcN N))
        have S3 : Hid (∀ k, k = gl ∨ OwnB E k → w.heap.size ≤ k) := Lib.hid (fun k hk => by
          rcases hk with h | h
          · have := hg3.base.2; have := HBW.out.size; omega
          · have := (ownLt hg3.es h).2; have := HBW.out.size; omega)
        have F0 := Lib.hid (fl_new 2 n w3)
        have al := (Below.refl w3.heap.size w3).alloc (Nat.le_refl _) (.cells (Array.replicate n (.int .i64 0)) 2)
        have G3 := Lib.hid (hg3.below al)
        have HB4 := Lib.hid (HB3.out.trans (al.mono HB3.out.size))
        have EB2 := Lib.hid (fun k (h : OwnB E k) => (ownLt hg3.es h).1)
        have hgl : gl < w3.heap.size := hg3.left.lt.2
        have hglp : gl ≠ w3.heap.size := by omega
        have hegp : ¬ OwnB E w3.heap.size := fun h => by have := EB2.out _ h; omega
        clear hb3 hg3 al
        go_wp2_with fail
        clear c2 c2l
        generalize w3.alloc (.cells (Array.replicate n (.int .i64 0)) 2) = w4 at F0 G3 HB4 ⊢
        generalize w3.heap.size = gp at *
        go_loopg [12] (restV (gr0 (zcN N)).left).toNat (fun q ev wr => Hid (∃ G2, G2.Ok n ∧ Fits (zcN N) G2 ∧ GrAt wr BB b3 gl cl E ce bo G2 ∧ Fl 2 wr gp (List.replicate n 0) ∧ (restV G2.left).toNat = q ∧ Touch (fun k => k = gl ∨ OwnB E k) w4 wr))
        case atStart => exact Lib.hid ⟨gr0 (zcN N), OK0.out, FT0.out, G3.out, F0.out, rfl, Touch.refl _ _⟩
        case round =>
          clear OK0 FT0 G3 F0
          obtain ⟨G2, q1, q2, q3, q4, q5, q6⟩ := hrel.out
          have OK := Lib.hid q1
          have FT := Lib.hid q2
          have GA := Lib.hid q3
          have FP := Lib.hid q4
          have HR := Lib.hid q5
          have TA := Lib.hid q6
          have PO := Lib.hid (zero_pot (n := n) q2)
          clear hrel q1 q2 q3 q4 q5 q6
          go_wp2_with fail
          refine (nearest_c b3 gl cl ce bo BB n n E (some ⟨gp, 0, none⟩) G2 (List.replicate n 0) _ OK.out PO.out GA.out FP.out.ints ⟨Nat.le_refl _, by omega⟩).mono ?_
          rintro e w5 ⟨gf, gb, fa, vi, en, rfl, hb5, hf5, hv5, z1, z2, nr⟩
          have G5 := Lib.hid (GA.out.below hb5)
          have T5 := Lib.hid (TA.out.below hb5)
          have P5 := Lib.hid (FP.out.below hb5)
          have F5 := Lib.hid hf5
          have V5 := Lib.hid hv5
          have NRR := Lib.hid nr
          have hpb : gb ≠ gl ∧ ¬ OwnB E gb := by
            have h1 := GA.out.left.lt.2
            refine ⟨by omega, fun h => ?_⟩
            have := (ownLt GA.out.es h).1
            omega
          clear hb5 hf5 hv5 nr
          by_cases hen : en < 0
          · have hem : en = -1 := by
              rcases NRR.out.fin with ⟨e, _⟩ | ⟨t, e, _⟩
              · exact e
              · omega
            subst hem
            have OKN : Hid (G2.Ok (zcN N).sup.length) := Lib.hid (by rw [show (zcN N).sup.length = n from HN.out.symm]; exact OK.out)
            have CUT : Hid (lkA N (cutL n (fun v => decide (fa.getD v 0 < never))) m = restV G2.left) := Lib.hid (by
              have h := NRR.out
              rw [show n = (zcN N).sup.length from HN.out] at h
              have h2 := end_cut HF.out OKN.out FT.out h
              rw [fr_len, fr_lkA _ (Nat.le_refl _), ← HM.out] at h2
              rw [HN.out]; exact h2)
            have RMX : Hid (∀ c, (∀ k, k < c.length → cutAt N.sup.length c k = true) → lkA N c N.arcs.length ≤ restV G2.left) := Lib.hid (fun c hc => by
              have h := rest_max (N := zcN N) (c := c) (by rw [fr_ch]; exact HCH.out) OKN.out FT.out hc
              rw [fr_len, fr_lkA _ (Nat.le_refl _)] at h
              exact h)
            have FLO : Hid (restV G2.left = 0 → ∃ fl, isFlow N fl = true) := Lib.hid (fun h => ⟨_, by have h2 := (end_flow HF.out OKN.out FT.out PO.out.rc h).1; rw [fr_flow] at h2; exact h2⟩)
            have RN := rest_nn G2.left
            have HB5 := Lib.hid (Below.touch HB4.out HB4.out.size T5.out S3.out)
            have RC := Lib.hid (fun W (h : GrAt W BB b3 gl cl E ce bo G2) => rest_c b3 gl cl ce bo BB n E G2 W OK.out h)
            go_wp2_with fail
            refine (RC.out _ G5.out).mono ?_
            rintro e w6 ⟨rfl, rfl⟩
            generalize restV G2.left = R at *
            by_cases hr : R = 0
            · have hr0 : (R == 0) = true := by simpa using hr
              have C1 := Lib.hid (FLO.out hr)
              clear hr
              go_wp2_with fail
              exact bodyPost_ret (v := .tuple #[.slice none 0 0, .int .i64 0, .int .i64 18]) (by simp [results, Try.results28, go_sem]) rfl ⟨⟨.inr (.inl ⟨HCH.out, rfl, C1.out⟩), MaxC.no (by decide)⟩, HB5.out⟩
            have hr0 : (R == 0) = false := by simpa using hr
            have hrp : 0 < R := by omega
            have L1 := Lib.hid NRR.out.l1
            obtain ⟨i3, h3i, h3z, h3s, h3b⟩ := info_parts info3
            have HO0 : Hid (w5.ownsRow w5.heap.size 3 1 (.slice none 0 0) 0 ((cutL 0 (fun v => decide (fa.getD v 0 < never))).map (.int .i64))) := Lib.hid (World.ownsRow_nil _ _ _ _)
            go_upto_region 17 with fail
            go_wp2_with fail
            go_loopw [13, 65] (fun sv iv wr => ∃ (k c : Nat) (Ax : Option Addr) (cx : Nat), k ≤ n ∧ c = (cutL k (fun v => decide (fa.getD v 0 < never))).length ∧ iv = .int .i64 k ∧ sv = .slice Ax c cx ∧ Hid (Below w5.heap.size w5 wr ∧ wr.ownsRow w5.heap.size 3 1 (.slice Ax c cx) c ((cutL k (fun v => decide (fa.getD v 0 < never))).map (.int .i64)))) (fun _ iv _ => n - (intOf iv).toNat)
            case atStart => exact ⟨0, 0, none, 0, Nat.zero_le _, rfl, rfl, rfl, Lib.hid ⟨Below.refl _ _, HO0.out⟩⟩
            case round =>
              clear HO0
              obtain ⟨k, c, Ax, cx, hk, hc, rfl, rfl, HW⟩ := hrel
              have hck := cutP_len (fun v => decide (fa.getD v 0 < never)) k
              rw [← hc] at hck
              have hcx : c ≤ cx ∧ cx ≤ 9223372036854775807 := own_cap2 HW.out.2
              by_cases hlt : k < n
              · have hki : (k : Int) < (n : Int) := by omega
                have f5 := (F5.out.below HW.out.1).cell k (by rw [L1.out]; exact hlt)
                have f5l := (F5.out.below HW.out.1).lt
                have CY := Lib.hid (fun h => cutP_yes (C := fun v => decide (fa.getD v 0 < never)) (k := k) h)
                have CN := Lib.hid (fun h => cutP_no (C := fun v => decide (fa.getD v 0 < never)) (k := k) h)
                have htop := NRR.out.top k hlt
                have HC := Lib.hid hc
                clear hc
                have hun : never = 1152921504606846976 := rfl
                rw [hun] at htop
                by_cases hfk : fa.getD k 0 < never
                · have CY2 := Lib.hid (CY.out (decide_eq_true hfk))
                  rw [hun] at hfk
                  clear CN CY
                  generalize fa.getD k 0 = fk at *
                  have d1 : decide (fk < 1152921504606846976) = true := decide_eq_true hfk
                  have hb := (Below.refl wr.heap.size wr).alloc (Nat.le_refl _) (.cells #[.int .i64 k] 3)
                  have HO := Lib.hid (ownBelow HW.out.2 hb)
                  have HBA := Lib.hid (HW.out.1.trans (hb.mono HW.out.1.size))
                  have X := Lib.hid (Blk.new' wr #[.int .i64 k] 3)
                  clear hb
                  go_wp2_with (at_builtin; refine wpList_append_any (.tmp 72) (.tmp 74) 26 rfl rfl w5.heap.size 3 i3 (.int .i64 0) 1 8 Try.underlying26 h3i h3z h3s h3b rfl (by decide) Ax c cx _ (by rfl) HO.out (some ⟨wr.heap.size, 0, none⟩) 1 1 [.int .i64 k] (by rfl) (by rfl) (.inr ⟨_, rfl, fun j u hj => by rcases j with _ | j <;> simp at hj; subst hj; exact X.out.cell 0 rfl⟩) (by simp [Value.oneCell']) (by unfold maxLen; omega) (by omega) (HBA.out.size) ?_; intro A3 c3 w7 hown hgrow hat; have HE : Hid (Below w5.heap.size w5 w7 ∧ w7.ownsRow w5.heap.size 3 1 (.slice A3 (c + 1) c3) (c + 1) ((cutL (k + 1) (fun v => decide (fa.getD v 0 < never))).map (.int .i64))) := Lib.hid ⟨HBA.out.grown hgrow HBA.out.size (fun j e => (World.ownsRow.lt HO.out j e).1), by rw [CY2.out, List.map_append]; exact hown⟩; clear hown hgrow hat)
                  exact ⟨⟨k + 1, c + 1, A3, c3, by omega, by rw [CY2.out, List.length_append, ← HC.out]; rfl, by go_num, rfl, HE⟩, by simp [intOf]; omega⟩
                · have CN2 := Lib.hid (CN.out (decide_eq_false hfk))
                  rw [hun] at hfk
                  clear CY CN
                  generalize fa.getD k 0 = fk at *
                  have d1 : decide (fk < 1152921504606846976) = false := decide_eq_false hfk
                  have HE : Hid (Below w5.heap.size w5 wr ∧ wr.ownsRow w5.heap.size 3 1 (.slice Ax c cx) c ((cutL (k + 1) (fun v => decide (fa.getD v 0 < never))).map (.int .i64))) := Lib.hid (by rw [CN2.out]; exact HW.out)
                  go_wp2_with fail
                  exact ⟨⟨k + 1, c, Ax, cx, by omega, by rw [CN2.out]; exact HC.out, by go_num, rfl, HE⟩, by simp [intOf]; omega⟩
              · obtain rfl : n = k := by omega
                have G6 := Lib.hid (G5.out.below HW.out.1)
                have HB6 := Lib.hid (HB5.out.trans (HW.out.1.mono HB5.out.size))
                have HO6 := Lib.hid (ownV_mono2 HW.out.2 HB5.out.size)
                have HC := Lib.hid hc
                clear hc HW
                go_wp2_with fail
                refine (RC.out _ G6.out).mono ?_
                rintro e w6 ⟨rfl, rfl⟩
                have CK := Lib.hid (cutL_ok (n := N.sup.length) (C := fun v => decide (fa.getD v 0 < never)))
                rw [← HN.out] at CK
                have CK3 : Hid (∀ k, k < (cutL n (fun v => decide (fa.getD v 0 < never))).length → cutAt N.sup.length (cutL n (fun v => decide (fa.getD v 0 < never))) k = true) := Lib.hid (by rw [← HN.out]; exact CK.out)
                have hc0 : c ≠ 0 := fun h => by
                  have h1 := HC.out
                  rw [h] at h1
                  have h2 := CUT.out
                  rw [List.length_eq_zero_iff.1 h1.symm, lkA_nil] at h2
                  omega
                obtain ⟨g, cap, hv, hgb, hlt2⟩ := HO6.out.form (by omega)
                cases hv
                go_wp2_with fail
                exact bodyPost_ret (v := .tuple #[.slice (some ⟨g, 0, none⟩) c cx, .int .i64 R, .int .i64 0]) (by simp [results, Try.results28, go_sem]) rfl ⟨⟨.inr (.inr ⟨HCH.out, g, cx, cutL n (fun v => decide (fa.getD v 0 < never)), by rw [← HC.out, ← HM.out, CUT.out], by rw [← HC.out]; exact HO6.out, by rw [← HC.out]; omega, CK3.out, by rw [← HM.out, CUT.out]; exact hrp, cut_none (c := cutL n (fun v => decide (fa.getD v 0 < never))) HCH.out CK3.out (by rw [← HM.out, CUT.out]; exact hrp)⟩), MaxC.yes RMX.out⟩, HB6.out⟩
          · obtain ⟨t, rfl⟩ : ∃ t : Nat, en = t := ⟨en.toNat, by omega⟩
            have TF : Hid (t < n ∧ G2.lf t < 0 ∧ fa.getD t 0 < never) := Lib.hid (by
              rcases NRR.out.fin with ⟨e, _⟩ | ⟨t', e, h1, h2, h3, h4⟩
              · omega
              · obtain rfl : t' = t := by omega
                exact ⟨h1, h2, h3⟩)
            have htn : t < n := TF.out.1
            have hti : (t : Int) < (n : Int) := by omega
            have d0 : decide ((0 : Int) ≤ (t : Int)) = true := decide_eq_true (by omega)
            obtain ⟨S, s1, s2, s3, s4⟩ := NRR.out.ch
            obtain ⟨ks, s, y1, y2, y3, y4, y5⟩ := chn_way s1 s4 t ((s2 t htn).2 TF.out.2.2)
            have hsn : s < n := s3 s (y5 s (y1.last))
            have SE := Lib.hid (send_c b3 gl cl ce bo BB n n s t E (some ⟨gb, 0, none⟩) G2 vi ks w5 OK.out y1 y4 hsn htn y2 TF.out.2.1 (fun j hj => (y3 j hj).1) NRR.out.l2 ⟨Nat.le_refl _, by omega⟩ G5.out V5.out.ints (fun q hq => by rw [ownB_some.1 hq]; exact hpb))
            clear s1 s2 s3 s4 y1 y2 y3 y4 y5
            go_wp2_with fail
            refine SE.out.mono ?_
            rintro e w6 ⟨rfl, x, hse, hga, hto⟩
            have SX := Lib.hid hse
            have G6 := Lib.hid hga
            have T6 := Lib.hid (T5.out.trans hto)
            have P6 := Lib.hid (P5.out.touch hto (fun h => by
              rcases h with h | h
              · exact hglp h.symm
              · exact hegp h))
            have ok := hse.ok OK.out
            have F6 := Lib.hid (FT.out.pushL OK.out.fine (ks := ks) (x := x) (fun j hj => (ok.1 j hj).1))
            have M6 := Lib.hid (rest_push hse OK.out)
            have MN := Lib.hid (rest_nn (G2.pushL ks x).left)
            have OK6 := Lib.hid ok.2.2
            clear hse hga hto ok SE
            go_wp2_with fail
            go_roundg (restV (G2.pushL ks x).left).toNat
            case measure => have h1 := M6.out; have h2 := MN.out; have h3 := SX.out.x0; have h4 := HR.out; omega
            case rel => exact Lib.hid ⟨_, OK6.out, F6.out, G6.out, P6.out, rfl, T6.out⟩
end Go.Proofs.Ytmebpglkeedaoaa
namespace Go.Proofs.Ytmebpglkeedaoaa
open Go.RowKit Dp
theorem mv_nat (l : List Int) (a : Nat) (d v : Int) (h : v = l.getD a 0 + d) : mv l (a : Int) d = l.set a v := by subst h; simp [mv]
theorem ret2 {a b c d : Int} (h1 : a = b) (h2 : c = d) : Ending.returned (.tuple #[.int .i64 a, .int .i64 c]) = .returned (.tuple #[.int .i64 b, .int .i64 d]) := by rw [h1, h2]
def CoJ (w : World) (A B : Option Addr) (n cA m cB g c : Nat) (l : List Int) (W : World) : Prop := Below w.heap.size w W ∧ Blk W w.heap.size 25 [.slice A n cA, .slice B m cB] ∧ OwnI w.heap.size W g c l
theorem CoJ.put {w : World} {A B : Option Addr} {n cA m cB g c : Nat} {l : List Int} {W : World} (h : CoJ w A B n cA m cB g c l W) (hg : w.heap.size < g) (j : Nat) (v : Int) : CoJ w A B n cA m cB g c (l.set j v) (W.setCell ⟨g, j, none⟩ (.int .i64 v)) :=
  ⟨h.1.setCell (by simp; omega) _, h.2.1.setCell_ne (by simp; omega) _, h.2.2.put j v⟩
theorem CoJ.alloc {w : World} {A B : Option Addr} {n cA m cB g c : Nat} {l : List Int} {W : World} (h : CoJ w A B n cA m cB g c l W) (o : Obj) : CoJ w A B n cA m cB g c l (W.alloc o) :=
  ⟨h.1.alloc h.1.size _, h.2.1.alloc _, h.2.2.below ((Below.refl _ _).alloc (Nat.le_refl _) _)⟩
set_option maxHeartbeats 2000000 in
set_option maxRecDepth 100000 in
theorem Cost_c (A B C : Option Addr) (N : Net) (fl : List Int) (n m p cA cB cC : Nat) (w : World) (hn : n = N.sup.length) (hm : m = N.arcs.length) (hp : p = fl.length) (hA : n ≤ cA ∧ cA ≤ 9223372036854775807) (hB : m ≤ cB ∧ cB ≤ 9223372036854775807) (hC : p ≤ cC ∧ cC ≤ 9223372036854775807) (hN : NetAt w A B N) (hF : IntsAt w C fl) :
    Calls Try.prog 14 #[.agg #[.slice A n cA, .slice B m cB], .slice C p cC] w fun e w' => e = .returned (.tuple #[.int .i64 (coV N fl), .int .i64 (coE N fl)]) ∧ Below w.heap.size w w' := by
  have HN := Lib.hid hn
  have HM := Lib.hid hm
  have HP := Lib.hid hp
  have HNA := Lib.hid hN
  have HFA := Lib.hid hF
  clear hn hm hp hN hF
  have B1 := Lib.hid (Blk.new' w #[.slice A n cA, .slice B m cB] 25)
  have HB1 := Lib.hid ((Below.refl w.heap.size w).alloc (Nat.le_refl _) (.cells #[.slice A n cA, .slice B m cB] 25))
  go_enter Try.func14, Try.ntmps14
  go_wp2_with fail
  generalize w.alloc (.cells #[.slice A n cA, .slice B m cB] 25) = w1 at B1 HB1 ⊢
  refine (Check_c A B N n m cA cB w1 HN.out HM.out hA hB (HNA.out.below HB1.out (Nat.le_refl _))).mono ?_
  rintro e w2 ⟨rfl, hb2⟩
  have B2 := Lib.hid (B1.out.below hb2 B1.out.lt)
  have HB2 := Lib.hid (HB1.out.trans (hb2.mono HB1.out.size))
  clear hb2 B1 HB1
  have cA0 := B2.out.cell 0 rfl
  have cB0 := B2.out.cell 1 rfl
  by_cases hch : chE N = 0
  · have hce := net_len hch
    rw [hch]
    by_cases hpm : p = m
    · have hmm : (p : Int) = (m : Int) := by omega
      have n1 : 1 ≤ n := by rw [HN.out]; exact hce.1
      have n2 : n ≤ 1024 := by rw [HN.out]; exact hce.2.1
      have m2 : m ≤ 2048 := by rw [HM.out]; exact hce.2.2
      have HCH := Lib.hid hch
      clear hch hce
      go_wp2_with fail
      trace "clone"
      refine (clone_c A N.sup n cA w2 HN.out n1 (by omega) (HNA.out.1.below HB2.out (Nat.le_refl _))).mono ?_
      rintro e w3 ⟨g, c, rfl, hb3, z1, z2, ho3⟩
      have B3 := Lib.hid (B2.out.below hb3 B2.out.lt)
      have HB3 := Lib.hid (HB2.out.trans (hb3.mono HB2.out.size))
      have zg : w.heap.size < g := Nat.lt_of_lt_of_le B2.out.lt z1
      have HO3 : Hid (OwnI w.heap.size w3 g c N.sup) := Lib.hid (ho3.mono HB2.out.size)
      clear hb3 ho3 B2 HB2 cA0 cB0 z1
      have cA0 := B3.out.cell 0 rfl
      have cB0 := B3.out.cell 1 rfl
      go_wp2_with fail
      have J3 := Lib.hid (show CoJ w A B n cA m cB g c N.sup w3 from ⟨HB3.out, B3.out, HO3.out⟩)
      clear B3 HB3 HO3 cA0 cB0
      go_loopw [8, 31] (fun v i wr => ∃ k : Nat, k ≤ m ∧ i = .int .i64 k ∧ v = .int .i64 (costK N fl k) ∧ Hid (CoJ w A B n cA m cB g c (leftK N fl k) wr ∧ ∀ x, x < k → 0 ≤ fl.getD x 0 ∧ fl.getD x 0 ≤ (N.arcs.getD x default).cap)) (fun _ i _ => m - (intOf i).toNat)
      case atStart => exact ⟨0, Nat.zero_le _, rfl, rfl, Lib.hid ⟨J3.out, fun x hx => absurd hx (Nat.not_lt_zero _)⟩⟩
      case round =>
        obtain ⟨k, hk, rfl, rfl, HJ⟩ := hrel
        have bc := costK_bd HCH.out k (by rw [← HM.out]; exact hk) HJ.out.2
        have BL := Lib.hid (leftK_bd HCH.out k (by rw [← HM.out]; exact hk) HJ.out.2)
        have cA0 := HJ.out.1.2.1.cell 0 rfl
        have cB0 := HJ.out.1.2.1.cell 1 rfl
        by_cases hlt : k < m
        · obtain ⟨ad, rfl, hbl, d0, d1, d2, d3⟩ := (HNA.out.2.below HJ.out.1.1 (Nat.le_refl _)) k (by rw [← HM.out]; exact hlt)
          obtain ⟨af, rfl, hbf, hf0⟩ := HFA.out k (by rw [← HP.out, hpm]; exact hlt)
          have HFC := Lib.hid (fun (W : World) (h : Below w.heap.size w W) => (h.cell (p := af.add k) (by rw [block_add]; exact hbf)).trans hf0)
          clear hf0 hbf
          obtain ⟨a1, a2, a3, a4, a5⟩ := net_arc HCH.out k (by rw [← HM.out]; exact hlt)
          rw [← HN.out] at a1 a2
          have HL1 := Lib.hid (show leftK N fl (k + 1) = mv (mv (leftK N fl k) (N.arcs.getD k default).fr (-(fl.getD k 0))) (N.arcs.getD k default).to (fl.getD k 0) from rfl)
          have HK1 := Lib.hid (show costK N fl (k + 1) = costK N fl k + fl.getD k 0 * (N.arcs.getD k default).cost from rfl)
          have HCAP := Lib.hid (fun h => isFlow_cap (N := N) (fl := fl) k (by rw [← HM.out]; exact hlt) h)
          have HLL := Lib.hid (leftK_length N fl k)
          generalize har : N.arcs.getD k default = ar at *
          obtain ⟨fr, «to», ca, co⟩ := ar
          have HAR := Lib.hid (show (N.arcs.getD k default).cap = ca from by rw [har])
          clear har
          simp only at d0 d1 d2 d3 a1 a2 a3 a4 a5 HCAP HL1 HK1
          obtain ⟨a, rfl⟩ : ∃ a : Nat, fr = a := ⟨fr.toNat, by omega⟩
          obtain ⟨b, rfl⟩ : ∃ b : Nat, «to» = b := ⟨«to».toNat, by omega⟩
          generalize hfk : fl.getD k 0 = f at *
          have HFK := Lib.hid hfk
          clear hfk
          have HJ2 := Lib.hid HJ.out.2
          have J0 := Lib.hid HJ.out.1
          clear HJ
          generalize leftK N fl k = l at *
          generalize hS : costK N fl k = S at *
          clear hS
          have gne : wr.heap.size ≠ g := by have := J0.out.2.2.lt; omega
          go_upto_region 10 with fail
          have J4 := Lib.hid (J0.out.alloc (.cells #[.int .i64 a, .int .i64 b, .int .i64 ca, .int .i64 co] 46))
          have BX := Lib.hid (Blk.new' wr #[.int .i64 a, .int .i64 b, .int .i64 ca, .int .i64 co] 46)
          generalize wr.alloc (.cells #[.int .i64 a, .int .i64 b, .int .i64 ca, .int .i64 co] 46) = wx at J4 BX ⊢
          generalize wr.heap.size = ga at *
          have e0 := BX.out.cell 0 rfl
          have e1 := BX.out.cell 1 rfl
          have e2 := BX.out.cell 2 rfl
          have e3 := BX.out.cell 3 rfl
          have fc := HFC.out _ J4.out.1
          clear d0 d1 d2 d3 cA0 cB0
          have hlen : fl.length = N.arcs.length := by rw [← HP.out, ← HM.out]; exact hpm
          have HLEN := Lib.hid hlen
          clear hlen
          by_cases f1 : f < 0
          · have E := Lib.hid (co_no HCH.out HLEN.out (HCAP.out (by omega)))
            go_wp2
            go_ret2
            exact ⟨ret2 E.out.2.symm E.out.1.symm, J4.out.1⟩
          by_cases f2 : ca < f
          · have E := Lib.hid (co_no HCH.out HLEN.out (HCAP.out (by omega)))
            go_wp2
            go_ret2
            exact ⟨ret2 E.out.2.symm E.out.1.symm, J4.out.1⟩
          have la0 := J4.out.2.2.cell a (by rw [HLL.out, ← HN.out]; omega)
          have fr0 := J4.out.2.2.free a
          have lb0 := BL.out a (by rw [← HN.out]; omega)
          have M1 := Lib.hid (mv_nat l a (-f) (l.getD a 0 - f) (by omega))
          have M1B := Lib.hid (mv_bd (l := l) (i := (a : Int)) (d := -f) (B := 268435456 + 2097152 * k) (D := 1048576) (by omega) (by rw [HLL.out, ← HN.out]; omega) (fun j hj => BL.out j (by rw [← HLL.out]; exact hj)))
          have M1L := Lib.hid (mv_length l (a : Int) (-f))
          generalize l.getD a 0 = la at *
          go_upto_region 14 with fail
          refine gen_world (fun W => CoJ w A (some ad) n cA m cB g c (mv l a (-f)) W ∧ Blk W ga 46 [.int .i64 a, .int .i64 b, .int .i64 ca, .int .i64 co]) ⟨by rw [M1.out]; exact J4.out.put zg a _, BX.out.setCell_ne gne _⟩ ?_
          rintro w5 ⟨j5, bx5⟩
          have J5 := Lib.hid j5
          have BX5 := Lib.hid bx5
          clear j5 bx5 e0 e1 e2 e3 fc la0 fr0 lb0 J4 BX
          generalize mv l (a : Int) (-f) = l5 at *
          have e0 := BX5.out.cell 0 rfl
          have e1 := BX5.out.cell 1 rfl
          have e2 := BX5.out.cell 2 rfl
          have e3 := BX5.out.cell 3 rfl
          have la0 := J5.out.2.2.cell b (by rw [M1L.out, HLL.out, ← HN.out]; omega)
          have fr0 := J5.out.2.2.free b
          have lb0 := M1B.out b (by rw [M1L.out, HLL.out, ← HN.out]; omega)
          have M2 := Lib.hid (mv_nat l5 b f (l5.getD b 0 + f) (by omega))
          generalize l5.getD b 0 = lb at *
          go_upto_region 15 with fail
          refine gen_world (fun W => CoJ w A (some ad) n cA m cB g c (mv l5 b f) W ∧ Blk W ga 46 [.int .i64 a, .int .i64 b, .int .i64 ca, .int .i64 co]) ⟨by rw [M2.out]; exact J5.out.put zg b _, BX5.out.setCell_ne gne _⟩ ?_
          rintro w6 ⟨j6, bx6⟩
          have J6 := Lib.hid j6
          have BX6 := Lib.hid bx6
          clear j6 bx6 e0 e1 e2 e3 la0 fr0 lb0 J5 BX5
          have e0 := BX6.out.cell 0 rfl
          have e3 := BX6.out.cell 3 rfl
          have p1 : f * co ≤ 1099511627776 ∧ -1099511627776 ≤ f * co := by
            have q1 := Int.mul_le_mul_of_nonneg_left a5.2 (show (0:Int) ≤ f by omega)
            have q2 := Int.mul_le_mul_of_nonneg_left a5.1 (show (0:Int) ≤ f by omega)
            omega
          go_wp2
          go_roundw
          case rel =>
            refine ⟨k + 1, by omega, by go_num, by rw [HK1.out], Lib.hid ⟨?_, fun x hx => ?_⟩⟩
            · rw [HL1.out]; exact J6.out
            · by_cases hjk : x < k
              · exact HJ2.out x hjk
              · obtain rfl : x = k := by omega
                rw [HFK.out, HAR.out]; omega
          case measure => simp [intOf]; omega
        · obtain rfl : k = m := by omega
          have hlen : fl.length = N.arcs.length := by rw [← HP.out, ← HM.out]; exact hpm
          have HLEN := Lib.hid hlen
          clear hlen
          have J7 := Lib.hid HJ.out.1
          have HLL := Lib.hid (leftK_length N fl k)
          have EL := Lib.hid (fun j hj h => co_no HCH.out HLEN.out (isFlow_left (N := N) (fl := fl) j hj (by rw [← HM.out]; exact h)))
          have EY := Lib.hid (fun h2 => co_yes HCH.out HLEN.out (isFlow_yes HLEN.out (fun x hx => HJ.out.2 x (by rw [HM.out]; exact hx)) (by rw [← HM.out]; exact h2)))
          have EC := Lib.hid (show costK N fl k = costK N fl N.arcs.length from by rw [HM.out])
          clear HJ
          generalize leftK N fl k = l at *
          generalize costK N fl k = S at *
          go_wp2_with fail
          go_loop [73] (fun i => ∃ j : Nat, j ≤ n ∧ i = .int .i64 j ∧ Hid (∀ x, x < j → l.getD x 0 = 0)) (fun i => n - (intOf i).toNat)
          case atStart => exact ⟨0, Nat.zero_le _, rfl, Lib.hid (fun x hx => absurd hx (Nat.not_lt_zero _))⟩
          case round =>
            obtain ⟨j, hj, rfl, HZ⟩ := hrel
            by_cases hlt2 : j < n
            · have hc0 := J7.out.2.2.cell j (by rw [HLL.out, ← HN.out]; exact hlt2)
              have EJ := Lib.hid (EL.out j (by rw [← HN.out]; exact hlt2))
              generalize hx : l.getD j 0 = x at *
              have HX := Lib.hid hx
              clear hx
              by_cases x0 : x = 0
              · subst x0
                go_wp2
                go_round
                case rel =>
                  refine ⟨j + 1, by omega, by go_num, Lib.hid (fun y hy => ?_)⟩
                  by_cases hjk : y < j
                  · exact HZ.out y hjk
                  · obtain rfl : y = j := by omega
                    exact HX.out
                case measure => simp [intOf]; omega
              · have E := Lib.hid (EJ.out x0)
                have hx0 : (x == 0) = false := by simpa using x0
                clear x0
                go_wp2
                go_ret2
                exact ⟨ret2 E.out.2.symm E.out.1.symm, J7.out.1⟩
            · have E := Lib.hid (EY.out (fun x hx => HZ.out x (by rw [← HN.out] at hx; omega)))
              go_wp2
              go_ret2
              exact ⟨ret2 (by rw [E.out.2, EC.out]) E.out.1.symm, J7.out.1⟩
    · have E := Lib.hid (co_len (fl := fl) hch (by rw [← HP.out, ← HM.out]; exact hpm))
      have hmm : ¬ (p : Int) = (m : Int) := by omega
      have hmm' : ((p : Int) == (m : Int)) = false := by simpa using hmm
      go_wp2
      go_ret2
      exact ⟨ret2 E.out.2.symm E.out.1.symm, HB2.out⟩
  · have E := Lib.hid (co_ch (fl := fl) hch)
    have hne : (chE N == 0) = false := by simpa using hch
    generalize chE N = q at *
    go_wp2
    go_ret2
    exact ⟨ret2 E.out.2.symm E.out.1.symm, HB2.out⟩
end Go.Proofs.Ytmebpglkeedaoaa
namespace Go.Proofs.Ytmebpglkeedaoaa
open Go.RowKit Dp
set_option maxHeartbeats 2000000 in
set_option maxRecDepth 100000 in
theorem costR_c (A B C : Option Addr) (N : Net) (fl : List Int) (n m p cA cB cC : Nat) (w : World) (hm : m = N.arcs.length) (hp : p = fl.length) (hpm : p = m) (hch : chE N = 0) (hB : m ≤ cB ∧ cB ≤ 9223372036854775807) (hC : p ≤ cC ∧ cC ≤ 9223372036854775807) (hN : NetAt w A B N) (hF : IntsAt w C fl) (hcap : ∀ x, x < p → 0 ≤ fl.getD x 0 ∧ fl.getD x 0 ≤ (N.arcs.getD x default).cap) :
    Calls Try.prog 59 #[.agg #[.slice A n cA, .slice B m cB], .slice C p cC] w fun e w' => e = .returned (.int .i64 (costK N fl m)) ∧ Below w.heap.size w w' := by
  have HCH := Lib.hid hch
  have m2 : m ≤ 2048 := by rw [hm]; exact (net_len hch).2.2
  have HM := Lib.hid hm
  have HP := Lib.hid hp
  have HNA := Lib.hid hN
  have HFA := Lib.hid hF
  have HCAP := Lib.hid hcap
  subst hpm
  clear hm hp hN hF hcap hch
  have B1 := Lib.hid (Blk.new' w #[.slice A n cA, .slice B p cB] 25)
  have HB1 := Lib.hid ((Below.refl w.heap.size w).alloc (Nat.le_refl _) (.cells #[.slice A n cA, .slice B p cB] 25))
  go_enter Try.func59, Try.ntmps59
  go_wp2_with fail
  generalize w.alloc (.cells #[.slice A n cA, .slice B p cB] 25) = w1 at B1 HB1 ⊢
  go_loopw [5, 6] (fun v i wr => ∃ k : Nat, k ≤ p ∧ i = .int .i64 k ∧ v = .int .i64 (costK N fl k) ∧ Hid (Below w1.heap.size w1 wr)) (fun _ i _ => p - (intOf i).toNat)
  case atStart => exact ⟨0, Nat.zero_le _, rfl, rfl, Lib.hid (Below.refl _ _)⟩
  case round =>
    obtain ⟨k, hk, rfl, rfl, HB⟩ := hrel
    have HBR := Lib.hid (HB1.out.trans (HB.out.mono HB1.out.size))
    by_cases hlt : k < p
    · have bc := costK_bd HCH.out k (by rw [← HM.out]; exact hk) (fun x hx => HCAP.out x (by omega))
      have cA0 := (HB.out.cell (p := ⟨w.heap.size, 0, none⟩) B1.out.lt).trans (B1.out.cell 0 rfl)
      have cB0 := (HB.out.cell (p := ⟨w.heap.size, 1, none⟩) B1.out.lt).trans (B1.out.cell 1 rfl)
      have bA1 : w.heap.size < wr.heap.size := Nat.lt_of_lt_of_le B1.out.lt HB.out.size
      obtain ⟨ad, rfl, hbl, d0, d1, d2, d3⟩ := (HNA.out.2.below HBR.out (Nat.le_refl _)) k (by rw [← HM.out]; exact hlt)
      obtain ⟨af, rfl, hbf, hf0⟩ := (HFA.out.below HBR.out (Nat.le_refl _)) k (by rw [← HP.out]; exact hlt)
      obtain ⟨a1, a2, a3, a4, a5⟩ := net_arc HCH.out k (by rw [← HM.out]; exact hlt)
      have hbl' : (ad.add (k * 4)).block < wr.heap.size := by rw [block_add]; exact hbl
      have hbf' : (af.add k).block < wr.heap.size := by rw [block_add]; exact hbf
      have HK1 := Lib.hid (show costK N fl (k + 1) = costK N fl k + fl.getD k 0 * (N.arcs.getD k default).cost from rfl)
      have hfk := HCAP.out k hlt
      have p1 : fl.getD k 0 * (N.arcs.getD k default).cost ≤ 1099511627776 ∧ -1099511627776 ≤ fl.getD k 0 * (N.arcs.getD k default).cost := by
        have q1 := Int.mul_le_mul_of_nonneg_left a5.2 hfk.1
        have q2 := Int.mul_le_mul_of_nonneg_left a5.1 hfk.1
        omega
      generalize N.arcs.getD k default = ar at *
      obtain ⟨fr, «to», ca, co⟩ := ar
      simp only at d0 d1 d2 d3 a1 a2 a3 a4 a5 HK1 p1 hfk
      generalize fl.getD k 0 = f at *
      generalize costK N fl k = S at *
      clear a1 a2 a3 d0 d1 d2
      have k0 : (0 : Int) ≤ (k : Int) := by omega
      have kx : (k : Int) < (p : Int) := by omega
      go_wp2_with fail
      refine wp_region_past (by kernel_rfl) (by kernel_rfl) ?_
      repeat (go_big_quiet_step (fail))
      refine wpQuiet_nil ?_
      intro xx
      have HXX := Lib.hid xx.far
      generalize xx.w = w4 at HXX ⊢
      go_wp2
      go_roundw
      case rel => exact ⟨k + 1, by omega, by go_num, by rw [HK1.out], Lib.hid (HB.out.trans (HXX.out.mono HB.out.size))⟩
      case measure => simp [intOf]; omega
    · obtain rfl : k = p := by omega
      go_wp2
      go_ret
      exact ⟨rfl, HBR.out⟩
end Go.Proofs.Ytmebpglkeedaoaa
namespace Go.Proofs.Ytmebpglkeedaoaa
open Go.RowKit Dp
theorem CoJ.below {w : World} {A B : Option Addr} {n cA m cB g c : Nat} {l : List Int} {W W' : World} (h : CoJ w A B n cA m cB g c l W) (hb : Below W.heap.size W W') : CoJ w A B n cA m cB g c l W' :=
  ⟨h.1.trans (hb.mono h.1.size), h.2.1.below hb h.2.1.lt, h.2.2.below hb⟩
set_option maxHeartbeats 4000000 in
set_option maxRecDepth 100000 in
theorem IsFlow_c (A B C : Option Addr) (N : Net) (fl : List Int) (n m p cA cB cC : Nat) (w : World) (hn : n = N.sup.length) (hm : m = N.arcs.length) (hp : p = fl.length) (hch : chE N = 0) (hA : n ≤ cA ∧ cA ≤ 9223372036854775807) (hB : m ≤ cB ∧ cB ≤ 9223372036854775807) (hC : p ≤ cC ∧ cC ≤ 9223372036854775807) (hN : NetAt w A B N) (hF : IntsAt w C fl) :
    Calls Try.prog 58 #[.agg #[.slice A n cA, .slice B m cB], .slice C p cC] w fun e w' => e = .returned (.bool (isFlow N fl)) ∧ Below w.heap.size w w' := by
  have HCH := Lib.hid hch
  have hce := net_len hch
  have n1 : 1 ≤ n := by rw [hn]; exact hce.1
  have n2 : n ≤ 1024 := by rw [hn]; exact hce.2.1
  have m2 : m ≤ 2048 := by rw [hm]; exact hce.2.2
  have HN := Lib.hid hn
  have HM := Lib.hid hm
  have HP := Lib.hid hp
  have HNA := Lib.hid hN
  have HFA := Lib.hid hF
  clear hn hm hp hN hF hch hce
  have B1 := Lib.hid (Blk.new' w #[.slice A n cA, .slice B m cB] 25)
  have HB1 := Lib.hid ((Below.refl w.heap.size w).alloc (Nat.le_refl _) (.cells #[.slice A n cA, .slice B m cB] 25))
  by_cases hpm : p = m
  · obtain ⟨i0, hi, hz0, hz1, hz2⟩ := info_parts info2
    have hmm : (p : Int) = (m : Int) := by omega
    obtain ⟨aS, rfl, hbS, _⟩ := HNA.out.1 0 (by rw [← HN.out]; omega)
    have HS : Hid (SrcRow ((w.alloc (.cells #[.slice (some aS) n cA, .slice B m cB] 25)).alloc (.cells #[] 2)) (some aS) n (N.sup.map (Value.int .i64))) := Lib.hid (.inr ⟨aS, rfl, fun j u hu => by
      have hj : j < N.sup.length := by
        rcases Nat.lt_or_ge j N.sup.length with h | h
        · exact h
        · rw [List.getElem?_eq_none (by simpa using h)] at hu; cases hu
      obtain ⟨ad', e, hb, hc⟩ := HNA.out.1 j hj
      cases e
      have hu' : u = .int .i64 (N.sup.getD j 0) := by
        rw [List.getElem?_map, List.getElem?_eq_getElem hj] at hu
        simp only [Option.map_some, Option.some.injEq] at hu
        rw [← hu, List.getD_eq_getElem?_getD, List.getElem?_eq_getElem hj]; rfl
      rw [hu']
      exact ((((Below.refl w.heap.size w).alloc (Nat.le_refl _) _).alloc (by simp) (.cells #[] 2)).cell (by rw [block_add]; exact hb)).trans hc⟩)
    go_enter Try.func58, Try.ntmps58
    go_wp2_with (at_builtin; refine wpList_append_any (.tmp 15) (.tmp 17) 22 rfl rfl (w.heap.size + 1) 2 i0 (.int .i64 0) 1 8 Try.underlying22 hi hz0 hz1 hz2 rfl (by decide) (some ⟨w.heap.size + 1, 0, none⟩) 0 0 [] (by rfl) (by have := World.ownsRow_lit (base := w.heap.size + 1) (e := 2) (size := 1) (w.alloc (.cells #[.slice (some aS) n cA, .slice B m cB] 25)) #[] 0 (by simp) (Nat.zero_le _) rfl; simpa using this) (some aS) n cA (N.sup.map (Value.int .i64)) (by rfl) (by rw [HN.out]; simp) HS.out (by simp [Value.oneCell']) (by unfold maxLen; omega) (by omega) (by simp) ?_; intro A3 c3 w2 hown2 hgrow2 hat2; have HO2 := Lib.hid hown2; have HG2 := Lib.hid hgrow2; have HAT2 := Lib.hid hat2; clear hown2 hgrow2 hat2)
    obtain ⟨g, cap', e, z1, z2⟩ := HO2.out.form (by omega)
    cases e
    have HB2 : Hid (Below (w.heap.size + 1) ((w.alloc (.cells #[.slice (some aS) n cA, .slice B m cB] 25)).alloc (.cells #[] 2)) w2) := Lib.hid ((Below.refl _ _).grown HG2.out (by simp) (by intro k hk; cases hk; exact Nat.le_refl _))
    have J3 : Hid (CoJ w (some aS) B n cA m cB g c3 N.sup w2) := Lib.hid ⟨(((Below.refl w.heap.size w).alloc (Nat.le_refl _) _).alloc (by simp) _).trans (HB2.out.mono (by omega)), (B1.out.alloc _).below HB2.out (by omega), by
      have := HO2.out
      rw [HN.out] at this
      exact OwnI.mono (B := w.heap.size + 1) (by simpa [OwnI] using this) (by omega)⟩
    have zg : w.heap.size < g := by omega
    clear HO2 HG2 HAT2 HB2 HB1 B1 z1 z2 HS
    go_loopw [6] (fun i wr => ∃ k : Nat, k ≤ m ∧ i = .int .i64 k ∧ Hid (CoJ w (some aS) B n cA m cB g c3 (leftK N fl k) wr ∧ ∀ x, x < k → 0 ≤ fl.getD x 0 ∧ fl.getD x 0 ≤ (N.arcs.getD x default).cap)) (fun i _ => m - (intOf i).toNat)
    case atStart => exact ⟨0, Nat.zero_le _, rfl, Lib.hid ⟨J3.out, fun x hx => absurd hx (Nat.not_lt_zero _)⟩⟩
    case round =>
      obtain ⟨k, hk, rfl, HJ⟩ := hrel
      have BL := Lib.hid (leftK_bd HCH.out k (by rw [← HM.out]; exact hk) HJ.out.2)
      have cA0 := HJ.out.1.2.1.cell 0 rfl
      have cB0 := HJ.out.1.2.1.cell 1 rfl
      by_cases hlt : k < m
      · obtain ⟨ad, rfl, hbl, d0, d1, d2, d3⟩ := (HNA.out.2.below HJ.out.1.1 (Nat.le_refl _)) k (by rw [← HM.out]; exact hlt)
        obtain ⟨af, rfl, hbf, hf0⟩ := HFA.out k (by rw [← HP.out, hpm]; exact hlt)
        have HFC := Lib.hid (fun (W : World) (h : Below w.heap.size w W) => And.intro ((h.cell (p := af.add k) (by rw [block_add]; exact hbf)).trans hf0) (show (af.add k).block < W.heap.size from by rw [block_add]; have := h.size; omega))
        clear hf0 hbf
        obtain ⟨a1, a2, a3, a4, a5⟩ := net_arc HCH.out k (by rw [← HM.out]; exact hlt)
        rw [← HN.out] at a1 a2
        have HL1 := Lib.hid (show leftK N fl (k + 1) = mv (mv (leftK N fl k) (N.arcs.getD k default).fr (-(fl.getD k 0))) (N.arcs.getD k default).to (fl.getD k 0) from rfl)
        have HCAP := Lib.hid (fun h => isFlow_cap (N := N) (fl := fl) k (by rw [← HM.out]; exact hlt) h)
        have HLL := Lib.hid (leftK_length N fl k)
        generalize har : N.arcs.getD k default = ar at *
        obtain ⟨fr, «to», ca, co⟩ := ar
        have HAR := Lib.hid (show (N.arcs.getD k default).cap = ca from by rw [har])
        clear har
        simp only at d0 d1 d2 d3 a1 a2 a3 a4 a5 HCAP HL1
        obtain ⟨a, rfl⟩ : ∃ a : Nat, fr = a := ⟨fr.toNat, by omega⟩
        obtain ⟨b, rfl⟩ : ∃ b : Nat, «to» = b := ⟨«to».toNat, by omega⟩
        generalize hfk : fl.getD k 0 = f at *
        have HFK := Lib.hid hfk
        clear hfk
        have HJ2 := Lib.hid HJ.out.2
        have J0 := Lib.hid HJ.out.1
        clear HJ
        generalize leftK N fl k = l at *
        have gne : wr.heap.size ≠ g := by have := J0.out.2.2.lt; omega
        have hmk : (k : Int) < (p : Int) := by omega
        have k0 : (0 : Int) ≤ (k : Int) := by omega
        have kd : decide ((k : Int) < (p : Int)) = true := decide_eq_true hmk
        go_wp2_with fail
        have J4 := Lib.hid (J0.out.alloc (.cells #[.int .i64 a, .int .i64 b, .int .i64 ca, .int .i64 co] 46))
        have BX := Lib.hid (Blk.new' wr #[.int .i64 a, .int .i64 b, .int .i64 ca, .int .i64 co] 46)
        generalize wr.alloc (.cells #[.int .i64 a, .int .i64 b, .int .i64 ca, .int .i64 co] 46) = wx at J4 BX ⊢
        generalize wr.heap.size = ga at *
        have zga := BX.out.lt
        have e2 := BX.out.cell 2 rfl
        obtain ⟨fc, fcb⟩ := HFC.out _ J4.out.1
        clear d0 d1 d2 d3 cA0 cB0
        have WC := fun W => within_c f 0 ca W
        by_cases f1 : 0 ≤ f ∧ f ≤ ca
        · rw [show inB f 0 ca = true from by simp [inB, f1]] at WC
          refine wp_region_past (by kernel_rfl) (by kernel_rfl) ?_
          repeat (go_big_quiet_step ((go_at_call 60; exact past_same (WC _))))
          refine wpQuiet_nil ?_
          intro xx
          have J5 := Lib.hid (J4.out.below xx.far)
          have BX5 := Lib.hid (BX.out.below xx.far BX.out.lt)
          generalize xx.w = w5 at J5 BX5 ⊢
          clear J4 BX zga e2 fc fcb
          have lb0 := BL.out a (by rw [← HN.out]; omega)
          have M1 := Lib.hid (mv_nat l a (-f) (l.getD a 0 - f) (by omega))
          have M1B := Lib.hid (mv_bd (l := l) (i := (a : Int)) (d := -f) (B := 268435456 + 2097152 * k) (D := 1048576) (by omega) (by rw [HLL.out, ← HN.out]; omega) (fun j hj => BL.out j (by rw [← HLL.out]; exact hj)))
          have M1L := Lib.hid (mv_length l (a : Int) (-f))
          have CL := Lib.hid (fun (W : World) (h : CoJ w (some aS) (some ad) n cA m cB g c3 l W) => h.2.2.cell a (by rw [HLL.out, ← HN.out]; omega))
          generalize l.getD a 0 = la at *
          go_wp2_with fail
          trace "region 10"
          refine wp_region_head 10 ?af1 (by kernel_rfl) (by kernel_rfl) ?walk1 ?tail1
          case walk1 =>
            intro V hV
            have JV := J5.out.below hV
            have BV := BX5.out.below hV BX5.out.lt
            have zg1 := JV.2.2.lt.2
            have zga := BV.lt
            have e0 := BV.cell 0 rfl
            have la0 := CL.out _ JV
            obtain ⟨fc, fcb⟩ := HFC.out _ JV.1
            clear JV BV
            simp only [List.take_succ_cons, List.take_zero]
            repeat (go_big_quiet_step (fail))
            refine wpQuiet_nil ?_
            rfl
          case tail1 =>
            intro w6 hb6
            have J6 := Lib.hid (J5.out.below hb6)
            have BX6 := Lib.hid (BX5.out.below hb6 BX5.out.lt)
            have fr0 := J6.out.2.2.free a
            have la0 := CL.out _ J6.out
            have zg1 := J6.out.2.2.lt.2
            clear hb6 J5 BX5
            simp only [List.drop_succ_cons, List.drop_zero]
            go_wp2_with fail
            trace "region 11"
            refine gen_world (fun W => CoJ w (some aS) (some ad) n cA m cB g c3 (mv l a (-f)) W ∧ Blk W ga 46 [.int .i64 a, .int .i64 b, .int .i64 ca, .int .i64 co]) ⟨by rw [M1.out]; exact J6.out.put zg a _, BX6.out.setCell_ne gne _⟩ ?_
            rintro w7 ⟨j7, bx7⟩
            have J7 := Lib.hid j7
            have BX7 := Lib.hid bx7
            clear j7 bx7 la0 fr0 lb0 J6 BX6 zg1 CL
            generalize mv l (a : Int) (-f) = l5 at *
            have lb0 := M1B.out b (by rw [M1L.out, HLL.out, ← HN.out]; omega)
            have M2 := Lib.hid (mv_nat l5 b f (l5.getD b 0 + f) (by omega))
            have CL := Lib.hid (fun (W : World) (h : CoJ w (some aS) (some ad) n cA m cB g c3 l5 W) => h.2.2.cell b (by rw [M1L.out, HLL.out, ← HN.out]; omega))
            generalize l5.getD b 0 = lb at *
            refine wp_region_head 10 ?af2 (by kernel_rfl) (by kernel_rfl) ?walk2 ?tail2
            case walk2 =>
              intro V hV
              have JV := J7.out.below hV
              have BV := BX7.out.below hV BX7.out.lt
              have zg1 := JV.2.2.lt.2
              have zga := BV.lt
              have e1 := BV.cell 1 rfl
              have la0 := CL.out _ JV
              obtain ⟨fc, fcb⟩ := HFC.out _ JV.1
              clear JV BV
              simp only [List.take_succ_cons, List.take_zero]
              repeat (go_big_quiet_step (fail))
              refine wpQuiet_nil ?_
              rfl
            case tail2 =>
              intro w8 hb8
              have J8 := Lib.hid (J7.out.below hb8)
              have fr0 := J8.out.2.2.free b
              have la0 := CL.out _ J8.out
              have zg1 := J8.out.2.2.lt.2
              clear hb8 J7 BX7
              simp only [List.drop_succ_cons, List.drop_zero]
              go_wp2
              go_roundw
              case rel =>
                refine ⟨k + 1, by omega, by go_num, Lib.hid ⟨?_, fun x hx => ?_⟩⟩
                · rw [HL1.out, M2.out]; exact J8.out.put zg b _
                · by_cases hjk : x < k
                  · exact HJ2.out x hjk
                  · obtain rfl : x = k := by omega
                    rw [HFK.out, HAR.out]; omega
              case measure => simp [intOf]; omega
        · rw [show inB f 0 ca = false from by simp [inB]; omega] at WC
          have E := Lib.hid (HCAP.out f1)
          refine wp_region_past (by kernel_rfl) (by kernel_rfl) ?_
          repeat (go_big_quiet_step ((go_at_call 60; exact past_same (WC _))))
          refine wpQuiet_nil ?_
          intro xx
          have J5 := Lib.hid (J4.out.below xx.far)
          generalize xx.w = w5 at J5 ⊢
          go_wp2
          go_ret
          exact ⟨ret_bool E.out.symm, J5.out.1⟩
      · obtain rfl : k = m := by omega
        have hlen : fl.length = N.arcs.length := by rw [← HP.out, ← HM.out]; exact hpm
        have HLEN := Lib.hid hlen
        clear hlen
        have J7 := Lib.hid HJ.out.1
        have HLL := Lib.hid (leftK_length N fl k)
        have EL := Lib.hid (fun j hj h => isFlow_left (N := N) (fl := fl) j hj (by rw [← HM.out]; exact h))
        have EY := Lib.hid (fun h2 => isFlow_yes HLEN.out (fun x hx => HJ.out.2 x (by rw [HM.out]; exact hx)) (by rw [← HM.out]; exact h2))
        clear HJ
        generalize leftK N fl k = l at *
        have hmk : ¬ (k : Int) < (p : Int) := by omega
        have kd : decide ((k : Int) < (p : Int)) = false := decide_eq_false hmk
        go_wp2_with fail
        go_loop [8] (fun i => ∃ j : Nat, j ≤ n ∧ i = .int .i64 j ∧ Hid (∀ x, x < j → l.getD x 0 = 0)) (fun i => n - (intOf i).toNat)
        case atStart => exact ⟨0, Nat.zero_le _, rfl, Lib.hid (fun x hx => absurd hx (Nat.not_lt_zero _))⟩
        case round =>
          obtain ⟨j, hj, rfl, HZ⟩ := hrel
          by_cases hlt2 : j < n
          · have hc0 := J7.out.2.2.cell j (by rw [HLL.out, ← HN.out]; exact hlt2)
            have EJ := Lib.hid (EL.out j (by rw [← HN.out]; exact hlt2))
            generalize hx : l.getD j 0 = x at *
            have HX := Lib.hid hx
            clear hx
            by_cases x0 : x = 0
            · subst x0
              go_wp2
              go_round
              case rel =>
                refine ⟨j + 1, by omega, by go_num, Lib.hid (fun y hy => ?_)⟩
                by_cases hjk : y < j
                · exact HZ.out y hjk
                · obtain rfl : y = j := by omega
                  exact HX.out
              case measure => simp [intOf]; omega
            · have E := Lib.hid (EJ.out x0)
              have hx0 : (x == 0) = false := by simpa using x0
              clear x0
              go_wp2
              go_ret
              exact ⟨ret_bool E.out.symm, J7.out.1⟩
          · have E := Lib.hid (EY.out (fun x hx => HZ.out x (by rw [← HN.out] at hx; omega)))
            go_wp2
            go_ret
            exact ⟨ret_bool E.out.symm, J7.out.1⟩
  · have E := Lib.hid (isFlow_len (N := N) (fl := fl) (by rw [← HP.out, ← HM.out]; exact hpm))
    have hmm : ¬ (p : Int) = (m : Int) := by omega
    have hmm' : ((p : Int) == (m : Int)) = false := by simpa using hmm
    go_enter Try.func58, Try.ntmps58
    go_wp2
    go_ret
    exact ⟨ret_bool E.out.symm, HB1.out⟩
end Go.Proofs.Ytmebpglkeedaoaa
namespace Go.Proofs.Ytmebpglkeedaoaa
open Go.RowKit Dp
theorem isFlow_caps {N : Net} {fl : List Int} (h : isFlow N fl = true) : ∀ k, k < N.arcs.length → 0 ≤ fl.getD k 0 ∧ fl.getD k 0 ≤ (N.arcs.getD k default).cap := by
  simp only [isFlow, Bool.and_eq_true] at h
  exact capB_iff.1 h.2.1
set_option maxHeartbeats 2000000 in
set_option maxRecDepth 100000 in
theorem CostR_c (A B C : Option Addr) (N : Net) (fl : List Int) (n m p cA cB cC : Nat) (w : World) (hn : n = N.sup.length) (hm : m = N.arcs.length) (hp : p = fl.length) (hA : n ≤ cA ∧ cA ≤ 9223372036854775807) (hB : m ≤ cB ∧ cB ≤ 9223372036854775807) (hC : p ≤ cC ∧ cC ≤ 9223372036854775807) (hN : NetAt w A B N) (hF : IntsAt w C fl) :
    Calls Try.prog 15 #[.agg #[.slice A n cA, .slice B m cB], .slice C p cC] w fun e w' => e = .returned (.tuple #[.int .i64 (coV N fl), .int .i64 (coE N fl)]) ∧ Below w.heap.size w w' := by
  have HN := Lib.hid hn
  have HM := Lib.hid hm
  have HP := Lib.hid hp
  have HNA := Lib.hid hN
  have HFA := Lib.hid hF
  clear hn hm hp hN hF
  have B1 := Lib.hid (Blk.new' w #[.slice A n cA, .slice B m cB] 25)
  have HB1 := Lib.hid ((Below.refl w.heap.size w).alloc (Nat.le_refl _) (.cells #[.slice A n cA, .slice B m cB] 25))
  go_enter Try.func15, Try.ntmps15
  go_wp2_with fail
  generalize w.alloc (.cells #[.slice A n cA, .slice B m cB] 25) = w1 at B1 HB1 ⊢
  refine (CheckR_c A B N n m cA cB w1 HN.out HM.out hA hB (HNA.out.below HB1.out (Nat.le_refl _))).mono ?_
  rintro e w2 ⟨rfl, hb2⟩
  have B2 := Lib.hid (B1.out.below hb2 B1.out.lt)
  have HB2 := Lib.hid (HB1.out.trans (hb2.mono HB1.out.size))
  clear hb2 B1 HB1
  have cA0 := B2.out.cell 0 rfl
  have cB0 := B2.out.cell 1 rfl
  by_cases hch : chE N = 0
  · rw [hch]
    have HCH := Lib.hid hch
    clear hch
    by_cases hpm : p = m
    · have HLEN := Lib.hid (show fl.length = N.arcs.length from by rw [← HP.out, ← HM.out]; exact hpm)
      subst hpm
      go_wp2_with fail
      refine (IsFlow_c A B C N fl n p p cA cB cC w2 HN.out HM.out HP.out HCH.out hA hB hC (HNA.out.below HB2.out (Nat.le_refl _)) (HFA.out.below HB2.out (Nat.le_refl _))).mono ?_
      rintro e w3 ⟨rfl, hb3⟩
      have B3 := Lib.hid (B2.out.below hb3 B2.out.lt)
      have HB3 := Lib.hid (HB2.out.trans (hb3.mono HB2.out.size))
      clear hb3 B2 HB2 cA0 cB0
      have cA0 := B3.out.cell 0 rfl
      have cB0 := B3.out.cell 1 rfl
      cases hf : isFlow N fl
      · have E := Lib.hid (co_no HCH.out HLEN.out hf)
        go_wp2
        go_ret2
        exact ⟨ret2 E.out.2.symm E.out.1.symm, HB3.out⟩
      · have E := Lib.hid (co_yes HCH.out HLEN.out hf)
        have HCAP := Lib.hid (isFlow_caps hf)
        go_wp2_with fail
        refine (costR_c A B C N fl n p p cA cB cC w3 HM.out HP.out rfl HCH.out hB hC (HNA.out.below HB3.out (Nat.le_refl _)) (HFA.out.below HB3.out (Nat.le_refl _)) (fun x hx => HCAP.out x (by rw [← HM.out]; omega))).mono ?_
        rintro e w4 ⟨rfl, hb4⟩
        go_wp2
        go_ret2
        exact ⟨ret2 (by rw [E.out.2, HM.out]) E.out.1.symm, HB3.out.trans (hb4.mono HB3.out.size)⟩
    · have E := Lib.hid (co_len (fl := fl) HCH.out (by rw [← HP.out, ← HM.out]; exact hpm))
      have hmm : ¬ (p : Int) = (m : Int) := by omega
      have hmm' : ((p : Int) == (m : Int)) = false := by simpa using hmm
      go_wp2
      go_ret2
      exact ⟨ret2 E.out.2.symm E.out.1.symm, HB2.out⟩
  · have E := Lib.hid (co_ch (fl := fl) hch)
    have hne : (chE N == 0) = false := by simpa using hch
    have CC := Lib.hid (CheckR_c A B N n m cA cB w2 HN.out HM.out hA hB (HNA.out.below HB2.out (Nat.le_refl _)))
    generalize chE N = q at *
    go_wp2_with fail
    refine CC.out.mono ?_
    rintro e w3 ⟨rfl, hb3⟩
    go_wp2
    go_ret2
    exact ⟨ret2 E.out.2.symm E.out.1.symm, HB2.out.trans (hb3.mono HB2.out.size)⟩
end Go.Proofs.Ytmebpglkeedaoaa
namespace Go.Proofs.Ytmebpglkeedaoaa
open Go.RowKit Dp
set_option maxHeartbeats 2000000 in
set_option maxRecDepth 100000 in
theorem Proves_c (A B C : Option Addr) (N : Net) (ps : List Int) (n m p cA cB cC : Nat) (w : World) (hn : n = N.sup.length) (hm : m = N.arcs.length) (hp : p = ps.length) (hA : n ≤ cA ∧ cA ≤ 9223372036854775807) (hB : m ≤ cB ∧ cB ≤ 9223372036854775807) (hC : p ≤ cC ∧ cC ≤ 9223372036854775807) (hN : NetAt w A B N) (hF : IntsAt w C ps) :
    Calls Try.prog 16 #[.agg #[.slice A n cA, .slice B m cB], .slice C p cC] w fun e w' => e = .returned (.tuple #[.int .i64 (prV N ps), .int .i64 (prE N ps)]) ∧ Below w.heap.size w w' := by
  have HN := Lib.hid hn
  have HM := Lib.hid hm
  have HP := Lib.hid hp
  have HNA := Lib.hid hN
  have HFA := Lib.hid hF
  clear hn hm hp hN hF
  have B1 := Lib.hid (Blk.new' w #[.slice A n cA, .slice B m cB] 25)
  have HB1 := Lib.hid ((Below.refl w.heap.size w).alloc (Nat.le_refl _) (.cells #[.slice A n cA, .slice B m cB] 25))
  go_enter Try.func16, Try.ntmps16
  go_wp2_with fail
  generalize w.alloc (.cells #[.slice A n cA, .slice B m cB] 25) = w1 at B1 HB1 ⊢
  refine (Check_c A B N n m cA cB w1 HN.out HM.out hA hB (HNA.out.below HB1.out (Nat.le_refl _))).mono ?_
  rintro e w2 ⟨rfl, hb2⟩
  have B2 := Lib.hid (B1.out.below hb2 B1.out.lt)
  have HB2 := Lib.hid (HB1.out.trans (hb2.mono HB1.out.size))
  clear hb2 B1 HB1
  have cA0 := B2.out.cell 0 rfl
  have cB0 := B2.out.cell 1 rfl
  by_cases hch : chE N = 0
  · have hce := net_len hch
    rw [hch]
    by_cases hpn : p = n
    · have HLEN := Lib.hid (show ps.length = N.sup.length from by rw [← HP.out, ← HN.out]; exact hpn)
      subst hpn
      have n1 : 1 ≤ p := by rw [HN.out]; exact hce.1
      have n2 : p ≤ 1024 := by rw [HN.out]; exact hce.2.1
      have m2 : m ≤ 2048 := by rw [HM.out]; exact hce.2.2
      have HCH := Lib.hid hch
      clear hch hce
      obtain ⟨aS, rfl, hbS, _⟩ := HNA.out.1 0 (by rw [← HN.out]; omega)
      obtain ⟨aP, rfl, hbP, _⟩ := HFA.out 0 (by rw [← HP.out]; omega)
      have SC : Hid (∀ W, Below w.heap.size w W → ∀ k, k < p → W.cell? (aS.add k) = some (.int .i64 (N.sup.getD k 0))) := Lib.hid (fun W h k hk => by
        obtain ⟨a', e, hb, hc⟩ := HNA.out.1 k (by rw [← HN.out]; exact hk)
        cases e
        exact (h.cell (by rw [block_add]; exact hb)).trans hc)
      have PC : Hid (∀ W, Below w.heap.size w W → ∀ k, k < p → W.cell? (aP.add k) = some (.int .i64 (ps.getD k 0)) ∧ (aP.add k).block < W.heap.size) := Lib.hid (fun W h k hk => by
        obtain ⟨a', e, hb, hc⟩ := HFA.out k (by rw [← HP.out]; exact hk)
        cases e
        exact ⟨(h.cell (by rw [block_add]; exact hb)).trans hc, by rw [block_add]; have := h.size; omega⟩)
      go_wp2_with fail
      go_loop [7, 25] (fun v i => ∃ k : Nat, k ≤ p ∧ i = .int .i64 k ∧ v = .int .i64 (prS N ps k) ∧ Hid (∀ x, x < k → potOk (ps.getD x 0) = true)) (fun _ i => p - (intOf i).toNat)
      case atStart => exact ⟨0, Nat.zero_le _, rfl, rfl, Lib.hid (fun x hx => absurd hx (Nat.not_lt_zero _))⟩
      case round =>
        obtain ⟨k, hk, rfl, rfl, HK⟩ := hrel
        have bs := prS_bd2 HCH.out k (by rw [← HN.out]; exact hk) HK.out
        by_cases hlt : k < p
        · have sc := SC.out _ HB2.out k hlt
          have pc := (PC.out _ HB2.out k hlt).1
          have hsu := net_sup HCH.out k (by rw [← HN.out]; exact hlt)
          have ENO := Lib.hid (fun h => pr_no HCH.out HLEN.out k (by rw [← HP.out]; exact hlt) h)
          have HS1 := Lib.hid (show prS N ps (k + 1) = prS N ps k - ps.getD k 0 * N.sup.getD k 0 from rfl)
          generalize N.sup.getD k 0 = s at *
          generalize hx : ps.getD k 0 = x at *
          have HX := Lib.hid hx
          clear hx
          generalize prS N ps k = S at *
          by_cases h1 : x < -1073741824
          · have E := Lib.hid (ENO.out (by simp [potOk]; omega))
            go_wp2
            go_ret2
            exact ⟨ret2 E.out.2.symm E.out.1.symm, HB2.out⟩
          by_cases h2 : 1073741824 < x
          · have E := Lib.hid (ENO.out (by simp [potOk]; omega))
            go_wp2
            go_ret2
            exact ⟨ret2 E.out.2.symm E.out.1.symm, HB2.out⟩
          have p1 : x * s ≤ 288230376151711744 ∧ -288230376151711744 ≤ x * s := by
            have := mul_abs (p := x) (s := s) (P := 1073741824) (by omega)
            have : abs s ≤ 268435456 := by unfold abs; omega
            omega
          go_wp2
          go_round
          case rel =>
            refine ⟨k + 1, by omega, by go_num, by rw [HS1.out], Lib.hid (fun y hy => ?_)⟩
            by_cases hjk : y < k
            · exact HK.out y hjk
            · obtain rfl : y = k := by omega
              rw [HX.out]; simp [potOk]; omega
          case measure => simp [intOf]; omega
        · obtain rfl : k = p := by omega
          have HPO : Hid (∀ x, x < ps.length → potOk (ps.getD x 0) = true) := Lib.hid (fun x hx => HK.out x (by rw [HP.out]; exact hx))
          have E := Lib.hid (pr_yes HCH.out HLEN.out HPO.out)
          have E0 := Lib.hid (show prS N ps k = prA N ps 0 from by rw [HN.out]; rfl)
          rw [E0.out]
          rw [E0.out] at bs
          clear HK
          go_wp2_with fail
          trace "loop 2"
          go_loopw [7, 49] (fun v i wr => ∃ j : Nat, j ≤ m ∧ i = .int .i64 j ∧ v = .int .i64 (prA N ps j) ∧ Hid (Below w2.heap.size w2 wr)) (fun _ i _ => m - (intOf i).toNat)
          case atStart => exact ⟨0, Nat.zero_le _, rfl, rfl, Lib.hid (Below.refl _ _)⟩
          case round =>
            obtain ⟨j, hj, rfl, rfl, HB⟩ := hrel
            have ba := prA_bd HCH.out HLEN.out HPO.out j (by rw [← HM.out]; exact hj)
            have HBR := Lib.hid (HB2.out.trans (HB.out.mono HB2.out.size))
            by_cases hlt2 : j < m
            · obtain ⟨ad, rfl, hbl, d0, d1, d2, d3⟩ := (HNA.out.2.below HBR.out (Nat.le_refl _)) j (by rw [← HM.out]; exact hlt2)
              obtain ⟨a1, a2, a3, a4, a5⟩ := net_arc HCH.out j (by rw [← HM.out]; exact hlt2)
              rw [← HN.out] at a1 a2
              have HA1 := Lib.hid (show prA N ps (j + 1) = prA N ps j + prW (N.arcs.getD j default) ps from rfl)
              generalize N.arcs.getD j default = ar at *
              obtain ⟨fr, «to», ca, co⟩ := ar
              simp only at d0 d1 d2 d3 a1 a2 a3 a4 a5
              obtain ⟨a, rfl⟩ : ∃ a : Nat, fr = a := ⟨fr.toNat, by omega⟩
              obtain ⟨b, rfl⟩ : ∃ b : Nat, «to» = b := ⟨«to».toNat, by omega⟩
              have pa := potOk_iff.1 (HPO.out a (by rw [← HP.out]; omega))
              have pb := potOk_iff.1 (HPO.out b (by rw [← HP.out]; omega))
              have HW := Lib.hid (show prW ⟨a, b, ca, co⟩ ps = ca * min 0 (co + ps.getD a 0 - ps.getD b 0) from rfl)
              have PA := Lib.hid (fun W h => PC.out W h a (by omega))
              have PB := Lib.hid (fun W h => PC.out W h b (by omega))
              generalize ps.getD a 0 = x at *
              generalize ps.getD b 0 = y at *
              generalize prA N ps j = S at *
              have hx1 := fun ts t W => minTwo 0 (co + x - y) ts t W
              generalize hz : min 0 (co + x - y) = z at *
              have hzb : -2148532224 ≤ z ∧ z ≤ 0 := by omega
              clear hz
              have p1 : ca * z ≤ 0 ∧ -2252899325313024 ≤ ca * z := by
                have q1 := Int.mul_le_mul_of_nonneg_left hzb.1 a4.1
                have q2 := Int.mul_le_mul_of_nonneg_left hzb.2 a4.1
                omega
              go_upto_region 17 with fail
              have HBX := Lib.hid (HBR.out.alloc HBR.out.size (.cells #[.int .i64 a, .int .i64 b, .int .i64 ca, .int .i64 co] 46))
              have HBJ := Lib.hid (HB.out.alloc HB.out.size (.cells #[.int .i64 a, .int .i64 b, .int .i64 ca, .int .i64 co] 46))
              have BX := Lib.hid (Blk.new' wr #[.int .i64 a, .int .i64 b, .int .i64 ca, .int .i64 co] 46)
              generalize wr.alloc (.cells #[.int .i64 a, .int .i64 b, .int .i64 ca, .int .i64 co] 46) = wx at HBX HBJ BX ⊢
              generalize wr.heap.size = ga at *
              have e0 := BX.out.cell 0 rfl
              have e1 := BX.out.cell 1 rfl
              have e2 := BX.out.cell 2 rfl
              have e3 := BX.out.cell 3 rfl
              have zga := BX.out.lt
              obtain ⟨fa, fab⟩ := PA.out _ HBX.out
              obtain ⟨fb, fbb⟩ := PB.out _ HBX.out
              clear d0 d1 d2 d3
              refine wp_region_past (by kernel_rfl) (by kernel_rfl) ?_
              repeat (go_big_quiet_step (fail))
              refine wpQuiet_nil ?_
              intro xx
              have HXX := Lib.hid xx.far
              generalize xx.w = w4 at HXX ⊢
              go_wp2
              go_roundw
              case rel => exact ⟨j + 1, by omega, by go_num, by rw [HA1.out, HW.out], Lib.hid (HBJ.out.trans (HXX.out.mono HBJ.out.size))⟩
              case measure => simp [intOf]; omega
            · obtain rfl : j = m := by omega
              go_wp2
              go_ret2
              exact ⟨ret2 (by rw [E.out.2, HM.out]) E.out.1.symm, HBR.out⟩
    · have E := Lib.hid (pr_len (ps := ps) hch (by rw [← HP.out, ← HN.out]; exact hpn))
      have hmm : ¬ (p : Int) = (n : Int) := by omega
      have hmm' : ((p : Int) == (n : Int)) = false := by simpa using hmm
      go_wp2
      go_ret2
      exact ⟨ret2 E.out.2.symm E.out.1.symm, HB2.out⟩
  · have E := Lib.hid (pr_ch (ps := ps) hch)
    have hne : (chE N == 0) = false := by simpa using hch
    generalize chE N = q at *
    go_wp2
    go_ret2
    exact ⟨ret2 E.out.2.symm E.out.1.symm, HB2.out⟩
end Go.Proofs.Ytmebpglkeedaoaa
namespace Go.Proofs.Ytmebpglkeedaoaa
open Go.RowKit Dp
set_option maxHeartbeats 2000000 in
set_option maxRecDepth 100000 in
theorem ProvesR_c (A B C : Option Addr) (N : Net) (ps : List Int) (n m p cA cB cC : Nat) (w : World) (hn : n = N.sup.length) (hm : m = N.arcs.length) (hp : p = ps.length) (hA : n ≤ cA ∧ cA ≤ 9223372036854775807) (hB : m ≤ cB ∧ cB ≤ 9223372036854775807) (hC : p ≤ cC ∧ cC ≤ 9223372036854775807) (hN : NetAt w A B N) (hF : IntsAt w C ps) :
    Calls Try.prog 17 #[.agg #[.slice A n cA, .slice B m cB], .slice C p cC] w fun e w' => e = .returned (.tuple #[.int .i64 (prV N ps), .int .i64 (prE N ps)]) ∧ Below w.heap.size w w' := by
  have HN := Lib.hid hn
  have HM := Lib.hid hm
  have HP := Lib.hid hp
  have HNA := Lib.hid hN
  have HFA := Lib.hid hF
  clear hn hm hp hN hF
  have B1 := Lib.hid (Blk.new' w #[.slice A n cA, .slice B m cB] 25)
  have HB1 := Lib.hid ((Below.refl w.heap.size w).alloc (Nat.le_refl _) (.cells #[.slice A n cA, .slice B m cB] 25))
  go_enter Try.func17, Try.ntmps17
  go_wp2_with fail
  generalize w.alloc (.cells #[.slice A n cA, .slice B m cB] 25) = w1 at B1 HB1 ⊢
  refine (CheckR_c A B N n m cA cB w1 HN.out HM.out hA hB (HNA.out.below HB1.out (Nat.le_refl _))).mono ?_
  rintro e w2 ⟨rfl, hb2⟩
  have B2 := Lib.hid (B1.out.below hb2 B1.out.lt)
  have HB2 := Lib.hid (HB1.out.trans (hb2.mono HB1.out.size))
  clear hb2 B1 HB1
  have cA0 := B2.out.cell 0 rfl
  have cB0 := B2.out.cell 1 rfl
  by_cases hch : chE N = 0
  · have hce := net_len hch
    rw [hch]
    by_cases hpn : p = n
    · have HLEN := Lib.hid (show ps.length = N.sup.length from by rw [← HP.out, ← HN.out]; exact hpn)
      subst hpn
      have n1 : 1 ≤ p := by rw [HN.out]; exact hce.1
      have n2 : p ≤ 1024 := by rw [HN.out]; exact hce.2.1
      have m2 : m ≤ 2048 := by rw [HM.out]; exact hce.2.2
      have HCH := Lib.hid hch
      clear hch hce
      obtain ⟨aS, rfl, hbS, _⟩ := HNA.out.1 0 (by rw [← HN.out]; omega)
      obtain ⟨aP, rfl, hbP, _⟩ := HFA.out 0 (by rw [← HP.out]; omega)
      have SC : Hid (∀ W, Below w.heap.size w W → ∀ k, k < p → W.cell? (aS.add k) = some (.int .i64 (N.sup.getD k 0))) := Lib.hid (fun W h k hk => by
        obtain ⟨a', e, hb, hc⟩ := HNA.out.1 k (by rw [← HN.out]; exact hk)
        cases e
        exact (h.cell (by rw [block_add]; exact hb)).trans hc)
      have PC : Hid (∀ W, Below w.heap.size w W → ∀ k, k < p → W.cell? (aP.add k) = some (.int .i64 (ps.getD k 0)) ∧ (aP.add k).block < W.heap.size) := Lib.hid (fun W h k hk => by
        obtain ⟨a', e, hb, hc⟩ := HFA.out k (by rw [← HP.out]; exact hk)
        cases e
        exact ⟨(h.cell (by rw [block_add]; exact hb)).trans hc, by rw [block_add]; have := h.size; omega⟩)
      go_wp2_with fail
      go_loopw [7] (fun i wr => ∃ k : Nat, k ≤ p ∧ i = .int .i64 k ∧ Hid (Below w2.heap.size w2 wr) ∧ Hid (∀ x, x < k → potOk (ps.getD x 0) = true)) (fun i _ => p - (intOf i).toNat)
      case atStart => exact ⟨0, Nat.zero_le _, rfl, Lib.hid (Below.refl _ _), Lib.hid (fun x hx => absurd hx (Nat.not_lt_zero _))⟩
      case round =>
        obtain ⟨k, hk, rfl, HB, HK⟩ := hrel
        have HBR := Lib.hid (HB2.out.trans (HB.out.mono HB2.out.size))
        by_cases hlt : k < p
        · have pc := (PC.out _ HBR.out k hlt).1
          have ENO := Lib.hid (fun h => pr_no HCH.out HLEN.out k (by rw [← HP.out]; exact hlt) h)
          generalize hx : ps.getD k 0 = x at *
          have HX := Lib.hid hx
          clear hx
          have WC := within_c x (-1073741824) 1073741824 wr
          by_cases h1 : -1073741824 ≤ x ∧ x ≤ 1073741824
          · rw [show inB x (-1073741824) 1073741824 = true from by simp [inB, h1]] at WC
            go_wp2_with fail
            refine WC.mono ?_
            rintro e w3 ⟨rfl, rfl⟩
            go_wp2
            go_roundw
            case rel =>
              refine ⟨k + 1, by omega, by go_num, HB, Lib.hid (fun y hy => ?_)⟩
              by_cases hjk : y < k
              · exact HK.out y hjk
              · obtain rfl : y = k := by omega
                rw [HX.out]; simp [potOk]; omega
            case measure => simp [intOf]; omega
          · rw [show inB x (-1073741824) 1073741824 = false from by simp [inB]; omega] at WC
            have E := Lib.hid (ENO.out (by simp [potOk]; omega))
            go_wp2_with fail
            refine WC.mono ?_
            rintro e w3 ⟨rfl, rfl⟩
            go_wp2
            go_ret2
            exact ⟨ret2 E.out.2.symm E.out.1.symm, HBR.out⟩
        · obtain rfl : k = p := by omega
          have HPO : Hid (∀ x, x < ps.length → potOk (ps.getD x 0) = true) := Lib.hid (fun x hx => HK.out x (by rw [HP.out]; exact hx))
          have E := Lib.hid (pr_yes HCH.out HLEN.out HPO.out)
          have B2 := Lib.hid (B2.out.below HB.out B2.out.lt)
          clear HK HB2 cA0 cB0 HB
          have HB2 := HBR
          clear HBR
          generalize hwr : wr = w2 at *
          clear hwr
          have bA0 := B2.out.lt
          go_wp2_with fail
          trace "loop B"
          go_loopw [6, 8] (fun v i wr => ∃ j : Nat, j ≤ k ∧ i = .int .i64 j ∧ v = .int .i64 (prS N ps j) ∧ Hid (Below w2.heap.size w2 wr)) (fun _ i _ => k - (intOf i).toNat)
          case atStart => exact ⟨0, Nat.zero_le _, rfl, rfl, Lib.hid (Below.refl _ _)⟩
          case round =>
            obtain ⟨j, hj, rfl, rfl, HB⟩ := hrel
            have bs := prS_bd2 HCH.out j (by rw [← HN.out]; exact hj) (fun x hx => HPO.out x (by rw [← HP.out]; omega))
            have HBR := Lib.hid (HB2.out.trans (HB.out.mono HB2.out.size))
            have cA0 := (HB.out.cell (p := ⟨w.heap.size, 0, none⟩) B2.out.lt).trans (B2.out.cell 0 rfl)
            have cB0 := (HB.out.cell (p := ⟨w.heap.size, 1, none⟩) B2.out.lt).trans (B2.out.cell 1 rfl)
            have bA1 : w.heap.size < wr.heap.size := Nat.lt_of_lt_of_le bA0 HB.out.size
            by_cases hlt : j < k
            · have sc := SC.out _ HBR.out j hlt
              have scb : (aS.add j).block < wr.heap.size := by rw [block_add]; have := HBR.out.size; omega
              obtain ⟨pc, pcb⟩ := PC.out _ HBR.out j hlt
              have hsu := net_sup HCH.out j (by rw [← HN.out]; exact hlt)
              have hpo := potOk_iff.1 (HPO.out j (by rw [← HP.out]; exact hlt))
              have HS1 := Lib.hid (show prS N ps (j + 1) = prS N ps j - ps.getD j 0 * N.sup.getD j 0 from rfl)
              generalize N.sup.getD j 0 = s at *
              generalize ps.getD j 0 = x at *
              generalize prS N ps j = S at *
              have p1 : x * s ≤ 288230376151711744 ∧ -288230376151711744 ≤ x * s := by
                have := mul_abs (p := x) (s := s) (P := 1073741824) (by omega)
                have : abs s ≤ 268435456 := by unfold abs; omega
                omega
              have k0 : (0 : Int) ≤ (j : Int) := by omega
              have kx : (j : Int) < (k : Int) := by omega
              go_wp2_with fail
              refine wp_region_past (by kernel_rfl) (by kernel_rfl) ?_
              repeat (go_big_quiet_step (fail))
              refine wpQuiet_nil ?_
              intro xx
              have HXX := Lib.hid xx.far
              generalize xx.w = w4 at HXX ⊢
              go_wp2
              go_roundw
              case rel => exact ⟨j + 1, by omega, by go_num, by rw [HS1.out], Lib.hid (HB.out.trans (HXX.out.mono HB.out.size))⟩
              case measure => simp [intOf]; omega
            · obtain rfl : j = k := by omega
              have E0 := Lib.hid (show prS N ps j = prA N ps 0 from by rw [HN.out]; rfl)
              rw [E0.out]
              rw [E0.out] at bs
              have B3 := Lib.hid (B2.out.below HB.out B2.out.lt)
              clear HB2 cA0 cB0 HB B2 bA0
              have B2 := B3
              have HB2 := HBR
              clear HBR B3
              generalize hwr : wr = w3 at *
              clear hwr
              go_wp2_with fail
              trace "loop 2"
              go_loopw [6, 9] (fun v i wr => ∃ q : Nat, q ≤ m ∧ i = .int .i64 q ∧ v = .int .i64 (prA N ps q) ∧ Hid (Below w3.heap.size w3 wr)) (fun _ i _ => m - (intOf i).toNat)
              case atStart => exact ⟨0, Nat.zero_le _, rfl, rfl, Lib.hid (Below.refl _ _)⟩
              case round =>
                obtain ⟨j, hj, rfl, rfl, HB⟩ := hrel
                have ba := prA_bd HCH.out HLEN.out HPO.out j (by rw [← HM.out]; exact hj)
                have HBR := Lib.hid (HB2.out.trans (HB.out.mono HB2.out.size))
                have cA0 := (HB.out.cell (p := ⟨w.heap.size, 0, none⟩) B2.out.lt).trans (B2.out.cell 0 rfl)
                have cB0 := (HB.out.cell (p := ⟨w.heap.size, 1, none⟩) B2.out.lt).trans (B2.out.cell 1 rfl)
                by_cases hlt2 : j < m
                · obtain ⟨ad, rfl, hbl, d0, d1, d2, d3⟩ := (HNA.out.2.below HBR.out (Nat.le_refl _)) j (by rw [← HM.out]; exact hlt2)
                  obtain ⟨a1, a2, a3, a4, a5⟩ := net_arc HCH.out j (by rw [← HM.out]; exact hlt2)
                  rw [← HN.out] at a1 a2
                  have HA1 := Lib.hid (show prA N ps (j + 1) = prA N ps j + prW (N.arcs.getD j default) ps from rfl)
                  generalize N.arcs.getD j default = ar at *
                  obtain ⟨fr, «to», ca, co⟩ := ar
                  simp only at d0 d1 d2 d3 a1 a2 a3 a4 a5
                  obtain ⟨a, rfl⟩ : ∃ a : Nat, fr = a := ⟨fr.toNat, by omega⟩
                  obtain ⟨b, rfl⟩ : ∃ b : Nat, «to» = b := ⟨«to».toNat, by omega⟩
                  have pa := potOk_iff.1 (HPO.out a (by rw [← HP.out]; omega))
                  have pb := potOk_iff.1 (HPO.out b (by rw [← HP.out]; omega))
                  have HW := Lib.hid (show prW ⟨a, b, ca, co⟩ ps = ca * min 0 (co + ps.getD a 0 - ps.getD b 0) from rfl)
                  have PA := Lib.hid (fun W h => PC.out W h a (by omega))
                  have PB := Lib.hid (fun W h => PC.out W h b (by omega))
                  generalize ps.getD a 0 = x at *
                  generalize ps.getD b 0 = y at *
                  generalize prA N ps j = S at *
                  have hx1 := fun ts t W => minTwo 0 (co + x - y) ts t W
                  generalize hz : min 0 (co + x - y) = z at *
                  have hzb : -2148532224 ≤ z ∧ z ≤ 0 := by omega
                  clear hz
                  have p1 : ca * z ≤ 0 ∧ -2252899325313024 ≤ ca * z := by
                    have q1 := Int.mul_le_mul_of_nonneg_left hzb.1 a4.1
                    have q2 := Int.mul_le_mul_of_nonneg_left hzb.2 a4.1
                    omega
                  go_upto_region 19 with fail
                  have HBX := Lib.hid (HBR.out.alloc HBR.out.size (.cells #[.int .i64 a, .int .i64 b, .int .i64 ca, .int .i64 co] 46))
                  have HBJ := Lib.hid (HB.out.alloc HB.out.size (.cells #[.int .i64 a, .int .i64 b, .int .i64 ca, .int .i64 co] 46))
                  have BX := Lib.hid (Blk.new' wr #[.int .i64 a, .int .i64 b, .int .i64 ca, .int .i64 co] 46)
                  generalize wr.alloc (.cells #[.int .i64 a, .int .i64 b, .int .i64 ca, .int .i64 co] 46) = wx at HBX HBJ BX ⊢
                  generalize wr.heap.size = ga at *
                  have e0 := BX.out.cell 0 rfl
                  have e1 := BX.out.cell 1 rfl
                  have e2 := BX.out.cell 2 rfl
                  have e3 := BX.out.cell 3 rfl
                  have zga := BX.out.lt
                  obtain ⟨fa, fab⟩ := PA.out _ HBX.out
                  obtain ⟨fb, fbb⟩ := PB.out _ HBX.out
                  clear d0 d1 d2 d3
                  refine wp_region_past (by kernel_rfl) (by kernel_rfl) ?_
                  repeat (go_big_quiet_step (fail))
                  refine wpQuiet_nil ?_
                  intro xx
                  have HXX := Lib.hid xx.far
                  generalize xx.w = w4 at HXX ⊢
                  go_wp2
                  go_roundw
                  case rel => exact ⟨j + 1, by omega, by go_num, by rw [HA1.out, HW.out], Lib.hid (HBJ.out.trans (HXX.out.mono HBJ.out.size))⟩
                  case measure => simp [intOf]; omega
                · obtain rfl : j = m := by omega
                  go_wp2
                  go_ret2
                  exact ⟨ret2 (by rw [E.out.2, HM.out]) E.out.1.symm, HBR.out⟩
    · have E := Lib.hid (pr_len (ps := ps) hch (by rw [← HP.out, ← HN.out]; exact hpn))
      have hmm : ¬ (p : Int) = (n : Int) := by omega
      have hmm' : ((p : Int) == (n : Int)) = false := by simpa using hmm
      go_wp2
      go_ret2
      exact ⟨ret2 E.out.2.symm E.out.1.symm, HB2.out⟩
  · have E := Lib.hid (pr_ch (ps := ps) hch)
    have hne : (chE N == 0) = false := by simpa using hch
    have CC := Lib.hid (CheckR_c A B N n m cA cB w2 HN.out HM.out hA hB (HNA.out.below HB2.out (Nat.le_refl _)))
    generalize chE N = q at *
    go_wp2_with fail
    refine CC.out.mono ?_
    rintro e w3 ⟨rfl, hb3⟩
    go_wp2
    go_ret2
    exact ⟨ret2 E.out.2.symm E.out.1.symm, HB2.out.trans (hb3.mono HB2.out.size)⟩
end Go.Proofs.Ytmebpglkeedaoaa
namespace Go.Proofs.Ytmebpglkeedaoaa
open Go.RowKit Dp
theorem info4 : (Try.prog.info? 4).map (fun i => (i.zero, i.size, i.bytes)) = some (some (.bool false), 1, 1) := by kernel_rfl
theorem make_bools (n : Nat) (hn : n ≤ 4096) (W : World) : (Instr.makeSlice 93 (.int .i64 n) (.int .i64 n)).run Try.prog W = .ok (.slice (some ⟨W.heap.size, 0, none⟩) n n) (W.alloc (.cells (Array.replicate n (.bool false)) 4)) := by
  obtain ⟨i, hi, hz0, hz1, hz2⟩ := info_parts info4
  have hr := run_make (P := Try.prog) W 93 4 i _ Try.underlying93 hi hz0 .i64 .i64 n n (by omega) (by omega) (by rw [hz2]; omega) (by omega)
  simp only [Int.toNat_natCast, hz1, Nat.mul_one] at hr
  rw [hr]
  have e : madeCells (Value.bool false).cells n = Array.replicate n (.bool false) := by
    unfold madeCells
    apply Array.ext
    · simp
    · intro j h1 h2
      simp [Value.cells, Nat.mod_one]
  rw [e]
def marks (n : Nat) (c : List Int) (k : Nat) : List Value := (List.range n).map fun (i : Nat) => .bool (inK c k (i : Int))
theorem marks_zero (n : Nat) (c : List Int) : marks n c 0 = List.replicate n (.bool false) := by
  unfold marks
  apply List.ext_getElem
  · simp
  · intro i h1 h2
    simp [inK]
theorem marks_get {n : Nat} {c : List Int} {k i : Nat} (hi : i < n) : (marks n c k)[i]? = some (.bool (inK c k i)) := by
  unfold marks
  simp [hi]
theorem marks_succ {n : Nat} {c : List Int} {k : Nat} (hk : k < c.length) (h : cutAt n c k = true) : marks n c (k + 1) = (marks n c k).set (c.getD k 0).toNat (.bool true) := by
  have h1 := cutAt_iff.1 h
  apply List.ext_getElem
  · simp [marks]
  · intro i h2 h3
    rw [List.getElem_set]
    simp only [marks, List.getElem_map, List.getElem_range]
    rw [inK_succ hk]
    by_cases he : (c.getD k 0).toNat = i
    · rw [if_pos he]
      have : (i : Int) = c.getD k 0 := by omega
      rw [this]
      simp
    · rw [if_neg he]
      have : ¬ (i : Int) = c.getD k 0 := by omega
      rw [decide_eq_false this]
      simp
def LkJ (w : World) (A B : Option Addr) (n cA m cB g : Nat) (c : List Int) (k : Nat) (W : World) : Prop := Below w.heap.size w W ∧ Blk W w.heap.size 25 [.slice A n cA, .slice B m cB] ∧ Blk W g 4 (marks n c k)
theorem LkJ.below {w : World} {A B : Option Addr} {n cA m cB g : Nat} {c : List Int} {k : Nat} {W W' : World} (h : LkJ w A B n cA m cB g c k W) (hb : Below W.heap.size W W') : LkJ w A B n cA m cB g c k W' :=
  ⟨h.1.trans (hb.mono h.1.size), h.2.1.below hb h.2.1.lt, h.2.2.below hb h.2.2.lt⟩
theorem LkJ.mark {w : World} {A B : Option Addr} {n cA m cB g : Nat} {c : List Int} {k : Nat} {W : World} (h : LkJ w A B n cA m cB g c k W) (hg : w.heap.size < g) (hk : k < c.length) (hc : cutAt n c k = true) : LkJ w A B n cA m cB g c (k + 1) (W.setCell ⟨g, (c.getD k 0).toNat, none⟩ (.bool true)) :=
  ⟨h.1.setCell (by simp; omega) _, h.2.1.setCell_ne (by simp; omega) _, by rw [marks_succ hk hc]; exact h.2.2.setCell _ _⟩
end Go.Proofs.Ytmebpglkeedaoaa
namespace Go.Proofs.Ytmebpglkeedaoaa
open Go.RowKit Dp
theorem info150 : (Try.prog.info? 150).map (fun i => (i.zero, i.size, i.bytes)) = some (some (.agg #[.int .i64 0, .bool false]), 2, 16) := by kernel_rfl
def stC (s : Int × Bool) : List Value := [.int .i64 s.1, .bool s.2]
theorem stC_len (s : Int × Bool) : (stC s).length = 2 := rfl
def dcS (x : Int) : Int × Bool := if x < 0 then (-1, false) else (x / 2, decide (x % 2 = 1))
theorem make_steps (n : Nat) (hn : n ≤ 2048) (W : World) : (Instr.makeSlice 104 (.int .i64 n) (.int .i64 n)).run Try.prog W = .ok (.slice (some ⟨W.heap.size, 0, none⟩) n n) (W.alloc (.cells (flat stC (List.replicate n ((0 : Int), false))).toArray 150)) := by
  obtain ⟨i, hi, hz0, hz1, hz2⟩ := info_parts info150
  have hr := run_make (P := Try.prog) W 104 150 i _ Try.underlying104 hi hz0 .i64 .i64 n n (by omega) (by omega) (by rw [hz2]; omega) (by omega)
  simp only [Int.toNat_natCast, hz1] at hr
  rw [hr]
  have e1 : madeCells (Value.agg #[.int .i64 0, .bool false]).cells (n * 2) = (flat stC (List.replicate n ((0 : Int), false))).toArray := by
    unfold madeCells
    apply Array.ext
    · simp [flat_length (f := stC) (s := 2) stC_len]
    · intro j h1 h2
      have hj : j < n * 2 := by simpa using h1
      have h3 := flat_get (f := stC) (s := 2) stC_len (List.replicate n ((0 : Int), false)) (j / 2) (j % 2) (0, false) (by rw [List.getElem?_replicate, if_pos (by omega)]) (by omega)
      rw [show j / 2 * 2 + j % 2 = j by omega] at h3
      have h4 : (flat stC (List.replicate n ((0 : Int), false))).toArray[j] = (flat stC (List.replicate n ((0 : Int), false)))[j]'(by simpa using h2) := by simp
      rw [h4]
      have h5 : (flat stC (List.replicate n ((0 : Int), false)))[j]? = some ((flat stC (List.replicate n ((0 : Int), false)))[j]'(by simpa using h2)) := List.getElem?_eq_getElem _
      rw [h3] at h5
      have h6 : j % 2 = 0 ∨ j % 2 = 1 := by omega
      rcases h6 with h | h <;> (rw [h] at h5; simp [stC] at h5; rw [← h5]; simp [Value.cells, h])
  rw [e1]
section
variable {W V : World} {gc gs b n nq cq B : Nat} {cm : List (Int × Bool)} {sn : List Bool} {Aq : Option Addr} {xs : List Int} {cv : List Value} {w : World}
structure WyM (w : World) (gc gs : Nat) (cv : List Value) (cm : List (Int × Bool)) (sn : List Bool) (Aq : Option Addr) (nq cq : Nat) (xs : List Int) (W : World) : Prop where
  c : Blk W gc 150 (flat stC cm)
  s : Blk W gs 4 (sn.map .bool)
  q : OwnQ W w.heap.size Aq nq cq xs
  x : Blk W w.heap.size 25 cv
  gc : w.heap.size ≤ gc
  gs : w.heap.size ≤ gs
  bel : Below w.heap.size w W
theorem WyM.below (h : WyM w gc gs cv cm sn Aq nq cq xs W) (hb : Below W.heap.size W V) : WyM w gc gs cv cm sn Aq nq cq xs V :=
  ⟨h.c.below hb h.c.lt, h.s.below hb h.s.lt, h.q.below hb, h.x.below hb h.x.lt, h.gc, h.gs, h.bel.trans (hb.mono h.bel.size)⟩
theorem WyM.cell (h : WyM w gc gs cv cm sn Aq nq cq xs W) {v : Nat} (hv : v < cm.length) : W.cell? ⟨gc, v * 2, none⟩ = some (.int .i64 (cm.getD v (0, false)).1) ∧ W.cell? ⟨gc, v * 2 + 1, none⟩ = some (.bool (cm.getD v (0, false)).2) := by
  have hg := getElem_D cm v (0, false) hv
  exact ⟨h.c.cell (v * 2) (flat_get (f := stC) (s := 2) stC_len cm v 0 _ hg (by omega)), h.c.cell (v * 2 + 1) (flat_get (f := stC) (s := 2) stC_len cm v 1 _ hg (by omega))⟩
theorem WyM.seenAt (h : WyM w gc gs cv cm sn Aq nq cq xs W) {v : Nat} (hv : v < sn.length) : W.cell? ⟨gs, v, none⟩ = some (.bool (sn.getD v false)) := h.s.cell v (by rw [List.getElem?_map, getElem_D sn v false hv]; rfl)
theorem WyM.see (h : WyM w gc gs cv cm sn Aq nq cq xs W) (v : Nat) : WyM w gc gs cv cm (sn.set v true) Aq nq cq xs (W.setCell ⟨gs, v, none⟩ (.bool true)) :=
  ⟨h.c.setCell_ne (p := ⟨gs, v, none⟩) (fun e => blk_type_ne h.c h.s (by decide) e.symm) _, by have := h.s.setCell v (.bool true); rw [List.map_set]; exact this, h.q.set (p := ⟨gs, v, none⟩) (h.q.no h.s (by decide)) _, h.x.setCell_ne (p := ⟨gs, v, none⟩) (fun e => blk_type_ne h.x h.s (by decide) e.symm) _, h.gc, h.gs, h.bel.setCell (p := ⟨gs, v, none⟩) h.gs _⟩
theorem WyM.come (h : WyM w gc gs cv cm sn Aq nq cq xs W) {v : Nat} (hv : v < cm.length) (s : Int × Bool) : WyM w gc gs cv (cm.set v s) sn Aq nq cq xs ((W.setCell ⟨gc, v * 2, none⟩ (.int .i64 s.1)).setCell ⟨gc, v * 2 + 1, none⟩ (.bool s.2)) := by
  have hg := getElem_D cm v (0, false) hv
  have e1 := flat_set (f := stC) (s := 2) stC_len 0 (.int .i64 s.1) (by omega) cm v (s.1, (cm.getD v (0, false)).2) _ hg rfl
  have hg2 : (cm.set v (s.1, (cm.getD v (0, false)).2))[v]? = some (s.1, (cm.getD v (0, false)).2) := List.getElem?_set_self hv
  have e2 := flat_set (f := stC) (s := 2) stC_len 1 (.bool s.2) (by omega) (cm.set v (s.1, (cm.getD v (0, false)).2)) v s _ hg2 rfl
  rw [List.set_set] at e2
  have hc := (h.c.setCell (v * 2) (.int .i64 s.1)).setCell (v * 2 + 1) (.bool s.2)
  rw [Nat.add_zero] at e1
  rw [e1, e2] at hc
  exact ⟨hc, (h.s.setCell_ne (p := ⟨gc, v * 2, none⟩) (fun e => blk_type_ne h.s h.c (by decide) e.symm) _).setCell_ne (p := ⟨gc, v * 2 + 1, none⟩) (fun e => blk_type_ne h.s h.c (by decide) e.symm) _,
    (h.q.set (p := ⟨gc, v * 2, none⟩) (h.q.no h.c (by decide)) _).set (p := ⟨gc, v * 2 + 1, none⟩) (h.q.no h.c (by decide)) _,
    (h.x.setCell_ne (p := ⟨gc, v * 2, none⟩) (fun e => blk_type_ne h.x h.c (by decide) e.symm) _).setCell_ne (p := ⟨gc, v * 2 + 1, none⟩) (fun e => blk_type_ne h.x h.c (by decide) e.symm) _, h.gc, h.gs, (h.bel.setCell (p := ⟨gc, v * 2, none⟩) h.gc _).setCell (p := ⟨gc, v * 2 + 1, none⟩) h.gc _⟩
theorem WyM.grow {A' : Option Addr} {n' c' : Nat} {ys : List Int} (h : WyM w gc gs cv cm sn Aq nq cq xs W) (hq : OwnQ V w.heap.size A' n' c' ys) (hg : W.grownBy V (Value.slice Aq nq cq).ownBlock) : WyM w gc gs cv cm sn A' n' c' ys V := by
  have hne : ∀ {g t : Nat} {cs : List Value}, Blk W g t cs → t ≠ 3 → some g ≠ (Value.slice Aq nq cq).ownBlock := fun hb ht e => h.q.no hb ht ((ownB_iff (n := nq) (cap := cq)).2 e.symm)
  exact ⟨h.c.grown hg (hne h.c (by decide)), h.s.grown hg (hne h.s (by decide)), hq, h.x.grown hg (hne h.x (by decide)), h.gc, h.gs, h.bel.grown hg h.bel.size (fun k hk => (h.q.lt k ((ownB_iff (n := nq) (cap := cq)).2 hk)).1)⟩
structure WyG (n : Nat) (cm : List (Int × Bool)) (sn : List Bool) (S : List Nat) (vi : List Int) : Prop where
  cl : cm.length = n
  sl : sn.length = n
  vl : vi.length = n
  cm : ∀ v, v ∈ S → cm.getD v (0, false) = dcS (vi.getD v 0)
  sn : ∀ v, v < n → sn.getD v false = decide (v ∈ S)
theorem WyG.start (n : Nat) : WyG n (List.replicate n (0, false)) (List.replicate n false) [] (List.replicate n 0) :=
  ⟨by simp, by simp, by simp, fun v hv => by simp at hv, fun v hv => by simp [List.getD_eq_getElem?_getD, hv]⟩
theorem WyG.add {S : List Nat} {vi : List Int} (h : WyG n cm sn S vi) {v : Nat} (hv : v < n) (hS : v ∉ S) (x : Int) (s : Int × Bool) (hs : s = dcS x) : WyG n (cm.set v s) (sn.set v true) (v :: S) (vi.set v x) := by
  refine ⟨by simp [h.cl], by simp [h.sl], by simp [h.vl], fun u hu => ?_, fun u hu => ?_⟩
  · have e1 : (cm.set v s).getD u (0, false) = if u = v then s else cm.getD u (0, false) := by
      rw [List.getD_eq_getElem?_getD, List.getElem?_set, List.getD_eq_getElem?_getD]
      by_cases e : v = u
      · subst e; simp [h.cl, hv]
      · rw [if_neg e, if_neg (fun e2 => e e2.symm)]
    rw [e1, getD_setN _ _ _ _ (by rw [h.vl]; exact hv)]
    by_cases e : u = v
    · rw [if_pos e, if_pos e, hs]
    · rw [if_neg e, if_neg e]
      exact h.cm u (by rcases List.mem_cons.1 hu with h1 | h1; exact absurd h1 e; exact h1)
  · have e1 : (sn.set v true).getD u false = if u = v then true else sn.getD u false := by
      rw [List.getD_eq_getElem?_getD, List.getElem?_set, List.getD_eq_getElem?_getD]
      by_cases e : v = u
      · subst e; simp [h.sl, hv]
      · rw [if_neg e, if_neg (fun e2 => e e2.symm)]
    rw [e1]
    by_cases e : u = v
    · subst e; simp
    · rw [if_neg e, h.sn u hu]
      simp [e]
end
end Go.Proofs.Ytmebpglkeedaoaa
namespace Go.Proofs.Ytmebpglkeedaoaa
namespace Dp
structure Trip where
  fr : Int
  «to» : Int
  use : Int
  deriving Inhabited
structure Car where
  cap : Int
  inn : Int
  out : Int
  start : Int
  fin : Int
  trips : List Trip
  deriving Inhabited
structure Site where
  lim : List Int
  exp : List Int
  buy : List Int
  sell : List Int
structure Tab where
  inn : List (List Int)
  out : List (List Int)
def allB (n : Nat) (p : Nat → Bool) : Bool := (List.range n).all p
theorem allB_iff {n : Nat} {p : Nat → Bool} : allB n p = true ↔ ∀ j, j < n → p j = true := by simp [allB, List.all_eq_true]
def backAt (l : List Trip) : Nat → Int
  | 0 => 0
  | k + 1 => (l.getD k default).to
def tripOk (cap : Int) (n : Nat) (l : List Trip) (k : Nat) : Bool :=
  decide (backAt l k ≤ (l.getD k default).fr ∧ (l.getD k default).fr < (l.getD k default).to ∧ (l.getD k default).to ≤ n ∧ (0 ≤ (l.getD k default).use ∧ (l.getD k default).use ≤ cap))
def carHead (c : Car) : Bool := decide ((1 ≤ c.cap ∧ c.cap ≤ 1048576) ∧ (0 ≤ c.inn ∧ c.inn ≤ 1048576) ∧ (0 ≤ c.out ∧ c.out ≤ 1048576) ∧ (0 ≤ c.start ∧ c.start ≤ c.cap) ∧ (0 ≤ c.fin ∧ c.fin ≤ c.cap) ∧ c.trips.length ≤ 4)
def carOk (n : Nat) (c : Car) : Bool := carHead c && allB c.trips.length (tripOk c.cap n c.trips)
def slotOk (S : Site) (t : Nat) : Bool := decide ((0 ≤ S.lim.getD t 0 ∧ S.lim.getD t 0 ≤ 1048576) ∧ (0 ≤ S.exp.getD t 0 ∧ S.exp.getD t 0 ≤ 1048576) ∧ (0 ≤ S.buy.getD t 0 ∧ S.buy.getD t 0 ≤ 1048576) ∧ (0 ≤ S.sell.getD t 0 ∧ S.sell.getD t 0 ≤ S.buy.getD t 0))
def siteHead (S : Site) : Bool := decide ((1 ≤ S.lim.length ∧ S.lim.length ≤ 48) ∧ S.exp.length = S.lim.length ∧ S.buy.length = S.lim.length ∧ S.sell.length = S.lim.length)
def slotsOk (S : Site) : Bool := allB S.lim.length (slotOk S)
def carsOk (S : Site) (cs : List Car) : Bool := allB cs.length (fun i => carOk S.lim.length (cs.getD i default))
def stE (S : Site) (cs : List Car) : Int := if 8 < cs.length then 6 else if siteHead S && (slotsOk S && carsOk S cs) then 0 else 2
theorem stE_0 {S : Site} {cs : List Car} (h : stE S cs = 0) : cs.length ≤ 8 ∧ siteHead S = true ∧ (∀ t, t < S.lim.length → slotOk S t = true) ∧ (∀ i, i < cs.length → carOk S.lim.length (cs.getD i default) = true) := by
  unfold stE at h
  by_cases h1 : 8 < cs.length
  · rw [if_pos h1] at h; cases h
  · rw [if_neg h1] at h
    cases hb : (siteHead S && (slotsOk S && carsOk S cs))
    · rw [hb] at h; cases h
    · simp only [Bool.and_eq_true] at hb
      exact ⟨by omega, hb.1, allB_iff.1 hb.2.1, allB_iff.1 hb.2.2⟩
def useP (l : List Trip) (k : Int) : Nat → Int
  | 0 => 0
  | j + 1 => if (l.getD j default).fr = k then (l.getD j default).use else useP l k j
def awayP (l : List Trip) (k : Int) : Nat → Bool
  | 0 => false
  | j + 1 => awayP l k j || decide ((l.getD j default).fr ≤ k ∧ k < (l.getD j default).to)
def useC (c : Car) (k : Nat) : Int := useP c.trips k c.trips.length
def awayC (c : Car) (k : Nat) : Bool := awayP c.trips k c.trips.length
def lev (c : Car) (x y : List Int) : Nat → Int
  | 0 => c.start
  | k + 1 => lev c x y k + (x.getD k 0 - y.getD k 0 - useC c k)
def drP (T : Tab) (k : Nat) : Nat → Int
  | 0 => 0
  | i + 1 => drP T k i + ((T.inn.getD i []).getD k 0 - (T.out.getD i []).getD k 0)
def carG (c : Car) (x y : Int) (aw : Bool) : Bool := decide ((0 ≤ x ∧ x ≤ c.inn) ∧ (0 ≤ y ∧ y ≤ c.out) ∧ (aw = true → x + y = 0))
def carAt (cs : List Car) (T : Tab) (k i : Nat) : Bool := carG (cs.getD i default) ((T.inn.getD i []).getD k 0) ((T.out.getD i []).getD k 0) (awayC (cs.getD i default) k)
def least (c : Car) (y : List Int) (n k : Nat) : Int := if k < n then max (useC c k) (y.getD k 0) else c.fin
def levG (c : Car) (x y : List Int) (n k : Nat) : Bool := decide (least c y n k ≤ lev c x y k ∧ lev c x y k ≤ c.cap)
end Dp
end Go.Proofs.Ytmebpglkeedaoaa
namespace Go.Proofs.Ytmebpglkeedaoaa
open Go.RowKit Dp
def TripsAt (w : World) (A : Option Addr) (l : List Trip) : Prop :=
  ∀ i, i < l.length → ∃ ad, A = some ad ∧ ad.block < w.heap.size ∧ w.cell? (ad.add (i * 3)) = some (.int .i64 (l.getD i default).fr) ∧ w.cell? ⟨(ad.add (i * 3)).block, (ad.add (i * 3)).off + 1, none⟩ = some (.int .i64 (l.getD i default).to) ∧ w.cell? ⟨(ad.add (i * 3)).block, (ad.add (i * 3)).off + 2, none⟩ = some (.int .i64 (l.getD i default).use)
theorem TripsAt.below {w w1 : World} {A : Option Addr} {l : List Trip} (h : TripsAt w A l) {B : Nat} (hb : Below B w w1) (hB : w.heap.size ≤ B) : TripsAt w1 A l := by
  intro i hi
  obtain ⟨ad, e, hlt, c0, c1, c2⟩ := h i hi
  have hbl : (ad.add (i * 3)).block < B := by rw [block_add]; omega
  exact ⟨ad, e, Nat.lt_of_lt_of_le hlt hb.size, (hb.cell hbl).trans c0, (hb.cell (p := ⟨_, _, none⟩) hbl).trans c1, (hb.cell (p := ⟨_, _, none⟩) hbl).trans c2⟩
def SlAt (w : World) (v : Value) (xs : List Int) : Prop := ∃ A cap, v = .slice A xs.length cap ∧ xs.length ≤ cap ∧ cap ≤ 9223372036854775807 ∧ IntsAt w A xs
def TrAt (w : World) (v : Value) (l : List Trip) : Prop := ∃ A cap, v = .slice A l.length cap ∧ l.length ≤ cap ∧ cap ≤ 9223372036854775807 ∧ TripsAt w A l
theorem SlAt.below {w w1 : World} {v : Value} {l : List Int} (h : SlAt w v l) {B : Nat} (hb : Below B w w1) (hB : w.heap.size ≤ B) : SlAt w1 v l := by
  obtain ⟨A, c, e, h1, h2, h3⟩ := h
  exact ⟨A, c, e, h1, h2, h3.below hb hB⟩
theorem TrAt.below {w w1 : World} {v : Value} {l : List Trip} (h : TrAt w v l) {B : Nat} (hb : Below B w w1) (hB : w.heap.size ≤ B) : TrAt w1 v l := by
  obtain ⟨A, c, e, h1, h2, h3⟩ := h
  exact ⟨A, c, e, h1, h2, h3.below hb hB⟩
def CarsAt (w : World) (A : Option Addr) (l : List Car) : Prop :=
  ∀ i, i < l.length → ∃ ad, A = some ad ∧ ad.block < w.heap.size ∧ w.cell? (ad.add (i * 6)) = some (.int .i64 (l.getD i default).cap) ∧ w.cell? ⟨(ad.add (i * 6)).block, (ad.add (i * 6)).off + 1, none⟩ = some (.int .i64 (l.getD i default).inn) ∧ w.cell? ⟨(ad.add (i * 6)).block, (ad.add (i * 6)).off + 2, none⟩ = some (.int .i64 (l.getD i default).out) ∧ w.cell? ⟨(ad.add (i * 6)).block, (ad.add (i * 6)).off + 3, none⟩ = some (.int .i64 (l.getD i default).start) ∧ w.cell? ⟨(ad.add (i * 6)).block, (ad.add (i * 6)).off + 4, none⟩ = some (.int .i64 (l.getD i default).fin) ∧
    ∃ T cT, w.cell? ⟨(ad.add (i * 6)).block, (ad.add (i * 6)).off + 5, none⟩ = some (.slice T (l.getD i default).trips.length cT) ∧ ((l.getD i default).trips.length ≤ cT ∧ cT ≤ 9223372036854775807) ∧ TripsAt w T (l.getD i default).trips
theorem CarsAt.below {w w1 : World} {A : Option Addr} {l : List Car} (h : CarsAt w A l) {B : Nat} (hb : Below B w w1) (hB : w.heap.size ≤ B) : CarsAt w1 A l := by
  intro i hi
  obtain ⟨ad, e, hlt, c0, c1, c2, c3, c4, T, cT, c5, r, ht⟩ := h i hi
  have hbl : (ad.add (i * 6)).block < B := by rw [block_add]; omega
  exact ⟨ad, e, Nat.lt_of_lt_of_le hlt hb.size, (hb.cell hbl).trans c0, (hb.cell (p := ⟨_, _, none⟩) hbl).trans c1, (hb.cell (p := ⟨_, _, none⟩) hbl).trans c2, (hb.cell (p := ⟨_, _, none⟩) hbl).trans c3, (hb.cell (p := ⟨_, _, none⟩) hbl).trans c4, T, cT, (hb.cell (p := ⟨_, _, none⟩) hbl).trans c5, r, ht.below hb hB⟩
def RowsAt (w : World) (A : Option Addr) (l : List (List Int)) : Prop :=
  ∀ i, i < l.length → ∃ ad, A = some ad ∧ ad.block < w.heap.size ∧ ∃ T cT, w.cell? (ad.add i) = some (.slice T (l.getD i []).length cT) ∧ ((l.getD i []).length ≤ cT ∧ cT ≤ 9223372036854775807) ∧ IntsAt w T (l.getD i [])
theorem RowsAt.below {w w1 : World} {A : Option Addr} {l : List (List Int)} (h : RowsAt w A l) {B : Nat} (hb : Below B w w1) (hB : w.heap.size ≤ B) : RowsAt w1 A l := by
  intro i hi
  obtain ⟨ad, e, hlt, T, cT, c0, r, ht⟩ := h i hi
  exact ⟨ad, e, Nat.lt_of_lt_of_le hlt hb.size, T, cT, (hb.cell (by rw [block_add]; omega)).trans c0, r, ht.below hb hB⟩
def SiteAt (w : World) (A B C D : Option Addr) (S : Site) : Prop := IntsAt w A S.lim ∧ IntsAt w B S.exp ∧ IntsAt w C S.buy ∧ IntsAt w D S.sell
theorem SiteAt.below {w w1 : World} {A B C D : Option Addr} {S : Site} (h : SiteAt w A B C D S) {b : Nat} (hb : Below b w w1) (hB : w.heap.size ≤ b) : SiteAt w1 A B C D S :=
  ⟨h.1.below hb hB, h.2.1.below hb hB, h.2.2.1.below hb hB, h.2.2.2.below hb hB⟩
def TabAt (w : World) (A B : Option Addr) (T : Tab) : Prop := RowsAt w A T.inn ∧ RowsAt w B T.out
theorem TabAt.below {w w1 : World} {A B : Option Addr} {T : Tab} (h : TabAt w A B T) {b : Nat} (hb : Below b w w1) (hB : w.heap.size ≤ b) : TabAt w1 A B T := ⟨h.1.below hb hB, h.2.below hb hB⟩
end Go.Proofs.Ytmebpglkeedaoaa
namespace Go.Proofs.Ytmebpglkeedaoaa
open Go.RowKit Dp
end Go.Proofs.Ytmebpglkeedaoaa
namespace Go.Proofs.Ytmebpglkeedaoaa
namespace Dp
theorem carOk_iff {n : Nat} {c : Car} : carOk n c = true ↔ ((1 ≤ c.cap ∧ c.cap ≤ 1048576) ∧ (0 ≤ c.inn ∧ c.inn ≤ 1048576) ∧ (0 ≤ c.out ∧ c.out ≤ 1048576) ∧ (0 ≤ c.start ∧ c.start ≤ c.cap) ∧ (0 ≤ c.fin ∧ c.fin ≤ c.cap) ∧ c.trips.length ≤ 4) ∧ ∀ k, k < c.trips.length → tripOk c.cap n c.trips k = true := by
  unfold carOk carHead
  rw [Bool.and_eq_true, decide_eq_true_iff, allB_iff]
structure Keeps (S : Site) (cs : List Car) (T : Tab) : Prop where
  ok : stE S cs = 0
  li : T.inn.length = cs.length
  lo : T.out.length = cs.length
  ri : ∀ i, i < cs.length → (T.inn.getD i []).length = S.lim.length
  ro : ∀ i, i < cs.length → (T.out.getD i []).length = S.lim.length
  dr : ∀ k, k < S.lim.length → drP T k T.inn.length ≤ S.lim.getD k 0 ∧ -(S.exp.getD k 0) ≤ drP T k T.inn.length
  car : ∀ k, k < S.lim.length → ∀ i, i < cs.length → carAt cs T k i = true
  lv : ∀ i, i < cs.length → ∀ k, k ≤ S.lim.length → levG (cs.getD i default) (T.inn.getD i []) (T.out.getD i []) S.lim.length k = true
theorem carG_iff {c : Car} {x y : Int} {aw : Bool} : carG c x y aw = true ↔ (0 ≤ x ∧ x ≤ c.inn) ∧ (0 ≤ y ∧ y ≤ c.out) ∧ (aw = true → x + y = 0) := by unfold carG; rw [decide_eq_true_iff]
theorem levG_iff {c : Car} {x y : List Int} {n k : Nat} : levG c x y n k = true ↔ least c y n k ≤ lev c x y k ∧ lev c x y k ≤ c.cap := by unfold levG; rw [decide_eq_true_iff]
section
variable {S : Site} {cs : List Car} {T : Tab}
theorem Keeps.carok (h : Keeps S cs T) {i : Nat} (hi : i < cs.length) : carOk S.lim.length (cs.getD i default) = true := (stE_0 h.ok).2.2.2 i hi
theorem Keeps.last (h : Keeps S cs T) {i : Nat} (hi : i < cs.length) : (cs.getD i default).fin ≤ lev (cs.getD i default) (T.inn.getD i []) (T.out.getD i []) S.lim.length := by
  have h1 := (levG_iff.1 (h.lv i hi S.lim.length (Nat.le_refl _))).1
  unfold least at h1
  rw [if_neg (by omega)] at h1
  exact h1
end
end Dp
end Go.Proofs.Ytmebpglkeedaoaa
namespace Go.Proofs.Ytmebpglkeedaoaa
namespace Dp
def SlotBd (T : Tab) (k m : Nat) : Prop := ∀ i, i < m → (k < (T.inn.getD i []).length ∧ k < (T.out.getD i []).length) ∧ (0 ≤ (T.inn.getD i []).getD k 0 ∧ (T.inn.getD i []).getD k 0 ≤ 1048576) ∧ (0 ≤ (T.out.getD i []).getD k 0 ∧ (T.out.getD i []).getD k 0 ≤ 1048576)
def RowBd (n : Nat) (xs : List Int) : Prop := xs.length = n ∧ ∀ k, k < n → 0 ≤ xs.getD k 0 ∧ xs.getD k 0 ≤ 1048576
end Dp
end Go.Proofs.Ytmebpglkeedaoaa
namespace Go.Proofs.Ytmebpglkeedaoaa
open Go.RowKit Dp
end Go.Proofs.Ytmebpglkeedaoaa
namespace Go.Proofs.Ytmebpglkeedaoaa
open Go.RowKit Dp
end Go.Proofs.Ytmebpglkeedaoaa
namespace Go.Proofs.Ytmebpglkeedaoaa
open Go.RowKit Dp
def carV (c : Car) (T : Option Addr) (n cT : Nat) : Array Value := #[.int .i64 c.cap, .int .i64 c.inn, .int .i64 c.out, .int .i64 c.start, .int .i64 c.fin, .slice T n cT]
end Go.Proofs.Ytmebpglkeedaoaa
namespace Go.Proofs.Ytmebpglkeedaoaa
open Go.RowKit Dp
end Go.Proofs.Ytmebpglkeedaoaa
namespace Go.Proofs.Ytmebpglkeedaoaa
open Go Go.RowKit
end Go.Proofs.Ytmebpglkeedaoaa
namespace Go.Proofs.Ytmebpglkeedaoaa
open Go.RowKit Go.Shelf Dp
attribute [local go_sem] Oper.semAt_some
structure LvM (bc bi bo : Nat) (c : Car) (x y : List Int) (T A B : Option Addr) (q n m cT cA cB : Nat) (W : World) : Prop where
  kc : Blk W bc 63 (carV c T q cT).toList
  ki : Blk W bi 22 [.slice A n cA]
  ko : Blk W bo 22 [.slice B m cB]
  kt : TripsAt W T c.trips
  kx : IntsAt W A x
  ky : IntsAt W B y
theorem LvM.below {bc bi bo : Nat} {c : Car} {x y : List Int} {T A B : Option Addr} {q n m cT cA cB : Nat} {W V : World} (h : LvM bc bi bo c x y T A B q n m cT cA cB W) (hb : Below W.heap.size W V) : LvM bc bi bo c x y T A B q n m cT cA cB V :=
  ⟨h.kc.below hb h.kc.lt, h.ki.below hb h.ki.lt, h.ko.below hb h.ko.lt, h.kt.below hb (Nat.le_refl _), h.kx.below hb (Nat.le_refl _), h.ky.below hb (Nat.le_refl _)⟩
end Go.Proofs.Ytmebpglkeedaoaa
namespace Go.Proofs.Ytmebpglkeedaoaa
open Go.RowKit Dp
end Go.Proofs.Ytmebpglkeedaoaa
namespace Go.Proofs.Ytmebpglkeedaoaa
namespace Dp
section
variable {S : Site} {cs : List Car} {T : Tab}
end
end Dp
end Go.Proofs.Ytmebpglkeedaoaa
namespace Go.Proofs.Ytmebpglkeedaoaa
open Go Go.RowKit
def markOf (r : Nat) : Deferred := { target := .collected r, args := #[] }
def Marks (B : Nat) (ds : List Deferred) (W : World) : Prop := ∃ rs : List Nat, ds = rs.map markOf ∧ rs.Nodup ∧ ∀ r, r ∈ rs → B ≤ r ∧ W.heap[r]? = some (.deferred (some []))
theorem Marks.nil (B : Nat) (W : World) : Marks B [] W := ⟨[], rfl, List.nodup_nil, fun r h => by cases h⟩
theorem Marks.keep {B : Nat} {ds : List Deferred} {W W' : World} (h : Marks B ds W) (k : KeepsFrom B W W') : Marks B ds W' := by
  obtain ⟨rs, h1, h2, h3⟩ := h
  exact ⟨rs, h1, h2, fun r hr => ⟨(h3 r hr).1, k.same r _ (h3 r hr).1 (h3 r hr).2 rfl⟩⟩
theorem Marks.below {B : Nat} {ds : List Deferred} {W W' : World} (h : Marks B ds W) (k : Below W.heap.size W W') : Marks B ds W' := by
  obtain ⟨rs, h1, h2, h3⟩ := h
  exact ⟨rs, h1, h2, fun r hr => ⟨(h3 r hr).1, (k.block r (Array.getElem?_eq_some_iff.1 (h3 r hr).2).1).trans (h3 r hr).2⟩⟩
theorem Marks.cons {B D : Nat} {ds : List Deferred} {W0 W : World} (h0 : Marks B ds W0) (hz : W0.heap.size ≤ D) (hB : B ≤ D) (h : Marks B ds W) (hD : W.heap[D]? = some (.deferred (some []))) : Marks B (markOf D :: ds) W := by
  obtain ⟨rs, h1, h2, h3⟩ := h
  obtain ⟨rs0, h4, h5, h6⟩ := h0
  have e : rs0 = rs := by
    rw [h4] at h1
    have hinj : ∀ a b, markOf a = markOf b → a = b := fun a b e => by cases e; rfl
    clear h2 h3 h4 h5 h6
    induction rs0 generalizing rs with
    | nil => cases rs with
      | nil => rfl
      | cons a l => cases h1
    | cons a l ih => cases rs with
      | nil => cases h1
      | cons b m =>
        simp only [List.map_cons, List.cons.injEq] at h1
        rw [hinj _ _ h1.1, ih m h1.2]
  subst e
  refine ⟨D :: rs0, by rw [h1]; rfl, List.nodup_cons.2 ⟨fun hm => ?_, h2⟩, fun r hr => ?_⟩
  · have := (Array.getElem?_eq_some_iff.1 (h6 D hm).2).1
    omega
  · rcases List.mem_cons.1 hr with rfl | hr
    · exact ⟨hB, hD⟩
    · exact h3 r hr
end Go.Proofs.Ytmebpglkeedaoaa
namespace Go.Proofs.Ytmebpglkeedaoaa
open Go.RowKit Go.Shelf Dp
attribute [local go_sem] Oper.semAt_some
structure FtM (bs bt bc : Nat) (S : Site) (cs : List Car) (T : Tab) (A B C D E P Q : Option Addr) (n m p q cA cB cC cD cE cP cQ : Nat) (W : World) : Prop where
  ks : Blk W bs 51 [.slice A n cA, .slice B n cB, .slice C n cC, .slice D n cD]
  kt : Blk W bt 55 [.slice P p cP, .slice Q q cQ]
  kc : Blk W bc 52 [.slice E m cE]
  hs : SiteAt W A B C D S
  ht : TabAt W P Q T
  hc : CarsAt W E cs
theorem FtM.below {bs bt bc : Nat} {S : Site} {cs : List Car} {T : Tab} {A B C D E P Q : Option Addr} {n m p q cA cB cC cD cE cP cQ : Nat} {W V : World} (h : FtM bs bt bc S cs T A B C D E P Q n m p q cA cB cC cD cE cP cQ W) (hb : Below W.heap.size W V) : FtM bs bt bc S cs T A B C D E P Q n m p q cA cB cC cD cE cP cQ V :=
  ⟨h.ks.below hb h.ks.lt, h.kt.below hb h.kt.lt, h.kc.below hb h.kc.lt, h.hs.below hb (Nat.le_refl _), h.ht.below hb (Nat.le_refl _), h.hc.below hb (Nat.le_refl _)⟩
end Go.Proofs.Ytmebpglkeedaoaa
namespace Go.Proofs.Ytmebpglkeedaoaa
open Go.RowKit Go.Shelf Dp
attribute [local go_sem] Oper.semAt_some
end Go.Proofs.Ytmebpglkeedaoaa
namespace Go.Proofs.Ytmebpglkeedaoaa
open Go.RowKit Go.Shelf Dp
attribute [local go_sem] Oper.semAt_some
@[go_sem] theorem ix162_a (A B : Option Addr) (n m c d : Nat) (w : World) : (Instr.index 162 (.agg #[.slice A n c, .slice B m d]) (.int .i64 0)).run Try.prog w = .ok (.slice A n c) w := by kernel_rfl
@[go_sem] theorem ix162_b (A B : Option Addr) (n m c d : Nat) (w : World) : (Instr.index 162 (.agg #[.slice A n c, .slice B m d]) (.int .i64 1)).run Try.prog w = .ok (.slice B m d) w := by kernel_rfl
end Go.Proofs.Ytmebpglkeedaoaa
namespace Go.Proofs.Ytmebpglkeedaoaa
open Go.RowKit Go.Shelf Dp
attribute [local go_sem] Oper.semAt_some
end Go.Proofs.Ytmebpglkeedaoaa
namespace Go.Proofs.Ytmebpglkeedaoaa
open Go.RowKit Go.Shelf Dp
attribute [local go_sem] Oper.semAt_some
end Go.Proofs.Ytmebpglkeedaoaa
namespace Go.Proofs.Ytmebpglkeedaoaa
open Go.RowKit Go.Shelf Dp
attribute [local go_sem] Oper.semAt_some
end Go.Proofs.Ytmebpglkeedaoaa
namespace Go.Proofs.Ytmebpglkeedaoaa
open Go.RowKit Dp
end Go.Proofs.Ytmebpglkeedaoaa
namespace Go.Proofs.Ytmebpglkeedaoaa
namespace Dp
end Dp
end Go.Proofs.Ytmebpglkeedaoaa
namespace Go.Proofs.Ytmebpglkeedaoaa
namespace Dp
end Dp
end Go.Proofs.Ytmebpglkeedaoaa
namespace Go.Proofs.Ytmebpglkeedaoaa
open Go.RowKit Dp
end Go.Proofs.Ytmebpglkeedaoaa
namespace Go.Proofs.Ytmebpglkeedaoaa
namespace Dp
theorem mul_in {a b A B : Int} (ha : 0 ≤ a ∧ a ≤ A) (hb : 0 ≤ b ∧ b ≤ B) : 0 ≤ a * b ∧ a * b ≤ A * B :=
  ⟨Int.mul_nonneg ha.1 hb.1, Int.mul_le_mul ha.2 hb.2 hb.1 (by omega)⟩
theorem mul_neg {a b A B : Int} (ha : -A ≤ a ∧ a ≤ 0) (hb : 0 ≤ b ∧ b ≤ B) : -(A * B) ≤ a * b ∧ a * b ≤ 0 := by
  have h := mul_in (a := -a) (A := A) (by omega) hb
  rw [Int.neg_mul] at h
  omega
theorem Keeps.slot {S : Site} {cs : List Car} {T : Tab} (h : Keeps S cs T) {k : Nat} (hk : k < S.lim.length) : SlotBd T k cs.length := by
  intro i hi
  have h1 := carG_iff.1 (h.car k hk i hi)
  have h2 := (carOk_iff.1 (h.carok hi)).1
  have h3 := h.ri i hi
  have h4 := h.ro i hi
  omega
theorem Keeps.rows {S : Site} {cs : List Car} {T : Tab} (h : Keeps S cs T) {i : Nat} (hi : i < cs.length) : RowBd S.lim.length (T.inn.getD i []) ∧ RowBd S.lim.length (T.out.getD i []) := by
  refine ⟨⟨h.ri i hi, fun k hk => ?_⟩, ⟨h.ro i hi, fun k hk => ?_⟩⟩
  · exact (h.slot hk i hi).2.1
  · exact (h.slot hk i hi).2.2
end Dp
end Go.Proofs.Ytmebpglkeedaoaa
namespace Go.Proofs.Ytmebpglkeedaoaa
open Go.RowKit Dp
theorem own_form {W : World} {B e z n cap : Nat} {A : Option Addr} {xs : List Value} (h : W.ownsRow B e z (.slice A n cap) n xs) (hn : 0 < n) : ∃ g, A = some ⟨g, 0, none⟩ ∧ B ≤ g ∧ g < W.heap.size ∧ n ≤ cap ∧ cap ≤ 9223372036854775807 := by
  rcases h.2 with ⟨h1, h2⟩ | ⟨g, c, cur, hv, hb, hg, hnc, hcm, _⟩
  · simp only [Value.slice.injEq] at h1; omega
  · simp only [Value.slice.injEq, true_and] at hv
    obtain ⟨rfl, rfl⟩ := hv
    exact ⟨g, rfl, hb, (Array.getElem?_eq_some_iff.1 hg).1, hnc, by unfold maxLen at hcm; omega⟩
end Go.Proofs.Ytmebpglkeedaoaa
namespace Go.Proofs.Ytmebpglkeedaoaa
open Go.RowKit Dp
def stK (k : Nat) : Int × Bool := (((k / 2 : Nat) : Int), decide (k % 2 = 1))
theorem dcS_k (k : Nat) : dcS (k : Int) = stK k := by
  unfold dcS stK
  rw [if_neg (by omega)]
  have : ((k : Int) % 2 = 1) ↔ (k % 2 = 1) := by omega
  simp [this]
theorem dcS_even (i : Nat) : ((i : Int), false) = dcS ((2 * i : Nat) : Int) := by rw [dcS_k]; unfold stK; rw [show 2 * i / 2 = i by omega, show 2 * i % 2 = 0 by omega]; rfl
theorem dcS_odd (i : Nat) : ((i : Int), true) = dcS ((2 * i + 1 : Nat) : Int) := by rw [dcS_k]; unfold stK; rw [show (2 * i + 1) / 2 = i by omega, show (2 * i + 1) % 2 = 1 by omega]; rfl
theorem own_src {W : World} {B e z n cap : Nat} {A : Option Addr} {xs : List Value} (h : W.ownsRow B e z (.slice A n cap) n xs) : SrcRow W A n xs := by
  rcases h.2 with ⟨h1, h2⟩ | ⟨g, c, cur, hv, hb, hg, hnc, hcm, hs, ht⟩
  · cases h1; exact .inl ⟨rfl, rfl⟩
  · cases hv
    refine .inr ⟨_, rfl, fun j u hu => ?_⟩
    have hj : j < n * z := by rw [← h.1]; exact (List.getElem?_eq_some_iff.1 hu).1
    rw [show (⟨g, 0, none⟩ : Addr).add j = ⟨g, j, none⟩ from (by unfold Addr.add; split <;> simp_all), World.ownsRow.cellAt h j hj]
    exact hu
theorem flat_one (L : List (Int × Bool)) : ∀ u ∈ flat stC L, u.oneCell' = true := by
  intro u hu
  obtain ⟨s, _, hs⟩ := List.mem_flatMap.1 hu
  simp [stC] at hs
  rcases hs with rfl | rfl <;> rfl
section
variable {G : Gr} {n : Nat} {vi : List Int} {S P Q : List Nat}
theorem BfI.go1 {u i tn : Nat} (hG : G.Ok n) (hz : ∀ k, k < G.es.length → G.cost k = 0) (h : BfI G n vi S P Q (exE G u (2 * i))) (he : 2 * i < G.es.length) (ht : G.toA (2 * i) = tn) (hf : G.frA (2 * i) = u) (hu : u ∈ S) (hr : 0 < G.room (2 * i)) (hn : tn ∉ S) : BfI G n (vi.set tn ((2 * i : Nat) : Int)) (tn :: S) P (Q ++ [tn]) (exE G u (2 * i + 1)) := by
  subst ht
  exact h.visit hG hz he hf hu hr hn
theorem BfI.go2 {u i tn : Nat} (hG : G.Ok n) (hz : ∀ k, k < G.es.length → G.cost k = 0) (h : BfI G n vi S P Q (exE G u (2 * i + 1))) (he : 2 * i + 1 < G.es.length) (ht : G.toA (2 * i + 1) = tn) (hf : G.frA (2 * i + 1) = u) (hu : u ∈ S) (hr : 0 < G.room (2 * i + 1)) (hn : tn ∉ S) : BfI G n (vi.set tn ((2 * i + 1 : Nat) : Int)) (tn :: S) P (Q ++ [tn]) (exE G u (2 * (i + 1))) := by
  subst ht
  exact h.visit hG hz he hf hu hr hn
end
section
variable {W V : World} {gc gs n nq cq ga : Nat} {cm : List (Int × Bool)} {sn : List Bool} {Aq : Option Addr} {xs : List Int} {cv av : List Value} {w : World}
structure WyX (w : World) (gc gs : Nat) (cv : List Value) (cm : List (Int × Bool)) (sn : List Bool) (Aq : Option Addr) (nq cq : Nat) (xs : List Int) (ga : Nat) (av : List Value) (W : World) : Prop where
  m : WyM w gc gs cv cm sn Aq nq cq xs W
  y : Blk W ga 46 av
theorem WyX.below (h : WyX w gc gs cv cm sn Aq nq cq xs ga av W) (hb : Below W.heap.size W V) : WyX w gc gs cv cm sn Aq nq cq xs ga av V := ⟨h.m.below hb, h.y.below hb h.y.lt⟩
theorem WyX.see (h : WyX w gc gs cv cm sn Aq nq cq xs ga av W) (v : Nat) : WyX w gc gs cv cm (sn.set v true) Aq nq cq xs ga av (W.setCell ⟨gs, v, none⟩ (.bool true)) :=
  ⟨h.m.see v, h.y.setCell_ne (p := ⟨gs, v, none⟩) (fun e => blk_type_ne h.y h.m.s (by decide) e.symm) _⟩
theorem WyX.come (h : WyX w gc gs cv cm sn Aq nq cq xs ga av W) {v : Nat} (hv : v < cm.length) (s : Int × Bool) : WyX w gc gs cv (cm.set v s) sn Aq nq cq xs ga av ((W.setCell ⟨gc, v * 2, none⟩ (.int .i64 s.1)).setCell ⟨gc, v * 2 + 1, none⟩ (.bool s.2)) :=
  ⟨h.m.come hv s, (h.y.setCell_ne (p := ⟨gc, v * 2, none⟩) (fun e => blk_type_ne h.y h.m.c (by decide) e.symm) _).setCell_ne (p := ⟨gc, v * 2 + 1, none⟩) (fun e => blk_type_ne h.y h.m.c (by decide) e.symm) _⟩
theorem WyX.grow {A' : Option Addr} {n' c' : Nat} {ys : List Int} (h : WyX w gc gs cv cm sn Aq nq cq xs ga av W) (hq : OwnQ V w.heap.size A' n' c' ys) (hg : W.grownBy V (Value.slice Aq nq cq).ownBlock) : WyX w gc gs cv cm sn A' n' c' ys ga av V :=
  ⟨h.m.grow hq hg, h.y.grown hg (fun e => h.m.q.no h.y (by decide) ((ownB_iff (n := nq) (cap := cq)).2 e.symm))⟩
end
def WayP (G : Gr) (n : Nat) (w : World) (e : Ending) (w' : World) : Prop :=
  (e = .returned (.slice none 0 0) ∧ ∃ fa wi, NR G n [] fa wi (-1)) ∨
  (∃ (g c nk t s : Nat) (ks : List Nat) (vi : List Int), e = .returned (.slice (some ⟨g, 0, none⟩) nk c) ∧ nk = ks.length ∧ OwnR stC 150 2 w.heap.size w' (some ⟨g, 0, none⟩) c (ks.reverse.map stK) ∧ 0 < ks.length ∧ ks.length ≤ n ∧ Dp.Way G vi t ks s ∧ (t :: ks.map G.frA).Nodup ∧ s < n ∧ t < n ∧ 0 < G.lf s ∧ G.lf t < 0 ∧ ∀ k, k ∈ ks → 0 < G.room k)
set_option maxHeartbeats 16000000 in
set_option maxRecDepth 100000 in
theorem way_c (A B F Y : Option Addr) (N : Net) (G : Gr) (n m cA cB cF cY : Nat) (w : World) (hn : n = N.sup.length) (hm : m = N.arcs.length) (hch : chE N = 0) (hG : G.Ok n) (hf : Fits (zcN N) G)
    (hA : n ≤ cA ∧ cA ≤ 9223372036854775807) (hB : m ≤ cB ∧ cB ≤ 9223372036854775807) (hF : m ≤ cF ∧ cF ≤ 9223372036854775807) (hY : n ≤ cY ∧ cY ≤ 9223372036854775807) (hN : NetAt w A B N) (hFl : IntsAt w F (flowL N G)) (hL : IntsAt w Y G.left) :
    Calls Try.prog 98 #[.agg #[.slice A n cA, .slice B m cB], .slice F m cF, .slice Y n cY] w fun e w' => WayP G n w e w' ∧ Below w.heap.size w w' := by
  have n1 : 1 ≤ n ∧ n ≤ 1024 := hG.n1
  have m2 : m ≤ 2048 := by rw [hm]; exact (net_len hch).2.2
  have HG := Lib.hid hG
  have HFT := Lib.hid hf
  have HZC := Lib.hid (fits_cost hf)
  have HES : Hid (G.es.length = 2 * m) := Lib.hid (by rw [hf.es, fr_len, hm])
  have HTA : Hid (∀ i, i < m → (G.toA (2 * i) = toN N i ∧ G.toA (2 * i + 1) = frN N i) ∧ (G.frA (2 * i) = frN N i ∧ G.frA (2 * i + 1) = toN N i)) := Lib.hid (fun i hi => by
    have h1 : i < (zcN N).arcs.length := by rw [fr_len, ← hm]; exact hi
    have h2 := hf.t0 i h1
    have h3 := hf.fr i h1
    have e1 : toN (zcN N) i = toN N i := by unfold toN; rw [fr_get (by rw [← hm]; exact hi)]; rfl
    have e2 : frN (zcN N) i = frN N i := by unfold frN; rw [fr_get (by rw [← hm]; exact hi)]; rfl
    rw [e1, e2] at h2 h3
    exact ⟨h2, h3⟩)
  have HRM : Hid (∀ i, i < m → G.room (2 * i) + G.room (2 * i + 1) = (N.arcs.getD i default).cap ∧ 0 ≤ G.room (2 * i + 1)) := Lib.hid (fun i hi => by
    have h1 : i < (zcN N).arcs.length := by rw [fr_len, ← hm]; exact hi
    have h2 := hf.r0 i h1
    rw [fr_get (by rw [← hm]; exact hi)] at h2
    exact ⟨h2, (room_cap hG hf i h1).2⟩)
  have HAR : Hid (∀ V, Below w.heap.size w V → ∀ i, i < m → ∃ pb, B = some pb ∧ (pb.add (i * 4)).block < V.heap.size ∧ V.cell? (pb.add (i * 4)) = some (.int .i64 (frN N i : Nat)) ∧ V.cell? ⟨(pb.add (i * 4)).block, (pb.add (i * 4)).off + 1, none⟩ = some (.int .i64 (toN N i : Nat)) ∧ V.cell? ⟨(pb.add (i * 4)).block, (pb.add (i * 4)).off + 2, none⟩ = some (.int .i64 (N.arcs.getD i default).cap) ∧ V.cell? ⟨(pb.add (i * 4)).block, (pb.add (i * 4)).off + 3, none⟩ = some (.int .i64 (N.arcs.getD i default).cost)) := Lib.hid (fun V hV i hi => by
    obtain ⟨pb, e, h0, h1, h2, h3, h4⟩ := (hN.2.below hV (Nat.le_refl _)) i (by rw [← hm]; exact hi)
    have he := net_ends hch i (by rw [← hm]; exact hi)
    rw [he.1] at h1
    rw [he.2.1] at h2
    exact ⟨pb, e, by rw [block_add]; exact h0, h1, h2, h3, h4⟩)
  have HND : Hid (∀ i, i < m → frN N i < n ∧ toN N i < n ∧ frN N i ≠ toN N i) := Lib.hid (fun i hi => by
    have he := net_ends hch i (by rw [← hm]; exact hi)
    have ha := net_arc hch i (by rw [← hm]; exact hi)
    rw [hn]
    exact ⟨he.2.2.1, he.2.2.2, fun e => ha.2.2.1 (by rw [he.1, he.2.1, e])⟩)
  have HFL : Hid (∀ V, Below w.heap.size w V → ∀ i, i < m → ∃ pf, F = some pf ∧ (pf.add i).block < V.heap.size ∧ V.cell? (pf.add i) = some (.int .i64 (G.room (2 * i + 1)))) := Lib.hid (fun V hV i hi => by
    obtain ⟨pf, e, h0, h1⟩ := (hFl.below hV (Nat.le_refl _)) i (by rw [flowL_len, ← hm]; exact hi)
    rw [flowL_get (by rw [← hm]; exact hi)] at h1
    exact ⟨pf, e, by rw [block_add]; exact h0, h1⟩)
  have HLE : Hid (∀ V, Below w.heap.size w V → ∀ v, v < n → ∃ pl, Y = some pl ∧ (pl.add v).block < V.heap.size ∧ V.cell? (pl.add v) = some (.int .i64 (G.lf v))) := Lib.hid (fun V hV v hv => by
    obtain ⟨pl, e, h0, h1⟩ := (hL.below hV (Nat.le_refl _)) v (by rw [hG.ll]; exact hv)
    exact ⟨pl, e, by rw [block_add]; exact h0, h1⟩)
  have HNL : Hid (n = (zcN N).sup.length) := Lib.hid hn
  clear hn hm hch hG hf hN hFl hL
  have hmk1 := make_steps n (by omega)
  have hmk2 := make_bools n (by omega)
  obtain ⟨i3, h3i, h3z, h3s, h3b⟩ := info_parts info3
  obtain ⟨i150, h15i, h15z, h15s, h15b⟩ := info_parts info150
  have M0 : Hid (WyM w (w.heap.size + 1) (w.heap.size + 1 + 1) [.slice A n cA, .slice B m cB] (List.replicate n (0, false)) (List.replicate n false) none 0 0 [] (((w.alloc (.cells #[.slice A n cA, .slice B m cB] 25)).alloc (.cells (flat stC (List.replicate n ((0 : Int), false))).toArray 150)).alloc (.cells (Array.replicate n (.bool false)) 4))) := Lib.hid (by
    have x1 := Blk.new' w #[.slice A n cA, .slice B m cB] 25
    have x2 := Blk.new' (w.alloc (.cells #[.slice A n cA, .slice B m cB] 25)) (flat stC (List.replicate n ((0 : Int), false))).toArray 150
    have x3 := Blk.new' ((w.alloc (.cells #[.slice A n cA, .slice B m cB] 25)).alloc (.cells (flat stC (List.replicate n ((0 : Int), false))).toArray 150)) (Array.replicate n (.bool false)) 4
    refine ⟨?_, ?_, OwnQ.nil _ _, (x1.alloc _).alloc _, by omega, by omega, (((Below.refl w.heap.size w).alloc (Nat.le_refl _) _).alloc (by simp) _).alloc (by simp; omega) _⟩
    · simpa using x2.alloc (.cells (Array.replicate n (.bool false)) 4)
    · simpa using x3)
  go_enter Try.func98, Try.ntmps98
  go_upto_region 4 with fail
  generalize ((w.alloc (.cells #[.slice A n cA, .slice B m cB] 25)).alloc (.cells (flat stC (List.replicate n ((0 : Int), false))).toArray 150)).alloc (.cells (Array.replicate n (.bool false)) 4) = w1 at M0 ⊢
  obtain ⟨gc, hgc⟩ : ∃ g, g = w.heap.size + 1 := ⟨_, rfl⟩
  rw [← hgc] at M0 ⊢
  obtain ⟨gs, hgs⟩ : ∃ g, g = gc + 1 := ⟨_, rfl⟩
  rw [← hgs] at M0 ⊢
  clear hgc hgs
  go_wp2_with fail
  go_loopw [9, 10] (fun qv iv wr => ∃ (i : Nat) (Aq : Option Addr) (nq cq : Nat) (cm : List (Int × Bool)) (sn : List Bool) (S Q : List Nat) (vi : List Int), i ≤ n ∧ iv = .int .i64 i ∧ qv = .slice Aq nq cq ∧ nq = Q.length ∧ Q.length ≤ i ∧ Hid (BfS G n vi S Q i ∧ WyG n cm sn S vi ∧ WyM w gc gs [.slice A n cA, .slice B m cB] cm sn Aq nq cq (Q.map (fun v : Nat => (v : Int))) wr)) (fun _ iv _ => n - (intOf iv).toNat)
  case atStart => exact ⟨0, none, 0, 0, _, _, [], [], _, Nat.zero_le _, rfl, rfl, rfl, Nat.le_refl _, Lib.hid ⟨BfS.start G n, WyG.start n, M0.out⟩⟩
  case round =>
    clear M0
    obtain ⟨i, Aq, nq, cq, cm, sn, S, Q, vi, hi, rfl, rfl, hnq, hql, HJ⟩ := hrel
    have HB1 := Lib.hid HJ.out.1
    have HWG := Lib.hid HJ.out.2.1
    have M1 := Lib.hid HJ.out.2.2
    have HNQ := Lib.hid hnq
    have hnql : nq ≤ i := by omega
    clear HJ hnq
    by_cases hin : i < n
    · have hii : (i : Int) < (n : Int) := by omega
      have hidx : i < n := hin
      obtain ⟨pl, rfl, lb, lc⟩ := HLE.out _ M1.out.bel i hin
      have HNO := Lib.hid (fun h => HB1.out.no (i := i) h)
      have HYS := Lib.hid (fun h => HB1.out.yes hin (i := i) h)
      have hiS : i ∉ S := fun hm => absurd (HB1.out.lt i hm) (Nat.lt_irrefl i)
      have HWA := Lib.hid (HWG.out.add hin hiS (-1) (-1, false) rfl)
      generalize G.lf i = x at *
      by_cases hx : 0 < x
      · have d1 : decide (0 < x) = true := decide_eq_true hx
        have HCL := Lib.hid HWG.out.cl
        have HSL := Lib.hid HWG.out.sl
        have hcl2 : i < cm.length := by rw [HCL.out]; exact hidx
        have c0 := M1.out.seenAt (v := i) (by rw [HSL.out]; exact hidx)
        have z0 := M1.out.s.free i
        have l0 := M1.out.s.lt
        have M2 := Lib.hid (M1.out.see i)
        go_upto_region 9 with fail
        clear c0 z0 l0 M1
        generalize wr.setCell ⟨gs, i, none⟩ (.bool true) = w2 at *
        have c1 := (M2.out.cell hcl2).1
        have c2 := (M2.out.cell hcl2).2
        have z1 := M2.out.c.free (i * 2)
        have z2 := M2.out.c.free (i * 2 + 1)
        have l1 := M2.out.c.lt
        have M3 := Lib.hid (show WyM w gc gs [.slice A n cA, .slice B m cB] (cm.set i (-1, false)) (sn.set i true) Aq nq cq (Q.map (fun v : Nat => (v : Int))) ((w2.setCell ⟨gc, i * 2, none⟩ (.int .i64 (-1))).setCell ⟨gc, i * 2 + 1, none⟩ (.bool false)) from M2.out.come hcl2 (-1, false))
        go_upto_region 10 with fail
        clear c1 c2 z1 z2 l1 M2
        generalize (w2.setCell ⟨gc, i * 2, none⟩ (.int .i64 (-1))).setCell ⟨gc, i * 2 + 1, none⟩ (.bool false) = w3 at *
        have M4 := Lib.hid (M3.out.below ((Below.refl w3.heap.size w3).alloc (Nat.le_refl _) (.cells #[.int .i64 i] 3)))
        have X4 := Lib.hid (Blk.new' w3 #[.int .i64 i] 3)
        go_wp2_with (at_builtin; refine wpList_push_q (.tmp 39) (.tmp 41) 26 rfl rfl w.heap.size i3 Try.underlying26 h3i h3z h3s h3b Aq nq cq (Q.map (fun v : Nat => (v : Int))) (by rfl) M4.out.q ⟨w3.heap.size, 0, none⟩ 1 (i : Int) (by rfl) (X4.out.cell 0 rfl) (by omega) M4.out.bel.size ?_; intro A3 c3 w5 hq hg hat; have HE := Lib.hid (show BfS G n (vi.set i (-1)) (i :: S) (Q ++ [i]) (i + 1) ∧ WyG n (cm.set i (-1, false)) (sn.set i true) (i :: S) (vi.set i (-1)) ∧ WyM w gc gs [.slice A n cA, .slice B m cB] (cm.set i (-1, false)) (sn.set i true) A3 (nq + 1) c3 ((Q ++ [i]).map (fun v : Nat => (v : Int))) w5 from ⟨HYS.out hx, HWA.out, by rw [List.map_append]; exact M4.out.grow hq hg⟩); clear hq hg hat)
        exact ⟨⟨i + 1, A3, nq + 1, c3, _, _, _, _, _, by omega, by go_num, rfl, by rw [List.length_append, ← HNQ.out]; rfl, by rw [List.length_append]; simp; omega, HE⟩, by simp [intOf]; omega⟩
      · have d1 : decide (0 < x) = false := decide_eq_false hx
        have HE := Lib.hid (HNO.out hx)
        go_wp2_with fail
        exact ⟨⟨i + 1, Aq, nq, cq, cm, sn, S, Q, vi, by omega, by go_num, rfl, HNQ.out, by omega, Lib.hid ⟨HE.out, HWG.out, M1.out⟩⟩, by simp [intOf]; omega⟩
    · obtain rfl : n = i := by omega
      have HB2 := Lib.hid HB1.out.bf
      clear HB1 hql
      go_upto_region 11 with fail
      go_loopg [9] n (fun q qv wr => ∃ (Aq : Option Addr) (nq cq : Nat) (cm : List (Int × Bool)) (sn : List Bool) (S Q : List Nat) (vi : List Int) (P : List Nat), qv = .slice Aq nq cq ∧ nq = Q.length ∧ P.length + q = n ∧ P.length + Q.length ≤ n ∧ Hid (BfI G n vi S P Q (fun _ => False) ∧ WyG n cm sn S vi ∧ WyM w gc gs [.slice A n cA, .slice B m cB] cm sn Aq nq cq (Q.map (fun v : Nat => (v : Int))) wr))
      case atStart => exact ⟨Aq, nq, cq, cm, sn, S, Q, vi, [], rfl, HNQ.out, by simp, HB2.out.short, Lib.hid ⟨HB2.out, HWG.out, M1.out⟩⟩
      case round =>
        clear HB2 HWG M1 HNQ hnql
        obtain ⟨Aq, nq, cq, cm, sn, S, Q, vi, P, rfl, hnq, hpq, hps, HJ⟩ := hrel
        have HB1 := Lib.hid HJ.out.1
        have HWG := Lib.hid HJ.out.2.1
        have M1 := Lib.hid HJ.out.2.2
        have HPQ := Lib.hid hpq
        have HPS := Lib.hid hps
        clear HJ hpq hps
        cases Q with
        | nil =>
          have hn0 : nq = 0 := hnq
          subst hn0
          have HCU := Lib.hid (HB1.out.cut (N := N) HG.out HFT.out HNL.out HZC.out)
          clear hnq
          go_wp2_with fail
          go_ret
          exact ⟨.inl ⟨rfl, HCU.out⟩, M1.out.bel⟩
        | cons u Q =>
          obtain ⟨k, rfl⟩ : ∃ k, nq = k + 1 := ⟨Q.length, by simpa using hnq⟩
          have HNQ : Hid (k = Q.length) := Lib.hid (by simpa using hnq)
          clear hnq
          have hk : k + 1 ≤ n := by have h1 := HPS.out; have h2 := HNQ.out; rw [List.length_cons] at h1; omega
          have hq := M1.out.q
          obtain ⟨g0, o0, hAq⟩ : ∃ g0 o0, Aq = some ⟨g0, o0, none⟩ := by rcases hq.2 with ⟨_, h, _⟩ | ⟨g, k, cur, e, _⟩; omega; exact ⟨_, _, e⟩
          subst hAq
          obtain ⟨a, ea, q1, q2, _⟩ := hq.head
          cases ea
          simp only [List.map_cons, List.getD_cons_zero] at q2
          simp only at q1
          have hcq : k + 1 ≤ cq ∧ cq ≤ 9223372036854775807 := by rcases hq.2 with ⟨h, _⟩ | ⟨g, k, cur, e, _, _, h1, _, h2, _⟩; cases h; unfold maxLen at h2; omega
          have hun : u < n := HB1.out.lt u ((HB1.out.mem u).2 (.inr (by simp)))
          have MT := Lib.hid (show WyM w gc gs [.slice A n cA, .slice B m cB] cm sn (if cq = 1 then some ⟨g0, o0, none⟩ else some ⟨g0, o0 + 1, none⟩) k (cq - 1) (Q.map (fun v : Nat => (v : Int))) wr from { M1.out with q := by have := hq.tailIf; simpa using this })
          clear hq
          have huS : u ∈ S := (HB1.out.mem u).2 (.inr (by simp))
          obtain ⟨pl, rfl, lb, lc⟩ := HLE.out _ M1.out.bel u hun
          have hui : (u : Int) < (n : Int) := by omega
          obtain ⟨x, hx0⟩ : ∃ x, x = G.lf u := ⟨_, rfl⟩
          rw [← hx0] at lc
          have HX := Lib.hid hx0
          clear hx0
          go_upto_region 14 with fail
          generalize (if cq = 1 then some (⟨g0, o0, none⟩ : Addr) else some ⟨g0, o0 + 1, none⟩) = Aq at MT ⊢
          generalize cq - 1 = cqt at MT ⊢
          clear q1 q2 M1
          by_cases hx : x < 0
          · have d1 : decide (x < 0) = true := decide_eq_true hx
            obtain ⟨ks, s, hwy, hls, hrm, hnd, hsub⟩ := chn_way HB1.out.nd HB1.out.chn u huS
            have HWY := Lib.hid hwy
            have HRO := Lib.hid (fun k hk => (hrm k hk).1)
            have HND2 := Lib.hid hnd
            have HSU := Lib.hid hsub
            have HLS := Lib.hid hls
            have HKN : Hid (ks.length + 1 ≤ n) := Lib.hid (by
        have h1 := hnd.length_le_of_subset (l₂ := List.range n) (fun v hv => by simp; exact HB1.out.lt v (hsub v hv))
        simpa using h1)
            have HSN : Hid (s < n) := Lib.hid (HB1.out.lt s (hsub s hwy.last))
            have HK0 : Hid (0 < ks.length) := Lib.hid (by
        rcases ks with _ | ⟨k0, ks⟩
        · have e := hwy.2; rw [← e] at hls; have := HX.out; omega
        · simp)
            have HTN : Hid (G.lf u < 0) := Lib.hid (by rw [← HX.out]; exact hx)
            clear hwy hls hrm hnd hsub
            go_upto_region 16 with fail
            clear lb lc
            go_loopg [11, 12] ks.length (fun q av ov wr => ∃ (v nO cO : Nat) (OA : Option Addr), av = .int .i64 v ∧ ov = .slice OA nO cO ∧ Hid (∃ ks1 ks2 : List Nat, ks = ks1 ++ ks2 ∧ ks2.length = q ∧ nO = ks1.length ∧ v ∈ S ∧ Dp.Way G vi v ks2 s ∧ wr.ownsRow w.heap.size 150 2 (.slice OA nO cO) nO (flat stC (ks1.reverse.map stK)) ∧ WyM w gc gs [.slice A n cA, .slice B m cB] cm sn Aq k cqt (Q.map (fun v : Nat => (v : Int))) wr))
            case atStart => exact ⟨u, 0, 0, none, rfl, rfl, Lib.hid ⟨[], ks, rfl, rfl, rfl, huS, HWY.out, World.ownsRow_nil _ _ _ _, MT.out⟩⟩
            case round =>
              clear MT
              obtain ⟨v, nO, cO, OA, rfl, rfl, HJ⟩ := hrel
              obtain ⟨ks1, ks2, e0, eq, en, hvS, hw2, hown, hm⟩ := HJ.out
              clear HJ
              have HE0 := Lib.hid e0
              have HEQ := Lib.hid eq
              have HEN := Lib.hid en
              have HO := Lib.hid hown
              have M1 := Lib.hid hm
              clear e0 eq en hown hm
              have hvn : v < n := HB1.out.lt v hvS
              have HCV := Lib.hid (HWG.out.cm v hvS)
              obtain ⟨c0, c1⟩ := M1.out.cell (v := v) (by rw [HWG.out.cl]; exact hvn)
              rw [HCV.out] at c0 c1
              have l0 := M1.out.c.lt
              have hnO : nO ≤ 1024 := by have h1 := HKN.out; rw [HE0.out, List.length_append] at h1; have h2 := HEN.out; omega
              have hcO : nO ≤ cO ∧ cO ≤ 9223372036854775807 := by rcases HO.out.2 with ⟨h1, h2⟩ | ⟨g, c, cur, hv, hb, hg, hnc, hcm, _⟩ <;> (cases ‹Value.slice _ _ _ = _›) <;> (first | (unfold maxLen at hcm; omega) | omega)
              cases ks2 with
              | nil =>
                obtain ⟨e1, e2⟩ := hw2
                rw [e1] at c0 c1
                rw [show dcS (-1) = ((-1 : Int), false) from rfl] at c0 c1
                clear e1
                simp only at c0 c1
                rw [List.append_nil] at HE0
                have HO2 : Hid (wr.ownsRow w.heap.size 150 2 (.slice OA nO cO) nO (flat stC (ks.reverse.map stK))) := Lib.hid (by rw [HE0.out]; exact HO.out)
                have hn0 : 0 < nO := by have h1 := HK0.out; rw [HE0.out] at h1; have h2 := HEN.out; omega
                obtain ⟨g, rfl, hgB, hgl, _⟩ := own_form HO2.out hn0
                have HEN2 : Hid (nO = ks.length) := Lib.hid (by rw [HE0.out]; exact HEN.out)
                clear HE0 HEN HO e2
                go_wp2_with fail
                go_ret
                refine ⟨.inr ⟨g, cO, nO, u, s, ks, vi, rfl, HEN2.out, ?_, HK0.out, by have := HKN.out; omega, HWY.out, HND2.out, HSN.out, hun, HLS.out, HTN.out, HRO.out⟩, M1.out.bel⟩
                have h := HO2.out
                unfold OwnR
                rw [List.length_map, List.length_reverse, ← HEN2.out]
                exact h
              | cons k1 ks3 =>
                obtain ⟨e1, e2, e3, e4⟩ := hw2
                have HC2 : Hid (cm.getD v (0, false) = stK k1) := Lib.hid (by rw [HCV.out, e1, dcS_k])
                rw [e1, dcS_k] at c0 c1
                clear e1 HCV
                simp only [stK] at c0 c1
                have hkd : k1 / 2 < m ∧ (k1 = 2 * (k1 / 2) ∨ k1 = 2 * (k1 / 2) + 1) := by have := HES.out; omega
                have hw3 : G.frA k1 ∈ S := HSU.out _ (by rw [HE0.out]; simp)
                have HFA := Lib.hid (HTA.out (k1 / 2) hkd.1).2
                obtain ⟨pb, rfl, ab, a0, a1, _, _⟩ := HAR.out _ M1.out.bel (k1 / 2) hkd.1
                have HBB := Lib.hid HAR.out
                have hfn := HND.out (k1 / 2) hkd.1
                generalize hi : k1 / 2 = i at *
                generalize hbk : decide (k1 % 2 = 1) = bk at *
                have HSK : Hid (stK k1 = ((i : Int), bk)) := Lib.hid (by unfold stK; rw [hi, hbk])
                go_upto_region 17 with fail
                have hb4 := (Below.refl wr.heap.size wr).alloc (Nat.le_refl _) (.cells #[.int .i64 i, .bool bk] 150)
                have M4 := Lib.hid (M1.out.below hb4)
                have HO4 := Lib.hid (ownBelow HO.out hb4)
                have LIT : Hid ((wr.alloc (.cells #[.int .i64 i, .bool bk] 150)).ownsRow w.heap.size 150 2 (.slice (some ⟨wr.heap.size, 0, none⟩) 1 1) 1 (stC (stK k1))) := Lib.hid (by rw [HSK.out]; have := World.ownsRow_lit (base := w.heap.size) (e := 150) (size := 2) wr #[.int .i64 i, .bool bk] 1 M1.out.bel.size (by unfold maxLen; omega) rfl; exact this)
                have HLN : Hid ((flat stC (ks1.reverse.map stK)).length = nO * 2) := Lib.hid HO.out.1
                have HB4 := Lib.hid hb4
                rw [HSK.out] at HC2
                have hii : (i : Int) < (m : Int) := by omega
                clear hb4 HO a0 a1 ab
                go_upto_region 18 with (at_builtin; refine wpList_append_any (.tmp 66) (.tmp 67) 104 rfl rfl w.heap.size 150 i150 (.agg #[.int .i64 0, .bool false]) 2 16 Try.underlying104 h15i h15z h15s h15b rfl (by decide) (some ⟨wr.heap.size, 0, none⟩) 1 1 (stC (stK k1)) (by rfl) LIT.out OA nO cO (flat stC (ks1.reverse.map stK)) (by rfl) HLN.out (own_src HO4.out) (flat_one _) (by unfold maxLen; omega) (by omega) M4.out.bel.size ?_; intro A3 c3 w5 hown hgrow hat; have M5 := Lib.hid (M1.out.below (HB4.out.grown hgrow (by simp) (fun j e => by cases e; exact Nat.le_refl _))); have HO5 := Lib.hid hown; clear hown hgrow hat c0 c1 l0)
                clear M1 M4 HO4 LIT HLN HB4
                obtain ⟨c0, c1⟩ := M5.out.cell (v := v) (by rw [HWG.out.cl]; exact hvn)
                rw [HC2.out] at c0 c1
                simp only at c0 c1
                have l0 := M5.out.c.lt
                have x0 := M5.out.x.cell 1 rfl
                have xl := M5.out.x.lt
                obtain ⟨pb2, epb, ab, a0, a1, _, _⟩ := HBB.out _ M5.out.bel i hkd.1
                cases epb
                cases bk with
                | false =>
                  have hkk : k1 = 2 * i := by have := of_decide_eq_false hbk; omega
                  have hfr : G.frA k1 = frN N i := by rw [hkk]; exact HFA.out.1
                  rw [hfr] at hw3 e4
                  have HW3 := Lib.hid hw3
                  have HW4 := Lib.hid e4
                  have HQ1 : Hid (ks3.length < gk) := Lib.hid (by have h := HEQ.out; rw [List.length_cons] at h; omega)
                  clear hkk hfr hw3 e4 e2 e3 hbk hi hfn
                  go_upto_region 20 with fail
                  refine wp_region_past (by kernel_rfl) (by kernel_rfl) ?_
                  repeat (go_big_quiet_step (fail))
                  refine wpQuiet_nil ?_
                  intro xx
                  have M6 := Lib.hid (M5.out.below xx.far)
                  have HO6 := Lib.hid (ownBelow HO5.out xx.far)
                  generalize xx.w = w6 at M6 HO6 ⊢
                  clear M5 HO5 c0 c1 l0 x0 xl ab a0 a1
                  go_wp2_with fail
                  go_roundg ks3.length
                  case measure => exact HQ1.out
                  case rel => exact ⟨frN N i, 1 + nO, c3, A3, rfl, rfl, Lib.hid ⟨ks1 ++ [k1], ks3, by rw [HE0.out]; simp, rfl, by rw [List.length_append, ← HEN.out]; simp; omega, HW3.out, HW4.out, by have h := HO6.out; rw [show flat stC ((ks1 ++ [k1]).reverse.map stK) = stC (stK k1) ++ flat stC (ks1.reverse.map stK) by simp [flat]]; exact h, M6.out⟩⟩
                | true =>
                  have hkk : k1 = 2 * i + 1 := by have := of_decide_eq_true hbk; omega
                  have hfr : G.frA k1 = toN N i := by rw [hkk]; exact HFA.out.2
                  rw [hfr] at hw3 e4
                  have HW3 := Lib.hid hw3
                  have HW4 := Lib.hid e4
                  have HQ1 : Hid (ks3.length < gk) := Lib.hid (by have h := HEQ.out; rw [List.length_cons] at h; omega)
                  clear hkk hfr hw3 e4 e2 e3 hbk hi hfn
                  go_upto_region 19 with fail
                  refine wp_region_past (by kernel_rfl) (by kernel_rfl) ?_
                  repeat (go_big_quiet_step (fail))
                  refine wpQuiet_nil ?_
                  intro xx
                  have M6 := Lib.hid (M5.out.below xx.far)
                  have HO6 := Lib.hid (ownBelow HO5.out xx.far)
                  generalize xx.w = w6 at M6 HO6 ⊢
                  clear M5 HO5 c0 c1 l0 x0 xl ab a0 a1
                  go_wp2_with fail
                  go_roundg ks3.length
                  case measure => exact HQ1.out
                  case rel => exact ⟨toN N i, 1 + nO, c3, A3, rfl, rfl, Lib.hid ⟨ks1 ++ [k1], ks3, by rw [HE0.out]; simp, rfl, by rw [List.length_append, ← HEN.out]; simp; omega, HW3.out, HW4.out, by have h := HO6.out; rw [show flat stC ((ks1 ++ [k1]).reverse.map stK) = stC (stK k1) ++ flat stC (ks1.reverse.map stK) by simp [flat]]; exact h, M6.out⟩⟩
          · have d1 : decide (x < 0) = false := decide_eq_false hx
            have HB2 := Lib.hid (HB1.out.pop (by rw [← HX.out]; omega))
            have HNQ2 := Lib.hid HNQ.out
            clear HB1 HNQ hx
            obtain ⟨go, rfl⟩ : ∃ g, g = gk := ⟨_, rfl⟩
            go_upto_region 23 with fail
            clear lb lc
            go_loopg [9, 13] m (fun q qv iv wr => ∃ (i : Nat) (Aq : Option Addr) (nq cq : Nat) (cm : List (Int × Bool)) (sn : List Bool) (S Q : List Nat) (vi : List Int), i + q = m ∧ iv = .int .i64 i ∧ qv = .slice Aq nq cq ∧ Hid (nq = Q.length ∧ u ∈ S ∧ BfI G n vi S (u :: P) Q (exE G u (2 * i)) ∧ WyG n cm sn S vi ∧ WyM w gc gs [.slice A n cA, .slice B m cB] cm sn Aq nq cq (Q.map (fun v : Nat => (v : Int))) wr))
            case atStart => exact ⟨0, Aq, k, cqt, cm, sn, S, Q, vi, Nat.zero_add _, rfl, rfl, Lib.hid ⟨HNQ2.out, huS, HB2.out, HWG.out, MT.out⟩⟩
            case round =>
              clear MT HB2 HWG HNQ2 huS hk hcq
              obtain ⟨i, Aq, nq, cq, cm, sn, S, Q, vi, hi, rfl, rfl, HJ⟩ := hrel
              have HNQ := Lib.hid HJ.out.1
              have huS := HJ.out.2.1
              have HB1 := Lib.hid HJ.out.2.2.1
              have HWG := Lib.hid HJ.out.2.2.2.1
              have M1 := Lib.hid HJ.out.2.2.2.2
              clear HJ
              have hnq1 : nq ≤ 1024 := by have h1 := HB1.out.short; have h2 := HNQ.out; omega
              by_cases hin : i < m
              · have hii : (i : Int) < (m : Int) := by omega
                obtain ⟨⟨t1, t2⟩, t3, t4⟩ := HTA.out i hin
                have hR := HRM.out i hin
                have hN := HND.out i hin
                have hes : 2 * i + 1 < G.es.length := by have := HES.out; omega
                obtain ⟨pb, rfl, ab, a0, a1, a2, a3⟩ := HAR.out _ M1.out.bel i hin
                obtain ⟨pf, rfl, fb, f0⟩ := HFL.out _ M1.out.bel i hin
                have x0 := M1.out.x.cell 1 rfl
                have xl := M1.out.x.lt
                generalize toN N i = tn at *
                generalize frN N i = fr at *
                generalize (N.arcs.getD i default).cap = ca at *
                generalize (N.arcs.getD i default).cost = co at *
                obtain ⟨f, hf⟩ : ∃ f, f = G.room (2 * i + 1) := ⟨_, rfl⟩
                rw [← hf] at hR f0
                have HF := Lib.hid hf
                have HRE : Hid (G.room (2 * i) = ca - f) := Lib.hid (by omega)
                clear hf
                obtain ⟨hfn, htn, hne⟩ := hN
                have HT1 := Lib.hid t1
                have HT2 := Lib.hid t2
                have HT3 := Lib.hid t3
                have HT4 := Lib.hid t4
                have HES2 := Lib.hid hes
                have HR2 := Lib.hid hR
                clear t1 t2 t3 t4 hes hR
                have X1 := Lib.hid (show WyX w gc gs [.slice A n cA, .slice (some pb) m cB] cm sn Aq nq cq (Q.map (fun v : Nat => (v : Int))) wr.heap.size [.int .i64 fr, .int .i64 tn, .int .i64 ca, .int .i64 co] (wr.alloc (.cells #[.int .i64 fr, .int .i64 tn, .int .i64 ca, .int .i64 co] 46)) from ⟨M1.out.below ((Below.refl _ _).alloc (Nat.le_refl _) _), Blk.new' wr #[.int .i64 fr, .int .i64 tn, .int .i64 ca, .int .i64 co] 46⟩)
                have f1 : Hid ((wr.alloc (.cells #[.int .i64 fr, .int .i64 tn, .int .i64 ca, .int .i64 co] 46)).cell? (pf.add i) = some (.int .i64 f) ∧ (pf.add i).block < (wr.alloc (.cells #[.int .i64 fr, .int .i64 tn, .int .i64 ca, .int .i64 co] 46)).heap.size) := Lib.hid (by obtain ⟨pf2, e, h1, h2⟩ := HFL.out _ X1.out.m.bel i hin; cases e; rw [← HF.out] at h2; exact ⟨h2, h1⟩)
                clear M1
                go_upto_region 26 with fail
                clear a0 a1 a2 a3 ab f0 fb x0 xl
                generalize wr.alloc (.cells #[.int .i64 fr, .int .i64 tn, .int .i64 ca, .int .i64 co] 46) = w1 at X1 f1 ⊢
                generalize wr.heap.size = ga at X1 ⊢
                have y0 := X1.out.y.cell 0 rfl
                have y1 := X1.out.y.cell 1 rfl
                have y2 := X1.out.y.cell 2 rfl
                have yl := X1.out.y.lt
                have fc := f1.out.1
                have fl := f1.out.2
                have sc := X1.out.m.seenAt (v := tn) (by rw [HWG.out.sl]; exact htn)
                have sl := X1.out.m.s.lt
                rw [HWG.out.sn tn htn] at sc
                go_cut [127] from 102 to 176 (fun bv wc => ∃ b : Bool, bv = .bool b ∧ Hid (WyX w gc gs [.slice A n cA, .slice (some pb) m cB] cm sn Aq nq cq (Q.map (fun v : Nat => (v : Int))) ga [.int .i64 fr, .int .i64 tn, .int .i64 ca, .int .i64 co] wc ∧ (b = true → fr = u ∧ f < ca ∧ tn ∉ S) ∧ (b = false → ¬ (fr = u ∧ f < ca ∧ tn ∉ S))))
                case first =>
                  by_cases hat : fr = u
                  · have d4 : ((fr : Int) == (u : Int)) = true := by simp; omega
                    by_cases hfc : f < ca
                    · have d2 : decide (f < ca) = true := decide_eq_true hfc
                      by_cases hS : tn ∈ S
                      · have d3 : decide (tn ∈ S) = true := decide_eq_true hS
                        have HP : Hid (¬ (fr = u ∧ f < ca ∧ tn ∉ S)) := Lib.hid (fun h => h.2.2 hS)
                        refine wp_region_past (by kernel_rfl) (by kernel_rfl) ?_
                        repeat (go_big_quiet_step (fail))
                        refine wpQuiet_nil ?_
                        intro xx
                        have X2 := Lib.hid (X1.out.below xx.far)
                        generalize xx.w = w2 at X2 ⊢
                        clear y0 y1 y2 yl fc fl sc sl X1 f1
                        go_wp2_with fail
                        go_meet
                        case rel => exact ⟨false, rfl, Lib.hid ⟨X2.out, fun h => (by cases h), fun _ => HP.out⟩⟩
                      · have d3 : decide (tn ∈ S) = false := decide_eq_false hS
                        have HP : Hid (fr = u ∧ f < ca ∧ tn ∉ S) := Lib.hid (⟨hat, hfc, hS⟩)
                        refine wp_region_past (by kernel_rfl) (by kernel_rfl) ?_
                        repeat (go_big_quiet_step (fail))
                        refine wpQuiet_nil ?_
                        intro xx
                        have X2 := Lib.hid (X1.out.below xx.far)
                        generalize xx.w = w2 at X2 ⊢
                        clear y0 y1 y2 yl fc fl sc sl X1 f1
                        go_wp2_with fail
                        go_meet
                        case rel => exact ⟨true, rfl, Lib.hid ⟨X2.out, fun _ => HP.out, fun h => (by cases h)⟩⟩
                    · have d2 : decide (f < ca) = false := decide_eq_false hfc
                      have HP : Hid (¬ (fr = u ∧ f < ca ∧ tn ∉ S)) := Lib.hid (fun h => hfc h.2.1)
                      refine wp_region_past (by kernel_rfl) (by kernel_rfl) ?_
                      repeat (go_big_quiet_step (fail))
                      refine wpQuiet_nil ?_
                      intro xx
                      have X2 := Lib.hid (X1.out.below xx.far)
                      generalize xx.w = w2 at X2 ⊢
                      clear y0 y1 y2 yl fc fl sc sl X1 f1
                      go_wp2_with fail
                      go_meet
                      case rel => exact ⟨false, rfl, Lib.hid ⟨X2.out, fun h => (by cases h), fun _ => HP.out⟩⟩
                  · have d4 : ((fr : Int) == (u : Int)) = false := by simp; omega
                    have HP : Hid (¬ (fr = u ∧ f < ca ∧ tn ∉ S)) := Lib.hid (fun h => hat h.1)
                    refine wp_region_past (by kernel_rfl) (by kernel_rfl) ?_
                    repeat (go_big_quiet_step (fail))
                    refine wpQuiet_nil ?_
                    intro xx
                    have X2 := Lib.hid (X1.out.below xx.far)
                    generalize xx.w = w2 at X2 ⊢
                    clear y0 y1 y2 yl fc fl sc sl X1 f1
                    go_wp2_with fail
                    go_meet
                    case rel => exact ⟨false, rfl, Lib.hid ⟨X2.out, fun h => (by cases h), fun _ => HP.out⟩⟩
                case rest =>
                  clear y0 y1 y2 yl fc fl sc sl X1 f1
                  obtain ⟨b, rfl, HJ⟩ := hcut
                  have X2 := Lib.hid HJ.out.1
                  have HBT := Lib.hid HJ.out.2.1
                  have HBF := Lib.hid HJ.out.2.2
                  clear HJ
                  generalize wc = wd at X2 ⊢
                  go_upto_if 127 with fail
                  go_cut [9] from 102 to 176 (fun qv wc => ∃ (Aq : Option Addr) (nq cq : Nat) (cm : List (Int × Bool)) (sn : List Bool) (S Q : List Nat) (vi : List Int), qv = .slice Aq nq cq ∧ Hid (nq = Q.length ∧ u ∈ S ∧ BfI G n vi S (u :: P) Q (exE G u (2 * i + 1)) ∧ WyG n cm sn S vi ∧ WyX w gc gs [.slice A n cA, .slice (some pb) m cB] cm sn Aq nq cq (Q.map (fun v : Nat => (v : Int))) ga [.int .i64 fr, .int .i64 tn, .int .i64 ca, .int .i64 co] wc))
                  case first =>
                    cases b with
                    | false =>
                      have HE : Hid (BfI G n vi S (u :: P) Q (exE G u (2 * i + 1))) := Lib.hid (HB1.out.skip (fun _ h1 h2 => by
                          have h3 := HBF.out rfl
                          rw [HT3.out] at h1
                          rw [HRE.out] at h2
                          rw [HT1.out]
                          exact Decidable.byContradiction (fun h4 => h3 ⟨h1, by omega, h4⟩)))
                      go_wp2_with fail
                      go_meet
                      case rel => exact ⟨Aq, nq, cq, cm, sn, S, Q, vi, rfl, Lib.hid ⟨HNQ.out, huS, HE.out, HWG.out, X2.out⟩⟩
                    | true =>
                      have hc := HBT.out rfl
                      have HV := Lib.hid (BfI.go1 HG.out HZC.out HB1.out (by have := HES2.out; omega) HT1.out (HT3.out.trans hc.1) huS (by rw [HRE.out]; omega) hc.2.2)
                      have HWA := Lib.hid (HWG.out.add htn hc.2.2 ((2 * i : Nat) : Int) (((i : Nat) : Int), false) (dcS_even i))
                      clear hc
                      have HCL := Lib.hid HWG.out.cl
                      have HSL := Lib.hid HWG.out.sl
                      have y1 := X2.out.y.cell 1 rfl
                      have yl := X2.out.y.lt
                      have c0 := X2.out.m.seenAt (v := tn) (by rw [HSL.out]; exact htn)
                      have z0 := X2.out.m.s.free tn
                      have l0 := X2.out.m.s.lt
                      have X3 := Lib.hid (X2.out.see tn)
                      have hcl2 : tn < cm.length := by rw [HCL.out]; exact htn
                      go_upto_region 28 with fail
                      clear c0 z0 l0 X2 y1 yl
                      generalize wd.setCell ⟨gs, tn, none⟩ (.bool true) = w3 at X3 ⊢
                      have y1 := X3.out.y.cell 1 rfl
                      have yl := X3.out.y.lt
                      have c1 := (X3.out.m.cell hcl2).1
                      have c2 := (X3.out.m.cell hcl2).2
                      have z1 := X3.out.m.c.free (tn * 2)
                      have z2 := X3.out.m.c.free (tn * 2 + 1)
                      have l1 := X3.out.m.c.lt
                      have X4 := Lib.hid (X3.out.come hcl2 (((i : Nat) : Int), false))
                      go_upto_region 29 with fail
                      clear c1 c2 z1 z2 l1 X3 y1 yl
                      generalize (w3.setCell ⟨gc, tn * 2, none⟩ (.int .i64 i)).setCell ⟨gc, tn * 2 + 1, none⟩ (.bool false) = w4 at X4 ⊢
                      have y1 := X4.out.y.cell 1 rfl
                      have yl := X4.out.y.lt
                      have X5 := Lib.hid (X4.out.below ((Below.refl w4.heap.size w4).alloc (Nat.le_refl _) (.cells #[.int .i64 tn] 3)))
                      have L5 := Lib.hid (Blk.new' w4 #[.int .i64 tn] 3)
                      have HE : Hid (∀ A3 c3 w5, WyX w gc gs [.slice A n cA, .slice (some pb) m cB] (cm.set tn ((i : Int), false)) (sn.set tn true) A3 (nq + 1) c3 (Q.map (fun v : Nat => (v : Int)) ++ [(tn : Int)]) ga [.int .i64 fr, .int .i64 tn, .int .i64 ca, .int .i64 co] w5 → nq + 1 = (Q ++ [tn]).length ∧ u ∈ tn :: S ∧ BfI G n (vi.set tn ((2 * i : Nat) : Int)) (tn :: S) (u :: P) (Q ++ [tn]) (exE G u (2 * i + 1)) ∧ WyG n (cm.set tn ((i : Int), false)) (sn.set tn true) (tn :: S) (vi.set tn ((2 * i : Nat) : Int)) ∧ WyX w gc gs [.slice A n cA, .slice (some pb) m cB] (cm.set tn ((i : Int), false)) (sn.set tn true) A3 (nq + 1) c3 ((Q ++ [tn]).map (fun v : Nat => (v : Int))) ga [.int .i64 fr, .int .i64 tn, .int .i64 ca, .int .i64 co] w5) := Lib.hid (fun A3 c3 w5 h => ⟨by rw [List.length_append, HNQ.out]; rfl, List.mem_cons_of_mem _ huS, HV.out, HWA.out, by rw [List.map_append]; exact h⟩)
                      clear HV HWA HBT HBF
                      go_wp2_with (at_builtin; refine wpList_push_q (.tmp 138) (.tmp 141) 26 rfl rfl w.heap.size i3 Try.underlying26 h3i h3z h3s h3b Aq nq cq (Q.map (fun v : Nat => (v : Int))) (by rfl) X5.out.m.q ⟨w4.heap.size, 0, none⟩ 1 (tn : Int) (by rfl) (L5.out.cell 0 rfl) (by omega) X5.out.m.bel.size ?_; intro A3 c3 w5 hq hg hat2; have X6 := Lib.hid (X5.out.grow hq hg); clear hq hg hat2)
                      go_meet
                      case rel => exact ⟨A3, nq + 1, c3, _, _, _, _, _, rfl, Lib.hid (HE.out _ _ _ X6.out)⟩
                  case rest =>
                    clear HB1 HWG X2 HNQ hnq1 huS HBT HBF
                    obtain ⟨Aq, nq, cq, cm, sn, S, Q, vi, rfl, HJ⟩ := hcut
                    have HNQ := Lib.hid HJ.out.1
                    have huS := HJ.out.2.1
                    have HB1 := Lib.hid HJ.out.2.2.1
                    have HWG := Lib.hid HJ.out.2.2.2.1
                    have M1 := Lib.hid HJ.out.2.2.2.2
                    clear HJ
                    have hnq1 : nq ≤ 1024 := by have h1 := HB1.out.short; have h2 := HNQ.out; omega
                    have X1 := M1
                    have f1 : Hid (wc.cell? (pf.add i) = some (.int .i64 f) ∧ (pf.add i).block < wc.heap.size) := Lib.hid (by obtain ⟨pf2, e, h1, h2⟩ := HFL.out _ X1.out.m.bel i hin; cases e; rw [← HF.out] at h2; exact ⟨h2, h1⟩)
                    clear M1
                    go_upto_region 30 with fail
                    have y0 := X1.out.y.cell 0 rfl
                    have y1 := X1.out.y.cell 1 rfl
                    have y2 := X1.out.y.cell 2 rfl
                    have yl := X1.out.y.lt
                    have fc := f1.out.1
                    have fl := f1.out.2
                    have sc := X1.out.m.seenAt (v := fr) (by rw [HWG.out.sl]; exact hfn)
                    have sl := X1.out.m.s.lt
                    rw [HWG.out.sn fr hfn] at sc
                    go_cut [161] from 102 to 176 (fun bv wc => ∃ b : Bool, bv = .bool b ∧ Hid (WyX w gc gs [.slice A n cA, .slice (some pb) m cB] cm sn Aq nq cq (Q.map (fun v : Nat => (v : Int))) ga [.int .i64 fr, .int .i64 tn, .int .i64 ca, .int .i64 co] wc ∧ (b = true → tn = u ∧ 0 < f ∧ fr ∉ S) ∧ (b = false → ¬ (tn = u ∧ 0 < f ∧ fr ∉ S))))
                    case first =>
                      by_cases hat : tn = u
                      · have d4 : ((tn : Int) == (u : Int)) = true := by simp; omega
                        by_cases hfc : 0 < f
                        · have d2 : decide (0 < f) = true := decide_eq_true hfc
                          by_cases hS : fr ∈ S
                          · have d3 : decide (fr ∈ S) = true := decide_eq_true hS
                            have HP : Hid (¬ (tn = u ∧ 0 < f ∧ fr ∉ S)) := Lib.hid (fun h => h.2.2 hS)
                            have X2 := X1
                            go_wp2_with fail
                            go_meet
                            case rel => exact ⟨false, rfl, Lib.hid ⟨X2.out, fun h => (by cases h), fun _ => HP.out⟩⟩
                          · have d3 : decide (fr ∈ S) = false := decide_eq_false hS
                            have HP : Hid (tn = u ∧ 0 < f ∧ fr ∉ S) := Lib.hid (⟨hat, hfc, hS⟩)
                            have X2 := X1
                            go_wp2_with fail
                            go_meet
                            case rel => exact ⟨true, rfl, Lib.hid ⟨X2.out, fun _ => HP.out, fun h => (by cases h)⟩⟩
                        · have d2 : decide (0 < f) = false := decide_eq_false hfc
                          have HP : Hid (¬ (tn = u ∧ 0 < f ∧ fr ∉ S)) := Lib.hid (fun h => hfc h.2.1)
                          have X2 := X1
                          go_wp2_with fail
                          go_meet
                          case rel => exact ⟨false, rfl, Lib.hid ⟨X2.out, fun h => (by cases h), fun _ => HP.out⟩⟩
                      · have d4 : ((tn : Int) == (u : Int)) = false := by simp; omega
                        have HP : Hid (¬ (tn = u ∧ 0 < f ∧ fr ∉ S)) := Lib.hid (fun h => hat h.1)
                        have X2 := X1
                        go_wp2_with fail
                        go_meet
                        case rel => exact ⟨false, rfl, Lib.hid ⟨X2.out, fun h => (by cases h), fun _ => HP.out⟩⟩
                    case rest =>
                      clear y0 y1 y2 yl fc fl sc sl X1 f1
                      obtain ⟨b, rfl, HJ⟩ := hcut
                      have X2 := Lib.hid HJ.out.1
                      have HBT := Lib.hid HJ.out.2.1
                      have HBF := Lib.hid HJ.out.2.2
                      clear HJ
                      generalize wc = we at X2 ⊢
                      cases b with
                      | false =>
                        have HE : Hid (BfI G n vi S (u :: P) Q (exE G u (2 * (i + 1)))) := Lib.hid (HB1.out.skip (fun _ h1 h2 => by
                            have h3 := HBF.out rfl
                            rw [HT4.out] at h1
                            rw [← HF.out] at h2
                            rw [HT2.out]
                            exact Decidable.byContradiction (fun h4 => h3 ⟨h1, by omega, h4⟩)))
                        go_wp2_with fail
                        go_roundg (gk - 1)
                        case measure => omega
                        case rel => exact ⟨i + 1, Aq, nq, cq, cm, sn, S, Q, vi, by omega, by go_num, rfl, Lib.hid ⟨HNQ.out, huS, HE.out, HWG.out, X2.out.m⟩⟩
                      | true =>
                        have hc := HBT.out rfl
                        have HV := Lib.hid (BfI.go2 HG.out HZC.out HB1.out HES2.out HT2.out (HT4.out.trans hc.1) huS (by rw [← HF.out]; omega) hc.2.2)
                        have HWA := Lib.hid (HWG.out.add hfn hc.2.2 ((2 * i + 1 : Nat) : Int) (((i : Nat) : Int), true) (dcS_odd i))
                        clear hc
                        have HCL := Lib.hid HWG.out.cl
                        have HSL := Lib.hid HWG.out.sl
                        have y1 := X2.out.y.cell 0 rfl
                        have yl := X2.out.y.lt
                        have c0 := X2.out.m.seenAt (v := fr) (by rw [HSL.out]; exact hfn)
                        have z0 := X2.out.m.s.free fr
                        have l0 := X2.out.m.s.lt
                        have X3 := Lib.hid (X2.out.see fr)
                        have hcl2 : fr < cm.length := by rw [HCL.out]; exact hfn
                        go_upto_region 32 with fail
                        clear c0 z0 l0 X2 y1 yl
                        generalize we.setCell ⟨gs, fr, none⟩ (.bool true) = w3 at X3 ⊢
                        have y1 := X3.out.y.cell 0 rfl
                        have yl := X3.out.y.lt
                        have c1 := (X3.out.m.cell hcl2).1
                        have c2 := (X3.out.m.cell hcl2).2
                        have z1 := X3.out.m.c.free (fr * 2)
                        have z2 := X3.out.m.c.free (fr * 2 + 1)
                        have l1 := X3.out.m.c.lt
                        have X4 := Lib.hid (X3.out.come hcl2 (((i : Nat) : Int), true))
                        go_upto_region 33 with fail
                        clear c1 c2 z1 z2 l1 X3 y1 yl
                        generalize (w3.setCell ⟨gc, fr * 2, none⟩ (.int .i64 i)).setCell ⟨gc, fr * 2 + 1, none⟩ (.bool true) = w4 at X4 ⊢
                        have y1 := X4.out.y.cell 0 rfl
                        have yl := X4.out.y.lt
                        have X5 := Lib.hid (X4.out.below ((Below.refl w4.heap.size w4).alloc (Nat.le_refl _) (.cells #[.int .i64 fr] 3)))
                        have L5 := Lib.hid (Blk.new' w4 #[.int .i64 fr] 3)
                        have HE : Hid (∀ A3 c3 w5, WyX w gc gs [.slice A n cA, .slice (some pb) m cB] (cm.set fr ((i : Int), true)) (sn.set fr true) A3 (nq + 1) c3 (Q.map (fun v : Nat => (v : Int)) ++ [(fr : Int)]) ga [.int .i64 fr, .int .i64 tn, .int .i64 ca, .int .i64 co] w5 → nq + 1 = (Q ++ [fr]).length ∧ u ∈ fr :: S ∧ BfI G n (vi.set fr ((2 * i + 1 : Nat) : Int)) (fr :: S) (u :: P) (Q ++ [fr]) (exE G u (2 * (i + 1))) ∧ WyG n (cm.set fr ((i : Int), true)) (sn.set fr true) (fr :: S) (vi.set fr ((2 * i + 1 : Nat) : Int)) ∧ WyM w gc gs [.slice A n cA, .slice (some pb) m cB] (cm.set fr ((i : Int), true)) (sn.set fr true) A3 (nq + 1) c3 ((Q ++ [fr]).map (fun v : Nat => (v : Int))) w5) := Lib.hid (fun A3 c3 w5 h => ⟨by rw [List.length_append, HNQ.out]; rfl, List.mem_cons_of_mem _ huS, HV.out, HWA.out, by rw [List.map_append]; exact h.m⟩)
                        clear HV HWA HBT HBF
                        go_wp2_with (at_builtin; refine wpList_push_q (.tmp 172) (.tmp 175) 26 rfl rfl w.heap.size i3 Try.underlying26 h3i h3z h3s h3b Aq nq cq (Q.map (fun v : Nat => (v : Int))) (by rfl) X5.out.m.q ⟨w4.heap.size, 0, none⟩ 1 (fr : Int) (by rfl) (L5.out.cell 0 rfl) (by omega) X5.out.m.bel.size ?_; intro A3 c3 w5 hq hg hat2; have X6 := Lib.hid (X5.out.grow hq hg); clear hq hg hat2)
                        go_roundg (gk - 1)
                        case measure => omega
                        case rel => exact ⟨i + 1, A3, nq + 1, c3, _, _, _, _, _, by omega, by go_num, rfl, Lib.hid (HE.out _ _ _ X6.out)⟩
              · obtain rfl : m = i := by omega
                have HE : Hid (BfI G n vi S (u :: P) Q (fun _ => False)) := Lib.hid (BfI.over (by have h := HB1.out; rw [← HES.out] at h; exact h))
                have HPP : Hid ((u :: P).length + (go - 1) = n ∧ (u :: P).length + Q.length ≤ n ∧ go - 1 < go) := Lib.hid (by have h1 := HPQ.out; have h2 := HE.out.short; have h3 := HPS.out; rw [List.length_cons] at h2 ⊢; rw [List.length_cons] at h3; omega)
                have x0 := M1.out.x.cell 1 rfl
                have xl := M1.out.x.lt
                go_wp2_with fail
                go_roundg (go - 1)
                case measure => exact HPP.out.2.2
                case rel => exact ⟨Aq, nq, cq, cm, sn, S, Q, vi, u :: P, rfl, HNQ.out, HPP.out.1, HPP.out.2.1, Lib.hid ⟨HE.out, HWG.out, M1.out⟩⟩
end Go.Proofs.Ytmebpglkeedaoaa
namespace Go.Proofs.Ytmebpglkeedaoaa
open Go.RowKit Dp
namespace Dp
structure FitF (N : Net) (G : Gr) : Prop where
  es : G.es.length = 2 * N.arcs.length
  t0 : ∀ i, i < N.arcs.length → G.toA (2 * i) = toN N i ∧ G.toA (2 * i + 1) = frN N i
  r0 : ∀ i, i < N.arcs.length → G.room (2 * i) + G.room (2 * i + 1) = (N.arcs.getD i default).cap
theorem Fits.f {N : Net} {G : Gr} (h : Fits N G) : FitF N G := ⟨h.es, h.t0, h.r0⟩
theorem Fits.z {N : Net} {G : Gr} (h : Fits (zcN N) G) : FitF N G :=
  ⟨by rw [h.es, fr_len], fun i hi => by
    have h1 : i < (zcN N).arcs.length := by rw [fr_len]; exact hi
    have h2 := h.t0 i h1
    have e1 : toN (zcN N) i = toN N i := by unfold toN; rw [fr_get hi]; rfl
    have e2 : frN (zcN N) i = frN N i := by unfold frN; rw [fr_get hi]; rfl
    rw [e1, e2] at h2
    exact h2, fun i hi => by
    have h1 : i < (zcN N).arcs.length := by rw [fr_len]; exact hi
    have h2 := h.r0 i h1
    rw [fr_get hi] at h2
    exact h2⟩
theorem FitF.fr {N : Net} {G : Gr} (h : FitF N G) (i : Nat) (hi : i < N.arcs.length) : G.frA (2 * i) = frN N i ∧ G.frA (2 * i + 1) = toN N i := by
  unfold Gr.frA
  rw [tw_even, tw_odd]
  exact ⟨(h.t0 i hi).2, (h.t0 i hi).1⟩
def roomV (G : Gr) (E : List Nat) : Int := E.foldl (fun a k => min a (G.room k)) 1099511627776
theorem roomV_take (G : Gr) (E : List Nat) (j : Nat) (hj : j < E.length) : roomV G (E.take (j + 1)) = min (roomV G (E.take j)) (G.room (E.getD j 0)) := by
  unfold roomV
  rw [List.take_add_one, List.foldl_append, List.getElem?_eq_getElem hj, List.getD_eq_getElem?_getD, List.getElem?_eq_getElem hj]
  rfl
theorem roomV_le (G : Gr) : ∀ (E : List Nat) (a : Int), (∀ k, k ∈ E → E.foldl (fun a k => min a (G.room k)) a ≤ G.room k) ∧ E.foldl (fun a k => min a (G.room k)) a ≤ a
  | [], a => ⟨fun k hk => by simp at hk, Int.le_refl _⟩
  | k0 :: E, a => by
    have ih := roomV_le G E (min a (G.room k0))
    simp only [List.foldl_cons]
    refine ⟨fun k hk => ?_, by have := ih.2; omega⟩
    rcases List.mem_cons.1 hk with rfl | hk
    · have := ih.2; omega
    · exact ih.1 k hk
theorem roomV_pos (G : Gr) : ∀ (E : List Nat) (a : Int), 0 < a → (∀ k, k ∈ E → 0 < G.room k) → 0 < E.foldl (fun a k => min a (G.room k)) a
  | [], a, h, _ => h
  | k0 :: E, a, h, hE => by
    simp only [List.foldl_cons]
    refine roomV_pos G E _ ?_ (fun k hk => hE k (by simp [hk]))
    have := hE k0 (by simp)
    omega
theorem roomV_nn (G : Gr) : ∀ (E : List Nat) (a : Int), 0 ≤ a → (∀ k, k ∈ E → 0 ≤ G.room k) → 0 ≤ E.foldl (fun a k => min a (G.room k)) a
  | [], a, h, _ => h
  | k0 :: E, a, h, hE => by
    simp only [List.foldl_cons]
    refine roomV_nn G E _ ?_ (fun k hk => hE k (by simp [hk]))
    have := hE k0 (by simp)
    omega
end Dp
open Dp
theorem ref_ar {A B : Option Addr} {N : Net} {m : Nat} {w : World} (hm : m = N.arcs.length) (hch : chE N = 0) (hN : NetAt w A B N) : ∀ V, Below w.heap.size w V → ∀ i, i < m → ∃ pb, B = some pb ∧ (pb.add (i * 4)).block < V.heap.size ∧ V.cell? (pb.add (i * 4)) = some (.int .i64 (frN N i : Nat)) ∧ V.cell? ⟨(pb.add (i * 4)).block, (pb.add (i * 4)).off + 1, none⟩ = some (.int .i64 (toN N i : Nat)) ∧ V.cell? ⟨(pb.add (i * 4)).block, (pb.add (i * 4)).off + 2, none⟩ = some (.int .i64 (N.arcs.getD i default).cap) ∧ V.cell? ⟨(pb.add (i * 4)).block, (pb.add (i * 4)).off + 3, none⟩ = some (.int .i64 (N.arcs.getD i default).cost) := fun V hV i hi => by
  obtain ⟨pb, e, h0, h1, h2, h3, h4⟩ := (hN.2.below hV (Nat.le_refl _)) i (by rw [← hm]; exact hi)
  have he := net_ends hch i (by rw [← hm]; exact hi)
  rw [he.1] at h1
  rw [he.2.1] at h2
  exact ⟨pb, e, by rw [block_add]; exact h0, h1, h2, h3, h4⟩
theorem ref_fl {F : Option Addr} {N : Net} {G : Gr} {m : Nat} {w : World} (hm : m = N.arcs.length) (hFl : IntsAt w F (flowL N G)) : ∀ V, Below w.heap.size w V → ∀ i, i < m → ∃ pf, F = some pf ∧ (pf.add i).block < V.heap.size ∧ V.cell? (pf.add i) = some (.int .i64 (G.room (2 * i + 1))) := fun V hV i hi => by
  obtain ⟨pf, e, h0, h1⟩ := (hFl.below hV (Nat.le_refl _)) i (by rw [flowL_len, ← hm]; exact hi)
  rw [flowL_get (by rw [← hm]; exact hi)] at h1
  exact ⟨pf, e, by rw [block_add]; exact h0, h1⟩
theorem ref_st {W : World} {g c B : Nat} {E : List Nat} (h : OwnR stC 150 2 B W (some ⟨g, 0, none⟩) c (E.map stK)) (j : Nat) (hj : j < E.length) : W.cell? ⟨g, j * 2, none⟩ = some (.int .i64 ((E.getD j 0 / 2 : Nat) : Int)) ∧ W.cell? ⟨g, j * 2 + 1, none⟩ = some (.bool (decide (E.getD j 0 % 2 = 1))) := by
  have hx : (E.map stK)[j]? = some (stK (E.getD j 0)) := by rw [List.getElem?_map, List.getD_eq_getElem?_getD, List.getElem?_eq_getElem hj]; rfl
  exact ⟨OwnR.cell stC_len h j 0 _ hx (by omega), OwnR.cell stC_len h j 1 _ hx (by omega)⟩
set_option maxHeartbeats 4000000 in
set_option maxRecDepth 100000 in
theorem room_c (A B F : Option Addr) (N : Net) (G : Gr) (E : List Nat) (m n b cA cB cF g c nk : Nat) (w : World) (hm : m = N.arcs.length) (hch : chE N = 0) (hG : G.Ok b) (hf : FitF N G) (hE : ∀ k, k ∈ E → k < 2 * m) (hnk : nk = E.length) (hn : nk ≤ 1048576)
    (hB : m ≤ cB ∧ cB ≤ 9223372036854775807) (hF : m ≤ cF ∧ cF ≤ 9223372036854775807) (hc : nk ≤ c ∧ c ≤ 9223372036854775807) (hN : NetAt w A B N) (hFl : IntsAt w F (flowL N G)) (ho : OwnR stC 150 2 0 w (some ⟨g, 0, none⟩) c (E.map stK)) :
    Calls Try.prog 69 #[.agg #[.slice A n cA, .slice B m cB], .slice F m cF, .slice (some ⟨g, 0, none⟩) nk c] w fun e w' => e = .returned (.int .i64 (roomV G E)) ∧ Below w.heap.size w w' := by
  have m2 : m ≤ 2048 := by rw [hm]; exact (net_len hch).2.2
  have HAR := Lib.hid (ref_ar hm hch hN)
  have HFL := Lib.hid (ref_fl hm hFl)
  have HST : Hid (∀ V, Below w.heap.size w V → ∀ j, j < nk → V.cell? ⟨g, j * 2, none⟩ = some (.int .i64 ((E.getD j 0 / 2 : Nat) : Int)) ∧ V.cell? ⟨g, j * 2 + 1, none⟩ = some (.bool (decide (E.getD j 0 % 2 = 1))) ∧ g < V.heap.size) := Lib.hid (fun V hV j hj => by
    have h := ref_st (ho.below hV) j (by rw [← hnk]; exact hj)
    exact ⟨h.1, h.2, (ho.below hV).lt.2⟩)
  have HEK : Hid (∀ j, j < nk → E.getD j 0 < 2 * m) := Lib.hid (fun j hj => hE _ (by rw [List.getD_eq_getElem?_getD, List.getElem?_eq_getElem (by rw [← hnk]; exact hj)]; exact List.getElem_mem _))
  have HRB : Hid (∀ i, i < m → G.room (2 * i) + G.room (2 * i + 1) = (N.arcs.getD i default).cap ∧ 0 ≤ G.room (2 * i) ∧ 0 ≤ G.room (2 * i + 1) ∧ G.room (2 * i) + G.room (2 * i + 1) ≤ 1048576) := Lib.hid (fun i hi => by
    have h0 := hf.r0 i (by rw [← hm]; exact hi)
    have h1 := hG.rm (2 * i) (by rw [hf.es, ← hm]; omega)
    have h2 := hG.rm (2 * i + 1) (by rw [hf.es, ← hm]; omega)
    rw [tw_even] at h1
    exact ⟨h0, h1.1, h2.1, h1.2⟩)
  have HTK : Hid (∀ j, j < nk → roomV G (E.take (j + 1)) = min (roomV G (E.take j)) (G.room (E.getD j 0))) := Lib.hid (fun j hj => roomV_take G E j (by rw [← hnk]; exact hj))
  have HLE : Hid (∀ j, j ≤ nk → 0 ≤ roomV G (E.take j) ∧ roomV G (E.take j) ≤ 1099511627776) := Lib.hid (fun j hj => ⟨roomV_nn G _ _ (by decide) (fun k hk => (hG.rm k (by rw [hf.es, ← hm]; exact hE k (List.mem_of_mem_take hk))).1), (roomV_le G _ _).2⟩)
  have HEND : Hid (roomV G (E.take nk) = roomV G E) := Lib.hid (by rw [hnk, List.take_length])
  clear hm hch hG hf hE hnk hN hFl ho
  have X0 := Lib.hid (Blk.new' w #[.slice A n cA, .slice B m cB] 25)
  have B0 := Lib.hid ((Below.refl w.heap.size w).alloc (Nat.le_refl _) (.cells #[.slice A n cA, .slice B m cB] 25))
  go_enter Try.func69, Try.ntmps69
  go_upto_region 1 with fail
  generalize w.alloc (.cells #[.slice A n cA, .slice B m cB] 25) = w1 at X0 B0 ⊢
  go_wp2_with fail
  go_loopw [7, 8] (fun sv iv wr => ∃ j : Nat, j ≤ nk ∧ iv = .int .i64 j ∧ sv = .int .i64 (roomV G (E.take j)) ∧ Hid (Blk wr w.heap.size 25 [.slice A n cA, .slice B m cB] ∧ Below w.heap.size w wr)) (fun _ iv _ => nk - (intOf iv).toNat)
  case atStart => exact ⟨0, Nat.zero_le _, rfl, rfl, Lib.hid ⟨X0.out, B0.out⟩⟩
  case round =>
    clear X0 B0
    obtain ⟨j, hj, rfl, rfl, HJ⟩ := hrel
    by_cases hjn : j < nk
    · have hji : (j : Int) < (nk : Int) := by omega
      obtain ⟨c0, c1, gl⟩ := HST.out _ HJ.out.2 j hjn
      have hk := HEK.out j hjn
      have h1 := HTK.out j hjn
      have h2 := HLE.out j hj
      generalize hR1 : roomV G (E.take (j + 1)) = R1 at *
      have HR0 := Lib.hid hR1
      clear hR1
      generalize roomV G (E.take j) = R at *
      generalize hkk : E.getD j 0 = k at *
      clear hkk
      have hi : k / 2 < m := by omega
      have hii : ((k / 2 : Nat) : Int) < (m : Int) := by omega
      obtain ⟨pf, rfl, fb, f0⟩ := HFL.out _ HJ.out.2 (k / 2) hi
      obtain ⟨pb, rfl, ab, _, _, a2, _⟩ := HAR.out _ HJ.out.2 (k / 2) hi
      obtain ⟨r1, r2, r3, r4⟩ := HRB.out (k / 2) hi
      have x0 := HJ.out.1.cell 1 rfl
      have xl := HJ.out.1.lt
      have hm2 : k % 2 = 0 ∨ k % 2 = 1 := by omega
      have hke : k = 2 * (k / 2) + k % 2 := by omega
      generalize k / 2 = i at *
      generalize (N.arcs.getD i default).cap = ca at *
      obtain ⟨f, hf⟩ : ∃ f, f = G.room (2 * i + 1) := ⟨_, rfl⟩
      rw [← hf] at f0 r1 r3 r4
      rcases hm2 with e | e
      · rw [e] at c1 hke
        have hr : G.room k = ca - f := by rw [hke]; rw [Nat.add_zero]; omega
        rw [hr] at h1
        have c1 : wr.cell? ⟨g, j * 2 + 1, none⟩ = some (.bool false) := c1
        have HR1 := Lib.hid h1
        have hb : -2147483648 ≤ ca - f ∧ ca - f ≤ 2147483648 := by omega
        clear hr hke e hf h1 r1
        go_upto_region 7 with fail
        by_cases hlt : ca - f < R
        · have HE : Hid (R1 = ca - f) := Lib.hid (by rw [HR1.out]; omega)
          refine wp_region_past (by kernel_rfl) (by kernel_rfl) ?_
          repeat (go_big_quiet_step (fail))
          refine wpQuiet_nil ?_
          intro xx
          have HJ2 : Hid (Blk xx.w w.heap.size 25 [.slice A n cA, .slice (some pb) m cB] ∧ Below w.heap.size w xx.w) := Lib.hid ⟨HJ.out.1.below xx.far HJ.out.1.lt, HJ.out.2.trans (xx.far.mono HJ.out.2.size)⟩
          generalize xx.w = w2 at HJ2 ⊢
          go_wp2_with fail
          exact ⟨⟨j + 1, by omega, by go_num, by rw [HR0.out, HE.out], HJ2⟩, by simp [intOf]; omega⟩
        · have HE : Hid (R1 = R) := Lib.hid (by rw [HR1.out]; omega)
          have hlt2 : R ≤ ca - f := by omega
          refine wp_region_past (by kernel_rfl) (by kernel_rfl) ?_
          repeat (go_big_quiet_step (fail))
          refine wpQuiet_nil ?_
          intro xx
          have HJ2 : Hid (Blk xx.w w.heap.size 25 [.slice A n cA, .slice (some pb) m cB] ∧ Below w.heap.size w xx.w) := Lib.hid ⟨HJ.out.1.below xx.far HJ.out.1.lt, HJ.out.2.trans (xx.far.mono HJ.out.2.size)⟩
          generalize xx.w = w2 at HJ2 ⊢
          go_wp2_with fail
          exact ⟨⟨j + 1, by omega, by go_num, by rw [HR0.out, HE.out], HJ2⟩, by simp [intOf]; omega⟩
      · rw [e] at c1 hke
        have hr : G.room k = f := by rw [hke]; exact hf.symm
        rw [hr] at h1
        have c1 : wr.cell? ⟨g, j * 2 + 1, none⟩ = some (.bool true) := c1
        have HR1 := Lib.hid h1
        have hb : -2147483648 ≤ ca - f ∧ ca - f ≤ 2147483648 := by omega
        clear hr hke e hf h1 r1
        by_cases hlt : f < R
        · have HE : Hid (R1 = f) := Lib.hid (by rw [HR1.out]; omega)
          go_wp2_with fail
          exact ⟨⟨j + 1, by omega, by go_num, by rw [HR0.out, HE.out], HJ⟩, by simp [intOf]; omega⟩
        · have HE : Hid (R1 = R) := Lib.hid (by rw [HR1.out]; omega)
          have hlt2 : R ≤ f := by omega
          go_wp2_with fail
          exact ⟨⟨j + 1, by omega, by go_num, by rw [HR0.out, HE.out], HJ⟩, by simp [intOf]; omega⟩
    · obtain rfl : nk = j := by omega
      go_wp2_with fail
      go_ret
      exact ⟨ret_int HEND.out, HJ.out.2⟩
end Go.Proofs.Ytmebpglkeedaoaa
namespace Go.Proofs.Ytmebpglkeedaoaa
open Go.RowKit Dp
namespace Dp
theorem pushL_take (G : Gr) (E : List Nat) (x : Int) (j : Nat) (hj : j < E.length) : G.pushL (E.take (j + 1)) x = (G.pushL (E.take j) x).push1 (E.getD j 0) x := by
  unfold Gr.pushL
  rw [List.take_add_one, List.foldl_append, List.getElem?_eq_getElem hj, List.getD_eq_getElem?_getD, List.getElem?_eq_getElem hj]
  rfl
theorem flowL_push1 {N : Net} {H : Gr} {k : Nat} {x : Int} (hl : H.es.length = 2 * N.arcs.length) (hk : k < 2 * N.arcs.length) : flowL N (H.push1 k x) = (flowL N H).set (k / 2) (H.room (2 * (k / 2) + 1) + (if k % 2 = 1 then -x else x)) := by
  apply List.ext_getElem
  · simp [flowL]
  · intro i h1 h2
    have hi : i < N.arcs.length := by simpa [flowL] using h1
    have hr := push1_room (G := H) (k := k) (x := x) (by omega) (by unfold tw; split <;> omega) (2 * i + 1)
    rw [List.getElem_set]
    simp only [flowL, List.getElem_map, List.getElem_range]
    rw [hr, tw_odd]
    by_cases e : k / 2 = i
    · subst e
      rw [if_pos rfl]
      rcases Nat.mod_two_eq_zero_or_one k with e | e
      · rw [if_neg (by omega), if_pos (by omega), if_neg (by omega)]; omega
      · rw [if_pos (by omega), if_neg (by omega), if_pos e]; omega
    · rw [if_neg e, if_neg (by omega), if_neg (by omega)]; omega
theorem flowL_perm {N : Net} {G : Gr} {E ks : List Nat} {x : Int} (hl : G.es.length = 2 * N.arcs.length) (hE : ∀ k, k ∈ E → k < 2 * N.arcs.length) (hp : E.Perm ks) : flowL N (G.pushL E x) = flowL N (G.pushL ks x) := by
  have hb : ∀ k, k ∈ E → k < G.es.length ∧ tw k < G.es.length := fun k hk => by
    have := hE k hk
    refine ⟨by omega, ?_⟩
    unfold tw; split <;> omega
  have hb2 : ∀ k, k ∈ ks → k < G.es.length ∧ tw k < G.es.length := fun k hk => hb k (hp.mem_iff.2 hk)
  unfold flowL
  apply List.map_congr_left
  intro i hi
  rw [pushL_room hb, pushL_room hb2, hp.count_eq, hp.count_eq]
theorem pushL_bd {G : Gr} {n : Nat} {E : List Nat} {x : Int} (hG : G.Ok n) (hE : ∀ k, k ∈ E → k < G.es.length) (hn : E.Nodup) (h0 : 0 ≤ x) (j i : Nat) (hi : i < G.es.length) : G.room i - x ≤ (G.pushL (E.take j) x).room i ∧ (G.pushL (E.take j) x).room i ≤ G.room i + x := by
  have hb : ∀ k, k ∈ E.take j → k < G.es.length ∧ tw k < G.es.length := fun k hk => ⟨hE k (List.mem_of_mem_take hk), hG.tl (hE k (List.mem_of_mem_take hk))⟩
  rw [pushL_room hb]
  have hn2 : (E.take j).Nodup := hn.sublist (List.take_sublist _ _)
  have h1 : (E.take j).count i ≤ 1 := by rw [hn2.count]; split <;> omega
  have h2 : (E.take j).count (tw i) ≤ 1 := by rw [hn2.count]; split <;> omega
  generalize (E.take j).count i = a at *
  generalize (E.take j).count (tw i) = b at *
  have ha : a = 0 ∨ a = 1 := by omega
  have hb : b = 0 ∨ b = 1 := by omega
  rcases ha with rfl | rfl <;> rcases hb with rfl | rfl <;> simp <;> omega
end Dp
open Dp
set_option maxHeartbeats 4000000 in
set_option maxRecDepth 100000 in
theorem pushW_c (N : Net) (G : Gr) (E : List Nat) (m n b cF g gF c nk : Nat) (x : Int) (w : World) (hm : m = N.arcs.length) (hm2 : m ≤ 2048) (hG : G.Ok b) (hf : FitF N G) (hE : ∀ k, k ∈ E → k < 2 * m) (hnd : E.Nodup) (hx : 0 ≤ x ∧ x ≤ 1099511627776) (hnk : nk = E.length) (hn : nk ≤ 1048576)
    (hF : m ≤ cF ∧ cF ≤ 9223372036854775807) (hc : nk ≤ c ∧ c ≤ 9223372036854775807) (hFl : Fl 2 w gF (flowL N G)) (ho : OwnR stC 150 2 0 w (some ⟨g, 0, none⟩) c (E.map stK)) (hgf : g ≠ gF) :
    Calls Try.prog 68 #[.slice (some ⟨gF, 0, none⟩) m cF, .slice (some ⟨g, 0, none⟩) nk c, .int .i64 x] w fun e w' => e = .returned (.tuple #[]) ∧ Fl 2 w' gF (flowL N (G.pushL E x)) ∧ Touch (fun k => k = gF) w w' := by
  have HST : Hid (∀ V, Touch (fun k => k = gF) w V → ∀ j, j < nk → V.cell? ⟨g, j * 2, none⟩ = some (.int .i64 ((E.getD j 0 / 2 : Nat) : Int)) ∧ V.cell? ⟨g, j * 2 + 1, none⟩ = some (.bool (decide (E.getD j 0 % 2 = 1))) ∧ g < V.heap.size) := Lib.hid (fun V hV j hj => by
    have ho2 := ho.touch hV (fun k hk e => by obtain ⟨a, ea, hb⟩ := hk; cases ea; exact hgf (hb.trans e))
    have h := ref_st ho2 j (by rw [← hnk]; exact hj)
    exact ⟨h.1, h.2, ho2.lt.2⟩)
  have HEK : Hid (∀ j, j < nk → E.getD j 0 < 2 * m) := Lib.hid (fun j hj => hE _ (by rw [List.getD_eq_getElem?_getD, List.getElem?_eq_getElem (by rw [← hnk]; exact hj)]; exact List.getElem_mem _))
  have HFF : Hid (Fl 2 w gF (flowL N (G.pushL (E.take 0) x))) := Lib.hid hFl
  have HLN : Hid (∀ H, (flowL N H).length = m) := Lib.hid (fun H => by rw [flowL_len, ← hm])
  have HGE : Hid (∀ j, (flowL N (G.pushL (E.take j) x)).length = m ∧ ∀ i, i < m → ((flowL N (G.pushL (E.take j) x)).getD i 0 = (G.pushL (E.take j) x).room (2 * i + 1)) ∧ -2199023255552 ≤ (G.pushL (E.take j) x).room (2 * i + 1) ∧ (G.pushL (E.take j) x).room (2 * i + 1) ≤ 2199023255552) := Lib.hid (fun j => ⟨by rw [flowL_len, ← hm], fun i hi => ⟨flowL_get (by rw [← hm]; exact hi), by
    have h1 := pushL_bd hG (fun k hk => by rw [hf.es, ← hm]; exact hE k hk) hnd hx.1 j (2 * i + 1) (by rw [hf.es, ← hm]; omega)
    have h2 := hG.rm (2 * i + 1) (by rw [hf.es, ← hm]; omega)
    have h3 := hG.rm (tw (2 * i + 1)) (hG.tl (by rw [hf.es, ← hm]; omega))
    omega⟩⟩)
  have HPU : Hid (∀ j, j < nk → flowL N (G.pushL (E.take (j + 1)) x) = (flowL N (G.pushL (E.take j) x)).set (E.getD j 0 / 2) ((G.pushL (E.take j) x).room (2 * (E.getD j 0 / 2) + 1) + (if E.getD j 0 % 2 = 1 then -x else x))) := Lib.hid (fun j hj => by
    rw [pushL_take G E x j (by rw [← hnk]; exact hj)]
    have hb : ∀ k, k ∈ E.take j → k < G.es.length ∧ tw k < G.es.length := fun k hk => by
      have h1 : k < G.es.length := by rw [hf.es, ← hm]; exact hE k (List.mem_of_mem_take hk)
      exact ⟨h1, hG.tl h1⟩
    exact flowL_push1 (by rw [(pushL_alike hb).le]; exact hf.es) (by rw [← hm]; exact HEK.out j hj))
  have HEND : Hid (flowL N (G.pushL (E.take nk) x) = flowL N (G.pushL E x)) := Lib.hid (by rw [hnk, List.take_length])
  clear hm hG hf hE hnd hnk hFl ho hgf
  go_enter Try.func68, Try.ntmps68
  go_wp2_with fail
  go_loopw [6] (fun iv wr => ∃ j : Nat, j ≤ nk ∧ iv = .int .i64 j ∧ Hid (Fl 2 wr gF (flowL N (G.pushL (E.take j) x)) ∧ Touch (fun k => k = gF) w wr)) (fun iv _ => nk - (intOf iv).toNat)
  case atStart => exact ⟨0, Nat.zero_le _, rfl, Lib.hid ⟨HFF.out, Touch.refl _ _⟩⟩
  case round =>
    clear HFF
    obtain ⟨j, hj, rfl, HJ⟩ := hrel
    by_cases hjn : j < nk
    · have hji : (j : Int) < (nk : Int) := by omega
      obtain ⟨c0, c1, gl⟩ := HST.out _ HJ.out.2 j hjn
      have hk := HEK.out j hjn
      have h1 := HPU.out j hjn
      have hi : E.getD j 0 / 2 < m := by omega
      have hii : ((E.getD j 0 / 2 : Nat) : Int) < (m : Int) := by omega
      obtain ⟨hl, hg⟩ := HGE.out j
      obtain ⟨g1, g2⟩ := hg _ hi
      have f0 := HJ.out.1.cell (E.getD j 0 / 2) (by rw [hl]; exact hi)
      have fz := Blk.free HJ.out.1 (E.getD j 0 / 2)
      have fl := Blk.lt HJ.out.1
      rw [g1] at f0
      generalize (G.pushL (E.take j) x).room (2 * (E.getD j 0 / 2) + 1) = f at *
      generalize hkk : E.getD j 0 = k at *
      clear hkk hg g1 hl hk
      have hm2 : k % 2 = 0 ∨ k % 2 = 1 := by omega
      generalize k / 2 = i at *
      rcases hm2 with e | e
      · rw [e] at c1 h1
        have h2 : flowL N (G.pushL (E.take (j + 1)) x) = (flowL N (G.pushL (E.take j) x)).set i (f + x) := by rw [h1]; rw [if_neg (by omega)]
        have c1 : wr.cell? ⟨g, j * 2 + 1, none⟩ = some (.bool false) := c1
        have HE : Hid (Fl 2 (wr.setCell ⟨gF, i, none⟩ (.int .i64 (f + x))) gF (flowL N (G.pushL (E.take (j + 1)) x)) ∧ Touch (fun k => k = gF) w (wr.setCell ⟨gF, i, none⟩ (.int .i64 (f + x)))) := Lib.hid ⟨by rw [h2]; exact HJ.out.1.put i _, HJ.out.2.put i _⟩
        clear h1 h2 e
        go_wp2_with fail
        exact ⟨⟨j + 1, by omega, by go_num, HE⟩, by simp [intOf]; omega⟩
      · rw [e] at c1 h1
        have h2 : flowL N (G.pushL (E.take (j + 1)) x) = (flowL N (G.pushL (E.take j) x)).set i (f - x) := by rw [h1]; rw [if_pos rfl]; rfl
        have c1 : wr.cell? ⟨g, j * 2 + 1, none⟩ = some (.bool true) := c1
        have HE : Hid (Fl 2 (wr.setCell ⟨gF, i, none⟩ (.int .i64 (f - x))) gF (flowL N (G.pushL (E.take (j + 1)) x)) ∧ Touch (fun k => k = gF) w (wr.setCell ⟨gF, i, none⟩ (.int .i64 (f - x)))) := Lib.hid ⟨by rw [h2]; exact HJ.out.1.put i _, HJ.out.2.put i _⟩
        clear h1 h2 e
        go_wp2_with fail
        exact ⟨⟨j + 1, by omega, by go_num, HE⟩, by simp [intOf]; omega⟩
    · obtain rfl : nk = j := by omega
      go_wp2_with fail
      exact bodyPost_end (v := .tuple #[]) (by simp [results, Try.results68, go_sem]) rfl ⟨rfl, by rw [← HEND.out]; exact HJ.out.1, HJ.out.2⟩
end Go.Proofs.Ytmebpglkeedaoaa
namespace Go.Proofs.Ytmebpglkeedaoaa
open Go.RowKit Dp
set_option maxHeartbeats 4000000 in
set_option maxRecDepth 100000 in
theorem ends_c (A B : Option Addr) (N : Net) (G : Gr) (E : List Nat) (m n cA cB g c k : Nat) (w : World) (hm : m = N.arcs.length) (hch : chE N = 0) (hf : FitF N G) (hE : ∀ k, k ∈ E → k < 2 * m) (hnk : E.length = k + 1) (hn : k ≤ 1048576)
    (hB : m ≤ cB ∧ cB ≤ 9223372036854775807) (hc : k + 1 ≤ c ∧ c ≤ 9223372036854775807) (hN : NetAt w A B N) (ho : OwnR stC 150 2 0 w (some ⟨g, 0, none⟩) c (E.map stK)) :
    Calls Try.prog 99 #[.agg #[.slice A n cA, .slice B m cB], .slice (some ⟨g, 0, none⟩) (k + 1) c] w fun e w' => e = .returned (.tuple #[.int .i64 (G.frA (E.getD 0 0) : Nat), .int .i64 (G.toA (E.getD k 0) : Nat)]) ∧ Below w.heap.size w w' := by
  have m2 : m ≤ 2048 := by rw [hm]; exact (net_len hch).2.2
  have HAR := Lib.hid (ref_ar hm hch hN)
  have HND : Hid (∀ i, i < m → G.frA (2 * i) = frN N i ∧ G.frA (2 * i + 1) = toN N i ∧ G.toA (2 * i) = toN N i ∧ G.toA (2 * i + 1) = frN N i) := Lib.hid (fun i hi => ⟨(hf.fr i (by rw [← hm]; exact hi)).1, (hf.fr i (by rw [← hm]; exact hi)).2, (hf.t0 i (by rw [← hm]; exact hi)).1, (hf.t0 i (by rw [← hm]; exact hi)).2⟩)
  have HST : Hid (∀ V, Below w.heap.size w V → (V.cell? ⟨g, 0, none⟩ = some (.int .i64 ((E.getD 0 0 / 2 : Nat) : Int)) ∧ V.cell? ⟨g, 1, none⟩ = some (.bool (decide (E.getD 0 0 % 2 = 1)))) ∧ (V.cell? ⟨g, k * 2, none⟩ = some (.int .i64 ((E.getD k 0 / 2 : Nat) : Int)) ∧ V.cell? ⟨g, k * 2 + 1, none⟩ = some (.bool (decide (E.getD k 0 % 2 = 1)))) ∧ g < V.heap.size) := Lib.hid (fun V hV => by
    have h := ref_st (ho.below hV) 0 (by omega)
    have h2 := ref_st (ho.below hV) k (by omega)
    exact ⟨⟨by simpa using h.1, by simpa using h.2⟩, h2, (ho.below hV).lt.2⟩)
  have he0 : E.getD 0 0 < 2 * m := hE _ (by rw [List.getD_eq_getElem?_getD, List.getElem?_eq_getElem (by omega)]; exact List.getElem_mem _)
  have he1 : E.getD k 0 < 2 * m := hE _ (by rw [List.getD_eq_getElem?_getD, List.getElem?_eq_getElem (by omega)]; exact List.getElem_mem _)
  generalize E.getD 0 0 = k0 at *
  generalize E.getD k 0 = k1 at *
  have hi0 : k0 / 2 < m := by omega
  have hi1 : k1 / 2 < m := by omega
  have hii0 : ((k0 / 2 : Nat) : Int) < (m : Int) := by omega
  have hii1 : ((k1 / 2 : Nat) : Int) < (m : Int) := by omega
  have HB0 := Lib.hid (HND.out (k0 / 2) hi0)
  have HB1 := Lib.hid (HND.out (k1 / 2) hi1)
  clear hm hch hf hE hnk hN ho HND he0 he1
  have X0 := Lib.hid (Blk.new' w #[.slice A n cA, .slice B m cB] 25)
  have B0 := Lib.hid ((Below.refl w.heap.size w).alloc (Nat.le_refl _) (.cells #[.slice A n cA, .slice B m cB] 25))
  have hm0 : k0 % 2 = 0 ∨ k0 % 2 = 1 := by omega
  have hm1 : k1 % 2 = 0 ∨ k1 % 2 = 1 := by omega
  have hk0 : k0 = 2 * (k0 / 2) + k0 % 2 := by omega
  have hk1 : k1 = 2 * (k1 / 2) + k1 % 2 := by omega
  generalize hq0 : k0 / 2 = i0 at *
  generalize hq1 : k1 / 2 = i1 at *
  clear hq0 hq1
  go_enter Try.func99, Try.ntmps99
  go_upto_region 1 with fail
  generalize w.alloc (.cells #[.slice A n cA, .slice B m cB] 25) = w1 at X0 B0 ⊢
  obtain ⟨⟨c0, c1⟩, ⟨c2, c3⟩, gl⟩ := HST.out _ B0.out
  obtain ⟨pb, rfl, ab, a0, a1, _, _⟩ := HAR.out _ B0.out i0 hi0
  obtain ⟨pb2, eb, ab2, b0, b1, _, _⟩ := HAR.out _ B0.out i1 hi1
  cases eb
  have x0 := X0.out.cell 1 rfl
  have xl := X0.out.lt
  refine wp_region_past (by kernel_rfl) (by kernel_rfl) ?_
  repeat (go_big_quiet_step (fail))
  refine wpQuiet_nil ?_
  intro xx
  have X1 := Lib.hid (X0.out.below xx.far X0.out.lt)
  have B1 := Lib.hid (B0.out.trans (xx.far.mono B0.out.size))
  generalize xx.w = w2 at X1 B1 ⊢
  clear c0 c1 c2 c3 gl ab a0 a1 ab2 b0 b1 x0 xl
  rcases hm0 with e0 | e0
  · have hf0 : G.frA k0 = frN N i0 := by rw [hk0, e0]; exact HB0.out.1
    rw [e0] at HST
    rcases hm1 with e1 | e1
    · have hf1 : G.toA k1 = toN N i1 := by rw [hk1, e1]; exact HB1.out.2.2.1
      rw [e1] at HST
      have HF0 := Lib.hid hf0
      have HF1 := Lib.hid hf1
      have HST : Hid (∀ V, Below w.heap.size w V → (V.cell? ⟨g, 0, none⟩ = some (.int .i64 (i0 : Int)) ∧ V.cell? ⟨g, 1, none⟩ = some (.bool false)) ∧ (V.cell? ⟨g, k * 2, none⟩ = some (.int .i64 (i1 : Int)) ∧ V.cell? ⟨g, k * 2 + 1, none⟩ = some (.bool false)) ∧ g < V.heap.size) := HST
      clear hk0 hk1 e0 e1 hf0 hf1 HB0 HB1
      obtain ⟨⟨c0, c1⟩, ⟨c2, c3⟩, gl⟩ := HST.out _ B1.out
      obtain ⟨pb, eb, ab, a0, a1, _, _⟩ := HAR.out _ B1.out i0 hi0
      cases eb
      obtain ⟨pb2, eb, ab2, b0, b1, _, _⟩ := HAR.out _ B1.out i1 hi1
      cases eb
      have x0 := X1.out.cell 1 rfl
      have xl := X1.out.lt
      go_wp2_with fail
      exact bodyPost_ret (v := .tuple #[.int .i64 (frN N i0 : Nat), .int .i64 (toN N i1 : Nat)]) (by simp [results, Try.results99, go_sem]) rfl ⟨by rw [HF0.out, HF1.out], B1.out⟩
    · have hf1 : G.toA k1 = frN N i1 := by rw [hk1, e1]; exact HB1.out.2.2.2
      rw [e1] at HST
      have HF0 := Lib.hid hf0
      have HF1 := Lib.hid hf1
      have HST : Hid (∀ V, Below w.heap.size w V → (V.cell? ⟨g, 0, none⟩ = some (.int .i64 (i0 : Int)) ∧ V.cell? ⟨g, 1, none⟩ = some (.bool false)) ∧ (V.cell? ⟨g, k * 2, none⟩ = some (.int .i64 (i1 : Int)) ∧ V.cell? ⟨g, k * 2 + 1, none⟩ = some (.bool true)) ∧ g < V.heap.size) := HST
      clear hk0 hk1 e0 e1 hf0 hf1 HB0 HB1
      obtain ⟨⟨c0, c1⟩, ⟨c2, c3⟩, gl⟩ := HST.out _ B1.out
      obtain ⟨pb, eb, ab, a0, a1, _, _⟩ := HAR.out _ B1.out i0 hi0
      cases eb
      obtain ⟨pb2, eb, ab2, b0, b1, _, _⟩ := HAR.out _ B1.out i1 hi1
      cases eb
      have x0 := X1.out.cell 1 rfl
      have xl := X1.out.lt
      go_upto_region 5 with fail
      refine wp_region_past (by kernel_rfl) (by kernel_rfl) ?_
      repeat (go_big_quiet_step (fail))
      refine wpQuiet_nil ?_
      intro xx
      have X2 := Lib.hid (X1.out.below xx.far X1.out.lt)
      have B2 := Lib.hid (B1.out.trans (xx.far.mono B1.out.size))
      generalize xx.w = w4 at X2 B2 ⊢
      clear c0 c1 c2 c3 gl ab a0 a1 ab2 b0 b1 x0 xl
      go_wp2_with fail
      exact bodyPost_ret (v := .tuple #[.int .i64 (frN N i0 : Nat), .int .i64 (frN N i1 : Nat)]) (by simp [results, Try.results99, go_sem]) rfl ⟨by rw [HF0.out, HF1.out], B2.out⟩
  · have hf0 : G.frA k0 = toN N i0 := by rw [hk0, e0]; exact HB0.out.2.1
    rw [e0] at HST
    rcases hm1 with e1 | e1
    · have hf1 : G.toA k1 = toN N i1 := by rw [hk1, e1]; exact HB1.out.2.2.1
      rw [e1] at HST
      have HF0 := Lib.hid hf0
      have HF1 := Lib.hid hf1
      have HST : Hid (∀ V, Below w.heap.size w V → (V.cell? ⟨g, 0, none⟩ = some (.int .i64 (i0 : Int)) ∧ V.cell? ⟨g, 1, none⟩ = some (.bool true)) ∧ (V.cell? ⟨g, k * 2, none⟩ = some (.int .i64 (i1 : Int)) ∧ V.cell? ⟨g, k * 2 + 1, none⟩ = some (.bool false)) ∧ g < V.heap.size) := HST
      clear hk0 hk1 e0 e1 hf0 hf1 HB0 HB1
      obtain ⟨⟨c0, c1⟩, ⟨c2, c3⟩, gl⟩ := HST.out _ B1.out
      obtain ⟨pb, eb, ab, a0, a1, _, _⟩ := HAR.out _ B1.out i0 hi0
      cases eb
      obtain ⟨pb2, eb, ab2, b0, b1, _, _⟩ := HAR.out _ B1.out i1 hi1
      cases eb
      have x0 := X1.out.cell 1 rfl
      have xl := X1.out.lt
      go_upto_region 3 with fail
      refine wp_region_past (by kernel_rfl) (by kernel_rfl) ?_
      repeat (go_big_quiet_step (fail))
      refine wpQuiet_nil ?_
      intro xx
      have X2 := Lib.hid (X1.out.below xx.far X1.out.lt)
      have B2 := Lib.hid (B1.out.trans (xx.far.mono B1.out.size))
      generalize xx.w = w3 at X2 B2 ⊢
      clear c0 c1 c2 c3 gl ab a0 a1 ab2 b0 b1 x0 xl
      obtain ⟨⟨c0, c1⟩, ⟨c2, c3⟩, gl⟩ := HST.out _ B2.out
      obtain ⟨pb, eb, ab, a0, a1, _, _⟩ := HAR.out _ B2.out i0 hi0
      cases eb
      obtain ⟨pb2, eb, ab2, b0, b1, _, _⟩ := HAR.out _ B2.out i1 hi1
      cases eb
      have x0 := X2.out.cell 1 rfl
      have xl := X2.out.lt
      go_wp2_with fail
      exact bodyPost_ret (v := .tuple #[.int .i64 (toN N i0 : Nat), .int .i64 (toN N i1 : Nat)]) (by simp [results, Try.results99, go_sem]) rfl ⟨by rw [HF0.out, HF1.out], B2.out⟩
    · have hf1 : G.toA k1 = frN N i1 := by rw [hk1, e1]; exact HB1.out.2.2.2
      rw [e1] at HST
      have HF0 := Lib.hid hf0
      have HF1 := Lib.hid hf1
      have HST : Hid (∀ V, Below w.heap.size w V → (V.cell? ⟨g, 0, none⟩ = some (.int .i64 (i0 : Int)) ∧ V.cell? ⟨g, 1, none⟩ = some (.bool true)) ∧ (V.cell? ⟨g, k * 2, none⟩ = some (.int .i64 (i1 : Int)) ∧ V.cell? ⟨g, k * 2 + 1, none⟩ = some (.bool true)) ∧ g < V.heap.size) := HST
      clear hk0 hk1 e0 e1 hf0 hf1 HB0 HB1
      obtain ⟨⟨c0, c1⟩, ⟨c2, c3⟩, gl⟩ := HST.out _ B1.out
      obtain ⟨pb, eb, ab, a0, a1, _, _⟩ := HAR.out _ B1.out i0 hi0
      cases eb
      obtain ⟨pb2, eb, ab2, b0, b1, _, _⟩ := HAR.out _ B1.out i1 hi1
      cases eb
      have x0 := X1.out.cell 1 rfl
      have xl := X1.out.lt
      go_upto_region 3 with fail
      refine wp_region_past (by kernel_rfl) (by kernel_rfl) ?_
      repeat (go_big_quiet_step (fail))
      refine wpQuiet_nil ?_
      intro xx
      have X2 := Lib.hid (X1.out.below xx.far X1.out.lt)
      have B2 := Lib.hid (B1.out.trans (xx.far.mono B1.out.size))
      generalize xx.w = w3 at X2 B2 ⊢
      clear c0 c1 c2 c3 gl ab a0 a1 ab2 b0 b1 x0 xl
      obtain ⟨⟨c0, c1⟩, ⟨c2, c3⟩, gl⟩ := HST.out _ B2.out
      obtain ⟨pb, eb, ab, a0, a1, _, _⟩ := HAR.out _ B2.out i0 hi0
      cases eb
      obtain ⟨pb2, eb, ab2, b0, b1, _, _⟩ := HAR.out _ B2.out i1 hi1
      cases eb
      have x0 := X2.out.cell 1 rfl
      have xl := X2.out.lt
      go_upto_region 5 with fail
      refine wp_region_past (by kernel_rfl) (by kernel_rfl) ?_
      repeat (go_big_quiet_step (fail))
      refine wpQuiet_nil ?_
      intro xx
      have X3 := Lib.hid (X2.out.below xx.far X2.out.lt)
      have B3 := Lib.hid (B2.out.trans (xx.far.mono B2.out.size))
      generalize xx.w = w4 at X3 B3 ⊢
      clear c0 c1 c2 c3 gl ab a0 a1 ab2 b0 b1 x0 xl
      go_wp2_with fail
      exact bodyPost_ret (v := .tuple #[.int .i64 (toN N i0 : Nat), .int .i64 (frN N i1 : Nat)]) (by simp [results, Try.results99, go_sem]) rfl ⟨by rw [HF0.out, HF1.out], B3.out⟩
end Go.Proofs.Ytmebpglkeedaoaa
