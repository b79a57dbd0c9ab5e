/- Contracts that the claim leans on, part 7: V35 V36 P1 P1a P1b P2 LProofs K1 K2 K3 -/
import Derived.Test.YtlklnaebdnahcaaGreatCP6
import Derived.WalkKit
import Derived.ProofKit
import Derived.OpenShut
import Derived.Below
import Derived.ChangeSame
import Derived.WideKeyArgs
import Derived.Deep.Slices
set_option linter.unusedVariables false
set_option linter.unusedSimpArgs false
set_option linter.unnecessarySimpa false
namespace Go.Proofs.YtlklnaebdnahcaaGreat
open Go.RowKit Nw
def padF (i k : Nat) : Int := ((((k + 3) * (k + i + 5) * 123457) % 2147483647 : Nat) : Int)
def padL (i n : Nat) : List Int := (List.range n).map (padF i)
theorem padL_len (i n : Nat) : (padL i n).length = n := by simp [padL]
theorem padL_succ (i n : Nat) : padL i (n + 1) = padL i n ++ [padF i n] := by simp [padL, List.range_succ]
def intOfU : Value → Int
  | .int _ x => x
  | _ => 0
def xCn : List Cn := [⟨1000, padL 0 20⟩, ⟨1077, padL 1 20⟩]
theorem OwnR.cut {α : Type} {f : α → List Value} {s e B c : Nat} {W : World} {A : Option Addr} {l : List α} (hf : ∀ x, (f x).length = s) (h : OwnR f e s B W A c l) (k : Nat) (hk : k ≤ l.length) (hA : A ≠ none) : OwnR f e s B W A c (l.take k) := by
  have hlt : (l.take k).length = k := by rw [List.length_take]; omega
  rcases h.2 with ⟨h2, hx⟩ | ⟨g, c', cur, hv, hb, hg, hnc, hcm, hcs, htk⟩
  · injection h2 with e1 e2 e3
    exact absurd e1 hA
  · cases hv
    refine ⟨by rw [flatM_length hf], .inr ⟨g, c, cur, by rw [hlt], hb, hg, by omega, hcm, hcs, ?_⟩⟩
    rw [← flatM_take hf, ← htk, hlt, List.take_take]
    congr 1
    exact (Nat.min_eq_left (Nat.mul_le_mul_right _ hk)).symm
structure DealS (w W : World) (g6 g7 ge : Nat) (Ar : Option Addr) (cr n : Nat) (l q : List Ct) : Prop where
  b : Below w.heap.size w W
  h6 : Blk W g6 72 [.int .i64 0, .slice none 0 0, .int .i64 0, .slice none 0 0, .int .i64 0, .int .i64 0, .int .i64 0, .int .i64 0, .int .i64 0]
  h7 : Blk W g7 72 (DV ge Ar n cr 1000 2 3 100 100)
  e : BandsAt W (some ⟨ge, 0, none⟩) exBs
  r : OwnR ctV 199 2 w.heap.size W Ar cr l
  n : l.length = n
  o : ∀ k, OwnB Ar k → k ≠ g6 ∧ k ≠ g7 ∧ ge < k
  p : ∀ c ∈ q, OwnR pdV 196 1 w.heap.size W c.A c.cap c.ps ∧ ∀ k, OwnB c.A k → g7 < k
  z : w.heap.size ≤ g6 ∧ g6 ≠ g7 ∧ w.heap.size ≤ g7 ∧ ge < g7
theorem DealS.touch {w W W' : World} {g6 g7 ge : Nat} {Ar : Option Addr} {cr n : Nat} {l q : List Ct} (h : DealS w W g6 g7 ge Ar cr n l q) {s : Nat} (ht : Touch (fun k => s ≤ k) W W') (hs : W.heap.size ≤ s) : DealS w W' g6 g7 ge Ar cr n l q where
  b := Below.touch h.b h.b.size ht (fun k e => by have := h.b.size; omega)
  h6 := h.h6.touch ht (by have := h.h6.lt; omega)
  h7 := h.h7.touch ht (by have := h.h7.lt; omega)
  e := h.e.touch ht (fun k hk => by
    obtain ⟨ad, e, hlt, _⟩ := h.e 0 (by decide)
    obtain ⟨a, ea, eb⟩ := hk
    cases e
    cases ea
    have h1 : ge < W.heap.size := hlt
    have h2 : ge = k := eb
    omega)
  r := h.r.touch ht (fun k hk => by have := (rowE_lt h.r hk).2; omega)
  n := h.n
  o := h.o
  p := fun c hc => ⟨(h.p c hc).1.touch ht (fun k hk => by have := (rowE_lt (h.p c hc).1 hk).2; omega), (h.p c hc).2⟩
  z := h.z
set_option maxRecDepth 100000 in
set_option maxHeartbeats 8000000 in
theorem deal_c (ev sl cr : Int) (hev : 0 ≤ ev ∧ ev ≤ 255) (hsl : 0 ≤ sl ∧ sl ≤ 255) (hcr : 0 ≤ cr ∧ cr ≤ 255) (w : World) : Calls Tryz.prog 43 #[.int .u8 ev, .int .u8 sl, .int .u8 cr] w fun e w' => ∃ ge A c cts, e = .returned (.agg (DV ge A 2 c cr (1 + ev % 5) (1 + sl % 6) 1000000 1000000).toArray) ∧ BandsAt w' (some ⟨ge, 0, none⟩) exBs ∧ CtsAt w' A cts ∧ cts.map toCn = xCn ∧ cts.length = 2 ∧ 2 ≤ c ∧ c ≤ 9223372036854775807 ∧ Below w.heap.size w w' := by
  have HEV := Lib.hid hev
  have HSL := Lib.hid hsl
  have HCR := Lib.hid hcr
  clear hev hsl hcr
  have HA := Lib.hid ((Below.refl w.heap.size w).alloc (Nat.le_refl _) (.cells #[.int .i64 0, .slice none 0 0, .int .i64 0, .slice none 0 0, .int .i64 0, .int .i64 0, .int .i64 0, .int .i64 0, .int .i64 0] 72))
  have HX := Lib.hid (Blk.new' w #[.int .i64 0, .slice none 0 0, .int .i64 0, .slice none 0 0, .int .i64 0, .int .i64 0, .int .i64 0, .int .i64 0, .int .i64 0] 72)
  go_enter Tryz.func43, Tryz.ntmps43
  go_upto_region 1 with fail
  generalize w.alloc (.cells #[.int .i64 0, .slice none 0 0, .int .i64 0, .slice none 0 0, .int .i64 0, .int .i64 0, .int .i64 0, .int .i64 0, .int .i64 0] 72) = w1 at HA HX ⊢
  obtain ⟨g6, hg6⟩ : ∃ g6, g6 = w.heap.size := ⟨_, rfl⟩
  rw [← hg6] at HX ⊢
  have HG6 := Lib.hid hg6
  clear hg6
  have PD := Lib.hid (Deal_c w1)
  unfold DV at PD
  go_upto_region 2 with (go_at_call 106; refine (PD.out).mono ?_; rintro e w2 ⟨ge, gc, gp, rfl, hbd, hr, hlt, hb, hgel⟩; have HGEL := Lib.hid hgel; clear hgel; have HBD := Lib.hid hbd; have HR := Lib.hid hr; have HLT := Lib.hid hlt; have HB2 := Lib.hid hb; clear hbd hr hlt hb)
  obtain ⟨g7, hg7⟩ : ∃ g7, g7 = w2.heap.size := ⟨_, rfl⟩
  have HDS : Hid (DealS w (w2.alloc (.cells (DV ge (some ⟨gc, 0, none⟩) 1 1 1000 2 3 100 100).toArray 72)) g6 g7 ge (some ⟨gc, 0, none⟩) 1 1 [ct0 gp] []) := by
    have al := (Below.refl w2.heap.size w2).alloc (Nat.le_refl _) (.cells (DV ge (some ⟨gc, 0, none⟩) 1 1 1000 2 3 100 100).toArray 72)
    have h16 := HG6.out
    have h12 := HB2.out.size
    have hA := HA.out.size
    have hxl := HX.out.lt
    have hro := HR.out.lt
    refine Lib.hid ⟨(HA.out.trans (HB2.out.mono hA)).trans (al.mono (by omega)), (HX.out.below HB2.out HX.out.lt).below al (by omega), ?_, HBD.out.below al, ?_, rfl, fun k hk => ?_, fun c hc => (by cases hc), by have := HLT.out; omega⟩
    · rw [hg7]; exact Blk.new' w2 _ 72
    · exact (HR.out.mono hA).below al
    · obtain ⟨a, ea, eb⟩ := hk
      cases ea
      have h0 : gc = k := eb
      have := HLT.out
      omega
  have HG7 := Lib.hid hg7
  have HGG := Lib.hid (show g6 < ge from by
    have h1 := HX.out.lt
    have h2 := HGEL.out
    omega)
  clear HX HA HB2 HBD HR PD
  unfold DV at HDS
  rw [← hg7]
  clear hg7
  generalize w2.alloc _ = W0 at HDS ⊢
  go_wp2_with fail
  refine wp_loop_rounds 3 ?_
  rw [rounds_succ]
  go_upto_region 6 with fail
  have al := (Touch.refl (fun k => W0.heap.size ≤ k) W0).alloc (.cells #[.int .u64 1000, .slice none 0 0] 199)
  have HAW := Lib.hid al
  have HDL := Lib.hid (show W0.heap.size ≤ W0.heap.size from Nat.le_refl _)
  have HK := Lib.hid (Blk.new' W0 #[.int .u64 1000, .slice none 0 0] 199)
  obtain ⟨gk0, hgk⟩ : ∃ gk0, gk0 = W0.heap.size := ⟨_, rfl⟩
  rw [← hgk] at HK ⊢
  have HGK := Lib.hid hgk
  clear al hgk
  generalize W0.alloc (.cells #[.int .u64 1000, .slice none 0 0] 199) = V0 at HAW HK ⊢
  go_wp2_with fail
  obtain ⟨s0, hs0⟩ : ∃ s0, s0 = V0.heap.size := ⟨_, rfl⟩
  have HSI := Lib.hid hs0
  have HKL := Lib.hid (show gk0 < s0 by rw [hs0]; exact HK.out.lt)
  clear hs0
  go_loopw [10] (fun v wr => ∃ (k : Nat) (Ap : Option Addr) (cp : Nat), k ≤ 20 ∧ v = .int .u64 k ∧ Hid (Touch (fun k => k = gk0) V0 wr ∧ Blk wr gk0 199 [.int .u64 1000, .slice Ap k cp] ∧ OwnR pdV 196 1 s0 wr Ap cp (padL 0 k))) (fun v _ => 20 - (intOfU v).toNat)
  case atStart => exact ⟨0, none, 0, Nat.zero_le _, rfl, Lib.hid ⟨Touch.refl _ _, HK.out, World.ownsRow_nil _ _ _ _⟩⟩
  case round =>
    obtain ⟨k, Ap, cp, hk, rfl, HZ⟩ := hrel
    have HT := Lib.hid HZ.out.1
    have HKK := Lib.hid HZ.out.2.1
    have HPP := Lib.hid HZ.out.2.2
    clear HZ
    by_cases hlt : k < 20
    · have hki : (k : Int) < 20 := by omega
      have HLT := Lib.hid hlt
      have k1 := HKK.out.cell 1 rfl
      have kl := HKK.out.lt
      have kf := HKK.out.free 1
      have hpf : (IntKind.u64.wrap (IntKind.u64.wrap (((k : Int) + 3) * ((k : Int) + 5)) * 123457)).tmod 2147483647 = padF 0 k := by
        have hb := Pf.mul_pos_bd (x := (k : Int) + 3) (y := ((k : Int) + 5)) (A := 22) (B := 25) (by omega) (by omega)
        have h4 : IntKind.u64.wrap (((k : Int) + 3) * ((k : Int) + 5)) = ((k : Int) + 3) * ((k : Int) + 5) := IntWalk.u64_in _ (by omega)
        have h5 : IntKind.u64.wrap (((k : Int) + 3) * ((k : Int) + 5) * 123457) = ((k : Int) + 3) * ((k : Int) + 5) * 123457 := IntWalk.u64_in _ (by omega)
        rw [h4, h5]
        have e1 : (((k + 3) * (k + 0 + 5) : Nat) : Int) = ((k : Int) + 3) * ((k : Int) + 5) := by rw [Int.natCast_mul]; congr 1
        unfold padF
        rw [← e1]
        generalize (k + 3) * (k + 0 + 5) = P
        rw [Int.tmod_eq_emod_of_nonneg (by omega)]
        omega
      obtain ⟨i0, hi0, hz0, hz1, hz2⟩ := info_parts info196
      have HI := Lib.hid hi0
      have HZ0 := Lib.hid hz0
      have HZ1 := Lib.hid hz1
      have HZ2 := Lib.hid hz2
      clear hi0 hz0 hz1 hz2
      have HSZ := Lib.hid (show s0 ≤ wr.heap.size by rw [HSI.out]; exact HT.out.size)
      have HOWN := Lib.hid (show (wr.alloc (.cells #[.int .u64 (padF 0 k)] 196)).ownsRow s0 196 1 (.slice Ap k cp) k (flatM pdV (padL 0 k)) from by
        have h0 := HPP.out.below ((Below.refl wr.heap.size wr).alloc (Nat.le_refl _) (.cells #[.int .u64 (padF 0 k)] 196))
        unfold OwnR at h0
        rw [padL_len] at h0
        exact h0)
      have HSB := Lib.hid (show s0 ≤ (wr.alloc (.cells #[.int .u64 (padF 0 k)] 196)).heap.size by have := HSZ.out; simp; omega)
      have al := (Below.refl wr.heap.size wr).alloc (Nat.le_refl _) (.cells #[.int .u64 (padF 0 k)] 196)
      have HKA := Lib.hid (HKK.out.below al kl)
      have HAL := Lib.hid al
      have HNG := Lib.hid (show ¬ OwnB Ap gk0 from fun e => by have := (rowE_lt HPP.out e).1; have := HKL.out; omega)
      clear al
      go_upto_region 8 with (at_builtin; (try rw [hpf]); refine wpList_append_any (.tmp 25) (.tmp 35) 197 rfl rfl s0 196 i0 (.int .u64 0) 1 8 Tryz.underlying197 HI.out HZ0.out HZ1.out HZ2.out rfl (by decide) Ap k cp (flatM pdV (padL 0 k)) (by rfl) HOWN.out (some ⟨wr.heap.size, 0, none⟩) 1 1 [.int .u64 (padF 0 k)] (by rfl) (by rfl) (src_blk (Blk.new' wr #[.int .u64 (padF 0 k)] 196) 1) (by simp [Value.oneCell']) (by unfold maxLen; omega) (by omega) HSB.out ?_; intro A' cap' w' hown hgr hnr; have HOW := Lib.hid hown; have HGR := Lib.hid (grown_touch hgr); have HNR := Lib.hid hnr; have HK5 := Lib.hid (HKA.out.touch HGR.out HNG.out); clear hown hgr hnr k1 kf kl; have k1 := HK5.out.cell 1 rfl; have kf := HK5.out.free 1; have kl := HK5.out.lt)
      clear k1 kf kl
      have HTF := Lib.hid (show Touch (fun k => k = gk0) V0 (w'.setCell ⟨gk0, 1, none⟩ (.slice A' (k + 1) cap')) from (HT.out.then ((Touch.of_below (S := fun k => s0 ≤ k) HAL.out).then HGR.out (fun q e => .inl ((rowE_lt HPP.out e).1))) (fun q e => .inr (by rw [← HSI.out]; exact e))).then (show Touch (fun k => k = gk0) w' _ from (Touch.refl _ _).put 1 _) (fun q e => .inl e))
      have HKF := Lib.hid (HK5.out.setCell 1 (.slice A' (k + 1) cap'))
      have HOF := Lib.hid (show OwnR pdV 196 1 s0 (w'.setCell ⟨gk0, 1, none⟩ (.slice A' (k + 1) cap')) A' cap' (padL 0 (k + 1)) from by
        have h0 : OwnR pdV 196 1 s0 w' A' cap' (padL 0 (k + 1)) := by
          unfold OwnR
          rw [padL_len, padL_succ, flatM_append]
          exact HOW.out
        refine h0.touch (show Touch (fun k => k = gk0) w' _ from (Touch.refl _ _).put 1 _) (fun q hq e => ?_)
        subst e
        rcases HNR.out _ hq with e | e
        · exact HNG.out e
        · have := HKA.out.lt; omega)
      go_wp2_with fail
      exact ⟨⟨k + 1, A', cap', by omega, by simp, Lib.hid ⟨HTF.out, HKF.out, HOF.out⟩⟩, by simp only [intOfU]; omega⟩
    · obtain rfl : k = 20 := by omega
      clear hlt
      have HW2 := Lib.hid (HAW.out.then HT.out (fun q e => .inl (by rw [e, HGK.out]; exact Nat.le_refl _)))
      have HD2 := Lib.hid (HDS.out.touch HW2.out (Nat.le_refl _))
      have HPM := Lib.hid (show OwnR pdV 196 1 w.heap.size wr Ap cp (padL 0 20) ∧ ∀ k, OwnB Ap k → g7 < k from ⟨HPP.out.mono (by have h1 := HDS.out.b.size; have h2 := HAW.out.size; have h3 := HSI.out; omega), fun q hq => by have h1 := (rowE_lt HPP.out hq).1; have h2 := HDS.out.h7.lt; have h3 := HAW.out.size; have h4 := HSI.out; omega⟩)
      have HKW := Lib.hid HKK.out
      obtain ⟨cta, hct⟩ : ∃ cta : Ct, cta = { pt := 1000, A := Ap, cap := cp, ps := padL 0 20 } := ⟨_, rfl⟩
      have HCTa := Lib.hid hct
      clear hct HPP HT HKK HDS HAW HDL
      go_upto_region 10 with fail
      obtain ⟨i0, hi0, hz0, hz1, hz2⟩ := info_parts info199
      have HI := Lib.hid hi0
      have HZ0 := Lib.hid hz0
      have HZ1 := Lib.hid hz1
      have HZ2 := Lib.hid hz2
      clear hi0 hz0 hz1 hz2
      refine wp_region_spine 10 [true, false] [] ?af10_0 (fun V => Below wr.heap.size wr V) (by kernel_rfl) (by kernel_rfl) ((Below.refl _ _).drew) ?walk10_0 ?spine10_0
      case walk10_0 =>
        intro V hV
        have g3 := (HD2.out.h7.below hV HD2.out.h7.lt).cell 3 rfl
        have gl := (HD2.out.h7.below hV HD2.out.h7.lt).lt
        have k0 := (HKW.out.below hV HKW.out.lt).cell 0 rfl
        have k1 := (HKW.out.below hV HKW.out.lt).cell 1 rfl
        have kl := (HKW.out.below hV HKW.out.lt).lt
        clear hV
        simp only [List.take_succ_cons, List.take_zero]
        repeat (go_big_quiet_step (fail))
        refine wpQuiet_nil ?_
        rfl
      case spine10_0 =>
        intro V hV
        have HV := Lib.hid hV
        clear hV
        refine spineV_cons ?_
        refine stepV_new (.cells #[.int .u64 1000, .slice Ap 20 cp] 199) (fun b => .slice (some ⟨b, 0, none⟩) 1 1) (fun _ => by kernel_rfl) ?_
        have al := (Below.refl V.heap.size V).alloc (Nat.le_refl _) (.cells #[.int .u64 1000, .slice Ap 20 cp] 199)
        have HW2 := Lib.hid (HV.out.trans (al.mono HV.out.size))
        have HR := Lib.hid (Blk.new' V #[.int .u64 1000, .slice Ap 20 cp] 199)
        refine ⟨fun _ => HW2.out, ?_⟩
        generalize V.alloc (.cells #[.int .u64 1000, .slice Ap 20 cp] 199) = V2 at HW2 HR ⊢
        generalize V.heap.size = ga at *
        clear al HV
        (try simp only [Act.put, List.setIfInBounds_toArray, List.set_cons_zero, List.set_cons_succ])
        have hcut : V2.ownsRow w.heap.size 199 2 (.slice (some ⟨gc, 0, none⟩) 0 1) 0 (flatM ctV ([ct0 gp].take 0)) := by
          have h0 := (HD2.out.r.cut ct_len 0 (by simp) (by simp)).below HW2.out
          exact h0
        refine spineV_cons ?_
        refine stepV_append (.tmp 46) (.tmp 48) 70 rfl w.heap.size 199 i0 (.agg #[.int .u64 0, .slice none 0 0]) 2 32 Tryz.underlying70 HI.out HZ0.out HZ1.out HZ2.out rfl (by decide) (some ⟨gc, 0, none⟩) 0 1 (flatM ctV ([ct0 gp].take 0)) (by rfl) hcut (some ⟨ga, 0, none⟩) 1 1 [.int .u64 1000, .slice Ap 20 cp] (by rfl) (by rfl) (.inr ⟨_, rfl, ?_⟩) (by simp [Value.oneCell']) (by decide) (by decide) (by have := HD2.out.b.size; have := HW2.out.size; omega) ?_
        · intro j u hu
          have := HR.out.cell j hu
          rwa [show ((⟨ga, 0, none⟩ : Addr).add j) = ⟨ga, j, none⟩ from (by unfold Addr.add; split <;> simp_all)]
        intro Aq0 cq0 w' hown hgr hnr
        refine ⟨fun h => absurd h (by decide), ?_⟩
        have HTG := Lib.hid ((Touch.of_below (S := fun k => OwnB ((some ⟨gc, 0, none⟩)) k) HW2.out).then (grown_touch hgr) (fun q e => .inl e))
        have HOW := Lib.hid hown
        have HNR := Lib.hid hnr
        have HZV := Lib.hid HW2.out.size
        have H7 := Lib.hid (HD2.out.h7.touch HTG.out (fun e => (HD2.out.o _ e).2.1 rfl))
        clear hown hgr hnr hcut HR HW2
        refine spineV_nil ?_
        (try simp only [Act.put, List.setIfInBounds_toArray, List.set_cons_zero, List.set_cons_succ])
        (try simp only [List.drop_succ_cons, List.drop_zero, List.length_cons, List.length_nil])
        have g3 := H7.out.cell 3 rfl
        have f3 := H7.out.free 3
        have gl := H7.out.lt
        have HT7 : Touch (fun k => k = g7) w' (w'.setCell ⟨g7, 3, none⟩ (.slice Aq0 (0 + 1) cq0)) := (Touch.refl _ _).put 3 _
        have HNEW : Hid (DealS w (w'.setCell ⟨g7, 3, none⟩ (.slice Aq0 (0 + 1) cq0)) g6 g7 ge Aq0 cq0 (0 + 1) ([ct0 gp].take 0 ++ [cta]) ([] ++ [cta])) := by
          have hd := HD2.out
          have hz := hd.z
          have h7l := hd.h7.lt
          have h6l := hd.h6.lt
          have hzv := HZV.out
          have hbs := hd.b.size
          have hoA : ∀ k, OwnB Aq0 k → k ≠ g6 ∧ k ≠ g7 ∧ ge < k := fun k hk => by
            rcases HNR.out k hk with e | e
            · exact hd.o k e
            · omega
          refine Lib.hid ⟨?_, ?_, ?_, ?_, ?_, by simp, hoA, ?_, hz⟩
          · exact Below.touch (Below.touch hd.b hbs HTG.out (fun q hq => (rowE_lt hd.r hq).1)) (by have := HTG.out.size; omega) HT7 (fun q e => by omega)
          · exact (hd.h6.touch HTG.out (fun e => (hd.o _ e).1 rfl)).touch HT7 hz.2.1
          · exact H7.out.setCell 3 _
          · exact (hd.e.touch HTG.out (fun k hk e => by obtain ⟨a, ea, eb⟩ := hk; cases ea; have h2 : ge = k := eb; have := (hd.o _ e).2.2; omega)).touch HT7 (fun k hk e => by obtain ⟨a, ea, eb⟩ := hk; cases ea; have h2 : ge = k := eb; omega)
          · have h0 : OwnR ctV 199 2 w.heap.size w' Aq0 cq0 ([ct0 gp].take 0 ++ [cta]) := by
              unfold OwnR
              rw [flatM_append, HCTa.out]
              exact HOW.out
            exact h0.touch HT7 (fun k hk e => (hoA k hk).2.1 e)
          · intro c hc
            rcases List.mem_append.1 hc with hc | hc
            · exact ⟨((hd.p c hc).1.touch HTG.out (fun k hk e => rowE_ne (hd.p c hc).1 hd.r (by decide) hk e)).touch HT7 (fun k hk e => by have := (hd.p c hc).2 k hk; omega), (hd.p c hc).2⟩
            · obtain rfl := List.mem_singleton.1 hc
              rw [HCTa.out]
              exact ⟨(HPM.out.1.touch HTG.out (fun k hk e => rowE_ne HPM.out.1 hd.r (by decide) hk e)).touch HT7 (fun k hk e => by have := HPM.out.2 k hk; omega), HPM.out.2⟩
        clear HT7
        go_upto_region 4 with fail
        clear g3 f3 gl
        generalize w'.setCell ⟨g7, 3, none⟩ (.slice Aq0 (0 + 1) cq0) = U0 at HNEW ⊢
        clear HD2 HPM HKW HTG HOW HNR HZV H7 HW2
        have HDS := HNEW
        clear HNEW
        go_wp2_with fail
        obtain ⟨gr, hgr, _, _, hcl, hcm⟩ := HDS.out.r.form (by simp)
        subst hgr
        have hc1 : 1 ≤ cq0 := hcl
        have HDS := Lib.hid (show DealS w U0 g6 g7 ge (some ⟨gr, 0, none⟩) cq0 1 [cta] [cta] from HDS.out)
        clear hcl
        rw [rounds_succ]
        go_upto_region 6 with fail
        have al := (Touch.refl (fun k => U0.heap.size ≤ k) U0).alloc (.cells #[.int .u64 1077, .slice none 0 0] 199)
        have HAW := Lib.hid al
        have HDL := Lib.hid (show U0.heap.size ≤ U0.heap.size from Nat.le_refl _)
        have HK := Lib.hid (Blk.new' U0 #[.int .u64 1077, .slice none 0 0] 199)
        obtain ⟨gk1, hgk⟩ : ∃ gk1, gk1 = U0.heap.size := ⟨_, rfl⟩
        rw [← hgk] at HK ⊢
        have HGK := Lib.hid hgk
        clear al hgk
        generalize U0.alloc (.cells #[.int .u64 1077, .slice none 0 0] 199) = V1 at HAW HK ⊢
        go_wp2_with fail
        obtain ⟨s1, hs1⟩ : ∃ s1, s1 = V1.heap.size := ⟨_, rfl⟩
        have HSI := Lib.hid hs1
        have HKL := Lib.hid (show gk1 < s1 by rw [hs1]; exact HK.out.lt)
        clear hs1
        go_loopw [10] (fun v wr => ∃ (k : Nat) (Ap : Option Addr) (cp : Nat), k ≤ 20 ∧ v = .int .u64 k ∧ Hid (Touch (fun k => k = gk1) V1 wr ∧ Blk wr gk1 199 [.int .u64 1077, .slice Ap k cp] ∧ OwnR pdV 196 1 s1 wr Ap cp (padL 1 k))) (fun v _ => 20 - (intOfU v).toNat)
        case atStart => exact ⟨0, none, 0, Nat.zero_le _, rfl, Lib.hid ⟨Touch.refl _ _, HK.out, World.ownsRow_nil _ _ _ _⟩⟩
        case round =>
          obtain ⟨k, Ap, cp, hk, rfl, HZ⟩ := hrel
          have HT := Lib.hid HZ.out.1
          have HKK := Lib.hid HZ.out.2.1
          have HPP := Lib.hid HZ.out.2.2
          clear HZ
          by_cases hlt : k < 20
          · have hki : (k : Int) < 20 := by omega
            have HLT := Lib.hid hlt
            have k1 := HKK.out.cell 1 rfl
            have kl := HKK.out.lt
            have kf := HKK.out.free 1
            have hpf : (IntKind.u64.wrap (IntKind.u64.wrap (((k : Int) + 3) * ((k : Int) + 1 + 5)) * 123457)).tmod 2147483647 = padF 1 k := by
              have hb := Pf.mul_pos_bd (x := (k : Int) + 3) (y := ((k : Int) + 1 + 5)) (A := 22) (B := 25) (by omega) (by omega)
              have h4 : IntKind.u64.wrap (((k : Int) + 3) * ((k : Int) + 1 + 5)) = ((k : Int) + 3) * ((k : Int) + 1 + 5) := IntWalk.u64_in _ (by omega)
              have h5 : IntKind.u64.wrap (((k : Int) + 3) * ((k : Int) + 1 + 5) * 123457) = ((k : Int) + 3) * ((k : Int) + 1 + 5) * 123457 := IntWalk.u64_in _ (by omega)
              rw [h4, h5]
              have e1 : (((k + 3) * (k + 1 + 5) : Nat) : Int) = ((k : Int) + 3) * ((k : Int) + 1 + 5) := by rw [Int.natCast_mul]; congr 1
              unfold padF
              rw [← e1]
              generalize (k + 3) * (k + 1 + 5) = P
              rw [Int.tmod_eq_emod_of_nonneg (by omega)]
              omega
            obtain ⟨i0, hi0, hz0, hz1, hz2⟩ := info_parts info196
            have HI := Lib.hid hi0
            have HZ0 := Lib.hid hz0
            have HZ1 := Lib.hid hz1
            have HZ2 := Lib.hid hz2
            clear hi0 hz0 hz1 hz2
            have HSZ := Lib.hid (show s1 ≤ wr.heap.size by rw [HSI.out]; exact HT.out.size)
            have HOWN := Lib.hid (show (wr.alloc (.cells #[.int .u64 (padF 1 k)] 196)).ownsRow s1 196 1 (.slice Ap k cp) k (flatM pdV (padL 1 k)) from by
              have h0 := HPP.out.below ((Below.refl wr.heap.size wr).alloc (Nat.le_refl _) (.cells #[.int .u64 (padF 1 k)] 196))
              unfold OwnR at h0
              rw [padL_len] at h0
              exact h0)
            have HSB := Lib.hid (show s1 ≤ (wr.alloc (.cells #[.int .u64 (padF 1 k)] 196)).heap.size by have := HSZ.out; simp; omega)
            have al := (Below.refl wr.heap.size wr).alloc (Nat.le_refl _) (.cells #[.int .u64 (padF 1 k)] 196)
            have HKA := Lib.hid (HKK.out.below al kl)
            have HAL := Lib.hid al
            have HNG := Lib.hid (show ¬ OwnB Ap gk1 from fun e => by have := (rowE_lt HPP.out e).1; have := HKL.out; omega)
            clear al
            go_upto_region 8 with (at_builtin; (try rw [hpf]); refine wpList_append_any (.tmp 25) (.tmp 35) 197 rfl rfl s1 196 i0 (.int .u64 0) 1 8 Tryz.underlying197 HI.out HZ0.out HZ1.out HZ2.out rfl (by decide) Ap k cp (flatM pdV (padL 1 k)) (by rfl) HOWN.out (some ⟨wr.heap.size, 0, none⟩) 1 1 [.int .u64 (padF 1 k)] (by rfl) (by rfl) (src_blk (Blk.new' wr #[.int .u64 (padF 1 k)] 196) 1) (by simp [Value.oneCell']) (by unfold maxLen; omega) (by omega) HSB.out ?_; intro A' cap' w' hown hgr hnr; have HOW := Lib.hid hown; have HGR := Lib.hid (grown_touch hgr); have HNR := Lib.hid hnr; have HK5 := Lib.hid (HKA.out.touch HGR.out HNG.out); clear hown hgr hnr k1 kf kl; have k1 := HK5.out.cell 1 rfl; have kf := HK5.out.free 1; have kl := HK5.out.lt)
            clear k1 kf kl
            have HTF := Lib.hid (show Touch (fun k => k = gk1) V1 (w'.setCell ⟨gk1, 1, none⟩ (.slice A' (k + 1) cap')) from (HT.out.then ((Touch.of_below (S := fun k => s1 ≤ k) HAL.out).then HGR.out (fun q e => .inl ((rowE_lt HPP.out e).1))) (fun q e => .inr (by rw [← HSI.out]; exact e))).then (show Touch (fun k => k = gk1) w' _ from (Touch.refl _ _).put 1 _) (fun q e => .inl e))
            have HKF := Lib.hid (HK5.out.setCell 1 (.slice A' (k + 1) cap'))
            have HOF := Lib.hid (show OwnR pdV 196 1 s1 (w'.setCell ⟨gk1, 1, none⟩ (.slice A' (k + 1) cap')) A' cap' (padL 1 (k + 1)) from by
              have h0 : OwnR pdV 196 1 s1 w' A' cap' (padL 1 (k + 1)) := by
                unfold OwnR
                rw [padL_len, padL_succ, flatM_append]
                exact HOW.out
              refine h0.touch (show Touch (fun k => k = gk1) w' _ from (Touch.refl _ _).put 1 _) (fun q hq e => ?_)
              subst e
              rcases HNR.out _ hq with e | e
              · exact HNG.out e
              · have := HKA.out.lt; omega)
            go_wp2_with fail
            exact ⟨⟨k + 1, A', cap', by omega, by simp, Lib.hid ⟨HTF.out, HKF.out, HOF.out⟩⟩, by simp only [intOfU]; omega⟩
          · obtain rfl : k = 20 := by omega
            clear hlt
            have HW2 := Lib.hid (HAW.out.then HT.out (fun q e => .inl (by rw [e, HGK.out]; exact Nat.le_refl _)))
            have HD2 := Lib.hid (HDS.out.touch HW2.out (Nat.le_refl _))
            have HPM := Lib.hid (show OwnR pdV 196 1 w.heap.size wr Ap cp (padL 1 20) ∧ ∀ k, OwnB Ap k → g7 < k from ⟨HPP.out.mono (by have h1 := HDS.out.b.size; have h2 := HAW.out.size; have h3 := HSI.out; omega), fun q hq => by have h1 := (rowE_lt HPP.out hq).1; have h2 := HDS.out.h7.lt; have h3 := HAW.out.size; have h4 := HSI.out; omega⟩)
            have HKW := Lib.hid HKK.out
            obtain ⟨ctb, hct⟩ : ∃ ctb : Ct, ctb = { pt := 1077, A := Ap, cap := cp, ps := padL 1 20 } := ⟨_, rfl⟩
            have HCTb := Lib.hid hct
            clear hct HPP HT HKK HDS HAW HDL
            go_upto_region 10 with fail
            obtain ⟨i0, hi0, hz0, hz1, hz2⟩ := info_parts info199
            have HI := Lib.hid hi0
            have HZ0 := Lib.hid hz0
            have HZ1 := Lib.hid hz1
            have HZ2 := Lib.hid hz2
            clear hi0 hz0 hz1 hz2
            refine wp_region_spine 10 [true, false] [] ?af10_1 (fun V => Below wr.heap.size wr V) (by kernel_rfl) (by kernel_rfl) ((Below.refl _ _).drew) ?walk10_1 ?spine10_1
            case walk10_1 =>
              intro V hV
              have g3 := (HD2.out.h7.below hV HD2.out.h7.lt).cell 3 rfl
              have gl := (HD2.out.h7.below hV HD2.out.h7.lt).lt
              have k0 := (HKW.out.below hV HKW.out.lt).cell 0 rfl
              have k1 := (HKW.out.below hV HKW.out.lt).cell 1 rfl
              have kl := (HKW.out.below hV HKW.out.lt).lt
              clear hV
              simp only [List.take_succ_cons, List.take_zero]
              repeat (go_big_quiet_step (fail))
              refine wpQuiet_nil ?_
              rfl
            case spine10_1 =>
              intro V hV
              have HV := Lib.hid hV
              clear hV
              refine spineV_cons ?_
              refine stepV_new (.cells #[.int .u64 1077, .slice Ap 20 cp] 199) (fun b => .slice (some ⟨b, 0, none⟩) 1 1) (fun _ => by kernel_rfl) ?_
              have al := (Below.refl V.heap.size V).alloc (Nat.le_refl _) (.cells #[.int .u64 1077, .slice Ap 20 cp] 199)
              have HW2 := Lib.hid (HV.out.trans (al.mono HV.out.size))
              have HR := Lib.hid (Blk.new' V #[.int .u64 1077, .slice Ap 20 cp] 199)
              refine ⟨fun _ => HW2.out, ?_⟩
              generalize V.alloc (.cells #[.int .u64 1077, .slice Ap 20 cp] 199) = V2 at HW2 HR ⊢
              generalize V.heap.size = ga at *
              clear al HV
              (try simp only [Act.put, List.setIfInBounds_toArray, List.set_cons_zero, List.set_cons_succ])
              have hcut : V2.ownsRow w.heap.size 199 2 (.slice (some ⟨gr, 0, none⟩) 1 cq0) 1 (flatM ctV ([cta].take 1)) := by
                have h0 := (HD2.out.r.cut ct_len 1 (by simp) (by simp)).below HW2.out
                exact h0
              refine spineV_cons ?_
              refine stepV_append (.tmp 46) (.tmp 48) 70 rfl w.heap.size 199 i0 (.agg #[.int .u64 0, .slice none 0 0]) 2 32 Tryz.underlying70 HI.out HZ0.out HZ1.out HZ2.out rfl (by decide) (some ⟨gr, 0, none⟩) 1 cq0 (flatM ctV ([cta].take 1)) (by rfl) hcut (some ⟨ga, 0, none⟩) 1 1 [.int .u64 1077, .slice Ap 20 cp] (by rfl) (by rfl) (.inr ⟨_, rfl, ?_⟩) (by simp [Value.oneCell']) (by decide) (by decide) (by have := HD2.out.b.size; have := HW2.out.size; omega) ?_
              · intro j u hu
                have := HR.out.cell j hu
                rwa [show ((⟨ga, 0, none⟩ : Addr).add j) = ⟨ga, j, none⟩ from (by unfold Addr.add; split <;> simp_all)]
              intro Aq1 cq1 w' hown hgr hnr
              refine ⟨fun h => absurd h (by decide), ?_⟩
              have HTG := Lib.hid ((Touch.of_below (S := fun k => OwnB ((some ⟨gr, 0, none⟩)) k) HW2.out).then (grown_touch hgr) (fun q e => .inl e))
              have HOW := Lib.hid hown
              have HNR := Lib.hid hnr
              have HZV := Lib.hid HW2.out.size
              have H7 := Lib.hid (HD2.out.h7.touch HTG.out (fun e => (HD2.out.o _ e).2.1 rfl))
              clear hown hgr hnr hcut HR HW2
              refine spineV_nil ?_
              (try simp only [Act.put, List.setIfInBounds_toArray, List.set_cons_zero, List.set_cons_succ])
              (try simp only [List.drop_succ_cons, List.drop_zero, List.length_cons, List.length_nil])
              have g3 := H7.out.cell 3 rfl
              have f3 := H7.out.free 3
              have gl := H7.out.lt
              have HT7 : Touch (fun k => k = g7) w' (w'.setCell ⟨g7, 3, none⟩ (.slice Aq1 (1 + 1) cq1)) := (Touch.refl _ _).put 3 _
              have HNEW : Hid (DealS w (w'.setCell ⟨g7, 3, none⟩ (.slice Aq1 (1 + 1) cq1)) g6 g7 ge Aq1 cq1 (1 + 1) ([cta].take 1 ++ [ctb]) ([cta] ++ [ctb])) := by
                have hd := HD2.out
                have hz := hd.z
                have h7l := hd.h7.lt
                have h6l := hd.h6.lt
                have hzv := HZV.out
                have hbs := hd.b.size
                have hoA : ∀ k, OwnB Aq1 k → k ≠ g6 ∧ k ≠ g7 ∧ ge < k := fun k hk => by
                  rcases HNR.out k hk with e | e
                  · exact hd.o k e
                  · omega
                refine Lib.hid ⟨?_, ?_, ?_, ?_, ?_, by simp, hoA, ?_, hz⟩
                · exact Below.touch (Below.touch hd.b hbs HTG.out (fun q hq => (rowE_lt hd.r hq).1)) (by have := HTG.out.size; omega) HT7 (fun q e => by omega)
                · exact (hd.h6.touch HTG.out (fun e => (hd.o _ e).1 rfl)).touch HT7 hz.2.1
                · exact H7.out.setCell 3 _
                · exact (hd.e.touch HTG.out (fun k hk e => by obtain ⟨a, ea, eb⟩ := hk; cases ea; have h2 : ge = k := eb; have := (hd.o _ e).2.2; omega)).touch HT7 (fun k hk e => by obtain ⟨a, ea, eb⟩ := hk; cases ea; have h2 : ge = k := eb; omega)
                · have h0 : OwnR ctV 199 2 w.heap.size w' Aq1 cq1 ([cta].take 1 ++ [ctb]) := by
                    unfold OwnR
                    rw [flatM_append, HCTb.out]
                    exact HOW.out
                  exact h0.touch HT7 (fun k hk e => (hoA k hk).2.1 e)
                · intro c hc
                  rcases List.mem_append.1 hc with hc | hc
                  · exact ⟨((hd.p c hc).1.touch HTG.out (fun k hk e => rowE_ne (hd.p c hc).1 hd.r (by decide) hk e)).touch HT7 (fun k hk e => by have := (hd.p c hc).2 k hk; omega), (hd.p c hc).2⟩
                  · obtain rfl := List.mem_singleton.1 hc
                    rw [HCTb.out]
                    exact ⟨(HPM.out.1.touch HTG.out (fun k hk e => rowE_ne HPM.out.1 hd.r (by decide) hk e)).touch HT7 (fun k hk e => by have := HPM.out.2 k hk; omega), HPM.out.2⟩
              clear HT7
              go_upto_region 4 with fail
              clear g3 f3 gl
              generalize w'.setCell ⟨g7, 3, none⟩ (.slice Aq1 (1 + 1) cq1) = U1 at HNEW ⊢
              clear HD2 HPM HKW HTG HOW HNR HZV H7 HW2
              have HDS := HNEW
              clear HNEW
              go_wp2_with fail
              rw [rounds_succ]
              have HDS := Lib.hid (show DealS w U1 g6 g7 ge Aq1 cq1 2 [cta, ctb] [cta, ctb] from HDS.out)
              have q0 := HDS.out.h7
              have d0 := q0.cell 0 rfl
              have d1 := q0.cell 1 rfl
              have d2 := q0.cell 2 rfl
              have d3 := q0.cell 3 rfl
              have d4 := q0.cell 4 rfl
              have d5 := q0.cell 5 rfl
              have d6 := q0.cell 6 rfl
              have d7 := q0.cell 7 rfl
              have d8 := q0.cell 8 rfl
              have f4 := q0.free 4
              have f5 := q0.free 5
              have f6 := q0.free 6
              have f7 := q0.free 7
              have f8 := q0.free 8
              have gl := q0.lt
              clear q0
              have hev := HEV.out
              have hsl := HSL.out
              have hcr := HCR.out
              have w1 : IntKind.i64.wrap ev = ev := IntWalk.i64_in _ (by omega)
              have w2 : wrap64 ev = ev := by rw [← IntWalk.i64_left]; exact w1
              have w3 : IntKind.i64.wrap sl = sl := IntWalk.i64_in _ (by omega)
              have w4 : wrap64 sl = sl := by rw [← IntWalk.i64_left]; exact w3
              have w5 : IntKind.i64.wrap cr = cr := IntWalk.i64_in _ (by omega)
              have w6 : wrap64 cr = cr := by rw [← IntWalk.i64_left]; exact w5
              have w7 : wrap64 (1 + ev % 5) = 1 + ev % 5 := by rw [← IntWalk.i64_left]; exact IntWalk.i64_in _ (by omega)
              have w8 : wrap64 (1 + sl % 6) = 1 + sl % 6 := by rw [← IntWalk.i64_left]; exact IntWalk.i64_in _ (by omega)
              have e0 : 0 ≤ ev := hev.1
              have e1 : 0 ≤ sl := hsl.1
              go_upto_region 13 with fail
              refine gen_world' (fun W => Touch (fun k => k = g7) U1 W ∧ Blk W g7 72 [.int .i64 100, .slice (some ⟨ge, 0, none⟩) 2 2, .int .i64 10, .slice Aq1 2 cq1, .int .i64 cr, .int .i64 (1 + ev % 5), .int .i64 (1 + sl % 6), .int .i64 1000000, .int .i64 1000000]) ⟨((((((Touch.refl _ _).put 5 _).put 6 _).put 4 _).put 7 _).put 8 _), (((((HDS.out.h7.setCell 5 (.int .i64 (1 + ev % 5))).setCell 6 (.int .i64 (1 + sl % 6))).setCell 4 (.int .i64 cr)).setCell 7 (.int .i64 1000000)).setCell 8 (.int .i64 1000000))⟩ ?_
              rintro U2 ⟨ht, hk⟩
              have HT2 := Lib.hid ht
              have HK2 := Lib.hid hk
              clear ht hk d0 d1 d2 d3 d4 d5 d6 d7 d8 f4 f5 f6 f7 f8 gl hev hsl hcr
              have q0 := HK2.out
              have d0 := q0.cell 0 rfl
              have d1 := q0.cell 1 rfl
              have d2 := q0.cell 2 rfl
              have d3 := q0.cell 3 rfl
              have d4 := q0.cell 4 rfl
              have d5 := q0.cell 5 rfl
              have d6 := q0.cell 6 rfl
              have d7 := q0.cell 7 rfl
              have d8 := q0.cell 8 rfl
              have gl := q0.lt
              clear q0
              have H6 := Lib.hid (HDS.out.h6.touch HT2.out HDS.out.z.2.1)
              have x0 := H6.out.cell 0 rfl
              have y0 := H6.out.free 0
              have x1 := H6.out.cell 1 rfl
              have y1 := H6.out.free 1
              have x2 := H6.out.cell 2 rfl
              have y2 := H6.out.free 2
              have x3 := H6.out.cell 3 rfl
              have y3 := H6.out.free 3
              have x4 := H6.out.cell 4 rfl
              have y4 := H6.out.free 4
              have x5 := H6.out.cell 5 rfl
              have y5 := H6.out.free 5
              have x6 := H6.out.cell 6 rfl
              have y6 := H6.out.free 6
              have x7 := H6.out.cell 7 rfl
              have y7 := H6.out.free 7
              have x8 := H6.out.cell 8 rfl
              have y8 := H6.out.free 8
              have xl := H6.out.lt
              have HNE := Lib.hid HDS.out.z.2.1
              go_wp2_with fail
              have HT3 : Touch (fun k => k = g6) U2 (((((((((U2.setCell ⟨g6, 0, none⟩ (.int .i64 100)).setCell ⟨g6, 1, none⟩ (.slice (some ⟨ge, 0, none⟩) 2 2)).setCell ⟨g6, 2, none⟩ (.int .i64 10)).setCell ⟨g6, 3, none⟩ (.slice Aq1 2 cq1)).setCell ⟨g6, 4, none⟩ (.int .i64 cr)).setCell ⟨g6, 5, none⟩ (.int .i64 (1 + ev % 5))).setCell ⟨g6, 6, none⟩ (.int .i64 (1 + sl % 6))).setCell ⟨g6, 7, none⟩ (.int .i64 1000000)).setCell ⟨g6, 8, none⟩ (.int .i64 1000000)) := ((((((((((Touch.refl _ _).put 0 _).put 1 _).put 2 _).put 3 _).put 4 _).put 5 _).put 6 _).put 7 _).put 8 _)
              have HB6 : Blk (((((((((U2.setCell ⟨g6, 0, none⟩ (.int .i64 100)).setCell ⟨g6, 1, none⟩ (.slice (some ⟨ge, 0, none⟩) 2 2)).setCell ⟨g6, 2, none⟩ (.int .i64 10)).setCell ⟨g6, 3, none⟩ (.slice Aq1 2 cq1)).setCell ⟨g6, 4, none⟩ (.int .i64 cr)).setCell ⟨g6, 5, none⟩ (.int .i64 (1 + ev % 5))).setCell ⟨g6, 6, none⟩ (.int .i64 (1 + sl % 6))).setCell ⟨g6, 7, none⟩ (.int .i64 1000000)).setCell ⟨g6, 8, none⟩ (.int .i64 1000000)) g6 72 [.int .i64 100, .slice (some ⟨ge, 0, none⟩) 2 2, .int .i64 10, .slice Aq1 2 cq1, .int .i64 cr, .int .i64 (1 + ev % 5), .int .i64 (1 + sl % 6), .int .i64 1000000, .int .i64 1000000] := (((((((((H6.out.setCell 0 (.int .i64 100)).setCell 1 (.slice (some ⟨ge, 0, none⟩) 2 2)).setCell 2 (.int .i64 10)).setCell 3 (.slice Aq1 2 cq1)).setCell 4 (.int .i64 cr)).setCell 5 (.int .i64 (1 + ev % 5))).setCell 6 (.int .i64 (1 + sl % 6))).setCell 7 (.int .i64 1000000)).setCell 8 (.int .i64 1000000))
              generalize (((((((((U2.setCell ⟨g6, 0, none⟩ (.int .i64 100)).setCell ⟨g6, 1, none⟩ (.slice (some ⟨ge, 0, none⟩) 2 2)).setCell ⟨g6, 2, none⟩ (.int .i64 10)).setCell ⟨g6, 3, none⟩ (.slice Aq1 2 cq1)).setCell ⟨g6, 4, none⟩ (.int .i64 cr)).setCell ⟨g6, 5, none⟩ (.int .i64 (1 + ev % 5))).setCell ⟨g6, 6, none⟩ (.int .i64 (1 + sl % 6))).setCell ⟨g6, 7, none⟩ (.int .i64 1000000)).setCell ⟨g6, 8, none⟩ (.int .i64 1000000)) = U3 at HT3 HB6 ⊢
              have r0 := HB6.cell 0 rfl
              have r1 := HB6.cell 1 rfl
              have r2 := HB6.cell 2 rfl
              have r3 := HB6.cell 3 rfl
              have r4 := HB6.cell 4 rfl
              have r5 := HB6.cell 5 rfl
              have r6 := HB6.cell 6 rfl
              have r7 := HB6.cell 7 rfl
              have r8 := HB6.cell 8 rfl
              have rl := HB6.lt
              have hd := HDS.out
              have hz := hd.z
              have h7l := hd.h7.lt
              have h6l := hd.h6.lt
              have hrow : OwnR ctV 199 2 w.heap.size U3 Aq1 cq1 [cta, ctb] := (hd.r.touch HT2.out (fun k hk e => (hd.o k hk).2.1 e)).touch HT3 (fun k hk e => (hd.o k hk).1 e)
              have hpad : ∀ c ∈ [cta, ctb], OwnR pdV 196 1 w.heap.size U3 c.A c.cap c.ps := fun c hc => ((hd.p c hc).1.touch HT2.out (fun k hk e => by have := (hd.p c hc).2 k hk; omega)).touch HT3 (fun k hk e => by have h1 := (hd.p c hc).2 k hk; have h2 := HG6.out; have h3 := HG7.out; have h4 := hz.2.2.1; have h5 := (rowE_lt (hd.p c hc).1 hk).1; omega)
              have hcts : CtsAt U3 Aq1 [cta, ctb] := row_cts hrow (fun i hi => by
                match i, hi with
                | 0, _ => exact ⟨row_pads (hpad cta (by simp)), cap_of (hpad cta (by simp))⟩
                | 1, _ => exact ⟨row_pads (hpad ctb (by simp)), cap_of (hpad ctb (by simp))⟩)
              have hbd : BandsAt U3 (some ⟨ge, 0, none⟩) exBs := (hd.e.touch HT2.out (fun k hk e => by obtain ⟨a, ea, eb⟩ := hk; cases ea; have h2 : ge = k := eb; omega)).touch HT3 (fun k hk e => by obtain ⟨a, ea, eb⟩ := hk; cases ea; have h2 : ge = k := eb; have := HG6.out; have := HGG.out; omega)
              have hbel : Below w.heap.size w U3 := Below.touch (Below.touch hd.b hd.b.size HT2.out (fun k e => by omega)) (by have := hd.b.size; have := HT2.out.size; omega) HT3 (fun k e => by omega)
              have hcap := cap_of hrow
              exact bodyPost_ret (v := .agg #[.int .i64 100, .slice (some ⟨ge, 0, none⟩) 2 2, .int .i64 10, .slice Aq1 2 cq1, .int .i64 cr, .int .i64 (1 + ev % 5), .int .i64 (1 + sl % 6), .int .i64 1000000, .int .i64 1000000]) (by simp [results, Tryz.results43, go_sem, r0, r1, r2, r3, r4, r5, r6, r7, r8]) rfl ⟨ge, Aq1, cq1, [cta, ctb], rfl, hbd, hcts, by rw [HCTa.out, HCTb.out]; rfl, rfl, hcap.1, hcap.2, hbel⟩
end Go.Proofs.YtlklnaebdnahcaaGreat
namespace Go.Proofs.YtlklnaebdnahcaaGreat
open Go.RowKit Nw
def NetS (w W : World) (n : Nat) (D : Dl) (S : St) : Prop := ∃ col M B, NetAt W B n col 0 D M S ∧ B ≤ W.heap.size ∧ (∀ k, k < w.heap.size → ¬ NetOwn col 0 k) ∧ Below w.heap.size w W
theorem NetS.below {w W W' : World} {n : Nat} {D : Dl} {S : St} (h : NetS w W n D S) (hb : Below W.heap.size W W') : NetS w W' n D S := by
  obtain ⟨col, M, B, h1, h2, h3, h4⟩ := h
  exact ⟨col, M, B, h1.below hb, Nat.le_trans h2 hb.size, h3, h4.trans (hb.mono h4.size)⟩
theorem NetS.bel {w W : World} {n : Nat} {D : Dl} {S : St} (h : NetS w W n D S) : Below w.heap.size w W := by
  obtain ⟨col, M, B, h1, h2, h3, h4⟩ := h
  exact h4
theorem NetS.op {w W : World} {n : Nat} {D : Dl} {S S' : St} {f : FuncId} {args : Array Value} {E : Ending} (h : NetS w W n D S) (hc : ∀ col M B, NetAt W B n col 0 D M S → B ≤ W.heap.size → Calls Tryz.prog f args W fun e w' => e = E ∧ NetTo W B n col 0 D S' w') :
    Calls Tryz.prog f args W fun e w' => e = E ∧ NetS w w' n D S' := by
  obtain ⟨col, M, B, h1, h2, h3, h4⟩ := h
  refine (hc col M B h1 h2).mono fun e w' ⟨he, col', M', hcc, hN, ht⟩ => ⟨he, col', M', B, hN, Nat.le_trans h2 ht.size, fun k hk => ?_, Below.touch h4 h4.size ht (fun k hk => ?_)⟩
  · have e1 := hcc k (Nat.lt_of_lt_of_le hk h4.size)
    have := h3 k hk
    unfold NetOwn at this ⊢
    rw [e1]
    exact this
  · by_cases hlt : w.heap.size ≤ k
    · exact hlt
    · exact absurd hk (h3 k (by omega))
theorem NetS.see {w W : World} {n : Nat} {D : Dl} {S : St} {f : FuncId} {args : Array Value} {E : Ending} (h : NetS w W n D S) (hc : ∀ col M B, NetAt W B n col 0 D M S → Calls Tryz.prog f args W fun e w' => e = E ∧ Below W.heap.size W w') :
    Calls Tryz.prog f args W fun e w' => e = E ∧ NetS w w' n D S := by
  have h0 := h
  obtain ⟨col, M, B, h1, h2, h3, h4⟩ := h
  exact (hc col M B h1).mono fun e w' ⟨he, hb⟩ => ⟨he, h0.below hb⟩
theorem do_n {w W : World} {n : Nat} {D : Dl} {S : St} (h : NetS w W n D S) {K : Int} (ho : OkA K D S) (k a b c : Int) : Calls Tryz.prog 24 #[.pointer (some ⟨n, 0, none⟩), .agg #[.int .i64 k, .int .i64 a, .int .i64 b, .int .i64 c]] W fun e w' => e = .returned (.int .i64 (doE D S k a b c)) ∧ NetS w w' n D (doS D S k a b c) :=
  h.op fun col M B h1 h2 => Do_c h1 h2 ho k a b c
theorem settle_n {w W : World} {n : Nat} {D : Dl} {S : St} (h : NetS w W n D S) {K : Int} {A L : Nat} (ho : OkB K A L D S) (hK : K + 25600000 ≤ 4611686018427387904) (hA : A + 400000 ≤ 1000000) (hL : L < 100000) (m : Int) : Calls Tryz.prog 22 #[.pointer (some ⟨n, 0, none⟩), .int .i64 m] W fun e w' => e = .returned (.tuple #[.int .i64 (setlV D S m), .int .i64 (setlE m)]) ∧ NetS w w' n D (setlS D S m) :=
  h.op fun col M B h1 h2 => Settle_c h1 h2 ho hK hA hL m
theorem phase_n {w W : World} {n : Nat} {D : Dl} {S : St} (h : NetS w W n D S) (q : Int) : Calls Tryz.prog 26 #[.pointer (some ⟨n, 0, none⟩), .int .i64 q] W fun e w' => e = .returned (.int .i64 (Nw.phase S q)) ∧ NetS w w' n D S :=
  h.see fun col M B h1 => (Phase_c h1 q).mono fun e w' ⟨he, hw⟩ => ⟨he, hw ▸ Below.refl _ _⟩
theorem flowing_n {w W : World} {n : Nat} {D : Dl} {S : St} (h : NetS w W n D S) : Calls Tryz.prog 29 #[.pointer (some ⟨n, 0, none⟩)] W fun e w' => e = .returned (.int .i64 S.flow) ∧ NetS w w' n D S :=
  h.see fun col M B h1 => (Flowing_c h1).mono fun e w' ⟨he, hw⟩ => ⟨he, hw ▸ Below.refl _ _⟩
theorem bill_n {w W : World} {n : Nat} {D : Dl} {S : St} (h : NetS w W n D S) (q s : Int) : Calls Tryz.prog 20 #[.pointer (some ⟨n, 0, none⟩), .int .i64 q, .int .i64 s] W fun e w' => e = .returned (.tuple #[Nw.Bl.v (billV S q s), .int .i64 (billE S q s)]) ∧ NetS w w' n D S :=
  h.see fun col M B h1 => Bill_c h1 q s
theorem settle_one (D : Dl) (n i : Nat) (S : St) : (Nw.settle D (n + 1) i S).1 = S ∨ (Nw.settle D (n + 1) i S).1 = beat D S ∨ (Nw.settle D (n + 1) i S).1 = (Nw.settle D n (i + 1) (beat D S)).1 := by
  have e : Nw.settle D (n + 1) i S = if 1099511627776 ≤ S.now then (S, i) else if waits (beat D S) then Nw.settle D n (i + 1) (beat D S) else (beat D S, i + 1) := by
    conv => lhs; unfold Nw.settle
  rw [e]
  generalize beat D S = T
  generalize (1099511627776 : Int) = mx
  split
  · exact .inl rfl
  · split
    · exact .inr (.inr rfl)
    · exact .inr (.inl rfl)
theorem OkB.settle {L : Nat} {D : Dl} (n : Nat) : ∀ {K : Int} {A : Nat} (i : Nat) {S : St}, OkB K A L D S → ∀ {K' : Int} {A' : Nat}, K' = K + 12800 * n → A' = A + 200 * n → K' ≤ 4611686018427387904 → OkB K' A' L D (Nw.settle D n i S).1 := by
  induction n with
  | zero =>
    intro K A i S h K' A' hK hA hle
    have e1 : K' = K := by omega
    have e2 : A' = A := by omega
    rw [e1, e2]
    exact h
  | succ n ih =>
    intro K A i S h K' A' hK hA hle
    have hb := h.beat (by omega)
    rcases settle_one D n i S with e | e | e
    · rw [e]; exact h.up (by omega) hle (by omega) (Nat.le_refl _)
    · rw [e]; exact hb.up (by omega) hle (by omega) (Nat.le_refl _)
    · rw [e]; exact ih (i + 1) hb (by omega) (by omega) hle
theorem OkB.new {D : Dl} (hd : ∀ c ∈ D.cn, ∀ q ∈ c.ps, 0 ≤ q) (hc : D.cn.length ≤ 16) : OkB 0 0 0 D st0 where
  n := ⟨⟨by decide, by decide⟩, fun i hi => by
    have e : Nw.ln st0 i = Lx.ln0 := by
      match i, hi with
      | 0, _ => rfl
      | 1, _ => rfl
      | 2, _ => rfl
      | 3, _ => rfl
      | 4, _ => rfl
      | 5, _ => rfl
    rw [e]
    exact ⟨⟨by decide, by decide⟩, ⟨by decide, by decide⟩, by decide⟩, fun s hs => (by cases hs)⟩
  d := hd
  c16 := hc
  ac := Nat.le_refl _
  cs := fun c hc => by
    obtain rfl := List.mem_singleton.1 hc
    exact ⟨by decide, by decide, by decide, fun l hl => (by cases hl), by decide⟩
  cl := by decide
  fl := by decide
theorem deal_ok {ev sl cr : Int} (hev : 1 ≤ ev ∧ ev ≤ 1000) (hsl : 1 ≤ sl ∧ sl ≤ 20) (hcr : 0 ≤ cr ∧ cr ≤ 255) {cts : List Ct} (hm : cts.map toCn = xCn) (hl : cts.length = 2) : Cv.deE (Cv.tarE 100 10 exBs) cts.length (Cv.ctsOk cts) cr ev sl 1000000 1000000 = 0 := by
  have h1 : Cv.ctsOk cts = xCn.all (fun c => Cv.ctOk c.pt c.ps) := by
    rw [← hm, List.all_map]
    rfl
  have h2 : xCn.all (fun c => Cv.ctOk c.pt c.ps) = true := by decide +kernel
  have h3 : Cv.tarE 100 10 exBs = 0 := Cv.tarE_ok ⟨by decide, by decide, by decide, fun i hi => by
    match i, hi with
    | 0, _ => unfold Cv.okAt; decide
    | 1, _ => unfold Cv.okAt; decide⟩
  refine Cv.deE_yes ⟨h3, by omega, by omega, by rw [h1, h2], Cv.inB_iff.2 (by omega), hev.1, hev.2, hsl.1, hsl.2, Cv.inB_iff.2 (by omega), Cv.inB_iff.2 (by omega)⟩
theorem xCn_pos : ∀ c ∈ xCn, ∀ q ∈ c.ps, 0 ≤ q := by
  intro c hc q hq
  have : xCn.all (fun c => c.ps.all (fun q => decide (0 ≤ q))) = true := by decide +kernel
  rw [List.all_eq_true] at this
  have h2 := this c hc
  rw [List.all_eq_true] at h2
  exact of_decide_eq_true (h2 q hq)
theorem new_n {ev sl cr : Int} (hev : 1 ≤ ev ∧ ev ≤ 1000) (hsl : 1 ≤ sl ∧ sl ≤ 20) (hcr : 0 ≤ cr ∧ cr ≤ 255) {ge : Nat} {A : Option Addr} {c : Nat} {cts : List Ct} {w W : World} (hb : Below w.heap.size w W) (hbd : BandsAt W (some ⟨ge, 0, none⟩) exBs) (hct : CtsAt W A cts) (hm : cts.map toCn = xCn) (hl : cts.length = 2) (hc : 2 ≤ c) (hc2 : c ≤ 9223372036854775807) :
    Calls Tryz.prog 34 #[.agg #[.int .i64 100, .slice (some ⟨ge, 0, none⟩) 2 2, .int .i64 10, .slice A 2 c, .int .i64 cr, .int .i64 ev, .int .i64 sl, .int .i64 1000000, .int .i64 1000000]] W fun e w' => ∃ n, e = .returned (.tuple #[.pointer (some ⟨n, 0, none⟩), .int .i64 0]) ∧ NetS w w' n ⟨100, 10, exBs, xCn, cr, ev, sl, 1000000, 1000000⟩ st0 := by
  have h0 := NewNet_0 100 10 (some ⟨ge, 0, none⟩) exBs 2 A cts c cr ev sl 1000000 1000000 W (by decide) (by decide) hbd (by omega) hc2 hct (deal_ok hev hsl hcr hm hl) (fun _ => 100) 0
  rw [hm] at h0
  unfold dealV at h0
  rw [hl] at h0
  refine h0.mono fun e w' ⟨n, col, M, he, hN, hcol, hbel⟩ => ⟨n, he, col, M, W.heap.size, hN, hbel.size, fun k hk => ?_, hb.trans (hbel.mono hb.size)⟩
  have e1 := hcol k (Nat.lt_of_lt_of_le hk hb.size)
  unfold NetOwn
  rw [e1]
  omega
end Go.Proofs.YtlklnaebdnahcaaGreat
namespace Go.Proofs.YtlklnaebdnahcaaGreat
open Go.RowKit Nw
namespace Pr
def padF' (i k : Nat) : Int := ((((k + 3) * (k + i + 5) * 123457) % 2147483647 : Nat) : Int)
def padL' (i n : Nat) : List Int := (List.range n).map (padF' i)
def D : Dl := ⟨100, 10, [⟨0, 36, 18⟩, ⟨50, 72, 0⟩], [⟨1000, padL' 0 20⟩, ⟨1077, padL' 1 20⟩], 255, 2, 3, 1000000, 1000000⟩
noncomputable def S0 : St := doS D st0 8 500000 400000 5000
noncomputable def a1 (c b : Int) (S : St) : St := (Nw.settle D 100 0 (doS D S 1 c b 0)).1
noncomputable def a3 (c b p : Int) (S : St) : St := unplugS (Nw.tick D (a1 c b S) p)
noncomputable def a4 (c b p : Int) (S : St) : St := (Nw.settle D 100 0 (a3 c b p S)).1
noncomputable def rd (c b p : Int) (S : St) : St := doS D (a4 c b p S) 9 c 0 0
noncomputable def chk (c b p : Int) (n : Nat) (S : St) : Bool :=
  decide (doE D S 1 c b 0 = 0) && decide ((a1 c b S).vph = (if b = 0 then 2 else 4)) && decide ((a1 c b S).now < 1099511627776)
   && (Nw.tick D (a1 c b S) p).inn && decide (doE D (a4 c b p S) 9 c 0 0 = 0) && (decide (billE (a4 c b p S) 0 ((n : Int) + 1) = 0) == decide (b = 0))
end Pr
end Go.Proofs.YtlklnaebdnahcaaGreat
namespace Go.Proofs.YtlklnaebdnahcaaGreat
open Go.RowKit Nw
namespace Pr
set_option maxRecDepth 100000
set_option maxHeartbeats 0
def W0_1 : St := ({ now := 7, L := [⟨[], 1, 1, false⟩, ⟨[], 1, 1, false⟩, ⟨[], 2, 2, false⟩, ⟨[], 2, 2, false⟩, ⟨[], 0, 0, false⟩, ⟨[], 0, 0, false⟩], fl := [], pg := [1, 0, 0, 0, 0, 0, 0, 0, 0, 0, 0, 0, 0, 0, 0, 0], inn := false, flow := 0, vb := [], vph := 4, vp0 := 0, vp1 := 0, vss := 0, vc := [], sb := [], sph := 0, sss := 1, sp0 := 0, sp1 := 0, gone := false, si := 0, sk := 0, opn := 0, tks := 0, po := ⟨1, 500000, 400000, 5000⟩, us := [], ac := [], cs := [⟨[⟨1, 500000, 400000, 5000⟩], 1, 1⟩], sN := 0, pb := [], pc := [], pd := [] } : St)
def W0_2 : St := ({ now := 14, L := [⟨[], 2, 2, false⟩, ⟨[], 2, 2, false⟩, ⟨[], 3, 3, false⟩, ⟨[], 3, 3, false⟩, ⟨[], 0, 0, false⟩, ⟨[], 0, 0, false⟩], fl := [], pg := [2, 0, 0, 0, 0, 0, 0, 0, 0, 0, 0, 0, 0, 0, 0, 0], inn := false, flow := 0, vb := [], vph := 4, vp0 := 0, vp1 := 1, vss := 0, vc := [], sb := [], sph := 0, sss := 2, sp0 := 0, sp1 := 1, gone := false, si := 0, sk := 0, opn := 0, tks := 0, po := ⟨1, 500000, 400000, 5000⟩, us := [], ac := [], cs := [⟨[⟨1, 500000, 400000, 5000⟩], 1, 1⟩], sN := 0, pb := [], pc := [], pd := [] } : St)
def W0_3 : St := ({ now := 21, L := [⟨[], 3, 3, false⟩, ⟨[], 3, 3, false⟩, ⟨[], 4, 4, false⟩, ⟨[], 4, 4, false⟩, ⟨[], 0, 0, false⟩, ⟨[], 0, 0, false⟩], fl := [], pg := [3, 0, 0, 0, 0, 0, 0, 0, 0, 0, 0, 0, 0, 0, 0, 0], inn := false, flow := 0, vb := [], vph := 4, vp0 := 0, vp1 := 2, vss := 0, vc := [], sb := [], sph := 0, sss := 3, sp0 := 0, sp1 := 2, gone := false, si := 0, sk := 0, opn := 0, tks := 0, po := ⟨1, 500000, 400000, 5000⟩, us := [], ac := [], cs := [⟨[⟨1, 500000, 400000, 5000⟩], 1, 1⟩], sN := 0, pb := [], pc := [], pd := [] } : St)
def W0_4 : St := ({ now := 28, L := [⟨[], 4, 4, false⟩, ⟨[], 4, 4, false⟩, ⟨[], 5, 5, false⟩, ⟨[], 5, 5, false⟩, ⟨[], 0, 0, false⟩, ⟨[], 0, 0, false⟩], fl := [], pg := [4, 0, 0, 0, 0, 0, 0, 0, 0, 0, 0, 0, 0, 0, 0, 0], inn := false, flow := 0, vb := [], vph := 4, vp0 := 0, vp1 := 3, vss := 0, vc := [], sb := [], sph := 0, sss := 4, sp0 := 0, sp1 := 3, gone := false, si := 0, sk := 0, opn := 0, tks := 0, po := ⟨1, 500000, 400000, 5000⟩, us := [], ac := [], cs := [⟨[⟨1, 500000, 400000, 5000⟩], 1, 1⟩], sN := 0, pb := [], pc := [], pd := [] } : St)
def T0_1 (vi1 vb1 va1 si1 sb1 sa1 ai1 ab1 aa1 pi1 pb1 pa1 ei1 eb1 : Int) : St := ({ now := 107, L := [⟨[], 1, 2, true⟩, ⟨[], 2, 1, false⟩, ⟨[], 51, 51, false⟩, ⟨[], 51, 51, false⟩, ⟨[], 2, 1, false⟩, ⟨[], 1, 2, false⟩], fl := [], pg := [1, 0, 0, 0, 0, 0, 0, 0, 0, 0, 0, 0, 0, 0, 0, 0], inn := false, flow := 0, vb := [(1, ⟨1, vi1, vb1, va1⟩)], vph := 4, vp0 := 0, vp1 := 0, vss := 1, vc := [(1, ⟨ei1, eb1⟩)], sb := [(1, ⟨1, si1, sb1, sa1⟩)], sph := 0, sss := 1, sp0 := 0, sp1 := 0, gone := false, si := 0, sk := 0, opn := 1, tks := 0, po := ⟨1, 500000, 400000, 5000⟩, us := [((0, 0), true)], ac := [⟨⟨1, ai1, ab1, aa1⟩, false, true⟩], cs := [⟨[⟨1, 500000, 400000, 5000⟩], 1, 1⟩], sN := 0, pb := [(1, ⟨1, pi1, pb1, pa1⟩)], pc := [(1, 0)], pd := [(1, true)] } : St)
def T0_2 (vi1 vb1 va1 si1 sb1 sa1 ai1 ab1 aa1 pi1 pb1 pa1 ei1 eb1 vi2 vb2 va2 si2 sb2 sa2 ai2 ab2 aa2 pi2 pb2 pa2 ei2 eb2 : Int) : St := ({ now := 214, L := [⟨[], 2, 4, true⟩, ⟨[], 4, 2, false⟩, ⟨[], 101, 101, false⟩, ⟨[], 101, 101, false⟩, ⟨[], 4, 2, false⟩, ⟨[], 2, 4, false⟩], fl := [], pg := [2, 0, 0, 0, 0, 0, 0, 0, 0, 0, 0, 0, 0, 0, 0, 0], inn := false, flow := 0, vb := [(1, ⟨1, vi1, vb1, va1⟩), (2, ⟨2, vi2, vb2, va2⟩)], vph := 4, vp0 := 0, vp1 := 1, vss := 2, vc := [(1, ⟨ei1, eb1⟩), (2, ⟨ei2, eb2⟩)], sb := [(1, ⟨1, si1, sb1, sa1⟩), (2, ⟨2, si2, sb2, sa2⟩)], sph := 0, sss := 2, sp0 := 0, sp1 := 1, gone := false, si := 0, sk := 0, opn := 1, tks := 0, po := ⟨1, 500000, 400000, 5000⟩, us := [((0, 0), true), ((0, 1), true)], ac := [⟨⟨1, ai1, ab1, aa1⟩, false, true⟩, ⟨⟨2, ai2, ab2, aa2⟩, false, true⟩], cs := [⟨[⟨1, 500000, 400000, 5000⟩], 1, 1⟩], sN := 0, pb := [(1, ⟨1, pi1, pb1, pa1⟩), (2, ⟨2, pi2, pb2, pa2⟩)], pc := [(1, 0), (2, 0)], pd := [(1, true), (2, true)] } : St)
def T0_3 (vi1 vb1 va1 si1 sb1 sa1 ai1 ab1 aa1 pi1 pb1 pa1 ei1 eb1 vi2 vb2 va2 si2 sb2 sa2 ai2 ab2 aa2 pi2 pb2 pa2 ei2 eb2 vi3 vb3 va3 si3 sb3 sa3 ai3 ab3 aa3 pi3 pb3 pa3 ei3 eb3 : Int) : St := ({ now := 321, L := [⟨[], 3, 6, true⟩, ⟨[], 6, 3, false⟩, ⟨[], 151, 151, false⟩, ⟨[], 151, 151, false⟩, ⟨[], 6, 3, false⟩, ⟨[], 3, 6, false⟩], fl := [], pg := [3, 0, 0, 0, 0, 0, 0, 0, 0, 0, 0, 0, 0, 0, 0, 0], inn := false, flow := 0, vb := [(1, ⟨1, vi1, vb1, va1⟩), (2, ⟨2, vi2, vb2, va2⟩), (3, ⟨3, vi3, vb3, va3⟩)], vph := 4, vp0 := 0, vp1 := 2, vss := 3, vc := [(1, ⟨ei1, eb1⟩), (2, ⟨ei2, eb2⟩), (3, ⟨ei3, eb3⟩)], sb := [(1, ⟨1, si1, sb1, sa1⟩), (2, ⟨2, si2, sb2, sa2⟩), (3, ⟨3, si3, sb3, sa3⟩)], sph := 0, sss := 3, sp0 := 0, sp1 := 2, gone := false, si := 0, sk := 0, opn := 1, tks := 0, po := ⟨1, 500000, 400000, 5000⟩, us := [((0, 0), true), ((0, 1), true), ((0, 2), true)], ac := [⟨⟨1, ai1, ab1, aa1⟩, false, true⟩, ⟨⟨2, ai2, ab2, aa2⟩, false, true⟩, ⟨⟨3, ai3, ab3, aa3⟩, false, true⟩], cs := [⟨[⟨1, 500000, 400000, 5000⟩], 1, 1⟩], sN := 0, pb := [(1, ⟨1, pi1, pb1, pa1⟩), (2, ⟨2, pi2, pb2, pa2⟩), (3, ⟨3, pi3, pb3, pa3⟩)], pc := [(1, 0), (2, 0), (3, 0)], pd := [(1, true), (2, true), (3, true)] } : St)
def T0_4 (vi1 vb1 va1 si1 sb1 sa1 ai1 ab1 aa1 pi1 pb1 pa1 ei1 eb1 vi2 vb2 va2 si2 sb2 sa2 ai2 ab2 aa2 pi2 pb2 pa2 ei2 eb2 vi3 vb3 va3 si3 sb3 sa3 ai3 ab3 aa3 pi3 pb3 pa3 ei3 eb3 vi4 vb4 va4 si4 sb4 sa4 ai4 ab4 aa4 pi4 pb4 pa4 ei4 eb4 : Int) : St := ({ now := 428, L := [⟨[], 4, 8, true⟩, ⟨[], 8, 4, false⟩, ⟨[], 201, 201, false⟩, ⟨[], 201, 201, false⟩, ⟨[], 8, 4, false⟩, ⟨[], 4, 8, false⟩], fl := [], pg := [4, 0, 0, 0, 0, 0, 0, 0, 0, 0, 0, 0, 0, 0, 0, 0], inn := false, flow := 0, vb := [(1, ⟨1, vi1, vb1, va1⟩), (2, ⟨2, vi2, vb2, va2⟩), (3, ⟨3, vi3, vb3, va3⟩), (4, ⟨4, vi4, vb4, va4⟩)], vph := 4, vp0 := 0, vp1 := 3, vss := 4, vc := [(1, ⟨ei1, eb1⟩), (2, ⟨ei2, eb2⟩), (3, ⟨ei3, eb3⟩), (4, ⟨ei4, eb4⟩)], sb := [(1, ⟨1, si1, sb1, sa1⟩), (2, ⟨2, si2, sb2, sa2⟩), (3, ⟨3, si3, sb3, sa3⟩), (4, ⟨4, si4, sb4, sa4⟩)], sph := 0, sss := 4, sp0 := 0, sp1 := 3, gone := false, si := 0, sk := 0, opn := 1, tks := 0, po := ⟨1, 500000, 400000, 5000⟩, us := [((0, 0), true), ((0, 1), true), ((0, 2), true), ((0, 3), true)], ac := [⟨⟨1, ai1, ab1, aa1⟩, false, true⟩, ⟨⟨2, ai2, ab2, aa2⟩, false, true⟩, ⟨⟨3, ai3, ab3, aa3⟩, false, true⟩, ⟨⟨4, ai4, ab4, aa4⟩, false, true⟩], cs := [⟨[⟨1, 500000, 400000, 5000⟩], 1, 1⟩], sN := 0, pb := [(1, ⟨1, pi1, pb1, pa1⟩), (2, ⟨2, pi2, pb2, pa2⟩), (3, ⟨3, pi3, pb3, pa3⟩), (4, ⟨4, pi4, pb4, pa4⟩)], pc := [(1, 0), (2, 0), (3, 0), (4, 0)], pd := [(1, true), (2, true), (3, true), (4, true)] } : St)
theorem w0_0 (p : Int) : rd 0 1 p S0 = W0_1 := by kernel_rfl
theorem wk0_0 (p : Int) : chk 0 1 p 0 S0 = true := by kernel_rfl
theorem wf0_0 (p : Int) : (Nw.tick D (a1 0 1 S0) p).flow = 0 := by kernel_rfl
theorem w0_1 (p : Int) : rd 0 1 p W0_1 = W0_2 := by kernel_rfl
theorem wk0_1 (p : Int) : chk 0 1 p 1 W0_1 = true := by kernel_rfl
theorem wf0_1 (p : Int) : (Nw.tick D (a1 0 1 W0_1) p).flow = 0 := by kernel_rfl
theorem w0_2 (p : Int) : rd 0 1 p W0_2 = W0_3 := by kernel_rfl
theorem wk0_2 (p : Int) : chk 0 1 p 2 W0_2 = true := by kernel_rfl
theorem wf0_2 (p : Int) : (Nw.tick D (a1 0 1 W0_2) p).flow = 0 := by kernel_rfl
theorem w0_3 (p : Int) : rd 0 1 p W0_3 = W0_4 := by kernel_rfl
theorem wk0_3 (p : Int) : chk 0 1 p 3 W0_3 = true := by kernel_rfl
theorem wf0_3 (p : Int) : (Nw.tick D (a1 0 1 W0_3) p).flow = 0 := by kernel_rfl
theorem wk0_4 (p : Int) : chk 0 1 p 4 W0_4 = true := by kernel_rfl
theorem wf0_4 (p : Int) : (Nw.tick D (a1 0 1 W0_4) p).flow = 0 := by kernel_rfl
theorem t0_0 (p : Int) : (rd 0 0 p S0) = T0_1  (((rd 0 0 p S0).vb.getD 0 default).2.i) (((rd 0 0 p S0).vb.getD 0 default).2.b) (((rd 0 0 p S0).vb.getD 0 default).2.a) (((rd 0 0 p S0).sb.getD 0 default).2.i) (((rd 0 0 p S0).sb.getD 0 default).2.b) (((rd 0 0 p S0).sb.getD 0 default).2.a) (((rd 0 0 p S0).ac.getD 0 default).bl.i) (((rd 0 0 p S0).ac.getD 0 default).bl.b) (((rd 0 0 p S0).ac.getD 0 default).bl.a) (((rd 0 0 p S0).pb.getD 0 default).2.i) (((rd 0 0 p S0).pb.getD 0 default).2.b) (((rd 0 0 p S0).pb.getD 0 default).2.a) (((rd 0 0 p S0).vc.getD 0 default).2.i) (((rd 0 0 p S0).vc.getD 0 default).2.b) := by kernel_rfl
theorem tk0_0 (p : Int) : chk 0 0 p 0 S0 = true := by kernel_rfl
theorem tf0_0 (p : Int) : (Nw.tick D (a1 0 0 S0) p).flow = max (wr (-400000)) (min p 500000) := by kernel_rfl
theorem t0_1 (p : Int) (vi1 vb1 va1 si1 sb1 sa1 ai1 ab1 aa1 pi1 pb1 pa1 ei1 eb1 : Int) : (rd 0 0 p (T0_1 vi1 vb1 va1 si1 sb1 sa1 ai1 ab1 aa1 pi1 pb1 pa1 ei1 eb1)) = T0_2 vi1 vb1 va1 si1 sb1 sa1 ai1 ab1 aa1 pi1 pb1 pa1 ei1 eb1 (((rd 0 0 p (T0_1 vi1 vb1 va1 si1 sb1 sa1 ai1 ab1 aa1 pi1 pb1 pa1 ei1 eb1)).vb.getD 1 default).2.i) (((rd 0 0 p (T0_1 vi1 vb1 va1 si1 sb1 sa1 ai1 ab1 aa1 pi1 pb1 pa1 ei1 eb1)).vb.getD 1 default).2.b) (((rd 0 0 p (T0_1 vi1 vb1 va1 si1 sb1 sa1 ai1 ab1 aa1 pi1 pb1 pa1 ei1 eb1)).vb.getD 1 default).2.a) (((rd 0 0 p (T0_1 vi1 vb1 va1 si1 sb1 sa1 ai1 ab1 aa1 pi1 pb1 pa1 ei1 eb1)).sb.getD 1 default).2.i) (((rd 0 0 p (T0_1 vi1 vb1 va1 si1 sb1 sa1 ai1 ab1 aa1 pi1 pb1 pa1 ei1 eb1)).sb.getD 1 default).2.b) (((rd 0 0 p (T0_1 vi1 vb1 va1 si1 sb1 sa1 ai1 ab1 aa1 pi1 pb1 pa1 ei1 eb1)).sb.getD 1 default).2.a) (((rd 0 0 p (T0_1 vi1 vb1 va1 si1 sb1 sa1 ai1 ab1 aa1 pi1 pb1 pa1 ei1 eb1)).ac.getD 1 default).bl.i) (((rd 0 0 p (T0_1 vi1 vb1 va1 si1 sb1 sa1 ai1 ab1 aa1 pi1 pb1 pa1 ei1 eb1)).ac.getD 1 default).bl.b) (((rd 0 0 p (T0_1 vi1 vb1 va1 si1 sb1 sa1 ai1 ab1 aa1 pi1 pb1 pa1 ei1 eb1)).ac.getD 1 default).bl.a) (((rd 0 0 p (T0_1 vi1 vb1 va1 si1 sb1 sa1 ai1 ab1 aa1 pi1 pb1 pa1 ei1 eb1)).pb.getD 1 default).2.i) (((rd 0 0 p (T0_1 vi1 vb1 va1 si1 sb1 sa1 ai1 ab1 aa1 pi1 pb1 pa1 ei1 eb1)).pb.getD 1 default).2.b) (((rd 0 0 p (T0_1 vi1 vb1 va1 si1 sb1 sa1 ai1 ab1 aa1 pi1 pb1 pa1 ei1 eb1)).pb.getD 1 default).2.a) (((rd 0 0 p (T0_1 vi1 vb1 va1 si1 sb1 sa1 ai1 ab1 aa1 pi1 pb1 pa1 ei1 eb1)).vc.getD 1 default).2.i) (((rd 0 0 p (T0_1 vi1 vb1 va1 si1 sb1 sa1 ai1 ab1 aa1 pi1 pb1 pa1 ei1 eb1)).vc.getD 1 default).2.b) := by kernel_rfl
theorem tk0_1 (p : Int) (vi1 vb1 va1 si1 sb1 sa1 ai1 ab1 aa1 pi1 pb1 pa1 ei1 eb1 : Int) : chk 0 0 p 1 (T0_1 vi1 vb1 va1 si1 sb1 sa1 ai1 ab1 aa1 pi1 pb1 pa1 ei1 eb1) = true := by kernel_rfl
theorem tf0_1 (p : Int) (vi1 vb1 va1 si1 sb1 sa1 ai1 ab1 aa1 pi1 pb1 pa1 ei1 eb1 : Int) : (Nw.tick D (a1 0 0 (T0_1 vi1 vb1 va1 si1 sb1 sa1 ai1 ab1 aa1 pi1 pb1 pa1 ei1 eb1)) p).flow = max (wr (-400000)) (min p 500000) := by kernel_rfl
theorem t0_2 (p : Int) (vi1 vb1 va1 si1 sb1 sa1 ai1 ab1 aa1 pi1 pb1 pa1 ei1 eb1 vi2 vb2 va2 si2 sb2 sa2 ai2 ab2 aa2 pi2 pb2 pa2 ei2 eb2 : Int) : (rd 0 0 p (T0_2 vi1 vb1 va1 si1 sb1 sa1 ai1 ab1 aa1 pi1 pb1 pa1 ei1 eb1 vi2 vb2 va2 si2 sb2 sa2 ai2 ab2 aa2 pi2 pb2 pa2 ei2 eb2)) = T0_3 vi1 vb1 va1 si1 sb1 sa1 ai1 ab1 aa1 pi1 pb1 pa1 ei1 eb1 vi2 vb2 va2 si2 sb2 sa2 ai2 ab2 aa2 pi2 pb2 pa2 ei2 eb2 (((rd 0 0 p (T0_2 vi1 vb1 va1 si1 sb1 sa1 ai1 ab1 aa1 pi1 pb1 pa1 ei1 eb1 vi2 vb2 va2 si2 sb2 sa2 ai2 ab2 aa2 pi2 pb2 pa2 ei2 eb2)).vb.getD 2 default).2.i) (((rd 0 0 p (T0_2 vi1 vb1 va1 si1 sb1 sa1 ai1 ab1 aa1 pi1 pb1 pa1 ei1 eb1 vi2 vb2 va2 si2 sb2 sa2 ai2 ab2 aa2 pi2 pb2 pa2 ei2 eb2)).vb.getD 2 default).2.b) (((rd 0 0 p (T0_2 vi1 vb1 va1 si1 sb1 sa1 ai1 ab1 aa1 pi1 pb1 pa1 ei1 eb1 vi2 vb2 va2 si2 sb2 sa2 ai2 ab2 aa2 pi2 pb2 pa2 ei2 eb2)).vb.getD 2 default).2.a) (((rd 0 0 p (T0_2 vi1 vb1 va1 si1 sb1 sa1 ai1 ab1 aa1 pi1 pb1 pa1 ei1 eb1 vi2 vb2 va2 si2 sb2 sa2 ai2 ab2 aa2 pi2 pb2 pa2 ei2 eb2)).sb.getD 2 default).2.i) (((rd 0 0 p (T0_2 vi1 vb1 va1 si1 sb1 sa1 ai1 ab1 aa1 pi1 pb1 pa1 ei1 eb1 vi2 vb2 va2 si2 sb2 sa2 ai2 ab2 aa2 pi2 pb2 pa2 ei2 eb2)).sb.getD 2 default).2.b) (((rd 0 0 p (T0_2 vi1 vb1 va1 si1 sb1 sa1 ai1 ab1 aa1 pi1 pb1 pa1 ei1 eb1 vi2 vb2 va2 si2 sb2 sa2 ai2 ab2 aa2 pi2 pb2 pa2 ei2 eb2)).sb.getD 2 default).2.a) (((rd 0 0 p (T0_2 vi1 vb1 va1 si1 sb1 sa1 ai1 ab1 aa1 pi1 pb1 pa1 ei1 eb1 vi2 vb2 va2 si2 sb2 sa2 ai2 ab2 aa2 pi2 pb2 pa2 ei2 eb2)).ac.getD 2 default).bl.i) (((rd 0 0 p (T0_2 vi1 vb1 va1 si1 sb1 sa1 ai1 ab1 aa1 pi1 pb1 pa1 ei1 eb1 vi2 vb2 va2 si2 sb2 sa2 ai2 ab2 aa2 pi2 pb2 pa2 ei2 eb2)).ac.getD 2 default).bl.b) (((rd 0 0 p (T0_2 vi1 vb1 va1 si1 sb1 sa1 ai1 ab1 aa1 pi1 pb1 pa1 ei1 eb1 vi2 vb2 va2 si2 sb2 sa2 ai2 ab2 aa2 pi2 pb2 pa2 ei2 eb2)).ac.getD 2 default).bl.a) (((rd 0 0 p (T0_2 vi1 vb1 va1 si1 sb1 sa1 ai1 ab1 aa1 pi1 pb1 pa1 ei1 eb1 vi2 vb2 va2 si2 sb2 sa2 ai2 ab2 aa2 pi2 pb2 pa2 ei2 eb2)).pb.getD 2 default).2.i) (((rd 0 0 p (T0_2 vi1 vb1 va1 si1 sb1 sa1 ai1 ab1 aa1 pi1 pb1 pa1 ei1 eb1 vi2 vb2 va2 si2 sb2 sa2 ai2 ab2 aa2 pi2 pb2 pa2 ei2 eb2)).pb.getD 2 default).2.b) (((rd 0 0 p (T0_2 vi1 vb1 va1 si1 sb1 sa1 ai1 ab1 aa1 pi1 pb1 pa1 ei1 eb1 vi2 vb2 va2 si2 sb2 sa2 ai2 ab2 aa2 pi2 pb2 pa2 ei2 eb2)).pb.getD 2 default).2.a) (((rd 0 0 p (T0_2 vi1 vb1 va1 si1 sb1 sa1 ai1 ab1 aa1 pi1 pb1 pa1 ei1 eb1 vi2 vb2 va2 si2 sb2 sa2 ai2 ab2 aa2 pi2 pb2 pa2 ei2 eb2)).vc.getD 2 default).2.i) (((rd 0 0 p (T0_2 vi1 vb1 va1 si1 sb1 sa1 ai1 ab1 aa1 pi1 pb1 pa1 ei1 eb1 vi2 vb2 va2 si2 sb2 sa2 ai2 ab2 aa2 pi2 pb2 pa2 ei2 eb2)).vc.getD 2 default).2.b) := by kernel_rfl
theorem tk0_2 (p : Int) (vi1 vb1 va1 si1 sb1 sa1 ai1 ab1 aa1 pi1 pb1 pa1 ei1 eb1 vi2 vb2 va2 si2 sb2 sa2 ai2 ab2 aa2 pi2 pb2 pa2 ei2 eb2 : Int) : chk 0 0 p 2 (T0_2 vi1 vb1 va1 si1 sb1 sa1 ai1 ab1 aa1 pi1 pb1 pa1 ei1 eb1 vi2 vb2 va2 si2 sb2 sa2 ai2 ab2 aa2 pi2 pb2 pa2 ei2 eb2) = true := by kernel_rfl
theorem tf0_2 (p : Int) (vi1 vb1 va1 si1 sb1 sa1 ai1 ab1 aa1 pi1 pb1 pa1 ei1 eb1 vi2 vb2 va2 si2 sb2 sa2 ai2 ab2 aa2 pi2 pb2 pa2 ei2 eb2 : Int) : (Nw.tick D (a1 0 0 (T0_2 vi1 vb1 va1 si1 sb1 sa1 ai1 ab1 aa1 pi1 pb1 pa1 ei1 eb1 vi2 vb2 va2 si2 sb2 sa2 ai2 ab2 aa2 pi2 pb2 pa2 ei2 eb2)) p).flow = max (wr (-400000)) (min p 500000) := by kernel_rfl
theorem t0_3 (p : Int) (vi1 vb1 va1 si1 sb1 sa1 ai1 ab1 aa1 pi1 pb1 pa1 ei1 eb1 vi2 vb2 va2 si2 sb2 sa2 ai2 ab2 aa2 pi2 pb2 pa2 ei2 eb2 vi3 vb3 va3 si3 sb3 sa3 ai3 ab3 aa3 pi3 pb3 pa3 ei3 eb3 : Int) : (rd 0 0 p (T0_3 vi1 vb1 va1 si1 sb1 sa1 ai1 ab1 aa1 pi1 pb1 pa1 ei1 eb1 vi2 vb2 va2 si2 sb2 sa2 ai2 ab2 aa2 pi2 pb2 pa2 ei2 eb2 vi3 vb3 va3 si3 sb3 sa3 ai3 ab3 aa3 pi3 pb3 pa3 ei3 eb3)) = T0_4 vi1 vb1 va1 si1 sb1 sa1 ai1 ab1 aa1 pi1 pb1 pa1 ei1 eb1 vi2 vb2 va2 si2 sb2 sa2 ai2 ab2 aa2 pi2 pb2 pa2 ei2 eb2 vi3 vb3 va3 si3 sb3 sa3 ai3 ab3 aa3 pi3 pb3 pa3 ei3 eb3 (((rd 0 0 p (T0_3 vi1 vb1 va1 si1 sb1 sa1 ai1 ab1 aa1 pi1 pb1 pa1 ei1 eb1 vi2 vb2 va2 si2 sb2 sa2 ai2 ab2 aa2 pi2 pb2 pa2 ei2 eb2 vi3 vb3 va3 si3 sb3 sa3 ai3 ab3 aa3 pi3 pb3 pa3 ei3 eb3)).vb.getD 3 default).2.i) (((rd 0 0 p (T0_3 vi1 vb1 va1 si1 sb1 sa1 ai1 ab1 aa1 pi1 pb1 pa1 ei1 eb1 vi2 vb2 va2 si2 sb2 sa2 ai2 ab2 aa2 pi2 pb2 pa2 ei2 eb2 vi3 vb3 va3 si3 sb3 sa3 ai3 ab3 aa3 pi3 pb3 pa3 ei3 eb3)).vb.getD 3 default).2.b) (((rd 0 0 p (T0_3 vi1 vb1 va1 si1 sb1 sa1 ai1 ab1 aa1 pi1 pb1 pa1 ei1 eb1 vi2 vb2 va2 si2 sb2 sa2 ai2 ab2 aa2 pi2 pb2 pa2 ei2 eb2 vi3 vb3 va3 si3 sb3 sa3 ai3 ab3 aa3 pi3 pb3 pa3 ei3 eb3)).vb.getD 3 default).2.a) (((rd 0 0 p (T0_3 vi1 vb1 va1 si1 sb1 sa1 ai1 ab1 aa1 pi1 pb1 pa1 ei1 eb1 vi2 vb2 va2 si2 sb2 sa2 ai2 ab2 aa2 pi2 pb2 pa2 ei2 eb2 vi3 vb3 va3 si3 sb3 sa3 ai3 ab3 aa3 pi3 pb3 pa3 ei3 eb3)).sb.getD 3 default).2.i) (((rd 0 0 p (T0_3 vi1 vb1 va1 si1 sb1 sa1 ai1 ab1 aa1 pi1 pb1 pa1 ei1 eb1 vi2 vb2 va2 si2 sb2 sa2 ai2 ab2 aa2 pi2 pb2 pa2 ei2 eb2 vi3 vb3 va3 si3 sb3 sa3 ai3 ab3 aa3 pi3 pb3 pa3 ei3 eb3)).sb.getD 3 default).2.b) (((rd 0 0 p (T0_3 vi1 vb1 va1 si1 sb1 sa1 ai1 ab1 aa1 pi1 pb1 pa1 ei1 eb1 vi2 vb2 va2 si2 sb2 sa2 ai2 ab2 aa2 pi2 pb2 pa2 ei2 eb2 vi3 vb3 va3 si3 sb3 sa3 ai3 ab3 aa3 pi3 pb3 pa3 ei3 eb3)).sb.getD 3 default).2.a) (((rd 0 0 p (T0_3 vi1 vb1 va1 si1 sb1 sa1 ai1 ab1 aa1 pi1 pb1 pa1 ei1 eb1 vi2 vb2 va2 si2 sb2 sa2 ai2 ab2 aa2 pi2 pb2 pa2 ei2 eb2 vi3 vb3 va3 si3 sb3 sa3 ai3 ab3 aa3 pi3 pb3 pa3 ei3 eb3)).ac.getD 3 default).bl.i) (((rd 0 0 p (T0_3 vi1 vb1 va1 si1 sb1 sa1 ai1 ab1 aa1 pi1 pb1 pa1 ei1 eb1 vi2 vb2 va2 si2 sb2 sa2 ai2 ab2 aa2 pi2 pb2 pa2 ei2 eb2 vi3 vb3 va3 si3 sb3 sa3 ai3 ab3 aa3 pi3 pb3 pa3 ei3 eb3)).ac.getD 3 default).bl.b) (((rd 0 0 p (T0_3 vi1 vb1 va1 si1 sb1 sa1 ai1 ab1 aa1 pi1 pb1 pa1 ei1 eb1 vi2 vb2 va2 si2 sb2 sa2 ai2 ab2 aa2 pi2 pb2 pa2 ei2 eb2 vi3 vb3 va3 si3 sb3 sa3 ai3 ab3 aa3 pi3 pb3 pa3 ei3 eb3)).ac.getD 3 default).bl.a) (((rd 0 0 p (T0_3 vi1 vb1 va1 si1 sb1 sa1 ai1 ab1 aa1 pi1 pb1 pa1 ei1 eb1 vi2 vb2 va2 si2 sb2 sa2 ai2 ab2 aa2 pi2 pb2 pa2 ei2 eb2 vi3 vb3 va3 si3 sb3 sa3 ai3 ab3 aa3 pi3 pb3 pa3 ei3 eb3)).pb.getD 3 default).2.i) (((rd 0 0 p (T0_3 vi1 vb1 va1 si1 sb1 sa1 ai1 ab1 aa1 pi1 pb1 pa1 ei1 eb1 vi2 vb2 va2 si2 sb2 sa2 ai2 ab2 aa2 pi2 pb2 pa2 ei2 eb2 vi3 vb3 va3 si3 sb3 sa3 ai3 ab3 aa3 pi3 pb3 pa3 ei3 eb3)).pb.getD 3 default).2.b) (((rd 0 0 p (T0_3 vi1 vb1 va1 si1 sb1 sa1 ai1 ab1 aa1 pi1 pb1 pa1 ei1 eb1 vi2 vb2 va2 si2 sb2 sa2 ai2 ab2 aa2 pi2 pb2 pa2 ei2 eb2 vi3 vb3 va3 si3 sb3 sa3 ai3 ab3 aa3 pi3 pb3 pa3 ei3 eb3)).pb.getD 3 default).2.a) (((rd 0 0 p (T0_3 vi1 vb1 va1 si1 sb1 sa1 ai1 ab1 aa1 pi1 pb1 pa1 ei1 eb1 vi2 vb2 va2 si2 sb2 sa2 ai2 ab2 aa2 pi2 pb2 pa2 ei2 eb2 vi3 vb3 va3 si3 sb3 sa3 ai3 ab3 aa3 pi3 pb3 pa3 ei3 eb3)).vc.getD 3 default).2.i) (((rd 0 0 p (T0_3 vi1 vb1 va1 si1 sb1 sa1 ai1 ab1 aa1 pi1 pb1 pa1 ei1 eb1 vi2 vb2 va2 si2 sb2 sa2 ai2 ab2 aa2 pi2 pb2 pa2 ei2 eb2 vi3 vb3 va3 si3 sb3 sa3 ai3 ab3 aa3 pi3 pb3 pa3 ei3 eb3)).vc.getD 3 default).2.b) := by kernel_rfl
theorem tk0_3 (p : Int) (vi1 vb1 va1 si1 sb1 sa1 ai1 ab1 aa1 pi1 pb1 pa1 ei1 eb1 vi2 vb2 va2 si2 sb2 sa2 ai2 ab2 aa2 pi2 pb2 pa2 ei2 eb2 vi3 vb3 va3 si3 sb3 sa3 ai3 ab3 aa3 pi3 pb3 pa3 ei3 eb3 : Int) : chk 0 0 p 3 (T0_3 vi1 vb1 va1 si1 sb1 sa1 ai1 ab1 aa1 pi1 pb1 pa1 ei1 eb1 vi2 vb2 va2 si2 sb2 sa2 ai2 ab2 aa2 pi2 pb2 pa2 ei2 eb2 vi3 vb3 va3 si3 sb3 sa3 ai3 ab3 aa3 pi3 pb3 pa3 ei3 eb3) = true := by kernel_rfl
theorem tf0_3 (p : Int) (vi1 vb1 va1 si1 sb1 sa1 ai1 ab1 aa1 pi1 pb1 pa1 ei1 eb1 vi2 vb2 va2 si2 sb2 sa2 ai2 ab2 aa2 pi2 pb2 pa2 ei2 eb2 vi3 vb3 va3 si3 sb3 sa3 ai3 ab3 aa3 pi3 pb3 pa3 ei3 eb3 : Int) : (Nw.tick D (a1 0 0 (T0_3 vi1 vb1 va1 si1 sb1 sa1 ai1 ab1 aa1 pi1 pb1 pa1 ei1 eb1 vi2 vb2 va2 si2 sb2 sa2 ai2 ab2 aa2 pi2 pb2 pa2 ei2 eb2 vi3 vb3 va3 si3 sb3 sa3 ai3 ab3 aa3 pi3 pb3 pa3 ei3 eb3)) p).flow = max (wr (-400000)) (min p 500000) := by kernel_rfl
theorem tk0_4 (p : Int) (vi1 vb1 va1 si1 sb1 sa1 ai1 ab1 aa1 pi1 pb1 pa1 ei1 eb1 vi2 vb2 va2 si2 sb2 sa2 ai2 ab2 aa2 pi2 pb2 pa2 ei2 eb2 vi3 vb3 va3 si3 sb3 sa3 ai3 ab3 aa3 pi3 pb3 pa3 ei3 eb3 vi4 vb4 va4 si4 sb4 sa4 ai4 ab4 aa4 pi4 pb4 pa4 ei4 eb4 : Int) : chk 0 0 p 4 (T0_4 vi1 vb1 va1 si1 sb1 sa1 ai1 ab1 aa1 pi1 pb1 pa1 ei1 eb1 vi2 vb2 va2 si2 sb2 sa2 ai2 ab2 aa2 pi2 pb2 pa2 ei2 eb2 vi3 vb3 va3 si3 sb3 sa3 ai3 ab3 aa3 pi3 pb3 pa3 ei3 eb3 vi4 vb4 va4 si4 sb4 sa4 ai4 ab4 aa4 pi4 pb4 pa4 ei4 eb4) = true := by kernel_rfl
theorem tf0_4 (p : Int) (vi1 vb1 va1 si1 sb1 sa1 ai1 ab1 aa1 pi1 pb1 pa1 ei1 eb1 vi2 vb2 va2 si2 sb2 sa2 ai2 ab2 aa2 pi2 pb2 pa2 ei2 eb2 vi3 vb3 va3 si3 sb3 sa3 ai3 ab3 aa3 pi3 pb3 pa3 ei3 eb3 vi4 vb4 va4 si4 sb4 sa4 ai4 ab4 aa4 pi4 pb4 pa4 ei4 eb4 : Int) : (Nw.tick D (a1 0 0 (T0_4 vi1 vb1 va1 si1 sb1 sa1 ai1 ab1 aa1 pi1 pb1 pa1 ei1 eb1 vi2 vb2 va2 si2 sb2 sa2 ai2 ab2 aa2 pi2 pb2 pa2 ei2 eb2 vi3 vb3 va3 si3 sb3 sa3 ai3 ab3 aa3 pi3 pb3 pa3 ei3 eb3 vi4 vb4 va4 si4 sb4 sa4 ai4 ab4 aa4 pi4 pb4 pa4 ei4 eb4)) p).flow = max (wr (-400000)) (min p 500000) := by kernel_rfl
end Pr
end Go.Proofs.YtlklnaebdnahcaaGreat
namespace Go.Proofs.YtlklnaebdnahcaaGreat
open Go.RowKit Nw
namespace Pr
set_option maxRecDepth 100000
set_option maxHeartbeats 0
def W1_1 : St := ({ now := 7, L := [⟨[], 1, 1, false⟩, ⟨[], 1, 1, false⟩, ⟨[], 2, 2, false⟩, ⟨[], 2, 2, false⟩, ⟨[], 0, 0, false⟩, ⟨[], 0, 0, false⟩], fl := [], pg := [0, 1, 0, 0, 0, 0, 0, 0, 0, 0, 0, 0, 0, 0, 0, 0], inn := false, flow := 0, vb := [], vph := 4, vp0 := 1, vp1 := 0, vss := 0, vc := [], sb := [], sph := 0, sss := 1, sp0 := 1, sp1 := 0, gone := false, si := 0, sk := 0, opn := 0, tks := 0, po := ⟨1, 500000, 400000, 5000⟩, us := [], ac := [], cs := [⟨[⟨1, 500000, 400000, 5000⟩], 1, 1⟩], sN := 0, pb := [], pc := [], pd := [] } : St)
def W1_2 : St := ({ now := 14, L := [⟨[], 2, 2, false⟩, ⟨[], 2, 2, false⟩, ⟨[], 3, 3, false⟩, ⟨[], 3, 3, false⟩, ⟨[], 0, 0, false⟩, ⟨[], 0, 0, false⟩], fl := [], pg := [0, 2, 0, 0, 0, 0, 0, 0, 0, 0, 0, 0, 0, 0, 0, 0], inn := false, flow := 0, vb := [], vph := 4, vp0 := 1, vp1 := 1, vss := 0, vc := [], sb := [], sph := 0, sss := 2, sp0 := 1, sp1 := 1, gone := false, si := 0, sk := 0, opn := 0, tks := 0, po := ⟨1, 500000, 400000, 5000⟩, us := [], ac := [], cs := [⟨[⟨1, 500000, 400000, 5000⟩], 1, 1⟩], sN := 0, pb := [], pc := [], pd := [] } : St)
def W1_3 : St := ({ now := 21, L := [⟨[], 3, 3, false⟩, ⟨[], 3, 3, false⟩, ⟨[], 4, 4, false⟩, ⟨[], 4, 4, false⟩, ⟨[], 0, 0, false⟩, ⟨[], 0, 0, false⟩], fl := [], pg := [0, 3, 0, 0, 0, 0, 0, 0, 0, 0, 0, 0, 0, 0, 0, 0], inn := false, flow := 0, vb := [], vph := 4, vp0 := 1, vp1 := 2, vss := 0, vc := [], sb := [], sph := 0, sss := 3, sp0 := 1, sp1 := 2, gone := false, si := 0, sk := 0, opn := 0, tks := 0, po := ⟨1, 500000, 400000, 5000⟩, us := [], ac := [], cs := [⟨[⟨1, 500000, 400000, 5000⟩], 1, 1⟩], sN := 0, pb := [], pc := [], pd := [] } : St)
def W1_4 : St := ({ now := 28, L := [⟨[], 4, 4, false⟩, ⟨[], 4, 4, false⟩, ⟨[], 5, 5, false⟩, ⟨[], 5, 5, false⟩, ⟨[], 0, 0, false⟩, ⟨[], 0, 0, false⟩], fl := [], pg := [0, 4, 0, 0, 0, 0, 0, 0, 0, 0, 0, 0, 0, 0, 0, 0], inn := false, flow := 0, vb := [], vph := 4, vp0 := 1, vp1 := 3, vss := 0, vc := [], sb := [], sph := 0, sss := 4, sp0 := 1, sp1 := 3, gone := false, si := 0, sk := 0, opn := 0, tks := 0, po := ⟨1, 500000, 400000, 5000⟩, us := [], ac := [], cs := [⟨[⟨1, 500000, 400000, 5000⟩], 1, 1⟩], sN := 0, pb := [], pc := [], pd := [] } : St)
def T1_1 (vi1 vb1 va1 si1 sb1 sa1 ai1 ab1 aa1 pi1 pb1 pa1 ei1 eb1 : Int) : St := ({ now := 107, L := [⟨[], 1, 2, true⟩, ⟨[], 2, 1, false⟩, ⟨[], 51, 51, false⟩, ⟨[], 51, 51, false⟩, ⟨[], 2, 1, false⟩, ⟨[], 1, 2, false⟩], fl := [], pg := [0, 1, 0, 0, 0, 0, 0, 0, 0, 0, 0, 0, 0, 0, 0, 0], inn := false, flow := 0, vb := [(1, ⟨1, vi1, vb1, va1⟩)], vph := 4, vp0 := 1, vp1 := 0, vss := 1, vc := [(1, ⟨ei1, eb1⟩)], sb := [(1, ⟨1, si1, sb1, sa1⟩)], sph := 0, sss := 1, sp0 := 1, sp1 := 0, gone := false, si := 0, sk := 0, opn := 1, tks := 0, po := ⟨1, 500000, 400000, 5000⟩, us := [((1, 0), true)], ac := [⟨⟨1, ai1, ab1, aa1⟩, false, true⟩], cs := [⟨[⟨1, 500000, 400000, 5000⟩], 1, 1⟩], sN := 0, pb := [(1, ⟨1, pi1, pb1, pa1⟩)], pc := [(1, 1)], pd := [(1, true)] } : St)
def T1_2 (vi1 vb1 va1 si1 sb1 sa1 ai1 ab1 aa1 pi1 pb1 pa1 ei1 eb1 vi2 vb2 va2 si2 sb2 sa2 ai2 ab2 aa2 pi2 pb2 pa2 ei2 eb2 : Int) : St := ({ now := 214, L := [⟨[], 2, 4, true⟩, ⟨[], 4, 2, false⟩, ⟨[], 101, 101, false⟩, ⟨[], 101, 101, false⟩, ⟨[], 4, 2, false⟩, ⟨[], 2, 4, false⟩], fl := [], pg := [0, 2, 0, 0, 0, 0, 0, 0, 0, 0, 0, 0, 0, 0, 0, 0], inn := false, flow := 0, vb := [(1, ⟨1, vi1, vb1, va1⟩), (2, ⟨2, vi2, vb2, va2⟩)], vph := 4, vp0 := 1, vp1 := 1, vss := 2, vc := [(1, ⟨ei1, eb1⟩), (2, ⟨ei2, eb2⟩)], sb := [(1, ⟨1, si1, sb1, sa1⟩), (2, ⟨2, si2, sb2, sa2⟩)], sph := 0, sss := 2, sp0 := 1, sp1 := 1, gone := false, si := 0, sk := 0, opn := 1, tks := 0, po := ⟨1, 500000, 400000, 5000⟩, us := [((1, 0), true), ((1, 1), true)], ac := [⟨⟨1, ai1, ab1, aa1⟩, false, true⟩, ⟨⟨2, ai2, ab2, aa2⟩, false, true⟩], cs := [⟨[⟨1, 500000, 400000, 5000⟩], 1, 1⟩], sN := 0, pb := [(1, ⟨1, pi1, pb1, pa1⟩), (2, ⟨2, pi2, pb2, pa2⟩)], pc := [(1, 1), (2, 1)], pd := [(1, true), (2, true)] } : St)
def T1_3 (vi1 vb1 va1 si1 sb1 sa1 ai1 ab1 aa1 pi1 pb1 pa1 ei1 eb1 vi2 vb2 va2 si2 sb2 sa2 ai2 ab2 aa2 pi2 pb2 pa2 ei2 eb2 vi3 vb3 va3 si3 sb3 sa3 ai3 ab3 aa3 pi3 pb3 pa3 ei3 eb3 : Int) : St := ({ now := 321, L := [⟨[], 3, 6, true⟩, ⟨[], 6, 3, false⟩, ⟨[], 151, 151, false⟩, ⟨[], 151, 151, false⟩, ⟨[], 6, 3, false⟩, ⟨[], 3, 6, false⟩], fl := [], pg := [0, 3, 0, 0, 0, 0, 0, 0, 0, 0, 0, 0, 0, 0, 0, 0], inn := false, flow := 0, vb := [(1, ⟨1, vi1, vb1, va1⟩), (2, ⟨2, vi2, vb2, va2⟩), (3, ⟨3, vi3, vb3, va3⟩)], vph := 4, vp0 := 1, vp1 := 2, vss := 3, vc := [(1, ⟨ei1, eb1⟩), (2, ⟨ei2, eb2⟩), (3, ⟨ei3, eb3⟩)], sb := [(1, ⟨1, si1, sb1, sa1⟩), (2, ⟨2, si2, sb2, sa2⟩), (3, ⟨3, si3, sb3, sa3⟩)], sph := 0, sss := 3, sp0 := 1, sp1 := 2, gone := false, si := 0, sk := 0, opn := 1, tks := 0, po := ⟨1, 500000, 400000, 5000⟩, us := [((1, 0), true), ((1, 1), true), ((1, 2), true)], ac := [⟨⟨1, ai1, ab1, aa1⟩, false, true⟩, ⟨⟨2, ai2, ab2, aa2⟩, false, true⟩, ⟨⟨3, ai3, ab3, aa3⟩, false, true⟩], cs := [⟨[⟨1, 500000, 400000, 5000⟩], 1, 1⟩], sN := 0, pb := [(1, ⟨1, pi1, pb1, pa1⟩), (2, ⟨2, pi2, pb2, pa2⟩), (3, ⟨3, pi3, pb3, pa3⟩)], pc := [(1, 1), (2, 1), (3, 1)], pd := [(1, true), (2, true), (3, true)] } : St)
def T1_4 (vi1 vb1 va1 si1 sb1 sa1 ai1 ab1 aa1 pi1 pb1 pa1 ei1 eb1 vi2 vb2 va2 si2 sb2 sa2 ai2 ab2 aa2 pi2 pb2 pa2 ei2 eb2 vi3 vb3 va3 si3 sb3 sa3 ai3 ab3 aa3 pi3 pb3 pa3 ei3 eb3 vi4 vb4 va4 si4 sb4 sa4 ai4 ab4 aa4 pi4 pb4 pa4 ei4 eb4 : Int) : St := ({ now := 428, L := [⟨[], 4, 8, true⟩, ⟨[], 8, 4, false⟩, ⟨[], 201, 201, false⟩, ⟨[], 201, 201, false⟩, ⟨[], 8, 4, false⟩, ⟨[], 4, 8, false⟩], fl := [], pg := [0, 4, 0, 0, 0, 0, 0, 0, 0, 0, 0, 0, 0, 0, 0, 0], inn := false, flow := 0, vb := [(1, ⟨1, vi1, vb1, va1⟩), (2, ⟨2, vi2, vb2, va2⟩), (3, ⟨3, vi3, vb3, va3⟩), (4, ⟨4, vi4, vb4, va4⟩)], vph := 4, vp0 := 1, vp1 := 3, vss := 4, vc := [(1, ⟨ei1, eb1⟩), (2, ⟨ei2, eb2⟩), (3, ⟨ei3, eb3⟩), (4, ⟨ei4, eb4⟩)], sb := [(1, ⟨1, si1, sb1, sa1⟩), (2, ⟨2, si2, sb2, sa2⟩), (3, ⟨3, si3, sb3, sa3⟩), (4, ⟨4, si4, sb4, sa4⟩)], sph := 0, sss := 4, sp0 := 1, sp1 := 3, gone := false, si := 0, sk := 0, opn := 1, tks := 0, po := ⟨1, 500000, 400000, 5000⟩, us := [((1, 0), true), ((1, 1), true), ((1, 2), true), ((1, 3), true)], ac := [⟨⟨1, ai1, ab1, aa1⟩, false, true⟩, ⟨⟨2, ai2, ab2, aa2⟩, false, true⟩, ⟨⟨3, ai3, ab3, aa3⟩, false, true⟩, ⟨⟨4, ai4, ab4, aa4⟩, false, true⟩], cs := [⟨[⟨1, 500000, 400000, 5000⟩], 1, 1⟩], sN := 0, pb := [(1, ⟨1, pi1, pb1, pa1⟩), (2, ⟨2, pi2, pb2, pa2⟩), (3, ⟨3, pi3, pb3, pa3⟩), (4, ⟨4, pi4, pb4, pa4⟩)], pc := [(1, 1), (2, 1), (3, 1), (4, 1)], pd := [(1, true), (2, true), (3, true), (4, true)] } : St)
theorem w1_0 (p : Int) : rd 1 1 p S0 = W1_1 := by kernel_rfl
theorem wk1_0 (p : Int) : chk 1 1 p 0 S0 = true := by kernel_rfl
theorem wf1_0 (p : Int) : (Nw.tick D (a1 1 1 S0) p).flow = 0 := by kernel_rfl
theorem w1_1 (p : Int) : rd 1 1 p W1_1 = W1_2 := by kernel_rfl
theorem wk1_1 (p : Int) : chk 1 1 p 1 W1_1 = true := by kernel_rfl
theorem wf1_1 (p : Int) : (Nw.tick D (a1 1 1 W1_1) p).flow = 0 := by kernel_rfl
theorem w1_2 (p : Int) : rd 1 1 p W1_2 = W1_3 := by kernel_rfl
theorem wk1_2 (p : Int) : chk 1 1 p 2 W1_2 = true := by kernel_rfl
theorem wf1_2 (p : Int) : (Nw.tick D (a1 1 1 W1_2) p).flow = 0 := by kernel_rfl
theorem w1_3 (p : Int) : rd 1 1 p W1_3 = W1_4 := by kernel_rfl
theorem wk1_3 (p : Int) : chk 1 1 p 3 W1_3 = true := by kernel_rfl
theorem wf1_3 (p : Int) : (Nw.tick D (a1 1 1 W1_3) p).flow = 0 := by kernel_rfl
theorem wk1_4 (p : Int) : chk 1 1 p 4 W1_4 = true := by kernel_rfl
theorem wf1_4 (p : Int) : (Nw.tick D (a1 1 1 W1_4) p).flow = 0 := by kernel_rfl
theorem t1_0 (p : Int) : (rd 1 0 p S0) = T1_1  (((rd 1 0 p S0).vb.getD 0 default).2.i) (((rd 1 0 p S0).vb.getD 0 default).2.b) (((rd 1 0 p S0).vb.getD 0 default).2.a) (((rd 1 0 p S0).sb.getD 0 default).2.i) (((rd 1 0 p S0).sb.getD 0 default).2.b) (((rd 1 0 p S0).sb.getD 0 default).2.a) (((rd 1 0 p S0).ac.getD 0 default).bl.i) (((rd 1 0 p S0).ac.getD 0 default).bl.b) (((rd 1 0 p S0).ac.getD 0 default).bl.a) (((rd 1 0 p S0).pb.getD 0 default).2.i) (((rd 1 0 p S0).pb.getD 0 default).2.b) (((rd 1 0 p S0).pb.getD 0 default).2.a) (((rd 1 0 p S0).vc.getD 0 default).2.i) (((rd 1 0 p S0).vc.getD 0 default).2.b) := by kernel_rfl
theorem tk1_0 (p : Int) : chk 1 0 p 0 S0 = true := by kernel_rfl
theorem tf1_0 (p : Int) : (Nw.tick D (a1 1 0 S0) p).flow = max (wr (-400000)) (min p 500000) := by kernel_rfl
theorem t1_1 (p : Int) (vi1 vb1 va1 si1 sb1 sa1 ai1 ab1 aa1 pi1 pb1 pa1 ei1 eb1 : Int) : (rd 1 0 p (T1_1 vi1 vb1 va1 si1 sb1 sa1 ai1 ab1 aa1 pi1 pb1 pa1 ei1 eb1)) = T1_2 vi1 vb1 va1 si1 sb1 sa1 ai1 ab1 aa1 pi1 pb1 pa1 ei1 eb1 (((rd 1 0 p (T1_1 vi1 vb1 va1 si1 sb1 sa1 ai1 ab1 aa1 pi1 pb1 pa1 ei1 eb1)).vb.getD 1 default).2.i) (((rd 1 0 p (T1_1 vi1 vb1 va1 si1 sb1 sa1 ai1 ab1 aa1 pi1 pb1 pa1 ei1 eb1)).vb.getD 1 default).2.b) (((rd 1 0 p (T1_1 vi1 vb1 va1 si1 sb1 sa1 ai1 ab1 aa1 pi1 pb1 pa1 ei1 eb1)).vb.getD 1 default).2.a) (((rd 1 0 p (T1_1 vi1 vb1 va1 si1 sb1 sa1 ai1 ab1 aa1 pi1 pb1 pa1 ei1 eb1)).sb.getD 1 default).2.i) (((rd 1 0 p (T1_1 vi1 vb1 va1 si1 sb1 sa1 ai1 ab1 aa1 pi1 pb1 pa1 ei1 eb1)).sb.getD 1 default).2.b) (((rd 1 0 p (T1_1 vi1 vb1 va1 si1 sb1 sa1 ai1 ab1 aa1 pi1 pb1 pa1 ei1 eb1)).sb.getD 1 default).2.a) (((rd 1 0 p (T1_1 vi1 vb1 va1 si1 sb1 sa1 ai1 ab1 aa1 pi1 pb1 pa1 ei1 eb1)).ac.getD 1 default).bl.i) (((rd 1 0 p (T1_1 vi1 vb1 va1 si1 sb1 sa1 ai1 ab1 aa1 pi1 pb1 pa1 ei1 eb1)).ac.getD 1 default).bl.b) (((rd 1 0 p (T1_1 vi1 vb1 va1 si1 sb1 sa1 ai1 ab1 aa1 pi1 pb1 pa1 ei1 eb1)).ac.getD 1 default).bl.a) (((rd 1 0 p (T1_1 vi1 vb1 va1 si1 sb1 sa1 ai1 ab1 aa1 pi1 pb1 pa1 ei1 eb1)).pb.getD 1 default).2.i) (((rd 1 0 p (T1_1 vi1 vb1 va1 si1 sb1 sa1 ai1 ab1 aa1 pi1 pb1 pa1 ei1 eb1)).pb.getD 1 default).2.b) (((rd 1 0 p (T1_1 vi1 vb1 va1 si1 sb1 sa1 ai1 ab1 aa1 pi1 pb1 pa1 ei1 eb1)).pb.getD 1 default).2.a) (((rd 1 0 p (T1_1 vi1 vb1 va1 si1 sb1 sa1 ai1 ab1 aa1 pi1 pb1 pa1 ei1 eb1)).vc.getD 1 default).2.i) (((rd 1 0 p (T1_1 vi1 vb1 va1 si1 sb1 sa1 ai1 ab1 aa1 pi1 pb1 pa1 ei1 eb1)).vc.getD 1 default).2.b) := by kernel_rfl
theorem tk1_1 (p : Int) (vi1 vb1 va1 si1 sb1 sa1 ai1 ab1 aa1 pi1 pb1 pa1 ei1 eb1 : Int) : chk 1 0 p 1 (T1_1 vi1 vb1 va1 si1 sb1 sa1 ai1 ab1 aa1 pi1 pb1 pa1 ei1 eb1) = true := by kernel_rfl
theorem tf1_1 (p : Int) (vi1 vb1 va1 si1 sb1 sa1 ai1 ab1 aa1 pi1 pb1 pa1 ei1 eb1 : Int) : (Nw.tick D (a1 1 0 (T1_1 vi1 vb1 va1 si1 sb1 sa1 ai1 ab1 aa1 pi1 pb1 pa1 ei1 eb1)) p).flow = max (wr (-400000)) (min p 500000) := by kernel_rfl
theorem t1_2 (p : Int) (vi1 vb1 va1 si1 sb1 sa1 ai1 ab1 aa1 pi1 pb1 pa1 ei1 eb1 vi2 vb2 va2 si2 sb2 sa2 ai2 ab2 aa2 pi2 pb2 pa2 ei2 eb2 : Int) : (rd 1 0 p (T1_2 vi1 vb1 va1 si1 sb1 sa1 ai1 ab1 aa1 pi1 pb1 pa1 ei1 eb1 vi2 vb2 va2 si2 sb2 sa2 ai2 ab2 aa2 pi2 pb2 pa2 ei2 eb2)) = T1_3 vi1 vb1 va1 si1 sb1 sa1 ai1 ab1 aa1 pi1 pb1 pa1 ei1 eb1 vi2 vb2 va2 si2 sb2 sa2 ai2 ab2 aa2 pi2 pb2 pa2 ei2 eb2 (((rd 1 0 p (T1_2 vi1 vb1 va1 si1 sb1 sa1 ai1 ab1 aa1 pi1 pb1 pa1 ei1 eb1 vi2 vb2 va2 si2 sb2 sa2 ai2 ab2 aa2 pi2 pb2 pa2 ei2 eb2)).vb.getD 2 default).2.i) (((rd 1 0 p (T1_2 vi1 vb1 va1 si1 sb1 sa1 ai1 ab1 aa1 pi1 pb1 pa1 ei1 eb1 vi2 vb2 va2 si2 sb2 sa2 ai2 ab2 aa2 pi2 pb2 pa2 ei2 eb2)).vb.getD 2 default).2.b) (((rd 1 0 p (T1_2 vi1 vb1 va1 si1 sb1 sa1 ai1 ab1 aa1 pi1 pb1 pa1 ei1 eb1 vi2 vb2 va2 si2 sb2 sa2 ai2 ab2 aa2 pi2 pb2 pa2 ei2 eb2)).vb.getD 2 default).2.a) (((rd 1 0 p (T1_2 vi1 vb1 va1 si1 sb1 sa1 ai1 ab1 aa1 pi1 pb1 pa1 ei1 eb1 vi2 vb2 va2 si2 sb2 sa2 ai2 ab2 aa2 pi2 pb2 pa2 ei2 eb2)).sb.getD 2 default).2.i) (((rd 1 0 p (T1_2 vi1 vb1 va1 si1 sb1 sa1 ai1 ab1 aa1 pi1 pb1 pa1 ei1 eb1 vi2 vb2 va2 si2 sb2 sa2 ai2 ab2 aa2 pi2 pb2 pa2 ei2 eb2)).sb.getD 2 default).2.b) (((rd 1 0 p (T1_2 vi1 vb1 va1 si1 sb1 sa1 ai1 ab1 aa1 pi1 pb1 pa1 ei1 eb1 vi2 vb2 va2 si2 sb2 sa2 ai2 ab2 aa2 pi2 pb2 pa2 ei2 eb2)).sb.getD 2 default).2.a) (((rd 1 0 p (T1_2 vi1 vb1 va1 si1 sb1 sa1 ai1 ab1 aa1 pi1 pb1 pa1 ei1 eb1 vi2 vb2 va2 si2 sb2 sa2 ai2 ab2 aa2 pi2 pb2 pa2 ei2 eb2)).ac.getD 2 default).bl.i) (((rd 1 0 p (T1_2 vi1 vb1 va1 si1 sb1 sa1 ai1 ab1 aa1 pi1 pb1 pa1 ei1 eb1 vi2 vb2 va2 si2 sb2 sa2 ai2 ab2 aa2 pi2 pb2 pa2 ei2 eb2)).ac.getD 2 default).bl.b) (((rd 1 0 p (T1_2 vi1 vb1 va1 si1 sb1 sa1 ai1 ab1 aa1 pi1 pb1 pa1 ei1 eb1 vi2 vb2 va2 si2 sb2 sa2 ai2 ab2 aa2 pi2 pb2 pa2 ei2 eb2)).ac.getD 2 default).bl.a) (((rd 1 0 p (T1_2 vi1 vb1 va1 si1 sb1 sa1 ai1 ab1 aa1 pi1 pb1 pa1 ei1 eb1 vi2 vb2 va2 si2 sb2 sa2 ai2 ab2 aa2 pi2 pb2 pa2 ei2 eb2)).pb.getD 2 default).2.i) (((rd 1 0 p (T1_2 vi1 vb1 va1 si1 sb1 sa1 ai1 ab1 aa1 pi1 pb1 pa1 ei1 eb1 vi2 vb2 va2 si2 sb2 sa2 ai2 ab2 aa2 pi2 pb2 pa2 ei2 eb2)).pb.getD 2 default).2.b) (((rd 1 0 p (T1_2 vi1 vb1 va1 si1 sb1 sa1 ai1 ab1 aa1 pi1 pb1 pa1 ei1 eb1 vi2 vb2 va2 si2 sb2 sa2 ai2 ab2 aa2 pi2 pb2 pa2 ei2 eb2)).pb.getD 2 default).2.a) (((rd 1 0 p (T1_2 vi1 vb1 va1 si1 sb1 sa1 ai1 ab1 aa1 pi1 pb1 pa1 ei1 eb1 vi2 vb2 va2 si2 sb2 sa2 ai2 ab2 aa2 pi2 pb2 pa2 ei2 eb2)).vc.getD 2 default).2.i) (((rd 1 0 p (T1_2 vi1 vb1 va1 si1 sb1 sa1 ai1 ab1 aa1 pi1 pb1 pa1 ei1 eb1 vi2 vb2 va2 si2 sb2 sa2 ai2 ab2 aa2 pi2 pb2 pa2 ei2 eb2)).vc.getD 2 default).2.b) := by kernel_rfl
theorem tk1_2 (p : Int) (vi1 vb1 va1 si1 sb1 sa1 ai1 ab1 aa1 pi1 pb1 pa1 ei1 eb1 vi2 vb2 va2 si2 sb2 sa2 ai2 ab2 aa2 pi2 pb2 pa2 ei2 eb2 : Int) : chk 1 0 p 2 (T1_2 vi1 vb1 va1 si1 sb1 sa1 ai1 ab1 aa1 pi1 pb1 pa1 ei1 eb1 vi2 vb2 va2 si2 sb2 sa2 ai2 ab2 aa2 pi2 pb2 pa2 ei2 eb2) = true := by kernel_rfl
theorem tf1_2 (p : Int) (vi1 vb1 va1 si1 sb1 sa1 ai1 ab1 aa1 pi1 pb1 pa1 ei1 eb1 vi2 vb2 va2 si2 sb2 sa2 ai2 ab2 aa2 pi2 pb2 pa2 ei2 eb2 : Int) : (Nw.tick D (a1 1 0 (T1_2 vi1 vb1 va1 si1 sb1 sa1 ai1 ab1 aa1 pi1 pb1 pa1 ei1 eb1 vi2 vb2 va2 si2 sb2 sa2 ai2 ab2 aa2 pi2 pb2 pa2 ei2 eb2)) p).flow = max (wr (-400000)) (min p 500000) := by kernel_rfl
theorem t1_3 (p : Int) (vi1 vb1 va1 si1 sb1 sa1 ai1 ab1 aa1 pi1 pb1 pa1 ei1 eb1 vi2 vb2 va2 si2 sb2 sa2 ai2 ab2 aa2 pi2 pb2 pa2 ei2 eb2 vi3 vb3 va3 si3 sb3 sa3 ai3 ab3 aa3 pi3 pb3 pa3 ei3 eb3 : Int) : (rd 1 0 p (T1_3 vi1 vb1 va1 si1 sb1 sa1 ai1 ab1 aa1 pi1 pb1 pa1 ei1 eb1 vi2 vb2 va2 si2 sb2 sa2 ai2 ab2 aa2 pi2 pb2 pa2 ei2 eb2 vi3 vb3 va3 si3 sb3 sa3 ai3 ab3 aa3 pi3 pb3 pa3 ei3 eb3)) = T1_4 vi1 vb1 va1 si1 sb1 sa1 ai1 ab1 aa1 pi1 pb1 pa1 ei1 eb1 vi2 vb2 va2 si2 sb2 sa2 ai2 ab2 aa2 pi2 pb2 pa2 ei2 eb2 vi3 vb3 va3 si3 sb3 sa3 ai3 ab3 aa3 pi3 pb3 pa3 ei3 eb3 (((rd 1 0 p (T1_3 vi1 vb1 va1 si1 sb1 sa1 ai1 ab1 aa1 pi1 pb1 pa1 ei1 eb1 vi2 vb2 va2 si2 sb2 sa2 ai2 ab2 aa2 pi2 pb2 pa2 ei2 eb2 vi3 vb3 va3 si3 sb3 sa3 ai3 ab3 aa3 pi3 pb3 pa3 ei3 eb3)).vb.getD 3 default).2.i) (((rd 1 0 p (T1_3 vi1 vb1 va1 si1 sb1 sa1 ai1 ab1 aa1 pi1 pb1 pa1 ei1 eb1 vi2 vb2 va2 si2 sb2 sa2 ai2 ab2 aa2 pi2 pb2 pa2 ei2 eb2 vi3 vb3 va3 si3 sb3 sa3 ai3 ab3 aa3 pi3 pb3 pa3 ei3 eb3)).vb.getD 3 default).2.b) (((rd 1 0 p (T1_3 vi1 vb1 va1 si1 sb1 sa1 ai1 ab1 aa1 pi1 pb1 pa1 ei1 eb1 vi2 vb2 va2 si2 sb2 sa2 ai2 ab2 aa2 pi2 pb2 pa2 ei2 eb2 vi3 vb3 va3 si3 sb3 sa3 ai3 ab3 aa3 pi3 pb3 pa3 ei3 eb3)).vb.getD 3 default).2.a) (((rd 1 0 p (T1_3 vi1 vb1 va1 si1 sb1 sa1 ai1 ab1 aa1 pi1 pb1 pa1 ei1 eb1 vi2 vb2 va2 si2 sb2 sa2 ai2 ab2 aa2 pi2 pb2 pa2 ei2 eb2 vi3 vb3 va3 si3 sb3 sa3 ai3 ab3 aa3 pi3 pb3 pa3 ei3 eb3)).sb.getD 3 default).2.i) (((rd 1 0 p (T1_3 vi1 vb1 va1 si1 sb1 sa1 ai1 ab1 aa1 pi1 pb1 pa1 ei1 eb1 vi2 vb2 va2 si2 sb2 sa2 ai2 ab2 aa2 pi2 pb2 pa2 ei2 eb2 vi3 vb3 va3 si3 sb3 sa3 ai3 ab3 aa3 pi3 pb3 pa3 ei3 eb3)).sb.getD 3 default).2.b) (((rd 1 0 p (T1_3 vi1 vb1 va1 si1 sb1 sa1 ai1 ab1 aa1 pi1 pb1 pa1 ei1 eb1 vi2 vb2 va2 si2 sb2 sa2 ai2 ab2 aa2 pi2 pb2 pa2 ei2 eb2 vi3 vb3 va3 si3 sb3 sa3 ai3 ab3 aa3 pi3 pb3 pa3 ei3 eb3)).sb.getD 3 default).2.a) (((rd 1 0 p (T1_3 vi1 vb1 va1 si1 sb1 sa1 ai1 ab1 aa1 pi1 pb1 pa1 ei1 eb1 vi2 vb2 va2 si2 sb2 sa2 ai2 ab2 aa2 pi2 pb2 pa2 ei2 eb2 vi3 vb3 va3 si3 sb3 sa3 ai3 ab3 aa3 pi3 pb3 pa3 ei3 eb3)).ac.getD 3 default).bl.i) (((rd 1 0 p (T1_3 vi1 vb1 va1 si1 sb1 sa1 ai1 ab1 aa1 pi1 pb1 pa1 ei1 eb1 vi2 vb2 va2 si2 sb2 sa2 ai2 ab2 aa2 pi2 pb2 pa2 ei2 eb2 vi3 vb3 va3 si3 sb3 sa3 ai3 ab3 aa3 pi3 pb3 pa3 ei3 eb3)).ac.getD 3 default).bl.b) (((rd 1 0 p (T1_3 vi1 vb1 va1 si1 sb1 sa1 ai1 ab1 aa1 pi1 pb1 pa1 ei1 eb1 vi2 vb2 va2 si2 sb2 sa2 ai2 ab2 aa2 pi2 pb2 pa2 ei2 eb2 vi3 vb3 va3 si3 sb3 sa3 ai3 ab3 aa3 pi3 pb3 pa3 ei3 eb3)).ac.getD 3 default).bl.a) (((rd 1 0 p (T1_3 vi1 vb1 va1 si1 sb1 sa1 ai1 ab1 aa1 pi1 pb1 pa1 ei1 eb1 vi2 vb2 va2 si2 sb2 sa2 ai2 ab2 aa2 pi2 pb2 pa2 ei2 eb2 vi3 vb3 va3 si3 sb3 sa3 ai3 ab3 aa3 pi3 pb3 pa3 ei3 eb3)).pb.getD 3 default).2.i) (((rd 1 0 p (T1_3 vi1 vb1 va1 si1 sb1 sa1 ai1 ab1 aa1 pi1 pb1 pa1 ei1 eb1 vi2 vb2 va2 si2 sb2 sa2 ai2 ab2 aa2 pi2 pb2 pa2 ei2 eb2 vi3 vb3 va3 si3 sb3 sa3 ai3 ab3 aa3 pi3 pb3 pa3 ei3 eb3)).pb.getD 3 default).2.b) (((rd 1 0 p (T1_3 vi1 vb1 va1 si1 sb1 sa1 ai1 ab1 aa1 pi1 pb1 pa1 ei1 eb1 vi2 vb2 va2 si2 sb2 sa2 ai2 ab2 aa2 pi2 pb2 pa2 ei2 eb2 vi3 vb3 va3 si3 sb3 sa3 ai3 ab3 aa3 pi3 pb3 pa3 ei3 eb3)).pb.getD 3 default).2.a) (((rd 1 0 p (T1_3 vi1 vb1 va1 si1 sb1 sa1 ai1 ab1 aa1 pi1 pb1 pa1 ei1 eb1 vi2 vb2 va2 si2 sb2 sa2 ai2 ab2 aa2 pi2 pb2 pa2 ei2 eb2 vi3 vb3 va3 si3 sb3 sa3 ai3 ab3 aa3 pi3 pb3 pa3 ei3 eb3)).vc.getD 3 default).2.i) (((rd 1 0 p (T1_3 vi1 vb1 va1 si1 sb1 sa1 ai1 ab1 aa1 pi1 pb1 pa1 ei1 eb1 vi2 vb2 va2 si2 sb2 sa2 ai2 ab2 aa2 pi2 pb2 pa2 ei2 eb2 vi3 vb3 va3 si3 sb3 sa3 ai3 ab3 aa3 pi3 pb3 pa3 ei3 eb3)).vc.getD 3 default).2.b) := by kernel_rfl
theorem tk1_3 (p : Int) (vi1 vb1 va1 si1 sb1 sa1 ai1 ab1 aa1 pi1 pb1 pa1 ei1 eb1 vi2 vb2 va2 si2 sb2 sa2 ai2 ab2 aa2 pi2 pb2 pa2 ei2 eb2 vi3 vb3 va3 si3 sb3 sa3 ai3 ab3 aa3 pi3 pb3 pa3 ei3 eb3 : Int) : chk 1 0 p 3 (T1_3 vi1 vb1 va1 si1 sb1 sa1 ai1 ab1 aa1 pi1 pb1 pa1 ei1 eb1 vi2 vb2 va2 si2 sb2 sa2 ai2 ab2 aa2 pi2 pb2 pa2 ei2 eb2 vi3 vb3 va3 si3 sb3 sa3 ai3 ab3 aa3 pi3 pb3 pa3 ei3 eb3) = true := by kernel_rfl
theorem tf1_3 (p : Int) (vi1 vb1 va1 si1 sb1 sa1 ai1 ab1 aa1 pi1 pb1 pa1 ei1 eb1 vi2 vb2 va2 si2 sb2 sa2 ai2 ab2 aa2 pi2 pb2 pa2 ei2 eb2 vi3 vb3 va3 si3 sb3 sa3 ai3 ab3 aa3 pi3 pb3 pa3 ei3 eb3 : Int) : (Nw.tick D (a1 1 0 (T1_3 vi1 vb1 va1 si1 sb1 sa1 ai1 ab1 aa1 pi1 pb1 pa1 ei1 eb1 vi2 vb2 va2 si2 sb2 sa2 ai2 ab2 aa2 pi2 pb2 pa2 ei2 eb2 vi3 vb3 va3 si3 sb3 sa3 ai3 ab3 aa3 pi3 pb3 pa3 ei3 eb3)) p).flow = max (wr (-400000)) (min p 500000) := by kernel_rfl
theorem tk1_4 (p : Int) (vi1 vb1 va1 si1 sb1 sa1 ai1 ab1 aa1 pi1 pb1 pa1 ei1 eb1 vi2 vb2 va2 si2 sb2 sa2 ai2 ab2 aa2 pi2 pb2 pa2 ei2 eb2 vi3 vb3 va3 si3 sb3 sa3 ai3 ab3 aa3 pi3 pb3 pa3 ei3 eb3 vi4 vb4 va4 si4 sb4 sa4 ai4 ab4 aa4 pi4 pb4 pa4 ei4 eb4 : Int) : chk 1 0 p 4 (T1_4 vi1 vb1 va1 si1 sb1 sa1 ai1 ab1 aa1 pi1 pb1 pa1 ei1 eb1 vi2 vb2 va2 si2 sb2 sa2 ai2 ab2 aa2 pi2 pb2 pa2 ei2 eb2 vi3 vb3 va3 si3 sb3 sa3 ai3 ab3 aa3 pi3 pb3 pa3 ei3 eb3 vi4 vb4 va4 si4 sb4 sa4 ai4 ab4 aa4 pi4 pb4 pa4 ei4 eb4) = true := by kernel_rfl
theorem tf1_4 (p : Int) (vi1 vb1 va1 si1 sb1 sa1 ai1 ab1 aa1 pi1 pb1 pa1 ei1 eb1 vi2 vb2 va2 si2 sb2 sa2 ai2 ab2 aa2 pi2 pb2 pa2 ei2 eb2 vi3 vb3 va3 si3 sb3 sa3 ai3 ab3 aa3 pi3 pb3 pa3 ei3 eb3 vi4 vb4 va4 si4 sb4 sa4 ai4 ab4 aa4 pi4 pb4 pa4 ei4 eb4 : Int) : (Nw.tick D (a1 1 0 (T1_4 vi1 vb1 va1 si1 sb1 sa1 ai1 ab1 aa1 pi1 pb1 pa1 ei1 eb1 vi2 vb2 va2 si2 sb2 sa2 ai2 ab2 aa2 pi2 pb2 pa2 ei2 eb2 vi3 vb3 va3 si3 sb3 sa3 ai3 ab3 aa3 pi3 pb3 pa3 ei3 eb3 vi4 vb4 va4 si4 sb4 sa4 ai4 ab4 aa4 pi4 pb4 pa4 ei4 eb4)) p).flow = max (wr (-400000)) (min p 500000) := by kernel_rfl
end Pr
end Go.Proofs.YtlklnaebdnahcaaGreat
namespace Go.Proofs.YtlklnaebdnahcaaGreat
open Go.RowKit Nw
namespace Pr
noncomputable def rds (c b p : Int) : Nat → St
  | 0 => S0
  | n + 1 => rd c b p (rds c b p n)
theorem flow_p {p : Int} (hp : -32768 ≤ p ∧ p ≤ 32767) : max (wr (-400000)) (min p 500000) = p := by
  have h1 : wr (-400000) = -400000 := by show wrap64 (-400000) = -400000; unfold wrap64; omega
  rw [h1]; omega
theorem s0_1 (p : Int) : ∃ vi1 vb1 va1 si1 sb1 sa1 ai1 ab1 aa1 pi1 pb1 pa1 ei1 eb1 : Int, rds 0 0 p 1 = T0_1 vi1 vb1 va1 si1 sb1 sa1 ai1 ab1 aa1 pi1 pb1 pa1 ei1 eb1 := ⟨_, _, _, _, _, _, _, _, _, _, _, _, _, _, t0_0 p⟩
theorem s0_2 (p : Int) : ∃ vi1 vb1 va1 si1 sb1 sa1 ai1 ab1 aa1 pi1 pb1 pa1 ei1 eb1 vi2 vb2 va2 si2 sb2 sa2 ai2 ab2 aa2 pi2 pb2 pa2 ei2 eb2 : Int, rds 0 0 p 2 = T0_2 vi1 vb1 va1 si1 sb1 sa1 ai1 ab1 aa1 pi1 pb1 pa1 ei1 eb1 vi2 vb2 va2 si2 sb2 sa2 ai2 ab2 aa2 pi2 pb2 pa2 ei2 eb2 := by
  obtain ⟨vi1, vb1, va1, si1, sb1, sa1, ai1, ab1, aa1, pi1, pb1, pa1, ei1, eb1, h⟩ := s0_1 p
  exact ⟨_, _, _, _, _, _, _, _, _, _, _, _, _, _, _, _, _, _, _, _, _, _, _, _, _, _, _, _, (congrArg (rd 0 0 p) h).trans (t0_1 p vi1 vb1 va1 si1 sb1 sa1 ai1 ab1 aa1 pi1 pb1 pa1 ei1 eb1)⟩
theorem s0_3 (p : Int) : ∃ vi1 vb1 va1 si1 sb1 sa1 ai1 ab1 aa1 pi1 pb1 pa1 ei1 eb1 vi2 vb2 va2 si2 sb2 sa2 ai2 ab2 aa2 pi2 pb2 pa2 ei2 eb2 vi3 vb3 va3 si3 sb3 sa3 ai3 ab3 aa3 pi3 pb3 pa3 ei3 eb3 : Int, rds 0 0 p 3 = T0_3 vi1 vb1 va1 si1 sb1 sa1 ai1 ab1 aa1 pi1 pb1 pa1 ei1 eb1 vi2 vb2 va2 si2 sb2 sa2 ai2 ab2 aa2 pi2 pb2 pa2 ei2 eb2 vi3 vb3 va3 si3 sb3 sa3 ai3 ab3 aa3 pi3 pb3 pa3 ei3 eb3 := by
  obtain ⟨vi1, vb1, va1, si1, sb1, sa1, ai1, ab1, aa1, pi1, pb1, pa1, ei1, eb1, vi2, vb2, va2, si2, sb2, sa2, ai2, ab2, aa2, pi2, pb2, pa2, ei2, eb2, h⟩ := s0_2 p
  exact ⟨_, _, _, _, _, _, _, _, _, _, _, _, _, _, _, _, _, _, _, _, _, _, _, _, _, _, _, _, _, _, _, _, _, _, _, _, _, _, _, _, _, _, (congrArg (rd 0 0 p) h).trans (t0_2 p vi1 vb1 va1 si1 sb1 sa1 ai1 ab1 aa1 pi1 pb1 pa1 ei1 eb1 vi2 vb2 va2 si2 sb2 sa2 ai2 ab2 aa2 pi2 pb2 pa2 ei2 eb2)⟩
theorem s0_4 (p : Int) : ∃ vi1 vb1 va1 si1 sb1 sa1 ai1 ab1 aa1 pi1 pb1 pa1 ei1 eb1 vi2 vb2 va2 si2 sb2 sa2 ai2 ab2 aa2 pi2 pb2 pa2 ei2 eb2 vi3 vb3 va3 si3 sb3 sa3 ai3 ab3 aa3 pi3 pb3 pa3 ei3 eb3 vi4 vb4 va4 si4 sb4 sa4 ai4 ab4 aa4 pi4 pb4 pa4 ei4 eb4 : Int, rds 0 0 p 4 = T0_4 vi1 vb1 va1 si1 sb1 sa1 ai1 ab1 aa1 pi1 pb1 pa1 ei1 eb1 vi2 vb2 va2 si2 sb2 sa2 ai2 ab2 aa2 pi2 pb2 pa2 ei2 eb2 vi3 vb3 va3 si3 sb3 sa3 ai3 ab3 aa3 pi3 pb3 pa3 ei3 eb3 vi4 vb4 va4 si4 sb4 sa4 ai4 ab4 aa4 pi4 pb4 pa4 ei4 eb4 := by
  obtain ⟨vi1, vb1, va1, si1, sb1, sa1, ai1, ab1, aa1, pi1, pb1, pa1, ei1, eb1, vi2, vb2, va2, si2, sb2, sa2, ai2, ab2, aa2, pi2, pb2, pa2, ei2, eb2, vi3, vb3, va3, si3, sb3, sa3, ai3, ab3, aa3, pi3, pb3, pa3, ei3, eb3, h⟩ := s0_3 p
  exact ⟨_, _, _, _, _, _, _, _, _, _, _, _, _, _, _, _, _, _, _, _, _, _, _, _, _, _, _, _, _, _, _, _, _, _, _, _, _, _, _, _, _, _, _, _, _, _, _, _, _, _, _, _, _, _, _, _, (congrArg (rd 0 0 p) h).trans (t0_3 p vi1 vb1 va1 si1 sb1 sa1 ai1 ab1 aa1 pi1 pb1 pa1 ei1 eb1 vi2 vb2 va2 si2 sb2 sa2 ai2 ab2 aa2 pi2 pb2 pa2 ei2 eb2 vi3 vb3 va3 si3 sb3 sa3 ai3 ab3 aa3 pi3 pb3 pa3 ei3 eb3)⟩
theorem x0_1 (p : Int) : rds 0 1 p 1 = W0_1 := w0_0 p
theorem x0_2 (p : Int) : rds 0 1 p 2 = W0_2 := (congrArg (rd 0 1 p) (x0_1 p)).trans (w0_1 p)
theorem x0_3 (p : Int) : rds 0 1 p 3 = W0_3 := (congrArg (rd 0 1 p) (x0_2 p)).trans (w0_2 p)
theorem x0_4 (p : Int) : rds 0 1 p 4 = W0_4 := (congrArg (rd 0 1 p) (x0_3 p)).trans (w0_3 p)
theorem g0_0_0 (p : Int) : chk 0 0 p 0 (rds 0 0 p 0) = true ∧ (Nw.tick D (a1 0 0 (rds 0 0 p 0)) p).flow = max (wr (-400000)) (min p 500000) := ⟨tk0_0 p, tf0_0 p⟩
theorem g0_1_0 (p : Int) : chk 0 1 p 0 (rds 0 1 p 0) = true ∧ (Nw.tick D (a1 0 1 (rds 0 1 p 0)) p).flow = 0 := ⟨wk0_0 p, wf0_0 p⟩
theorem g0_0_1 (p : Int) : chk 0 0 p 1 (rds 0 0 p 1) = true ∧ (Nw.tick D (a1 0 0 (rds 0 0 p 1)) p).flow = max (wr (-400000)) (min p 500000) := by
  obtain ⟨vi1, vb1, va1, si1, sb1, sa1, ai1, ab1, aa1, pi1, pb1, pa1, ei1, eb1, h⟩ := s0_1 p
  rw [h]
  exact ⟨tk0_1 p vi1 vb1 va1 si1 sb1 sa1 ai1 ab1 aa1 pi1 pb1 pa1 ei1 eb1, tf0_1 p vi1 vb1 va1 si1 sb1 sa1 ai1 ab1 aa1 pi1 pb1 pa1 ei1 eb1⟩
theorem g0_1_1 (p : Int) : chk 0 1 p 1 (rds 0 1 p 1) = true ∧ (Nw.tick D (a1 0 1 (rds 0 1 p 1)) p).flow = 0 := by
  rw [x0_1 p]
  exact ⟨wk0_1 p, wf0_1 p⟩
theorem g0_0_2 (p : Int) : chk 0 0 p 2 (rds 0 0 p 2) = true ∧ (Nw.tick D (a1 0 0 (rds 0 0 p 2)) p).flow = max (wr (-400000)) (min p 500000) := by
  obtain ⟨vi1, vb1, va1, si1, sb1, sa1, ai1, ab1, aa1, pi1, pb1, pa1, ei1, eb1, vi2, vb2, va2, si2, sb2, sa2, ai2, ab2, aa2, pi2, pb2, pa2, ei2, eb2, h⟩ := s0_2 p
  rw [h]
  exact ⟨tk0_2 p vi1 vb1 va1 si1 sb1 sa1 ai1 ab1 aa1 pi1 pb1 pa1 ei1 eb1 vi2 vb2 va2 si2 sb2 sa2 ai2 ab2 aa2 pi2 pb2 pa2 ei2 eb2, tf0_2 p vi1 vb1 va1 si1 sb1 sa1 ai1 ab1 aa1 pi1 pb1 pa1 ei1 eb1 vi2 vb2 va2 si2 sb2 sa2 ai2 ab2 aa2 pi2 pb2 pa2 ei2 eb2⟩
theorem g0_1_2 (p : Int) : chk 0 1 p 2 (rds 0 1 p 2) = true ∧ (Nw.tick D (a1 0 1 (rds 0 1 p 2)) p).flow = 0 := by
  rw [x0_2 p]
  exact ⟨wk0_2 p, wf0_2 p⟩
theorem g0_0_3 (p : Int) : chk 0 0 p 3 (rds 0 0 p 3) = true ∧ (Nw.tick D (a1 0 0 (rds 0 0 p 3)) p).flow = max (wr (-400000)) (min p 500000) := by
  obtain ⟨vi1, vb1, va1, si1, sb1, sa1, ai1, ab1, aa1, pi1, pb1, pa1, ei1, eb1, vi2, vb2, va2, si2, sb2, sa2, ai2, ab2, aa2, pi2, pb2, pa2, ei2, eb2, vi3, vb3, va3, si3, sb3, sa3, ai3, ab3, aa3, pi3, pb3, pa3, ei3, eb3, h⟩ := s0_3 p
  rw [h]
  exact ⟨tk0_3 p vi1 vb1 va1 si1 sb1 sa1 ai1 ab1 aa1 pi1 pb1 pa1 ei1 eb1 vi2 vb2 va2 si2 sb2 sa2 ai2 ab2 aa2 pi2 pb2 pa2 ei2 eb2 vi3 vb3 va3 si3 sb3 sa3 ai3 ab3 aa3 pi3 pb3 pa3 ei3 eb3, tf0_3 p vi1 vb1 va1 si1 sb1 sa1 ai1 ab1 aa1 pi1 pb1 pa1 ei1 eb1 vi2 vb2 va2 si2 sb2 sa2 ai2 ab2 aa2 pi2 pb2 pa2 ei2 eb2 vi3 vb3 va3 si3 sb3 sa3 ai3 ab3 aa3 pi3 pb3 pa3 ei3 eb3⟩
theorem g0_1_3 (p : Int) : chk 0 1 p 3 (rds 0 1 p 3) = true ∧ (Nw.tick D (a1 0 1 (rds 0 1 p 3)) p).flow = 0 := by
  rw [x0_3 p]
  exact ⟨wk0_3 p, wf0_3 p⟩
theorem g0_0_4 (p : Int) : chk 0 0 p 4 (rds 0 0 p 4) = true ∧ (Nw.tick D (a1 0 0 (rds 0 0 p 4)) p).flow = max (wr (-400000)) (min p 500000) := by
  obtain ⟨vi1, vb1, va1, si1, sb1, sa1, ai1, ab1, aa1, pi1, pb1, pa1, ei1, eb1, vi2, vb2, va2, si2, sb2, sa2, ai2, ab2, aa2, pi2, pb2, pa2, ei2, eb2, vi3, vb3, va3, si3, sb3, sa3, ai3, ab3, aa3, pi3, pb3, pa3, ei3, eb3, vi4, vb4, va4, si4, sb4, sa4, ai4, ab4, aa4, pi4, pb4, pa4, ei4, eb4, h⟩ := s0_4 p
  rw [h]
  exact ⟨tk0_4 p vi1 vb1 va1 si1 sb1 sa1 ai1 ab1 aa1 pi1 pb1 pa1 ei1 eb1 vi2 vb2 va2 si2 sb2 sa2 ai2 ab2 aa2 pi2 pb2 pa2 ei2 eb2 vi3 vb3 va3 si3 sb3 sa3 ai3 ab3 aa3 pi3 pb3 pa3 ei3 eb3 vi4 vb4 va4 si4 sb4 sa4 ai4 ab4 aa4 pi4 pb4 pa4 ei4 eb4, tf0_4 p vi1 vb1 va1 si1 sb1 sa1 ai1 ab1 aa1 pi1 pb1 pa1 ei1 eb1 vi2 vb2 va2 si2 sb2 sa2 ai2 ab2 aa2 pi2 pb2 pa2 ei2 eb2 vi3 vb3 va3 si3 sb3 sa3 ai3 ab3 aa3 pi3 pb3 pa3 ei3 eb3 vi4 vb4 va4 si4 sb4 sa4 ai4 ab4 aa4 pi4 pb4 pa4 ei4 eb4⟩
theorem g0_1_4 (p : Int) : chk 0 1 p 4 (rds 0 1 p 4) = true ∧ (Nw.tick D (a1 0 1 (rds 0 1 p 4)) p).flow = 0 := by
  rw [x0_4 p]
  exact ⟨wk0_4 p, wf0_4 p⟩
theorem s1_1 (p : Int) : ∃ vi1 vb1 va1 si1 sb1 sa1 ai1 ab1 aa1 pi1 pb1 pa1 ei1 eb1 : Int, rds 1 0 p 1 = T1_1 vi1 vb1 va1 si1 sb1 sa1 ai1 ab1 aa1 pi1 pb1 pa1 ei1 eb1 := ⟨_, _, _, _, _, _, _, _, _, _, _, _, _, _, t1_0 p⟩
theorem s1_2 (p : Int) : ∃ vi1 vb1 va1 si1 sb1 sa1 ai1 ab1 aa1 pi1 pb1 pa1 ei1 eb1 vi2 vb2 va2 si2 sb2 sa2 ai2 ab2 aa2 pi2 pb2 pa2 ei2 eb2 : Int, rds 1 0 p 2 = T1_2 vi1 vb1 va1 si1 sb1 sa1 ai1 ab1 aa1 pi1 pb1 pa1 ei1 eb1 vi2 vb2 va2 si2 sb2 sa2 ai2 ab2 aa2 pi2 pb2 pa2 ei2 eb2 := by
  obtain ⟨vi1, vb1, va1, si1, sb1, sa1, ai1, ab1, aa1, pi1, pb1, pa1, ei1, eb1, h⟩ := s1_1 p
  exact ⟨_, _, _, _, _, _, _, _, _, _, _, _, _, _, _, _, _, _, _, _, _, _, _, _, _, _, _, _, (congrArg (rd 1 0 p) h).trans (t1_1 p vi1 vb1 va1 si1 sb1 sa1 ai1 ab1 aa1 pi1 pb1 pa1 ei1 eb1)⟩
theorem s1_3 (p : Int) : ∃ vi1 vb1 va1 si1 sb1 sa1 ai1 ab1 aa1 pi1 pb1 pa1 ei1 eb1 vi2 vb2 va2 si2 sb2 sa2 ai2 ab2 aa2 pi2 pb2 pa2 ei2 eb2 vi3 vb3 va3 si3 sb3 sa3 ai3 ab3 aa3 pi3 pb3 pa3 ei3 eb3 : Int, rds 1 0 p 3 = T1_3 vi1 vb1 va1 si1 sb1 sa1 ai1 ab1 aa1 pi1 pb1 pa1 ei1 eb1 vi2 vb2 va2 si2 sb2 sa2 ai2 ab2 aa2 pi2 pb2 pa2 ei2 eb2 vi3 vb3 va3 si3 sb3 sa3 ai3 ab3 aa3 pi3 pb3 pa3 ei3 eb3 := by
  obtain ⟨vi1, vb1, va1, si1, sb1, sa1, ai1, ab1, aa1, pi1, pb1, pa1, ei1, eb1, vi2, vb2, va2, si2, sb2, sa2, ai2, ab2, aa2, pi2, pb2, pa2, ei2, eb2, h⟩ := s1_2 p
  exact ⟨_, _, _, _, _, _, _, _, _, _, _, _, _, _, _, _, _, _, _, _, _, _, _, _, _, _, _, _, _, _, _, _, _, _, _, _, _, _, _, _, _, _, (congrArg (rd 1 0 p) h).trans (t1_2 p vi1 vb1 va1 si1 sb1 sa1 ai1 ab1 aa1 pi1 pb1 pa1 ei1 eb1 vi2 vb2 va2 si2 sb2 sa2 ai2 ab2 aa2 pi2 pb2 pa2 ei2 eb2)⟩
theorem s1_4 (p : Int) : ∃ vi1 vb1 va1 si1 sb1 sa1 ai1 ab1 aa1 pi1 pb1 pa1 ei1 eb1 vi2 vb2 va2 si2 sb2 sa2 ai2 ab2 aa2 pi2 pb2 pa2 ei2 eb2 vi3 vb3 va3 si3 sb3 sa3 ai3 ab3 aa3 pi3 pb3 pa3 ei3 eb3 vi4 vb4 va4 si4 sb4 sa4 ai4 ab4 aa4 pi4 pb4 pa4 ei4 eb4 : Int, rds 1 0 p 4 = T1_4 vi1 vb1 va1 si1 sb1 sa1 ai1 ab1 aa1 pi1 pb1 pa1 ei1 eb1 vi2 vb2 va2 si2 sb2 sa2 ai2 ab2 aa2 pi2 pb2 pa2 ei2 eb2 vi3 vb3 va3 si3 sb3 sa3 ai3 ab3 aa3 pi3 pb3 pa3 ei3 eb3 vi4 vb4 va4 si4 sb4 sa4 ai4 ab4 aa4 pi4 pb4 pa4 ei4 eb4 := by
  obtain ⟨vi1, vb1, va1, si1, sb1, sa1, ai1, ab1, aa1, pi1, pb1, pa1, ei1, eb1, vi2, vb2, va2, si2, sb2, sa2, ai2, ab2, aa2, pi2, pb2, pa2, ei2, eb2, vi3, vb3, va3, si3, sb3, sa3, ai3, ab3, aa3, pi3, pb3, pa3, ei3, eb3, h⟩ := s1_3 p
  exact ⟨_, _, _, _, _, _, _, _, _, _, _, _, _, _, _, _, _, _, _, _, _, _, _, _, _, _, _, _, _, _, _, _, _, _, _, _, _, _, _, _, _, _, _, _, _, _, _, _, _, _, _, _, _, _, _, _, (congrArg (rd 1 0 p) h).trans (t1_3 p vi1 vb1 va1 si1 sb1 sa1 ai1 ab1 aa1 pi1 pb1 pa1 ei1 eb1 vi2 vb2 va2 si2 sb2 sa2 ai2 ab2 aa2 pi2 pb2 pa2 ei2 eb2 vi3 vb3 va3 si3 sb3 sa3 ai3 ab3 aa3 pi3 pb3 pa3 ei3 eb3)⟩
theorem x1_1 (p : Int) : rds 1 1 p 1 = W1_1 := w1_0 p
theorem x1_2 (p : Int) : rds 1 1 p 2 = W1_2 := (congrArg (rd 1 1 p) (x1_1 p)).trans (w1_1 p)
theorem x1_3 (p : Int) : rds 1 1 p 3 = W1_3 := (congrArg (rd 1 1 p) (x1_2 p)).trans (w1_2 p)
theorem x1_4 (p : Int) : rds 1 1 p 4 = W1_4 := (congrArg (rd 1 1 p) (x1_3 p)).trans (w1_3 p)
theorem g1_0_0 (p : Int) : chk 1 0 p 0 (rds 1 0 p 0) = true ∧ (Nw.tick D (a1 1 0 (rds 1 0 p 0)) p).flow = max (wr (-400000)) (min p 500000) := ⟨tk1_0 p, tf1_0 p⟩
theorem g1_1_0 (p : Int) : chk 1 1 p 0 (rds 1 1 p 0) = true ∧ (Nw.tick D (a1 1 1 (rds 1 1 p 0)) p).flow = 0 := ⟨wk1_0 p, wf1_0 p⟩
theorem g1_0_1 (p : Int) : chk 1 0 p 1 (rds 1 0 p 1) = true ∧ (Nw.tick D (a1 1 0 (rds 1 0 p 1)) p).flow = max (wr (-400000)) (min p 500000) := by
  obtain ⟨vi1, vb1, va1, si1, sb1, sa1, ai1, ab1, aa1, pi1, pb1, pa1, ei1, eb1, h⟩ := s1_1 p
  rw [h]
  exact ⟨tk1_1 p vi1 vb1 va1 si1 sb1 sa1 ai1 ab1 aa1 pi1 pb1 pa1 ei1 eb1, tf1_1 p vi1 vb1 va1 si1 sb1 sa1 ai1 ab1 aa1 pi1 pb1 pa1 ei1 eb1⟩
theorem g1_1_1 (p : Int) : chk 1 1 p 1 (rds 1 1 p 1) = true ∧ (Nw.tick D (a1 1 1 (rds 1 1 p 1)) p).flow = 0 := by
  rw [x1_1 p]
  exact ⟨wk1_1 p, wf1_1 p⟩
theorem g1_0_2 (p : Int) : chk 1 0 p 2 (rds 1 0 p 2) = true ∧ (Nw.tick D (a1 1 0 (rds 1 0 p 2)) p).flow = max (wr (-400000)) (min p 500000) := by
  obtain ⟨vi1, vb1, va1, si1, sb1, sa1, ai1, ab1, aa1, pi1, pb1, pa1, ei1, eb1, vi2, vb2, va2, si2, sb2, sa2, ai2, ab2, aa2, pi2, pb2, pa2, ei2, eb2, h⟩ := s1_2 p
  rw [h]
  exact ⟨tk1_2 p vi1 vb1 va1 si1 sb1 sa1 ai1 ab1 aa1 pi1 pb1 pa1 ei1 eb1 vi2 vb2 va2 si2 sb2 sa2 ai2 ab2 aa2 pi2 pb2 pa2 ei2 eb2, tf1_2 p vi1 vb1 va1 si1 sb1 sa1 ai1 ab1 aa1 pi1 pb1 pa1 ei1 eb1 vi2 vb2 va2 si2 sb2 sa2 ai2 ab2 aa2 pi2 pb2 pa2 ei2 eb2⟩
theorem g1_1_2 (p : Int) : chk 1 1 p 2 (rds 1 1 p 2) = true ∧ (Nw.tick D (a1 1 1 (rds 1 1 p 2)) p).flow = 0 := by
  rw [x1_2 p]
  exact ⟨wk1_2 p, wf1_2 p⟩
theorem g1_0_3 (p : Int) : chk 1 0 p 3 (rds 1 0 p 3) = true ∧ (Nw.tick D (a1 1 0 (rds 1 0 p 3)) p).flow = max (wr (-400000)) (min p 500000) := by
  obtain ⟨vi1, vb1, va1, si1, sb1, sa1, ai1, ab1, aa1, pi1, pb1, pa1, ei1, eb1, vi2, vb2, va2, si2, sb2, sa2, ai2, ab2, aa2, pi2, pb2, pa2, ei2, eb2, vi3, vb3, va3, si3, sb3, sa3, ai3, ab3, aa3, pi3, pb3, pa3, ei3, eb3, h⟩ := s1_3 p
  rw [h]
  exact ⟨tk1_3 p vi1 vb1 va1 si1 sb1 sa1 ai1 ab1 aa1 pi1 pb1 pa1 ei1 eb1 vi2 vb2 va2 si2 sb2 sa2 ai2 ab2 aa2 pi2 pb2 pa2 ei2 eb2 vi3 vb3 va3 si3 sb3 sa3 ai3 ab3 aa3 pi3 pb3 pa3 ei3 eb3, tf1_3 p vi1 vb1 va1 si1 sb1 sa1 ai1 ab1 aa1 pi1 pb1 pa1 ei1 eb1 vi2 vb2 va2 si2 sb2 sa2 ai2 ab2 aa2 pi2 pb2 pa2 ei2 eb2 vi3 vb3 va3 si3 sb3 sa3 ai3 ab3 aa3 pi3 pb3 pa3 ei3 eb3⟩
theorem g1_1_3 (p : Int) : chk 1 1 p 3 (rds 1 1 p 3) = true ∧ (Nw.tick D (a1 1 1 (rds 1 1 p 3)) p).flow = 0 := by
  rw [x1_3 p]
  exact ⟨wk1_3 p, wf1_3 p⟩
theorem g1_0_4 (p : Int) : chk 1 0 p 4 (rds 1 0 p 4) = true ∧ (Nw.tick D (a1 1 0 (rds 1 0 p 4)) p).flow = max (wr (-400000)) (min p 500000) := by
  obtain ⟨vi1, vb1, va1, si1, sb1, sa1, ai1, ab1, aa1, pi1, pb1, pa1, ei1, eb1, vi2, vb2, va2, si2, sb2, sa2, ai2, ab2, aa2, pi2, pb2, pa2, ei2, eb2, vi3, vb3, va3, si3, sb3, sa3, ai3, ab3, aa3, pi3, pb3, pa3, ei3, eb3, vi4, vb4, va4, si4, sb4, sa4, ai4, ab4, aa4, pi4, pb4, pa4, ei4, eb4, h⟩ := s1_4 p
  rw [h]
  exact ⟨tk1_4 p vi1 vb1 va1 si1 sb1 sa1 ai1 ab1 aa1 pi1 pb1 pa1 ei1 eb1 vi2 vb2 va2 si2 sb2 sa2 ai2 ab2 aa2 pi2 pb2 pa2 ei2 eb2 vi3 vb3 va3 si3 sb3 sa3 ai3 ab3 aa3 pi3 pb3 pa3 ei3 eb3 vi4 vb4 va4 si4 sb4 sa4 ai4 ab4 aa4 pi4 pb4 pa4 ei4 eb4, tf1_4 p vi1 vb1 va1 si1 sb1 sa1 ai1 ab1 aa1 pi1 pb1 pa1 ei1 eb1 vi2 vb2 va2 si2 sb2 sa2 ai2 ab2 aa2 pi2 pb2 pa2 ei2 eb2 vi3 vb3 va3 si3 sb3 sa3 ai3 ab3 aa3 pi3 pb3 pa3 ei3 eb3 vi4 vb4 va4 si4 sb4 sa4 ai4 ab4 aa4 pi4 pb4 pa4 ei4 eb4⟩
theorem g1_1_4 (p : Int) : chk 1 1 p 4 (rds 1 1 p 4) = true ∧ (Nw.tick D (a1 1 1 (rds 1 1 p 4)) p).flow = 0 := by
  rw [x1_4 p]
  exact ⟨wk1_4 p, wf1_4 p⟩
theorem all {p : Int} (hp : -32768 ≤ p ∧ p ≤ 32767) {n : Nat} (hn : n < 5) {c b : Int} (hc : c = 0 ∨ c = 1) (hb : b = 0 ∨ b = 1) : chk c b p n (rds c b p n) = true ∧ (Nw.tick D (a1 c b (rds c b p n)) p).flow = if b = 0 then p else 0 := by
  match n, hn with
  | 0, _ =>
    rcases hc with rfl | rfl <;> rcases hb with rfl | rfl
    · exact ⟨(g0_0_0 p).1, ((g0_0_0 p).2.trans (flow_p hp)).trans rfl⟩
    · exact ⟨(g0_1_0 p).1, (g0_1_0 p).2.trans rfl⟩
    · exact ⟨(g1_0_0 p).1, ((g1_0_0 p).2.trans (flow_p hp)).trans rfl⟩
    · exact ⟨(g1_1_0 p).1, (g1_1_0 p).2.trans rfl⟩
  | 1, _ =>
    rcases hc with rfl | rfl <;> rcases hb with rfl | rfl
    · exact ⟨(g0_0_1 p).1, ((g0_0_1 p).2.trans (flow_p hp)).trans rfl⟩
    · exact ⟨(g0_1_1 p).1, (g0_1_1 p).2.trans rfl⟩
    · exact ⟨(g1_0_1 p).1, ((g1_0_1 p).2.trans (flow_p hp)).trans rfl⟩
    · exact ⟨(g1_1_1 p).1, (g1_1_1 p).2.trans rfl⟩
  | 2, _ =>
    rcases hc with rfl | rfl <;> rcases hb with rfl | rfl
    · exact ⟨(g0_0_2 p).1, ((g0_0_2 p).2.trans (flow_p hp)).trans rfl⟩
    · exact ⟨(g0_1_2 p).1, (g0_1_2 p).2.trans rfl⟩
    · exact ⟨(g1_0_2 p).1, ((g1_0_2 p).2.trans (flow_p hp)).trans rfl⟩
    · exact ⟨(g1_1_2 p).1, (g1_1_2 p).2.trans rfl⟩
  | 3, _ =>
    rcases hc with rfl | rfl <;> rcases hb with rfl | rfl
    · exact ⟨(g0_0_3 p).1, ((g0_0_3 p).2.trans (flow_p hp)).trans rfl⟩
    · exact ⟨(g0_1_3 p).1, (g0_1_3 p).2.trans rfl⟩
    · exact ⟨(g1_0_3 p).1, ((g1_0_3 p).2.trans (flow_p hp)).trans rfl⟩
    · exact ⟨(g1_1_3 p).1, (g1_1_3 p).2.trans rfl⟩
  | 4, _ =>
    rcases hc with rfl | rfl <;> rcases hb with rfl | rfl
    · exact ⟨(g0_0_4 p).1, ((g0_0_4 p).2.trans (flow_p hp)).trans rfl⟩
    · exact ⟨(g0_1_4 p).1, (g0_1_4 p).2.trans rfl⟩
    · exact ⟨(g1_0_4 p).1, ((g1_0_4 p).2.trans (flow_p hp)).trans rfl⟩
    · exact ⟨(g1_1_4 p).1, (g1_1_4 p).2.trans rfl⟩
end Pr
end Go.Proofs.YtlklnaebdnahcaaGreat
namespace Go.Proofs.YtlklnaebdnahcaaGreat
open Go.RowKit Nw
theorem D_is : (⟨100, 10, exBs, xCn, 255, 2, 3, 1000000, 1000000⟩ : Dl) = Pr.D := rfl
theorem setl100 (D : Dl) (S : St) : setlS D S 100 = (Nw.settle D 100 0 S).1 := by unfold setlS; rw [if_neg (by decide)]; rfl
theorem setlE100 : setlE 100 = 0 := by unfold setlE; rw [if_neg (by decide)]
def OkI (i : Nat) (S : St) : Prop := ∃ (K : Int) (A L : Nat), OkB K A L Pr.D S ∧ K ≤ 64 + 3000000 * (i : Int) ∧ A ≤ 1 + 50000 * i ∧ L ≤ 1 + 5 * i
theorem eb_of {er : Int} {t : Bool} (h : decide (er = 0) = t) : (er == 0) = t := by
  rw [← h]
  by_cases e : er = 0
  · rw [e]; rfl
  · rw [decide_eq_false e]; simpa using e
theorem bz {p : Int} {z : Bool} (h : (p != 0) = z) : (p == 0) = !z ∧ (0 == p) = !z ∧ decide (p = 0) = !z ∧ decide (0 = p) = !z ∧ (0 != p) = z := by
  subst h
  by_cases e : p = 0
  · subst e; decide
  · have e2 : ¬ 0 = p := fun x => e x.symm
    have b1 : (p == 0) = false := by simpa using e
    have b2 : (0 == p) = false := by simpa using e2
    simp [bne, b1, b2, decide_eq_false e, decide_eq_false e2]
theorem meas_lt {m i : Nat} (h : i < m) : m - (intOf (.int .i64 ((i : Int) + 1))).toNat < m - (intOf (.int .i64 (i : Int))).toNat := by
  simp only [intOf]
  omega
theorem okI_0 : OkI 0 (doS Pr.D st0 8 500000 400000 5000) := ⟨_, _, _, (OkB.new xCn_pos (by decide)).doS (by decide) 8 500000 400000 5000, by decide, by decide, by decide⟩
def OkS (S : St) : Prop := ∃ (K : Int) (A L : Nat), OkB K A L Pr.D S ∧ K + 25600000 ≤ 4611686018427387904 ∧ A + 400000 ≤ 1000000 ∧ L < 100000
theorem okI_round {i : Nat} {S S1 A1 A2 A3 A4 : St} {c b p : Int} (hi : i < 5) (h : OkI i S) (e1 : S1 = doS Pr.D S 1 c b 0) (e2 : setlS Pr.D S1 100 = A1) (e3 : A2 = Nw.tick Pr.D A1 p) (e4 : doS Pr.D A2 2 0 0 0 = A3) (e5 : setlS Pr.D A3 100 = A4) :
    (∃ K, OkA K Pr.D S) ∧ OkS S1 ∧ (∃ K, OkA K Pr.D A1) ∧ (∃ K, OkA K Pr.D A2) ∧ OkS A3 ∧ (∃ K, OkA K Pr.D A4) ∧ OkI (i + 1) (doS Pr.D A4 9 c 0 0) := by
  obtain ⟨K, A, L, hO, hK, hA, hL⟩ := h
  have ho1 := hO.doS (by omega) 1 c b 0
  rw [← e1] at ho1
  have ho2 := ho1.settle 100 0 rfl rfl (by omega)
  rw [← setl100, e2] at ho2
  have ho3 := ho2.tick p
  rw [← e3] at ho3
  have ho4 := ho3.doS (by omega) 2 0 0 0
  rw [e4] at ho4
  have ho5 := ho4.settle 100 0 rfl rfl (by omega)
  rw [← setl100, e5] at ho5
  have ho6 := ho5.doS (by omega) 9 c 0 0
  exact ⟨⟨_, hO.a (by omega) (by omega)⟩, ⟨_, _, _, ho1, by omega, by omega, by omega⟩, ⟨_, ho2.a (by omega) (by omega)⟩, ⟨_, ho3.a (by omega) (by omega)⟩, ⟨_, _, _, ho4, by omega, by omega, by omega⟩, ⟨_, ho5.a (by omega) (by omega)⟩, ⟨_, _, _, ho6, by omega, by omega, by omega⟩⟩
theorem a1_is (c b : Int) (S : St) : Pr.a1 c b S = (Nw.settle Pr.D 100 0 (doS Pr.D S 1 c b 0)).1 := by unfold Pr.a1; exact Eq.refl _
theorem a4_is (c b p : Int) (S : St) : Pr.a4 c b p S = (Nw.settle Pr.D 100 0 (unplugS (Nw.tick Pr.D (Pr.a1 c b S) p))).1 := by unfold Pr.a4 Pr.a3; exact Eq.refl _
theorem rds_is (c b p : Int) (n : Nat) : Pr.rds c b p (n + 1) = doS Pr.D (Pr.a4 c b p (Pr.rds c b p n)) 9 c 0 0 := rfl
theorem pr_deal (w : World) : Calls Tryz.prog 43 #[.int .u8 1, .int .u8 2, .int .u8 255] w fun e w' => ∃ ge A c cts, e = .returned (.agg #[.int .i64 100, .slice (some ⟨ge, 0, none⟩) 2 2, .int .i64 10, .slice A 2 c, .int .i64 255, .int .i64 2, .int .i64 3, .int .i64 1000000, .int .i64 1000000]) ∧ BandsAt w' (some ⟨ge, 0, none⟩) exBs ∧ CtsAt w' A cts ∧ cts.map toCn = xCn ∧ cts.length = 2 ∧ 2 ≤ c ∧ c ≤ 9223372036854775807 ∧ Below w.heap.size w w' :=
  deal_c 1 2 255 (by decide) (by decide) (by decide) w
theorem pr_tick {p : Int} {S : St} (hp : -32768 ≤ p ∧ p ≤ 32767) (hn : S.now < 1099511627776) : doE Pr.D S 3 p 0 0 = 0 ∧ doS Pr.D S 3 p 0 0 = Nw.tick Pr.D S p := by
  have hi : Cv.inB p (-1073741824) 1073741824 = true := Cv.inB_iff.2 (by omega)
  have e : doE Pr.D S 3 p 0 0 = 0 := by
    show (if Cv.inB p (-1073741824) 1073741824 = false then (3 : Int) else if 1099511627776 ≤ S.now then 4 else 0) = 0
    rw [hi, if_neg (by decide), if_neg (by omega)]
  exact ⟨e, if_neg (by rw [e]; decide)⟩
theorem pr_unplug {S : St} (h : S.inn = true) : doE Pr.D S 2 0 0 0 = 0 ∧ doS Pr.D S 2 0 0 0 = unplugS S := by
  have e : doE Pr.D S 2 0 0 0 = 0 := by
    show (if S.inn then (0 : Int) else 10) = 0
    rw [h]; rfl
  exact ⟨e, if_neg (by rw [e]; decide)⟩
theorem chk_of {c b p : Int} {n : Nat} {S : St} (h : Pr.chk c b p n S = true) : doE Pr.D S 1 c b 0 = 0 ∧ (Pr.a1 c b S).vph = (if b = 0 then 2 else 4) ∧ (Pr.a1 c b S).now < 1099511627776 ∧ (Nw.tick Pr.D (Pr.a1 c b S) p).inn = true ∧ doE Pr.D (Pr.a4 c b p S) 9 c 0 0 = 0 ∧ (decide (billE (Pr.a4 c b p S) 0 ((n : Int) + 1) = 0) = decide (b = 0)) := by
  unfold Pr.chk at h
  simp only [Bool.and_eq_true, decide_eq_true_eq, beq_iff_eq] at h
  exact ⟨h.1.1.1.1.1, h.1.1.1.1.2, h.1.1.1.2, h.1.1.2, h.1.2, h.2⟩
set_option maxRecDepth 100000 in
set_option maxHeartbeats 16000000 in
theorem Proofs_walk (ct : Int) (wg : Bool) (pl pw : Int) (hct : 0 ≤ ct ∧ ct ≤ 255) (hpl : 0 ≤ pl ∧ pl ≤ 255) (hpw : -32768 ≤ pw ∧ pw ≤ 32767) (w : World) : Calls Tryz.prog 6 #[.int .u8 ct, .bool wg, .int .u8 pl, .int .i16 pw] w fun e w' => e = .returned (.bool true) ∧ Below w.heap.size w w' := by
  have PD := Lib.hid (pr_deal w)
  have HPW := Lib.hid hpw
  obtain ⟨c, hc⟩ : ∃ c, c = ct % 2 := ⟨_, rfl⟩
  have HC01 := Lib.hid (show c = 0 ∨ c = 1 by omega)
  have HC := Lib.hid hc
  obtain ⟨m, hm⟩ : ∃ m : Nat, 1 + pl % 5 = (m : Int) := ⟨(1 + pl % 5).toNat, by omega⟩
  have hm5 : m ≤ 5 := by omega
  have fw1 : IntKind.i64.wrap ct = ct := IntWalk.i64_in _ (by omega)
  have fw2 : wrap64 ct = ct := by rw [← IntWalk.i64_left]; exact fw1
  have fw3 : IntKind.i64.wrap pl = pl := IntWalk.i64_in _ (by omega)
  have fw4 : wrap64 pl = pl := by rw [← IntWalk.i64_left]; exact fw3
  have fw5 : IntKind.i64.wrap pw = pw := IntWalk.i64_in _ (by omega)
  have fw6 : wrap64 pw = pw := by rw [← IntWalk.i64_left]; exact fw5
  have fw7 : wrap64 (1 + pl % 5) = (m : Int) := by rw [← IntWalk.i64_left, ← hm]; exact IntWalk.i64_in _ (by omega)
  have e0 : 0 ≤ ct := hct.1
  have e1 : 0 ≤ pl := hpl.1
  rw [eq_comm] at hc
  have HMM := Lib.hid hm
  clear hct hpl hpw fw1 fw3 fw5
  go_enter Tryz.func6, Tryz.ntmps6
  go_upto_region 2 with (go_at_call 43; refine (PD.out).mono ?_; rintro e w2 ⟨ge, A, cp, cts, rfl, h1, h2, h3, h4, h5, h6, h7⟩; have HD := Lib.hid (And.intro h1 (And.intro h2 (And.intro h3 (And.intro h4 (And.intro h5 (And.intro h6 h7)))))); clear h1 h2 h3 h4 h5 h6 h7)
  have al := (Below.refl w2.heap.size w2).alloc (Nat.le_refl _) (.cells #[.int .i64 100, .slice (some ⟨ge, 0, none⟩) 2 2, .int .i64 10, .slice A 2 cp, .int .i64 255, .int .i64 2, .int .i64 3, .int .i64 1000000, .int .i64 1000000] 72)
  have HX := Lib.hid (Blk.new' w2 #[.int .i64 100, .slice (some ⟨ge, 0, none⟩) 2 2, .int .i64 10, .slice A 2 cp, .int .i64 255, .int .i64 2, .int .i64 3, .int .i64 1000000, .int .i64 1000000] 72)
  have PN := Lib.hid (new_n (ev := 2) (sl := 3) (cr := 255) (w := w) (W := w2.alloc (.cells #[.int .i64 100, .slice (some ⟨ge, 0, none⟩) 2 2, .int .i64 10, .slice A 2 cp, .int .i64 255, .int .i64 2, .int .i64 3, .int .i64 1000000, .int .i64 1000000] 72)) (by decide) (by decide) (by decide) (HD.out.2.2.2.2.2.2.trans (al.mono HD.out.2.2.2.2.2.2.size)) (HD.out.1.below al) (HD.out.2.1.below al) HD.out.2.2.1 HD.out.2.2.2.1 HD.out.2.2.2.2.1 HD.out.2.2.2.2.2.1)
  rw [D_is] at PN
  generalize w2.alloc (.cells #[.int .i64 100, .slice (some ⟨ge, 0, none⟩) 2 2, .int .i64 10, .slice A 2 cp, .int .i64 255, .int .i64 2, .int .i64 3, .int .i64 1000000, .int .i64 1000000] 72) = w3 at HX PN ⊢
  generalize w2.heap.size = gd at HX ⊢
  have x0 := HX.out.cell 0 rfl
  have x1 := HX.out.cell 1 rfl
  have x2 := HX.out.cell 2 rfl
  have x3 := HX.out.cell 3 rfl
  have x4 := HX.out.cell 4 rfl
  have x5 := HX.out.cell 5 rfl
  have x6 := HX.out.cell 6 rfl
  have x7 := HX.out.cell 7 rfl
  have x8 := HX.out.cell 8 rfl
  have xl := HX.out.lt
  clear al
  go_upto_region 3 with (go_at_call 34; refine (PN.out).mono ?_; rintro e w4 ⟨n, rfl, hn⟩; have HN := Lib.hid hn; clear hn)
  have HO0 := Lib.hid (show OkB 0 0 0 Pr.D st0 from OkB.new xCn_pos (by decide))
  have HL0 : doE Pr.D st0 8 500000 400000 5000 = 0 := by decide +kernel
  have PL := Lib.hid (do_n HN.out (HO0.out.a (by decide) (by decide)) 8 500000 400000 5000)
  rw [HL0] at PL
  clear HL0 x0 x1 x2 x3 x4 x5 x6 x7 x8 xl PN
  go_upto_region 5 with (go_at_call 24; refine (PL.out).mono ?_; rintro e w5 ⟨rfl, hn⟩; have HN1 := Lib.hid hn; clear hn)
  clear PL HN HX HD
  obtain ⟨b, hb⟩ : ∃ b : Int, b = if wg then 1 else 0 := ⟨_, rfl⟩
  have HB01 := Lib.hid (show b = 0 ∨ b = 1 by cases wg <;> simp_all)
  have HBB := Lib.hid hb
  clear hb
  go_wp2_with fail
  go_loopw [12] (fun v wr => ∃ i : Nat, i ≤ m ∧ v = .int .i64 i ∧ Hid (NetS w wr n Pr.D (Pr.rds c b pw i) ∧ OkI i (Pr.rds c b pw i))) (fun v _ => m - (intOf v).toNat)
  case atStart => exact ⟨0, Nat.zero_le _, rfl, Lib.hid ⟨HN1.out, okI_0⟩⟩
  case round =>
    obtain ⟨i, hi, rfl, HZ⟩ := hrel
    have HN := Lib.hid HZ.out.1
    have HO := Lib.hid HZ.out.2
    clear HZ
    by_cases hlt : i < m
    · have hii : (i : Int) < (m : Int) := by omega
      have hiw : wrap64 ((i : Int) + 1) = (i : Int) + 1 := by rw [← IntWalk.i64_left]; exact IntWalk.i64_in _ (by omega)
      have HLT := Lib.hid hlt
      have HALL := Lib.hid (Pr.all HPW.out (Nat.lt_of_lt_of_le HLT.out hm5) HC01.out HB01.out)
      obtain ⟨S, hS⟩ : ∃ S, S = Pr.rds c b pw i := ⟨_, rfl⟩
      rw [← hS] at HN HO HALL
      have HSS := Lib.hid (show Pr.rds c b pw (i + 1) = doS Pr.D (Pr.a4 c b pw S) 9 c 0 0 by rw [rds_is, hS])
      have HCK := Lib.hid (chk_of HALL.out.1)
      have HFL := Lib.hid HALL.out.2
      clear hS HALL hlt
      obtain ⟨S1, hS1⟩ : ∃ S1, S1 = doS Pr.D S 1 c b 0 := ⟨_, rfl⟩
      obtain ⟨A1, hA1⟩ : ∃ A1, A1 = Pr.a1 c b S := ⟨_, rfl⟩
      obtain ⟨A2, hA2⟩ : ∃ A2, A2 = Nw.tick Pr.D A1 pw := ⟨_, rfl⟩
      obtain ⟨A3, hA3⟩ : ∃ A3, A3 = unplugS A2 := ⟨_, rfl⟩
      obtain ⟨A4, hA4⟩ : ∃ A4, A4 = Pr.a4 c b pw S := ⟨_, rfl⟩
      have HS1 := Lib.hid hS1
      have q1 : setlS Pr.D S1 100 = A1 := by rw [setl100, hS1, hA1, a1_is]
      have q4 : setlS Pr.D A3 100 = A4 := by rw [setl100, hA3, hA2, hA1, hA4, a4_is]
      have HQ1 := Lib.hid q1
      have HQ4 := Lib.hid q4
      have HA2 := Lib.hid hA2
      have HA3 := Lib.hid hA3
      have HSN := Lib.hid (show Pr.rds c b pw (i + 1) = doS Pr.D A4 9 c 0 0 by rw [HSS.out, hA4])
      have hck := HCK.out
      have hfl := HFL.out
      rw [← hA1, ← hA2, ← hA4] at hck
      rw [← hA1, ← hA2] at hfl
      have HCK := Lib.hid hck
      have HFL := Lib.hid hfl
      have ht := pr_tick (S := A1) HPW.out hck.2.2.1
      have hu := pr_unplug (S := A2) hck.2.2.2.1
      have hr := okI_round (Nat.lt_of_lt_of_le HLT.out hm5) HO.out hS1 q1 hA2 (hu.2.trans hA3.symm) q4
      obtain ⟨⟨K0, ho0⟩, ⟨K1, N1, L1, ho1, hk1, hn1, hl1⟩, ⟨K2, ho2⟩, ⟨K3, ho3⟩, ⟨K4, N4, L4, ho4, hk4, hn4, hl4⟩, ⟨K5, ho5⟩, ho6⟩ := hr
      have PA := Lib.hid (fun W (h : NetS w W n Pr.D S) => do_n h ho0 1 c b 0)
      have PB := Lib.hid (fun W (h : NetS w W n Pr.D S1) => settle_n h ho1 hk1 hn1 hl1 100)
      have PC := Lib.hid (fun W (h : NetS w W n Pr.D A1) => do_n h ho2 3 pw 0 0)
      have PU := Lib.hid (fun W (h : NetS w W n Pr.D A2) => do_n h ho3 2 0 0 0)
      have PE := Lib.hid (fun W (h : NetS w W n Pr.D A3) => settle_n h ho4 hk4 hn4 hl4 100)
      have PF := Lib.hid (fun W (h : NetS w W n Pr.D A4) => do_n h ho5 9 c 0 0)
      have HO6 := Lib.hid ho6
      clear ho0 ho1 hk1 hn1 hl1 ho2 ho3 ho4 hk4 hn4 hl4 ho5 ho6
      have HTK := Lib.hid ht
      have HUN := Lib.hid hu
      clear hS1 hA1 hA2 hA3 hA4 q1 q4 hck hfl ht hu
      cases wg with
      | false =>
        have hb : b = 0 := by rw [HBB.out]; rfl
        have HCK2 := Lib.hid (show A1.vph = 2 by have := HCK.out.2.1; rw [hb] at this; exact this)
        have HFL2 := Lib.hid (show A2.flow = pw by have := HFL.out; rw [hb] at this; exact this)
        have HBI := Lib.hid (show decide (billE A4 0 ((i : Int) + 1) = 0) = true by have := HCK.out.2.2.2.2.2; rw [hb] at this; exact this)
        have QA := Lib.hid (show ∀ W, NetS w W n Pr.D S → Calls Tryz.prog 24 #[.pointer (some ⟨n, 0, none⟩), .agg #[.int .i64 1, .int .i64 c, .int .i64 0, .int .i64 0]] W fun e w' => e = .returned (.int .i64 0) ∧ NetS w w' n Pr.D S1 from fun W h => by have := PA.out W h; rw [HCK.out.1, ← HS1.out, hb] at this; exact this)
        have QB := Lib.hid (show ∀ W, NetS w W n Pr.D S1 → Calls Tryz.prog 22 #[.pointer (some ⟨n, 0, none⟩), .int .i64 100] W fun e w' => e = .returned (.tuple #[.int .i64 (setlV Pr.D S1 100), .int .i64 0]) ∧ NetS w w' n Pr.D A1 from fun W h => by have := PB.out W h; rw [HQ1.out, setlE100] at this; exact this)
        have QP := Lib.hid (show ∀ W, NetS w W n Pr.D A1 → Calls Tryz.prog 26 #[.pointer (some ⟨n, 0, none⟩), .int .i64 0] W fun e w' => e = .returned (.int .i64 2) ∧ NetS w w' n Pr.D A1 from fun W h => by have := phase_n h 0; rw [show Nw.phase A1 0 = A1.vph from rfl, HCK2.out] at this; exact this)
        have QC := Lib.hid (show ∀ W, NetS w W n Pr.D A1 → Calls Tryz.prog 24 #[.pointer (some ⟨n, 0, none⟩), .agg #[.int .i64 3, .int .i64 pw, .int .i64 0, .int .i64 0]] W fun e w' => e = .returned (.int .i64 0) ∧ NetS w w' n Pr.D A2 from fun W h => by have := PC.out W h; rw [HTK.out.1, HTK.out.2, ← HA2.out] at this; exact this)
        have QF := Lib.hid (show ∀ W, NetS w W n Pr.D A2 → Calls Tryz.prog 29 #[.pointer (some ⟨n, 0, none⟩)] W fun e w' => e = .returned (.int .i64 pw) ∧ NetS w w' n Pr.D A2 from fun W h => by have := flowing_n h; rw [HFL2.out] at this; exact this)
        have QU := Lib.hid (show ∀ W, NetS w W n Pr.D A2 → Calls Tryz.prog 24 #[.pointer (some ⟨n, 0, none⟩), .agg #[.int .i64 2, .int .i64 0, .int .i64 0, .int .i64 0]] W fun e w' => e = .returned (.int .i64 0) ∧ NetS w w' n Pr.D A3 from fun W h => by have := PU.out W h; rw [HUN.out.1, HUN.out.2, ← HA3.out] at this; exact this)
        have QE := Lib.hid (show ∀ W, NetS w W n Pr.D A3 → Calls Tryz.prog 22 #[.pointer (some ⟨n, 0, none⟩), .int .i64 100] W fun e w' => e = .returned (.tuple #[.int .i64 (setlV Pr.D A3 100), .int .i64 0]) ∧ NetS w w' n Pr.D A4 from fun W h => by have := PE.out W h; rw [HQ4.out, setlE100] at this; exact this)
        obtain ⟨er, her⟩ : ∃ er, er = billE A4 0 ((i : Int) + 1) := ⟨_, rfl⟩
        obtain ⟨bv, hbv⟩ : ∃ bv, bv = billV A4 0 ((i : Int) + 1) := ⟨_, rfl⟩
        have QG := Lib.hid (show ∀ W, NetS w W n Pr.D A4 → Calls Tryz.prog 20 #[.pointer (some ⟨n, 0, none⟩), .int .i64 0, .int .i64 ((i : Int) + 1)] W fun e w' => e = .returned (.tuple #[.agg #[.int .i64 bv.s, .int .i64 bv.i, .int .i64 bv.b, .int .i64 bv.a], .int .i64 er]) ∧ NetS w w' n Pr.D A4 from fun W h => by have := bill_n h 0 ((i : Int) + 1); rw [← her, ← hbv] at this; exact this)
        rw [← her] at HBI
        have hbi := HBI.out
        have eb : (er == 0) = true := eb_of hbi
        have QH := Lib.hid (show ∀ W, NetS w W n Pr.D A4 → Calls Tryz.prog 24 #[.pointer (some ⟨n, 0, none⟩), .agg #[.int .i64 9, .int .i64 c, .int .i64 0, .int .i64 0]] W fun e w' => e = .returned (.int .i64 (doE Pr.D A4 9 c 0 0)) ∧ NetS w w' n Pr.D (Pr.rds c b pw (i + 1)) from fun W h => by rw [HSN.out]; exact PF.out W h)
        obtain ⟨ee, hee⟩ : ∃ ee, ee = doE Pr.D A4 9 c 0 0 := ⟨_, rfl⟩
        rw [← hee] at QH
        have HO7 := Lib.hid (show OkI (i + 1) (Pr.rds c b pw (i + 1)) by rw [HSN.out]; exact HO6.out)
        clear hb her hbv hee hbi PA PB PC PU PE PF
        go_upto_region 9 with fail
        have al := (Below.refl wr.heap.size wr).alloc (Nat.le_refl _) (.cells #[.int .i64 1, .int .i64 c, .int .i64 0, .int .i64 0] 29)
        have HAL := Lib.hid al
        have HY := Lib.hid (Blk.new' wr #[.int .i64 1, .int .i64 c, .int .i64 0, .int .i64 0] 29)
        generalize wr.alloc (.cells #[.int .i64 1, .int .i64 c, .int .i64 0, .int .i64 0] 29) = W1 at HAL HY ⊢
        obtain ⟨gy, hgy⟩ : ∃ gy, gy = wr.heap.size := ⟨_, rfl⟩
        rw [← hgy] at HY ⊢
        have HGY := Lib.hid hgy
        clear al hgy
        have HNY := Lib.hid (HN.out.below HAL.out)
        go_upto_region 11 with fail
        have y0 := HY.out.cell 0 rfl
        have y1 := HY.out.cell 1 rfl
        have y2 := HY.out.cell 2 rfl
        have y3 := HY.out.cell 3 rfl
        have yl := HY.out.lt
        go_upto_region 13 with (go_at_call 24; refine (QA.out _ HNY.out).mono ?_; rintro e w2 ⟨rfl, hn⟩; have HN2 := Lib.hid hn; clear hn)
        clear y0 y1 y2 y3 yl
        go_upto_region 14 with (go_at_call 22; refine (QB.out _ HN2.out).mono ?_; rintro e w3 ⟨rfl, hn⟩; have HN3 := Lib.hid hn; clear hn)
        go_upto_region 16 with (go_at_call 26; refine (QP.out _ HN3.out).mono ?_; rintro e w4 ⟨rfl, hn⟩; have HN4 := Lib.hid hn; clear hn)
        have kp : (pw != pw) = false := by simp
        go_upto_region 18 with (first | (go_at_call 24; refine (QC.out _ HN4.out).mono ?_; rintro e w5 ⟨rfl, hn⟩; have HN5 := Lib.hid hn; clear hn) | (go_at_call 29; refine (QF.out _ HN5.out).mono ?_; rintro e w5 ⟨rfl, hn⟩; have HN5 := Lib.hid hn; clear hn))
        go_upto_region 20 with (go_at_call 24; refine (QU.out _ HN5.out).mono ?_; rintro e w6 ⟨rfl, hn⟩; have HN6 := Lib.hid hn; clear hn)
        go_upto_region 21 with (go_at_call 22; refine (QE.out _ HN6.out).mono ?_; rintro e w7 ⟨rfl, hn⟩; have HN7 := Lib.hid hn; clear hn)
        have W2 := Lib.hid fw2
        have E0 := Lib.hid e0
        have HCC := Lib.hid hc
        clear fw2 fw4 fw6 fw7 hm e0 e1 hc
        go_upto_region 22 with (go_at_call 20; refine (QG.out _ HN7.out).mono ?_; rintro e w8 ⟨rfl, hn⟩; have HN8 := Lib.hid hn; clear hn)
        have HN9 := Lib.hid (HN8.out.below ((Below.refl _ _).alloc (Nat.le_refl _) (.cells #[.int .i64 bv.s, .int .i64 bv.i, .int .i64 bv.b, .int .i64 bv.a] 100)))
        generalize w8.alloc (.cells #[.int .i64 bv.s, .int .i64 bv.i, .int .i64 bv.b, .int .i64 bv.a] 100) = w9 at HN9 ⊢
        have fw2 := W2.out
        have e0 := E0.out
        have hc := HCC.out
        go_upto_region 7 with (go_at_call 24; refine (QH.out _ HN9.out).mono ?_; rintro e w10 ⟨rfl, hn⟩; have HN10 := Lib.hid hn; clear hn)
        clear fw2 e0 hc
        go_wp2_with fail
        exact ⟨⟨i + 1, Nat.succ_le_of_lt HLT.out, by simp, Lib.hid ⟨HN10.out, HO7.out⟩⟩, meas_lt HLT.out⟩
      | true =>
        have hb : b = 1 := by rw [HBB.out]; rfl
        have HCK2 := Lib.hid (show A1.vph = 4 by have := HCK.out.2.1; rw [hb] at this; exact this)
        have HFL2 := Lib.hid (show A2.flow = 0 by have := HFL.out; rw [hb] at this; exact this)
        have HBI := Lib.hid (show decide (billE A4 0 ((i : Int) + 1) = 0) = false by have := HCK.out.2.2.2.2.2; rw [hb] at this; exact this)
        have QA := Lib.hid (show ∀ W, NetS w W n Pr.D S → Calls Tryz.prog 24 #[.pointer (some ⟨n, 0, none⟩), .agg #[.int .i64 1, .int .i64 c, .int .i64 1, .int .i64 0]] W fun e w' => e = .returned (.int .i64 0) ∧ NetS w w' n Pr.D S1 from fun W h => by have := PA.out W h; rw [HCK.out.1, ← HS1.out, hb] at this; exact this)
        have QB := Lib.hid (show ∀ W, NetS w W n Pr.D S1 → Calls Tryz.prog 22 #[.pointer (some ⟨n, 0, none⟩), .int .i64 100] W fun e w' => e = .returned (.tuple #[.int .i64 (setlV Pr.D S1 100), .int .i64 0]) ∧ NetS w w' n Pr.D A1 from fun W h => by have := PB.out W h; rw [HQ1.out, setlE100] at this; exact this)
        have QP := Lib.hid (show ∀ W, NetS w W n Pr.D A1 → Calls Tryz.prog 26 #[.pointer (some ⟨n, 0, none⟩), .int .i64 0] W fun e w' => e = .returned (.int .i64 4) ∧ NetS w w' n Pr.D A1 from fun W h => by have := phase_n h 0; rw [show Nw.phase A1 0 = A1.vph from rfl, HCK2.out] at this; exact this)
        have QC := Lib.hid (show ∀ W, NetS w W n Pr.D A1 → Calls Tryz.prog 24 #[.pointer (some ⟨n, 0, none⟩), .agg #[.int .i64 3, .int .i64 pw, .int .i64 0, .int .i64 0]] W fun e w' => e = .returned (.int .i64 0) ∧ NetS w w' n Pr.D A2 from fun W h => by have := PC.out W h; rw [HTK.out.1, HTK.out.2, ← HA2.out] at this; exact this)
        have QF := Lib.hid (show ∀ W, NetS w W n Pr.D A2 → Calls Tryz.prog 29 #[.pointer (some ⟨n, 0, none⟩)] W fun e w' => e = .returned (.int .i64 0) ∧ NetS w w' n Pr.D A2 from fun W h => by have := flowing_n h; rw [HFL2.out] at this; exact this)
        have QU := Lib.hid (show ∀ W, NetS w W n Pr.D A2 → Calls Tryz.prog 24 #[.pointer (some ⟨n, 0, none⟩), .agg #[.int .i64 2, .int .i64 0, .int .i64 0, .int .i64 0]] W fun e w' => e = .returned (.int .i64 0) ∧ NetS w w' n Pr.D A3 from fun W h => by have := PU.out W h; rw [HUN.out.1, HUN.out.2, ← HA3.out] at this; exact this)
        have QE := Lib.hid (show ∀ W, NetS w W n Pr.D A3 → Calls Tryz.prog 22 #[.pointer (some ⟨n, 0, none⟩), .int .i64 100] W fun e w' => e = .returned (.tuple #[.int .i64 (setlV Pr.D A3 100), .int .i64 0]) ∧ NetS w w' n Pr.D A4 from fun W h => by have := PE.out W h; rw [HQ4.out, setlE100] at this; exact this)
        obtain ⟨er, her⟩ : ∃ er, er = billE A4 0 ((i : Int) + 1) := ⟨_, rfl⟩
        obtain ⟨bv, hbv⟩ : ∃ bv, bv = billV A4 0 ((i : Int) + 1) := ⟨_, rfl⟩
        have QG := Lib.hid (show ∀ W, NetS w W n Pr.D A4 → Calls Tryz.prog 20 #[.pointer (some ⟨n, 0, none⟩), .int .i64 0, .int .i64 ((i : Int) + 1)] W fun e w' => e = .returned (.tuple #[.agg #[.int .i64 bv.s, .int .i64 bv.i, .int .i64 bv.b, .int .i64 bv.a], .int .i64 er]) ∧ NetS w w' n Pr.D A4 from fun W h => by have := bill_n h 0 ((i : Int) + 1); rw [← her, ← hbv] at this; exact this)
        rw [← her] at HBI
        have hbi := HBI.out
        have eb : (er == 0) = false := eb_of hbi
        have QH := Lib.hid (show ∀ W, NetS w W n Pr.D A4 → Calls Tryz.prog 24 #[.pointer (some ⟨n, 0, none⟩), .agg #[.int .i64 9, .int .i64 c, .int .i64 0, .int .i64 0]] W fun e w' => e = .returned (.int .i64 (doE Pr.D A4 9 c 0 0)) ∧ NetS w w' n Pr.D (Pr.rds c b pw (i + 1)) from fun W h => by rw [HSN.out]; exact PF.out W h)
        obtain ⟨ee, hee⟩ : ∃ ee, ee = doE Pr.D A4 9 c 0 0 := ⟨_, rfl⟩
        rw [← hee] at QH
        have HO7 := Lib.hid (show OkI (i + 1) (Pr.rds c b pw (i + 1)) by rw [HSN.out]; exact HO6.out)
        clear hb her hbv hee hbi PA PB PC PU PE PF
        go_upto_region 9 with fail
        have al := (Below.refl wr.heap.size wr).alloc (Nat.le_refl _) (.cells #[.int .i64 1, .int .i64 c, .int .i64 0, .int .i64 0] 29)
        have HAL := Lib.hid al
        have HY := Lib.hid (Blk.new' wr #[.int .i64 1, .int .i64 c, .int .i64 0, .int .i64 0] 29)
        generalize wr.alloc (.cells #[.int .i64 1, .int .i64 c, .int .i64 0, .int .i64 0] 29) = W1 at HAL HY ⊢
        obtain ⟨gy, hgy⟩ : ∃ gy, gy = wr.heap.size := ⟨_, rfl⟩
        rw [← hgy] at HY ⊢
        have HGY := Lib.hid hgy
        clear al hgy
        have y2 := HY.out.cell 2 rfl
        have z2 := HY.out.free 2
        have yl := HY.out.lt
        go_upto_region 11 with fail
        have HNY := Lib.hid (HN.out.below (Below.touch HAL.out HAL.out.size (show Touch (fun k => k = gy) W1 (W1.setCell ⟨gy, 2, none⟩ (.int .i64 1)) from (Touch.refl _ _).put 2 _) (fun k e => by rw [e, HGY.out]; exact Nat.le_refl _)))
        have HY2 := Lib.hid (HY.out.setCell 2 (.int .i64 1))
        clear y2 z2 yl HY
        generalize W1.setCell ⟨gy, 2, none⟩ (.int .i64 1) = W2 at HNY HY2 ⊢
        have HY := HY2
        have y0 := HY.out.cell 0 rfl
        have y1 := HY.out.cell 1 rfl
        have y2 := HY.out.cell 2 rfl
        have y3 := HY.out.cell 3 rfl
        have yl := HY.out.lt
        go_upto_region 13 with (go_at_call 24; refine (QA.out _ HNY.out).mono ?_; rintro e w2 ⟨rfl, hn⟩; have HN2 := Lib.hid hn; clear hn)
        clear y0 y1 y2 y3 yl
        go_upto_region 14 with (go_at_call 22; refine (QB.out _ HN2.out).mono ?_; rintro e w3 ⟨rfl, hn⟩; have HN3 := Lib.hid hn; clear hn)
        go_upto_region 16 with (go_at_call 26; refine (QP.out _ HN3.out).mono ?_; rintro e w4 ⟨rfl, hn⟩; have HN4 := Lib.hid hn; clear hn)
        obtain ⟨z, hz⟩ : ∃ z, (pw != 0) = z := ⟨_, rfl⟩
        obtain ⟨z1, z3, z5, z6, z4⟩ := bz hz
        go_upto_region 18 with (first | (go_at_call 24; refine (QC.out _ HN4.out).mono ?_; rintro e w5 ⟨rfl, hn⟩; have HN5 := Lib.hid hn; clear hn) | (go_at_call 29; refine (QF.out _ HN5.out).mono ?_; rintro e w5 ⟨rfl, hn⟩; have HN5 := Lib.hid hn; clear hn))
        go_upto_region 20 with (go_at_call 24; refine (QU.out _ HN5.out).mono ?_; rintro e w6 ⟨rfl, hn⟩; have HN6 := Lib.hid hn; clear hn)
        go_upto_region 21 with (go_at_call 22; refine (QE.out _ HN6.out).mono ?_; rintro e w7 ⟨rfl, hn⟩; have HN7 := Lib.hid hn; clear hn)
        have W2 := Lib.hid fw2
        have E0 := Lib.hid e0
        have HCC := Lib.hid hc
        clear fw2 fw4 fw6 fw7 hm e0 e1 hc
        go_upto_region 22 with (go_at_call 20; refine (QG.out _ HN7.out).mono ?_; rintro e w8 ⟨rfl, hn⟩; have HN8 := Lib.hid hn; clear hn)
        have HN9 := Lib.hid (HN8.out.below ((Below.refl _ _).alloc (Nat.le_refl _) (.cells #[.int .i64 bv.s, .int .i64 bv.i, .int .i64 bv.b, .int .i64 bv.a] 100)))
        generalize w8.alloc (.cells #[.int .i64 bv.s, .int .i64 bv.i, .int .i64 bv.b, .int .i64 bv.a] 100) = w9 at HN9 ⊢
        have fw2 := W2.out
        have e0 := E0.out
        have hc := HCC.out
        go_upto_region 7 with (go_at_call 24; refine (QH.out _ HN9.out).mono ?_; rintro e w10 ⟨rfl, hn⟩; have HN10 := Lib.hid hn; clear hn)
        clear fw2 e0 hc
        go_wp2_with fail
        exact ⟨⟨i + 1, Nat.succ_le_of_lt HLT.out, by simp, Lib.hid ⟨HN10.out, HO7.out⟩⟩, meas_lt HLT.out⟩
    · obtain rfl : m = i := by omega
      clear hlt
      have HBL := Lib.hid HN.out.bel
      go_wp2_with (go_at_call 32; refine (works_c _).mono ?_; rintro e w9 ⟨rfl, hn⟩; have HBW := Lib.hid hn; clear hn)
      exact bodyPost_ret (v := .bool true) (by simp [results, Tryz.results6, go_sem]) rfl ⟨rfl, HBL.out.trans (HBW.out.mono HBL.out.size)⟩
end Go.Proofs.YtlklnaebdnahcaaGreat
namespace Go.Proofs.YtlklnaebdnahcaaGreat
open Go.RowKit Go.WideShapes Go.ChangeShapes
section
variable {H : Type} {enc : TypeId × Value → H} {P : Program}
theorem all_stays (hl : laidOutB P = true) {W W' : World} {sp' : Nat → Bool} : ∀ {ts : List TypeId} {vs : List Value} {ds : List (DataW H)} {ps : List MemPlace}, (ts.all fun t => P.readableRec t && decide (t < P.types.size)) = true →
    DataW.TrodAll enc P W 0 (fun _ => true) true ts vs ds ps → (∀ p ∈ ps, W.sameAt W' p) → (∀ p ∈ ps, sp' p.block = true) → DataW.TrodAll enc P W' 0 sp' true ts vs ds ps
  | [], [], [], _, _, h, _, _ => h
  | t :: ts, v :: vs, d :: ds, _, hr, ⟨p, q, h1, h2, e⟩, hsame, hs => by
    subst e
    simp only [List.all_cons, Bool.and_eq_true, decide_eq_true_eq] at hr
    refine ⟨p, q, WideElems.Trod_stays hl hr.1.1 hr.1.2 h1 (fun x hx => hsame x (List.mem_append_left _ hx)) (fun x hx => hs x (List.mem_append_left _ hx)), ?_, rfl⟩
    exact all_stays hl (by simpa using hr.2) h2 (fun x hx => hsame x (List.mem_append_right _ hx)) (fun x hx => hs x (List.mem_append_right _ hx))
theorem law_post {f : Func} {s : ChangeSpec} {apart fresh handsOn again : Bool} {W W' : World} {args : Array Value} {ds : List (DataW H)} {p : List MemPlace}
    (hl : laidOutB P = true) (hr : (f.params.toList.all fun t => P.readableRec t && decide (t < P.types.size)) = true) (hsv : s.vars = [])
    (hW : DataW.Whole enc P f.params.toList s.vars apart W args.toList ds [] p)
    (hA : DataW.TrodAll enc P W 0 (fun _ => true) true f.params.toList args.toList ds p)
    (hsr : (s.fn H (ds ++ [])).results = [.lit (.bool true)]) (hsa : (s.fn H (ds ++ [])).args = ds) (hsvv : (s.fn H (ds ++ [])).vars = [])
    (hres : ∀ (b : Nat) (sp : Nat → Bool) (hd : Bool), DataW.TrodAll enc P W' b sp hd f.resultTypes.toList ((Value.bool true).resultList f.resultTypes.size) [.lit (.bool true)] [])
    (hb : Below W.heap.size W W')
    (hok : ∀ (j : Nat) (t : TypeId) (r : Value), f.resultTypes[j]? = some t → ((Value.bool true).resultList f.resultTypes.size)[j]? = some r → Value.okWide P W' .any 0 t r) :
    s.post enc P f apart fresh handsOn again W args (.bool true) W' := by
  have hlt : ∀ x ∈ p, x.block < W.heap.size := fun x hx => hW.lt x hx
  have hargs : ∀ sp : Nat → Bool, (∀ x ∈ p, sp x.block = true) → DataW.TrodAll enc P W' 0 sp true f.params.toList args.toList (s.fn H (ds ++ [])).args p := fun sp hsp => by
    rw [hsa]
    exact all_stays hl hr hA (fun x hx => hb.same (hlt x hx)) hsp
  have hvars : ∀ sp : Nat → Bool, DataW.TrodVars enc P W' sp s.vars (s.fn H (ds ++ [])).vars [] := fun sp => by rw [hsv, hsvv]; rfl
  have hres' : ∀ (b : Nat) (sp : Nat → Bool) (hd : Bool), DataW.TrodAll enc P W' b sp hd f.resultTypes.toList ((Value.bool true).resultList f.resultTypes.size) (s.fn H (ds ++ [])).results [] := fun b sp hd => by rw [hsr]; exact hres b sp hd
  have hold : ∀ x ∈ p, (fun b => decide (b < W.heap.size)) x.block = true := fun x hx => by simpa using hlt x hx
  refine ⟨ds, [], p, [], p, [], hW, hres' _ _ _, hargs _ hold, hvars _, World.keptBut_mono (fun x hx => ⟨hx, Or.inr (by simpa using hx)⟩) (hb.frame (· ∈ p)), fun _ => ?_⟩
  · obtain ⟨_, _, _, _, _, hz, hn⟩ := hW
    refine ⟨hok, _, _, ([] ++ p) ++ [], ⟨[] ++ p, [], trodAll_append (hargs _ (fun _ _ => rfl)) (hres' _ _ _), hvars _, rfl, ?_, ?_⟩, ?_⟩
    · intro b off hp
      have hin : MemPlace.cell b off ∈ p := by simpa using hp
      rw [hb.frozen (hlt _ hin)]
      exact hz b off hin
    · intro ha
      simpa using hn ha
    · intro x hx _
      simpa using hx
end
end Go.Proofs.YtlklnaebdnahcaaGreat
namespace Go.Proofs.YtlklnaebdnahcaaGreat
open Go.RowKit Go.WideShapes Go.ChangeShapes
section
variable {H : Type} {enc : TypeId × Value → H} {P : Program} {w : World} {base : Nat} {spare : Nat → Bool} {held : Bool}
end
end Go.Proofs.YtlklnaebdnahcaaGreat
namespace Go.Proofs.YtlklnaebdnahcaaGreat
open Go.RowKit Go.WideShapes Go.ChangeShapes Go.Deep
inductive Sh where
  | nil
  | i (k : IntKind) (r : Sh)
  | b (r : Sh)
  | s (sz : Nat) (es : Sh) (r : Sh)
namespace Sh
def len : Sh → Nat
  | nil => 0
  | i _ r => len r + 1
  | b r => len r + 1
  | s _ _ r => len r + 1
end Sh
section
variable {H : Type} {enc : TypeId × Value → H} {P : Program} {w : World} {base : Nat} {spare : Nat → Bool} {held : Bool}
end
end Go.Proofs.YtlklnaebdnahcaaGreat
