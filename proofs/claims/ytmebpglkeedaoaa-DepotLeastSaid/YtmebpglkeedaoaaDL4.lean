/- Contracts that the claim leans on, part 4: T34 M36 M37 T35 N15 T36 T37 A2 A4 C13 C14 C15 A5 LNets LLeast -/
import Derived.Test.YtmebpglkeedaoaaDL3
import Derived.Deep.Cut
import Derived.WalkMore
set_option linter.unusedVariables false
set_option linter.unusedSimpArgs false
set_option linter.unnecessarySimpa false
namespace Go.Proofs.Ytmebpglkeedaoaa
open Go.RowKit Dp
namespace Dp
theorem way_end {G : Gr} {vi : List Int} {s : Nat} : ∀ {ks : List Nat} {t : Nat}, Dp.Way G vi t ks s → 0 < ks.length → G.frA (ks.reverse.getD 0 0) = s ∧ G.toA (ks.reverse.getD (ks.length - 1) 0) = t
  | [], t, _, h0 => by simp at h0
  | [k], t, h, _ => ⟨h.2.2.2.2, h.2.2.1⟩
  | k :: k2 :: ks, t, h, _ => by
    have ih := way_end (ks := k2 :: ks) h.2.2.2 (by simp)
    have e1 : ∀ j, j < (k2 :: ks).length → (k :: k2 :: ks).reverse.getD j 0 = (k2 :: ks).reverse.getD j 0 := fun j hj => by
      rw [List.getD_eq_getElem?_getD, List.getD_eq_getElem?_getD, List.reverse_cons (a := k), List.getElem?_append_left (by simpa using hj)]
    refine ⟨by rw [e1 0 (by simp)]; exact ih.1, ?_⟩
    have e2 : (k :: k2 :: ks).reverse.getD ((k :: k2 :: ks).length - 1) 0 = k := by
      rw [List.getD_eq_getElem?_getD, List.reverse_cons (a := k), List.getElem?_append_right (by simp)]
      simp
    rw [e2]
    exact h.2.2.1
theorem left_push {G : Gr} {n : Nat} {vi : List Int} {ks : List Nat} {s t : Nat} {x : Int} (h : Sent G n vi ks s t x) (hG : G.Ok n) (hst : s ≠ t) : (G.pushL ks x).left = (G.left.set s (G.lf s - x)).set t (G.lf t + x) := by
  have h1 := h.ok hG
  have ha := pushL_alike (x := x) h1.1
  have hl := pushL_lf (x := x) h.way hG.fine
  have hll := hG.ll
  apply List.ext_getElem
  · rw [ha.ll]; simp
  · intro u g1 g2
    have hu : u < n := by rw [ha.ll, hll] at g1; exact g1
    have e := hl u
    unfold Gr.lf at e
    rw [List.getD_eq_getElem?_getD, List.getElem?_eq_getElem g1, List.getD_eq_getElem?_getD, List.getElem?_eq_getElem (by rw [hll]; exact hu)] at e
    simp only [Option.getD_some] at e
    rw [e, List.getElem_set, List.getElem_set]
    have e2 : ∀ v, (hv : v < n) → G.lf v = G.left[v]'(by rw [hll]; exact hv) := fun v hv => by
      unfold Gr.lf
      rw [List.getD_eq_getElem?_getD, List.getElem?_eq_getElem (by rw [hll]; exact hv)]; rfl
    by_cases e3 : t = u
    · subst e3
      have e4 : ¬ t = s := fun e => hst e.symm
      simp only [e4, if_false, if_true, e2 t hu]; omega
    · have e5 : ¬ u = t := fun e => e3 e.symm
      by_cases e4 : s = u
      · subst e4
        simp only [e3, e5, if_false, if_true, e2 s hu]; omega
      · have e6 : ¬ u = s := fun e => e4 e.symm
        simp only [e3, e5, e4, e6, if_false]; omega
theorem gr0_flow (N : Net) : flowL N (gr0 (zcN N)) = List.replicate N.arcs.length 0 := by
  apply List.ext_getElem
  · simp [flowL]
  · intro i h1 h2
    have hi : i < N.arcs.length := by simpa [flowL] using h1
    simp only [flowL, List.getElem_map, List.getElem_range, List.getElem_replicate]
    show ((esK (zcN N) (zcN N).arcs.length).getD (2 * i + 1) default).room = 0
    rw [(esK_get (zcN N) _ i (by rw [fr_len]; exact hi)).2]
end Dp
open Dp
theorem srcI {W V : World} {ad : Addr} {xs : List Int} {n : Nat} (h : IntsAt W (some ad) xs) (hb : Below W.heap.size W V) : SrcRow V (some ad) n (xs.map (Value.int .i64)) := .inr ⟨ad, rfl, fun j u hu => by
  have hj : j < xs.length := by
    rcases Nat.lt_or_ge j xs.length with h | h
    · exact h
    · rw [List.getElem?_eq_none (by simpa using h)] at hu; cases hu
  obtain ⟨ad', e, hl, hc⟩ := (h.below hb (Nat.le_refl _)) j hj
  cases e
  have hu' : u = .int .i64 (xs.getD j 0) := by
    rw [List.getElem?_map, List.getElem?_eq_getElem hj] at hu
    simp only [Option.map_some, Option.some.injEq] at hu
    rw [← hu, List.getD_eq_getElem?_getD, List.getElem?_eq_getElem hj]; rfl
  rw [hu']
  exact hc⟩
structure AnJ (w : World) (N : Net) (n gF gL cL : Nat) (cv : List Value) (G : Gr) (W : World) : Prop where
  ok : G.Ok n
  fit : Fits (zcN N) G
  f : Fl 2 W gF (flowL N G)
  l : OwnI w.heap.size W gL cL G.left
  x : Blk W w.heap.size 25 cv
  bel : Below w.heap.size w W
theorem AnJ.below {w W V : World} {N : Net} {n gF gL cL : Nat} {cv : List Value} {G : Gr} (h : AnJ w N n gF gL cL cv G W) (hb : Below W.heap.size W V) : AnJ w N n gF gL cL cv G V :=
  ⟨h.ok, h.fit, h.f.below hb, h.l.below hb, h.x.below hb h.x.lt, h.bel.trans (hb.mono h.bel.size)⟩
def AnyP (N : Net) (n m : Nat) (w : World) (e : Ending) (w' : World) : Prop :=
  ∃ (G : Gr) (gF gL cL : Nat) (fa wi : List Int), e = .returned (.tuple #[.slice (some ⟨gF, 0, none⟩) m m, .slice (some ⟨gL, 0, none⟩) n cL]) ∧ G.Ok n ∧ Fits (zcN N) G ∧ NR G n [] fa wi (-1) ∧ Fl 2 w' gF (flowL N G) ∧ OwnI w.heap.size w' gL cL G.left ∧ w.heap.size ≤ gF ∧ gF ≠ gL ∧ (n ≤ cL ∧ cL ≤ 9223372036854775807)
set_option maxHeartbeats 8000000 in
set_option maxRecDepth 100000 in
theorem Any_c (A B : Option Addr) (N : Net) (n m cA cB : Nat) (w : World) (hn : n = N.sup.length) (hm : m = N.arcs.length) (hch : chE N = 0)
    (hA : n ≤ cA ∧ cA ≤ 9223372036854775807) (hB : m ≤ cB ∧ cB ≤ 9223372036854775807) (hN : NetAt w A B N) :
    Calls Try.prog 66 #[.agg #[.slice A n cA, .slice B m cB]] w fun e w' => AnyP N n m w e w' ∧ Below w.heap.size w w' := by
  have hnn : 1 ≤ n ∧ n ≤ 1024 ∧ m ≤ 2048 := by have h := net_len hch; rw [← hn, ← hm] at h; exact h
  obtain ⟨ad, rfl⟩ : ∃ ad, A = some ad := by obtain ⟨ad, e, _⟩ := hN.1 0 (by omega); exact ⟨ad, e⟩
  have HN := Lib.hid hn
  have HM := Lib.hid hm
  have HCH := Lib.hid hch
  have HNA := Lib.hid hN
  have OK0 : Hid ((gr0 (zcN N)).Ok n) := Lib.hid (by have h := gr0_ok (N := zcN N) (by rw [fr_ch]; exact hch); rw [show (zcN N).sup.length = n from hn.symm] at h; exact h)
  clear hn hm hch hN
  have hmk := make_row 22 2 Try.underlying22 info2 m (by omega)
  obtain ⟨i0, hi, hz0, hz1, hz2⟩ := info_parts info2
  have X0 := Lib.hid (Blk.new' w #[.slice (some ad) n cA, .slice B m cB] 25)
  have B0 := Lib.hid ((Below.refl w.heap.size w).alloc (Nat.le_refl _) (.cells #[.slice (some ad) n cA, .slice B m cB] 25))
  go_enter Try.func66, Try.ntmps66
  go_upto_region 1 with fail
  generalize w.alloc (.cells #[.slice (some ad) n cA, .slice B m cB] 25) = w1 at X0 B0 ⊢
  have x1 := X0.out.cell 1 rfl
  have xl := X0.out.lt
  go_upto_region 2 with fail
  clear x1 xl
  have F0 := Lib.hid (show Fl 2 (w1.alloc (.cells (Array.replicate m (.int .i64 0)) 2)) w1.heap.size (List.replicate m 0) from by unfold Fl; have := Blk.new' w1 (Array.replicate m (.int .i64 0)) 2; simpa using this)
  have X1 := Lib.hid (X0.out.alloc (.cells (Array.replicate m (.int .i64 0)) 2))
  have B1 := Lib.hid (B0.out.alloc B0.out.size (.cells (Array.replicate m (.int .i64 0)) 2))
  have HGF := Lib.hid B0.out.size
  have HGX : Hid (w.heap.size ≠ w1.heap.size) := Lib.hid (by have := X0.out.lt; omega)
  generalize w1.alloc (.cells (Array.replicate m (.int .i64 0)) 2) = w2 at F0 X1 B1 ⊢
  generalize w1.heap.size = gF at *
  have HGF2 := Lib.hid (Fl.lt F0.out)
  clear X0 B0
  have x0 := X1.out.cell 0 rfl
  have xl := X1.out.lt
  have HS : Hid (SrcRow (w2.alloc (.cells #[] 2)) (some ad) n (N.sup.map (Value.int .i64))) := Lib.hid (srcI HNA.out.1 (B1.out.alloc B1.out.size _))
  have LIT := Lib.hid (World.ownsRow_lit (base := w2.heap.size) (e := 2) (size := 1) w2 #[] 0 (Nat.le_refl _) (Nat.zero_le _) rfl)
  have AL : Hid (Below w2.heap.size w2 (w2.alloc (.cells #[] 2))) := Lib.hid ((Below.refl _ _).alloc (Nat.le_refl _) _)
  go_upto_region 3 with (at_builtin; refine wpList_append_any (.tmp 14) (.tmp 16) 22 rfl rfl w2.heap.size 2 i0 (.int .i64 0) 1 8 Try.underlying22 hi hz0 hz1 hz2 rfl (by decide) (some ⟨w2.heap.size, 0, none⟩) 0 0 [] (by rfl) (by simpa using LIT.out) (some ad) n cA (N.sup.map (Value.int .i64)) (by rfl) (by rw [HN.out]; simp) HS.out (by simp [Value.oneCell']) (by unfold maxLen; omega) (by omega) (by simp) ?_; intro A3 c3 w3 hown2 hgrow2 hat2; have HO2 := Lib.hid hown2; have HG2 := Lib.hid hgrow2; clear hown2 hgrow2 hat2 x0 xl)
  obtain ⟨gL, cap', e, z1, z2⟩ := HO2.out.form (by omega)
  cases e
  have HB3 : Hid (Below w2.heap.size w2 w3) := Lib.hid (AL.out.grown HG2.out (by simp) (fun j e => by cases e; exact Nat.le_refl _))
  have J0 : Hid (AnJ w N n gF gL c3 [.slice (some ad) n cA, .slice B m cB] (gr0 (zcN N)) w3) := Lib.hid
    { ok := OK0.out
      fit := gr0_fits
      f := by rw [gr0_flow, ← HM.out]; exact F0.out.below HB3.out
      l := by
        have h := HO2.out
        rw [show (gr0 (zcN N)).left = N.sup from rfl]
        unfold OwnI
        rw [← HN.out]
        have h2 : w3.ownsRow w2.heap.size 2 1 (.slice (some ⟨gL, 0, none⟩) n c3) n (N.sup.map (Value.int .i64)) := by simpa using h
        exact ownV_mono2 h2 B1.out.size
      x := X1.out.below HB3.out X1.out.lt
      bel := B1.out.trans (HB3.out.mono B1.out.size) }
  have hcL : n ≤ c3 ∧ c3 ≤ 9223372036854775807 := by have h := own_form HO2.out (by omega); obtain ⟨_, _, _, _, h1, h2⟩ := h; omega
  have HNE : Hid (gF ≠ gL ∧ w2.heap.size ≤ gL) := Lib.hid ⟨by have h1 := Blk.lt F0.out; omega, z1⟩
  have HGFW := Lib.hid HGF.out
  clear F0 X1 B1 HGF HO2 HG2 HB3 AL LIT HS z1 z2 OK0
  go_loopg [9] (restV (gr0 (zcN N)).left).toNat (fun q xv wr => Hid (∃ G : Gr, (restV G.left).toNat = q ∧ AnJ w N n gF gL c3 [.slice (some ad) n cA, .slice B m cB] G wr))
  case atStart => exact Lib.hid ⟨_, rfl, J0.out⟩
  case round =>
    clear J0
    obtain ⟨G, hq, hj⟩ := hrel.out
    have HQ := Lib.hid hq
    have J := Lib.hid hj
    clear hrel hq hj
    have x0 := J.out.x.cell 0 rfl
    have x1 := J.out.x.cell 1 rfl
    have xl := J.out.x.lt
    have HGW : Hid (gF < wr.heap.size) := Lib.hid (Fl.lt J.out.f)
    have WC : Hid (Calls Try.prog 98 #[.agg #[.slice (some ad) n cA, .slice B m cB], .slice (some ⟨gF, 0, none⟩) m m, .slice (some ⟨gL, 0, none⟩) n c3] wr fun e w' => WayP G n wr e w' ∧ Below wr.heap.size wr w') := Lib.hid (way_c (some ad) B (some ⟨gF, 0, none⟩) (some ⟨gL, 0, none⟩) N G n m cA cB m c3 wr HN.out HM.out HCH.out J.out.ok J.out.fit hA hB ⟨Nat.le_refl _, by omega⟩ hcL (HNA.out.below J.out.bel (Nat.le_refl _)) J.out.f.ints (fun i hi => by
      refine ⟨_, rfl, J.out.l.lt.2, ?_⟩
      rw [add_row]
      exact J.out.l.cell i hi))
    go_wp2_with fail
    refine WC.out.mono ?_
    rintro e w4 ⟨hw, hb⟩
    have HB4 := Lib.hid hb
    have J4 := Lib.hid (J.out.below hb)
    clear hb x0 x1 xl WC J
    rcases hw with ⟨rfl, fa, wi, hnr⟩ | ⟨g, c, nk, t, s, ks, vi, rfl, hnk, hown, h0, hkn, hwy, hnd, hsn, htn, hls, hlt, hrm⟩
    · have HNR := Lib.hid hnr
      clear hnr
      have qT : ∀ w : World, (binOp .eql 104 (.slice none 0 0) (.slice none 0 0)).run Try.prog w = .ok (.bool true) w := fun w => Lib.run_eql_slice_nil w 104 150 none 0 0 0 0 Try.underlying104
      go_wp2_with fail
      exact bodyPost_ret (v := .tuple #[.slice (some ⟨gF, 0, none⟩) m m, .slice (some ⟨gL, 0, none⟩) n c3]) (by simp [results, Try.results66, go_sem]) rfl ⟨⟨G, gF, gL, c3, fa, wi, rfl, J4.out.ok, J4.out.fit, HNR.out, J4.out.f, J4.out.l, HGFW.out, HNE.out.1, hcL⟩, J4.out.bel⟩
    · obtain ⟨k, rfl⟩ : ∃ k, nk = k + 1 := ⟨nk - 1, by omega⟩
      have HE := Lib.hid (way_end hwy h0)
      have HKS : Hid (ks.reverse.length = k + 1) := Lib.hid (by rw [List.length_reverse]; exact hnk.symm)
      have hk1 : k + 1 ≤ 1024 := by omega
      have HOW := Lib.hid (OwnR.mono (B' := 0) hown (Nat.zero_le _))
      have HGG : Hid (wr.heap.size ≤ g) := Lib.hid hown.lt.1
      have hcc : k + 1 ≤ c ∧ c ≤ 9223372036854775807 := by
        obtain ⟨_, _, _, _, h1, h2⟩ := hown.form (by simp; omega)
        simp at h1
        omega
      have HKB : Hid (∀ k, k ∈ ks.reverse → k < 2 * m) := Lib.hid (fun k hk => by have h := hwy.lt k (List.mem_reverse.1 hk); rw [J4.out.fit.es, fr_len, ← HM.out] at h; exact h)
      have HST : Hid (s ≠ t) := Lib.hid (fun e => by subst e; omega)
      have HSE : Hid (∀ x, 0 < x → x ≤ roomV G ks.reverse → x ≤ G.lf s → x ≤ -G.lf t → Sent G n vi ks s t x) := Lib.hid (fun x h1 h2 h3 h4 => ⟨hwy, hnd, hsn, htn, h1, h3, h4, fun k hk => by have := (roomV_le G ks.reverse 1099511627776).1 k (List.mem_reverse.2 hk); unfold roomV at h2; omega⟩)
      have HRP : Hid (0 < roomV G ks.reverse) := Lib.hid (roomV_pos G _ _ (by decide) (fun k hk => hrm k (List.mem_reverse.1 hk)))
      have HRN : Hid (ks.reverse.Nodup) := Lib.hid ((List.reverse_perm ks).nodup_iff.2 (way_simple hwy hnd).1)
      have hlb := J4.out.ok.lb s hsn
      have hlb2 := J4.out.ok.lb t htn
      have EC : Hid (Calls Try.prog 99 #[.agg #[.slice (some ad) n cA, .slice B m cB], .slice (some ⟨g, 0, none⟩) (k + 1) c] w4 fun e w' => e = .returned (.tuple #[.int .i64 (s : Nat), .int .i64 (t : Nat)]) ∧ Below w4.heap.size w4 w') := Lib.hid (by
        have h := ends_c (some ad) B N G ks.reverse m n cA cB g c k w4 HM.out HCH.out J4.out.fit.z HKB.out HKS.out (by omega) hB hcc (HNA.out.below J4.out.bel (Nat.le_refl _)) (by simpa using HOW.out)
        have e2 : ks.length - 1 = k := by omega
        have h3 := HE.out
        rw [e2] at h3
        rw [h3.1, h3.2] at h
        exact h)
      clear hwy hnd hrm hnk h0 hkn hown HE
      have qF : ∀ w : World, (binOp .eql 104 (.slice (some ⟨g, 0, none⟩) (k + 1) c) (.slice none 0 0)).run Try.prog w = .ok (.bool false) w := fun w => Lib.run_eql_slice_nil w 104 150 (some ⟨g, 0, none⟩) (k + 1) c 0 0 Try.underlying104
      have x0 := J4.out.x.cell 0 rfl
      have x1 := J4.out.x.cell 1 rfl
      have xl := J4.out.x.lt
      go_wp2_with fail
      refine EC.out.mono ?_
      rintro e w5 ⟨rfl, hb⟩
      have HB5 := Lib.hid (HB4.out.trans (hb.mono HB4.out.size))
      have J5 := Lib.hid (J4.out.below hb)
      have HO5 := Lib.hid (HOW.out.below hb)
      clear hb x0 x1 xl EC J4 HB4 HOW
      go_upto_region 7 with fail
      have HRC : Hid (∀ W, Below w5.heap.size w5 W → Calls Try.prog 69 #[.agg #[.slice (some ad) n cA, .slice B m cB], .slice (some ⟨gF, 0, none⟩) m m, .slice (some ⟨g, 0, none⟩) (k + 1) c] W fun e w' => e = .returned (.int .i64 (roomV G ks.reverse)) ∧ Below W.heap.size W w') := Lib.hid (fun W hW => room_c (some ad) B (some ⟨gF, 0, none⟩) N G ks.reverse m n n cA cB m g c (k + 1) W HM.out HCH.out J5.out.ok J5.out.fit.z HKB.out HKS.out.symm (by omega) hB ⟨Nat.le_refl _, by omega⟩ hcc (HNA.out.below (J5.out.bel.trans (hW.mono J5.out.bel.size)) (Nat.le_refl _)) (J5.out.f.below hW).ints (by have := HO5.out.below hW; simpa using this))
      obtain ⟨R, hR⟩ : ∃ R, R = roomV G ks.reverse := ⟨_, rfl⟩
      obtain ⟨a, ha⟩ : ∃ a, a = G.lf s := ⟨_, rfl⟩
      obtain ⟨b, hb⟩ : ∃ b, b = G.lf t := ⟨_, rfl⟩
      have hR0 : 0 < R := by rw [hR]; exact HRP.out
      rw [← ha] at hls hlb
      rw [← hb] at hlt hlb2
      have HSE2 : Hid (∀ x, 0 < x → x ≤ R → x ≤ a → x ≤ -b → Sent G n vi ks s t x) := Lib.hid (by rw [hR, ha, hb]; exact HSE.out)
      have HSNN := Lib.hid hsn
      have HTNN := Lib.hid htn
      rw [← hR] at HRC
      have HA := Lib.hid ha
      have HB := Lib.hid hb
      clear hR ha hb HSE HRP
      have hsi : (s : Int) < (n : Int) := by omega
      have hti : (t : Int) < (n : Int) := by omega
      go_cut [9] from 18 to 63 (fun xv wc => ∃ x : Int, xv = .int .i64 x ∧ Hid (Sent G n vi ks s t x ∧ x ≤ a ∧ 0 < x ∧ Below w5.heap.size w5 wc))
      case first =>
        have x0 := J5.out.x.cell 0 rfl
        have x1 := J5.out.x.cell 1 rfl
        have xl := J5.out.x.lt
        have c1 : w5.cell? ⟨gL, s, none⟩ = some (.int .i64 a) := by rw [HA.out]; exact J5.out.l.cell s (by rw [J5.out.ok.ll]; exact hsn)
        have c2 : w5.cell? ⟨gL, t, none⟩ = some (.int .i64 b) := by rw [HB.out]; exact J5.out.l.cell t (by rw [J5.out.ok.ll]; exact htn)
        have cl := J5.out.l.lt.2
        by_cases h1 : a < R
        · by_cases h2 : -b < a
          · refine wp_region_past (by kernel_rfl) (by kernel_rfl) ?_
            repeat (go_big_quiet_step ((go_at_call 69; exact past_below (HRC.out _ (Past.far _)))))
            refine wpQuiet_nil ?_
            intro xx
            have B6 := Lib.hid xx.far
            generalize xx.w = w6 at B6 ⊢
            clear x0 x1 xl c1 c2 cl
            go_wp2_with fail
            go_meet
            case rel => exact ⟨-b, rfl, Lib.hid ⟨HSE2.out _ (by omega) (by omega) (by omega) (by omega), by omega, by omega, B6.out⟩⟩
          · have h2' : a ≤ -b := by omega
            refine wp_region_past (by kernel_rfl) (by kernel_rfl) ?_
            repeat (go_big_quiet_step ((go_at_call 69; exact past_below (HRC.out _ (Past.far _)))))
            refine wpQuiet_nil ?_
            intro xx
            have B6 := Lib.hid xx.far
            generalize xx.w = w6 at B6 ⊢
            clear x0 x1 xl c1 c2 cl
            go_wp2_with fail
            go_meet
            case rel => exact ⟨a, rfl, Lib.hid ⟨HSE2.out _ (by omega) (by omega) (by omega) (by omega), by omega, by omega, B6.out⟩⟩
        · have h1' : R ≤ a := by omega
          by_cases h2 : -b < R
          · refine wp_region_past (by kernel_rfl) (by kernel_rfl) ?_
            repeat (go_big_quiet_step ((go_at_call 69; exact past_below (HRC.out _ (Past.far _)))))
            refine wpQuiet_nil ?_
            intro xx
            have B6 := Lib.hid xx.far
            generalize xx.w = w6 at B6 ⊢
            clear x0 x1 xl c1 c2 cl
            go_wp2_with fail
            go_meet
            case rel => exact ⟨-b, rfl, Lib.hid ⟨HSE2.out _ (by omega) (by omega) (by omega) (by omega), by omega, by omega, B6.out⟩⟩
          · have h2' : R ≤ -b := by omega
            refine wp_region_past (by kernel_rfl) (by kernel_rfl) ?_
            repeat (go_big_quiet_step ((go_at_call 69; exact past_below (HRC.out _ (Past.far _)))))
            refine wpQuiet_nil ?_
            intro xx
            have B6 := Lib.hid xx.far
            generalize xx.w = w6 at B6 ⊢
            clear x0 x1 xl c1 c2 cl
            go_wp2_with fail
            go_meet
            case rel => exact ⟨R, rfl, Lib.hid ⟨HSE2.out _ (by omega) (by omega) (by omega) (by omega), by omega, by omega, B6.out⟩⟩
      case rest =>
        obtain ⟨x, rfl, HX⟩ := hcut
        have SX := Lib.hid HX.out.1
        have hx1 := HX.out.2.1
        have hx0 := HX.out.2.2.1
        have J6 := Lib.hid (J5.out.below HX.out.2.2.2)
        have HO6 := Lib.hid (HO5.out.below HX.out.2.2.2)
        clear HX J5 HO5 HRC HSE2
        have PC : Hid (Calls Try.prog 68 #[.slice (some ⟨gF, 0, none⟩) m m, .slice (some ⟨g, 0, none⟩) (k + 1) c, .int .i64 x] wc fun e w' => e = .returned (.tuple #[]) ∧ Fl 2 w' gF (flowL N (G.pushL ks.reverse x)) ∧ Touch (fun k => k = gF) wc w') := Lib.hid (pushW_c N G ks.reverse m n n m g gF c (k + 1) x wc HM.out (by omega) J6.out.ok J6.out.fit.z HKB.out HRN.out ⟨by omega, by omega⟩ HKS.out.symm (by omega) ⟨Nat.le_refl _, by omega⟩ hcc J6.out.f (by simpa using HO6.out) (by have h1 := HGG.out; have h2 := HGW.out; omega))
        go_wp2_with fail
        refine PC.out.mono ?_
        rintro e w7 ⟨rfl, hf7, ht7⟩
        have F7 : Hid (Fl 2 w7 gF (flowL N (G.pushL ks x))) := Lib.hid (by rw [← flowL_perm J6.out.fit.z.es (by rw [← HM.out]; exact HKB.out) (List.reverse_perm ks)]; exact hf7)
        have L7 : Hid (OwnI w.heap.size w7 gL c3 G.left) := Lib.hid (ownTouch J6.out.l ht7 (fun j hj e => by obtain ⟨q, eq, hq⟩ := hj; cases eq; exact HNE.out.1 (e.symm.trans hq.symm)))
        have X7 := Lib.hid (J6.out.x.touch ht7 (fun e => HGX.out e))
        have B7 := Lib.hid (Below.touch J6.out.bel J6.out.bel.size ht7 (fun j e => by rw [e]; exact HGFW.out))
        have OK6 := Lib.hid J6.out.ok
        have FT6 := Lib.hid J6.out.fit
        clear hf7 ht7 PC J6 HO6
        have c1 : w7.cell? ⟨gL, s, none⟩ = some (.int .i64 a) := by rw [HA.out]; exact L7.out.cell s (by rw [OK6.out.ll]; exact hsn)
        have z1 := L7.out.free s
        have l1 := L7.out.lt.2
        have L8 := Lib.hid (L7.out.put s (a - x))
        have HNG : Hid (w.heap.size < gL) := Lib.hid (by have h1 := HNE.out.2; have h2 := HGX.out; have h3 := HGFW.out; have h4 := HGF2.out; omega)
        have F8 := Lib.hid (F7.out.set_ne (p := ⟨gL, s, none⟩) HNE.out.1 (.int .i64 (a - x)))
        have X8 := Lib.hid (X7.out.setCell_ne (p := ⟨gL, s, none⟩) (by have := HNG.out; simp; omega) (.int .i64 (a - x)))
        have B8 := Lib.hid (B7.out.setCell (p := ⟨gL, s, none⟩) (by have := HNG.out; simp; omega) (.int .i64 (a - x)))
        go_upto_region 10 with fail
        clear c1 z1 l1 L7 F7 X7 B7
        generalize w7.setCell ⟨gL, s, none⟩ (.int .i64 (a - x)) = w8 at L8 F8 X8 B8 ⊢
        have c2 : w8.cell? ⟨gL, t, none⟩ = some (.int .i64 b) := by
          have h := L8.out.cell t (by rw [List.length_set, OK6.out.ll]; exact htn)
          rw [h, HB.out]
          unfold Gr.lf
          rw [List.getD_eq_getElem?_getD, List.getElem?_set_ne HST.out, List.getD_eq_getElem?_getD]
        have z1 := L8.out.free t
        have l1 := L8.out.lt.2
        have hp := Lib.hid (left_push SX.out OK6.out HST.out)
        have HE : Hid (AnJ w N n gF gL c3 [.slice (some ad) n cA, .slice B m cB] (G.pushL ks x) (w8.setCell ⟨gL, t, none⟩ (.int .i64 (b + x)))) := Lib.hid
          { ok := (SX.out.ok OK6.out).2.2
            fit := Fits.pushL FT6.out OK6.out.fine (fun k hk => ((SX.out.ok OK6.out).1 k hk).1)
            f := F8.out.set_ne (p := ⟨gL, t, none⟩) HNE.out.1 _
            l := by rw [hp.out, ← HA.out, ← HB.out]; exact L8.out.put t (b + x)
            x := X8.out.setCell_ne (p := ⟨gL, t, none⟩) (by have := HNG.out; simp; omega) _
            bel := B8.out.setCell (p := ⟨gL, t, none⟩) (by have := HNG.out; simp; omega) _ }
        have HM2 : Hid ((restV (G.pushL ks x).left).toNat < gk) := Lib.hid (by have h1 := rest_push SX.out OK6.out; have h2 := rest_nn (G.pushL ks x).left; have h3 := HQ.out; omega)
        clear L8 F8 X8 B8 hp
        go_wp2_with fail
        go_roundg (restV (G.pushL ks x).left).toNat
        case measure => exact HM2.out
        case rel => exact Lib.hid ⟨_, rfl, HE.out⟩
end Go.Proofs.Ytmebpglkeedaoaa
namespace Go.Proofs.Ytmebpglkeedaoaa
namespace Dp
def upf (L : Nat → Nat) (t x : Nat) : Nat → Nat := fun v => if v = t then x else L v
theorem getD_setNN (l : List Nat) (i j : Nat) (x : Nat) (hi : i < l.length) : (l.set i x).getD j 0 = if j = i then x else l.getD j 0 := by
  rw [List.getD_eq_getElem?_getD, List.getElem?_set, List.getD_eq_getElem?_getD]
  by_cases h : i = j
  · subst h; simp [hi]
  · rw [if_neg h, if_neg (fun e => h e.symm)]
structure BcI (G : Gr) (n r e : Nat) (d : List Int) (vi : List Nat) (L T : Nat → Nat) (now : Nat) : Prop where
  dl : d.length = n
  vl : vi.length = n
  hi : ∀ v, v < n → d.getD v 0 ≤ 0
  lo : ∀ v, v < n → -(1048576 * ((r * G.es.length + e : Nat) : Int)) ≤ d.getD v 0
  lr : ∀ v, v < n → L v ≤ r + 1
  tn : ∀ v, v < n → T v ≤ now
  pr : ∀ v, v < n → 0 < L v → vi.getD v 0 < G.es.length ∧ G.toA (vi.getD v 0) = v ∧ 0 < G.room (vi.getD v 0) ∧ d.getD (G.frA (vi.getD v 0)) 0 + G.cost (vi.getD v 0) ≤ d.getD v 0 ∧
    (T (G.frA (vi.getD v 0)) < T v ∨ d.getD (G.frA (vi.getD v 0)) 0 + G.cost (vi.getD v 0) < d.getD v 0) ∧ L v ≤ L (G.frA (vi.getD v 0)) + 1
  ed : ∀ k, k < G.es.length → 0 < G.room k → (k < e → d.getD (G.toA k) 0 ≤ d.getD (G.frA k) 0 + G.cost k ∨ r + 1 ≤ L (G.frA k)) ∧ (0 < r → d.getD (G.toA k) 0 ≤ d.getD (G.frA k) 0 + G.cost k ∨ r ≤ L (G.frA k))
section
variable {G : Gr} {n r e now : Nat} {d : List Int} {vi : List Nat} {L T : Nat → Nat}
theorem BcI.start (G : Gr) (n : Nat) : BcI G n 0 0 (List.replicate n 0) (List.replicate n 0) (fun _ => 0) (fun _ => 0) 0 := by
  have hz : ∀ v, (List.replicate n (0 : Int)).getD v 0 = 0 := fun v => by simp [List.getD_eq_getElem?_getD, List.getElem?_replicate]; split <;> rfl
  exact ⟨by simp, by simp, fun v _ => by rw [hz]; exact Int.le_refl _, fun v _ => by rw [hz]; simp, fun v _ => Nat.zero_le _, fun v _ => Nat.le_refl _, fun v _ h => absurd h (Nat.lt_irrefl 0), fun k _ _ => ⟨fun h => absurd h (Nat.not_lt_zero _), fun h => absurd h (Nat.lt_irrefl 0)⟩⟩
theorem BcI.no (h : BcI G n r e d vi L T now) (hs : e < G.es.length → 0 < G.room e → d.getD (G.toA e) 0 ≤ d.getD (G.frA e) 0 + G.cost e) : BcI G n r (e + 1) d vi L T now :=
  { h with
    lo := fun v hv => by have := h.lo v hv; omega
    ed := fun k hk hr => ⟨fun hke => by
      by_cases e2 : k = e
      · subst e2; exact .inl (hs hk hr)
      · exact (h.ed k hk hr).1 (by omega), (h.ed k hk hr).2⟩ }
theorem BcI.yes (hG : G.Ok n) (h : BcI G n r e d vi L T now) (he : e < G.es.length) (hr : 0 < G.room e) (hd : d.getD (G.frA e) 0 + G.cost e < d.getD (G.toA e) 0) :
    BcI G n r (e + 1) (d.set (G.toA e) (d.getD (G.frA e) 0 + G.cost e)) (vi.set (G.toA e) e) (upf L (G.toA e) (r + 1)) (upf T (G.toA e) (now + 1)) (now + 1) := by
  have ht : G.toA e < n := hG.toL he
  have hf : G.frA e < n := hG.frL he
  have hne : G.frA e ≠ G.toA e := fun e2 => hG.ne e he e2.symm
  have hcb := hG.cb e he
  have hhi := h.hi _ ht
  have hlo := h.lo _ hf
  generalize hx : d.getD (G.frA e) 0 + G.cost e = x at *
  have hD : ∀ v, (d.set (G.toA e) x).getD v 0 = if v = G.toA e then x else d.getD v 0 := fun v => getD_setN _ _ _ _ (by rw [h.dl]; exact ht)
  have hV : ∀ v, (vi.set (G.toA e) e).getD v 0 = if v = G.toA e then e else vi.getD v 0 := fun v => getD_setNN _ _ _ _ (by rw [h.vl]; exact ht)
  have hDle : ∀ v, (d.set (G.toA e) x).getD v 0 ≤ d.getD v 0 := fun v => by
    rw [hD]; split
    · rename_i e2; rw [e2]; omega
    · exact Int.le_refl _
  refine ⟨by rw [List.length_set]; exact h.dl, by rw [List.length_set]; exact h.vl, fun v hv => Int.le_trans (hDle v) (h.hi v hv), fun v hv => ?_, fun v hv => ?_, fun v hv => ?_, fun v hv hL => ?_, fun k hk hrk => ?_⟩
  · rw [hD]
    have := h.lo v hv
    split <;> omega
  · unfold upf; split
    · exact Nat.le_refl _
    · exact h.lr v hv
  · unfold upf; split
    · exact Nat.le_refl _
    · have := h.tn v hv; omega
  · by_cases e2 : v = G.toA e
    · rw [hV, if_pos e2, hD, hD, if_pos e2, if_neg hne]
      refine ⟨he, e2.symm, hr, by omega, .inl ?_, ?_⟩
      · unfold upf
        rw [if_neg hne, if_pos e2]
        have := h.tn _ hf; omega
      · unfold upf
        rw [if_pos e2, if_neg hne]
        by_cases h0 : 0 < r
        · rcases (h.ed e he hr).2 h0 with h1 | h1
          · omega
          · omega
        · omega
    · have hL0 : 0 < L v := by unfold upf at hL; rw [if_neg e2] at hL; exact hL
      obtain ⟨p1, p2, p3, p4, p5, p6⟩ := h.pr v hv hL0
      rw [hV, if_neg e2]
      have hdv : (d.set (G.toA e) x).getD v 0 = d.getD v 0 := by rw [hD, if_neg e2]
      rw [hdv]
      have hle := hDle (G.frA (vi.getD v 0))
      refine ⟨p1, p2, p3, by omega, ?_, ?_⟩
      · by_cases e3 : G.frA (vi.getD v 0) = G.toA e
        · right
          rw [hD, if_pos e3]
          rw [e3] at p4
          omega
        · rcases p5 with p5 | p5
          · left
            unfold upf
            rw [if_neg e3, if_neg e2]
            exact p5
          · right; omega
      · unfold upf
        rw [if_neg e2]
        split
        · have := h.lr v hv; omega
        · exact p6
  · have hk2 := h.ed k hk hrk
    by_cases e3 : G.frA k = G.toA e
    · have hl : upf L (G.toA e) (r + 1) (G.frA k) = r + 1 := by unfold upf; rw [if_pos e3]
      rw [hl]
      exact ⟨fun _ => .inr (Nat.le_refl _), fun _ => .inr (by omega)⟩
    · have hl : upf L (G.toA e) (r + 1) (G.frA k) = L (G.frA k) := by unfold upf; rw [if_neg e3]
      have hdf : (d.set (G.toA e) x).getD (G.frA k) 0 = d.getD (G.frA k) 0 := by rw [hD, if_neg e3]
      have hle := hDle (G.toA k)
      rw [hl, hdf]
      refine ⟨fun hke => ?_, fun h0 => ?_⟩
      · by_cases e4 : k = e
        · subst e4
          left
          rw [hD, if_pos rfl]; omega
        · rcases hk2.1 (by omega) with h1 | h1
          · left; omega
          · exact .inr h1
      · rcases hk2.2 h0 with h1 | h1
        · left; omega
        · exact .inr h1
theorem BcI.next (h : BcI G n r G.es.length d vi L T now) : BcI G n (r + 1) 0 d vi L T now :=
  { h with
    lo := fun v hv => by have := h.lo v hv; rw [show (r + 1) * G.es.length + 0 = r * G.es.length + G.es.length by rw [Nat.succ_mul]; rfl]; exact this
    lr := fun v hv => by have := h.lr v hv; omega
    ed := fun k hk hr => ⟨fun h0 => absurd h0 (Nat.not_lt_zero _), fun _ => (h.ed k hk hr).1 hk⟩ }
theorem BcI.fin (h : BcI G n r G.es.length d vi L T now) (hG : G.Ok n) (hl : ∀ v, v < n → L v ≤ r) : ∀ k, k < G.es.length → 0 < G.room k → 0 ≤ G.rc d k := fun k hk hr => by
  rcases (h.ed k hk hr).1 hk with h1 | h1
  · unfold Gr.rc; omega
  · have := hl _ (hG.frL hk); omega
def LaI (n r : Nat) (L : Nat → Nat) (x : Int) : Prop := (x = -1 ∧ ∀ v, v < n → L v ≤ r) ∨ ∃ v : Nat, v < n ∧ x = (v : Int) ∧ L v = r + 1
theorem LaI.yes (t : Nat) (ht : t < n) : LaI n r (upf L t (r + 1)) (t : Int) := .inr ⟨t, ht, rfl, by unfold upf; rw [if_pos rfl]⟩
def itp (f : Nat → Nat) : Nat → Nat → Nat
  | 0, v => v
  | q + 1, v => itp f q (f v)
theorem itp_succ (f : Nat → Nat) : ∀ q v, itp f (q + 1) v = f (itp f q v)
  | 0, v => rfl
  | q + 1, v => itp_succ f q (f v)
theorem itp_add (f : Nat → Nat) : ∀ a b v, itp f (a + b) v = itp f a (itp f b v)
  | a, 0, v => rfl
  | a, b + 1, v => by
    show itp f (a + b) (f v) = _
    exact itp_add f a b (f v)
def pv (G : Gr) (vi : List Nat) (v : Nat) : Nat := G.frA (vi.getD v 0)
def ksF (G : Gr) (vi : List Nat) : Nat → Nat → List Nat
  | 0, _ => []
  | q + 1, v => vi.getD v 0 :: ksF G vi q (pv G vi v)
theorem ksF_len (G : Gr) (vi : List Nat) : ∀ q v, (ksF G vi q v).length = q
  | 0, _ => rfl
  | q + 1, v => by simp [ksF, ksF_len G vi q]
theorem ksF_succ (G : Gr) (vi : List Nat) : ∀ q v, ksF G vi (q + 1) v = ksF G vi q v ++ [vi.getD (itp (pv G vi) q v) 0]
  | 0, v => rfl
  | q + 1, v => by
    show vi.getD v 0 :: ksF G vi (q + 1) (pv G vi v) = _
    rw [ksF_succ G vi q (pv G vi v)]
    rfl
theorem ksF_mem (G : Gr) (vi : List Nat) : ∀ q v k, k ∈ ksF G vi q v → ∃ j, j < q ∧ k = vi.getD (itp (pv G vi) j v) 0
  | 0, v, k, h => by simp [ksF] at h
  | q + 1, v, k, h => by
    rcases List.mem_cons.1 h with e | h
    · exact ⟨0, by omega, e⟩
    · obtain ⟨j, hj, e⟩ := ksF_mem G vi q _ k h
      exact ⟨j + 1, by omega, e⟩
theorem least_of {P : Nat → Prop} (p : Nat) (h : P p) : ∃ m, m ≤ p ∧ P m ∧ ∀ q, q < m → ¬ P q := by
  induction p using Nat.strongRecOn with
  | _ p ih =>
    by_cases hx : ∃ q, q < p ∧ P q
    · obtain ⟨q, hq, hp⟩ := hx
      obtain ⟨m, h1, h2, h3⟩ := ih q hq hp
      exact ⟨m, by omega, h2, h3⟩
    · exact ⟨p, Nat.le_refl _, h, fun q hq hp => hx ⟨q, hq, hp⟩⟩
theorem BcI.back (h : BcI G n (n + 1) 0 d vi L T now) (hG : G.Ok n) {v : Nat} (hv : v < n) (hL : L v = n + 1) : ∀ j, j ≤ n → itp (pv G vi) j v < n ∧ n + 1 - j ≤ L (itp (pv G vi) j v)
  | 0, _ => ⟨hv, by rw [show itp (pv G vi) 0 v = v from rfl, hL]; omega⟩
  | j + 1, hj => by
    have ih := BcI.back h hG hv hL j (by omega)
    rw [itp_succ]
    obtain ⟨p1, p2, p3, p4, p5, p6⟩ := h.pr _ ih.1 (by omega)
    exact ⟨hG.frL p1, by show n + 1 - (j + 1) ≤ L (G.frA (vi.getD (itp (pv G vi) j v) 0)); omega⟩
theorem pigeon {n : Nat} {x : Nat → Nat} (h : ∀ j, j ≤ n → x j < n) : ∃ i j, i < j ∧ j ≤ n ∧ x i = x j := by
  apply Classical.byContradiction
  intro hc
  have hne : ∀ i j, i < j → j ≤ n → x i ≠ x j := fun i j h1 h2 h3 => hc ⟨i, j, h1, h2, h3⟩
  have hnd : ((List.range (n + 1)).map x).Nodup := by
    unfold List.Nodup
    rw [List.pairwise_map]
    exact (List.pairwise_lt_range (n := n + 1)).imp_of_mem (fun {a b} ha hb hab => hne a b hab (by have := List.mem_range.1 hb; omega))
  have := hnd.length_le_of_subset (l₂ := List.range n) (fun v hv => by
    obtain ⟨j, hj, e⟩ := List.mem_map.1 hv
    rw [← e]
    exact List.mem_range.2 (h j (by have := List.mem_range.1 hj; omega)))
  simp at this
  omega
structure CyI (G : Gr) (n : Nat) (vi : List Nat) (L : Nat → Nat) (z p : Nat) : Prop where
  p1 : 1 ≤ p ∧ p ≤ n
  cl : itp (pv G vi) p z = z
  mn : ∀ q, 1 ≤ q → q < p → itp (pv G vi) q z ≠ z
  nd : ∀ q, itp (pv G vi) q z < n ∧ 0 < L (itp (pv G vi) q z)
theorem BcI.cyc (h : BcI G n (n + 1) 0 d vi L T now) (hG : G.Ok n) {v : Nat} (hv : v < n) (hL : L v = n + 1) : ∃ p, CyI G n vi L (itp (pv G vi) n v) p := by
  have hb := h.back hG hv hL
  obtain ⟨i, j, hij, hjn, he⟩ := pigeon (fun q hq => (hb q hq).1)
  have hper : ∀ k, i ≤ k → itp (pv G vi) (k + (j - i)) v = itp (pv G vi) k v := fun k hk => by
    have e1 : k + (j - i) = (k - i) + j := by omega
    have e2 : itp (pv G vi) k v = itp (pv G vi) ((k - i) + i) v := by rw [show k - i + i = k by omega]
    rw [e2, e1, itp_add, itp_add, he]
  have hall : ∀ k, ∃ m, m ≤ n ∧ itp (pv G vi) k v = itp (pv G vi) m v := fun k => by
    induction k using Nat.strongRecOn with
    | _ k ih =>
      by_cases hk : k ≤ n
      · exact ⟨k, hk, rfl⟩
      · obtain ⟨m, h1, h2⟩ := ih (k - (j - i)) (by omega)
        refine ⟨m, h1, ?_⟩
        rw [← h2, ← hper (k - (j - i)) (by omega), show k - (j - i) + (j - i) = k by omega]
  have hnd : ∀ q, itp (pv G vi) q (itp (pv G vi) n v) < n ∧ 0 < L (itp (pv G vi) q (itp (pv G vi) n v)) := fun q => by
    rw [← itp_add]
    obtain ⟨m, h1, h2⟩ := hall (q + n)
    rw [h2]
    have := hb m h1
    exact ⟨this.1, by omega⟩
  have hcl : itp (pv G vi) (j - i) (itp (pv G vi) n v) = itp (pv G vi) n v := by
    rw [← itp_add, show (j - i) + n = n + (j - i) by omega]
    exact hper n (by omega)
  obtain ⟨m, h1, ⟨h2, h3⟩, h4⟩ := least_of (P := fun p => 1 ≤ p ∧ itp (pv G vi) p (itp (pv G vi) n v) = itp (pv G vi) n v) (j - i) ⟨by omega, hcl⟩
  exact ⟨m, ⟨h2, by omega⟩, h3, fun q hq hqm e => h4 q hqm ⟨hq, e⟩, hnd⟩
def Tr (G : Gr) : Nat → List Nat → Nat → Prop
  | v, [], s => v = s
  | v, k :: ks, s => k < G.es.length ∧ G.toA k = v ∧ Tr G (G.frA k) ks s
theorem Tr.alike {G G' : Gr} {s : Nat} (ha : Alike G G') : ∀ {ks : List Nat} {v : Nat}, Tr G v ks s → Tr G' v ks s
  | [], v, h => h
  | k :: ks, v, h => ⟨by rw [ha.le]; exact h.1, by rw [ha.toA]; exact h.2.1, by rw [ha.frA]; exact Tr.alike ha h.2.2⟩
theorem tr_lf {x : Int} {s : Nat} : ∀ {ks : List Nat} {G : Gr} {v : Nat}, Tr G v ks s → Fine G → ∀ u, (G.pushL ks x).lf u = G.lf u - (if u = s then x else 0) + (if u = v then x else 0)
  | [], G, v, h, _, u => by rw [show v = s from h]; show G.lf u = _; split <;> omega
  | k :: ks, G, v, h, hb, u => by
    have hbk := hb k h.1
    have ha := push1_alike (x := x) h.1 hbk.2.2
    have e0 := push1_lf (x := x) hbk.2.1 hbk.1 u
    have e1 := tr_lf (x := x) (ks := ks) (G := G.push1 k x) (v := G.frA k) (h.2.2.alike ha) (hb.alike ha) u
    show ((G.push1 k x).pushL ks x).lf u = _
    rw [e1, e0, h.2.1]
    omega
def sumK (G : Gr) : List Nat → Int
  | [] => 0
  | k :: ks => G.cost k + sumK G ks
theorem trail (h : BcI G n r e d vi L T now) (hG : G.Ok n) : ∀ q v, (∀ j, j ≤ q → itp (pv G vi) j v < n ∧ 0 < L (itp (pv G vi) j v)) → Tr G v (ksF G vi q v) (itp (pv G vi) q v) ∧ (∀ k, k ∈ ksF G vi q v → k < G.es.length ∧ 0 < G.room k) ∧
    d.getD (itp (pv G vi) q v) 0 + sumK G (ksF G vi q v) ≤ d.getD v 0 ∧ (q = 0 ∨ T (itp (pv G vi) q v) < T v ∨ d.getD (itp (pv G vi) q v) 0 + sumK G (ksF G vi q v) < d.getD v 0)
  | 0, v, _ => ⟨rfl, fun k hk => by simp [ksF] at hk, by show d.getD v 0 + 0 ≤ _; omega, .inl rfl⟩
  | q + 1, v, hn => by
    have ih := trail h hG q (pv G vi v) (fun j hj => hn (j + 1) (by omega))
    obtain ⟨p1, p2, p3, p4, p5, p6⟩ := h.pr v (hn 0 (by omega)).1 (hn 0 (by omega)).2
    refine ⟨⟨p1, p2, ih.1⟩, fun k hk => ?_, ?_, ?_⟩
    · rcases List.mem_cons.1 hk with rfl | hk
      · exact ⟨p1, p3⟩
      · exact ih.2.1 k hk
    · have h1 := ih.2.2.1
      show d.getD (itp (pv G vi) q (pv G vi v)) 0 + (G.cost (vi.getD v 0) + sumK G (ksF G vi q (pv G vi v))) ≤ _
      unfold pv at h1 ⊢
      omega
    · right
      have h1 := ih.2.2.1
      show T (itp (pv G vi) q (pv G vi v)) < T v ∨ d.getD (itp (pv G vi) q (pv G vi v)) 0 + (G.cost (vi.getD v 0) + sumK G (ksF G vi q (pv G vi v))) < _
      have h3 := ih.2.2.2
      rcases h3 with h3 | h3 | h3
      · subst h3
        rcases p5 with p5 | p5
        · left; exact p5
        · right; unfold pv at h1 ⊢; simp only [ksF, sumK, itp] at h1 ⊢; omega
      · rcases p5 with p5 | p5
        · left; unfold pv at h3 ⊢; omega
        · right; unfold pv at h1 ⊢; omega
      · right; unfold pv at h3 ⊢; omega
structure Cyc (G : Gr) (n : Nat) (ks : List Nat) : Prop where
  l0 : 0 < ks.length
  ln : ks.length ≤ n
  nd : ks.Nodup
  rm : ∀ k, k ∈ ks → k < G.es.length ∧ 0 < G.room k
  tr : ∃ z, z < n ∧ Tr G z ks z
  neg : sumK G ks < 0
theorem CyI.cyc {z p : Nat} (c : CyI G n vi L z p) (h : BcI G n r e d vi L T now) (hG : G.Ok n) : Cyc G n (ksF G vi p z) := by
  have ht := trail h hG p z (fun j _ => c.nd j)
  rw [c.cl] at ht
  refine ⟨by rw [ksF_len]; exact c.p1.1, by rw [ksF_len]; exact c.p1.2, ?_, ht.2.1, ⟨z, (c.nd 0).1, ht.1⟩, ?_⟩
  · have hne : ∀ a b, a < b → b < p → itp (pv G vi) a z ≠ itp (pv G vi) b z := fun a b hab hbp e2 => by
      apply c.mn (a + (p - b)) (by omega) (by omega)
      have e3 : itp (pv G vi) (p - b) (itp (pv G vi) b z) = z := by rw [← itp_add, show p - b + b = p by omega]; exact c.cl
      rw [← e2, ← itp_add] at e3
      rw [show a + (p - b) = p - b + a by omega]
      exact e3
    have key : ∀ q, q ≤ p → (ksF G vi q z).Nodup := fun q => by
      induction q with
      | zero => intro _; exact List.nodup_nil
      | succ q ih =>
        intro hq
        rw [ksF_succ, List.nodup_append]
        refine ⟨ih (by omega), by simp, fun a ha b hb => ?_⟩
        rw [List.mem_singleton] at hb
        rw [hb]
        obtain ⟨j, hj, e2⟩ := ksF_mem G vi q z a ha
        rw [e2]
        intro e3
        have t1 := (h.pr _ (c.nd j).1 (c.nd j).2).2.1
        have t2 := (h.pr _ (c.nd q).1 (c.nd q).2).2.1
        rw [e3, t2] at t1
        exact hne j q hj (by omega) t1.symm
    exact key p (Nat.le_refl _)
  · rcases ht.2.2.2 with h1 | h1 | h1
    · have := c.p1.1; omega
    · omega
    · omega
end
end Dp
end Go.Proofs.Ytmebpglkeedaoaa
namespace Go.Proofs.Ytmebpglkeedaoaa
namespace Dp
def edC (N : Net) (k : Nat) : Int := if k % 2 = 0 then (N.arcs.getD (k / 2) default).cost else -(N.arcs.getD (k / 2) default).cost
def reC (N : Net) (G : Gr) : Gr := { G with es := (List.range G.es.length).map fun k => { (G.es.getD k default) with cost := edC N k } }
theorem reC_len (N : Net) (G : Gr) : (reC N G).es.length = G.es.length := by simp [reC]
theorem reC_get (N : Net) (G : Gr) (k : Nat) : ((reC N G).es.getD k default).to = (G.es.getD k default).to ∧ ((reC N G).es.getD k default).room = (G.es.getD k default).room ∧ (k < G.es.length → ((reC N G).es.getD k default).cost = edC N k) := by
  by_cases h : k < G.es.length
  · have e : (reC N G).es.getD k default = { (G.es.getD k default) with cost := edC N k } := by
      rw [List.getD_eq_getElem?_getD]
      simp [reC, h]
    rw [e]
    exact ⟨rfl, rfl, fun _ => rfl⟩
  · have e : (reC N G).es.getD k default = G.es.getD k default := by
      rw [List.getD_eq_getElem?_getD, List.getD_eq_getElem?_getD, List.getElem?_eq_none (by rw [reC_len]; omega), List.getElem?_eq_none (by omega)]
    rw [e]
    exact ⟨rfl, rfl, fun h2 => absurd h2 h⟩
theorem reC_toA (N : Net) (G : Gr) (k : Nat) : (reC N G).toA k = G.toA k := by unfold Gr.toA; rw [(reC_get N G k).1]
theorem reC_frA (N : Net) (G : Gr) (k : Nat) : (reC N G).frA k = G.frA k := reC_toA N G (tw k)
theorem reC_room (N : Net) (G : Gr) (k : Nat) : (reC N G).room k = G.room k := (reC_get N G k).2.1
theorem reC_cost (N : Net) (G : Gr) (k : Nat) (hk : k < G.es.length) : (reC N G).cost k = edC N k := (reC_get N G k).2.2 hk
theorem edC_tw (N : Net) (k : Nat) : edC N (tw k) = - edC N k := by
  unfold edC tw
  by_cases h : k % 2 = 0
  · rw [if_pos h, if_neg (by omega), if_pos h, show (k + 1) / 2 = k / 2 by omega]
  · rw [if_neg h, if_pos (by omega), if_neg h, show (k - 1) / 2 = k / 2 by omega]; omega
theorem reC_ok {N : Net} {G : Gr} {n : Nat} (h : chE N = 0) (hG : G.Ok n) (hf : FitF N G) : (reC N G).Ok n :=
  { n1 := hG.n1
    ll := hG.ll
    lo := hG.lo
    le := by rw [reC_len]; exact hG.le
    ev := by rw [reC_len]; exact hG.ev
    «to» := fun k hk => by rw [reC_len] at hk; rw [(reC_get N G k).1]; exact hG.to k hk
    ne := fun k hk => by rw [reC_len] at hk; rw [reC_toA, reC_frA]; exact hG.ne k hk
    co := fun k hk => by rw [reC_len] at hk; rw [reC_cost _ _ _ hk, reC_cost _ _ _ (hG.tl hk), edC_tw]
    cb := fun k hk => by
      rw [reC_len] at hk
      rw [reC_cost _ _ _ hk]
      have ha := net_arc h (k / 2) (by have := hf.es; omega)
      unfold edC
      split <;> omega
    rm := fun k hk => by rw [reC_len] at hk; rw [reC_room, reC_room]; exact hG.rm k hk
    lb := hG.lb
    o1 := fun v hv x hx => by rw [reC_len, reC_frA]; exact hG.o1 v hv x hx
    o2 := fun k hk => by rw [reC_len] at hk; rw [reC_frA]; exact hG.o2 k hk
    o3 := hG.o3 }
theorem reC_fits {N : Net} {G : Gr} (hf : Fits (zcN N) G) : Fits N (reC N G) := by
  have hz := hf.z
  refine ⟨by rw [reC_len]; exact hz.es, hf.ll, fun i hi => by rw [reC_toA, reC_toA]; exact hz.t0 i hi, fun i hi => ?_, fun i hi => by rw [reC_room, reC_room]; exact hz.r0 i hi, fun v hv => ?_⟩
  · have hl := hz.es
    rw [reC_cost _ _ _ (by omega), reC_cost _ _ _ (by omega)]
    unfold edC
    rw [if_pos (by omega), if_neg (by omega), show 2 * i / 2 = i by omega, show (2 * i + 1) / 2 = i by omega]
    exact ⟨rfl, rfl⟩
  · have h1 := hf.lf v hv
    rw [show (reC N G).lf v = G.lf v from rfl, h1, fr_len]
    have key : ∀ k, k ≤ N.arcs.length → lv (zcN N) (fun j => G.room (2 * j + 1)) k v = lv N (fun j => (reC N G).room (2 * j + 1)) k v := fun k => by
      induction k with
      | zero => intro _; rfl
      | succ k ih =>
        intro hk
        simp only [lv]
        rw [ih (by omega), reC_room]
        have e1 : toN (zcN N) k = toN N k := by unfold toN; rw [fr_get (by omega)]; rfl
        have e2 : frN (zcN N) k = frN N k := by unfold frN; rw [fr_get (by omega)]; rfl
        rw [e1, e2]
    exact key _ (Nat.le_refl _)
theorem reC_flow (N : Net) (G : Gr) : flowL N (reC N G) = flowL N G := by
  unfold flowL
  apply List.map_congr_left
  intro i _
  rw [reC_room]
theorem costK_set {N : Net} {fl : List Int} {i : Nat} {v : Int} (hi : i < fl.length) : ∀ k, costK N (fl.set i v) k = costK N fl k + (if i < k then (v - fl.getD i 0) * (N.arcs.getD i default).cost else 0)
  | 0 => by simp [costK]
  | k + 1 => by
    simp only [costK]
    rw [costK_set hi k, getD_setN _ _ _ _ hi]
    by_cases e : k = i
    · subst e
      rw [if_pos rfl, if_neg (by omega), if_pos (by omega), Int.sub_mul]; omega
    · rw [if_neg e]
      by_cases e2 : i < k
      · rw [if_pos e2, if_pos (by omega)]; omega
      · rw [if_neg e2, if_neg (by omega)]; omega
theorem cost_push1 {N : Net} {G : Gr} {k : Nat} {x : Int} (hf : Fits N G) (hk : k < G.es.length) : costK N (flowL N (G.push1 k x)) N.arcs.length = costK N (flowL N G) N.arcs.length + x * G.cost k := by
  have hl := hf.es
  have hi : k / 2 < N.arcs.length := by omega
  rw [flowL_push1 hl (by omega), costK_set (by rw [flowL_len]; exact hi), if_pos hi, flowL_get hi]
  have hc := hf.c0 (k / 2) hi
  rcases Nat.mod_two_eq_zero_or_one k with e | e
  · have e2 : G.cost k = (N.arcs.getD (k / 2) default).cost := by rw [← hc.1]; congr 1; omega
    rw [e2, if_neg (by omega)]
    congr 1
    congr 1
    omega
  · have e2 : G.cost k = -(N.arcs.getD (k / 2) default).cost := by rw [← hc.2]; congr 1; omega
    rw [e2, if_pos e, Int.mul_neg, ← Int.neg_mul]
    congr 1
    congr 1
    omega
theorem sumK_alike {G G' : Gr} (ha : Alike G G') : ∀ ks, sumK G' ks = sumK G ks
  | [] => rfl
  | k :: ks => by simp only [sumK]; rw [ha.cost, sumK_alike ha ks]
theorem cost_pushL {N : Net} {x : Int} : ∀ {ks : List Nat} {G : Gr}, Fits N G → Fine G → (∀ k, k ∈ ks → k < G.es.length) → costK N (flowL N (G.pushL ks x)) N.arcs.length = costK N (flowL N G) N.arcs.length + x * sumK G ks
  | [], G, _, _, _ => by show costK N (flowL N G) _ = _ + x * 0; omega
  | k :: ks, G, hf, hb, hk => by
    have hk0 := hk k (by simp)
    have ha := push1_alike (x := x) hk0 (hb k hk0).2.2
    have ih := cost_pushL (x := x) (ks := ks) (hf.push1 hb x hk0) (hb.alike ha) (fun j hj => by rw [ha.le]; exact hk j (by simp [hj]))
    show costK N (flowL N ((G.push1 k x).pushL ks x)) _ = _
    rw [ih, cost_push1 hf hk0, sumK_alike ha]
    simp only [sumK]
    rw [Int.mul_add]; omega
theorem Cyc.ok {G : Gr} {n : Nat} {ks : List Nat} {x : Int} (c : Cyc G n ks) (hG : G.Ok n) (h0 : 0 ≤ x) (hx : ∀ k, k ∈ ks → x ≤ G.room k) : (G.pushL ks x).Ok n ∧ ∀ v, (G.pushL ks x).lf v = G.lf v := by
  have hk : ∀ k, k ∈ ks → k < G.es.length ∧ tw k < G.es.length := fun k hk => ⟨(c.rm k hk).1, hG.tl (c.rm k hk).1⟩
  have ha := pushL_alike (x := x) hk
  obtain ⟨z, hz, ht⟩ := c.tr
  have hlf : ∀ v, (G.pushL ks x).lf v = G.lf v := fun v => by rw [tr_lf ht hG.fine v]; split <;> omega
  have hr : ∀ j, (G.pushL ks x).room j = G.room j - (if j ∈ ks then x else 0) + (if tw j ∈ ks then x else 0) := fun j => by
    rw [pushL_room hk j, c.nd.count, c.nd.count]
    by_cases h1 : j ∈ ks <;> by_cases h2 : tw j ∈ ks <;> simp [h1, h2]
  refine ⟨?_, hlf⟩
  exact
  { n1 := hG.n1
    ll := by rw [ha.ll]; exact hG.ll
    lo := by rw [ha.outs]; exact hG.lo
    le := by rw [ha.le]; exact hG.le
    ev := by rw [ha.le]; exact hG.ev
    «to» := fun k hk => by rw [ha.to]; rw [ha.le] at hk; exact hG.to k hk
    ne := fun k hk => by rw [ha.toA, ha.frA]; rw [ha.le] at hk; exact hG.ne k hk
    co := fun k hk => by rw [ha.cost, ha.cost]; rw [ha.le] at hk; exact hG.co k hk
    cb := fun k hk => by rw [ha.cost]; rw [ha.le] at hk; exact hG.cb k hk
    rm := fun k hk => by
      rw [ha.le] at hk
      have h1 := hG.rm k hk
      rw [hr k, hr (tw k), tw_tw]
      by_cases a : k ∈ ks
      · have := hx k a
        rw [if_pos a]
        split <;> omega
      · rw [if_neg a]
        split <;> omega
    lb := fun v hv => by rw [hlf v]; exact hG.lb v hv
    o1 := fun v hv y hy => by
      rw [ha.outs] at hy
      rw [ha.le, ha.frA]
      exact hG.o1 v hv y hy
    o2 := fun k hk => by
      rw [ha.le] at hk
      rw [ha.outs, ha.frA]
      exact hG.o2 k hk
    o3 := fun v hv => by rw [ha.outs]; exact hG.o3 v hv }
end Dp
end Go.Proofs.Ytmebpglkeedaoaa
namespace Go.Proofs.Ytmebpglkeedaoaa
open Go.RowKit Dp
namespace Dp
def rsK (l : List Int) (k : Nat) : Int := dotN (fun _ => 1) (fun v => max 0 (l.getD v 0)) k
theorem rsK_succ (l : List Int) (k : Nat) : rsK l (k + 1) = rsK l k + max 0 (l.getD k 0) := by simp only [rsK, dotN]; omega
theorem rsK_all (l : List Int) : rsK l l.length = restV l := (rest_dot l).symm
theorem rsK_bd {l : List Int} {b : Int} (hb : 0 ≤ b) : ∀ k, (∀ v, v < k → l.getD v 0 ≤ b) → 0 ≤ rsK l k ∧ rsK l k ≤ b * (k : Int)
  | 0, _ => by show 0 ≤ (0 : Int) ∧ (0 : Int) ≤ b * ((0 : Nat) : Int); simp
  | k + 1, h => by
    have ih := rsK_bd hb k (fun v hv => h v (by omega))
    have h1 := h k (by omega)
    rw [rsK_succ, show ((k + 1 : Nat) : Int) = (k : Int) + 1 by omega, Int.mul_add]
    omega
end Dp
open Dp
def LackP (N : Net) (n : Nat) (e : Ending) : Prop := ∃ R : Int, e = .returned (.int .i64 R) ∧ (∀ c, (∀ k, k < c.length → cutAt N.sup.length c k = true) → lkA N c N.arcs.length ≤ R) ∧ ∃ c, (∀ k, k < c.length → cutAt N.sup.length c k = true) ∧ lkA N c N.arcs.length = R
set_option maxHeartbeats 4000000 in
set_option maxRecDepth 100000 in
theorem Lacking_c (A B : Option Addr) (N : Net) (n m cA cB : Nat) (w : World) (hn : n = N.sup.length) (hm : m = N.arcs.length) (hch : chE N = 0)
    (hA : n ≤ cA ∧ cA ≤ 9223372036854775807) (hB : m ≤ cB ∧ cB ≤ 9223372036854775807) (hN : NetAt w A B N) :
    Calls Try.prog 29 #[.agg #[.slice A n cA, .slice B m cB]] w fun e w' => LackP N n e ∧ Below w.heap.size w w' := by
  have hnn : 1 ≤ n ∧ n ≤ 1024 ∧ m ≤ 2048 := by have h := net_len hch; rw [← hn, ← hm] at h; exact h
  have X0 := Lib.hid (Blk.new' w #[.slice A n cA, .slice B m cB] 25)
  have B0 := Lib.hid ((Below.refl w.heap.size w).alloc (Nat.le_refl _) (.cells #[.slice A n cA, .slice B m cB] 25))
  have FA : Hid (Calls Try.prog 66 #[.agg #[.slice A n cA, .slice B m cB]] (w.alloc (.cells #[.slice A n cA, .slice B m cB] 25)) fun e w' => AnyP N n m (w.alloc (.cells #[.slice A n cA, .slice B m cB] 25)) e w' ∧ Below (w.alloc (.cells #[.slice A n cA, .slice B m cB] 25)).heap.size (w.alloc (.cells #[.slice A n cA, .slice B m cB] 25)) w') := Lib.hid (Any_c A B N n m cA cB _ hn hm hch hA hB (hN.below B0.out (Nat.le_refl _)))
  have HRS : Hid (∀ (G : Gr) (fa wi : List Int), G.Ok n → Fits (zcN N) G → NR G n [] fa wi (-1) → ((∀ c, (∀ k, k < c.length → cutAt N.sup.length c k = true) → lkA N c N.arcs.length ≤ restV G.left) ∧ ∃ c, (∀ k, k < c.length → cutAt N.sup.length c k = true) ∧ lkA N c N.arcs.length = restV G.left)) := Lib.hid (fun G fa wi h1 h2 h3 => by
    rw [show n = (zcN N).sup.length from hn] at h1 h3
    have hz : chE (zcN N) = 0 := by rw [fr_ch]; exact hch
    refine ⟨fun c hc => ?_, ?_⟩
    · have h := rest_max (N := zcN N) (c := c) hz h1 h2 hc
      rw [fr_len, fr_lkA _ (Nat.le_refl _)] at h
      exact h
    · have h := end_cut hz h1 h2 h3
      rw [fr_len, fr_lkA _ (Nat.le_refl _)] at h
      exact ⟨_, cutL_ok, h⟩)
  clear hn hm hch hN
  go_enter Try.func29, Try.ntmps29
  go_upto_region 1 with fail
  generalize w.alloc (.cells #[.slice A n cA, .slice B m cB] 25) = w1 at X0 B0 FA ⊢
  have x0 := X0.out.cell 0 rfl
  have x1 := X0.out.cell 1 rfl
  have xl := X0.out.lt
  go_wp2_with fail
  refine FA.out.mono ?_
  rintro e w2 ⟨⟨G, gF, gL, cL, fa, wi, rfl, hG, hf, hnr, hF, hL, _, _, hcL⟩, hb⟩
  have HR := Lib.hid (HRS.out G fa wi hG hf hnr)
  have HB2 := Lib.hid (B0.out.trans (hb.mono B0.out.size))
  have HL := Lib.hid hL
  have HLN := Lib.hid hG.ll
  have HLB := Lib.hid hG.lb
  clear hG hf hnr hF hL hb x0 x1 xl X0 B0 FA HRS
  have HBD : Hid (∀ k, k ≤ n → 0 ≤ rsK G.left k ∧ rsK G.left k ≤ 8589934592 * (k : Int)) := Lib.hid (fun k hk => rsK_bd (by decide) k (fun v hv => (HLB.out v (by omega)).2))
  go_wp2_with fail
  go_loopw [5, 6] (fun sv iv wr => ∃ j : Nat, j ≤ n ∧ iv = .int .i64 j ∧ sv = .int .i64 (rsK G.left j) ∧ Hid (Below w2.heap.size w2 wr)) (fun _ iv _ => n - (intOf iv).toNat)
  case atStart => exact ⟨0, Nat.zero_le _, rfl, rfl, Lib.hid (Below.refl _ _)⟩
  case round =>
    obtain ⟨j, hj, rfl, rfl, HJ⟩ := hrel
    by_cases hjn : j < n
    · have hji : (j : Int) < (n : Int) := by omega
      have h1 := HBD.out j hj
      have h2 := HLB.out j hjn
      have c0 := (HL.out.below HJ.out).cell j (by rw [HLN.out]; exact hjn)
      have cl := (HL.out.below HJ.out).lt.2
      have HS := Lib.hid (rsK_succ G.left j)
      have e2 : G.lf j = G.left.getD j 0 := rfl
      rw [e2] at h2
      generalize hS1 : rsK G.left (j + 1) = S1 at *
      have HS1 := Lib.hid hS1
      clear hS1 e2
      generalize rsK G.left j = S at *
      generalize G.left.getD j 0 = v at *
      have h3 : 0 ≤ S ∧ S ≤ 8796093022208 := by omega
      clear h1
      by_cases hv : 0 < v
      · have HE : Hid (S1 = S + v) := Lib.hid (by rw [HS.out]; omega)
        go_wp2_with fail
        exact ⟨⟨j + 1, by omega, by go_num, by rw [HS1.out, HE.out], HJ⟩, by simp [intOf]; omega⟩
      · have HE : Hid (S1 = S) := Lib.hid (by rw [HS.out]; omega)
        have hv2 : v ≤ 0 := by omega
        go_wp2_with fail
        exact ⟨⟨j + 1, by omega, by go_num, by rw [HS1.out, HE.out], HJ⟩, by simp [intOf]; omega⟩
    · obtain rfl : n = j := by omega
      have HEE : Hid (rsK G.left n = restV G.left) := Lib.hid (by have h := rsK_all G.left; rw [HLN.out] at h; exact h)
      go_wp2_with fail
      go_ret
      exact ⟨⟨restV G.left, ret_int HEE.out, HR.out⟩, HB2.out.trans (HJ.out.mono HB2.out.size)⟩
set_option maxHeartbeats 4000000 in
set_option maxRecDepth 100000 in
theorem before_c (A B : Option Addr) (N : Net) (G : Gr) (m n cA cB k : Nat) (w : World) (hm : m = N.arcs.length) (hch : chE N = 0) (hf : FitF N G) (hk : k < 2 * m)
    (hB : m ≤ cB ∧ cB ≤ 9223372036854775807) (hN : NetAt w A B N) :
    Calls Try.prog 100 #[.agg #[.slice A n cA, .slice B m cB], .agg #[.int .i64 ((k / 2 : Nat) : Int), .bool (decide (k % 2 = 1))]] w fun e w' => e = .returned (.int .i64 (G.frA k : Nat)) ∧ Below w.heap.size w w' := by
  have m2 : m ≤ 2048 := by rw [hm]; exact (net_len hch).2.2
  have hi : k / 2 < m := by omega
  have HFR := Lib.hid (hf.fr (k / 2) (by rw [← hm]; exact hi))
  have hm2 : k % 2 = 0 ∨ k % 2 = 1 := by omega
  have hke : k = 2 * (k / 2) + k % 2 := by omega
  have HKR : Hid (G.frA k = if k % 2 = 1 then toN N (k / 2) else frN N (k / 2)) := Lib.hid (by
    rcases hm2 with e | e
    · rw [if_neg (by omega), hke, e, show (2 * (k / 2) + 0) / 2 = k / 2 by omega]; exact HFR.out.1
    · rw [if_pos e, hke, e, show (2 * (k / 2) + 1) / 2 = k / 2 by omega]; exact HFR.out.2)
  clear HFR hke
  have hpb := ref_ar hm hch hN
  clear hm hch hf hN hk
  generalize G.frA k = x at *
  generalize k / 2 = i at *
  obtain ⟨pb, rfl, _⟩ := hpb w (Below.refl _ _) i hi
  have HPB := Lib.hid hpb
  clear hpb
  have hii : (i : Int) < (m : Int) := by omega
  have key : ∀ bk : Bool, decide (k % 2 = 1) = bk → x = (if bk = true then toN N i else frN N i) → Calls Try.prog 100 #[.agg #[.slice A n cA, .slice (some pb) m cB], .agg #[.int .i64 (i : Int), .bool bk]] w fun e w' => e = .returned (.int .i64 (x : Nat)) ∧ Below w.heap.size w w' := by
    intro bk _ hx
    have HX := Lib.hid hx
    clear hx HKR
    have HB := Lib.hid (((Below.refl w.heap.size w).alloc (Nat.le_refl _) (.cells #[.slice A n cA, .slice (some pb) m cB] 25)).alloc (by simp) (.cells #[.int .i64 (i : Int), .bool bk] 150))
    have XN := Lib.hid ((Blk.new' w #[.slice A n cA, .slice (some pb) m cB] 25).alloc (.cells #[.int .i64 (i : Int), .bool bk] 150))
    have XS := Lib.hid (show Blk ((w.alloc (.cells #[.slice A n cA, .slice (some pb) m cB] 25)).alloc (.cells #[.int .i64 (i : Int), .bool bk] 150)) (w.heap.size + 1) 150 [.int .i64 (i : Int), .bool bk] from by simpa using Blk.new' (w.alloc (.cells #[.slice A n cA, .slice (some pb) m cB] 25)) #[.int .i64 (i : Int), .bool bk] 150)
    go_enter Try.func100, Try.ntmps100
    go_upto_region 1 with fail
    generalize (w.alloc (.cells #[.slice A n cA, .slice (some pb) m cB] 25)).alloc (.cells #[.int .i64 (i : Int), .bool bk] 150) = w1 at HB XN XS ⊢
    obtain ⟨pb2, epb, ab, a0, a1, _, _⟩ := HPB.out _ HB.out i hi
    cases epb
    have x0 := XN.out.cell 0 rfl
    have x1 := XN.out.cell 1 rfl
    have xl := XN.out.lt
    have y0 := XS.out.cell 0 rfl
    have y1 := XS.out.cell 1 rfl
    have yl := XS.out.lt
    cases bk with
    | false =>
      have HR : Hid (frN N i = x) := Lib.hid (by have := HX.out; simpa using this.symm)
      go_wp2_with fail
      go_ret
      exact ⟨ret_int (by rw [HR.out]), HB.out⟩
    | true =>
      have HR : Hid (toN N i = x) := Lib.hid (by have := HX.out; simpa using this.symm)
      go_wp2_with fail
      go_ret
      exact ⟨ret_int (by rw [HR.out]), HB.out⟩
  exact key _ rfl (by rw [HKR.out]; simp only [decide_eq_true_eq])
end Go.Proofs.Ytmebpglkeedaoaa
namespace Go.Proofs.Ytmebpglkeedaoaa
open Go.RowKit Dp
theorem stK_getD (vi : List Nat) (v : Nat) (hv : v < vi.length) : (vi.map stK).getD v (0, false) = stK (vi.getD v 0) := by
  rw [List.getD_eq_getElem?_getD, List.getElem?_map, List.getD_eq_getElem?_getD, List.getElem?_eq_getElem hv]; rfl
section
variable {W V : World} {gd gc ga : Nat} {d : List Int} {vi : List Nat} {cv av : List Value} {w : World}
structure CyM (w : World) (gd gc : Nat) (cv : List Value) (d : List Int) (vi : List Nat) (W : World) : Prop where
  d : Fl 2 W gd d
  c : Blk W gc 150 (flat stC (vi.map stK))
  x : Blk W w.heap.size 25 cv
  gd : w.heap.size ≤ gd
  gc : w.heap.size ≤ gc
  bel : Below w.heap.size w W
theorem CyM.below (h : CyM w gd gc cv d vi W) (hb : Below W.heap.size W V) : CyM w gd gc cv d vi V :=
  ⟨h.d.below hb, h.c.below hb h.c.lt, h.x.below hb h.x.lt, h.gd, h.gc, h.bel.trans (hb.mono h.bel.size)⟩
theorem CyM.cell (h : CyM w gd gc cv d vi W) {v : Nat} (hv : v < vi.length) : W.cell? ⟨gc, v * 2, none⟩ = some (.int .i64 (stK (vi.getD v 0)).1) ∧ W.cell? ⟨gc, v * 2 + 1, none⟩ = some (.bool (stK (vi.getD v 0)).2) := by
  have hg := getElem_D (vi.map stK) v (0, false) (by rw [List.length_map]; exact hv)
  rw [stK_getD vi v hv] at hg
  exact ⟨h.c.cell (v * 2) (flat_get (f := stC) (s := 2) stC_len _ v 0 _ hg (by omega)), h.c.cell (v * 2 + 1) (flat_get (f := stC) (s := 2) stC_len _ v 1 _ hg (by omega))⟩
theorem CyM.put (h : CyM w gd gc cv d vi W) (v : Nat) (x : Int) : CyM w gd gc cv (d.set v x) vi (W.setCell ⟨gd, v, none⟩ (.int .i64 x)) :=
  ⟨h.d.put v x, h.c.setCell_ne (p := ⟨gd, v, none⟩) (fun e => blk_type_ne h.c h.d (by decide) e.symm) _, h.x.setCell_ne (p := ⟨gd, v, none⟩) (fun e => blk_type_ne h.x h.d (by decide) e.symm) _, h.gd, h.gc, h.bel.setCell (p := ⟨gd, v, none⟩) h.gd _⟩
theorem CyM.come (h : CyM w gd gc cv d vi W) {v : Nat} (hv : v < vi.length) (k : Nat) : CyM w gd gc cv d (vi.set v k) ((W.setCell ⟨gc, v * 2, none⟩ (.int .i64 (stK k).1)).setCell ⟨gc, v * 2 + 1, none⟩ (.bool (stK k).2)) := by
  have hv2 : v < (vi.map stK).length := by rw [List.length_map]; exact hv
  have hg := getElem_D (vi.map stK) v (0, false) hv2
  have e1 := flat_set (f := stC) (s := 2) stC_len 0 (.int .i64 (stK k).1) (by omega) (vi.map stK) v ((stK k).1, ((vi.map stK).getD v (0, false)).2) _ hg rfl
  have hg2 : ((vi.map stK).set v ((stK k).1, ((vi.map stK).getD v (0, false)).2))[v]? = some ((stK k).1, ((vi.map stK).getD v (0, false)).2) := List.getElem?_set_self hv2
  have e2 := flat_set (f := stC) (s := 2) stC_len 1 (.bool (stK k).2) (by omega) ((vi.map stK).set v ((stK k).1, ((vi.map stK).getD v (0, false)).2)) v (stK k) _ hg2 rfl
  rw [List.set_set] at e2
  have hc := (h.c.setCell (v * 2) (.int .i64 (stK k).1)).setCell (v * 2 + 1) (.bool (stK k).2)
  rw [Nat.add_zero] at e1
  rw [e1, e2, ← List.map_set] at hc
  exact ⟨(h.d.set_ne (p := ⟨gc, v * 2, none⟩) (fun e => blk_type_ne h.d h.c (by decide) e.symm) _).set_ne (p := ⟨gc, v * 2 + 1, none⟩) (fun e => blk_type_ne h.d h.c (by decide) e.symm) _, hc,
    (h.x.setCell_ne (p := ⟨gc, v * 2, none⟩) (fun e => blk_type_ne h.x h.c (by decide) e.symm) _).setCell_ne (p := ⟨gc, v * 2 + 1, none⟩) (fun e => blk_type_ne h.x h.c (by decide) e.symm) _, h.gd, h.gc, (h.bel.setCell (p := ⟨gc, v * 2, none⟩) h.gc _).setCell (p := ⟨gc, v * 2 + 1, none⟩) h.gc _⟩
structure CyX (w : World) (gd gc : Nat) (cv : List Value) (d : List Int) (vi : List Nat) (ga : Nat) (av : List Value) (W : World) : Prop where
  m : CyM w gd gc cv d vi W
  y : Blk W ga 46 av
theorem CyX.below (h : CyX w gd gc cv d vi ga av W) (hb : Below W.heap.size W V) : CyX w gd gc cv d vi ga av V := ⟨h.m.below hb, h.y.below hb h.y.lt⟩
theorem CyX.put (h : CyX w gd gc cv d vi ga av W) (v : Nat) (x : Int) : CyX w gd gc cv (d.set v x) vi ga av (W.setCell ⟨gd, v, none⟩ (.int .i64 x)) :=
  ⟨h.m.put v x, h.y.setCell_ne (p := ⟨gd, v, none⟩) (fun e => blk_type_ne h.y h.m.d (by decide) e.symm) _⟩
theorem CyX.come (h : CyX w gd gc cv d vi ga av W) {v : Nat} (hv : v < vi.length) (k : Nat) : CyX w gd gc cv d (vi.set v k) ga av ((W.setCell ⟨gc, v * 2, none⟩ (.int .i64 (stK k).1)).setCell ⟨gc, v * 2 + 1, none⟩ (.bool (stK k).2)) :=
  ⟨h.m.come hv k, (h.y.setCell_ne (p := ⟨gc, v * 2, none⟩) (fun e => blk_type_ne h.y h.m.c (by decide) e.symm) _).setCell_ne (p := ⟨gc, v * 2 + 1, none⟩) (fun e => blk_type_ne h.y h.m.c (by decide) e.symm) _⟩
end
namespace Dp
section
variable {G : Gr} {n r now : Nat} {d : List Int} {vi : List Nat} {L T : Nat → Nat}
theorem BcI.go1 {i fr tn : Nat} {co : Int} (hG : G.Ok n) (h : BcI G n r (2 * i) d vi L T now) (he : 2 * i < G.es.length) (h1 : G.toA (2 * i) = tn) (h2 : G.frA (2 * i) = fr) (h3 : G.cost (2 * i) = co) (hr : 0 < G.room (2 * i)) (hd : d.getD fr 0 + co < d.getD tn 0) :
    BcI G n r (2 * i + 1) (d.set tn (d.getD fr 0 + co)) (vi.set tn (2 * i)) (upf L tn (r + 1)) (upf T tn (now + 1)) (now + 1) := by
  subst h1 h2 h3
  exact h.yes hG he hr hd
theorem BcI.go2 {i fr tn : Nat} {co : Int} (hG : G.Ok n) (h : BcI G n r (2 * i + 1) d vi L T now) (he : 2 * i + 1 < G.es.length) (h1 : G.toA (2 * i + 1) = fr) (h2 : G.frA (2 * i + 1) = tn) (h3 : G.cost (2 * i + 1) = -co) (hr : 0 < G.room (2 * i + 1)) (hd : d.getD tn 0 - co < d.getD fr 0) :
    BcI G n r (2 * (i + 1)) (d.set fr (d.getD tn 0 - co)) (vi.set fr (2 * i + 1)) (upf L fr (r + 1)) (upf T fr (now + 1)) (now + 1) := by
  subst h1 h2
  have h4 := h.yes hG he hr (by rw [h3]; omega)
  rw [h3, show d.getD (G.frA (2 * i + 1)) 0 + -co = d.getD (G.frA (2 * i + 1)) 0 - co by omega] at h4
  exact h4
theorem BcI.bd {e : Nat} (h : BcI G n r e d vi L T now) (hr : r ≤ 1024) (hes : G.es.length ≤ 4096) (he : e ≤ 4096) : ∀ v, v < n → -4402341478400 ≤ d.getD v 0 ∧ d.getD v 0 ≤ 0 := fun v hv => by
  have h1 := h.lo v hv
  have h2 := h.hi v hv
  have h3 := Nat.mul_le_mul hr hes
  omega
end
end Dp
def CycleP (G : Gr) (n : Nat) (w : World) (e : Ending) (w' : World) : Prop :=
  (∃ (gd : Nat) (d : List Int), e = .returned (.tuple #[.slice none 0 0, .slice (some ⟨gd, 0, none⟩) n n]) ∧ ∀ k, k < G.es.length → 0 < G.room k → 0 ≤ G.rc d k) ∨
  (∃ (g c nk : Nat) (ks : List Nat), e = .returned (.tuple #[.slice (some ⟨g, 0, none⟩) nk c, .slice none 0 0]) ∧ nk = ks.length ∧ OwnR stC 150 2 w.heap.size w' (some ⟨g, 0, none⟩) c (ks.reverse.map stK) ∧ Cyc G n ks)
end Go.Proofs.Ytmebpglkeedaoaa
namespace Go.Proofs.Ytmebpglkeedaoaa
open Go.RowKit Dp
set_option maxHeartbeats 16000000 in
set_option maxRecDepth 100000 in
theorem cycle_c (A B F : Option Addr) (N : Net) (G : Gr) (n m cA cB cF : Nat) (w : World) (hn : n = N.sup.length) (hm : m = N.arcs.length) (hch : chE N = 0) (hG : G.Ok n) (hf : Fits N G)
    (hA : n ≤ cA ∧ cA ≤ 9223372036854775807) (hB : m ≤ cB ∧ cB ≤ 9223372036854775807) (hF : m ≤ cF ∧ cF ≤ 9223372036854775807) (hN : NetAt w A B N) (hFl : IntsAt w F (flowL N G)) :
    Calls Try.prog 67 #[.agg #[.slice A n cA, .slice B m cB], .slice F m cF] w fun e w' => CycleP G n w e w' ∧ Below w.heap.size w w' := by
  have n1 : 1 ≤ n ∧ n ≤ 1024 := hG.n1
  have m2 : m ≤ 2048 := by rw [hm]; exact (net_len hch).2.2
  have HG := Lib.hid hG
  have HES : Hid (G.es.length = 2 * m) := Lib.hid (by rw [hf.es, hm])
  have HAR := Lib.hid (ref_ar hm hch hN)
  have HFL := Lib.hid (ref_fl hm hFl)
  have HTA : Hid (∀ i, i < m → ((G.toA (2 * i) = toN N i ∧ G.toA (2 * i + 1) = frN N i) ∧ G.frA (2 * i) = frN N i ∧ G.frA (2 * i + 1) = toN N i) ∧ (G.cost (2 * i) = (N.arcs.getD i default).cost ∧ G.cost (2 * i + 1) = -(N.arcs.getD i default).cost) ∧ G.room (2 * i) + G.room (2 * i + 1) = (N.arcs.getD i default).cap ∧ (-1048576 ≤ (N.arcs.getD i default).cost ∧ (N.arcs.getD i default).cost ≤ 1048576) ∧ frN N i < n ∧ toN N i < n) := Lib.hid (fun i hi => by
    have hi2 : i < N.arcs.length := by rw [← hm]; exact hi
    have he := net_ends hch i hi2
    exact ⟨⟨hf.t0 i hi2, hf.fr i hi2⟩, hf.c0 i hi2, hf.r0 i hi2, (net_arc hch i hi2).2.2.2.2, by rw [hn]; exact he.2.2.1, by rw [hn]; exact he.2.2.2⟩)
  have BC : Hid (∀ V, Below w.heap.size w V → ∀ k, k < 2 * m → Calls Try.prog 100 #[.agg #[.slice A n cA, .slice B m cB], .agg #[.int .i64 ((k / 2 : Nat) : Int), .bool (decide (k % 2 = 1))]] V fun e w' => e = .returned (.int .i64 (G.frA k : Nat)) ∧ Below V.heap.size V w') := Lib.hid (fun V hV k hk => before_c A B N G m n cA cB k V hm hch hf.f hk hB (hN.below hV (Nat.le_refl _)))
  clear hn hm hch hG hf hN hFl
  have hmk1 := make_64 n (by omega)
  have hmk2 := make_steps n (by omega)
  obtain ⟨i150, h15i, h15z, h15s, h15b⟩ := info_parts info150
  have M0 : Hid (CyM w (w.heap.size + 1) (w.heap.size + 1 + 1) [.slice A n cA, .slice B m cB] (List.replicate n 0) (List.replicate n 0) (((w.alloc (.cells #[.slice A n cA, .slice B m cB] 25)).alloc (.cells (Array.replicate n (.int .i64 0)) 2)).alloc (.cells (flat stC (List.replicate n ((0 : Int), false))).toArray 150))) := Lib.hid (by
    have x1 := Blk.new' w #[.slice A n cA, .slice B m cB] 25
    have x2 := Blk.new' (w.alloc (.cells #[.slice A n cA, .slice B m cB] 25)) (Array.replicate n (.int .i64 0)) 2
    have x3 := Blk.new' ((w.alloc (.cells #[.slice A n cA, .slice B m cB] 25)).alloc (.cells (Array.replicate n (.int .i64 0)) 2)) (flat stC (List.replicate n ((0 : Int), false))).toArray 150
    refine ⟨?_, ?_, (x1.alloc _).alloc _, by omega, by omega, (((Below.refl w.heap.size w).alloc (Nat.le_refl _) _).alloc (by simp) _).alloc (by simp; omega) _⟩
    · unfold Fl; simpa using x2.alloc (.cells (flat stC (List.replicate n ((0 : Int), false))).toArray 150)
    · rw [List.map_replicate, show stK 0 = ((0 : Int), false) from rfl]; simpa using x3)
  have xc0 := Lib.hid (Blk.new' w #[.slice A n cA, .slice B m cB] 25)
  go_enter Try.func67, Try.ntmps67
  go_upto_region 1 with fail
  have y0 := xc0.out.cell 0 rfl
  have yl := xc0.out.lt
  go_upto_region 4 with fail
  clear y0 yl xc0
  generalize ((w.alloc (.cells #[.slice A n cA, .slice B m cB] 25)).alloc (.cells (Array.replicate n (.int .i64 0)) 2)).alloc (.cells (flat stC (List.replicate n ((0 : Int), false))).toArray 150) = w1 at M0 ⊢
  obtain ⟨gd, hgd⟩ : ∃ g, g = w.heap.size + 1 := ⟨_, rfl⟩
  rw [← hgd] at M0 ⊢
  obtain ⟨gc, hgc⟩ : ∃ g, g = gd + 1 := ⟨_, rfl⟩
  rw [← hgc] at M0 ⊢
  clear hgc hgd
  go_wp2_with fail
  go_loopg [9, 10] (n + 1) (fun q lv rv wr => ∃ (r : Nat) (lx : Int), r + q = n + 1 ∧ lv = .int .i64 lx ∧ rv = .int .i64 r ∧ Hid (∃ (d : List Int) (vi : List Nat) (L T : Nat → Nat) (now : Nat), BcI G n r 0 d vi L T now ∧ (∀ v, v < n → L v ≤ r) ∧ (r = 0 ∨ ∃ v : Nat, v < n ∧ lx = (v : Int) ∧ L v = r) ∧ CyM w gd gc [.slice A n cA, .slice B m cB] d vi wr))
  case atStart => exact ⟨0, -1, by omega, rfl, rfl, Lib.hid ⟨_, _, _, _, _, BcI.start G n, fun v _ => Nat.le_refl _, .inl rfl, M0.out⟩⟩
  case round =>
    clear M0
    obtain ⟨r, lx, hrq, rfl, rfl, HJ⟩ := hrel
    obtain ⟨d, vi, L, T, now, hbc, hlr, hlx, hm⟩ := HJ.out
    have HB1 := Lib.hid hbc
    have HLR := Lib.hid hlr
    have HLX := Lib.hid hlx
    have M1 := Lib.hid hm
    clear HJ hbc hlr hlx hm
    obtain ⟨go, rfl⟩ : ∃ g, g = gk := ⟨_, rfl⟩
    by_cases hrn : r ≤ n
    · have hri : (r : Int) ≤ (n : Int) := by omega
      clear HLX
      go_upto_region 10 with fail
      go_loopg [9, 11] m (fun q lv iv wr => ∃ (i : Nat) (lx : Int), i + q = m ∧ lv = .int .i64 lx ∧ iv = .int .i64 i ∧ Hid (∃ (d : List Int) (vi : List Nat) (L T : Nat → Nat) (now : Nat), BcI G n r (2 * i) d vi L T now ∧ LaI n r L lx ∧ CyM w gd gc [.slice A n cA, .slice B m cB] d vi wr))
      case atStart => exact ⟨0, -1, by omega, rfl, rfl, Lib.hid ⟨_, _, _, _, _, HB1.out, .inl ⟨rfl, HLR.out⟩, M1.out⟩⟩
      case round =>
        clear HB1 HLR M1
        obtain ⟨i, lx, hiq, rfl, rfl, HJ⟩ := hrel
        obtain ⟨d, vi, L, T, now, hbc, hla, hm⟩ := HJ.out
        have HB1 := Lib.hid hbc
        have HLA := Lib.hid hla
        have M1 := Lib.hid hm
        clear HJ hbc hla hm
        by_cases hin : i < m
        · have hii : (i : Int) < (m : Int) := by omega
          obtain ⟨⟨⟨t1, t2⟩, t3, t4⟩, ⟨q1, q2⟩, hR, hco, hfn, htn⟩ := HTA.out i hin
          have hes : 2 * i + 1 < G.es.length := by have := HES.out; omega
          obtain ⟨pb, rfl, ab, a0, a1, a2, a3⟩ := HAR.out _ M1.out.bel i hin
          obtain ⟨pf, rfl, fb, f0⟩ := HFL.out _ M1.out.bel i hin
          have x0 := M1.out.x.cell 1 rfl
          have xl := M1.out.x.lt
          generalize toN N i = tn at *
          generalize frN N i = fr at *
          generalize (N.arcs.getD i default).cap = ca at *
          generalize (N.arcs.getD i default).cost = co at *
          obtain ⟨f, hf⟩ : ∃ f, f = G.room (2 * i + 1) := ⟨_, rfl⟩
          rw [← hf] at hR f0
          have HF := Lib.hid hf
          have HRE : Hid (G.room (2 * i) = ca - f) := Lib.hid (by omega)
          clear hf
          have HT1 := Lib.hid t1
          have HT2 := Lib.hid t2
          have HT3 := Lib.hid t3
          have HT4 := Lib.hid t4
          have HQ1 := Lib.hid q1
          have HQ2 := Lib.hid q2
          have HES2 := Lib.hid hes
          have HESB : Hid (G.es.length ≤ 4096) := Lib.hid HG.out.le
          clear t1 t2 t3 t4 q1 q2 hes hR
          have X1 := Lib.hid (show CyX w gd gc [.slice A n cA, .slice (some pb) m cB] d vi wr.heap.size [.int .i64 fr, .int .i64 tn, .int .i64 ca, .int .i64 co] (wr.alloc (.cells #[.int .i64 fr, .int .i64 tn, .int .i64 ca, .int .i64 co] 46)) from ⟨M1.out.below ((Below.refl _ _).alloc (Nat.le_refl _) _), Blk.new' wr #[.int .i64 fr, .int .i64 tn, .int .i64 ca, .int .i64 co] 46⟩)
          have f1 : Hid ((wr.alloc (.cells #[.int .i64 fr, .int .i64 tn, .int .i64 ca, .int .i64 co] 46)).cell? (pf.add i) = some (.int .i64 f) ∧ (pf.add i).block < (wr.alloc (.cells #[.int .i64 fr, .int .i64 tn, .int .i64 ca, .int .i64 co] 46)).heap.size) := Lib.hid (by obtain ⟨pf2, e, h1, h2⟩ := HFL.out _ X1.out.m.bel i hin; cases e; rw [← HF.out] at h2; exact ⟨h2, h1⟩)
          clear M1
          go_upto_region 13 with fail
          clear a0 a1 a2 a3 ab f0 fb x0 xl
          generalize wr.alloc (.cells #[.int .i64 fr, .int .i64 tn, .int .i64 ca, .int .i64 co] 46) = w1 at X1 f1 ⊢
          generalize wr.heap.size = ga at X1 ⊢
          have HBD := Lib.hid (HB1.out.bd (by omega) HESB.out (by omega))
          have HDL := Lib.hid HB1.out.dl
          have HVL := Lib.hid HB1.out.vl
          have b1 := HBD.out fr hfn
          have b2 := HBD.out tn htn
          obtain ⟨ds, hds⟩ : ∃ x, x = d.getD fr 0 := ⟨_, rfl⟩
          obtain ⟨dt, hdt⟩ : ∃ x, x = d.getD tn 0 := ⟨_, rfl⟩
          rw [← hds] at b1
          rw [← hdt] at b2
          have HDS := Lib.hid hds
          have HDT := Lib.hid hdt
          clear hds hdt
          have y0 := X1.out.y.cell 0 rfl
          have y1 := X1.out.y.cell 1 rfl
          have y2 := X1.out.y.cell 2 rfl
          have y3 := X1.out.y.cell 3 rfl
          have yl := X1.out.y.lt
          have fc := f1.out.1
          have fl := f1.out.2
          have sc : w1.cell? ⟨gd, fr, none⟩ = some (.int .i64 ds) := by rw [HDS.out]; exact X1.out.m.d.cell fr (by rw [HDL.out]; exact hfn)
          have tc : w1.cell? ⟨gd, tn, none⟩ = some (.int .i64 dt) := by rw [HDT.out]; exact X1.out.m.d.cell tn (by rw [HDL.out]; exact htn)
          have sl := X1.out.m.d.lt
          go_cut [62] from 35 to 123 (fun bv wc => ∃ b : Bool, bv = .bool b ∧ Hid (CyX w gd gc [.slice A n cA, .slice (some pb) m cB] d vi ga [.int .i64 fr, .int .i64 tn, .int .i64 ca, .int .i64 co] wc ∧ (b = true → f < ca ∧ ds + co < dt) ∧ (b = false → ¬ (f < ca ∧ ds + co < dt))))
          case first =>
            by_cases hfc : f < ca
            · have d2 : decide (f < ca) = true := decide_eq_true hfc
              by_cases hd : ds + co < dt
              · have d3 : decide (ds + co < dt) = true := decide_eq_true hd
                have HP : Hid (f < ca ∧ ds + co < dt) := Lib.hid (⟨hfc, hd⟩)
                refine wp_region_past (by kernel_rfl) (by kernel_rfl) ?_
                repeat (go_big_quiet_step (fail))
                refine wpQuiet_nil ?_
                intro xx
                have X2 := Lib.hid (X1.out.below xx.far)
                generalize xx.w = w2 at X2 ⊢
                clear y0 y1 y2 y3 yl fc fl sc tc sl X1 f1
                go_wp2_with fail
                go_meet
                case rel => exact ⟨true, rfl, Lib.hid ⟨X2.out, fun _ => HP.out, fun h => (by cases h)⟩⟩
              · have d3 : decide (ds + co < dt) = false := decide_eq_false hd
                have HP : Hid (¬ (f < ca ∧ ds + co < dt)) := Lib.hid (fun h => hd h.2)
                refine wp_region_past (by kernel_rfl) (by kernel_rfl) ?_
                repeat (go_big_quiet_step (fail))
                refine wpQuiet_nil ?_
                intro xx
                have X2 := Lib.hid (X1.out.below xx.far)
                generalize xx.w = w2 at X2 ⊢
                clear y0 y1 y2 y3 yl fc fl sc tc sl X1 f1
                go_wp2_with fail
                go_meet
                case rel => exact ⟨false, rfl, Lib.hid ⟨X2.out, fun h => (by cases h), fun _ => HP.out⟩⟩
            · have d2 : decide (f < ca) = false := decide_eq_false hfc
              have HP : Hid (¬ (f < ca ∧ ds + co < dt)) := Lib.hid (fun h => hfc h.1)
              refine wp_region_past (by kernel_rfl) (by kernel_rfl) ?_
              repeat (go_big_quiet_step (fail))
              refine wpQuiet_nil ?_
              intro xx
              have X2 := Lib.hid (X1.out.below xx.far)
              generalize xx.w = w2 at X2 ⊢
              clear y0 y1 y2 y3 yl fc fl sc tc sl X1 f1
              go_wp2_with fail
              go_meet
              case rel => exact ⟨false, rfl, Lib.hid ⟨X2.out, fun h => (by cases h), fun _ => HP.out⟩⟩
          case rest =>
            clear y0 y1 y2 y3 yl fc fl sc tc sl X1 f1
            obtain ⟨b, rfl, HJ⟩ := hcut
            have X2 := Lib.hid HJ.out.1
            have HBT := Lib.hid HJ.out.2.1
            have HBF := Lib.hid HJ.out.2.2
            clear HJ
            generalize wc = wd at X2 ⊢
            go_upto_if 62 with fail
            go_cut [9] from 35 to 123 (fun lv wc => ∃ lx : Int, lv = .int .i64 lx ∧ Hid (∃ (d : List Int) (vi : List Nat) (L T : Nat → Nat) (now : Nat), BcI G n r (2 * i + 1) d vi L T now ∧ LaI n r L lx ∧ CyX w gd gc [.slice A n cA, .slice (some pb) m cB] d vi ga [.int .i64 fr, .int .i64 tn, .int .i64 ca, .int .i64 co] wc))
            case first =>
              cases b with
              | false =>
                have HE : Hid (BcI G n r (2 * i + 1) d vi L T now) := Lib.hid (HB1.out.no (fun h1 h2 => by
                    have h3 := HBF.out rfl
                    rw [HRE.out] at h2
                    rw [HT1.out, HT3.out, HQ1.out, ← HDS.out, ← HDT.out]
                    have h4 : ¬ ds + co < dt := fun h4 => h3 ⟨by omega, h4⟩
                    omega))
                go_wp2_with fail
                go_meet
                case rel => exact ⟨lx, rfl, Lib.hid ⟨_, _, _, _, _, HE.out, HLA.out, X2.out⟩⟩
              | true =>
                have hc0 := HBT.out rfl
                have hc : f < ca ∧ d.getD fr 0 + co < d.getD tn 0 := by rw [← HDS.out, ← HDT.out]; exact hc0
                have HV := Lib.hid (BcI.go1 HG.out HB1.out (by have := HES2.out; omega) HT1.out HT3.out HQ1.out (by rw [HRE.out]; omega) hc.2)
                rw [← HDS.out] at HV
                clear hc hc0
                have y0 := X2.out.y.cell 0 rfl
                have y1 := X2.out.y.cell 1 rfl
                have y3 := X2.out.y.cell 3 rfl
                have yl := X2.out.y.lt
                have sc : wd.cell? ⟨gd, fr, none⟩ = some (.int .i64 ds) := by rw [HDS.out]; exact X2.out.m.d.cell fr (by rw [HDL.out]; exact hfn)
                have sl := X2.out.m.d.lt
                go_upto_region 14 with fail
                refine wp_region_head 12 ?af14 (by kernel_rfl) (by kernel_rfl) ?walk14 ?tail14
                case walk14 =>
                  intro V hV
                  have sc := (hV.cell (p := ⟨gd, fr, none⟩) sl).trans sc
                  have y0 := (hV.cell (p := ⟨ga, 0, none⟩) yl).trans y0
                  have y1 := (hV.cell (p := ⟨ga, 1, none⟩) yl).trans y1
                  have y3 := (hV.cell (p := ⟨ga, 3, none⟩) yl).trans y3
                  have sl := Nat.lt_of_lt_of_le sl hV.size
                  have yl := Nat.lt_of_lt_of_le yl hV.size
                  clear hV
                  simp only [List.take_succ_cons, List.take_zero]
                  repeat (go_big_quiet_step (fail))
                  refine wpQuiet_nil ?_
                  rfl
                case tail14 =>
                  intro w3 hb3
                  have X3 := Lib.hid (X2.out.below hb3)
                  clear hb3 y0 y1 y3 yl sc sl X2
                  have z0 := X3.out.m.d.free tn
                  have l0 := X3.out.m.d.lt
                  have tc : w3.cell? ⟨gd, tn, none⟩ = some (.int .i64 dt) := by rw [HDT.out]; exact X3.out.m.d.cell tn (by rw [HDL.out]; exact htn)
                  have X4 := Lib.hid (X3.out.put tn (ds + co))
                  simp only [List.drop_succ_cons, List.drop_zero]
                  go_upto_region 15 with fail
                  clear z0 l0 tc X3
                  generalize w3.setCell ⟨gd, tn, none⟩ (.int .i64 (ds + co)) = w4 at X4 ⊢
                  have y1 := X4.out.y.cell 1 rfl
                  have yl := X4.out.y.lt
                  obtain ⟨c1, c2⟩ := X4.out.m.cell (v := tn) (by rw [HVL.out]; exact htn)
                  have z1 := X4.out.m.c.free (tn * 2)
                  have z2 := X4.out.m.c.free (tn * 2 + 1)
                  have l1 := X4.out.m.c.lt
                  have X5 := Lib.hid (X4.out.come (v := tn) (by rw [HVL.out]; exact htn) (2 * i))
                  have es : stK (2 * i) = ((i : Int), false) := by rw [← dcS_k, ← dcS_even]
                  rw [es] at X5
                  clear es
                  go_upto_region 16 with fail
                  clear c1 c2 z1 z2 l1 X4 y1 yl
                  generalize (w4.setCell ⟨gc, tn * 2, none⟩ (.int .i64 i)).setCell ⟨gc, tn * 2 + 1, none⟩ (.bool false) = w5 at X5 ⊢
                  have y1 := X5.out.y.cell 1 rfl
                  have yl := X5.out.y.lt
                  have HE2 := Lib.hid (LaI.yes (r := r) (L := L) (n := n) tn htn)
                  clear HBT HBF HLA
                  go_wp2_with fail
                  go_meet
                  case rel => exact ⟨tn, rfl, Lib.hid ⟨_, _, _, _, _, HV.out, HE2.out, X5.out⟩⟩
            case rest =>
              clear HB1 HLA X2 HBT HBF HBD HDL HVL b1 b2 HDS HDT
              clear lx ds dt
              obtain ⟨lx, rfl, HJ⟩ := hcut
              obtain ⟨d, vi, L, T, now, hbc, hla, hm⟩ := HJ.out
              have HB1 := Lib.hid hbc
              have HLA := Lib.hid hla
              have M1 := Lib.hid hm
              clear HJ hbc hla hm
              have X1 := M1
              have f1 : Hid (wc.cell? (pf.add i) = some (.int .i64 f) ∧ (pf.add i).block < wc.heap.size) := Lib.hid (by obtain ⟨pf2, e, h1, h2⟩ := HFL.out _ X1.out.m.bel i hin; cases e; rw [← HF.out] at h2; exact ⟨h2, h1⟩)
              clear M1
              go_upto_region 17 with fail
              have HBD := Lib.hid (HB1.out.bd (by omega) HESB.out (by omega))
              have HDL := Lib.hid HB1.out.dl
              have HVL := Lib.hid HB1.out.vl
              have b1 := HBD.out tn htn
              have b2 := HBD.out fr hfn
              obtain ⟨ds, hds⟩ : ∃ x, x = d.getD tn 0 := ⟨_, rfl⟩
              obtain ⟨dt, hdt⟩ : ∃ x, x = d.getD fr 0 := ⟨_, rfl⟩
              rw [← hds] at b1
              rw [← hdt] at b2
              have HDS := Lib.hid hds
              have HDT := Lib.hid hdt
              clear hds hdt
              have y0 := X1.out.y.cell 0 rfl
              have y1 := X1.out.y.cell 1 rfl
              have y2 := X1.out.y.cell 2 rfl
              have y3 := X1.out.y.cell 3 rfl
              have yl := X1.out.y.lt
              have fc := f1.out.1
              have fl := f1.out.2
              have sc : wc.cell? ⟨gd, tn, none⟩ = some (.int .i64 ds) := by rw [HDS.out]; exact X1.out.m.d.cell tn (by rw [HDL.out]; exact htn)
              have tc : wc.cell? ⟨gd, fr, none⟩ = some (.int .i64 dt) := by rw [HDT.out]; exact X1.out.m.d.cell fr (by rw [HDL.out]; exact hfn)
              have sl := X1.out.m.d.lt
              go_cut [103] from 35 to 123 (fun bv wc => ∃ b : Bool, bv = .bool b ∧ Hid (CyX w gd gc [.slice A n cA, .slice (some pb) m cB] d vi ga [.int .i64 fr, .int .i64 tn, .int .i64 ca, .int .i64 co] wc ∧ (b = true → 0 < f ∧ ds - co < dt) ∧ (b = false → ¬ (0 < f ∧ ds - co < dt))))
              case first =>
                by_cases hfc : 0 < f
                · have d2 : decide (0 < f) = true := decide_eq_true hfc
                  by_cases hd : ds - co < dt
                  · have d3 : decide (ds - co < dt) = true := decide_eq_true hd
                    have HP : Hid (0 < f ∧ ds - co < dt) := Lib.hid (⟨hfc, hd⟩)
                    refine wp_region_past (by kernel_rfl) (by kernel_rfl) ?_
                    repeat (go_big_quiet_step (fail))
                    refine wpQuiet_nil ?_
                    intro xx
                    have X2 := Lib.hid (X1.out.below xx.far)
                    generalize xx.w = w2 at X2 ⊢
                    clear y0 y1 y2 y3 yl fc fl sc tc sl X1 f1
                    go_wp2_with fail
                    go_meet
                    case rel => exact ⟨true, rfl, Lib.hid ⟨X2.out, fun _ => HP.out, fun h => (by cases h)⟩⟩
                  · have d3 : decide (ds - co < dt) = false := decide_eq_false hd
                    have HP : Hid (¬ (0 < f ∧ ds - co < dt)) := Lib.hid (fun h => hd h.2)
                    refine wp_region_past (by kernel_rfl) (by kernel_rfl) ?_
                    repeat (go_big_quiet_step (fail))
                    refine wpQuiet_nil ?_
                    intro xx
                    have X2 := Lib.hid (X1.out.below xx.far)
                    generalize xx.w = w2 at X2 ⊢
                    clear y0 y1 y2 y3 yl fc fl sc tc sl X1 f1
                    go_wp2_with fail
                    go_meet
                    case rel => exact ⟨false, rfl, Lib.hid ⟨X2.out, fun h => (by cases h), fun _ => HP.out⟩⟩
                · have d2 : decide (0 < f) = false := decide_eq_false hfc
                  have HP : Hid (¬ (0 < f ∧ ds - co < dt)) := Lib.hid (fun h => hfc h.1)
                  refine wp_region_past (by kernel_rfl) (by kernel_rfl) ?_
                  repeat (go_big_quiet_step (fail))
                  refine wpQuiet_nil ?_
                  intro xx
                  have X2 := Lib.hid (X1.out.below xx.far)
                  generalize xx.w = w2 at X2 ⊢
                  clear y0 y1 y2 y3 yl fc fl sc tc sl X1 f1
                  go_wp2_with fail
                  go_meet
                  case rel => exact ⟨false, rfl, Lib.hid ⟨X2.out, fun h => (by cases h), fun _ => HP.out⟩⟩
              case rest =>
                clear y0 y1 y2 y3 yl fc fl sc tc sl X1 f1
                obtain ⟨b, rfl, HJ⟩ := hcut
                have X2 := Lib.hid HJ.out.1
                have HBT := Lib.hid HJ.out.2.1
                have HBF := Lib.hid HJ.out.2.2
                clear HJ
                generalize wc = we at X2 ⊢
                cases b with
                | false =>
                  have HE : Hid (BcI G n r (2 * (i + 1)) d vi L T now) := Lib.hid (HB1.out.no (fun h1 h2 => by
                      have h3 := HBF.out rfl
                      rw [← HF.out] at h2
                      rw [HT2.out, HT4.out, HQ2.out, ← HDS.out, ← HDT.out]
                      have h4 : ¬ ds - co < dt := fun h4 => h3 ⟨by omega, h4⟩
                      omega))
                  go_wp2_with fail
                  go_roundg (gk - 1)
                  case measure => omega
                  case rel => exact ⟨i + 1, lx, by omega, rfl, by go_num, Lib.hid ⟨_, _, _, _, _, HE.out, HLA.out, X2.out.m⟩⟩
                | true =>
                  have hc0 := HBT.out rfl
                  have hc : 0 < f ∧ d.getD tn 0 - co < d.getD fr 0 := by rw [← HDS.out, ← HDT.out]; exact hc0
                  have HV := Lib.hid (BcI.go2 HG.out HB1.out HES2.out HT2.out HT4.out HQ2.out (by rw [← HF.out]; omega) hc.2)
                  rw [← HDS.out] at HV
                  clear hc hc0
                  have y0 := X2.out.y.cell 0 rfl
                  have y1 := X2.out.y.cell 1 rfl
                  have y3 := X2.out.y.cell 3 rfl
                  have yl := X2.out.y.lt
                  have sc : we.cell? ⟨gd, tn, none⟩ = some (.int .i64 ds) := by rw [HDS.out]; exact X2.out.m.d.cell tn (by rw [HDL.out]; exact htn)
                  have sl := X2.out.m.d.lt
                  go_upto_region 18 with fail
                  refine wp_region_head 12 ?af18 (by kernel_rfl) (by kernel_rfl) ?walk18 ?tail18
                  case walk18 =>
                    intro V hV
                    have sc := (hV.cell (p := ⟨gd, tn, none⟩) sl).trans sc
                    have y0 := (hV.cell (p := ⟨ga, 0, none⟩) yl).trans y0
                    have y1 := (hV.cell (p := ⟨ga, 1, none⟩) yl).trans y1
                    have y3 := (hV.cell (p := ⟨ga, 3, none⟩) yl).trans y3
                    have sl := Nat.lt_of_lt_of_le sl hV.size
                    have yl := Nat.lt_of_lt_of_le yl hV.size
                    clear hV
                    simp only [List.take_succ_cons, List.take_zero]
                    repeat (go_big_quiet_step (fail))
                    refine wpQuiet_nil ?_
                    rfl
                  case tail18 =>
                    intro w3 hb3
                    have X3 := Lib.hid (X2.out.below hb3)
                    clear hb3 y0 y1 y3 yl sc sl X2
                    have z0 := X3.out.m.d.free fr
                    have l0 := X3.out.m.d.lt
                    have tc : w3.cell? ⟨gd, fr, none⟩ = some (.int .i64 dt) := by rw [HDT.out]; exact X3.out.m.d.cell fr (by rw [HDL.out]; exact hfn)
                    have X4 := Lib.hid (X3.out.put fr (ds - co))
                    simp only [List.drop_succ_cons, List.drop_zero]
                    go_upto_region 19 with fail
                    clear z0 l0 tc X3
                    generalize w3.setCell ⟨gd, fr, none⟩ (.int .i64 (ds - co)) = w4 at X4 ⊢
                    have y1 := X4.out.y.cell 0 rfl
                    have yl := X4.out.y.lt
                    obtain ⟨c1, c2⟩ := X4.out.m.cell (v := fr) (by rw [HVL.out]; exact hfn)
                    have z1 := X4.out.m.c.free (fr * 2)
                    have z2 := X4.out.m.c.free (fr * 2 + 1)
                    have l1 := X4.out.m.c.lt
                    have X5 := Lib.hid (X4.out.come (v := fr) (by rw [HVL.out]; exact hfn) (2 * i + 1))
                    have es : stK (2 * i + 1) = ((i : Int), true) := by rw [← dcS_k, ← dcS_odd]
                    rw [es] at X5
                    clear es
                    go_upto_region 20 with fail
                    clear c1 c2 z1 z2 l1 X4 y1 yl
                    generalize (w4.setCell ⟨gc, fr * 2, none⟩ (.int .i64 i)).setCell ⟨gc, fr * 2 + 1, none⟩ (.bool true) = w5 at X5 ⊢
                    have y1 := X5.out.y.cell 0 rfl
                    have yl := X5.out.y.lt
                    have HE2 := Lib.hid (LaI.yes (r := r) (L := L) (n := n) fr hfn)
                    clear HBT HBF HLA
                    go_wp2_with fail
                    go_roundg (gk - 1)
                    case measure => omega
                    case rel => exact ⟨i + 1, fr, by omega, rfl, by go_num, Lib.hid ⟨_, _, _, _, _, HV.out, HE2.out, X5.out.m⟩⟩
        · obtain rfl : m = i := by omega
          have HB2 : Hid (BcI G n r G.es.length d vi L T now) := Lib.hid (by rw [HES.out]; exact HB1.out)
          clear HB1
          have x0 := M1.out.x.cell 1 rfl
          have xl := M1.out.x.lt
          rcases HLA.out with ⟨rfl, hla⟩ | ⟨v, hv, rfl, hlv⟩
          · have HFI := Lib.hid (HB2.out.fin HG.out hla)
            clear hla HLA
            go_wp2_with fail
            exact bodyPost_ret (v := .tuple #[.slice none 0 0, .slice (some ⟨gd, 0, none⟩) n n]) (by simp [results, Try.results67, go_sem]) rfl ⟨.inl ⟨gd, d, rfl, HFI.out⟩, M1.out.bel⟩
          · have HE : Hid (∃ (d : List Int) (vi : List Nat) (L T : Nat → Nat) (now : Nat), BcI G n (r + 1) 0 d vi L T now ∧ (∀ v, v < n → L v ≤ r + 1) ∧ (r + 1 = 0 ∨ ∃ x : Nat, x < n ∧ (v : Int) = (x : Int) ∧ L x = r + 1) ∧ CyM w gd gc [.slice A n cA, .slice B m cB] d vi wr) := Lib.hid ⟨d, vi, L, T, now, HB2.out.next, HB2.out.lr, .inr ⟨v, hv, rfl, hlv⟩, M1.out⟩
            clear hlv HLA
            go_wp2_with fail
            go_roundg (go - 1)
            case measure => omega
            case rel => exact ⟨r + 1, v, by omega, rfl, by go_num, HE⟩
    · obtain rfl : r = n + 1 := by omega
      have hri : ¬ ((n + 1 : Nat) : Int) ≤ (n : Int) := by omega
      obtain ⟨v, hv, rfl, hLv⟩ : ∃ v : Nat, v < n ∧ lx = (v : Int) ∧ L v = n + 1 := by rcases HLX.out with h | h; omega; exact h
      clear HLX HLR
      obtain ⟨p, hcy⟩ := HB1.out.cyc HG.out hv hLv
      have HCY := Lib.hid hcy
      have HBK := Lib.hid (HB1.out.back HG.out hv hLv)
      have HPR := Lib.hid HB1.out.pr
      have HVL := Lib.hid HB1.out.vl
      clear hcy hLv hri hrn hrq
      go_upto_region 24 with fail
      go_loopg [9, 13] n (fun q lv iv wr => ∃ j : Nat, j + q = n ∧ lv = .int .i64 ((itp (pv G vi) j v : Nat) : Int) ∧ iv = .int .i64 j ∧ Hid (CyM w gd gc [.slice A n cA, .slice B m cB] d vi wr))
      case atStart => exact ⟨0, by omega, rfl, rfl, M1⟩
      case round =>
        clear M1
        obtain ⟨j, hjq, rfl, rfl, M1⟩ := hrel
        by_cases hjn : j < n
        · have hji : (j : Int) < (n : Int) := by omega
          obtain ⟨y, hy⟩ : ∃ y, y = itp (pv G vi) j v := ⟨_, rfl⟩
          rw [← hy]
          have hyn : y < n := by rw [hy]; exact (HBK.out j (by omega)).1
          have hyL : 0 < L y := by rw [hy]; have := (HBK.out j (by omega)).2; omega
          have HNX : Hid (itp (pv G vi) (j + 1) v = G.frA (vi.getD y 0)) := Lib.hid (by rw [hy]; exact itp_succ _ _ _)
          obtain ⟨x, hx⟩ : ∃ x, x = itp (pv G vi) (j + 1) v := ⟨_, rfl⟩
          rw [← hx] at HNX
          have HX := Lib.hid hx
          clear hx hy
          have hyi : (y : Int) < (n : Int) := by omega
          have HPY := Lib.hid (HPR.out y hyn hyL)
          have hk : vi.getD y 0 < 2 * m := by have := HPY.out.1; have := HES.out; omega
          obtain ⟨ki, hki⟩ : ∃ x : Int, x = (stK (vi.getD y 0)).1 := ⟨_, rfl⟩
          obtain ⟨kb, hkb⟩ : ∃ x : Bool, x = (stK (vi.getD y 0)).2 := ⟨_, rfl⟩
          have HBC : Hid (∀ V, Below w.heap.size w V → Calls Try.prog 100 #[.agg #[.slice A n cA, .slice B m cB], .agg #[.int .i64 ki, .bool kb]] V fun e w' => e = .returned (.int .i64 (x : Nat)) ∧ Below V.heap.size V w') := Lib.hid (by rw [hki, hkb, HNX.out]; exact fun V hV => BC.out V hV (vi.getD y 0) hk)
          obtain ⟨c0, c1⟩ := M1.out.cell (v := y) (by rw [HVL.out]; exact hyn)
          rw [← hki] at c0
          rw [← hkb] at c1
          have HKI := Lib.hid hki
          have HKB := Lib.hid hkb
          clear hki hkb hk
          have l0 := M1.out.c.lt
          have x0 := M1.out.x.cell 0 rfl
          have x1 := M1.out.x.cell 1 rfl
          have xl := M1.out.x.lt
          go_upto_region 26 with fail
          refine wp_region_past (by kernel_rfl) (by kernel_rfl) ?_
          repeat (go_big_quiet_step ((go_at_call 100; exact past_below (HBC.out _ (M1.out.bel.trans ((Past.far _).mono M1.out.bel.size))))))
          refine wpQuiet_nil ?_
          intro xx
          have M2 := Lib.hid (M1.out.below xx.far)
          generalize xx.w = w2 at M2 ⊢
          clear c0 c1 l0 x0 x1 xl M1
          go_wp2_with fail
          go_roundg (gk - 1)
          case measure => omega
          case rel => exact ⟨j + 1, by omega, by rw [HX.out], by go_num, M2⟩
        · obtain rfl : n = j := by omega
          clear HBK
          generalize itp (pv G vi) n v = z at *
          have hjj : ¬ (n : Int) < (n : Int) := by omega
          have HO1 : Hid (wr.ownsRow w.heap.size 150 2 (.slice none 0 0) 0 (flat stC ((ksF G vi 0 z).reverse.map stK))) := Lib.hid (World.ownsRow_nil _ _ _ _)
          go_upto_region 29 with fail
          go_loopg [14, 15] p (fun q ov av wr => ∃ (j cO : Nat) (OA : Option Addr), j + q = p ∧ ov = .slice OA j cO ∧ av = .int .i64 ((itp (pv G vi) j z : Nat) : Int) ∧ Hid (wr.ownsRow w.heap.size 150 2 (.slice OA j cO) j (flat stC ((ksF G vi j z).reverse.map stK)) ∧ CyM w gd gc [.slice A n cA, .slice B m cB] d vi wr))
          case atStart => exact ⟨0, 0, none, by omega, rfl, rfl, Lib.hid ⟨HO1.out, M1.out⟩⟩
          case round =>
            clear HO1 M1
            obtain ⟨j, cO, OA, hjq, rfl, rfl, HJ⟩ := hrel
            have HO := Lib.hid HJ.out.1
            have M1 := Lib.hid HJ.out.2
            clear HJ
            have hp := HCY.out.p1
            have hjp : j ≤ p ∧ p ≤ 1024 := by omega
            have hcO : j ≤ cO ∧ cO ≤ 9223372036854775807 := by rcases HO.out.2 with ⟨h1, h2⟩ | ⟨g, c, cur, hv, hb, hg, hnc, hcm, _⟩ <;> (cases ‹Value.slice _ _ _ = _›) <;> (first | (unfold maxLen at hcm; omega) | omega)
            obtain ⟨y, hy⟩ : ∃ y, y = itp (pv G vi) j z := ⟨_, rfl⟩
            rw [← hy]
            have hyn : y < n := by rw [hy]; exact (HCY.out.nd j).1
            have hyL : 0 < L y := by rw [hy]; exact (HCY.out.nd j).2
            by_cases hj0 : j = 0
            · have d1 : ((j : Int) == 0) = true := by simp; omega
              have hq0 : 0 < gk := by omega
              clear hj0
              have HKS : Hid ((ksF G vi (j + 1) z).reverse.map stK = stK (vi.getD y 0) :: (ksF G vi j z).reverse.map stK) := Lib.hid (by rw [ksF_succ, ← hy]; simp)
              have HNX : Hid (itp (pv G vi) (j + 1) z = G.frA (vi.getD y 0)) := Lib.hid (by rw [hy]; exact itp_succ _ _ _)
              obtain ⟨x, hx⟩ : ∃ x, x = itp (pv G vi) (j + 1) z := ⟨_, rfl⟩
              rw [← hx] at HNX
              have HX := Lib.hid hx
              clear hx hy
              have hyi : (y : Int) < (n : Int) := by omega
              have HPY := Lib.hid (HPR.out y hyn hyL)
              have hk : vi.getD y 0 < 2 * m := by have := HPY.out.1; have := HES.out; omega
              obtain ⟨ki, hki⟩ : ∃ x : Int, x = (stK (vi.getD y 0)).1 := ⟨_, rfl⟩
              obtain ⟨kb, hkb⟩ : ∃ x : Bool, x = (stK (vi.getD y 0)).2 := ⟨_, rfl⟩
              have HBC : Hid (∀ V, Below w.heap.size w V → Calls Try.prog 100 #[.agg #[.slice A n cA, .slice B m cB], .agg #[.int .i64 ki, .bool kb]] V fun e w' => e = .returned (.int .i64 (x : Nat)) ∧ Below V.heap.size V w') := Lib.hid (by rw [hki, hkb, HNX.out]; exact fun V hV => BC.out V hV (vi.getD y 0) hk)
              obtain ⟨c0, c1⟩ := M1.out.cell (v := y) (by rw [HVL.out]; exact hyn)
              rw [← hki] at c0
              rw [← hkb] at c1
              have HKI := Lib.hid hki
              have HKB := Lib.hid hkb
              clear hki hkb hk
              have l0 := M1.out.c.lt
              have HSK : Hid (stK (vi.getD y 0) = (ki, kb)) := Lib.hid (by rw [HKI.out, HKB.out])
              have hb4 := (Below.refl wr.heap.size wr).alloc (Nat.le_refl _) (.cells #[.int .i64 ki, .bool kb] 150)
              have M4 := Lib.hid (M1.out.below hb4)
              have HO4 := Lib.hid (ownBelow HO.out hb4)
              have LITH : Hid ((wr.alloc (.cells #[.int .i64 ki, .bool kb] 150)).ownsRow w.heap.size 150 2 (.slice (some ⟨wr.heap.size, 0, none⟩) 1 1) 1 (stC (ki, kb))) := Lib.hid (by have := World.ownsRow_lit (base := w.heap.size) (e := 150) (size := 2) wr #[.int .i64 ki, .bool kb] 1 M1.out.bel.size (by unfold maxLen; omega) rfl; exact this)
              have HLN : Hid ((flat stC ((ksF G vi j z).reverse.map stK)).length = j * 2) := Lib.hid HO.out.1
              have HB4 := Lib.hid hb4
              clear hb4 HO
              go_upto_region 30 with (at_builtin; refine wpList_append_any (.tmp 157) (.tmp 158) 104 rfl rfl w.heap.size 150 i150 (.agg #[.int .i64 0, .bool false]) 2 16 Try.underlying104 h15i h15z h15s h15b rfl (by decide) (some ⟨wr.heap.size, 0, none⟩) 1 1 (stC (ki, kb)) (by rfl) LITH.out OA j cO (flat stC ((ksF G vi j z).reverse.map stK)) (by rfl) HLN.out (own_src HO4.out) (flat_one _) (by unfold maxLen; omega) (by omega) M4.out.bel.size ?_; intro A3 c3 w5 hown hgrow hat; have M5 := Lib.hid (M1.out.below (HB4.out.grown hgrow (by simp) (fun j e => by cases e; exact Nat.le_refl _))); have HO5 := Lib.hid hown; clear hown hgrow hat c0 c1 l0)
              clear M1 M4 HO4 LITH HLN HB4
              have M1 := M5
              clear M5
              obtain ⟨c0, c1⟩ := M1.out.cell (v := y) (by rw [HVL.out]; exact hyn)
              rw [← HKI.out] at c0
              rw [← HKB.out] at c1
              have l0 := M1.out.c.lt
              have x0 := M1.out.x.cell 0 rfl
              have x1 := M1.out.x.cell 1 rfl
              have xl := M1.out.x.lt
              go_upto_region 30 with fail
              refine wp_region_past (by kernel_rfl) (by kernel_rfl) ?_
              repeat (go_big_quiet_step ((go_at_call 100; exact past_below (HBC.out _ (M1.out.bel.trans ((Past.far _).mono M1.out.bel.size))))))
              refine wpQuiet_nil ?_
              intro xx
              have M2 := Lib.hid (M1.out.below xx.far)
              have HO2 := Lib.hid (ownBelow HO5.out xx.far)
              generalize xx.w = w2 at M2 HO2 ⊢
              clear c0 c1 l0 x0 x1 xl M1
              go_wp2_with fail
              clear HO5
              have HO3 : Hid (w2.ownsRow w.heap.size 150 2 (.slice A3 (j + 1) c3) (j + 1) (flat stC ((ksF G vi (j + 1) z).reverse.map stK))) := Lib.hid (by rw [HKS.out, HSK.out, show j + 1 = 1 + j by omega]; exact HO2.out)
              have e1j : 1 + j = j + 1 := by omega
              go_roundg (gk - 1)
              case measure => omega
              case rel => exact ⟨j + 1, c3, A3, by omega, by rw [e1j], by rw [HX.out], Lib.hid ⟨HO3.out, M2.out⟩⟩
            · have d1 : ((j : Int) == 0) = false := by simp; omega
              by_cases hyz : y = z
              · have hjp2 : j = p := Nat.le_antisymm hjp.1 (Nat.le_of_not_lt (fun h => HCY.out.mn j (by omega) h (hy.symm.trans hyz)))
                have HCC := Lib.hid (HCY.out.cyc HB1.out HG.out)
                rw [← hjp2] at HCC
                have d2 : ((z : Int) != (y : Int)) = false := by simp; omega
                have d3 : ((y : Int) != (z : Int)) = false := by simp; omega
                obtain ⟨g, rfl, hgB, hgl, _⟩ := own_form HO.out (by omega)
                clear hy hyz hjp2
                go_wp2_with fail
                exact bodyPost_ret (v := .tuple #[.slice (some ⟨g, 0, none⟩) j cO, .slice none 0 0]) (by simp [results, Try.results67, go_sem]) rfl ⟨.inr ⟨g, cO, j, _, rfl, (ksF_len G vi j z).symm, by unfold OwnR; rw [List.length_map, List.length_reverse, ksF_len]; exact HO.out, HCC.out⟩, M1.out.bel⟩
              · have d2 : ((z : Int) != (y : Int)) = true := by simp; omega
                have d3 : ((y : Int) != (z : Int)) = true := by simp; omega
                have hq1 : j ≠ p := fun e => hyz (by rw [hy, e]; exact HCY.out.cl)
                have hq0 : 0 < gk := by omega
                clear hq1
                have HKS : Hid ((ksF G vi (j + 1) z).reverse.map stK = stK (vi.getD y 0) :: (ksF G vi j z).reverse.map stK) := Lib.hid (by rw [ksF_succ, ← hy]; simp)
                have HNX : Hid (itp (pv G vi) (j + 1) z = G.frA (vi.getD y 0)) := Lib.hid (by rw [hy]; exact itp_succ _ _ _)
                obtain ⟨x, hx⟩ : ∃ x, x = itp (pv G vi) (j + 1) z := ⟨_, rfl⟩
                rw [← hx] at HNX
                have HX := Lib.hid hx
                clear hx hy
                have hyi : (y : Int) < (n : Int) := by omega
                have HPY := Lib.hid (HPR.out y hyn hyL)
                have hk : vi.getD y 0 < 2 * m := by have := HPY.out.1; have := HES.out; omega
                obtain ⟨ki, hki⟩ : ∃ x : Int, x = (stK (vi.getD y 0)).1 := ⟨_, rfl⟩
                obtain ⟨kb, hkb⟩ : ∃ x : Bool, x = (stK (vi.getD y 0)).2 := ⟨_, rfl⟩
                have HBC : Hid (∀ V, Below w.heap.size w V → Calls Try.prog 100 #[.agg #[.slice A n cA, .slice B m cB], .agg #[.int .i64 ki, .bool kb]] V fun e w' => e = .returned (.int .i64 (x : Nat)) ∧ Below V.heap.size V w') := Lib.hid (by rw [hki, hkb, HNX.out]; exact fun V hV => BC.out V hV (vi.getD y 0) hk)
                obtain ⟨c0, c1⟩ := M1.out.cell (v := y) (by rw [HVL.out]; exact hyn)
                rw [← hki] at c0
                rw [← hkb] at c1
                have HKI := Lib.hid hki
                have HKB := Lib.hid hkb
                clear hki hkb hk
                have l0 := M1.out.c.lt
                have HSK : Hid (stK (vi.getD y 0) = (ki, kb)) := Lib.hid (by rw [HKI.out, HKB.out])
                have hb4 := (Below.refl wr.heap.size wr).alloc (Nat.le_refl _) (.cells #[.int .i64 ki, .bool kb] 150)
                have M4 := Lib.hid (M1.out.below hb4)
                have HO4 := Lib.hid (ownBelow HO.out hb4)
                have LITH : Hid ((wr.alloc (.cells #[.int .i64 ki, .bool kb] 150)).ownsRow w.heap.size 150 2 (.slice (some ⟨wr.heap.size, 0, none⟩) 1 1) 1 (stC (ki, kb))) := Lib.hid (by have := World.ownsRow_lit (base := w.heap.size) (e := 150) (size := 2) wr #[.int .i64 ki, .bool kb] 1 M1.out.bel.size (by unfold maxLen; omega) rfl; exact this)
                have HLN : Hid ((flat stC ((ksF G vi j z).reverse.map stK)).length = j * 2) := Lib.hid HO.out.1
                have HB4 := Lib.hid hb4
                clear hb4 HO
                go_upto_region 30 with (at_builtin; refine wpList_append_any (.tmp 157) (.tmp 158) 104 rfl rfl w.heap.size 150 i150 (.agg #[.int .i64 0, .bool false]) 2 16 Try.underlying104 h15i h15z h15s h15b rfl (by decide) (some ⟨wr.heap.size, 0, none⟩) 1 1 (stC (ki, kb)) (by rfl) LITH.out OA j cO (flat stC ((ksF G vi j z).reverse.map stK)) (by rfl) HLN.out (own_src HO4.out) (flat_one _) (by unfold maxLen; omega) (by omega) M4.out.bel.size ?_; intro A3 c3 w5 hown hgrow hat; have M5 := Lib.hid (M1.out.below (HB4.out.grown hgrow (by simp) (fun j e => by cases e; exact Nat.le_refl _))); have HO5 := Lib.hid hown; clear hown hgrow hat c0 c1 l0)
                clear M1 M4 HO4 LITH HLN HB4
                have M1 := M5
                clear M5
                obtain ⟨c0, c1⟩ := M1.out.cell (v := y) (by rw [HVL.out]; exact hyn)
                rw [← HKI.out] at c0
                rw [← HKB.out] at c1
                have l0 := M1.out.c.lt
                have x0 := M1.out.x.cell 0 rfl
                have x1 := M1.out.x.cell 1 rfl
                have xl := M1.out.x.lt
                go_upto_region 30 with fail
                refine wp_region_past (by kernel_rfl) (by kernel_rfl) ?_
                repeat (go_big_quiet_step ((go_at_call 100; exact past_below (HBC.out _ (M1.out.bel.trans ((Past.far _).mono M1.out.bel.size))))))
                refine wpQuiet_nil ?_
                intro xx
                have M2 := Lib.hid (M1.out.below xx.far)
                have HO2 := Lib.hid (ownBelow HO5.out xx.far)
                generalize xx.w = w2 at M2 HO2 ⊢
                clear c0 c1 l0 x0 x1 xl M1
                go_wp2_with fail
                clear HO5
                have HO3 : Hid (w2.ownsRow w.heap.size 150 2 (.slice A3 (j + 1) c3) (j + 1) (flat stC ((ksF G vi (j + 1) z).reverse.map stK))) := Lib.hid (by rw [HKS.out, HSK.out, show j + 1 = 1 + j by omega]; exact HO2.out)
                have e1j : 1 + j = j + 1 := by omega
                go_roundg (gk - 1)
                case measure => omega
                case rel => exact ⟨j + 1, c3, A3, by omega, by rw [e1j], by rw [HX.out], Lib.hid ⟨HO3.out, M2.out⟩⟩
end Go.Proofs.Ytmebpglkeedaoaa
namespace Go.Proofs.Ytmebpglkeedaoaa
open Go.RowKit Dp
namespace Dp
theorem lf_zero {N : Net} {G : Gr} (h : chE N = 0) (hG : G.Ok N.sup.length) (hf : Fits (zcN N) G) (h0 : restV G.left = 0) : ∀ v, v < N.sup.length → G.lf v = 0 := fun v hv => by
  have hz : chE (zcN N) = 0 := by rw [fr_ch]; exact h
  have h1 := (end_flow (N := zcN N) hz hG hf (zero_pot (n := N.sup.length) hf).rc h0).1
  have h2 := (flow_left hz h1).1 v hv
  rw [hf.lf v hv, ← h2]
  exact lv_congr _ _ (fun j hj => (flowL_get hj).symm)
theorem rest_zero {G : Gr} {n : Nat} (hl : G.left.length = n) (h : ∀ v, v < n → G.lf v = 0) : restV G.left = 0 := by
  rw [← rsK_all, hl]
  have : ∀ k, k ≤ n → rsK G.left k = 0 := fun k => by
    induction k with
    | zero => intro _; rfl
    | succ k ih =>
      intro hk
      rw [rsK_succ, ih (by omega)]
      have := h k (by omega)
      unfold Gr.lf at this
      rw [this]; rfl
  exact this n (Nat.le_refl _)
theorem mul_le_self {x s : Int} (hx : 1 ≤ x) (hs : s ≤ 0) : x * s ≤ s := by
  have := Int.mul_le_mul_of_nonpos_right hx hs
  rw [Int.one_mul] at this
  exact this
theorem cost_low {N : Net} {G : Gr} {n : Nat} (h : chE N = 0) (hG : G.Ok n) (hf : Fits N G) : -2251799813685248 ≤ costK N (flowL N G) N.arcs.length := by
  have h1 := costK_bd (fl := flowL N G) h N.arcs.length (Nat.le_refl _) (fun j hj => by
    rw [flowL_get hj]
    have h1 := room_cap hG hf j hj
    have h2 := hf.r0 j hj
    omega)
  have h2 := (net_len h).2.2
  omega
end Dp
open Dp
def LeastRP (N : Net) (n m : Nat) (w : World) (e : Ending) (w' : World) : Prop :=
  (chE N ≠ 0 ∧ e = .returned (.tuple #[.slice none 0 0, .slice none 0 0, .int .i64 (chE N)])) ∨
  (chE N = 0 ∧ e = .returned (.tuple #[.slice none 0 0, .slice none 0 0, .int .i64 18]) ∧ ∀ fl, isFlow N fl = false) ∨
  (chE N = 0 ∧ ∃ (gF gP : Nat) (fl p : List Int), e = .returned (.tuple #[.slice (some ⟨gF, 0, none⟩) m m, .slice (some ⟨gP, 0, none⟩) n n, .int .i64 0]) ∧ Fl 2 w' gF fl ∧ isFlow N fl = true ∧ costK N fl N.arcs.length = prA N p N.arcs.length)
set_option maxHeartbeats 8000000 in
set_option maxRecDepth 100000 in
theorem LeastR_c (A B : Option Addr) (N : Net) (n m cA cB : Nat) (w : World) (hn : n = N.sup.length) (hm : m = N.arcs.length)
    (hA : n ≤ cA ∧ cA ≤ 9223372036854775807) (hB : m ≤ cB ∧ cB ≤ 9223372036854775807) (hN : NetAt w A B N) :
    Calls Try.prog 27 #[.agg #[.slice A n cA, .slice B m cB]] w fun e w' => LeastRP N n m w e w' ∧ Below w.heap.size w w' := by
  have HN := Lib.hid hn
  have HM := Lib.hid hm
  have HNA := Lib.hid hN
  clear hn hm hN
  have X0 := Lib.hid (Blk.new' w #[.slice A n cA, .slice B m cB] 25)
  have B0 := Lib.hid ((Below.refl w.heap.size w).alloc (Nat.le_refl _) (.cells #[.slice A n cA, .slice B m cB] 25))
  have FC : Hid (∀ V, Below w.heap.size w V → Calls Try.prog 21 #[.agg #[.slice A n cA, .slice B m cB]] V fun e w' => e = .returned (.int .i64 (chE N)) ∧ Below V.heap.size V w') := Lib.hid (fun V hV => CheckR_c A B N n m cA cB V HN.out HM.out hA hB (HNA.out.below hV (Nat.le_refl _)))
  go_enter Try.func27, Try.ntmps27
  go_upto_region 1 with fail
  generalize w.alloc (.cells #[.slice A n cA, .slice B m cB] 25) = w1 at X0 B0 ⊢
  have x0 := X0.out.cell 0 rfl
  have x1 := X0.out.cell 1 rfl
  have xl := X0.out.lt
  obtain ⟨ce, hce⟩ : ∃ x, x = chE N := ⟨_, rfl⟩
  have HCE := Lib.hid hce
  rw [← hce] at FC
  clear hce
  go_wp2_with fail
  refine (FC.out _ B0.out).mono ?_
  rintro e w2 ⟨rfl, hb⟩
  have X2 := Lib.hid (X0.out.below hb X0.out.lt)
  have B2 := Lib.hid (B0.out.trans (hb.mono B0.out.size))
  clear hb x0 x1 xl X0 B0
  by_cases hce0 : ce = 0
  rotate_left
  · have hb0 : (ce != 0) = true := by simpa using hce0
    have HNE : Hid (chE N ≠ 0) := Lib.hid (by rw [← HCE.out]; exact hce0)
    clear hce0
    have x0 := X2.out.cell 0 rfl
    have x1 := X2.out.cell 1 rfl
    have xl := X2.out.lt
    go_wp2_with fail
    refine (FC.out _ B2.out).mono ?_
    rintro e w3 ⟨rfl, hb⟩
    have B3 := Lib.hid (B2.out.trans (hb.mono B2.out.size))
    clear hb x0 x1 xl
    go_wp2_with fail
    exact bodyPost_ret (v := .tuple #[.slice none 0 0, .slice none 0 0, .int .i64 ce]) (by simp [results, Try.results27, go_sem]) rfl ⟨.inl ⟨HNE.out, by rw [HCE.out]⟩, B3.out⟩
  · have hch : chE N = 0 := by rw [← HCE.out]; exact hce0
    have HCH := Lib.hid hch
    have hnn : 1 ≤ n ∧ n ≤ 1024 ∧ m ≤ 2048 := by have h := net_len hch; rw [← HN.out, ← HM.out] at h; exact h
    clear hch
    subst hce0
    have FA : Hid (Calls Try.prog 66 #[.agg #[.slice A n cA, .slice B m cB]] w2 fun e w' => AnyP N n m w2 e w' ∧ Below w2.heap.size w2 w') := Lib.hid (Any_c A B N n m cA cB _ HN.out HM.out HCH.out hA hB (HNA.out.below B2.out (Nat.le_refl _)))
    have x0 := X2.out.cell 0 rfl
    have x1 := X2.out.cell 1 rfl
    have xl := X2.out.lt
    go_wp2_with fail
    refine FA.out.mono ?_
    rintro e w3 ⟨⟨G, gF, gL, cL, fa, wi, rfl, hG, hf, hnr, hF, hL, hgF, hgFL, hcL⟩, hb⟩
    have X3 := Lib.hid (X2.out.below hb X2.out.lt)
    have B3 := Lib.hid (B2.out.trans (hb.mono B2.out.size))
    have HGX : Hid (w.heap.size < gF) := Lib.hid (by have := X2.out.lt; omega)
    clear hb x0 x1 xl FA X2 B2 FC hgF hgFL
    have HG := Lib.hid hG
    have HF := Lib.hid hf
    have HFL := Lib.hid hF
    have HL := Lib.hid hL
    have HLN := Lib.hid hG.ll
    -- something is left: there is no flow
    have HNO : Hid (∀ v, v < n → G.lf v ≠ 0 → ∀ fl, isFlow N fl = false) := Lib.hid (fun v hv hl => by
      have hG2 : G.Ok N.sup.length := by rw [← HN.out]; exact hG
      have hz : chE (zcN N) = 0 := by rw [fr_ch]; exact HCH.out
      have hr : 0 < restV G.left := by
        have h1 := rest_nn G.left
        have h2 : restV G.left ≠ 0 := fun e => hl (lf_zero HCH.out hG2 hf e v (by rw [← HN.out]; exact hv))
        omega
      have hnr2 : NR G (zcN N).sup.length [] fa wi (-1) := by rw [show (zcN N).sup.length = n from HN.out.symm]; exact hnr
      have h3 := end_cut hz hG2 hf hnr2
      rw [fr_len, fr_lkA _ (Nat.le_refl _)] at h3
      exact cut_none (c := cutL (zcN N).sup.length (fun v => decide (fa.getD v 0 < never))) HCH.out cutL_ok (by rw [h3]; exact hr))
    clear hG hf hnr hF hL
    go_wp2_with fail
    go_loopw [7] (fun iv wr => ∃ j : Nat, j ≤ n ∧ iv = .int .i64 j ∧ Hid (Below w3.heap.size w3 wr ∧ ∀ v, v < j → G.lf v = 0)) (fun iv _ => n - (intOf iv).toNat)
    case atStart => exact ⟨0, Nat.zero_le _, rfl, Lib.hid ⟨Below.refl _ _, fun v hv => absurd hv (Nat.not_lt_zero _)⟩⟩
    case round =>
      obtain ⟨j, hj, rfl, HJ⟩ := hrel
      by_cases hjn : j < n
      · have hji : (j : Int) < (n : Int) := by omega
        have c0 := (HL.out.below HJ.out.1).cell j (by rw [HLN.out]; exact hjn)
        have cl := (HL.out.below HJ.out.1).lt.2
        have HNJ := Lib.hid (HNO.out j hjn)
        have HLF : Hid (G.lf j = G.left.getD j 0) := Lib.hid rfl
        generalize G.left.getD j 0 = x at *
        by_cases hx : x = 0
        · subst hx
          have HE : Hid (Below w3.heap.size w3 wr ∧ ∀ v, v < j + 1 → G.lf v = 0) := Lib.hid ⟨HJ.out.1, fun v hv => by
            by_cases e : v = j
            · rw [e]; exact HLF.out
            · exact HJ.out.2 v (by omega)⟩
          go_wp2_with fail
          exact ⟨⟨j + 1, by omega, by go_num, HE⟩, by simp [intOf]; omega⟩
        · have hb0 : (x != 0) = true := by simpa using hx
          have HNF := Lib.hid (HNJ.out (by rw [HLF.out]; exact hx))
          have B4 := Lib.hid (B3.out.trans (HJ.out.1.mono B3.out.size))
          clear hx
          go_wp2_with fail
          exact bodyPost_ret (v := .tuple #[.slice none 0 0, .slice none 0 0, .int .i64 18]) (by simp [results, Try.results27, go_sem]) rfl ⟨.inr (.inl ⟨HCH.out, rfl, HNF.out⟩), B4.out⟩
      · obtain rfl : n = j := by omega
        have X4 := Lib.hid (X3.out.below HJ.out.1 X3.out.lt)
        have B4 := Lib.hid (B3.out.trans (HJ.out.1.mono B3.out.size))
        have F4 : Hid (Fl 2 wr gF (flowL N (reC N G))) := Lib.hid (by rw [reC_flow]; exact HFL.out.below HJ.out.1)
        have G4 := Lib.hid (reC_ok HCH.out HG.out HF.out.z)
        have FT4 := Lib.hid (reC_fits HF.out)
        have LZ4 : Hid (∀ v, v < n → (reC N G).lf v = 0) := Lib.hid HJ.out.2
        clear HJ X3 B3 HFL HG HF HNO HL HLN
        have hnn0 : ¬ (n : Int) < (n : Int) := by omega
        go_upto_region 9 with fail
        go_loopg [8] (costK N (flowL N (reC N G)) N.arcs.length + 2251799813685248).toNat (fun q _ wr => Hid (∃ G : Gr, (costK N (flowL N G) N.arcs.length + 2251799813685248).toNat = q ∧ G.Ok n ∧ Fits N G ∧ (∀ v, v < n → G.lf v = 0) ∧ Fl 2 wr gF (flowL N G) ∧ Blk wr w.heap.size 25 [.slice A n cA, .slice B m cB] ∧ Below w.heap.size w wr))
        case atStart => exact Lib.hid ⟨_, rfl, G4.out, FT4.out, LZ4.out, F4.out, X4.out, B4.out⟩
        case round =>
          clear G4 FT4 LZ4 F4 X4 B4
          obtain ⟨G1, hq, h1, h2, h3, h4, h5, h6⟩ := hrel.out
          have HQ := Lib.hid hq
          have OK := Lib.hid h1
          have FT := Lib.hid h2
          have LZ := Lib.hid h3
          have FL := Lib.hid h4
          have XB := Lib.hid h5
          have BB := Lib.hid h6
          clear hrel hq h1 h2 h3 h4 h5 h6
          have HGW : Hid (gF < wr.heap.size) := Lib.hid (Fl.lt FL.out)
          have CC : Hid (Calls Try.prog 67 #[.agg #[.slice A n cA, .slice B m cB], .slice (some ⟨gF, 0, none⟩) m m] wr fun e w' => CycleP G1 n wr e w' ∧ Below wr.heap.size wr w') := Lib.hid (cycle_c A B (some ⟨gF, 0, none⟩) N G1 n m cA cB m wr HN.out HM.out HCH.out OK.out FT.out hA hB ⟨Nat.le_refl _, by omega⟩ (HNA.out.below BB.out (Nat.le_refl _)) FL.out.ints)
          have x0 := XB.out.cell 0 rfl
          have x1 := XB.out.cell 1 rfl
          have xl := XB.out.lt
          go_wp2_with fail
          refine CC.out.mono ?_
          rintro e w5 ⟨hc, hb⟩
          have X5 := Lib.hid (XB.out.below hb XB.out.lt)
          have B5 := Lib.hid (BB.out.trans (hb.mono BB.out.size))
          have F5 := Lib.hid (FL.out.below hb)
          clear hb x0 x1 xl CC XB BB FL
          rcases hc with ⟨gd, d, rfl, hrc⟩ | ⟨g, c, nk, ks, rfl, hnk, hown, hcy⟩
          · have HEF : Hid (isFlow N (flowL N G1) = true ∧ costK N (flowL N G1) N.arcs.length = prA N d N.arcs.length) := Lib.hid (end_flow HCH.out (by rw [← HN.out]; exact OK.out) FT.out hrc (rest_zero OK.out.ll LZ.out))
            clear hrc
            have qT : ∀ w : World, (binOp .eql 104 (.slice none 0 0) (.slice none 0 0)).run Try.prog w = .ok (.bool true) w := fun w => Lib.run_eql_slice_nil w 104 150 none 0 0 0 0 Try.underlying104
            go_wp2_with fail
            exact bodyPost_ret (v := .tuple #[.slice (some ⟨gF, 0, none⟩) m m, .slice (some ⟨gd, 0, none⟩) n n, .int .i64 0]) (by simp [results, Try.results27, go_sem]) rfl ⟨.inr (.inr ⟨HCH.out, gF, gd, flowL N G1, d, rfl, F5.out, HEF.out.1, HEF.out.2⟩), B5.out⟩
          · have HCY := Lib.hid hcy
            have HOW := Lib.hid (OwnR.mono (B' := 0) hown (Nat.zero_le _))
            have HGG : Hid (wr.heap.size ≤ g) := Lib.hid (by obtain ⟨g', e, h1, _⟩ := hown.form (by simp; exact hcy.l0); cases e; exact h1)
            have hcc : nk ≤ c ∧ c ≤ 9223372036854775807 := by
              obtain ⟨_, _, _, _, h1, h2⟩ := hown.form (by simp; exact hcy.l0)
              simp at h1
              omega
            have HKS : Hid (nk = ks.reverse.length) := Lib.hid (by rw [List.length_reverse]; exact hnk)
            have hk1 : nk ≤ 1024 := by have := hcy.ln; omega
            have HKB : Hid (∀ k, k ∈ ks.reverse → k < 2 * m) := Lib.hid (fun k hk => by have h := (hcy.rm k (List.mem_reverse.1 hk)).1; rw [FT.out.es, ← HM.out] at h; exact h)
            have HRN : Hid (ks.reverse.Nodup) := Lib.hid ((List.reverse_perm ks).nodup_iff.2 hcy.nd)
            obtain ⟨x, hx⟩ : ∃ x, x = roomV G1 ks.reverse := ⟨_, rfl⟩
            have hxb : 0 < x ∧ x ≤ 1099511627776 := by rw [hx]; exact ⟨roomV_pos G1 _ _ (by decide) (fun k hk => (hcy.rm k (List.mem_reverse.1 hk)).2), (roomV_le G1 _ _).2⟩
            have HXR : Hid (∀ k, k ∈ ks → x ≤ G1.room k) := Lib.hid (fun k hk => by rw [hx]; exact (roomV_le G1 _ _).1 k (List.mem_reverse.2 hk))
            have RC : Hid (Calls Try.prog 69 #[.agg #[.slice A n cA, .slice B m cB], .slice (some ⟨gF, 0, none⟩) m m, .slice (some ⟨g, 0, none⟩) nk c] w5 fun e w' => e = .returned (.int .i64 x) ∧ Below w5.heap.size w5 w') := Lib.hid (by
              rw [hx]
              exact room_c A B (some ⟨gF, 0, none⟩) N G1 ks.reverse m n n cA cB m g c nk w5 HM.out HCH.out OK.out FT.out.f HKB.out HKS.out (by omega) hB ⟨Nat.le_refl _, by omega⟩ hcc (HNA.out.below B5.out (Nat.le_refl _)) F5.out.ints (by simpa using HOW.out))
            have HEND : Hid ((G1.pushL ks x).Ok n ∧ Fits N (G1.pushL ks x) ∧ (∀ v, v < n → (G1.pushL ks x).lf v = 0) ∧ (costK N (flowL N (G1.pushL ks x)) N.arcs.length + 2251799813685248).toNat < gk) := Lib.hid (by
              have h1 := hcy.ok OK.out (by omega) HXR.out
              have h2 := Fits.pushL (x := x) FT.out OK.out.fine (fun k hk => (hcy.rm k hk).1)
              have h3 := cost_pushL (x := x) FT.out OK.out.fine (fun k hk => (hcy.rm k hk).1)
              have h4 := mul_le_self (x := x) (s := sumK G1 ks) (by omega) (by have := hcy.neg; omega)
              have h5 := hcy.neg
              have h6 := cost_low HCH.out h1.1 h2
              have h7 := HQ.out
              refine ⟨h1.1, h2, fun v hv => by rw [h1.2]; exact LZ.out v hv, ?_⟩
              omega)
            clear hnk hown hcy hx
            have qF : ∀ w : World, (binOp .eql 104 (.slice (some ⟨g, 0, none⟩) nk c) (.slice none 0 0)).run Try.prog w = .ok (.bool false) w := fun w => Lib.run_eql_slice_nil w 104 150 (some ⟨g, 0, none⟩) nk c 0 0 Try.underlying104
            have x0 := X5.out.cell 0 rfl
            have x1 := X5.out.cell 1 rfl
            have xl := X5.out.lt
            go_wp2_with fail
            refine RC.out.mono ?_
            rintro e w6 ⟨rfl, hb⟩
            have X6 := Lib.hid (X5.out.below hb X5.out.lt)
            have B6 := Lib.hid (B5.out.trans (hb.mono B5.out.size))
            have F6 := Lib.hid (F5.out.below hb)
            have HO6 := Lib.hid (HOW.out.below hb)
            clear hb x0 x1 xl X5 B5 F5 RC HOW
            have PC : Hid (Calls Try.prog 68 #[.slice (some ⟨gF, 0, none⟩) m m, .slice (some ⟨g, 0, none⟩) nk c, .int .i64 x] w6 fun e w' => e = .returned (.tuple #[]) ∧ Fl 2 w' gF (flowL N (G1.pushL ks.reverse x)) ∧ Touch (fun k => k = gF) w6 w') := Lib.hid (pushW_c N G1 ks.reverse m n n m g gF c nk x w6 HM.out (by omega) OK.out FT.out.f HKB.out HRN.out ⟨by omega, by omega⟩ HKS.out (by omega) ⟨Nat.le_refl _, by omega⟩ hcc F6.out (by simpa using HO6.out) (by have h1 := HGG.out; have h2 := HGW.out; omega))
            go_wp2_with fail
            refine PC.out.mono ?_
            rintro e w7 ⟨rfl, hf7, ht7⟩
            have F7 : Hid (Fl 2 w7 gF (flowL N (G1.pushL ks x))) := Lib.hid (by rw [← flowL_perm FT.out.es (by rw [← HM.out]; exact HKB.out) (List.reverse_perm ks)]; exact hf7)
            have X7 := Lib.hid (X6.out.touch ht7 (fun e => by have := HGX.out; omega))
            have B7 := Lib.hid (Below.touch B6.out B6.out.size ht7 (fun j e => by have := HGX.out; omega))
            clear hf7 ht7 PC X6 B6 F6 HO6
            go_wp2_with fail
            go_roundg (costK N (flowL N (G1.pushL ks x)) N.arcs.length + 2251799813685248).toNat
            case measure => exact HEND.out.2.2.2
            case rel => exact Lib.hid ⟨_, rfl, HEND.out.1, HEND.out.2.1, HEND.out.2.2.1, F7.out, X7.out, B7.out⟩
end Go.Proofs.Ytmebpglkeedaoaa
namespace Go.Proofs.Ytmebpglkeedaoaa
open Go.RowKit Dp
@[go_sem] theorem an_0 : bits BinOp.and IntKind.i64 0 1 = 0 := by kernel_rfl
@[go_sem] theorem an_1 : bits BinOp.and IntKind.i64 1 1 = 1 := by kernel_rfl
@[go_sem] theorem an_2 : bits BinOp.and IntKind.i64 2 1 = 0 := by kernel_rfl
@[go_sem] theorem an_3 : bits BinOp.and IntKind.i64 3 1 = 1 := by kernel_rfl
@[go_sem] theorem or_0_1 : bits BinOp.or IntKind.i64 0 1 = 1 := by kernel_rfl
@[go_sem] theorem or_0_2 : bits BinOp.or IntKind.i64 0 2 = 2 := by kernel_rfl
@[go_sem] theorem or_1_1 : bits BinOp.or IntKind.i64 1 1 = 1 := by kernel_rfl
@[go_sem] theorem or_1_2 : bits BinOp.or IntKind.i64 1 2 = 3 := by kernel_rfl
@[go_sem] theorem or_2_1 : bits BinOp.or IntKind.i64 2 1 = 3 := by kernel_rfl
@[go_sem] theorem or_2_2 : bits BinOp.or IntKind.i64 2 2 = 2 := by kernel_rfl
@[go_sem] theorem or_3_1 : bits BinOp.or IntKind.i64 3 1 = 3 := by kernel_rfl
@[go_sem] theorem or_3_2 : bits BinOp.or IntKind.i64 3 2 = 3 := by kernel_rfl
structure AsJ (w : World) (gL gA gB r gb : Nat) (b0 b1 b2 b3 : Int) (W : World) : Prop where
  co : CO W gL gA gB
  res : Blk W r 87 [.slice none 0 0, .int .i64 0, .slice none 0 0, .slice none 0 0]
  best : Blk W gb 2 [.int .i64 b0, .int .i64 b1, .int .i64 b2, .int .i64 b3]
  nL : gL ≠ gb
  nA : gA ≠ gb
  nB : gB ≠ gb
  nr : r ≠ gb
  own : w.heap.size ≤ gb
  bel : Below w.heap.size w W
theorem AsJ.drew {w W : World} {gL gA gB r gb : Nat} {b0 b1 b2 b3 : Int} (h : AsJ w gL gA gB r gb b0 b1 b2 b3 W) : AsJ w gL gA gB r gb b0 b1 b2 b3 W.drew :=
  ⟨⟨h.co.L, h.co.A, h.co.B⟩, h.res, h.best, h.nL, h.nA, h.nB, h.nr, h.own, h.bel.drew⟩
theorem AsJ.set0 {w W : World} {gL gA gB r gb : Nat} {b0 b1 b2 b3 : Int} (h : AsJ w gL gA gB r gb b0 b1 b2 b3 W) (x : Int) : AsJ w gL gA gB r gb x b1 b2 b3 (W.setCell ⟨gb, 0, none⟩ (.int .i64 x)) :=
  ⟨⟨h.co.L.setCell_ne h.nL _, h.co.A.setCell_ne h.nA _, h.co.B.setCell_ne h.nB _⟩, h.res.setCell_ne h.nr _, h.best.setCell 0 _, h.nL, h.nA, h.nB, h.nr, h.own, h.bel.setCell h.own _⟩
theorem AsJ.set1 {w W : World} {gL gA gB r gb : Nat} {b0 b1 b2 b3 : Int} (h : AsJ w gL gA gB r gb b0 b1 b2 b3 W) (x : Int) : AsJ w gL gA gB r gb b0 x b2 b3 (W.setCell ⟨gb, 1, none⟩ (.int .i64 x)) :=
  ⟨⟨h.co.L.setCell_ne h.nL _, h.co.A.setCell_ne h.nA _, h.co.B.setCell_ne h.nB _⟩, h.res.setCell_ne h.nr _, h.best.setCell 1 _, h.nL, h.nA, h.nB, h.nr, h.own, h.bel.setCell h.own _⟩
theorem AsJ.set2 {w W : World} {gL gA gB r gb : Nat} {b0 b1 b2 b3 : Int} (h : AsJ w gL gA gB r gb b0 b1 b2 b3 W) (x : Int) : AsJ w gL gA gB r gb b0 b1 x b3 (W.setCell ⟨gb, 2, none⟩ (.int .i64 x)) :=
  ⟨⟨h.co.L.setCell_ne h.nL _, h.co.A.setCell_ne h.nA _, h.co.B.setCell_ne h.nB _⟩, h.res.setCell_ne h.nr _, h.best.setCell 2 _, h.nL, h.nA, h.nB, h.nr, h.own, h.bel.setCell h.own _⟩
theorem AsJ.start {w V : World} {gL gA gB r : Nat} (h : CO V gL gA gB) (hr : Blk V r 87 [.slice none 0 0, .int .i64 0, .slice none 0 0, .slice none 0 0]) (hb : Below w.heap.size w V) : AsJ w gL gA gB r V.heap.size 0 0 0 0 (V.alloc (.cells (Array.replicate 4 (.int .i64 0)) 2)) := by
  have b2 := hb.alloc hb.size (.cells (Array.replicate 4 (.int .i64 0)) 2)
  have l1 := h.L.lt
  have l2 := h.A.lt
  have l3 := h.B.lt
  have l4 := hr.lt
  have l5 := hb.size
  have r2 := Blk.new' V (Array.replicate 4 (.int .i64 0)) 2
  refine ⟨⟨h.L.alloc _, h.A.alloc _, h.B.alloc _⟩, hr.alloc _, ?_, by omega, by omega, by omega, by omega, by omega, b2⟩
  simpa using r2
def DualsC : Prop := ∀ (gL gA gB : Nat) (V : World), CO V gL gA gB → Calls Try.prog 96 #[.slice (some ⟨gL, 0, none⟩) 2 2, .int .i64 2] V fun e V' => ∃ R rn rc Q qn qc, e = .returned (.tuple #[.slice R rn rc, .slice Q qn qc]) ∧ Below V.heap.size V V'
structure AsM (w : World) (gL gA gB r gb gm : Nat) (A : Option Addr) (n cap : Nat) (cs : List Value) (W : World) : Prop where
  j : AsJ w gL gA gB r gb 3 3 2 0 W
  m : Blk W gm 87 [.slice A n cap, .int .i64 3, .slice none 0 0, .slice none 0 0]
  own : W.ownsRow (gm + 1) 3 1 (.slice A n cap) n cs
  lt : gL < gm ∧ gA < gm ∧ gB < gm ∧ r < gm ∧ gb < gm
theorem AsJ.below {w W V : World} {gL gA gB r gb : Nat} {b0 b1 b2 b3 : Int} (h : AsJ w gL gA gB r gb b0 b1 b2 b3 W) (hb : Below W.heap.size W V) : AsJ w gL gA gB r gb b0 b1 b2 b3 V :=
  ⟨h.co.below hb (Nat.le_refl _), h.res.below hb h.res.lt, h.best.below hb h.best.lt, h.nL, h.nA, h.nB, h.nr, h.own, h.bel.trans (hb.mono h.bel.size)⟩
theorem AsM.below {w W V : World} {gL gA gB r gb gm n cap : Nat} {A : Option Addr} {cs : List Value} (h : AsM w gL gA gB r gb gm A n cap cs W) (hb : Below W.heap.size W V) : AsM w gL gA gB r gb gm A n cap cs V :=
  ⟨h.j.below hb, h.m.below hb h.m.lt, ownBelow h.own hb, h.lt⟩
theorem AsM.alloc {w W : World} {gL gA gB r gb gm n cap : Nat} {A : Option Addr} {cs : List Value} (h : AsM w gL gA gB r gb gm A n cap cs W) (o : Obj) : AsM w gL gA gB r gb gm A n cap cs (W.alloc o) :=
  h.below ((Below.refl _ _).alloc (Nat.le_refl _) o)
theorem AsM.start {w W : World} {gL gA gB r gb : Nat} (h : AsJ w gL gA gB r gb 3 3 2 0 W) : AsM w gL gA gB r gb W.heap.size none 0 0 [] (W.alloc (.cells #[.slice none 0 0, .int .i64 3, .slice none 0 0, .slice none 0 0] 87)) :=
  ⟨h.below ((Below.refl _ _).alloc (Nat.le_refl _) _), Blk.new' W _ 87, World.ownsRow_nil _ _ _ _, h.co.L.lt, h.co.A.lt, h.co.B.lt, h.res.lt, h.best.lt⟩
theorem AsM.mid {w W V : World} {gL gA gB r gb gm n cap : Nat} {A : Option Addr} {cs : List Value} (h : AsM w gL gA gB r gb gm A n cap cs W) (hg : W.grownBy V (Value.slice A n cap).ownBlock) :
    Blk V gm 87 [.slice A n cap, .int .i64 3, .slice none 0 0, .slice none 0 0] ∧ AsJ w gL gA gB r gb 3 3 2 0 V := by
  have hk : ∀ k, (Value.slice A n cap).ownBlock = some k → gm + 1 ≤ k := fun k e => (World.ownsRow.lt h.own k e).1
  have hne : ∀ k, k ≤ gm → some k ≠ (Value.slice A n cap).ownBlock := fun k hk' e => by have := hk k e.symm; omega
  have hl := h.lt
  have ho := h.j.own
  have hbs := h.j.bel.size
  exact ⟨h.m.grown hg (hne _ (Nat.le_refl _)), ⟨h.j.co.L.grown hg (hne _ (by omega)), h.j.co.A.grown hg (hne _ (by omega)), h.j.co.B.grown hg (hne _ (by omega))⟩, h.j.res.grown hg (hne _ (by omega)), h.j.best.grown hg (hne _ (by omega)), h.j.nL, h.j.nA, h.j.nB, h.j.nr, h.j.own, h.j.bel.grown hg hbs (fun k e => by have := hk k e; omega)⟩
theorem AsM.push {w W V : World} {gL gA gB r gb gm n cap n2 cap2 : Nat} {A A2 : Option Addr} {cs cs2 : List Value} (h : AsM w gL gA gB r gb gm A n cap cs W) (hg : W.grownBy V (Value.slice A n cap).ownBlock)
    (ho : V.ownsRow (gm + 1) 3 1 (.slice A2 n2 cap2) n2 cs2) : AsM w gL gA gB r gb gm A2 n2 cap2 cs2 (V.setCell ⟨gm, 0, none⟩ (.slice A2 n2 cap2)) := by
  obtain ⟨m2, j2⟩ := h.mid hg
  have hl := h.lt
  have ho2 := h.j.own
  refine ⟨⟨⟨j2.co.L.setCell_ne (by simp; omega) _, j2.co.A.setCell_ne (by simp; omega) _, j2.co.B.setCell_ne (by simp; omega) _⟩, j2.res.setCell_ne (by simp; omega) _, j2.best.setCell_ne (by simp; omega) _, j2.nL, j2.nA, j2.nB, j2.nr, j2.own, j2.bel.setCell (by simp; omega) _⟩, m2.setCell 0 _, ?_, hl⟩
  exact ownGrown ho ⟨rfl, rfl, rfl, by simp [World.setCell], fun k hk hne => Below.heap_setCell _ _ _ _ (fun e => hne (by rw [e]))⟩ (row := some gm) (fun k hk e => by
    have := (World.ownsRow.lt ho k (ownB_iff.1 hk)).1
    cases e; omega)
theorem final {w W : World} {gL gA gB r gb gm n cap : Nat} {A : Option Addr} {cs : List Value} (h : AsM w gL gA gB r gb gm A n cap cs W) (R Q : Option Addr) (rn rc qn qc : Nat) (U : World := (W.setCell ⟨gm, 2, none⟩ (.slice R rn rc)).setCell ⟨gm, 3, none⟩ (.slice Q qn qc)) (hU : U = (W.setCell ⟨gm, 2, none⟩ (.slice R rn rc)).setCell ⟨gm, 3, none⟩ (.slice Q qn qc) := by rfl) :
    Blk U r 87 [.slice none 0 0, .int .i64 0, .slice none 0 0, .slice none 0 0] ∧ Blk U gm 87 [.slice A n cap, .int .i64 3, .slice R rn rc, .slice Q qn qc] ∧ U.ownsRow (gm + 1) 3 1 (.slice A n cap) n cs ∧ Below w.heap.size w U := by
  subst hU
  have hl := h.lt
  have ho := h.j.own
  have row : ∀ (V : World) (o : Nat) (x : Value), V.ownsRow (gm + 1) 3 1 (.slice A n cap) n cs → (V.setCell ⟨gm, o, none⟩ x).ownsRow (gm + 1) 3 1 (.slice A n cap) n cs := fun V o x hV =>
    ownGrown hV ⟨rfl, rfl, rfl, by simp [World.setCell], fun k hk hne => Below.heap_setCell _ _ _ _ (fun e => hne (by rw [e]))⟩ (row := some gm) (fun k hk e => by
      have := (World.ownsRow.lt hV k (ownB_iff.1 hk)).1
      cases e; omega)
  exact ⟨(h.j.res.setCell_ne (by simp; omega) _).setCell_ne (by simp; omega) _, (h.m.setCell 2 _).setCell 3 _, row _ _ _ (row _ _ _ h.own), (h.j.bel.setCell (by simp; omega) _).setCell (by simp; omega) _⟩
theorem final2 {w U : World} {r gm n cap : Nat} {A R Q : Option Addr} {cs : List Value} {rn rc qn qc : Nat} (h : Blk U r 87 [.slice none 0 0, .int .i64 0, .slice none 0 0, .slice none 0 0] ∧ Blk U gm 87 [.slice A n cap, .int .i64 3, .slice R rn rc, .slice Q qn qc] ∧ U.ownsRow (gm + 1) 3 1 (.slice A n cap) n cs ∧ Below w.heap.size w U)
    (hr : w.heap.size ≤ r) (hm : r < gm) (Z : World) (hZ : Z = (((U.setCell ⟨r, 0, none⟩ (.slice A n cap)).setCell ⟨r, 1, none⟩ (.int .i64 3)).setCell ⟨r, 2, none⟩ (.slice R rn rc)).setCell ⟨r, 3, none⟩ (.slice Q qn qc)) :
    Blk Z r 87 [.slice A n cap, .int .i64 3, .slice R rn rc, .slice Q qn qc] ∧ Z.ownsRow w.heap.size 3 1 (.slice A n cap) n cs ∧ Below w.heap.size w Z := by
  subst hZ
  have row : ∀ (V : World) (o : Nat) (x : Value), V.ownsRow (gm + 1) 3 1 (.slice A n cap) n cs → (V.setCell ⟨r, o, none⟩ x).ownsRow (gm + 1) 3 1 (.slice A n cap) n cs := fun V o x hV =>
    ownGrown hV ⟨rfl, rfl, rfl, by simp [World.setCell], fun k hk hne => Below.heap_setCell _ _ _ _ (fun e => hne (by rw [e]))⟩ (row := some r) (fun k hk e => by
      have := (World.ownsRow.lt hV k (ownB_iff.1 hk)).1
      cases e; omega)
  have ro := row _ 3 (.slice Q qn qc) (row _ 2 (.slice R rn rc) (row _ 1 (.int .i64 3) (row _ 0 (.slice A n cap) h.2.2.1)))
  exact ⟨(((h.1.setCell 0 _).setCell 1 _).setCell 2 _).setCell 3 _, ⟨ro.1, ro.2.imp id (fun ⟨k, c, cur, hv, hb', r⟩ => ⟨k, c, cur, hv, by omega, r⟩)⟩, (((h.2.2.2.setCell hr _).setCell hr _).setCell hr _).setCell hr _⟩
set_option maxHeartbeats 4000000 in
set_option maxRecDepth 100000 in
theorem Assign_c (HD : DualsC) (gL gA gB : Nat) (w : World) (h : CO w gL gA gB) : Calls Try.prog 56 #[.slice (some ⟨gL, 0, none⟩) 2 2] w fun e w' => ∃ A c R rn rc Q qn qc, e = .returned (.tuple #[.agg #[.slice A 2 c, .int .i64 3, .slice R rn rc, .slice Q qn qc], .int .i64 0]) ∧ w'.ownsRow w.heap.size 3 1 (.slice A 2 c) 2 [.int .i64 1, .int .i64 0] ∧ Below w.heap.size w w' := by
  have HB := Lib.hid ((Below.refl w.heap.size w).alloc (Nat.le_refl _) (.cells #[.slice none 0 0, .int .i64 0, .slice none 0 0, .slice none 0 0] 87))
  have HR := Lib.hid (Blk.new' w #[.slice none 0 0, .int .i64 0, .slice none 0 0, .slice none 0 0] 87)
  have B1 := Lib.hid (h.below HB.out (Nat.le_refl _))
  obtain ⟨i3, h3i, h3z, h3s, h3b⟩ := info_parts info3
  clear h
  go_enter Try.func56, Try.ntmps56
  go_wp2_with fail
  go_step3
  generalize w.alloc (.cells #[.slice none 0 0, .int .i64 0, .slice none 0 0, .slice none 0 0] 87) = w1 at HB HR B1 ⊢
  obtain ⟨r, hr⟩ : ∃ r, r = w.heap.size := ⟨_, rfl⟩
  rw [← hr] at HR ⊢
  have HRR : Hid (w.heap.size ≤ r) := Lib.hid (Nat.le_of_eq hr.symm)
  clear hr
  go_wp2_with fail
  refine (checkCosts_c gL gA gB _ B1.out).mono ?_
  rintro e w2 ⟨rfl, rfl⟩
  go_wp2_with fail
  have l0 := B1.out.L.cell 0 rfl
  have l9 := B1.out.L.lt
  refine wp_region_past (by kernel_rfl) (by kernel_rfl) ?_
  repeat (go_big_quiet_step (fail))
  refine wpQuiet_nil ?_
  intro xx
  have J1 := Lib.hid (AsJ.start (B1.out.below xx.far (Nat.le_refl _)) (HR.out.below xx.far HR.out.lt) (HB.out.trans (xx.far.mono HB.out.size)))
  clear l0 l9 B1 HR HB
  generalize xx.w = w2 at J1 ⊢
  have hm1 : ∀ W : World, (Instr.makeSlice 22 (.int .i64 4) (.int .i64 4)).run Try.prog W = .ok (.slice (some ⟨W.heap.size, 0, none⟩) 4 4) (W.alloc (.cells (Array.replicate 4 (.int .i64 0)) 2)) := make_64 4 (by omega)
  generalize hgb : w2.heap.size = gb at *
  go_upto_region 6 with fail
  generalize w2.alloc (.cells (Array.replicate 4 (.int .i64 0)) 2) = w3 at J1 ⊢
  go_wp2_with fail
  refine wp_loop_rounds 5 ?_
  rw [rounds_succ]
  go_wp2_with fail
  refine (ones_3 _).mono ?_
  rintro e w2 ⟨rfl, rfl⟩
  go_wp2_with fail
  rw [rounds_succ]
  go_wp2_with fail
  refine (ones_2 _).mono ?_
  rintro e w2 ⟨rfl, rfl⟩
  have l0 := J1.out.co.L.cell 0 rfl
  have l1 := J1.out.co.L.cell 1 rfl
  have a0 := J1.out.co.A.cell 0 rfl
  have a1 := J1.out.co.A.cell 1 rfl
  have b0 := J1.out.co.B.cell 0 rfl
  have b1 := J1.out.co.B.cell 1 rfl
  have s0 := J1.out.best.cell 0 rfl
  have s1 := J1.out.best.cell 1 rfl
  have s2 := J1.out.best.cell 2 rfl
  have s3 := J1.out.best.cell 3 rfl
  have z0 := J1.out.best.free 0
  have z1 := J1.out.best.free 1
  have z2 := J1.out.best.free 2
  have z3 := J1.out.best.free 3
  go_upto_region 12 with fail
  clear l0 l1 a0 a1 b0 b1 s0 s1 s2 s3 z0 z1 z2 z3
  refine gen_world (fun W => AsJ w gL gA gB r gb 0 0 1152921504606846976 0 W) (J1.out.set2 1152921504606846976) ?_
  rintro w12 hj
  have J2 := Lib.hid hj
  clear hj
  have l0 := J2.out.co.L.cell 0 rfl
  have l1 := J2.out.co.L.cell 1 rfl
  have a0 := J2.out.co.A.cell 0 rfl
  have a1 := J2.out.co.A.cell 1 rfl
  have b0 := J2.out.co.B.cell 0 rfl
  have b1 := J2.out.co.B.cell 1 rfl
  have s0 := J2.out.best.cell 0 rfl
  have s1 := J2.out.best.cell 1 rfl
  have s2 := J2.out.best.cell 2 rfl
  have s3 := J2.out.best.cell 3 rfl
  have z0 := J2.out.best.free 0
  have z1 := J2.out.best.free 1
  have z2 := J2.out.best.free 2
  have z3 := J2.out.best.free 3
  go_wp2_with fail
  refine wp_loop_rounds 3 ?_
  rw [rounds_succ]
  go_wp2_with fail
  clear l0 l1 a0 a1 b0 b1 s0 s1 s2 s3 z0 z1 z2 z3
  refine wp_region_spine 17 [false] [] ?af_2_0 (fun V => AsJ w gL gA gB r gb 0 0 1152921504606846976 0 V) (by kernel_rfl) (by kernel_rfl) J2.out.drew ?walk_2_0 ?_
  case walk_2_0 =>
    intro V hV
    have s2 := hV.best.cell 2 rfl
    have s3 := hV.best.cell 3 rfl
    have hmx : ∀ ts t W, (Builtin.min_ ts t #[.int .i64 1152921504606846976, .int .i64 2]).run Try.prog W = .ok (.int .i64 2) W := fun ts t W => min_i64 1152921504606846976 2 ts t W
    clear hV
    simp only [List.take_succ_cons, List.take_zero]
    repeat (go_big_quiet_step (fail))
    refine wpQuiet_nil ?_
    rfl
  intro w13 hV
  have J3 := Lib.hid (hV.set2 2)
  have s2 := hV.best.cell 2 rfl
  have z2 := hV.best.free 2
  clear hV
  refine spineV_cons ?_
  unfold StepV
  go_simp
  generalize w13.setCell ⟨gb, 2, none⟩ (.int .i64 2) = w14 at J3 ⊢
  clear s2 z2
  refine spineV_nil ?_
  go_wp2_with fail
  have J4 := J3
  have l0 := J4.out.co.L.cell 0 rfl
  have l1 := J4.out.co.L.cell 1 rfl
  have a0 := J4.out.co.A.cell 0 rfl
  have a1 := J4.out.co.A.cell 1 rfl
  have b0 := J4.out.co.B.cell 0 rfl
  have b1 := J4.out.co.B.cell 1 rfl
  have s0 := J4.out.best.cell 0 rfl
  have s1 := J4.out.best.cell 1 rfl
  have s2 := J4.out.best.cell 2 rfl
  have s3 := J4.out.best.cell 3 rfl
  have z0 := J4.out.best.free 0
  have z1 := J4.out.best.free 1
  have z2 := J4.out.best.free 2
  have z3 := J4.out.best.free 3
  rw [rounds_succ]
  go_wp2_with fail
  rw [rounds_succ]
  go_wp2_with fail
  clear l0 l1 a0 a1 b0 b1 s0 s1 s2 s3 z0 z1 z2 z3
  rw [rounds_succ]
  go_wp2_with fail
  refine (ones_1 _).mono ?_
  rintro e w2 ⟨rfl, rfl⟩
  have l0 := J4.out.co.L.cell 0 rfl
  have l1 := J4.out.co.L.cell 1 rfl
  have a0 := J4.out.co.A.cell 0 rfl
  have a1 := J4.out.co.A.cell 1 rfl
  have b0 := J4.out.co.B.cell 0 rfl
  have b1 := J4.out.co.B.cell 1 rfl
  have s0 := J4.out.best.cell 0 rfl
  have s1 := J4.out.best.cell 1 rfl
  have s2 := J4.out.best.cell 2 rfl
  have s3 := J4.out.best.cell 3 rfl
  have z0 := J4.out.best.free 0
  have z1 := J4.out.best.free 1
  have z2 := J4.out.best.free 2
  have z3 := J4.out.best.free 3
  go_upto_region 12 with fail
  clear l0 l1 a0 a1 b0 b1 s0 s1 s2 s3 z0 z1 z2 z3
  refine gen_world (fun W => AsJ w gL gA gB r gb 0 1152921504606846976 2 0 W) (J4.out.set1 1152921504606846976) ?_
  rintro w15 hj
  have J5 := Lib.hid hj
  clear hj
  have l0 := J5.out.co.L.cell 0 rfl
  have l1 := J5.out.co.L.cell 1 rfl
  have a0 := J5.out.co.A.cell 0 rfl
  have a1 := J5.out.co.A.cell 1 rfl
  have b0 := J5.out.co.B.cell 0 rfl
  have b1 := J5.out.co.B.cell 1 rfl
  have s0 := J5.out.best.cell 0 rfl
  have s1 := J5.out.best.cell 1 rfl
  have s2 := J5.out.best.cell 2 rfl
  have s3 := J5.out.best.cell 3 rfl
  have z0 := J5.out.best.free 0
  have z1 := J5.out.best.free 1
  have z2 := J5.out.best.free 2
  have z3 := J5.out.best.free 3
  go_wp2_with fail
  refine wp_loop_rounds 3 ?_
  rw [rounds_succ]
  go_wp2_with fail
  rw [rounds_succ]
  go_wp2_with fail
  clear l0 l1 a0 a1 b0 b1 s0 s1 s2 s3 z0 z1 z2 z3
  refine wp_region_spine 17 [false] [] ?af_1_1 (fun V => AsJ w gL gA gB r gb 0 1152921504606846976 2 0 V) (by kernel_rfl) (by kernel_rfl) J5.out.drew ?walk_1_1 ?_
  case walk_1_1 =>
    intro V hV
    have s1 := hV.best.cell 1 rfl
    have s3 := hV.best.cell 3 rfl
    have hmx : ∀ ts t W, (Builtin.min_ ts t #[.int .i64 1152921504606846976, .int .i64 3]).run Try.prog W = .ok (.int .i64 3) W := fun ts t W => min_i64 1152921504606846976 3 ts t W
    clear hV
    simp only [List.take_succ_cons, List.take_zero]
    repeat (go_big_quiet_step (fail))
    refine wpQuiet_nil ?_
    rfl
  intro w16 hV
  have J6 := Lib.hid (hV.set1 3)
  have s1 := hV.best.cell 1 rfl
  have z1 := hV.best.free 1
  clear hV
  refine spineV_cons ?_
  unfold StepV
  go_simp
  generalize w16.setCell ⟨gb, 1, none⟩ (.int .i64 3) = w17 at J6 ⊢
  clear s1 z1
  refine spineV_nil ?_
  go_wp2_with fail
  have J7 := J6
  have l0 := J7.out.co.L.cell 0 rfl
  have l1 := J7.out.co.L.cell 1 rfl
  have a0 := J7.out.co.A.cell 0 rfl
  have a1 := J7.out.co.A.cell 1 rfl
  have b0 := J7.out.co.B.cell 0 rfl
  have b1 := J7.out.co.B.cell 1 rfl
  have s0 := J7.out.best.cell 0 rfl
  have s1 := J7.out.best.cell 1 rfl
  have s2 := J7.out.best.cell 2 rfl
  have s3 := J7.out.best.cell 3 rfl
  have z0 := J7.out.best.free 0
  have z1 := J7.out.best.free 1
  have z2 := J7.out.best.free 2
  have z3 := J7.out.best.free 3
  rw [rounds_succ]
  go_wp2_with fail
  clear l0 l1 a0 a1 b0 b1 s0 s1 s2 s3 z0 z1 z2 z3
  rw [rounds_succ]
  go_wp2_with fail
  refine (ones_0 _).mono ?_
  rintro e w2 ⟨rfl, rfl⟩
  have l0 := J7.out.co.L.cell 0 rfl
  have l1 := J7.out.co.L.cell 1 rfl
  have a0 := J7.out.co.A.cell 0 rfl
  have a1 := J7.out.co.A.cell 1 rfl
  have b0 := J7.out.co.B.cell 0 rfl
  have b1 := J7.out.co.B.cell 1 rfl
  have s0 := J7.out.best.cell 0 rfl
  have s1 := J7.out.best.cell 1 rfl
  have s2 := J7.out.best.cell 2 rfl
  have s3 := J7.out.best.cell 3 rfl
  have z0 := J7.out.best.free 0
  have z1 := J7.out.best.free 1
  have z2 := J7.out.best.free 2
  have z3 := J7.out.best.free 3
  go_upto_region 12 with fail
  clear l0 l1 a0 a1 b0 b1 s0 s1 s2 s3 z0 z1 z2 z3
  refine gen_world (fun W => AsJ w gL gA gB r gb 1152921504606846976 3 2 0 W) (J7.out.set0 1152921504606846976) ?_
  rintro w18 hj
  have J8 := Lib.hid hj
  clear hj
  have l0 := J8.out.co.L.cell 0 rfl
  have l1 := J8.out.co.L.cell 1 rfl
  have a0 := J8.out.co.A.cell 0 rfl
  have a1 := J8.out.co.A.cell 1 rfl
  have b0 := J8.out.co.B.cell 0 rfl
  have b1 := J8.out.co.B.cell 1 rfl
  have s0 := J8.out.best.cell 0 rfl
  have s1 := J8.out.best.cell 1 rfl
  have s2 := J8.out.best.cell 2 rfl
  have s3 := J8.out.best.cell 3 rfl
  have z0 := J8.out.best.free 0
  have z1 := J8.out.best.free 1
  have z2 := J8.out.best.free 2
  have z3 := J8.out.best.free 3
  go_wp2_with fail
  refine wp_loop_rounds 3 ?_
  rw [rounds_succ]
  go_wp2_with fail
  clear l0 l1 a0 a1 b0 b1 s0 s1 s2 s3 z0 z1 z2 z3
  refine wp_region_spine 17 [false] [] ?af_0_0 (fun V => AsJ w gL gA gB r gb 1152921504606846976 3 2 0 V) (by kernel_rfl) (by kernel_rfl) J8.out.drew ?walk_0_0 ?_
  case walk_0_0 =>
    intro V hV
    have s0 := hV.best.cell 0 rfl
    have s1 := hV.best.cell 1 rfl
    have hmx : ∀ ts t W, (Builtin.min_ ts t #[.int .i64 1152921504606846976, .int .i64 7]).run Try.prog W = .ok (.int .i64 7) W := fun ts t W => min_i64 1152921504606846976 7 ts t W
    clear hV
    simp only [List.take_succ_cons, List.take_zero]
    repeat (go_big_quiet_step (fail))
    refine wpQuiet_nil ?_
    rfl
  intro w19 hV
  have J9 := Lib.hid (hV.set0 7)
  have s0 := hV.best.cell 0 rfl
  have z0 := hV.best.free 0
  clear hV
  refine spineV_cons ?_
  unfold StepV
  go_simp
  generalize w19.setCell ⟨gb, 0, none⟩ (.int .i64 7) = w20 at J9 ⊢
  clear s0 z0
  refine spineV_nil ?_
  go_wp2_with fail
  have J10 := J9
  have l0 := J10.out.co.L.cell 0 rfl
  have l1 := J10.out.co.L.cell 1 rfl
  have a0 := J10.out.co.A.cell 0 rfl
  have a1 := J10.out.co.A.cell 1 rfl
  have b0 := J10.out.co.B.cell 0 rfl
  have b1 := J10.out.co.B.cell 1 rfl
  have s0 := J10.out.best.cell 0 rfl
  have s1 := J10.out.best.cell 1 rfl
  have s2 := J10.out.best.cell 2 rfl
  have s3 := J10.out.best.cell 3 rfl
  have z0 := J10.out.best.free 0
  have z1 := J10.out.best.free 1
  have z2 := J10.out.best.free 2
  have z3 := J10.out.best.free 3
  rw [rounds_succ]
  go_wp2_with fail
  clear l0 l1 a0 a1 b0 b1 s0 s1 s2 s3 z0 z1 z2 z3
  refine wp_region_spine 17 [false] [] ?af_0_1 (fun V => AsJ w gL gA gB r gb 7 3 2 0 V) (by kernel_rfl) (by kernel_rfl) J10.out.drew ?walk_0_1 ?_
  case walk_0_1 =>
    intro V hV
    have s0 := hV.best.cell 0 rfl
    have s2 := hV.best.cell 2 rfl
    have hmx : ∀ ts t W, (Builtin.min_ ts t #[.int .i64 7, .int .i64 3]).run Try.prog W = .ok (.int .i64 3) W := fun ts t W => min_i64 7 3 ts t W
    clear hV
    simp only [List.take_succ_cons, List.take_zero]
    repeat (go_big_quiet_step (fail))
    refine wpQuiet_nil ?_
    rfl
  intro w21 hV
  have J11 := Lib.hid (hV.set0 3)
  have s0 := hV.best.cell 0 rfl
  have z0 := hV.best.free 0
  clear hV
  refine spineV_cons ?_
  unfold StepV
  go_simp
  generalize w21.setCell ⟨gb, 0, none⟩ (.int .i64 3) = w22 at J11 ⊢
  clear s0 z0
  refine spineV_nil ?_
  go_wp2_with fail
  have J12 := J11
  have l0 := J12.out.co.L.cell 0 rfl
  have l1 := J12.out.co.L.cell 1 rfl
  have a0 := J12.out.co.A.cell 0 rfl
  have a1 := J12.out.co.A.cell 1 rfl
  have b0 := J12.out.co.B.cell 0 rfl
  have b1 := J12.out.co.B.cell 1 rfl
  have s0 := J12.out.best.cell 0 rfl
  have s1 := J12.out.best.cell 1 rfl
  have s2 := J12.out.best.cell 2 rfl
  have s3 := J12.out.best.cell 3 rfl
  have z0 := J12.out.best.free 0
  have z1 := J12.out.best.free 1
  have z2 := J12.out.best.free 2
  have z3 := J12.out.best.free 3
  rw [rounds_succ]
  go_wp2_with fail
  rw [rounds_succ]
  go_wp2_with fail
  clear l0 l1 a0 a1 b0 b1 s0 s1 s2 s3 z0 z1 z2 z3
  go_step3
  have M0 := Lib.hid (AsM.start J12.out)
  generalize w22.heap.size = gm at *
  generalize w22.alloc (.cells #[.slice none 0 0, .int .i64 3, .slice none 0 0, .slice none 0 0] 87) = v0 at M0 ⊢
  have l0 := M0.out.j.co.L.cell 0 rfl
  have l1 := M0.out.j.co.L.cell 1 rfl
  have a0 := M0.out.j.co.A.cell 0 rfl
  have a1 := M0.out.j.co.A.cell 1 rfl
  have b0 := M0.out.j.co.B.cell 0 rfl
  have b1 := M0.out.j.co.B.cell 1 rfl
  have s0 := M0.out.j.best.cell 0 rfl
  have s1 := M0.out.j.best.cell 1 rfl
  have s2 := M0.out.j.best.cell 2 rfl
  have s3 := M0.out.j.best.cell 3 rfl
  have z0 := M0.out.j.best.free 0
  have z1 := M0.out.j.best.free 1
  have z2 := M0.out.j.best.free 2
  have z3 := M0.out.j.best.free 3
  have y0 := M0.out.m.cell 0 rfl
  have q0 := M0.out.m.free 0
  have lb := M0.out.j.best.lt
  go_wp2_with fail
  refine wp_loop_rounds 3 ?_
  rw [rounds_succ]
  go_wp2_with fail
  refine wp_loop_rounds 3 ?_
  rw [rounds_succ]
  go_wp2_with fail
  refine wp_region_past (by kernel_rfl) (by kernel_rfl) ?_
  repeat (go_big_quiet_step (fail))
  refine wpQuiet_nil ?_
  intro xx
  have M1 := Lib.hid (M0.out.below xx.far)
  clear l0 l1 a0 a1 b0 b1 s0 s1 s2 s3 z0 z1 z2 z3 y0 q0 lb
  generalize xx.w = v1 at M1 ⊢
  have l0 := M1.out.j.co.L.cell 0 rfl
  have l1 := M1.out.j.co.L.cell 1 rfl
  have a0 := M1.out.j.co.A.cell 0 rfl
  have a1 := M1.out.j.co.A.cell 1 rfl
  have b0 := M1.out.j.co.B.cell 0 rfl
  have b1 := M1.out.j.co.B.cell 1 rfl
  have s0 := M1.out.j.best.cell 0 rfl
  have s1 := M1.out.j.best.cell 1 rfl
  have s2 := M1.out.j.best.cell 2 rfl
  have s3 := M1.out.j.best.cell 3 rfl
  have z0 := M1.out.j.best.free 0
  have z1 := M1.out.j.best.free 1
  have z2 := M1.out.j.best.free 2
  have z3 := M1.out.j.best.free 3
  have y0 := M1.out.m.cell 0 rfl
  have q0 := M1.out.m.free 0
  have lb := M1.out.j.best.lt
  go_wp2_with fail
  rw [rounds_succ]
  go_wp2_with fail
  refine wp_region_past (by kernel_rfl) (by kernel_rfl) ?_
  repeat (go_big_quiet_step (fail))
  refine wpQuiet_nil ?_
  intro xx
  have M2 := Lib.hid (M1.out.below xx.far)
  clear l0 l1 a0 a1 b0 b1 s0 s1 s2 s3 z0 z1 z2 z3 y0 q0 lb
  generalize xx.w = v2 at M2 ⊢
  have l0 := M2.out.j.co.L.cell 0 rfl
  have l1 := M2.out.j.co.L.cell 1 rfl
  have a0 := M2.out.j.co.A.cell 0 rfl
  have a1 := M2.out.j.co.A.cell 1 rfl
  have b0 := M2.out.j.co.B.cell 0 rfl
  have b1 := M2.out.j.co.B.cell 1 rfl
  have s0 := M2.out.j.best.cell 0 rfl
  have s1 := M2.out.j.best.cell 1 rfl
  have s2 := M2.out.j.best.cell 2 rfl
  have s3 := M2.out.j.best.cell 3 rfl
  have z0 := M2.out.j.best.free 0
  have z1 := M2.out.j.best.free 1
  have z2 := M2.out.j.best.free 2
  have z3 := M2.out.j.best.free 3
  have y0 := M2.out.m.cell 0 rfl
  have q0 := M2.out.m.free 0
  have lb := M2.out.j.best.lt
  have MA := Lib.hid (M2.out.alloc (.cells #[.int .i64 1] 3))
  have X := Lib.hid (Blk.new' v2 #[.int .i64 1] 3)
  clear l0 l1 a0 a1 b0 b1 s0 s1 s2 s3 z0 z1 z2 z3 y0 q0 lb
  have y0 := MA.out.m.cell 0 rfl
  have yy := M2.out.m.cell 0 rfl
  go_wp2_with (at_builtin; refine wpList_append_any (.tmp 134) (.tmp 136) 26 rfl rfl (gm + 1) 3 i3 (.int .i64 0) 1 8 Try.underlying26 h3i h3z h3s h3b rfl (by decide) none 0 0 [] (by rfl) MA.out.own (some ⟨v2.heap.size, 0, none⟩) 1 1 [.int .i64 1] (by rfl) (by rfl) (.inr ⟨_, rfl, fun k u hk => by rcases k with _ | k <;> simp at hk; subst hk; exact X.out.cell 0 rfl⟩) (by simp [Value.oneCell']) (by decide) (by decide) (by have := MA.out.m.lt; omega) ?_; intro A1 c1 v hown hgrow hat; have M3 := Lib.hid (show AsM w gL gA gB r gb gm A1 1 c1 [.int .i64 1] (v.setCell ⟨gm, 0, none⟩ (.slice A1 1 c1)) from MA.out.push hgrow hown); have MM := (MA.out.mid hgrow).1; clear y0 yy; have y0 := MM.cell 0 rfl; have q0 := MM.free 0; clear MM hown hgrow hat)
  generalize v.setCell ⟨gm, 0, none⟩ (.slice A1 1 c1) = v3 at M3 ⊢
  clear y0 q0
  have l0 := M3.out.j.co.L.cell 0 rfl
  have l1 := M3.out.j.co.L.cell 1 rfl
  have a0 := M3.out.j.co.A.cell 0 rfl
  have a1 := M3.out.j.co.A.cell 1 rfl
  have b0 := M3.out.j.co.B.cell 0 rfl
  have b1 := M3.out.j.co.B.cell 1 rfl
  have s0 := M3.out.j.best.cell 0 rfl
  have s1 := M3.out.j.best.cell 1 rfl
  have s2 := M3.out.j.best.cell 2 rfl
  have s3 := M3.out.j.best.cell 3 rfl
  have z0 := M3.out.j.best.free 0
  have z1 := M3.out.j.best.free 1
  have z2 := M3.out.j.best.free 2
  have z3 := M3.out.j.best.free 3
  have y0 := M3.out.m.cell 0 rfl
  have q0 := M3.out.m.free 0
  have lb := M3.out.j.best.lt
  rw [rounds_succ]
  go_wp2_with fail
  refine wp_loop_rounds 3 ?_
  rw [rounds_succ]
  go_wp2_with fail
  refine wp_region_past (by kernel_rfl) (by kernel_rfl) ?_
  repeat (go_big_quiet_step (fail))
  refine wpQuiet_nil ?_
  intro xx
  have M4 := Lib.hid (M3.out.below xx.far)
  clear l0 l1 a0 a1 b0 b1 s0 s1 s2 s3 z0 z1 z2 z3 y0 q0 lb
  generalize xx.w = v4 at M4 ⊢
  have l0 := M4.out.j.co.L.cell 0 rfl
  have l1 := M4.out.j.co.L.cell 1 rfl
  have a0 := M4.out.j.co.A.cell 0 rfl
  have a1 := M4.out.j.co.A.cell 1 rfl
  have b0 := M4.out.j.co.B.cell 0 rfl
  have b1 := M4.out.j.co.B.cell 1 rfl
  have s0 := M4.out.j.best.cell 0 rfl
  have s1 := M4.out.j.best.cell 1 rfl
  have s2 := M4.out.j.best.cell 2 rfl
  have s3 := M4.out.j.best.cell 3 rfl
  have z0 := M4.out.j.best.free 0
  have z1 := M4.out.j.best.free 1
  have z2 := M4.out.j.best.free 2
  have z3 := M4.out.j.best.free 3
  have y0 := M4.out.m.cell 0 rfl
  have q0 := M4.out.m.free 0
  have lb := M4.out.j.best.lt
  have MA := Lib.hid (M4.out.alloc (.cells #[.int .i64 0] 3))
  have X := Lib.hid (Blk.new' v4 #[.int .i64 0] 3)
  clear l0 l1 a0 a1 b0 b1 s0 s1 s2 s3 z0 z1 z2 z3 y0 q0 lb
  have y0 := MA.out.m.cell 0 rfl
  have yy := M4.out.m.cell 0 rfl
  go_wp2_with (at_builtin; refine wpList_append_any (.tmp 134) (.tmp 136) 26 rfl rfl (gm + 1) 3 i3 (.int .i64 0) 1 8 Try.underlying26 h3i h3z h3s h3b rfl (by decide) A1 1 c1 [.int .i64 1] (by rfl) MA.out.own (some ⟨v4.heap.size, 0, none⟩) 1 1 [.int .i64 0] (by rfl) (by rfl) (.inr ⟨_, rfl, fun k u hk => by rcases k with _ | k <;> simp at hk; subst hk; exact X.out.cell 0 rfl⟩) (by simp [Value.oneCell']) (by decide) (by decide) (by have := MA.out.m.lt; omega) ?_; intro A2 c2 v hown hgrow hat; have M5 := Lib.hid (show AsM w gL gA gB r gb gm A2 2 c2 [.int .i64 1, .int .i64 0] (v.setCell ⟨gm, 0, none⟩ (.slice A2 2 c2)) from MA.out.push hgrow hown); have MM := (MA.out.mid hgrow).1; clear y0 yy; have y0 := MM.cell 0 rfl; have q0 := MM.free 0; clear MM hown hgrow hat)
  generalize v.setCell ⟨gm, 0, none⟩ (.slice A2 2 c2) = v5 at M5 ⊢
  clear y0 q0
  have l0 := M5.out.j.co.L.cell 0 rfl
  have l1 := M5.out.j.co.L.cell 1 rfl
  have a0 := M5.out.j.co.A.cell 0 rfl
  have a1 := M5.out.j.co.A.cell 1 rfl
  have b0 := M5.out.j.co.B.cell 0 rfl
  have b1 := M5.out.j.co.B.cell 1 rfl
  have s0 := M5.out.j.best.cell 0 rfl
  have s1 := M5.out.j.best.cell 1 rfl
  have s2 := M5.out.j.best.cell 2 rfl
  have s3 := M5.out.j.best.cell 3 rfl
  have z0 := M5.out.j.best.free 0
  have z1 := M5.out.j.best.free 1
  have z2 := M5.out.j.best.free 2
  have z3 := M5.out.j.best.free 3
  have y0 := M5.out.m.cell 0 rfl
  have q0 := M5.out.m.free 0
  have lb := M5.out.j.best.lt
  rw [rounds_succ]
  go_wp2_with fail
  refine (HD gL gA gB _ M5.out.j.co).mono ?_
  rintro e v ⟨R, rn, rc, Q, qn, qc, rfl, hb⟩
  have M6 := Lib.hid (M5.out.below hb)
  clear hb
  clear l0 l1 a0 a1 b0 b1 s0 s1 s2 s3 z0 z1 z2 z3 y0 q0 lb
  have F := Lib.hid (final M6.out R Q rn rc qn qc)
  have y0 := M6.out.m.cell 0 rfl
  have y1 := M6.out.m.cell 1 rfl
  have y2 := M6.out.m.cell 2 rfl
  have y3 := M6.out.m.cell 3 rfl
  have q2 := M6.out.m.free 2
  have q3 := M6.out.m.free 3
  go_upto_region 34 with fail
  generalize (v.setCell ⟨gm, 2, none⟩ (.slice R rn rc)).setCell ⟨gm, 3, none⟩ (.slice Q qn qc) = u at F ⊢
  clear y0 y1 y2 y3 q2 q3
  have y0 := F.out.2.1.cell 0 rfl
  have y1 := F.out.2.1.cell 1 rfl
  have y2 := F.out.2.1.cell 2 rfl
  have y3 := F.out.2.1.cell 3 rfl
  have x0 := F.out.1.cell 0 rfl
  have x1 := F.out.1.cell 1 rfl
  have x2 := F.out.1.cell 2 rfl
  have x3 := F.out.1.cell 3 rfl
  have p0 := F.out.1.free 0
  have p1 := F.out.1.free 1
  have p2 := F.out.1.free 2
  have p3 := F.out.1.free 3
  go_wp2_with fail
  have Z := Lib.hid (final2 F.out HRR.out M6.out.lt.2.2.2.1 _ rfl)
  rw [Exit.noGoto_ret]
  generalize (((u.setCell ⟨r, 0, none⟩ (.slice A2 2 c2)).setCell ⟨r, 1, none⟩ (.int .i64 3)).setCell ⟨r, 2, none⟩ (.slice R rn rc)).setCell ⟨r, 3, none⟩ (.slice Q qn qc) = z at Z ⊢
  clear y0 y1 y2 y3 x0 x1 x2 x3 p0 p1 p2 p3
  have x0 := Z.out.1.cell 0 rfl
  have x1 := Z.out.1.cell 1 rfl
  have x2 := Z.out.1.cell 2 rfl
  have x3 := Z.out.1.cell 3 rfl
  exact bodyPost_ret (v := .tuple #[.agg #[.slice A2 2 c2, .int .i64 3, .slice R rn rc, .slice Q qn qc], .int .i64 0]) (by simp [results, Try.results56, go_sem, x0, x1, x2, x3]) rfl ⟨A2, c2, R, rn, rc, Q, qn, qc, rfl, Z.out.2⟩
end Go.Proofs.Ytmebpglkeedaoaa
namespace Go.Proofs.Ytmebpglkeedaoaa
open Go.RowKit Dp
def duN : Net := ⟨[1, 1, 0, 0, -2], [⟨0, 2, 1, 4⟩, ⟨0, 3, 1, 1⟩, ⟨1, 2, 1, 2⟩, ⟨1, 3, 1, 3⟩, ⟨2, 4, 1, 0⟩, ⟨3, 4, 1, 0⟩]⟩
theorem duN_ch : chE duN = 0 := by decide
theorem duN_flow : isFlow duN [0, 1, 1, 0, 1, 1] = true := by decide
theorem five {p : List Int} (h : p.length = 5) : ∃ a b c d e, p = [a, b, c, d, e] := by
  rcases p with _ | ⟨a, _ | ⟨b, _ | ⟨c, _ | ⟨d, _ | ⟨e, _ | ⟨f, t⟩⟩⟩⟩⟩⟩ <;> simp at h
  exact ⟨a, b, c, d, e, rfl⟩
theorem du_least {w w' : World} {e : Ending} (h : LeastP duN w e w') : ∃ gf gp p0 p1 p2 p3 p4, e = .returned (.tuple #[.slice (some ⟨gf, 0, none⟩) 6 6, .slice (some ⟨gp, 0, none⟩) 5 5, .int .i64 0]) ∧
    Blk w' gp 2 [.int .i64 p0, .int .i64 p1, .int .i64 p2, .int .i64 p3, .int .i64 p4] ∧ w.heap.size ≤ gp ∧ (-1073741824 ≤ p2 ∧ p2 ≤ 1073741824) ∧ (-1073741824 ≤ p3 ∧ p3 ≤ 1073741824) ∧ (-1073741824 ≤ p4 ∧ p4 ≤ 1073741824) := by
  rcases h with ⟨h, _⟩ | ⟨_, gf, gp, fl, p, rfl, _, hp, _, hg, _, _, hl, hb, _⟩ | ⟨_, _, _, _, _, h⟩
  · exact absurd duN_ch h
  · obtain ⟨a, b, c, d, e, rfl⟩ := five hl
    exact ⟨gf, gp, a, b, c, d, e, rfl, hp, hg, potOk_iff.1 (hb 2 (by simp)), potOk_iff.1 (hb 3 (by simp)), potOk_iff.1 (hb 4 (by simp))⟩
  · have := h [0, 1, 1, 0, 1, 1]
    rw [duN_flow] at this
    cases this
theorem BuJ.start {w V : World} {gL gA gB : Nat} (h : CO V gL gA gB) (hb : Below w.heap.size w V) : BuJ w gL gA gB V.heap.size (V.heap.size + 1) none 0 0 [0, 0, 0, 0, 0] [] ((V.alloc (.cells (Array.replicate 5 (.int .i64 0)) 2)).alloc (.cells #[.slice (some ⟨V.heap.size, 0, none⟩) 5 5, .slice none 0 0, .slice none 0 0, .slice none 0 0] 125)) := by
  have b2 := (hb.alloc hb.size (.cells (Array.replicate 5 (.int .i64 0)) 2))
  have b3 := b2.alloc b2.size (.cells #[.slice (some ⟨V.heap.size, 0, none⟩) 5 5, .slice none 0 0, .slice none 0 0, .slice none 0 0] 125)
  have f := fl_new 2 5 V
  have x := Blk.new' (V.alloc (.cells (Array.replicate 5 (.int .i64 0)) 2)) #[.slice (some ⟨V.heap.size, 0, none⟩) 5 5, .slice none 0 0, .slice none 0 0, .slice none 0 0] 125
  refine ⟨⟨(h.L.alloc _).alloc _, (h.A.alloc _).alloc _, (h.B.alloc _).alloc _⟩, ?_, ?_, World.ownsRow_nil _ _ _ _, ⟨h.L.lt, h.A.lt, h.B.lt, Nat.lt_succ_self _, hb.size⟩, b3⟩
  · simpa using x
  · exact Blk.alloc f _
theorem BuJ.net {w W : World} {gL gA gB gs gb cap : Nat} {A : Option Addr} (h : BuJ w gL gA gB gs gb A 6 cap duN.sup duN.arcs W) : NetAt W (some ⟨gs, 0, none⟩) A duN ∧ 6 ≤ cap ∧ cap ≤ 9223372036854775807 := by
  have hA := h.own
  obtain ⟨g, c, hv, hb, hlt⟩ := hA.form (by omega)
  cases hv
  refine ⟨⟨h.s.ints, fun i hi => ?_⟩, ?_⟩
  · have hi6 : i < 6 := hi
    have hc : ∀ j, j < 4 → W.cell? ⟨g, i * 4 + j, none⟩ = (arcV (duN.arcs.getD i default))[j]? := fun j hj => by
      rw [World.ownsRow.cellAt hA (i * 4 + j) (by omega)]
      exact flat_get (f := arcV) (s := 4) (fun _ => rfl) _ _ _ _ (getElem_D _ _ _ hi) hj
    have had : (⟨g, 0, none⟩ : Addr).add (i * 4) = ⟨g, i * 4, none⟩ := by unfold Addr.add; split <;> simp_all
    exact ⟨⟨g, 0, none⟩, rfl, hlt, by rw [had]; exact hc 0 (by omega), by rw [had]; exact hc 1 (by omega), by rw [had]; exact hc 2 (by omega), by rw [had]; exact hc 3 (by omega)⟩
  · rcases hA.2 with ⟨h0, _⟩ | ⟨g', c', cur, hv, _, _, hc1, hc2, _⟩
    · simp at h0
    · cases hv
      unfold maxLen at hc2
      omega
structure PrJ (w : World) (gL gA gB gp : Nat) (p0 p1 p2 p3 p4 : Int) (b : Nat) (A : Option Addr) (n cap : Nat) (cs : List Value) (W : World) : Prop where
  co : CO W gL gA gB
  p : Blk W gp 2 [.int .i64 p0, .int .i64 p1, .int .i64 p2, .int .i64 p3, .int .i64 p4]
  own : W.ownsRow b 2 1 (.slice A n cap) n cs
  lt : gL < b ∧ gA < b ∧ gB < b ∧ gp < b ∧ w.heap.size ≤ b
  bW : b ≤ W.heap.size
  bel : Below w.heap.size w W
section
variable {w W V : World} {gL gA gB gp b n cap n2 cap2 : Nat} {p0 p1 p2 p3 p4 : Int} {A A2 : Option Addr} {cs cs2 : List Value}
theorem PrJ.below (h : PrJ w gL gA gB gp p0 p1 p2 p3 p4 b A n cap cs W) (hb : Below W.heap.size W V) : PrJ w gL gA gB gp p0 p1 p2 p3 p4 b A n cap cs V :=
  ⟨h.co.below hb (Nat.le_refl _), h.p.below hb h.p.lt, ownBelow h.own hb, h.lt, Nat.le_trans h.bW hb.size, h.bel.trans (hb.mono h.bel.size)⟩
theorem PrJ.alloc (h : PrJ w gL gA gB gp p0 p1 p2 p3 p4 b A n cap cs W) (o : Obj) : PrJ w gL gA gB gp p0 p1 p2 p3 p4 b A n cap cs (W.alloc o) :=
  h.below ((Below.refl _ _).alloc (Nat.le_refl _) o)
theorem PrJ.drew (h : PrJ w gL gA gB gp p0 p1 p2 p3 p4 b A n cap cs W) : PrJ w gL gA gB gp p0 p1 p2 p3 p4 b A n cap cs W.drew :=
  h.below (Below.refl _ _).drew
theorem PrJ.other (h : PrJ w gL gA gB gp p0 p1 p2 p3 p4 b A n cap cs W) {row : Option Nat} (hg : W.grownBy V row) (hr : ∀ k, row = some k → b ≤ k) (ho : V.ownsRow b 2 1 (.slice A2 n2 cap2) n2 cs2) : PrJ w gL gA gB gp p0 p1 p2 p3 p4 b A2 n2 cap2 cs2 V := by
  have hne : ∀ k, k < b → some k ≠ row := fun k hk' e => by have := hr k e.symm; omega
  have hl := h.lt
  have hbs := h.bel.size
  exact ⟨⟨h.co.L.grown hg (hne _ (by omega)), h.co.A.grown hg (hne _ (by omega)), h.co.B.grown hg (hne _ (by omega))⟩, h.p.grown hg (hne _ (by omega)), ho, hl, Nat.le_trans h.bW hg.size, h.bel.grown hg hbs (fun k e => by have := hr k e; omega)⟩
theorem PrJ.push (h : PrJ w gL gA gB gp p0 p1 p2 p3 p4 b A n cap cs W) (hg : W.grownBy V (Value.slice A n cap).ownBlock) (ho : V.ownsRow b 2 1 (.slice A2 n2 cap2) n2 cs2) : PrJ w gL gA gB gp p0 p1 p2 p3 p4 b A2 n2 cap2 cs2 V :=
  h.other hg (fun k e => (World.ownsRow.lt h.own k e).1) ho
end
structure RoJ (w : World) (gL gA gB gp : Nat) (p0 p1 p2 p3 p4 : Int) (b g5 cap : Nat) (cs : List Value) (b2 : Nat) (A : Option Addr) (n c2 : Nat) (ds : List Value) (W : World) : Prop where
  p : PrJ w gL gA gB gp p0 p1 p2 p3 p4 b (some ⟨g5, 0, none⟩) 2 cap cs W
  own2 : W.ownsRow b2 2 1 (.slice A n c2) n ds
  lt2 : g5 < b2 ∧ b ≤ b2 ∧ b2 ≤ W.heap.size
section
variable {w W V : World} {gL gA gB gp b g5 cap b2 n c2 n2 c3 : Nat} {p0 p1 p2 p3 p4 : Int} {A A2 : Option Addr} {cs ds ds2 : List Value}
theorem RoJ.below (h : RoJ w gL gA gB gp p0 p1 p2 p3 p4 b g5 cap cs b2 A n c2 ds W) (hb : Below W.heap.size W V) : RoJ w gL gA gB gp p0 p1 p2 p3 p4 b g5 cap cs b2 A n c2 ds V :=
  ⟨h.p.below hb, ownBelow h.own2 hb, h.lt2.1, h.lt2.2.1, Nat.le_trans h.lt2.2.2 hb.size⟩
theorem RoJ.alloc (h : RoJ w gL gA gB gp p0 p1 p2 p3 p4 b g5 cap cs b2 A n c2 ds W) (o : Obj) : RoJ w gL gA gB gp p0 p1 p2 p3 p4 b g5 cap cs b2 A n c2 ds (W.alloc o) :=
  h.below ((Below.refl _ _).alloc (Nat.le_refl _) o)
theorem RoJ.push (h : RoJ w gL gA gB gp p0 p1 p2 p3 p4 b g5 cap cs b2 A n c2 ds W) (hg : W.grownBy V (Value.slice A n c2).ownBlock) (ho : V.ownsRow b2 2 1 (.slice A2 n2 c3) n2 ds2) : RoJ w gL gA gB gp p0 p1 p2 p3 p4 b g5 cap cs b2 A2 n2 c3 ds2 V := by
  have hk : ∀ k, (Value.slice A n c2).ownBlock = some k → b2 ≤ k := fun k e => (World.ownsRow.lt h.own2 k e).1
  have hl := h.lt2
  refine ⟨h.p.other hg (fun k e => by have := hk k e; omega) (ownGrown h.p.own hg (fun k hk' e => ?_)), ho, hl.1, hl.2.1, Nat.le_trans hl.2.2 hg.size⟩
  have h1 := hk k e.symm
  have h2 : k = g5 := ownB_some.1 hk'
  omega
end
set_option maxHeartbeats 4000000 in
set_option maxRecDepth 100000 in
theorem duals_c : DualsC := by
  intro gL gA gB w h
  have H0 := Lib.hid (BuJ.start h (Below.refl w.heap.size w))
  have l0 := h.L.cell 0 rfl
  have l1 := h.L.cell 1 rfl
  clear h
  have hm1 : ∀ W : World, (Instr.makeSlice 22 (.int .i64 5) (.int .i64 5)).run Try.prog W = .ok (.slice (some ⟨W.heap.size, 0, none⟩) 5 5) (W.alloc (.cells (Array.replicate 5 (.int .i64 0)) 2)) := make_64 5 (by omega)
  go_enter Try.func96, Try.ntmps96
  go_upto_region 3 with fail
  have J0 := H0
  clear H0 l0 l1 hm1
  generalize ((w.alloc (.cells (Array.replicate 5 (.int .i64 0)) 2)).alloc (.cells #[.slice (some ⟨w.heap.size, 0, none⟩) 5 5, .slice none 0 0, .slice none 0 0, .slice none 0 0] 125)) = v0 at J0 ⊢
  obtain ⟨gs, hgs⟩ : ∃ g, g = w.heap.size := ⟨_, rfl⟩
  rw [← hgs] at J0 ⊢
  clear hgs
  generalize gs + 1 = gb at J0 ⊢
  have y0 := J0.out.b.cell 0 rfl
  have y1 := J0.out.b.cell 1 rfl
  have l0 := J0.out.co.L.cell 0 rfl
  have l1 := J0.out.co.L.cell 1 rfl
  have a0 := J0.out.co.A.cell 0 rfl
  have a1 := J0.out.co.A.cell 1 rfl
  have b0 := J0.out.co.B.cell 0 rfl
  have b1 := J0.out.co.B.cell 1 rfl
  have s0 : v0.cell? ⟨gs, 0, none⟩ = some (.int .i64 (0)) := Blk.cell J0.out.s 0 rfl
  have z0 := J0.out.s.free 0
  have s1 : v0.cell? ⟨gs, 1, none⟩ = some (.int .i64 (0)) := Blk.cell J0.out.s 1 rfl
  have z1 := J0.out.s.free 1
  have s4 : v0.cell? ⟨gs, 4, none⟩ = some (.int .i64 (0)) := Blk.cell J0.out.s 4 rfl
  have z4 := J0.out.s.free 4
  go_wp2_with fail
  refine wp_loop_rounds 3 ?_
  rw [rounds_succ]
  go_upto_region 6 with fail
  clear y0 y1 l0 l1 a0 a1 b0 b1 s0 s1 s4 z0 z1 z4
  have y0 := J0.out.b.cell 0 rfl
  have y1 := J0.out.b.cell 1 rfl
  have l0 := J0.out.co.L.cell 0 rfl
  have l1 := J0.out.co.L.cell 1 rfl
  have a0 := J0.out.co.A.cell 0 rfl
  have a1 := J0.out.co.A.cell 1 rfl
  have b0 := J0.out.co.B.cell 0 rfl
  have b1 := J0.out.co.B.cell 1 rfl
  have s0 : v0.cell? ⟨gs, 0, none⟩ = some (.int .i64 (0)) := Blk.cell J0.out.s 0 rfl
  have z0 := J0.out.s.free 0
  have s1 : v0.cell? ⟨gs, 1, none⟩ = some (.int .i64 (0)) := Blk.cell J0.out.s 1 rfl
  have z1 := J0.out.s.free 1
  have s4 : v0.cell? ⟨gs, 4, none⟩ = some (.int .i64 (0)) := Blk.cell J0.out.s 4 rfl
  have z4 := J0.out.s.free 4
  go_upto_region 7 with fail
  clear y0 y1 l0 l1 a0 a1 b0 b1 s0 s1 s4 z0 z1 z4
  have J1 := Lib.hid (show BuJ w gL gA gB gs gb none 0 0 [1, 0, 0, 0, 0] [] _ from J0.out.set 0 (1))
  generalize v0.setCell ⟨gs, 0, none⟩ (.int .i64 (1)) = v1 at J1 ⊢
  have y0 := J1.out.b.cell 0 rfl
  have y1 := J1.out.b.cell 1 rfl
  have l0 := J1.out.co.L.cell 0 rfl
  have l1 := J1.out.co.L.cell 1 rfl
  have a0 := J1.out.co.A.cell 0 rfl
  have a1 := J1.out.co.A.cell 1 rfl
  have b0 := J1.out.co.B.cell 0 rfl
  have b1 := J1.out.co.B.cell 1 rfl
  have s0 : v1.cell? ⟨gs, 0, none⟩ = some (.int .i64 (1)) := Blk.cell J1.out.s 0 rfl
  have z0 := J1.out.s.free 0
  have s1 : v1.cell? ⟨gs, 1, none⟩ = some (.int .i64 (0)) := Blk.cell J1.out.s 1 rfl
  have z1 := J1.out.s.free 1
  have s4 : v1.cell? ⟨gs, 4, none⟩ = some (.int .i64 (0)) := Blk.cell J1.out.s 4 rfl
  have z4 := J1.out.s.free 4
  go_upto_region 8 with fail
  clear y0 y1 l0 l1 a0 a1 b0 b1 s0 s1 s4 z0 z1 z4
  have J2 := Lib.hid (show BuJ w gL gA gB gs gb none 0 0 [1, 0, 0, 0, -1] [] _ from J1.out.set 4 (-1))
  generalize v1.setCell ⟨gs, 4, none⟩ (.int .i64 (-1)) = v2 at J2 ⊢
  have y0 := J2.out.b.cell 0 rfl
  have y1 := J2.out.b.cell 1 rfl
  have l0 := J2.out.co.L.cell 0 rfl
  have l1 := J2.out.co.L.cell 1 rfl
  have a0 := J2.out.co.A.cell 0 rfl
  have a1 := J2.out.co.A.cell 1 rfl
  have b0 := J2.out.co.B.cell 0 rfl
  have b1 := J2.out.co.B.cell 1 rfl
  have s0 : v2.cell? ⟨gs, 0, none⟩ = some (.int .i64 (1)) := Blk.cell J2.out.s 0 rfl
  have z0 := J2.out.s.free 0
  have s1 : v2.cell? ⟨gs, 1, none⟩ = some (.int .i64 (0)) := Blk.cell J2.out.s 1 rfl
  have z1 := J2.out.s.free 1
  have s4 : v2.cell? ⟨gs, 4, none⟩ = some (.int .i64 (-1)) := Blk.cell J2.out.s 4 rfl
  have z4 := J2.out.s.free 4
  go_wp2_with fail
  refine wp_loop_rounds 3 ?_
  rw [rounds_succ]
  go_wp2_with fail
  clear y0 y1 l0 l1 a0 a1 b0 b1 s0 s1 s4 z0 z1 z4
  have MA := Lib.hid (J2.out.alloc (.cells #[.int .i64 0, .int .i64 2, .int .i64 1, .int .i64 4] 46))
  have X := Lib.hid (Blk.new' v2 #[.int .i64 0, .int .i64 2, .int .i64 1, .int .i64 4] 46)
  refine (add_c w _ gL gA gB gs gb 0 0 _ none [1, 0, 0, 0, -1] [] ⟨0, 2, 1, 4⟩ (by decide) MA.out X.out rfl).mono ?_
  rintro e v3 ⟨A1, c1, rfl, hj⟩
  have J3 := Lib.hid (show BuJ w gL gA gB gs gb A1 1 c1 [1, 0, 0, 0, -1] [⟨0, 2, 1, 4⟩] v3 from hj)
  clear hj MA X
  have y0 := J3.out.b.cell 0 rfl
  have y1 := J3.out.b.cell 1 rfl
  have l0 := J3.out.co.L.cell 0 rfl
  have l1 := J3.out.co.L.cell 1 rfl
  have a0 := J3.out.co.A.cell 0 rfl
  have a1 := J3.out.co.A.cell 1 rfl
  have b0 := J3.out.co.B.cell 0 rfl
  have b1 := J3.out.co.B.cell 1 rfl
  have s0 : v3.cell? ⟨gs, 0, none⟩ = some (.int .i64 (1)) := Blk.cell J3.out.s 0 rfl
  have z0 := J3.out.s.free 0
  have s1 : v3.cell? ⟨gs, 1, none⟩ = some (.int .i64 (0)) := Blk.cell J3.out.s 1 rfl
  have z1 := J3.out.s.free 1
  have s4 : v3.cell? ⟨gs, 4, none⟩ = some (.int .i64 (-1)) := Blk.cell J3.out.s 4 rfl
  have z4 := J3.out.s.free 4
  go_wp2_with fail
  rw [rounds_succ]
  go_wp2_with fail
  clear y0 y1 l0 l1 a0 a1 b0 b1 s0 s1 s4 z0 z1 z4
  have MA := Lib.hid (J3.out.alloc (.cells #[.int .i64 0, .int .i64 3, .int .i64 1, .int .i64 1] 46))
  have X := Lib.hid (Blk.new' v3 #[.int .i64 0, .int .i64 3, .int .i64 1, .int .i64 1] 46)
  refine (add_c w _ gL gA gB gs gb 1 c1 _ A1 [1, 0, 0, 0, -1] [⟨0, 2, 1, 4⟩] ⟨0, 3, 1, 1⟩ (by decide) MA.out X.out rfl).mono ?_
  rintro e v4 ⟨A2, c2, rfl, hj⟩
  have J4 := Lib.hid (show BuJ w gL gA gB gs gb A2 2 c2 [1, 0, 0, 0, -1] [⟨0, 2, 1, 4⟩, ⟨0, 3, 1, 1⟩] v4 from hj)
  clear hj MA X
  have y0 := J4.out.b.cell 0 rfl
  have y1 := J4.out.b.cell 1 rfl
  have l0 := J4.out.co.L.cell 0 rfl
  have l1 := J4.out.co.L.cell 1 rfl
  have a0 := J4.out.co.A.cell 0 rfl
  have a1 := J4.out.co.A.cell 1 rfl
  have b0 := J4.out.co.B.cell 0 rfl
  have b1 := J4.out.co.B.cell 1 rfl
  have s0 : v4.cell? ⟨gs, 0, none⟩ = some (.int .i64 (1)) := Blk.cell J4.out.s 0 rfl
  have z0 := J4.out.s.free 0
  have s1 : v4.cell? ⟨gs, 1, none⟩ = some (.int .i64 (0)) := Blk.cell J4.out.s 1 rfl
  have z1 := J4.out.s.free 1
  have s4 : v4.cell? ⟨gs, 4, none⟩ = some (.int .i64 (-1)) := Blk.cell J4.out.s 4 rfl
  have z4 := J4.out.s.free 4
  go_wp2_with fail
  rw [rounds_succ]
  go_wp2_with fail
  rw [rounds_succ]
  go_upto_region 6 with fail
  clear y0 y1 l0 l1 a0 a1 b0 b1 s0 s1 s4 z0 z1 z4
  have y0 := J4.out.b.cell 0 rfl
  have y1 := J4.out.b.cell 1 rfl
  have l0 := J4.out.co.L.cell 0 rfl
  have l1 := J4.out.co.L.cell 1 rfl
  have a0 := J4.out.co.A.cell 0 rfl
  have a1 := J4.out.co.A.cell 1 rfl
  have b0 := J4.out.co.B.cell 0 rfl
  have b1 := J4.out.co.B.cell 1 rfl
  have s0 : v4.cell? ⟨gs, 0, none⟩ = some (.int .i64 (1)) := Blk.cell J4.out.s 0 rfl
  have z0 := J4.out.s.free 0
  have s1 : v4.cell? ⟨gs, 1, none⟩ = some (.int .i64 (0)) := Blk.cell J4.out.s 1 rfl
  have z1 := J4.out.s.free 1
  have s4 : v4.cell? ⟨gs, 4, none⟩ = some (.int .i64 (-1)) := Blk.cell J4.out.s 4 rfl
  have z4 := J4.out.s.free 4
  go_upto_region 7 with fail
  clear y0 y1 l0 l1 a0 a1 b0 b1 s0 s1 s4 z0 z1 z4
  have J5 := Lib.hid (show BuJ w gL gA gB gs gb A2 2 c2 [1, 1, 0, 0, -1] [⟨0, 2, 1, 4⟩, ⟨0, 3, 1, 1⟩] _ from J4.out.set 1 (1))
  generalize v4.setCell ⟨gs, 1, none⟩ (.int .i64 (1)) = v5 at J5 ⊢
  have y0 := J5.out.b.cell 0 rfl
  have y1 := J5.out.b.cell 1 rfl
  have l0 := J5.out.co.L.cell 0 rfl
  have l1 := J5.out.co.L.cell 1 rfl
  have a0 := J5.out.co.A.cell 0 rfl
  have a1 := J5.out.co.A.cell 1 rfl
  have b0 := J5.out.co.B.cell 0 rfl
  have b1 := J5.out.co.B.cell 1 rfl
  have s0 : v5.cell? ⟨gs, 0, none⟩ = some (.int .i64 (1)) := Blk.cell J5.out.s 0 rfl
  have z0 := J5.out.s.free 0
  have s1 : v5.cell? ⟨gs, 1, none⟩ = some (.int .i64 (1)) := Blk.cell J5.out.s 1 rfl
  have z1 := J5.out.s.free 1
  have s4 : v5.cell? ⟨gs, 4, none⟩ = some (.int .i64 (-1)) := Blk.cell J5.out.s 4 rfl
  have z4 := J5.out.s.free 4
  go_upto_region 8 with fail
  clear y0 y1 l0 l1 a0 a1 b0 b1 s0 s1 s4 z0 z1 z4
  have J6 := Lib.hid (show BuJ w gL gA gB gs gb A2 2 c2 [1, 1, 0, 0, -2] [⟨0, 2, 1, 4⟩, ⟨0, 3, 1, 1⟩] _ from J5.out.set 4 (-2))
  generalize v5.setCell ⟨gs, 4, none⟩ (.int .i64 (-2)) = v6 at J6 ⊢
  have y0 := J6.out.b.cell 0 rfl
  have y1 := J6.out.b.cell 1 rfl
  have l0 := J6.out.co.L.cell 0 rfl
  have l1 := J6.out.co.L.cell 1 rfl
  have a0 := J6.out.co.A.cell 0 rfl
  have a1 := J6.out.co.A.cell 1 rfl
  have b0 := J6.out.co.B.cell 0 rfl
  have b1 := J6.out.co.B.cell 1 rfl
  have s0 : v6.cell? ⟨gs, 0, none⟩ = some (.int .i64 (1)) := Blk.cell J6.out.s 0 rfl
  have z0 := J6.out.s.free 0
  have s1 : v6.cell? ⟨gs, 1, none⟩ = some (.int .i64 (1)) := Blk.cell J6.out.s 1 rfl
  have z1 := J6.out.s.free 1
  have s4 : v6.cell? ⟨gs, 4, none⟩ = some (.int .i64 (-2)) := Blk.cell J6.out.s 4 rfl
  have z4 := J6.out.s.free 4
  go_wp2_with fail
  refine wp_loop_rounds 3 ?_
  rw [rounds_succ]
  go_wp2_with fail
  clear y0 y1 l0 l1 a0 a1 b0 b1 s0 s1 s4 z0 z1 z4
  have MA := Lib.hid (J6.out.alloc (.cells #[.int .i64 1, .int .i64 2, .int .i64 1, .int .i64 2] 46))
  have X := Lib.hid (Blk.new' v6 #[.int .i64 1, .int .i64 2, .int .i64 1, .int .i64 2] 46)
  refine (add_c w _ gL gA gB gs gb 2 c2 _ A2 [1, 1, 0, 0, -2] [⟨0, 2, 1, 4⟩, ⟨0, 3, 1, 1⟩] ⟨1, 2, 1, 2⟩ (by decide) MA.out X.out rfl).mono ?_
  rintro e v7 ⟨A3, c3, rfl, hj⟩
  have J7 := Lib.hid (show BuJ w gL gA gB gs gb A3 3 c3 [1, 1, 0, 0, -2] [⟨0, 2, 1, 4⟩, ⟨0, 3, 1, 1⟩, ⟨1, 2, 1, 2⟩] v7 from hj)
  clear hj MA X
  have y0 := J7.out.b.cell 0 rfl
  have y1 := J7.out.b.cell 1 rfl
  have l0 := J7.out.co.L.cell 0 rfl
  have l1 := J7.out.co.L.cell 1 rfl
  have a0 := J7.out.co.A.cell 0 rfl
  have a1 := J7.out.co.A.cell 1 rfl
  have b0 := J7.out.co.B.cell 0 rfl
  have b1 := J7.out.co.B.cell 1 rfl
  have s0 : v7.cell? ⟨gs, 0, none⟩ = some (.int .i64 (1)) := Blk.cell J7.out.s 0 rfl
  have z0 := J7.out.s.free 0
  have s1 : v7.cell? ⟨gs, 1, none⟩ = some (.int .i64 (1)) := Blk.cell J7.out.s 1 rfl
  have z1 := J7.out.s.free 1
  have s4 : v7.cell? ⟨gs, 4, none⟩ = some (.int .i64 (-2)) := Blk.cell J7.out.s 4 rfl
  have z4 := J7.out.s.free 4
  go_wp2_with fail
  rw [rounds_succ]
  go_wp2_with fail
  clear y0 y1 l0 l1 a0 a1 b0 b1 s0 s1 s4 z0 z1 z4
  have MA := Lib.hid (J7.out.alloc (.cells #[.int .i64 1, .int .i64 3, .int .i64 1, .int .i64 3] 46))
  have X := Lib.hid (Blk.new' v7 #[.int .i64 1, .int .i64 3, .int .i64 1, .int .i64 3] 46)
  refine (add_c w _ gL gA gB gs gb 3 c3 _ A3 [1, 1, 0, 0, -2] [⟨0, 2, 1, 4⟩, ⟨0, 3, 1, 1⟩, ⟨1, 2, 1, 2⟩] ⟨1, 3, 1, 3⟩ (by decide) MA.out X.out rfl).mono ?_
  rintro e v8 ⟨A4, c4, rfl, hj⟩
  have J8 := Lib.hid (show BuJ w gL gA gB gs gb A4 4 c4 [1, 1, 0, 0, -2] [⟨0, 2, 1, 4⟩, ⟨0, 3, 1, 1⟩, ⟨1, 2, 1, 2⟩, ⟨1, 3, 1, 3⟩] v8 from hj)
  clear hj MA X
  have y0 := J8.out.b.cell 0 rfl
  have y1 := J8.out.b.cell 1 rfl
  have l0 := J8.out.co.L.cell 0 rfl
  have l1 := J8.out.co.L.cell 1 rfl
  have a0 := J8.out.co.A.cell 0 rfl
  have a1 := J8.out.co.A.cell 1 rfl
  have b0 := J8.out.co.B.cell 0 rfl
  have b1 := J8.out.co.B.cell 1 rfl
  have s0 : v8.cell? ⟨gs, 0, none⟩ = some (.int .i64 (1)) := Blk.cell J8.out.s 0 rfl
  have z0 := J8.out.s.free 0
  have s1 : v8.cell? ⟨gs, 1, none⟩ = some (.int .i64 (1)) := Blk.cell J8.out.s 1 rfl
  have z1 := J8.out.s.free 1
  have s4 : v8.cell? ⟨gs, 4, none⟩ = some (.int .i64 (-2)) := Blk.cell J8.out.s 4 rfl
  have z4 := J8.out.s.free 4
  go_wp2_with fail
  rw [rounds_succ]
  go_wp2_with fail
  rw [rounds_succ]
  go_wp2_with fail
  refine wp_loop_rounds 3 ?_
  rw [rounds_succ]
  go_wp2_with fail
  clear y0 y1 l0 l1 a0 a1 b0 b1 s0 s1 s4 z0 z1 z4
  have MA := Lib.hid (J8.out.alloc (.cells #[.int .i64 2, .int .i64 4, .int .i64 1, .int .i64 0] 46))
  have X := Lib.hid (Blk.new' v8 #[.int .i64 2, .int .i64 4, .int .i64 1, .int .i64 0] 46)
  refine (add_c w _ gL gA gB gs gb 4 c4 _ A4 [1, 1, 0, 0, -2] [⟨0, 2, 1, 4⟩, ⟨0, 3, 1, 1⟩, ⟨1, 2, 1, 2⟩, ⟨1, 3, 1, 3⟩] ⟨2, 4, 1, 0⟩ (by decide) MA.out X.out rfl).mono ?_
  rintro e v9 ⟨A5, c5, rfl, hj⟩
  have J9 := Lib.hid (show BuJ w gL gA gB gs gb A5 5 c5 [1, 1, 0, 0, -2] [⟨0, 2, 1, 4⟩, ⟨0, 3, 1, 1⟩, ⟨1, 2, 1, 2⟩, ⟨1, 3, 1, 3⟩, ⟨2, 4, 1, 0⟩] v9 from hj)
  clear hj MA X
  have y0 := J9.out.b.cell 0 rfl
  have y1 := J9.out.b.cell 1 rfl
  have l0 := J9.out.co.L.cell 0 rfl
  have l1 := J9.out.co.L.cell 1 rfl
  have a0 := J9.out.co.A.cell 0 rfl
  have a1 := J9.out.co.A.cell 1 rfl
  have b0 := J9.out.co.B.cell 0 rfl
  have b1 := J9.out.co.B.cell 1 rfl
  have s0 : v9.cell? ⟨gs, 0, none⟩ = some (.int .i64 (1)) := Blk.cell J9.out.s 0 rfl
  have z0 := J9.out.s.free 0
  have s1 : v9.cell? ⟨gs, 1, none⟩ = some (.int .i64 (1)) := Blk.cell J9.out.s 1 rfl
  have z1 := J9.out.s.free 1
  have s4 : v9.cell? ⟨gs, 4, none⟩ = some (.int .i64 (-2)) := Blk.cell J9.out.s 4 rfl
  have z4 := J9.out.s.free 4
  go_wp2_with fail
  rw [rounds_succ]
  go_wp2_with fail
  clear y0 y1 l0 l1 a0 a1 b0 b1 s0 s1 s4 z0 z1 z4
  have MA := Lib.hid (J9.out.alloc (.cells #[.int .i64 3, .int .i64 4, .int .i64 1, .int .i64 0] 46))
  have X := Lib.hid (Blk.new' v9 #[.int .i64 3, .int .i64 4, .int .i64 1, .int .i64 0] 46)
  refine (add_c w _ gL gA gB gs gb 5 c5 _ A5 [1, 1, 0, 0, -2] [⟨0, 2, 1, 4⟩, ⟨0, 3, 1, 1⟩, ⟨1, 2, 1, 2⟩, ⟨1, 3, 1, 3⟩, ⟨2, 4, 1, 0⟩] ⟨3, 4, 1, 0⟩ (by decide) MA.out X.out rfl).mono ?_
  rintro e v10 ⟨A6, c6, rfl, hj⟩
  have J10 := Lib.hid (show BuJ w gL gA gB gs gb A6 6 c6 [1, 1, 0, 0, -2] [⟨0, 2, 1, 4⟩, ⟨0, 3, 1, 1⟩, ⟨1, 2, 1, 2⟩, ⟨1, 3, 1, 3⟩, ⟨2, 4, 1, 0⟩, ⟨3, 4, 1, 0⟩] v10 from hj)
  clear hj MA X
  have y0 := J10.out.b.cell 0 rfl
  have y1 := J10.out.b.cell 1 rfl
  have l0 := J10.out.co.L.cell 0 rfl
  have l1 := J10.out.co.L.cell 1 rfl
  have a0 := J10.out.co.A.cell 0 rfl
  have a1 := J10.out.co.A.cell 1 rfl
  have b0 := J10.out.co.B.cell 0 rfl
  have b1 := J10.out.co.B.cell 1 rfl
  have s0 : v10.cell? ⟨gs, 0, none⟩ = some (.int .i64 (1)) := Blk.cell J10.out.s 0 rfl
  have z0 := J10.out.s.free 0
  have s1 : v10.cell? ⟨gs, 1, none⟩ = some (.int .i64 (1)) := Blk.cell J10.out.s 1 rfl
  have z1 := J10.out.s.free 1
  have s4 : v10.cell? ⟨gs, 4, none⟩ = some (.int .i64 (-2)) := Blk.cell J10.out.s 4 rfl
  have z4 := J10.out.s.free 4
  go_wp2_with fail
  rw [rounds_succ]
  go_wp2_with fail
  clear y0 y1 l0 l1 a0 a1 b0 b1 s0 s1 s4 z0 z1 z4
  have NT := Lib.hid (BuJ.net J10.out)
  refine (Least_c _ _ duN 5 6 5 c6 _ rfl rfl (by omega) NT.out.2 NT.out.1).mono ?_
  rintro e v ⟨hL, hb⟩
  obtain ⟨gf, gp, p0, p1, p2, p3, p4, rfl, hp, hg, B2, B3, B4⟩ := du_least hL
  have HBV := Lib.hid (J10.out.bel.trans (hb.mono J10.out.bel.size))
  have P0 : Hid (PrJ w gL gA gB gp p0 p1 p2 p3 p4 v.heap.size none 0 0 [] v) := Lib.hid ⟨J10.out.co.below hb (Nat.le_refl _), hp, World.ownsRow_nil _ _ _ _, ⟨(J10.out.co.below hb (Nat.le_refl _)).L.lt, (J10.out.co.below hb (Nat.le_refl _)).A.lt, (J10.out.co.below hb (Nat.le_refl _)).B.lt, hp.lt, HBV.out.size⟩, Nat.le_refl _, HBV.out⟩
  clear hL hp hg hb HBV NT
  obtain ⟨d0, D0⟩ : ∃ d : Int, Hid (IntKind.i64.wrap (p2 - p4) = d ∧ -4294967296 ≤ d ∧ d ≤ 4294967296) := ⟨p2 - p4, Lib.hid ⟨IntWalk.i64_in (p2 - p4) (by omega), by omega, by omega⟩⟩
  obtain ⟨d1, D1⟩ : ∃ d : Int, Hid (IntKind.i64.wrap (p3 - p4) = d ∧ -4294967296 ≤ d ∧ d ≤ 4294967296) := ⟨p3 - p4, Lib.hid ⟨IntWalk.i64_in (p3 - p4) (by omega), by omega, by omega⟩⟩
  clear B2 B3 B4
  obtain ⟨q0, Q0⟩ : ∃ q : Int, Hid ((∀ ts t W, (Builtin.min_ ts t #[.int .i64 0, .int .i64 d0]).run Try.prog W = .ok (.int .i64 q) W) ∧ -4294967296 ≤ q ∧ q ≤ 0) := ⟨min 0 d0, Lib.hid ⟨fun ts t W => min_i64 0 d0 ts t W, by have := D0.out; omega, by omega⟩⟩
  obtain ⟨q1, Q1⟩ : ∃ q : Int, Hid ((∀ ts t W, (Builtin.min_ ts t #[.int .i64 0, .int .i64 d1]).run Try.prog W = .ok (.int .i64 q) W) ∧ -4294967296 ≤ q ∧ q ≤ 0) := ⟨min 0 d1, Lib.hid ⟨fun ts t W => min_i64 0 d1 ts t W, by have := D1.out; omega, by omega⟩⟩
  generalize hbp : v.heap.size = bp at P0 ⊢
  clear hbp
  obtain ⟨i2, h2i, h2z, h2s, h2b⟩ := info_parts info2
  go_wp2_with fail
  refine wp_loop_rounds 3 ?_
  rw [rounds_succ]
  go_upto_region 24 with fail
  refine wp_region_spine 14 [true, false] [0] ?af0 (fun V => PrJ w gL gA gB gp p0 p1 p2 p3 p4 bp none 0 0 [] V) (by kernel_rfl) (by kernel_rfl) P0.out.drew ?walk0 ?_
  case walk0 =>
    intro V hV
    have k0 := hV.p.cell 2 rfl
    have k4 := hV.p.cell 4 rfl
    have e0 := D0.out.1
    have hmx := Q0.out.1
    clear hV
    simp only [List.take_succ_cons, List.take_zero]
    repeat (go_big_quiet_step (fail))
    refine wpQuiet_nil ?_
    rfl
  intro u hV
  have PV := Lib.hid hV
  clear hV
  refine spineV_cons ?_
  unfold StepV
  go_simp
  refine ⟨PV.out.alloc _, ?_⟩
  have PA := Lib.hid (PV.out.alloc (.cells #[.int .i64 q0] 2))
  have X := Lib.hid (Blk.new' u #[.int .i64 q0] 2)
  generalize u.alloc (.cells #[.int .i64 q0] 2) = u2 at PA X ⊢
  generalize u.heap.size = gu at *
  refine spineV_cons ?_
  refine stepV_append (.tmp 104) (.tmp 118) 22 rfl bp 2 i2 (.int .i64 0) 1 8 Try.underlying22 h2i h2z h2s h2b rfl (by decide) none 0 0 [] (by rfl) PA.out.own (some ⟨gu, 0, none⟩) 1 1 [.int .i64 q0] (by rfl) (by rfl) (.inr ⟨_, rfl, ?_⟩) (by simp [Value.oneCell']) (by decide) (by decide) PA.out.bW ?_
  · intro j u' hj
    rcases j with _ | j <;> simp at hj
    subst hj
    exact X.out.cell 0 rfl
  intro B1 e1 v1 ho hg hk
  refine ⟨fun h => (by cases h), ?_⟩
  have P1 := Lib.hid (show PrJ w gL gA gB gp p0 p1 p2 p3 p4 bp B1 1 e1 [.int .i64 q0] v1 from PA.out.push hg ho)
  clear ho hg hk PA X PV
  refine spineV_nil ?_
  go_wp2_with fail
  rw [rounds_succ]
  go_upto_region 24 with fail
  refine wp_region_spine 14 [true, false] [0] ?af1 (fun V => PrJ w gL gA gB gp p0 p1 p2 p3 p4 bp B1 1 e1 [.int .i64 q0] V) (by kernel_rfl) (by kernel_rfl) P1.out.drew ?walk1 ?_
  case walk1 =>
    intro V hV
    have k1 := hV.p.cell 3 rfl
    have k4 := hV.p.cell 4 rfl
    have e0 := D1.out.1
    have hmx := Q1.out.1
    clear hV
    simp only [List.take_succ_cons, List.take_zero]
    repeat (go_big_quiet_step (fail))
    refine wpQuiet_nil ?_
    rfl
  intro u hV
  have PV := Lib.hid hV
  clear hV
  refine spineV_cons ?_
  unfold StepV
  go_simp
  refine ⟨PV.out.alloc _, ?_⟩
  have PA := Lib.hid (PV.out.alloc (.cells #[.int .i64 q1] 2))
  have X := Lib.hid (Blk.new' u #[.int .i64 q1] 2)
  generalize u.alloc (.cells #[.int .i64 q1] 2) = u2 at PA X ⊢
  generalize u.heap.size = gu at *
  refine spineV_cons ?_
  refine stepV_append (.tmp 104) (.tmp 118) 22 rfl bp 2 i2 (.int .i64 0) 1 8 Try.underlying22 h2i h2z h2s h2b rfl (by decide) B1 1 e1 [.int .i64 q0] (by rfl) PA.out.own (some ⟨gu, 0, none⟩) 1 1 [.int .i64 q1] (by rfl) (by rfl) (.inr ⟨_, rfl, ?_⟩) (by simp [Value.oneCell']) (by decide) (by decide) PA.out.bW ?_
  · intro j u' hj
    rcases j with _ | j <;> simp at hj
    subst hj
    exact X.out.cell 0 rfl
  intro B2 e2 v2 ho hg hk
  refine ⟨fun h => (by cases h), ?_⟩
  have P2 := Lib.hid (show PrJ w gL gA gB gp p0 p1 p2 p3 p4 bp B2 2 e2 [.int .i64 q0, .int .i64 q1] v2 from PA.out.push hg ho)
  clear ho hg hk PA X PV
  refine spineV_nil ?_
  go_wp2_with fail
  rw [rounds_succ]
  go_wp2_with fail
  obtain ⟨g5, c5, hv, hb5, hlt5⟩ := P2.out.own.form (by omega)
  cases hv
  have R0 : Hid (RoJ w gL gA gB gp p0 p1 p2 p3 p4 bp g5 e2 [.int .i64 q0, .int .i64 q1] v2.heap.size none 0 0 [] v2) := Lib.hid ⟨P2.out, World.ownsRow_nil _ _ _ _, hlt5, P2.out.bW, Nat.le_refl _⟩
  clear hb5 hlt5
  obtain ⟨b2, hb2⟩ : ∃ b, b = v2.heap.size := ⟨_, rfl⟩
  rw [← hb2] at R0
  clear hb2
  obtain ⟨s00, S00⟩ : ∃ d : Int, Hid (IntKind.i64.wrap (4 - q0) = d) := ⟨_, Lib.hid rfl⟩
  obtain ⟨x00, X00⟩ : ∃ q : Int, Hid (∀ ts t W, (Builtin.min_ ts t #[.int .i64 1152921504606846976, .int .i64 s00]).run Try.prog W = .ok (.int .i64 q) W) := ⟨_, Lib.hid fun ts t W => min_i64 _ _ ts t W⟩
  obtain ⟨s01, S01⟩ : ∃ d : Int, Hid (IntKind.i64.wrap (1 - q1) = d) := ⟨_, Lib.hid rfl⟩
  obtain ⟨x01, X01⟩ : ∃ q : Int, Hid (∀ ts t W, (Builtin.min_ ts t #[.int .i64 x00, .int .i64 s01]).run Try.prog W = .ok (.int .i64 q) W) := ⟨_, Lib.hid fun ts t W => min_i64 _ _ ts t W⟩
  obtain ⟨s10, S10⟩ : ∃ d : Int, Hid (IntKind.i64.wrap (2 - q0) = d) := ⟨_, Lib.hid rfl⟩
  obtain ⟨x10, X10⟩ : ∃ q : Int, Hid (∀ ts t W, (Builtin.min_ ts t #[.int .i64 1152921504606846976, .int .i64 s10]).run Try.prog W = .ok (.int .i64 q) W) := ⟨_, Lib.hid fun ts t W => min_i64 _ _ ts t W⟩
  obtain ⟨s11, S11⟩ : ∃ d : Int, Hid (IntKind.i64.wrap (3 - q1) = d) := ⟨_, Lib.hid rfl⟩
  obtain ⟨x11, X11⟩ : ∃ q : Int, Hid (∀ ts t W, (Builtin.min_ ts t #[.int .i64 x10, .int .i64 s11]).run Try.prog W = .ok (.int .i64 q) W) := ⟨_, Lib.hid fun ts t W => min_i64 _ _ ts t W⟩
  refine wp_loop_rounds 3 ?_
  rw [rounds_succ]
  have l0 := R0.out.p.co.L.cell 0 rfl
  have l1 := R0.out.p.co.L.cell 1 rfl
  have a0 := R0.out.p.co.A.cell 0 rfl
  have a1 := R0.out.p.co.A.cell 1 rfl
  have b0 := R0.out.p.co.B.cell 0 rfl
  have b1 := R0.out.p.co.B.cell 1 rfl
  have f0 : v2.cell? ⟨g5, 0, none⟩ = some (.int .i64 q0) := World.ownsRow.cellAt R0.out.p.own 0 (by omega)
  have f1 : v2.cell? ⟨g5, 1, none⟩ = some (.int .i64 q1) := World.ownsRow.cellAt R0.out.p.own 1 (by omega)
  go_wp2_with fail
  refine wp_loop_rounds 3 ?_
  have t1 := S00.out
  have t2 := X00.out
  rw [rounds_succ]
  go_wp2_with fail
  clear t1 t2
  have t1 := S01.out
  have t2 := X01.out
  rw [rounds_succ]
  go_wp2_with fail
  clear t1 t2
  clear l0 l1 a0 a1 b0 b1 f0 f1
  have MA := Lib.hid (R0.out.alloc (.cells #[.int .i64 x01] 2))
  have X := Lib.hid (Blk.new' v2 #[.int .i64 x01] 2)
  rw [rounds_succ]
  go_wp2_with (at_builtin; refine wpList_append_any (.tmp 145) (.tmp 147) 22 rfl rfl b2 2 i2 (.int .i64 0) 1 8 Try.underlying22 h2i h2z h2s h2b rfl (by decide) none 0 0 [] (by rfl) MA.out.own2 (some ⟨v2.heap.size, 0, none⟩) 1 1 [.int .i64 x01] (by rfl) (by rfl) (.inr ⟨_, rfl, fun k u hk => by rcases k with _ | k <;> simp at hk; subst hk; exact X.out.cell 0 rfl⟩) (by simp [Value.oneCell']) (by decide) (by decide) MA.out.lt2.2.2 ?_; intro C1 k1 r1 hown hgrow hat; have R1 := Lib.hid (show RoJ w gL gA gB gp p0 p1 p2 p3 p4 bp g5 e2 [.int .i64 q0, .int .i64 q1] b2 C1 1 k1 [.int .i64 x01] r1 from MA.out.push hgrow hown); clear hown hgrow hat MA X)
  rw [rounds_succ]
  have l0 := R1.out.p.co.L.cell 0 rfl
  have l1 := R1.out.p.co.L.cell 1 rfl
  have a0 := R1.out.p.co.A.cell 0 rfl
  have a1 := R1.out.p.co.A.cell 1 rfl
  have b0 := R1.out.p.co.B.cell 0 rfl
  have b1 := R1.out.p.co.B.cell 1 rfl
  have f0 : r1.cell? ⟨g5, 0, none⟩ = some (.int .i64 q0) := World.ownsRow.cellAt R1.out.p.own 0 (by omega)
  have f1 : r1.cell? ⟨g5, 1, none⟩ = some (.int .i64 q1) := World.ownsRow.cellAt R1.out.p.own 1 (by omega)
  go_wp2_with fail
  refine wp_loop_rounds 3 ?_
  have t1 := S10.out
  have t2 := X10.out
  rw [rounds_succ]
  go_wp2_with fail
  clear t1 t2
  have t1 := S11.out
  have t2 := X11.out
  rw [rounds_succ]
  go_wp2_with fail
  clear t1 t2
  clear l0 l1 a0 a1 b0 b1 f0 f1
  have MA := Lib.hid (R1.out.alloc (.cells #[.int .i64 x11] 2))
  have X := Lib.hid (Blk.new' r1 #[.int .i64 x11] 2)
  rw [rounds_succ]
  go_wp2_with (at_builtin; refine wpList_append_any (.tmp 145) (.tmp 147) 22 rfl rfl b2 2 i2 (.int .i64 0) 1 8 Try.underlying22 h2i h2z h2s h2b rfl (by decide) C1 1 k1 [.int .i64 x01] (by rfl) MA.out.own2 (some ⟨r1.heap.size, 0, none⟩) 1 1 [.int .i64 x11] (by rfl) (by rfl) (.inr ⟨_, rfl, fun k u hk => by rcases k with _ | k <;> simp at hk; subst hk; exact X.out.cell 0 rfl⟩) (by simp [Value.oneCell']) (by decide) (by decide) MA.out.lt2.2.2 ?_; intro C2 k2 r2 hown hgrow hat; have R2 := Lib.hid (show RoJ w gL gA gB gp p0 p1 p2 p3 p4 bp g5 e2 [.int .i64 q0, .int .i64 q1] b2 C2 2 k2 [.int .i64 x01, .int .i64 x11] r2 from MA.out.push hgrow hown); clear hown hgrow hat MA X)
  rw [rounds_succ]
  go_wp2_with fail
  exact bodyPost_ret (v := .tuple #[.slice C2 2 k2, .slice (some ⟨g5, 0, none⟩) 2 e2]) (by simp [results, Try.results96, go_sem]) rfl ⟨_, _, _, _, _, _, rfl, R2.out.p.bel⟩
end Go.Proofs.Ytmebpglkeedaoaa
namespace Go.Proofs.Ytmebpglkeedaoaa
open Go.RowKit Dp
theorem lkA_bd {N : Net} {c : List Int} (h : chE N = 0) (hc : ∀ k, k < c.length → cutAt N.sup.length c k = true) : ∀ j : Nat, j ≤ N.arcs.length → -(274877906944 + 1048576 * j : Int) ≤ lkA N c j ∧ lkA N c j ≤ 274877906944
  | 0, _ => by
    have h1 := lkS_bd h c.length hc
    have h2 := cut_lt c.length hc
    have h3 := net_len h
    simp only [lkA]
    omega
  | j + 1, hj => by
    have ih := lkA_bd h hc j (by omega)
    obtain ⟨a1, a2, a3, a4, a5⟩ := net_arc h j (by omega)
    simp only [lkA]
    rw [Int.natCast_add]
    split <;> omega
end Go.Proofs.Ytmebpglkeedaoaa
namespace Go.Proofs.Ytmebpglkeedaoaa
open Go.RowKit Dp
theorem lkR_bd {N : Net} {c : List Int} (h : chE N = 0) (p : Nat) : ∀ j : Nat, j ≤ N.sup.length → -(268435456 * j : Int) ≤ lkR N c p j ∧ lkR N c p j ≤ 268435456 * j
  | 0, _ => by simp [lkR]
  | j + 1, hj => by
    have ih := lkR_bd (c := c) h p j (by omega)
    have h2 := net_sup h j (by omega)
    simp only [lkR]
    rw [Int.natCast_add]
    split <;> omega
theorem cutAt_no0 {n : Nat} {c : List Int} {k : Nat} (h : c.getD k 0 < 0 ∨ (n : Int) ≤ c.getD k 0) : cutAt n c k = false := by
  cases hb : cutAt n c k
  · rfl
  · have := cutAt_iff.1 hb; omega
theorem cutAt_no1 {n : Nat} {c : List Int} {k : Nat} (h0 : 0 < k) (h : c.getD k 0 ≤ c.getD (k - 1) 0) : cutAt n c k = false := by
  cases hb : cutAt n c k
  · rfl
  · have := (cutAt_iff.1 hb).2.2 h0; omega
set_option maxHeartbeats 2000000 in
set_option maxRecDepth 100000 in
theorem LacksR_c (A B C : Option Addr) (N : Net) (c : List Int) (n m p cA cB cC : Nat) (w : World) (hn : n = N.sup.length) (hm : m = N.arcs.length) (hp : p = c.length) (hA : n ≤ cA ∧ cA ≤ 9223372036854775807) (hB : m ≤ cB ∧ cB ≤ 9223372036854775807) (hC : p ≤ cC ∧ cC ≤ 9223372036854775807) (hN : NetAt w A B N) (hF : IntsAt w C c) :
    Calls Try.prog 19 #[.agg #[.slice A n cA, .slice B m cB], .slice C p cC] w fun e w' => e = .returned (.tuple #[.int .i64 (lkV N c), .int .i64 (lkE N c)]) ∧ Below w.heap.size w w' := by
  have HN := Lib.hid hn
  have HM := Lib.hid hm
  have HP := Lib.hid hp
  have HNA := Lib.hid hN
  have HFA := Lib.hid hF
  clear hn hm hp hN hF
  have B1 := Lib.hid (Blk.new' w #[.slice A n cA, .slice B m cB] 25)
  have HB1 := Lib.hid ((Below.refl w.heap.size w).alloc (Nat.le_refl _) (.cells #[.slice A n cA, .slice B m cB] 25))
  go_enter Try.func19, Try.ntmps19
  go_wp2_with fail
  generalize w.alloc (.cells #[.slice A n cA, .slice B m cB] 25) = w1 at B1 HB1 ⊢
  refine (CheckR_c A B N n m cA cB w1 HN.out HM.out hA hB (HNA.out.below HB1.out (Nat.le_refl _))).mono ?_
  rintro e w2 ⟨rfl, hb2⟩
  have B2 := Lib.hid (B1.out.below hb2 B1.out.lt)
  have HB2 := Lib.hid (HB1.out.trans (hb2.mono HB1.out.size))
  clear hb2 B1 HB1
  have cA0 := B2.out.cell 0 rfl
  have cB0 := B2.out.cell 1 rfl
  by_cases hch : chE N = 0
  · have hce := net_len hch
    rw [hch]
    have n1 : 1 ≤ n := by rw [HN.out]; exact hce.1
    have n2 : n ≤ 1024 := by rw [HN.out]; exact hce.2.1
    have m2 : m ≤ 2048 := by rw [HM.out]; exact hce.2.2
    have HCH := Lib.hid hch
    clear hch hce
    have hmk := make_bools n (by omega)
    have zg : w.heap.size < w2.heap.size := B2.out.lt
    have J3 : Hid (LkJ w A B n cA m cB w2.heap.size c 0 (w2.alloc (.cells (Array.replicate n (.bool false)) 4))) := Lib.hid ⟨HB2.out.alloc HB2.out.size _, B2.out.alloc _, by
      rw [marks_zero]
      have := Blk.new' w2 (Array.replicate n (.bool false)) 4
      simpa using this⟩
    go_wp2_with fail
    generalize w2.alloc (.cells (Array.replicate n (.bool false)) 4) = w3 at J3 ⊢
    generalize w2.heap.size = g at *
    clear hmk cA0 cB0
    have SC : Hid (∀ W, Below w.heap.size w W → ∀ k, k < n → ∃ aS, A = some aS ∧ W.cell? (aS.add k) = some (.int .i64 (N.sup.getD k 0))) := Lib.hid (fun W h k hk => by
      obtain ⟨a', e, hb, hc⟩ := HNA.out.1 k (by rw [← HN.out]; exact hk)
      exact ⟨a', e, (h.cell (by rw [block_add]; exact hb)).trans hc⟩)
    have FC : Hid (∀ W, Below w.heap.size w W → ∀ k, k < p → ∃ aC, C = some aC ∧ W.cell? (aC.add k) = some (.int .i64 (c.getD k 0)) ∧ (aC.add k).block < W.heap.size) := Lib.hid (fun W h k hk => by
      obtain ⟨a', e, hb, hc⟩ := HFA.out k (by rw [← HP.out]; exact hk)
      exact ⟨a', e, (h.cell (by rw [block_add]; exact hb)).trans hc, by rw [block_add]; have := h.size; omega⟩)
    go_loopw [7] (fun i wr => ∃ k : Nat, k ≤ p ∧ i = .int .i64 k ∧ Hid (LkJ w A B n cA m cB g c k wr) ∧ Hid (∀ x, x < k → cutAt n c x = true)) (fun i _ => p - (intOf i).toNat)
    case atStart => exact ⟨0, Nat.zero_le _, rfl, J3, Lib.hid (fun x hx => absurd hx (Nat.not_lt_zero _))⟩
    case round =>
      obtain ⟨k, hk, rfl, HJ, HK⟩ := hrel
      have hkn := cut_lt k HK.out
      have cA0 := HJ.out.2.1.cell 0 rfl
      have cB0 := HJ.out.2.1.cell 1 rfl
      have bg : w.heap.size < wr.heap.size := HJ.out.2.1.lt
      by_cases hlt : k < p
      · obtain ⟨aC, rfl, hcc, hcb⟩ := FC.out _ HJ.out.1 k hlt
        have ENO := Lib.hid (fun h => lk_no (c := c) HCH.out k (by rw [← HP.out]; exact hlt) (by rw [← HN.out]; exact h))
        have HMK := Lib.hid (fun W (h : LkJ w A B n cA m cB g c k W) hc => h.mark zg (by rw [← HP.out]; exact hlt) hc)
        have NO0 := Lib.hid (cutAt_no0 (n := n) (c := c) (k := k))
        have NO1 := Lib.hid (cutAt_no1 (n := n) (c := c) (k := k))
        have YES := Lib.hid (cutAt_iff (n := n) (c := c) (k := k))
        have F1 := Lib.hid (fun (h0 : 0 < k) => FC.out _ HJ.out.1 (k - 1) (by omega))
        generalize hx : c.getD k 0 = x at *
        have HX := Lib.hid hx
        clear hx
        generalize c.getD (k - 1) 0 = y at *
        have k0 : (0 : Int) ≤ (k : Int) := by omega
        have kx : (k : Int) < (p : Int) := by omega
        by_cases h1 : x < 0
        · have E := Lib.hid (ENO.out (NO0.out (.inl h1)))
          have d1 : decide (x < 0) = true := decide_eq_true h1
          go_wp2_with fail
          refine wp_region_past (by kernel_rfl) (by kernel_rfl) ?_
          repeat (go_big_quiet_step (fail))
          refine wpQuiet_nil ?_
          intro xx
          have HXX := Lib.hid xx.far
          generalize xx.w = w4 at HXX ⊢
          go_wp2
          go_ret2
          exact ⟨ret2 E.out.2.symm E.out.1.symm, (HJ.out.below HXX.out).1⟩
        have d1 : decide (x < 0) = false := decide_eq_false h1
        by_cases h2 : (n : Int) ≤ x
        · have E := Lib.hid (ENO.out (NO0.out (.inr h2)))
          have d2 : decide ((n : Int) ≤ x) = true := decide_eq_true h2
          go_wp2_with fail
          refine wp_region_past (by kernel_rfl) (by kernel_rfl) ?_
          repeat (go_big_quiet_step (fail))
          refine wpQuiet_nil ?_
          intro xx
          have HXX := Lib.hid xx.far
          generalize xx.w = w4 at HXX ⊢
          go_wp2
          go_ret2
          exact ⟨ret2 E.out.2.symm E.out.1.symm, (HJ.out.below HXX.out).1⟩
        have d2 : decide ((n : Int) ≤ x) = false := decide_eq_false h2
        obtain ⟨a, rfl⟩ : ∃ a : Nat, x = a := ⟨x.toNat, by omega⟩
        have d2n : decide (n ≤ a) = false := decide_eq_false (by omega)
        by_cases h3 : 0 < k
        · have d3 : decide ((0 : Int) < (k : Int)) = true := decide_eq_true (by omega)
          have d3n : decide (0 < k) = true := decide_eq_true h3
          obtain ⟨aC', e, hcc', hcb'⟩ := F1.out h3
          cases e
          have w1' : IntKind.i64.wrap ((k : Int) - 1) = (k : Int) - 1 := IntWalk.i64_in _ (by omega)
          have t1' : ((k : Int) - 1).toNat = k - 1 := by omega
          have l1' : (1 : Int) ≤ (k : Int) := by omega
          have l2' : (k : Int) - 1 < (p : Int) := by omega
          by_cases h4 : (a : Int) ≤ y
          · have E := Lib.hid (ENO.out (NO1.out h3 h4))
            have d4 : decide ((a : Int) ≤ y) = true := decide_eq_true h4
            go_wp2_with fail
            refine wp_region_past (by kernel_rfl) (by kernel_rfl) ?_
            repeat (go_big_quiet_step (fail))
            refine wpQuiet_nil ?_
            intro xx
            have HXX := Lib.hid xx.far
            generalize xx.w = w4 at HXX ⊢
            go_wp2
            go_ret2
            exact ⟨ret2 E.out.2.symm E.out.1.symm, (HJ.out.below HXX.out).1⟩
          have d4 : decide ((a : Int) ≤ y) = false := decide_eq_false h4
          have HCT := Lib.hid (YES.out.2 ⟨by omega, by omega, fun _ => by omega⟩)
          go_wp2_with fail
          refine wp_region_past (by kernel_rfl) (by kernel_rfl) ?_
          repeat (go_big_quiet_step (fail))
          refine wpQuiet_nil ?_
          intro xx
          have J4 := Lib.hid (HJ.out.below xx.far)
          generalize xx.w = w4 at J4 ⊢
          have m0 := J4.out.2.2.cell a (marks_get (by omega))
          have f0 := J4.out.2.2.free a
          obtain ⟨aC2, e2, hcc2, hcb2⟩ := FC.out _ J4.out.1 k hlt
          cases e2
          rw [HX.out] at hcc2
          go_upto_region 6 with fail
          refine gen_world (fun W => LkJ w A B n cA m cB g c (k + 1) W) (HMK.out _ J4.out HCT.out) ?_
          rintro w5 j5
          have J5 := Lib.hid j5
          clear j5 m0 f0 cA0 cB0 hcc hcc2
          go_wp2
          go_roundw
          case rel =>
            refine ⟨k + 1, by omega, by go_num, J5, Lib.hid (fun y hy => ?_)⟩
            by_cases hjk : y < k
            · exact HK.out y hjk
            · obtain rfl : y = k := by omega
              exact HCT.out
          case measure => simp [intOf]; omega
        have d3 : decide ((0 : Int) < (k : Int)) = false := decide_eq_false (by omega)
        have d3n : decide (0 < k) = false := decide_eq_false h3
        have HCT := Lib.hid (YES.out.2 ⟨by omega, by omega, fun _ => by omega⟩)
        go_wp2_with fail
        refine wp_region_past (by kernel_rfl) (by kernel_rfl) ?_
        repeat (go_big_quiet_step (fail))
        refine wpQuiet_nil ?_
        intro xx
        have J4 := Lib.hid (HJ.out.below xx.far)
        generalize xx.w = w4 at J4 ⊢
        have m0 := J4.out.2.2.cell a (marks_get (by omega))
        have f0 := J4.out.2.2.free a
        obtain ⟨aC2, e2, hcc2, hcb2⟩ := FC.out _ J4.out.1 k hlt
        cases e2
        rw [HX.out] at hcc2
        go_upto_region 6 with fail
        refine gen_world (fun W => LkJ w A B n cA m cB g c (k + 1) W) (HMK.out _ J4.out HCT.out) ?_
        rintro w5 j5
        have J5 := Lib.hid j5
        clear j5 m0 f0 cA0 cB0 hcc hcc2
        go_wp2
        go_roundw
        case rel =>
          refine ⟨k + 1, by omega, by go_num, J5, Lib.hid (fun y hy => ?_)⟩
          by_cases hjk : y < k
          · exact HK.out y hjk
          · obtain rfl : y = k := by omega
            exact HCT.out
        case measure => simp [intOf]; omega
      · obtain rfl : k = p := by omega
        have HCO : Hid (∀ x, x < c.length → cutAt N.sup.length c x = true) := Lib.hid (fun x hx => by rw [← HN.out]; exact HK.out x (by rw [HP.out]; exact hx))
        have E := Lib.hid (lk_yes HCH.out HCO.out)
        have E0 := Lib.hid (show lkR N c k n = lkA N c 0 from by rw [HN.out, HP.out, lkR_eq c.length (Nat.le_refl _) HCO.out]; rfl)
        clear HK
        go_wp2_with fail
        go_loopw [8, 9] (fun v i wr => ∃ j : Nat, j ≤ n ∧ i = .int .i64 j ∧ v = .int .i64 (lkR N c k j) ∧ Hid (LkJ w A B n cA m cB g c k wr)) (fun _ i _ => n - (intOf i).toNat)
        case atStart => exact ⟨0, Nat.zero_le _, rfl, rfl, HJ⟩
        case round =>
          obtain ⟨j, hj, rfl, rfl, HB⟩ := hrel
          have br := lkR_bd (c := c) HCH.out k j (by rw [← HN.out]; exact hj)
          have cA0 := HB.out.2.1.cell 0 rfl
          have cB0 := HB.out.2.1.cell 1 rfl
          by_cases hlt2 : j < n
          · obtain ⟨aS, rfl, sc⟩ := SC.out _ HB.out.1 j hlt2
            have hsu := net_sup HCH.out j (by rw [← HN.out]; exact hlt2)
            have HR1 := Lib.hid (show lkR N c k (j + 1) = lkR N c k j + if inK c k j = true then N.sup.getD j 0 else 0 from rfl)
            have mj := HB.out.2.2.cell j (marks_get (by omega))
            generalize N.sup.getD j 0 = s at *
            generalize inK c k (j : Int) = ij at *
            generalize lkR N c k j = S at *
            cases ij
            all_goals
              go_wp2
              go_roundw
              case rel => exact ⟨j + 1, by omega, by go_num, by rw [HR1.out]; simp, HB⟩
              case measure => simp [intOf]; omega
          · obtain rfl : j = n := by omega
            rw [E0.out]
            rw [E0.out] at br
            clear cA0 cB0
            go_wp2_with fail
            go_loopw [8, 10] (fun v i wr => ∃ q : Nat, q ≤ m ∧ i = .int .i64 q ∧ v = .int .i64 (lkA N c q) ∧ Hid (LkJ w A B j cA m cB g c k wr)) (fun _ i _ => m - (intOf i).toNat)
            case atStart => exact ⟨0, Nat.zero_le _, rfl, rfl, HB⟩
            case round =>
              obtain ⟨q, hq, rfl, rfl, HB⟩ := hrel
              have ba := lkA_bd HCH.out HCO.out q (by rw [← HM.out]; exact hq)
              have cA0 := HB.out.2.1.cell 0 rfl
              have cB0 := HB.out.2.1.cell 1 rfl
              by_cases hlt3 : q < m
              · obtain ⟨ad, rfl, hbl, d0, d1, d2, d3⟩ := (HNA.out.2.below HB.out.1 (Nat.le_refl _)) q (by rw [← HM.out]; exact hlt3)
                obtain ⟨a1, a2, a3, a4, a5⟩ := net_arc HCH.out q (by rw [← HM.out]; exact hlt3)
                rw [← HN.out] at a1 a2
                have HA1 := Lib.hid (show lkA N c (q + 1) = lkA N c q - if inK c c.length (N.arcs.getD q default).fr = true ∧ inK c c.length (N.arcs.getD q default).to = false then (N.arcs.getD q default).cap else 0 from rfl)
                generalize N.arcs.getD q default = ar at *
                obtain ⟨fr, «to», ca, co⟩ := ar
                simp only at d0 d1 d2 d3 a1 a2 a3 a4 a5 HA1
                rw [← HP.out] at HA1
                obtain ⟨a, rfl⟩ : ∃ a : Nat, fr = a := ⟨fr.toNat, by omega⟩
                obtain ⟨b, rfl⟩ : ∃ b : Nat, «to» = b := ⟨«to».toNat, by omega⟩
                have ma := HB.out.2.2.cell a (marks_get (by omega))
                have mb := HB.out.2.2.cell b (marks_get (by omega))
                generalize inK c k (a : Int) = ia at *
                generalize inK c k (b : Int) = ib at *
                generalize lkA N c q = S at *
                cases ia <;> cases ib
                all_goals
                  go_wp2
                  go_roundw
                  case rel => exact ⟨q + 1, by omega, by go_num, by rw [HA1.out]; simp, HB⟩
                  case measure => simp [intOf]; omega
              · obtain rfl : q = m := by omega
                have hx1 := fun ts t W => maxTwo 0 (lkA N c q) ts t W
                have E1 := Lib.hid (show max 0 (lkA N c q) = lkV N c from by rw [E.out.2, HM.out])
                generalize lkA N c q = S at *
                go_wp2
                go_ret2
                exact ⟨ret2 E1.out E.out.1.symm, HB.out.1⟩
  · have E := Lib.hid (lk_ch (c := c) hch)
    have hne : (chE N == 0) = false := by simpa using hch
    have CC := Lib.hid (CheckR_c A B N n m cA cB w2 HN.out HM.out hA hB (HNA.out.below HB2.out (Nat.le_refl _)))
    generalize chE N = q at *
    go_wp2_with fail
    refine CC.out.mono ?_
    rintro e w3 ⟨rfl, hb3⟩
    go_wp2
    go_ret2
    exact ⟨ret2 E.out.2.symm E.out.1.symm, HB2.out.trans (hb3.mono HB2.out.size)⟩
end Go.Proofs.Ytmebpglkeedaoaa
namespace Go.Proofs.Ytmebpglkeedaoaa
open Go.RowKit Dp
namespace Dp
def clE (N : Net) (fl ps : List Int) : Int := if coE N fl = 0 then (if prE N ps = 0 then (if coV N fl = prV N ps then 0 else 19) else prE N ps) else coE N fl
theorem cl_co {N : Net} {fl ps : List Int} (h : coE N fl ≠ 0) : clE N fl ps = coE N fl := by simp [clE, h]
theorem cl_pr {N : Net} {fl ps : List Int} (h : coE N fl = 0) (h2 : prE N ps ≠ 0) : clE N fl ps = prE N ps := by simp [clE, h, h2]
theorem cl_ne {N : Net} {fl ps : List Int} (h : coE N fl = 0) (h2 : prE N ps = 0) (h3 : coV N fl ≠ prV N ps) : clE N fl ps = 19 := by simp [clE, h, h2, h3]
theorem cl_ok {N : Net} {fl ps : List Int} (h : coE N fl = 0) (h2 : prE N ps = 0) (h3 : coV N fl = prV N ps) : clE N fl ps = 0 := by simp [clE, h, h2, h3]
end Dp
set_option maxHeartbeats 2000000 in
set_option maxRecDepth 100000 in
theorem CheckLeast_c (A B C D : Option Addr) (N : Net) (fl ps : List Int) (n m p q cA cB cC cD : Nat) (w : World) (hn : n = N.sup.length) (hm : m = N.arcs.length) (hp : p = fl.length) (hq : q = ps.length) (hA : n ≤ cA ∧ cA ≤ 9223372036854775807) (hB : m ≤ cB ∧ cB ≤ 9223372036854775807) (hC : p ≤ cC ∧ cC ≤ 9223372036854775807) (hD : q ≤ cD ∧ cD ≤ 9223372036854775807) (hN : NetAt w A B N) (hF : IntsAt w C fl) (hP : IntsAt w D ps) :
    Calls Try.prog 22 #[.agg #[.slice A n cA, .slice B m cB], .slice C p cC, .slice D q cD] w fun e w' => e = .returned (.int .i64 (clE N fl ps)) ∧ Below w.heap.size w w' := by
  have HN := Lib.hid hn
  have HM := Lib.hid hm
  have HP := Lib.hid hp
  have HQ := Lib.hid hq
  have HNA := Lib.hid hN
  have HFA := Lib.hid hF
  have HPA := Lib.hid hP
  clear hn hm hp hq hN hF hP
  have B1 := Lib.hid (Blk.new' w #[.slice A n cA, .slice B m cB] 25)
  have HB1 := Lib.hid ((Below.refl w.heap.size w).alloc (Nat.le_refl _) (.cells #[.slice A n cA, .slice B m cB] 25))
  go_enter Try.func22, Try.ntmps22
  go_wp2_with fail
  generalize w.alloc (.cells #[.slice A n cA, .slice B m cB] 25) = w1 at B1 HB1 ⊢
  refine (Cost_c A B C N fl n m p cA cB cC w1 HN.out HM.out HP.out hA hB hC (HNA.out.below HB1.out (Nat.le_refl _)) (HFA.out.below HB1.out (Nat.le_refl _))).mono ?_
  rintro e w2 ⟨rfl, hb2⟩
  have B2 := Lib.hid (B1.out.below hb2 B1.out.lt)
  have HB2 := Lib.hid (HB1.out.trans (hb2.mono HB1.out.size))
  clear hb2 B1 HB1
  have cA0 := B2.out.cell 0 rfl
  have cB0 := B2.out.cell 1 rfl
  have E1 := Lib.hid (cl_co (N := N) (fl := fl) (ps := ps))
  have E2 := Lib.hid (cl_pr (N := N) (fl := fl) (ps := ps))
  have E3 := Lib.hid (cl_ne (N := N) (fl := fl) (ps := ps))
  have E4 := Lib.hid (cl_ok (N := N) (fl := fl) (ps := ps))
  have PC := Lib.hid (Proves_c A B D N ps n m q cA cB cD w2 HN.out HM.out HQ.out hA hB hD (HNA.out.below HB2.out (Nat.le_refl _)) (HPA.out.below HB2.out (Nat.le_refl _)))
  generalize coE N fl = x at *
  generalize prE N ps = y at *
  generalize coV N fl = u at *
  generalize prV N ps = v at *
  by_cases hx : x = 0
  · subst hx
    go_wp2_with fail
    refine PC.out.mono ?_
    rintro e w3 ⟨rfl, hb3⟩
    by_cases hy : y = 0
    · subst hy
      by_cases hu : u = v
      · have E := Lib.hid (E4.out (by trivial) (by trivial) hu)
        subst hu
        go_wp2
        go_ret
        exact ⟨ret_int E.out.symm, HB2.out.trans (hb3.mono HB2.out.size)⟩
      · have E := Lib.hid (E3.out (by trivial) (by trivial) hu)
        have hne : (u == v) = false := by simpa using hu
        go_wp2
        go_ret
        exact ⟨ret_int E.out.symm, HB2.out.trans (hb3.mono HB2.out.size)⟩
    · have E := Lib.hid (E2.out (by trivial) hy)
      have hne : (y == 0) = false := by simpa using hy
      go_wp2
      go_ret
      exact ⟨ret_int E.out.symm, HB2.out.trans (hb3.mono HB2.out.size)⟩
  · have E := Lib.hid (E1.out hx)
    have hne : (x == 0) = false := by simpa using hx
    go_wp2
    go_ret
    exact ⟨ret_int E.out.symm, HB2.out⟩
set_option maxHeartbeats 2000000 in
set_option maxRecDepth 100000 in
theorem CheckLeastR_c (A B C D : Option Addr) (N : Net) (fl ps : List Int) (n m p q cA cB cC cD : Nat) (w : World) (hn : n = N.sup.length) (hm : m = N.arcs.length) (hp : p = fl.length) (hq : q = ps.length) (hA : n ≤ cA ∧ cA ≤ 9223372036854775807) (hB : m ≤ cB ∧ cB ≤ 9223372036854775807) (hC : p ≤ cC ∧ cC ≤ 9223372036854775807) (hD : q ≤ cD ∧ cD ≤ 9223372036854775807) (hN : NetAt w A B N) (hF : IntsAt w C fl) (hP : IntsAt w D ps) :
    Calls Try.prog 23 #[.agg #[.slice A n cA, .slice B m cB], .slice C p cC, .slice D q cD] w fun e w' => e = .returned (.int .i64 (clE N fl ps)) ∧ Below w.heap.size w w' := by
  have HN := Lib.hid hn
  have HM := Lib.hid hm
  have HP := Lib.hid hp
  have HQ := Lib.hid hq
  have HNA := Lib.hid hN
  have HFA := Lib.hid hF
  have HPA := Lib.hid hP
  clear hn hm hp hq hN hF hP
  have B1 := Lib.hid (Blk.new' w #[.slice A n cA, .slice B m cB] 25)
  have HB1 := Lib.hid ((Below.refl w.heap.size w).alloc (Nat.le_refl _) (.cells #[.slice A n cA, .slice B m cB] 25))
  go_enter Try.func23, Try.ntmps23
  go_wp2_with fail
  generalize w.alloc (.cells #[.slice A n cA, .slice B m cB] 25) = w1 at B1 HB1 ⊢
  refine (CostR_c A B C N fl n m p cA cB cC w1 HN.out HM.out HP.out hA hB hC (HNA.out.below HB1.out (Nat.le_refl _)) (HFA.out.below HB1.out (Nat.le_refl _))).mono ?_
  rintro e w2 ⟨rfl, hb2⟩
  have B2 := Lib.hid (B1.out.below hb2 B1.out.lt)
  have HB2 := Lib.hid (HB1.out.trans (hb2.mono HB1.out.size))
  clear hb2 B1 HB1
  have cA0 := B2.out.cell 0 rfl
  have cB0 := B2.out.cell 1 rfl
  have E1 := Lib.hid (cl_co (N := N) (fl := fl) (ps := ps))
  have E2 := Lib.hid (cl_pr (N := N) (fl := fl) (ps := ps))
  have E3 := Lib.hid (cl_ne (N := N) (fl := fl) (ps := ps))
  have E4 := Lib.hid (cl_ok (N := N) (fl := fl) (ps := ps))
  have PC := Lib.hid (ProvesR_c A B D N ps n m q cA cB cD w2 HN.out HM.out HQ.out hA hB hD (HNA.out.below HB2.out (Nat.le_refl _)) (HPA.out.below HB2.out (Nat.le_refl _)))
  generalize coE N fl = x at *
  generalize prE N ps = y at *
  generalize coV N fl = u at *
  generalize prV N ps = v at *
  by_cases hx : x = 0
  · subst hx
    go_wp2_with fail
    refine PC.out.mono ?_
    rintro e w3 ⟨rfl, hb3⟩
    by_cases hy : y = 0
    · subst hy
      by_cases hu : u = v
      · have E := Lib.hid (E4.out (by trivial) (by trivial) hu)
        subst hu
        go_wp2
        go_ret
        exact ⟨ret_int E.out.symm, HB2.out.trans (hb3.mono HB2.out.size)⟩
      · have E := Lib.hid (E3.out (by trivial) (by trivial) hu)
        have hne : (u == v) = false := by simpa using hu
        go_wp2
        go_ret
        exact ⟨ret_int E.out.symm, HB2.out.trans (hb3.mono HB2.out.size)⟩
    · have E := Lib.hid (E2.out (by trivial) hy)
      have hne : (y == 0) = false := by simpa using hy
      go_wp2
      go_ret
      exact ⟨ret_int E.out.symm, HB2.out.trans (hb3.mono HB2.out.size)⟩
  · have E := Lib.hid (E1.out hx)
    have hne : (x == 0) = false := by simpa using hx
    go_wp2
    go_ret
    exact ⟨ret_int E.out.symm, HB2.out⟩
end Go.Proofs.Ytmebpglkeedaoaa
namespace Go.Proofs.Ytmebpglkeedaoaa
open Go.RowKit Dp
def knN : Net := ⟨[3, 0, -3], [⟨0, 1, 2, 1⟩, ⟨1, 2, 2, 1⟩, ⟨0, 2, 2, 5⟩]⟩
theorem knN_ch : chE knN = 0 := by decide
theorem knN_flow : isFlow knN [2, 2, 1] = true := by decide
theorem knN_cost : costK knN [2, 2, 1] 3 = 9 := by decide
theorem knN_pr : prA knN [0, 1, 5] 3 = 9 := by decide
theorem all_pot {p : List Int} (h : ∀ v, v < p.length → potOk (p.getD v 0) = true) : p.all potOk = true := by
  rw [List.all_eq_true]
  intro x hx
  obtain ⟨i, hi, rfl⟩ := List.getElem_of_mem hx
  have := h i hi
  rwa [List.getD_eq_getElem?_getD, List.getElem?_eq_getElem hi] at this
theorem kn_least {w w' : World} {e : Ending} (h : LeastP knN w e w') : ∃ gf gp fl p, e = .returned (.tuple #[.slice (some ⟨gf, 0, none⟩) 3 3, .slice (some ⟨gp, 0, none⟩) 3 3, .int .i64 0]) ∧
    IntsAt w' (some ⟨gf, 0, none⟩) fl ∧ IntsAt w' (some ⟨gp, 0, none⟩) p ∧ fl.length = 3 ∧ p.length = 3 ∧ coE knN fl = 0 ∧ coV knN fl = 9 ∧ clE knN fl p = 0 := by
  rcases h with ⟨h, _⟩ | ⟨_, gf, gp, fl, p, rfl, hf, hp, _, hg, hlf, hfl, hl, hb, he⟩ | ⟨_, _, _, _, _, h⟩
  · exact absurd knN_ch h
  · have h1 := weak (N := knN) (fl := [2, 2, 1]) (ps := p) knN_ch knN_flow
    have h2 := weak (N := knN) (fl := fl) (ps := [0, 1, 5]) knN_ch hfl
    have h3 : knN.arcs.length = 3 := rfl
    rw [h3] at h1 h2 he
    rw [knN_cost] at h1
    rw [knN_pr] at h2
    have h9 : costK knN fl 3 = 9 := by omega
    have c1 : coE knN fl = 0 := by simp [coE, knN_ch, hlf, hfl]
    have c2 : coV knN fl = 9 := by simp [coV, knN_ch, hfl, h3, h9]
    have c3 : prE knN p = 0 := by simp only [prE, knN_ch, hl, all_pot hb, if_true]
    have c4 : prV knN p = 9 := by simp only [prV, c3, if_true]; rw [h3]; omega
    exact ⟨gf, gp, fl, p, rfl, hf.ints, hp.ints, hlf, hl, c1, c2, cl_ok c1 c3 (by rw [c2, c4])⟩
  · have := h [2, 2, 1]
    rw [knN_flow] at this
    cases this
structure KnJ (w : World) (g1 g2 g3 : Nat) (W : World) : Prop where
  s : Fl 2 W g1 [3, 0, -3]
  a : Blk W g2 46 (flat arcV knN.arcs)
  n : Blk W g3 25 [.slice (some ⟨g1, 0, none⟩) 3 3, .slice (some ⟨g2, 0, none⟩) 3 3]
  bel : Below w.heap.size w W
theorem KnJ.below {w W V : World} {g1 g2 g3 : Nat} (h : KnJ w g1 g2 g3 W) (hb : Below W.heap.size W V) : KnJ w g1 g2 g3 V :=
  ⟨h.s.below hb, h.a.below hb h.a.lt, h.n.below hb h.n.lt, h.bel.trans (hb.mono h.bel.size)⟩
theorem KnJ.net {w W : World} {g1 g2 g3 : Nat} (h : KnJ w g1 g2 g3 W) : NetAt W (some ⟨g1, 0, none⟩) (some ⟨g2, 0, none⟩) knN := by
  refine ⟨h.s.ints, fun i hi => ?_⟩
  have hc : ∀ j, j < 4 → W.cell? ⟨g2, i * 4 + j, none⟩ = (arcV (knN.arcs.getD i default))[j]? := fun j hj => by
    have e := flat_get (f := arcV) (s := 4) (fun _ => rfl) _ _ _ _ (getElem_D knN.arcs i default hi) hj
    rw [← e]
    obtain ⟨v, hv⟩ : ∃ v, (flat arcV knN.arcs)[i * 4 + j]? = some v := by
      rw [e]
      match j, hj with
      | 0, _ => exact ⟨_, rfl⟩
      | 1, _ => exact ⟨_, rfl⟩
      | 2, _ => exact ⟨_, rfl⟩
      | 3, _ => exact ⟨_, rfl⟩
    rw [hv]
    exact h.a.cell _ hv
  have had : (⟨g2, 0, none⟩ : Addr).add (i * 4) = ⟨g2, i * 4, none⟩ := by unfold Addr.add; split <;> simp_all
  exact ⟨⟨g2, 0, none⟩, rfl, h.a.lt, by rw [had]; exact hc 0 (by omega), by rw [had]; exact hc 1 (by omega), by rw [had]; exact hc 2 (by omega), by rw [had]; exact hc 3 (by omega)⟩
theorem KnJ.start (w : World) : KnJ w w.heap.size (w.heap.size + 1) (w.heap.size + 1 + 1) (((w.alloc (.cells #[.int .i64 3, .int .i64 0, .int .i64 (-3)] 2)).alloc (.cells #[.int .i64 0, .int .i64 1, .int .i64 2, .int .i64 1, .int .i64 1, .int .i64 2, .int .i64 2, .int .i64 1, .int .i64 0, .int .i64 2, .int .i64 2, .int .i64 5] 46)).alloc (.cells #[.slice (some ⟨w.heap.size, 0, none⟩) 3 3, .slice (some ⟨w.heap.size + 1, 0, none⟩) 3 3] 25)) := by
  have b1 := (Below.refl w.heap.size w).alloc (Nat.le_refl _) (.cells #[.int .i64 3, .int .i64 0, .int .i64 (-3)] 2)
  have b2 := b1.alloc b1.size (.cells #[.int .i64 0, .int .i64 1, .int .i64 2, .int .i64 1, .int .i64 1, .int .i64 2, .int .i64 2, .int .i64 1, .int .i64 0, .int .i64 2, .int .i64 2, .int .i64 5] 46)
  have b3 := b2.alloc b2.size (.cells #[.slice (some ⟨w.heap.size, 0, none⟩) 3 3, .slice (some ⟨w.heap.size + 1, 0, none⟩) 3 3] 25)
  have x1 := Blk.new' w #[.int .i64 3, .int .i64 0, .int .i64 (-3)] 2
  have x2 := Blk.new' (w.alloc (.cells #[.int .i64 3, .int .i64 0, .int .i64 (-3)] 2)) #[.int .i64 0, .int .i64 1, .int .i64 2, .int .i64 1, .int .i64 1, .int .i64 2, .int .i64 2, .int .i64 1, .int .i64 0, .int .i64 2, .int .i64 2, .int .i64 5] 46
  have x3 := Blk.new' ((w.alloc (.cells #[.int .i64 3, .int .i64 0, .int .i64 (-3)] 2)).alloc (.cells #[.int .i64 0, .int .i64 1, .int .i64 2, .int .i64 1, .int .i64 1, .int .i64 2, .int .i64 2, .int .i64 1, .int .i64 0, .int .i64 2, .int .i64 2, .int .i64 5] 46)) #[.slice (some ⟨w.heap.size, 0, none⟩) 3 3, .slice (some ⟨w.heap.size + 1, 0, none⟩) 3 3] 25
  refine ⟨(x1.alloc _).alloc _, ?_, ?_, b3⟩
  · have := x2.alloc (.cells #[.slice (some ⟨w.heap.size, 0, none⟩) 3 3, .slice (some ⟨w.heap.size + 1, 0, none⟩) 3 3] 25)
    simpa [flat, arcV, knN] using this
  · simpa using x3
theorem CO.start (V : World) : CO (((V.alloc (.cells #[.int .i64 4, .int .i64 1] 2)).alloc (.cells #[.int .i64 2, .int .i64 3] 2)).alloc (.cells #[.slice (some ⟨V.heap.size, 0, none⟩) 2 2, .slice (some ⟨V.heap.size + 1, 0, none⟩) 2 2] 22)) (V.heap.size + 1 + 1) V.heap.size (V.heap.size + 1) := by
  have x1 := Blk.new' V #[.int .i64 4, .int .i64 1] 2
  have x2 := Blk.new' (V.alloc (.cells #[.int .i64 4, .int .i64 1] 2)) #[.int .i64 2, .int .i64 3] 2
  have x3 := Blk.new' ((V.alloc (.cells #[.int .i64 4, .int .i64 1] 2)).alloc (.cells #[.int .i64 2, .int .i64 3] 2)) #[.slice (some ⟨V.heap.size, 0, none⟩) 2 2, .slice (some ⟨V.heap.size + 1, 0, none⟩) 2 2] 22
  refine ⟨?_, (x1.alloc _).alloc _, ?_⟩
  · simpa using x3
  · simpa using x2.alloc (.cells #[.slice (some ⟨V.heap.size, 0, none⟩) 2 2, .slice (some ⟨V.heap.size + 1, 0, none⟩) 2 2] 22)
set_option maxHeartbeats 4000000 in
set_option maxRecDepth 100000 in
theorem known_c (w : World) : Calls Try.prog 13 #[] w fun e w' => e = .returned (.bool true) ∧ Below w.heap.size w w' := by
  have K0 := Lib.hid (KnJ.start w)
  go_enter Try.func13, Try.ntmps13
  go_upto_region 2 with fail
  generalize hW : ((w.alloc (.cells #[.int .i64 3, .int .i64 0, .int .i64 (-3)] 2)).alloc (.cells #[.int .i64 0, .int .i64 1, .int .i64 2, .int .i64 1, .int .i64 1, .int .i64 2, .int .i64 2, .int .i64 1, .int .i64 0, .int .i64 2, .int .i64 2, .int .i64 5] 46)).alloc (.cells #[.slice (some ⟨w.heap.size, 0, none⟩) 3 3, .slice (some ⟨w.heap.size + 1, 0, none⟩) 3 3] 25) = w1 at K0 ⊢
  clear hW
  obtain ⟨g1, hg1⟩ : ∃ g, g = w.heap.size := ⟨_, rfl⟩
  rw [← hg1] at K0 ⊢
  clear hg1
  obtain ⟨g2, hg2⟩ : ∃ g, g = g1 + 1 := ⟨_, rfl⟩
  rw [← hg2] at K0 ⊢
  clear hg2
  obtain ⟨g3, hg3⟩ : ∃ g, g = g2 + 1 := ⟨_, rfl⟩
  rw [← hg3] at K0 ⊢
  clear hg3
  have n0 := K0.out.n.cell 0 rfl
  have n1 := K0.out.n.cell 1 rfl
  go_wp2_with fail
  refine (Least_c _ _ knN 3 3 3 3 _ rfl rfl (by omega) (by omega) K0.out.net).mono ?_
  rintro e w2 ⟨hL, hb⟩
  obtain ⟨gf, gp, fl, p, rfl, hf, hp, lf, lp, c1, c2, c3⟩ := kn_least hL
  have K2 := Lib.hid (K0.out.below hb)
  have F2 := Lib.hid hf
  have P2 := Lib.hid hp
  have LF := Lib.hid lf
  have LP := Lib.hid lp
  have C1 := Lib.hid c1
  have C2 := Lib.hid c2
  have C3 := Lib.hid c3
  clear hL hb hf hp lf lp c1 c2 c3 K0 n0 n1
  have n0 := K2.out.n.cell 0 rfl
  have n1 := K2.out.n.cell 1 rfl
  go_wp2_with fail
  refine (Cost_c _ _ _ knN fl 3 3 3 3 3 3 _ rfl rfl LF.out.symm (by omega) (by omega) (by omega) K2.out.net F2.out).mono ?_
  rintro e w3 ⟨rfl, hb⟩
  rw [C1.out, C2.out]
  have K3 := Lib.hid (K2.out.below hb)
  have F3 := Lib.hid (F2.out.below hb (Nat.le_refl _))
  have P3 := Lib.hid (P2.out.below hb (Nat.le_refl _))
  clear hb K2 F2 P2 n0 n1
  have CC := Lib.hid (CO.start w3)
  have B4 := Lib.hid ((((Below.refl w3.heap.size w3).alloc (Nat.le_refl _) (.cells #[.int .i64 4, .int .i64 1] 2)).alloc (by simp) (.cells #[.int .i64 2, .int .i64 3] 2)).alloc (by simp; omega) (.cells #[.slice (some ⟨w3.heap.size, 0, none⟩) 2 2, .slice (some ⟨w3.heap.size + 1, 0, none⟩) 2 2] 22))
  go_wp2_with fail
  generalize ((w3.alloc (.cells #[.int .i64 4, .int .i64 1] 2)).alloc (.cells #[.int .i64 2, .int .i64 3] 2)).alloc (.cells #[.slice (some ⟨w3.heap.size, 0, none⟩) 2 2, .slice (some ⟨w3.heap.size + 1, 0, none⟩) 2 2] 22) = w4 at CC B4 ⊢
  refine (Assign_c duals_c _ _ _ _ CC.out).mono ?_
  rintro e w5 ⟨A, c, R, rn, rc, Q, qn, qc, rfl, ho, hb⟩
  obtain ⟨g, cg, hv, hbg, hlt⟩ := ho.form (by omega)
  cases hv
  have B5 := Lib.hid ((Below.refl w5.heap.size w5).alloc (Nat.le_refl _) (.cells #[.slice (some ⟨g, 0, none⟩) 2 c, .int .i64 3, .slice R rn rc, .slice Q qn qc] 87))
  have X := Lib.hid (Blk.new' w5 #[.slice (some ⟨g, 0, none⟩) 2 c, .int .i64 3, .slice R rn rc, .slice Q qn qc] 87)
  have OW := Lib.hid (ownBelow ho B5.out)
  have K5 := Lib.hid (((K3.out.below B4.out).below hb).below B5.out)
  have F5 := Lib.hid (((F3.out.below B4.out (Nat.le_refl _)).below hb (Nat.le_refl _)).below B5.out (Nat.le_refl _))
  have P5 := Lib.hid (((P3.out.below B4.out (Nat.le_refl _)).below hb (Nat.le_refl _)).below B5.out (Nat.le_refl _))
  clear ho hb hbg hlt K3 F3 P3 CC B4 B5
  go_upto_region 5 with fail
  generalize w5.alloc (.cells #[.slice (some ⟨g, 0, none⟩) 2 c, .int .i64 3, .slice R rn rc, .slice Q qn qc] 87) = w6 at X OW K5 F5 P5 ⊢
  generalize w5.heap.size = gm at *
  have n0 := K5.out.n.cell 0 rfl
  have n1 := K5.out.n.cell 1 rfl
  go_wp2_with fail
  refine (CheckLeast_c _ _ _ _ knN fl p 3 3 3 3 3 3 3 3 _ rfl rfl LF.out.symm LP.out.symm (by omega) (by omega) (by omega) (by omega) K5.out.net F5.out P5.out).mono ?_
  rintro e w7 ⟨rfl, hb⟩
  rw [C3.out]
  have X7 := Lib.hid (X.out.below hb X.out.lt)
  have O7 := Lib.hid (ownBelow OW.out hb)
  have BW := Lib.hid ((K5.out.below hb).bel)
  clear hb n0 n1 X OW K5 F5 P5
  have x0 := X7.out.cell 0 rfl
  have x1 := X7.out.cell 1 rfl
  have y0 : w7.cell? ⟨g, 0, none⟩ = some (.int .i64 1) := World.ownsRow.cellAt O7.out 0 (by omega)
  go_wp2_with fail
  exact bodyPost_ret (v := .bool true) (by simp [results, Try.results13, go_sem]) rfl ⟨rfl, BW.out⟩
end Go.Proofs.Ytmebpglkeedaoaa
namespace Go.Proofs.Ytmebpglkeedaoaa
open Go.RowKit Dp
set_option maxHeartbeats 2000000 in
set_option maxRecDepth 100000 in
theorem wide_c (A B : Option Addr) (n m cA cB : Nat) (w : World) : Calls Try.prog 12 #[.agg #[.slice A n cA, .slice B m cB]] w fun e w' => e = .returned (.bool (decide (1100 < n) || decide (2100 < m))) ∧ Below w.heap.size w w' := by
  have B1 := Lib.hid (Blk.new' w #[.slice A n cA, .slice B m cB] 25)
  have HB1 := Lib.hid ((Below.refl w.heap.size w).alloc (Nat.le_refl _) (.cells #[.slice A n cA, .slice B m cB] 25))
  go_enter Try.func12, Try.ntmps12
  go_upto_region 1 with fail
  generalize w.alloc (.cells #[.slice A n cA, .slice B m cB] 25) = w1 at B1 HB1 ⊢
  have c0 := B1.out.cell 0 rfl
  have c1 := B1.out.cell 1 rfl
  by_cases h1 : 1100 < n
  · have h2 : (1100 : Int) < (n : Int) := by omega
    go_wp2_with fail
    exact bodyPost_ret (v := .bool true) (by simp [results, Try.results12, go_sem]) rfl ⟨by simp [h1], HB1.out⟩
  · have h2 : ¬ (1100 : Int) < (n : Int) := by omega
    by_cases h3 : 2100 < m
    · have h4 : (2100 : Int) < (m : Int) := by omega
      go_wp2_with fail
      exact bodyPost_ret (v := .bool true) (by simp [results, Try.results12, go_sem]) rfl ⟨by simp [h3], HB1.out⟩
    · have h4 : ¬ (2100 : Int) < (m : Int) := by omega
      go_wp2_with fail
      exact bodyPost_ret (v := .bool false) (by simp [results, Try.results12, go_sem]) rfl ⟨by simp [h1, h3], HB1.out⟩
end Go.Proofs.Ytmebpglkeedaoaa
namespace Go.Proofs.Ytmebpglkeedaoaa
open Go.RowKit Dp
theorem ch_ne18 (N : Net) : chE N ≠ 18 := by unfold chE; split <;> (try split) <;> decide
set_option maxHeartbeats 16000000 in
set_option maxRecDepth 100000 in
theorem LeastL_walk (A B : Option Addr) (N : Net) (n m cA cB : Nat) (w : World) (hn : n = N.sup.length) (hm : m = N.arcs.length)
    (hA : n ≤ cA ∧ cA ≤ 9223372036854775807) (hB : m ≤ cB ∧ cB ≤ 9223372036854775807) (hN : NetAt w A B N) :
    Calls Try.prog 5 #[.agg #[.slice A n cA, .slice B m cB]] w fun e w' => e = .returned (.bool true) ∧ Below w.heap.size w w' := by
  have HN := Lib.hid hn
  have HM := Lib.hid hm
  have HNA : Hid (∀ W, Below w.heap.size w W → NetAt W A B N) := Lib.hid (fun W h => hN.below h (Nat.le_refl _))
  have HAR : Hid (∀ W, Below w.heap.size w W → ∀ i, i < m → ∃ pb, B = some pb ∧ (pb.add (i * 4)).block < W.heap.size ∧ W.cell? ⟨(pb.add (i * 4)).block, (pb.add (i * 4)).off + 2, none⟩ = some (.int .i64 (N.arcs.getD i default).cap)) := Lib.hid (fun W h i hi => by
    obtain ⟨pb, e, h1, h2, h3, h4, h5⟩ := (hN.below h (Nat.le_refl _)).2 i (by rw [← hm]; exact hi)
    exact ⟨pb, e, by rw [block_add]; exact h1, h4⟩)
  clear hn hm hN
  have X1 := Lib.hid (Blk.new' w #[.slice A n cA, .slice B m cB] 25)
  have B1 := Lib.hid ((Below.refl w.heap.size w).alloc (Nat.le_refl _) (.cells #[.slice A n cA, .slice B m cB] 25))
  go_enter Try.func5, Try.ntmps5
  go_upto_region 1 with fail
  generalize w.alloc (.cells #[.slice A n cA, .slice B m cB] 25) = w1 at X1 B1 ⊢
  go_cut [44] from 19 to 44 (fun bv wc => ∃ b : Bool, bv = .bool b ∧ Hid (Blk wc w.heap.size 25 [.slice A n cA, .slice B m cB] ∧ Below w.heap.size w wc))
  case first =>
    have c0 := X1.out.cell 0 rfl
    have c1 := X1.out.cell 1 rfl
    have xl := X1.out.lt
    go_wp2_with fail
    refine (wide_c A B n m cA cB w1).mono ?_
    rintro e w2 ⟨rfl, hb⟩
    have HE : Hid (Blk w2 w.heap.size 25 [.slice A n cA, .slice B m cB] ∧ Below w.heap.size w w2) := Lib.hid ⟨X1.out.below hb X1.out.lt, B1.out.trans (hb.mono B1.out.size)⟩
    clear c0 c1 xl hb X1 B1
    have c0 := HE.out.1.cell 0 rfl
    have c1 := HE.out.1.cell 1 rfl
    have xl := HE.out.1.lt
    generalize (decide (1100 < n) || decide (2100 < m)) = bw
    cases bw with
    | true =>
      go_wp2_with fail
      go_meet
      case rel => exact ⟨_, rfl, HE⟩
    | false =>
      by_cases h1 : (14 : Int) < (n : Int)
      · by_cases h2 : (n : Int) ≤ 1024
        · go_wp2_with fail
          go_meet
          case rel => exact ⟨_, rfl, HE⟩
        · have h2' : (1024 : Int) < (n : Int) := by omega
          by_cases h3 : (40 : Int) < (m : Int)
          · by_cases h4 : (m : Int) ≤ 2048
            · go_wp2_with fail
              go_meet
              case rel => exact ⟨_, rfl, HE⟩
            · have h4' : (2048 : Int) < (m : Int) := by omega
              go_wp2_with fail
              go_meet
              case rel => exact ⟨_, rfl, HE⟩
          · have h3' : (m : Int) ≤ 40 := by omega
            go_wp2_with fail
            go_meet
            case rel => exact ⟨_, rfl, HE⟩
      · have h1' : (n : Int) ≤ 14 := by omega
        by_cases h3 : (40 : Int) < (m : Int)
        · by_cases h4 : (m : Int) ≤ 2048
          · go_wp2_with fail
            go_meet
            case rel => exact ⟨_, rfl, HE⟩
          · have h4' : (2048 : Int) < (m : Int) := by omega
            go_wp2_with fail
            go_meet
            case rel => exact ⟨_, rfl, HE⟩
        · have h3' : (m : Int) ≤ 40 := by omega
          go_wp2_with fail
          go_meet
          case rel => exact ⟨_, rfl, HE⟩
  case rest =>
    clear X1 B1
    obtain ⟨b, rfl, HJ⟩ := hcut
    have X1 := Lib.hid HJ.out.1
    have B1 := Lib.hid HJ.out.2
    clear HJ
    cases b with
    | true =>
      go_wp2_with fail
      refine (known_c _).mono ?_
      rintro e w2 ⟨rfl, hb⟩
      have B2 := Lib.hid (B1.out.trans (hb.mono B1.out.size))
      clear hb
      go_wp2_with fail
      go_ret
      exact ⟨rfl, B2.out⟩
    | false =>
      go_upto_region 4 with fail
      go_loopw [3] (fun iv wr => ∃ i : Nat, i ≤ m ∧ iv = .int .i64 i ∧ Hid (Blk wr w.heap.size 25 [.slice A n cA, .slice B m cB] ∧ Below w.heap.size w wr)) (fun iv _ => m - (intOf iv).toNat)
      case atStart => exact ⟨0, Nat.zero_le _, rfl, Lib.hid ⟨X1.out, B1.out⟩⟩
      case round =>
        clear X1 B1
        obtain ⟨i, hi, rfl, HJ⟩ := hrel
        go_upto_region 4 with fail
        go_cut [56] from 46 to 75 (fun bv wc => bv = .bool (decide (i < m ∧ m ≤ 40)) ∧ Hid (Blk wc w.heap.size 25 [.slice A n cA, .slice B m cB] ∧ Below w.heap.size w wc))
        case first =>
          have c0 := HJ.out.1.cell 0 rfl
          have c1 := HJ.out.1.cell 1 rfl
          have xl := HJ.out.1.lt
          by_cases h1 : i < m
          · have h2 : (i : Int) < (m : Int) := by omega
            by_cases h3 : m ≤ 40
            · have h4 : (m : Int) ≤ 40 := by omega
              go_wp2_with fail
              go_meet
              case rel => exact ⟨by rw [decide_eq_true (show i < m ∧ m ≤ 40 from ⟨h1, h3⟩)], HJ⟩
            · have h4 : (40 : Int) < (m : Int) := by omega
              go_wp2_with fail
              go_meet
              case rel => exact ⟨by rw [decide_eq_false (show ¬ (i < m ∧ m ≤ 40) from fun h => h3 h.2), decide_eq_false (show ¬ (m : Int) ≤ 40 by omega)], HJ⟩
          · have h2 : ¬ (i : Int) < (m : Int) := by omega
            go_wp2_with fail
            go_meet
            case rel => exact ⟨by rw [decide_eq_false (show ¬ (i < m ∧ m ≤ 40) from fun h => h1 h.1)], HJ⟩
        case rest =>
          clear HJ
          obtain ⟨rfl, HJ⟩ := hcut
          by_cases hlt : i < m ∧ m ≤ 40
          · have d1 : decide (i < m ∧ m ≤ 40) = true := decide_eq_true hlt
            simp only [d1]
            have hii : (i : Int) < (m : Int) := by omega
            have him : i < m := hlt.1
            go_upto_region 6 with fail
            go_cut [74] from 46 to 75 (fun bv wc => ∃ b : Bool, bv = .bool b ∧ Hid (Blk wc w.heap.size 25 [.slice A n cA, .slice B m cB] ∧ Below w.heap.size w wc))
            case first =>
              have c0 := HJ.out.1.cell 0 rfl
              have c1 := HJ.out.1.cell 1 rfl
              have xl := HJ.out.1.lt
              obtain ⟨pb, rfl, ab, a2⟩ := HAR.out _ HJ.out.2 i him
              generalize (N.arcs.getD i default).cap = ca at *
              by_cases h1 : (200 : Int) < ca
              · go_wp2_with fail
                go_meet
                case rel => exact ⟨_, rfl, HJ⟩
              · have h1' : ca ≤ 200 := by omega
                go_wp2_with fail
                go_meet
                case rel => exact ⟨_, rfl, HJ⟩
            case rest =>
              clear HJ
              obtain ⟨b, rfl, HJ⟩ := hcut
              cases b with
              | true =>
                go_wp2_with fail
                refine (known_c _).mono ?_
                rintro e w2 ⟨rfl, hb⟩
                have B2 := Lib.hid (HJ.out.2.trans (hb.mono HJ.out.2.size))
                clear hb
                go_wp2_with fail
                go_ret
                exact ⟨rfl, B2.out⟩
              | false =>
                go_wp2_with fail
                exact ⟨⟨i + 1, by omega, by go_num, HJ⟩, by simp [intOf]; omega⟩
          · have d1 : decide (i < m ∧ m ≤ 40) = false := decide_eq_false hlt
            simp only [d1]
            have X1 := Lib.hid HJ.out.1
            have B1 := Lib.hid HJ.out.2
            clear HJ hlt
            have LC := Lib.hid (fun V hV => Least_c A B N n m cA cB V HN.out HM.out hA hB (HNA.out V hV))
            have c0 := X1.out.cell 0 rfl
            have c1 := X1.out.cell 1 rfl
            have xl := X1.out.lt
            go_wp2_with fail
            refine (LC.out _ B1.out).mono ?_
            rintro e w2 ⟨hL, hb⟩
            have X2 := Lib.hid (X1.out.below hb X1.out.lt)
            have B2 := Lib.hid (B1.out.trans (hb.mono B1.out.size))
            clear hb c0 c1 xl X1 B1 LC
            have RC := Lib.hid (fun V hV => LeastR_c A B N n m cA cB V HN.out HM.out hA hB (HNA.out V hV))
            have MC := Lib.hid (fun V hV => MissingM_c A B N n m cA cB V HN.out HM.out hA hB (HNA.out V hV))
            have c0 := X2.out.cell 0 rfl
            have c1 := X2.out.cell 1 rfl
            have xl := X2.out.lt
            rcases hL with ⟨hne, rfl⟩ | ⟨hch, gf, gp, fl, p, rfl, hfl, hp, hgf, hgp, hlf, hisf, hlp, hpot, hcost⟩ | ⟨hch, rfl, c, hc, hlk, hno⟩
            · have HNE := Lib.hid hne
              obtain ⟨ce, hce⟩ : ∃ x, x = chE N := ⟨_, rfl⟩
              have H18 : ce ≠ 18 := by rw [hce]; exact ch_ne18 N
              have H0 : ce ≠ 0 := by rw [hce]; exact hne
              rw [← hce]
              have HCE := Lib.hid hce
              clear hne hce
              have d1 : (ce == 0) = false := by simpa using H0
              have d2 : (ce != 18) = true := by simpa using H18
              clear H18 H0
              go_wp2_with fail
              refine (RC.out _ B2.out).mono ?_
              rintro e w3 ⟨hR, hb⟩
              have X3 := Lib.hid (X2.out.below hb X2.out.lt)
              have B3 := Lib.hid (B2.out.trans (hb.mono B2.out.size))
              clear hb c0 c1 xl X2 B2 RC
              rcases hR with ⟨_, rfl⟩ | ⟨hch, _⟩ | ⟨hch, _⟩
              rotate_left
              · exact absurd hch HNE.out
              · exact absurd hch HNE.out
              rw [← HCE.out]
              have c0 := X3.out.cell 0 rfl
              have c1 := X3.out.cell 1 rfl
              have xl := X3.out.lt
              go_wp2_with fail
              refine (MC.out _ B3.out).mono ?_
              rintro e w4 ⟨⟨hM, _⟩, hb⟩
              have B4 := Lib.hid (B3.out.trans (hb.mono B3.out.size))
              clear hb c0 c1 xl X3 B3 MC
              rcases hM with ⟨_, rfl⟩ | ⟨hch, _⟩ | ⟨hch, _⟩
              rotate_left
              · exact absurd hch HNE.out
              · exact absurd hch HNE.out
              rw [← HCE.out]
              go_wp2_with fail
              refine (known_c _).mono ?_
              rintro e w5 ⟨rfl, hb⟩
              have B5 := Lib.hid (B4.out.trans (hb.mono B4.out.size))
              clear hb
              go_wp2_with fail
              go_ret
              exact ⟨rfl, B5.out⟩
            · have HCH := Lib.hid hch
              have HIS := Lib.hid hisf
              have HLP := Lib.hid hlp
              have HLF := Lib.hid hlf
              have HFL := Lib.hid hfl
              have HPP := Lib.hid hp
              have HCL : Hid (clE N fl p = 0) := Lib.hid (by
                have c1 := co_yes hch hlf hisf
                have c3 := pr_yes hch hlp hpot
                exact cl_ok c1.1 c3.1 (by rw [c1.2, c3.2, hcost]))
              obtain ⟨K, hK⟩ : ∃ K, K = costK N fl N.arcs.length := ⟨_, rfl⟩
              have HKC : Hid (∀ fl2 p2, isFlow N fl2 = true → costK N fl2 N.arcs.length = prA N p2 N.arcs.length → costK N fl2 N.arcs.length = K) := Lib.hid (fun fl2 p2 h1 h2 => by
                have a1 := weak (ps := p) hch h1
                have a2 := weak (ps := p2) hch hisf
                rw [hK]
                omega)
              have HCK : Hid (coE N fl = 0 ∧ coV N fl = K) := Lib.hid (by have c1 := co_yes hch hlf hisf; exact ⟨c1.1, by rw [c1.2, hK]⟩)
              clear hch hisf hlp hlf hfl hp hpot hcost hK hgf hgp
              rw [show N.arcs.length = m from HM.out.symm, show N.sup.length = n from HN.out.symm]
              go_wp2_with fail
              refine (RC.out _ B2.out).mono ?_
              rintro e w3 ⟨hR, hb⟩
              have X3 := Lib.hid (X2.out.below hb X2.out.lt)
              have B3 := Lib.hid (B2.out.trans (hb.mono B2.out.size))
              have F3 := Lib.hid (HFL.out.below hb)
              have P3 := Lib.hid (HPP.out.below hb)
              clear hb c0 c1 xl X2 B2 RC HFL HPP
              rcases hR with ⟨hx, _⟩ | ⟨_, _, hx⟩ | ⟨_, gF, gP, fl2, p2, rfl, hf2, hi2, hc2⟩
              · exact absurd HCH.out hx
              · rw [hx fl] at HIS; cases HIS.out
              have HF2 := Lib.hid hf2
              have HL2 : Hid (m = fl2.length) := Lib.hid (by rw [HM.out]; by_cases e : fl2.length = N.arcs.length; exact e.symm; rw [isFlow_len e] at hi2; cases hi2)
              have HC2 : Hid (coE N fl2 = 0 ∧ coV N fl2 = K) := Lib.hid (by have c1 := co_yes HCH.out (HL2.out.symm.trans HM.out) hi2; exact ⟨c1.1, by rw [c1.2]; exact HKC.out fl2 p2 hi2 hc2⟩)
              clear hf2 hi2 hc2 HKC
              have c0 := X3.out.cell 0 rfl
              have c1 := X3.out.cell 1 rfl
              have xl := X3.out.lt
              go_wp2_with fail
              refine (MC.out _ B3.out).mono ?_
              rintro e w4 ⟨⟨hM, _⟩, hb⟩
              have X4 := Lib.hid (X3.out.below hb X3.out.lt)
              have B4 := Lib.hid (B3.out.trans (hb.mono B3.out.size))
              have F4 := Lib.hid (F3.out.below hb)
              have P4 := Lib.hid (P3.out.below hb)
              have G4 := Lib.hid (HF2.out.below hb)
              clear hb c0 c1 xl X3 B3 F3 P3 HF2 MC
              rcases hM with ⟨hx, _⟩ | ⟨_, rfl, _⟩ | ⟨_, _, _, _, _, _, _, _, _, hx⟩
              · exact absurd HCH.out hx
              rotate_left
              · rw [hx fl] at HIS; cases HIS.out
              have CR : Hid (Calls Try.prog 15 #[.agg #[.slice A n cA, .slice B m cB], .slice (some ⟨gF, 0, none⟩) m m] w4 fun e w' => e = .returned (.tuple #[.int .i64 K, .int .i64 0]) ∧ Below w4.heap.size w4 w') := Lib.hid (by
                have h := CostR_c A B (some ⟨gF, 0, none⟩) N fl2 n m m cA cB m w4 HN.out HM.out HL2.out hA hB ⟨Nat.le_refl _, by omega⟩ (HNA.out _ B4.out) G4.out.ints
                rw [HC2.out.1, HC2.out.2] at h
                exact h)
              have c0 := X4.out.cell 0 rfl
              have c1 := X4.out.cell 1 rfl
              have xl := X4.out.lt
              go_wp2_with fail
              refine CR.out.mono ?_
              rintro e w5 ⟨rfl, hb⟩
              have X5 := Lib.hid (X4.out.below hb X4.out.lt)
              have B5 := Lib.hid (B4.out.trans (hb.mono B4.out.size))
              have F5 := Lib.hid (F4.out.below hb)
              have P5 := Lib.hid (P4.out.below hb)
              clear hb c0 c1 xl X4 B4 F4 P4 G4 CR HC2 HL2
              have CO : Hid (Calls Try.prog 14 #[.agg #[.slice A n cA, .slice B m cB], .slice (some ⟨gf, 0, none⟩) m m] w5 fun e w' => e = .returned (.tuple #[.int .i64 K, .int .i64 0]) ∧ Below w5.heap.size w5 w') := Lib.hid (by
                have h := Cost_c A B (some ⟨gf, 0, none⟩) N fl n m m cA cB m w5 HN.out HM.out (HM.out.trans HLF.out.symm) hA hB ⟨Nat.le_refl _, by omega⟩ (HNA.out _ B5.out) F5.out.ints
                rw [HCK.out.1, HCK.out.2] at h
                exact h)
              have c0 := X5.out.cell 0 rfl
              have c1 := X5.out.cell 1 rfl
              have xl := X5.out.lt
              go_wp2_with fail
              refine CO.out.mono ?_
              rintro e w6 ⟨rfl, hb⟩
              have X6 := Lib.hid (X5.out.below hb X5.out.lt)
              have B6 := Lib.hid (B5.out.trans (hb.mono B5.out.size))
              have F6 := Lib.hid (F5.out.below hb)
              have P6 := Lib.hid (P5.out.below hb)
              clear hb c0 c1 xl X5 B5 F5 P5 CO HCK
              have CL : Hid (Calls Try.prog 23 #[.agg #[.slice A n cA, .slice B m cB], .slice (some ⟨gf, 0, none⟩) m m, .slice (some ⟨gp, 0, none⟩) n n] w6 fun e w' => e = .returned (.int .i64 0) ∧ Below w6.heap.size w6 w') := Lib.hid (by
                have h := CheckLeastR_c A B (some ⟨gf, 0, none⟩) (some ⟨gp, 0, none⟩) N fl p n m m n cA cB m n w6 HN.out HM.out (HM.out.trans HLF.out.symm) (HN.out.trans HLP.out.symm) hA hB ⟨Nat.le_refl _, by omega⟩ ⟨Nat.le_refl _, by omega⟩ (HNA.out _ B6.out) F6.out.ints P6.out.ints
                rw [HCL.out] at h
                exact h)
              have c0 := X6.out.cell 0 rfl
              have c1 := X6.out.cell 1 rfl
              have xl := X6.out.lt
              go_wp2_with fail
              refine CL.out.mono ?_
              rintro e w7 ⟨rfl, hb⟩
              have B7 := Lib.hid (B6.out.trans (hb.mono B6.out.size))
              clear hb c0 c1 xl X6 B6 F6 P6 CL
              go_wp2_with fail
              refine (known_c _).mono ?_
              rintro e w8 ⟨rfl, hb⟩
              have B8 := Lib.hid (B7.out.trans (hb.mono B7.out.size))
              clear hb
              go_wp2_with fail
              go_ret
              exact ⟨rfl, B8.out⟩
            · have HCH := Lib.hid hch
              have HNO := Lib.hid hno
              clear hch hno hc hlk
              have KC := Lib.hid (fun V hV => Lacking_c A B N n m cA cB V HN.out HM.out HCH.out hA hB (HNA.out V hV))
              go_wp2_with fail
              refine (RC.out _ B2.out).mono ?_
              rintro e w3 ⟨hR, hb⟩
              have X3 := Lib.hid (X2.out.below hb X2.out.lt)
              have B3 := Lib.hid (B2.out.trans (hb.mono B2.out.size))
              clear hb c0 c1 xl X2 B2 RC
              rcases hR with ⟨hx, _⟩ | ⟨_, rfl, _⟩ | ⟨_, _, _, fl2, _, _, _, hi2, _⟩
              · exact absurd HCH.out hx
              rotate_left
              · rw [HNO.out fl2] at hi2; cases hi2
              have c0 := X3.out.cell 0 rfl
              have c1 := X3.out.cell 1 rfl
              have xl := X3.out.lt
              go_wp2_with fail
              refine (MC.out _ B3.out).mono ?_
              rintro e w4 ⟨⟨hM, hmax⟩, hb⟩
              have X4 := Lib.hid (X3.out.below hb X3.out.lt)
              have B4 := Lib.hid (B3.out.trans (hb.mono B3.out.size))
              clear hb c0 c1 xl X3 B3 MC
              rcases hM with ⟨hx, _⟩ | ⟨_, _, fl2, hi2⟩ | ⟨_, g, cp, cut, rfl, hrow, hlen, hval, hpos, _⟩
              · exact absurd HCH.out hx
              · rw [HNO.out fl2] at hi2; cases hi2
              have HMX := Lib.hid (hmax _ _ rfl)
              obtain ⟨R, hR⟩ : ∃ R, R = lkA N cut N.arcs.length := ⟨_, rfl⟩
              obtain ⟨nc, hnc⟩ : ∃ k, k = cut.length := ⟨_, rfl⟩
              have hRp : 0 < R := by rw [hR]; exact hpos
              rw [← hR] at HMX
              rw [← hR, ← hnc]
              have hcp := own_cap2 hrow
              rw [← hnc] at hcp
              have hnc2 : nc ≤ 1024 := by omega
              have LK : Hid (Calls Try.prog 19 #[.agg #[.slice A n cA, .slice B m cB], .slice (some ⟨g, 0, none⟩) nc cp] w4 fun e w' => e = .returned (.tuple #[.int .i64 R, .int .i64 0]) ∧ Below w4.heap.size w4 w') := Lib.hid (by
                have h := LacksR_c A B (some ⟨g, 0, none⟩) N cut n m nc cA cB cp w4 HN.out HM.out hnc hA hB hcp (HNA.out _ B4.out) (own_ints2 hrow rfl)
                have h2 := lk_yes HCH.out hval
                rw [h2.1, h2.2, ← hR, show max 0 R = R by omega] at h
                exact h)
              have KC2 : Hid (∀ V, Below w.heap.size w V → Calls Try.prog 29 #[.agg #[.slice A n cA, .slice B m cB]] V fun e w' => e = .returned (.int .i64 R) ∧ Below V.heap.size V w') := Lib.hid (fun V hV => by
                refine (KC.out V hV).mono ?_
                rintro e w' ⟨⟨R2, rfl, h1, c2, h2, h3⟩, hb⟩
                have a1 := h1 cut hval
                have a2 := HMX.out c2 h2
                exact ⟨ret_int (by omega), hb⟩)
              clear hR hnc hmax hrow hlen hval hpos KC HMX
              have c0 := X4.out.cell 0 rfl
              have c1 := X4.out.cell 1 rfl
              have xl := X4.out.lt
              go_wp2_with fail
              refine LK.out.mono ?_
              rintro e w5 ⟨rfl, hb⟩
              have X5 := Lib.hid (X4.out.below hb X4.out.lt)
              have B5 := Lib.hid (B4.out.trans (hb.mono B4.out.size))
              clear hb c0 c1 xl X4 B4 LK
              have c0 := X5.out.cell 0 rfl
              have c1 := X5.out.cell 1 rfl
              have xl := X5.out.lt
              go_wp2_with fail
              refine (KC2.out _ B5.out).mono ?_
              rintro e w6 ⟨rfl, hb⟩
              have B6 := Lib.hid (B5.out.trans (hb.mono B5.out.size))
              clear hb c0 c1 xl X5 B5 KC2
              go_wp2_with fail
              refine (known_c _).mono ?_
              rintro e w7 ⟨rfl, hb⟩
              have B7 := Lib.hid (B6.out.trans (hb.mono B6.out.size))
              clear hb
              go_wp2_with fail
              go_ret
              exact ⟨rfl, B7.out⟩
end Go.Proofs.Ytmebpglkeedaoaa
