/- The contract of Proof of coulombref09. -/
import Derived.Test.YtafajclbghofkaaG8
namespace Go.Proofs.Ytafajclbghofkaa
open Go.RowKit
set_option linter.unusedVariables false

set_option maxRecDepth 100000 in
set_option maxHeartbeats 4000000 in
theorem ProofR_c (pt : Int) (A : Option Addr) (ps : List Int) (cap : Nat) (k n : Int) (w : World) (hcap : ps.length ≤ cap) (hl : cap ≤ 9223372036854775807) (hps : ∀ x ∈ ps, 0 ≤ x) (hw : PadsAt w A ps) :
    Calls Try.prog 38 #[.agg #[.int .u64 pt, .slice A ps.length cap], .int .i64 k, .int .i64 n] w fun e w' => e = .returned (.tuple #[.int .u64 (Pf.prV pt ps k n), .int .i64 (Pf.prE pt ps k n)]) ∧ Below w.heap.size w w' := by
  have hc := contract_c pt A ps cap _ hcap hl (hw.below ((Below.refl w.heap.size w).alloc (Nat.le_refl _) (.cells #[.int .u64 pt, .slice A ps.length cap] 86)))
  have h54a := fun w0 => in_c k 0 2147483647 w0
  have h54b := fun w0 => in_c n 0 2147483647 w0
  have HW := Lib.hid hw
  have hn63 : ps.length ≤ 9223372036854775807 := by omega
  clear hw
  cases hok : Cv.ctOk pt ps
  · rw [hok] at hc
    have HP := Lib.hid (Pf.pr_2 (k := k) (n := n) hok)
    clear hok hps
    generalize Pf.prV pt ps k n = v at *
    generalize Pf.prE pt ps k n = er at *
    go_enter Try.func38, Try.ntmps38
    go_wp2_with (first | (go_at_call 64; refine hc.mono ?_; rintro e w1 ⟨rfl, hb⟩; have HS := Lib.hid (show PrS w.heap.size pt A ps.length cap w w1 from ⟨((Below.refl w.heap.size w).alloc (Nat.le_refl _) _).trans (hb.mono (by simp)), by have := hb.size; simp at this; omega, below_cell hb (by simp) (by go_simp), below_cell hb (by simp) (by go_simp)⟩); have t1 : w1.cell? ⟨w.heap.size, 1, none⟩ = some (.slice A ps.length cap) := HS.out.2.2.2; clear hb) | (go_at_call 54; first | ((with_reducible refine (h54a _).mono ?_); rintro e w3 ⟨rfl, rfl⟩) | ((with_reducible refine (h54b _).mono ?_); rintro e w3 ⟨rfl, rfl⟩)))
    go_ret2
    exact ⟨ret_pf ⟨HP.out.1.symm, HP.out.2.symm⟩, HS.out.1⟩
  rw [hok] at hc
  by_cases hr : (0 ≤ k ∧ k ≤ 2147483647) ∧ 0 ≤ n ∧ n ≤ 2147483647
  rotate_left 1
  · have HP := Lib.hid (Pf.pr_3 hok hr)
    generalize Pf.prV pt ps k n = v at *
    generalize Pf.prE pt ps k n = er at *
    cases h1 : Cv.inB k 0 2147483647
    · simp only [h1] at h54a
      clear hok hps hr h1
      go_enter Try.func38, Try.ntmps38
      go_wp2_with (first | (go_at_call 64; refine hc.mono ?_; rintro e w1 ⟨rfl, hb⟩; have HS := Lib.hid (show PrS w.heap.size pt A ps.length cap w w1 from ⟨((Below.refl w.heap.size w).alloc (Nat.le_refl _) _).trans (hb.mono (by simp)), by have := hb.size; simp at this; omega, below_cell hb (by simp) (by go_simp), below_cell hb (by simp) (by go_simp)⟩); have t1 : w1.cell? ⟨w.heap.size, 1, none⟩ = some (.slice A ps.length cap) := HS.out.2.2.2; clear hb) | (go_at_call 54; first | ((with_reducible refine (h54a _).mono ?_); rintro e w3 ⟨rfl, rfl⟩) | ((with_reducible refine (h54b _).mono ?_); rintro e w3 ⟨rfl, rfl⟩)))
      go_ret2
      exact ⟨ret_pf ⟨HP.out.1.symm, HP.out.2.symm⟩, HS.out.1⟩
    have h2 : Cv.inB n 0 2147483647 = false := Cv.inB_no (by have := Cv.inB_iff.1 h1; omega)
    simp only [h1] at h54a
    simp only [h2] at h54b
    clear hok hps hr h1 h2
    go_enter Try.func38, Try.ntmps38
    go_wp2_with (first | (go_at_call 64; refine hc.mono ?_; rintro e w1 ⟨rfl, hb⟩; have HS := Lib.hid (show PrS w.heap.size pt A ps.length cap w w1 from ⟨((Below.refl w.heap.size w).alloc (Nat.le_refl _) _).trans (hb.mono (by simp)), by have := hb.size; simp at this; omega, below_cell hb (by simp) (by go_simp), below_cell hb (by simp) (by go_simp)⟩); have t1 : w1.cell? ⟨w.heap.size, 1, none⟩ = some (.slice A ps.length cap) := HS.out.2.2.2; clear hb) | (go_at_call 54; first | ((with_reducible refine (h54a _).mono ?_); rintro e w3 ⟨rfl, rfl⟩) | ((with_reducible refine (h54b _).mono ?_); rintro e w3 ⟨rfl, rfl⟩)))
    go_ret2
    exact ⟨ret_pf ⟨HP.out.1.symm, HP.out.2.symm⟩, HS.out.1⟩
  have g1 : Cv.inB k 0 2147483647 = true := Cv.inB_iff.2 hr.1
  have g2 : Cv.inB n 0 2147483647 = true := Cv.inB_iff.2 hr.2
  simp only [g1] at h54a
  simp only [g2] at h54b
  clear g1 g2
  obtain ⟨m, rfl⟩ := Int.eq_ofNat_of_zero_le hr.2.1
  by_cases hlt : m < ps.length
  rotate_left 1
  · have HP := Lib.hid (Pf.pr_4 hok hr (by omega))
    generalize Pf.prV pt ps k m = v at *
    generalize Pf.prE pt ps k m = er at *
    have hge : decide (ps.length ≤ m) = true := decide_eq_true (by omega)
    clear hok hps hr hlt
    go_enter Try.func38, Try.ntmps38
    go_wp2_with (first | (go_at_call 64; refine hc.mono ?_; rintro e w1 ⟨rfl, hb⟩; have HS := Lib.hid (show PrS w.heap.size pt A ps.length cap w w1 from ⟨((Below.refl w.heap.size w).alloc (Nat.le_refl _) _).trans (hb.mono (by simp)), by have := hb.size; simp at this; omega, below_cell hb (by simp) (by go_simp), below_cell hb (by simp) (by go_simp)⟩); have t1 : w1.cell? ⟨w.heap.size, 1, none⟩ = some (.slice A ps.length cap) := HS.out.2.2.2; clear hb) | (go_at_call 54; first | ((with_reducible refine (h54a _).mono ?_); rintro e w3 ⟨rfl, rfl⟩) | ((with_reducible refine (h54b _).mono ?_); rintro e w3 ⟨rfl, rfl⟩)))
    go_ret2
    exact ⟨ret_pf ⟨HP.out.1.symm, HP.out.2.symm⟩, HS.out.1⟩
  have HP := Lib.hid (Pf.pr_0 hok hr hlt)
  generalize Pf.prV pt ps k m = v at *
  generalize Pf.prE pt ps k m = er at *
  have hge : decide (ps.length ≤ m) = false := decide_eq_false (by omega)
  have hpt := (Cv.ctOk_iff.1 hok).1
  have hpad := Cv.padsOk_iff.1 (Cv.ctOk_iff.1 hok).2 m hlt
  have hpad0 : 0 ≤ ps.getD m 0 := hps _ (by rw [List.getD_eq_getElem?_getD, List.getElem?_eq_getElem hlt]; exact List.getElem_mem hlt)
  have F1 := Lib.hid (fun w0 => four_c k hr.1 w0)
  have F2 := Lib.hid (fun w0 => four_c (m : Int) hr.2 w0)
  obtain ⟨i5, hi5, y0, y1, y2⟩ := info_parts info5
  have hk0 := hr.1.1
  have hm0 := hr.2.1
  clear hok hps hr
  go_enter Try.func38, Try.ntmps38
  go_wp2_with (first | (go_at_call 64; refine hc.mono ?_; rintro e w1 ⟨rfl, hb⟩; have HS := Lib.hid (show PrS w.heap.size pt A ps.length cap w w1 from ⟨((Below.refl w.heap.size w).alloc (Nat.le_refl _) _).trans (hb.mono (by simp)), by have := hb.size; simp at this; omega, below_cell hb (by simp) (by go_simp), below_cell hb (by simp) (by go_simp)⟩); have t1 : w1.cell? ⟨w.heap.size, 1, none⟩ = some (.slice A ps.length cap) := HS.out.2.2.2; clear hb) | (go_at_call 54; first | ((with_reducible refine (h54a _).mono ?_); rintro e w3 ⟨rfl, rfl⟩) | ((with_reducible refine (h54b _).mono ?_); rintro e w3 ⟨rfl, rfl⟩)))
  clear hge t1
  obtain ⟨ad, rfl, hadl, hcell⟩ := (HW.out.below HS.out.1 : PadsAt w1 A ps) m hlt
  have HPc := Lib.hid (fun W (h : Below w1.heap.size w1 W) => (h.cell (p := ad.add m) (by rw [block_of_add]; exact hadl)).trans hcell)
  have PT := Lib.hid (fun W (A' : Option Addr) (c' : Nat) (h : SrcRow W A' 8 ((Pf.msg k m).map (Value.int .u8))) => TagR_c pt (ps.getD m 0) (by omega) (by omega) A' c' (Pf.msg k m) W rfl (Pf.msg_bd k m) h)
  have P1 : (m : Int) < (ps.length : Int) := by omega
  have P0 : (ps.length : Int) ≤ (cap : Int) := by omega
  generalize ps.getD m 0 = pad at *
  generalize Pf.tag pt pad (Pf.ws (Pf.msg k m ++ [1]) 3) = tg at *
  have HX := Lib.hid (show Below w1.heap.size w1 w1.drew from (Below.refl _ _).drew)
  have HS1 := Lib.hid (show w1.drew.cell? ⟨w.heap.size, 0, none⟩ = some (.int .u64 pt) ∧ w1.drew.cell? ⟨w.heap.size, 1, none⟩ = some (.slice (some ad) ps.length cap) ∧ w1.drew.cell? (ad.add m) = some (.int .u64 pad) from ⟨HS.out.2.2.1, HS.out.2.2.2, hcell⟩)
  clear hcell
  refine lBegin (S := fun _ W => (W.cell? ⟨w.heap.size, 0, none⟩ = some (.int .u64 pt) ∧ W.cell? ⟨w.heap.size, 1, none⟩ = some (.slice (some ad) ps.length cap) ∧ W.cell? (ad.add m) = some (.int .u64 pad))) (by kernel_rfl) ?_ (fun hHeld => ?_)
  · (try dsimp only); (first | with_reducible assumption | with_reducible exact HS1.out)
  refine lTake (i := 0) (v := ?_) rfl (by kernel_rfl) (by kernel_rfl) (by kernel_rfl) (fun _ _ _ h => h) (by rfl) (fun _ _ h => h) (fun _ _ h => h) ?_ (by assumption) (fun hHeld2 => ?_)
  rotate_left 1
  · (intro _ _ _ _ _; first | (go_simp; done) | (go_simp; with_reducible rfl))
  clear hHeld; have hHeld := hHeld2; clear hHeld2
  (try simp only [Act.put, List.setIfInBounds_toArray, List.set_cons_zero, List.set_cons_succ])
  refine lTake (i := 1) (v := ?_) rfl (by kernel_rfl) (by kernel_rfl) (by kernel_rfl) (fun _ _ _ h => h) (by rfl) (fun _ _ h => h) (fun _ _ h => h) ?_ (by assumption) (fun hHeld2 => ?_)
  rotate_left 1
  · (intro L W _ _ hSw; (try dsimp only at hSw); first | (go_simp; done) | (go_simp; with_reducible rfl))
  clear hHeld; have hHeld := hHeld2; clear hHeld2
  (try simp only [Act.put, List.setIfInBounds_toArray, List.set_cons_zero, List.set_cons_succ])
  refine lTake (i := 2) (v := ?_) rfl (by kernel_rfl) (by kernel_rfl) (by kernel_rfl) (fun _ _ _ h => h) (by rfl) (fun _ _ h => h) (fun _ _ h => h) ?_ (by assumption) (fun hHeld2 => ?_)
  rotate_left 1
  · (intro _ _ _ _ _; first | (go_simp; done) | (go_simp; with_reducible rfl))
  clear hHeld; have hHeld := hHeld2; clear hHeld2
  (try simp only [Act.put, List.setIfInBounds_toArray, List.set_cons_zero, List.set_cons_succ])
  refine lTake (i := 3) (v := ?_) rfl (by kernel_rfl) (by kernel_rfl) (by kernel_rfl) (fun _ _ _ h => h) (by rfl) (fun _ _ h => h) (fun _ _ h => h) ?_ (by assumption) (fun hHeld2 => ?_)
  rotate_left 1
  · (intro L W _ _ hSw; (try dsimp only at hSw); first | (go_simp; done) | (go_simp; with_reducible rfl))
  clear hHeld; have hHeld := hHeld2; clear hHeld2
  (try simp only [Act.put, List.setIfInBounds_toArray, List.set_cons_zero, List.set_cons_succ])
  refine lTake (i := 4) (v := ?_) rfl (by kernel_rfl) (by kernel_rfl) (by kernel_rfl) (fun _ _ _ h => h) (by rfl) (fun _ _ h => h) (fun _ _ h => h) ?_ (by assumption) (fun hHeld2 => ?_)
  rotate_left 1
  · (intro _ _ _ _ _; first | (go_simp; done) | (go_simp; with_reducible rfl))
  clear hHeld; have hHeld := hHeld2; clear hHeld2
  (try simp only [Act.put, List.setIfInBounds_toArray, List.set_cons_zero, List.set_cons_succ])
  refine lTake (i := 5) (v := ?_) rfl (by kernel_rfl) (by kernel_rfl) (by kernel_rfl) (fun _ _ _ h => h) (by rfl) (fun _ _ h => h) (fun _ _ h => h) ?_ (by assumption) (fun hHeld2 => ?_)
  rotate_left 1
  · (intro _ _ _ _ _; first | (go_simp; done) | (go_simp; with_reducible rfl))
  clear hHeld; have hHeld := hHeld2; clear hHeld2
  (try simp only [Act.put, List.setIfInBounds_toArray, List.set_cons_zero, List.set_cons_succ])
  refine lTake (i := 6) (v := ?_) rfl (by kernel_rfl) (by kernel_rfl) (by kernel_rfl) (fun _ _ _ h => h) (by rfl) (fun _ _ h => h) (fun _ _ h => h) ?_ (by assumption) (fun hHeld2 => ?_)
  rotate_left 1
  · (intro L W _ _ hSw; (try dsimp only at hSw); first | (go_simp; done) | (go_simp; with_reducible rfl))
  clear hHeld; have hHeld := hHeld2; clear hHeld2
  (try simp only [Act.put, List.setIfInBounds_toArray, List.set_cons_zero, List.set_cons_succ])
  refine lTake (i := 7) (v := ?_) rfl (by kernel_rfl) (by kernel_rfl) (by kernel_rfl) (fun _ _ _ h => h) (by rfl) (fun _ _ h => h) (fun _ _ h => h) ?_ (by assumption) (fun hHeld2 => ?_)
  rotate_left 1
  · (intro _ _ _ _ _; first | (go_simp; done) | (go_simp; with_reducible rfl))
  clear hHeld; have hHeld := hHeld2; clear hHeld2
  (try simp only [Act.put, List.setIfInBounds_toArray, List.set_cons_zero, List.set_cons_succ])
  refine lTake (i := 9) (v := ?_) rfl (by kernel_rfl) (by kernel_rfl) (by kernel_rfl) (fun _ _ _ h => h) (by rfl) (fun _ _ h => h) (fun _ _ h => h) ?_ (by assumption) (fun hHeld2 => ?_)
  rotate_left 1
  · (intro _ _ _ _ _; first | (go_simp; done) | (go_simp; with_reducible rfl))
  clear hHeld; have hHeld := hHeld2; clear hHeld2
  (try simp only [Act.put, List.setIfInBounds_toArray, List.set_cons_zero, List.set_cons_succ])
  refine lReady (rs := [8]) (by kernel_rfl) (by simp) ?_
  refine AllL.cons (i := 8) rfl (fun K hK => ?_) ?_
  · go_simp; (first | ((with_reducible refine (F1.out _).mono ?_); rintro e w2 ⟨rfl, hb, hk⟩; have HKz := Lib.hid HX.out.size; have HKb := Lib.hid hk; (first | (have HNb := Lib.hid (HNb.out.below hb HNb.out.lt)) | skip); have HX := Lib.hid (HX.out.trans (hb.mono HX.out.size)); have HS1 := Lib.hid (And.intro (HS.out.below HX.out).2.2.1 (And.intro (HS.out.below HX.out).2.2.2 (HPc.out _ HX.out))); clear hb hk) | ((with_reducible refine (F2.out _).mono ?_); rintro e w2 ⟨rfl, hb, hk⟩; have HNb := Lib.hid hk; (first | (have HKb := Lib.hid (HKb.out.below hb HKb.out.lt)) | skip); have HX := Lib.hid (HX.out.trans (hb.mono HX.out.size)); have HS1 := Lib.hid (And.intro (HS.out.below HX.out).2.2.1 (And.intro (HS.out.below HX.out).2.2.2 (HPc.out _ HX.out))); clear hb hk))
    (try go_wp2_with fail)
    refine hK.out _ _ ?_ (fun hHeld2 => ?_)
    · (try dsimp only); (first | with_reducible assumption | with_reducible exact HS1.out)
    clear hK K
    clear hHeld; have hHeld := hHeld2; clear hHeld2
    (try simp only [Act.put, List.setIfInBounds_toArray, List.set_cons_zero, List.set_cons_succ])
    refine lReady (rs := [10]) (by kernel_rfl) (by simp) ?_
    refine AllL.cons (i := 10) rfl (fun K hK => ?_) ?_
    · go_simp; (first | ((with_reducible refine (F1.out _).mono ?_); rintro e w2 ⟨rfl, hb, hk⟩; have HKz := Lib.hid HX.out.size; have HKb := Lib.hid hk; (first | (have HNb := Lib.hid (HNb.out.below hb HNb.out.lt)) | skip); have HX := Lib.hid (HX.out.trans (hb.mono HX.out.size)); have HS1 := Lib.hid (And.intro (HS.out.below HX.out).2.2.1 (And.intro (HS.out.below HX.out).2.2.2 (HPc.out _ HX.out))); clear hb hk) | ((with_reducible refine (F2.out _).mono ?_); rintro e w2 ⟨rfl, hb, hk⟩; have HNb := Lib.hid hk; (first | (have HKb := Lib.hid (HKb.out.below hb HKb.out.lt)) | skip); have HX := Lib.hid (HX.out.trans (hb.mono HX.out.size)); have HS1 := Lib.hid (And.intro (HS.out.below HX.out).2.2.1 (And.intro (HS.out.below HX.out).2.2.2 (HPc.out _ HX.out))); clear hb hk))
      (try go_wp2_with fail)
      refine hK.out _ _ ?_ (fun hHeld2 => ?_)
      · (try dsimp only); (first | with_reducible assumption | with_reducible exact HS1.out)
      clear hK K
      clear hHeld; have hHeld := hHeld2; clear hHeld2
      (try simp only [Act.put, List.setIfInBounds_toArray, List.set_cons_zero, List.set_cons_succ])
      refine lReady (rs := [11]) (by kernel_rfl) (by simp) ?_
      refine AllL.cons (i := 11) rfl (fun K hK => ?_) ?_
      · refine step_append_any (.tmp 32) (.tmp 34) 133 rfl rfl w.heap.size 5 i5 (.int .u8 0) 1 1 Try.underlying133 hi5 y0 y1 y2 rfl (by decide) _ 4 4 ((Pf.four k).map (Value.int .u8)) (by rfl) (blk_row HKb.out (by have := HKz.out; have := HS.out.2.1; omega) (by simp [Pf.four, maxLen])) _ 4 4 ((Pf.four m).map (Value.int .u8)) (by rfl) rfl (src_blk HNb.out 4) (one_u8 _) (by unfold maxLen; omega) (by omega) (by have := HX.out.size; have := HS.out.2.1; omega) ?_; intro A3 c3 w3 hown hgrow hat; have HX := Lib.hid (HX.out.grown hgrow HX.out.size (fun j hj => by simp [Value.ownBlock] at hj; have := HKz.out; omega)); have HS1 := Lib.hid (And.intro (HS.out.below HX.out).2.2.1 (And.intro (HS.out.below HX.out).2.2.2 (HPc.out _ HX.out))); have HO := Lib.hid (show BRow w.heap.size A3 8 c3 (Pf.msg k m) w3 from by unfold BRow Pf.msg; rw [List.map_append]; exact hown); clear hown hgrow hat; try simp only [Nat.reduceAdd]
        (try go_wp2_with fail)
        refine hK.out _ _ ?_ (fun hHeld2 => ?_)
        · (try dsimp only); (first | with_reducible assumption | with_reducible exact HS1.out)
        clear hK K
        clear hHeld; have hHeld := hHeld2; clear hHeld2
        (try simp only [Act.put, List.setIfInBounds_toArray, List.set_cons_zero, List.set_cons_succ])
        refine lReady (rs := [12]) (by kernel_rfl) (by simp) ?_
        refine AllL.cons (i := 12) rfl (fun K hK => ?_) ?_
        · go_simp; (refine (PT.out _ _ _ (src_row HO.out (by decide))).mono ?_; rintro e w4 ⟨rfl, hb⟩; have HX := Lib.hid (HX.out.trans (hb.mono HX.out.size)); have HS1 := Lib.hid (And.intro (HS.out.below HX.out).2.2.1 (And.intro (HS.out.below HX.out).2.2.2 (HPc.out _ HX.out))); clear hb)
          (try go_wp2_with fail)
          refine hK.out _ _ ?_ (fun hHeld2 => ?_)
          · (try dsimp only); (first | with_reducible assumption | with_reducible exact HS1.out)
          clear hK K
          clear hHeld; have hHeld := hHeld2; clear hHeld2
          (try simp only [Act.put, List.setIfInBounds_toArray, List.set_cons_zero, List.set_cons_succ])
          refine lTake (i := 13) (v := ?_) rfl (by kernel_rfl) (by kernel_rfl) (by kernel_rfl) (fun _ _ _ h => h) (by rfl) (fun _ _ h => h) (fun _ _ h => h) ?_ (by assumption) (fun hHeld2 => ?_)
          rotate_left 1
          · (intro _ _ _ _ _; first | (go_simp; done) | (go_simp; with_reducible rfl))
          clear hHeld; have hHeld := hHeld2; clear hHeld2
          (try simp only [Act.put, List.setIfInBounds_toArray, List.set_cons_zero, List.set_cons_succ])
          refine lTake (i := 14) (v := ?_) rfl (by kernel_rfl) (by kernel_rfl) (by kernel_rfl) (fun _ _ _ h => h) (by rfl) (fun _ _ h => h) (fun _ _ h => h) ?_ (by assumption) (fun hHeld2 => ?_)
          rotate_left 1
          · (intro _ _ _ _ _; first | (go_simp; done) | (go_simp; with_reducible rfl))
          clear hHeld; have hHeld := hHeld2; clear hHeld2
          (try simp only [Act.put, List.setIfInBounds_toArray, List.set_cons_zero, List.set_cons_succ])
          refine lTake (i := 15) (v := ?_) rfl (by kernel_rfl) (by kernel_rfl) (by kernel_rfl) (fun _ _ _ h => h) (by rfl) (fun _ _ h => h) (fun _ _ h => h) ?_ (by assumption) (fun hHeld2 => ?_)
          rotate_left 1
          · (intro _ _ _ _ _; first | (go_simp; done) | (go_simp; with_reducible rfl))
          clear hHeld; have hHeld := hHeld2; clear hHeld2
          (try simp only [Act.put, List.setIfInBounds_toArray, List.set_cons_zero, List.set_cons_succ])
          refine lTake (i := 16) (v := ?_) rfl (by kernel_rfl) (by kernel_rfl) (by kernel_rfl) (fun _ _ _ h => h) (by rfl) (fun _ _ h => h) (fun _ _ h => h) ?_ (by assumption) (fun hHeld2 => ?_)
          rotate_left 1
          · (intro _ _ _ _ _; first | (go_simp; done) | (go_simp; with_reducible rfl))
          clear hHeld; have hHeld := hHeld2; clear hHeld2
          (try simp only [Act.put, List.setIfInBounds_toArray, List.set_cons_zero, List.set_cons_succ])
          refine lDone (by kernel_rfl) ?_ _
          clear hHeld
          go_wp2_with fail
          go_ret2
          exact ⟨ret_pf ⟨HP.out.1.symm, HP.out.2.symm⟩, (HS.out.below HX.out).1⟩
        exact AllL.nil
      exact AllL.nil
    exact AllL.nil
  exact AllL.nil
end Go.Proofs.Ytafajclbghofkaa
