/- The contract of CheckTariff of coulombref09. -/
import Derived.Test.YtafajclbghofkaaA2
namespace Go.Proofs.Ytafajclbghofkaa
open Go.RowKit
set_option linter.unusedVariables false

set_option maxHeartbeats 400000 in
theorem CheckTariffR_head (day fee : Int) (A : Option Addr) (bs : List Bd) (cap : Nat) (w : World) (hw : BandsAt w A bs) (hn63 : bs.length ≤ 9223372036854775807) (hcap : bs.length ≤ cap) (h : HeadBad day fee bs.length ∨ Cv.fr bs 0 ≠ 0) :
    Calls Try.prog 18 #[.agg #[.int .i64 day, .slice A bs.length cap, .int .i64 fee]] w fun e w' => e = .returned (.int .i64 2) ∧ Below w.heap.size w w' := by
  have HW := Lib.hid hw
  clear hw
  cases h0 : Cv.inB day 1 1099511627776
  · clear h
    go_enter Try.func18, Try.ntmps18
    go_wp2_with (go_at_call 54; refine (in_c _ _ _ _).mono ?_; rintro e w' ⟨rfl, rfl⟩)
    go_ret
    exact ⟨rfl, (Below.refl _ _).alloc (Nat.le_refl _) _⟩
  · have h0' := Cv.inB_iff.1 h0
    by_cases h1 : bs.length < 1
    · have hn0 : decide ((bs.length : Int) < 1) = true := by simp only [decide_eq_true_eq]; omega
      clear h
      go_enter Try.func18, Try.ntmps18
      go_wp2_with (go_at_call 54; refine (in_c _ _ _ _).mono ?_; rintro e w' ⟨rfl, rfl⟩)
      go_ret
      exact ⟨rfl, (Below.refl _ _).alloc (Nat.le_refl _) _⟩
    · have hn0 : decide ((bs.length : Int) < 1) = false := by simp only [decide_eq_false_iff_not]; omega
      by_cases h2 : 48 < bs.length
      · have hn1 : decide (48 < (bs.length : Int)) = true := by simp only [decide_eq_true_eq]; omega
        clear h h1
        go_enter Try.func18, Try.ntmps18
        go_wp2_with (go_at_call 54; refine (in_c _ _ _ _).mono ?_; rintro e w' ⟨rfl, rfl⟩)
        go_ret
        exact ⟨rfl, (Below.refl _ _).alloc (Nat.le_refl _) _⟩
      · have hn1 : decide (48 < (bs.length : Int)) = false := by simp only [decide_eq_false_iff_not]; omega
        obtain ⟨ad, rfl, hadb, c0, _, _⟩ := HW.out 0 (by omega)
        have c0' : w.cell? ad = some (.int .i64 (Cv.fr bs 0)) := by simpa [Addr.add] using c0
        have hp : 0 < bs.length := by omega
        clear c0
        by_cases h3 : Cv.fr bs 0 = 0
        · have h4 : Cv.inB fee 0 1048576 = false := Cv.inB_no (by unfold HeadBad at h; omega)
          have hf0 : (Cv.fr bs 0 != 0) = false := by simpa using h3
          clear h h3
          generalize Cv.fr bs 0 = f0 at *
          go_enter Try.func18, Try.ntmps18
          go_wp2_with (go_at_call 54; refine (in_c _ _ _ _).mono ?_; rintro e w' ⟨rfl, rfl⟩)
          go_ret
          exact ⟨rfl, (Below.refl _ _).alloc (Nat.le_refl _) _⟩
        · have hf0 : (Cv.fr bs 0 != 0) = true := by simpa using h3
          clear h h3
          generalize Cv.fr bs 0 = f0 at *
          go_enter Try.func18, Try.ntmps18
          go_wp2_with (go_at_call 54; refine (in_c _ _ _ _).mono ?_; rintro e w' ⟨rfl, rfl⟩)
          go_ret
          exact ⟨rfl, (Below.refl _ _).alloc (Nat.le_refl _) _⟩

set_option maxHeartbeats 2000000 in
theorem CheckTariffR_body (day fee : Int) (A : Option Addr) (bs : List Bd) (cap : Nat) (w : World) (h0 : Cv.inB day 1 1099511627776 = true) (h1 : 1 ≤ bs.length) (h2 : bs.length ≤ 48) (h3 : Cv.inB fee 0 1048576 = true) (hf : Cv.fr bs 0 = 0) (hcap : bs.length ≤ cap) (hw : BandsAt w A bs) :
    Calls Try.prog 18 #[.agg #[.int .i64 day, .slice A bs.length cap, .int .i64 fee]] w fun e w' => e = .returned (.int .i64 (Cv.tarE day fee bs)) ∧ Below w.heap.size w w' := by
  have hn0 : decide ((bs.length : Int) < 1) = false := by simp only [decide_eq_false_iff_not]; omega
  have hn1 : decide (48 < (bs.length : Int)) = false := by simp only [decide_eq_false_iff_not]; omega
  have hd := Cv.inB_iff.1 h0
  have HF := Lib.hid (Cv.inB_iff.1 h3)
  have HW := Lib.hid hw
  obtain ⟨ad, rfl, hadb, c0, _, _⟩ := hw 0 (by omega)
  have c0' : w.cell? ad = some (.int .i64 (Cv.fr bs 0)) := by simpa [Addr.add] using c0
  have hf0 : (Cv.fr bs 0 != 0) = false := by simpa using hf
  have HF0 := Lib.hid hf
  have hp : 0 < bs.length := by omega
  clear c0 hf hw
  go_enter Try.func18, Try.ntmps18
  go_wp2_with (go_at_call 54; refine (in_c _ _ _ _).mono ?_; rintro e w' ⟨rfl, rfl⟩)
  clear c0' hf0
  go_loopw [3] (fun i wr => ∃ k : Nat, k ≤ bs.length ∧ i = .int .i64 k ∧ Below (w.heap.size + 1) (w.alloc (.cells #[.int .i64 day, .slice (some ad) bs.length cap, .int .i64 fee] 24)) wr ∧ ∀ j, j < k → Cv.okAt day bs j) (fun i _ => bs.length - (intOf i).toNat)
  case atStart => exact ⟨0, Nat.zero_le _, rfl, by simpa using Below.refl _ _, fun j hj => absurd hj (Nat.not_lt_zero _)⟩
  case round =>
    obtain ⟨k, hk, rfl, hb, hall⟩ := hrel
    have HB := Lib.hid hb
    have HA := Lib.hid hall
    have t0 : wr.cell? ⟨w.heap.size, 0, none⟩ = some (.int .i64 day) := below_cell hb (by omega) (by go_simp)
    have t1 : wr.cell? ⟨w.heap.size, 1, none⟩ = some (.slice (some ad) bs.length cap) := below_cell hb (by omega) (by go_simp)
    have hz : w.heap.size < wr.heap.size := by have := hb.size; simp at this; omega
    have HBb := Lib.hid (show Below w.heap.size w wr from ((Below.refl _ _).alloc (Nat.le_refl _) _).trans (hb.mono (by omega)))
    clear hb hall
    by_cases hlt : k < bs.length
    · obtain ⟨ad', hA, hadb', c0, c1, c2⟩ := HW.out.below HBb.out k hlt
      injection hA with hA
      subst hA
      have HN := Lib.hid (fun h : Cv.TarOk day fee bs => h.2.2.2 k hlt)
      by_cases hk0 : k = 0
      · subst hk0
        have c0' : wr.cell? ad = some (.int .i64 (Cv.fr bs 0)) := by simpa [Addr.add] using c0
        have c1' : wr.cell? ⟨ad.block, ad.off + 1, none⟩ = some (.int .i64 (Cv.inn bs 0)) := by simpa [Addr.add] using c1
        have c2' : wr.cell? ⟨ad.block, ad.off + 2, none⟩ = some (.int .i64 (Cv.bk bs 0)) := by simpa [Addr.add] using c2
        clear c0 c1 c2
        cases g1 : Cv.inB (Cv.fr bs 0) 0 (day - 1)
        · go_wp2_with fail
          go_quiet ((go_at_call 54; exact quiet_left (in_c _ _ _ _)))
          go_wp2_with fail
          go_ret
          refine ⟨ret_int (Cv.tarE_no (fun h => by have h5 := (HN.out h).1; rw [Cv.inB_iff.2 ⟨h5.1, by omega⟩] at g1; cases g1)).symm, below_drewN (HBb.out.alloc (by omega) _) _⟩
        · cases g4 : Cv.inB (Cv.inn bs 0) 0 1048576
          · go_wp2_with fail
            go_quiet ((go_at_call 54; exact quiet_left (in_c _ _ _ _)))
            go_wp2_with fail
            go_ret
            refine ⟨ret_int (Cv.tarE_no (fun h => by have h5 := (HN.out h).2.2.2.1; rw [Cv.inB_iff.2 h5] at g4; cases g4)).symm, below_drewN (HBb.out.alloc (by omega) _) _⟩
          · cases g5 : Cv.inB (Cv.bk bs 0) 0 1048576
            · go_wp2_with fail
              go_quiet ((go_at_call 54; exact quiet_left (in_c _ _ _ _)))
              go_wp2_with fail
              go_ret
              refine ⟨ret_int (Cv.tarE_no (fun h => by have h5 := (HN.out h).2.2.2.2; rw [Cv.inB_iff.2 h5] at g5; cases g5)).symm, below_drewN (HBb.out.alloc (by omega) _) _⟩
            · go_wp2_with fail
              go_quiet ((go_at_call 54; exact quiet_left (in_c _ _ _ _)))
              go_wp2_with fail
              go_roundw
              case rel =>
                refine ⟨1, by omega, rfl, below_drewN (HB.out.alloc (by omega) _) _, fun j hj => ?_⟩
                obtain rfl : j = 0 := by omega
                have b1 := Cv.inB_iff.1 g1
                exact ⟨⟨b1.1, by omega⟩, fun _ => HF0.out, fun h => absurd h (Nat.lt_irrefl _), Cv.inB_iff.1 g4, Cv.inB_iff.1 g5⟩
              case measure => simp [intOf]; omega
      · obtain ⟨ad2, hA2, _, e0, _, _⟩ := HW.out.below HBb.out (k - 1) (by omega)
        injection hA2 with hA2
        subst hA2
        have hkp : 0 < k := by omega
        have hkd : decide (0 < (k : Int)) = true := by simp only [decide_eq_true_eq]; omega
        have hki : ((k : Int) - 1).toNat = k - 1 := by omega
        have hwd : IntKind.i64.wrap (day - 1) = day - 1 := IntWalk.i64_in _ (by omega)
        have hb1 : (ad.add ((k - 1) * 3)).block < wr.heap.size := by rw [block_of_add]; exact hadb'
        have hw1 : IntKind.i64.wrap ((k : Int) - 1) = (k : Int) - 1 := IntWalk.i64_in _ (by omega)
        have hw2 : (1 : Int) ≤ (k : Int) := by omega
        have hw3 : (k : Int) - 1 < (bs.length : Int) := by omega
        clear hk0
        have HWS := Lib.hid (And.intro hki (And.intro hw1 (And.intro hw2 hw3)))
        cases g1 : Cv.inB (Cv.fr bs k) 0 (day - 1)
        · clear hki hw1 hw2 hw3
          go_wp2_with fail
          go_quiet ((go_at_call 54; exact quiet_left (in_c _ _ _ _)))
          go_wp2_with fail
          go_ret
          refine ⟨ret_int (Cv.tarE_no (fun h => by have h5 := (HN.out h).1; rw [Cv.inB_iff.2 ⟨h5.1, by omega⟩] at g1; cases g1)).symm, below_drewN (HBb.out.alloc (by omega) _) _⟩
        · by_cases g2 : Cv.fr bs (k - 1) < Cv.fr bs k
          · have g2' : decide (Cv.fr bs k ≤ Cv.fr bs (k - 1)) = false := by simp only [decide_eq_false_iff_not]; omega
            cases g4 : Cv.inB (Cv.inn bs k) 0 1048576
            · go_wp2_with fail
              go_quiet ((go_at_call 54; exact quiet_left (in_c _ _ _ _)))
              go_wp2_with fail
              go_ret
              refine ⟨ret_int (Cv.tarE_no (fun h => by have h5 := (HN.out h).2.2.2.1; rw [Cv.inB_iff.2 h5] at g4; cases g4)).symm, below_drewN (HBb.out.alloc (by omega) _) _⟩
            · cases g5 : Cv.inB (Cv.bk bs k) 0 1048576
              · go_wp2_with fail
                go_quiet ((go_at_call 54; exact quiet_left (in_c _ _ _ _)))
                go_wp2_with fail
                go_ret
                refine ⟨ret_int (Cv.tarE_no (fun h => by have h5 := (HN.out h).2.2.2.2; rw [Cv.inB_iff.2 h5] at g5; cases g5)).symm, below_drewN (HBb.out.alloc (by omega) _) _⟩
              · go_wp2_with fail
                go_quiet ((go_at_call 54; exact quiet_left (in_c _ _ _ _)))
                go_wp2_with fail
                clear hki hw1 hwd
                go_roundw
                case rel =>
                  refine ⟨k + 1, by omega, by go_num, below_drewN (HB.out.alloc (by omega) _) _, fun j hj => ?_⟩
                  by_cases hjk : j < k
                  · exact HA.out j hjk
                  · obtain rfl : j = k := by omega
                    have b1 := Cv.inB_iff.1 g1
                    refine ⟨by omega, fun h => by omega, fun _ => g2, Cv.inB_iff.1 g4, Cv.inB_iff.1 g5⟩
                case measure => simp [intOf]; omega
          · have g2' : decide (Cv.fr bs k ≤ Cv.fr bs (k - 1)) = true := by simp only [decide_eq_true_eq]; omega
            go_wp2_with fail
            go_quiet ((go_at_call 54; exact quiet_left (in_c _ _ _ _)))
            go_wp2_with fail
            go_ret
            refine ⟨ret_int (Cv.tarE_no (fun h => by have h5 := (HN.out h).2.2.1 hkp; omega)).symm, below_drewN (HBb.out.alloc (by omega) _) _⟩
    · go_wp2_with fail
      go_ret
      refine ⟨ret_int (Cv.tarE_ok ⟨hd, ⟨h1, h2⟩, HF.out, fun i hi => HA.out i (by omega)⟩).symm, HBb.out⟩

theorem head_or {day fee : Int} {n : Nat} : HeadBad day fee n ∨ (Cv.inB day 1 1099511627776 = true ∧ 1 ≤ n ∧ n ≤ 48 ∧ Cv.inB fee 0 1048576 = true) := by
  unfold HeadBad
  by_cases h1 : 1 ≤ day ∧ day ≤ 1099511627776
  · by_cases h2 : 0 ≤ fee ∧ fee ≤ 1048576
    · by_cases h3 : n = 0
      · exact .inl (.inr (.inl h3))
      · by_cases h4 : 48 < n
        · exact .inl (.inr (.inr (.inl h4)))
        · exact .inr ⟨Cv.inB_iff.2 h1, by omega, by omega, Cv.inB_iff.2 h2⟩
    · exact .inl (.inr (.inr (.inr h2)))
  · exact .inl (.inl h1)
theorem tarE_head {day fee : Int} {bs : List Bd} (h : HeadBad day fee bs.length) : Cv.tarE day fee bs = 2 :=
  Cv.tarE_no (fun ht => by
    obtain ⟨h1, h2, h3, _⟩ := ht
    unfold HeadBad at h
    omega)

theorem CheckTariff_c (day fee : Int) (A : Option Addr) (bs : List Bd) (cap : Nat) (w : World) (hcap : bs.length ≤ cap) (hl : cap ≤ 9223372036854775807) (hw : BandsAt w A bs) :
    Calls Try.prog 17 #[.agg #[.int .i64 day, .slice A bs.length cap, .int .i64 fee]] w fun e w' => e = .returned (.int .i64 (Cv.tarE day fee bs)) ∧ Below w.heap.size w w' := by
  rcases head_or (day := day) (fee := fee) (n := bs.length) with h | ⟨h0, h1, h2, h3⟩
  · rw [tarE_head h]
    exact CheckTariff_head day fee A bs.length cap w (by omega) h
  · exact CheckTariff_body day fee A bs cap w h0 h1 h2 h3 hcap hw
theorem CheckTariffR_c (day fee : Int) (A : Option Addr) (bs : List Bd) (cap : Nat) (w : World) (hcap : bs.length ≤ cap) (hl : cap ≤ 9223372036854775807) (hw : BandsAt w A bs) :
    Calls Try.prog 18 #[.agg #[.int .i64 day, .slice A bs.length cap, .int .i64 fee]] w fun e w' => e = .returned (.int .i64 (Cv.tarE day fee bs)) ∧ Below w.heap.size w w' := by
  rcases head_or (day := day) (fee := fee) (n := bs.length) with h | ⟨h0, h1, h2, h3⟩
  · rw [tarE_head h]
    exact CheckTariffR_head day fee A bs cap w hw (by omega) hcap (.inl h)
  · by_cases hf : Cv.fr bs 0 = 0
    · exact CheckTariffR_body day fee A bs cap w h0 h1 h2 h3 hf hcap hw
    · rw [Cv.tarE_no (fun ht => hf ((ht.2.2.2 0 (by omega)).2.1 rfl))]
      exact CheckTariffR_head day fee A bs cap w hw (by omega) hcap (.inr hf)
end Go.Proofs.Ytafajclbghofkaa
