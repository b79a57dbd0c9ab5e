/- The contract of CheckTariff of charge. -/
import Derived.Test.YtafajclbghofkaaA1
namespace Go.Proofs.Ytafajclbghofkaa
open Go.RowKit
set_option linter.unusedVariables false

/-- the least start of band k, as CheckTariff has it -/
def leastAt (bs : List Bd) (k : Nat) : Int := if k = 0 then 0 else Cv.fr bs (k - 1) + 1
theorem leastAt_succ (bs : List Bd) (k : Nat) : leastAt bs (k + 1) = Cv.fr bs k + 1 := by simp [leastAt]
theorem okAt_of {day : Int} {bs : List Bd} {k : Nat} (h1 : leastAt bs k ≤ Cv.fr bs k) (h0 : 0 ≤ leastAt bs k) (h2 : Cv.fr bs k < day) (h3 : k = 0 → Cv.fr bs k ≤ 0) (h4 : Cv.inB (Cv.inn bs k) 0 1048576 = true) (h5 : Cv.inB (Cv.bk bs k) 0 1048576 = true) : Cv.okAt day bs k := by
  refine ⟨⟨by omega, h2⟩, fun hk => by have := h3 hk; omega, fun hk => ?_, Cv.inB_iff.1 h4, Cv.inB_iff.1 h5⟩
  unfold leastAt at h1
  rw [if_neg (by omega)] at h1
  omega
theorem okAt_least {day : Int} {bs : List Bd} {k : Nat} (h : Cv.okAt day bs k) : leastAt bs k ≤ Cv.fr bs k := by
  unfold leastAt
  split
  · exact h.1.1
  · have := h.2.2.1 (by omega); omega

set_option maxHeartbeats 2000000 in
theorem CheckTariff_body (day fee : Int) (A : Option Addr) (bs : List Bd) (cap : Nat) (w : World) (h0 : Cv.inB day 1 1099511627776 = true) (h1 : 1 ≤ bs.length) (h2 : bs.length ≤ 48) (h3 : Cv.inB fee 0 1048576 = true) (hcap : bs.length ≤ cap) (hw : BandsAt w A bs) :
    Calls Try.prog 17 #[.agg #[.int .i64 day, .slice A bs.length cap, .int .i64 fee]] w fun e w' => e = .returned (.int .i64 (Cv.tarE day fee bs)) ∧ Below w.heap.size w w' := by
  have hn0 : ((bs.length : Int) == 0) = false := int_beq_false (by omega)
  have hn1 : decide (48 < (bs.length : Int)) = false := by simp; omega
  have hd := Cv.inB_iff.1 h0
  have HF := Lib.hid (Cv.inB_iff.1 h3)
  have HW := Lib.hid hw
  clear hw
  go_enter Try.func17, Try.ntmps17
  go_wp2_with (go_at_call 51; refine (within_c _ _ _ _).mono ?_; rintro e w' ⟨rfl, rfl⟩)
  go_loopw [3, 31] (fun l i wr => ∃ k : Nat, k ≤ bs.length ∧ i = .int .i64 k ∧ l = .int .i64 (leastAt bs k) ∧ Below (w.heap.size + 1) (w.alloc (.cells #[.int .i64 day, .slice A bs.length cap, .int .i64 fee] 24)) wr ∧ ∀ j, j < k → Cv.okAt day bs j) (fun _ i _ => bs.length - (intOf i).toNat)
  case atStart => exact ⟨0, Nat.zero_le _, rfl, by simp [leastAt], by simpa using Below.refl _ _, fun j hj => absurd hj (Nat.not_lt_zero _)⟩
  case round =>
    obtain ⟨k, hk, rfl, rfl, hb, hall⟩ := hrel
    have HB := Lib.hid hb
    have HA := Lib.hid hall
    have t0 : wr.cell? ⟨w.heap.size, 0, none⟩ = some (.int .i64 day) := below_cell hb (by omega) (by go_simp)
    have hz : w.heap.size < wr.heap.size := by have := hb.size; simp at this; omega
    have HBb := Lib.hid (show Below w.heap.size w wr from ((Below.refl _ _).alloc (Nat.le_refl _) _).trans (hb.mono (by omega)))
    have hl0 : 0 ≤ leastAt bs k := by
      unfold leastAt
      split
      · omega
      · have := (hall (k - 1) (by omega)).1.1; omega
    have HK := Lib.hid (show Cv.TarOk day fee bs → leastAt bs k ≤ Cv.fr bs k ∨ bs.length ≤ k from fun h => by
      by_cases hkk : k < bs.length
      · exact .inl (okAt_least (h.2.2.2 k hkk))
      · exact .inr (by omega))
    have HO := Lib.hid (fun a b c d e => okAt_of (day := day) (bs := bs) (k := k) a hl0 b c d e)
    have HS := Lib.hid (leastAt_succ bs k)
    clear hb hall
    by_cases hlt : k < bs.length
    · obtain ⟨ad, hA, hadb, c0, c1, c2⟩ := HW.out.below HBb.out k hlt
      subst hA
      have HN := Lib.hid (fun h : Cv.TarOk day fee bs => h.2.2.2 k hlt)
      have HOk := Lib.hid (show Cv.okAt day bs k ↔ Cv.okAt day bs k from Iff.rfl)
      generalize hf : Cv.fr bs k = f at *
      generalize hi : Cv.inn bs k = i at *
      generalize hbk : Cv.bk bs k = b at *
      generalize hll : leastAt bs k = l at *
      have HE := Lib.hid (And.intro hf (And.intro hi (And.intro hbk hll)))
      clear hf hi hbk hll
      by_cases g1 : l ≤ f
      · by_cases g2 : f < day
        · by_cases g3 : k = 0 ∧ 0 < f
          · obtain ⟨rfl, g3⟩ := g3
            have c0' : wr.cell? ad = some (.int .i64 f) := by simpa [Addr.add] using c0
            have c1' : wr.cell? ⟨ad.block, ad.off + 1, none⟩ = some (.int .i64 i) := by simpa [Addr.add] using c1
            have c2' : wr.cell? ⟨ad.block, ad.off + 2, none⟩ = some (.int .i64 b) := by simpa [Addr.add] using c2
            go_wp2_with (go_at_call 51; refine (within_c _ _ _ _).mono ?_; rintro e w' ⟨rfl, rfl⟩)
            go_ret
            exact ⟨ret_int (Cv.tarE_no (fun h => by have := (HN.out h).2.1 rfl; have := HE.out.1; omega)).symm, HBb.out.alloc (by omega) _⟩
          · cases g4 : Cv.inB i 0 1048576
            · by_cases hk0 : k = 0
              · have hk0' : ((k : Int) == 0) = true := by simp; omega
                have g6 : ¬ 0 < f := fun h => g3 ⟨hk0, h⟩
                have HK0 := Lib.hid hk0
                clear hk0 g3
                go_wp2_with (go_at_call 51; refine (within_c _ _ _ _).mono ?_; rintro e w' ⟨rfl, rfl⟩)
                all_goals
                  go_ret
                  exact ⟨ret_int (Cv.tarE_no (fun h => by have h5 := Cv.inB_iff.2 (HN.out h).2.2.2.1; rw [HE.out.2.1, g4] at h5; cases h5)).symm, HBb.out.alloc (by omega) _⟩
              · have hk0' : ((k : Int) == 0) = false := by simp; omega
                clear g3
                go_wp2_with (go_at_call 51; refine (within_c _ _ _ _).mono ?_; rintro e w' ⟨rfl, rfl⟩)
                all_goals
                  go_ret
                  exact ⟨ret_int (Cv.tarE_no (fun h => by have h5 := Cv.inB_iff.2 (HN.out h).2.2.2.1; rw [HE.out.2.1, g4] at h5; cases h5)).symm, HBb.out.alloc (by omega) _⟩
            · cases g5 : Cv.inB b 0 1048576
              · by_cases hk0 : k = 0
                · have hk0' : ((k : Int) == 0) = true := by simp; omega
                  have g6 : ¬ 0 < f := fun h => g3 ⟨hk0, h⟩
                  have HK0 := Lib.hid hk0
                  clear hk0 g3
                  go_wp2_with (go_at_call 51; refine (within_c _ _ _ _).mono ?_; rintro e w' ⟨rfl, rfl⟩)
                  all_goals
                    go_ret
                    exact ⟨ret_int (Cv.tarE_no (fun h => by have h5 := Cv.inB_iff.2 (HN.out h).2.2.2.2; rw [HE.out.2.2.1, g5] at h5; cases h5)).symm, HBb.out.alloc (by omega) _⟩
                · have hk0' : ((k : Int) == 0) = false := by simp; omega
                  clear g3
                  go_wp2_with (go_at_call 51; refine (within_c _ _ _ _).mono ?_; rintro e w' ⟨rfl, rfl⟩)
                  all_goals
                    go_ret
                    exact ⟨ret_int (Cv.tarE_no (fun h => by have h5 := Cv.inB_iff.2 (HN.out h).2.2.2.2; rw [HE.out.2.2.1, g5] at h5; cases h5)).symm, HBb.out.alloc (by omega) _⟩
              · by_cases hk0 : k = 0
                · have hk0' : ((k : Int) == 0) = true := by simp; omega
                  have g6 : ¬ 0 < f := fun h => g3 ⟨hk0, h⟩
                  have HK0 := Lib.hid hk0
                  clear hk0 g3
                  go_wp2_with (go_at_call 51; refine (within_c _ _ _ _).mono ?_; rintro e w' ⟨rfl, rfl⟩)
                  all_goals
                    go_roundw
                    case rel =>
                      refine ⟨k + 1, by omega, by go_num, by rw [HS.out], HB.out.alloc (by omega) _, fun j hj => ?_⟩
                      have hk0 := HK0.out
                      obtain rfl : j = k := by omega
                      exact HO.out g1 g2 (fun _ => by omega) g4 g5
                    case measure => simp [intOf]; omega
                · have hk0' : ((k : Int) == 0) = false := by simp; omega
                  clear g3
                  go_wp2_with (go_at_call 51; refine (within_c _ _ _ _).mono ?_; rintro e w' ⟨rfl, rfl⟩)
                  all_goals
                    go_roundw
                    case rel =>
                      refine ⟨k + 1, by omega, by go_num, by rw [HS.out], HB.out.alloc (by omega) _, fun j hj => ?_⟩
                      by_cases hjk : j < k
                      · exact HA.out j hjk
                      · obtain rfl : j = k := by omega
                        exact HO.out g1 g2 (fun _ => by omega) g4 g5
                    case measure => simp [intOf]; omega
        · go_wp2_with (go_at_call 51; refine (within_c _ _ _ _).mono ?_; rintro e w' ⟨rfl, rfl⟩)
          all_goals
            go_ret
            exact ⟨ret_int (Cv.tarE_no (fun h => by have := (HN.out h).1.2; have := HE.out.1; omega)).symm, HBb.out.alloc (by omega) _⟩
      · go_wp2_with (go_at_call 51; refine (within_c _ _ _ _).mono ?_; rintro e w' ⟨rfl, rfl⟩)
        all_goals
          go_ret
          exact ⟨ret_int (Cv.tarE_no (fun h => by rcases HK.out h with h' | h' <;> omega)).symm, HBb.out.alloc (by omega) _⟩
    · go_wp2_with fail
      go_ret
      refine ⟨ret_int (Cv.tarE_ok ⟨hd, ⟨h1, h2⟩, HF.out, fun i hi => HA.out i (by omega)⟩).symm, HBb.out⟩
end Go.Proofs.Ytafajclbghofkaa
