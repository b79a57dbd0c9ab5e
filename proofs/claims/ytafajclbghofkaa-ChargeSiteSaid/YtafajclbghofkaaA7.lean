/- Price of charge. -/
import Derived.Test.YtafajclbghofkaaA6
import Derived.Deep.RegionWith
import Derived.StillTailTactics
namespace Go.Proofs.Ytafajclbghofkaa
open Go.RowKit
set_option linter.unusedVariables false

/-- the band that the search names -/
theorem found_band {day fee : Int} {bs : List Bd} {a : Int} {i : Nat} (hok : Cv.TarOk day fee bs) (ha : 0 ≤ a) (hf : Found bs (a % day) i) :
    (i < bs.length ∧ Cv.fr bs i = a % day ∧ Cv.prK day bs a = i) ∨ (¬ (i < bs.length ∧ Cv.fr bs i = a % day) ∧ ∃ k, i = k + 1 ∧ k < bs.length ∧ Cv.prK day bs a = k) := by
  obtain ⟨h1, h2, h3⟩ := hf
  have hm : 0 ≤ a % day := Int.emod_nonneg _ (by have := hok.1; omega)
  by_cases h : i < bs.length ∧ Cv.fr bs i = a % day
  · exact .inl ⟨h.1, h.2, Cv.bandK_eq bs _ i _ h.1 (by omega) (fun j hj hl => by have := Cv.fr_lt hok hj hl; omega)⟩
  · refine .inr ⟨h, ?_⟩
    have h0 := (hok.2.2.2 0 (by have := hok.2.1; omega)).2.1 rfl
    have hi : i ≠ 0 := by
      rintro rfl
      have h4 := h3 0 (Nat.le_refl _) (by have := hok.2.1; omega)
      exact h ⟨by have := hok.2.1; omega, by omega⟩
    refine ⟨i - 1, by omega, by omega, Cv.bandK_eq bs _ (i - 1) _ (by omega) (by have := h2 (i - 1) (by omega); omega) (fun j hj hl => ?_)⟩
    have h4 := h3 j (by omega) hl
    by_cases hij : j = i
    · subst hij
      have : Cv.fr bs j ≠ a % day := fun e => h ⟨hl, e⟩
      omega
    · have := Cv.fr_lt hok (show i < j by omega) hl
      have := h3 i (Nat.le_refl _) (by omega)
      omega

set_option maxHeartbeats 4000000 in
theorem Price_c (day fee : Int) (A : Option Addr) (bs : List Bd) (cap : Nat) (a : Int) (w : World) (hcap : bs.length ≤ cap) (hl : cap ≤ 9223372036854775807) (hw : BandsAt w A bs) :
    Calls Try.prog 13 #[.agg #[.int .i64 day, .slice A bs.length cap, .int .i64 fee], .int .i64 a] w fun e w' =>
      e = .returned (.tuple #[.int .i64 (Cv.pr1 day fee bs a), .int .i64 (Cv.pr2 day fee bs a), .int .i64 (Cv.prE day fee bs a)]) ∧ Below w.heap.size w w' := by
  have HW := Lib.hid hw
  have hc := fun w0 hw0 => CheckTariff_c day fee A bs cap w0 hcap hl hw0
  have HBW := fun w0 => Lib.hid (BandsAt.below (w1 := w0) hw)
  clear hw
  rcases tarE_or day fee bs with ⟨hok, he⟩ | he
  · simp only [he] at hc
    cases h1 : Cv.inB a 0 1099511627776
    · have HP := Lib.hid (price_3 he h1)
      clear hok he
      go_enter Try.func13, Try.ntmps13
      go_wp2_with (first | (go_at_call 17; refine (hc _ ((HBW _).out ((Below.refl _ _).alloc (Nat.le_refl _) _))).mono ?_; rintro e w1 ⟨rfl, hb⟩; have HB := Lib.hid hb; have t0 : w1.cell? ⟨w.heap.size, 0, none⟩ = some (.int .i64 day) := below_cell hb (by simp) (by go_simp); clear hb) | (go_at_call 51; refine (within_c _ _ _ _).mono ?_; rintro e w' ⟨rfl, rfl⟩))
      go_ret3
      exact ⟨ret_pr ⟨HP.out.2.1.symm, HP.out.2.2.symm, HP.out.1.symm⟩, ((Below.refl _ _).alloc (Nat.le_refl _) _).trans (HB.out.mono (by simp))⟩
    · have ha := Cv.inB_iff.1 h1
      have HP := Lib.hid (price_0 he h1)
      have ht : a.tmod day = a % day := Int.tmod_eq_emod_of_nonneg ha.1
      have hm : 0 ≤ a % day ∧ a % day < day := ⟨Int.emod_nonneg _ (by have := hok.1; omega), Int.emod_lt_of_pos _ (by have := hok.1; omega)⟩
      have hd := hok.1
      have hd0 : day ≠ 0 := by omega
      have hcs := fun w0 hw0 => search_c A bs cap (a % day) w0 (by omega) hok.2.1.2 hcap (fun i hi => by have := (hok.2.2.2 i hi).1; omega)
        (fun i j hij hj => by have := Cv.fr_mono hok (j - i) i (by omega); rwa [show i + (j - i) = j by omega] at this) hw0
      have HFB := fun i => Lib.hid (found_band (i := i) hok ha.1)
      have HL := Lib.hid hok.2.1
      clear hok he
      generalize Cv.prK day bs a = K at *
      generalize a % day = x at *
      go_enter Try.func13, Try.ntmps13
      go_wp2_with (first | (go_at_call 17; refine (hc _ ((HBW _).out ((Below.refl _ _).alloc (Nat.le_refl _) _))).mono ?_; rintro e w1 ⟨rfl, hb⟩; have HB := Lib.hid (((Below.refl w.heap.size w).alloc (Nat.le_refl _) _).trans (hb.mono (by simp))); have t0 : w1.cell? ⟨w.heap.size, 0, none⟩ = some (.int .i64 day) := below_cell hb (by simp) (by go_simp); have t1 : w1.cell? ⟨w.heap.size, 1, none⟩ = some (.slice A bs.length cap) := below_cell hb (by simp) (by go_simp); have hz : w.heap.size < w1.heap.size := (by have := hb.size; simp at this; omega); clear hb) | (go_at_call 51; refine (within_c _ _ _ _).mono ?_; rintro e w' ⟨rfl, rfl⟩))
      go_region_with (go_at_call 52; refine (hcs _ ((HBW _).out HB.out.drew)).mono ?_; rintro e w2 ⟨i, hf, rfl, hb⟩; have HB2 := Lib.hid (HB.out.drew.trans (hb.mono (show w.heap.size ≤ w1.heap.size from Nat.le_of_lt hz))); have s1 : w2.cell? ⟨w.heap.size, 1, none⟩ = some (.slice A bs.length cap) := below_cell hb (show w.heap.size < w1.heap.size from hz) (show w1.drew.cell? ⟨w.heap.size, 1, none⟩ = some (.slice A bs.length cap) from t1); generalize hq : decide (i < bs.length ∧ Cv.fr bs i = x) = q; have HF := Lib.hid (And.intro hf hq); clear hb hf hq)
      all_goals
        rcases (HFB i).out HF.out.1 with ⟨g1, g2, rfl⟩ | ⟨g1, k, rfl, g2, rfl⟩
        · obtain rfl : q = true := by rw [← HF.out.2]; exact decide_eq_true ⟨g1, g2⟩
          obtain ⟨ad, hA, hadb, c0, c1, c2⟩ := (HBW _).out HB2.out K g1
          subst hA
          clear c0
          go_wp2_with fail
          go_quiet (fail)
          go_wp2_with fail
          go_ret3
          exact ⟨ret_pr ⟨HP.out.2.1.symm, HP.out.2.2.symm, HP.out.1.symm⟩, below_drewN HB2.out _⟩
        · obtain rfl : q = false := by rw [← HF.out.2]; exact decide_eq_false g1
          obtain ⟨ad, hA, hadb, c0, c1, c2⟩ := (HBW _).out HB2.out K g2
          have hl48 := HL.out.2
          subst hA
          clear c0 g1
          go_wp2_with fail
          go_quiet (fail)
          go_wp2_with fail
          go_ret3
          exact ⟨ret_pr ⟨HP.out.2.1.symm, HP.out.2.2.symm, HP.out.1.symm⟩, below_drewN HB2.out _⟩
  · simp only [he] at hc
    have HP := Lib.hid (price_2 a he)
    clear he
    go_enter Try.func13, Try.ntmps13
    go_wp2_with (go_at_call 17; refine (hc _ ((HBW _).out ((Below.refl _ _).alloc (Nat.le_refl _) _))).mono ?_; rintro e w1 ⟨rfl, hb⟩; have HB := Lib.hid hb; clear hb)
    go_ret3
    exact ⟨ret_pr ⟨HP.out.2.1.symm, HP.out.2.2.symm, HP.out.1.symm⟩, ((Below.refl _ _).alloc (Nat.le_refl _) _).trans (HB.out.mono (by simp))⟩
end Go.Proofs.Ytafajclbghofkaa
