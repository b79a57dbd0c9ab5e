/- Price of charge and of coulombref09. -/
import Derived.Test.YtafajclbghofkaaA5
import Derived.OwnWalk
namespace Go.Proofs.Ytafajclbghofkaa
open Go.RowKit
set_option linter.unusedVariables false

theorem tarE_or (day fee : Int) (bs : List Bd) : (Cv.TarOk day fee bs ∧ Cv.tarE day fee bs = 0) ∨ Cv.tarE day fee bs = 2 := by
  by_cases h : Cv.TarOk day fee bs
  · exact .inl ⟨h, Cv.tarE_ok h⟩
  · exact .inr (Cv.tarE_no h)
theorem price_2 {day fee : Int} {bs : List Bd} (a : Int) (h : Cv.tarE day fee bs = 2) : Cv.prE day fee bs a = 2 ∧ Cv.pr1 day fee bs a = 0 ∧ Cv.pr2 day fee bs a = 0 := by
  have e : Cv.prE day fee bs a = 2 := by simp [Cv.prE, h]
  exact ⟨e, by simp [Cv.pr1, e], by simp [Cv.pr2, e]⟩
theorem price_3 {day fee : Int} {bs : List Bd} {a : Int} (h : Cv.tarE day fee bs = 0) (ha : Cv.inB a 0 1099511627776 = false) : Cv.prE day fee bs a = 3 ∧ Cv.pr1 day fee bs a = 0 ∧ Cv.pr2 day fee bs a = 0 := by
  have e : Cv.prE day fee bs a = 3 := by simp [Cv.prE, h, ha]
  exact ⟨e, by simp [Cv.pr1, e], by simp [Cv.pr2, e]⟩
theorem price_0 {day fee : Int} {bs : List Bd} {a : Int} (h : Cv.tarE day fee bs = 0) (ha : Cv.inB a 0 1099511627776 = true) : Cv.prE day fee bs a = 0 ∧ Cv.pr1 day fee bs a = Cv.inn bs (Cv.prK day bs a) ∧ Cv.pr2 day fee bs a = Cv.bk bs (Cv.prK day bs a) := by
  have e : Cv.prE day fee bs a = 0 := by simp [Cv.prE, h, ha]
  exact ⟨e, by simp [Cv.pr1, e], by simp [Cv.pr2, e]⟩
theorem ret_pr {x y z x' y' z' : Int} (h : x = x' ∧ y = y' ∧ z = z') : Ending.returned (.tuple #[.int .i64 x, .int .i64 y, .int .i64 z]) = .returned (.tuple #[.int .i64 x', .int .i64 y', .int .i64 z']) := by
  obtain ⟨rfl, rfl, rfl⟩ := h
  rfl

set_option maxHeartbeats 4000000 in
theorem PriceR_c (day fee : Int) (A : Option Addr) (bs : List Bd) (cap : Nat) (a : Int) (w : World) (hcap : bs.length ≤ cap) (hl : cap ≤ 9223372036854775807) (hw : BandsAt w A bs) :
    Calls Try.prog 14 #[.agg #[.int .i64 day, .slice A bs.length cap, .int .i64 fee], .int .i64 a] w fun e w' =>
      e = .returned (.tuple #[.int .i64 (Cv.pr1 day fee bs a), .int .i64 (Cv.pr2 day fee bs a), .int .i64 (Cv.prE day fee bs a)]) ∧ Below w.heap.size w w' := by
  have HW := Lib.hid hw
  have hc := fun w0 hw0 => CheckTariffR_c day fee A bs cap w0 hcap hl hw0
  have HBW := fun w0 => Lib.hid (BandsAt.below (w1 := w0) hw)
  clear hw
  rcases tarE_or day fee bs with ⟨hok, he⟩ | he
  · simp only [he] at hc
    cases h1 : Cv.inB a 0 1099511627776
    · have HP := Lib.hid (price_3 he h1)
      clear hok he
      go_enter Try.func14, Try.ntmps14
      go_wp2_with (first | (go_at_call 18; refine (hc _ ((HBW _).out ((Below.refl _ _).alloc (Nat.le_refl _) _))).mono ?_; rintro e w1 ⟨rfl, hb⟩; have HB := Lib.hid hb; have t0 : w1.cell? ⟨w.heap.size, 0, none⟩ = some (.int .i64 day) := below_cell hb (by simp) (by go_simp); clear hb) | (go_at_call 54; refine (in_c _ _ _ _).mono ?_; rintro e w' ⟨rfl, rfl⟩))
      go_ret3
      exact ⟨ret_pr ⟨HP.out.2.1.symm, HP.out.2.2.symm, HP.out.1.symm⟩, ((Below.refl _ _).alloc (Nat.le_refl _) _).trans (HB.out.mono (by simp))⟩
    · have ha := Cv.inB_iff.1 h1
      have HP := Lib.hid (price_0 he h1)
      have hcb := fun w0 hw0 => band_c day fee A bs cap a w0 hok.1 ha hok.2.1 hcap hw0
      clear hok he ha
      generalize Cv.prK day bs a = K at *
      go_enter Try.func14, Try.ntmps14
      go_wp2_with (first | (go_at_call 18; refine (hc _ ((HBW _).out ((Below.refl _ _).alloc (Nat.le_refl _) _))).mono ?_; rintro e w1 ⟨rfl, hb⟩; have HB := Lib.hid (((Below.refl w.heap.size w).alloc (Nat.le_refl _) _).trans (hb.mono (by simp))); have t0 : w1.cell? ⟨w.heap.size, 0, none⟩ = some (.int .i64 day) := below_cell hb (by simp) (by go_simp); have t1 : w1.cell? ⟨w.heap.size, 1, none⟩ = some (.slice A bs.length cap) := below_cell hb (by simp) (by go_simp); have t2 : w1.cell? ⟨w.heap.size, 2, none⟩ = some (.int .i64 fee) := below_cell hb (by simp) (by go_simp); have hz : w.heap.size < w1.heap.size := (by have := hb.size; simp at this; omega); clear hb) | (go_at_call 54; refine (in_c _ _ _ _).mono ?_; rintro e w' ⟨rfl, rfl⟩)
                           | (go_at_call 55; refine (hcb _ ((HBW _).out HB.out)).mono ?_; rintro e w2 ⟨rfl, hb⟩; have HB2 := Lib.hid (HB.out.trans (hb.mono (by omega))); clear hb))
      go_quiet (fail)
      go_wp2_with fail
      go_ret3
      exact ⟨ret_pr ⟨HP.out.2.1.symm, HP.out.2.2.symm, HP.out.1.symm⟩, below_drewN (HB2.out.alloc HB2.out.size _) _⟩
  · simp only [he] at hc
    have HP := Lib.hid (price_2 a he)
    clear he
    go_enter Try.func14, Try.ntmps14
    go_wp2_with (go_at_call 18; refine (hc _ ((HBW _).out ((Below.refl _ _).alloc (Nat.le_refl _) _))).mono ?_; rintro e w1 ⟨rfl, hb⟩; have HB := Lib.hid hb; clear hb)
    go_ret3
    exact ⟨ret_pr ⟨HP.out.2.1.symm, HP.out.2.2.symm, HP.out.1.symm⟩, ((Below.refl _ _).alloc (Nat.le_refl _) _).trans (HB.out.mono (by simp))⟩
end Go.Proofs.Ytafajclbghofkaa
