/- slices.BinarySearchFunc at a tariff's bands, with Price's closure. -/
import Derived.Test.YtafajclbghofkaaA3
namespace Go.Proofs.Ytafajclbghofkaa
open Go.RowKit
set_option linter.unusedVariables false

set_option maxHeartbeats 400000 in
theorem from_c (a b c x : Int) (w : World) (h : -9223372036854775807 ≤ a - x ∧ a - x ≤ 9223372036854775807) :
    Calls Try.prog 53 #[.agg #[.int .i64 a, .int .i64 b, .int .i64 c], .int .i64 x] w fun e w' => e = .returned (.int .i64 (a - x)) ∧ Below w.heap.size w w' := by
  go_enter Try.func53, Try.ntmps53
  go_wp2
  go_ret
  exact ⟨rfl, (Below.refl _ _).alloc (Nat.le_refl _) _⟩

/-- where the search ends -/
def Found (bs : List Bd) (x : Int) (i : Nat) : Prop := i ≤ bs.length ∧ (∀ t, t < i → Cv.fr bs t < x) ∧ ∀ t, i ≤ t → t < bs.length → x ≤ Cv.fr bs t

set_option maxHeartbeats 4000000 in
theorem search_c (A : Option Addr) (bs : List Bd) (cap : Nat) (x : Int) (w : World) (hx : 0 ≤ x ∧ x ≤ 1099511627776) (hn : bs.length ≤ 48) (hcap : bs.length ≤ cap)
    (hfr : ∀ i, i < bs.length → 0 ≤ Cv.fr bs i ∧ Cv.fr bs i ≤ 1099511627776) (hmono : ∀ i j, i ≤ j → j < bs.length → Cv.fr bs i ≤ Cv.fr bs j) (hw : BandsAt w A bs) :
    Calls Try.prog 52 #[.slice A bs.length cap, .int .i64 x, .func (.func 53) #[] #[]] w fun e w' => ∃ i, Found bs x i ∧
      e = .returned (.tuple #[.int .i64 (i : Nat), .bool (decide (i < bs.length ∧ Cv.fr bs i = x))]) ∧ Below w.heap.size w w' := by
  have HW := Lib.hid hw
  have HF := Lib.hid hfr
  have HM := Lib.hid hmono
  clear hw hfr hmono
  go_enter Try.func52, Try.ntmps52
  go_wp2
  go_loopw [9, 10] (fun s9 s10 wr => ∃ lo hi : Nat, s9 = .int .i64 lo ∧ s10 = .int .i64 hi ∧ lo ≤ hi ∧ hi ≤ bs.length ∧ Hid (Below w.heap.size w wr) ∧
    Hid ((∀ t, t < lo → Cv.fr bs t < x) ∧ ∀ t, hi ≤ t → t < bs.length → x ≤ Cv.fr bs t)) (fun s9 s10 _ => (intOf s10).toNat - (intOf s9).toNat)
  case atStart => exact ⟨0, bs.length, rfl, rfl, Nat.zero_le _, Nat.le_refl _, Lib.hid (Below.refl _ _), Lib.hid ⟨fun t ht => absurd ht (Nat.not_lt_zero _), fun t h1 h2 => absurd h2 (by omega)⟩⟩
  case round =>
    obtain ⟨lo, hi, rfl, rfl, hlh, hin, HB, HI⟩ := hrel
    by_cases hlt : lo < hi
    · obtain ⟨ad, hA, hadb, c0, c1, c2⟩ := HW.out.below HB.out ((lo + hi) / 2) (by omega)
      subst hA
      have HY := Lib.hid (HF.out ((lo + hi) / 2) (by omega))
      have hc := fun w0 => from_c (Cv.fr bs ((lo + hi) / 2)) (Cv.inn bs ((lo + hi) / 2)) (Cv.bk bs ((lo + hi) / 2)) x w0 (by have := HY.out; omega)
      generalize hy : Cv.fr bs ((lo + hi) / 2) = y at c0 hc
      have HE := Lib.hid hy
      clear hy
      by_cases hyx : y - x < 0
      · go_wp2_with (go_at_call 53; refine (hc _).mono ?_; rintro e w' ⟨rfl, hb⟩; have HB2 := Lib.hid (HB.out.trans (hb.mono HB.out.size)); clear hb)
        go_roundw
        case rel =>
          refine ⟨(lo + hi) / 2 + 1, hi, by rw [show ((lo : Int) + (hi : Int)) / 2 + 1 = (((lo + hi) / 2 + 1 : Nat) : Int) by omega], rfl, by omega, hin, HB2, Lib.hid ⟨fun t ht => ?_, HI.out.2⟩⟩
          have h1 := HM.out t ((lo + hi) / 2) (by omega) (by omega)
          rw [HE.out] at h1
          omega
        case measure => simp [intOf]; omega
      · go_wp2_with (go_at_call 53; refine (hc _).mono ?_; rintro e w' ⟨rfl, hb⟩; have HB2 := Lib.hid (HB.out.trans (hb.mono HB.out.size)); clear hb)
        go_roundw
        case rel =>
          refine ⟨lo, (lo + hi) / 2, rfl, by rw [show ((lo : Int) + (hi : Int)) / 2 = (((lo + hi) / 2 : Nat) : Int) by omega], by omega, by omega, HB2, Lib.hid ⟨HI.out.1, fun t h1 h2 => ?_⟩⟩
          have h3 := HM.out ((lo + hi) / 2) t h1 h2
          rw [HE.out] at h3
          omega
        case measure => simp [intOf]; omega
    · obtain rfl : hi = lo := by omega
      have HFd := Lib.hid (show Found bs x hi from ⟨hin, HI.out.1, HI.out.2⟩)
      by_cases hn : hi < bs.length
      · obtain ⟨ad, hA, hadb, c0, c1, c2⟩ := HW.out.below HB.out hi hn
        subst hA
        have HY := Lib.hid (HF.out hi hn)
        have hc := fun w0 => from_c (Cv.fr bs hi) (Cv.inn bs hi) (Cv.bk bs hi) x w0 (by have := HY.out; omega)
        by_cases hyx : Cv.fr bs hi - x = 0
        · go_wp2_with (go_at_call 53; refine (hc _).mono ?_; rintro e w' ⟨rfl, hb⟩; have HB2 := Lib.hid (HB.out.trans (hb.mono HB.out.size)); clear hb)
          go_ret2
          exact ⟨hi, HFd.out, by rw [decide_eq_true (show hi < bs.length ∧ Cv.fr bs hi = x from ⟨hn, by omega⟩)]; rfl, HB2.out⟩
        · go_wp2_with (go_at_call 53; refine (hc _).mono ?_; rintro e w' ⟨rfl, hb⟩; have HB2 := Lib.hid (HB.out.trans (hb.mono HB.out.size)); clear hb)
          go_ret2
          exact ⟨hi, HFd.out, by rw [decide_eq_false (show ¬ (hi < bs.length ∧ Cv.fr bs hi = x) from fun h => hyx (by omega)), ← int_beq_false hyx]; rfl, HB2.out⟩
      · go_wp2
        go_ret2
        exact ⟨hi, HFd.out, by rw [decide_eq_false (show ¬ (hi < bs.length ∧ Cv.fr bs hi = x) from fun h => hn h.1)]; rfl, HB.out⟩
end Go.Proofs.Ytafajclbghofkaa
