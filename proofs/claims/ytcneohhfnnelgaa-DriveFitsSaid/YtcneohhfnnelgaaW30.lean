/- The contract of weaken of drive. -/
import Derived.Test.YtcneohhfnnelgaaW29
namespace Go.Proofs.Ytcneohhfnnelgaa
open Go.RowKit
set_option linter.unusedVariables false
namespace Dv
/-- the weakening: the first number that fits, counted down from 0 -/
def wkO (m : Mot) (q s room : Int) (N : Nat) : Option Nat := wkV (fun n => fitB m q s room (-(n : Int))) N
def wkD (o : Option Nat) : Int := match o with | some n => -(n : Int) | none => 0
theorem ibd_mono (m : Mot) (q s : Int) (hr : 0 ≤ m.r) : Mono (fun n => ibd m (-(n : Int)) q s) := by
  left
  intro i j hij
  unfold ibd
  have h1 : m.r * -(j : Int) ≤ m.r * -(i : Int) := Int.mul_le_mul_of_nonneg_left (by omega) hr
  have h2 := Int.ediv_le_ediv (show (0 : Int) < 1000 by omega) h1
  show s * m.lq * q / 1000000 - m.r * -(i : Int) / 1000 ≤ s * m.lq * q / 1000000 - m.r * -(j : Int) / 1000
  omega
theorem ibq_mono (m : Mot) (q s : Int) : Mono (fun n => ibq m (-(n : Int)) q s) := by
  rcases Int.le_total 0 (s * m.ld) with h | h
  · left
    intro i j hij
    have h1 : s * m.ld * -(j : Int) ≤ s * m.ld * -(i : Int) := Int.mul_le_mul_of_nonneg_left (by omega) h
    have h2 := Int.ediv_le_ediv (show (0 : Int) < 1000000 by omega) h1
    show -(m.r * q / 1000) - s * m.ld * -(i : Int) / 1000000 - s * m.fx ≤ -(m.r * q / 1000) - s * m.ld * -(j : Int) / 1000000 - s * m.fx
    omega
  · right
    intro i j hij
    have h1 : s * m.ld * -(i : Int) ≤ s * m.ld * -(j : Int) := Int.mul_le_mul_of_nonpos_left h (by omega)
    have h2 := Int.ediv_le_ediv (show (0 : Int) < 1000000 by omega) h1
    show -(m.r * q / 1000) - s * m.ld * -(j : Int) / 1000000 - s * m.fx ≤ -(m.r * q / 1000) - s * m.ld * -(i : Int) / 1000000 - s * m.fx
    omega
theorem fitB_iff {m : Mot} {q s room d : Int} : fitB m q s room d = true ↔ inR room (ibd m d q s) ∧ inR room (ibq m d q s) := by
  unfold fitB inR
  rw [upB2]
theorem outB_iff {room x0 y0 x y : Int} : outB room x0 y0 x y = true ↔ side room x0 x ∨ side room y0 y := by
  unfold outB side
  simp only [Bool.or_eq_true, Bool.and_eq_true, decide_eq_true_eq]
  constructor
  · rintro (h | h | h | h)
    · exact .inl (.inl h)
    · exact .inl (.inr h)
    · exact .inr (.inl h)
    · exact .inr (.inr h)
  · rintro ((h | h) | (h | h))
    · exact .inl h
    · exact .inr (.inl h)
    · exact .inr (.inr (.inl h))
    · exact .inr (.inr (.inr h))
/-- what the search by halves has found -/
theorem weaken_found {m : Mot} {q s room : Int} {N : Nat} {r : Int} (hm : chk m) (hr : 0 ≤ room) (h0 : 0 ≤ r) (h1 : r ≤ (N : Int) + 1) (hp : holdP m q s room N r = true) (hn : r = (N : Int) + 1 ∨ holdP m q s room N (r + 1) = false) :
    r ≤ N ∧ wkO m q s room N = if fitB m q s room (-r) = true then some r.toNat else none := by
  unfold holdP at hp hn
  rw [Bool.or_eq_true, Bool.and_eq_true, decide_eq_true_eq, decide_eq_true_eq] at hp
  have hrN : r ≤ N := by rcases hp with hp | hp <;> omega
  refine ⟨hrN, ?_⟩
  obtain ⟨k, rfl⟩ := Int.eq_ofNat_of_zero_le h0
  have key := weaken_plain (x := fun n => ibd m (-(n : Int)) q s) (y := fun n => ibq m (-(n : Int)) q s) (room := room) (ibd_mono m q s (by unfold chk at hm; omega)) (ibq_mono m q s) hr (fun n => fitB m q s room (-(n : Int))) (fun n => fitB_iff) N k (by omega) ?_ ?_
  · unfold wkO
    rw [key]
    simp
  · rcases hp with hp | hp
    · left; omega
    · by_cases hk : k = 0
      · left; exact hk
      · right
        have h2 := hp.2
        unfold outV at h2
        rw [outB_iff] at h2
        have e : (-(k : Int) + 1) = -((k - 1 : Nat) : Int) := by omega
        rw [e] at h2
        simpa using h2
  · rcases hn with hn | hn
    · omega
    · simp only [Bool.or_eq_false_iff, Bool.and_eq_false_iff, decide_eq_false_iff_not] at hn
      rcases hn.2 with h2 | h2
      · left; omega
      · right
        intro h3
        have : outV m q s room (-((k : Int) + 1) + 1) = true := by
          unfold outV
          rw [outB_iff, show (-((k : Int) + 1) + 1) = -(k : Int) from by omega]
          simpa using h3
        rw [this] at h2
        cases h2
end Dv
end Go.Proofs.Ytcneohhfnnelgaa
