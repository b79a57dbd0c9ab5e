/- The plain law of tariffs: when one is valid, and the band at a time. No program is in sight. -/
namespace Go.Proofs.Ytafajclbghofkaa

/-- a band of a tariff -/
structure Bd where
  fr : Int
  inn : Int
  bk : Int
instance : Inhabited Bd := ⟨⟨0, 0, 0⟩⟩

namespace Cv
def inB (x lo hi : Int) : Bool := decide (lo ≤ x ∧ x ≤ hi)
theorem inB_iff {x lo hi : Int} : inB x lo hi = true ↔ lo ≤ x ∧ x ≤ hi := by simp [inB]
theorem inB_no {x lo hi : Int} (h : ¬ (lo ≤ x ∧ x ≤ hi)) : inB x lo hi = false := by simp only [inB, decide_eq_false_iff_not]; exact h
def fr (bs : List Bd) (i : Nat) : Int := (bs.getD i default).fr
def inn (bs : List Bd) (i : Nat) : Int := (bs.getD i default).inn
def bk (bs : List Bd) (i : Nat) : Int := (bs.getD i default).bk

/-- band i is as the rules say -/
def okAt (day : Int) (bs : List Bd) (i : Nat) : Prop :=
  (0 ≤ fr bs i ∧ fr bs i < day) ∧ (i = 0 → fr bs i = 0) ∧ (0 < i → fr bs (i - 1) < fr bs i) ∧ (0 ≤ inn bs i ∧ inn bs i ≤ 1048576) ∧ (0 ≤ bk bs i ∧ bk bs i ≤ 1048576)
def TarOk (day fee : Int) (bs : List Bd) : Prop :=
  (1 ≤ day ∧ day ≤ 1099511627776) ∧ (1 ≤ bs.length ∧ bs.length ≤ 48) ∧ (0 ≤ fee ∧ fee ≤ 1048576) ∧ ∀ i, i < bs.length → okAt day bs i
noncomputable def tarE (day fee : Int) (bs : List Bd) : Int := @ite Int (TarOk day fee bs) (Classical.propDecidable _) 0 2
theorem tarE_ok {day fee : Int} {bs : List Bd} (h : TarOk day fee bs) : tarE day fee bs = 0 := by unfold tarE; rw [if_pos h]
theorem tarE_no {day fee : Int} {bs : List Bd} (h : ¬ TarOk day fee bs) : tarE day fee bs = 2 := by unfold tarE; rw [if_neg h]

theorem fr_mono {day fee : Int} {bs : List Bd} (h : TarOk day fee bs) : ∀ (d i : Nat), i + d < bs.length → fr bs i ≤ fr bs (i + d)
  | 0, _, _ => Int.le_refl _
  | d + 1, i, hi => by
    have h1 := fr_mono h d i (by omega)
    have h2 := (h.2.2.2 (i + (d + 1)) hi).2.2.1 (by omega)
    rw [show i + (d + 1) - 1 = i + d from by omega] at h2
    omega
theorem fr_lt {day fee : Int} {bs : List Bd} (h : TarOk day fee bs) {i j : Nat} (hij : i < j) (hj : j < bs.length) : fr bs i < fr bs j := by
  have h1 := fr_mono h (j - 1 - i) i (by omega)
  have h2 := (h.2.2.2 j hj).2.2.1 (by omega)
  rw [show i + (j - 1 - i) = j - 1 from by omega] at h1
  omega

/-- the last band of the first n that begins at a time or before -/
def bandK (bs : List Bd) (x : Int) : Nat → Nat
  | 0 => 0
  | n + 1 => if fr bs n ≤ x then n else bandK bs x n
theorem bandK_lt (bs : List Bd) (x : Int) : ∀ n, 0 < n → bandK bs x n < n
  | 0, h => absurd h (Nat.lt_irrefl _)
  | n + 1, _ => by
    unfold bandK
    split
    · omega
    · by_cases hn : n = 0
      · subst hn; simp [bandK]
      · have := bandK_lt bs x n (by omega); omega
theorem bandK_eq (bs : List Bd) (x : Int) (k : Nat) : ∀ n, k < n → fr bs k ≤ x → (∀ j, k < j → j < n → x < fr bs j) → bandK bs x n = k
  | 0, h, _, _ => absurd h (Nat.not_lt_zero _)
  | n + 1, h, h1, h2 => by
    unfold bandK
    by_cases hk : k = n
    · subst hk; rw [if_pos h1]
    · rw [if_neg (by have := h2 n (by omega) (by omega); omega)]
      exact bandK_eq bs x k n (by omega) h1 (fun j a b => h2 j a (by omega))
/-- prices and costs -/
noncomputable def prE (day fee : Int) (bs : List Bd) (at_ : Int) : Int := if tarE day fee bs = 0 then (if inB at_ 0 1099511627776 = true then 0 else 3) else tarE day fee bs
noncomputable def prK (day : Int) (bs : List Bd) (at_ : Int) : Nat := bandK bs (at_ % day) bs.length
noncomputable def pr1 (day fee : Int) (bs : List Bd) (at_ : Int) : Int := if prE day fee bs at_ = 0 then inn bs (prK day bs at_) else 0
noncomputable def pr2 (day fee : Int) (bs : List Bd) (at_ : Int) : Int := if prE day fee bs at_ = 0 then bk bs (prK day bs at_) else 0
def coB (x y : Int) : Bool := inB x 0 1099511627776 && inB y 0 1099511627776
noncomputable def coE (day fee : Int) (bs : List Bd) (at_ x y : Int) : Int := if prE day fee bs at_ = 0 then (if coB x y = true then 0 else 3) else prE day fee bs at_
noncomputable def coV (day fee : Int) (bs : List Bd) (at_ x y : Int) : Int := if coE day fee bs at_ x y = 0 then x * pr1 day fee bs at_ / 3600000 - y * pr2 day fee bs at_ / 3600000 else 0
end Cv
end Go.Proofs.Ytafajclbghofkaa
