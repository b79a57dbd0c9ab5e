/- The plain law of the drive's arithmetic: quotients rounded down, sines. No program is in sight. -/
namespace Go.Proofs.Ytcneohhfnnelgaa
namespace Dv
theorem tdiv_neg_low (n d : Int) (hd : 1 ≤ d) (hn : n < 0) (h : n.tmod d < 0) : n.tdiv d - 1 = n / d := by
  rw [Int.tdiv_eq_ediv]
  by_cases hdv : d ∣ n
  · have : n.tmod d = 0 := Int.tmod_eq_zero_of_dvd hdv
    omega
  · rw [if_neg (by omega), Int.sign_eq_one_of_pos (by omega)]; omega
theorem tdiv_neg_even (n d : Int) (hd : 1 ≤ d) (hn : n < 0) (h : 0 ≤ n.tmod d) : n.tdiv d = n / d := by
  rw [Int.tdiv_eq_ediv]
  by_cases hdv : d ∣ n
  · rw [if_pos (by omega)]; omega
  · exfalso
    rw [Int.tmod_eq_emod, if_neg (by omega)] at h
    have := Int.emod_lt_of_pos n (show 0 < d by omega)
    omega
theorem ediv_bd (n d : Int) (hd : 1 ≤ d) (B : Int) (h0 : -B ≤ n) (h1 : n ≤ B) (hB : 0 ≤ B): -B ≤ n / d ∧ n / d ≤ B := by
  constructor
  · apply (Int.le_ediv_iff_mul_le (by omega)).2
    have : B * 1 ≤ B * d := Int.mul_le_mul_of_nonneg_left hd hB
    have e : -B * d = -(B * d) := Int.neg_mul _ _
    omega
  · by_cases hn : 0 ≤ n
    · exact Int.le_trans (Int.ediv_le_self _ hn) h1
    · have : n / d < 0 := Int.ediv_neg_of_neg_of_pos (by omega) (by omega)
      omega
/-- the sine of an angle -/
def sineP (a : Int) : Int := 262144 * (a * (32768 - a)) / (5368709120 - 4 * (a * (32768 - a)))
def sine (a : Int) : Int := if 32768 ≤ a then -(sineP (a - 32768)) else sineP a
def cosine (a : Int) : Int := sine ((a + 16384) % 65536)

def allB (f : Nat → Bool) : Nat → Nat → Bool
  | 0, lo => f lo
  | k + 1, lo => and (allB f k lo) (allB f k (Nat.add lo (Nat.pow 2 k)))

theorem allB_spec (f : Nat → Bool) (k : Nat) : ∀ lo, allB f k lo = true → ∀ i, lo ≤ i → i < lo + 2 ^ k → f i = true := by
  induction k with
  | zero => intro lo h i h1 h2; have : i = lo := by omega
            subst this; exact h
  | succ k ih =>
    intro lo h i h1 h2
    simp only [allB, Bool.and_eq_true] at h
    by_cases hi : i < lo + 2 ^ k
    · exact ih lo h.1 i h1 hi
    · exact ih _ h.2 i (by show lo + 2 ^ k ≤ i; omega) (by show i < lo + 2 ^ k + 2 ^ k; rw [Nat.pow_succ] at h2; omega)

def sN (p : Nat) : Nat := Nat.div (Nat.mul 262144 p) (Nat.sub 5368709120 (Nat.mul 4 p))
def okN (x : Nat) : Bool :=
  and (Nat.ble (Nat.add (Nat.pow (sN (Nat.mul x (Nat.sub 32768 x))) 2) (Nat.pow (sN (Nat.mul (Nat.sub 16384 x) (Nat.add 16384 x))) 2)) 270532608)
      (Nat.ble 266338304 (Nat.add (Nat.pow (sN (Nat.mul x (Nat.sub 32768 x))) 2) (Nat.pow (sN (Nat.mul (Nat.sub 16384 x) (Nat.add 16384 x))) 2)))

set_option maxRecDepth 100000 in
theorem ok_all : allB okN 13 0 = true := by decide +kernel
theorem ok_end : okN 8192 = true := by decide +kernel

theorem mul_bd {x y : Int} (A B : Int) (hx : -A ≤ x ∧ x ≤ A) (hy : -B ≤ y ∧ y ≤ B) : -(A * B) ≤ x * y ∧ x * y ≤ A * B := by
  have h : (x * y).natAbs ≤ A.toNat * B.toNat := by
    rw [Int.natAbs_mul]
    exact Nat.mul_le_mul (by omega) (by omega)
  have e : ((A.toNat * B.toNat : Nat) : Int) = A * B := by
    rw [Int.natCast_mul, Int.toNat_of_nonneg (by omega), Int.toNat_of_nonneg (by omega)]
  omega
theorem prod_bd (x : Int) (h0 : 0 ≤ x) (h1 : x ≤ 32768) : 0 ≤ x * (32768 - x) ∧ x * (32768 - x) ≤ 268435456 := by
  refine ⟨Int.mul_nonneg h0 (by omega), ?_⟩
  have h : 0 ≤ (16384 - x) * (16384 - x) := by
    rcases Int.le_total 0 (16384 - x) with h | h
    · exact Int.mul_nonneg h h
    · exact Int.mul_nonneg_of_nonpos_of_nonpos h h
  have e : (16384 - x) * (16384 - x) = 268435456 - x * (32768 - x) := by
    simp only [Int.sub_mul, Int.mul_sub]; omega
  omega
theorem sineP_sym (x : Int) : sineP (32768 - x) = sineP x := by
  unfold sineP
  rw [show (32768 - x) * (32768 - (32768 - x)) = x * (32768 - x) from by
    rw [show (32768 - (32768 - x) : Int) = x from by omega, Int.mul_comm]]
theorem sineP_bd (x : Int) (h0 : 0 ≤ x) (h1 : x ≤ 32768) : 0 ≤ sineP x ∧ sineP x ≤ 16384 := by
  obtain ⟨p0, p1⟩ := prod_bd x h0 h1
  unfold sineP
  generalize x * (32768 - x) = p at *
  refine ⟨Int.ediv_nonneg (by omega) (by omega), ?_⟩
  have : 262144 * p / (5368709120 - 4 * p) < 16385 := Int.ediv_lt_of_lt_mul (by omega) (by omega)
  omega
theorem sineP_sN (x : Nat) (P : Nat) (hP : (P : Int) = (x : Int) * (32768 - (x : Int))) (hb : P ≤ 268435456) : sineP x = (sN P : Int) := by
  unfold sineP sN
  rw [← hP]
  show _ = ((262144 * P / (5368709120 - 4 * P) : Nat) : Int)
  rw [Int.natCast_ediv]
  congr 1
  omega
theorem sq_le8192 (n : Nat) (hn : n ≤ 8192) : 266338304 ≤ sineP n * sineP n + sineP (16384 - n) * sineP (16384 - n) ∧ sineP n * sineP n + sineP (16384 - n) * sineP (16384 - n) ≤ 270532608 := by
  have hk : okN n = true := by
    by_cases h : n = 8192
    · subst h; exact ok_end
    · exact allB_spec okN 13 0 ok_all n (Nat.zero_le _) (by show n < 0 + 8192; omega)
  have e1 : sineP n = (sN (Nat.mul n (Nat.sub 32768 n)) : Int) := by
    have hc : ((Nat.mul n (Nat.sub 32768 n) : Nat) : Int) = (n : Int) * (32768 - (n : Int)) := by
      show ((n * (32768 - n) : Nat) : Int) = _
      rw [Int.natCast_mul, Int.natCast_sub (by omega)]; rfl
    have := (prod_bd n (by omega) (by omega)).2
    exact sineP_sN n _ hc (by omega)
  have e2 : sineP (16384 - n) = (sN (Nat.mul (Nat.sub 16384 n) (Nat.add 16384 n)) : Int) := by
    have hc : ((Nat.mul (Nat.sub 16384 n) (Nat.add 16384 n) : Nat) : Int) = ((16384 - n : Nat) : Int) * (32768 - ((16384 - n : Nat) : Int)) := by
      show (((16384 - n) * (16384 + n) : Nat) : Int) = _
      rw [Int.natCast_mul]
      congr 1
      omega
    have := (prod_bd ((16384 - n : Nat) : Int) (by omega) (by omega)).2
    have e := sineP_sN (16384 - n) _ hc (by omega)
    rwa [Int.natCast_sub (by omega)] at e
  unfold okN at hk
  rw [Bool.and_eq_true, Nat.ble_eq, Nat.ble_eq] at hk
  rw [e1, e2]
  generalize sN (Nat.mul n (Nat.sub 32768 n)) = u at *
  generalize sN (Nat.mul (Nat.sub 16384 n) (Nat.add 16384 n)) = v at *
  have hk' : (266338304 ≤ u * u + v * v) ∧ (u * u + v * v ≤ 270532608) := by
    have hp : ∀ z : Nat, Nat.pow z 2 = z * z := fun z => Nat.pow_two z
    rw [hp, hp] at hk
    exact ⟨hk.2, hk.1⟩
  have h1 : ((u * u + v * v : Nat) : Int) = (u : Int) * u + (v : Int) * v := by simp
  omega
theorem sq_le16384 (x : Int) (h0 : 0 ≤ x) (h1 : x ≤ 16384) : 266338304 ≤ sineP x * sineP x + sineP (16384 - x) * sineP (16384 - x) ∧ sineP x * sineP x + sineP (16384 - x) * sineP (16384 - x) ≤ 270532608 := by
  by_cases h : x ≤ 8192
  · obtain ⟨n, rfl⟩ := Int.eq_ofNat_of_zero_le h0
    exact sq_le8192 n (by omega)
  · obtain ⟨n, hn⟩ := Int.eq_ofNat_of_zero_le (show 0 ≤ 16384 - x by omega)
    have := sq_le8192 n (by omega)
    rw [← hn, show (16384 - (16384 - x)) = x from by omega] at this
    omega
theorem sine_bd (a : Int) (h0 : 0 ≤ a) (h1 : a < 65536) : -16384 ≤ sine a ∧ sine a ≤ 16384 := by
  unfold sine
  split
  · have := sineP_bd (a - 32768) (by omega) (by omega); omega
  · have := sineP_bd a (by omega) (by omega); omega
theorem sine_half (a : Int) (h0 : 0 ≤ a) (h1 : a < 65536) : sine ((a + 32768) % 65536) = - sine a := by
  unfold sine
  by_cases h : 32768 ≤ a
  · rw [if_pos h, if_neg (by omega), show (a + 32768) % 65536 = a - 32768 from by omega]; omega
  · rw [if_neg h, if_pos (by omega), show (a + 32768) % 65536 - 32768 = a from by omega]
theorem sine_sq (a : Int) (h0 : 0 ≤ a) (h1 : a < 65536) : 266338304 ≤ sine a * sine a + cosine a * cosine a ∧ sine a * sine a + cosine a * cosine a ≤ 270532608 := by
  unfold cosine
  by_cases c1 : a < 16384
  · have e1 : sine a = sineP a := by unfold sine; rw [if_neg (by omega)]
    have e2 : sine ((a + 16384) % 65536) = sineP (16384 - a) := by
      unfold sine; rw [if_neg (by omega), show (a + 16384) % 65536 = 32768 - (16384 - a) from by omega, sineP_sym]
    rw [e1, e2]; exact sq_le16384 a (by omega) (by omega)
  · by_cases c2 : a < 32768
    · have e1 : sine a = sineP (32768 - a) := by unfold sine; rw [if_neg (by omega), sineP_sym]
      have e2 : sine ((a + 16384) % 65536) = -sineP (16384 - (32768 - a)) := by
        unfold sine; rw [if_pos (by omega), show (a + 16384) % 65536 - 32768 = 16384 - (32768 - a) from by omega]
      rw [e1, e2, Int.neg_mul_neg]; exact sq_le16384 _ (by omega) (by omega)
    · by_cases c3 : a < 49152
      · have e1 : sine a = -sineP (a - 32768) := by unfold sine; rw [if_pos (by omega)]
        have e2 : sine ((a + 16384) % 65536) = -sineP (16384 - (a - 32768)) := by
          unfold sine; rw [if_pos (by omega), show (a + 16384) % 65536 - 32768 = 32768 - (16384 - (a - 32768)) from by omega, sineP_sym]
        rw [e1, e2, Int.neg_mul_neg, Int.neg_mul_neg]; exact sq_le16384 _ (by omega) (by omega)
      · have e1 : sine a = -sineP (65536 - a) := by unfold sine; rw [if_pos (by omega), show a - 32768 = 32768 - (65536 - a) from by omega, sineP_sym]
        have e2 : sine ((a + 16384) % 65536) = sineP (16384 - (65536 - a)) := by
          unfold sine; rw [if_neg (by omega), show (a + 16384) % 65536 = 16384 - (65536 - a) from by omega]
        rw [e1, e2, Int.neg_mul_neg]; exact sq_le16384 _ (by omega) (by omega)
end Dv
end Go.Proofs.Ytcneohhfnnelgaa
