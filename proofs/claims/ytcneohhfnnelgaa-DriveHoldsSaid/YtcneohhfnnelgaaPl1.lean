/-  Contracts of the small functions of drive and coulombref06: quotients rounded down, clips, sines. Contracts of upTo and ends: whether the amounts of a list are at most a number; the least and the greatest one of a list. Contracts of Sin, Cos, TurnTo, Duties and Blend of drive, and of the examples of coulomblaw06. Contracts of clip and Blend of drive, of Into and into of the references. The contract of Duties of drive. The contract of Duties of drive, where it cuts. The contract of the examples of coulomblaw06: they hold. Contracts of the regulators: tuned, span, step, Regulate of drive; gains, quantity, volt, within, regulate, Regulate of coulombref06. Contracts of the regulator's step, in each of its five cases. Contracts of Regulate of drive, and of gains, quantity, volt, within, regulate and Regulate of coulombref06. Contracts of Regulate of drive, refused inputs too; of gains, quantity, volt, within, regulate and Regulate of coulombref06. Contracts of gains, regulate and Regulate of coulombref06. Motors: whether one is valid. Contracts of Check of drive and of coulombref06. General: a block of cells known whole; which blocks a call may have touched. Contracts that many functions lean on: great, upTo of one number, most; a world renamed. Contracts of Two, TurnBack and Phases of drive, and of angle, sine, cosine, Sin, Cos, Two, TurnTo, TurnBack, Phases, bus of coulombref06. Contracts of angle, sine, cosine, Sin, Cos, Two, TurnTo, TurnBack, Phases and bus of coulombref06. The plain law of duties: all are possible, the greatest and the least one have the sum Whole or one less, and uncut they differ as the phases do. The walk of coulomblaw06.DriveDuties: it returns true for all phases and bus voltages. The contract of Duties of coulombref06. The contract of Duties of coulombref06, where it cuts. Contracts of torque and inner of drive and of coulombref06, and of current, great, speed. General: a region that draws its order, whose operations read, and whose callees read or make memory: one walk in the order of the text, in a class of worlds that lie beyond the first one. Contracts of Torque and Inner of drive and of coulombref06, and of valid and rotor. -/
import Derived.Test.YtcneohhfnnelgaaRows
import Derived.WalkKit
import Derived.WalkSpells
import Derived.WalkLawsBesides
import Derived.IntWalk
import Derived.Lib.Hide
import Derived.Deep.QuietTactic
import Derived.BigQuiet
import Derived.LoopN
import Derived.Deep.RegionWith
import Derived.StillTailTactics
import Derived.Laws.AppendOwn
import Derived.Deep.Draws
import Derived.Laws.EntriesVeiled
import Derived.Deep.Quiet
namespace Go.Proofs.Ytcneohhfnnelgaa
namespace Dv
theorem tdiv_neg_low (n d : Int) (hd : 1 ≤ d) (hn : n < 0) (h : n.tmod d < 0) : n.tdiv d - 1 = n / d := by
  rw [Int.tdiv_eq_ediv]
  by_cases hdv : d ∣ n
  · have : n.tmod d = 0 := Int.tmod_eq_zero_of_dvd hdv
    omega
  · rw [if_neg (by omega), Int.sign_eq_one_of_pos (by omega)]; omega
theorem tdiv_neg_even (n d : Int) (hd : 1 ≤ d) (hn : n < 0) (h : 0 ≤ n.tmod d) : n.tdiv d = n / d := by
  rw [Int.tdiv_eq_ediv]
  by_cases hdv : d ∣ n
  · rw [if_pos (by omega)]; omega
  · exfalso
    rw [Int.tmod_eq_emod, if_neg (by omega)] at h
    have := Int.emod_lt_of_pos n (show 0 < d by omega)
    omega
theorem ediv_bd (n d : Int) (hd : 1 ≤ d) (B : Int) (h0 : -B ≤ n) (h1 : n ≤ B) (hB : 0 ≤ B): -B ≤ n / d ∧ n / d ≤ B := by
  constructor
  · apply (Int.le_ediv_iff_mul_le (by omega)).2
    have : B * 1 ≤ B * d := Int.mul_le_mul_of_nonneg_left hd hB
    have e : -B * d = -(B * d) := Int.neg_mul _ _
    omega
  · by_cases hn : 0 ≤ n
    · exact Int.le_trans (Int.ediv_le_self _ hn) h1
    · have : n / d < 0 := Int.ediv_neg_of_neg_of_pos (by omega) (by omega)
      omega
/-- the sine of an angle -/
def sineP (a : Int) : Int := 262144 * (a * (32768 - a)) / (5368709120 - 4 * (a * (32768 - a)))
def sine (a : Int) : Int := if 32768 ≤ a then -(sineP (a - 32768)) else sineP a
def cosine (a : Int) : Int := sine ((a + 16384) % 65536)

def allB (f : Nat → Bool) : Nat → Nat → Bool
  | 0, lo => f lo
  | k + 1, lo => and (allB f k lo) (allB f k (Nat.add lo (Nat.pow 2 k)))

theorem allB_spec (f : Nat → Bool) (k : Nat) : ∀ lo, allB f k lo = true → ∀ i, lo ≤ i → i < lo + 2 ^ k → f i = true := by
  induction k with
  | zero => intro lo h i h1 h2; have : i = lo := by omega
            subst this; exact h
  | succ k ih =>
    intro lo h i h1 h2
    simp only [allB, Bool.and_eq_true] at h
    by_cases hi : i < lo + 2 ^ k
    · exact ih lo h.1 i h1 hi
    · exact ih _ h.2 i (by show lo + 2 ^ k ≤ i; omega) (by show i < lo + 2 ^ k + 2 ^ k; rw [Nat.pow_succ] at h2; omega)

def sN (p : Nat) : Nat := Nat.div (Nat.mul 262144 p) (Nat.sub 5368709120 (Nat.mul 4 p))
def okN (x : Nat) : Bool :=
  and (Nat.ble (Nat.add (Nat.pow (sN (Nat.mul x (Nat.sub 32768 x))) 2) (Nat.pow (sN (Nat.mul (Nat.sub 16384 x) (Nat.add 16384 x))) 2)) 270532608)
      (Nat.ble 266338304 (Nat.add (Nat.pow (sN (Nat.mul x (Nat.sub 32768 x))) 2) (Nat.pow (sN (Nat.mul (Nat.sub 16384 x) (Nat.add 16384 x))) 2)))

set_option maxRecDepth 100000 in
theorem ok_all : allB okN 13 0 = true := by decide +kernel
theorem ok_end : okN 8192 = true := by decide +kernel

theorem mul_bd {x y : Int} (A B : Int) (hx : -A ≤ x ∧ x ≤ A) (hy : -B ≤ y ∧ y ≤ B) : -(A * B) ≤ x * y ∧ x * y ≤ A * B := by
  have h : (x * y).natAbs ≤ A.toNat * B.toNat := by
    rw [Int.natAbs_mul]
    exact Nat.mul_le_mul (by omega) (by omega)
  have e : ((A.toNat * B.toNat : Nat) : Int) = A * B := by
    rw [Int.natCast_mul, Int.toNat_of_nonneg (by omega), Int.toNat_of_nonneg (by omega)]
  omega
theorem prod_bd (x : Int) (h0 : 0 ≤ x) (h1 : x ≤ 32768) : 0 ≤ x * (32768 - x) ∧ x * (32768 - x) ≤ 268435456 := by
  refine ⟨Int.mul_nonneg h0 (by omega), ?_⟩
  have h : 0 ≤ (16384 - x) * (16384 - x) := by
    rcases Int.le_total 0 (16384 - x) with h | h
    · exact Int.mul_nonneg h h
    · exact Int.mul_nonneg_of_nonpos_of_nonpos h h
  have e : (16384 - x) * (16384 - x) = 268435456 - x * (32768 - x) := by
    simp only [Int.sub_mul, Int.mul_sub]; omega
  omega
theorem sineP_sym (x : Int) : sineP (32768 - x) = sineP x := by
  unfold sineP
  rw [show (32768 - x) * (32768 - (32768 - x)) = x * (32768 - x) from by
    rw [show (32768 - (32768 - x) : Int) = x from by omega, Int.mul_comm]]
theorem sineP_bd (x : Int) (h0 : 0 ≤ x) (h1 : x ≤ 32768) : 0 ≤ sineP x ∧ sineP x ≤ 16384 := by
  obtain ⟨p0, p1⟩ := prod_bd x h0 h1
  unfold sineP
  generalize x * (32768 - x) = p at *
  refine ⟨Int.ediv_nonneg (by omega) (by omega), ?_⟩
  have : 262144 * p / (5368709120 - 4 * p) < 16385 := Int.ediv_lt_of_lt_mul (by omega) (by omega)
  omega
theorem sineP_sN (x : Nat) (P : Nat) (hP : (P : Int) = (x : Int) * (32768 - (x : Int))) (hb : P ≤ 268435456) : sineP x = (sN P : Int) := by
  unfold sineP sN
  rw [← hP]
  show _ = ((262144 * P / (5368709120 - 4 * P) : Nat) : Int)
  rw [Int.natCast_ediv]
  congr 1
  omega
theorem sq_le8192 (n : Nat) (hn : n ≤ 8192) : 266338304 ≤ sineP n * sineP n + sineP (16384 - n) * sineP (16384 - n) ∧ sineP n * sineP n + sineP (16384 - n) * sineP (16384 - n) ≤ 270532608 := by
  have hk : okN n = true := by
    by_cases h : n = 8192
    · subst h; exact ok_end
    · exact allB_spec okN 13 0 ok_all n (Nat.zero_le _) (by show n < 0 + 8192; omega)
  have e1 : sineP n = (sN (Nat.mul n (Nat.sub 32768 n)) : Int) := by
    have hc : ((Nat.mul n (Nat.sub 32768 n) : Nat) : Int) = (n : Int) * (32768 - (n : Int)) := by
      show ((n * (32768 - n) : Nat) : Int) = _
      rw [Int.natCast_mul, Int.natCast_sub (by omega)]; rfl
    have := (prod_bd n (by omega) (by omega)).2
    exact sineP_sN n _ hc (by omega)
  have e2 : sineP (16384 - n) = (sN (Nat.mul (Nat.sub 16384 n) (Nat.add 16384 n)) : Int) := by
    have hc : ((Nat.mul (Nat.sub 16384 n) (Nat.add 16384 n) : Nat) : Int) = ((16384 - n : Nat) : Int) * (32768 - ((16384 - n : Nat) : Int)) := by
      show (((16384 - n) * (16384 + n) : Nat) : Int) = _
      rw [Int.natCast_mul]
      congr 1
      omega
    have := (prod_bd ((16384 - n : Nat) : Int) (by omega) (by omega)).2
    have e := sineP_sN (16384 - n) _ hc (by omega)
    rwa [Int.natCast_sub (by omega)] at e
  unfold okN at hk
  rw [Bool.and_eq_true, Nat.ble_eq, Nat.ble_eq] at hk
  rw [e1, e2]
  generalize sN (Nat.mul n (Nat.sub 32768 n)) = u at *
  generalize sN (Nat.mul (Nat.sub 16384 n) (Nat.add 16384 n)) = v at *
  have hk' : (266338304 ≤ u * u + v * v) ∧ (u * u + v * v ≤ 270532608) := by
    have hp : ∀ z : Nat, Nat.pow z 2 = z * z := fun z => Nat.pow_two z
    rw [hp, hp] at hk
    exact ⟨hk.2, hk.1⟩
  have h1 : ((u * u + v * v : Nat) : Int) = (u : Int) * u + (v : Int) * v := by simp
  omega
theorem sq_le16384 (x : Int) (h0 : 0 ≤ x) (h1 : x ≤ 16384) : 266338304 ≤ sineP x * sineP x + sineP (16384 - x) * sineP (16384 - x) ∧ sineP x * sineP x + sineP (16384 - x) * sineP (16384 - x) ≤ 270532608 := by
  by_cases h : x ≤ 8192
  · obtain ⟨n, rfl⟩ := Int.eq_ofNat_of_zero_le h0
    exact sq_le8192 n (by omega)
  · obtain ⟨n, hn⟩ := Int.eq_ofNat_of_zero_le (show 0 ≤ 16384 - x by omega)
    have := sq_le8192 n (by omega)
    rw [← hn, show (16384 - (16384 - x)) = x from by omega] at this
    omega
theorem sine_bd (a : Int) (h0 : 0 ≤ a) (h1 : a < 65536) : -16384 ≤ sine a ∧ sine a ≤ 16384 := by
  unfold sine
  split
  · have := sineP_bd (a - 32768) (by omega) (by omega); omega
  · have := sineP_bd a (by omega) (by omega); omega
theorem sine_half (a : Int) (h0 : 0 ≤ a) (h1 : a < 65536) : sine ((a + 32768) % 65536) = - sine a := by
  unfold sine
  by_cases h : 32768 ≤ a
  · rw [if_pos h, if_neg (by omega), show (a + 32768) % 65536 = a - 32768 from by omega]; omega
  · rw [if_neg h, if_pos (by omega), show (a + 32768) % 65536 - 32768 = a from by omega]
theorem sine_sq (a : Int) (h0 : 0 ≤ a) (h1 : a < 65536) : 266338304 ≤ sine a * sine a + cosine a * cosine a ∧ sine a * sine a + cosine a * cosine a ≤ 270532608 := by
  unfold cosine
  by_cases c1 : a < 16384
  · have e1 : sine a = sineP a := by unfold sine; rw [if_neg (by omega)]
    have e2 : sine ((a + 16384) % 65536) = sineP (16384 - a) := by
      unfold sine; rw [if_neg (by omega), show (a + 16384) % 65536 = 32768 - (16384 - a) from by omega, sineP_sym]
    rw [e1, e2]; exact sq_le16384 a (by omega) (by omega)
  · by_cases c2 : a < 32768
    · have e1 : sine a = sineP (32768 - a) := by unfold sine; rw [if_neg (by omega), sineP_sym]
      have e2 : sine ((a + 16384) % 65536) = -sineP (16384 - (32768 - a)) := by
        unfold sine; rw [if_pos (by omega), show (a + 16384) % 65536 - 32768 = 16384 - (32768 - a) from by omega]
      rw [e1, e2, Int.neg_mul_neg]; exact sq_le16384 _ (by omega) (by omega)
    · by_cases c3 : a < 49152
      · have e1 : sine a = -sineP (a - 32768) := by unfold sine; rw [if_pos (by omega)]
        have e2 : sine ((a + 16384) % 65536) = -sineP (16384 - (a - 32768)) := by
          unfold sine; rw [if_pos (by omega), show (a + 16384) % 65536 - 32768 = 32768 - (16384 - (a - 32768)) from by omega, sineP_sym]
        rw [e1, e2, Int.neg_mul_neg, Int.neg_mul_neg]; exact sq_le16384 _ (by omega) (by omega)
      · have e1 : sine a = -sineP (65536 - a) := by unfold sine; rw [if_pos (by omega), show a - 32768 = 32768 - (65536 - a) from by omega, sineP_sym]
        have e2 : sine ((a + 16384) % 65536) = sineP (16384 - (65536 - a)) := by
          unfold sine; rw [if_neg (by omega), show (a + 16384) % 65536 = 16384 - (65536 - a) from by omega]
        rw [e1, e2, Int.neg_mul_neg]; exact sq_le16384 _ (by omega) (by omega)
end Dv
end Go.Proofs.Ytcneohhfnnelgaa
namespace Go.Proofs.Ytcneohhfnnelgaa
open Go.RowKit

theorem ret_int {k : IntKind} {a b : Int} (h : a = b) : Ending.returned (.int k a) = .returned (.int k b) := by rw [h]

set_option maxHeartbeats 400000 in
theorem div_c (n d : Int) (w : World) (hd : 1 ≤ d) (h0 : -4611686018427387904 ≤ n) (h1 : n ≤ 4611686018427387904) :
    Calls Try.prog 69 #[.int .i64 n, .int .i64 d] w fun e w' => e = .returned (.int .i64 (n / d)) ∧ w = w' := by
  have hb := Dv.ediv_bd n d hd 4611686018427387904 (by omega) (by omega) (by omega)
  by_cases hn : 0 ≤ n
  · have h2 : 0 ≤ n % d := Int.emod_nonneg _ (by omega)
    clear hb
    go_enter Try.func69, Try.ntmps69
    go_wp2
    go_ret
    exact ⟨rfl, rfl⟩
  · go_enter Try.func69, Try.ntmps69
    go_wp2
    · have hlt : n.tmod d < 0 := by assumption
      have e := Dv.tdiv_neg_low n d hd (by omega) hlt
      go_ret
      exact ⟨ret_int (by rw [e, IntWalk.wrap64_in _ ⟨by omega, by omega⟩]), rfl⟩
    · have hge : 0 ≤ n.tmod d := by assumption
      go_ret
      exact ⟨ret_int (Dv.tdiv_neg_even n d hd (by omega) hge), rfl⟩

set_option maxHeartbeats 400000 in
theorem Floor_c (n d : Int) (w : World) (hd : 1 ≤ d) (h0 : -4611686018427387904 ≤ n) (h1 : n ≤ 4611686018427387904) :
    Calls Try.prog 117 #[.int .i64 n, .int .i64 d] w fun e w' => e = .returned (.int .i64 (n / d)) ∧ w = w' := by
  have hb := Dv.ediv_bd n d hd 4611686018427387904 (by omega) (by omega) (by omega)
  by_cases hn : 0 ≤ n
  · have h2 : 0 ≤ n % d := Int.emod_nonneg _ (by omega)
    clear hb
    go_enter Try.func117, Try.ntmps117
    go_wp2
    go_ret
    exact ⟨rfl, rfl⟩
  · go_enter Try.func117, Try.ntmps117
    go_wp2
    · have hlt : n.tmod d < 0 := by assumption
      have e := Dv.tdiv_neg_low n d hd (by omega) hlt
      go_ret
      exact ⟨ret_int (by rw [e, IntWalk.wrap64_in _ ⟨by omega, by omega⟩]), rfl⟩
    · have hge : 0 ≤ n.tmod d := by assumption
      go_ret
      exact ⟨ret_int (Dv.tdiv_neg_even n d hd (by omega) hge), rfl⟩

set_option maxHeartbeats 400000 in
theorem floor_c (n d : Int) (w : World) (hd : 1 ≤ d) (h0 : -4611686018427387904 ≤ n) (h1 : n ≤ 4611686018427387904) :
    Calls Try.prog 85 #[.int .i64 n, .int .i64 d] w fun e w' => e = .returned (.int .i64 (n / d)) ∧ w = w' := by
  go_enter Try.func85, Try.ntmps85
  go_wp2_with (go_at_call 117; refine (Floor_c _ _ _ hd h0 h1).mono ?_; rintro e w' ⟨rfl, rfl⟩)
  go_ret
  exact ⟨rfl, rfl⟩

set_option maxHeartbeats 400000 in
theorem sine_c (a : Int) (w : World) (h0 : 0 ≤ a) (h1 : a < 65536) :
    Calls Try.prog 72 #[.int .i64 a] w fun e w' => e = .returned (.int .i64 (Dv.sine a)) ∧ w = w' := by
  by_cases h : 32768 ≤ a
  · obtain ⟨p0, p1⟩ := Dv.prod_bd (a - 32768) (by omega) (by omega)
    obtain ⟨q0, q1⟩ := Dv.sineP_bd (a - 32768) (by omega) (by omega)
    have e : Dv.sine a = -Dv.sineP (a - 32768) := by unfold Dv.sine; rw [if_pos h]
    have E := Lib.hid e
    clear e
    unfold Dv.sineP at q0 q1
    go_enter Try.func72, Try.ntmps72
    go_wp2
    go_ret
    exact ⟨ret_int (by rw [E.out]; rfl), rfl⟩
  · obtain ⟨p0, p1⟩ := Dv.prod_bd a (by omega) (by omega)
    obtain ⟨q0, q1⟩ := Dv.sineP_bd a (by omega) (by omega)
    have e : Dv.sine a = Dv.sineP a := by unfold Dv.sine; rw [if_neg h]
    have E := Lib.hid e
    clear e
    unfold Dv.sineP at q0 q1
    go_enter Try.func72, Try.ntmps72
    go_wp2
    go_ret
    exact ⟨ret_int (by rw [E.out]; rfl), rfl⟩
end Go.Proofs.Ytcneohhfnnelgaa
namespace Go.Proofs.Ytcneohhfnnelgaa
open Go.RowKit

/-- a slice value's elements are these numbers -/
def IntsAt (w : World) (A : Option Addr) (xs : List Int) : Prop := ∀ i, i < xs.length → ∃ ad, A = some ad ∧ w.cell? (ad.add i) = some (.int .i64 (xs.getD i 0))

def upB (m : Int) (xs : List Int) : Bool := xs.all fun x => decide (-m ≤ x ∧ x ≤ m)
theorem upB_true {m : Int} {xs : List Int} (h : upB m xs = true) (i : Nat) (hi : i < xs.length) : -m ≤ xs.getD i 0 ∧ xs.getD i 0 ≤ m := by
  unfold upB at h
  rw [List.all_eq_true] at h
  have := h xs[i] (List.getElem_mem hi)
  simpa [List.getD, hi] using this
theorem upB_of {m : Int} {xs : List Int} (h : ∀ i, i < xs.length → -m ≤ xs.getD i 0 ∧ xs.getD i 0 ≤ m) : upB m xs = true := by
  unfold upB
  rw [List.all_eq_true]
  intro x hx
  obtain ⟨i, hi, rfl⟩ := List.getElem_of_mem hx
  have := h i hi
  simpa [List.getD, hi] using this
theorem upB_no {m : Int} {xs : List Int} (i : Nat) (hi : i < xs.length) (h : ¬ (-m ≤ xs.getD i 0 ∧ xs.getD i 0 ≤ m)) : upB m xs = false := by
  cases hb : upB m xs
  · rfl
  · exact absurd (upB_true hb i hi) h

theorem ret_bool {a b : Bool} (h : a = b) : Ending.returned (.bool a) = .returned (.bool b) := by rw [h]

set_option maxHeartbeats 400000 in
theorem upTo_c (m : Int) (A : Option Addr) (xs : List Int) (cap : Nat) (w : World) (hm0 : 0 ≤ m) (hm1 : m ≤ 4611686018427387904) (hl : xs.length ≤ 4611686018427387904) (hc : IntsAt w A xs) :
    Calls Try.prog 67 #[.int .i64 m, .slice A xs.length cap] w fun e w' => e = .returned (.bool (upB m xs)) ∧ w = w' := by
  go_enter Try.func67, Try.ntmps67
  go_wp2
  go_loop [6, 9] (fun _ i => ∃ k : Nat, k ≤ xs.length ∧ i = .int .i64 k ∧ ∀ j, j < k → -m ≤ xs.getD j 0 ∧ xs.getD j 0 ≤ m) (fun _ i => xs.length - (intOf i).toNat)
  case atStart => exact ⟨0, Nat.zero_le _, rfl, fun j hj => absurd hj (Nat.not_lt_zero _)⟩
  case round =>
    obtain ⟨k, hk, rfl, hall⟩ := hrel
    have HA := Lib.hid hall
    clear hall
    by_cases hlt : k < xs.length
    · obtain ⟨ad, rfl, hcell⟩ := hc k hlt
      generalize hx : xs.getD k 0 = x at hcell
      have HX := Lib.hid hx
      clear hx
      by_cases h1 : x ≤ m
      · by_cases h2 : -m ≤ x
        · go_wp2
          go_round
          case rel =>
            refine ⟨k + 1, by omega, by go_num, fun j hj => ?_⟩
            by_cases hjk : j < k
            · exact HA.out j hjk
            · obtain rfl : j = k := by omega
              rw [HX.out]; exact ⟨h2, h1⟩
          case measure => simp [intOf]; omega
        · go_wp2
          go_ret
          exact ⟨ret_bool (upB_no k hlt (by rw [HX.out]; omega)).symm, rfl⟩
      · go_wp2
        go_ret
        exact ⟨ret_bool (upB_no k hlt (by rw [HX.out]; omega)).symm, rfl⟩
    · go_wp2
      go_ret
      exact ⟨ret_bool (upB_of (fun i hi => HA.out i (by omega))).symm, rfl⟩

/-- the least and the greatest number of a list -/
def minL : List Int → Int
  | [] => 0
  | x :: l => l.foldl min x
def maxL : List Int → Int
  | [] => 0
  | x :: l => l.foldl max x

/-- the walk's own spelling of min and max -/
theorem gmin_eq (a b : Int) : (if b < a then b else a) = min a b := by split <;> omega
theorem gmax_eq (a b : Int) : (if a < b then b else a) = max a b := by split <;> omega
theorem fold_snoc (f : Int → Int → Int) (x : Int) (l : List Int) (k : Nat) (h : k < l.length) : (l.take (k + 1)).foldl f x = f ((l.take k).foldl f x) (l.getD k 0) := by
  rw [List.take_succ_eq_append_getElem h, List.foldl_append]
  simp [List.getD, h]

set_option maxHeartbeats 400000 in
theorem ends_c (A : Option Addr) (xs : List Int) (cap : Nat) (w : World) (h1 : 2 ≤ xs.length) (hcap : xs.length ≤ cap) (hl : cap ≤ 4611686018427387904) (hc : IntsAt w A xs) :
    Calls Try.prog 68 #[.slice A xs.length cap] w fun e w' => e = .returned (.tuple #[.int .i64 (minL xs), .int .i64 (maxL xs)]) ∧ ∃ n, w' = w.drewN n := by
  obtain ⟨x0, xs', rfl⟩ : ∃ x l, xs = x :: l := by
    cases xs with
    | nil => simp at h1
    | cons x l => exact ⟨x, l, rfl⟩
  obtain ⟨ad, rfl, hc0⟩ := hc 0 (by simp)
  have hc1 : w.cell? ad = some (.int .i64 x0) := by simpa [Addr.add] using hc0
  have hcs : ∀ k, k < xs'.length → w.cell? ⟨ad.block, ad.off + 1 + k, none⟩ = some (.int .i64 (xs'.getD k 0)) := by
    intro k hk
    obtain ⟨ad', e, hck⟩ := hc (k + 1) (by simp; omega)
    injection e with e
    subst e
    simpa [Addr.add, Nat.add_assoc, Nat.add_comm 1 k] using hck
  clear hc0 hc
  simp only [List.length_cons] at h1 hcap
  go_enter Try.func68, Try.ntmps68
  go_wp2_with fail
  go_quiet (fail)
  go_wp2
  go_loop [2, 3, 5, 15] (fun lo hi _ i => ∃ k : Nat, k ≤ xs'.length ∧ i = .int .i64 k ∧ lo = .int .i64 ((xs'.take k).foldl min x0) ∧ hi = .int .i64 ((xs'.take k).foldl max x0)) (fun _ _ _ i => xs'.length - (intOf i).toNat)
  case atStart => exact ⟨0, Nat.zero_le _, rfl, rfl, rfl⟩
  case round =>
    obtain ⟨k, hk, rfl, rfl, rfl⟩ := hrel
    by_cases hlt : k < xs'.length
    · have hck := hcs k hlt
      have HS := Lib.hid (And.intro (fold_snoc min x0 xs' k hlt) (fold_snoc max x0 xs' k hlt))
      generalize (xs'.take k).foldl min x0 = lo at *
      generalize (xs'.take k).foldl max x0 = hi at *
      generalize xs'.getD k 0 = x at *
      clear hcs
      go_wp2
      go_round
      case rel => exact ⟨k + 1, by omega, by go_num, by rw [HS.out.1, gmin_eq], by rw [HS.out.2, gmax_eq]⟩
      case measure => simp [intOf]; omega
    · go_wp2
      go_ret2
      obtain rfl : k = xs'.length := by omega
      exact ⟨by simp only [List.take_length]; rfl, _, rfl⟩
end Go.Proofs.Ytcneohhfnnelgaa
namespace Go.Proofs.Ytcneohhfnnelgaa
open Go.RowKit

namespace Dv
/-- what Sin and Cos return, refused angles too -/
def angB (a : Int) : Bool := decide (0 ≤ a ∧ a < 65536)
def sinV (a : Int) : Int := if angB a = true then sine a else 0
def cosV (a : Int) : Int := if angB a = true then cosine a else 0
def sinE (a : Int) : Int := if angB a = true then 0 else 3
end Dv

theorem ret2_int {k l : IntKind} {a b c d : Int} (h : a = b) (h' : c = d) : Ending.returned (.tuple #[.int k a, .int l c]) = .returned (.tuple #[.int k b, .int l d]) := by rw [h, h']
theorem ret3_int {k l m : IntKind} {a b c d x y : Int} (h : a = b) (h' : c = d) (h'' : x = y) : Ending.returned (.tuple #[.int k a, .int l c, .int m x]) = .returned (.tuple #[.int k b, .int l d, .int m y]) := by rw [h, h', h'']

set_option maxHeartbeats 400000 in
theorem angle_c (a : Int) (w : World) : Calls Try.prog 71 #[.int .i64 a] w fun e w' => e = .returned (.bool (Dv.angB a)) ∧ w = w' := by
  by_cases h0 : 0 ≤ a
  · by_cases h1 : a < 65536
    all_goals
      go_enter Try.func71, Try.ntmps71
      go_wp2
      go_ret
      exact ⟨ret_bool (by simp [Dv.angB, h0, h1]), rfl⟩
  · go_enter Try.func71, Try.ntmps71
    go_wp2
    go_ret
    exact ⟨ret_bool (by simp [Dv.angB]; omega), rfl⟩

set_option maxHeartbeats 400000 in
theorem cosine_c (a : Int) (w : World) (h0 : 0 ≤ a) (h1 : a < 65536) :
    Calls Try.prog 73 #[.int .i64 a] w fun e w' => e = .returned (.int .i64 (Dv.cosine a)) ∧ w = w' := by
  have hm0 : 0 ≤ (a + 16384) % 65536 := by omega
  have hm1 : (a + 16384) % 65536 < 65536 := by omega
  go_enter Try.func73, Try.ntmps73
  go_wp2_with (go_at_call 72; refine (sine_c _ _ hm0 hm1).mono ?_; rintro e w' ⟨rfl, rfl⟩)
  go_ret
  exact ⟨rfl, rfl⟩

set_option maxHeartbeats 400000 in
theorem Sin_c (a : Int) (w : World) : Calls Try.prog 21 #[.int .i64 a] w fun e w' => e = .returned (.tuple #[.int .i64 (Dv.sinV a), .int .i64 (Dv.sinE a)]) ∧ w = w' := by
  by_cases h : Dv.angB a = true
  · have h' : 0 ≤ a ∧ a < 65536 := by simpa [Dv.angB] using h
    obtain ⟨h0, h1⟩ := h'
    have E := Lib.hid (show Dv.sinV a = Dv.sine a ∧ Dv.sinE a = 0 from by simp [Dv.sinV, Dv.sinE, h])
    go_enter Try.func21, Try.ntmps21
    go_wp2_with (first | (go_at_call 71; refine (angle_c _ _).mono ?_; rintro e w' ⟨rfl, rfl⟩) | (go_at_call 72; refine (sine_c _ _ h0 h1).mono ?_; rintro e w' ⟨rfl, rfl⟩))
    go_ret2
    exact ⟨ret2_int E.out.1.symm E.out.2.symm, rfl⟩
  · have h : Dv.angB a = false := by simpa using h
    have E := Lib.hid (show Dv.sinV a = 0 ∧ Dv.sinE a = 3 from by simp [Dv.sinV, Dv.sinE, h])
    go_enter Try.func21, Try.ntmps21
    go_wp2_with (first | (go_at_call 71; refine (angle_c _ _).mono ?_; rintro e w' ⟨rfl, rfl⟩))
    go_ret2
    exact ⟨ret2_int E.out.1.symm E.out.2.symm, rfl⟩

set_option maxHeartbeats 400000 in
theorem Cos_c (a : Int) (w : World) : Calls Try.prog 22 #[.int .i64 a] w fun e w' => e = .returned (.tuple #[.int .i64 (Dv.cosV a), .int .i64 (Dv.sinE a)]) ∧ w = w' := by
  by_cases h : Dv.angB a = true
  · have h' : 0 ≤ a ∧ a < 65536 := by simpa [Dv.angB] using h
    obtain ⟨h0, h1⟩ := h'
    have E := Lib.hid (show Dv.cosV a = Dv.cosine a ∧ Dv.sinE a = 0 from by simp [Dv.cosV, Dv.sinE, h])
    go_enter Try.func22, Try.ntmps22
    go_wp2_with (first | (go_at_call 71; refine (angle_c _ _).mono ?_; rintro e w' ⟨rfl, rfl⟩) | (go_at_call 73; refine (cosine_c _ _ h0 h1).mono ?_; rintro e w' ⟨rfl, rfl⟩))
    go_ret2
    exact ⟨ret2_int E.out.1.symm E.out.2.symm, rfl⟩
  · have h : Dv.angB a = false := by simpa using h
    have E := Lib.hid (show Dv.cosV a = 0 ∧ Dv.sinE a = 3 from by simp [Dv.cosV, Dv.sinE, h])
    go_enter Try.func22, Try.ntmps22
    go_wp2_with (first | (go_at_call 71; refine (angle_c _ _).mono ?_; rintro e w' ⟨rfl, rfl⟩))
    go_ret2
    exact ⟨ret2_int E.out.1.symm E.out.2.symm, rfl⟩

theorem bcell {W w1 : World} (hb : Below W.heap.size W w1) : (∀ b o, b < W.heap.size → w1.cell? ⟨b, o, none⟩ = W.cell? ⟨b, o, none⟩) ∧ (∀ b o, b < W.heap.size → w1.frozen? ⟨b, o, none⟩ = W.frozen? ⟨b, o, none⟩) :=
  ⟨fun b o h => hb.cell (p := ⟨b, o, none⟩) h, fun b o h => hb.frozen (p := ⟨b, o, none⟩) h⟩

/-- a block of numbers -/
theorem intsAt_alloc (w : World) (t : TypeId) (xs : List Int) : IntsAt (w.alloc (.cells (xs.map (Value.int .i64)).toArray t)) (some ⟨w.heap.size, 0, none⟩) xs := by
  intro i hi
  refine ⟨_, rfl, ?_⟩
  have e : (Addr.add ⟨w.heap.size, 0, none⟩ i) = ⟨w.heap.size, i, none⟩ := by unfold Addr.add; split <;> simp_all
  rw [e]
  simp [hi, List.getD]

theorem up1 (m a : Int) (W : World) (g : Nat) (hg : W.heap.size = g) (hm0 : 0 ≤ m) (hm1 : m ≤ 4611686018427387904) :
    Calls Try.prog 67 #[.int .i64 m, .slice (some ⟨g, 0, none⟩) 1 1] (W.alloc (.cells #[.int .i64 a] 2)) fun e w' => e = .returned (.bool (upB m [a])) ∧ W.alloc (.cells #[.int .i64 a] 2) = w' := by
  subst hg
  exact upTo_c m _ [a] 1 _ hm0 hm1 (by simp) (intsAt_alloc W 2 [a])
theorem up2 (m a b : Int) (W : World) (g : Nat) (hg : W.heap.size = g) (hm0 : 0 ≤ m) (hm1 : m ≤ 4611686018427387904) :
    Calls Try.prog 67 #[.int .i64 m, .slice (some ⟨g, 0, none⟩) 2 2] (W.alloc (.cells #[.int .i64 a, .int .i64 b] 2)) fun e w' => e = .returned (.bool (upB m [a, b])) ∧ W.alloc (.cells #[.int .i64 a, .int .i64 b] 2) = w' := by
  subst hg
  exact upTo_c m _ [a, b] 2 _ hm0 hm1 (by simp) (intsAt_alloc W 2 [a, b])
theorem up3 (m a b c : Int) (W : World) (g : Nat) (hg : W.heap.size = g) (hm0 : 0 ≤ m) (hm1 : m ≤ 4611686018427387904) :
    Calls Try.prog 67 #[.int .i64 m, .slice (some ⟨g, 0, none⟩) 3 3] (W.alloc (.cells #[.int .i64 a, .int .i64 b, .int .i64 c] 2)) fun e w' => e = .returned (.bool (upB m [a, b, c])) ∧ W.alloc (.cells #[.int .i64 a, .int .i64 b, .int .i64 c] 2) = w' := by
  subst hg
  exact upTo_c m _ [a, b, c] 3 _ hm0 hm1 (by simp) (intsAt_alloc W 2 [a, b, c])
theorem up4 (m a b c d : Int) (W : World) (g : Nat) (hg : W.heap.size = g) (hm0 : 0 ≤ m) (hm1 : m ≤ 4611686018427387904) :
    Calls Try.prog 67 #[.int .i64 m, .slice (some ⟨g, 0, none⟩) 4 4] (W.alloc (.cells #[.int .i64 a, .int .i64 b, .int .i64 c, .int .i64 d] 2)) fun e w' => e = .returned (.bool (upB m [a, b, c, d])) ∧ W.alloc (.cells #[.int .i64 a, .int .i64 b, .int .i64 c, .int .i64 d] 2) = w' := by
  subst hg
  exact upTo_c m _ [a, b, c, d] 4 _ hm0 hm1 (by simp) (intsAt_alloc W 2 [a, b, c, d])

theorem upB1 {m a : Int} : upB m [a] = true ↔ (-m ≤ a ∧ a ≤ m) := by simp [upB]
theorem upB2 {m a b : Int} : upB m [a, b] = true ↔ (-m ≤ a ∧ a ≤ m) ∧ (-m ≤ b ∧ b ≤ m) := by simp [upB]
theorem upB3 {m a b c : Int} : upB m [a, b, c] = true ↔ (-m ≤ a ∧ a ≤ m) ∧ (-m ≤ b ∧ b ≤ m) ∧ (-m ≤ c ∧ c ≤ m) := by simp [upB]
theorem upB4 {m a b c d : Int} : upB m [a, b, c, d] = true ↔ (-m ≤ a ∧ a ≤ m) ∧ (-m ≤ b ∧ b ≤ m) ∧ (-m ≤ c ∧ c ≤ m) ∧ (-m ≤ d ∧ d ≤ m) := by simp [upB]

namespace Dv
def turnB (a b x : Int) : Bool := upB 1073741824 [a, b] && angB x
def turnX (a b s c : Int) : Int := (a * c + b * s) / 16384
def turnY (a b s c : Int) : Int := (b * c - a * s) / 16384
def turnTo1 (a b x : Int) : Int := if turnB a b x = true then turnX a b (sine x) (cosine x) else 0
def turnTo2 (a b x : Int) : Int := if turnB a b x = true then turnY a b (sine x) (cosine x) else 0
def turnE (a b x : Int) : Int := if turnB a b x = true then 0 else 3
end Dv

set_option maxHeartbeats 400000 in
theorem turned_c (x y s c : Int) (w : World) (hx : -1073741824 ≤ x ∧ x ≤ 1073741824) (hy : -1073741824 ≤ y ∧ y ≤ 1073741824) (hs : -16384 ≤ s ∧ s ≤ 16384) (hc : -16384 ≤ c ∧ c ≤ 16384) :
    Calls Try.prog 86 #[.int .i64 x, .int .i64 y, .int .i64 s, .int .i64 c] w fun e w' => e = .returned (.tuple #[.int .i64 (Dv.turnX x y s c), .int .i64 (Dv.turnY x y s c)]) ∧ w = w' := by
  obtain ⟨a0, a1⟩ := Dv.mul_bd _ _ hx hc
  obtain ⟨b0, b1⟩ := Dv.mul_bd _ _ hy hs
  obtain ⟨c0, c1⟩ := Dv.mul_bd _ _ hy hc
  obtain ⟨d0, d1⟩ := Dv.mul_bd _ _ hx hs
  clear hx hy hs hc
  go_enter Try.func86, Try.ntmps86
  go_wp2_with (go_at_call 69; refine (div_c _ _ _ (by omega) (by omega) (by omega)).mono ?_; rintro e w' ⟨rfl, rfl⟩)
  go_ret2
  exact ⟨rfl, rfl⟩

set_option maxHeartbeats 400000 in
theorem TurnTo_c (a b x : Int) (w : World) : Calls Try.prog 29 #[.int .i64 a, .int .i64 b, .int .i64 x] w fun e w' => e = .returned (.tuple #[.int .i64 (Dv.turnTo1 a b x), .int .i64 (Dv.turnTo2 a b x), .int .i64 (Dv.turnE a b x)]) ∧ Below w.heap.size w w' := by
  by_cases h : Dv.turnB a b x = true
  · have h' := h
    unfold Dv.turnB at h'
    rw [Bool.and_eq_true] at h'
    obtain ⟨hup, hang⟩ := h'
    have E := Lib.hid (show Dv.turnTo1 a b x = Dv.turnX a b (Dv.sine x) (Dv.cosine x) ∧ Dv.turnTo2 a b x = Dv.turnY a b (Dv.sine x) (Dv.cosine x) ∧ Dv.turnE a b x = 0 from by simp [Dv.turnTo1, Dv.turnTo2, Dv.turnE, h])
    obtain ⟨ha, hb⟩ := upB2.1 hup
    have h' : 0 ≤ x ∧ x < 65536 := by simpa [Dv.angB] using hang
    obtain ⟨h0, h1⟩ := h'
    have hs := Dv.sine_bd x h0 h1
    have hc : -16384 ≤ Dv.cosine x ∧ Dv.cosine x ≤ 16384 := Dv.sine_bd _ (by omega) (by omega)
    clear h
    go_enter Try.func29, Try.ntmps29
    go_wp2_with (first | (go_at_call 67; refine (up2 _ _ _ _ _ rfl (by omega) (by omega)).mono ?_; rintro e w' ⟨rfl, rfl⟩) | (go_at_call 71; refine (angle_c _ _).mono ?_; rintro e w' ⟨rfl, rfl⟩) | (go_at_call 72; refine (sine_c _ _ h0 h1).mono ?_; rintro e w' ⟨rfl, rfl⟩) | (go_at_call 73; refine (cosine_c _ _ h0 h1).mono ?_; rintro e w' ⟨rfl, rfl⟩) | (go_at_call 86; refine (turned_c _ _ _ _ _ ha hb hs hc).mono ?_; rintro e w' ⟨rfl, rfl⟩))
    go_ret3
    exact ⟨ret3_int E.out.1.symm E.out.2.1.symm E.out.2.2.symm, (Below.refl _ _).alloc (Nat.le_refl _) _⟩
  · have E := Lib.hid (show Dv.turnTo1 a b x = 0 ∧ Dv.turnTo2 a b x = 0 ∧ Dv.turnE a b x = 3 from by simp [Dv.turnTo1, Dv.turnTo2, Dv.turnE, h])
    by_cases hup : upB 1073741824 [a, b] = true
    · have hang : Dv.angB x = false := by
        cases hx : Dv.angB x
        · rfl
        · exact absurd (by rw [Dv.turnB, hup, hx]; rfl) h
      clear h
      go_enter Try.func29, Try.ntmps29
      go_wp2_with (first | (go_at_call 67; refine (up2 _ _ _ _ _ rfl (by omega) (by omega)).mono ?_; rintro e w' ⟨rfl, rfl⟩) | (go_at_call 71; refine (angle_c _ _).mono ?_; rintro e w' ⟨rfl, rfl⟩))
      go_ret3
      exact ⟨ret3_int E.out.1.symm E.out.2.1.symm E.out.2.2.symm, (Below.refl _ _).alloc (Nat.le_refl _) _⟩
    · have hup : upB 1073741824 [a, b] = false := by simpa using hup
      clear h
      go_enter Try.func29, Try.ntmps29
      go_wp2_with (first | (go_at_call 67; refine (up2 _ _ _ _ _ rfl (by omega) (by omega)).mono ?_; rintro e w' ⟨rfl, rfl⟩))
      go_ret3
      exact ⟨ret3_int E.out.1.symm E.out.2.1.symm E.out.2.2.symm, (Below.refl _ _).alloc (Nat.le_refl _) _⟩
end Go.Proofs.Ytcneohhfnnelgaa
namespace Go.Proofs.Ytcneohhfnnelgaa
open Go.RowKit

namespace Dv
def clip (x lo hi : Int) : Int := max lo (min x hi)
def blR (d lo hi br : Int) : Bool := upB 68719476736 [d, lo, hi, br] && decide (0 ≤ br)
def blA (lo hi : Int) : Bool := decide (lo ≤ 0 ∧ 0 ≤ hi)
def bl1 (d lo hi br : Int) : Int := if blR d lo hi br = true then (if blA lo hi = true then clip d lo hi else 0) else 0
def bl2 (d lo hi br : Int) : Int := if blR d lo hi br = true then (if blA lo hi = true then (if clip d lo hi < d then 0 else min br (clip d lo hi - d)) else 0) else 0
def bl3 (d lo hi br : Int) : Int := if blR d lo hi br = true then (if blA lo hi = true then 0 else 2) else 3
end Dv

set_option maxHeartbeats 400000 in
theorem clip_c (x lo hi : Int) (w : World) : Calls Try.prog 70 #[.int .i64 x, .int .i64 lo, .int .i64 hi] w fun e w' => e = .returned (.int .i64 (Dv.clip x lo hi)) ∧ w = w' := by
  have E := Lib.hid (show Dv.clip x lo hi = max lo (min x hi) from rfl)
  go_enter Try.func70, Try.ntmps70
  go_wp2
  all_goals
    go_ret
    exact ⟨ret_int (by rw [E.out]; omega), rfl⟩

set_option maxHeartbeats 400000 in
theorem Into_c (x lo hi : Int) (w : World) : Calls Try.prog 118 #[.int .i64 x, .int .i64 lo, .int .i64 hi] w fun e w' => e = .returned (.int .i64 (Dv.clip x lo hi)) ∧ w = w' := by
  have E := Lib.hid (show Dv.clip x lo hi = max lo (min x hi) from rfl)
  go_enter Try.func118, Try.ntmps118
  go_wp2
  all_goals
    go_ret
    exact ⟨ret_int (by rw [E.out]; omega), rfl⟩

set_option maxHeartbeats 400000 in
theorem into_c (x lo hi : Int) (w : World) : Calls Try.prog 88 #[.int .i64 x, .int .i64 lo, .int .i64 hi] w fun e w' => e = .returned (.int .i64 (Dv.clip x lo hi)) ∧ w = w' := by
  go_enter Try.func88, Try.ntmps88
  go_wp2_with (go_at_call 118; refine (Into_c _ _ _ _).mono ?_; rintro e w' ⟨rfl, rfl⟩)
  go_ret
  exact ⟨rfl, rfl⟩

set_option maxHeartbeats 400000 in
theorem Blend_c (d lo hi br : Int) (w : World) : Calls Try.prog 20 #[.int .i64 d, .agg #[.int .i64 lo, .int .i64 hi], .int .i64 br] w fun e w' => e = .returned (.tuple #[.int .i64 (Dv.bl1 d lo hi br), .int .i64 (Dv.bl2 d lo hi br), .int .i64 (Dv.bl3 d lo hi br)]) ∧ Below w.heap.size w w' := by
  by_cases hu : upB 68719476736 [d, lo, hi, br] = true
  · obtain ⟨u1, u2, u3, u4⟩ := upB4.1 hu
    by_cases h0 : 0 ≤ br
    · have hR : Dv.blR d lo hi br = true := by simp [Dv.blR, hu, h0]
      by_cases hl : lo ≤ 0
      · by_cases hh : 0 ≤ hi
        · have hA : Dv.blA lo hi = true := by simp [Dv.blA, hl, hh]
          by_cases hc : Dv.clip d lo hi < d
          · have E := Lib.hid (show Dv.bl1 d lo hi br = Dv.clip d lo hi ∧ Dv.bl2 d lo hi br = 0 ∧ Dv.bl3 d lo hi br = 0 from by simp [Dv.bl1, Dv.bl2, Dv.bl3, hR, hA, hc])
            clear hR hA
            go_enter Try.func20, Try.ntmps20
            go_wp2_with (first | (go_at_call 67; refine (up4 _ _ _ _ _ _ _ (by simp) (by omega) (by omega)).mono ?_; rintro e w' ⟨rfl, rfl⟩) | (go_at_call 70; refine (clip_c _ _ _ _).mono ?_; rintro e w' ⟨rfl, rfl⟩))
            go_ret3
            exact ⟨ret3_int E.out.1.symm E.out.2.1.symm E.out.2.2.symm, (((Below.refl _ _).alloc (Nat.le_refl _) _).alloc (by simp) _)⟩
          · have E := Lib.hid (show Dv.bl1 d lo hi br = Dv.clip d lo hi ∧ Dv.bl2 d lo hi br = min br (Dv.clip d lo hi - d) ∧ Dv.bl3 d lo hi br = 0 from by simp [Dv.bl1, Dv.bl2, Dv.bl3, hR, hA, hc])
            clear hR hA
            have hcb : -68719476736 ≤ Dv.clip d lo hi ∧ Dv.clip d lo hi ≤ 68719476736 := by unfold Dv.clip; omega
            go_enter Try.func20, Try.ntmps20
            go_wp2_with (first | (go_at_call 67; refine (up4 _ _ _ _ _ _ _ (by simp) (by omega) (by omega)).mono ?_; rintro e w' ⟨rfl, rfl⟩) | (go_at_call 70; refine (clip_c _ _ _ _).mono ?_; rintro e w' ⟨rfl, rfl⟩))
            all_goals
              go_ret3
              exact ⟨ret3_int E.out.1.symm (by rw [E.out.2.1]; omega) E.out.2.2.symm, (((Below.refl _ _).alloc (Nat.le_refl _) _).alloc (by simp) _)⟩
        · have hA : Dv.blA lo hi = false := by simp [Dv.blA, hh]
          have E := Lib.hid (show Dv.bl1 d lo hi br = 0 ∧ Dv.bl2 d lo hi br = 0 ∧ Dv.bl3 d lo hi br = 2 from by simp [Dv.bl1, Dv.bl2, Dv.bl3, hR, hA])
          clear hR hA
          go_enter Try.func20, Try.ntmps20
          go_wp2_with (first | (go_at_call 67; refine (up4 _ _ _ _ _ _ _ (by simp) (by omega) (by omega)).mono ?_; rintro e w' ⟨rfl, rfl⟩) | (go_at_call 70; refine (clip_c _ _ _ _).mono ?_; rintro e w' ⟨rfl, rfl⟩))
          go_ret3
          exact ⟨ret3_int E.out.1.symm E.out.2.1.symm E.out.2.2.symm, (((Below.refl _ _).alloc (Nat.le_refl _) _).alloc (by simp) _)⟩
      · have hA : Dv.blA lo hi = false := by simp [Dv.blA, hl]
        have E := Lib.hid (show Dv.bl1 d lo hi br = 0 ∧ Dv.bl2 d lo hi br = 0 ∧ Dv.bl3 d lo hi br = 2 from by simp [Dv.bl1, Dv.bl2, Dv.bl3, hR, hA])
        clear hR hA
        go_enter Try.func20, Try.ntmps20
        go_wp2_with (first | (go_at_call 67; refine (up4 _ _ _ _ _ _ _ (by simp) (by omega) (by omega)).mono ?_; rintro e w' ⟨rfl, rfl⟩) | (go_at_call 70; refine (clip_c _ _ _ _).mono ?_; rintro e w' ⟨rfl, rfl⟩))
        go_ret3
        exact ⟨ret3_int E.out.1.symm E.out.2.1.symm E.out.2.2.symm, (((Below.refl _ _).alloc (Nat.le_refl _) _).alloc (by simp) _)⟩
    · have E := Lib.hid (show Dv.bl1 d lo hi br = 0 ∧ Dv.bl2 d lo hi br = 0 ∧ Dv.bl3 d lo hi br = 3 from by simp [Dv.bl1, Dv.bl2, Dv.bl3, Dv.blR, h0])
      go_enter Try.func20, Try.ntmps20
      go_wp2_with (first | (go_at_call 67; refine (up4 _ _ _ _ _ _ _ (by simp) (by omega) (by omega)).mono ?_; rintro e w' ⟨rfl, rfl⟩) | (go_at_call 70; refine (clip_c _ _ _ _).mono ?_; rintro e w' ⟨rfl, rfl⟩))
      go_ret3
      exact ⟨ret3_int E.out.1.symm E.out.2.1.symm E.out.2.2.symm, (((Below.refl _ _).alloc (Nat.le_refl _) _).alloc (by simp) _)⟩
  · have hu : upB 68719476736 [d, lo, hi, br] = false := by simpa using hu
    have E := Lib.hid (show Dv.bl1 d lo hi br = 0 ∧ Dv.bl2 d lo hi br = 0 ∧ Dv.bl3 d lo hi br = 3 from by simp [Dv.bl1, Dv.bl2, Dv.bl3, Dv.blR, hu])
    go_enter Try.func20, Try.ntmps20
    go_wp2_with (first | (go_at_call 67; refine (up4 _ _ _ _ _ _ _ (by simp) (by omega) (by omega)).mono ?_; rintro e w' ⟨rfl, rfl⟩) | (go_at_call 70; refine (clip_c _ _ _ _).mono ?_; rintro e w' ⟨rfl, rfl⟩))
    go_ret3
    exact ⟨ret3_int E.out.1.symm E.out.2.1.symm E.out.2.2.symm, (((Below.refl _ _).alloc (Nat.le_refl _) _).alloc (by simp) _)⟩
end Go.Proofs.Ytcneohhfnnelgaa
namespace Go.Proofs.Ytcneohhfnnelgaa
open Go.RowKit

namespace Dv
def mn3 (a b c : Int) : Int := min (min a b) c
def mx3 (a b c : Int) : Int := max (max a b) c
theorem mn3_bd (a b c : Int) : mn3 a b c ≤ a ∧ mn3 a b c ≤ b ∧ mn3 a b c ≤ c ∧ (mn3 a b c = a ∨ mn3 a b c = b ∨ mn3 a b c = c) := by unfold mn3; omega
theorem mx3_bd (a b c : Int) : a ≤ mx3 a b c ∧ b ≤ mx3 a b c ∧ c ≤ mx3 a b c ∧ (mx3 a b c = a ∨ mx3 a b c = b ∨ mx3 a b c = c) := by unfold mx3; omega
def duR (a b c u : Int) : Bool := upB 1073741824 [a, b, c] && decide (1 ≤ u ∧ u ≤ 1073741824)
def duCut (a b c u : Int) : Bool := decide (u < mx3 a b c - mn3 a b c)
def duP (a b c u x : Int) : Int := if duCut a b c u = true then x * u / (mx3 a b c - mn3 a b c) else x
def duD (lo hi u x : Int) : Int := clip ((2 * x - hi - lo + u) * 65536 / (2 * u)) 0 65536
def duLo (a b c u : Int) : Int := mn3 (duP a b c u a) (duP a b c u b) (duP a b c u c)
def duHi (a b c u : Int) : Int := mx3 (duP a b c u a) (duP a b c u b) (duP a b c u c)
def duV (a b c u x : Int) : Int := if duR a b c u = true then duD (duLo a b c u) (duHi a b c u) u (duP a b c u x) else 0
def duC (a b c u : Int) : Bool := duR a b c u && duCut a b c u
def duE (a b c u : Int) : Int := if duR a b c u = true then 0 else 3
theorem div_span (x u wide : Int) (hw : 1 ≤ wide) (hu : 0 ≤ u) (huw : u ≤ wide) (hx : -1073741824 ≤ x ∧ x ≤ 1073741824) : -1073741824 ≤ x * u / wide ∧ x * u / wide ≤ 1073741824 := by
  constructor
  · apply (Int.le_ediv_iff_mul_le (by omega)).2
    have h1 : -1073741824 * wide ≤ -1073741824 * u := Int.mul_le_mul_of_nonpos_left (by omega) huw
    have h2 : -1073741824 * u ≤ x * u := Int.mul_le_mul_of_nonneg_right (by omega) hu
    omega
  · have h : x * u / wide < 1073741825 := by
      apply Int.ediv_lt_of_lt_mul (by omega)
      have h1 : x * u ≤ 1073741824 * u := Int.mul_le_mul_of_nonneg_right (by omega) hu
      have h2 : 1073741824 * u ≤ 1073741824 * wide := Int.mul_le_mul_of_nonneg_left huw (by omega)
      omega
    omega
end Dv

theorem below_drewN {B : Nat} {a w : World} (h : Below B a w) (n : Nat) : Below B a (w.drewN n) := ⟨h.os, h.tape, h.output, h.size, h.block⟩
theorem intsAt3 {a b c : Int} {W : World} {g : Nat} (c0 : W.cell? ⟨g, 0, none⟩ = some (.int .i64 a)) (c1 : W.cell? ⟨g, 1, none⟩ = some (.int .i64 b)) (c2 : W.cell? ⟨g, 2, none⟩ = some (.int .i64 c)) : IntsAt W (some ⟨g, 0, none⟩) [a, b, c] := by
  intro i hi
  refine ⟨_, rfl, ?_⟩
  have e : (Addr.add ⟨g, 0, none⟩ i) = ⟨g, i, none⟩ := by unfold Addr.add; split <;> simp_all
  rw [e]
  simp at hi
  rcases i with _ | _ | _ | i
  · simpa using c0
  · simpa using c1
  · simpa using c2
  · omega
theorem upAt3 (m a b c : Int) (W : World) (g : Nat) (hm0 : 0 ≤ m) (hm1 : m ≤ 4611686018427387904) (c0 : W.cell? ⟨g, 0, none⟩ = some (.int .i64 a)) (c1 : W.cell? ⟨g, 1, none⟩ = some (.int .i64 b)) (c2 : W.cell? ⟨g, 2, none⟩ = some (.int .i64 c)) :
    Calls Try.prog 67 #[.int .i64 m, .slice (some ⟨g, 0, none⟩) 3 3] W fun e w' => e = .returned (.bool (upB m [a, b, c])) ∧ W = w' :=
  upTo_c m _ [a, b, c] 3 _ hm0 hm1 (by simp) (intsAt3 c0 c1 c2)
theorem endsAt3 (a b c : Int) (W : World) (g : Nat) (c0 : W.cell? ⟨g, 0, none⟩ = some (.int .i64 a)) (c1 : W.cell? ⟨g, 1, none⟩ = some (.int .i64 b)) (c2 : W.cell? ⟨g, 2, none⟩ = some (.int .i64 c)) :
    Calls Try.prog 68 #[.slice (some ⟨g, 0, none⟩) 3 3] W fun e w' => e = .returned (.tuple #[.int .i64 (Dv.mn3 a b c), .int .i64 (Dv.mx3 a b c)]) ∧ ∃ n, w' = W.drewN n :=
  ends_c _ [a, b, c] 3 W (by simp) (by simp) (by omega) (intsAt3 c0 c1 c2)

theorem retDu {k : IntKind} {a b c a' b' c' e e' : Int} {x x' : Bool} (h1 : a = a') (h2 : b = b') (h3 : c = c') (h4 : x = x') (h5 : e = e') :
    Ending.returned (.tuple #[.agg #[.int k a, .int k b, .int k c], .bool x, .int k e]) = .returned (.tuple #[.agg #[.int k a', .int k b', .int k c'], .bool x', .int k e']) := by rw [h1, h2, h3, h4, h5]

set_option maxHeartbeats 400000 in
theorem Duties_no (a b c u : Int) (w : World) (hR : Dv.duR a b c u = false) : Calls Try.prog 18 #[.agg #[.int .i64 a, .int .i64 b, .int .i64 c], .int .i64 u] w fun e w' => e = .returned (.tuple #[.agg #[.int .i64 (Dv.duV a b c u a), .int .i64 (Dv.duV a b c u b), .int .i64 (Dv.duV a b c u c)], .bool (Dv.duC a b c u), .int .i64 (Dv.duE a b c u)]) ∧ Below w.heap.size w w' := by
  have E := Lib.hid (show Dv.duV a b c u a = 0 ∧ Dv.duV a b c u b = 0 ∧ Dv.duV a b c u c = 0 ∧ Dv.duC a b c u = false ∧ Dv.duE a b c u = 3 from by simp [Dv.duV, Dv.duC, Dv.duE, hR])
  unfold Dv.duR at hR
  cases hu : upB 1073741824 [a, b, c]
  · clear hR
    go_enter Try.func18, Try.ntmps18
    go_wp2_with (first | (go_at_call 67; refine (upAt3 _ a b c _ _ (by omega) (by omega) (by go_simp) (by go_simp) (by go_simp)).mono ?_; rintro e w' ⟨rfl, rfl⟩))
    exact bodyPost_ret (v := .tuple #[.agg #[.int .i64 0, .int .i64 0, .int .i64 0], .bool false, .int .i64 3]) (by simp [results, Try.results18, go_sem]) rfl ⟨retDu E.out.1.symm E.out.2.1.symm E.out.2.2.1.symm E.out.2.2.2.1.symm E.out.2.2.2.2.symm, ((Below.refl _ _).alloc (Nat.le_refl _) _).alloc (by simp) _⟩
  · rw [hu, Bool.true_and] at hR
    by_cases h1 : 1 ≤ u
    · have h2 : ¬ u ≤ 1073741824 := by simpa [h1] using hR
      clear hR
      go_enter Try.func18, Try.ntmps18
      go_wp2_with (first | (go_at_call 67; refine (upAt3 _ a b c _ _ (by omega) (by omega) (by go_simp) (by go_simp) (by go_simp)).mono ?_; rintro e w' ⟨rfl, rfl⟩))
      exact bodyPost_ret (v := .tuple #[.agg #[.int .i64 0, .int .i64 0, .int .i64 0], .bool false, .int .i64 3]) (by simp [results, Try.results18, go_sem]) rfl ⟨retDu E.out.1.symm E.out.2.1.symm E.out.2.2.1.symm E.out.2.2.2.1.symm E.out.2.2.2.2.symm, ((Below.refl _ _).alloc (Nat.le_refl _) _).alloc (by simp) _⟩
    · clear hR
      go_enter Try.func18, Try.ntmps18
      go_wp2_with (first | (go_at_call 67; refine (upAt3 _ a b c _ _ (by omega) (by omega) (by go_simp) (by go_simp) (by go_simp)).mono ?_; rintro e w' ⟨rfl, rfl⟩))
      exact bodyPost_ret (v := .tuple #[.agg #[.int .i64 0, .int .i64 0, .int .i64 0], .bool false, .int .i64 3]) (by simp [results, Try.results18, go_sem]) rfl ⟨retDu E.out.1.symm E.out.2.1.symm E.out.2.2.1.symm E.out.2.2.2.1.symm E.out.2.2.2.2.symm, ((Below.refl _ _).alloc (Nat.le_refl _) _).alloc (by simp) _⟩

set_option maxHeartbeats 1000000 in
set_option maxRecDepth 100000 in
theorem Duties_plain (a b c u : Int) (w : World) (hu : upB 1073741824 [a, b, c] = true) (h0 : 1 ≤ u) (h1 : u ≤ 1073741824) (hc : ¬ u < Dv.mx3 a b c - Dv.mn3 a b c) : Calls Try.prog 18 #[.agg #[.int .i64 a, .int .i64 b, .int .i64 c], .int .i64 u] w fun e w' => e = .returned (.tuple #[.agg #[.int .i64 (Dv.duV a b c u a), .int .i64 (Dv.duV a b c u b), .int .i64 (Dv.duV a b c u c)], .bool (Dv.duC a b c u), .int .i64 (Dv.duE a b c u)]) ∧ Below w.heap.size w w' := by
  obtain ⟨u1, u2, u3⟩ := upB3.1 hu
  have hR : Dv.duR a b c u = true := by simp [Dv.duR, hu, h0, h1]
  have hC : Dv.duCut a b c u = false := by simpa [Dv.duCut] using hc
  have hP : ∀ x, Dv.duP a b c u x = x := by intro x; simp [Dv.duP, hC]
  have E := Lib.hid (show (∀ x, Dv.duV a b c u x = Dv.duD (Dv.mn3 a b c) (Dv.mx3 a b c) u x) ∧ Dv.duC a b c u = false ∧ Dv.duE a b c u = 0 from ⟨fun x => by simp [Dv.duV, hR, Dv.duLo, Dv.duHi, hP], by simp [Dv.duC, hC], by simp [Dv.duE, hR]⟩)
  clear hR hC hP
  obtain ⟨n1, n2, n3, n4⟩ := Dv.mn3_bd a b c
  obtain ⟨m1, m2, m3, m4⟩ := Dv.mx3_bd a b c
  have nb : -1073741824 ≤ Dv.mn3 a b c ∧ Dv.mn3 a b c ≤ 1073741824 := by omega
  have mb : -1073741824 ≤ Dv.mx3 a b c ∧ Dv.mx3 a b c ≤ 1073741824 := by omega
  clear n4 m4
  go_enter Try.func18, Try.ntmps18
  go_wp2_with (first | (go_at_call 67; refine (upAt3 _ a b c _ _ (by omega) (by omega) (by go_simp) (by go_simp) (by go_simp)).mono ?_; rintro e w' ⟨rfl, rfl⟩) | (go_at_call 68; refine (endsAt3 a b c _ _ (by go_simp) (by go_simp) (by go_simp)).mono ?_; rintro e w' ⟨rfl, nd, rfl⟩))
  refine wp_loop_rounds 4 ?_
  rw [rounds_succ]
  go_wp2_with (first | (go_at_call 69; refine (div_c _ _ _ (by omega) (by omega) (by omega)).mono ?_; rintro e w' ⟨rfl, rfl⟩) | (go_at_call 70; refine (clip_c _ _ _ _).mono ?_; rintro e w' ⟨rfl, rfl⟩))
  rw [rounds_succ]
  go_wp2_with (first | (go_at_call 69; refine (div_c _ _ _ (by omega) (by omega) (by omega)).mono ?_; rintro e w' ⟨rfl, rfl⟩) | (go_at_call 70; refine (clip_c _ _ _ _).mono ?_; rintro e w' ⟨rfl, rfl⟩))
  rw [rounds_succ]
  go_wp2_with (first | (go_at_call 69; refine (div_c _ _ _ (by omega) (by omega) (by omega)).mono ?_; rintro e w' ⟨rfl, rfl⟩) | (go_at_call 70; refine (clip_c _ _ _ _).mono ?_; rintro e w' ⟨rfl, rfl⟩))
  rw [rounds_succ]
  go_wp2_with (first | (go_at_call 69; refine (div_c _ _ _ (by omega) (by omega) (by omega)).mono ?_; rintro e w' ⟨rfl, rfl⟩) | (go_at_call 70; refine (clip_c _ _ _ _).mono ?_; rintro e w' ⟨rfl, rfl⟩))
  refine bodyPost_ret (v := .tuple #[.agg #[.int .i64 (Dv.duD (Dv.mn3 a b c) (Dv.mx3 a b c) u a), .int .i64 (Dv.duD (Dv.mn3 a b c) (Dv.mx3 a b c) u b), .int .i64 (Dv.duD (Dv.mn3 a b c) (Dv.mx3 a b c) u c)], .bool (decide (u < Dv.mx3 a b c - Dv.mn3 a b c)), .int .i64 0]) (by simp [results, Try.results18, go_sem, Dv.duD]) rfl ⟨?_, ?_⟩
  · exact retDu (E.out.1 a).symm (E.out.1 b).symm (E.out.1 c).symm (by rw [E.out.2.1]; simp; omega) E.out.2.2.symm
  · exact ((((((below_drewN (((Below.refl _ _).alloc (Nat.le_refl _) _).alloc (by simp) _) nd).setCell (by simp) _).setCell (by simp) _).setCell (by simp) _).setCell (by simp) _).setCell (by simp) _).setCell (by simp) _

end Go.Proofs.Ytcneohhfnnelgaa
namespace Go.Proofs.Ytcneohhfnnelgaa
open Go.RowKit

set_option maxHeartbeats 2000000 in
set_option maxRecDepth 100000 in
theorem Duties_cut (a b c u : Int) (w : World) (hu : upB 1073741824 [a, b, c] = true) (h0 : 1 ≤ u) (h1 : u ≤ 1073741824) (hc : u < Dv.mx3 a b c - Dv.mn3 a b c) : Calls Try.prog 18 #[.agg #[.int .i64 a, .int .i64 b, .int .i64 c], .int .i64 u] w fun e w' => e = .returned (.tuple #[.agg #[.int .i64 (Dv.duV a b c u a), .int .i64 (Dv.duV a b c u b), .int .i64 (Dv.duV a b c u c)], .bool (Dv.duC a b c u), .int .i64 (Dv.duE a b c u)]) ∧ Below w.heap.size w w' := by
  obtain ⟨u1, u2, u3⟩ := upB3.1 hu
  have hR : Dv.duR a b c u = true := by simp [Dv.duR, hu, h0, h1]
  have hC : Dv.duCut a b c u = true := by simpa [Dv.duCut] using hc
  obtain ⟨n1, n2, n3, n4⟩ := Dv.mn3_bd a b c
  obtain ⟨m1, m2, m3, m4⟩ := Dv.mx3_bd a b c
  have nb : -1073741824 ≤ Dv.mn3 a b c ∧ Dv.mn3 a b c ≤ 1073741824 := by omega
  have mb : -1073741824 ≤ Dv.mx3 a b c ∧ Dv.mx3 a b c ≤ 1073741824 := by omega
  clear n4 m4
  have hP : ∀ x, Dv.duP a b c u x = x * u / (Dv.mx3 a b c - Dv.mn3 a b c) := by intro x; simp [Dv.duP, hC]
  have EV := Lib.hid (show (∀ x, Dv.duV a b c u x = Dv.duD (Dv.duLo a b c u) (Dv.duHi a b c u) u (Dv.duP a b c u x)) ∧ Dv.duC a b c u = true ∧ Dv.duE a b c u = 0 from ⟨fun x => by simp [Dv.duV, hR], by simp [Dv.duC, hC, hR], by simp [Dv.duE, hR]⟩)
  have hPb : ∀ x, -1073741824 ≤ x ∧ x ≤ 1073741824 → -1073741824 ≤ Dv.duP a b c u x ∧ Dv.duP a b c u x ≤ 1073741824 := fun x hx => by rw [hP]; exact Dv.div_span x u _ (by omega) (by omega) (by omega) hx
  obtain ⟨pa0, pa1⟩ := hPb a u1
  obtain ⟨pb0, pb1⟩ := hPb b u2
  obtain ⟨pc0, pc1⟩ := hPb c u3
  have EP := Lib.hid hP
  have EL := Lib.hid (show Dv.mn3 (Dv.duP a b c u a) (Dv.duP a b c u b) (Dv.duP a b c u c) = Dv.duLo a b c u ∧ Dv.mx3 (Dv.duP a b c u a) (Dv.duP a b c u b) (Dv.duP a b c u c) = Dv.duHi a b c u from ⟨rfl, rfl⟩)
  obtain ⟨ln1, ln2, ln3, ln4⟩ := Dv.mn3_bd (Dv.duP a b c u a) (Dv.duP a b c u b) (Dv.duP a b c u c)
  obtain ⟨lm1, lm2, lm3, lm4⟩ := Dv.mx3_bd (Dv.duP a b c u a) (Dv.duP a b c u b) (Dv.duP a b c u c)
  have lb : -1073741824 ≤ Dv.mn3 (Dv.duP a b c u a) (Dv.duP a b c u b) (Dv.duP a b c u c) ∧ Dv.mn3 (Dv.duP a b c u a) (Dv.duP a b c u b) (Dv.duP a b c u c) ≤ 1073741824 := by omega
  have lh : -1073741824 ≤ Dv.mx3 (Dv.duP a b c u a) (Dv.duP a b c u b) (Dv.duP a b c u c) ∧ Dv.mx3 (Dv.duP a b c u a) (Dv.duP a b c u b) (Dv.duP a b c u c) ≤ 1073741824 := by omega
  rw [EL.out.1] at lb
  rw [EL.out.2] at lh
  obtain ⟨xa0, xa1⟩ := Dv.mul_bd (x := a) (y := u) 1073741824 1073741824 u1 (by omega)
  obtain ⟨xb0, xb1⟩ := Dv.mul_bd (x := b) (y := u) 1073741824 1073741824 u2 (by omega)
  obtain ⟨xc0, xc1⟩ := Dv.mul_bd (x := c) (y := u) 1073741824 1073741824 u3 (by omega)
  clear hR hC hP hPb ln1 ln2 ln3 ln4 lm1 lm2 lm3 lm4
  have dv : ∀ (x : Int) (W : World), -1073741824 * 1073741824 ≤ x * u ∧ x * u ≤ 1073741824 * 1073741824 → Calls Try.prog 69 #[.int .i64 (x * u), .int .i64 (Dv.mx3 a b c - Dv.mn3 a b c)] W fun e w' => e = .returned (.int .i64 (Dv.duP a b c u x)) ∧ W = w' := by
    intro x W hx
    refine (div_c (x * u) _ W (by omega) (by omega) (by omega)).mono ?_
    intro e w' h
    rw [EP.out x]
    exact h
  have en : ∀ (W : World) (g : Nat), W.cell? ⟨g, 0, none⟩ = some (.int .i64 (Dv.duP a b c u a)) → W.cell? ⟨g, 1, none⟩ = some (.int .i64 (Dv.duP a b c u b)) → W.cell? ⟨g, 2, none⟩ = some (.int .i64 (Dv.duP a b c u c)) → Calls Try.prog 68 #[.slice (some ⟨g, 0, none⟩) 3 3] W fun e w' => e = .returned (.tuple #[.int .i64 (Dv.duLo a b c u), .int .i64 (Dv.duHi a b c u)]) ∧ ∃ n, w' = W.drewN n := by
    intro W g c0 c1 c2
    exact endsAt3 _ _ _ W g c0 c1 c2
  have DV := Lib.hid dv
  have EN := Lib.hid en
  clear dv en
  go_enter Try.func18, Try.ntmps18
  go_wp2_with (first | (go_at_call 67; refine (upAt3 _ a b c _ _ (by omega) (by omega) (by go_simp) (by go_simp) (by go_simp)).mono ?_; rintro e w' ⟨rfl, rfl⟩) | (go_at_call 68; refine (endsAt3 a b c _ _ (by go_simp) (by go_simp) (by go_simp)).mono ?_; rintro e w' ⟨rfl, nd, rfl⟩))
  refine wp_loop_rounds 4 ?_
  rw [rounds_succ]
  go_wp2_with (first | (go_at_call 69; refine (DV.out _ _ (by omega)).mono ?_; rintro e w' ⟨rfl, rfl⟩))
  rw [rounds_succ]
  go_wp2_with (first | (go_at_call 69; refine (DV.out _ _ (by omega)).mono ?_; rintro e w' ⟨rfl, rfl⟩))
  rw [rounds_succ]
  go_wp2_with (first | (go_at_call 69; refine (DV.out _ _ (by omega)).mono ?_; rintro e w' ⟨rfl, rfl⟩))
  rw [rounds_succ]
  go_wp2_with fail
  refine (EN.out _ _ (by go_simp) (by go_simp) (by go_simp)).mono ?_
  rintro e w1 ⟨rfl, nd2, hw1⟩
  have c0 : w1.cell? ⟨w.heap.size, 0, none⟩ = some (.int .i64 (Dv.duP a b c u a)) := by rw [hw1]; go_simp
  have c1 : w1.cell? ⟨w.heap.size, 1, none⟩ = some (.int .i64 (Dv.duP a b c u b)) := by rw [hw1]; go_simp
  have c2 : w1.cell? ⟨w.heap.size, 2, none⟩ = some (.int .i64 (Dv.duP a b c u c)) := by rw [hw1]; go_simp
  have d0 : w1.cell? ⟨w.heap.size + 1, 0, none⟩ = some (.int .i64 0) := by rw [hw1]; go_simp
  have d1 : w1.cell? ⟨w.heap.size + 1, 1, none⟩ = some (.int .i64 0) := by rw [hw1]; go_simp
  have d2 : w1.cell? ⟨w.heap.size + 1, 2, none⟩ = some (.int .i64 0) := by rw [hw1]; go_simp
  have f0 : w1.frozen? ⟨w.heap.size, 0, none⟩ = false := by rw [hw1]; go_simp
  have f1 : w1.frozen? ⟨w.heap.size, 1, none⟩ = false := by rw [hw1]; go_simp
  have f2 : w1.frozen? ⟨w.heap.size, 2, none⟩ = false := by rw [hw1]; go_simp
  have k0 : w1.frozen? ⟨w.heap.size + 1, 0, none⟩ = false := by rw [hw1]; go_simp
  have k1 : w1.frozen? ⟨w.heap.size + 1, 1, none⟩ = false := by rw [hw1]; go_simp
  have k2 : w1.frozen? ⟨w.heap.size + 1, 2, none⟩ = false := by rw [hw1]; go_simp
  have hz : w.heap.size + 1 < w1.heap.size := by rw [hw1]; simp
  have HB := Lib.hid (show Below w.heap.size w w1 from by
    rw [hw1]
    exact below_drewN ((((below_drewN (((Below.refl _ _).alloc (Nat.le_refl _) _).alloc (by simp) _) nd).setCell (by simp) _).setCell (by simp) _).setCell (by simp) _) nd2)
  clear hw1
  go_wp2
  refine wp_loop_rounds 4 ?_
  rw [rounds_succ]
  go_wp2_with (first | (go_at_call 69; refine (div_c _ _ _ (by omega) (by omega) (by omega)).mono ?_; rintro e w' ⟨rfl, rfl⟩) | (go_at_call 70; refine (clip_c _ _ _ _).mono ?_; rintro e w' ⟨rfl, rfl⟩))
  rw [rounds_succ]
  go_wp2_with (first | (go_at_call 69; refine (div_c _ _ _ (by omega) (by omega) (by omega)).mono ?_; rintro e w' ⟨rfl, rfl⟩) | (go_at_call 70; refine (clip_c _ _ _ _).mono ?_; rintro e w' ⟨rfl, rfl⟩))
  rw [rounds_succ]
  go_wp2_with (first | (go_at_call 69; refine (div_c _ _ _ (by omega) (by omega) (by omega)).mono ?_; rintro e w' ⟨rfl, rfl⟩) | (go_at_call 70; refine (clip_c _ _ _ _).mono ?_; rintro e w' ⟨rfl, rfl⟩))
  rw [rounds_succ]
  go_wp2_with (first | (go_at_call 69; refine (div_c _ _ _ (by omega) (by omega) (by omega)).mono ?_; rintro e w' ⟨rfl, rfl⟩) | (go_at_call 70; refine (clip_c _ _ _ _).mono ?_; rintro e w' ⟨rfl, rfl⟩))
  refine bodyPost_ret (v := .tuple #[.agg #[.int .i64 (Dv.duD (Dv.duLo a b c u) (Dv.duHi a b c u) u (Dv.duP a b c u a)), .int .i64 (Dv.duD (Dv.duLo a b c u) (Dv.duHi a b c u) u (Dv.duP a b c u b)), .int .i64 (Dv.duD (Dv.duLo a b c u) (Dv.duHi a b c u) u (Dv.duP a b c u c))], .bool true, .int .i64 0]) (by simp [results, Try.results18, go_sem, Dv.duD, d0, d1, d2]) rfl ⟨?_, ?_⟩
  · exact retDu (EV.out.1 a).symm (EV.out.1 b).symm (EV.out.1 c).symm EV.out.2.1.symm EV.out.2.2.symm
  · exact (((((HB.out.setCell (by simp) _).setCell (by simp) _).setCell (by simp) _).setCell (by simp) _).setCell (by simp) _).setCell (by simp) _

theorem Duties_c (a b c u : Int) (w : World) : Calls Try.prog 18 #[.agg #[.int .i64 a, .int .i64 b, .int .i64 c], .int .i64 u] w fun e w' => e = .returned (.tuple #[.agg #[.int .i64 (Dv.duV a b c u a), .int .i64 (Dv.duV a b c u b), .int .i64 (Dv.duV a b c u c)], .bool (Dv.duC a b c u), .int .i64 (Dv.duE a b c u)]) ∧ Below w.heap.size w w' := by
  cases hR : Dv.duR a b c u
  · exact Duties_no a b c u w hR
  · have h : upB 1073741824 [a, b, c] = true ∧ (1 ≤ u ∧ u ≤ 1073741824) := by simpa [Dv.duR] using hR
    by_cases hc : u < Dv.mx3 a b c - Dv.mn3 a b c
    · exact Duties_cut a b c u w h.1 h.2.1 h.2.2 hc
    · exact Duties_plain a b c u w h.1 h.2.1 h.2.2 hc
end Go.Proofs.Ytcneohhfnnelgaa
namespace Go.Proofs.Ytcneohhfnnelgaa
open Go.RowKit

theorem elInt (d : Nat) (w : World) (a b : Int) : (Op.equalIn (d + 1) 2 (.int .i64 a) (.int .i64 b)).run Try.prog w = .ok (a == b) w := run_equalIn_int w d 2 .i64 .i64 a b Try.underlying2
theorem size2 (w : World) : (sizeOf 2).run Try.prog w = .ok 1 w := by kernel_rfl
theorem partAt (w : World) (cs : Array Value) (i : Nat) (v : Value) (h : cs[i]? = some v) : (part 2 cs i).run Try.prog w = .ok v w := by
  have hag : (isAgg 2).run Try.prog w = .ok false w := by kernel_rfl
  simp [part, Sem.run_bind, hag, h]
theorem eqArr (d : Nat) (w : World) (a b c a' b' c' : Int) : (Op.equalIn (d + 2) 22 (.agg #[.int .i64 a, .int .i64 b, .int .i64 c]) (.agg #[.int .i64 a', .int .i64 b', .int .i64 c'])).run Try.prog w = .ok (a == a' && b == b' && c == c') w := by
  rw [Op.equalIn]
  simp only [Sem.run_bind, run_underlying Try.underlying22, Result.andThen_ok, size2]
  simp [Std.Legacy.Range.forIn_eq_forIn_range', Std.Legacy.Range.size, List.range', Sem.run_bind]
  simp [partAt, elInt]
  by_cases h1 : a = a' <;> by_cases h2 : b = b' <;> by_cases h3 : c = c' <;> simp [h1, h2, h3]
/-- two arrays of three numbers are equal -/
@[go_sem] theorem eqArr3 (w : World) (a b c a' b' c' : Int) : (Op.equalIn 10000 22 (.agg #[.int .i64 a, .int .i64 b, .int .i64 c]) (.agg #[.int .i64 a', .int .i64 b', .int .i64 c'])).run Try.prog w = .ok (a == a' && b == b' && c == c') w :=
  eqArr 9998 w a b c a' b' c'

theorem kSin (w : World) : Calls Try.prog 21 #[.int .i64 8192] w fun e w' => e = .returned (.tuple #[.int .i64 11565, .int .i64 0]) ∧ w = w' :=
  (Sin_c 8192 w).mono fun _ _ ⟨he, hw⟩ => ⟨he.trans (ret2_int (by decide) (by decide)), hw⟩
theorem kTurn (w : World) : Calls Try.prog 29 #[.int .i64 1000, .int .i64 0, .int .i64 16384] w fun e w' => e = .returned (.tuple #[.int .i64 0, .int .i64 (-1000), .int .i64 0]) ∧ Below w.heap.size w w' :=
  (TurnTo_c 1000 0 16384 w).mono fun _ _ ⟨he, hw⟩ => ⟨he.trans (ret3_int (by decide) (by decide) (by decide)), hw⟩
theorem kDuties (w : World) : Calls Try.prog 18 #[.agg #[.int .i64 1000, .int .i64 (-500), .int .i64 (-500)], .int .i64 2000] w fun e w' => e = .returned (.tuple #[.agg #[.int .i64 57344, .int .i64 8192, .int .i64 8192], .bool false, .int .i64 0]) ∧ Below w.heap.size w w' :=
  (Duties_c 1000 (-500) (-500) 2000 w).mono fun _ _ ⟨he, hw⟩ => ⟨he.trans (retDu (by decide) (by decide) (by decide) (by decide) (by decide)), hw⟩
theorem kBlend (w : World) : Calls Try.prog 20 #[.int .i64 (-100), .agg #[.int .i64 (-60), .int .i64 80], .int .i64 30] w fun e w' => e = .returned (.tuple #[.int .i64 (-60), .int .i64 30, .int .i64 0]) ∧ Below w.heap.size w w' :=
  (Blend_c (-100) (-60) 80 30 w).mono fun _ _ ⟨he, hw⟩ => ⟨he.trans (ret3_int (by decide) (by decide) (by decide)), hw⟩

set_option maxHeartbeats 1000000 in
set_option maxRecDepth 100000 in
theorem known_c (w : World) : Calls Try.prog 19 #[] w fun e w' => e = .returned (.bool true) ∧ Below w.heap.size w w' := by
  go_enter Try.func19, Try.ntmps19
  go_wp2_with fail
  refine (kSin _).mono ?_
  rintro e w' ⟨rfl, rfl⟩
  go_wp2_with fail
  refine (kTurn _).mono ?_
  rintro e w1 ⟨rfl, hb1⟩
  go_wp2_with fail
  refine (kDuties _).mono ?_
  rintro e w2 ⟨rfl, hb2⟩
  go_wp2_with fail
  refine (kBlend _).mono ?_
  rintro e w3 ⟨rfl, hb3⟩
  have c0 : w3.cell? ⟨w2.heap.size, 0, none⟩ = some (.int .i64 57344) := (hb3.cell (p := ⟨w2.heap.size, 0, none⟩) (by simp)).trans (by go_simp)
  have c1 : w3.cell? ⟨w2.heap.size, 1, none⟩ = some (.int .i64 8192) := (hb3.cell (p := ⟨w2.heap.size, 1, none⟩) (by simp)).trans (by go_simp)
  have c2 : w3.cell? ⟨w2.heap.size, 2, none⟩ = some (.int .i64 8192) := (hb3.cell (p := ⟨w2.heap.size, 2, none⟩) (by simp)).trans (by go_simp)
  have HB := Lib.hid (show Below w.heap.size w w3 from (hb1.trans (hb2.mono hb1.size)).trans (((Below.refl _ _).alloc (Nat.le_trans hb1.size hb2.size) _).trans (hb3.mono (by simp; have := hb1.size; have := hb2.size; omega))))
  clear hb1 hb2 hb3
  go_wp2
  go_ret
  exact ⟨rfl, HB.out⟩
end Go.Proofs.Ytcneohhfnnelgaa
namespace Go.Proofs.Ytcneohhfnnelgaa
open Go.RowKit
set_option linter.unusedVariables false

theorem quiet_left {P : Program} {f : FuncId} {args : Array Value} {w : World} {n : Nat} {v : Value}
    (h : Calls P f args (w.drewN n) fun e w' => e = .returned v ∧ w.drewN n = w') : Calls P f args (w.drewN n) fun e w'' => e = .returned v ∧ ∃ m, w'' = w.drewN m :=
  h.mono fun _ _ ⟨he, hm⟩ => ⟨he, n, hm.symm⟩
theorem quiet_add_left {P : Program} {f : FuncId} {args : Array Value} {w : World} {a n : Nat} {v : Value}
    (h : Calls P f args (w.drewN (a + n)) fun e w' => e = .returned v ∧ w.drewN (a + n) = w') :
    Calls P f args (w.drewN (a + n)) fun e w'' => e = .returned v ∧ ∃ m, w'' = w.drewN (a + m) :=
  h.mono fun _ _ ⟨he, hm⟩ => ⟨he, n, hm.symm⟩

theorem only_drewN {a w : World} {row : Option Nat} (h : a.grownBy w row) (n : Nat) : a.grownBy (w.drewN n) row := ⟨h.os, h.tape, h.output, h.size, h.block⟩
theorem only_drew {a w : World} {row : Option Nat} (h : a.grownBy w row) : a.grownBy w.drew row := ⟨h.os, h.tape, h.output, h.size, h.block⟩
theorem only_alloc {a w : World} {row : Option Nat} (h : a.grownBy w row) (o : Obj) : a.grownBy (w.alloc o) row :=
  ⟨h.os, h.tape, h.output, Nat.le_trans h.size (by simp), fun i hi hne => (Below.heap_alloc w o i (Nat.lt_of_lt_of_le hi h.size)).trans (h.block i hi hne)⟩
theorem only_setCell {a w : World} {g : Nat} (h : a.grownBy w (some g)) {p : Addr} (hp : p.block = g ∨ a.heap.size ≤ p.block) (u : Value) : a.grownBy (w.setCell p u) (some g) :=
  ⟨h.os, h.tape, h.output, by simpa [World.setCell] using h.size, fun i hi hne => (Below.heap_setCell w p u i (by
    rintro rfl
    rcases hp with hp | hp
    · exact hne (by rw [hp])
    · omega)).trans (h.block i hi hne)⟩
theorem only_of_below {a w : World} (h : Below a.heap.size a w) (row : Option Nat) : a.grownBy w row := ⟨h.os, h.tape, h.output, h.size, fun i hi _ => h.block i hi⟩

namespace Dv
def tunB (p i : Int) : Bool := decide (0 ≤ p ∧ p ≤ 16777216 ∧ 0 ≤ i ∧ i ≤ 16777216)
def spanB (lo hi : Int) : Bool := upB 1099511627776 [lo, hi] && decide (lo ≤ hi)
def raw (p s e : Int) : Int := p * e / 65536 + s
def regC (r e lo hi : Int) : Bool := decide ((lo ≤ r ∧ r ≤ hi) ∨ (hi < r ∧ e < 0) ∨ (r < lo ∧ 0 < e))
def regS (i s e : Int) (c : Bool) : Int := clip (if c = true then s + i * e / 65536 else s) (-1073741824) 1073741824
end Dv

set_option maxHeartbeats 400000 in
theorem tuned_c (p i : Int) (w : World) : Calls Try.prog 74 #[.agg #[.int .i64 p, .int .i64 i]] w fun e w' => e = .returned (.bool (Dv.tunB p i)) ∧ Below w.heap.size w w' := by
  by_cases h1 : 0 ≤ p
  · by_cases h2 : 0 ≤ i
    · by_cases h3 : p ≤ 16777216
      · by_cases h4 : i ≤ 16777216
        all_goals
          go_enter Try.func74, Try.ntmps74
          go_wp2
          all_goals
            go_ret
            exact ⟨ret_bool (by rw [Bool.eq_iff_iff]; simp [Dv.tunB]; omega), ((Below.refl _ _).alloc (Nat.le_refl _) _)⟩
      · go_enter Try.func74, Try.ntmps74
        go_wp2
        all_goals
          go_ret
          exact ⟨ret_bool (by rw [Bool.eq_iff_iff]; simp [Dv.tunB]; omega), ((Below.refl _ _).alloc (Nat.le_refl _) _)⟩
    · go_enter Try.func74, Try.ntmps74
      go_wp2
      all_goals
        go_ret
        exact ⟨ret_bool (by rw [Bool.eq_iff_iff]; simp [Dv.tunB]; omega), ((Below.refl _ _).alloc (Nat.le_refl _) _)⟩
  · go_enter Try.func74, Try.ntmps74
    go_wp2
    all_goals
      go_ret
      exact ⟨ret_bool (by rw [Bool.eq_iff_iff]; simp [Dv.tunB]; omega), ((Below.refl _ _).alloc (Nat.le_refl _) _)⟩

set_option maxHeartbeats 400000 in
theorem span_c (lo hi : Int) (w : World) : Calls Try.prog 75 #[.agg #[.int .i64 lo, .int .i64 hi]] w fun e w' => e = .returned (.bool (Dv.spanB lo hi)) ∧ Below w.heap.size w w' := by
  have E := Lib.hid (show Dv.spanB lo hi = (upB 1099511627776 [lo, hi] && decide (lo ≤ hi)) from rfl)
  cases hu : upB 1099511627776 [lo, hi]
  · rw [hu] at E
    go_enter Try.func75, Try.ntmps75
    go_wp2_with (first | (go_at_call 67; refine (up2 _ _ _ _ _ (by simp) (by omega) (by omega)).mono ?_; rintro e w' ⟨rfl, rfl⟩))
    go_ret
    exact ⟨ret_bool E.out.symm, ((Below.refl _ _).alloc (Nat.le_refl _) _).alloc (by simp) _⟩
  · rw [hu] at E
    go_enter Try.func75, Try.ntmps75
    go_wp2_with (first | (go_at_call 67; refine (up2 _ _ _ _ _ (by simp) (by omega) (by omega)).mono ?_; rintro e w' ⟨rfl, rfl⟩))
    go_ret
    exact ⟨ret_bool E.out.symm, ((Below.refl _ _).alloc (Nat.le_refl _) _).alloc (by simp) _⟩

/-- what step does to the world -/
def StepW (w : World) (b : Nat) (p i n : Int) (w' : World) : Prop :=
  w'.cell? ⟨b, 0, none⟩ = some (.int .i64 p) ∧ w'.cell? ⟨b, 1, none⟩ = some (.int .i64 i) ∧ w'.cell? ⟨b, 2, none⟩ = some (.int .i64 n) ∧ w'.frozen? ⟨b, 2, none⟩ = false ∧ w.grownBy w' (some b)





theorem stepW_one {b : Nat} {p i s : Int} {w : World} (hb : b < w.heap.size) (c0 : w.cell? ⟨b, 0, none⟩ = some (.int .i64 p)) (c1 : w.cell? ⟨b, 1, none⟩ = some (.int .i64 i)) (c2 : w.cell? ⟨b, 2, none⟩ = some (.int .i64 s)) (f2 : w.frozen? ⟨b, 2, none⟩ = false) (o : Obj) (k : Nat) (n : Int) :
    StepW w b p i n (((w.alloc o).drewN k).setCell ⟨b, 2, none⟩ (.int .i64 n)) := by
  have d2 : ((w.alloc o).drewN k).cell? ⟨b, 2, none⟩ = some (.int .i64 s) := by go_simp
  refine ⟨by go_simp, by go_simp, World.cell?_setCell_same _ _ _ d2, by go_simp, ?_⟩
  exact only_setCell (only_drewN (only_alloc (World.grownBy.refl _ _) _) _) (.inl rfl) _
theorem stepW_two {b : Nat} {p i s : Int} {w : World} (hb : b < w.heap.size) (c0 : w.cell? ⟨b, 0, none⟩ = some (.int .i64 p)) (c1 : w.cell? ⟨b, 1, none⟩ = some (.int .i64 i)) (c2 : w.cell? ⟨b, 2, none⟩ = some (.int .i64 s)) (f2 : w.frozen? ⟨b, 2, none⟩ = false) (o : Obj) (k : Nat) (u : Value) (n : Int) :
    StepW w b p i n ((((w.alloc o).drewN k).setCell ⟨b, 2, none⟩ u).setCell ⟨b, 2, none⟩ (.int .i64 n)) := by
  have d2 : ((w.alloc o).drewN k).cell? ⟨b, 2, none⟩ = some (.int .i64 s) := by go_simp
  refine ⟨by go_simp, by go_simp, World.cell?_setCell_same _ _ _ (World.cell?_setCell_same _ _ _ d2), by go_simp, ?_⟩
  exact only_setCell (only_setCell (only_drewN (only_alloc (World.grownBy.refl _ _) _) _) (.inl rfl) _) (.inl rfl) _

end Go.Proofs.Ytcneohhfnnelgaa
namespace Go.Proofs.Ytcneohhfnnelgaa
open Go.RowKit
set_option linter.unusedVariables false

set_option maxHeartbeats 1000000 in
theorem step_A (b : Nat) (p i s e lo hi : Int) (w : World) (hb : b < w.heap.size) (c0 : w.cell? ⟨b, 0, none⟩ = some (.int .i64 p)) (c1 : w.cell? ⟨b, 1, none⟩ = some (.int .i64 i)) (c2 : w.cell? ⟨b, 2, none⟩ = some (.int .i64 s)) (f2 : w.frozen? ⟨b, 2, none⟩ = false)
    (hp : 0 ≤ p ∧ p ≤ 16777216) (hi' : 0 ≤ i ∧ i ≤ 16777216) (hs : -1073741824 ≤ s ∧ s ≤ 1073741824) (he : -2097152 ≤ e ∧ e ≤ 2097152) (hlh : lo ≤ hi) (hr : lo ≤ p * e / 65536 + s ∧ p * e / 65536 + s ≤ hi)  :
    Calls Try.prog 76 #[.pointer (some ⟨b, 0, none⟩), .int .i64 e, .agg #[.int .i64 lo, .int .i64 hi]] w fun en w' => en = .returned (.int .i64 (p * e / 65536 + s)) ∧ StepW w b p i (Dv.regS i s e true) w' := by
  obtain ⟨m0, m1⟩ := Dv.mul_bd (x := p) (y := e) 16777216 2097152 (by omega) he
  obtain ⟨k0, k1⟩ := Dv.mul_bd (x := i) (y := e) 16777216 2097152 (by omega) he
  have q := Dv.ediv_bd (p * e) 65536 (by omega) (16777216 * 2097152) m0 m1 (by omega)
  have q2 := Dv.ediv_bd (i * e) 65536 (by omega) (16777216 * 2097152) k0 k1 (by omega)
  have HC := Lib.hid (show Dv.clip (p * e / 65536 + s) lo hi = p * e / 65536 + s from by unfold Dv.clip; omega)
  have HB := Lib.hid hb
  go_enter Try.func76, Try.ntmps76
  go_wp2_with fail
  go_quiet ((go_at_call 69; exact quiet_left (div_c _ _ _ (by omega) (by omega) (by omega))))
  go_wp2_with fail
  refine (clip_c _ _ _ _).mono ?_
  rintro e1 w' ⟨rfl, rfl⟩
  rw [HC.out]
  go_wp2_with fail
  have r1 : IntKind.i64.wrap (i * e) = i * e := IntWalk.i64_in _ (by omega)
  have r2 : IntKind.i64.wrap (s + i * e / 65536) = s + i * e / 65536 := IntWalk.i64_in _ (by omega)
  go_region_with (go_at_call 69; refine (div_c _ _ _ (by omega) (by omega) (by omega)).mono ?_; rintro e w' ⟨rfl, rfl⟩)
  all_goals
    clear r1 r2
    go_wp2_with (go_at_call 70; refine (clip_c _ _ _ _).mono ?_; rintro e1 w' ⟨rfl, rfl⟩)
    go_ret
    exact ⟨rfl, stepW_two hb c0 c1 c2 f2 _ _ _ _⟩

set_option maxHeartbeats 1000000 in
theorem step_B (b : Nat) (p i s e lo hi : Int) (w : World) (hb : b < w.heap.size) (c0 : w.cell? ⟨b, 0, none⟩ = some (.int .i64 p)) (c1 : w.cell? ⟨b, 1, none⟩ = some (.int .i64 i)) (c2 : w.cell? ⟨b, 2, none⟩ = some (.int .i64 s)) (f2 : w.frozen? ⟨b, 2, none⟩ = false)
    (hp : 0 ≤ p ∧ p ≤ 16777216) (hi' : 0 ≤ i ∧ i ≤ 16777216) (hs : -1073741824 ≤ s ∧ s ≤ 1073741824) (he : -2097152 ≤ e ∧ e ≤ 2097152) (hlh : lo ≤ hi) (hr : hi < p * e / 65536 + s) (hsg : e < 0) :
    Calls Try.prog 76 #[.pointer (some ⟨b, 0, none⟩), .int .i64 e, .agg #[.int .i64 lo, .int .i64 hi]] w fun en w' => en = .returned (.int .i64 (hi)) ∧ StepW w b p i (Dv.regS i s e true) w' := by
  obtain ⟨m0, m1⟩ := Dv.mul_bd (x := p) (y := e) 16777216 2097152 (by omega) he
  obtain ⟨k0, k1⟩ := Dv.mul_bd (x := i) (y := e) 16777216 2097152 (by omega) he
  have q := Dv.ediv_bd (p * e) 65536 (by omega) (16777216 * 2097152) m0 m1 (by omega)
  have q2 := Dv.ediv_bd (i * e) 65536 (by omega) (16777216 * 2097152) k0 k1 (by omega)
  have HC := Lib.hid (show Dv.clip (p * e / 65536 + s) lo hi = hi from by unfold Dv.clip; omega)
  have HB := Lib.hid hb
  go_enter Try.func76, Try.ntmps76
  go_wp2_with fail
  go_quiet ((go_at_call 69; exact quiet_left (div_c _ _ _ (by omega) (by omega) (by omega))))
  go_wp2_with fail
  refine (clip_c _ _ _ _).mono ?_
  rintro e1 w' ⟨rfl, rfl⟩
  rw [HC.out]
  have hne : (p * e / 65536 + s == hi) = false := by simp; omega
  go_wp2_with fail
  have r1 : IntKind.i64.wrap (i * e) = i * e := IntWalk.i64_in _ (by omega)
  have r2 : IntKind.i64.wrap (s + i * e / 65536) = s + i * e / 65536 := IntWalk.i64_in _ (by omega)
  go_region_with (go_at_call 69; refine (div_c _ _ _ (by omega) (by omega) (by omega)).mono ?_; rintro e w' ⟨rfl, rfl⟩)
  all_goals
    clear r1 r2
    go_wp2_with (go_at_call 70; refine (clip_c _ _ _ _).mono ?_; rintro e1 w' ⟨rfl, rfl⟩)
    go_ret
    exact ⟨rfl, stepW_two hb c0 c1 c2 f2 _ _ _ _⟩

set_option maxHeartbeats 1000000 in
theorem step_C (b : Nat) (p i s e lo hi : Int) (w : World) (hb : b < w.heap.size) (c0 : w.cell? ⟨b, 0, none⟩ = some (.int .i64 p)) (c1 : w.cell? ⟨b, 1, none⟩ = some (.int .i64 i)) (c2 : w.cell? ⟨b, 2, none⟩ = some (.int .i64 s)) (f2 : w.frozen? ⟨b, 2, none⟩ = false)
    (hp : 0 ≤ p ∧ p ≤ 16777216) (hi' : 0 ≤ i ∧ i ≤ 16777216) (hs : -1073741824 ≤ s ∧ s ≤ 1073741824) (he : -2097152 ≤ e ∧ e ≤ 2097152) (hlh : lo ≤ hi) (hr : p * e / 65536 + s < lo) (hsg : 0 < e) :
    Calls Try.prog 76 #[.pointer (some ⟨b, 0, none⟩), .int .i64 e, .agg #[.int .i64 lo, .int .i64 hi]] w fun en w' => en = .returned (.int .i64 (lo)) ∧ StepW w b p i (Dv.regS i s e true) w' := by
  obtain ⟨m0, m1⟩ := Dv.mul_bd (x := p) (y := e) 16777216 2097152 (by omega) he
  obtain ⟨k0, k1⟩ := Dv.mul_bd (x := i) (y := e) 16777216 2097152 (by omega) he
  have q := Dv.ediv_bd (p * e) 65536 (by omega) (16777216 * 2097152) m0 m1 (by omega)
  have q2 := Dv.ediv_bd (i * e) 65536 (by omega) (16777216 * 2097152) k0 k1 (by omega)
  have HC := Lib.hid (show Dv.clip (p * e / 65536 + s) lo hi = lo from by unfold Dv.clip; omega)
  have HB := Lib.hid hb
  go_enter Try.func76, Try.ntmps76
  go_wp2_with fail
  go_quiet ((go_at_call 69; exact quiet_left (div_c _ _ _ (by omega) (by omega) (by omega))))
  go_wp2_with fail
  refine (clip_c _ _ _ _).mono ?_
  rintro e1 w' ⟨rfl, rfl⟩
  rw [HC.out]
  have hne : (p * e / 65536 + s == lo) = false := by simp; omega
  go_wp2_with fail
  have r1 : IntKind.i64.wrap (i * e) = i * e := IntWalk.i64_in _ (by omega)
  have r2 : IntKind.i64.wrap (s + i * e / 65536) = s + i * e / 65536 := IntWalk.i64_in _ (by omega)
  go_region_with (go_at_call 69; refine (div_c _ _ _ (by omega) (by omega) (by omega)).mono ?_; rintro e w' ⟨rfl, rfl⟩)
  all_goals
    clear r1 r2
    go_wp2_with (go_at_call 70; refine (clip_c _ _ _ _).mono ?_; rintro e1 w' ⟨rfl, rfl⟩)
    go_ret
    exact ⟨rfl, stepW_two hb c0 c1 c2 f2 _ _ _ _⟩

set_option maxHeartbeats 1000000 in
theorem step_D (b : Nat) (p i s e lo hi : Int) (w : World) (hb : b < w.heap.size) (c0 : w.cell? ⟨b, 0, none⟩ = some (.int .i64 p)) (c1 : w.cell? ⟨b, 1, none⟩ = some (.int .i64 i)) (c2 : w.cell? ⟨b, 2, none⟩ = some (.int .i64 s)) (f2 : w.frozen? ⟨b, 2, none⟩ = false)
    (hp : 0 ≤ p ∧ p ≤ 16777216) (hi' : 0 ≤ i ∧ i ≤ 16777216) (hs : -1073741824 ≤ s ∧ s ≤ 1073741824) (he : -2097152 ≤ e ∧ e ≤ 2097152) (hlh : lo ≤ hi) (hr : hi < p * e / 65536 + s) (hsg : 0 ≤ e) :
    Calls Try.prog 76 #[.pointer (some ⟨b, 0, none⟩), .int .i64 e, .agg #[.int .i64 lo, .int .i64 hi]] w fun en w' => en = .returned (.int .i64 (hi)) ∧ StepW w b p i (Dv.regS i s e false) w' := by
  obtain ⟨m0, m1⟩ := Dv.mul_bd (x := p) (y := e) 16777216 2097152 (by omega) he
  obtain ⟨k0, k1⟩ := Dv.mul_bd (x := i) (y := e) 16777216 2097152 (by omega) he
  have q := Dv.ediv_bd (p * e) 65536 (by omega) (16777216 * 2097152) m0 m1 (by omega)
  have q2 := Dv.ediv_bd (i * e) 65536 (by omega) (16777216 * 2097152) k0 k1 (by omega)
  have HC := Lib.hid (show Dv.clip (p * e / 65536 + s) lo hi = hi from by unfold Dv.clip; omega)
  have HB := Lib.hid hb
  go_enter Try.func76, Try.ntmps76
  go_wp2_with fail
  go_quiet ((go_at_call 69; exact quiet_left (div_c _ _ _ (by omega) (by omega) (by omega))))
  go_wp2_with fail
  refine (clip_c _ _ _ _).mono ?_
  rintro e1 w' ⟨rfl, rfl⟩
  rw [HC.out]
  have hne : (p * e / 65536 + s == hi) = false := by simp; omega
  go_wp2_with fail
  refine (clip_c _ _ _ _).mono ?_
  rintro e1 w' ⟨rfl, rfl⟩
  go_wp2
  go_ret
  exact ⟨rfl, stepW_one hb c0 c1 c2 f2 _ _ _⟩

set_option maxHeartbeats 1000000 in
theorem step_E (b : Nat) (p i s e lo hi : Int) (w : World) (hb : b < w.heap.size) (c0 : w.cell? ⟨b, 0, none⟩ = some (.int .i64 p)) (c1 : w.cell? ⟨b, 1, none⟩ = some (.int .i64 i)) (c2 : w.cell? ⟨b, 2, none⟩ = some (.int .i64 s)) (f2 : w.frozen? ⟨b, 2, none⟩ = false)
    (hp : 0 ≤ p ∧ p ≤ 16777216) (hi' : 0 ≤ i ∧ i ≤ 16777216) (hs : -1073741824 ≤ s ∧ s ≤ 1073741824) (he : -2097152 ≤ e ∧ e ≤ 2097152) (hlh : lo ≤ hi) (hr : p * e / 65536 + s < lo) (hsg : e < 0) :
    Calls Try.prog 76 #[.pointer (some ⟨b, 0, none⟩), .int .i64 e, .agg #[.int .i64 lo, .int .i64 hi]] w fun en w' => en = .returned (.int .i64 (lo)) ∧ StepW w b p i (Dv.regS i s e false) w' := by
  obtain ⟨m0, m1⟩ := Dv.mul_bd (x := p) (y := e) 16777216 2097152 (by omega) he
  obtain ⟨k0, k1⟩ := Dv.mul_bd (x := i) (y := e) 16777216 2097152 (by omega) he
  have q := Dv.ediv_bd (p * e) 65536 (by omega) (16777216 * 2097152) m0 m1 (by omega)
  have q2 := Dv.ediv_bd (i * e) 65536 (by omega) (16777216 * 2097152) k0 k1 (by omega)
  have HC := Lib.hid (show Dv.clip (p * e / 65536 + s) lo hi = lo from by unfold Dv.clip; omega)
  have HB := Lib.hid hb
  go_enter Try.func76, Try.ntmps76
  go_wp2_with fail
  go_quiet ((go_at_call 69; exact quiet_left (div_c _ _ _ (by omega) (by omega) (by omega))))
  go_wp2_with fail
  refine (clip_c _ _ _ _).mono ?_
  rintro e1 w' ⟨rfl, rfl⟩
  rw [HC.out]
  have hne : (p * e / 65536 + s == lo) = false := by simp; omega
  go_wp2_with fail
  refine (clip_c _ _ _ _).mono ?_
  rintro e1 w' ⟨rfl, rfl⟩
  go_wp2
  go_ret
  exact ⟨rfl, stepW_one hb c0 c1 c2 f2 _ _ _⟩

set_option maxHeartbeats 1000000 in
theorem step_F (b : Nat) (p i s e lo hi : Int) (w : World) (hb : b < w.heap.size) (c0 : w.cell? ⟨b, 0, none⟩ = some (.int .i64 p)) (c1 : w.cell? ⟨b, 1, none⟩ = some (.int .i64 i)) (c2 : w.cell? ⟨b, 2, none⟩ = some (.int .i64 s)) (f2 : w.frozen? ⟨b, 2, none⟩ = false)
    (hp : 0 ≤ p ∧ p ≤ 16777216) (hi' : 0 ≤ i ∧ i ≤ 16777216) (hs : -1073741824 ≤ s ∧ s ≤ 1073741824) (he : -2097152 ≤ e ∧ e ≤ 2097152) (hlh : lo ≤ hi) (hr : p * e / 65536 + s < lo) (hsg : 0 ≤ e) (hne0 : (e != 0) = false) :
    Calls Try.prog 76 #[.pointer (some ⟨b, 0, none⟩), .int .i64 e, .agg #[.int .i64 lo, .int .i64 hi]] w fun en w' => en = .returned (.int .i64 (lo)) ∧ StepW w b p i (Dv.regS i s e false) w' := by
  obtain ⟨m0, m1⟩ := Dv.mul_bd (x := p) (y := e) 16777216 2097152 (by omega) he
  obtain ⟨k0, k1⟩ := Dv.mul_bd (x := i) (y := e) 16777216 2097152 (by omega) he
  have q := Dv.ediv_bd (p * e) 65536 (by omega) (16777216 * 2097152) m0 m1 (by omega)
  have q2 := Dv.ediv_bd (i * e) 65536 (by omega) (16777216 * 2097152) k0 k1 (by omega)
  have HC := Lib.hid (show Dv.clip (p * e / 65536 + s) lo hi = lo from by unfold Dv.clip; omega)
  have HB := Lib.hid hb
  go_enter Try.func76, Try.ntmps76
  go_wp2_with fail
  go_quiet ((go_at_call 69; exact quiet_left (div_c _ _ _ (by omega) (by omega) (by omega))))
  go_wp2_with fail
  refine (clip_c _ _ _ _).mono ?_
  rintro e1 w' ⟨rfl, rfl⟩
  rw [HC.out]
  have hne : (p * e / 65536 + s == lo) = false := by simp; omega
  go_wp2_with fail
  refine (clip_c _ _ _ _).mono ?_
  rintro e1 w' ⟨rfl, rfl⟩
  go_wp2
  go_ret
  exact ⟨rfl, stepW_one hb c0 c1 c2 f2 _ _ _⟩

theorem step_c (b : Nat) (p i s e lo hi : Int) (w : World) (hb : b < w.heap.size) (c0 : w.cell? ⟨b, 0, none⟩ = some (.int .i64 p)) (c1 : w.cell? ⟨b, 1, none⟩ = some (.int .i64 i)) (c2 : w.cell? ⟨b, 2, none⟩ = some (.int .i64 s)) (f2 : w.frozen? ⟨b, 2, none⟩ = false)
    (hp : 0 ≤ p ∧ p ≤ 16777216) (hi' : 0 ≤ i ∧ i ≤ 16777216) (hs : -1073741824 ≤ s ∧ s ≤ 1073741824) (he : -2097152 ≤ e ∧ e ≤ 2097152) (hlh : lo ≤ hi) :
    Calls Try.prog 76 #[.pointer (some ⟨b, 0, none⟩), .int .i64 e, .agg #[.int .i64 lo, .int .i64 hi]] w fun en w' => en = .returned (.int .i64 (Dv.clip (Dv.raw p s e) lo hi)) ∧ StepW w b p i (Dv.regS i s e (Dv.regC (Dv.raw p s e) e lo hi)) w' := by
  have hraw : Dv.raw p s e = p * e / 65536 + s := rfl
  rw [hraw]
  have fin : ∀ (v : Int) (c : Bool), Dv.clip (p * e / 65536 + s) lo hi = v → Dv.regC (p * e / 65536 + s) e lo hi = c →
      Calls Try.prog 76 #[.pointer (some ⟨b, 0, none⟩), .int .i64 e, .agg #[.int .i64 lo, .int .i64 hi]] w (fun en w' => en = .returned (.int .i64 v) ∧ StepW w b p i (Dv.regS i s e c) w') →
      Calls Try.prog 76 #[.pointer (some ⟨b, 0, none⟩), .int .i64 e, .agg #[.int .i64 lo, .int .i64 hi]] w fun en w' => en = .returned (.int .i64 (Dv.clip (p * e / 65536 + s) lo hi)) ∧ StepW w b p i (Dv.regS i s e (Dv.regC (p * e / 65536 + s) e lo hi)) w' := by
    intro v c h1 h2 h
    rw [h1, h2]
    exact h
  by_cases h1 : p * e / 65536 + s < lo
  · by_cases h2 : 0 < e
    · exact fin lo true (by unfold Dv.clip; omega) (by simp [Dv.regC]; omega) (step_C b p i s e lo hi w hb c0 c1 c2 f2 hp hi' hs he hlh h1 h2)
    · by_cases h3 : e < 0
      · exact fin lo false (by unfold Dv.clip; omega) (by simp [Dv.regC]; omega) (step_E b p i s e lo hi w hb c0 c1 c2 f2 hp hi' hs he hlh h1 h3)
      · exact fin lo false (by unfold Dv.clip; omega) (by simp [Dv.regC]; omega) (step_F b p i s e lo hi w hb c0 c1 c2 f2 hp hi' hs he hlh h1 (by omega) (by simp; omega))
  · by_cases h4 : hi < p * e / 65536 + s
    · by_cases h2 : e < 0
      · exact fin hi true (by unfold Dv.clip; omega) (by simp [Dv.regC]; omega) (step_B b p i s e lo hi w hb c0 c1 c2 f2 hp hi' hs he hlh h4 h2)
      · exact fin hi false (by unfold Dv.clip; omega) (by simp [Dv.regC]; omega) (step_D b p i s e lo hi w hb c0 c1 c2 f2 hp hi' hs he hlh h4 (by omega))
    · exact fin _ true (by unfold Dv.clip; omega) (by simp [Dv.regC]; omega) (step_A b p i s e lo hi w hb c0 c1 c2 f2 hp hi' hs he hlh (by omega))
end Go.Proofs.Ytcneohhfnnelgaa
namespace Go.Proofs.Ytcneohhfnnelgaa
open Go.RowKit
set_option linter.unusedVariables false

namespace Dv
def inB (x lo hi : Int) : Bool := decide (lo ≤ x ∧ x ≤ hi)
def rgA (p i lo hi : Int) : Bool := tunB p i && spanB lo hi
def rgB (s e : Int) : Bool := upB 1073741824 [s] && upB 2097152 [e]
def rgV (p i s e lo hi : Int) : Int := if rgA p i lo hi = true then (if rgB s e = true then clip (raw p s e) lo hi else 0) else 0
def rgN (p i s e lo hi : Int) : Int := if rgA p i lo hi = true then (if rgB s e = true then regS i s e (regC (raw p s e) e lo hi) else 0) else 0
def rgE (p i s e lo hi : Int) : Int := if rgA p i lo hi = true then (if rgB s e = true then 0 else 3) else 2
end Dv

set_option maxHeartbeats 1000000 in
theorem Regulate_ok (p i s e lo hi : Int) (w : World) (ht : Dv.tunB p i = true) (hsp : Dv.spanB lo hi = true) (h1 : upB 1073741824 [s] = true) (h2 : upB 2097152 [e] = true) :
    Calls Try.prog 23 #[.agg #[.int .i64 p, .int .i64 i], .int .i64 s, .int .i64 e, .agg #[.int .i64 lo, .int .i64 hi]] w fun en w' => en = .returned (.tuple #[.int .i64 (Dv.clip (Dv.raw p s e) lo hi), .int .i64 (Dv.regS i s e (Dv.regC (Dv.raw p s e) e lo hi)), .int .i64 0]) ∧ Below w.heap.size w w' := by
  have ht' : 0 ≤ p ∧ p ≤ 16777216 ∧ 0 ≤ i ∧ i ≤ 16777216 := by simpa [Dv.tunB] using ht
  have hsp' : lo ≤ hi := by
    unfold Dv.spanB at hsp
    rw [Bool.and_eq_true] at hsp
    simpa using hsp.2
  have b1 := upB1.1 h1
  have b2 := upB1.1 h2
  go_enter Try.func23, Try.ntmps23
  go_wp2_with fail
  refine (tuned_c _ _ _).mono ?_
  rintro en w1 ⟨rfl, hb1⟩
  rw [ht]
  have a0 : w1.cell? ⟨w.heap.size, 0, none⟩ = some (.int .i64 p) := (hb1.cell (p := ⟨w.heap.size, 0, none⟩) (by simp; omega)).trans (by go_simp)
  have a1 : w1.cell? ⟨w.heap.size, 1, none⟩ = some (.int .i64 i) := (hb1.cell (p := ⟨w.heap.size, 1, none⟩) (by simp; omega)).trans (by go_simp)
  have a2 : w1.cell? ⟨w.heap.size + 1, 0, none⟩ = some (.int .i64 lo) := (hb1.cell (p := ⟨w.heap.size + 1, 0, none⟩) (by simp)).trans (by go_simp)
  have a3 : w1.cell? ⟨w.heap.size + 1, 1, none⟩ = some (.int .i64 hi) := (hb1.cell (p := ⟨w.heap.size + 1, 1, none⟩) (by simp)).trans (by go_simp)
  have hz1 : w.heap.size + 1 < w1.heap.size := by have := hb1.size; simp at this; omega
  have hz0 : w.heap.size < w1.heap.size := by omega
  have HB1 := Lib.hid (show Below w.heap.size w w1 from (((Below.refl _ _).alloc (Nat.le_refl _) _).alloc (by simp) _).trans (hb1.mono (by simp; omega)))
  clear hb1
  go_wp2_with fail
  refine (span_c _ _ _).mono ?_
  rintro en w2 ⟨rfl, hb2⟩
  rw [hsp]
  have c0 : w2.cell? ⟨w.heap.size, 0, none⟩ = some (.int .i64 p) := (hb2.cell (p := ⟨w.heap.size, 0, none⟩) (by simp; omega)).trans a0
  have c1 : w2.cell? ⟨w.heap.size, 1, none⟩ = some (.int .i64 i) := (hb2.cell (p := ⟨w.heap.size, 1, none⟩) (by simp; omega)).trans a1
  have c2 : w2.cell? ⟨w.heap.size + 1, 0, none⟩ = some (.int .i64 lo) := (hb2.cell (p := ⟨w.heap.size + 1, 0, none⟩) hz1).trans a2
  have c3 : w2.cell? ⟨w.heap.size + 1, 1, none⟩ = some (.int .i64 hi) := (hb2.cell (p := ⟨w.heap.size + 1, 1, none⟩) hz1).trans a3
  have hz2 : w.heap.size + 1 < w2.heap.size := by have := hb2.size; omega
  have hz3 : w.heap.size < w2.heap.size := by omega
  have HB2 := Lib.hid (show Below w.heap.size w w2 from HB1.out.trans (hb2.mono (by omega)))
  clear hb2 a0 a1 a2 a3 hz1
  go_wp2_with fail
  refine (up1 _ _ _ _ rfl (by omega) (by omega)).mono ?_
  rintro en w' ⟨rfl, rfl⟩
  rw [h1]
  go_wp2_with fail
  refine (up1 _ _ _ _ (by simp) (by omega) (by omega)).mono ?_
  rintro en w' ⟨rfl, rfl⟩
  rw [h2]
  go_wp2_with fail
  refine (step_c _ p i s e lo hi _ (by simp) (by go_simp) (by go_simp) (by go_simp) (by go_simp) ⟨ht'.1, ht'.2.1⟩ ht'.2.2 b1 b2 hsp').mono ?_
  rintro en w3 ⟨rfl, d0, d1, d2, df, hg⟩
  have HB3 := Lib.hid (show Below w.heap.size w w3 from by
    have hsz := hg.size
    simp at hsz
    have hx : Below w.heap.size w (((w2.alloc (.cells #[.int .i64 s] 2)).alloc (.cells #[.int .i64 e] 2)).alloc (.cells #[.int .i64 p, .int .i64 i, .int .i64 s] 97)) := ((HB2.out.alloc (by omega) _).alloc (by simp; omega) _).alloc (by simp; omega) _
    exact ⟨hg.os.trans hx.os, hg.tape.trans hx.tape, hg.output.trans hx.output, Nat.le_trans hx.size hg.size, fun k hk => (hg.block k (by simp; omega) (by simp; omega)).trans (hx.block k hk)⟩)
  clear hg c0 c1 c2 c3 d0 d1 df
  go_wp2_with fail
  go_quiet (fail)
  go_wp2_with fail
  go_ret3
  exact ⟨rfl, below_drewN HB3.out _⟩
end Go.Proofs.Ytcneohhfnnelgaa
namespace Go.Proofs.Ytcneohhfnnelgaa
open Go.RowKit
set_option linter.unusedVariables false

theorem below_cell {B : Nat} {w w1 : World} (hb : Below B w w1) {b o : Nat} {v : Option Value} (hlt : b < B) (h : w.cell? ⟨b, o, none⟩ = v) : w1.cell? ⟨b, o, none⟩ = v :=
  (hb.cell (p := ⟨b, o, none⟩) hlt).trans h

set_option maxHeartbeats 1000000 in
theorem Regulate_no1 (p i s e lo hi : Int) (w : World) (ht : Dv.tunB p i = false) :
    Calls Try.prog 23 #[.agg #[.int .i64 p, .int .i64 i], .int .i64 s, .int .i64 e, .agg #[.int .i64 lo, .int .i64 hi]] w fun en w' => en = .returned (.tuple #[.int .i64 0, .int .i64 0, .int .i64 2]) ∧ Below w.heap.size w w' := by
  go_enter Try.func23, Try.ntmps23
  go_wp2_with fail
  refine (tuned_c _ _ _).mono ?_
  rintro en w1 ⟨rfl, hb1⟩
  rw [ht]
  have a2 : w1.cell? ⟨w.heap.size + 1, 0, none⟩ = some (.int .i64 lo) := below_cell hb1 (by simp) (by go_simp)
  have a3 : w1.cell? ⟨w.heap.size + 1, 1, none⟩ = some (.int .i64 hi) := below_cell hb1 (by simp) (by go_simp)
  have hz1 : w.heap.size + 1 < w1.heap.size := by have := hb1.size; simp at this; omega
  have hz0 : w.heap.size < w1.heap.size := by omega
  have HB1 := Lib.hid (show Below w.heap.size w w1 from (((Below.refl _ _).alloc (Nat.le_refl _) _).alloc (by simp) _).trans (hb1.mono (by simp; omega)))
  clear hb1
  go_wp2
  go_ret3
  exact ⟨rfl, HB1.out⟩

set_option maxHeartbeats 1000000 in
theorem Regulate_no2 (p i s e lo hi : Int) (w : World) (ht : Dv.tunB p i = true) (hsp : Dv.spanB lo hi = false) :
    Calls Try.prog 23 #[.agg #[.int .i64 p, .int .i64 i], .int .i64 s, .int .i64 e, .agg #[.int .i64 lo, .int .i64 hi]] w fun en w' => en = .returned (.tuple #[.int .i64 0, .int .i64 0, .int .i64 2]) ∧ Below w.heap.size w w' := by
  go_enter Try.func23, Try.ntmps23
  go_wp2_with fail
  refine (tuned_c _ _ _).mono ?_
  rintro en w1 ⟨rfl, hb1⟩
  rw [ht]
  have a2 : w1.cell? ⟨w.heap.size + 1, 0, none⟩ = some (.int .i64 lo) := below_cell hb1 (by simp) (by go_simp)
  have a3 : w1.cell? ⟨w.heap.size + 1, 1, none⟩ = some (.int .i64 hi) := below_cell hb1 (by simp) (by go_simp)
  have hz1 : w.heap.size + 1 < w1.heap.size := by have := hb1.size; simp at this; omega
  have hz0 : w.heap.size < w1.heap.size := by omega
  have HB1 := Lib.hid (show Below w.heap.size w w1 from (((Below.refl _ _).alloc (Nat.le_refl _) _).alloc (by simp) _).trans (hb1.mono (by simp; omega)))
  clear hb1
  go_wp2_with fail
  refine (span_c _ _ _).mono ?_
  rintro en w2 ⟨rfl, hb2⟩
  rw [hsp]
  have hz2 : w.heap.size ≤ w2.heap.size := by have := hb2.size; omega
  have HB2 := Lib.hid (show Below w.heap.size w w2 from HB1.out.trans (hb2.mono (by omega)))
  clear hb2 a2 a3 hz1 hz0
  go_wp2
  go_ret3
  exact ⟨rfl, HB2.out⟩

set_option maxHeartbeats 1000000 in
theorem Regulate_no3 (p i s e lo hi : Int) (w : World) (ht : Dv.tunB p i = true) (hsp : Dv.spanB lo hi = true) (h1 : upB 1073741824 [s] = false) :
    Calls Try.prog 23 #[.agg #[.int .i64 p, .int .i64 i], .int .i64 s, .int .i64 e, .agg #[.int .i64 lo, .int .i64 hi]] w fun en w' => en = .returned (.tuple #[.int .i64 0, .int .i64 0, .int .i64 3]) ∧ Below w.heap.size w w' := by
  go_enter Try.func23, Try.ntmps23
  go_wp2_with fail
  refine (tuned_c _ _ _).mono ?_
  rintro en w1 ⟨rfl, hb1⟩
  rw [ht]
  have a2 : w1.cell? ⟨w.heap.size + 1, 0, none⟩ = some (.int .i64 lo) := below_cell hb1 (by simp) (by go_simp)
  have a3 : w1.cell? ⟨w.heap.size + 1, 1, none⟩ = some (.int .i64 hi) := below_cell hb1 (by simp) (by go_simp)
  have hz1 : w.heap.size + 1 < w1.heap.size := by have := hb1.size; simp at this; omega
  have hz0 : w.heap.size < w1.heap.size := by omega
  have HB1 := Lib.hid (show Below w.heap.size w w1 from (((Below.refl _ _).alloc (Nat.le_refl _) _).alloc (by simp) _).trans (hb1.mono (by simp; omega)))
  clear hb1
  go_wp2_with fail
  refine (span_c _ _ _).mono ?_
  rintro en w2 ⟨rfl, hb2⟩
  rw [hsp]
  have hz2 : w.heap.size ≤ w2.heap.size := by have := hb2.size; omega
  have HB2 := Lib.hid (show Below w.heap.size w w2 from HB1.out.trans (hb2.mono (by omega)))
  clear hb2 a2 a3 hz1 hz0
  go_wp2_with fail
  refine (up1 _ _ _ _ rfl (by omega) (by omega)).mono ?_
  rintro en w' ⟨rfl, rfl⟩
  rw [h1]
  go_wp2
  go_ret3
  exact ⟨rfl, HB2.out.alloc hz2 _⟩

set_option maxHeartbeats 1000000 in
theorem Regulate_no4 (p i s e lo hi : Int) (w : World) (ht : Dv.tunB p i = true) (hsp : Dv.spanB lo hi = true) (h1 : upB 1073741824 [s] = true) (h2 : upB 2097152 [e] = false) :
    Calls Try.prog 23 #[.agg #[.int .i64 p, .int .i64 i], .int .i64 s, .int .i64 e, .agg #[.int .i64 lo, .int .i64 hi]] w fun en w' => en = .returned (.tuple #[.int .i64 0, .int .i64 0, .int .i64 3]) ∧ Below w.heap.size w w' := by
  go_enter Try.func23, Try.ntmps23
  go_wp2_with fail
  refine (tuned_c _ _ _).mono ?_
  rintro en w1 ⟨rfl, hb1⟩
  rw [ht]
  have a2 : w1.cell? ⟨w.heap.size + 1, 0, none⟩ = some (.int .i64 lo) := below_cell hb1 (by simp) (by go_simp)
  have a3 : w1.cell? ⟨w.heap.size + 1, 1, none⟩ = some (.int .i64 hi) := below_cell hb1 (by simp) (by go_simp)
  have hz1 : w.heap.size + 1 < w1.heap.size := by have := hb1.size; simp at this; omega
  have hz0 : w.heap.size < w1.heap.size := by omega
  have HB1 := Lib.hid (show Below w.heap.size w w1 from (((Below.refl _ _).alloc (Nat.le_refl _) _).alloc (by simp) _).trans (hb1.mono (by simp; omega)))
  clear hb1
  go_wp2_with fail
  refine (span_c _ _ _).mono ?_
  rintro en w2 ⟨rfl, hb2⟩
  rw [hsp]
  have hz2 : w.heap.size ≤ w2.heap.size := by have := hb2.size; omega
  have HB2 := Lib.hid (show Below w.heap.size w w2 from HB1.out.trans (hb2.mono (by omega)))
  clear hb2 a2 a3 hz1 hz0
  go_wp2_with fail
  refine (up1 _ _ _ _ rfl (by omega) (by omega)).mono ?_
  rintro en w' ⟨rfl, rfl⟩
  rw [h1]
  go_wp2_with fail
  refine (up1 _ _ _ _ (by simp) (by omega) (by omega)).mono ?_
  rintro en w' ⟨rfl, rfl⟩
  rw [h2]
  go_wp2
  go_ret3
  exact ⟨rfl, (HB2.out.alloc hz2 _).alloc (by simp; omega) _⟩

theorem Regulate_c (p i s e lo hi : Int) (w : World) :
    Calls Try.prog 23 #[.agg #[.int .i64 p, .int .i64 i], .int .i64 s, .int .i64 e, .agg #[.int .i64 lo, .int .i64 hi]] w fun en w' => en = .returned (.tuple #[.int .i64 (Dv.rgV p i s e lo hi), .int .i64 (Dv.rgN p i s e lo hi), .int .i64 (Dv.rgE p i s e lo hi)]) ∧ Below w.heap.size w w' := by
  have fin : ∀ {x y z : Int}, Dv.rgV p i s e lo hi = x → Dv.rgN p i s e lo hi = y → Dv.rgE p i s e lo hi = z →
      Calls Try.prog 23 #[.agg #[.int .i64 p, .int .i64 i], .int .i64 s, .int .i64 e, .agg #[.int .i64 lo, .int .i64 hi]] w (fun en w' => en = .returned (.tuple #[.int .i64 x, .int .i64 y, .int .i64 z]) ∧ Below w.heap.size w w') →
      Calls Try.prog 23 #[.agg #[.int .i64 p, .int .i64 i], .int .i64 s, .int .i64 e, .agg #[.int .i64 lo, .int .i64 hi]] w fun en w' => en = .returned (.tuple #[.int .i64 (Dv.rgV p i s e lo hi), .int .i64 (Dv.rgN p i s e lo hi), .int .i64 (Dv.rgE p i s e lo hi)]) ∧ Below w.heap.size w w' := by
    intro x y z hx hy hz h
    rw [hx, hy, hz]
    exact h
  cases ht : Dv.tunB p i
  · exact fin (by simp [Dv.rgV, Dv.rgA, ht]) (by simp [Dv.rgN, Dv.rgA, ht]) (by simp [Dv.rgE, Dv.rgA, ht]) (Regulate_no1 p i s e lo hi w ht)
  · cases hsp : Dv.spanB lo hi
    · exact fin (by simp [Dv.rgV, Dv.rgA, hsp]) (by simp [Dv.rgN, Dv.rgA, hsp]) (by simp [Dv.rgE, Dv.rgA, hsp]) (Regulate_no2 p i s e lo hi w ht hsp)
    · cases h1 : upB 1073741824 [s]
      · exact fin (by simp [Dv.rgV, Dv.rgB, h1]) (by simp [Dv.rgN, Dv.rgB, h1]) (by simp [Dv.rgE, Dv.rgA, Dv.rgB, ht, hsp, h1]) (Regulate_no3 p i s e lo hi w ht hsp h1)
      · cases h2 : upB 2097152 [e]
        · exact fin (by simp [Dv.rgV, Dv.rgB, h2]) (by simp [Dv.rgN, Dv.rgB, h2]) (by simp [Dv.rgE, Dv.rgA, Dv.rgB, ht, hsp, h2]) (Regulate_no4 p i s e lo hi w ht hsp h1 h2)
        · exact fin (by simp [Dv.rgV, Dv.rgA, Dv.rgB, ht, hsp, h1, h2]) (by simp [Dv.rgN, Dv.rgA, Dv.rgB, ht, hsp, h1, h2]) (by simp [Dv.rgE, Dv.rgA, Dv.rgB, ht, hsp, h1, h2]) (Regulate_ok p i s e lo hi w ht hsp h1 h2)

set_option maxHeartbeats 400000 in
theorem within_c (x lo hi : Int) (w : World) : Calls Try.prog 80 #[.int .i64 x, .int .i64 lo, .int .i64 hi] w fun e w' => e = .returned (.bool (Dv.inB x lo hi)) ∧ w = w' := by
  by_cases h1 : lo ≤ x
  · by_cases h2 : x ≤ hi
    all_goals
      go_enter Try.func80, Try.ntmps80
      go_wp2
      go_ret
      exact ⟨ret_bool (by rw [Bool.eq_iff_iff]; simp [Dv.inB]; omega), rfl⟩
  · go_enter Try.func80, Try.ntmps80
    go_wp2
    go_ret
    exact ⟨ret_bool (by rw [Bool.eq_iff_iff]; simp [Dv.inB]; omega), rfl⟩
theorem volt_c (x : Int) (w : World) : Calls Try.prog 79 #[.int .i64 x] w fun e w' => e = .returned (.bool (upB 1073741824 [x])) ∧ w = w' := by
  go_enter Try.func79, Try.ntmps79
  go_wp2_with (go_at_call 80; refine (within_c _ _ _ _).mono ?_; rintro e w' ⟨rfl, rfl⟩)
  go_ret
  exact ⟨ret_bool (by rw [Bool.eq_iff_iff, upB1]; simp [Dv.inB]), rfl⟩
theorem quantity_c (x : Int) (w : World) : Calls Try.prog 78 #[.int .i64 x] w fun e w' => e = .returned (.bool (upB 1099511627776 [x])) ∧ w = w' := by
  go_enter Try.func78, Try.ntmps78
  go_wp2_with (go_at_call 80; refine (within_c _ _ _ _).mono ?_; rintro e w' ⟨rfl, rfl⟩)
  go_ret
  exact ⟨ret_bool (by rw [Bool.eq_iff_iff, upB1]; simp [Dv.inB]), rfl⟩
end Go.Proofs.Ytcneohhfnnelgaa
namespace Go.Proofs.Ytcneohhfnnelgaa
open Go.RowKit
set_option linter.unusedVariables false

theorem inB_true {x lo hi : Int} (h1 : lo ≤ x) (h2 : x ≤ hi) : Dv.inB x lo hi = true := by simp [Dv.inB, h1, h2]
theorem inB_false {x lo hi : Int} (h : ¬ (lo ≤ x ∧ x ≤ hi)) : Dv.inB x lo hi = false := by simp only [Dv.inB, decide_eq_false_iff_not]; exact h

set_option maxHeartbeats 400000 in
theorem gains_c (p i : Int) (w : World) : Calls Try.prog 77 #[.agg #[.int .i64 p, .int .i64 i]] w fun e w' => e = .returned (.bool (Dv.tunB p i)) ∧ Below w.heap.size w w' := by
  cases h1 : Dv.inB p 0 16777216
  · go_enter Try.func77, Try.ntmps77
    go_wp2_with (go_at_call 80; refine (within_c _ _ _ _).mono ?_; rintro e w' ⟨rfl, rfl⟩)
    go_ret
    exact ⟨ret_bool (by
      have : ¬ (0 ≤ p ∧ p ≤ 16777216) := by simpa [Dv.inB] using h1
      rw [Bool.eq_iff_iff]; simp [Dv.tunB]; omega), ((Below.refl _ _).alloc (Nat.le_refl _) _)⟩
  · go_enter Try.func77, Try.ntmps77
    go_wp2_with (go_at_call 80; refine (within_c _ _ _ _).mono ?_; rintro e w' ⟨rfl, rfl⟩)
    go_ret
    exact ⟨ret_bool (by
      have : (0 ≤ p ∧ p ≤ 16777216) := by simpa [Dv.inB] using h1
      rw [Bool.eq_iff_iff]; simp [Dv.tunB, Dv.inB]; omega), ((Below.refl _ _).alloc (Nat.le_refl _) _)⟩

set_option maxHeartbeats 1000000 in
theorem regulate_A (p i s e lo hi : Int) (w : World)
    (hp : 0 ≤ p ∧ p ≤ 16777216) (hi' : 0 ≤ i ∧ i ≤ 16777216) (hs : -1073741824 ≤ s ∧ s ≤ 1073741824) (he : -2097152 ≤ e ∧ e ≤ 2097152) (hlh : lo ≤ hi) (hr : lo ≤ p * e / 65536 + s ∧ p * e / 65536 + s ≤ hi) (hin : Dv.inB (p * e / 65536 + s) lo hi = true)  :
    Calls Try.prog 81 #[.agg #[.int .i64 p, .int .i64 i], .int .i64 s, .int .i64 e, .agg #[.int .i64 lo, .int .i64 hi]] w fun en w' => en = .returned (.tuple #[.int .i64 (Dv.clip (Dv.raw p s e) lo hi), .int .i64 (Dv.regS i s e true)]) ∧ Below w.heap.size w w' := by
  obtain ⟨m0, m1⟩ := Dv.mul_bd (x := p) (y := e) 16777216 2097152 (by omega) he
  obtain ⟨k0, k1⟩ := Dv.mul_bd (x := i) (y := e) 16777216 2097152 (by omega) he
  have q := Dv.ediv_bd (p * e) 65536 (by omega) (16777216 * 2097152) m0 m1 (by omega)
  have q2 := Dv.ediv_bd (i * e) 65536 (by omega) (16777216 * 2097152) k0 k1 (by omega)
  go_enter Try.func81, Try.ntmps81
  go_wp2_with (first | (go_at_call 80; refine (within_c _ _ _ _).mono ?_; rintro e w' ⟨rfl, rfl⟩) | (go_at_call 85; refine (floor_c _ _ _ (by omega) (by omega) (by omega)).mono ?_; rintro e w' ⟨rfl, rfl⟩) | (go_at_call 88; refine (into_c _ _ _ _).mono ?_; rintro e w' ⟨rfl, rfl⟩))
  go_ret2
  exact ⟨rfl, ((Below.refl _ _).alloc (Nat.le_refl _) _).alloc (by simp) _⟩

set_option maxHeartbeats 1000000 in
theorem regulate_B (p i s e lo hi : Int) (w : World)
    (hp : 0 ≤ p ∧ p ≤ 16777216) (hi' : 0 ≤ i ∧ i ≤ 16777216) (hs : -1073741824 ≤ s ∧ s ≤ 1073741824) (he : -2097152 ≤ e ∧ e ≤ 2097152) (hlh : lo ≤ hi) (hr : hi < p * e / 65536 + s) (hin : Dv.inB (p * e / 65536 + s) lo hi = false) (hsg : e < 0) :
    Calls Try.prog 81 #[.agg #[.int .i64 p, .int .i64 i], .int .i64 s, .int .i64 e, .agg #[.int .i64 lo, .int .i64 hi]] w fun en w' => en = .returned (.tuple #[.int .i64 (Dv.clip (Dv.raw p s e) lo hi), .int .i64 (Dv.regS i s e true)]) ∧ Below w.heap.size w w' := by
  obtain ⟨m0, m1⟩ := Dv.mul_bd (x := p) (y := e) 16777216 2097152 (by omega) he
  obtain ⟨k0, k1⟩ := Dv.mul_bd (x := i) (y := e) 16777216 2097152 (by omega) he
  have q := Dv.ediv_bd (p * e) 65536 (by omega) (16777216 * 2097152) m0 m1 (by omega)
  have q2 := Dv.ediv_bd (i * e) 65536 (by omega) (16777216 * 2097152) k0 k1 (by omega)
  go_enter Try.func81, Try.ntmps81
  go_wp2_with (first | (go_at_call 80; refine (within_c _ _ _ _).mono ?_; rintro e w' ⟨rfl, rfl⟩) | (go_at_call 85; refine (floor_c _ _ _ (by omega) (by omega) (by omega)).mono ?_; rintro e w' ⟨rfl, rfl⟩) | (go_at_call 88; refine (into_c _ _ _ _).mono ?_; rintro e w' ⟨rfl, rfl⟩))
  go_ret2
  exact ⟨rfl, ((Below.refl _ _).alloc (Nat.le_refl _) _).alloc (by simp) _⟩

set_option maxHeartbeats 1000000 in
theorem regulate_C (p i s e lo hi : Int) (w : World)
    (hp : 0 ≤ p ∧ p ≤ 16777216) (hi' : 0 ≤ i ∧ i ≤ 16777216) (hs : -1073741824 ≤ s ∧ s ≤ 1073741824) (he : -2097152 ≤ e ∧ e ≤ 2097152) (hlh : lo ≤ hi) (hr : p * e / 65536 + s < lo) (hin : Dv.inB (p * e / 65536 + s) lo hi = false) (hsg : 0 < e) :
    Calls Try.prog 81 #[.agg #[.int .i64 p, .int .i64 i], .int .i64 s, .int .i64 e, .agg #[.int .i64 lo, .int .i64 hi]] w fun en w' => en = .returned (.tuple #[.int .i64 (Dv.clip (Dv.raw p s e) lo hi), .int .i64 (Dv.regS i s e true)]) ∧ Below w.heap.size w w' := by
  obtain ⟨m0, m1⟩ := Dv.mul_bd (x := p) (y := e) 16777216 2097152 (by omega) he
  obtain ⟨k0, k1⟩ := Dv.mul_bd (x := i) (y := e) 16777216 2097152 (by omega) he
  have q := Dv.ediv_bd (p * e) 65536 (by omega) (16777216 * 2097152) m0 m1 (by omega)
  have q2 := Dv.ediv_bd (i * e) 65536 (by omega) (16777216 * 2097152) k0 k1 (by omega)
  go_enter Try.func81, Try.ntmps81
  go_wp2_with (first | (go_at_call 80; refine (within_c _ _ _ _).mono ?_; rintro e w' ⟨rfl, rfl⟩) | (go_at_call 85; refine (floor_c _ _ _ (by omega) (by omega) (by omega)).mono ?_; rintro e w' ⟨rfl, rfl⟩) | (go_at_call 88; refine (into_c _ _ _ _).mono ?_; rintro e w' ⟨rfl, rfl⟩))
  go_ret2
  exact ⟨rfl, ((Below.refl _ _).alloc (Nat.le_refl _) _).alloc (by simp) _⟩

set_option maxHeartbeats 1000000 in
theorem regulate_D (p i s e lo hi : Int) (w : World)
    (hp : 0 ≤ p ∧ p ≤ 16777216) (hi' : 0 ≤ i ∧ i ≤ 16777216) (hs : -1073741824 ≤ s ∧ s ≤ 1073741824) (he : -2097152 ≤ e ∧ e ≤ 2097152) (hlh : lo ≤ hi) (hr : hi < p * e / 65536 + s) (hin : Dv.inB (p * e / 65536 + s) lo hi = false) (hsg : 0 ≤ e) :
    Calls Try.prog 81 #[.agg #[.int .i64 p, .int .i64 i], .int .i64 s, .int .i64 e, .agg #[.int .i64 lo, .int .i64 hi]] w fun en w' => en = .returned (.tuple #[.int .i64 (Dv.clip (Dv.raw p s e) lo hi), .int .i64 (Dv.regS i s e false)]) ∧ Below w.heap.size w w' := by
  obtain ⟨m0, m1⟩ := Dv.mul_bd (x := p) (y := e) 16777216 2097152 (by omega) he
  obtain ⟨k0, k1⟩ := Dv.mul_bd (x := i) (y := e) 16777216 2097152 (by omega) he
  have q := Dv.ediv_bd (p * e) 65536 (by omega) (16777216 * 2097152) m0 m1 (by omega)
  have q2 := Dv.ediv_bd (i * e) 65536 (by omega) (16777216 * 2097152) k0 k1 (by omega)
  go_enter Try.func81, Try.ntmps81
  go_wp2_with (first | (go_at_call 80; refine (within_c _ _ _ _).mono ?_; rintro e w' ⟨rfl, rfl⟩) | (go_at_call 85; refine (floor_c _ _ _ (by omega) (by omega) (by omega)).mono ?_; rintro e w' ⟨rfl, rfl⟩) | (go_at_call 88; refine (into_c _ _ _ _).mono ?_; rintro e w' ⟨rfl, rfl⟩))
  go_ret2
  exact ⟨rfl, ((Below.refl _ _).alloc (Nat.le_refl _) _).alloc (by simp) _⟩

set_option maxHeartbeats 1000000 in
theorem regulate_E (p i s e lo hi : Int) (w : World)
    (hp : 0 ≤ p ∧ p ≤ 16777216) (hi' : 0 ≤ i ∧ i ≤ 16777216) (hs : -1073741824 ≤ s ∧ s ≤ 1073741824) (he : -2097152 ≤ e ∧ e ≤ 2097152) (hlh : lo ≤ hi) (hr : p * e / 65536 + s < lo) (hin : Dv.inB (p * e / 65536 + s) lo hi = false) (hsg : e ≤ 0) :
    Calls Try.prog 81 #[.agg #[.int .i64 p, .int .i64 i], .int .i64 s, .int .i64 e, .agg #[.int .i64 lo, .int .i64 hi]] w fun en w' => en = .returned (.tuple #[.int .i64 (Dv.clip (Dv.raw p s e) lo hi), .int .i64 (Dv.regS i s e false)]) ∧ Below w.heap.size w w' := by
  obtain ⟨m0, m1⟩ := Dv.mul_bd (x := p) (y := e) 16777216 2097152 (by omega) he
  obtain ⟨k0, k1⟩ := Dv.mul_bd (x := i) (y := e) 16777216 2097152 (by omega) he
  have q := Dv.ediv_bd (p * e) 65536 (by omega) (16777216 * 2097152) m0 m1 (by omega)
  have q2 := Dv.ediv_bd (i * e) 65536 (by omega) (16777216 * 2097152) k0 k1 (by omega)
  go_enter Try.func81, Try.ntmps81
  go_wp2_with (first | (go_at_call 80; refine (within_c _ _ _ _).mono ?_; rintro e w' ⟨rfl, rfl⟩) | (go_at_call 85; refine (floor_c _ _ _ (by omega) (by omega) (by omega)).mono ?_; rintro e w' ⟨rfl, rfl⟩) | (go_at_call 88; refine (into_c _ _ _ _).mono ?_; rintro e w' ⟨rfl, rfl⟩))
  go_ret2
  exact ⟨rfl, ((Below.refl _ _).alloc (Nat.le_refl _) _).alloc (by simp) _⟩

theorem regulate_c (p i s e lo hi : Int) (w : World)
    (hp : 0 ≤ p ∧ p ≤ 16777216) (hi' : 0 ≤ i ∧ i ≤ 16777216) (hs : -1073741824 ≤ s ∧ s ≤ 1073741824) (he : -2097152 ≤ e ∧ e ≤ 2097152) (hlh : lo ≤ hi) :
    Calls Try.prog 81 #[.agg #[.int .i64 p, .int .i64 i], .int .i64 s, .int .i64 e, .agg #[.int .i64 lo, .int .i64 hi]] w fun en w' => en = .returned (.tuple #[.int .i64 (Dv.clip (Dv.raw p s e) lo hi), .int .i64 (Dv.regS i s e (Dv.regC (Dv.raw p s e) e lo hi))]) ∧ Below w.heap.size w w' := by
  have hraw : Dv.raw p s e = p * e / 65536 + s := rfl
  have fin : ∀ (c : Bool), Dv.regC (Dv.raw p s e) e lo hi = c →
      Calls Try.prog 81 #[.agg #[.int .i64 p, .int .i64 i], .int .i64 s, .int .i64 e, .agg #[.int .i64 lo, .int .i64 hi]] w (fun en w' => en = .returned (.tuple #[.int .i64 (Dv.clip (Dv.raw p s e) lo hi), .int .i64 (Dv.regS i s e c)]) ∧ Below w.heap.size w w') →
      Calls Try.prog 81 #[.agg #[.int .i64 p, .int .i64 i], .int .i64 s, .int .i64 e, .agg #[.int .i64 lo, .int .i64 hi]] w fun en w' => en = .returned (.tuple #[.int .i64 (Dv.clip (Dv.raw p s e) lo hi), .int .i64 (Dv.regS i s e (Dv.regC (Dv.raw p s e) e lo hi))]) ∧ Below w.heap.size w w' := by
    intro c h2 h
    rw [h2]
    exact h
  by_cases h1 : p * e / 65536 + s < lo
  · have hin : Dv.inB (p * e / 65536 + s) lo hi = false := inB_false (by omega)
    by_cases h2 : 0 < e
    · exact fin true (by rw [hraw]; simp [Dv.regC]; omega) (regulate_C p i s e lo hi w hp hi' hs he hlh h1 hin h2)
    · exact fin false (by rw [hraw]; simp [Dv.regC]; omega) (regulate_E p i s e lo hi w hp hi' hs he hlh h1 hin (by omega))
  · by_cases h4 : hi < p * e / 65536 + s
    · have hin : Dv.inB (p * e / 65536 + s) lo hi = false := inB_false (by omega)
      by_cases h2 : e < 0
      · exact fin true (by rw [hraw]; simp [Dv.regC]; omega) (regulate_B p i s e lo hi w hp hi' hs he hlh h4 hin h2)
      · exact fin false (by rw [hraw]; simp [Dv.regC]; omega) (regulate_D p i s e lo hi w hp hi' hs he hlh h4 hin (by omega))
    · have hin : Dv.inB (p * e / 65536 + s) lo hi = true := inB_true (by omega) (by omega)
      exact fin true (by rw [hraw]; simp [Dv.regC]; omega) (regulate_A p i s e lo hi w hp hi' hs he hlh (by omega) hin)

set_option maxHeartbeats 1000000 in
theorem RegulateR_no1 (p i s e lo hi : Int) (w : World) (ht : Dv.tunB p i = false) :
    Calls Try.prog 24 #[.agg #[.int .i64 p, .int .i64 i], .int .i64 s, .int .i64 e, .agg #[.int .i64 lo, .int .i64 hi]] w fun en w' => en = .returned (.tuple #[.int .i64 0, .int .i64 0, .int .i64 2]) ∧ Below w.heap.size w w' := by
  go_enter Try.func24, Try.ntmps24
  go_wp2_with fail
  refine (gains_c _ _ _).mono ?_
  rintro en w1 ⟨rfl, hb1⟩
  rw [ht]
  have a2 : w1.cell? ⟨w.heap.size + 1, 0, none⟩ = some (.int .i64 lo) := below_cell hb1 (by simp) (by go_simp)
  have a3 : w1.cell? ⟨w.heap.size + 1, 1, none⟩ = some (.int .i64 hi) := below_cell hb1 (by simp) (by go_simp)
  have HB1 := Lib.hid (show Below w.heap.size w w1 from (((Below.refl _ _).alloc (Nat.le_refl _) _).alloc (by simp) _).trans (hb1.mono (by simp; omega)))
  clear hb1
  go_wp2_with (first | (go_at_call 78; refine (quantity_c _ _).mono ?_; rintro e w' ⟨rfl, rfl⟩) | (go_at_call 79; refine (volt_c _ _).mono ?_; rintro e w' ⟨rfl, rfl⟩) | (go_at_call 80; refine (within_c _ _ _ _).mono ?_; rintro e w' ⟨rfl, rfl⟩))
  go_ret3
  exact ⟨rfl, HB1.out⟩

set_option maxHeartbeats 1000000 in
theorem RegulateR_no2 (p i s e lo hi : Int) (w : World) (ht : Dv.tunB p i = true) (h0 : upB 1099511627776 [lo] = false) :
    Calls Try.prog 24 #[.agg #[.int .i64 p, .int .i64 i], .int .i64 s, .int .i64 e, .agg #[.int .i64 lo, .int .i64 hi]] w fun en w' => en = .returned (.tuple #[.int .i64 0, .int .i64 0, .int .i64 2]) ∧ Below w.heap.size w w' := by
  go_enter Try.func24, Try.ntmps24
  go_wp2_with fail
  refine (gains_c _ _ _).mono ?_
  rintro en w1 ⟨rfl, hb1⟩
  rw [ht]
  have a2 : w1.cell? ⟨w.heap.size + 1, 0, none⟩ = some (.int .i64 lo) := below_cell hb1 (by simp) (by go_simp)
  have a3 : w1.cell? ⟨w.heap.size + 1, 1, none⟩ = some (.int .i64 hi) := below_cell hb1 (by simp) (by go_simp)
  have HB1 := Lib.hid (show Below w.heap.size w w1 from (((Below.refl _ _).alloc (Nat.le_refl _) _).alloc (by simp) _).trans (hb1.mono (by simp; omega)))
  clear hb1
  go_wp2_with (first | (go_at_call 78; refine (quantity_c _ _).mono ?_; rintro e w' ⟨rfl, rfl⟩) | (go_at_call 79; refine (volt_c _ _).mono ?_; rintro e w' ⟨rfl, rfl⟩) | (go_at_call 80; refine (within_c _ _ _ _).mono ?_; rintro e w' ⟨rfl, rfl⟩))
  go_ret3
  exact ⟨rfl, HB1.out⟩

set_option maxHeartbeats 1000000 in
theorem RegulateR_no3 (p i s e lo hi : Int) (w : World) (ht : Dv.tunB p i = true) (h0 : upB 1099511627776 [lo] = true) (h1 : upB 1099511627776 [hi] = false) :
    Calls Try.prog 24 #[.agg #[.int .i64 p, .int .i64 i], .int .i64 s, .int .i64 e, .agg #[.int .i64 lo, .int .i64 hi]] w fun en w' => en = .returned (.tuple #[.int .i64 0, .int .i64 0, .int .i64 2]) ∧ Below w.heap.size w w' := by
  go_enter Try.func24, Try.ntmps24
  go_wp2_with fail
  refine (gains_c _ _ _).mono ?_
  rintro en w1 ⟨rfl, hb1⟩
  rw [ht]
  have a2 : w1.cell? ⟨w.heap.size + 1, 0, none⟩ = some (.int .i64 lo) := below_cell hb1 (by simp) (by go_simp)
  have a3 : w1.cell? ⟨w.heap.size + 1, 1, none⟩ = some (.int .i64 hi) := below_cell hb1 (by simp) (by go_simp)
  have HB1 := Lib.hid (show Below w.heap.size w w1 from (((Below.refl _ _).alloc (Nat.le_refl _) _).alloc (by simp) _).trans (hb1.mono (by simp; omega)))
  clear hb1
  go_wp2_with (first | (go_at_call 78; refine (quantity_c _ _).mono ?_; rintro e w' ⟨rfl, rfl⟩) | (go_at_call 79; refine (volt_c _ _).mono ?_; rintro e w' ⟨rfl, rfl⟩) | (go_at_call 80; refine (within_c _ _ _ _).mono ?_; rintro e w' ⟨rfl, rfl⟩))
  go_ret3
  exact ⟨rfl, HB1.out⟩

set_option maxHeartbeats 1000000 in
theorem RegulateR_no4 (p i s e lo hi : Int) (w : World) (ht : Dv.tunB p i = true) (h0 : upB 1099511627776 [lo] = true) (h1 : upB 1099511627776 [hi] = true) (h2 : hi < lo) :
    Calls Try.prog 24 #[.agg #[.int .i64 p, .int .i64 i], .int .i64 s, .int .i64 e, .agg #[.int .i64 lo, .int .i64 hi]] w fun en w' => en = .returned (.tuple #[.int .i64 0, .int .i64 0, .int .i64 2]) ∧ Below w.heap.size w w' := by
  go_enter Try.func24, Try.ntmps24
  go_wp2_with fail
  refine (gains_c _ _ _).mono ?_
  rintro en w1 ⟨rfl, hb1⟩
  rw [ht]
  have a2 : w1.cell? ⟨w.heap.size + 1, 0, none⟩ = some (.int .i64 lo) := below_cell hb1 (by simp) (by go_simp)
  have a3 : w1.cell? ⟨w.heap.size + 1, 1, none⟩ = some (.int .i64 hi) := below_cell hb1 (by simp) (by go_simp)
  have HB1 := Lib.hid (show Below w.heap.size w w1 from (((Below.refl _ _).alloc (Nat.le_refl _) _).alloc (by simp) _).trans (hb1.mono (by simp; omega)))
  clear hb1
  go_wp2_with (first | (go_at_call 78; refine (quantity_c _ _).mono ?_; rintro e w' ⟨rfl, rfl⟩) | (go_at_call 79; refine (volt_c _ _).mono ?_; rintro e w' ⟨rfl, rfl⟩) | (go_at_call 80; refine (within_c _ _ _ _).mono ?_; rintro e w' ⟨rfl, rfl⟩))
  go_ret3
  exact ⟨rfl, HB1.out⟩

set_option maxHeartbeats 1000000 in
theorem RegulateR_no5 (p i s e lo hi : Int) (w : World) (ht : Dv.tunB p i = true) (h0 : upB 1099511627776 [lo] = true) (h1 : upB 1099511627776 [hi] = true) (h2 : lo ≤ hi) (h3 : upB 1073741824 [s] = false) :
    Calls Try.prog 24 #[.agg #[.int .i64 p, .int .i64 i], .int .i64 s, .int .i64 e, .agg #[.int .i64 lo, .int .i64 hi]] w fun en w' => en = .returned (.tuple #[.int .i64 0, .int .i64 0, .int .i64 3]) ∧ Below w.heap.size w w' := by
  go_enter Try.func24, Try.ntmps24
  go_wp2_with fail
  refine (gains_c _ _ _).mono ?_
  rintro en w1 ⟨rfl, hb1⟩
  rw [ht]
  have a2 : w1.cell? ⟨w.heap.size + 1, 0, none⟩ = some (.int .i64 lo) := below_cell hb1 (by simp) (by go_simp)
  have a3 : w1.cell? ⟨w.heap.size + 1, 1, none⟩ = some (.int .i64 hi) := below_cell hb1 (by simp) (by go_simp)
  have HB1 := Lib.hid (show Below w.heap.size w w1 from (((Below.refl _ _).alloc (Nat.le_refl _) _).alloc (by simp) _).trans (hb1.mono (by simp; omega)))
  clear hb1
  go_wp2_with (first | (go_at_call 78; refine (quantity_c _ _).mono ?_; rintro e w' ⟨rfl, rfl⟩) | (go_at_call 79; refine (volt_c _ _).mono ?_; rintro e w' ⟨rfl, rfl⟩) | (go_at_call 80; refine (within_c _ _ _ _).mono ?_; rintro e w' ⟨rfl, rfl⟩))
  go_ret3
  exact ⟨rfl, HB1.out⟩

set_option maxHeartbeats 1000000 in
theorem RegulateR_no6 (p i s e lo hi : Int) (w : World) (ht : Dv.tunB p i = true) (h0 : upB 1099511627776 [lo] = true) (h1 : upB 1099511627776 [hi] = true) (h2 : lo ≤ hi) (h3 : upB 1073741824 [s] = true) (h4 : Dv.inB e (-2097152) 2097152 = false) :
    Calls Try.prog 24 #[.agg #[.int .i64 p, .int .i64 i], .int .i64 s, .int .i64 e, .agg #[.int .i64 lo, .int .i64 hi]] w fun en w' => en = .returned (.tuple #[.int .i64 0, .int .i64 0, .int .i64 3]) ∧ Below w.heap.size w w' := by
  go_enter Try.func24, Try.ntmps24
  go_wp2_with fail
  refine (gains_c _ _ _).mono ?_
  rintro en w1 ⟨rfl, hb1⟩
  rw [ht]
  have a2 : w1.cell? ⟨w.heap.size + 1, 0, none⟩ = some (.int .i64 lo) := below_cell hb1 (by simp) (by go_simp)
  have a3 : w1.cell? ⟨w.heap.size + 1, 1, none⟩ = some (.int .i64 hi) := below_cell hb1 (by simp) (by go_simp)
  have HB1 := Lib.hid (show Below w.heap.size w w1 from (((Below.refl _ _).alloc (Nat.le_refl _) _).alloc (by simp) _).trans (hb1.mono (by simp; omega)))
  clear hb1
  go_wp2_with (first | (go_at_call 78; refine (quantity_c _ _).mono ?_; rintro e w' ⟨rfl, rfl⟩) | (go_at_call 79; refine (volt_c _ _).mono ?_; rintro e w' ⟨rfl, rfl⟩) | (go_at_call 80; refine (within_c _ _ _ _).mono ?_; rintro e w' ⟨rfl, rfl⟩))
  go_ret3
  exact ⟨rfl, HB1.out⟩

set_option maxHeartbeats 1000000 in
theorem RegulateR_ok (p i s e lo hi : Int) (w : World) (ht : Dv.tunB p i = true) (h0 : upB 1099511627776 [lo] = true) (h1 : upB 1099511627776 [hi] = true) (h2 : lo ≤ hi) (h3 : upB 1073741824 [s] = true) (h4 : Dv.inB e (-2097152) 2097152 = true) :
    Calls Try.prog 24 #[.agg #[.int .i64 p, .int .i64 i], .int .i64 s, .int .i64 e, .agg #[.int .i64 lo, .int .i64 hi]] w fun en w' => en = .returned (.tuple #[.int .i64 (Dv.clip (Dv.raw p s e) lo hi), .int .i64 (Dv.regS i s e (Dv.regC (Dv.raw p s e) e lo hi)), .int .i64 0]) ∧ Below w.heap.size w w' := by
  have ht' : 0 ≤ p ∧ p ≤ 16777216 ∧ 0 ≤ i ∧ i ≤ 16777216 := by simpa [Dv.tunB] using ht
  have b1 := upB1.1 h3
  have b2 : -2097152 ≤ e ∧ e ≤ 2097152 := by simpa [Dv.inB] using h4
  go_enter Try.func24, Try.ntmps24
  go_wp2_with fail
  refine (gains_c _ _ _).mono ?_
  rintro en w1 ⟨rfl, hb1⟩
  rw [ht]
  have a0 : w1.cell? ⟨w.heap.size, 0, none⟩ = some (.int .i64 p) := below_cell hb1 (by simp; omega) (by go_simp)
  have a1 : w1.cell? ⟨w.heap.size, 1, none⟩ = some (.int .i64 i) := below_cell hb1 (by simp; omega) (by go_simp)
  have a2 : w1.cell? ⟨w.heap.size + 1, 0, none⟩ = some (.int .i64 lo) := below_cell hb1 (by simp) (by go_simp)
  have a3 : w1.cell? ⟨w.heap.size + 1, 1, none⟩ = some (.int .i64 hi) := below_cell hb1 (by simp) (by go_simp)
  have HB1 := Lib.hid (show Below w.heap.size w w1 from (((Below.refl _ _).alloc (Nat.le_refl _) _).alloc (by simp) _).trans (hb1.mono (by simp; omega)))
  have hz := HB1.out.size
  clear hb1
  go_wp2_with (first | (go_at_call 78; refine (quantity_c _ _).mono ?_; rintro e w' ⟨rfl, rfl⟩) | (go_at_call 79; refine (volt_c _ _).mono ?_; rintro e w' ⟨rfl, rfl⟩) | (go_at_call 80; refine (within_c _ _ _ _).mono ?_; rintro e w' ⟨rfl, rfl⟩))
  refine (regulate_c p i s e lo hi _ ⟨ht'.1, ht'.2.1⟩ ht'.2.2 b1 b2 h2).mono ?_
  rintro en w2 ⟨rfl, hb2⟩
  have HB2 := Lib.hid (show Below w.heap.size w w2 from HB1.out.trans (hb2.mono hz))
  clear hb2
  go_wp2
  go_ret3
  exact ⟨rfl, HB2.out⟩

theorem RegulateR_c (p i s e lo hi : Int) (w : World) :
    Calls Try.prog 24 #[.agg #[.int .i64 p, .int .i64 i], .int .i64 s, .int .i64 e, .agg #[.int .i64 lo, .int .i64 hi]] w fun en w' => en = .returned (.tuple #[.int .i64 (Dv.rgV p i s e lo hi), .int .i64 (Dv.rgN p i s e lo hi), .int .i64 (Dv.rgE p i s e lo hi)]) ∧ Below w.heap.size w w' := by
  have fin : ∀ {x y z : Int}, Dv.rgV p i s e lo hi = x → Dv.rgN p i s e lo hi = y → Dv.rgE p i s e lo hi = z →
      Calls Try.prog 24 #[.agg #[.int .i64 p, .int .i64 i], .int .i64 s, .int .i64 e, .agg #[.int .i64 lo, .int .i64 hi]] w (fun en w' => en = .returned (.tuple #[.int .i64 x, .int .i64 y, .int .i64 z]) ∧ Below w.heap.size w w') →
      Calls Try.prog 24 #[.agg #[.int .i64 p, .int .i64 i], .int .i64 s, .int .i64 e, .agg #[.int .i64 lo, .int .i64 hi]] w fun en w' => en = .returned (.tuple #[.int .i64 (Dv.rgV p i s e lo hi), .int .i64 (Dv.rgN p i s e lo hi), .int .i64 (Dv.rgE p i s e lo hi)]) ∧ Below w.heap.size w w' := by
    intro x y z hx hy hz h
    rw [hx, hy, hz]
    exact h
  cases ht : Dv.tunB p i
  · exact fin (by simp [Dv.rgV, Dv.rgA, ht]) (by simp [Dv.rgN, Dv.rgA, ht]) (by simp [Dv.rgE, Dv.rgA, ht]) (RegulateR_no1 p i s e lo hi w ht)
  · have hup : upB 1099511627776 [lo, hi] = (upB 1099511627776 [lo] && upB 1099511627776 [hi]) := by simp [upB]
    cases h0 : upB 1099511627776 [lo]
    · have hsp : Dv.spanB lo hi = false := by simp [Dv.spanB, hup, h0]
      exact fin (by simp [Dv.rgV, Dv.rgA, hsp]) (by simp [Dv.rgN, Dv.rgA, hsp]) (by simp [Dv.rgE, Dv.rgA, hsp]) (RegulateR_no2 p i s e lo hi w ht h0)
    · cases h1 : upB 1099511627776 [hi]
      · have hsp : Dv.spanB lo hi = false := by simp [Dv.spanB, hup, h1]
        exact fin (by simp [Dv.rgV, Dv.rgA, hsp]) (by simp [Dv.rgN, Dv.rgA, hsp]) (by simp [Dv.rgE, Dv.rgA, hsp]) (RegulateR_no3 p i s e lo hi w ht h0 h1)
      · by_cases h2 : lo ≤ hi
        · have hsp : Dv.spanB lo hi = true := by simp [Dv.spanB, hup, h0, h1, h2]
          cases h3 : upB 1073741824 [s]
          · exact fin (by simp [Dv.rgV, Dv.rgB, h3]) (by simp [Dv.rgN, Dv.rgB, h3]) (by simp [Dv.rgE, Dv.rgA, Dv.rgB, ht, hsp, h3]) (RegulateR_no5 p i s e lo hi w ht h0 h1 h2 h3)
          · have hee : upB 2097152 [e] = Dv.inB e (-2097152) 2097152 := by rw [Bool.eq_iff_iff, upB1]; simp [Dv.inB]
            cases h4 : Dv.inB e (-2097152) 2097152
            · rw [h4] at hee
              exact fin (by simp [Dv.rgV, Dv.rgB, hee]) (by simp [Dv.rgN, Dv.rgB, hee]) (by simp [Dv.rgE, Dv.rgA, Dv.rgB, ht, hsp, hee]) (RegulateR_no6 p i s e lo hi w ht h0 h1 h2 h3 h4)
            · rw [h4] at hee
              exact fin (by simp [Dv.rgV, Dv.rgA, Dv.rgB, ht, hsp, h3, hee]) (by simp [Dv.rgN, Dv.rgA, Dv.rgB, ht, hsp, h3, hee]) (by simp [Dv.rgE, Dv.rgA, Dv.rgB, ht, hsp, h3, hee]) (RegulateR_ok p i s e lo hi w ht h0 h1 h2 h3 h4)
        · have hsp : Dv.spanB lo hi = false := by simp [Dv.spanB, h2]
          exact fin (by simp [Dv.rgV, Dv.rgA, hsp]) (by simp [Dv.rgN, Dv.rgA, hsp]) (by simp [Dv.rgE, Dv.rgA, hsp]) (RegulateR_no4 p i s e lo hi w ht h0 h1 (by omega))
end Go.Proofs.Ytcneohhfnnelgaa
namespace Go.Proofs.Ytcneohhfnnelgaa
open Go.RowKit
set_option linter.unusedVariables false

/-- a motor's numbers -/
structure Mot where
  r : Int
  ld : Int
  lq : Int
  fx : Int
  po : Int
  mi : Int
  sp : Int
  dr : Int
  cu : Int
  fa : Int

namespace Dv
def chk (m : Mot) : Prop := (0 ≤ m.r ∧ m.r ≤ 1048576) ∧ (1 ≤ m.ld ∧ m.ld ≤ 4194304) ∧ (1 ≤ m.lq ∧ m.lq ≤ 4194304) ∧ (0 ≤ m.fx ∧ m.fx ≤ 4194304) ∧ (1 ≤ m.po ∧ m.po ≤ 16) ∧ (1 ≤ m.mi ∧ m.mi ≤ 1000) ∧ (0 ≤ m.sp ∧ m.sp ≤ 1048576) ∧ (0 ≤ m.dr ∧ m.dr ≤ 1048576) ∧ (1 ≤ m.cu ∧ m.cu ≤ 1048576) ∧ (0 ≤ m.fa ∧ m.fa ≤ 16384)
instance (m : Mot) : Decidable (chk m) := by unfold chk; infer_instance
def chkB (m : Mot) : Bool := decide (chk m)
def chkE (m : Mot) : Int := if chkB m = true then 0 else 2
def motX (m : Mot) (k : Nat) : Int := [m.r, m.ld, m.lq, m.fx, m.po, m.mi, m.sp, m.dr, m.cu, m.fa].getD k 0
def motL (k : Nat) : Int := [0, 1, 1, 0, 1, 1, 0, 0, 1, 0].getD k 0
def motH (k : Nat) : Int := [1048576, 4194304, 4194304, 4194304, 16, 1000, 1048576, 1048576, 1048576, 16384].getD k 0
theorem chk_iff (m : Mot) : chk m ↔ ∀ k, k < 10 → motL k ≤ motX m k ∧ motX m k ≤ motH k := by
  constructor
  · intro h k hk
    unfold chk at h
    obtain ⟨h0, h1, h2, h3, h4, h5, h6, h7, h8, h9⟩ := h
    rcases k with _ | _ | _ | _ | _ | _ | _ | _ | _ | _ | k
    · exact h0
    · exact h1
    · exact h2
    · exact h3
    · exact h4
    · exact h5
    · exact h6
    · exact h7
    · exact h8
    · exact h9
    · omega
  · intro h
    exact ⟨h 0 (by omega), h 1 (by omega), h 2 (by omega), h 3 (by omega), h 4 (by omega), h 5 (by omega), h 6 (by omega), h 7 (by omega), h 8 (by omega), h 9 (by omega)⟩
end Dv

theorem chk_index (m : Mot) (k : Nat) (hk : k < 10) (w : World) : (Instr.index 116 (.agg #[.int .i64 m.r, .int .i64 0, .int .i64 1048576, .int .i64 m.ld, .int .i64 1, .int .i64 4194304, .int .i64 m.lq, .int .i64 1, .int .i64 4194304, .int .i64 m.fx, .int .i64 0, .int .i64 4194304, .int .i64 m.po, .int .i64 1, .int .i64 16, .int .i64 m.mi, .int .i64 1, .int .i64 1000, .int .i64 m.sp, .int .i64 0, .int .i64 1048576, .int .i64 m.dr, .int .i64 0, .int .i64 1048576, .int .i64 m.cu, .int .i64 1, .int .i64 1048576, .int .i64 m.fa, .int .i64 0, .int .i64 16384]) (.int .i64 (k : Int))).run Try.prog w = .ok (.agg #[.int .i64 (Dv.motX m k), .int .i64 (Dv.motL k), .int .i64 (Dv.motH k)]) w := by
  rcases k with _ | _ | _ | _ | _ | _ | _ | _ | _ | _ | k
  · kernel_rfl
  · kernel_rfl
  · kernel_rfl
  · kernel_rfl
  · kernel_rfl
  · kernel_rfl
  · kernel_rfl
  · kernel_rfl
  · kernel_rfl
  · kernel_rfl
  · omega

set_option maxHeartbeats 1000000 in
theorem Check_c (m : Mot) (w : World) : Calls Try.prog 48 #[.agg #[.int .i64 m.r, .int .i64 m.ld, .int .i64 m.lq, .int .i64 m.fx, .int .i64 m.po, .int .i64 m.mi, .int .i64 m.sp, .int .i64 m.dr, .int .i64 m.cu, .int .i64 m.fa]] w fun e w' => e = .returned (.int .i64 (Dv.chkE m)) ∧ Below w.heap.size w w' := by
  have HI := Lib.hid (chk_index m)
  go_enter Try.func48, Try.ntmps48
  go_wp2_with fail
  go_loopw [36] (fun i wr => ∃ k : Nat, k ≤ 10 ∧ i = .int .i64 k ∧ Below w.heap.size w wr ∧ ∀ j, j < k → Dv.motL j ≤ Dv.motX m j ∧ Dv.motX m j ≤ Dv.motH j) (fun i _ => 10 - (intOf i).toNat)
  case atStart => exact ⟨0, by omega, rfl, (Below.refl _ _).alloc (Nat.le_refl _) _, fun j hj => absurd hj (Nat.not_lt_zero _)⟩
  case round =>
    obtain ⟨k, hk, rfl, hb, hall⟩ := hrel
    have HB := Lib.hid hb
    have HA := Lib.hid hall
    have hz := hb.size
    clear hb hall
    by_cases hlt : k < 10
    · have hidx := fun W => HI.out k hlt W
      have HX := Lib.hid (show (Dv.motL k ≤ Dv.motX m k ∧ Dv.motX m k ≤ Dv.motH k) ↔ (Dv.motL k ≤ Dv.motX m k ∧ Dv.motX m k ≤ Dv.motH k) from Iff.rfl)
      generalize hx : Dv.motX m k = x at hidx
      generalize hl : Dv.motL k = l at hidx
      generalize hh : Dv.motH k = h at hidx
      have HE := Lib.hid (And.intro hx (And.intro hl hh))
      clear hx hl hh
      by_cases h1 : l ≤ x
      · by_cases h2 : x ≤ h
        · go_wp2_with fail
          go_roundw
          case rel =>
            refine ⟨k + 1, by omega, by go_num, HB.out.alloc hz _, fun j hj => ?_⟩
            by_cases hjk : j < k
            · exact HA.out j hjk
            · obtain rfl : j = k := by omega
              rw [HE.out.1, HE.out.2.1, HE.out.2.2]
              exact ⟨h1, h2⟩
          case measure => simp [intOf]; omega
        · go_wp2_with fail
          go_ret
          refine ⟨ret_int ?_, HB.out.alloc hz _⟩
          have : Dv.chkB m = false := by
            simp only [Dv.chkB, decide_eq_false_iff_not, Dv.chk_iff]
            intro hc
            have := hc k hlt
            rw [HE.out.1, HE.out.2.1, HE.out.2.2] at this
            omega
          simp [Dv.chkE, this]
      · go_wp2_with fail
        go_ret
        refine ⟨ret_int ?_, HB.out.alloc hz _⟩
        have : Dv.chkB m = false := by
          simp only [Dv.chkB, decide_eq_false_iff_not, Dv.chk_iff]
          intro hc
          have := hc k hlt
          rw [HE.out.1, HE.out.2.1, HE.out.2.2] at this
          omega
        simp [Dv.chkE, this]
    · go_wp2_with fail
      go_ret
      refine ⟨ret_int ?_, HB.out⟩
      have : Dv.chkB m = true := by
        simp only [Dv.chkB, decide_eq_true_eq, Dv.chk_iff]
        intro j hj
        exact HA.out j (by omega)
      simp [Dv.chkE, this]

set_option maxHeartbeats 400000 in
theorem CheckR_no0 (m : Mot) (w : World) (h0 : Dv.inB m.r 0 1048576 = false) : Calls Try.prog 49 #[.agg #[.int .i64 m.r, .int .i64 m.ld, .int .i64 m.lq, .int .i64 m.fx, .int .i64 m.po, .int .i64 m.mi, .int .i64 m.sp, .int .i64 m.dr, .int .i64 m.cu, .int .i64 m.fa]] w fun e w' => e = .returned (.int .i64 2) ∧ Below w.heap.size w w' := by
  go_enter Try.func49, Try.ntmps49
  go_wp2_with (go_at_call 80; refine (within_c _ _ _ _).mono ?_; rintro e w' ⟨rfl, rfl⟩)
  go_ret
  exact ⟨rfl, (Below.refl _ _).alloc (Nat.le_refl _) _⟩

set_option maxHeartbeats 400000 in
theorem CheckR_no1 (m : Mot) (w : World) (h0 : Dv.inB m.r 0 1048576 = true) (h1 : Dv.inB m.ld 1 4194304 = false) : Calls Try.prog 49 #[.agg #[.int .i64 m.r, .int .i64 m.ld, .int .i64 m.lq, .int .i64 m.fx, .int .i64 m.po, .int .i64 m.mi, .int .i64 m.sp, .int .i64 m.dr, .int .i64 m.cu, .int .i64 m.fa]] w fun e w' => e = .returned (.int .i64 2) ∧ Below w.heap.size w w' := by
  go_enter Try.func49, Try.ntmps49
  go_wp2_with (go_at_call 80; refine (within_c _ _ _ _).mono ?_; rintro e w' ⟨rfl, rfl⟩)
  go_ret
  exact ⟨rfl, (Below.refl _ _).alloc (Nat.le_refl _) _⟩

set_option maxHeartbeats 400000 in
theorem CheckR_no2 (m : Mot) (w : World) (h0 : Dv.inB m.r 0 1048576 = true) (h1 : Dv.inB m.ld 1 4194304 = true) (h2 : Dv.inB m.lq 1 4194304 = false) : Calls Try.prog 49 #[.agg #[.int .i64 m.r, .int .i64 m.ld, .int .i64 m.lq, .int .i64 m.fx, .int .i64 m.po, .int .i64 m.mi, .int .i64 m.sp, .int .i64 m.dr, .int .i64 m.cu, .int .i64 m.fa]] w fun e w' => e = .returned (.int .i64 2) ∧ Below w.heap.size w w' := by
  go_enter Try.func49, Try.ntmps49
  go_wp2_with (go_at_call 80; refine (within_c _ _ _ _).mono ?_; rintro e w' ⟨rfl, rfl⟩)
  go_ret
  exact ⟨rfl, (Below.refl _ _).alloc (Nat.le_refl _) _⟩

set_option maxHeartbeats 400000 in
theorem CheckR_no3 (m : Mot) (w : World) (h0 : Dv.inB m.r 0 1048576 = true) (h1 : Dv.inB m.ld 1 4194304 = true) (h2 : Dv.inB m.lq 1 4194304 = true) (h3 : Dv.inB m.fx 0 4194304 = false) : Calls Try.prog 49 #[.agg #[.int .i64 m.r, .int .i64 m.ld, .int .i64 m.lq, .int .i64 m.fx, .int .i64 m.po, .int .i64 m.mi, .int .i64 m.sp, .int .i64 m.dr, .int .i64 m.cu, .int .i64 m.fa]] w fun e w' => e = .returned (.int .i64 2) ∧ Below w.heap.size w w' := by
  go_enter Try.func49, Try.ntmps49
  go_wp2_with (go_at_call 80; refine (within_c _ _ _ _).mono ?_; rintro e w' ⟨rfl, rfl⟩)
  go_ret
  exact ⟨rfl, (Below.refl _ _).alloc (Nat.le_refl _) _⟩

set_option maxHeartbeats 400000 in
theorem CheckR_no4 (m : Mot) (w : World) (h0 : Dv.inB m.r 0 1048576 = true) (h1 : Dv.inB m.ld 1 4194304 = true) (h2 : Dv.inB m.lq 1 4194304 = true) (h3 : Dv.inB m.fx 0 4194304 = true) (h4 : Dv.inB m.po 1 16 = false) : Calls Try.prog 49 #[.agg #[.int .i64 m.r, .int .i64 m.ld, .int .i64 m.lq, .int .i64 m.fx, .int .i64 m.po, .int .i64 m.mi, .int .i64 m.sp, .int .i64 m.dr, .int .i64 m.cu, .int .i64 m.fa]] w fun e w' => e = .returned (.int .i64 2) ∧ Below w.heap.size w w' := by
  go_enter Try.func49, Try.ntmps49
  go_wp2_with (go_at_call 80; refine (within_c _ _ _ _).mono ?_; rintro e w' ⟨rfl, rfl⟩)
  go_ret
  exact ⟨rfl, (Below.refl _ _).alloc (Nat.le_refl _) _⟩

set_option maxHeartbeats 400000 in
theorem CheckR_no5 (m : Mot) (w : World) (h0 : Dv.inB m.r 0 1048576 = true) (h1 : Dv.inB m.ld 1 4194304 = true) (h2 : Dv.inB m.lq 1 4194304 = true) (h3 : Dv.inB m.fx 0 4194304 = true) (h4 : Dv.inB m.po 1 16 = true) (h5 : Dv.inB m.mi 1 1000 = false) : Calls Try.prog 49 #[.agg #[.int .i64 m.r, .int .i64 m.ld, .int .i64 m.lq, .int .i64 m.fx, .int .i64 m.po, .int .i64 m.mi, .int .i64 m.sp, .int .i64 m.dr, .int .i64 m.cu, .int .i64 m.fa]] w fun e w' => e = .returned (.int .i64 2) ∧ Below w.heap.size w w' := by
  go_enter Try.func49, Try.ntmps49
  go_wp2_with (go_at_call 80; refine (within_c _ _ _ _).mono ?_; rintro e w' ⟨rfl, rfl⟩)
  go_ret
  exact ⟨rfl, (Below.refl _ _).alloc (Nat.le_refl _) _⟩

set_option maxHeartbeats 400000 in
theorem CheckR_no6 (m : Mot) (w : World) (h0 : Dv.inB m.r 0 1048576 = true) (h1 : Dv.inB m.ld 1 4194304 = true) (h2 : Dv.inB m.lq 1 4194304 = true) (h3 : Dv.inB m.fx 0 4194304 = true) (h4 : Dv.inB m.po 1 16 = true) (h5 : Dv.inB m.mi 1 1000 = true) (h6 : Dv.inB m.sp 0 1048576 = false) : Calls Try.prog 49 #[.agg #[.int .i64 m.r, .int .i64 m.ld, .int .i64 m.lq, .int .i64 m.fx, .int .i64 m.po, .int .i64 m.mi, .int .i64 m.sp, .int .i64 m.dr, .int .i64 m.cu, .int .i64 m.fa]] w fun e w' => e = .returned (.int .i64 2) ∧ Below w.heap.size w w' := by
  go_enter Try.func49, Try.ntmps49
  go_wp2_with (go_at_call 80; refine (within_c _ _ _ _).mono ?_; rintro e w' ⟨rfl, rfl⟩)
  go_ret
  exact ⟨rfl, (Below.refl _ _).alloc (Nat.le_refl _) _⟩

set_option maxHeartbeats 400000 in
theorem CheckR_no7 (m : Mot) (w : World) (h0 : Dv.inB m.r 0 1048576 = true) (h1 : Dv.inB m.ld 1 4194304 = true) (h2 : Dv.inB m.lq 1 4194304 = true) (h3 : Dv.inB m.fx 0 4194304 = true) (h4 : Dv.inB m.po 1 16 = true) (h5 : Dv.inB m.mi 1 1000 = true) (h6 : Dv.inB m.sp 0 1048576 = true) (h7 : Dv.inB m.dr 0 1048576 = false) : Calls Try.prog 49 #[.agg #[.int .i64 m.r, .int .i64 m.ld, .int .i64 m.lq, .int .i64 m.fx, .int .i64 m.po, .int .i64 m.mi, .int .i64 m.sp, .int .i64 m.dr, .int .i64 m.cu, .int .i64 m.fa]] w fun e w' => e = .returned (.int .i64 2) ∧ Below w.heap.size w w' := by
  go_enter Try.func49, Try.ntmps49
  go_wp2_with (go_at_call 80; refine (within_c _ _ _ _).mono ?_; rintro e w' ⟨rfl, rfl⟩)
  go_ret
  exact ⟨rfl, (Below.refl _ _).alloc (Nat.le_refl _) _⟩

set_option maxHeartbeats 400000 in
theorem CheckR_no8 (m : Mot) (w : World) (h0 : Dv.inB m.r 0 1048576 = true) (h1 : Dv.inB m.ld 1 4194304 = true) (h2 : Dv.inB m.lq 1 4194304 = true) (h3 : Dv.inB m.fx 0 4194304 = true) (h4 : Dv.inB m.po 1 16 = true) (h5 : Dv.inB m.mi 1 1000 = true) (h6 : Dv.inB m.sp 0 1048576 = true) (h7 : Dv.inB m.dr 0 1048576 = true) (h8 : Dv.inB m.cu 1 1048576 = false) : Calls Try.prog 49 #[.agg #[.int .i64 m.r, .int .i64 m.ld, .int .i64 m.lq, .int .i64 m.fx, .int .i64 m.po, .int .i64 m.mi, .int .i64 m.sp, .int .i64 m.dr, .int .i64 m.cu, .int .i64 m.fa]] w fun e w' => e = .returned (.int .i64 2) ∧ Below w.heap.size w w' := by
  go_enter Try.func49, Try.ntmps49
  go_wp2_with (go_at_call 80; refine (within_c _ _ _ _).mono ?_; rintro e w' ⟨rfl, rfl⟩)
  go_ret
  exact ⟨rfl, (Below.refl _ _).alloc (Nat.le_refl _) _⟩

set_option maxHeartbeats 400000 in
theorem CheckR_no9 (m : Mot) (w : World) (h0 : Dv.inB m.r 0 1048576 = true) (h1 : Dv.inB m.ld 1 4194304 = true) (h2 : Dv.inB m.lq 1 4194304 = true) (h3 : Dv.inB m.fx 0 4194304 = true) (h4 : Dv.inB m.po 1 16 = true) (h5 : Dv.inB m.mi 1 1000 = true) (h6 : Dv.inB m.sp 0 1048576 = true) (h7 : Dv.inB m.dr 0 1048576 = true) (h8 : Dv.inB m.cu 1 1048576 = true) (h9 : Dv.inB m.fa 0 16384 = false) : Calls Try.prog 49 #[.agg #[.int .i64 m.r, .int .i64 m.ld, .int .i64 m.lq, .int .i64 m.fx, .int .i64 m.po, .int .i64 m.mi, .int .i64 m.sp, .int .i64 m.dr, .int .i64 m.cu, .int .i64 m.fa]] w fun e w' => e = .returned (.int .i64 2) ∧ Below w.heap.size w w' := by
  go_enter Try.func49, Try.ntmps49
  go_wp2_with (go_at_call 80; refine (within_c _ _ _ _).mono ?_; rintro e w' ⟨rfl, rfl⟩)
  go_ret
  exact ⟨rfl, (Below.refl _ _).alloc (Nat.le_refl _) _⟩

set_option maxHeartbeats 400000 in
theorem CheckR_ok (m : Mot) (w : World) (h0 : Dv.inB m.r 0 1048576 = true) (h1 : Dv.inB m.ld 1 4194304 = true) (h2 : Dv.inB m.lq 1 4194304 = true) (h3 : Dv.inB m.fx 0 4194304 = true) (h4 : Dv.inB m.po 1 16 = true) (h5 : Dv.inB m.mi 1 1000 = true) (h6 : Dv.inB m.sp 0 1048576 = true) (h7 : Dv.inB m.dr 0 1048576 = true) (h8 : Dv.inB m.cu 1 1048576 = true) (h9 : Dv.inB m.fa 0 16384 = true) : Calls Try.prog 49 #[.agg #[.int .i64 m.r, .int .i64 m.ld, .int .i64 m.lq, .int .i64 m.fx, .int .i64 m.po, .int .i64 m.mi, .int .i64 m.sp, .int .i64 m.dr, .int .i64 m.cu, .int .i64 m.fa]] w fun e w' => e = .returned (.int .i64 0) ∧ Below w.heap.size w w' := by
  go_enter Try.func49, Try.ntmps49
  go_wp2_with (go_at_call 80; refine (within_c _ _ _ _).mono ?_; rintro e w' ⟨rfl, rfl⟩)
  go_ret
  exact ⟨rfl, (Below.refl _ _).alloc (Nat.le_refl _) _⟩

theorem chkB_and (m : Mot) : Dv.chkB m = (Dv.inB m.r 0 1048576 && (Dv.inB m.ld 1 4194304 && (Dv.inB m.lq 1 4194304 && (Dv.inB m.fx 0 4194304 && (Dv.inB m.po 1 16 && (Dv.inB m.mi 1 1000 && (Dv.inB m.sp 0 1048576 && (Dv.inB m.dr 0 1048576 && (Dv.inB m.cu 1 1048576 && (Dv.inB m.fa 0 16384)))))))))) := by
  rw [Bool.eq_iff_iff]
  unfold Dv.chkB
  rw [decide_eq_true_iff]
  simp only [Dv.chk, Dv.inB, Bool.and_eq_true, decide_eq_true_eq]

theorem CheckR_c (m : Mot) (w : World) : Calls Try.prog 49 #[.agg #[.int .i64 m.r, .int .i64 m.ld, .int .i64 m.lq, .int .i64 m.fx, .int .i64 m.po, .int .i64 m.mi, .int .i64 m.sp, .int .i64 m.dr, .int .i64 m.cu, .int .i64 m.fa]] w fun e w' => e = .returned (.int .i64 (Dv.chkE m)) ∧ Below w.heap.size w w' := by
  have fin : ∀ {x : Int}, Dv.chkE m = x → Calls Try.prog 49 #[.agg #[.int .i64 m.r, .int .i64 m.ld, .int .i64 m.lq, .int .i64 m.fx, .int .i64 m.po, .int .i64 m.mi, .int .i64 m.sp, .int .i64 m.dr, .int .i64 m.cu, .int .i64 m.fa]] w (fun e w' => e = .returned (.int .i64 x) ∧ Below w.heap.size w w') → Calls Try.prog 49 #[.agg #[.int .i64 m.r, .int .i64 m.ld, .int .i64 m.lq, .int .i64 m.fx, .int .i64 m.po, .int .i64 m.mi, .int .i64 m.sp, .int .i64 m.dr, .int .i64 m.cu, .int .i64 m.fa]] w fun e w' => e = .returned (.int .i64 (Dv.chkE m)) ∧ Below w.heap.size w w' := by
    intro x hx h
    rw [hx]
    exact h
  have hB := chkB_and m
  cases h0 : Dv.inB m.r 0 1048576
  · exact fin (by unfold Dv.chkE; rw [hB]; simp [h0]) (CheckR_no0 m w h0)
  · skip
    cases h1 : Dv.inB m.ld 1 4194304
    · exact fin (by unfold Dv.chkE; rw [hB]; simp [h1]) (CheckR_no1 m w h0 h1)
    · skip
      cases h2 : Dv.inB m.lq 1 4194304
      · exact fin (by unfold Dv.chkE; rw [hB]; simp [h2]) (CheckR_no2 m w h0 h1 h2)
      · skip
        cases h3 : Dv.inB m.fx 0 4194304
        · exact fin (by unfold Dv.chkE; rw [hB]; simp [h3]) (CheckR_no3 m w h0 h1 h2 h3)
        · skip
          cases h4 : Dv.inB m.po 1 16
          · exact fin (by unfold Dv.chkE; rw [hB]; simp [h4]) (CheckR_no4 m w h0 h1 h2 h3 h4)
          · skip
            cases h5 : Dv.inB m.mi 1 1000
            · exact fin (by unfold Dv.chkE; rw [hB]; simp [h5]) (CheckR_no5 m w h0 h1 h2 h3 h4 h5)
            · skip
              cases h6 : Dv.inB m.sp 0 1048576
              · exact fin (by unfold Dv.chkE; rw [hB]; simp [h6]) (CheckR_no6 m w h0 h1 h2 h3 h4 h5 h6)
              · skip
                cases h7 : Dv.inB m.dr 0 1048576
                · exact fin (by unfold Dv.chkE; rw [hB]; simp [h7]) (CheckR_no7 m w h0 h1 h2 h3 h4 h5 h6 h7)
                · skip
                  cases h8 : Dv.inB m.cu 1 1048576
                  · exact fin (by unfold Dv.chkE; rw [hB]; simp [h8]) (CheckR_no8 m w h0 h1 h2 h3 h4 h5 h6 h7 h8)
                  · skip
                    cases h9 : Dv.inB m.fa 0 16384
                    · exact fin (by unfold Dv.chkE; rw [hB]; simp [h9]) (CheckR_no9 m w h0 h1 h2 h3 h4 h5 h6 h7 h8 h9)
                    · skip
                      exact fin (by unfold Dv.chkE; rw [hB]; simp [h0, h1, h2, h3, h4, h5, h6, h7, h8, h9]) (CheckR_ok m w h0 h1 h2 h3 h4 h5 h6 h7 h8 h9)
end Go.Proofs.Ytcneohhfnnelgaa
namespace Go.Proofs.Ytcneohhfnnelgaa
open Go.RowKit
set_option linter.unusedVariables false

/-- block g holds just these cells, and may be written -/
def Blk (w : World) (g : Nat) (t : TypeId) (cs : List Value) : Prop := w.heap[g]? = some (.cells cs.toArray t (0, 0))
section
variable {w w' : World} {g : Nat} {t : TypeId} {cs : List Value}
theorem Blk.cell (h : Blk w g t cs) (o : Nat) {v : Value} (hv : cs[o]? = some v) : w.cell? ⟨g, o, none⟩ = some v := by
  unfold Blk at h
  simp [World.cell?, h, hv]
theorem Blk.free (h : Blk w g t cs) (o : Nat) : w.frozen? ⟨g, o, none⟩ = false := by
  unfold Blk at h
  simp [World.frozen?, h]
theorem Blk.lt (h : Blk w g t cs) : g < w.heap.size := by
  rcases Nat.lt_or_ge g w.heap.size with h' | h'
  · exact h'
  · unfold Blk at h
    rw [Array.getElem?_eq_none h'] at h
    cases h
theorem Blk.of_eq (h : Blk w g t cs) (e : w'.heap[g]? = w.heap[g]?) : Blk w' g t cs := e.trans h
theorem Blk.drew (h : Blk w g t cs) : Blk w.drew g t cs := h
theorem Blk.drewN (h : Blk w g t cs) (n : Nat) : Blk (w.drewN n) g t cs := h
theorem Blk.alloc (h : Blk w g t cs) (o : Obj) : Blk (w.alloc o) g t cs := h.of_eq (Below.heap_alloc _ _ _ h.lt)
theorem Blk.new (w : World) (cs : List Value) (t : TypeId) : Blk (w.alloc (.cells cs.toArray t)) w.heap.size t cs := by
  show (w.heap.push _)[w.heap.size]? = _
  simp
theorem Blk.new' (w : World) (cs : Array Value) (t : TypeId) : Blk (w.alloc (.cells cs t)) w.heap.size t cs.toList := by
  show (w.heap.push _)[w.heap.size]? = _
  simp
theorem Blk.setCell (h : Blk w g t cs) (o : Nat) (u : Value) : Blk (w.setCell ⟨g, o, none⟩ u) g t (cs.set o u) := by
  have hlt := h.lt
  unfold Blk at h ⊢
  have h' : w.heap[g] = .cells cs.toArray t (0, 0) := by simpa [Array.getElem?_eq_getElem hlt] using h
  show (w.heap.modify g _)[g]? = _
  rw [Array.getElem?_eq_getElem (by simpa using hlt), Array.getElem_modify_self, h']
  simp
theorem Blk.setCell_ne (h : Blk w g t cs) {p : Addr} (hp : g ≠ p.block) (u : Value) : Blk (w.setCell p u) g t cs := h.of_eq (Below.heap_setCell _ _ _ _ hp)
theorem Blk.grown {row : Option Nat} (h : Blk w g t cs) (hg : w.grownBy w' row) (hne : some g ≠ row) : Blk w' g t cs := h.of_eq (hg.block g h.lt hne)
theorem Blk.below {B : Nat} (h : Blk w g t cs) (hb : Below B w w') (hlt : g < B) : Blk w' g t cs := h.of_eq (hb.block g hlt)
end

/-- of the blocks that there were only those of S may have been written -/
structure Touch (S : Nat → Prop) (w w' : World) : Prop where
  os : w'.os = w.os
  tape : w'.tape = w.tape
  output : w'.output = w.output
  size : w.heap.size ≤ w'.heap.size
  block : ∀ k, k < w.heap.size → ¬ S k → w'.heap[k]? = w.heap[k]?
section
variable {S : Nat → Prop} {a w w' : World}
theorem Touch.refl (S : Nat → Prop) (w : World) : Touch S w w := ⟨rfl, rfl, rfl, Nat.le_refl _, fun _ _ _ => rfl⟩
theorem Touch.trans (h : Touch S a w) (k : Touch S w w') : Touch S a w' :=
  ⟨k.os.trans h.os, k.tape.trans h.tape, k.output.trans h.output, Nat.le_trans h.size k.size, fun i hi hn => (k.block i (Nat.lt_of_lt_of_le hi h.size) hn).trans (h.block i hi hn)⟩
theorem Touch.mono {S' : Nat → Prop} (h : Touch S w w') (hS : ∀ k, S k → S' k) : Touch S' w w' := ⟨h.os, h.tape, h.output, h.size, fun k hk hn => h.block k hk (fun hs => hn (hS k hs))⟩
theorem Touch.drew (h : Touch S a w) : Touch S a w.drew := ⟨h.os, h.tape, h.output, h.size, h.block⟩
theorem Touch.drewN (h : Touch S a w) (n : Nat) : Touch S a (w.drewN n) := ⟨h.os, h.tape, h.output, h.size, h.block⟩
theorem Touch.step (h : Touch S a w) (hos : w'.os = w.os) (ht : w'.tape = w.tape) (ho : w'.output = w.output) (hs : w.heap.size ≤ w'.heap.size) (hb : ∀ k, k < a.heap.size → ¬ S k → w'.heap[k]? = w.heap[k]?) : Touch S a w' :=
  ⟨hos.trans h.os, ht.trans h.tape, ho.trans h.output, Nat.le_trans h.size hs, fun k hk hn => (hb k hk hn).trans (h.block k hk hn)⟩
theorem Touch.alloc (h : Touch S a w) (o : Obj) : Touch S a (w.alloc o) :=
  h.step rfl rfl rfl (by simp) fun k hk _ => Below.heap_alloc _ _ _ (Nat.lt_of_lt_of_le hk h.size)
theorem Touch.setCell (h : Touch S a w) {p : Addr} (hp : S p.block ∨ a.heap.size ≤ p.block) (u : Value) : Touch S a (w.setCell p u) :=
  h.step rfl rfl rfl (by simp [World.setCell]) fun k hk hn => Below.heap_setCell _ _ _ _ (fun e => by subst e; exact hp.elim hn (fun h' => by omega))
theorem Touch.put {g : Nat} (h : Touch (fun k => k = g) a w) (o : Nat) (u : Value) : Touch (fun k => k = g) a (w.setCell ⟨g, o, none⟩ u) := h.setCell (.inl rfl) u
theorem Touch.grown {row : Option Nat} (h : Touch S a w) (hg : w.grownBy w' row) (hr : ∀ k, row = some k → S k ∨ a.heap.size ≤ k) : Touch S a w' :=
  h.step hg.os hg.tape hg.output hg.size fun k hk hn => hg.block k (Nat.lt_of_lt_of_le hk h.size) (fun e => (hr k e.symm).elim hn (fun h' => by omega))
theorem Touch.then {S' : Nat → Prop} (h : Touch S a w) (k : Touch S' w w') (hr : ∀ k, S' k → S k ∨ a.heap.size ≤ k) : Touch S a w' :=
  h.step k.os k.tape k.output k.size fun i hi hn => k.block i (Nat.lt_of_lt_of_le hi h.size) (fun e => (hr i e).elim hn (fun h' => by omega))
theorem Touch.of_below (hb : Below w.heap.size w w') : Touch S w w' := ⟨hb.os, hb.tape, hb.output, hb.size, fun k hk _ => hb.block k hk⟩
theorem Touch.below (h : Touch S a w) (hb : Below w.heap.size w w') : Touch S a w' := h.then (Touch.of_below (S := fun _ => False) hb) (fun _ h => h.elim)
theorem Below.touch {B : Nat} (h : Below B a w) (hB : B ≤ w.heap.size) (k : Touch S w w') (hS : ∀ k, S k → B ≤ k) : Below B a w' :=
  h.trans ⟨k.os, k.tape, k.output, k.size, fun i hi => k.block i (by omega) (fun e => by have := hS i e; omega)⟩
theorem Blk.touch {g : Nat} {t : TypeId} {cs : List Value} (h : Blk w g t cs) (k : Touch S w w') (hn : ¬ S g) : Blk w' g t cs := h.of_eq (k.block g h.lt hn)
theorem Touch.cell (k : Touch S w w') {p : Addr} (hp : p.block < w.heap.size) (hn : ¬ S p.block) : w'.cell? p = w.cell? p := World.cell?_of_block (k.block p.block hp hn)
end
end Go.Proofs.Ytcneohhfnnelgaa
namespace Go.Proofs.Ytcneohhfnnelgaa
open Go.RowKit
set_option linter.unusedVariables false

theorem IntsAt.below {w w1 : World} {A : Option Addr} {xs : List Int} (h : IntsAt w A xs) (hb : Below w.heap.size w w1) : IntsAt w1 A xs := by
  intro i hi
  obtain ⟨ad, e, hc⟩ := h i hi
  exact ⟨ad, e, (hb.cell (World.block_lt_of_cell? w _ hc)).trans hc⟩
theorem inB_up (m x : Int) : Dv.inB x (-m) m = upB m [x] := by simp [Dv.inB, upB]
theorem great_c (x : Int) (w : World) : Calls Try.prog 89 #[.int .i64 x] w fun e w' => e = .returned (.bool (!upB 68719476736 [x])) ∧ w = w' := by
  go_enter Try.func89, Try.ntmps89
  go_wp2_with (go_at_call 80; refine (within_c _ _ _ _).mono ?_; rintro e w' ⟨rfl, rfl⟩)
  go_ret
  exact ⟨ret_bool (by rw [← inB_up]), rfl⟩
theorem gen_world {P : Program} {c : Code} {Q : Exit → Act → World → Prop} {a : Act} {W : World} (J : World → Prop) (hJ : J W) (h : ∀ W', J W' → Code.wp P c Q a W') : Code.wp P c Q a W := h W hJ
theorem up1w (m a : Int) (W : World) (g : Nat) (hg : W.heap.size = g) (hm0 : 0 ≤ m) (hm1 : m ≤ 4611686018427387904) :
    Calls Try.prog 67 #[.int .i64 m, .slice (some ⟨g, 0, none⟩) 1 1] (W.alloc (.cells #[.int .i64 a] 2)) fun e w' => e = .returned (.bool (upB m [a])) ∧ Below W.heap.size W w' :=
  (up1 m a W g hg hm0 hm1).mono fun _ _ ⟨h1, h2⟩ => ⟨h1, h2 ▸ (Below.refl _ _).alloc (Nat.le_refl _) _⟩

/-- what most leaves -/
def MostR (p : Int → Bool) (lo hi : Int) (w : World) (e : Ending) (w' : World) : Prop := ∃ r : Int, e = .returned (.int .i64 r) ∧ lo ≤ r ∧ r ≤ hi ∧ p r = true ∧ (r = hi ∨ p (r + 1) = false) ∧ Below w.heap.size w w'
set_option maxHeartbeats 1000000 in
set_option maxRecDepth 100000 in
theorem most_c (F : FuncId) (a b : Value) (p : Int → Bool) (lo hi : Int) (w : World) (hlo : 0 ≤ lo) (hlh : lo ≤ hi) (hhi : hi ≤ 1152921504606846976) (hp : p lo = true) (hcf : ∀ (args : Array Value) (W : World), (callFunc F args).run Try.prog W = .ok (.enter F args) W)
    (hF : ∀ (x : Int) (W : World), lo ≤ x → x ≤ hi → Below w.heap.size w W → Calls Try.prog F #[.int .i64 x, a, b] W fun e W' => e = .returned (.bool (p x)) ∧ Below W.heap.size W W') :
    Calls Try.prog 91 #[.int .i64 lo, .int .i64 hi, .func (.func F) #[] #[a, b]] w (MostR p lo hi w) := by
  have HF := Lib.hid hF
  have HP := Lib.hid hp
  clear hF hp
  go_enter Try.func91, Try.ntmps91
  go_wp2
  go_loopw [0, 1] (fun x y wr => ∃ l h : Int, x = .int .i64 l ∧ y = .int .i64 h ∧ lo ≤ l ∧ l ≤ h ∧ h ≤ hi ∧ Hid (p l = true ∧ (h = hi ∨ p (h + 1) = false)) ∧ Below w.heap.size w wr) (fun x y _ => (intOf y - intOf x).toNat)
  case atStart => exact ⟨lo, hi, rfl, rfl, by omega, by omega, by omega, Lib.hid ⟨HP.out, .inl rfl⟩, Below.refl _ _⟩
  case round =>
    obtain ⟨l, h, rfl, rfl, h1, h2, h3, HQ, hb⟩ := hrel
    have HB := Lib.hid hb
    clear hb
    by_cases hlt : l < h
    · go_wp2_with fail
      refine (HF.out (l + (h - l + 1) / 2) _ (by omega) (by omega) HB.out).mono ?_
      rintro e w1 ⟨rfl, hb1⟩
      have HB1 := Lib.hid (HB.out.trans (hb1.mono HB.out.size))
      clear hb1
      cases hq : p (l + (h - l + 1) / 2)
      · have HQ2 := Lib.hid (show p l = true ∧ (l + (h - l + 1) / 2 - 1 = hi ∨ p (l + (h - l + 1) / 2 - 1 + 1) = false) from ⟨HQ.out.1, .inr (by rw [show l + (h - l + 1) / 2 - 1 + 1 = l + (h - l + 1) / 2 from by omega]; exact hq)⟩)
        clear hq
        go_wp2
        go_roundw
        case rel => exact ⟨l, l + (h - l + 1) / 2 - 1, rfl, rfl, by omega, by omega, by omega, HQ2, HB1.out⟩
        case measure => simp [intOf]; omega
      · have HQ2 := Lib.hid (show p (l + (h - l + 1) / 2) = true ∧ (h = hi ∨ p (h + 1) = false) from ⟨hq, HQ.out.2⟩)
        clear hq
        go_wp2
        go_roundw
        case rel => exact ⟨l + (h - l + 1) / 2, h, rfl, rfl, by omega, by omega, by omega, HQ2, HB1.out⟩
        case measure => simp [intOf]; omega
    · obtain rfl : l = h := by omega
      go_wp2
      go_ret
      exact ⟨l, rfl, h1, h3, HQ.out.1, HQ.out.2, HB.out⟩
end Go.Proofs.Ytcneohhfnnelgaa
namespace Go.Proofs.Ytcneohhfnnelgaa
open Go.RowKit
set_option linter.unusedVariables false

namespace Dv
def twoB (a b c : Int) : Bool := upB 1073741824 [a, b, c]
def two1 (a b c : Int) : Int := if twoB a b c = true ∧ a + b + c = 0 then a else 0
def two2 (a b c : Int) : Int := if twoB a b c = true ∧ a + b + c = 0 then (a + 2 * b) * 37837 / 65536 else 0
def twoE (a b c : Int) : Int := if twoB a b c = true then (if a + b + c = 0 then 0 else 20) else 3
def back1 (d q x : Int) : Int := if turnB d q x = true then turnX d q (-sine x) (cosine x) else 0
def back2 (d q x : Int) : Int := if turnB d q x = true then turnY d q (-sine x) (cosine x) else 0
def phB (a b : Int) : Bool := upB 1073741824 [a, b]
def phW (b : Int) : Int := b * 113512 / 65536
def ph1 (a b : Int) : Int := if phB a b = true then a else 0
def ph2 (a b : Int) : Int := if phB a b = true then (phW b - a) / 2 else 0
def ph3 (a b : Int) : Int := if phB a b = true then (-phW b - a) / 2 else 0
def phE (a b : Int) : Int := if phB a b = true then 0 else 3
end Dv

set_option maxHeartbeats 400000 in
theorem Two_c (a b c : Int) (w : World) : Calls Try.prog 27 #[.int .i64 a, .int .i64 b, .int .i64 c] w fun e w' => e = .returned (.tuple #[.int .i64 (Dv.two1 a b c), .int .i64 (Dv.two2 a b c), .int .i64 (Dv.twoE a b c)]) ∧ Below w.heap.size w w' := by
  cases hu : upB 1073741824 [a, b, c]
  · have E := Lib.hid (show Dv.two1 a b c = 0 ∧ Dv.two2 a b c = 0 ∧ Dv.twoE a b c = 3 from by simp [Dv.two1, Dv.two2, Dv.twoE, Dv.twoB, hu])
    go_enter Try.func27, Try.ntmps27
    go_wp2_with (go_at_call 67; refine (up3 _ _ _ _ _ _ rfl (by omega) (by omega)).mono ?_; rintro e w' ⟨rfl, rfl⟩)
    go_ret3
    exact ⟨ret3_int E.out.1.symm E.out.2.1.symm E.out.2.2.symm, (Below.refl _ _).alloc (Nat.le_refl _) _⟩
  · obtain ⟨ba, bb, bc⟩ := upB3.1 hu
    by_cases hs : a + b + c = 0
    · have E := Lib.hid (show Dv.two1 a b c = a ∧ Dv.two2 a b c = (a + 2 * b) * 37837 / 65536 ∧ Dv.twoE a b c = 0 from by simp [Dv.two1, Dv.two2, Dv.twoE, Dv.twoB, hu, hs])
      have hs' : (a + b + c != 0) = false := by simpa using hs
      clear hs
      go_enter Try.func27, Try.ntmps27
      go_wp2_with (first | (go_at_call 67; refine (up3 _ _ _ _ _ _ rfl (by omega) (by omega)).mono ?_; rintro e w' ⟨rfl, rfl⟩) | (go_at_call 69; refine (div_c _ _ _ (by omega) (by omega) (by omega)).mono ?_; rintro e w' ⟨rfl, rfl⟩))
      go_ret3
      exact ⟨ret3_int E.out.1.symm E.out.2.1.symm E.out.2.2.symm, (Below.refl _ _).alloc (Nat.le_refl _) _⟩
    · have E := Lib.hid (show Dv.two1 a b c = 0 ∧ Dv.two2 a b c = 0 ∧ Dv.twoE a b c = 20 from by simp [Dv.two1, Dv.two2, Dv.twoE, Dv.twoB, hu, hs])
      have hs' : (a + b + c != 0) = true := by simpa using hs
      clear hs
      go_enter Try.func27, Try.ntmps27
      go_wp2_with (first | (go_at_call 67; refine (up3 _ _ _ _ _ _ rfl (by omega) (by omega)).mono ?_; rintro e w' ⟨rfl, rfl⟩))
      go_ret3
      exact ⟨ret3_int E.out.1.symm E.out.2.1.symm E.out.2.2.symm, (Below.refl _ _).alloc (Nat.le_refl _) _⟩

set_option maxHeartbeats 400000 in
theorem TurnBack_c (a b x : Int) (w : World) : Calls Try.prog 31 #[.int .i64 a, .int .i64 b, .int .i64 x] w fun e w' => e = .returned (.tuple #[.int .i64 (Dv.back1 a b x), .int .i64 (Dv.back2 a b x), .int .i64 (Dv.turnE a b x)]) ∧ Below w.heap.size w w' := by
  by_cases h : Dv.turnB a b x = true
  · have h' := h
    unfold Dv.turnB at h'
    rw [Bool.and_eq_true] at h'
    obtain ⟨hup, hang⟩ := h'
    have E := Lib.hid (show Dv.back1 a b x = Dv.turnX a b (-Dv.sine x) (Dv.cosine x) ∧ Dv.back2 a b x = Dv.turnY a b (-Dv.sine x) (Dv.cosine x) ∧ Dv.turnE a b x = 0 from by simp [Dv.back1, Dv.back2, Dv.turnE, h])
    obtain ⟨ha, hb⟩ := upB2.1 hup
    have h' : 0 ≤ x ∧ x < 65536 := by simpa [Dv.angB] using hang
    obtain ⟨h0, h1⟩ := h'
    have hs := Dv.sine_bd x h0 h1
    have hs' : -16384 ≤ -Dv.sine x ∧ -Dv.sine x ≤ 16384 := by omega
    have hc : -16384 ≤ Dv.cosine x ∧ Dv.cosine x ≤ 16384 := Dv.sine_bd _ (by omega) (by omega)
    clear h
    go_enter Try.func31, Try.ntmps31
    go_wp2_with (first | (go_at_call 67; refine (up2 _ _ _ _ _ rfl (by omega) (by omega)).mono ?_; rintro e w' ⟨rfl, rfl⟩) | (go_at_call 71; refine (angle_c _ _).mono ?_; rintro e w' ⟨rfl, rfl⟩) | (go_at_call 72; refine (sine_c _ _ h0 h1).mono ?_; rintro e w' ⟨rfl, rfl⟩) | (go_at_call 73; refine (cosine_c _ _ h0 h1).mono ?_; rintro e w' ⟨rfl, rfl⟩) | (go_at_call 86; refine (turned_c _ _ _ _ _ ha hb hs' hc).mono ?_; rintro e w' ⟨rfl, rfl⟩))
    go_ret3
    exact ⟨ret3_int E.out.1.symm E.out.2.1.symm E.out.2.2.symm, (Below.refl _ _).alloc (Nat.le_refl _) _⟩
  · have E := Lib.hid (show Dv.back1 a b x = 0 ∧ Dv.back2 a b x = 0 ∧ Dv.turnE a b x = 3 from by simp [Dv.back1, Dv.back2, Dv.turnE, h])
    by_cases hup : upB 1073741824 [a, b] = true
    · have hang : Dv.angB x = false := by
        cases hx : Dv.angB x
        · rfl
        · exact absurd (by rw [Dv.turnB, hup, hx]; rfl) h
      clear h
      go_enter Try.func31, Try.ntmps31
      go_wp2_with (first | (go_at_call 67; refine (up2 _ _ _ _ _ rfl (by omega) (by omega)).mono ?_; rintro e w' ⟨rfl, rfl⟩) | (go_at_call 71; refine (angle_c _ _).mono ?_; rintro e w' ⟨rfl, rfl⟩))
      go_ret3
      exact ⟨ret3_int E.out.1.symm E.out.2.1.symm E.out.2.2.symm, (Below.refl _ _).alloc (Nat.le_refl _) _⟩
    · have hup : upB 1073741824 [a, b] = false := by simpa using hup
      clear h
      go_enter Try.func31, Try.ntmps31
      go_wp2_with (first | (go_at_call 67; refine (up2 _ _ _ _ _ rfl (by omega) (by omega)).mono ?_; rintro e w' ⟨rfl, rfl⟩))
      go_ret3
      exact ⟨ret3_int E.out.1.symm E.out.2.1.symm E.out.2.2.symm, (Below.refl _ _).alloc (Nat.le_refl _) _⟩

theorem retPh {k : IntKind} {a b c a' b' c' e e' : Int} (h1 : a = a') (h2 : b = b') (h3 : c = c') (h5 : e = e') :
    Ending.returned (.tuple #[.agg #[.int k a, .int k b, .int k c], .int k e]) = .returned (.tuple #[.agg #[.int k a', .int k b', .int k c'], .int k e']) := by rw [h1, h2, h3, h5]

set_option maxHeartbeats 400000 in
theorem Phases_c (a b : Int) (w : World) : Calls Try.prog 33 #[.int .i64 a, .int .i64 b] w fun e w' => e = .returned (.tuple #[.agg #[.int .i64 (Dv.ph1 a b), .int .i64 (Dv.ph2 a b), .int .i64 (Dv.ph3 a b)], .int .i64 (Dv.phE a b)]) ∧ Below w.heap.size w w' := by
  cases hu : upB 1073741824 [a, b]
  · have E := Lib.hid (show Dv.ph1 a b = 0 ∧ Dv.ph2 a b = 0 ∧ Dv.ph3 a b = 0 ∧ Dv.phE a b = 3 from by simp [Dv.ph1, Dv.ph2, Dv.ph3, Dv.phE, Dv.phB, hu])
    go_enter Try.func33, Try.ntmps33
    go_wp2_with (go_at_call 67; refine (up2 _ _ _ _ _ (by simp) (by omega) (by omega)).mono ?_; rintro e w' ⟨rfl, rfl⟩)
    exact bodyPost_ret (v := .tuple #[.agg #[.int .i64 0, .int .i64 0, .int .i64 0], .int .i64 3]) (by simp [results, Try.results33, go_sem]) rfl ⟨retPh E.out.1.symm E.out.2.1.symm E.out.2.2.1.symm E.out.2.2.2.symm, ((Below.refl _ _).alloc (Nat.le_refl _) _).alloc (by simp) _⟩
  · obtain ⟨ba, bb⟩ := upB2.1 hu
    have hw := Dv.ediv_bd (b * 113512) 65536 (by omega) 121882616823808 (by omega) (by omega) (by omega)
    have E := Lib.hid (show Dv.ph1 a b = a ∧ Dv.ph2 a b = (b * 113512 / 65536 - a) / 2 ∧ Dv.ph3 a b = (-(b * 113512 / 65536) - a) / 2 ∧ Dv.phE a b = 0 from by simp [Dv.ph1, Dv.ph2, Dv.ph3, Dv.phE, Dv.phB, Dv.phW, hu])
    go_enter Try.func33, Try.ntmps33
    go_wp2_with (first | (go_at_call 67; refine (up2 _ _ _ _ _ (by simp) (by omega) (by omega)).mono ?_; rintro e w' ⟨rfl, rfl⟩) | (go_at_call 69; refine (div_c _ _ _ (by omega) (by omega) (by omega)).mono ?_; rintro e w' ⟨rfl, rfl⟩))
    exact bodyPost_ret (v := .tuple #[.agg #[.int .i64 a, .int .i64 ((b * 113512 / 65536 - a) / 2), .int .i64 ((-(b * 113512 / 65536) - a) / 2)], .int .i64 0]) (by simp [results, Try.results33, go_sem]) rfl ⟨retPh E.out.1.symm E.out.2.1.symm E.out.2.2.1.symm E.out.2.2.2.symm, ((Below.refl _ _).alloc (Nat.le_refl _) _).alloc (by simp) _⟩
end Go.Proofs.Ytcneohhfnnelgaa
namespace Go.Proofs.Ytcneohhfnnelgaa
open Go.RowKit
set_option linter.unusedVariables false

set_option maxHeartbeats 400000 in
theorem angleR_c (a : Int) (w : World) : Calls Try.prog 82 #[.int .i64 a] w fun e w' => e = .returned (.bool (Dv.angB a)) ∧ w = w' := by
  go_enter Try.func82, Try.ntmps82
  go_wp2_with (go_at_call 80; refine (within_c _ _ _ _).mono ?_; rintro e w' ⟨rfl, rfl⟩)
  go_ret
  exact ⟨ret_bool (by rw [Bool.eq_iff_iff]; simp [Dv.inB, Dv.angB]; omega), rfl⟩

set_option maxHeartbeats 400000 in
theorem sineR_lo (a : Int) (w : World) (h0 : 0 ≤ a) (h1 : a < 32768) : Calls Try.prog 83 #[.int .i64 a] w fun e w' => e = .returned (.int .i64 (Dv.sineP a)) ∧ w = w' := by
  obtain ⟨p0, p1⟩ := Dv.prod_bd a (by omega) (by omega)
  go_enter Try.func83, Try.ntmps83
  go_wp2_with (go_at_call 85; refine (floor_c _ _ _ (by omega) (by omega) (by omega)).mono ?_; rintro e w' ⟨rfl, rfl⟩)
  go_ret
  exact ⟨rfl, rfl⟩

set_option maxHeartbeats 400000 in
theorem sineR_c (a : Int) (w : World) (h0 : 0 ≤ a) (h1 : a < 65536) : Calls Try.prog 83 #[.int .i64 a] w fun e w' => e = .returned (.int .i64 (Dv.sine a)) ∧ w = w' := by
  by_cases h : 32768 ≤ a
  · obtain ⟨q0, q1⟩ := Dv.sineP_bd (a - 32768) (by omega) (by omega)
    have E := Lib.hid (show Dv.sine a = -Dv.sineP (a - 32768) from by unfold Dv.sine; rw [if_pos h])
    go_enter Try.func83, Try.ntmps83
    go_wp2_with (go_at_call 83; refine (sineR_lo (a - 32768) _ (by omega) (by omega)).mono ?_; rintro e w' ⟨rfl, rfl⟩)
    go_ret
    exact ⟨ret_int E.out.symm, rfl⟩
  · have E : Dv.sine a = Dv.sineP a := by unfold Dv.sine; rw [if_neg h]
    rw [E]
    exact sineR_lo a w h0 (by omega)

set_option maxHeartbeats 400000 in
theorem cosineR_c (a : Int) (w : World) (h0 : 0 ≤ a) (h1 : a < 65536) : Calls Try.prog 84 #[.int .i64 a] w fun e w' => e = .returned (.int .i64 (Dv.cosine a)) ∧ w = w' := by
  have hm0 : 0 ≤ (a + 16384) % 65536 := by omega
  have hm1 : (a + 16384) % 65536 < 65536 := by omega
  go_enter Try.func84, Try.ntmps84
  go_wp2_with (go_at_call 83; refine (sineR_c _ _ hm0 hm1).mono ?_; rintro e w' ⟨rfl, rfl⟩)
  go_ret
  exact ⟨rfl, rfl⟩

set_option maxHeartbeats 400000 in
theorem SinR_c (a : Int) (w : World) : Calls Try.prog 25 #[.int .i64 a] w fun e w' => e = .returned (.tuple #[.int .i64 (Dv.sinV a), .int .i64 (Dv.sinE a)]) ∧ w = w' := by
  by_cases h : Dv.angB a = true
  · have h' : 0 ≤ a ∧ a < 65536 := by simpa [Dv.angB] using h
    obtain ⟨h0, h1⟩ := h'
    have E := Lib.hid (show Dv.sinV a = Dv.sine a ∧ Dv.sinE a = 0 from by simp [Dv.sinV, Dv.sinE, h])
    go_enter Try.func25, Try.ntmps25
    go_wp2_with (first | (go_at_call 82; refine (angleR_c _ _).mono ?_; rintro e w' ⟨rfl, rfl⟩) | (go_at_call 83; refine (sineR_c _ _ h0 h1).mono ?_; rintro e w' ⟨rfl, rfl⟩))
    go_ret2
    exact ⟨ret2_int E.out.1.symm E.out.2.symm, rfl⟩
  · have h : Dv.angB a = false := by simpa using h
    have E := Lib.hid (show Dv.sinV a = 0 ∧ Dv.sinE a = 3 from by simp [Dv.sinV, Dv.sinE, h])
    go_enter Try.func25, Try.ntmps25
    go_wp2_with (first | (go_at_call 82; refine (angleR_c _ _).mono ?_; rintro e w' ⟨rfl, rfl⟩))
    go_ret2
    exact ⟨ret2_int E.out.1.symm E.out.2.symm, rfl⟩

set_option maxHeartbeats 400000 in
theorem CosR_c (a : Int) (w : World) : Calls Try.prog 26 #[.int .i64 a] w fun e w' => e = .returned (.tuple #[.int .i64 (Dv.cosV a), .int .i64 (Dv.sinE a)]) ∧ w = w' := by
  by_cases h : Dv.angB a = true
  · have h' : 0 ≤ a ∧ a < 65536 := by simpa [Dv.angB] using h
    obtain ⟨h0, h1⟩ := h'
    have E := Lib.hid (show Dv.cosV a = Dv.cosine a ∧ Dv.sinE a = 0 from by simp [Dv.cosV, Dv.sinE, h])
    go_enter Try.func26, Try.ntmps26
    go_wp2_with (first | (go_at_call 82; refine (angleR_c _ _).mono ?_; rintro e w' ⟨rfl, rfl⟩) | (go_at_call 84; refine (cosineR_c _ _ h0 h1).mono ?_; rintro e w' ⟨rfl, rfl⟩))
    go_ret2
    exact ⟨ret2_int E.out.1.symm E.out.2.symm, rfl⟩
  · have h : Dv.angB a = false := by simpa using h
    have E := Lib.hid (show Dv.cosV a = 0 ∧ Dv.sinE a = 3 from by simp [Dv.cosV, Dv.sinE, h])
    go_enter Try.func26, Try.ntmps26
    go_wp2_with (first | (go_at_call 82; refine (angleR_c _ _).mono ?_; rintro e w' ⟨rfl, rfl⟩))
    go_ret2
    exact ⟨ret2_int E.out.1.symm E.out.2.symm, rfl⟩

theorem up3_and (m a b c : Int) : upB m [a, b, c] = (upB m [a] && (upB m [b] && upB m [c])) := by simp [upB]
theorem up2_and (m a b : Int) : upB m [a, b] = (upB m [a] && upB m [b]) := by simp [upB]

set_option maxHeartbeats 400000 in
theorem TwoR_c (a b c : Int) (w : World) : Calls Try.prog 28 #[.int .i64 a, .int .i64 b, .int .i64 c] w fun e w' => e = .returned (.tuple #[.int .i64 (Dv.two1 a b c), .int .i64 (Dv.two2 a b c), .int .i64 (Dv.twoE a b c)]) ∧ w = w' := by
  cases hu : upB 1073741824 [a, b, c]
  · have E := Lib.hid (show Dv.two1 a b c = 0 ∧ Dv.two2 a b c = 0 ∧ Dv.twoE a b c = 3 from by simp [Dv.two1, Dv.two2, Dv.twoE, Dv.twoB, hu])
    rw [up3_and] at hu
    cases ha : upB 1073741824 [a]
    · go_enter Try.func28, Try.ntmps28
      go_wp2_with (go_at_call 79; refine (volt_c _ _).mono ?_; rintro e w' ⟨rfl, rfl⟩)
      go_ret3
      exact ⟨ret3_int E.out.1.symm E.out.2.1.symm E.out.2.2.symm, rfl⟩
    · cases hb : upB 1073741824 [b]
      · go_enter Try.func28, Try.ntmps28
        go_wp2_with (go_at_call 79; refine (volt_c _ _).mono ?_; rintro e w' ⟨rfl, rfl⟩)
        go_ret3
        exact ⟨ret3_int E.out.1.symm E.out.2.1.symm E.out.2.2.symm, rfl⟩
      · have hc : upB 1073741824 [c] = false := by simpa [ha, hb] using hu
        clear hu
        go_enter Try.func28, Try.ntmps28
        go_wp2_with (go_at_call 79; refine (volt_c _ _).mono ?_; rintro e w' ⟨rfl, rfl⟩)
        go_ret3
        exact ⟨ret3_int E.out.1.symm E.out.2.1.symm E.out.2.2.symm, rfl⟩
  · obtain ⟨ba, bb, bc⟩ := upB3.1 hu
    have ua := upB1.2 ba
    have ub := upB1.2 bb
    have uc := upB1.2 bc
    by_cases hs : a + b + c = 0
    · have E := Lib.hid (show Dv.two1 a b c = a ∧ Dv.two2 a b c = (a + 2 * b) * 37837 / 65536 ∧ Dv.twoE a b c = 0 from by simp [Dv.two1, Dv.two2, Dv.twoE, Dv.twoB, hu, hs])
      have hs' : (a + b + c != 0) = false := by simpa using hs
      clear hs hu
      go_enter Try.func28, Try.ntmps28
      go_wp2_with (first | (go_at_call 79; refine (volt_c _ _).mono ?_; rintro e w' ⟨rfl, rfl⟩) | (go_at_call 85; refine (floor_c _ _ _ (by omega) (by omega) (by omega)).mono ?_; rintro e w' ⟨rfl, rfl⟩))
      go_ret3
      exact ⟨ret3_int E.out.1.symm E.out.2.1.symm E.out.2.2.symm, rfl⟩
    · have E := Lib.hid (show Dv.two1 a b c = 0 ∧ Dv.two2 a b c = 0 ∧ Dv.twoE a b c = 20 from by simp [Dv.two1, Dv.two2, Dv.twoE, Dv.twoB, hu, hs])
      have hs' : (a + b + c != 0) = true := by simpa using hs
      clear hs hu
      go_enter Try.func28, Try.ntmps28
      go_wp2_with (first | (go_at_call 79; refine (volt_c _ _).mono ?_; rintro e w' ⟨rfl, rfl⟩))
      go_ret3
      exact ⟨ret3_int E.out.1.symm E.out.2.1.symm E.out.2.2.symm, rfl⟩

theorem turn_cases {a b x : Int} (h : Dv.turnB a b x = false) : upB 1073741824 [a] = false ∨ (upB 1073741824 [a] = true ∧ upB 1073741824 [b] = false) ∨ (upB 1073741824 [a] = true ∧ upB 1073741824 [b] = true ∧ Dv.angB x = false) := by
  unfold Dv.turnB at h
  rw [up2_and] at h
  cases ha : upB 1073741824 [a] <;> cases hb : upB 1073741824 [b] <;> cases hx : Dv.angB x <;> simp_all

set_option maxHeartbeats 400000 in
theorem TurnToR_c (a b x : Int) (w : World) : Calls Try.prog 30 #[.int .i64 a, .int .i64 b, .int .i64 x] w fun e w' => e = .returned (.tuple #[.int .i64 (Dv.turnTo1 a b x), .int .i64 (Dv.turnTo2 a b x), .int .i64 (Dv.turnE a b x)]) ∧ w = w' := by
  cases h : Dv.turnB a b x
  · have E := Lib.hid (show Dv.turnTo1 a b x = 0 ∧ Dv.turnTo2 a b x = 0 ∧ Dv.turnE a b x = 3 from by simp [Dv.turnTo1, Dv.turnTo2, Dv.turnE, h])
    rcases turn_cases h with h1 | ⟨h1, h2⟩ | ⟨h1, h2, h3⟩
    all_goals
      clear h
      go_enter Try.func30, Try.ntmps30
      go_wp2_with (first | (go_at_call 79; refine (volt_c _ _).mono ?_; rintro e w' ⟨rfl, rfl⟩) | (go_at_call 82; refine (angleR_c _ _).mono ?_; rintro e w' ⟨rfl, rfl⟩))
      go_ret3
      exact ⟨ret3_int E.out.1.symm E.out.2.1.symm E.out.2.2.symm, rfl⟩
  · have h' := h
    unfold Dv.turnB at h'
    rw [Bool.and_eq_true] at h'
    obtain ⟨hup, hang⟩ := h'
    have E := Lib.hid (show Dv.turnTo1 a b x = Dv.turnX a b (Dv.sine x) (Dv.cosine x) ∧ Dv.turnTo2 a b x = Dv.turnY a b (Dv.sine x) (Dv.cosine x) ∧ Dv.turnE a b x = 0 from by simp [Dv.turnTo1, Dv.turnTo2, Dv.turnE, h])
    obtain ⟨ha, hb⟩ := upB2.1 hup
    have ua := upB1.2 ha
    have ub := upB1.2 hb
    have h' : 0 ≤ x ∧ x < 65536 := by simpa [Dv.angB] using hang
    obtain ⟨h0, h1⟩ := h'
    have hs := Dv.sine_bd x h0 h1
    have hc : -16384 ≤ Dv.cosine x ∧ Dv.cosine x ≤ 16384 := Dv.sine_bd _ (by omega) (by omega)
    obtain ⟨a0, a1⟩ := Dv.mul_bd _ _ ha hc
    obtain ⟨b0, b1⟩ := Dv.mul_bd _ _ hb hs
    obtain ⟨c0, c1⟩ := Dv.mul_bd _ _ hb hc
    obtain ⟨d0, d1⟩ := Dv.mul_bd _ _ ha hs
    clear h hup
    go_enter Try.func30, Try.ntmps30
    go_wp2_with (first | (go_at_call 79; refine (volt_c _ _).mono ?_; rintro e w' ⟨rfl, rfl⟩) | (go_at_call 82; refine (angleR_c _ _).mono ?_; rintro e w' ⟨rfl, rfl⟩) | (go_at_call 83; refine (sineR_c _ _ h0 h1).mono ?_; rintro e w' ⟨rfl, rfl⟩) | (go_at_call 84; refine (cosineR_c _ _ h0 h1).mono ?_; rintro e w' ⟨rfl, rfl⟩) | (go_at_call 85; refine (floor_c _ _ _ (by omega) (by omega) (by omega)).mono ?_; rintro e w' ⟨rfl, rfl⟩))
    go_ret3
    exact ⟨ret3_int E.out.1.symm E.out.2.1.symm E.out.2.2.symm, rfl⟩

set_option maxHeartbeats 400000 in
theorem TurnBackR_c (a b x : Int) (w : World) : Calls Try.prog 32 #[.int .i64 a, .int .i64 b, .int .i64 x] w fun e w' => e = .returned (.tuple #[.int .i64 (Dv.back1 a b x), .int .i64 (Dv.back2 a b x), .int .i64 (Dv.turnE a b x)]) ∧ w = w' := by
  cases h : Dv.turnB a b x
  · have E := Lib.hid (show Dv.back1 a b x = 0 ∧ Dv.back2 a b x = 0 ∧ Dv.turnE a b x = 3 from by simp [Dv.back1, Dv.back2, Dv.turnE, h])
    rcases turn_cases h with h1 | ⟨h1, h2⟩ | ⟨h1, h2, h3⟩
    all_goals
      clear h
      go_enter Try.func32, Try.ntmps32
      go_wp2_with (first | (go_at_call 79; refine (volt_c _ _).mono ?_; rintro e w' ⟨rfl, rfl⟩) | (go_at_call 82; refine (angleR_c _ _).mono ?_; rintro e w' ⟨rfl, rfl⟩))
      go_ret3
      exact ⟨ret3_int E.out.1.symm E.out.2.1.symm E.out.2.2.symm, rfl⟩
  · have h' := h
    unfold Dv.turnB at h'
    rw [Bool.and_eq_true] at h'
    obtain ⟨hup, hang⟩ := h'
    have E := Lib.hid (show Dv.back1 a b x = (a * Dv.cosine x - b * Dv.sine x) / 16384 ∧ Dv.back2 a b x = (a * Dv.sine x + b * Dv.cosine x) / 16384 ∧ Dv.turnE a b x = 0 from by
      refine ⟨?_, ?_, by simp [Dv.turnE, h]⟩
      · simp only [Dv.back1, h, if_true, Dv.turnX]; rw [Int.mul_neg, ← Int.sub_eq_add_neg]
      · simp only [Dv.back2, h, if_true, Dv.turnY]; rw [Int.mul_neg, Int.sub_neg, Int.add_comm])
    obtain ⟨ha, hb⟩ := upB2.1 hup
    have ua := upB1.2 ha
    have ub := upB1.2 hb
    have h' : 0 ≤ x ∧ x < 65536 := by simpa [Dv.angB] using hang
    obtain ⟨h0, h1⟩ := h'
    have hs := Dv.sine_bd x h0 h1
    have hc : -16384 ≤ Dv.cosine x ∧ Dv.cosine x ≤ 16384 := Dv.sine_bd _ (by omega) (by omega)
    obtain ⟨a0, a1⟩ := Dv.mul_bd _ _ ha hc
    obtain ⟨b0, b1⟩ := Dv.mul_bd _ _ hb hs
    obtain ⟨c0, c1⟩ := Dv.mul_bd _ _ hb hc
    obtain ⟨d0, d1⟩ := Dv.mul_bd _ _ ha hs
    clear h hup
    go_enter Try.func32, Try.ntmps32
    go_wp2_with (first | (go_at_call 79; refine (volt_c _ _).mono ?_; rintro e w' ⟨rfl, rfl⟩) | (go_at_call 82; refine (angleR_c _ _).mono ?_; rintro e w' ⟨rfl, rfl⟩) | (go_at_call 83; refine (sineR_c _ _ h0 h1).mono ?_; rintro e w' ⟨rfl, rfl⟩) | (go_at_call 84; refine (cosineR_c _ _ h0 h1).mono ?_; rintro e w' ⟨rfl, rfl⟩) | (go_at_call 85; refine (floor_c _ _ _ (by omega) (by omega) (by omega)).mono ?_; rintro e w' ⟨rfl, rfl⟩))
    go_ret3
    exact ⟨ret3_int E.out.1.symm E.out.2.1.symm E.out.2.2.symm, rfl⟩

set_option maxHeartbeats 400000 in
theorem PhasesR_c (a b : Int) (w : World) : Calls Try.prog 34 #[.int .i64 a, .int .i64 b] w fun e w' => e = .returned (.tuple #[.agg #[.int .i64 (Dv.ph1 a b), .int .i64 (Dv.ph2 a b), .int .i64 (Dv.ph3 a b)], .int .i64 (Dv.phE a b)]) ∧ Below w.heap.size w w' := by
  cases hu : upB 1073741824 [a, b]
  · have E := Lib.hid (show Dv.ph1 a b = 0 ∧ Dv.ph2 a b = 0 ∧ Dv.ph3 a b = 0 ∧ Dv.phE a b = 3 from by simp [Dv.ph1, Dv.ph2, Dv.ph3, Dv.phE, Dv.phB, hu])
    rw [up2_and] at hu
    cases ha : upB 1073741824 [a]
    · go_enter Try.func34, Try.ntmps34
      go_wp2_with (go_at_call 79; refine (volt_c _ _).mono ?_; rintro e w' ⟨rfl, rfl⟩)
      exact bodyPost_ret (v := .tuple #[.agg #[.int .i64 0, .int .i64 0, .int .i64 0], .int .i64 3]) (by simp [results, Try.results34, go_sem]) rfl ⟨retPh E.out.1.symm E.out.2.1.symm E.out.2.2.1.symm E.out.2.2.2.symm, ((Below.refl _ _).alloc (Nat.le_refl _) _)⟩
    · have hb : upB 1073741824 [b] = false := by simpa [ha] using hu
      clear hu
      go_enter Try.func34, Try.ntmps34
      go_wp2_with (go_at_call 79; refine (volt_c _ _).mono ?_; rintro e w' ⟨rfl, rfl⟩)
      exact bodyPost_ret (v := .tuple #[.agg #[.int .i64 0, .int .i64 0, .int .i64 0], .int .i64 3]) (by simp [results, Try.results34, go_sem]) rfl ⟨retPh E.out.1.symm E.out.2.1.symm E.out.2.2.1.symm E.out.2.2.2.symm, ((Below.refl _ _).alloc (Nat.le_refl _) _)⟩
  · obtain ⟨ba, bb⟩ := upB2.1 hu
    have ua := upB1.2 ba
    have ub := upB1.2 bb
    have hw := Dv.ediv_bd (b * 113512) 65536 (by omega) 121882616823808 (by omega) (by omega) (by omega)
    have E := Lib.hid (show Dv.ph1 a b = a ∧ Dv.ph2 a b = (b * 113512 / 65536 - a) / 2 ∧ Dv.ph3 a b = (-(b * 113512 / 65536) - a) / 2 ∧ Dv.phE a b = 0 from by simp [Dv.ph1, Dv.ph2, Dv.ph3, Dv.phE, Dv.phB, Dv.phW, hu])
    clear hu
    go_enter Try.func34, Try.ntmps34
    go_wp2_with (first | (go_at_call 79; refine (volt_c _ _).mono ?_; rintro e w' ⟨rfl, rfl⟩) | (go_at_call 85; refine (floor_c _ _ _ (by omega) (by omega) (by omega)).mono ?_; rintro e w' ⟨rfl, rfl⟩))
    exact bodyPost_ret (v := .tuple #[.agg #[.int .i64 a, .int .i64 ((b * 113512 / 65536 - a) / 2), .int .i64 ((-(b * 113512 / 65536) - a) / 2)], .int .i64 0]) (by simp [results, Try.results34, go_sem]) rfl ⟨retPh E.out.1.symm E.out.2.1.symm E.out.2.2.1.symm E.out.2.2.2.symm, ((Below.refl _ _).alloc (Nat.le_refl _) _)⟩

namespace Dv
def busB (u : Int) : Bool := inB u 1 1073741824
def busE (u : Int) : Int := if busB u = true then 0 else 3
end Dv
set_option maxHeartbeats 400000 in
theorem busR_c (u : Int) (w : World) : Calls Try.prog 87 #[.int .i64 u] w fun e w' => e = .returned (.int .i64 (Dv.busE u)) ∧ w = w' := by
  cases h : Dv.inB u 1 1073741824
  all_goals
    have E := Lib.hid (show Dv.busE u = _ from by unfold Dv.busE Dv.busB; rw [h])
    go_enter Try.func87, Try.ntmps87
    go_wp2_with (go_at_call 80; refine (within_c _ _ _ _).mono ?_; rintro e w' ⟨rfl, rfl⟩)
    go_ret
    exact ⟨ret_int E.out.symm, rfl⟩
end Go.Proofs.Ytcneohhfnnelgaa
namespace Go.Proofs.Ytcneohhfnnelgaa
namespace Dv

/-- a duty without the clip -/
def duF (lo hi u x : Int) : Int := (2 * x - hi - lo + u) * 65536 / (2 * u)

theorem duF_bd {lo hi u x : Int} (hu : 1 ≤ u) (hw : hi - lo ≤ u) (h0 : lo ≤ x) (h1 : x ≤ hi) : 0 ≤ duF lo hi u x ∧ duF lo hi u x ≤ 65536 := by
  unfold duF
  refine ⟨Int.ediv_nonneg (by omega) (by omega), ?_⟩
  have h : (2 * x - hi - lo + u) * 65536 / (2 * u) < 65537 := Int.ediv_lt_of_lt_mul (by omega) (by omega)
  omega
theorem duD_eq {lo hi u x : Int} (hu : 1 ≤ u) (hw : hi - lo ≤ u) (h0 : lo ≤ x) (h1 : x ≤ hi) : duD lo hi u x = duF lo hi u x := by
  have := duF_bd hu hw h0 h1
  unfold duD clip
  unfold duF at *
  omega
/-- the remainder of a duty -/
theorem duF_rem (lo hi u x : Int) (hu : 1 ≤ u) : ∃ r, 0 ≤ r ∧ r < 2 * u ∧ duF lo hi u x * (2 * u) + r = (2 * x - hi - lo + u) * 65536 := by
  unfold duF
  refine ⟨(2 * x - hi - lo + u) * 65536 % (2 * u), Int.emod_nonneg _ (by omega), Int.emod_lt_of_pos _ (by omega), ?_⟩
  have := Int.mul_ediv_add_emod ((2 * x - hi - lo + u) * 65536) (2 * u)
  rw [Int.mul_comm] at this
  exact this
theorem duF_mono {lo hi u x y : Int} (hu : 1 ≤ u) (h : x ≤ y) : duF lo hi u x ≤ duF lo hi u y := by
  unfold duF
  exact Int.ediv_le_ediv (by omega) (by omega)
theorem duF_ends {lo hi u : Int} (hu : 1 ≤ u) : duF lo hi u lo + duF lo hi u hi = 65536 ∨ duF lo hi u lo + duF lo hi u hi = 65535 := by
  obtain ⟨r, r0, r1, hr⟩ := duF_rem lo hi u lo hu
  obtain ⟨s, s0, s1, hs⟩ := duF_rem lo hi u hi hu
  generalize duF lo hi u lo = A at *
  generalize duF lo hi u hi = B at *
  have e : (A + B) * (2 * u) + (r + s) = 65536 * (2 * u) := by rw [Int.add_mul]; omega
  have h1 : (A + B) * (2 * u) ≤ 65536 * (2 * u) := by omega
  have h2 : 65534 * (2 * u) < (A + B) * (2 * u) := by omega
  have h3 : A + B ≤ 65536 := Int.le_of_mul_le_mul_right h1 (by omega)
  have h4 : 65534 < A + B := Int.lt_of_mul_lt_mul_right h2 (by omega)
  omega
theorem duF_diff {lo hi u x y : Int} (hu : 1 ≤ u) : (duF lo hi u x - duF lo hi u y) * u - (x - y) * 65536 < u ∧ -u < (duF lo hi u x - duF lo hi u y) * u - (x - y) * 65536 := by
  obtain ⟨r, r0, r1, hr⟩ := duF_rem lo hi u x hu
  obtain ⟨s, s0, s1, hs⟩ := duF_rem lo hi u y hu
  generalize duF lo hi u x = A at *
  generalize duF lo hi u y = B at *
  have e1 : A * (2 * u) = 2 * (A * u) := by rw [Int.mul_left_comm]
  have e2 : B * (2 * u) = 2 * (B * u) := by rw [Int.mul_left_comm]
  rw [Int.sub_mul]
  omega
theorem cut_span {x y u : Int} (hw : x < y) : y * u / (y - x) = x * u / (y - x) + u := by
  have e : y * u = x * u + u * (y - x) := by
    have : y = x + (y - x) := by omega
    calc y * u = (x + (y - x)) * u := by rw [← this]
      _ = x * u + (y - x) * u := Int.add_mul _ _ _
      _ = x * u + u * (y - x) := by rw [Int.mul_comm (y - x) u]
  rw [e, Int.add_mul_ediv_right _ _ (by omega)]
theorem span_mono {x y u d : Int} (hu : 0 ≤ u) (hd : 0 < d) (h : x ≤ y) : x * u / d ≤ y * u / d :=
  Int.ediv_le_ediv hd (Int.mul_le_mul_of_nonneg_right h hu)

theorem mn3_eq {A B C L : Int} (h1 : L ≤ A) (h2 : L ≤ B) (h3 : L ≤ C) (h : L = A ∨ L = B ∨ L = C) : mn3 A B C = L := by unfold mn3; omega
theorem mx3_eq {A B C L : Int} (h1 : A ≤ L) (h2 : B ≤ L) (h3 : C ≤ L) (h : L = A ∨ L = B ∨ L = C) : mx3 A B C = L := by unfold mx3; omega
/-- what is said of duties -/
def DuGood (a b c u A B C : Int) (cut : Bool) : Prop :=
  0 ≤ mn3 A B C ∧ mx3 A B C ≤ 65536 ∧ (mx3 A B C + mn3 A B C = 65536 ∨ mx3 A B C + mn3 A B C = 65535) ∧
  (cut = false → ∀ x y X Y, (x = a ∧ X = A ∨ x = b ∧ X = B ∨ x = c ∧ X = C) → (y = a ∧ Y = A ∨ y = b ∧ Y = B ∨ y = c ∧ Y = C) → (X - Y) * u - (x - y) * 65536 < u ∧ -u < (X - Y) * u - (x - y) * 65536)

theorem good_of {a b c lo hi u : Int} (hu : 1 ≤ u) (hw : hi - lo ≤ u) (hlo : lo = mn3 a b c) (hhi : hi = mx3 a b c) :
    0 ≤ mn3 (duD lo hi u a) (duD lo hi u b) (duD lo hi u c) ∧ mx3 (duD lo hi u a) (duD lo hi u b) (duD lo hi u c) ≤ 65536 ∧
    (mx3 (duD lo hi u a) (duD lo hi u b) (duD lo hi u c) + mn3 (duD lo hi u a) (duD lo hi u b) (duD lo hi u c) = 65536 ∨ mx3 (duD lo hi u a) (duD lo hi u b) (duD lo hi u c) + mn3 (duD lo hi u a) (duD lo hi u b) (duD lo hi u c) = 65535) := by
  obtain ⟨n1, n2, n3, n4⟩ := mn3_bd a b c
  obtain ⟨m1, m2, m3, m4⟩ := mx3_bd a b c
  rw [← hlo] at n1 n2 n3 n4
  rw [← hhi] at m1 m2 m3 m4
  rw [duD_eq hu hw n1 m1, duD_eq hu hw n2 m2, duD_eq hu hw n3 m3]
  have ba := duF_bd hu hw n1 m1
  have bb := duF_bd hu hw n2 m2
  have bc := duF_bd hu hw n3 m3
  have la := duF_mono (lo := lo) (hi := hi) hu n1
  have lb := duF_mono (lo := lo) (hi := hi) hu n2
  have lc := duF_mono (lo := lo) (hi := hi) hu n3
  have ha := duF_mono (lo := lo) (hi := hi) hu m1
  have hb := duF_mono (lo := lo) (hi := hi) hu m2
  have hc := duF_mono (lo := lo) (hi := hi) hu m3
  have he := duF_ends (lo := lo) (hi := hi) hu
  have el : mn3 (duF lo hi u a) (duF lo hi u b) (duF lo hi u c) = duF lo hi u lo := by
    exact mn3_eq la lb lc (by rcases n4 with e | e | e <;> simp [e])
  have eh : mx3 (duF lo hi u a) (duF lo hi u b) (duF lo hi u c) = duF lo hi u hi := by
    exact mx3_eq ha hb hc (by rcases m4 with e | e | e <;> simp [e])
  rw [el, eh]
  have hlh : lo ≤ hi := by omega
  have b1 := duF_bd (x := lo) hu hw (Int.le_refl _) hlh
  have b2 := duF_bd (x := hi) hu hw hlh (Int.le_refl _)
  omega

theorem du_good {a b c u : Int} (hR : duR a b c u = true) : DuGood a b c u (duV a b c u a) (duV a b c u b) (duV a b c u c) (duC a b c u) := by
  have h : upB 1073741824 [a, b, c] = true ∧ (1 ≤ u ∧ u ≤ 1073741824) := by simpa [duR] using hR
  obtain ⟨_, hu, _⟩ := h
  have hV : ∀ x, duV a b c u x = duD (duLo a b c u) (duHi a b c u) u (duP a b c u x) := fun x => by simp [duV, hR]
  obtain ⟨n1, n2, n3, n4⟩ := mn3_bd a b c
  obtain ⟨m1, m2, m3, m4⟩ := mx3_bd a b c
  by_cases hc : u < mx3 a b c - mn3 a b c
  · have hC : duCut a b c u = true := by simpa [duCut] using hc
    have hP : ∀ x, duP a b c u x = x * u / (mx3 a b c - mn3 a b c) := by intro x; simp [duP, hC]
    have hlo : duLo a b c u = mn3 a b c * u / (mx3 a b c - mn3 a b c) := by
      unfold duLo
      rw [hP, hP, hP]
      have la := span_mono (u := u) (d := mx3 a b c - mn3 a b c) (by omega) (by omega) n1
      have lb := span_mono (u := u) (d := mx3 a b c - mn3 a b c) (by omega) (by omega) n2
      have lc := span_mono (u := u) (d := mx3 a b c - mn3 a b c) (by omega) (by omega) n3
      exact mn3_eq la lb lc (by rcases n4 with e | e | e <;> simp [e])
    have hhi : duHi a b c u = mx3 a b c * u / (mx3 a b c - mn3 a b c) := by
      unfold duHi
      rw [hP, hP, hP]
      have la := span_mono (u := u) (d := mx3 a b c - mn3 a b c) (by omega) (by omega) m1
      have lb := span_mono (u := u) (d := mx3 a b c - mn3 a b c) (by omega) (by omega) m2
      have lc := span_mono (u := u) (d := mx3 a b c - mn3 a b c) (by omega) (by omega) m3
      exact mx3_eq la lb lc (by rcases m4 with e | e | e <;> simp [e])
    have hw : duHi a b c u - duLo a b c u ≤ u := by
      rw [hlo, hhi, cut_span (by omega)]
      omega
    rw [hV, hV, hV]
    obtain ⟨g1, g2, g3⟩ := good_of (a := duP a b c u a) (b := duP a b c u b) (c := duP a b c u c) hu hw rfl rfl
    exact ⟨g1, g2, g3, fun h => by simp [duC, hR, hC] at h⟩
  · have hC : duCut a b c u = false := by simpa [duCut] using hc
    have hP : ∀ x, duP a b c u x = x := by intro x; simp [duP, hC]
    have hlo : duLo a b c u = mn3 a b c := by unfold duLo; rw [hP, hP, hP]
    have hhi : duHi a b c u = mx3 a b c := by unfold duHi; rw [hP, hP, hP]
    rw [hV, hV, hV, hP, hP, hP, hlo, hhi]
    have hw : mx3 a b c - mn3 a b c ≤ u := by omega
    obtain ⟨g1, g2, g3⟩ := good_of (a := a) (b := b) (c := c) hu hw rfl rfl
    refine ⟨g1, g2, g3, fun _ x y X Y hx hy => ?_⟩
    have hX : X = duF (mn3 a b c) (mx3 a b c) u x := by
      rcases hx with ⟨rfl, rfl⟩ | ⟨rfl, rfl⟩ | ⟨rfl, rfl⟩
      · exact duD_eq hu hw n1 m1
      · exact duD_eq hu hw n2 m2
      · exact duD_eq hu hw n3 m3
    have hY : Y = duF (mn3 a b c) (mx3 a b c) u y := by
      rcases hy with ⟨rfl, rfl⟩ | ⟨rfl, rfl⟩ | ⟨rfl, rfl⟩
      · exact duD_eq hu hw n1 m1
      · exact duD_eq hu hw n2 m2
      · exact duD_eq hu hw n3 m3
    rw [hX, hY]
    exact duF_diff hu
end Dv
end Go.Proofs.Ytcneohhfnnelgaa
namespace Go.Proofs.Ytcneohhfnnelgaa
open Go.RowKit
set_option linter.unusedVariables false

theorem max3_run (ts : Array TypeId) (t : TypeId) (x y z : Int) (w : World) : (Builtin.max_ ts t #[.int .i64 x, .int .i64 y, .int .i64 z]).run Try.prog w = .ok (.int .i64 (Dv.mx3 x y z)) w := by
  rw [run_max_int3]
  congr 2
  unfold Dv.mx3
  by_cases h : x < y
  · rw [if_pos h]; split <;> omega
  · rw [if_neg h]; split <;> omega
theorem min3_run (ts : Array TypeId) (t : TypeId) (x y z : Int) (w : World) : (Builtin.min_ ts t #[.int .i64 x, .int .i64 y, .int .i64 z]).run Try.prog w = .ok (.int .i64 (Dv.mn3 x y z)) w := by
  rw [run_min_int3]
  congr 2
  unfold Dv.mn3
  by_cases h : y < x
  · rw [if_pos h]; split <;> omega
  · rw [if_neg h]; split <;> omega

/-- what Duties returns, as a case of the law needs it -/
def DutiesIs (a b c u A B C : Int) (cut : Bool) (x : Int) : Prop := ∀ w : World, Calls Try.prog 18 #[.agg #[.int .i64 a, .int .i64 b, .int .i64 c], .int .i64 u] w fun en w' => en = .returned (.tuple #[.agg #[.int .i64 A, .int .i64 B, .int .i64 C], .bool cut, .int .i64 x]) ∧ Below w.heap.size w w'

set_option maxHeartbeats 1000000 in
theorem duties_refused (a b c u : Int) (H : DutiesIs a b c u 0 0 0 false 3) (w : World) :
    Calls Try.prog 3 #[.agg #[.int .i64 a, .int .i64 b, .int .i64 c], .int .i64 u] w fun e w' => e = .returned (.bool true) ∧ Below w.heap.size w w' := by
  go_enter Try.func3, Try.ntmps3
  go_wp2_with fail
  refine (H _).mono ?_
  rintro en w1 ⟨rfl, hb1⟩
  have HB := Lib.hid (show Below w.heap.size w w1 from ((Below.refl _ _).alloc (Nat.le_refl _) _).trans (hb1.mono (by simp)))
  have hz := HB.out.size
  clear hb1
  go_wp2_with (go_at_call 19; refine (known_c _).mono ?_; rintro e w2 ⟨rfl, hb2⟩)
  go_ret
  exact ⟨rfl, HB.out.trans (((Below.refl _ _).alloc hz _).trans (hb2.mono (by simp; omega)))⟩

set_option maxHeartbeats 1000000 in
theorem duties_cut (a b c u A B C : Int) (H : DutiesIs a b c u A B C true 0) (w : World) (g1 : 0 ≤ Dv.mn3 A B C) (g2 : Dv.mx3 A B C ≤ 65536) (g3 : Dv.mx3 A B C + Dv.mn3 A B C = 65536 ∨ Dv.mx3 A B C + Dv.mn3 A B C = 65535)
    (h1 : -1073741824 ≤ Dv.mn3 a b c) (h2 : Dv.mx3 a b c ≤ 1073741824) (hcu : u < Dv.mx3 a b c - Dv.mn3 a b c) (h3 : Dv.mn3 a b c ≤ Dv.mx3 a b c) (h4 : Dv.mn3 A B C ≤ Dv.mx3 A B C) :
    Calls Try.prog 3 #[.agg #[.int .i64 a, .int .i64 b, .int .i64 c], .int .i64 u] w fun e w' => e = .returned (.bool true) ∧ Below w.heap.size w w' := by
  rcases g3 with g3 | g3
  all_goals
    go_enter Try.func3, Try.ntmps3
    go_wp2_with fail
    refine (H _).mono ?_
    rintro en w1 ⟨rfl, hb1⟩
    obtain ⟨hc, hf⟩ := bcell hb1
    have c0 : w1.cell? ⟨w.heap.size, 0, none⟩ = some (.int .i64 a) := (hc _ _ (by simp)).trans (by go_simp)
    have c1 : w1.cell? ⟨w.heap.size, 1, none⟩ = some (.int .i64 b) := (hc _ _ (by simp)).trans (by go_simp)
    have c2 : w1.cell? ⟨w.heap.size, 2, none⟩ = some (.int .i64 c) := (hc _ _ (by simp)).trans (by go_simp)
    have HB := Lib.hid (show Below w.heap.size w w1 from ((Below.refl _ _).alloc (Nat.le_refl _) _).trans (hb1.mono (by simp)))
    have hz := HB.out.size
    have hz2 : w.heap.size < w1.heap.size := by have := hb1.size; simp at this; omega
    clear hc hf hb1
    have hmx := fun ts t W => max3_run ts t A B C W
    have hmn := fun ts t W => min3_run ts t A B C W
    have pmx := fun ts t W => max3_run ts t a b c W
    have pmn := fun ts t W => min3_run ts t a b c W
    go_wp2_with fail
    go_quiet (fail)
    go_wp2_with fail
    refine wp_loop_rounds 1 ?_
    rw [rounds_succ]
    go_wp2_with (go_at_call 19; refine (known_c _).mono ?_; rintro e w2 ⟨rfl, hb2⟩)
    go_ret
    exact ⟨rfl, HB.out.trans ((below_drewN ((Below.refl _ _).alloc hz _) _).trans (hb2.mono (by simp; omega)))⟩

def pick3 (a b c : Int) (j : Nat) : Int := if j = 0 then a else if j = 1 then b else c
theorem pick3_or (a b c : Int) (j : Nat) (h : j < 3) : (pick3 a b c j = a ∧ j = 0) ∨ (pick3 a b c j = b ∧ j = 1) ∨ (pick3 a b c j = c ∧ j = 2) := by
  unfold pick3
  rcases j with _ | _ | _ | j
  · simp
  · simp
  · simp
  · omega
/-- what the loops know of the world -/
def DuW (w : World) (g g1 : Nat) (a b c A B C : Int) (wr : World) : Prop :=
  (∀ j, j < 3 → wr.cell? ⟨g, j, none⟩ = some (.int .i64 (pick3 a b c j))) ∧ (∀ j, j < 3 → wr.cell? ⟨g1, j, none⟩ = some (.int .i64 (pick3 A B C j))) ∧ Below w.heap.size w wr
theorem DuW.drewN {w : World} {g g1 : Nat} {a b c A B C : Int} {wr : World} (h : DuW w g g1 a b c A B C wr) (n : Nat) : DuW w g g1 a b c A B C (wr.drewN n) :=
  ⟨fun j hj => by have := h.1 j hj; simpa using this, fun j hj => by have := h.2.1 j hj; simpa using this, below_drewN h.2.2 n⟩
theorem duW_mk {w : World} {g g1 : Nat} {a b c A B C : Int} {wr : World} (c0 : wr.cell? ⟨g, 0, none⟩ = some (.int .i64 a)) (c1 : wr.cell? ⟨g, 1, none⟩ = some (.int .i64 b)) (c2 : wr.cell? ⟨g, 2, none⟩ = some (.int .i64 c))
    (d0 : wr.cell? ⟨g1, 0, none⟩ = some (.int .i64 A)) (d1 : wr.cell? ⟨g1, 1, none⟩ = some (.int .i64 B)) (d2 : wr.cell? ⟨g1, 2, none⟩ = some (.int .i64 C)) (hb : Below w.heap.size w wr) : DuW w g g1 a b c A B C wr := by
  refine ⟨fun j hj => ?_, fun j hj => ?_, hb⟩
  · rcases j with _ | _ | _ | j
    · exact c0
    · exact c1
    · exact c2
    · omega
  · rcases j with _ | _ | _ | j
    · exact d0
    · exact d1
    · exact d2
    · omega

set_option maxHeartbeats 1000000 in
theorem duties_plain (a b c u A B C : Int) (H : DutiesIs a b c u A B C false 0) (w : World) (hu : 1 ≤ u) (hu2 : u ≤ 1073741824) (g1 : 0 ≤ Dv.mn3 A B C) (g2 : Dv.mx3 A B C ≤ 65536) (g3 : Dv.mx3 A B C + Dv.mn3 A B C = 65536 ∨ Dv.mx3 A B C + Dv.mn3 A B C = 65535)
    (h1 : -1073741824 ≤ Dv.mn3 a b c) (h2 : Dv.mx3 a b c ≤ 1073741824) (hcu : ¬ u < Dv.mx3 a b c - Dv.mn3 a b c) (h3 : Dv.mn3 a b c ≤ Dv.mx3 a b c) (h4 : Dv.mn3 A B C ≤ Dv.mx3 A B C)
    (hP : Hid (∀ j, j < 3 → -1073741824 ≤ pick3 a b c j ∧ pick3 a b c j ≤ 1073741824)) (hD : Hid (∀ j, j < 3 → 0 ≤ pick3 A B C j ∧ pick3 A B C j ≤ 65536))
    (hX : Hid (∀ i k, i < 3 → k < 3 → (pick3 A B C i - pick3 A B C k) * u - (pick3 a b c i - pick3 a b c k) * 65536 < u ∧ -u < (pick3 A B C i - pick3 A B C k) * u - (pick3 a b c i - pick3 a b c k) * 65536)) :
    Calls Try.prog 3 #[.agg #[.int .i64 a, .int .i64 b, .int .i64 c], .int .i64 u] w fun e w' => e = .returned (.bool true) ∧ Below w.heap.size w w' := by
  rcases g3 with g3 | g3
  all_goals
    go_enter Try.func3, Try.ntmps3
    go_wp2_with fail
    refine (H _).mono ?_
    rintro en w1 ⟨rfl, hb1⟩
    obtain ⟨hc, hf⟩ := bcell hb1
    have c0 : w1.cell? ⟨w.heap.size, 0, none⟩ = some (.int .i64 a) := (hc _ _ (by simp)).trans (by go_simp)
    have c1 : w1.cell? ⟨w.heap.size, 1, none⟩ = some (.int .i64 b) := (hc _ _ (by simp)).trans (by go_simp)
    have c2 : w1.cell? ⟨w.heap.size, 2, none⟩ = some (.int .i64 c) := (hc _ _ (by simp)).trans (by go_simp)
    have HB := Lib.hid (show Below w.heap.size w w1 from ((Below.refl _ _).alloc (Nat.le_refl _) _).trans (hb1.mono (by simp)))
    have hz := HB.out.size
    have hz2 : w.heap.size < w1.heap.size := by have := hb1.size; simp at this; omega
    clear hc hf hb1
    have hmx := fun ts t W => max3_run ts t A B C W
    have hmn := fun ts t W => min3_run ts t A B C W
    have pmx := fun ts t W => max3_run ts t a b c W
    have pmn := fun ts t W => min3_run ts t a b c W
    go_wp2_with fail
    go_quiet (fail)
    go_wp2_with fail
    have HW : DuW w w.heap.size w1.heap.size a b c A B C ((w1.alloc (.cells #[.int .i64 A, .int .i64 B, .int .i64 C] 22)).drewN nq) :=
      duW_mk (by go_simp) (by go_simp) (by go_simp) (by go_simp) (by go_simp) (by go_simp) (below_drewN (HB.out.alloc hz _) _)
    generalize ((w1.alloc (.cells #[.int .i64 A, .int .i64 B, .int .i64 C] 22)).drewN nq) = W2 at HW ⊢
    have HH := Lib.hid HW
    clear HW c0 c1 c2 hmx hmn pmx pmn g1 g2 g3 h1 h2 hcu h3 h4
    go_loopw [10] (fun i wr => ∃ k : Nat, k ≤ 3 ∧ i = .int .i64 k ∧ DuW w w.heap.size w1.heap.size a b c A B C wr) (fun i _ => 3 - (intOf i).toNat)
    case atStart => exact ⟨0, by omega, rfl, HH.out⟩
    case round =>
      obtain ⟨i, hi, rfl, hw0⟩ := hrel
      have HI := Lib.hid hw0
      clear hw0
      by_cases hlt : i < 3
      · go_wp2_with fail
        go_loopw [11] (fun k wx => ∃ j : Nat, j ≤ 3 ∧ k = .int .i64 j ∧ DuW w w.heap.size w1.heap.size a b c A B C wx) (fun k _ => 3 - (intOf k).toNat)
        case atStart => exact ⟨0, by omega, rfl, HI.out⟩
        case round =>
          obtain ⟨j, hj, rfl, hw0⟩ := hrel
          have HJ := Lib.hid hw0
          clear hw0
          by_cases hlt2 : j < 3
          · have hx := hX.out i j hlt hlt2
            have hp1 := hP.out i hlt
            have hp2 := hP.out j hlt2
            have hd1 := hD.out i hlt
            have hd2 := hD.out j hlt2
            have e1 := HJ.out.1 i hlt
            have e2 := HJ.out.1 j hlt2
            have e3 := HJ.out.2.1 i hlt
            have e4 := HJ.out.2.1 j hlt2
            generalize pick3 a b c i = pi at *
            generalize pick3 a b c j = pj at *
            generalize pick3 A B C i = di at *
            generalize pick3 A B C j = dj at *
            obtain ⟨m0, m1⟩ := Dv.mul_bd (x := di - dj) (y := u) 65536 1073741824 (by omega) (by omega)
            go_wp2_with fail
            go_quiet (fail)
            go_wp2_with fail
            go_roundw
            case rel => exact ⟨j + 1, by omega, by go_num, HJ.out.drewN _⟩
            case measure => simp [intOf]; omega
          · go_wp2_with fail
            go_roundw
            case rel => exact ⟨i + 1, by omega, by go_num, HJ.out⟩
            case measure => simp [intOf]; omega
      · go_wp2_with (go_at_call 19; refine (known_c _).mono ?_; rintro e w2 ⟨rfl, hb2⟩)
        go_ret
        exact ⟨rfl, HI.out.2.2.trans (hb2.mono HI.out.2.2.size)⟩

theorem dutiesIs_of {a b c u A B C x : Int} {cut : Bool} (h1 : Dv.duV a b c u a = A) (h2 : Dv.duV a b c u b = B) (h3 : Dv.duV a b c u c = C) (h4 : Dv.duC a b c u = cut) (h5 : Dv.duE a b c u = x) : DutiesIs a b c u A B C cut x :=
  fun w => (Duties_c a b c u w).mono fun _ _ ⟨he, hw⟩ => ⟨he.trans (retDu h1 h2 h3 h4 h5), hw⟩

theorem DriveDuties_any (a b c u : Int) (w : World) :
    Calls Try.prog 3 #[.agg #[.int .i64 a, .int .i64 b, .int .i64 c], .int .i64 u] w fun e w' => e = .returned (.bool true) ∧ Below w.heap.size w w' := by
  cases hR : Dv.duR a b c u
  · exact duties_refused a b c u (dutiesIs_of (by simp [Dv.duV, hR]) (by simp [Dv.duV, hR]) (by simp [Dv.duV, hR]) (by simp [Dv.duC, hR]) (by simp [Dv.duE, hR])) w
  · have h : upB 1073741824 [a, b, c] = true ∧ (1 ≤ u ∧ u ≤ 1073741824) := by simpa [Dv.duR] using hR
    obtain ⟨hu, u0, u1⟩ := h
    obtain ⟨ba, bb, bc⟩ := upB3.1 hu
    obtain ⟨n1, n2, n3, n4⟩ := Dv.mn3_bd a b c
    obtain ⟨m1, m2, m3, m4⟩ := Dv.mx3_bd a b c
    obtain ⟨g1, g2, g3, g4⟩ := Dv.du_good hR
    generalize hA : Dv.duV a b c u a = A at *
    generalize hB : Dv.duV a b c u b = B at *
    generalize hC : Dv.duV a b c u c = C at *
    obtain ⟨N1, N2, N3, N4⟩ := Dv.mn3_bd A B C
    obtain ⟨M1, M2, M3, M4⟩ := Dv.mx3_bd A B C
    cases hc : Dv.duC a b c u
    · have hcut : ¬ u < Dv.mx3 a b c - Dv.mn3 a b c := by simpa [Dv.duC, hR, Dv.duCut] using hc
      refine duties_plain a b c u A B C (dutiesIs_of hA hB hC hc (by simp [Dv.duE, hR])) w u0 u1 g1 g2 g3 (by omega) (by omega) hcut (by omega) (by omega) ?_ ?_ ?_
      · intro j hj
        rcases pick3_or a b c j hj with ⟨e, _⟩ | ⟨e, _⟩ | ⟨e, _⟩ <;> rw [e] <;> omega
      · intro j hj
        rcases pick3_or A B C j hj with ⟨e, _⟩ | ⟨e, _⟩ | ⟨e, _⟩ <;> rw [e] <;> omega
      · intro i k hi hk
        refine g4 hc _ _ _ _ ?_ ?_
        · rcases i with _ | _ | _ | i
          · exact .inl ⟨rfl, rfl⟩
          · exact .inr (.inl ⟨rfl, rfl⟩)
          · exact .inr (.inr ⟨rfl, rfl⟩)
          · omega
        · rcases k with _ | _ | _ | k
          · exact .inl ⟨rfl, rfl⟩
          · exact .inr (.inl ⟨rfl, rfl⟩)
          · exact .inr (.inr ⟨rfl, rfl⟩)
          · omega
    · have hcut : u < Dv.mx3 a b c - Dv.mn3 a b c := by simpa [Dv.duC, hR, Dv.duCut] using hc
      exact duties_cut a b c u A B C (dutiesIs_of hA hB hC hc (by simp [Dv.duE, hR])) w g1 g2 g3 (by omega) (by omega) hcut (by omega) (by omega)
end Go.Proofs.Ytcneohhfnnelgaa
namespace Go.Proofs.Ytcneohhfnnelgaa
open Go.RowKit
set_option linter.unusedVariables false

set_option maxHeartbeats 1000000 in
theorem DutiesR_no (a b c u : Int) (w : World) (hR : Dv.duR a b c u = false) : Calls Try.prog 35 #[.agg #[.int .i64 a, .int .i64 b, .int .i64 c], .int .i64 u] w fun e w' => e = .returned (.tuple #[.agg #[.int .i64 (Dv.duV a b c u a), .int .i64 (Dv.duV a b c u b), .int .i64 (Dv.duV a b c u c)], .bool (Dv.duC a b c u), .int .i64 (Dv.duE a b c u)]) ∧ Below w.heap.size w w' := by
  have E := Lib.hid (show Dv.duV a b c u a = 0 ∧ Dv.duV a b c u b = 0 ∧ Dv.duV a b c u c = 0 ∧ Dv.duC a b c u = false ∧ Dv.duE a b c u = 3 from by simp [Dv.duV, Dv.duC, Dv.duE, hR])
  have hcases : upB 1073741824 [a] = false ∨ (upB 1073741824 [a] = true ∧ upB 1073741824 [b] = false) ∨ (upB 1073741824 [a] = true ∧ upB 1073741824 [b] = true ∧ upB 1073741824 [c] = false) ∨ (upB 1073741824 [a] = true ∧ upB 1073741824 [b] = true ∧ upB 1073741824 [c] = true ∧ Dv.busE u = 3) := by
    unfold Dv.duR at hR
    rw [up3_and] at hR
    cases ha : upB 1073741824 [a]
    · exact .inl rfl
    · cases hb : upB 1073741824 [b]
      · exact .inr (.inl ⟨rfl, rfl⟩)
      · cases hc : upB 1073741824 [c]
        · exact .inr (.inr (.inl ⟨rfl, rfl, rfl⟩))
        · refine .inr (.inr (.inr ⟨rfl, rfl, rfl, ?_⟩))
          rw [ha, hb, hc] at hR
          have : Dv.busB u = false := by simpa [Dv.busB, Dv.inB] using hR
          simp [Dv.busE, this]
  clear hR
  rcases hcases with h1 | ⟨h1, h2⟩ | ⟨h1, h2, h3⟩ | ⟨h1, h2, h3, h4⟩
  all_goals
    go_enter Try.func35, Try.ntmps35
    go_wp2_with (first | (go_at_call 79; refine (volt_c _ _).mono ?_; rintro e w' ⟨rfl, rfl⟩) | (go_at_call 87; refine (busR_c _ _).mono ?_; rintro e w' ⟨rfl, rfl⟩))
    exact bodyPost_ret (v := .tuple #[.agg #[.int .i64 0, .int .i64 0, .int .i64 0], .bool false, .int .i64 3]) (by simp [results, Try.results35, go_sem]) rfl ⟨retDu E.out.1.symm E.out.2.1.symm E.out.2.2.1.symm E.out.2.2.2.1.symm E.out.2.2.2.2.symm, ((Below.refl _ _).alloc (Nat.le_refl _) _).alloc (by simp) _⟩

set_option maxHeartbeats 1000000 in
set_option maxRecDepth 100000 in
theorem DutiesR_plain (a b c u : Int) (w : World) (hu : upB 1073741824 [a, b, c] = true) (h0 : 1 ≤ u) (h1 : u ≤ 1073741824) (hc : ¬ u < Dv.mx3 a b c - Dv.mn3 a b c) : Calls Try.prog 35 #[.agg #[.int .i64 a, .int .i64 b, .int .i64 c], .int .i64 u] w fun e w' => e = .returned (.tuple #[.agg #[.int .i64 (Dv.duV a b c u a), .int .i64 (Dv.duV a b c u b), .int .i64 (Dv.duV a b c u c)], .bool (Dv.duC a b c u), .int .i64 (Dv.duE a b c u)]) ∧ Below w.heap.size w w' := by
  obtain ⟨u1, u2, u3⟩ := upB3.1 hu
  have ua := upB1.2 u1
  have ub := upB1.2 u2
  have uc := upB1.2 u3
  have hbe : Dv.busE u = 0 := by simp [Dv.busE, Dv.busB, Dv.inB, h0, h1]
  have hR : Dv.duR a b c u = true := by simp [Dv.duR, hu, h0, h1]
  have hC : Dv.duCut a b c u = false := by simpa [Dv.duCut] using hc
  have hP : ∀ x, Dv.duP a b c u x = x := by intro x; simp [Dv.duP, hC]
  have E := Lib.hid (show (∀ x, Dv.duV a b c u x = Dv.duD (Dv.mn3 a b c) (Dv.mx3 a b c) u x) ∧ Dv.duC a b c u = false ∧ Dv.duE a b c u = 0 from ⟨fun x => by simp [Dv.duV, hR, Dv.duLo, Dv.duHi, hP], by simp [Dv.duC, hC], by simp [Dv.duE, hR]⟩)
  clear hR hC hP hu
  obtain ⟨n1, n2, n3, n4⟩ := Dv.mn3_bd a b c
  obtain ⟨m1, m2, m3, m4⟩ := Dv.mx3_bd a b c
  have nb : -1073741824 ≤ Dv.mn3 a b c ∧ Dv.mn3 a b c ≤ 1073741824 := by omega
  have mb : -1073741824 ≤ Dv.mx3 a b c ∧ Dv.mx3 a b c ≤ 1073741824 := by omega
  clear n4 m4
  have pmx := fun ts t W => max3_run ts t a b c W
  have pmn := fun ts t W => min3_run ts t a b c W
  go_enter Try.func35, Try.ntmps35
  go_wp2_with (first | (go_at_call 79; refine (volt_c _ _).mono ?_; rintro e w' ⟨rfl, rfl⟩) | (go_at_call 87; refine (busR_c _ _).mono ?_; rintro e w' ⟨rfl, rfl⟩))
  go_quiet (fail)
  go_wp2_with fail
  refine wp_loop_rounds 4 ?_
  rw [rounds_succ]
  go_wp2_with (first | (go_at_call 85; refine (floor_c _ _ _ (by omega) (by omega) (by omega)).mono ?_; rintro e w' ⟨rfl, rfl⟩) | (go_at_call 88; refine (into_c _ _ _ _).mono ?_; rintro e w' ⟨rfl, rfl⟩))
  rw [rounds_succ]
  go_wp2_with (first | (go_at_call 85; refine (floor_c _ _ _ (by omega) (by omega) (by omega)).mono ?_; rintro e w' ⟨rfl, rfl⟩) | (go_at_call 88; refine (into_c _ _ _ _).mono ?_; rintro e w' ⟨rfl, rfl⟩))
  rw [rounds_succ]
  go_wp2_with (first | (go_at_call 85; refine (floor_c _ _ _ (by omega) (by omega) (by omega)).mono ?_; rintro e w' ⟨rfl, rfl⟩) | (go_at_call 88; refine (into_c _ _ _ _).mono ?_; rintro e w' ⟨rfl, rfl⟩))
  rw [rounds_succ]
  go_wp2_with fail
  refine bodyPost_ret (v := .tuple #[.agg #[.int .i64 (Dv.duD (Dv.mn3 a b c) (Dv.mx3 a b c) u a), .int .i64 (Dv.duD (Dv.mn3 a b c) (Dv.mx3 a b c) u b), .int .i64 (Dv.duD (Dv.mn3 a b c) (Dv.mx3 a b c) u c)], .bool (decide (u < Dv.mx3 a b c - Dv.mn3 a b c)), .int .i64 0]) (by simp [results, Try.results35, go_sem, Dv.duD]) rfl ⟨?_, ?_⟩
  · exact retDu (E.out.1 a).symm (E.out.1 b).symm (E.out.1 c).symm (by rw [E.out.2.1]; simp; omega) E.out.2.2.symm
  · exact ((((below_drewN (((Below.refl _ _).alloc (Nat.le_refl _) _).alloc (by simp) _) nq).setCell (by simp) _).setCell (by simp) _).setCell (by simp) _).alloc (by simp; omega) _
end Go.Proofs.Ytcneohhfnnelgaa
namespace Go.Proofs.Ytcneohhfnnelgaa
open Go.RowKit
set_option linter.unusedVariables false

set_option maxHeartbeats 2000000 in
set_option maxRecDepth 100000 in
theorem DutiesR_cut (a b c u : Int) (w : World) (hu : upB 1073741824 [a, b, c] = true) (h0 : 1 ≤ u) (h1 : u ≤ 1073741824) (hc : u < Dv.mx3 a b c - Dv.mn3 a b c) : Calls Try.prog 35 #[.agg #[.int .i64 a, .int .i64 b, .int .i64 c], .int .i64 u] w fun e w' => e = .returned (.tuple #[.agg #[.int .i64 (Dv.duV a b c u a), .int .i64 (Dv.duV a b c u b), .int .i64 (Dv.duV a b c u c)], .bool (Dv.duC a b c u), .int .i64 (Dv.duE a b c u)]) ∧ Below w.heap.size w w' := by
  obtain ⟨u1, u2, u3⟩ := upB3.1 hu
  have hR : Dv.duR a b c u = true := by simp [Dv.duR, hu, h0, h1]
  have hC : Dv.duCut a b c u = true := by simpa [Dv.duCut] using hc
  obtain ⟨n1, n2, n3, n4⟩ := Dv.mn3_bd a b c
  obtain ⟨m1, m2, m3, m4⟩ := Dv.mx3_bd a b c
  have nb : -1073741824 ≤ Dv.mn3 a b c ∧ Dv.mn3 a b c ≤ 1073741824 := by omega
  have mb : -1073741824 ≤ Dv.mx3 a b c ∧ Dv.mx3 a b c ≤ 1073741824 := by omega
  clear n4 m4
  have hP : ∀ x, Dv.duP a b c u x = x * u / (Dv.mx3 a b c - Dv.mn3 a b c) := by intro x; simp [Dv.duP, hC]
  have EV := Lib.hid (show (∀ x, Dv.duV a b c u x = Dv.duD (Dv.duLo a b c u) (Dv.duHi a b c u) u (Dv.duP a b c u x)) ∧ Dv.duC a b c u = true ∧ Dv.duE a b c u = 0 from ⟨fun x => by simp [Dv.duV, hR], by simp [Dv.duC, hC, hR], by simp [Dv.duE, hR]⟩)
  have hPb : ∀ x, -1073741824 ≤ x ∧ x ≤ 1073741824 → -1073741824 ≤ Dv.duP a b c u x ∧ Dv.duP a b c u x ≤ 1073741824 := fun x hx => by rw [hP]; exact Dv.div_span x u _ (by omega) (by omega) (by omega) hx
  obtain ⟨pa0, pa1⟩ := hPb a u1
  obtain ⟨pb0, pb1⟩ := hPb b u2
  obtain ⟨pc0, pc1⟩ := hPb c u3
  have EP := Lib.hid hP
  have EL := Lib.hid (show Dv.mn3 (Dv.duP a b c u a) (Dv.duP a b c u b) (Dv.duP a b c u c) = Dv.duLo a b c u ∧ Dv.mx3 (Dv.duP a b c u a) (Dv.duP a b c u b) (Dv.duP a b c u c) = Dv.duHi a b c u from ⟨rfl, rfl⟩)
  obtain ⟨ln1, ln2, ln3, ln4⟩ := Dv.mn3_bd (Dv.duP a b c u a) (Dv.duP a b c u b) (Dv.duP a b c u c)
  obtain ⟨lm1, lm2, lm3, lm4⟩ := Dv.mx3_bd (Dv.duP a b c u a) (Dv.duP a b c u b) (Dv.duP a b c u c)
  have lb : -1073741824 ≤ Dv.mn3 (Dv.duP a b c u a) (Dv.duP a b c u b) (Dv.duP a b c u c) ∧ Dv.mn3 (Dv.duP a b c u a) (Dv.duP a b c u b) (Dv.duP a b c u c) ≤ 1073741824 := by omega
  have lh : -1073741824 ≤ Dv.mx3 (Dv.duP a b c u a) (Dv.duP a b c u b) (Dv.duP a b c u c) ∧ Dv.mx3 (Dv.duP a b c u a) (Dv.duP a b c u b) (Dv.duP a b c u c) ≤ 1073741824 := by omega
  rw [EL.out.1] at lb
  rw [EL.out.2] at lh
  obtain ⟨xa0, xa1⟩ := Dv.mul_bd (x := a) (y := u) 1073741824 1073741824 u1 (by omega)
  obtain ⟨xb0, xb1⟩ := Dv.mul_bd (x := b) (y := u) 1073741824 1073741824 u2 (by omega)
  obtain ⟨xc0, xc1⟩ := Dv.mul_bd (x := c) (y := u) 1073741824 1073741824 u3 (by omega)
  clear hR hC hP hPb ln1 ln2 ln3 ln4 lm1 lm2 lm3 lm4
  have hbe : Dv.busE u = 0 := by simp [Dv.busE, Dv.busB, Dv.inB, h0, h1]
  have ua := upB1.2 u1
  have ub := upB1.2 u2
  have uc := upB1.2 u3
  clear hu
  have dv : ∀ (x : Int) (W : World), -1073741824 * 1073741824 ≤ x * u ∧ x * u ≤ 1073741824 * 1073741824 → Calls Try.prog 85 #[.int .i64 (x * u), .int .i64 (Dv.mx3 a b c - Dv.mn3 a b c)] W fun e w' => e = .returned (.int .i64 (Dv.duP a b c u x)) ∧ W = w' := by
    intro x W hx
    refine (floor_c (x * u) _ W (by omega) (by omega) (by omega)).mono ?_
    intro e w' h
    rw [EP.out x]
    exact h
  have DV := Lib.hid dv
  clear dv
  have pmx := fun ts t W => max3_run ts t a b c W
  have pmn := fun ts t W => min3_run ts t a b c W
  have qmx : ∀ (ts : Array TypeId) (t : TypeId) (W : World), (Builtin.max_ ts t #[.int .i64 (Dv.duP a b c u a), .int .i64 (Dv.duP a b c u b), .int .i64 (Dv.duP a b c u c)]).run Try.prog W = .ok (.int .i64 (Dv.duHi a b c u)) W := fun ts t W => max3_run ts t _ _ _ W
  have qmn : ∀ (ts : Array TypeId) (t : TypeId) (W : World), (Builtin.min_ ts t #[.int .i64 (Dv.duP a b c u a), .int .i64 (Dv.duP a b c u b), .int .i64 (Dv.duP a b c u c)]).run Try.prog W = .ok (.int .i64 (Dv.duLo a b c u)) W := fun ts t W => min3_run ts t _ _ _ W
  go_enter Try.func35, Try.ntmps35
  go_wp2_with (first | (go_at_call 79; refine (volt_c _ _).mono ?_; rintro e w' ⟨rfl, rfl⟩) | (go_at_call 87; refine (busR_c _ _).mono ?_; rintro e w' ⟨rfl, rfl⟩))
  go_quiet (fail)
  obtain ⟨nA, rfl⟩ : ∃ n, n = nq := ⟨_, rfl⟩
  go_wp2_with fail
  refine wp_loop_rounds 4 ?_
  rw [rounds_succ]
  go_wp2_with (first | (go_at_call 85; refine (DV.out _ _ (by omega)).mono ?_; rintro e w' ⟨rfl, rfl⟩))
  rw [rounds_succ]
  go_wp2_with (first | (go_at_call 85; refine (DV.out _ _ (by omega)).mono ?_; rintro e w' ⟨rfl, rfl⟩))
  rw [rounds_succ]
  go_wp2_with (first | (go_at_call 85; refine (DV.out _ _ (by omega)).mono ?_; rintro e w' ⟨rfl, rfl⟩))
  rw [rounds_succ]
  go_wp2_with fail
  go_quiet (fail)
  generalize hw1 : (((((((w.alloc (.cells #[.int .i64 a, .int .i64 b, .int .i64 c] 22)).alloc (.cells #[.int .i64 0, .int .i64 0, .int .i64 0] 22)).drewN nA).setCell ⟨w.heap.size, 0, none⟩ (.int .i64 (Dv.duP a b c u a))).setCell ⟨w.heap.size, 1, none⟩ (.int .i64 (Dv.duP a b c u b))).setCell ⟨w.heap.size, 2, none⟩ (.int .i64 (Dv.duP a b c u c))).drewN nq) = w1
  replace hw1 := hw1.symm
  have c0 : w1.cell? ⟨w.heap.size, 0, none⟩ = some (.int .i64 (Dv.duP a b c u a)) := by rw [hw1]; go_simp
  have c1 : w1.cell? ⟨w.heap.size, 1, none⟩ = some (.int .i64 (Dv.duP a b c u b)) := by rw [hw1]; go_simp
  have c2 : w1.cell? ⟨w.heap.size, 2, none⟩ = some (.int .i64 (Dv.duP a b c u c)) := by rw [hw1]; go_simp
  have d0 : w1.cell? ⟨w.heap.size + 1, 0, none⟩ = some (.int .i64 0) := by rw [hw1]; go_simp
  have d1 : w1.cell? ⟨w.heap.size + 1, 1, none⟩ = some (.int .i64 0) := by rw [hw1]; go_simp
  have d2 : w1.cell? ⟨w.heap.size + 1, 2, none⟩ = some (.int .i64 0) := by rw [hw1]; go_simp
  have k0 : w1.frozen? ⟨w.heap.size + 1, 0, none⟩ = false := by rw [hw1]; go_simp
  have k1 : w1.frozen? ⟨w.heap.size + 1, 1, none⟩ = false := by rw [hw1]; go_simp
  have k2 : w1.frozen? ⟨w.heap.size + 1, 2, none⟩ = false := by rw [hw1]; go_simp
  have hz : w.heap.size + 1 < w1.heap.size := by rw [hw1]; simp
  have hz0 : w.heap.size < w1.heap.size := by omega
  have HB := Lib.hid (show Below w.heap.size w w1 from by
    rw [hw1]
    exact below_drewN ((((below_drewN (((Below.refl _ _).alloc (Nat.le_refl _) _).alloc (by simp) _) nA).setCell (by simp) _).setCell (by simp) _).setCell (by simp) _) nq)
  clear hw1
  go_wp2_with fail
  refine wp_loop_rounds 4 ?_
  rw [rounds_succ]
  go_wp2_with (first | (go_at_call 85; refine (floor_c _ _ _ (by omega) (by omega) (by omega)).mono ?_; rintro e w' ⟨rfl, rfl⟩) | (go_at_call 88; refine (into_c _ _ _ _).mono ?_; rintro e w' ⟨rfl, rfl⟩))
  rw [rounds_succ]
  go_wp2_with (first | (go_at_call 85; refine (floor_c _ _ _ (by omega) (by omega) (by omega)).mono ?_; rintro e w' ⟨rfl, rfl⟩) | (go_at_call 88; refine (into_c _ _ _ _).mono ?_; rintro e w' ⟨rfl, rfl⟩))
  rw [rounds_succ]
  go_wp2_with (first | (go_at_call 85; refine (floor_c _ _ _ (by omega) (by omega) (by omega)).mono ?_; rintro e w' ⟨rfl, rfl⟩) | (go_at_call 88; refine (into_c _ _ _ _).mono ?_; rintro e w' ⟨rfl, rfl⟩))
  rw [rounds_succ]
  go_wp2_with fail
  refine bodyPost_ret (v := .tuple #[.agg #[.int .i64 (Dv.duD (Dv.duLo a b c u) (Dv.duHi a b c u) u (Dv.duP a b c u a)), .int .i64 (Dv.duD (Dv.duLo a b c u) (Dv.duHi a b c u) u (Dv.duP a b c u b)), .int .i64 (Dv.duD (Dv.duLo a b c u) (Dv.duHi a b c u) u (Dv.duP a b c u c))], .bool true, .int .i64 0]) (by simp [results, Try.results35, go_sem, Dv.duD, d0, d1, d2, hz]) rfl ⟨?_, ?_⟩
  · exact retDu (EV.out.1 a).symm (EV.out.1 b).symm (EV.out.1 c).symm EV.out.2.1.symm EV.out.2.2.symm
  · exact (((HB.out.setCell (by simp) _).setCell (by simp) _).setCell (by simp) _).alloc (by simp; omega) _

theorem DutiesR_c (a b c u : Int) (w : World) : Calls Try.prog 35 #[.agg #[.int .i64 a, .int .i64 b, .int .i64 c], .int .i64 u] w fun e w' => e = .returned (.tuple #[.agg #[.int .i64 (Dv.duV a b c u a), .int .i64 (Dv.duV a b c u b), .int .i64 (Dv.duV a b c u c)], .bool (Dv.duC a b c u), .int .i64 (Dv.duE a b c u)]) ∧ Below w.heap.size w w' := by
  cases hR : Dv.duR a b c u
  · exact DutiesR_no a b c u w hR
  · have h : upB 1073741824 [a, b, c] = true ∧ (1 ≤ u ∧ u ≤ 1073741824) := by simpa [Dv.duR] using hR
    by_cases hc : u < Dv.mx3 a b c - Dv.mn3 a b c
    · exact DutiesR_cut a b c u w h.1 h.2.1 h.2.2 hc
    · exact DutiesR_plain a b c u w h.1 h.2.1 h.2.2 hc
end Go.Proofs.Ytcneohhfnnelgaa
namespace Go.Proofs.Ytcneohhfnnelgaa
open Go.RowKit
set_option linter.unusedVariables false

namespace Dv
def tqX (m : Mot) (d q : Int) : Int := m.fx * q + (m.ld - m.lq) * d * q / 1000000
def tq (m : Mot) (d q : Int) : Int := 3 * m.po * tqX m d q / 2000
def ibd (m : Mot) (d q w : Int) : Int := w * m.lq * q / 1000000 - m.r * d / 1000
def ibq (m : Mot) (d q w : Int) : Int := -(m.r * q / 1000) - w * m.ld * d / 1000000 - w * m.fx
/-- the products of torque -/
theorem tq_prods {m : Mot} {d q : Int} (hm : chk m) (hd : -1048576 ≤ d ∧ d ≤ 1048576) (hq : -1048576 ≤ q ∧ q ≤ 1048576) :
    (-(4194304 * 1048576) ≤ m.fx * q ∧ m.fx * q ≤ 4194304 * 1048576) ∧ (-(4194304 * 1048576) ≤ (m.ld - m.lq) * d ∧ (m.ld - m.lq) * d ≤ 4194304 * 1048576) ∧
    (-(4398046511104 * 1048576) ≤ (m.ld - m.lq) * d * q ∧ (m.ld - m.lq) * d * q ≤ 4398046511104 * 1048576) ∧
    (-4611686018428 ≤ (m.ld - m.lq) * d * q / 1000000 ∧ (m.ld - m.lq) * d * q / 1000000 ≤ 4611686018428) ∧
    (-(48 * 10000000000000) ≤ 3 * m.po * tqX m d q ∧ 3 * m.po * tqX m d q ≤ 48 * 10000000000000) ∧ (-10000000000000 ≤ tqX m d q ∧ tqX m d q ≤ 10000000000000) := by
  unfold chk at hm
  have p1 := mul_bd (x := m.fx) (y := q) 4194304 1048576 (by omega) hq
  have p2 := mul_bd (x := m.ld - m.lq) (y := d) 4194304 1048576 (by omega) hd
  have p3 := mul_bd (x := (m.ld - m.lq) * d) (y := q) 4398046511104 1048576 (by omega) hq
  have p4 : -4611686018428 ≤ (m.ld - m.lq) * d * q / 1000000 ∧ (m.ld - m.lq) * d * q / 1000000 ≤ 4611686018428 := by omega
  have p5 : -10000000000000 ≤ tqX m d q ∧ tqX m d q ≤ 10000000000000 := by unfold tqX; omega
  exact ⟨p1, p2, p3, p4, mul_bd (x := 3 * m.po) (y := tqX m d q) 48 10000000000000 (by omega) p5, p5⟩
theorem tq_bd {m : Mot} {d q : Int} (hm : chk m) (hd : -1048576 ≤ d ∧ d ≤ 1048576) (hq : -1048576 ≤ q ∧ q ≤ 1048576) : -480000000000 ≤ tq m d q ∧ tq m d q ≤ 480000000000 := by
  obtain ⟨_, _, _, _, h, _⟩ := tq_prods hm hd hq
  unfold tq
  omega
/-- the products of inner -/
theorem in_prods {m : Mot} {d q w : Int} (hm : chk m) (hd : -1048576 ≤ d ∧ d ≤ 1048576) (hq : -1048576 ≤ q ∧ q ≤ 1048576) (hw : -16384 ≤ w ∧ w ≤ 16384) :
    (-(16384 * 4194304) ≤ w * m.lq ∧ w * m.lq ≤ 16384 * 4194304) ∧ (-(68719476736 * 1048576) ≤ w * m.lq * q ∧ w * m.lq * q ≤ 68719476736 * 1048576) ∧ (-(1048576 * 1048576) ≤ m.r * d ∧ m.r * d ≤ 1048576 * 1048576) ∧
    (-(1048576 * 1048576) ≤ m.r * q ∧ m.r * q ≤ 1048576 * 1048576) ∧ (-(16384 * 4194304) ≤ w * m.ld ∧ w * m.ld ≤ 16384 * 4194304) ∧ (-(68719476736 * 1048576) ≤ w * m.ld * d ∧ w * m.ld * d ≤ 68719476736 * 1048576) ∧
    (-(16384 * 4194304) ≤ w * m.fx ∧ w * m.fx ≤ 16384 * 4194304) := by
  unfold chk at hm
  have p1 := mul_bd (x := w) (y := m.lq) 16384 4194304 hw (by omega)
  have p2 := mul_bd (x := w) (y := m.ld) 16384 4194304 hw (by omega)
  exact ⟨p1, mul_bd (x := w * m.lq) (y := q) 68719476736 1048576 (by omega) hq, mul_bd (x := m.r) (y := d) 1048576 1048576 (by omega) hd, mul_bd (x := m.r) (y := q) 1048576 1048576 (by omega) hq, p2,
    mul_bd (x := w * m.ld) (y := d) 68719476736 1048576 (by omega) hd, mul_bd (x := w) (y := m.fx) 16384 4194304 hw (by omega)⟩
theorem in_bd {m : Mot} {d q w : Int} (hm : chk m) (hd : -1048576 ≤ d ∧ d ≤ 1048576) (hq : -1048576 ≤ q ∧ q ≤ 1048576) (hw : -16384 ≤ w ∧ w ≤ 16384) :
    (-80000000000 ≤ ibd m d q w ∧ ibd m d q w ≤ 80000000000) ∧ (-150000000000 ≤ ibq m d q w ∧ ibq m d q w ≤ 150000000000) := by
  obtain ⟨_, h2, h3, h4, _, h6, h7⟩ := in_prods hm hd hq hw
  unfold ibd ibq
  omega
end Dv

set_option maxHeartbeats 1000000 in
theorem torque_c (m : Mot) (d q : Int) (w : World) (hm : Dv.chk m) (hd : -1048576 ≤ d ∧ d ≤ 1048576) (hq : -1048576 ≤ q ∧ q ≤ 1048576) :
    Calls Try.prog 100 #[.agg #[.int .i64 m.r, .int .i64 m.ld, .int .i64 m.lq, .int .i64 m.fx, .int .i64 m.po, .int .i64 m.mi, .int .i64 m.sp, .int .i64 m.dr, .int .i64 m.cu, .int .i64 m.fa], .int .i64 d, .int .i64 q] w fun e w' => e = .returned (.int .i64 (Dv.tq m d q)) ∧ Below w.heap.size w w' := by
  obtain ⟨p1, p2, p3, p4, p5, p6⟩ := Dv.tq_prods hm hd hq
  unfold Dv.chk at hm
  unfold Dv.tqX at p5 p6
  go_enter Try.func100, Try.ntmps100
  go_wp2_with fail
  go_quiet ((go_at_call 69; exact quiet_left (div_c _ _ _ (by omega) (by omega) (by omega))))
  go_wp2
  go_ret
  exact ⟨rfl, below_drewN ((Below.refl _ _).alloc (Nat.le_refl _) _) _⟩

set_option maxHeartbeats 1000000 in
theorem torqueR_c (m : Mot) (d q : Int) (w : World) (hm : Dv.chk m) (hd : -1048576 ≤ d ∧ d ≤ 1048576) (hq : -1048576 ≤ q ∧ q ≤ 1048576) :
    Calls Try.prog 101 #[.agg #[.int .i64 m.r, .int .i64 m.ld, .int .i64 m.lq, .int .i64 m.fx, .int .i64 m.po, .int .i64 m.mi, .int .i64 m.sp, .int .i64 m.dr, .int .i64 m.cu, .int .i64 m.fa], .int .i64 d, .int .i64 q] w fun e w' => e = .returned (.int .i64 (Dv.tq m d q)) ∧ Below w.heap.size w w' := by
  obtain ⟨p1, p2, p3, p4, p5, p6⟩ := Dv.tq_prods hm hd hq
  unfold Dv.chk at hm
  unfold Dv.tqX at p5 p6
  go_enter Try.func101, Try.ntmps101
  go_wp2_with fail
  go_quiet ((go_at_call 85; first | exact quiet_left (floor_c _ _ _ (by omega) (by omega) (by omega)) | exact quiet_add_left (floor_c _ _ _ (by omega) (by omega) (by omega))))
  go_wp2_with (go_at_call 85; refine (floor_c _ _ _ (by omega) (by omega) (by omega)).mono ?_; rintro e w' ⟨rfl, rfl⟩)
  go_ret
  exact ⟨rfl, below_drewN ((Below.refl _ _).alloc (Nat.le_refl _) _) _⟩

set_option maxHeartbeats 1000000 in
theorem inner_c (m : Mot) (d q s : Int) (w : World) (hm : Dv.chk m) (hd : -1048576 ≤ d ∧ d ≤ 1048576) (hq : -1048576 ≤ q ∧ q ≤ 1048576) (hs : -16384 ≤ s ∧ s ≤ 16384) :
    Calls Try.prog 102 #[.agg #[.int .i64 m.r, .int .i64 m.ld, .int .i64 m.lq, .int .i64 m.fx, .int .i64 m.po, .int .i64 m.mi, .int .i64 m.sp, .int .i64 m.dr, .int .i64 m.cu, .int .i64 m.fa], .int .i64 d, .int .i64 q, .int .i64 s] w fun e w' => e = .returned (.tuple #[.int .i64 (Dv.ibd m d q s), .int .i64 (Dv.ibq m d q s)]) ∧ Below w.heap.size w w' := by
  obtain ⟨p1, p2, p3, p4, p5, p6, p7⟩ := Dv.in_prods hm hd hq hs
  unfold Dv.chk at hm
  go_enter Try.func102, Try.ntmps102
  go_wp2_with fail
  go_quiet ((go_at_call 69; exact quiet_left (div_c _ _ _ (by omega) (by omega) (by omega))))
  go_wp2
  go_ret2
  exact ⟨rfl, below_drewN ((Below.refl _ _).alloc (Nat.le_refl _) _) _⟩

set_option maxHeartbeats 1000000 in
theorem innerR_c (m : Mot) (d q s : Int) (w : World) (hm : Dv.chk m) (hd : -1048576 ≤ d ∧ d ≤ 1048576) (hq : -1048576 ≤ q ∧ q ≤ 1048576) (hs : -16384 ≤ s ∧ s ≤ 16384) :
    Calls Try.prog 103 #[.agg #[.int .i64 m.r, .int .i64 m.ld, .int .i64 m.lq, .int .i64 m.fx, .int .i64 m.po, .int .i64 m.mi, .int .i64 m.sp, .int .i64 m.dr, .int .i64 m.cu, .int .i64 m.fa], .int .i64 d, .int .i64 q, .int .i64 s] w fun e w' => e = .returned (.tuple #[.int .i64 (Dv.ibd m d q s), .int .i64 (Dv.ibq m d q s)]) ∧ Below w.heap.size w w' := by
  obtain ⟨p1, p2, p3, p4, p5, p6, p7⟩ := Dv.in_prods hm hd hq hs
  unfold Dv.chk at hm
  go_enter Try.func103, Try.ntmps103
  go_wp2_with fail
  go_quiet ((go_at_call 85; first | exact quiet_left (floor_c _ _ _ (by omega) (by omega) (by omega)) | exact quiet_add_left (floor_c _ _ _ (by omega) (by omega) (by omega))))
  go_wp2_with fail
  go_quiet ((go_at_call 85; first | exact quiet_left (floor_c _ _ _ (by omega) (by omega) (by omega)) | exact quiet_add_left (floor_c _ _ _ (by omega) (by omega) (by omega))))
  go_wp2
  go_ret2
  exact ⟨ret2_int (by unfold Dv.ibd; omega) rfl, below_drewN (below_drewN ((Below.refl _ _).alloc (Nat.le_refl _) _) _) _⟩

theorem current_c (x : Int) (w : World) : Calls Try.prog 97 #[.int .i64 x] w fun e w' => e = .returned (.bool (upB 1048576 [x])) ∧ w = w' := by
  go_enter Try.func97, Try.ntmps97
  go_wp2_with (go_at_call 80; refine (within_c _ _ _ _).mono ?_; rintro e w' ⟨rfl, rfl⟩)
  go_ret
  exact ⟨ret_bool (inB_up _ _), rfl⟩
namespace Dv
def spE (x : Int) : Int := if upB 16384 [x] = true then 0 else 3
end Dv
theorem speed_c (x : Int) (w : World) : Calls Try.prog 98 #[.int .i64 x] w fun e w' => e = .returned (.int .i64 (Dv.spE x)) ∧ w = w' := by
  cases h : Dv.inB x (-16384) 16384
  · have E := Lib.hid (show Dv.spE x = 3 from by rw [inB_up] at h; simp [Dv.spE, h])
    go_enter Try.func98, Try.ntmps98
    go_wp2_with (go_at_call 80; refine (within_c _ _ _ _).mono ?_; rintro e w' ⟨rfl, rfl⟩)
    go_ret
    exact ⟨ret_int E.out.symm, rfl⟩
  · have E := Lib.hid (show Dv.spE x = 0 from by rw [inB_up] at h; simp [Dv.spE, h])
    go_enter Try.func98, Try.ntmps98
    go_wp2_with (go_at_call 80; refine (within_c _ _ _ _).mono ?_; rintro e w' ⟨rfl, rfl⟩)
    go_ret
    exact ⟨ret_int E.out.symm, rfl⟩

/-- a motor in memory -/
def MotAt (w : World) (b : Nat) (m : Mot) : Prop := w.cell? ⟨b, 0, none⟩ = some (.int .i64 m.r) ∧ w.cell? ⟨b, 1, none⟩ = some (.int .i64 m.ld) ∧ w.cell? ⟨b, 2, none⟩ = some (.int .i64 m.lq) ∧ w.cell? ⟨b, 3, none⟩ = some (.int .i64 m.fx) ∧ w.cell? ⟨b, 4, none⟩ = some (.int .i64 m.po) ∧ w.cell? ⟨b, 5, none⟩ = some (.int .i64 m.mi) ∧ w.cell? ⟨b, 6, none⟩ = some (.int .i64 m.sp) ∧ w.cell? ⟨b, 7, none⟩ = some (.int .i64 m.dr) ∧ w.cell? ⟨b, 8, none⟩ = some (.int .i64 m.cu) ∧ w.cell? ⟨b, 9, none⟩ = some (.int .i64 m.fa)
theorem motAt_alloc (w : World) (m : Mot) (T : TypeId) : MotAt (w.alloc (.cells #[.int .i64 m.r, .int .i64 m.ld, .int .i64 m.lq, .int .i64 m.fx, .int .i64 m.po, .int .i64 m.mi, .int .i64 m.sp, .int .i64 m.dr, .int .i64 m.cu, .int .i64 m.fa] T)) w.heap.size m := by
  refine ⟨?_, ?_, ?_, ?_, ?_, ?_, ?_, ?_, ?_, ?_⟩ <;> go_simp
theorem MotAt.on {w w1 : World} {b B : Nat} {m : Mot} (h : MotAt w b m) (hb : Below B w w1) (hlt : b < B) : MotAt w1 b m := by
  obtain ⟨c0, c1, c2, c3, c4, c5, c6, c7, c8, c9⟩ := h
  exact ⟨below_cell hb hlt c0, below_cell hb hlt c1, below_cell hb hlt c2, below_cell hb hlt c3, below_cell hb hlt c4, below_cell hb hlt c5, below_cell hb hlt c6, below_cell hb hlt c7, below_cell hb hlt c8, below_cell hb hlt c9⟩
theorem Check_no (m : Mot) (w : World) (h : Dv.chkB m = false) : Calls Try.prog 48 #[.agg #[.int .i64 m.r, .int .i64 m.ld, .int .i64 m.lq, .int .i64 m.fx, .int .i64 m.po, .int .i64 m.mi, .int .i64 m.sp, .int .i64 m.dr, .int .i64 m.cu, .int .i64 m.fa]] w fun e w' => e = .returned (.int .i64 2) ∧ Below w.heap.size w w' :=
  (Check_c m w).mono fun _ _ ⟨h1, h2⟩ => ⟨by rw [h1, Dv.chkE, h]; rfl, h2⟩
theorem Check_yes (m : Mot) (w : World) (h : Dv.chkB m = true) : Calls Try.prog 48 #[.agg #[.int .i64 m.r, .int .i64 m.ld, .int .i64 m.lq, .int .i64 m.fx, .int .i64 m.po, .int .i64 m.mi, .int .i64 m.sp, .int .i64 m.dr, .int .i64 m.cu, .int .i64 m.fa]] w fun e w' => e = .returned (.int .i64 0) ∧ Below w.heap.size w w' :=
  (Check_c m w).mono fun _ _ ⟨h1, h2⟩ => ⟨by rw [h1, Dv.chkE, h]; rfl, h2⟩
theorem CheckR_no (m : Mot) (w : World) (h : Dv.chkB m = false) : Calls Try.prog 49 #[.agg #[.int .i64 m.r, .int .i64 m.ld, .int .i64 m.lq, .int .i64 m.fx, .int .i64 m.po, .int .i64 m.mi, .int .i64 m.sp, .int .i64 m.dr, .int .i64 m.cu, .int .i64 m.fa]] w fun e w' => e = .returned (.int .i64 2) ∧ Below w.heap.size w w' :=
  (CheckR_c m w).mono fun _ _ ⟨h1, h2⟩ => ⟨by rw [h1, Dv.chkE, h]; rfl, h2⟩
theorem CheckR_yes (m : Mot) (w : World) (h : Dv.chkB m = true) : Calls Try.prog 49 #[.agg #[.int .i64 m.r, .int .i64 m.ld, .int .i64 m.lq, .int .i64 m.fx, .int .i64 m.po, .int .i64 m.mi, .int .i64 m.sp, .int .i64 m.dr, .int .i64 m.cu, .int .i64 m.fa]] w fun e w' => e = .returned (.int .i64 0) ∧ Below w.heap.size w w' :=
  (CheckR_c m w).mono fun _ _ ⟨h1, h2⟩ => ⟨by rw [h1, Dv.chkE, h]; rfl, h2⟩
end Go.Proofs.Ytcneohhfnnelgaa
namespace Go.Proofs.Ytcneohhfnnelgaa
open Go Go.RowKit
/-- a world in which all that lay in W lies as it lay -/
structure Past (W : World) where
  w : World
  far : Below W.heap.size W w
instance (W : World) : Nonempty (Past W) := ⟨⟨W, Below.refl _ _⟩⟩
section
variable {W : World}
@[simp, go_sem] theorem Past.cell (x : Past W) (b o : Nat) (h : b < W.heap.size) : x.w.cell? ⟨b, o, none⟩ = W.cell? ⟨b, o, none⟩ := x.far.cell (p := ⟨b, o, none⟩) h
@[simp, go_sem] theorem Past.frozen (x : Past W) (b o : Nat) (h : b < W.heap.size) : x.w.frozen? ⟨b, o, none⟩ = W.frozen? ⟨b, o, none⟩ := x.far.frozen (p := ⟨b, o, none⟩) h
theorem past_drew (W : World) : ∃ x : Past W, W.drew = x.w := ⟨⟨W.drew, (Below.refl _ _).drew⟩, rfl⟩
theorem past_on {x : Past W} {w' : World} (h : Below x.w.heap.size x.w w') : ∃ y : Past W, w' = y.w := ⟨⟨w', x.far.trans (h.mono x.far.size)⟩, rfl⟩
/-- a callee that leaves the world as it is -/
theorem past_same {P : Program} {f : FuncId} {args : Array Value} {x : Past W} {v : Value} (h : Calls P f args x.w fun e w' => e = .returned v ∧ x.w = w') : Calls P f args x.w fun e w'' => e = .returned v ∧ ∃ y : Past W, w'' = y.w :=
  h.mono fun _ _ ⟨he, hm⟩ => ⟨he, x, hm.symm⟩
/-- a callee that makes memory -/
theorem past_below {P : Program} {f : FuncId} {args : Array Value} {x : Past W} {v : Value} (h : Calls P f args x.w fun e w' => e = .returned v ∧ Below x.w.heap.size x.w w') : Calls P f args x.w fun e w'' => e = .returned v ∧ ∃ y : Past W, w'' = y.w :=
  h.mono fun _ _ ⟨he, hm⟩ => ⟨he, past_on hm⟩
theorem past_drewN {P : Program} {f : FuncId} {args : Array Value} {x : Past W} {v : Value} (h : Calls P f args x.w fun e w' => e = .returned v ∧ ∃ n, w' = x.w.drewN n) : Calls P f args x.w fun e w'' => e = .returned v ∧ ∃ y : Past W, w'' = y.w :=
  h.mono fun _ _ ⟨he, n, hm⟩ => ⟨he, by subst hm; exact past_on (x := x) ⟨rfl, rfl, rfl, Nat.le_refl _, fun _ _ => rfl⟩⟩
theorem wpQuiet_mono {P : Program} {ops : Array Oper} {C : World → Prop} {Q Q' : Act → Prop} (hq : ∀ a, Q a → Q' a) : ∀ (l : List Oper) (a : Act), wpQuiet P ops C Q l a → wpQuiet P ops C Q' l a
  | [], a, h => hq a h
  | o :: rest, a, h => by
    unfold wpQuiet at h ⊢
    split
    · rename_i hw
      rw [if_pos hw] at h
      exact Oper.quiet_mono (fun a' => wpQuiet_mono hq rest a') h
    · rename_i hw
      rw [if_neg hw] at h
      exact wpQuiet_mono hq rest _ h
theorem wp_region_past {P : Program} {id : Nat} {Q : Exit → Act → World → Prop} {a : Act} {W : World} {l : List Oper} (hm : P.follows .mixedOrders = true) (hB : Region.lexB .any l.toArray = true)
    (h : wpQuiet P l.toArray (fun w' => ∃ x : Past W, w' = x.w) (fun a' => ∀ x : Past W, Q .normal a' x.w) l a) : (Code.region id l.toArray true).wp P Q a W :=
  wp_region_quiet (C := fun w' => ∃ x : Past W, w' = x.w) hm hB (past_drew W) (wpQuiet_mono (fun a' (h' : ∀ x : Past W, Q .normal a' x.w) w' ⟨x, hx⟩ => by rw [hx]; exact h' x) _ _ (by simpa using h))
end
end Go.Proofs.Ytcneohhfnnelgaa
namespace Go.Proofs.Ytcneohhfnnelgaa
open Go.RowKit
set_option linter.unusedVariables false

/-- a state's numbers -/
structure Rot where
  d : Int
  q : Int
  w : Int
  a : Int
namespace Dv
def TqV (m : Mot) (d q : Int) : Int := if chkB m = true then (if upB 1048576 [d, q] = true then (if upB 68719476736 [tq m d q] = true then tq m d q else 0) else 0) else 0
def TqE (m : Mot) (d q : Int) : Int := if chkB m = true then (if upB 1048576 [d, q] = true then (if upB 68719476736 [tq m d q] = true then 0 else 4) else 3) else 2
def inOk (m : Mot) (d q w : Int) : Bool := upB 1048576 [d, q] && upB 16384 [w]
def InD (m : Mot) (d q w : Int) : Int := if chkB m = true then (if inOk m d q w = true then ibd m d q w else 0) else 0
def InQ (m : Mot) (d q w : Int) : Int := if chkB m = true then (if inOk m d q w = true then ibq m d q w else 0) else 0
def InE (m : Mot) (d q w : Int) : Int := if chkB m = true then (if inOk m d q w = true then 0 else 3) else 2
def rotB (s : Rot) : Bool := upB 1048576 [s.d, s.q] && (upB 16384000 [s.w] && angB s.a)
theorem chkB_iff {m : Mot} : chkB m = true ↔ chk m := by simp [chkB]
end Dv
theorem upB_two (m a b : Int) : upB m [a, b] = (upB m [a] && upB m [b]) := by simp [upB]

set_option maxHeartbeats 1000000 in
theorem Torque_no1 (m : Mot) (d q : Int) (w : World) (hC : Dv.chkB m = false) :
    Calls Try.prog 44 #[.agg #[.int .i64 m.r, .int .i64 m.ld, .int .i64 m.lq, .int .i64 m.fx, .int .i64 m.po, .int .i64 m.mi, .int .i64 m.sp, .int .i64 m.dr, .int .i64 m.cu, .int .i64 m.fa], .int .i64 d, .int .i64 q] w fun e w' => e = .returned (.tuple #[.int .i64 0, .int .i64 2]) ∧ Below w.heap.size w w' := by
  go_enter Try.func44, Try.ntmps44
  go_wp2_with fail
  refine (Check_no m _ hC).mono ?_
  rintro e w1 ⟨rfl, hb1⟩
  go_wp2
  go_ret2
  exact ⟨rfl, ((Below.refl _ _).alloc (Nat.le_refl _) _).trans (hb1.mono (by simp))⟩
set_option maxHeartbeats 1000000 in
theorem Torque_no2 (m : Mot) (d q : Int) (w : World) (hC : Dv.chkB m = true) (hu : upB 1048576 [d, q] = false) :
    Calls Try.prog 44 #[.agg #[.int .i64 m.r, .int .i64 m.ld, .int .i64 m.lq, .int .i64 m.fx, .int .i64 m.po, .int .i64 m.mi, .int .i64 m.sp, .int .i64 m.dr, .int .i64 m.cu, .int .i64 m.fa], .int .i64 d, .int .i64 q] w fun e w' => e = .returned (.tuple #[.int .i64 0, .int .i64 3]) ∧ Below w.heap.size w w' := by
  go_enter Try.func44, Try.ntmps44
  go_wp2_with fail
  refine (Check_yes m _ hC).mono ?_
  rintro e w1 ⟨rfl, hb1⟩
  have HB := Lib.hid (((Below.refl _ _).alloc (Nat.le_refl _) _).trans (hb1.mono (by simp)))
  clear hb1
  go_wp2_with (go_at_call 67; (with_reducible refine (up2 _ _ _ _ _ (by simp) (by omega) (by omega)).mono ?_); rintro e w' ⟨rfl, rfl⟩)
  go_ret2
  exact ⟨rfl, HB.out.alloc HB.out.size _⟩
set_option maxHeartbeats 1000000 in
theorem Torque_go (m : Mot) (d q : Int) (w : World) (b : Bool) (hC : Dv.chkB m = true) (hu : upB 1048576 [d, q] = true) (ht : upB 68719476736 [Dv.tq m d q] = b) :
    Calls Try.prog 44 #[.agg #[.int .i64 m.r, .int .i64 m.ld, .int .i64 m.lq, .int .i64 m.fx, .int .i64 m.po, .int .i64 m.mi, .int .i64 m.sp, .int .i64 m.dr, .int .i64 m.cu, .int .i64 m.fa], .int .i64 d, .int .i64 q] w fun e w' => e = .returned (.tuple #[.int .i64 (if b = true then Dv.tq m d q else 0), .int .i64 (if b = true then 0 else 4)]) ∧ Below w.heap.size w w' := by
  obtain ⟨hd, hq⟩ := upB2.1 hu
  have HK := Lib.hid (Dv.chkB_iff.1 hC)
  cases b
  all_goals
    go_enter Try.func44, Try.ntmps44
    go_wp2_with fail
    refine (Check_yes m _ hC).mono ?_
    rintro e w1 ⟨rfl, hb1⟩
    obtain ⟨c0, c1, c2, c3, c4, c5, c6, c7, c8, c9⟩ := (motAt_alloc w m 52).on hb1 (by simp)
    have hz : w.heap.size < w1.heap.size := by have := hb1.size; simp at this; omega
    have HB := Lib.hid (((Below.refl _ _).alloc (Nat.le_refl _) _).trans (hb1.mono (by simp)))
    clear hb1
    go_wp2_with (first | (go_at_call 67; (with_reducible refine (up2 _ _ _ _ _ (by simp) (by omega) (by omega)).mono ?_); rintro e w' ⟨rfl, rfl⟩) | (go_at_call 100; refine (torque_c m d q _ HK.out hd hq).mono ?_; rintro e w2 ⟨rfl, hb2⟩; have HB2 := Lib.hid ((HB.out.alloc (by omega) _).trans (hb2.mono (by simp; omega))); have hz2 := HB2.out.size; clear hb2) | (go_at_call 67; (with_reducible refine (up1 _ _ _ _ (by simp) (by omega) (by omega)).mono ?_); rintro e w' ⟨rfl, rfl⟩))
    go_ret2
    exact ⟨rfl, HB2.out.alloc hz2 _⟩
theorem Torque_c (m : Mot) (d q : Int) (w : World) :
    Calls Try.prog 44 #[.agg #[.int .i64 m.r, .int .i64 m.ld, .int .i64 m.lq, .int .i64 m.fx, .int .i64 m.po, .int .i64 m.mi, .int .i64 m.sp, .int .i64 m.dr, .int .i64 m.cu, .int .i64 m.fa], .int .i64 d, .int .i64 q] w fun e w' => e = .returned (.tuple #[.int .i64 (Dv.TqV m d q), .int .i64 (Dv.TqE m d q)]) ∧ Below w.heap.size w w' := by
  cases hC : Dv.chkB m
  · exact (Torque_no1 m d q w hC).mono fun _ _ ⟨h1, h2⟩ => ⟨by rw [h1]; simp [Dv.TqV, Dv.TqE, hC], h2⟩
  · cases hu : upB 1048576 [d, q]
    · exact (Torque_no2 m d q w hC hu).mono fun _ _ ⟨h1, h2⟩ => ⟨by rw [h1]; simp [Dv.TqV, Dv.TqE, hC, hu], h2⟩
    · exact (Torque_go m d q w _ hC hu rfl).mono fun _ _ ⟨h1, h2⟩ => ⟨by rw [h1]; simp only [Dv.TqV, Dv.TqE, hC, hu, if_true], h2⟩

set_option maxHeartbeats 1000000 in
theorem TorqueR_no1 (m : Mot) (d q : Int) (w : World) (hC : Dv.chkB m = false) :
    Calls Try.prog 45 #[.agg #[.int .i64 m.r, .int .i64 m.ld, .int .i64 m.lq, .int .i64 m.fx, .int .i64 m.po, .int .i64 m.mi, .int .i64 m.sp, .int .i64 m.dr, .int .i64 m.cu, .int .i64 m.fa], .int .i64 d, .int .i64 q] w fun e w' => e = .returned (.tuple #[.int .i64 0, .int .i64 2]) ∧ Below w.heap.size w w' := by
  go_enter Try.func45, Try.ntmps45
  go_wp2_with fail
  refine (CheckR_no m _ hC).mono ?_
  rintro e w1 ⟨rfl, hb1⟩
  go_wp2
  go_ret2
  exact ⟨rfl, ((Below.refl _ _).alloc (Nat.le_refl _) _).trans (hb1.mono (by simp))⟩
set_option maxHeartbeats 1000000 in
theorem TorqueR_no2 (m : Mot) (d q : Int) (w : World) (hC : Dv.chkB m = true) (hu : upB 1048576 [d, q] = false) :
    Calls Try.prog 45 #[.agg #[.int .i64 m.r, .int .i64 m.ld, .int .i64 m.lq, .int .i64 m.fx, .int .i64 m.po, .int .i64 m.mi, .int .i64 m.sp, .int .i64 m.dr, .int .i64 m.cu, .int .i64 m.fa], .int .i64 d, .int .i64 q] w fun e w' => e = .returned (.tuple #[.int .i64 0, .int .i64 3]) ∧ Below w.heap.size w w' := by
  rw [upB_two, Bool.and_eq_false_iff] at hu
  cases h1 : upB 1048576 [d]
  · go_enter Try.func45, Try.ntmps45
    go_wp2_with fail
    refine (CheckR_yes m _ hC).mono ?_
    rintro e w1 ⟨rfl, hb1⟩
    have HB := Lib.hid (((Below.refl _ _).alloc (Nat.le_refl _) _).trans (hb1.mono (by simp)))
    clear hb1 hu
    go_wp2_with (go_at_call 97; refine (current_c _ _).mono ?_; rintro e w' ⟨rfl, rfl⟩)
    go_ret2
    exact ⟨rfl, HB.out⟩
  · have h2 : upB 1048576 [q] = false := hu.resolve_left (by rw [h1]; decide)
    go_enter Try.func45, Try.ntmps45
    go_wp2_with fail
    refine (CheckR_yes m _ hC).mono ?_
    rintro e w1 ⟨rfl, hb1⟩
    have HB := Lib.hid (((Below.refl _ _).alloc (Nat.le_refl _) _).trans (hb1.mono (by simp)))
    clear hb1 hu
    go_wp2_with (go_at_call 97; refine (current_c _ _).mono ?_; rintro e w' ⟨rfl, rfl⟩)
    go_ret2
    exact ⟨rfl, HB.out⟩
set_option maxHeartbeats 1000000 in
theorem TorqueR_go (m : Mot) (d q : Int) (w : World) (b : Bool) (hC : Dv.chkB m = true) (hu : upB 1048576 [d, q] = true) (ht : upB 68719476736 [Dv.tq m d q] = b) :
    Calls Try.prog 45 #[.agg #[.int .i64 m.r, .int .i64 m.ld, .int .i64 m.lq, .int .i64 m.fx, .int .i64 m.po, .int .i64 m.mi, .int .i64 m.sp, .int .i64 m.dr, .int .i64 m.cu, .int .i64 m.fa], .int .i64 d, .int .i64 q] w fun e w' => e = .returned (.tuple #[.int .i64 (if b = true then Dv.tq m d q else 0), .int .i64 (if b = true then 0 else 4)]) ∧ Below w.heap.size w w' := by
  obtain ⟨hd, hq⟩ := upB2.1 hu
  rw [upB_two, Bool.and_eq_true] at hu
  obtain ⟨h1, h2⟩ := hu
  have HK := Lib.hid (Dv.chkB_iff.1 hC)
  cases b
  · go_enter Try.func45, Try.ntmps45
    go_wp2_with fail
    refine (CheckR_yes m _ hC).mono ?_
    rintro e w1 ⟨rfl, hb1⟩
    obtain ⟨c0, c1, c2, c3, c4, c5, c6, c7, c8, c9⟩ := (motAt_alloc w m 52).on hb1 (by simp)
    have hz : w.heap.size < w1.heap.size := by have := hb1.size; simp at this; omega
    have HB := Lib.hid (((Below.refl _ _).alloc (Nat.le_refl _) _).trans (hb1.mono (by simp)))
    clear hb1
    go_wp2_with (first | (go_at_call 97; refine (current_c _ _).mono ?_; rintro e w' ⟨rfl, rfl⟩) | (go_at_call 101; refine (torqueR_c m d q _ HK.out hd hq).mono ?_; rintro e w2 ⟨rfl, hb2⟩; have HB2 := Lib.hid (HB.out.trans (hb2.mono (by omega))); have hz2 := HB2.out.size; clear hb2) | (go_at_call 89; refine (great_c _ _).mono ?_; rintro e w' ⟨rfl, rfl⟩))
    go_ret2
    exact ⟨rfl, HB2.out⟩
  · go_enter Try.func45, Try.ntmps45
    go_wp2_with fail
    refine (CheckR_yes m _ hC).mono ?_
    rintro e w1 ⟨rfl, hb1⟩
    have M := Lib.hid ((motAt_alloc w m 52).on hb1 (by simp))
    obtain ⟨c0, c1, c2, c3, c4, c5, c6, c7, c8, c9⟩ := M.out
    have hz : w.heap.size < w1.heap.size := by have := hb1.size; simp at this; omega
    have HB := Lib.hid (((Below.refl _ _).alloc (Nat.le_refl _) _).trans (hb1.mono (by simp)))
    clear hb1
    go_wp2_with (go_at_call 97; refine (current_c _ _).mono ?_; rintro e w' ⟨rfl, rfl⟩)
    refine (torqueR_c m d q _ HK.out hd hq).mono ?_
    rintro e w2 ⟨rfl, hb2⟩
    clear c0 c1 c2 c3 c4 c5 c6 c7 c8 c9
    obtain ⟨c0, c1, c2, c3, c4, c5, c6, c7, c8, c9⟩ := M.out.on hb2 hz
    have HB2 := Lib.hid (HB.out.trans (hb2.mono (by omega)))
    have hz2 := HB2.out.size
    clear hb2
    go_wp2_with (go_at_call 89; refine (great_c _ _).mono ?_; rintro e w' ⟨rfl, rfl⟩)
    refine (torqueR_c m d q _ HK.out hd hq).mono ?_
    rintro e w3 ⟨rfl, hb3⟩
    go_wp2
    go_ret2
    exact ⟨rfl, HB2.out.trans (hb3.mono (by omega))⟩
theorem TorqueR_c (m : Mot) (d q : Int) (w : World) :
    Calls Try.prog 45 #[.agg #[.int .i64 m.r, .int .i64 m.ld, .int .i64 m.lq, .int .i64 m.fx, .int .i64 m.po, .int .i64 m.mi, .int .i64 m.sp, .int .i64 m.dr, .int .i64 m.cu, .int .i64 m.fa], .int .i64 d, .int .i64 q] w fun e w' => e = .returned (.tuple #[.int .i64 (Dv.TqV m d q), .int .i64 (Dv.TqE m d q)]) ∧ Below w.heap.size w w' := by
  cases hC : Dv.chkB m
  · exact (TorqueR_no1 m d q w hC).mono fun _ _ ⟨h1, h2⟩ => ⟨by rw [h1]; simp [Dv.TqV, Dv.TqE, hC], h2⟩
  · cases hu : upB 1048576 [d, q]
    · exact (TorqueR_no2 m d q w hC hu).mono fun _ _ ⟨h1, h2⟩ => ⟨by rw [h1]; simp [Dv.TqV, Dv.TqE, hC, hu], h2⟩
    · exact (TorqueR_go m d q w _ hC hu rfl).mono fun _ _ ⟨h1, h2⟩ => ⟨by rw [h1]; simp only [Dv.TqV, Dv.TqE, hC, hu, if_true], h2⟩

set_option maxHeartbeats 1000000 in
theorem valid_c (s : Rot) (w : World) : Calls Try.prog 104 #[.agg #[.int .i64 s.d, .int .i64 s.q, .int .i64 s.w, .int .i64 s.a]] w fun e w' => e = .returned (.bool (Dv.rotB s)) ∧ Below w.heap.size w w' := by
  have E := Lib.hid (show Dv.rotB s = (upB 1048576 [s.d, s.q] && (upB 16384000 [s.w] && Dv.angB s.a)) from rfl)
  cases h1 : upB 1048576 [s.d, s.q]
  · rw [h1] at E
    go_enter Try.func104, Try.ntmps104
    go_wp2_with (first | (go_at_call 67; (with_reducible refine (up2 _ _ _ _ _ (by simp) (by omega) (by omega)).mono ?_); rintro e w' ⟨rfl, rfl⟩) | (go_at_call 67; (with_reducible refine (up1 _ _ _ _ (by simp) (by omega) (by omega)).mono ?_); rintro e w' ⟨rfl, rfl⟩) | (go_at_call 71; refine (angle_c _ _).mono ?_; rintro e w' ⟨rfl, rfl⟩))
    go_ret
    exact ⟨ret_bool E.out.symm, ((Below.refl _ _).alloc (Nat.le_refl _) _).alloc (by simp) _⟩
  · cases h2 : upB 16384000 [s.w]
    · rw [h1, h2] at E
      go_enter Try.func104, Try.ntmps104
      go_wp2_with (first | (go_at_call 67; (with_reducible refine (up2 _ _ _ _ _ (by simp) (by omega) (by omega)).mono ?_); rintro e w' ⟨rfl, rfl⟩) | (go_at_call 67; (with_reducible refine (up1 _ _ _ _ (by simp) (by omega) (by omega)).mono ?_); rintro e w' ⟨rfl, rfl⟩) | (go_at_call 71; refine (angle_c _ _).mono ?_; rintro e w' ⟨rfl, rfl⟩))
      go_ret
      exact ⟨ret_bool E.out.symm, (((Below.refl _ _).alloc (Nat.le_refl _) _).alloc (by simp) _).alloc (by simp; omega) _⟩
    · rw [h1, h2] at E
      go_enter Try.func104, Try.ntmps104
      go_wp2_with (first | (go_at_call 67; (with_reducible refine (up2 _ _ _ _ _ (by simp) (by omega) (by omega)).mono ?_); rintro e w' ⟨rfl, rfl⟩) | (go_at_call 67; (with_reducible refine (up1 _ _ _ _ (by simp) (by omega) (by omega)).mono ?_); rintro e w' ⟨rfl, rfl⟩) | (go_at_call 71; refine (angle_c _ _).mono ?_; rintro e w' ⟨rfl, rfl⟩))
      go_ret
      exact ⟨ret_bool E.out.symm, (((Below.refl _ _).alloc (Nat.le_refl _) _).alloc (by simp) _).alloc (by simp; omega) _⟩

set_option maxHeartbeats 1000000 in
theorem rotor_c (s : Rot) (w : World) : Calls Try.prog 105 #[.agg #[.int .i64 s.d, .int .i64 s.q, .int .i64 s.w, .int .i64 s.a]] w fun e w' => e = .returned (.bool (Dv.rotB s)) ∧ Below w.heap.size w w' := by
  have E := Lib.hid (show Dv.rotB s = ((upB 1048576 [s.d] && upB 1048576 [s.q]) && (Dv.inB s.w (-16384000) 16384000 && Dv.angB s.a)) from by rw [inB_up, ← upB_two]; rfl)
  cases h1 : upB 1048576 [s.d]
  · rw [h1] at E
    go_enter Try.func105, Try.ntmps105
    go_wp2_with (first | (go_at_call 97; refine (current_c _ _).mono ?_; rintro e w' ⟨rfl, rfl⟩) | (go_at_call 80; refine (within_c _ _ _ _).mono ?_; rintro e w' ⟨rfl, rfl⟩) | (go_at_call 82; refine (angleR_c _ _).mono ?_; rintro e w' ⟨rfl, rfl⟩))
    go_ret
    exact ⟨ret_bool E.out.symm, (Below.refl _ _).alloc (Nat.le_refl _) _⟩
  · cases h2 : upB 1048576 [s.q]
    · rw [h1, h2] at E
      go_enter Try.func105, Try.ntmps105
      go_wp2_with (first | (go_at_call 97; refine (current_c _ _).mono ?_; rintro e w' ⟨rfl, rfl⟩) | (go_at_call 80; refine (within_c _ _ _ _).mono ?_; rintro e w' ⟨rfl, rfl⟩) | (go_at_call 82; refine (angleR_c _ _).mono ?_; rintro e w' ⟨rfl, rfl⟩))
      go_ret
      exact ⟨ret_bool E.out.symm, (Below.refl _ _).alloc (Nat.le_refl _) _⟩
    · cases h3 : Dv.inB s.w (-16384000) 16384000
      · rw [h1, h2, h3] at E
        go_enter Try.func105, Try.ntmps105
        go_wp2_with (first | (go_at_call 97; refine (current_c _ _).mono ?_; rintro e w' ⟨rfl, rfl⟩) | (go_at_call 80; refine (within_c _ _ _ _).mono ?_; rintro e w' ⟨rfl, rfl⟩) | (go_at_call 82; refine (angleR_c _ _).mono ?_; rintro e w' ⟨rfl, rfl⟩))
        go_ret
        exact ⟨ret_bool E.out.symm, (Below.refl _ _).alloc (Nat.le_refl _) _⟩
      · rw [h1, h2, h3] at E
        go_enter Try.func105, Try.ntmps105
        go_wp2_with (first | (go_at_call 97; refine (current_c _ _).mono ?_; rintro e w' ⟨rfl, rfl⟩) | (go_at_call 80; refine (within_c _ _ _ _).mono ?_; rintro e w' ⟨rfl, rfl⟩) | (go_at_call 82; refine (angleR_c _ _).mono ?_; rintro e w' ⟨rfl, rfl⟩))
        go_ret
        exact ⟨ret_bool E.out.symm, (Below.refl _ _).alloc (Nat.le_refl _) _⟩
end Go.Proofs.Ytcneohhfnnelgaa
