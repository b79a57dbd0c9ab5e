/- Contracts of within of charge and in of coulombref09; bands in memory. -/
import Derived.Test.YtafajclbghofkaaRows
import Derived.Test.YtafajclbghofkaaM1
import Derived.WalkKit
import Derived.WalkSpells
import Derived.WalkLawsBesides
import Derived.IntWalk
import Derived.Lib.Hide
import Derived.Deep.QuietTactic
import Derived.BigQuiet
import Derived.LoopN
namespace Go.Proofs.Ytafajclbghofkaa
open Go.RowKit
set_option linter.unusedVariables false

theorem ret_int {k : IntKind} {a b : Int} (h : a = b) : Ending.returned (.int k a) = .returned (.int k b) := by rw [h]
theorem ret_bool {a b : Bool} (h : a = b) : Ending.returned (.bool a) = .returned (.bool b) := by rw [h]
theorem ret2_int {k l : IntKind} {a b c d : Int} (h : a = b) (h' : c = d) : Ending.returned (.tuple #[.int k a, .int l c]) = .returned (.tuple #[.int k b, .int l d]) := by rw [h, h']
theorem ret3_int {k l m : IntKind} {a b c d x y : Int} (h : a = b) (h' : c = d) (h'' : x = y) : Ending.returned (.tuple #[.int k a, .int l c, .int m x]) = .returned (.tuple #[.int k b, .int l d, .int m y]) := by rw [h, h', h'']
theorem bcell {W w1 : World} (hb : Below W.heap.size W w1) : (∀ b o, b < W.heap.size → w1.cell? ⟨b, o, none⟩ = W.cell? ⟨b, o, none⟩) ∧ (∀ b o, b < W.heap.size → w1.frozen? ⟨b, o, none⟩ = W.frozen? ⟨b, o, none⟩) :=
  ⟨fun b o h => hb.cell (p := ⟨b, o, none⟩) h, fun b o h => hb.frozen (p := ⟨b, o, none⟩) h⟩
theorem below_cell {B : Nat} {w w1 : World} (hb : Below B w w1) {b o : Nat} {v : Option Value} (hlt : b < B) (h : w.cell? ⟨b, o, none⟩ = v) : w1.cell? ⟨b, o, none⟩ = v :=
  (hb.cell (p := ⟨b, o, none⟩) hlt).trans h
theorem below_drewN {B : Nat} {a w : World} (h : Below B a w) (n : Nat) : Below B a (w.drewN n) := ⟨h.os, h.tape, h.output, h.size, h.block⟩
theorem block_of_add (a : Addr) (n : Nat) : (a.add n).block = a.block := by unfold Addr.add; split <;> rfl
theorem quiet_left {P : Program} {f : FuncId} {args : Array Value} {w : World} {n : Nat} {v : Value}
    (h : Calls P f args (w.drewN n) fun e w' => e = .returned v ∧ w.drewN n = w') : Calls P f args (w.drewN n) fun e w'' => e = .returned v ∧ ∃ m, w'' = w.drewN m :=
  h.mono fun _ _ ⟨he, hm⟩ => ⟨he, n, hm.symm⟩

/-- a slice's bands -/
def BandsAt (w : World) (A : Option Addr) (bs : List Bd) : Prop :=
  ∀ i, i < bs.length → ∃ ad, A = some ad ∧ ad.block < w.heap.size ∧ w.cell? (ad.add (i * 3)) = some (.int .i64 (Cv.fr bs i)) ∧
    w.cell? ⟨(ad.add (i * 3)).block, (ad.add (i * 3)).off + 1, none⟩ = some (.int .i64 (Cv.inn bs i)) ∧ w.cell? ⟨(ad.add (i * 3)).block, (ad.add (i * 3)).off + 2, none⟩ = some (.int .i64 (Cv.bk bs i))
theorem BandsAt.below {w w1 : World} {A : Option Addr} {bs : List Bd} (h : BandsAt w A bs) (hb : Below w.heap.size w w1) : BandsAt w1 A bs := by
  intro i hi
  obtain ⟨ad, e, hlt, c0, c1, c2⟩ := h i hi
  have hbl : (ad.add (i * 3)).block < w.heap.size := by rw [block_of_add]; exact hlt
  exact ⟨ad, e, Nat.lt_of_lt_of_le hlt hb.size, (hb.cell hbl).trans c0, (hb.cell (p := ⟨_, _, none⟩) hbl).trans c1, (hb.cell (p := ⟨_, _, none⟩) hbl).trans c2⟩

set_option maxHeartbeats 400000 in
theorem within_c (x lo hi : Int) (w : World) : Calls Try.prog 51 #[.int .i64 x, .int .i64 lo, .int .i64 hi] w fun e w' => e = .returned (.bool (Cv.inB x lo hi)) ∧ w = w' := by
  by_cases h1 : lo ≤ x
  · by_cases h2 : x ≤ hi
    all_goals
      go_enter Try.func51, Try.ntmps51
      go_wp2
      go_ret
      exact ⟨ret_bool (by rw [Bool.eq_iff_iff]; simp [Cv.inB]; omega), rfl⟩
  · go_enter Try.func51, Try.ntmps51
    go_wp2
    go_ret
    exact ⟨ret_bool (by rw [Bool.eq_iff_iff]; simp [Cv.inB]; omega), rfl⟩
set_option maxHeartbeats 400000 in
theorem in_c (x lo hi : Int) (w : World) : Calls Try.prog 54 #[.int .i64 x, .int .i64 lo, .int .i64 hi] w fun e w' => e = .returned (.bool (Cv.inB x lo hi)) ∧ w = w' := by
  by_cases h1 : lo ≤ x
  · by_cases h2 : x ≤ hi
    all_goals
      go_enter Try.func54, Try.ntmps54
      go_wp2
      go_ret
      exact ⟨ret_bool (by rw [Bool.eq_iff_iff]; simp [Cv.inB]; omega), rfl⟩
  · go_enter Try.func54, Try.ntmps54
    go_wp2
    go_ret
    exact ⟨ret_bool (by rw [Bool.eq_iff_iff]; simp [Cv.inB]; omega), rfl⟩

theorem int_beq_true {a b : Int} (h : a = b) : (a == b) = true := by simpa using h
theorem int_beq_false {a b : Int} (h : a ≠ b) : (a == b) = false := by simpa using h

/-- a head that is refused -/
def HeadBad (day fee : Int) (n : Nat) : Prop := ¬ (1 ≤ day ∧ day ≤ 1099511627776) ∨ n = 0 ∨ 48 < n ∨ ¬ (0 ≤ fee ∧ fee ≤ 1048576)

set_option maxHeartbeats 400000 in
theorem CheckTariff_head (day fee : Int) (A : Option Addr) (n cap : Nat) (w : World) (hn63 : n ≤ 9223372036854775807) (h : HeadBad day fee n) :
    Calls Try.prog 17 #[.agg #[.int .i64 day, .slice A n cap, .int .i64 fee]] w fun e w' => e = .returned (.int .i64 2) ∧ Below w.heap.size w w' := by
  cases h0 : Cv.inB day 1 1099511627776
  · clear h
    go_enter Try.func17, Try.ntmps17
    go_wp2_with (go_at_call 51; refine (within_c _ _ _ _).mono ?_; rintro e w' ⟨rfl, rfl⟩)
    go_ret
    exact ⟨rfl, (Below.refl _ _).alloc (Nat.le_refl _) _⟩
  · have h0' := Cv.inB_iff.1 h0
    by_cases h1 : n = 0
    · have hn0 : ((n : Int) == 0) = true := by simp; omega
      clear h h1
      go_enter Try.func17, Try.ntmps17
      go_wp2_with (go_at_call 51; refine (within_c _ _ _ _).mono ?_; rintro e w' ⟨rfl, rfl⟩)
      go_ret
      exact ⟨rfl, (Below.refl _ _).alloc (Nat.le_refl _) _⟩
    · have hn0 : ((n : Int) == 0) = false := by simp; omega
      by_cases h2 : 48 < n
      · have hn1 : decide (48 < (n : Int)) = true := by simp; omega
        clear h h1
        go_enter Try.func17, Try.ntmps17
        go_wp2_with (go_at_call 51; refine (within_c _ _ _ _).mono ?_; rintro e w' ⟨rfl, rfl⟩)
        go_ret
        exact ⟨rfl, (Below.refl _ _).alloc (Nat.le_refl _) _⟩
      · have hn1 : decide (48 < (n : Int)) = false := by simp; omega
        have h3 : Cv.inB fee 0 1048576 = false := Cv.inB_no (by unfold HeadBad at h; omega)
        clear h h1 h2
        go_enter Try.func17, Try.ntmps17
        go_wp2_with (go_at_call 51; refine (within_c _ _ _ _).mono ?_; rintro e w' ⟨rfl, rfl⟩)
        go_ret
        exact ⟨rfl, (Below.refl _ _).alloc (Nat.le_refl _) _⟩
end Go.Proofs.Ytafajclbghofkaa
