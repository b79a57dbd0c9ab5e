/- Contracts of Regulate of drive, and of gains, quantity, volt, within, regulate and Regulate of coulombref06. -/
import Derived.Test.YtcneohhfnnelgaaW9
namespace Go.Proofs.Ytcneohhfnnelgaa
open Go.RowKit
set_option linter.unusedVariables false

namespace Dv
def inB (x lo hi : Int) : Bool := decide (lo ≤ x ∧ x ≤ hi)
def rgA (p i lo hi : Int) : Bool := tunB p i && spanB lo hi
def rgB (s e : Int) : Bool := upB 1073741824 [s] && upB 2097152 [e]
def rgV (p i s e lo hi : Int) : Int := if rgA p i lo hi = true then (if rgB s e = true then clip (raw p s e) lo hi else 0) else 0
def rgN (p i s e lo hi : Int) : Int := if rgA p i lo hi = true then (if rgB s e = true then regS i s e (regC (raw p s e) e lo hi) else 0) else 0
def rgE (p i s e lo hi : Int) : Int := if rgA p i lo hi = true then (if rgB s e = true then 0 else 3) else 2
end Dv

set_option maxHeartbeats 1000000 in
theorem Regulate_ok (p i s e lo hi : Int) (w : World) (ht : Dv.tunB p i = true) (hsp : Dv.spanB lo hi = true) (h1 : upB 1073741824 [s] = true) (h2 : upB 2097152 [e] = true) :
    Calls Try.prog 23 #[.agg #[.int .i64 p, .int .i64 i], .int .i64 s, .int .i64 e, .agg #[.int .i64 lo, .int .i64 hi]] w fun en w' => en = .returned (.tuple #[.int .i64 (Dv.clip (Dv.raw p s e) lo hi), .int .i64 (Dv.regS i s e (Dv.regC (Dv.raw p s e) e lo hi)), .int .i64 0]) ∧ Below w.heap.size w w' := by
  have ht' : 0 ≤ p ∧ p ≤ 16777216 ∧ 0 ≤ i ∧ i ≤ 16777216 := by simpa [Dv.tunB] using ht
  have hsp' : lo ≤ hi := by
    unfold Dv.spanB at hsp
    rw [Bool.and_eq_true] at hsp
    simpa using hsp.2
  have b1 := upB1.1 h1
  have b2 := upB1.1 h2
  go_enter Try.func23, Try.ntmps23
  go_wp2_with fail
  refine (tuned_c _ _ _).mono ?_
  rintro en w1 ⟨rfl, hb1⟩
  rw [ht]
  have a0 : w1.cell? ⟨w.heap.size, 0, none⟩ = some (.int .i64 p) := (hb1.cell (p := ⟨w.heap.size, 0, none⟩) (by simp; omega)).trans (by go_simp)
  have a1 : w1.cell? ⟨w.heap.size, 1, none⟩ = some (.int .i64 i) := (hb1.cell (p := ⟨w.heap.size, 1, none⟩) (by simp; omega)).trans (by go_simp)
  have a2 : w1.cell? ⟨w.heap.size + 1, 0, none⟩ = some (.int .i64 lo) := (hb1.cell (p := ⟨w.heap.size + 1, 0, none⟩) (by simp)).trans (by go_simp)
  have a3 : w1.cell? ⟨w.heap.size + 1, 1, none⟩ = some (.int .i64 hi) := (hb1.cell (p := ⟨w.heap.size + 1, 1, none⟩) (by simp)).trans (by go_simp)
  have hz1 : w.heap.size + 1 < w1.heap.size := by have := hb1.size; simp at this; omega
  have hz0 : w.heap.size < w1.heap.size := by omega
  have HB1 := Lib.hid (show Below w.heap.size w w1 from (((Below.refl _ _).alloc (Nat.le_refl _) _).alloc (by simp) _).trans (hb1.mono (by simp; omega)))
  clear hb1
  go_wp2_with fail
  refine (span_c _ _ _).mono ?_
  rintro en w2 ⟨rfl, hb2⟩
  rw [hsp]
  have c0 : w2.cell? ⟨w.heap.size, 0, none⟩ = some (.int .i64 p) := (hb2.cell (p := ⟨w.heap.size, 0, none⟩) (by simp; omega)).trans a0
  have c1 : w2.cell? ⟨w.heap.size, 1, none⟩ = some (.int .i64 i) := (hb2.cell (p := ⟨w.heap.size, 1, none⟩) (by simp; omega)).trans a1
  have c2 : w2.cell? ⟨w.heap.size + 1, 0, none⟩ = some (.int .i64 lo) := (hb2.cell (p := ⟨w.heap.size + 1, 0, none⟩) hz1).trans a2
  have c3 : w2.cell? ⟨w.heap.size + 1, 1, none⟩ = some (.int .i64 hi) := (hb2.cell (p := ⟨w.heap.size + 1, 1, none⟩) hz1).trans a3
  have hz2 : w.heap.size + 1 < w2.heap.size := by have := hb2.size; omega
  have hz3 : w.heap.size < w2.heap.size := by omega
  have HB2 := Lib.hid (show Below w.heap.size w w2 from HB1.out.trans (hb2.mono (by omega)))
  clear hb2 a0 a1 a2 a3 hz1
  go_wp2_with fail
  refine (up1 _ _ _ _ rfl (by omega) (by omega)).mono ?_
  rintro en w' ⟨rfl, rfl⟩
  rw [h1]
  go_wp2_with fail
  refine (up1 _ _ _ _ (by simp) (by omega) (by omega)).mono ?_
  rintro en w' ⟨rfl, rfl⟩
  rw [h2]
  go_wp2_with fail
  refine (step_c _ p i s e lo hi _ (by simp) (by go_simp) (by go_simp) (by go_simp) (by go_simp) ⟨ht'.1, ht'.2.1⟩ ht'.2.2 b1 b2 hsp').mono ?_
  rintro en w3 ⟨rfl, d0, d1, d2, df, hg⟩
  have HB3 := Lib.hid (show Below w.heap.size w w3 from by
    have hsz := hg.size
    simp at hsz
    have hx : Below w.heap.size w (((w2.alloc (.cells #[.int .i64 s] 2)).alloc (.cells #[.int .i64 e] 2)).alloc (.cells #[.int .i64 p, .int .i64 i, .int .i64 s] 97)) := ((HB2.out.alloc (by omega) _).alloc (by simp; omega) _).alloc (by simp; omega) _
    exact ⟨hg.os.trans hx.os, hg.tape.trans hx.tape, hg.output.trans hx.output, Nat.le_trans hx.size hg.size, fun k hk => (hg.block k (by simp; omega) (by simp; omega)).trans (hx.block k hk)⟩)
  clear hg c0 c1 c2 c3 d0 d1 df
  go_wp2_with fail
  go_quiet (fail)
  go_wp2_with fail
  go_ret3
  exact ⟨rfl, below_drewN HB3.out _⟩
end Go.Proofs.Ytcneohhfnnelgaa
