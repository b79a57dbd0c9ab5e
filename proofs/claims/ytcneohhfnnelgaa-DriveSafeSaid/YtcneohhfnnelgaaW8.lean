/- Contracts of the regulators: tuned, span, step, Regulate of drive; gains, quantity, volt, within, regulate, Regulate of coulombref06. -/
import Derived.Test.YtcneohhfnnelgaaW7
import Derived.Deep.RegionWith
import Derived.StillTailTactics
namespace Go.Proofs.Ytcneohhfnnelgaa
open Go.RowKit
set_option linter.unusedVariables false

theorem quiet_left {P : Program} {f : FuncId} {args : Array Value} {w : World} {n : Nat} {v : Value}
    (h : Calls P f args (w.drewN n) fun e w' => e = .returned v ∧ w.drewN n = w') : Calls P f args (w.drewN n) fun e w'' => e = .returned v ∧ ∃ m, w'' = w.drewN m :=
  h.mono fun _ _ ⟨he, hm⟩ => ⟨he, n, hm.symm⟩
theorem quiet_add_left {P : Program} {f : FuncId} {args : Array Value} {w : World} {a n : Nat} {v : Value}
    (h : Calls P f args (w.drewN (a + n)) fun e w' => e = .returned v ∧ w.drewN (a + n) = w') :
    Calls P f args (w.drewN (a + n)) fun e w'' => e = .returned v ∧ ∃ m, w'' = w.drewN (a + m) :=
  h.mono fun _ _ ⟨he, hm⟩ => ⟨he, n, hm.symm⟩

theorem only_drewN {a w : World} {row : Option Nat} (h : a.grownBy w row) (n : Nat) : a.grownBy (w.drewN n) row := ⟨h.os, h.tape, h.output, h.size, h.block⟩
theorem only_drew {a w : World} {row : Option Nat} (h : a.grownBy w row) : a.grownBy w.drew row := ⟨h.os, h.tape, h.output, h.size, h.block⟩
theorem only_alloc {a w : World} {row : Option Nat} (h : a.grownBy w row) (o : Obj) : a.grownBy (w.alloc o) row :=
  ⟨h.os, h.tape, h.output, Nat.le_trans h.size (by simp), fun i hi hne => (Below.heap_alloc w o i (Nat.lt_of_lt_of_le hi h.size)).trans (h.block i hi hne)⟩
theorem only_setCell {a w : World} {g : Nat} (h : a.grownBy w (some g)) {p : Addr} (hp : p.block = g ∨ a.heap.size ≤ p.block) (u : Value) : a.grownBy (w.setCell p u) (some g) :=
  ⟨h.os, h.tape, h.output, by simpa [World.setCell] using h.size, fun i hi hne => (Below.heap_setCell w p u i (by
    rintro rfl
    rcases hp with hp | hp
    · exact hne (by rw [hp])
    · omega)).trans (h.block i hi hne)⟩
theorem only_of_below {a w : World} (h : Below a.heap.size a w) (row : Option Nat) : a.grownBy w row := ⟨h.os, h.tape, h.output, h.size, fun i hi _ => h.block i hi⟩

namespace Dv
def tunB (p i : Int) : Bool := decide (0 ≤ p ∧ p ≤ 16777216 ∧ 0 ≤ i ∧ i ≤ 16777216)
def spanB (lo hi : Int) : Bool := upB 1099511627776 [lo, hi] && decide (lo ≤ hi)
def raw (p s e : Int) : Int := p * e / 65536 + s
def regC (r e lo hi : Int) : Bool := decide ((lo ≤ r ∧ r ≤ hi) ∨ (hi < r ∧ e < 0) ∨ (r < lo ∧ 0 < e))
def regS (i s e : Int) (c : Bool) : Int := clip (if c = true then s + i * e / 65536 else s) (-1073741824) 1073741824
end Dv

set_option maxHeartbeats 400000 in
theorem tuned_c (p i : Int) (w : World) : Calls Try.prog 74 #[.agg #[.int .i64 p, .int .i64 i]] w fun e w' => e = .returned (.bool (Dv.tunB p i)) ∧ Below w.heap.size w w' := by
  by_cases h1 : 0 ≤ p
  · by_cases h2 : 0 ≤ i
    · by_cases h3 : p ≤ 16777216
      · by_cases h4 : i ≤ 16777216
        all_goals
          go_enter Try.func74, Try.ntmps74
          go_wp2
          all_goals
            go_ret
            exact ⟨ret_bool (by rw [Bool.eq_iff_iff]; simp [Dv.tunB]; omega), ((Below.refl _ _).alloc (Nat.le_refl _) _)⟩
      · go_enter Try.func74, Try.ntmps74
        go_wp2
        all_goals
          go_ret
          exact ⟨ret_bool (by rw [Bool.eq_iff_iff]; simp [Dv.tunB]; omega), ((Below.refl _ _).alloc (Nat.le_refl _) _)⟩
    · go_enter Try.func74, Try.ntmps74
      go_wp2
      all_goals
        go_ret
        exact ⟨ret_bool (by rw [Bool.eq_iff_iff]; simp [Dv.tunB]; omega), ((Below.refl _ _).alloc (Nat.le_refl _) _)⟩
  · go_enter Try.func74, Try.ntmps74
    go_wp2
    all_goals
      go_ret
      exact ⟨ret_bool (by rw [Bool.eq_iff_iff]; simp [Dv.tunB]; omega), ((Below.refl _ _).alloc (Nat.le_refl _) _)⟩

set_option maxHeartbeats 400000 in
theorem span_c (lo hi : Int) (w : World) : Calls Try.prog 75 #[.agg #[.int .i64 lo, .int .i64 hi]] w fun e w' => e = .returned (.bool (Dv.spanB lo hi)) ∧ Below w.heap.size w w' := by
  have E := Lib.hid (show Dv.spanB lo hi = (upB 1099511627776 [lo, hi] && decide (lo ≤ hi)) from rfl)
  cases hu : upB 1099511627776 [lo, hi]
  · rw [hu] at E
    go_enter Try.func75, Try.ntmps75
    go_wp2_with (first | (go_at_call 67; refine (up2 _ _ _ _ _ (by simp) (by omega) (by omega)).mono ?_; rintro e w' ⟨rfl, rfl⟩))
    go_ret
    exact ⟨ret_bool E.out.symm, ((Below.refl _ _).alloc (Nat.le_refl _) _).alloc (by simp) _⟩
  · rw [hu] at E
    go_enter Try.func75, Try.ntmps75
    go_wp2_with (first | (go_at_call 67; refine (up2 _ _ _ _ _ (by simp) (by omega) (by omega)).mono ?_; rintro e w' ⟨rfl, rfl⟩))
    go_ret
    exact ⟨ret_bool E.out.symm, ((Below.refl _ _).alloc (Nat.le_refl _) _).alloc (by simp) _⟩

/-- what step does to the world -/
def StepW (w : World) (b : Nat) (p i n : Int) (w' : World) : Prop :=
  w'.cell? ⟨b, 0, none⟩ = some (.int .i64 p) ∧ w'.cell? ⟨b, 1, none⟩ = some (.int .i64 i) ∧ w'.cell? ⟨b, 2, none⟩ = some (.int .i64 n) ∧ w'.frozen? ⟨b, 2, none⟩ = false ∧ w.grownBy w' (some b)





theorem stepW_one {b : Nat} {p i s : Int} {w : World} (hb : b < w.heap.size) (c0 : w.cell? ⟨b, 0, none⟩ = some (.int .i64 p)) (c1 : w.cell? ⟨b, 1, none⟩ = some (.int .i64 i)) (c2 : w.cell? ⟨b, 2, none⟩ = some (.int .i64 s)) (f2 : w.frozen? ⟨b, 2, none⟩ = false) (o : Obj) (k : Nat) (n : Int) :
    StepW w b p i n (((w.alloc o).drewN k).setCell ⟨b, 2, none⟩ (.int .i64 n)) := by
  have d2 : ((w.alloc o).drewN k).cell? ⟨b, 2, none⟩ = some (.int .i64 s) := by go_simp
  refine ⟨by go_simp, by go_simp, World.cell?_setCell_same _ _ _ d2, by go_simp, ?_⟩
  exact only_setCell (only_drewN (only_alloc (World.grownBy.refl _ _) _) _) (.inl rfl) _
theorem stepW_two {b : Nat} {p i s : Int} {w : World} (hb : b < w.heap.size) (c0 : w.cell? ⟨b, 0, none⟩ = some (.int .i64 p)) (c1 : w.cell? ⟨b, 1, none⟩ = some (.int .i64 i)) (c2 : w.cell? ⟨b, 2, none⟩ = some (.int .i64 s)) (f2 : w.frozen? ⟨b, 2, none⟩ = false) (o : Obj) (k : Nat) (u : Value) (n : Int) :
    StepW w b p i n ((((w.alloc o).drewN k).setCell ⟨b, 2, none⟩ u).setCell ⟨b, 2, none⟩ (.int .i64 n)) := by
  have d2 : ((w.alloc o).drewN k).cell? ⟨b, 2, none⟩ = some (.int .i64 s) := by go_simp
  refine ⟨by go_simp, by go_simp, World.cell?_setCell_same _ _ _ (World.cell?_setCell_same _ _ _ d2), by go_simp, ?_⟩
  exact only_setCell (only_setCell (only_drewN (only_alloc (World.grownBy.refl _ _) _) _) (.inl rfl) _) (.inl rfl) _

end Go.Proofs.Ytcneohhfnnelgaa
