/- Contracts of one, less, per, ceil of drive and of point, up, times of coulombref06: spans of numbers. Contracts of times of coulombref06 and of per of drive. The contract of per of drive. -/
import Derived.Test.YtcneohhfnnelgaaS0
import Derived.Test.YtcneohhfnnelgaaR5
import Derived.Test.YtcneohhfnnelgaaR3
namespace Go.Proofs.Ytcneohhfnnelgaa
open Go.RowKit
set_option linter.unusedVariables false

theorem ceil_c (n d : Int) (w : World) (hd : 1 ≤ d) (h0 : -4611686018427387904 ≤ n) (h1 : n ≤ 4611686018427387904) :
    Calls Try.prog 112 #[.int .i64 n, .int .i64 d] w fun e w' => e = .returned (.int .i64 (-(-n / d))) ∧ w = w' := by
  have hb := Dv.ediv_bd (-n) d hd 4611686018427387904 (by omega) (by omega) (by omega)
  go_enter Try.func112, Try.ntmps112
  go_wp2_with (go_at_call 69; refine (div_c _ _ _ hd (by omega) (by omega)).mono ?_; rintro e w' ⟨rfl, rfl⟩)
  go_ret
  exact ⟨rfl, rfl⟩
theorem upR_c (n d : Int) (w : World) (hd : 1 ≤ d) (h0 : -4611686018427387904 ≤ n) (h1 : n ≤ 4611686018427387904) :
    Calls Try.prog 114 #[.int .i64 n, .int .i64 d] w fun e w' => e = .returned (.int .i64 (-(-n / d))) ∧ w = w' := by
  have hb := Dv.ediv_bd (-n) d hd 4611686018427387904 (by omega) (by omega) (by omega)
  go_enter Try.func114, Try.ntmps114
  go_wp2_with (go_at_call 117; refine (Floor_c _ _ _ hd (by omega) (by omega)).mono ?_; rintro e w' ⟨rfl, rfl⟩)
  go_ret
  exact ⟨rfl, rfl⟩
theorem one_c (x : Int) (w : World) : Calls Try.prog 131 #[.int .i64 x] w fun e w' => e = .returned (.agg #[.int .i64 x, .int .i64 x]) ∧ Below w.heap.size w w' := by
  go_enter Try.func131, Try.ntmps131
  go_wp2
  exact bodyPost_ret (v := .agg #[.int .i64 x, .int .i64 x]) (by simp [results, Try.results131, go_sem]) rfl ⟨rfl, (Below.refl _ _).alloc (Nat.le_refl _) _⟩
theorem point_c (x : Int) (w : World) : Calls Try.prog 133 #[.int .i64 x] w fun e w' => e = .returned (.agg #[.int .i64 x, .int .i64 x]) ∧ Below w.heap.size w w' := by
  go_enter Try.func133, Try.ntmps133
  go_wp2
  exact bodyPost_ret (v := .agg #[.int .i64 x, .int .i64 x]) (by simp [results, Try.results133, go_sem]) rfl ⟨rfl, (Below.refl _ _).alloc (Nat.le_refl _) _⟩
set_option maxHeartbeats 1000000 in
theorem less_c (a b c d : Int) (w : World) (ha : -4611686018427387904 ≤ a ∧ a ≤ 4611686018427387904) (hb : -4611686018427387904 ≤ b ∧ b ≤ 4611686018427387904) (hc : -4611686018427387904 ≤ c ∧ c ≤ 4611686018427387903) (hd : -4611686018427387903 ≤ d ∧ d ≤ 4611686018427387904) (hc' : -4611686018427387903 ≤ c) :
    Calls Try.prog 128 #[.agg #[.int .i64 a, .int .i64 b], .agg #[.int .i64 c, .int .i64 d]] w fun e w' => e = .returned (.agg #[.int .i64 (a - d), .int .i64 (b - c)]) ∧ Below w.heap.size w w' := by
  go_enter Try.func128, Try.ntmps128
  go_wp2
  exact bodyPost_ret (v := .agg #[.int .i64 (a - d), .int .i64 (b - c)]) (by simp [results, Try.results128, go_sem]) rfl ⟨rfl, (((Below.refl _ _).alloc (Nat.le_refl _) _).alloc (by simp) _).alloc (by simp; omega) _⟩
end Go.Proofs.Ytcneohhfnnelgaa
namespace Go.Proofs.Ytcneohhfnnelgaa
open Go.RowKit
set_option linter.unusedVariables false
namespace Dv
def mn4 (a b c d : Int) : Int := min (min (min a b) c) d
def mx4 (a b c d : Int) : Int := max (max (max a b) c) d
end Dv

theorem max4_run (ts : Array TypeId) (t : TypeId) (x y z u : Int) (w : World) : (Builtin.max_ ts t #[.int .i64 x, .int .i64 y, .int .i64 z, .int .i64 u]).run Try.prog w = .ok (.int .i64 (Dv.mx4 x y z u)) w := by
  have h : (Builtin.max_ ts t #[.int .i64 x, .int .i64 y, .int .i64 z, .int .i64 u]).run Try.prog w = .ok (.int .i64 (if u > (if z > (if y > x then y else x) then z else (if y > x then y else x)) then u else (if z > (if y > x then y else x) then z else (if y > x then y else x)))) w := by simp [Builtin.max_]; rfl
  rw [h]
  congr 2
  unfold Dv.mx4
  by_cases h1 : x < y
  · rw [if_pos h1]
    by_cases h2 : y < z
    · rw [if_pos h2]; split <;> omega
    · rw [if_neg h2]; split <;> omega
  · rw [if_neg h1]
    by_cases h2 : x < z
    · rw [if_pos h2]; split <;> omega
    · rw [if_neg h2]; split <;> omega
theorem min4_run (ts : Array TypeId) (t : TypeId) (x y z u : Int) (w : World) : (Builtin.min_ ts t #[.int .i64 x, .int .i64 y, .int .i64 z, .int .i64 u]).run Try.prog w = .ok (.int .i64 (Dv.mn4 x y z u)) w := by
  have h : (Builtin.min_ ts t #[.int .i64 x, .int .i64 y, .int .i64 z, .int .i64 u]).run Try.prog w = .ok (.int .i64 (if u < (if z < (if y < x then y else x) then z else (if y < x then y else x)) then u else (if z < (if y < x then y else x) then z else (if y < x then y else x)))) w := by simp [Builtin.min_]; rfl
  rw [h]
  congr 2
  unfold Dv.mn4
  by_cases h1 : y < x
  · rw [if_pos h1]
    by_cases h2 : z < y
    · rw [if_pos h2]; split <;> omega
    · rw [if_neg h2]; split <;> omega
  · rw [if_neg h1]
    by_cases h2 : z < x
    · rw [if_pos h2]; split <;> omega
    · rw [if_neg h2]; split <;> omega

set_option maxHeartbeats 1000000 in
theorem times_c (a b c d : Int) (w : World) (h1 : -4611686018427387904 ≤ a * c ∧ a * c ≤ 4611686018427387904) (h2 : -4611686018427387904 ≤ a * d ∧ a * d ≤ 4611686018427387904) (h3 : -4611686018427387904 ≤ b * c ∧ b * c ≤ 4611686018427387904) (h4 : -4611686018427387904 ≤ b * d ∧ b * d ≤ 4611686018427387904) :
    Calls Try.prog 132 #[.agg #[.int .i64 a, .int .i64 b], .agg #[.int .i64 c, .int .i64 d]] w fun e w' => e = .returned (.agg #[.int .i64 (Dv.mn4 (a * c) (a * d) (b * c) (b * d)), .int .i64 (Dv.mx4 (a * c) (a * d) (b * c) (b * d))]) ∧ Below w.heap.size w w' := by
  have hmx := fun ts t W => max4_run ts t (a * c) (a * d) (b * c) (b * d) W
  have hmn := fun ts t W => min4_run ts t (a * c) (a * d) (b * c) (b * d) W
  go_enter Try.func132, Try.ntmps132
  go_wp2_with fail
  refine gen_world (fun W => Blk W w.heap.size 29 [.int .i64 a, .int .i64 b] ∧ Blk W (w.heap.size + 1) 29 [.int .i64 c, .int .i64 d] ∧ Blk W (w.heap.size + 1 + 1) 29 [.int .i64 0, .int .i64 0] ∧ Below w.heap.size w W) ⟨((Blk.new' _ _ _).alloc _).alloc _, by have := (Blk.new' (w.alloc (.cells #[.int .i64 a, .int .i64 b] 29)) #[.int .i64 c, .int .i64 d] 29).alloc (.cells #[.int .i64 0, .int .i64 0] 29); simpa using this, by have := Blk.new' ((w.alloc (.cells #[.int .i64 a, .int .i64 b] 29)).alloc (.cells #[.int .i64 c, .int .i64 d] 29)) #[.int .i64 0, .int .i64 0] 29; simpa using this, (((Below.refl _ _).alloc (Nat.le_refl _) _).alloc (by simp) _).alloc (by simp; omega) _⟩ ?_
  rintro w1 ⟨b1, b2, b3, b4⟩
  have p0 := b1.cell 0 rfl
  have p1 := b1.cell 1 rfl
  have q0 := b2.cell 0 rfl
  have q1 := b2.cell 1 rfl
  have z1 := b1.lt
  have z2 := b2.lt
  have I1 := Lib.hid (And.intro b3 b4)
  clear b1 b2 b3 b4
  refine wp_region_past (by kernel_rfl) (by kernel_rfl) ?_
  repeat (go_big_quiet_step (fail))
  refine wpQuiet_nil ?_
  intro x
  have I2 := Lib.hid (And.intro (I1.out.1.below x.far I1.out.1.lt) (I1.out.2.trans (x.far.mono I1.out.2.size)))
  generalize x.w = w2 at I2 ⊢
  clear p0 p1 q0 q1 z1 z2
  have c0 := I2.out.1.cell 0 rfl
  have c1 := I2.out.1.cell 1 rfl
  have f0 := I2.out.1.free 0
  have f1 := I2.out.1.free 1
  have z := I2.out.1.lt
  go_wp2
  exact bodyPost_ret (v := .agg #[.int .i64 (Dv.mn4 (a * c) (a * d) (b * c) (b * d)), .int .i64 (Dv.mx4 (a * c) (a * d) (b * c) (b * d))]) (by simp [results, Try.results132, go_sem, c0, c1]) rfl ⟨rfl, (I2.out.2.setCell (by simp; omega) _).setCell (by simp; omega) _⟩
end Go.Proofs.Ytcneohhfnnelgaa
namespace Go.Proofs.Ytcneohhfnnelgaa
open Go.RowKit
set_option linter.unusedVariables false

set_option maxHeartbeats 1000000 in
theorem per_c (a b d : Int) (w : World) (hd : 1 ≤ d) (ha : -4611686018427387904 ≤ a ∧ a ≤ 4611686018427387904) (hb : -4611686018427387904 ≤ b ∧ b ≤ 4611686018427387904) :
    Calls Try.prog 129 #[.agg #[.int .i64 a, .int .i64 b], .int .i64 d] w fun e w' => e = .returned (.agg #[.int .i64 (a / d), .int .i64 (b / d)]) ∧ Below w.heap.size w w' := by
  go_enter Try.func129, Try.ntmps129
  go_wp2_with fail
  refine gen_world (fun W => Blk W w.heap.size 29 [.int .i64 a, .int .i64 b] ∧ Blk W (w.heap.size + 1) 29 [.int .i64 0, .int .i64 0] ∧ Below w.heap.size w W) ⟨(Blk.new' _ _ _).alloc _, by have := Blk.new' (w.alloc (.cells #[.int .i64 a, .int .i64 b] 29)) #[.int .i64 0, .int .i64 0] 29; simpa using this, ((Below.refl _ _).alloc (Nat.le_refl _) _).alloc (by simp) _⟩ ?_
  rintro w1 ⟨b1, b2, b3⟩
  have I1 := Lib.hid (And.intro b1 (And.intro b2 b3))
  clear b1 b2 b3
  refine wp_region_head 9 ?af (by kernel_rfl) (by kernel_rfl) ?walk ?tail
  case walk =>
    intro V hV
    have b1 := I1.out.1.below hV I1.out.1.lt
    have p0 := b1.cell 0 rfl
    have p1 := b1.cell 1 rfl
    have z1 := b1.lt
    clear b1
    simp only [List.take_succ_cons, List.take_zero]
    repeat (go_big_quiet_step ((go_at_call 69; exact past_same (div_c _ _ _ hd (by omega) (by omega)))))
    refine wpQuiet_nil ?_
    rfl
  case tail =>
    intro w2 hb2
    have I2 := Lib.hid (And.intro (I1.out.2.1.below hb2 I1.out.2.1.lt) (I1.out.2.2.trans (hb2.mono I1.out.2.2.size)))
    clear hb2
    have c0 := I2.out.1.cell 0 rfl
    have c1 := I2.out.1.cell 1 rfl
    have f0 := I2.out.1.free 0
    have f1 := I2.out.1.free 1
    have z := I2.out.1.lt
    simp only [List.drop_succ_cons, List.drop_zero]
    go_wp2
    exact bodyPost_ret (v := .agg #[.int .i64 (a / d), .int .i64 (b / d)]) (by simp [results, Try.results129, go_sem, c0, c1]) rfl ⟨rfl, (I2.out.2.setCell (by simp) _).setCell (by simp) _⟩
end Go.Proofs.Ytcneohhfnnelgaa
