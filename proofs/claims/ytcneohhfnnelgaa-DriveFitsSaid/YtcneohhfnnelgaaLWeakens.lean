/- The walk of coulomblaw06.DriveWeakens. -/
import Derived.Test.YtcneohhfnnelgaaW33
namespace Go.Proofs.Ytcneohhfnnelgaa
open Go.RowKit
set_option linter.unusedVariables false

def MoI (w : World) (m : Mot) (W : World) : Prop := Blk W w.heap.size 52 m.cs ∧ Below w.heap.size w W
theorem MoI.below {w : World} {m : Mot} {W W' : World} (h : MoI w m W) (hb : Below W.heap.size W W') : MoI w m W' :=
  ⟨h.1.below hb h.1.lt, h.2.trans (hb.mono h.2.size)⟩
theorem MoI.start (w : World) (m : Mot) : MoI w m (w.alloc (.cells #[.int .i64 m.r, .int .i64 m.ld, .int .i64 m.lq, .int .i64 m.fx, .int .i64 m.po, .int .i64 m.mi, .int .i64 m.sp, .int .i64 m.dr, .int .i64 m.cu, .int .i64 m.fa] 52)) :=
  ⟨Blk.new' _ _ _, (Below.refl _ _).alloc (Nat.le_refl _) _⟩

set_option maxHeartbeats 1000000 in
theorem Weakens_long (m : Mot) (q s u n : Int) (w : World) (h1 : (400 : Int) < n) (h2 : n ≤ 1048576) :
    Calls Try.prog 10 #[.agg #[.int .i64 m.r, .int .i64 m.ld, .int .i64 m.lq, .int .i64 m.fx, .int .i64 m.po, .int .i64 m.mi, .int .i64 m.sp, .int .i64 m.dr, .int .i64 m.cu, .int .i64 m.fa], .int .i64 q, .int .i64 s, .int .i64 u, .int .i64 n] w fun e w' => e = .returned (.bool true) ∧ Below w.heap.size w w' := by
  have I0 := Lib.hid (MoI.start w m)
  go_enter Try.func10, Try.ntmps10
  go_wp2_with fail
  refine (known_c _).mono ?_
  rintro e w1 ⟨rfl, hb1⟩
  go_wp2
  go_ret
  exact ⟨rfl, (I0.out.below hb1).2⟩

set_option maxHeartbeats 4000000 in
set_option maxRecDepth 100000 in
theorem Weakens_go (m : Mot) (q s u n : Int) (w : World) (h1 : (decide ((400 : Int) < n) && decide (n ≤ 1048576)) = false) :
    Calls Try.prog 10 #[.agg #[.int .i64 m.r, .int .i64 m.ld, .int .i64 m.lq, .int .i64 m.fx, .int .i64 m.po, .int .i64 m.mi, .int .i64 m.sp, .int .i64 m.dr, .int .i64 m.cu, .int .i64 m.fa], .int .i64 q, .int .i64 s, .int .i64 u, .int .i64 n] w fun e w' => e = .returned (.bool true) ∧ Below w.heap.size w w' := by
  have I0 := Lib.hid (MoI.start w m)
  cases h2 : decide ((400 : Int) < n)
  all_goals
    rw [h2] at h1
    try simp only [Bool.true_and] at h1
    go_enter Try.func10, Try.ntmps10
    go_wp2_with fail
    refine (Weaken_c m q s u n _).mono ?_
    rintro e w1 ⟨rfl, hb1⟩
    have I1 := Lib.hid (I0.out.below hb1)
    clear hb1
    obtain ⟨c0, c1, c2, c3, c4, c5, c6, c7, c8, c9⟩ := motOf I1.out.1
    go_wp2_with fail
    refine (WeakenR_c m q s u n _).mono ?_
    rintro e w2 ⟨rfl, hb2⟩
    have I2 := Lib.hid (I1.out.below hb2)
    clear hb2 c0 c1 c2 c3 c4 c5 c6 c7 c8 c9
    obtain ⟨c0, c1, c2, c3, c4, c5, c6, c7, c8, c9⟩ := motOf I2.out.1
    go_wp2_with fail
    refine (Strongest_c m s u n _).mono ?_
    rintro e w3 ⟨rfl, hb3⟩
    have I3 := Lib.hid (I2.out.below hb3)
    clear hb3 c0 c1 c2 c3 c4 c5 c6 c7 c8 c9
    obtain ⟨c0, c1, c2, c3, c4, c5, c6, c7, c8, c9⟩ := motOf I3.out.1
    go_wp2_with fail
    refine (StrongestR_c m s u n _).mono ?_
    rintro e w4 ⟨rfl, hb4⟩
    have I4 := Lib.hid (I3.out.below hb4)
    clear hb4 c0 c1 c2 c3 c4 c5 c6 c7 c8 c9
    go_wp2_with fail
    refine (known_c _).mono ?_
    rintro e w5 ⟨rfl, hb5⟩
    have I5 := Lib.hid (I4.out.below hb5)
    clear hb5
    go_wp2
    go_ret
    exact ⟨rfl, I5.out.2⟩

theorem DriveWeakens_any (m : Mot) (q s u n : Int) (w : World) :
    Calls Try.prog 10 #[.agg #[.int .i64 m.r, .int .i64 m.ld, .int .i64 m.lq, .int .i64 m.fx, .int .i64 m.po, .int .i64 m.mi, .int .i64 m.sp, .int .i64 m.dr, .int .i64 m.cu, .int .i64 m.fa], .int .i64 q, .int .i64 s, .int .i64 u, .int .i64 n] w fun e w' => e = .returned (.bool true) ∧ Below w.heap.size w w' := by
  cases h : (decide ((400 : Int) < n) && decide (n ≤ 1048576))
  · exact Weakens_go m q s u n w h
  · simp at h
    exact Weakens_long m q s u n w h.1 h.2
end Go.Proofs.Ytcneohhfnnelgaa
