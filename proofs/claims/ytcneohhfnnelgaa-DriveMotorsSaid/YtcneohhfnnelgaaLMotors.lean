/- The walk of coulomblaw06.DriveMotors: it returns true for all motors, states, numbers and offsets. -/
import Derived.Test.YtcneohhfnnelgaaW27
import Derived.Laws.StructEq
namespace Go.Proofs.Ytcneohhfnnelgaa
open Go.RowKit
set_option linter.unusedVariables false

theorem eqF_cons {P : Program} {d : Nat} {xs ys : Array Value} {f : Field} {fs : List Field} {w : World} {n : String} {t : TypeId} {o : Nat} {x y : Value} (h : (f.name, f.type, f.offset) = (n, t, o)) (hn : n ≠ "_") (hx : (part t xs o).run P w = .ok x w) (hy : (part t ys o).run P w = .ok y w)
    (he : (Op.equalIn d t x y).run P w = .ok true w) (hr : (Op.eqFields d xs ys fs).run P w = .ok true w) : (Op.eqFields d xs ys (f :: fs)).run P w = .ok true w := by
  simp only [Prod.mk.injEq] at h
  obtain ⟨h1, h2, h3⟩ := h
  simp only [Op.eqFields, Sem.run_bind, Sem.run_ite]
  rw [h1, h2, h3, if_pos hn, hx]
  simp only [Result.andThen_ok]
  rw [hy]
  simp only [Result.andThen_ok]
  rw [he]
  simp [hr]
/-- a struct of numbers equals itself -/
theorem eqF_self (d : Nat) (xs : List Int) (w : World) : ∀ fs : List Field, (fs.all fun f => f.name != "_" && f.type == 2 && decide (f.offset < xs.length)) = true → (Op.eqFields (d + 1) (xs.map (Value.int .i64)).toArray (xs.map (Value.int .i64)).toArray fs).run Try.prog w = .ok true w
  | [], _ => by simp [Op.eqFields]
  | f :: fs, h => by
    simp only [List.all_cons, Bool.and_eq_true, bne_iff_ne, beq_iff_eq, decide_eq_true_eq] at h
    obtain ⟨⟨⟨h1, h2⟩, h3⟩, h4⟩ := h
    have hp : (xs.map (Value.int .i64)).toArray[f.offset]? = some (.int .i64 xs[f.offset]) := by simp [h3]
    exact eqF_cons (n := f.name) (t := 2) (o := f.offset) (by rw [← h2]) h1 (partAt w _ _ _ hp) (partAt w _ _ _ hp) ((elInt d w _ _).trans (by simp)) (eqF_self d xs w fs h4)
@[go_sem] theorem eqRot (w : World) (a b c d : Int) : (Op.equalIn 10000 57 (.agg #[.int .i64 a, .int .i64 b, .int .i64 c, .int .i64 d]) (.agg #[.int .i64 a, .int .i64 b, .int .i64 c, .int .i64 d])).run Try.prog w = .ok true w := by
  rw [run_equalIn_struct w 9999 57 _ _ (by kernel_rfl) (by kernel_rfl)]
  exact eqF_self 9998 [a, b, c, d] w _ (by kernel_rfl)
@[go_sem] theorem eqMot (w : World) (a b c d e f g h i j : Int) : (Op.equalIn 10000 52 (.agg #[.int .i64 a, .int .i64 b, .int .i64 c, .int .i64 d, .int .i64 e, .int .i64 f, .int .i64 g, .int .i64 h, .int .i64 i, .int .i64 j]) (.agg #[.int .i64 a, .int .i64 b, .int .i64 c, .int .i64 d, .int .i64 e, .int .i64 f, .int .i64 g, .int .i64 h, .int .i64 i, .int .i64 j])).run Try.prog w = .ok true w := by
  rw [run_equalIn_struct w 9999 52 _ _ (by kernel_rfl) (by kernel_rfl)]
  exact eqF_self 9998 [a, b, c, d, e, f, g, h, i, j] w _ (by kernel_rfl)

/-- what lies in memory while the law runs -/
def LmI (w : World) (m : Mot) (s : Rot) (A : Option Addr) (xs : List Int) (W : World) : Prop := Blk W w.heap.size 52 m.cs ∧ Blk W (w.heap.size + 1) 57 s.cs ∧ IntsAt W A xs ∧ Below w.heap.size w W
theorem LmI.below {w : World} {m : Mot} {s : Rot} {A : Option Addr} {xs : List Int} {W W' : World} (h : LmI w m s A xs W) (hb : Below W.heap.size W W') : LmI w m s A xs W' :=
  ⟨h.1.below hb h.1.lt, h.2.1.below hb h.2.1.lt, h.2.2.1.below hb, h.2.2.2.trans (hb.mono h.2.2.2.size)⟩
theorem LmI.start {w : World} {m : Mot} {s : Rot} {A : Option Addr} {xs : List Int} (h : IntsAt w A xs) : LmI w m s A xs ((w.alloc (.cells #[.int .i64 m.r, .int .i64 m.ld, .int .i64 m.lq, .int .i64 m.fx, .int .i64 m.po, .int .i64 m.mi, .int .i64 m.sp, .int .i64 m.dr, .int .i64 m.cu, .int .i64 m.fa] 52)).alloc (.cells #[.int .i64 s.d, .int .i64 s.q, .int .i64 s.w, .int .i64 s.a] 57)) :=
  ⟨(Blk.new' _ _ _).alloc _, by have := Blk.new' (w.alloc (.cells #[.int .i64 m.r, .int .i64 m.ld, .int .i64 m.lq, .int .i64 m.fx, .int .i64 m.po, .int .i64 m.mi, .int .i64 m.sp, .int .i64 m.dr, .int .i64 m.cu, .int .i64 m.fa] 52)) #[.int .i64 s.d, .int .i64 s.q, .int .i64 s.w, .int .i64 s.a] 57; simp at this; exact this,
    h.below (((Below.refl _ _).alloc (Nat.le_refl _) _).alloc (by simp) _), (((Below.refl _ _).alloc (Nat.le_refl _) _).alloc (by simp) _)⟩

set_option maxHeartbeats 1000000 in
theorem Motors_long (m : Mot) (s : Rot) (vd vq ld : Int) (A : Option Addr) (xs : List Int) (cap : Nat) (w : World) (hx : IntsAt w A xs) (hl : decide ((20 : Int) < (xs.length : Int)) = true) :
    Calls Try.prog 11 #[.agg #[.int .i64 m.r, .int .i64 m.ld, .int .i64 m.lq, .int .i64 m.fx, .int .i64 m.po, .int .i64 m.mi, .int .i64 m.sp, .int .i64 m.dr, .int .i64 m.cu, .int .i64 m.fa], .agg #[.int .i64 s.d, .int .i64 s.q, .int .i64 s.w, .int .i64 s.a], .int .i64 vd, .int .i64 vq, .int .i64 ld, .slice A xs.length cap] w fun e w' => e = .returned (.bool true) ∧ Below w.heap.size w w' := by
  have I0 := Lib.hid (LmI.start (m := m) (s := s) hx)
  clear hx
  go_enter Try.func11, Try.ntmps11
  go_wp2_with fail
  refine (known_c _).mono ?_
  rintro e w1 ⟨rfl, hb1⟩
  go_wp2
  go_ret
  exact ⟨rfl, (I0.out.below hb1).2.2.2⟩

set_option maxHeartbeats 4000000 in
set_option maxRecDepth 100000 in
theorem Motors_go (m : Mot) (s : Rot) (vd vq ld : Int) (A : Option Addr) (xs : List Int) (cap : Nat) (w : World) (hx : IntsAt w A xs) (hl : decide ((20 : Int) < (xs.length : Int)) = false) (hll : xs.length ≤ 4611686018427387904) :
    Calls Try.prog 11 #[.agg #[.int .i64 m.r, .int .i64 m.ld, .int .i64 m.lq, .int .i64 m.fx, .int .i64 m.po, .int .i64 m.mi, .int .i64 m.sp, .int .i64 m.dr, .int .i64 m.cu, .int .i64 m.fa], .agg #[.int .i64 s.d, .int .i64 s.q, .int .i64 s.w, .int .i64 s.a], .int .i64 vd, .int .i64 vq, .int .i64 ld, .slice A xs.length cap] w fun e w' => e = .returned (.bool true) ∧ Below w.heap.size w w' := by
  have I0 := Lib.hid (LmI.start (m := m) (s := s) hx)
  have HLL := Lib.hid hll
  clear hx hll
  go_enter Try.func11, Try.ntmps11
  go_wp2_with fail
  refine (Torque_c m s.d s.q _).mono ?_
  rintro e w1 ⟨rfl, hb1⟩
  have I1 := Lib.hid (I0.out.below hb1)
  clear hb1
  obtain ⟨c0, c1, c2, c3, c4, c5, c6, c7, c8, c9⟩ := motOf I1.out.1
  obtain ⟨s0, s1, s2, s3⟩ := rotOf I1.out.2.1
  go_wp2_with fail
  refine (TorqueR_c m s.d s.q _).mono ?_
  rintro e w2 ⟨rfl, hb2⟩
  have I2 := Lib.hid (I1.out.below hb2)
  clear hb2 c0 c1 c2 c3 c4 c5 c6 c7 c8 c9 s0 s1 s2 s3
  obtain ⟨c0, c1, c2, c3, c4, c5, c6, c7, c8, c9⟩ := motOf I2.out.1
  obtain ⟨s0, s1, s2, s3⟩ := rotOf I2.out.2.1
  go_wp2_with fail
  refine (Inner_c m s.d s.q vd _).mono ?_
  rintro e w3 ⟨rfl, hb3⟩
  have I3 := Lib.hid (I2.out.below hb3)
  clear hb3 c0 c1 c2 c3 c4 c5 c6 c7 c8 c9 s0 s1 s2 s3
  obtain ⟨c0, c1, c2, c3, c4, c5, c6, c7, c8, c9⟩ := motOf I3.out.1
  obtain ⟨s0, s1, s2, s3⟩ := rotOf I3.out.2.1
  go_wp2_with fail
  refine (InnerR_c m s.d s.q vd _).mono ?_
  rintro e w4 ⟨rfl, hb4⟩
  have I4 := Lib.hid (I3.out.below hb4)
  clear hb4 c0 c1 c2 c3 c4 c5 c6 c7 c8 c9 s0 s1 s2 s3
  obtain ⟨c0, c1, c2, c3, c4, c5, c6, c7, c8, c9⟩ := motOf I4.out.1
  obtain ⟨s0, s1, s2, s3⟩ := rotOf I4.out.2.1
  go_wp2_with fail
  have z4 := I4.out.1.lt
  refine wp_region_past (by kernel_rfl) (by kernel_rfl) ?_
  repeat (go_big_quiet_step (first | (go_at_call 48; exact past_below (Check_c m _)) | (go_at_call 49; exact past_below (CheckR_c m _))))
  refine wpQuiet_nil ?_
  intro x
  have I5 := Lib.hid (I4.out.below x.far)
  generalize x.w = w5 at I5 ⊢
  clear c0 c1 c2 c3 c4 c5 c6 c7 c8 c9 s0 s1 s2 s3 z4
  obtain ⟨c0, c1, c2, c3, c4, c5, c6, c7, c8, c9⟩ := motOf I5.out.1
  obtain ⟨s0, s1, s2, s3⟩ := rotOf I5.out.2.1
  go_wp2_with fail
  refine (Step_c m s vd vq ld _).mono ?_
  rintro e w6 ⟨rfl, hb6⟩
  have I6 := Lib.hid (I5.out.below hb6)
  clear hb6 c0 c1 c2 c3 c4 c5 c6 c7 c8 c9 s0 s1 s2 s3
  obtain ⟨c0, c1, c2, c3, c4, c5, c6, c7, c8, c9⟩ := motOf I6.out.1
  obtain ⟨s0, s1, s2, s3⟩ := rotOf I6.out.2.1
  have z1 := I6.out.1.lt
  have z2 := I6.out.2.1.lt
  go_wp2_with fail
  refine (StepR_c m s vd vq ld _).mono ?_
  rintro e w7 ⟨rfl, hb7⟩
  have G7 : Hid (Blk w7 w6.heap.size 57 (Dv.stR m s vd vq ld).1.cs) := Lib.hid ((Blk.new' _ _ _).below hb7 (by simp))
  have I7 := Lib.hid ((I6.out.below ((Below.refl _ _).alloc (Nat.le_refl _) _)).below hb7)
  clear hb7 c0 c1 c2 c3 c4 c5 c6 c7 c8 c9 s0 s1 s2 s3 z1 z2
  obtain ⟨c0, c1, c2, c3, c4, c5, c6, c7, c8, c9⟩ := motOf I7.out.1
  have z1 := I7.out.1.lt
  go_wp2_with fail
  refine (Apply_c m A xs cap _ (I7.out.2.2.1.below ((Below.refl _ _).alloc (Nat.le_refl _) _)) HLL.out).mono ?_
  rintro e w8 ⟨rfl, hb8⟩
  have G8 : Hid (Blk w8 w7.heap.size 57 (Dv.stR m s vd vq ld).1.cs) := Lib.hid ((Blk.new' _ _ _).below hb8 (by simp))
  have G7' := Lib.hid ((G7.out.alloc _).below hb8 (G7.out.alloc _).lt)
  have I8 := Lib.hid ((I7.out.below ((Below.refl _ _).alloc (Nat.le_refl _) _)).below hb8)
  clear hb8 c0 c1 c2 c3 c4 c5 c6 c7 c8 c9 z1
  obtain ⟨c0, c1, c2, c3, c4, c5, c6, c7, c8, c9⟩ := motOf I8.out.1
  have z1 := I8.out.1.lt
  go_wp2_with fail
  refine (ApplyR_c m A xs cap _ (I8.out.2.2.1.below ((Below.refl _ _).alloc (Nat.le_refl _) _)) HLL.out).mono ?_
  rintro e w9 ⟨rfl, hb9⟩
  have G9 : Hid (Blk w9 w8.heap.size 52 (Dv.apR m xs).1.cs) := Lib.hid ((Blk.new' _ _ _).below hb9 (by simp))
  have G8' := Lib.hid ((G8.out.alloc _).below hb9 (G8.out.alloc _).lt)
  have G7'' := Lib.hid ((G7'.out.alloc _).below hb9 (G7'.out.alloc _).lt)
  have I9 := Lib.hid ((I8.out.below ((Below.refl _ _).alloc (Nat.le_refl _) _)).below hb9)
  clear hb9 c0 c1 c2 c3 c4 c5 c6 c7 c8 c9 z1
  obtain ⟨c0, c1, c2, c3, c4, c5, c6, c7, c8, c9⟩ := motOf G9.out
  obtain ⟨s0, s1, s2, s3⟩ := rotOf G8'.out
  obtain ⟨t0, t1, t2, t3⟩ := rotOf G7''.out
  have z1 := G9.out.lt
  have z2 := G8'.out.lt
  have z3 := G7''.out.lt
  go_wp2_with fail
  refine (known_c _).mono ?_
  rintro e w10 ⟨rfl, hb10⟩
  have I10 := Lib.hid ((I9.out.below ((Below.refl _ _).alloc (Nat.le_refl _) _)).below hb10)
  clear hb10
  go_wp2
  go_ret
  exact ⟨rfl, I10.out.2.2.2⟩

theorem DriveMotors_any (m : Mot) (s : Rot) (vd vq ld : Int) (A : Option Addr) (xs : List Int) (cap : Nat) (w : World) (hx : IntsAt w A xs) :
    Calls Try.prog 11 #[.agg #[.int .i64 m.r, .int .i64 m.ld, .int .i64 m.lq, .int .i64 m.fx, .int .i64 m.po, .int .i64 m.mi, .int .i64 m.sp, .int .i64 m.dr, .int .i64 m.cu, .int .i64 m.fa], .agg #[.int .i64 s.d, .int .i64 s.q, .int .i64 s.w, .int .i64 s.a], .int .i64 vd, .int .i64 vq, .int .i64 ld, .slice A xs.length cap] w fun e w' => e = .returned (.bool true) ∧ Below w.heap.size w w' := by
  cases hl : decide ((20 : Int) < (xs.length : Int))
  · exact Motors_go m s vd vq ld A xs cap w hx hl (by simp at hl; omega)
  · exact Motors_long m s vd vq ld A xs cap w hx hl
end Go.Proofs.Ytcneohhfnnelgaa
