/- The walk of coulomblaw06.DriveLimits: it returns true for all motors, tolerances and numbers. -/
import Derived.Test.YtcneohhfnnelgaaV59
import Derived.Laws.StructEq
namespace Go.Proofs.Ytcneohhfnnelgaa
open Go.RowKit
set_option linter.unusedVariables false

theorem eqSF_cons {P : Program} {d : Nat} {xs ys : Array Value} {f : Field} {fs : List Field} {w : World} {n : String} {t : TypeId} {o : Nat} {x y : Value} (h : (f.name, f.type, f.offset) = (n, t, o)) (hn : n ≠ "_") (hx : (part t xs o).run P w = .ok x w) (hy : (part t ys o).run P w = .ok y w)
    (he : (Op.equalIn d t x y).run P w = .ok true w) (hr : (Op.eqFields d xs ys fs).run P w = .ok true w) : (Op.eqFields d xs ys (f :: fs)).run P w = .ok true w := by
  simp only [Prod.mk.injEq] at h
  obtain ⟨h1, h2, h3⟩ := h
  simp only [Op.eqFields, Sem.run_bind, Sem.run_ite]
  rw [h1, h2, h3, if_pos hn, hx]
  simp only [Result.andThen_ok]
  rw [hy]
  simp only [Result.andThen_ok]
  rw [he]
  simp [hr]
/-- a struct of numbers equals itself -/
theorem eqSF_self (d : Nat) (xs : List Int) (w : World) : ∀ fs : List Field, (fs.all fun f => f.name != "_" && f.type == 2 && decide (f.offset < xs.length)) = true → (Op.eqFields (d + 1) (xs.map (Value.int .i64)).toArray (xs.map (Value.int .i64)).toArray fs).run Try.prog w = .ok true w
  | [], _ => by simp [Op.eqFields]
  | f :: fs, h => by
    simp only [List.all_cons, Bool.and_eq_true, bne_iff_ne, beq_iff_eq, decide_eq_true_eq] at h
    obtain ⟨⟨⟨h1, h2⟩, h3⟩, h4⟩ := h
    have hp : (xs.map (Value.int .i64)).toArray[f.offset]? = some (.int .i64 xs[f.offset]) := by simp [h3]
    exact eqSF_cons (n := f.name) (t := 2) (o := f.offset) (by rw [← h2]) h1 (partAt w _ _ _ hp) (partAt w _ _ _ hp) ((elInt d w _ _).trans (by simp)) (eqSF_self d xs w fs h4)
@[go_sem] theorem eqSpan (w : World) (a b : Int) : (Op.equalIn 10000 29 (.agg #[.int .i64 a, .int .i64 b]) (.agg #[.int .i64 a, .int .i64 b])).run Try.prog w = .ok true w := by
  rw [run_equalIn_struct w 9999 29 _ _ (by kernel_rfl) (by kernel_rfl)]
  exact eqSF_self 9998 [a, b] w _ (by kernel_rfl)

set_option maxHeartbeats 1000000 in
theorem Limits_long (m : Mot) (A : Option Addr) (l : List Sp) (d q s u : Int) (cap : Nat) (w : World) (hl : decide ((20 : Int) < (l.length : Int)) = true) :
    Calls Try.prog 13 #[.agg #[.int .i64 m.r, .int .i64 m.ld, .int .i64 m.lq, .int .i64 m.fx, .int .i64 m.po, .int .i64 m.mi, .int .i64 m.sp, .int .i64 m.dr, .int .i64 m.cu, .int .i64 m.fa], .slice A l.length cap, .int .i64 d, .int .i64 q, .int .i64 s, .int .i64 u] w fun e w' => e = .returned (.bool true) ∧ Below w.heap.size w w' := by
  have S0 := Lib.hid ((St.start w).alloc [.int .i64 m.r, .int .i64 m.ld, .int .i64 m.lq, .int .i64 m.fx, .int .i64 m.po, .int .i64 m.mi, .int .i64 m.sp, .int .i64 m.dr, .int .i64 m.cu, .int .i64 m.fa] 52)
  go_enter Try.func13, Try.ntmps13
  go_wp2_with fail
  refine (known_c _).mono ?_
  rintro e w1 ⟨rfl, hb1⟩
  go_wp2
  go_ret
  exact ⟨rfl, (S0.out.below hb1).1⟩

set_option maxHeartbeats 8000000 in
set_option maxRecDepth 100000 in
theorem Limits_go (m : Mot) (A : Option Addr) (l : List Sp) (d q s u : Int) (cap : Nat) (w : World) (hx : SpAt w A l) (hl : decide ((20 : Int) < (l.length : Int)) = false) (hll : l.length ≤ 4611686018427387904) :
    Calls Try.prog 13 #[.agg #[.int .i64 m.r, .int .i64 m.ld, .int .i64 m.lq, .int .i64 m.fx, .int .i64 m.po, .int .i64 m.mi, .int .i64 m.sp, .int .i64 m.dr, .int .i64 m.cu, .int .i64 m.fa], .slice A l.length cap, .int .i64 d, .int .i64 q, .int .i64 s, .int .i64 u] w fun e w' => e = .returned (.bool true) ∧ Below w.heap.size w w' := by
  have HX := Lib.hid hx
  have HLL := Lib.hid hll
  clear hx hll
  have S0 := Lib.hid ((St.start w).alloc [.int .i64 m.r, .int .i64 m.ld, .int .i64 m.lq, .int .i64 m.fx, .int .i64 m.po, .int .i64 m.mi, .int .i64 m.sp, .int .i64 m.dr, .int .i64 m.cu, .int .i64 m.fa] 52)
  have KA : ∀ V : World, Below w.heap.size w V → Calls Try.prog 57 #[.agg #[.int .i64 m.r, .int .i64 m.ld, .int .i64 m.lq, .int .i64 m.fx, .int .i64 m.po, .int .i64 m.mi, .int .i64 m.sp, .int .i64 m.dr, .int .i64 m.cu, .int .i64 m.fa], .slice A l.length cap, .int .i64 d, .int .i64 q, .int .i64 s] V fun e w' => e = .returned (.tuple #[.agg #[.int .i64 (Dv.alV m l d q s (Dv.aLo m l d q s)), .int .i64 (Dv.alV m l d q s (Dv.aHi m l d q s))], .agg #[.int .i64 (Dv.alV m l d q s (Dv.bLo m l d q s)), .int .i64 (Dv.alV m l d q s (Dv.bHi m l d q s))], .int .i64 (Dv.alE m l d q s)]) ∧ Below V.heap.size V w' := fun V hV => Allowed_c m A l d q s cap V (HX.out.below hV) HLL.out
  have KB : ∀ V : World, Below w.heap.size w V → Calls Try.prog 58 #[.agg #[.int .i64 m.r, .int .i64 m.ld, .int .i64 m.lq, .int .i64 m.fx, .int .i64 m.po, .int .i64 m.mi, .int .i64 m.sp, .int .i64 m.dr, .int .i64 m.cu, .int .i64 m.fa], .slice A l.length cap, .int .i64 d, .int .i64 q, .int .i64 s] V fun e w' => e = .returned (.tuple #[.agg #[.int .i64 (Dv.alV m l d q s (Dv.aLo m l d q s)), .int .i64 (Dv.alV m l d q s (Dv.aHi m l d q s))], .agg #[.int .i64 (Dv.alV m l d q s (Dv.bLo m l d q s)), .int .i64 (Dv.alV m l d q s (Dv.bHi m l d q s))], .int .i64 (Dv.alE m l d q s)]) ∧ Below V.heap.size V w' := fun V hV => AllowedR_c m A l d q s cap V (HX.out.below hV) HLL.out
  have KC : ∀ V : World, Below w.heap.size w V → Calls Try.prog 59 #[.agg #[.int .i64 m.r, .int .i64 m.ld, .int .i64 m.lq, .int .i64 m.fx, .int .i64 m.po, .int .i64 m.mi, .int .i64 m.sp, .int .i64 m.dr, .int .i64 m.cu, .int .i64 m.fa], .slice A l.length cap, .int .i64 u] V fun e w' => e = .returned (.tuple #[.bool (Dv.hoV m l u), .int .i64 (Dv.hoE m l u)]) ∧ Below V.heap.size V w' := fun V hV => Holds_c m A l u cap V (HX.out.below hV) HLL.out
  have KD : ∀ V : World, Below w.heap.size w V → Calls Try.prog 60 #[.agg #[.int .i64 m.r, .int .i64 m.ld, .int .i64 m.lq, .int .i64 m.fx, .int .i64 m.po, .int .i64 m.mi, .int .i64 m.sp, .int .i64 m.dr, .int .i64 m.cu, .int .i64 m.fa], .slice A l.length cap, .int .i64 u] V fun e w' => e = .returned (.tuple #[.bool (Dv.hoV m l u), .int .i64 (Dv.hoE m l u)]) ∧ Below V.heap.size V w' := fun V hV => HoldsR_c m A l u cap V (HX.out.below hV)
  have KR := Lib.hid (fun V : World => Room_c u V)
  have KS := Lib.hid (fun V : World => RoomRef_c u V)
  generalize Dv.alV m l d q s (Dv.aLo m l d q s) = x1 at KA KB
  generalize Dv.alV m l d q s (Dv.aHi m l d q s) = x2 at KA KB
  generalize Dv.alV m l d q s (Dv.bLo m l d q s) = x3 at KA KB
  generalize Dv.alV m l d q s (Dv.bHi m l d q s) = x4 at KA KB
  generalize Dv.alE m l d q s = xe at KA KB
  generalize Dv.hoV m l u = hv at KC KD
  generalize Dv.hoE m l u = he at KC KD
  generalize Dv.RoomV u = rv at KR KS
  generalize Dv.RoomE u = re at KR KS
  have KA := Lib.hid KA
  have KB := Lib.hid KB
  have KC := Lib.hid KC
  have KD := Lib.hid KD
  rename_i KA0 KB0 KC0 KD0
  clear KA0 KB0 KC0 KD0
  go_enter Try.func13, Try.ntmps13
  go_wp2_with (first | (go_at_call 54; refine (KR.out _).mono ?_; rintro e w' ⟨rfl, rfl⟩) | (go_at_call 56; refine (KS.out _).mono ?_; rintro e w' ⟨rfl, rfl⟩))
  refine (KA.out _ S0.out.1).mono ?_
  rintro e w1 ⟨rfl, hb1⟩
  have S1 := Lib.hid (S0.out.below hb1)
  have S1a := Lib.hid ((S1.out.alloc [.int .i64 x1, .int .i64 x2] 29).alloc [.int .i64 x3, .int .i64 x4] 29)
  clear hb1 S0
  obtain ⟨m0, m1, m2, m3, m4, m5, m6, m7, m8, m9⟩ := motOf (m := m) (S1.out.get 0 rfl)
  have zm := (S1.out.get 0 rfl).lt
  go_wp2_with fail
  refine (KB.out _ S1a.out.1).mono ?_
  rintro e w2 ⟨rfl, hb2⟩
  have S2 := Lib.hid (S1a.out.below hb2)
  have S2a := Lib.hid ((S2.out.alloc [.int .i64 x1, .int .i64 x2] 29).alloc [.int .i64 x3, .int .i64 x4] 29)
  clear hb2 m0 m1 m2 m3 m4 m5 m6 m7 m8 m9 zm S1 S1a
  obtain ⟨m0, m1, m2, m3, m4, m5, m6, m7, m8, m9⟩ := motOf (m := m) (S2.out.get 2 rfl)
  have zm := (S2.out.get 2 rfl).lt
  go_wp2_with fail
  refine (KC.out _ S2a.out.1).mono ?_
  rintro e w3 ⟨rfl, hb3⟩
  have S3 := Lib.hid (S2a.out.below hb3)
  clear hb3 m0 m1 m2 m3 m4 m5 m6 m7 m8 m9 zm S2 S2a
  obtain ⟨m0, m1, m2, m3, m4, m5, m6, m7, m8, m9⟩ := motOf (m := m) (S3.out.get 4 rfl)
  have zm := (S3.out.get 4 rfl).lt
  go_wp2_with fail
  refine (KD.out _ S3.out.1).mono ?_
  rintro e w4 ⟨rfl, hb4⟩
  have S4 := Lib.hid (S3.out.below hb4)
  clear hb4 m0 m1 m2 m3 m4 m5 m6 m7 m8 m9 zm S3
  have a1 := (S4.out.get 3 rfl).cell 0 rfl
  have a2 := (S4.out.get 3 rfl).cell 1 rfl
  have a3 := (S4.out.get 2 rfl).cell 0 rfl
  have a4 := (S4.out.get 2 rfl).cell 1 rfl
  have b1 := (S4.out.get 1 rfl).cell 0 rfl
  have b2 := (S4.out.get 1 rfl).cell 1 rfl
  have b3 := (S4.out.get 0 rfl).cell 0 rfl
  have b4 := (S4.out.get 0 rfl).cell 1 rfl
  have z1 := (S4.out.get 3 rfl).lt
  have z2 := (S4.out.get 2 rfl).lt
  have z3 := (S4.out.get 1 rfl).lt
  have z4 := (S4.out.get 0 rfl).lt
  simp at a1 a2 a3 a4 b1 b2 b3 b4 z1 z2 z3 z4
  go_wp2_with fail
  refine (known_c _).mono ?_
  rintro e w5 ⟨rfl, hb5⟩
  have S5 := Lib.hid (S4.out.below hb5)
  clear hb5 a1 a2 a3 a4 b1 b2 b3 b4 z1 z2 z3 z4 S4
  go_wp2
  go_ret
  exact ⟨rfl, S5.out.1⟩

theorem DriveLimits_any (m : Mot) (A : Option Addr) (l : List Sp) (d q s u : Int) (cap : Nat) (w : World) (hx : SpAt w A l) :
    Calls Try.prog 13 #[.agg #[.int .i64 m.r, .int .i64 m.ld, .int .i64 m.lq, .int .i64 m.fx, .int .i64 m.po, .int .i64 m.mi, .int .i64 m.sp, .int .i64 m.dr, .int .i64 m.cu, .int .i64 m.fa], .slice A l.length cap, .int .i64 d, .int .i64 q, .int .i64 s, .int .i64 u] w fun e w' => e = .returned (.bool true) ∧ Below w.heap.size w w' := by
  by_cases h : (20 : Int) < (l.length : Int)
  · exact Limits_long m A l d q s u cap w (by simpa using h)
  · exact Limits_go m A l d q s u cap w hx (by simpa using h) (by omega)
theorem DriveLimits_all (m : Mot) (A : Option Addr) (l : List Sp) (cap : Nat) (d q s u : Int) (w : World) (hx : SpAt w A l) :
    Calls Try.prog 13 #[.agg #[.int .i64 m.r, .int .i64 m.ld, .int .i64 m.lq, .int .i64 m.fx, .int .i64 m.po, .int .i64 m.mi, .int .i64 m.sp, .int .i64 m.dr, .int .i64 m.cu, .int .i64 m.fa], .slice A l.length cap, .int .i64 d, .int .i64 q, .int .i64 s, .int .i64 u] w fun e w' => e = .returned (.bool true) ∧ Below w.heap.size w w' := DriveLimits_any m A l d q s u cap w hx
end Go.Proofs.Ytcneohhfnnelgaa
