/- Posts: the contracts of charge.Post and of the reference's. -/
import Derived.Test.YtafajclbghofkaaH1
namespace Go.Proofs.Ytafajclbghofkaa
open Go.RowKit
set_option linter.unusedVariables false

structure Ls where
  n : Int
  d : Int
  b : Int
  u : Int
def Ls.vals (l : Ls) : List Value := [.int .i64 l.n, .int .i64 l.d, .int .i64 l.b, .int .i64 l.u]
def PostAt (w : World) (g : Nat) (p : Ls) : Prop := Blk w g 124 (.bool true :: p.vals)
def PostRAt (w : World) (g : Nat) (p : Ls) : Prop := Blk w g 48 p.vals
namespace Po
def tkB (p l : Ls) : Bool := decide (p.n < l.n)
def tk (p l : Ls) : Ls := if p.n < l.n then l else p
def m1 (p : Ls) (at_ : Int) : Int := if p.u ≤ at_ then 0 else p.d
def m2 (p : Ls) (at_ : Int) : Int := if p.u ≤ at_ then 0 else p.b
end Po

theorem NewPost_c (w : World) : Calls Try.prog 19 #[] w fun e w' => e = .returned (.pointer (some ⟨w.heap.size, 0, none⟩)) ∧ w' = w.alloc (.cells #[.bool true, .int .i64 0, .int .i64 0, .int .i64 0, .int .i64 0] 124) := by
  go_enter Try.func19, Try.ntmps19
  go_wp2
  go_ret
  exact ⟨rfl, rfl⟩
theorem NewPostR_c (w : World) : Calls Try.prog 20 #[] w fun e w' => e = .returned (.pointer (some ⟨w.heap.size, 0, none⟩)) ∧ w' = w.alloc (.cells #[.int .i64 0, .int .i64 0, .int .i64 0, .int .i64 0] 48) := by
  go_enter Try.func20, Try.ntmps20
  go_wp2
  go_ret
  exact ⟨rfl, rfl⟩
theorem validP_c (g : Nat) (w : World) (c0 : w.cell? ⟨g, 0, none⟩ = some (.bool true)) : Calls Try.prog 56 #[.pointer (some ⟨g, 0, none⟩)] w fun e w' => e = .returned (.bool true) ∧ w = w' := by
  go_enter Try.func56, Try.ntmps56
  go_wp2
  go_ret
  exact ⟨rfl, rfl⟩
theorem PostCopy_c (g : Nat) (p : Ls) (w : World) (h : PostAt w g p) : Calls Try.prog 21 #[.pointer (some ⟨g, 0, none⟩)] w fun e w' => e = .returned (.pointer (some ⟨w.heap.size, 0, none⟩)) ∧ w' = w.alloc (.cells #[.bool true, .int .i64 p.n, .int .i64 p.d, .int .i64 p.b, .int .i64 p.u] 124) := by
  have hlt := Blk.lt h
  have c0 := Blk.cell h 0 rfl
  have c1 := Blk.cell h 1 rfl
  have c2 := Blk.cell h 2 rfl
  have c3 := Blk.cell h 3 rfl
  have c4 := Blk.cell h 4 rfl
  clear h
  go_enter Try.func21, Try.ntmps21
  go_wp2_with (go_at_call 56; refine (validP_c _ _ c0).mono ?_; rintro e w' ⟨rfl, rfl⟩)
  go_ret
  exact ⟨rfl, rfl⟩
theorem PostNumber_c (g : Nat) (p : Ls) (w : World) (h : PostAt w g p) : Calls Try.prog 25 #[.pointer (some ⟨g, 0, none⟩)] w fun e w' => e = .returned (.int .i64 p.n) ∧ w = w' := by
  have hlt := Blk.lt h
  have c0 := Blk.cell h 0 rfl
  have c1 := Blk.cell h 1 rfl
  clear h
  go_enter Try.func25, Try.ntmps25
  go_wp2_with (go_at_call 56; refine (validP_c _ _ c0).mono ?_; rintro e w' ⟨rfl, rfl⟩)
  go_ret
  exact ⟨rfl, rfl⟩
set_option maxHeartbeats 1000000 in
theorem Most_c (g : Nat) (p : Ls) (at_ : Int) (w : World) (h : PostAt w g p) : Calls Try.prog 23 #[.pointer (some ⟨g, 0, none⟩), .int .i64 at_] w fun e w' => e = .returned (.tuple #[.int .i64 (Po.m1 p at_), .int .i64 (Po.m2 p at_)]) ∧ Below w.heap.size w w' := by
  have hlt := Blk.lt h
  have c0 := Blk.cell h 0 rfl
  have c2 := Blk.cell h 2 rfl
  have c3 := Blk.cell h 3 rfl
  have c4 := Blk.cell h 4 rfl
  by_cases hu : p.u ≤ at_
  · have e1 : Po.m1 p at_ = 0 := by unfold Po.m1; rw [if_pos hu]
    have e2 : Po.m2 p at_ = 0 := by unfold Po.m2; rw [if_pos hu]
    rw [e1, e2]
    clear h e1 e2
    go_enter Try.func23, Try.ntmps23
    go_wp2_with (go_at_call 56; refine (validP_c _ _ c0).mono ?_; rintro e w' ⟨rfl, rfl⟩)
    go_ret2
    exact ⟨rfl, Below.refl _ _⟩
  · have e1 : Po.m1 p at_ = p.d := by unfold Po.m1; rw [if_neg hu]
    have e2 : Po.m2 p at_ = p.b := by unfold Po.m2; rw [if_neg hu]
    rw [e1, e2]
    clear h e1 e2
    go_enter Try.func23, Try.ntmps23
    go_wp2_with (go_at_call 56; refine (validP_c _ _ c0).mono ?_; rintro e w' ⟨rfl, rfl⟩)
    go_quiet (fail)
    go_wp2
    go_ret2
    exact ⟨rfl, below_drewN (Below.refl _ _) _⟩
set_option maxHeartbeats 1000000 in
theorem MostR_c (g : Nat) (p : Ls) (at_ : Int) (w : World) (h : PostRAt w g p) : Calls Try.prog 24 #[.pointer (some ⟨g, 0, none⟩), .int .i64 at_] w fun e w' => e = .returned (.tuple #[.int .i64 (Po.m1 p at_), .int .i64 (Po.m2 p at_)]) ∧ Below w.heap.size w w' := by
  have hlt := Blk.lt h
  have c1 := Blk.cell h 1 rfl
  have c2 := Blk.cell h 2 rfl
  have c3 := Blk.cell h 3 rfl
  by_cases hu : p.u ≤ at_
  · have e1 : Po.m1 p at_ = 0 := by unfold Po.m1; rw [if_pos hu]
    have e2 : Po.m2 p at_ = 0 := by unfold Po.m2; rw [if_pos hu]
    rw [e1, e2]
    clear h e1 e2
    go_enter Try.func24, Try.ntmps24
    go_wp2
    go_ret2
    exact ⟨rfl, Below.refl _ _⟩
  · have e1 : Po.m1 p at_ = p.d := by unfold Po.m1; rw [if_neg hu]
    have e2 : Po.m2 p at_ = p.b := by unfold Po.m2; rw [if_neg hu]
    rw [e1, e2]
    clear h e1 e2
    go_enter Try.func24, Try.ntmps24
    go_wp2
    go_quiet (fail)
    go_wp2
    go_ret2
    exact ⟨rfl, below_drewN (Below.refl _ _) _⟩
set_option maxHeartbeats 2000000 in
theorem Take_c (g : Nat) (p l : Ls) (w : World) (h : PostAt w g p) : Calls Try.prog 22 #[.pointer (some ⟨g, 0, none⟩), .agg #[.int .i64 l.n, .int .i64 l.d, .int .i64 l.b, .int .i64 l.u]] w fun e w' => e = .returned (.bool (Po.tkB p l)) ∧ PostAt w' g (Po.tk p l) ∧ Touch (· = g) w w' := by
  have hlt := Blk.lt h
  have c0 := Blk.cell h 0 rfl
  have c1 := Blk.cell h 1 rfl
  have f1 := Blk.free h 1
  have f2 := Blk.free h 2
  have f3 := Blk.free h 3
  have f4 := Blk.free h 4
  have c2 := Blk.cell h 2 rfl
  have c3 := Blk.cell h 3 rfl
  have c4 := Blk.cell h 4 rfl
  have H := Lib.hid h
  have HT := Lib.hid (show w.heap.size ≤ w.heap.size from Nat.le_refl _)
  clear h
  by_cases hn : p.n < l.n
  · have e1 : Po.tkB p l = true := decide_eq_true hn
    have e2 : Po.tk p l = l := by unfold Po.tk; rw [if_pos hn]
    have hd : decide (l.n ≤ p.n) = false := by simp; omega
    rw [e1, e2]
    clear e1 e2
    go_enter Try.func22, Try.ntmps22
    go_wp2
    go_quiet ((go_at_call 56; exact quiet_left (validP_c _ _ (by go_simp))))
    go_wp2
    go_ret
    refine ⟨rfl, ?_, ?_⟩
    · have := ((((((H.out.alloc (.cells #[.int .i64 l.n, .int .i64 l.d, .int .i64 l.b, .int .i64 l.u] 43)).drewN ‹Nat›).setCell 1 (.int .i64 l.n)).setCell 2 (.int .i64 l.d)).setCell 3 (.int .i64 l.b)).setCell 4 (.int .i64 l.u))
      exact this
    · iterate 4 (refine Touch.put ?_ _ _)
      exact ((Touch.refl _ _).alloc _).drewN _
  · have e1 : Po.tkB p l = false := decide_eq_false hn
    have e2 : Po.tk p l = p := by unfold Po.tk; rw [if_neg hn]
    have hd : decide (l.n ≤ p.n) = true := by simp; omega
    rw [e1, e2]
    clear e1 e2
    go_enter Try.func22, Try.ntmps22
    go_wp2
    go_quiet ((go_at_call 56; exact quiet_left (validP_c _ _ (by go_simp))))
    go_wp2
    go_ret
    exact ⟨rfl, (H.out.alloc _).drewN _, ((Touch.refl _ _).alloc _).drewN _⟩
set_option maxHeartbeats 2000000 in
theorem TakeR_c (g : Nat) (p l : Ls) (w : World) (h : PostRAt w g p) : Calls Try.prog 26 #[.pointer (some ⟨g, 0, none⟩), .agg #[.int .i64 l.n, .int .i64 l.d, .int .i64 l.b, .int .i64 l.u]] w fun e w' => e = .returned (.bool (Po.tkB p l)) ∧ PostRAt w' g (Po.tk p l) ∧ Touch (· = g) w w' := by
  have hlt := Blk.lt h
  have c0 := Blk.cell h 0 rfl
  have c1 := Blk.cell h 1 rfl
  have f0 := Blk.free h 0
  have f1 := Blk.free h 1
  have f2 := Blk.free h 2
  have f3 := Blk.free h 3
  have c2 := Blk.cell h 2 rfl
  have c3 := Blk.cell h 3 rfl
  have H := Lib.hid h
  clear h
  by_cases hn : p.n < l.n
  · have e1 : Po.tkB p l = true := decide_eq_true hn
    have e2 : Po.tk p l = l := by unfold Po.tk; rw [if_pos hn]
    have hd : decide (l.n ≤ p.n) = false := by simp; omega
    rw [e1, e2]
    clear e1 e2
    go_enter Try.func26, Try.ntmps26
    go_wp2
    go_quiet (fail)
    go_wp2
    go_ret
    refine ⟨rfl, ?_, ?_⟩
    · have := ((((((H.out.alloc (.cells #[.int .i64 l.n, .int .i64 l.d, .int .i64 l.b, .int .i64 l.u] 43)).drewN ‹Nat›).setCell 0 (.int .i64 l.n)).setCell 1 (.int .i64 l.d)).setCell 2 (.int .i64 l.b)).setCell 3 (.int .i64 l.u))
      exact this
    · iterate 4 (refine Touch.put ?_ _ _)
      exact ((Touch.refl _ _).alloc _).drewN _
  · have e1 : Po.tkB p l = false := decide_eq_false hn
    have e2 : Po.tk p l = p := by unfold Po.tk; rw [if_neg hn]
    have hd : decide (l.n ≤ p.n) = true := by simp; omega
    rw [e1, e2]
    clear e1 e2
    go_enter Try.func26, Try.ntmps26
    go_wp2
    go_quiet (fail)
    go_wp2
    go_ret
    exact ⟨rfl, (H.out.alloc _).drewN _, ((Touch.refl _ _).alloc _).drewN _⟩
end Go.Proofs.Ytafajclbghofkaa
