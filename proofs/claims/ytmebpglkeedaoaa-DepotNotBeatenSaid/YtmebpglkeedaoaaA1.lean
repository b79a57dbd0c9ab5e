/- Small functions that Assign leans on. (printed by gen_a1.py) -/
import Derived.Test.YtmebpglkeedaoaaD12
import Derived.Deep.CutRange
namespace Go.Proofs.Ytmebpglkeedaoaa
open Go.RowKit Dp
set_option linter.unusedVariables false

@[go_sem] theorem on_0 : bits BinOp.and IntKind.u64 0 6148914691236517205 = 0 := by kernel_rfl
@[go_sem] theorem on_1 : IntKind.u64.wrap (0 + 0) = 0 := by kernel_rfl
@[go_sem] theorem on_2 : IntKind.u64.wrap 0 = 0 := by kernel_rfl
@[go_sem] theorem on_3 : bits BinOp.and IntKind.u64 0 3689348814741910323 = 0 := by kernel_rfl
@[go_sem] theorem on_4 : bits BinOp.and IntKind.u64 0 1085102592571150095 = 0 := by kernel_rfl
@[go_sem] theorem on_5 : bits BinOp.and IntKind.i64 0 127 = 0 := by kernel_rfl
@[go_sem] theorem on_6 : IntKind.i64.wrap 0 = 0 := by kernel_rfl
@[go_sem] theorem on_7 : bits BinOp.and IntKind.u64 1 6148914691236517205 = 1 := by kernel_rfl
@[go_sem] theorem on_8 : IntKind.u64.wrap (0 + 1) = 1 := by kernel_rfl
@[go_sem] theorem on_9 : IntKind.u64.wrap 1 = 1 := by kernel_rfl
@[go_sem] theorem on_10 : bits BinOp.and IntKind.u64 1 3689348814741910323 = 1 := by kernel_rfl
@[go_sem] theorem on_11 : bits BinOp.and IntKind.u64 1 1085102592571150095 = 1 := by kernel_rfl
@[go_sem] theorem on_12 : IntKind.u64.wrap (1 + 0) = 1 := by kernel_rfl
@[go_sem] theorem on_13 : bits BinOp.and IntKind.i64 1 127 = 1 := by kernel_rfl
@[go_sem] theorem on_14 : IntKind.i64.wrap 1 = 1 := by kernel_rfl
@[go_sem] theorem on_15 : bits BinOp.and IntKind.u64 2 6148914691236517205 = 0 := by kernel_rfl
@[go_sem] theorem on_16 : IntKind.u64.wrap 2 = 2 := by kernel_rfl
@[go_sem] theorem on_17 : bits BinOp.and IntKind.u64 3 6148914691236517205 = 1 := by kernel_rfl
@[go_sem] theorem on_18 : IntKind.u64.wrap (1 + 1) = 2 := by kernel_rfl
@[go_sem] theorem on_19 : bits BinOp.and IntKind.u64 2 3689348814741910323 = 2 := by kernel_rfl
@[go_sem] theorem on_20 : IntKind.u64.wrap (0 + 2) = 2 := by kernel_rfl
@[go_sem] theorem on_21 : bits BinOp.and IntKind.u64 2 1085102592571150095 = 2 := by kernel_rfl
@[go_sem] theorem on_22 : IntKind.u64.wrap (2 + 0) = 2 := by kernel_rfl
@[go_sem] theorem on_23 : bits BinOp.and IntKind.i64 2 127 = 2 := by kernel_rfl
@[go_sem] theorem on_24 : IntKind.u64.wrap 3 = 3 := by kernel_rfl
@[go_sem] theorem on_25 : IntKind.i64.wrap 2 = 2 := by kernel_rfl

set_option maxHeartbeats 2000000 in
set_option maxRecDepth 100000 in
theorem ones64_0 (w : World) : Calls Try.prog 112 #[.int .u64 0] w fun e w' => e = .returned (.int .i64 0) ∧ w = w' := by
  go_enter Try.func112, Try.ntmps112
  go_wp2_with fail
  exact bodyPost_ret (v := .int .i64 0) (by simp [results, Try.results112, go_sem]) rfl ⟨rfl, rfl⟩

set_option maxHeartbeats 2000000 in
set_option maxRecDepth 100000 in
theorem ones_0 (w : World) : Calls Try.prog 95 #[.int .u64 0] w fun e w' => e = .returned (.int .i64 0) ∧ w = w' := by
  go_enter Try.func95, Try.ntmps95
  go_wp2_with fail
  refine (ones64_0 w).mono ?_
  rintro e w1 ⟨rfl, rfl⟩
  go_wp2_with fail
  exact bodyPost_ret (v := .int .i64 0) (by simp [results, Try.results95, go_sem]) rfl ⟨rfl, rfl⟩

set_option maxHeartbeats 2000000 in
set_option maxRecDepth 100000 in
theorem ones64_1 (w : World) : Calls Try.prog 112 #[.int .u64 1] w fun e w' => e = .returned (.int .i64 1) ∧ w = w' := by
  go_enter Try.func112, Try.ntmps112
  go_wp2_with fail
  exact bodyPost_ret (v := .int .i64 1) (by simp [results, Try.results112, go_sem]) rfl ⟨rfl, rfl⟩

set_option maxHeartbeats 2000000 in
set_option maxRecDepth 100000 in
theorem ones_1 (w : World) : Calls Try.prog 95 #[.int .u64 1] w fun e w' => e = .returned (.int .i64 1) ∧ w = w' := by
  go_enter Try.func95, Try.ntmps95
  go_wp2_with fail
  refine (ones64_1 w).mono ?_
  rintro e w1 ⟨rfl, rfl⟩
  go_wp2_with fail
  exact bodyPost_ret (v := .int .i64 1) (by simp [results, Try.results95, go_sem]) rfl ⟨rfl, rfl⟩

set_option maxHeartbeats 2000000 in
set_option maxRecDepth 100000 in
theorem ones64_2 (w : World) : Calls Try.prog 112 #[.int .u64 2] w fun e w' => e = .returned (.int .i64 1) ∧ w = w' := by
  go_enter Try.func112, Try.ntmps112
  go_wp2_with fail
  exact bodyPost_ret (v := .int .i64 1) (by simp [results, Try.results112, go_sem]) rfl ⟨rfl, rfl⟩

set_option maxHeartbeats 2000000 in
set_option maxRecDepth 100000 in
theorem ones_2 (w : World) : Calls Try.prog 95 #[.int .u64 2] w fun e w' => e = .returned (.int .i64 1) ∧ w = w' := by
  go_enter Try.func95, Try.ntmps95
  go_wp2_with fail
  refine (ones64_2 w).mono ?_
  rintro e w1 ⟨rfl, rfl⟩
  go_wp2_with fail
  exact bodyPost_ret (v := .int .i64 1) (by simp [results, Try.results95, go_sem]) rfl ⟨rfl, rfl⟩

set_option maxHeartbeats 2000000 in
set_option maxRecDepth 100000 in
theorem ones64_3 (w : World) : Calls Try.prog 112 #[.int .u64 3] w fun e w' => e = .returned (.int .i64 2) ∧ w = w' := by
  go_enter Try.func112, Try.ntmps112
  go_wp2_with fail
  exact bodyPost_ret (v := .int .i64 2) (by simp [results, Try.results112, go_sem]) rfl ⟨rfl, rfl⟩

set_option maxHeartbeats 2000000 in
set_option maxRecDepth 100000 in
theorem ones_3 (w : World) : Calls Try.prog 95 #[.int .u64 3] w fun e w' => e = .returned (.int .i64 2) ∧ w = w' := by
  go_enter Try.func95, Try.ntmps95
  go_wp2_with fail
  refine (ones64_3 w).mono ?_
  rintro e w1 ⟨rfl, rfl⟩
  go_wp2_with fail
  exact bodyPost_ret (v := .int .i64 2) (by simp [results, Try.results95, go_sem]) rfl ⟨rfl, rfl⟩

/-- the costs of the example -/
structure CO (w : World) (gL gA gB : Nat) : Prop where
  L : Blk w gL 22 [.slice (some ⟨gA, 0, none⟩) 2 2, .slice (some ⟨gB, 0, none⟩) 2 2]
  A : Blk w gA 2 [.int .i64 4, .int .i64 1]
  B : Blk w gB 2 [.int .i64 2, .int .i64 3]

theorem CO.below {w w' : World} {gL gA gB k : Nat} (h : CO w gL gA gB) (hb : Below k w w') (hk : w.heap.size ≤ k) : CO w' gL gA gB :=
  ⟨h.L.below hb (by have := h.L.lt; omega), h.A.below hb (by have := h.A.lt; omega), h.B.below hb (by have := h.B.lt; omega)⟩

set_option maxHeartbeats 4000000 in
set_option maxRecDepth 100000 in
theorem checkCosts_c (gL gA gB : Nat) (w : World) (h : CO w gL gA gB) : Calls Try.prog 94 #[.slice (some ⟨gL, 0, none⟩) 2 2] w fun e w' => e = .returned (.int .i64 0) ∧ w = w' := by
  have H0 := Lib.hid h
  clear h
  have l0 := H0.out.L.cell 0 rfl
  have l1 := H0.out.L.cell 1 rfl
  have a0 := H0.out.A.cell 0 rfl
  have a1 := H0.out.A.cell 1 rfl
  have b0 := H0.out.B.cell 0 rfl
  have b1 := H0.out.B.cell 1 rfl
  go_enter Try.func94, Try.ntmps94
  go_wp2_with fail
  refine wp_loop_rounds 3 ?_
  rw [rounds_succ]
  go_wp2_with fail
  rw [rounds_succ]
  go_wp2_with fail
  rw [rounds_succ]
  go_wp2_with fail
  refine wp_loop_rounds 3 ?_
  rw [rounds_succ]
  go_wp2_with fail
  refine wp_loop_rounds 3 ?_
  rw [rounds_succ]
  go_wp2_with fail
  rw [rounds_succ]
  go_wp2_with fail
  rw [rounds_succ]
  go_wp2_with fail
  rw [rounds_succ]
  go_wp2_with fail
  refine wp_loop_rounds 3 ?_
  rw [rounds_succ]
  go_wp2_with fail
  rw [rounds_succ]
  go_wp2_with fail
  rw [rounds_succ]
  go_wp2_with fail
  rw [rounds_succ]
  go_wp2_with fail
  exact bodyPost_ret (v := .int .i64 0) (by simp [results, Try.results94, go_sem]) rfl ⟨rfl, rfl⟩
end Go.Proofs.Ytmebpglkeedaoaa
