/- Contracts of the calls of what is not valid. -/
import Derived.Test.YtlklnaebdnahcaaGreatB1
import Derived.Test.YtlklnaebdnahcaaGreatH1
import Derived.Test.YtlklnaebdnahcaaGreatR3
import Derived.Deep.Cut
namespace Go.Proofs.YtlklnaebdnahcaaGreat
open Go.RowKit
set_option linter.unusedVariables false
/-- an answer that leaves all as it was -/
theorem gen_worldz {P : Program} {c : Code} {Q : Exit → Act → World → Prop} {a : Act} {W : World} (J : World → Prop) (hJ : J W) (h : ∀ W', J W' → Code.wp P c Q a W') : Code.wp P c Q a W := h W hJ
abbrev Says (w : World) (v : Value) (e : Ending) (w' : World) : Prop := e = .returned v ∧ Below w.heap.size w w'
/-- a function that says, of a pointer, in whatever world from w on -/
def No (f : FuncId) (p : Option Addr) (w : World) : Prop := ∀ w1, Below w.heap.size w w1 → Calls Tryz.prog f #[.pointer p] w1 fun e w' => e = .returned (.bool false) ∧ w1 = w'
theorem No.on {f : FuncId} {p : Option Addr} {w w1 : World} (h : No f p w) (hb : Below w.heap.size w w1) : No f p w1 := fun w2 h2 => h w2 (hb.trans (h2.mono hb.size))

theorem no44_nil (w : World) : No 44 none w := fun w1 _ => by
  go_enter Tryz.func44, Tryz.ntmps44
  go_wp2
  go_ret
  exact ⟨rfl, rfl⟩
theorem no44_zero (g : Nat) (w : World) (h : w.cell? ⟨g, 0, none⟩ = some (.bool false)) : No 44 (some ⟨g, 0, none⟩) w := fun w1 hb => by
  have c0 : w1.cell? ⟨g, 0, none⟩ = some (.bool false) := (hb.cell (World.block_lt_of_cell? _ _ h)).trans h
  clear h hb
  go_enter Tryz.func44, Tryz.ntmps44
  go_wp2
  go_ret
  exact ⟨rfl, rfl⟩
theorem no46_nil (w : World) : No 46 none w := fun w1 _ => by
  go_enter Tryz.func46, Tryz.ntmps46
  go_wp2
  go_ret
  exact ⟨rfl, rfl⟩
theorem no46_zero (g : Nat) (w : World) (h : w.cell? ⟨g, 0, none⟩ = some (.bool false)) : No 46 (some ⟨g, 0, none⟩) w := fun w1 hb => by
  have c0 : w1.cell? ⟨g, 0, none⟩ = some (.bool false) := (hb.cell (World.block_lt_of_cell? _ _ h)).trans h
  clear h hb
  go_enter Tryz.func46, Tryz.ntmps46
  go_wp2
  go_ret
  exact ⟨rfl, rfl⟩
theorem no57_nil (w : World) : No 57 none w := fun w1 _ => by
  go_enter Tryz.func57, Tryz.ntmps57
  go_wp2
  go_ret
  exact ⟨rfl, rfl⟩
theorem no57_zero (g : Nat) (w : World) (h : w.cell? ⟨g, 0, none⟩ = some (.bool false)) : No 57 (some ⟨g, 0, none⟩) w := fun w1 hb => by
  have c0 : w1.cell? ⟨g, 0, none⟩ = some (.bool false) := (hb.cell (World.block_lt_of_cell? _ _ h)).trans h
  clear h hb
  go_enter Tryz.func57, Tryz.ntmps57
  go_wp2
  go_ret
  exact ⟨rfl, rfl⟩
theorem put_same {W : World} {g o : Nat} {t : TypeId} {cs : List Value} {v : Value} (h : Blk W g t cs) (hv : cs[o]? = some v) : W.setCell ⟨g, o, none⟩ v = W := by
  have hs : cs.set o v = cs := by
    apply List.ext_getElem?
    intro i
    rw [List.getElem?_set]
    split
    · rename_i hi
      subst hi
      rw [hv, if_pos (List.getElem?_eq_some_iff.1 hv).1]
    · rfl
  have hb := h.setCell o v
  rw [hs] at hb
  unfold Blk at hb h
  have hh : (W.setCell ⟨g, o, none⟩ v).heap = W.heap := by
    apply Array.ext_getElem?
    intro i
    by_cases e : i = g
    · subst e; exact hb.trans h.symm
    · exact Below.heap_setCell _ _ _ _ e
  exact (show W.setCell ⟨g, o, none⟩ v = { W with heap := (W.setCell ⟨g, o, none⟩ v).heap } from rfl).trans (by rw [hh])
def No47 (p : Option Addr) (w : World) : Prop := ∀ w1 s, Below w.heap.size w w1 → Calls Tryz.prog 47 #[.pointer p, .int .i64 s] w1 fun e w' => e = .returned (.tuple #[.pointer none, .int .i64 1]) ∧ w1 = w'
theorem no47_nil (w : World) : No47 none w := fun w1 s _ => by
  go_enter Tryz.func47, Tryz.ntmps47
  go_wp2
  go_ret2
  exact ⟨rfl, rfl⟩
theorem no47_zero (g : Nat) (w : World) (h : w.cell? ⟨g, 3, none⟩ = some (.slice none 0 0)) : No47 (some ⟨g, 0, none⟩) w := fun w1 s hb => by
  have c0 : w1.cell? ⟨g, 3, none⟩ = some (.slice none 0 0) := (hb.cell (World.block_lt_of_cell? _ _ h)).trans h
  have qn : ∀ (w : World) (a : Option Addr) (n c n' c' : Nat), (binOp .eql 56 (.slice a n c) (.slice none n' c')).run Tryz.prog w = .ok (.bool a.isNone) w := fun w a n c n' c' => Lib.run_eql_slice_nil w _ _ a n c n' c' Tryz.underlying56
  clear h hb
  go_enter Tryz.func47, Tryz.ntmps47
  go_wp2
  go_ret2
  exact ⟨rfl, rfl⟩
theorem no19_nil (w : World) : Calls Tryz.prog 19 #[.pointer none] w (Says w (.pointer none)) := by
  go_enter Tryz.func19, Tryz.ntmps19
  go_wp2
  go_ret
  exact ⟨rfl, Below.refl _ _⟩
theorem no19_zero (g : Nat) (w : World) (c0 : w.cell? ⟨g, 3, none⟩ = some (.slice none 0 0)) : Calls Tryz.prog 19 #[.pointer (some ⟨g, 0, none⟩)] w (Says w (.pointer none)) := by
  have qn : ∀ (w : World) (a : Option Addr) (n c n' c' : Nat), (binOp .eql 56 (.slice a n c) (.slice none n' c')).run Tryz.prog w = .ok (.bool a.isNone) w := fun w a n c n' c' => Lib.run_eql_slice_nil w _ _ a n c n' c' Tryz.underlying56
  go_enter Tryz.func19, Tryz.ntmps19
  go_wp2
  go_ret
  exact ⟨rfl, Below.refl _ _⟩
set_option maxRecDepth 100000 in
set_option maxHeartbeats 2000000 in
theorem no7_c (p : Option Addr)  (w : World) (h : No 44 p w) : Calls Tryz.prog 7 #[.pointer p] w (Says w (.tuple #[.agg #[.bool false, .int .i64 0, .int .i64 0, .int .i64 0, .int .i64 0, .int .i64 0, .int .i64 0, .int .i64 0], .bool false])) := by
  have H := Lib.hid h
  clear h
  go_enter Tryz.func7, Tryz.ntmps7
  go_upto_region 1 with fail
  refine gen_worldz (fun W => Below w.heap.size w W ∧ Blk W w.heap.size 25 [.bool false, .int .i64 0, .int .i64 0, .int .i64 0, .int .i64 0, .int .i64 0, .int .i64 0, .int .i64 0]) ⟨(Below.refl _ _).alloc (Nat.le_refl _) _, Blk.new' w _ 25⟩ ?_
  rintro w0 hI
  have r0 := hI.2.cell 0 rfl
  have f0 := hI.2.free 0
  have q0 := put_same hI.2 (o := 0) rfl
  have r1 := hI.2.cell 1 rfl
  have f1 := hI.2.free 1
  have q1 := put_same hI.2 (o := 1) rfl
  have r2 := hI.2.cell 2 rfl
  have f2 := hI.2.free 2
  have q2 := put_same hI.2 (o := 2) rfl
  have r3 := hI.2.cell 3 rfl
  have f3 := hI.2.free 3
  have q3 := put_same hI.2 (o := 3) rfl
  have r4 := hI.2.cell 4 rfl
  have f4 := hI.2.free 4
  have q4 := put_same hI.2 (o := 4) rfl
  have r5 := hI.2.cell 5 rfl
  have f5 := hI.2.free 5
  have q5 := put_same hI.2 (o := 5) rfl
  have r6 := hI.2.cell 6 rfl
  have f6 := hI.2.free 6
  have q6 := put_same hI.2 (o := 6) rfl
  have r7 := hI.2.cell 7 rfl
  have f7 := hI.2.free 7
  have q7 := put_same hI.2 (o := 7) rfl
  have HB := Lib.hid hI.1
  clear hI
  go_wp2_with (go_at_call 44; refine (H.out _ HB.out).mono ?_; rintro e w' ⟨rfl, rfl⟩)
  exact bodyPost_ret (v := .tuple #[.agg #[.bool false, .int .i64 0, .int .i64 0, .int .i64 0, .int .i64 0, .int .i64 0, .int .i64 0, .int .i64 0], .bool false]) (by simp [results, Tryz.results7, go_sem, r0, r1, r2, r3, r4, r5, r6, r7]) rfl ⟨rfl, HB.out⟩
set_option maxRecDepth 100000 in
set_option maxHeartbeats 2000000 in
theorem no8_c (p : Option Addr) (b : Bool) (p0 n0 n1 n2 n3 n4 p1 : Int) (w : World) (h : No 44 p w) : Calls Tryz.prog 8 #[.pointer p, .agg #[.bool b, .int .i64 p0, .int .i64 n0, .int .i64 n1, .int .i64 n2, .int .i64 n3, .int .i64 n4, .int .i64 p1]] w (Says w (.tuple #[.agg #[.int .i64 0, .int .i64 0, .int .i64 0, .int .i64 0, .int .i64 0], .bool false])) := by
  have H := Lib.hid h
  clear h
  go_enter Tryz.func8, Tryz.ntmps8
  go_upto_region 1 with fail
  refine gen_worldz (fun W => Below w.heap.size w W ∧ Blk W (w.heap.size + 1) 23 [.int .i64 0, .int .i64 0, .int .i64 0, .int .i64 0, .int .i64 0]) ⟨((Below.refl _ _).alloc (Nat.le_refl _) _).alloc (by simp) _, by have := Blk.new' (w.alloc (.cells #[.bool b, .int .i64 p0, .int .i64 n0, .int .i64 n1, .int .i64 n2, .int .i64 n3, .int .i64 n4, .int .i64 p1] 25)) #[.int .i64 0, .int .i64 0, .int .i64 0, .int .i64 0, .int .i64 0] 23; simpa using this⟩ ?_
  rintro w0 hI
  have r0 := hI.2.cell 0 rfl
  have f0 := hI.2.free 0
  have q0 := put_same hI.2 (o := 0) rfl
  have r1 := hI.2.cell 1 rfl
  have f1 := hI.2.free 1
  have q1 := put_same hI.2 (o := 1) rfl
  have r2 := hI.2.cell 2 rfl
  have f2 := hI.2.free 2
  have q2 := put_same hI.2 (o := 2) rfl
  have r3 := hI.2.cell 3 rfl
  have f3 := hI.2.free 3
  have q3 := put_same hI.2 (o := 3) rfl
  have r4 := hI.2.cell 4 rfl
  have f4 := hI.2.free 4
  have q4 := put_same hI.2 (o := 4) rfl
  have HB := Lib.hid hI.1
  clear hI
  go_wp2_with (go_at_call 44; refine (H.out _ HB.out).mono ?_; rintro e w' ⟨rfl, rfl⟩)
  exact bodyPost_ret (v := .tuple #[.agg #[.int .i64 0, .int .i64 0, .int .i64 0, .int .i64 0, .int .i64 0], .bool false]) (by simp [results, Tryz.results8, go_sem, r0, r1, r2, r3, r4]) rfl ⟨rfl, HB.out⟩
set_option maxRecDepth 100000 in
set_option maxHeartbeats 2000000 in
theorem no9_c (p : Option Addr) (n0 n1 n2 n3 n4 : Int) (w : World) (h : No 44 p w) : Calls Tryz.prog 9 #[.pointer p, .agg #[.int .i64 n0, .int .i64 n1, .int .i64 n2, .int .i64 n3, .int .i64 n4]] w (Says w (.int .i64 1)) := by
  have H := Lib.hid h
  clear h
  go_enter Tryz.func9, Tryz.ntmps9
  go_wp2_with (go_at_call 44; refine (H.out _ (by exact ((Below.refl _ _).alloc (Nat.le_refl _) _))).mono ?_; rintro e w' ⟨rfl, rfl⟩)
  refine bodyPost_ret (v := .int .i64 1) (by simp [results, Tryz.results9, go_sem]) rfl ⟨rfl, ?_⟩
  exact ((Below.refl _ _).alloc (Nat.le_refl _) _)
set_option maxRecDepth 100000 in
set_option maxHeartbeats 2000000 in
theorem no10_c (p : Option Addr)  (w : World) (h : No 44 p w) : Calls Tryz.prog 10 #[.pointer p] w (Says w (.int .i64 0)) := by
  have H := Lib.hid h
  clear h
  go_enter Tryz.func10, Tryz.ntmps10
  go_wp2_with (go_at_call 44; refine (H.out _ (by exact (Below.refl _ _))).mono ?_; rintro e w' ⟨rfl, rfl⟩)
  refine bodyPost_ret (v := .int .i64 0) (by simp [results, Tryz.results10, go_sem]) rfl ⟨rfl, ?_⟩
  exact (Below.refl _ _)
set_option maxRecDepth 100000 in
set_option maxHeartbeats 2000000 in
theorem no11_c (p : Option Addr)  (w : World) (h : No 44 p w) : Calls Tryz.prog 11 #[.pointer p] w (Says w (.pointer none)) := by
  have H := Lib.hid h
  clear h
  go_enter Tryz.func11, Tryz.ntmps11
  go_wp2_with (go_at_call 44; refine (H.out _ (by exact (Below.refl _ _))).mono ?_; rintro e w' ⟨rfl, rfl⟩)
  refine bodyPost_ret (v := .pointer none) (by simp [results, Tryz.results11, go_sem]) rfl ⟨rfl, ?_⟩
  exact (Below.refl _ _)
set_option maxRecDepth 100000 in
set_option maxHeartbeats 2000000 in
theorem no12_c (p : Option Addr) (t : Int) (w : World) (h : No 46 p w) : Calls Tryz.prog 12 #[.pointer p, .int .i64 t] w (Says w (.tuple #[.int .i64 0, .int .i64 0])) := by
  have H := Lib.hid h
  clear h
  go_enter Tryz.func12, Tryz.ntmps12
  go_wp2_with (go_at_call 46; refine (H.out _ (by exact (Below.refl _ _))).mono ?_; rintro e w' ⟨rfl, rfl⟩)
  refine bodyPost_ret (v := .tuple #[.int .i64 0, .int .i64 0]) (by simp [results, Tryz.results12, go_sem]) rfl ⟨rfl, ?_⟩
  exact (Below.refl _ _)
set_option maxRecDepth 100000 in
set_option maxHeartbeats 2000000 in
theorem no13_c (p : Option Addr) (l0 l1 l2 l3 : Int) (w : World) (h : No 46 p w) : Calls Tryz.prog 13 #[.pointer p, .agg #[.int .i64 l0, .int .i64 l1, .int .i64 l2, .int .i64 l3]] w (Says w (.bool false)) := by
  have H := Lib.hid h
  clear h
  go_enter Tryz.func13, Tryz.ntmps13
  go_wp2
  refine wp_region_past (by kernel_rfl) (by kernel_rfl) ?_
  repeat (go_big_quiet_step ((go_at_call 46; exact past_same (H.out _ (((Below.refl _ _).alloc (Nat.le_refl _) _).trans ((Past.far _).mono (by simp)))))))
  refine wpQuiet_nil ?_
  intro x
  have HX := Lib.hid x.far
  generalize x.w = w4 at HX ⊢
  go_wp2
  go_ret
  exact ⟨rfl, ((Below.refl _ _).alloc (Nat.le_refl _) _).trans (HX.out.mono (by simp))⟩
set_option maxRecDepth 100000 in
set_option maxHeartbeats 2000000 in
theorem no14_c (p : Option Addr)  (w : World) (h : No 46 p w) : Calls Tryz.prog 14 #[.pointer p] w (Says w (.int .i64 0)) := by
  have H := Lib.hid h
  clear h
  go_enter Tryz.func14, Tryz.ntmps14
  go_wp2_with (go_at_call 46; refine (H.out _ (by exact (Below.refl _ _))).mono ?_; rintro e w' ⟨rfl, rfl⟩)
  refine bodyPost_ret (v := .int .i64 0) (by simp [results, Tryz.results14, go_sem]) rfl ⟨rfl, ?_⟩
  exact (Below.refl _ _)
set_option maxRecDepth 100000 in
set_option maxHeartbeats 2000000 in
theorem no15_c (p : Option Addr)  (w : World) (h : No 46 p w) : Calls Tryz.prog 15 #[.pointer p] w (Says w (.pointer none)) := by
  have H := Lib.hid h
  clear h
  go_enter Tryz.func15, Tryz.ntmps15
  go_wp2_with (go_at_call 46; refine (H.out _ (by exact (Below.refl _ _))).mono ?_; rintro e w' ⟨rfl, rfl⟩)
  refine bodyPost_ret (v := .pointer none) (by simp [results, Tryz.results15, go_sem]) rfl ⟨rfl, ?_⟩
  exact (Below.refl _ _)
set_option maxRecDepth 100000 in
set_option maxHeartbeats 2000000 in
theorem no16_c (p : Option Addr) (d b u : Int) (w : World) (h : No47 p w) : Calls Tryz.prog 16 #[.pointer p, .int .i64 0, .int .i64 d, .int .i64 b, .int .i64 u, .int .i64 0] w (Says w (.tuple #[.agg #[.int .i64 0, .int .i64 0, .int .i64 0, .int .i64 0], .int .i64 1])) := by
  have H := Lib.hid h
  clear h
  go_enter Tryz.func16, Tryz.ntmps16
  go_upto_region 1 with fail
  refine gen_worldz (fun W => (Below w.heap.size w W ∧ W.cell? ⟨w.heap.size, 0, none⟩ = some (.pointer p) ∧ W.cell? ⟨w.heap.size + 1, 0, none⟩ = some (.int .i64 0)) ∧ Blk W (w.heap.size + 5) 27 [.int .i64 0, .int .i64 0, .int .i64 0, .int .i64 0]) ⟨⟨(((((((Below.refl _ _).alloc (Nat.le_refl _) _).alloc (by simp) _).alloc (by simp; omega) _).alloc (by simp; omega) _).alloc (by simp; omega) _).alloc (by simp; omega) _), by go_simp, by go_simp⟩, by have := Blk.new' (((((w.alloc (.cells #[.pointer p] 55)).alloc (.cells #[.int .i64 0] 3)).alloc (.cells #[.int .i64 d] 2)).alloc (.cells #[.int .i64 b] 2)).alloc (.cells #[.int .i64 0] 2)) #[.int .i64 0, .int .i64 0, .int .i64 0, .int .i64 0] 27; simpa using this⟩ ?_
  rintro w0 hI
  have c0 := hI.1.2.1
  have c1 := hI.1.2.2
  have r0 := hI.2.cell 0 rfl
  have f0 := hI.2.free 0
  have q0 := put_same hI.2 (o := 0) rfl
  have r1 := hI.2.cell 1 rfl
  have f1 := hI.2.free 1
  have q1 := put_same hI.2 (o := 1) rfl
  have r2 := hI.2.cell 2 rfl
  have f2 := hI.2.free 2
  have q2 := put_same hI.2 (o := 2) rfl
  have r3 := hI.2.cell 3 rfl
  have f3 := hI.2.free 3
  have q3 := put_same hI.2 (o := 3) rfl
  have HB := Lib.hid hI.1.1
  clear hI
  go_wp2_with (go_at_call 47; refine (H.out _ _ HB.out).mono ?_; rintro e w' ⟨rfl, rfl⟩)
  exact bodyPost_ret (v := .tuple #[.agg #[.int .i64 0, .int .i64 0, .int .i64 0, .int .i64 0], .int .i64 1]) (by simp [results, Tryz.results16, go_sem, r0, r1, r2, r3]) rfl ⟨rfl, HB.out⟩
set_option maxRecDepth 100000 in
set_option maxHeartbeats 2000000 in
theorem no17_c (p : Option Addr) (u : Int) (w : World) (h : No47 p w) : Calls Tryz.prog 17 #[.pointer p, .int .i64 0, .int .i64 u] w (Says w (.tuple #[.int .i64 0, .int .i64 0, .int .i64 1])) := by
  have H := Lib.hid h
  clear h
  go_enter Tryz.func17, Tryz.ntmps17
  go_wp2_with (go_at_call 47; refine (H.out _ _ (by exact (Below.refl _ _))).mono ?_; rintro e w' ⟨rfl, rfl⟩)
  refine bodyPost_ret (v := .tuple #[.int .i64 0, .int .i64 0, .int .i64 1]) (by simp [results, Tryz.results17, go_sem]) rfl ⟨rfl, ?_⟩
  exact (Below.refl _ _)
set_option maxRecDepth 100000 in
set_option maxHeartbeats 2000000 in
theorem no18_c (p : Option Addr) (n : Int) (w : World) (h : No47 p w) : Calls Tryz.prog 18 #[.pointer p, .int .i64 0, .int .i64 n] w (Says w (.int .i64 1)) := by
  have H := Lib.hid h
  clear h
  go_enter Tryz.func18, Tryz.ntmps18
  go_wp2_with (go_at_call 47; refine (H.out _ _ (by exact ((Below.refl _ _).alloc (Nat.le_refl _) _))).mono ?_; rintro e w' ⟨rfl, rfl⟩)
  refine bodyPost_ret (v := .int .i64 1) (by simp [results, Tryz.results18, go_sem]) rfl ⟨rfl, ?_⟩
  exact ((Below.refl _ _).alloc (Nat.le_refl _) _)
set_option maxRecDepth 100000 in
set_option maxHeartbeats 2000000 in
theorem no20_c (p : Option Addr)  (w : World) (h : No 57 p w) : Calls Tryz.prog 20 #[.pointer p, .int .i64 0, .int .i64 1] w (Says w (.tuple #[.agg #[.int .i64 0, .int .i64 0, .int .i64 0, .int .i64 0], .int .i64 1])) := by
  have H := Lib.hid h
  clear h
  go_enter Tryz.func20, Tryz.ntmps20
  go_upto_region 1 with fail
  refine gen_worldz (fun W => Below w.heap.size w W ∧ Blk W w.heap.size 100 [.int .i64 0, .int .i64 0, .int .i64 0, .int .i64 0]) ⟨(Below.refl _ _).alloc (Nat.le_refl _) _, Blk.new' w _ 100⟩ ?_
  rintro w0 hI
  have r0 := hI.2.cell 0 rfl
  have f0 := hI.2.free 0
  have q0 := put_same hI.2 (o := 0) rfl
  have r1 := hI.2.cell 1 rfl
  have f1 := hI.2.free 1
  have q1 := put_same hI.2 (o := 1) rfl
  have r2 := hI.2.cell 2 rfl
  have f2 := hI.2.free 2
  have q2 := put_same hI.2 (o := 2) rfl
  have r3 := hI.2.cell 3 rfl
  have f3 := hI.2.free 3
  have q3 := put_same hI.2 (o := 3) rfl
  have HB := Lib.hid hI.1
  clear hI
  go_wp2_with (go_at_call 57; refine (H.out _ HB.out).mono ?_; rintro e w' ⟨rfl, rfl⟩)
  exact bodyPost_ret (v := .tuple #[.agg #[.int .i64 0, .int .i64 0, .int .i64 0, .int .i64 0], .int .i64 1]) (by simp [results, Tryz.results20, go_sem, r0, r1, r2, r3]) rfl ⟨rfl, HB.out⟩
set_option maxRecDepth 100000 in
set_option maxHeartbeats 2000000 in
theorem no21_c (p : Option Addr)  (w : World) (h : No 57 p w) : Calls Tryz.prog 21 #[.pointer p, .int .i64 0] w (Says w (.tuple #[.int .i64 0, .int .i64 1])) := by
  have H := Lib.hid h
  clear h
  go_enter Tryz.func21, Tryz.ntmps21
  go_wp2_with (go_at_call 57; refine (H.out _ (by exact (Below.refl _ _))).mono ?_; rintro e w' ⟨rfl, rfl⟩)
  refine bodyPost_ret (v := .tuple #[.int .i64 0, .int .i64 1]) (by simp [results, Tryz.results21, go_sem]) rfl ⟨rfl, ?_⟩
  exact (Below.refl _ _)
set_option maxRecDepth 100000 in
set_option maxHeartbeats 2000000 in
theorem no22_c (p : Option Addr)  (w : World) (h : No 57 p w) : Calls Tryz.prog 22 #[.pointer p, .int .i64 3] w (Says w (.tuple #[.int .i64 0, .int .i64 1])) := by
  have H := Lib.hid h
  clear h
  go_enter Tryz.func22, Tryz.ntmps22
  go_wp2_with (go_at_call 57; refine (H.out _ (by exact (Below.refl _ _))).mono ?_; rintro e w' ⟨rfl, rfl⟩)
  refine bodyPost_ret (v := .tuple #[.int .i64 0, .int .i64 1]) (by simp [results, Tryz.results22, go_sem]) rfl ⟨rfl, ?_⟩
  exact (Below.refl _ _)
set_option maxRecDepth 100000 in
set_option maxHeartbeats 2000000 in
theorem no23_c (p : Option Addr)  (w : World) (h : No 57 p w) : Calls Tryz.prog 23 #[.pointer p, .int .i64 1] w (Says w (.tuple #[.int .i64 0, .int .i64 0])) := by
  have H := Lib.hid h
  clear h
  go_enter Tryz.func23, Tryz.ntmps23
  go_wp2_with (go_at_call 57; refine (H.out _ (by exact (Below.refl _ _))).mono ?_; rintro e w' ⟨rfl, rfl⟩)
  refine bodyPost_ret (v := .tuple #[.int .i64 0, .int .i64 0]) (by simp [results, Tryz.results23, go_sem]) rfl ⟨rfl, ?_⟩
  exact (Below.refl _ _)
set_option maxRecDepth 100000 in
set_option maxHeartbeats 2000000 in
theorem no24_c (p : Option Addr) (l0 l1 l2 l3 : Int) (w : World) (h : No 57 p w) : Calls Tryz.prog 24 #[.pointer p, .agg #[.int .i64 l0, .int .i64 l1, .int .i64 l2, .int .i64 l3]] w (Says w (.int .i64 1)) := by
  have H := Lib.hid h
  clear h
  go_enter Tryz.func24, Tryz.ntmps24
  go_wp2_with (go_at_call 57; refine (H.out _ (by exact ((Below.refl _ _).alloc (Nat.le_refl _) _))).mono ?_; rintro e w' ⟨rfl, rfl⟩)
  refine bodyPost_ret (v := .int .i64 1) (by simp [results, Tryz.results24, go_sem]) rfl ⟨rfl, ?_⟩
  exact ((Below.refl _ _).alloc (Nat.le_refl _) _)
set_option maxRecDepth 100000 in
set_option maxHeartbeats 2000000 in
theorem no25_c (p : Option Addr)  (w : World) (h : No 57 p w) : Calls Tryz.prog 25 #[.pointer p] w (Says w (.int .i64 0)) := by
  have H := Lib.hid h
  clear h
  go_enter Tryz.func25, Tryz.ntmps25
  go_wp2_with (go_at_call 57; refine (H.out _ (by exact (Below.refl _ _))).mono ?_; rintro e w' ⟨rfl, rfl⟩)
  refine bodyPost_ret (v := .int .i64 0) (by simp [results, Tryz.results25, go_sem]) rfl ⟨rfl, ?_⟩
  exact (Below.refl _ _)
set_option maxRecDepth 100000 in
set_option maxHeartbeats 2000000 in
theorem no26_c (p : Option Addr)  (w : World) (h : No 57 p w) : Calls Tryz.prog 26 #[.pointer p, .int .i64 0] w (Says w (.int .i64 0)) := by
  have H := Lib.hid h
  clear h
  go_enter Tryz.func26, Tryz.ntmps26
  go_wp2_with (go_at_call 57; refine (H.out _ (by exact (Below.refl _ _))).mono ?_; rintro e w' ⟨rfl, rfl⟩)
  refine bodyPost_ret (v := .int .i64 0) (by simp [results, Tryz.results26, go_sem]) rfl ⟨rfl, ?_⟩
  exact (Below.refl _ _)
set_option maxRecDepth 100000 in
set_option maxHeartbeats 2000000 in
theorem no27_c (p : Option Addr)  (w : World) (h : No 57 p w) : Calls Tryz.prog 27 #[.pointer p] w (Says w (.int .i64 0)) := by
  have H := Lib.hid h
  clear h
  go_enter Tryz.func27, Tryz.ntmps27
  go_wp2_with (go_at_call 57; refine (H.out _ (by exact (Below.refl _ _))).mono ?_; rintro e w' ⟨rfl, rfl⟩)
  refine bodyPost_ret (v := .int .i64 0) (by simp [results, Tryz.results27, go_sem]) rfl ⟨rfl, ?_⟩
  exact (Below.refl _ _)
set_option maxRecDepth 100000 in
set_option maxHeartbeats 2000000 in
theorem no28_c (p : Option Addr)  (w : World) (h : No 57 p w) : Calls Tryz.prog 28 #[.pointer p] w (Says w (.bool false)) := by
  have H := Lib.hid h
  clear h
  go_enter Tryz.func28, Tryz.ntmps28
  go_wp2_with (go_at_call 57; refine (H.out _ (by exact (Below.refl _ _))).mono ?_; rintro e w' ⟨rfl, rfl⟩)
  refine bodyPost_ret (v := .bool false) (by simp [results, Tryz.results28, go_sem]) rfl ⟨rfl, ?_⟩
  exact (Below.refl _ _)
set_option maxRecDepth 100000 in
set_option maxHeartbeats 2000000 in
theorem no29_c (p : Option Addr)  (w : World) (h : No 57 p w) : Calls Tryz.prog 29 #[.pointer p] w (Says w (.int .i64 0)) := by
  have H := Lib.hid h
  clear h
  go_enter Tryz.func29, Tryz.ntmps29
  go_wp2_with (go_at_call 57; refine (H.out _ (by exact (Below.refl _ _))).mono ?_; rintro e w' ⟨rfl, rfl⟩)
  refine bodyPost_ret (v := .int .i64 0) (by simp [results, Tryz.results29, go_sem]) rfl ⟨rfl, ?_⟩
  exact (Below.refl _ _)
set_option maxRecDepth 100000 in
set_option maxHeartbeats 2000000 in
theorem no30_c (p : Option Addr)  (w : World) (h : No 57 p w) : Calls Tryz.prog 30 #[.pointer p] w (Says w (.slice none 0 0)) := by
  have H := Lib.hid h
  clear h
  go_enter Tryz.func30, Tryz.ntmps30
  go_wp2_with (go_at_call 57; refine (H.out _ (by exact (Below.refl _ _))).mono ?_; rintro e w' ⟨rfl, rfl⟩)
  refine bodyPost_ret (v := .slice none 0 0) (by simp [results, Tryz.results30, go_sem]) rfl ⟨rfl, ?_⟩
  exact (Below.refl _ _)
set_option maxRecDepth 100000 in
set_option maxHeartbeats 2000000 in
theorem no31_c (p : Option Addr)  (w : World) (h : No 57 p w) : Calls Tryz.prog 31 #[.pointer p] w (Says w (.pointer none)) := by
  have H := Lib.hid h
  clear h
  go_enter Tryz.func31, Tryz.ntmps31
  go_wp2_with (go_at_call 57; refine (H.out _ (by exact (Below.refl _ _))).mono ?_; rintro e w' ⟨rfl, rfl⟩)
  refine bodyPost_ret (v := .pointer none) (by simp [results, Tryz.results31, go_sem]) rfl ⟨rfl, ?_⟩
  exact (Below.refl _ _)
end Go.Proofs.YtlklnaebdnahcaaGreat
