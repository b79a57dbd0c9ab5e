/- Contracts of the tag of passport: fieldOf, words, digest, Digest, Tag, at the large field and a message of eight bytes. -/
import Derived.Test.YtafajclbghofkaaG5
import Derived.Test.YtafajclbghofkaaRI
import Derived.Test.YtafajclbghofkaaRJ
import Derived.RangeFuncBound
import Derived.Shelf.Abstract
import Derived.OwnWalkIn
import Derived.TacticsInMore
import Derived.LoopNIn
import Derived.LoopIn
import Derived.Deep.Cut
namespace Go.Proofs.Ytafajclbghofkaa
open Go.RowKit Go.Shelf
set_option linter.unusedVariables false
attribute [local go_sem] Oper.semAt_some

theorem fieldOf_c (w : World) : Calls Try.prog 84 #[.int .i64 2] w fun e w' => e = .returned (.pointer (some ⟨w.heap.size, 4, none⟩)) ∧ w' = w.alloc (.cells #[.int .u64 257, .int .i64 1, .int .u64 65537, .int .i64 2, .int .u64 2147483647, .int .i64 3] 173) := by
  go_enter Try.func84, Try.ntmps84
  go_wp2
  go_ret
  exact ⟨rfl, rfl⟩
theorem words_c (f : Value) (m : Value) (w : World) (hf : ∃ A, f = .pointer A) (hm : ∃ A n c, m = .slice A n c) : Calls Try.prog 93 #[f, m] w fun e w' => e = .returned (.func (.func 95) #[] #[.pointer (some ⟨w.heap.size + 1, 0, none⟩), .pointer (some ⟨w.heap.size, 0, none⟩)]) ∧ w' = (w.alloc (.cells #[f] 165)).alloc (.cells #[m] 133) := by
  obtain ⟨A, rfl⟩ := hf
  obtain ⟨A, n, c, rfl⟩ := hm
  go_enter Try.func93, Try.ntmps93
  go_wp2
  go_ret
  exact ⟨rfl, rfl⟩
theorem or_byte (a b : Int) (ha : 0 ≤ a ∧ a ≤ 65535) (hb : 0 ≤ b ∧ b ≤ 255) : bits .or .u64 (a * 256) b = a * 256 + b := by
  obtain ⟨x, rfl⟩ := Int.eq_ofNat_of_zero_le ha.1
  obtain ⟨y, rfl⟩ := Int.eq_ofNat_of_zero_le hb.1
  have h1 : (BitVec.ofInt 64 ((x : Int) * 256)) = BitVec.ofNat 64 (x * 256) := by
    rw [show ((x : Int) * 256) = ((x * 256 : Nat) : Int) by omega]
    exact BitVec.ofInt_natCast 64 _
  have h2 : (BitVec.ofInt 64 (y : Int)) = BitVec.ofNat 64 y := BitVec.ofInt_natCast 64 _
  have h3 : (x * 256 ||| y) = x * 256 + y := by
    have h := Nat.two_pow_add_eq_or_of_lt (i := 8) (b := y) (by omega) x
    rw [show (2 : Nat) ^ 8 = 256 from rfl] at h
    rw [Nat.mul_comm x 256, ← h]
  show IntKind.u64.wrap (((BitVec.ofInt 64 ((x : Int) * 256)) ||| (BitVec.ofInt 64 (y : Int))).toNat : Int) = _
  rw [h1, h2]
  rw [BitVec.toNat_or, BitVec.toNat_ofNat, BitVec.toNat_ofNat, Nat.mod_eq_of_lt (by omega), Nat.mod_eq_of_lt (by omega), h3]
  rw [IntWalk.u64_in _ (by omega)]
  omega
theorem or_one (a : Int) (ha : 0 ≤ a ∧ a ≤ 65535) : bits .or .u64 (a * 256) 1 = a * 256 + 1 := or_byte a 1 ha (by omega)
theorem or_zero (b : Int) (hb : 0 ≤ b ∧ b ≤ 255) : bits .or .u64 0 b = b := by have := or_byte 0 b (by omega) hb; simpa using this

/-- what lies in memory between two words -/
def DgI (w : World) (fa ma : Addr) (c : Nat) (x : Int) (l : List Int) (W : World) : Prop :=
  Blk W w.heap.size 165 [.pointer (some fa)] ∧ Blk W (w.heap.size + 1) 83 [.int .u64 x] ∧ Blk W (w.heap.size + 2) 83 [.int .u64 (Pf.horn x l)] ∧ Blk W (w.heap.size + 3) 165 [.pointer (some fa)] ∧ Blk W (w.heap.size + 4) 133 [.slice (some ma) 8 c] ∧ Below w.heap.size w W
section
variable {w W W' : World} {fa ma : Addr} {c : Nat} {x : Int} {l : List Int}
theorem Blk.turn9 {row : Option Nat} {b : Nat} {t : TypeId} {cs : List Value} (h : Blk W b t cs) (hg : W.grownBy W' row) (hr : ∀ r, row = some r → ∃ o : Obj, W.heap[r]? = some o ∧ o.isCells = false) : Blk W' b t cs :=
  h.grown hg (fun e => by
    obtain ⟨o, ho, hc⟩ := hr b e.symm
    have h' : W.heap[b]? = some (.cells cs.toArray t (0, 0)) := h
    rw [h'] at ho
    cases ho
    cases hc)
theorem DgI.own {B : Nat} (hB : w.heap.size ≤ B) : OwnFrom B (DgI w fa ma c x) := by
  rintro pre W W' row ⟨h1, h2, h3, h4, h5, h6⟩ hg hr
  have h' := fun r e => (hr r e).2
  exact ⟨h1.turn9 hg h', h2.turn9 hg h', h3.turn9 hg h', h4.turn9 hg h', h5.turn9 hg h', h6.grown hg h6.size (fun r e => by have := (hr r e).1; omega)⟩
theorem DgI.start (w1 : World) (h : w1 = ((((w.alloc (.cells #[.pointer (some fa)] 165)).alloc (.cells #[.int .u64 x] 83)).alloc (.cells #[.int .u64 0] 83)).alloc (.cells #[.pointer (some fa)] 165)).alloc (.cells #[.slice (some ma) 8 c] 133)) : DgI w fa ma c x [] w1 := by
  subst h
  have b0 := (((Blk.new' w #[.pointer (some fa)] 165).alloc (.cells #[.int .u64 x] 83)).alloc (.cells #[.int .u64 0] 83)).alloc (.cells #[.pointer (some fa)] 165) |>.alloc (.cells #[.slice (some ma) 8 c] 133)
  have b1 := (((Blk.new' (w.alloc (.cells #[.pointer (some fa)] 165)) #[.int .u64 x] 83).alloc (.cells #[.int .u64 0] 83)).alloc (.cells #[.pointer (some fa)] 165)).alloc (.cells #[.slice (some ma) 8 c] 133)
  have b2 := ((Blk.new' ((w.alloc (.cells #[.pointer (some fa)] 165)).alloc (.cells #[.int .u64 x] 83)) #[.int .u64 0] 83).alloc (.cells #[.pointer (some fa)] 165)).alloc (.cells #[.slice (some ma) 8 c] 133)
  have b3 := (Blk.new' (((w.alloc (.cells #[.pointer (some fa)] 165)).alloc (.cells #[.int .u64 x] 83)).alloc (.cells #[.int .u64 0] 83)) #[.pointer (some fa)] 165).alloc (.cells #[.slice (some ma) 8 c] 133)
  have b4 := Blk.new' ((((w.alloc (.cells #[.pointer (some fa)] 165)).alloc (.cells #[.int .u64 x] 83)).alloc (.cells #[.int .u64 0] 83)).alloc (.cells #[.pointer (some fa)] 165)) #[.slice (some ma) 8 c] 133
  simp only [World.size_alloc] at b1 b2 b3 b4
  exact ⟨b0, b1, b2, b3, b4, (((((Below.refl _ _).alloc (Nat.le_refl _) _).alloc (by simp) _).alloc (by simp; omega) _).alloc (by simp; omega) _).alloc (by simp; omega) _⟩
theorem DgI.step {y : Int} (h : DgI w fa ma c x l W) : DgI w fa ma c x (l ++ [y]) (W.setCell ⟨w.heap.size + 2, 0, none⟩ (.int .u64 ((Pf.horn x l + y) * x % 2147483647))) := by
  obtain ⟨h1, h2, h3, h4, h5, h6⟩ := h
  have h3' := h3.setCell 0 (.int .u64 ((Pf.horn x l + y) * x % 2147483647))
  rw [← Pf.horn_snoc] at h3' ⊢
  exact ⟨h1.setCell_ne (by simp) _, h2.setCell_ne (by simp) _, by simpa using h3', h4.setCell_ne (by simp) _, h5.setCell_ne (by simp) _, h6.setCell (by simp) _⟩
end
/-- the field's cells, and the message's -/
def FmAt (w : World) (F g : Nat) (bs : List Int) : Prop := (w.cell? ⟨F, 4, none⟩ = some (.int .u64 2147483647) ∧ w.cell? ⟨F, 5, none⟩ = some (.int .i64 3)) ∧ (bs.length = 8 ∧ ∀ x ∈ bs, 0 ≤ x ∧ x ≤ 255) ∧ ∀ j, j < 8 → w.cell? ⟨g, j, none⟩ = some (.int .u8 (bs.getD j 0))
theorem FmAt.below {w w1 : World} {F g : Nat} {bs : List Int} (h : FmAt w F g bs) (hb : Below w.heap.size w w1) : FmAt w1 F g bs := by
  obtain ⟨⟨h1, h2⟩, h3, h4⟩ := h
  exact ⟨⟨(hb.cell (World.block_lt_of_cell? _ _ h1)).trans h1, (hb.cell (World.block_lt_of_cell? _ _ h2)).trans h2⟩, h3, fun j hj => (hb.cell (World.block_lt_of_cell? _ _ (h4 j hj))).trans (h4 j hj)⟩
theorem eight (bs : List Int) (h : bs.length = 8) : ∃ a b c d e f g i : Int, bs = [a, b, c, d, e, f, g, i] := by
  match bs, h with
  | [a, b, c, d, e, f, g, i], _ => exact ⟨a, b, c, d, e, f, g, i, rfl⟩
set_option maxHeartbeats 4000000 in
theorem words1_c (w : World) (F G c : Nat) (x : Int) (bs : List Int) (l : Nat) (hfm : FmAt w F G bs) (hc8 : 8 ≤ c) (hcm : c ≤ maxLen) (J Jx : List Int → World → Prop) (hJ : ∀ pre W, J pre W → DgI w ⟨F, 4, none⟩ ⟨G, 0, none⟩ c x pre W) (hJg : ∀ pre W W', J pre W → W.grownBy W' none → J pre W')
    (hY : ∀ pre y W1, J pre W1 → (0 ≤ y ∧ y ≤ 16777215) → YieldAt Fence.wide 1 Try.prog l #[.int .u64 y] W1 fun e W' => (e = .returned (.bool true) ∧ J (pre ++ [y]) W') ∨ (e = .returned (.bool false) ∧ Jx (pre ++ [y]) W'))
    (W : World) (hj : J [] W) :
    CallsIn Fence.wide 2 Try.prog 95 #[.func (.yield l) #[] #[], .pointer (some ⟨w.heap.size + 4, 0, none⟩), .pointer (some ⟨w.heap.size + 3, 0, none⟩)] W fun e W' => (∃ v, e = .returned v) ∧ ((∃ ys, ys = Pf.ws (bs ++ [1]) 3 ∧ J ys W') ∨ (∃ pre, True ∧ Jx pre W')) := by
  refine callsIn_of_wp Try.func95 rfl trivial ?_ rfl
  simp only [Try.ntmps95, List.size_toArray, List.length_cons, List.length_nil, Nat.reduceAdd, Nat.reduceSub, Array.replicate_succ, Array.replicate_zero, List.push_toArray, List.append_toArray, List.nil_append, List.cons_append]
  obtain ⟨b0, b1, b2, b3, b4, b5, b6, b7, rfl⟩ := eight bs hfm.2.1.1
  have HB := Lib.hid hfm.2.1.2
  have HF := Lib.hid hfm
  have HJ := Lib.hid hJ
  have HJg := Lib.hid hJg
  have HY := Lib.hid hY
  obtain ⟨fn, tmps, assign, body, hy, hR⟩ := hY _ 1 _ hj (by omega)
  clear hJ hJg hY hj hfm
  unfold maxLen at hcm
  gi_wp2
  refine hR.mono ?_
  rintro e W1 (⟨rfl, hJ1⟩ | ⟨rfl, hJx1⟩)
  · have HJ1 := Lib.hid hJ1
    clear hJ1
    gi_wp2
    gi_loopw [4] (fun i wr => ∃ k : Nat, k ≤ 3 ∧ i = .int .i64 k ∧ Hid (J (Pf.ws ([b0, b1, b2, b3, b4, b5, b6, b7] ++ [1]) k) wr)) (fun i _ => 3 - (intOf i).toNat)
    case atStart => exact ⟨0, by omega, rfl, HJ1⟩
    case round =>
      obtain ⟨k, hk, rfl, HK⟩ := hrel
      obtain ⟨d1, d2, d3, d4, d5, d6⟩ := HJ.out _ _ HK.out
      have p3 := d4.cell 0 rfl
      have p4 := d5.cell 0 rfl
      obtain ⟨⟨q1, q2⟩, -, q3⟩ := HF.out.below (w1 := wr) ⟨d6.os, d6.tape, d6.output, d6.size, d6.block⟩
      have c0 : wr.cell? ⟨G, 0, none⟩ = some (.int .u8 b0) := q3 0 (by omega)
      have c1 : wr.cell? ⟨G, 1, none⟩ = some (.int .u8 b1) := q3 1 (by omega)
      have c2 : wr.cell? ⟨G, 2, none⟩ = some (.int .u8 b2) := q3 2 (by omega)
      have c3 : wr.cell? ⟨G, 3, none⟩ = some (.int .u8 b3) := q3 3 (by omega)
      have c4 : wr.cell? ⟨G, 4, none⟩ = some (.int .u8 b4) := q3 4 (by omega)
      have c5 : wr.cell? ⟨G, 5, none⟩ = some (.int .u8 b5) := q3 5 (by omega)
      have c6 : wr.cell? ⟨G, 6, none⟩ = some (.int .u8 b6) := q3 6 (by omega)
      have c7 : wr.cell? ⟨G, 7, none⟩ = some (.int .u8 b7) := q3 7 (by omega)
      have hBd : (0 ≤ b0 ∧ b0 ≤ 255) ∧ (0 ≤ b1 ∧ b1 ≤ 255) ∧ (0 ≤ b2 ∧ b2 ≤ 255) ∧ (0 ≤ b3 ∧ b3 ≤ 255) ∧ (0 ≤ b4 ∧ b4 ≤ 255) ∧ (0 ≤ b5 ∧ b5 ≤ 255) ∧ (0 ≤ b6 ∧ b6 ≤ 255) ∧ (0 ≤ b7 ∧ b7 ≤ 255) := by
        have h := HB.out
        simp at h
        exact h
      obtain ⟨e0, e1, e2, e3, e4, e5, e6, e7⟩ := hBd
      have HSz := Lib.hid d6.size
      clear d1 d2 d3 d4 d5 d6 q3
      have h4 : k = 0 ∨ k = 1 ∨ k = 2 ∨ k = 3 := by omega
      rcases h4 with rfl | rfl | rfl | rfl
      · have HS := Lib.hid (show Pf.ws ([b0, b1, b2, b3, b4, b5, b6, b7] ++ [1]) (0 + 1) = Pf.ws ([b0, b1, b2, b3, b4, b5, b6, b7] ++ [1]) 0 ++ [((b0 * 256 + b1) * 256 + b2)] from by
          rw [Pf.ws_succ]
          show _ ++ [Pf.wd b0 b1 b2] = _
          rw [show Pf.wd b0 b1 b2 = ((b0 * 256 + b1) * 256 + b2) from by unfold Pf.wd; omega])
        have o0 := or_zero b0 e0
        have o1 := or_byte b0 b1 (by omega) e1
        have o2 := or_byte (b0 * 256 + b1) b2 (by omega) e2
        gi_wp2
        refine wpIn_wide.2 ?_
        go_quiet (fail)
        gi_wp2
        refine wpIn_loop_rounds 4 ?_
        rw [roundsIn_succ]
        gi_wp2
        rw [roundsIn_succ]
        gi_wp2
        rw [roundsIn_succ]
        have HKd := Lib.hid (HJg.out _ _ (wr.drewN nq) HK.out ⟨rfl, rfl, rfl, Nat.le_refl _, fun _ _ _ => rfl⟩)
        gi_wp2
        rw [roundsIn_succ]
        obtain ⟨fn2, tmps2, assign2, body2, hy2, hR2⟩ := HY.out _ ((b0 * 256 + b1) * 256 + b2) _ HKd.out (by omega)
        gi_wp2
        refine hR2.mono ?_
        rintro e W3 (⟨rfl, hJ3⟩ | ⟨rfl, hJx3⟩)
        · have HJ3 : Hid (J (Pf.ws ([b0, b1, b2, b3, b4, b5, b6, b7] ++ [1]) (0 + 1)) W3) := Lib.hid (by rw [HS.out]; exact hJ3)
          clear hJ3
          gi_wp2
          go_roundw
          case rel => exact ⟨0 + 1, by omega, rfl, HJ3⟩
          case measure => simp [intOf]
        · have HJX := Lib.hid hJx3
          clear hJx3
          gi_wp2
          refine bodyPost_ret (results_none rfl _ _ _) rfl ?_
          exact ⟨⟨_, rfl⟩, .inr ⟨_, trivial, HJX.out⟩⟩
      · have HS := Lib.hid (show Pf.ws ([b0, b1, b2, b3, b4, b5, b6, b7] ++ [1]) (1 + 1) = Pf.ws ([b0, b1, b2, b3, b4, b5, b6, b7] ++ [1]) 1 ++ [((b3 * 256 + b4) * 256 + b5)] from by
          rw [Pf.ws_succ]
          show _ ++ [Pf.wd b3 b4 b5] = _
          rw [show Pf.wd b3 b4 b5 = ((b3 * 256 + b4) * 256 + b5) from by unfold Pf.wd; omega])
        have o0 := or_zero b3 e3
        have o1 := or_byte b3 b4 (by omega) e4
        have o2 := or_byte (b3 * 256 + b4) b5 (by omega) e5
        gi_wp2
        refine wpIn_wide.2 ?_
        go_quiet (fail)
        gi_wp2
        refine wpIn_loop_rounds 4 ?_
        rw [roundsIn_succ]
        gi_wp2
        rw [roundsIn_succ]
        gi_wp2
        rw [roundsIn_succ]
        have HKd := Lib.hid (HJg.out _ _ (wr.drewN nq) HK.out ⟨rfl, rfl, rfl, Nat.le_refl _, fun _ _ _ => rfl⟩)
        gi_wp2
        rw [roundsIn_succ]
        obtain ⟨fn2, tmps2, assign2, body2, hy2, hR2⟩ := HY.out _ ((b3 * 256 + b4) * 256 + b5) _ HKd.out (by omega)
        gi_wp2
        refine hR2.mono ?_
        rintro e W3 (⟨rfl, hJ3⟩ | ⟨rfl, hJx3⟩)
        · have HJ3 : Hid (J (Pf.ws ([b0, b1, b2, b3, b4, b5, b6, b7] ++ [1]) (1 + 1)) W3) := Lib.hid (by rw [HS.out]; exact hJ3)
          clear hJ3
          gi_wp2
          go_roundw
          case rel => exact ⟨1 + 1, by omega, rfl, HJ3⟩
          case measure => simp [intOf]
        · have HJX := Lib.hid hJx3
          clear hJx3
          gi_wp2
          refine bodyPost_ret (results_none rfl _ _ _) rfl ?_
          exact ⟨⟨_, rfl⟩, .inr ⟨_, trivial, HJX.out⟩⟩
      · have HS := Lib.hid (show Pf.ws ([b0, b1, b2, b3, b4, b5, b6, b7] ++ [1]) (2 + 1) = Pf.ws ([b0, b1, b2, b3, b4, b5, b6, b7] ++ [1]) 2 ++ [((b6 * 256 + b7) * 256 + 1)] from by
          rw [Pf.ws_succ]
          show _ ++ [Pf.wd b6 b7 1] = _
          rw [show Pf.wd b6 b7 1 = ((b6 * 256 + b7) * 256 + 1) from by unfold Pf.wd; omega])
        have o0 := or_zero b6 e6
        have o1 := or_byte b6 b7 (by omega) e7
        have o2 := or_one (b6 * 256 + b7) (by omega)
        gi_wp2
        refine wpIn_wide.2 ?_
        go_quiet (fail)
        gi_wp2
        refine wpIn_loop_rounds 4 ?_
        rw [roundsIn_succ]
        gi_wp2
        rw [roundsIn_succ]
        gi_wp2
        rw [roundsIn_succ]
        have HKd := Lib.hid (HJg.out _ _ (wr.drewN nq) HK.out ⟨rfl, rfl, rfl, Nat.le_refl _, fun _ _ _ => rfl⟩)
        gi_wp2
        rw [roundsIn_succ]
        obtain ⟨fn2, tmps2, assign2, body2, hy2, hR2⟩ := HY.out _ ((b6 * 256 + b7) * 256 + 1) _ HKd.out (by omega)
        gi_wp2
        refine hR2.mono ?_
        rintro e W3 (⟨rfl, hJ3⟩ | ⟨rfl, hJx3⟩)
        · have HJ3 : Hid (J (Pf.ws ([b0, b1, b2, b3, b4, b5, b6, b7] ++ [1]) (2 + 1)) W3) := Lib.hid (by rw [HS.out]; exact hJ3)
          clear hJ3
          gi_wp2
          go_roundw
          case rel => exact ⟨2 + 1, by omega, rfl, HJ3⟩
          case measure => simp [intOf]
        · have HJX := Lib.hid hJx3
          clear hJx3
          gi_wp2
          refine bodyPost_ret (results_none rfl _ _ _) rfl ?_
          exact ⟨⟨_, rfl⟩, .inr ⟨_, trivial, HJX.out⟩⟩
      · gi_wp2
        refine wpIn_wide.2 ?_
        go_quiet (fail)
        gi_wp2
        go_end0
        exact ⟨⟨_, rfl⟩, .inl ⟨_, rfl, HJg.out _ _ _ HK.out ⟨rfl, rfl, rfl, Nat.le_refl _, fun _ _ _ => rfl⟩⟩⟩
  · have HJX := Lib.hid hJx1
    clear hJx1
    gi_wp2
    refine bodyPost_ret (results_none rfl _ _ _) rfl ?_
    exact ⟨⟨_, rfl⟩, .inr ⟨_, trivial, HJX.out⟩⟩
end Go.Proofs.Ytafajclbghofkaa
