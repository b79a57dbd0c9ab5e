/- The loop over the shares below their greatest torque: its invariant, and its iterator. -/
import Derived.Test.YtcneohhfnnelgaaW36
import Derived.Test.YtcneohhfnnelgaaM6
import Derived.RangeFuncBound
import Derived.RangeFuncCalls
import Derived.Shelf.Abstract
import Derived.OwnWalkIn
import Derived.TacticsInMore
import Derived.LoopNIn
import Derived.LoopIn
namespace Go.Proofs.Ytcneohhfnnelgaa
open Go.RowKit Go.Shelf
set_option linter.unusedVariables false
attribute [local go_sem] Oper.semAt_some

theorem Below.turn {w W W' : World} {row : Option Nat} (h : Below w.heap.size w W) (hg : W.grownBy W' row) (hr : ∀ r, row = some r → w.heap.size ≤ r) : Below w.heap.size w W' := h.grown hg h.size hr
theorem Blk.turn {W W' : World} {row : Option Nat} {b : Nat} {t : TypeId} {cs : List Value} (h : Blk W b t cs) (hg : W.grownBy W' row) (hr : ∀ r, row = some r → ∃ o : Obj, W.heap[r]? = some o ∧ o.isCells = false) : Blk W' b t cs :=
  h.grown hg (fun e => by
    obtain ⟨o, ho, hc⟩ := hr b e.symm
    have h' : W.heap[b]? = some (.cells cs.toArray t (0, 0)) := h
    rw [h'] at ho
    cases ho
    cases hc)
section
variable {w : World} {T : Int} {A : Option Addr} {xs : List Int} {cap b8 O : Nat} {cs : List Int} {W W' : World}
theorem Sh2.turn (hx : IntsAt w A xs) (h : Sh2 w T A xs cap b8 O cs W) {row : Option Nat} (hg : W.grownBy W' row) (hr : ∀ r, row = some r → w.heap.size ≤ r ∧ ∃ o : Obj, W.heap[r]? = some o ∧ o.isCells = false) : Sh2 w T A xs cap b8 O cs W' :=
  have hb := Below.turn h.1.2.2.2 hg (fun r e => (hr r e).1)
  have h2 := fun r e => (hr r e).2
  ⟨⟨h.1.1.turn hg h2, h.1.2.1.turn hg h2, hx.below hb, hb⟩, h.2.1.turn hg h2, ⟨h.2.2.1.1, h.2.2.1.2.turn hg h2⟩, h.2.2.2.turn hg h2⟩
end
/-- what lies in memory between two rounds -/
def RgI (w : World) (T : Int) (A : Option Addr) (xs : List Int) (cap b8 O g h0 : Nat) (L R : Int) (pre : List Nat) (W : World) : Prop :=
  ∃ cs, Sh2 w T A xs cap b8 O cs W ∧ Blk W g 2 [.int .i64 (R - pre.length)] ∧ Blk W h0 45 [.slice (some ⟨O, 0, none⟩) xs.length xs.length] ∧ Blk W (h0 + 1) 45 [.slice A xs.length cap] ∧ (pre.length : Int) ≤ R ∧
    ∀ j, j < xs.length → cs.getD j 0 = min L (xs.getD j 0) + if j ∈ pre then 1 else 0
def RgX (w : World) (T : Int) (A : Option Addr) (xs : List Int) (cap b8 O g h0 : Nat) (L R : Int) (l : List Nat) (W : World) : Prop :=
  ∃ pre x, l = pre ++ [x] ∧ (pre.length : Int) = R ∧ RgI w T A xs cap b8 O g h0 L R pre W
theorem RgI.own {w : World} {T : Int} {A : Option Addr} {xs : List Int} {cap b8 O g h0 : Nat} {L R : Int} {B : Nat} (hx : IntsAt w A xs) (hB : w.heap.size ≤ B) : OwnFrom B (RgI w T A xs cap b8 O g h0 L R) := by
  rintro pre W W' row ⟨cs, h1, h2, h3, h4, h5, h6⟩ hg hr
  have h' := fun r e => (hr r e).2
  exact ⟨cs, h1.turn hx hg (fun r e => ⟨by have := (hr r e).1; omega, (hr r e).2⟩), h2.turn hg h', h3.turn hg h', h4.turn hg h', h5, h6⟩
theorem RgX.own {w : World} {T : Int} {A : Option Addr} {xs : List Int} {cap b8 O g h0 : Nat} {L R : Int} {B : Nat} (hx : IntsAt w A xs) (hB : w.heap.size ≤ B) : OwnFrom B (RgX w T A xs cap b8 O g h0 L R) := by
  rintro l W W' row ⟨pre, x, e, hl, h⟩ hg hr
  exact ⟨pre, x, e, hl, RgI.own hx hB pre W W' row h hg hr⟩

set_option maxHeartbeats 2000000 in
theorem hungry1_c (w : World) (T : Int) (A : Option Addr) (xs : List Int) (cap b8 O g h0 : Nat) (L R : Int) (l : Nat) (h8 : xs.length ≤ 8) (J Jx : List Nat → World → Prop) (hJ : ∀ pre W, J pre W → RgI w T A xs cap b8 O g h0 L R pre W)
    (hY : ∀ pre x W1, J pre W1 → (x < xs.length ∧ x ∉ pre) → YieldAt Fence.wide 1 Try.prog l #[.int .i64 (x : Nat)] W1 fun e W' => (e = .returned (.bool true) ∧ J (pre ++ [x]) W') ∨ (e = .returned (.bool false) ∧ Jx (pre ++ [x]) W'))
    (W : World) (hj : J [] W) :
    CallsIn Fence.wide 2 Try.prog 119 #[.func (.yield l) #[] #[], .pointer (some ⟨h0, 0, none⟩), .pointer (some ⟨h0 + 1, 0, none⟩)] W fun e W' => (∃ v, e = .returned v) ∧ ((∃ ys, ys = Dv.hs L xs xs.length ∧ J ys W') ∨ (∃ pre, (∃ k, pre = Dv.hs L xs k ++ [k]) ∧ Jx pre W')) := by
  refine callsIn_of_wp Try.func119 rfl trivial ?_ rfl
  simp only [Try.ntmps119, List.size_toArray, List.length_cons, List.length_nil, Nat.reduceAdd, Nat.reduceSub, Array.replicate_succ, Array.replicate_zero, List.push_toArray, List.append_toArray, List.nil_append, List.cons_append]
  obtain ⟨cs0, a1, a2, a3, a4, a5, a6⟩ := hJ _ _ hj
  have q0 := a3.cell 0 rfl
  clear a1 a2 a4 a5 a6
  have HJ := Lib.hid hJ
  have HY := Lib.hid hY
  have HJ0 := Lib.hid hj
  clear hJ hY hj
  gi_wp2
  gi_loopw [8] (fun i wr => ∃ k : Nat, k ≤ xs.length ∧ i = .int .i64 k ∧ Hid (J (Dv.hs L xs k) wr)) (fun i _ => xs.length - (intOf i).toNat)
  case atStart => exact ⟨0, Nat.zero_le _, rfl, HJ0⟩
  case round =>
    obtain ⟨k, hk, rfl, HK⟩ := hrel
    obtain ⟨cs, b1, b2, b3, b4, b5, b6⟩ := HJ.out _ _ HK.out
    by_cases hlt : k < xs.length
    · have hnk : k ∉ Dv.hs L xs k := fun h => Nat.lt_irrefl _ (Dv.hs_mem.1 h).1
      have c1 := b1.2.2.1.cell k hlt
      rw [b6 k hlt, if_neg hnk, Int.add_zero] at c1
      obtain ⟨ad, rfl, hcell⟩ := b1.1.2.2.1 k hlt
      have c2 := b4.cell 0 rfl
      have z := b4.lt
      clear b1 b2 b3 b4 b5 b6
      cases hh : Dv.hun L xs k
      · have hx : decide (min L (xs.getD k 0) < xs.getD k 0) = false := hh
        have HN : Hid (J (Dv.hs L xs (k + 1)) wr) := Lib.hid (by rw [Dv.hs_succ, hh]; exact HK.out)
        generalize xs.getD k 0 = x at hcell c1 hx
        clear hh
        gi_wp2
        refine ⟨fun _ h => (by cases h), ?_⟩
        gi_wp2
        go_roundw
        case rel => exact ⟨k + 1, by omega, by go_num, HN⟩
        case measure => simp [intOf]; omega
      · have hx : decide (min L (xs.getD k 0) < xs.getD k 0) = true := hh
        have HS := Lib.hid (show Dv.hs L xs (k + 1) = Dv.hs L xs k ++ [k] from by rw [Dv.hs_succ, hh]; rfl)
        obtain ⟨fn, tmps, assign, body, hy, hR⟩ := HY.out _ k wr HK.out ⟨hlt, hnk⟩
        generalize xs.getD k 0 = x at hcell c1 hx
        clear hh hnk
        gi_wp2
        refine hR.mono ?_
        rintro e W3 (⟨rfl, hJ3⟩ | ⟨rfl, hJx3⟩)
        · have HJ3 : Hid (J (Dv.hs L xs (k + 1)) W3) := Lib.hid (by rw [HS.out]; exact hJ3)
          clear hJ3
          gi_wp2
          go_roundw
          case rel => exact ⟨k + 1, by omega, by go_num, HJ3⟩
          case measure => simp [intOf]; omega
        · have HJX := Lib.hid hJx3
          clear hJx3
          gi_wp2
          refine bodyPost_ret (results_none rfl _ _ _) rfl ?_
          exact ⟨⟨_, rfl⟩, .inr ⟨_, ⟨k, rfl⟩, HJX.out⟩⟩
    · have e : k = xs.length := by omega
      subst e
      clear b1 b2 b3 b4 b5 b6
      gi_wp2
      go_end0
      exact ⟨⟨_, rfl⟩, .inl ⟨_, rfl, HK.out⟩⟩
end Go.Proofs.Ytcneohhfnnelgaa
