/- Contracts that the claim leans on, part 7: SK1 SK2a SK2b SK3 LSlack K1 -/
import Derived.Test.YtlklnaebdnahcaaCK6
import Derived.WalkKit
import Derived.ProofKit
import Derived.OpenShut
import Derived.Below
import Derived.ChangeSame
import Derived.WideKeyArgs
set_option linter.unusedVariables false
set_option linter.unusedSimpArgs false
set_option linter.unnecessarySimpa false
namespace Go.Proofs.Ytlklnaebdnahcaa
open Go.RowKit Nw
namespace Sk
def padF' (i k : Nat) : Int := ((((k + 3) * (k + i + 5) * 123457) % 2147483647 : Nat) : Int)
def padL' (i n : Nat) : List Int := (List.range n).map (padF' i)
def D (ev sl : Int) : Dl := ⟨100, 10, [⟨0, 36, 18⟩, ⟨50, 72, 0⟩], [⟨1000, padL' 0 20⟩, ⟨1077, padL' 1 20⟩], 255, ev, sl, 1000000, 1000000⟩
noncomputable def Sa (ev sl : Int) : St := doS (D ev sl) st0 8 500000 0 5000
noncomputable def Sb (ev sl : Int) : St := doS (D ev sl) (Sa ev sl) 1 0 0 0
noncomputable def S0 (ev sl : Int) : St := (Nw.settle (D ev sl) 100 0 (Sb ev sl)).1
noncomputable def drK (D : Dl) (kk : Int) : Nat → St → St
  | 0, S => S
  | n + 1, S => if S.fl.length = 0 then S else drK D kk n (doS D S kk 0 0 0)
noncomputable def rdK (ev sl kk : Int) (q : Nat) (S : St) : St := drK (D ev sl) kk q (Nw.tick (D ev sl) S 1000)
noncomputable def rds (ev sl kk : Int) (q : Nat) (S : St) : Nat → St
  | 0 => S
  | n + 1 => rdK ev sl kk q (rds ev sl kk q S n)
noncomputable def fls (ev sl kk : Int) (q : Nat) (S : St) : Nat → Nat
  | 0 => 0
  | n + 1 => fls ev sl kk q S n + if (Nw.tick (D ev sl) (rds ev sl kk q S n) 1000).flow = 1000 then 1 else 0
noncomputable def okF (ev sl : Int) (n : Nat) : Bool :=
  decide ((Nw.tick (D ev sl) (rds ev sl 5 20 (S0 ev sl) n) 1000).flow = 1000) || decide ((Nw.tick (D ev sl) (rds ev sl 5 20 (S0 ev sl) n) 1000).flow = 0)
noncomputable def okG (ev sl : Int) (n : Nat) : Bool := decide (0 < fls ev sl 4 100 (rds ev sl 5 20 (S0 ev sl) n) 3)
noncomputable def chk (ev sl : Int) (n : Nat) : Bool :=
  decide (doE (D ev sl) st0 8 500000 0 5000 = 0) && decide (doE (D ev sl) (Sa ev sl) 1 0 0 0 = 0) && decide ((S0 ev sl).vph = 2) && decide (0 ≤ (S0 ev sl).now ∧ (S0 ev sl).now ≤ 1000)
  && (List.range (n + 20)).all (okF ev sl) && decide (fls ev sl 5 20 (S0 ev sl) (n + 20) ≤ n) && (List.range 20).all (fun m => okG ev sl (n + m + 1))
theorem heard_now (D : Dl) (S : St) (i : Int) (x : Nt) : (heard D S i x).now = S.now := by
  unfold Nw.heard
  split
  · split
    · unfold offered; split <;> rfl
    split
    · unfold rejected; split <;> rfl
    split <;> rfl
  split
  · split
    · unfold plugged; split <;> rfl
    · rfl
  split
  · split
    · unfold refused; split <;> rfl
    split
    · unfold started; split
      · split <;> rfl
      · rfl
    split
    · unfold acked; split <;> rfl
    split
    · unfold halted; split <;> rfl
    split
    · unfold closed; split <;> rfl
    split <;> rfl
  split
  · split
    · unfold asked; split <;> rfl
    split
    · unfold recorded; split
      · rfl
      · split <;> rfl
    split <;> rfl
  split
  · split
    · rfl
    split
    · unfold denied; split <;> rfl
    · rfl
  split
  · split
    · unfold checked; split <;> rfl
    split
    · unfold noted; split <;> rfl
    · rfl
  · rfl
theorem deliver_now (D : Dl) (S : St) (k : Nat) : (Nw.deliver D S k).now = S.now := by
  unfold Nw.deliver Nw.arrive
  split
  · rw [heard_now]; rfl
  · rfl
theorem do_now {D : Dl} {S : St} {kk : Int} (h : kk = 4 ∨ kk = 5) : (doS D S kk 0 0 0).now = S.now := by
  unfold Nw.doS
  split
  · rfl
  · rcases h with rfl | rfl
    · exact deliver_now D S _
    · rfl
theorem drK_now {D : Dl} {kk : Int} (h : kk = 4 ∨ kk = 5) : ∀ (q : Nat) (S : St), (drK D kk q S).now = S.now
  | 0, S => rfl
  | q + 1, S => by
    unfold drK
    split
    · rfl
    · rw [drK_now h q, do_now h]
theorem tick_now (D : Dl) (S : St) (p : Int) : (Nw.tick D S p).now = wr (S.now + 1) := by
  have e1 : (tick1 D S p).now = S.now := by unfold tick1; split <;> rfl
  have e2 : ∀ T, (tick2 D T).now = T.now := fun T => by unfold tick2; split <;> rfl
  have e3 : ∀ n T, (Nw.polls n T).now = T.now := fun n => by
    induction n with
    | zero => intro T; rfl
    | succ n ih => intro T; exact ih T
  unfold Nw.tick
  show (Nw.polls 6 _).now = _
  rw [e3]
  show wr ((if going D S then tick2 D (tick1 D S p) else tick1 D S p).now + 1) = _
  split
  · rw [e2, e1]
  · rw [e1]
theorem rds_now {ev sl kk : Int} (h : kk = 4 ∨ kk = 5) (q : Nat) {S : St} (h0 : 0 ≤ S.now ∧ S.now ≤ 1000000) : ∀ n : Nat, n ≤ 1000000 → (rds ev sl kk q S n).now = S.now + n
  | 0, _ => by show S.now = S.now + ((0 : Nat) : Int); omega
  | n + 1, hn => by
    show (rdK ev sl kk q (rds ev sl kk q S n)).now = _
    unfold rdK
    rw [drK_now h, tick_now, rds_now h q h0 n (by omega)]
    have : wr (S.now + n + 1) = S.now + n + 1 := by unfold wr RowKit.wrap64; omega
    rw [this]; omega
theorem fls_mono {ev sl kk : Int} {q : Nat} {S : St} {m : Nat} : ∀ {n : Nat}, m ≤ n → fls ev sl kk q S m ≤ fls ev sl kk q S n
  | 0, h => by rw [Nat.le_zero.1 h]; exact Nat.le_refl _
  | n + 1, h => by
    rcases Nat.lt_or_ge m (n + 1) with h1 | h1
    · exact Nat.le_trans (fls_mono (by omega)) (Nat.le_add_right _ _)
    · rw [show m = n + 1 by omega]; exact Nat.le_refl _
theorem chk_of {ev sl : Int} {n : Nat} (h : chk ev sl n = true) : doE (D ev sl) st0 8 500000 0 5000 = 0 ∧ doE (D ev sl) (Sa ev sl) 1 0 0 0 = 0 ∧ (S0 ev sl).vph = 2 ∧ (S0 ev sl).now ≤ 1000 ∧ 0 ≤ (S0 ev sl).now ∧
    (∀ i, i < n + 20 → (Nw.tick (D ev sl) (rds ev sl 5 20 (S0 ev sl) i) 1000).flow = 1000 ∨ (Nw.tick (D ev sl) (rds ev sl 5 20 (S0 ev sl) i) 1000).flow = 0) ∧ (∀ m, m ≤ n + 20 → fls ev sl 5 20 (S0 ev sl) m ≤ n) ∧ ∀ m, m < 20 → ∀ j, 3 ≤ j → 0 < fls ev sl 4 100 (rds ev sl 5 20 (S0 ev sl) (n + m + 1)) j := by
  unfold chk at h
  simp only [Bool.and_eq_true, decide_eq_true_eq, List.all_eq_true, List.mem_range] at h
  obtain ⟨⟨⟨⟨⟨⟨h1, h2⟩, h3⟩, h4⟩, h5⟩, h6⟩, h7⟩ := h
  refine ⟨h1, h2, h3, h4.2, h4.1, fun i hi => ?_, fun m hm => Nat.le_trans (fls_mono hm) h6, fun m hm j hj => ?_⟩
  · have := h5 i hi
    unfold okF at this
    simp only [Bool.or_eq_true, decide_eq_true_eq] at this
    exact this
  · have := h7 m hm
    unfold okG at this
    simp only [decide_eq_true_eq] at this
    exact Nat.lt_of_lt_of_le this (fls_mono hj)
end Sk
end Go.Proofs.Ytlklnaebdnahcaa
namespace Go.Proofs.Ytlklnaebdnahcaa
open Go.RowKit Nw
namespace Sk
set_option maxRecDepth 1000000
set_option maxHeartbeats 0
theorem c1_1 : chk 1 1 1 = true := by kernel_rfl
theorem c1_2 : chk 1 2 2 = true := by kernel_rfl
theorem c1_3 : chk 1 3 3 = true := by kernel_rfl
theorem c1_4 : chk 1 4 4 = true := by kernel_rfl
theorem c1_5 : chk 1 5 5 = true := by kernel_rfl
theorem c1_6 : chk 1 6 6 = true := by kernel_rfl
theorem c2_1 : chk 2 1 2 = true := by kernel_rfl
theorem c2_2 : chk 2 2 4 = true := by kernel_rfl
theorem c2_3 : chk 2 3 6 = true := by kernel_rfl
theorem c2_4 : chk 2 4 8 = true := by kernel_rfl
theorem c2_5 : chk 2 5 10 = true := by kernel_rfl
theorem c2_6 : chk 2 6 12 = true := by kernel_rfl
end Sk
end Go.Proofs.Ytlklnaebdnahcaa
namespace Go.Proofs.Ytlklnaebdnahcaa
open Go.RowKit Nw
namespace Sk
set_option maxRecDepth 1000000
set_option maxHeartbeats 0
theorem c3_1 : chk 3 1 3 = true := by kernel_rfl
theorem c3_2 : chk 3 2 6 = true := by kernel_rfl
theorem c3_3 : chk 3 3 9 = true := by kernel_rfl
theorem c3_4 : chk 3 4 12 = true := by kernel_rfl
theorem c3_5 : chk 3 5 15 = true := by kernel_rfl
theorem c3_6 : chk 3 6 18 = true := by kernel_rfl
theorem c4_1 : chk 4 1 4 = true := by kernel_rfl
theorem c4_2 : chk 4 2 8 = true := by kernel_rfl
theorem c4_3 : chk 4 3 12 = true := by kernel_rfl
theorem c4_4 : chk 4 4 16 = true := by kernel_rfl
theorem c4_5 : chk 4 5 20 = true := by kernel_rfl
theorem c4_6 : chk 4 6 24 = true := by kernel_rfl
theorem c5_1 : chk 5 1 5 = true := by kernel_rfl
theorem c5_2 : chk 5 2 10 = true := by kernel_rfl
theorem c5_3 : chk 5 3 15 = true := by kernel_rfl
theorem c5_4 : chk 5 4 20 = true := by kernel_rfl
theorem c5_5 : chk 5 5 25 = true := by kernel_rfl
theorem c5_6 : chk 5 6 30 = true := by kernel_rfl
end Sk
end Go.Proofs.Ytlklnaebdnahcaa
namespace Go.Proofs.Ytlklnaebdnahcaa
open Go.RowKit Nw
namespace Sk
theorem chk_all {ev sl : Int} (h1 : 1 ≤ ev ∧ ev ≤ 5) (h2 : 1 ≤ sl ∧ sl ≤ 6) : ∃ n : Nat, (n : Int) = ev * sl ∧ n ≤ 30 ∧ chk ev sl n = true := by
  have e1 : ev = 1 ∨ ev = 2 ∨ ev = 3 ∨ ev = 4 ∨ ev = 5 := by omega
  have e2 : sl = 1 ∨ sl = 2 ∨ sl = 3 ∨ sl = 4 ∨ sl = 5 ∨ sl = 6 := by omega
  rcases e1 with rfl | rfl | rfl | rfl | rfl <;> rcases e2 with rfl | rfl | rfl | rfl | rfl | rfl
  · exact ⟨1, rfl, by decide, c1_1⟩
  · exact ⟨2, rfl, by decide, c1_2⟩
  · exact ⟨3, rfl, by decide, c1_3⟩
  · exact ⟨4, rfl, by decide, c1_4⟩
  · exact ⟨5, rfl, by decide, c1_5⟩
  · exact ⟨6, rfl, by decide, c1_6⟩
  · exact ⟨2, rfl, by decide, c2_1⟩
  · exact ⟨4, rfl, by decide, c2_2⟩
  · exact ⟨6, rfl, by decide, c2_3⟩
  · exact ⟨8, rfl, by decide, c2_4⟩
  · exact ⟨10, rfl, by decide, c2_5⟩
  · exact ⟨12, rfl, by decide, c2_6⟩
  · exact ⟨3, rfl, by decide, c3_1⟩
  · exact ⟨6, rfl, by decide, c3_2⟩
  · exact ⟨9, rfl, by decide, c3_3⟩
  · exact ⟨12, rfl, by decide, c3_4⟩
  · exact ⟨15, rfl, by decide, c3_5⟩
  · exact ⟨18, rfl, by decide, c3_6⟩
  · exact ⟨4, rfl, by decide, c4_1⟩
  · exact ⟨8, rfl, by decide, c4_2⟩
  · exact ⟨12, rfl, by decide, c4_3⟩
  · exact ⟨16, rfl, by decide, c4_4⟩
  · exact ⟨20, rfl, by decide, c4_5⟩
  · exact ⟨24, rfl, by decide, c4_6⟩
  · exact ⟨5, rfl, by decide, c5_1⟩
  · exact ⟨10, rfl, by decide, c5_2⟩
  · exact ⟨15, rfl, by decide, c5_3⟩
  · exact ⟨20, rfl, by decide, c5_4⟩
  · exact ⟨25, rfl, by decide, c5_5⟩
  · exact ⟨30, rfl, by decide, c5_6⟩
end Sk
end Go.Proofs.Ytlklnaebdnahcaa
namespace Go.Proofs.Ytlklnaebdnahcaa
open Go.RowKit Nw
structure SlS (w W : World) (gd n : Nat) (dv : List Value) (D : Dl) (S : St) : Prop where
  net : NetX w W n D S (fun k => k = gd)
  blk : Blk W gd 27 dv
  base : w.heap.size ≤ gd
section
variable {w W W' : World} {gd n : Nat} {dv : List Value} {D : Dl} {S : St}
theorem SlS.below (h : SlS w W gd n dv D S) (hb : Below W.heap.size W W') : SlS w W' gd n dv D S := ⟨h.net.below hb, h.blk.below hb h.blk.lt, h.base⟩
theorem SlS.do (h : SlS w W gd n dv D S) {K : Int} (ho : OkA K D S) (k a b c : Int) : Calls Try.prog 6 #[.pointer (some ⟨n, 0, none⟩), .agg #[.int .i64 k, .int .i64 a, .int .i64 b, .int .i64 c]] W fun e w' => e = .returned (.int .i64 (doE D S k a b c)) ∧ SlS w w' gd n dv D (doS D S k a b c) :=
  (do_xx h.net ho k a b c).mono fun e w' ⟨he, hn, ht⟩ => ⟨he, hn, h.blk.touch ht (fun e => e rfl), h.base⟩
theorem SlS.settle (h : SlS w W gd n dv D S) {K : Int} {A L : Nat} (ho : OkB K A L D S) (hK : K + 25600000 ≤ 4611686018427387904) (hA : A + 400000 ≤ 1000000) (hL : L < 100000) : Calls Try.prog 7 #[.pointer (some ⟨n, 0, none⟩), .int .i64 100] W fun e w' => (∃ v, e = .returned v) ∧ SlS w w' gd n dv D (Nw.settle D 100 0 S).1 := by
  refine (settle_x h.net ho hK hA hL 100).mono fun e w' ⟨he, hn, ht⟩ => ⟨⟨_, he⟩, ?_, h.blk.touch ht (fun e => e rfl), h.base⟩
  have e : setlS D S 100 = (Nw.settle D 100 0 S).1 := by unfold setlS; rw [if_neg (by decide)]; rfl
  rw [← e]
  exact hn
end
theorem dl_is (ee es : Int) : (⟨100, 10, exBs, xCn, 255, ee, es, 1000000, 1000000⟩ : Dl) = Sk.D ee es := rfl
def OkQ (m : Nat) (D : Dl) (S : St) : Prop := ∃ (K : Int) (A L : Nat), OkB K A L D S ∧ K ≤ 3000000 + 64 * (m : Int) ∧ A ≤ 50000 + m ∧ L ≤ 10 + m
theorem OkQ.do {m : Nat} {D : Dl} {S : St} (h : OkQ m D S) (hm : m < 50000) (k a b c : Int) : OkQ (m + 1) D (Nw.doS D S k a b c) := by
  obtain ⟨K, A, L, h1, h2, h3, h4⟩ := h
  exact ⟨_, _, _, h1.doS (by omega) k a b c, by omega, by omega, by omega⟩
theorem OkQ.a {m : Nat} {D : Dl} {S : St} (h : OkQ m D S) (hm : m < 50000) : ∃ K, OkA K D S := by
  obtain ⟨K, A, L, h1, h2, h3, h4⟩ := h
  exact ⟨K, h1.a (by omega) (by omega)⟩
theorem OkQ.fl {m : Nat} {D : Dl} {S : St} (h : OkQ m D S) : S.fl.length ≤ 200 := by
  obtain ⟨K, A, L, h1, h2, h3, h4⟩ := h
  exact h1.fl
theorem OkQ.up {m m' : Nat} {D : Dl} {S : St} (h : OkQ m D S) (hm : m ≤ m') : OkQ m' D S := by
  obtain ⟨K, A, L, h1, h2, h3, h4⟩ := h
  exact ⟨K, A, L, h1, by omega, by omega, by omega⟩
theorem okS (ee es : Int) : (∃ K, OkA K (Sk.D ee es) st0) ∧ (∃ K, OkA K (Sk.D ee es) (Sk.Sa ee es)) ∧ (∃ (K : Int) (A L : Nat), OkB K A L (Sk.D ee es) (Sk.Sb ee es) ∧ K + 25600000 ≤ 4611686018427387904 ∧ A + 400000 ≤ 1000000 ∧ L < 100000) ∧ OkQ 0 (Sk.D ee es) (Sk.S0 ee es) := by
  have h0 : OkB 0 0 0 (Sk.D ee es) st0 := OkB.new xCn_pos (by show xCn.length ≤ 16; decide)
  have h1 := h0.doS (by decide) 8 500000 0 5000
  have h2 := h1.doS (by decide) 1 0 0 0
  have h3 := h2.settle 100 0 rfl rfl (by decide)
  exact ⟨⟨_, h0.a (by decide) (by decide)⟩, ⟨_, h1.a (by decide) (by decide)⟩, ⟨_, _, _, h2, by decide, by decide, by decide⟩, ⟨_, _, _, h3, by decide, by decide, by decide⟩⟩
theorem sdo3 {D : Dl} {S : St} (hn : S.now < 1099511627776) : Nw.doE D S 3 1000 0 0 = 0 ∧ Nw.doS D S 3 1000 0 0 = Nw.tick D S 1000 := by
  have e : Nw.doE D S 3 1000 0 0 = 0 := by
    have h1 : Cv.inB 1000 (-1073741824) 1073741824 = true := Cv.inB_iff.2 (by omega)
    show (if Cv.inB 1000 (-1073741824) 1073741824 = false then 3 else if 1099511627776 ≤ S.now then 4 else 0) = 0
    rw [h1, if_neg (by decide), if_neg (by omega)]
  refine ⟨e, ?_⟩
  unfold Nw.doS
  rw [e, if_neg (by decide)]
  rfl
theorem drK_go {D : Dl} {kk : Int} {N i : Nat} {S : St} (hi : i < N) (h : S.fl.length ≠ 0) : Sk.drK D kk (N - i) S = Sk.drK D kk (N - (i + 1)) (Nw.doS D S kk 0 0 0) := by
  obtain ⟨j, hj⟩ : ∃ j, N - i = j + 1 := ⟨N - i - 1, by omega⟩
  have hj2 : N - (i + 1) = j := by omega
  rw [hj, hj2]
  show (if S.fl.length = 0 then S else Sk.drK D kk j (Nw.doS D S kk 0 0 0)) = _
  rw [if_neg h]
theorem drK_end {D : Dl} {kk : Int} {i : Nat} {S : St} (h : S.fl.length = 0) : Sk.drK D kk i S = S := by
  cases i with
  | zero => rfl
  | succ j =>
    show (if S.fl.length = 0 then S else Sk.drK D kk j (Nw.doS D S kk 0 0 0)) = _
    rw [if_pos h]
theorem lt_step {N k : Nat} (h : k < N) : N - (intOf (.int .i64 ((k : Int) + 1))).toNat < N - (intOf (.int .i64 (k : Int))).toNat := by
  simp only [intOf]
  omega
theorem mo_in {b : Int} (hb : 0 ≤ b ∧ b ≤ 255) : wrap64 b = b ∧ IntKind.i64.wrap b = b := by
  have h : IntKind.i64.wrap b = b := IntWalk.i64_in _ (by omega)
  exact ⟨by rw [← IntWalk.i64_left]; exact h, h⟩
theorem le20 {i N mm : Nat} (h : i < N + mm + 1) (h2 : mm < 20) : i ≤ N + 20 ∧ i < N + 20 := by omega
theorem in60 {i N mm : Nat} (h : i < N + mm + 1) (h2 : mm < 20) (h3 : N ≤ 30) : i < 60 := by omega
theorem iw60 {i : Nat} (h : i < 1000) : wrap64 ((i : Int) + 1) = (i : Int) + 1 := by rw [← IntWalk.i64_left]; exact IntWalk.i64_in _ (by omega)
theorem dP {i N mm : Nat} {P : Int} (hN : (N : Int) = P) : (i < N + mm + 1 → decide ((i : Int) < P + mm + 1) = true) ∧ (¬ i < N + mm + 1 → decide ((i : Int) < P + mm + 1) = false) := ⟨fun h => decide_eq_true (by omega), fun h => decide_eq_false (by omega)⟩
theorem dJ {j J : Nat} {es : Int} (hJ : 4 * es + 8 = (J : Int)) : (j < J → decide ((j : Int) < 4 * es + 8) = true) ∧ (¬ j < J → decide ((j : Int) < 4 * es + 8) = false) := ⟨fun h => decide_eq_true (by omega), fun h => decide_eq_false (by omega)⟩
theorem now_lt {a b : Int} {i : Nat} (h : a = b + i) (hb : 0 ≤ b ∧ b ≤ 3000) (hi : i < 100) : a < 1099511627776 := by omega
theorem dk20 {k : Nat} (h : k < 20) : decide ((k : Int) < 20) = true := decide_eq_true (by omega)
theorem dk100 {k : Nat} (h : k < 100) : decide ((k : Int) < 100) = true := decide_eq_true (by omega)
theorem dn20 {k : Nat} (h : ¬ k < 20) : decide ((k : Int) < 20) = false := decide_eq_false (by omega)
theorem dn100 {k : Nat} (h : ¬ k < 100) : decide ((k : Int) < 100) = false := decide_eq_false (by omega)
theorem ub1 {b k Q : Nat} (h : k ≤ Q) : b + k ≤ b + Q := by omega
theorem ub2 {b k : Nat} : b + k + 1 ≤ b + (k + 1) := by omega
theorem sub0 {k Q : Nat} (h : ¬ k < Q) : Q - k = 0 := by omega
theorem okm5 {i k : Nat} (h : i < 60) (hk : k < 20) : 21 * i + 1 + k < 50000 := by omega
theorem okm4 {i j k : Nat} (h : i ≤ 60) (hj : j < 40) (hk : k < 100) : 21 * i + 101 * j + 1 + k < 50000 := by omega
theorem okq5 {i : Nat} (h : i < 60) : 21 * i < 50000 ∧ 21 * i + 0 < 40000 := by omega
theorem okq4 {i j : Nat} (h : i ≤ 60) (hj : j < 40) : 21 * i + 101 * j < 50000 ∧ 21 * i + 101 * j + 0 < 40000 := by omega
theorem up5 {i : Nat} : 21 * i + 1 + 20 ≤ 21 * (i + 1) := by omega
theorem up4 {i j : Nat} : 21 * i + 101 * j + 1 + 100 ≤ 21 * i + 101 * (j + 1) := by omega
theorem in60' {N mm : Nat} (h2 : mm < 20) (h3 : N ≤ 30) : N + mm + 1 ≤ 60 := by omega
theorem now_in {a b : Int} {i : Nat} (h : a = b + i) (hb : 0 ≤ b ∧ b ≤ 1000) (hi : i ≤ 60) : 0 ≤ a ∧ a ≤ 2000 := by omega
theorem exJ {es : Int} (h : 1 ≤ es ∧ es ≤ 6) : ∃ J : Nat, 4 * es + 8 = (J : Int) ∧ 3 ≤ J ∧ J ≤ 40 := ⟨(4 * es + 8).toNat, by omega, by omega, by omega⟩
theorem dl0 {l : Nat} (h : ¬ l = 0) : decide (0 < l) = true := decide_eq_true (by omega)
theorem cc_le {c N : Nat} {P : Int} (h : c ≤ N) (hN : (N : Int) = P) : decide (P < (c : Int)) = false := decide_eq_false (by omega)
theorem cg_lt {c : Nat} (h : 0 < c) : decide ((0 : Int) < (c : Int)) = true := decide_eq_true (by omega)
theorem fls_le {ev sl kk : Int} {q : Nat} {S : St} : ∀ n : Nat, Sk.fls ev sl kk q S n ≤ n
  | 0 => Nat.le_refl _
  | n + 1 => by
    have := fls_le (ev := ev) (sl := sl) (kk := kk) (q := q) (S := S) n
    show Sk.fls ev sl kk q S n + (if _ then 1 else 0) ≤ n + 1
    split <;> omega
theorem rd_ok {ee es : Int} {q : Nat} {S : St} {m : Nat} (h : OkQ m (Sk.D ee es) S) (hm : m + q < 40000) (hn : S.now < 1099511627776) : OkQ (m + 1) (Sk.D ee es) (Nw.tick (Sk.D ee es) S 1000) := (sdo3 hn).2 ▸ h.do (by omega) 3 1000 0 0
set_option maxRecDepth 100000 in
set_option maxHeartbeats 16000000 in
theorem Slack_walk (ev sl mo : Int) (hev : 0 ≤ ev ∧ ev ≤ 255) (hsl : 0 ≤ sl ∧ sl ≤ 255) (hmo : 0 ≤ mo ∧ mo ≤ 255) (w : World) : Calls Try.prog 3 #[.int .u8 ev, .int .u8 sl, .int .u8 mo] w fun e w' => e = .returned (.bool true) ∧ Below w.heap.size w w' := by
  have PD := Lib.hid (bs_deal ev sl 255 hev hsl (by decide) w)
  obtain ⟨ee, hee⟩ : ∃ ee, ee = 1 + ev % 5 := ⟨_, rfl⟩
  obtain ⟨es, hes⟩ : ∃ es, es = 1 + sl % 6 := ⟨_, rfl⟩
  have he1 : 1 ≤ ee ∧ ee ≤ 5 := by omega
  have he2 : 1 ≤ es ∧ es ≤ 6 := by omega
  obtain ⟨N, hN, hN30, hck⟩ := Sk.chk_all he1 he2
  obtain ⟨hE1, hE2, hV, hnow, hnow0, hF, hF2, hF3⟩ := Sk.chk_of hck
  obtain ⟨mm, hmm⟩ : ∃ mm : Nat, mo % 20 = (mm : Int) := ⟨(mo % 20).toNat, by omega⟩
  have hmm20 : mm < 20 := by omega
  obtain ⟨fw, fi⟩ := mo_in hmo
  have m0 : 0 ≤ mo := hmo.1
  obtain ⟨⟨K0, ho0⟩, ⟨K1, ho1⟩, ⟨K2, A2, L2, ho2, hk2, ha2, hl2⟩, hoq⟩ := okS ee es
  have PN0 := Lib.hid (fun (ge : Nat) (A : Option Addr) (c : Nat) (cts : List Ct) (W : World) => new_n (ev := ee) (sl := es) (cr := 255) (ge := ge) (A := A) (c := c) (cts := cts) (w := W) (W := W) (by omega) (by omega) (by decide) (Below.refl _ _))
  rw [← hee, ← hes] at PD
  rw [dl_is] at PN0
  have HO0 := Lib.hid ho0
  have HO1 := Lib.hid ho1
  have HO2 := Lib.hid (And.intro ho2 (And.intro hk2 (And.intro ha2 hl2)))
  have HOQ := Lib.hid hoq
  have HE1 := Lib.hid hE1
  have HE2 := Lib.hid hE2
  have HV := Lib.hid hV
  have HNOW := Lib.hid (And.intro hnow0 hnow)
  have HF := Lib.hid hF
  have HF2 := Lib.hid hF2
  have HF3 := Lib.hid hF3
  have HN30 := Lib.hid hN30
  have HMM20 := Lib.hid hmm20
  have HES := Lib.hid he2
  obtain ⟨P, hP⟩ : ∃ P, P = ee * es := ⟨_, rfl⟩
  have mw : wrap64 (ee * es) = P := by rw [hP, ← hN, ← IntWalk.i64_left]; exact IntWalk.i64_in _ (by omega)
  rw [← hP] at hN
  have mw2 : wrap64 (P + (mm : Int)) = P + mm := by rw [← IntWalk.i64_left]; exact IntWalk.i64_in _ (by omega)
  have mw3 : wrap64 (P + (mm : Int) + 1) = P + mm + 1 := by rw [← IntWalk.i64_left]; exact IntWalk.i64_in _ (by omega)
  have mw4 : wrap64 (4 * es) = 4 * es := by rw [← IntWalk.i64_left]; exact IntWalk.i64_in _ (by omega)
  have mw5 : wrap64 (4 * es + 8) = 4 * es + 8 := by rw [← IntWalk.i64_left]; exact IntWalk.i64_in _ (by omega)
  have HNN := Lib.hid hN
  have HMW := Lib.hid (And.intro mw (And.intro mw2 (And.intro mw3 (And.intro mw4 mw5))))
  have HFW := Lib.hid (And.intro fw (And.intro m0 hmm))
  clear hee hes he1 he2 hev hsl hmo hE1 hE2 hV hnow hnow0 hF hF2 hF3 hN30 hmm20 ho0 ho1 ho2 hk2 ha2 hl2 hoq mw mw2 mw3 mw4 mw5 fw fi m0 hmm hN hck hP
  go_enter Try.func3, Try.ntmps3
  go_upto_region 2 with (go_at_call 4; refine (PD.out).mono ?_; rintro e w2 ⟨ge, A, cp, cts, rfl, h1, h2, h3, h4, h5, h6, h7⟩; have HD := Lib.hid (And.intro h1 (And.intro h2 (And.intro h3 (And.intro h4 (And.intro h5 (And.intro h6 h7)))))); clear h1 h2 h3 h4 h5 h6 h7)
  have al := (Below.refl w2.heap.size w2).alloc (Nat.le_refl _) (.cells #[.int .i64 100, .slice (some ⟨ge, 0, none⟩) 2 2, .int .i64 10, .slice A 2 cp, .int .i64 255, .int .i64 ee, .int .i64 es, .int .i64 1000000, .int .i64 1000000] 27)
  have HX := Lib.hid (Blk.new' w2 #[.int .i64 100, .slice (some ⟨ge, 0, none⟩) 2 2, .int .i64 10, .slice A 2 cp, .int .i64 255, .int .i64 ee, .int .i64 es, .int .i64 1000000, .int .i64 1000000] 27)
  have PN := Lib.hid (PN0.out ge A cp cts (w2.alloc (.cells #[.int .i64 100, .slice (some ⟨ge, 0, none⟩) 2 2, .int .i64 10, .slice A 2 cp, .int .i64 255, .int .i64 ee, .int .i64 es, .int .i64 1000000, .int .i64 1000000] 27)) (HD.out.1.below al) (HD.out.2.1.below al) HD.out.2.2.1 HD.out.2.2.2.1 HD.out.2.2.2.2.1 HD.out.2.2.2.2.2.1)
  have HW3 := Lib.hid (HD.out.2.2.2.2.2.2.trans (al.mono HD.out.2.2.2.2.2.2.size))
  have HGD := Lib.hid (HD.out.2.2.2.2.2.2.size)
  generalize w2.alloc (.cells #[.int .i64 100, .slice (some ⟨ge, 0, none⟩) 2 2, .int .i64 10, .slice A 2 cp, .int .i64 255, .int .i64 ee, .int .i64 es, .int .i64 1000000, .int .i64 1000000] 27) = w3 at HX PN HW3 ⊢
  generalize w2.heap.size = gd at HX HGD ⊢
  have x0 := HX.out.cell 0 rfl
  have x1 := HX.out.cell 1 rfl
  have x2 := HX.out.cell 2 rfl
  have x3 := HX.out.cell 3 rfl
  have x4 := HX.out.cell 4 rfl
  have x5 := HX.out.cell 5 rfl
  have x6 := HX.out.cell 6 rfl
  have x7 := HX.out.cell 7 rfl
  have x8 := HX.out.cell 8 rfl
  have xl := HX.out.lt
  clear al
  go_upto_region 3 with (go_at_call 5; refine (PN.out).mono ?_; rintro e w4 ⟨n, rfl, hn⟩; have HN0 := Lib.hid hn; clear hn)
  clear x0 x1 x2 x3 x4 x5 x6 x7 x8 xl PN PN0 PD
  have HS := Lib.hid (show SlS w w4 gd n [.int .i64 100, .slice (some ⟨ge, 0, none⟩) 2 2, .int .i64 10, .slice A 2 cp, .int .i64 255, .int .i64 ee, .int .i64 es, .int .i64 1000000, .int .i64 1000000] (Sk.D ee es) st0 from ⟨HN0.out.beh HW3.out (fun k hk => by rw [hk]; exact HX.out.lt), HX.out.below HN0.out.bel HX.out.lt, HGD.out⟩)
  clear HN0 HX HW3 HGD HD
  have PA := Lib.hid (HS.out.do HO0.out 8 500000 0 5000)
  rw [HE1.out] at PA
  have PB := Lib.hid (fun V (hV : SlS w V gd n [.int .i64 100, .slice (some ⟨ge, 0, none⟩) 2 2, .int .i64 10, .slice A 2 cp, .int .i64 255, .int .i64 ee, .int .i64 es, .int .i64 1000000, .int .i64 1000000] (Sk.D ee es) (Sk.Sa ee es)) => hV.do HO1.out 1 0 0 0)
  rw [HE2.out] at PB
  go_wp2_with fail
  go_at_call 6
  refine (PA.out).mono ?_
  rintro e w5 ⟨rfl, hs⟩
  have HS5 := Lib.hid (show SlS w w5 gd n [.int .i64 100, .slice (some ⟨ge, 0, none⟩) 2 2, .int .i64 10, .slice A 2 cp, .int .i64 255, .int .i64 ee, .int .i64 es, .int .i64 1000000, .int .i64 1000000] (Sk.D ee es) (Sk.Sa ee es) from hs)
  clear hs
  go_upto_region 5 with (go_at_call 6; refine (PB.out _ HS5.out).mono ?_; rintro e w6 ⟨rfl, hs⟩; have HS6 := Lib.hid (show SlS w w6 gd n [.int .i64 100, .slice (some ⟨ge, 0, none⟩) 2 2, .int .i64 10, .slice A 2 cp, .int .i64 255, .int .i64 ee, .int .i64 es, .int .i64 1000000, .int .i64 1000000] (Sk.D ee es) (Sk.Sb ee es) from hs); clear hs)
  have HS7P := Lib.hid (fun V (hV : SlS w V gd n [.int .i64 100, .slice (some ⟨ge, 0, none⟩) 2 2, .int .i64 10, .slice A 2 cp, .int .i64 255, .int .i64 ee, .int .i64 es, .int .i64 1000000, .int .i64 1000000] (Sk.D ee es) (Sk.Sb ee es)) => hV.settle HO2.out.1 HO2.out.2.1 HO2.out.2.2.1 HO2.out.2.2.2)
  go_upto_region 6 with (go_at_call 7; refine (HS7P.out _ HS6.out).mono ?_; rintro e w7 ⟨⟨v7, rfl⟩, hs⟩; have HS7 := Lib.hid (show SlS w w7 gd n [.int .i64 100, .slice (some ⟨ge, 0, none⟩) 2 2, .int .i64 10, .slice A 2 cp, .int .i64 255, .int .i64 ee, .int .i64 es, .int .i64 1000000, .int .i64 1000000] (Sk.D ee es) (Sk.S0 ee es) from hs); clear hs)
  have PP := Lib.hid (phase_x HS7.out.net 0)
  rw [show Nw.phase (Sk.S0 ee es) 0 = (Sk.S0 ee es).vph from rfl, HV.out] at PP
  go_upto_region 8 with (go_at_call 8; refine (PP.out).mono ?_; rintro e w8 ⟨rfl, rfl⟩)
  clear PP HS7P PA PB
  obtain ⟨S0', hS0⟩ : ∃ S0', S0' = Sk.S0 ee es := ⟨_, rfl⟩
  rw [← hS0] at HS7 HOQ HNOW HF HF2 HF3
  clear hS0
  go_wp2_with fail
  go_loopw [10, 11] (fun v10 v11 wr => ∃ i : Nat, i ≤ N + mm + 1 ∧ v10 = .int .i64 (Sk.fls ee es 5 20 S0' i : Nat) ∧ v11 = .int .i64 i ∧ Hid (SlS w wr gd n [.int .i64 100, .slice (some ⟨ge, 0, none⟩) 2 2, .int .i64 10, .slice A 2 cp, .int .i64 255, .int .i64 ee, .int .i64 es, .int .i64 1000000, .int .i64 1000000] (Sk.D ee es) (Sk.rds ee es 5 20 S0' i) ∧ OkQ (21 * i) (Sk.D ee es) (Sk.rds ee es 5 20 S0' i))) (fun _ v11 _ => N + mm + 1 - (intOf v11).toNat)
  case atStart => exact ⟨0, Nat.zero_le _, rfl, rfl, Lib.hid ⟨HS7.out, HOQ.out⟩⟩
  case round =>
    obtain ⟨i, hi, rfl, rfl, HZ⟩ := hrel
    have HR := Lib.hid HZ.out.1
    have HQ := Lib.hid HZ.out.2
    clear HZ
    have y5 := HR.out.blk.cell 5 rfl
    have y6 := HR.out.blk.cell 6 rfl
    have yl := HR.out.blk.lt
    by_cases hlt : i < N + mm + 1
    · have HI := Lib.hid (And.intro hlt (in60 hlt HMM20.out HN30.out))
      have hF2 := HF2.out
      have hc30 := hF2 i (le20 hlt HMM20.out).1
      clear hF2
      obtain ⟨cc, hcc⟩ : ∃ cc, cc = Sk.fls ee es 5 20 S0' i := ⟨_, rfl⟩
      rw [← hcc] at hc30 ⊢
      have hcw := iw60 (i := cc) (Nat.lt_of_le_of_lt hc30 (Nat.lt_of_le_of_lt HN30.out (by decide)))
      have hiw := iw60 (i := i) (Nat.lt_of_lt_of_le HI.out.2 (by decide))
      have HCC := Lib.hid hcc
      have HF1 := Lib.hid (HF.out i (le20 hlt HMM20.out).2)
      have hd := (dP (mm := mm) HNN.out).1 hlt
      obtain ⟨fw, m0, hmm⟩ := HFW.out
      obtain ⟨mw, mw2, mw3, mw4, mw5⟩ := HMW.out
      clear hc30 hcc hi
      clear hlt
      go_upto_region 12 with fail
      clear y5 y6 yl hd fw m0 hmm mw mw2 mw3 mw4 mw5
      obtain ⟨Si, hSi⟩ : ∃ Si, Si = Sk.rds ee es 5 20 S0' i := ⟨_, rfl⟩
      have hnow : Si.now < 1099511627776 := by
        rw [hSi]
        exact now_lt (Sk.rds_now (ev := ee) (sl := es) (kk := 5) (.inr rfl) 20 (S := S0') ⟨HNOW.out.1, Int.le_trans HNOW.out.2 (by decide)⟩ i (Nat.le_trans (Nat.le_of_lt HI.out.2) (by decide))) ⟨HNOW.out.1, Int.le_trans HNOW.out.2 (by decide)⟩ (Nat.lt_of_lt_of_le HI.out.2 (by decide))
      rw [← hSi] at HR HQ HF1
      obtain ⟨U, hU⟩ : ∃ U, U = Nw.tick (Sk.D ee es) Si 1000 := ⟨_, rfl⟩
      have HRD := Lib.hid (show Sk.drK (Sk.D ee es) 5 20 U = Sk.rds ee es 5 20 S0' (i + 1) by rw [hU, hSi]; rfl)
      have HUE := Lib.hid (show U = Nw.tick (Sk.D ee es) (Sk.rds ee es 5 20 S0' i) 1000 by rw [hU, hSi])
      obtain ⟨KT, hKT⟩ := HQ.out.a (okq5 HI.out.2).1
      have PT := Lib.hid (HR.out.do hKT 3 1000 0 0)
      rw [(sdo3 hnow).1, (sdo3 hnow).2, ← hU] at PT
      have HQU := Lib.hid (show OkQ (21 * i + 1) (Sk.D ee es) U from hU ▸ rd_ok (q := 0) (ee := ee) (es := es) HQ.out (okq5 HI.out.2).2 hnow)
      rw [← hU] at HF1
      clear hSi hnow hU hKT HR HQ
      go_upto_region 14 with (go_at_call 6; refine (PT.out).mono ?_; rintro e w6 ⟨rfl, hs⟩; have HU := Lib.hid (show SlS w w6 gd n [.int .i64 100, .slice (some ⟨ge, 0, none⟩) 2 2, .int .i64 10, .slice A 2 cp, .int .i64 255, .int .i64 ee, .int .i64 es, .int .i64 1000000, .int .i64 1000000] (Sk.D ee es) U from hs); clear hs)
      clear PT
      rcases HF1.out with hfl | hfl
      · have HFL := Lib.hid (show U.flow = 1000 from hfl)
        have PF := Lib.hid (flowing_x HU.out.net)
        rw [HFL.out] at PF
        clear hfl
        go_upto_region 18 with (go_at_call 9; refine (PF.out).mono ?_; rintro e w7 ⟨rfl, rfl⟩)
        try simp only [hcw]
        go_wp2_with fail
        go_loopw [12] (fun v wx => ∃ k : Nat, k ≤ 20 ∧ v = .int .i64 k ∧ Hid (∃ Sk', SlS w wx gd n [.int .i64 100, .slice (some ⟨ge, 0, none⟩) 2 2, .int .i64 10, .slice A 2 cp, .int .i64 255, .int .i64 ee, .int .i64 es, .int .i64 1000000, .int .i64 1000000] (Sk.D ee es) Sk' ∧ OkQ ((21 * i + 1) + k) (Sk.D ee es) Sk' ∧ Sk.drK (Sk.D ee es) 5 (20 - k) Sk' = Sk.drK (Sk.D ee es) 5 20 U)) (fun v _ => 20 - (intOf v).toNat)
        case atStart => exact ⟨0, Nat.zero_le _, rfl, Lib.hid ⟨U, HU.out, HQU.out, rfl⟩⟩
        case round =>
          obtain ⟨k, hk, rfl, HZ⟩ := hrel
          obtain ⟨Sk', hz1, hz2, hz3⟩ := HZ.out
          have HN := Lib.hid hz1
          have HO := Lib.hid hz2
          have HE := Lib.hid hz3
          clear HZ hz1 hz2 hz3
          by_cases hlt : k < 20
          · have HLTK := Lib.hid hlt
            have hkk := dk20 hlt
            have hkw := iw60 (i := k) (Nat.lt_trans hlt (by decide))
            have PY := Lib.hid (flying_x HN.out.net (Nat.le_trans HO.out.fl (by decide)))
            obtain ⟨l, hl⟩ : ∃ l, l = Sk'.fl.length := ⟨_, rfl⟩
            rw [← hl] at PY
            have HL := Lib.hid hl
            have HL2 := Lib.hid (show l ≤ 200 from hl ▸ HO.out.fl)
            clear hl hlt
            by_cases h0 : l = 0
            · subst h0
              go_upto_region 11 with (go_at_call 10; refine (PY.out).mono ?_; rintro e w8 ⟨A', cap', rfl, hb⟩; have HB8 := Lib.hid hb; clear hb)
              have HN9 := Lib.hid (HN.out.below HB8.out)
              have he := drK_end (D := Sk.D ee es) (kk := 5) (i := 20 - k) HL.out.symm
              rw [HE.out] at he
              rw [← he] at HN9
              have HQ9 := Lib.hid (show OkQ ((21 * i + 1) + 20) (Sk.D ee es) (Sk.drK (Sk.D ee es) 5 20 U) by rw [he]; exact HO.out.up (ub1 (Nat.le_of_lt HLTK.out)))
              clear he hkk hkw PY HN HO HE
              go_wp2_with fail
              try simp only [hiw]
              refine ⟨⟨i + 1, Nat.succ_le_of_lt HI.out.1, ?_, by simp, Lib.hid ⟨?_, ?_⟩⟩, lt_step HI.out.1⟩
              · have e : Sk.fls ee es 5 20 S0' (i + 1) = Sk.fls ee es 5 20 S0' i + 1 := by
                  show Sk.fls ee es 5 20 S0' i + (if (Nw.tick (Sk.D ee es) (Sk.rds ee es 5 20 S0' i) 1000).flow = 1000 then 1 else 0) = _
                  rw [← HUE.out, HFL.out, if_pos rfl]
                rw [e, ← HCC.out]
                simp
              · exact HRD.out ▸ HN9.out
              · exact HRD.out ▸ (HQ9.out.up up5)
            · have hl0 := dl0 h0
              have HL0 := Lib.hid (show Sk'.fl.length ≠ 0 from HL.out ▸ h0)
              clear h0
              go_upto_region 21 with (go_at_call 10; refine (PY.out).mono ?_; rintro e w8 ⟨A', cap', rfl, hb⟩; have HB8 := Lib.hid hb; clear hb)
              have HN2 := Lib.hid (HN.out.below HB8.out)
              clear PY hl0 HN
              obtain ⟨K2, hK2⟩ := HO.out.a (okm5 HI.out.2 HLTK.out)
              have PD2 := Lib.hid (HN2.out.do hK2 5 0 0 0)
              clear hK2
              go_wp2_with (go_at_call 6; refine (PD2.out).mono ?_; rintro e w7 ⟨rfl, hr⟩; have HN3 := Lib.hid hr; clear hr)
              exact ⟨⟨k + 1, Nat.succ_le_of_lt HLTK.out, by simp, Lib.hid ⟨_, HN3.out, (HO.out.do (okm5 HI.out.2 HLTK.out) 5 0 0 0).up ub2, by rw [← HE.out, drK_go HLTK.out HL0.out]⟩⟩, lt_step HLTK.out⟩
          · have hkk := dn20 hlt
            have he : Sk.drK (Sk.D ee es) 5 20 U = Sk' := by rw [← HE.out, sub0 hlt]; rfl
            have HN9 := Lib.hid HN.out
            rw [← he] at HN9
            have HQ9 := Lib.hid (show OkQ ((21 * i + 1) + 20) (Sk.D ee es) (Sk.drK (Sk.D ee es) 5 20 U) by rw [he]; exact HO.out.up (ub1 hk))
            clear he hlt hk HN HO HE
            go_upto_region 11 with fail
            go_wp2_with fail
            try simp only [hiw]
            refine ⟨⟨i + 1, Nat.succ_le_of_lt HI.out.1, ?_, by simp, Lib.hid ⟨?_, ?_⟩⟩, lt_step HI.out.1⟩
            · have e : Sk.fls ee es 5 20 S0' (i + 1) = Sk.fls ee es 5 20 S0' i + 1 := by
                show Sk.fls ee es 5 20 S0' i + (if (Nw.tick (Sk.D ee es) (Sk.rds ee es 5 20 S0' i) 1000).flow = 1000 then 1 else 0) = _
                rw [← HUE.out, HFL.out, if_pos rfl]
              rw [e, ← HCC.out]
              simp
            · exact HRD.out ▸ HN9.out
            · exact HRD.out ▸ (HQ9.out.up up5)
      · have HFL := Lib.hid (show U.flow = 0 from hfl)
        have PF := Lib.hid (flowing_x HU.out.net)
        rw [HFL.out] at PF
        clear hfl
        go_upto_region 18 with (go_at_call 9; refine (PF.out).mono ?_; rintro e w7 ⟨rfl, rfl⟩)
        try simp only [hcw]
        go_wp2_with fail
        go_loopw [12] (fun v wx => ∃ k : Nat, k ≤ 20 ∧ v = .int .i64 k ∧ Hid (∃ Sk', SlS w wx gd n [.int .i64 100, .slice (some ⟨ge, 0, none⟩) 2 2, .int .i64 10, .slice A 2 cp, .int .i64 255, .int .i64 ee, .int .i64 es, .int .i64 1000000, .int .i64 1000000] (Sk.D ee es) Sk' ∧ OkQ ((21 * i + 1) + k) (Sk.D ee es) Sk' ∧ Sk.drK (Sk.D ee es) 5 (20 - k) Sk' = Sk.drK (Sk.D ee es) 5 20 U)) (fun v _ => 20 - (intOf v).toNat)
        case atStart => exact ⟨0, Nat.zero_le _, rfl, Lib.hid ⟨U, HU.out, HQU.out, rfl⟩⟩
        case round =>
          obtain ⟨k, hk, rfl, HZ⟩ := hrel
          obtain ⟨Sk', hz1, hz2, hz3⟩ := HZ.out
          have HN := Lib.hid hz1
          have HO := Lib.hid hz2
          have HE := Lib.hid hz3
          clear HZ hz1 hz2 hz3
          by_cases hlt : k < 20
          · have HLTK := Lib.hid hlt
            have hkk := dk20 hlt
            have hkw := iw60 (i := k) (Nat.lt_trans hlt (by decide))
            have PY := Lib.hid (flying_x HN.out.net (Nat.le_trans HO.out.fl (by decide)))
            obtain ⟨l, hl⟩ : ∃ l, l = Sk'.fl.length := ⟨_, rfl⟩
            rw [← hl] at PY
            have HL := Lib.hid hl
            have HL2 := Lib.hid (show l ≤ 200 from hl ▸ HO.out.fl)
            clear hl hlt
            by_cases h0 : l = 0
            · subst h0
              go_upto_region 11 with (go_at_call 10; refine (PY.out).mono ?_; rintro e w8 ⟨A', cap', rfl, hb⟩; have HB8 := Lib.hid hb; clear hb)
              have HN9 := Lib.hid (HN.out.below HB8.out)
              have he := drK_end (D := Sk.D ee es) (kk := 5) (i := 20 - k) HL.out.symm
              rw [HE.out] at he
              rw [← he] at HN9
              have HQ9 := Lib.hid (show OkQ ((21 * i + 1) + 20) (Sk.D ee es) (Sk.drK (Sk.D ee es) 5 20 U) by rw [he]; exact HO.out.up (ub1 (Nat.le_of_lt HLTK.out)))
              clear he hkk hkw PY HN HO HE
              go_wp2_with fail
              try simp only [hiw]
              refine ⟨⟨i + 1, Nat.succ_le_of_lt HI.out.1, ?_, by simp, Lib.hid ⟨?_, ?_⟩⟩, lt_step HI.out.1⟩
              · have e : Sk.fls ee es 5 20 S0' (i + 1) = Sk.fls ee es 5 20 S0' i + 0 := by
                  show Sk.fls ee es 5 20 S0' i + (if (Nw.tick (Sk.D ee es) (Sk.rds ee es 5 20 S0' i) 1000).flow = 1000 then 1 else 0) = _
                  rw [← HUE.out, HFL.out, if_neg (by decide)]
                rw [e, ← HCC.out]
                simp
              · exact HRD.out ▸ HN9.out
              · exact HRD.out ▸ (HQ9.out.up up5)
            · have hl0 := dl0 h0
              have HL0 := Lib.hid (show Sk'.fl.length ≠ 0 from HL.out ▸ h0)
              clear h0
              go_upto_region 21 with (go_at_call 10; refine (PY.out).mono ?_; rintro e w8 ⟨A', cap', rfl, hb⟩; have HB8 := Lib.hid hb; clear hb)
              have HN2 := Lib.hid (HN.out.below HB8.out)
              clear PY hl0 HN
              obtain ⟨K2, hK2⟩ := HO.out.a (okm5 HI.out.2 HLTK.out)
              have PD2 := Lib.hid (HN2.out.do hK2 5 0 0 0)
              clear hK2
              go_wp2_with (go_at_call 6; refine (PD2.out).mono ?_; rintro e w7 ⟨rfl, hr⟩; have HN3 := Lib.hid hr; clear hr)
              exact ⟨⟨k + 1, Nat.succ_le_of_lt HLTK.out, by simp, Lib.hid ⟨_, HN3.out, (HO.out.do (okm5 HI.out.2 HLTK.out) 5 0 0 0).up ub2, by rw [← HE.out, drK_go HLTK.out HL0.out]⟩⟩, lt_step HLTK.out⟩
          · have hkk := dn20 hlt
            have he : Sk.drK (Sk.D ee es) 5 20 U = Sk' := by rw [← HE.out, sub0 hlt]; rfl
            have HN9 := Lib.hid HN.out
            rw [← he] at HN9
            have HQ9 := Lib.hid (show OkQ ((21 * i + 1) + 20) (Sk.D ee es) (Sk.drK (Sk.D ee es) 5 20 U) by rw [he]; exact HO.out.up (ub1 hk))
            clear he hlt hk HN HO HE
            go_upto_region 11 with fail
            go_wp2_with fail
            try simp only [hiw]
            refine ⟨⟨i + 1, Nat.succ_le_of_lt HI.out.1, ?_, by simp, Lib.hid ⟨?_, ?_⟩⟩, lt_step HI.out.1⟩
            · have e : Sk.fls ee es 5 20 S0' (i + 1) = Sk.fls ee es 5 20 S0' i + 0 := by
                show Sk.fls ee es 5 20 S0' i + (if (Nw.tick (Sk.D ee es) (Sk.rds ee es 5 20 S0' i) 1000).flow = 1000 then 1 else 0) = _
                rw [← HUE.out, HFL.out, if_neg (by decide)]
              rw [e, ← HCC.out]
              simp
            · exact HRD.out ▸ HN9.out
            · exact HRD.out ▸ (HQ9.out.up up5)
    · have hiN : i = N + mm + 1 := Nat.le_antisymm hi (Nat.le_of_not_lt hlt)
      have hd := (dP (mm := mm) HNN.out).2 hlt
      have HC := Lib.hid (HF2.out i (by rw [hiN]; exact Nat.add_le_add_left (Nat.succ_le_of_lt HMM20.out) N))
      have HG := Lib.hid (HF3.out mm HMM20.out)
      rw [← hiN] at HG
      have HC2 := Lib.hid (cc_le HC.out HNN.out)
      have HI1 := Lib.hid (show i ≤ 60 from by rw [hiN]; exact in60' HMM20.out HN30.out)
      have hsn := Sk.rds_now (ev := ee) (sl := es) (kk := 5) (.inr rfl) 20 (S := S0') ⟨HNOW.out.1, Int.le_trans HNOW.out.2 (by decide)⟩ i (Nat.le_trans HI1.out (by decide))
      obtain ⟨T, hT⟩ : ∃ T, T = Sk.rds ee es 5 20 S0' i := ⟨_, rfl⟩
      rw [← hT] at HR HQ HG hsn
      have HTN := Lib.hid (now_in hsn HNOW.out HI1.out)
      obtain ⟨J, hJ⟩ := exJ HES.out
      have HJ := Lib.hid hJ.2
      have HJE := Lib.hid hJ.1
      generalize Sk.fls ee es 5 20 S0' i = cc at HC2 HC ⊢
      have hc2 := HC2.out
      obtain ⟨fw, m0, hmm⟩ := HFW.out
      obtain ⟨mw, mw2, mw3, mw4, mw5⟩ := HMW.out
      clear hiN hlt hi hsn hT hJ
      go_upto_region 24 with fail
      clear y5 y6 yl hd hc2 fw m0 hmm mw mw2 mw3 mw4 mw5
      go_wp2_with fail
      go_loopw [13, 14] (fun v13 v14 wy => ∃ j : Nat, j ≤ J ∧ v13 = .int .i64 (Sk.fls ee es 4 100 T j : Nat) ∧ v14 = .int .i64 j ∧ Hid (SlS w wy gd n [.int .i64 100, .slice (some ⟨ge, 0, none⟩) 2 2, .int .i64 10, .slice A 2 cp, .int .i64 255, .int .i64 ee, .int .i64 es, .int .i64 1000000, .int .i64 1000000] (Sk.D ee es) (Sk.rds ee es 4 100 T j) ∧ OkQ (21 * i + 101 * j) (Sk.D ee es) (Sk.rds ee es 4 100 T j))) (fun _ v14 _ => J - (intOf v14).toNat)
      case atStart => exact ⟨0, Nat.zero_le _, rfl, rfl, Lib.hid ⟨HR.out, HQ.out⟩⟩
      case round =>
        obtain ⟨j, hj, rfl, rfl, HZ⟩ := hrel
        have HR2 := Lib.hid HZ.out.1
        have HQ2 := Lib.hid HZ.out.2
        clear HZ
        have y6 := HR2.out.blk.cell 6 rfl
        have yl := HR2.out.blk.lt
        by_cases hlt : j < J
        · have hd := (dJ HJE.out).1 hlt
          have HI := Lib.hid (show j < J ∧ j < 40 ∧ i ≤ 60 from ⟨hlt, Nat.lt_of_lt_of_le hlt HJ.out.2, HI1.out⟩)
          have hiw := iw60 (i := j) (Nat.lt_trans HI.out.2.1 (by decide))
          have hcj := fls_le (ev := ee) (sl := es) (kk := 4) (q := 100) (S := T) j
          obtain ⟨cj, hcc⟩ : ∃ cj, cj = Sk.fls ee es 4 100 T j := ⟨_, rfl⟩
          rw [← hcc] at hcj ⊢
          have hcw := iw60 (i := cj) (Nat.lt_of_le_of_lt hcj (Nat.lt_trans HI.out.2.1 (by decide)))
          have HCC := Lib.hid hcc
          obtain ⟨mw, mw2, mw3, mw4, mw5⟩ := HMW.out
          clear hcj hcc hlt hj
          go_upto_region 28 with fail
          clear y6 yl hd mw mw2 mw3 mw4 mw5
          obtain ⟨Si, hSi⟩ : ∃ Si, Si = Sk.rds ee es 4 100 T j := ⟨_, rfl⟩
          have hnow : Si.now < 1099511627776 := by
            rw [hSi]
            exact now_lt (Sk.rds_now (ev := ee) (sl := es) (kk := 4) (.inl rfl) 100 (S := T) ⟨HTN.out.1, Int.le_trans HTN.out.2 (by decide)⟩ j (Nat.le_trans (Nat.le_of_lt HI.out.2.1) (by decide))) ⟨HTN.out.1, Int.le_trans HTN.out.2 (by decide)⟩ (Nat.lt_trans HI.out.2.1 (by decide))
          rw [← hSi] at HR2 HQ2
          obtain ⟨U, hU⟩ : ∃ U, U = Nw.tick (Sk.D ee es) Si 1000 := ⟨_, rfl⟩
          have HRD := Lib.hid (show Sk.drK (Sk.D ee es) 4 100 U = Sk.rds ee es 4 100 T (j + 1) by rw [hU, hSi]; rfl)
          have HUE := Lib.hid (show U = Nw.tick (Sk.D ee es) (Sk.rds ee es 4 100 T j) 1000 by rw [hU, hSi])
          obtain ⟨KT, hKT⟩ := HQ2.out.a (okq4 HI.out.2.2 HI.out.2.1).1
          have PT := Lib.hid (HR2.out.do hKT 3 1000 0 0)
          rw [(sdo3 hnow).1, (sdo3 hnow).2, ← hU] at PT
          have HQU := Lib.hid (show OkQ (21 * i + 101 * j + 1) (Sk.D ee es) U from hU ▸ rd_ok (q := 0) (ee := ee) (es := es) HQ2.out (okq4 HI.out.2.2 HI.out.2.1).2 hnow)
          clear hSi hnow hU hKT HR2 HQ2
          go_upto_region 30 with (go_at_call 6; refine (PT.out).mono ?_; rintro e w6 ⟨rfl, hs⟩; have HU := Lib.hid (show SlS w w6 gd n [.int .i64 100, .slice (some ⟨ge, 0, none⟩) 2 2, .int .i64 10, .slice A 2 cp, .int .i64 255, .int .i64 ee, .int .i64 es, .int .i64 1000000, .int .i64 1000000] (Sk.D ee es) U from hs); clear hs)
          clear PT
          by_cases hfl : U.flow = 1000
          · have HFL := Lib.hid hfl
            have PF := Lib.hid (flowing_x HU.out.net)
            rw [hfl] at PF
            clear hfl
            go_upto_region 32 with (go_at_call 9; refine (PF.out).mono ?_; rintro e w7 ⟨rfl, rfl⟩)
            try simp only [hcw]
            go_wp2_with fail
            go_loopw [15] (fun v wx => ∃ k : Nat, k ≤ 100 ∧ v = .int .i64 k ∧ Hid (∃ Sk', SlS w wx gd n [.int .i64 100, .slice (some ⟨ge, 0, none⟩) 2 2, .int .i64 10, .slice A 2 cp, .int .i64 255, .int .i64 ee, .int .i64 es, .int .i64 1000000, .int .i64 1000000] (Sk.D ee es) Sk' ∧ OkQ ((21 * i + 101 * j + 1) + k) (Sk.D ee es) Sk' ∧ Sk.drK (Sk.D ee es) 4 (100 - k) Sk' = Sk.drK (Sk.D ee es) 4 100 U)) (fun v _ => 100 - (intOf v).toNat)
            case atStart => exact ⟨0, Nat.zero_le _, rfl, Lib.hid ⟨U, HU.out, HQU.out, rfl⟩⟩
            case round =>
              obtain ⟨k, hk, rfl, HZ⟩ := hrel
              obtain ⟨Sk', hz1, hz2, hz3⟩ := HZ.out
              have HN := Lib.hid hz1
              have HO := Lib.hid hz2
              have HE := Lib.hid hz3
              clear HZ hz1 hz2 hz3
              by_cases hlt : k < 100
              · have HLTK := Lib.hid hlt
                have hkk := dk100 hlt
                have hkw := iw60 (i := k) (Nat.lt_trans hlt (by decide))
                have PY := Lib.hid (flying_x HN.out.net (Nat.le_trans HO.out.fl (by decide)))
                obtain ⟨l, hl⟩ : ∃ l, l = Sk'.fl.length := ⟨_, rfl⟩
                rw [← hl] at PY
                have HL := Lib.hid hl
                have HL2 := Lib.hid (show l ≤ 200 from hl ▸ HO.out.fl)
                clear hl hlt
                by_cases h0 : l = 0
                · subst h0
                  go_upto_region 27 with (go_at_call 10; refine (PY.out).mono ?_; rintro e w8 ⟨A', cap', rfl, hb⟩; have HB8 := Lib.hid hb; clear hb)
                  have HN9 := Lib.hid (HN.out.below HB8.out)
                  have he := drK_end (D := Sk.D ee es) (kk := 4) (i := 100 - k) HL.out.symm
                  rw [HE.out] at he
                  rw [← he] at HN9
                  have HQ9 := Lib.hid (show OkQ ((21 * i + 101 * j + 1) + 100) (Sk.D ee es) (Sk.drK (Sk.D ee es) 4 100 U) by rw [he]; exact HO.out.up (ub1 (Nat.le_of_lt HLTK.out)))
                  clear he hkk hkw PY HN HO HE
                  go_wp2_with fail
                  try simp only [hiw]
                  refine ⟨⟨j + 1, Nat.succ_le_of_lt HI.out.1, ?_, by simp, Lib.hid ⟨?_, ?_⟩⟩, lt_step HI.out.1⟩
                  · have e : Sk.fls ee es 4 100 T (j + 1) = Sk.fls ee es 4 100 T j + 1 := by
                      show Sk.fls ee es 4 100 T j + (if (Nw.tick (Sk.D ee es) (Sk.rds ee es 4 100 T j) 1000).flow = 1000 then 1 else 0) = _
                      rw [← HUE.out, if_pos HFL.out]
                    rw [e, ← HCC.out]
                    simp
                  · exact HRD.out ▸ HN9.out
                  · exact HRD.out ▸ (HQ9.out.up up4)
                · have hl0 := dl0 h0
                  have HL0 := Lib.hid (show Sk'.fl.length ≠ 0 from HL.out ▸ h0)
                  clear h0
                  go_upto_region 35 with (go_at_call 10; refine (PY.out).mono ?_; rintro e w8 ⟨A', cap', rfl, hb⟩; have HB8 := Lib.hid hb; clear hb)
                  have HN2 := Lib.hid (HN.out.below HB8.out)
                  clear PY hl0 HN
                  obtain ⟨K2, hK2⟩ := HO.out.a (okm4 HI.out.2.2 HI.out.2.1 HLTK.out)
                  have PD2 := Lib.hid (HN2.out.do hK2 4 0 0 0)
                  clear hK2
                  go_wp2_with (go_at_call 6; refine (PD2.out).mono ?_; rintro e w7 ⟨rfl, hr⟩; have HN3 := Lib.hid hr; clear hr)
                  exact ⟨⟨k + 1, Nat.succ_le_of_lt HLTK.out, by simp, Lib.hid ⟨_, HN3.out, (HO.out.do (okm4 HI.out.2.2 HI.out.2.1 HLTK.out) 4 0 0 0).up ub2, by rw [← HE.out, drK_go HLTK.out HL0.out]⟩⟩, lt_step HLTK.out⟩
              · have hkk := dn100 hlt
                have he : Sk.drK (Sk.D ee es) 4 100 U = Sk' := by rw [← HE.out, sub0 hlt]; rfl
                have HN9 := Lib.hid HN.out
                rw [← he] at HN9
                have HQ9 := Lib.hid (show OkQ ((21 * i + 101 * j + 1) + 100) (Sk.D ee es) (Sk.drK (Sk.D ee es) 4 100 U) by rw [he]; exact HO.out.up (ub1 hk))
                clear he hlt hk HN HO HE
                go_upto_region 27 with fail
                go_wp2_with fail
                try simp only [hiw]
                refine ⟨⟨j + 1, Nat.succ_le_of_lt HI.out.1, ?_, by simp, Lib.hid ⟨?_, ?_⟩⟩, lt_step HI.out.1⟩
                · have e : Sk.fls ee es 4 100 T (j + 1) = Sk.fls ee es 4 100 T j + 1 := by
                    show Sk.fls ee es 4 100 T j + (if (Nw.tick (Sk.D ee es) (Sk.rds ee es 4 100 T j) 1000).flow = 1000 then 1 else 0) = _
                    rw [← HUE.out, if_pos HFL.out]
                  rw [e, ← HCC.out]
                  simp
                · exact HRD.out ▸ HN9.out
                · exact HRD.out ▸ (HQ9.out.up up4)
          · have HFL := Lib.hid hfl
            have PF := Lib.hid (flowing_x HU.out.net)
            obtain ⟨fu, hfu⟩ : ∃ fu, fu = U.flow := ⟨_, rfl⟩
            rw [← hfu] at PF
            have hfn : (fu == 1000) = false := by rw [hfu]; simpa using hfl
            clear hfu
            clear hfl
            go_upto_region 32 with (go_at_call 9; refine (PF.out).mono ?_; rintro e w7 ⟨rfl, rfl⟩)
            try simp only [hcw]
            go_wp2_with fail
            go_loopw [15] (fun v wx => ∃ k : Nat, k ≤ 100 ∧ v = .int .i64 k ∧ Hid (∃ Sk', SlS w wx gd n [.int .i64 100, .slice (some ⟨ge, 0, none⟩) 2 2, .int .i64 10, .slice A 2 cp, .int .i64 255, .int .i64 ee, .int .i64 es, .int .i64 1000000, .int .i64 1000000] (Sk.D ee es) Sk' ∧ OkQ ((21 * i + 101 * j + 1) + k) (Sk.D ee es) Sk' ∧ Sk.drK (Sk.D ee es) 4 (100 - k) Sk' = Sk.drK (Sk.D ee es) 4 100 U)) (fun v _ => 100 - (intOf v).toNat)
            case atStart => exact ⟨0, Nat.zero_le _, rfl, Lib.hid ⟨U, HU.out, HQU.out, rfl⟩⟩
            case round =>
              obtain ⟨k, hk, rfl, HZ⟩ := hrel
              obtain ⟨Sk', hz1, hz2, hz3⟩ := HZ.out
              have HN := Lib.hid hz1
              have HO := Lib.hid hz2
              have HE := Lib.hid hz3
              clear HZ hz1 hz2 hz3
              by_cases hlt : k < 100
              · have HLTK := Lib.hid hlt
                have hkk := dk100 hlt
                have hkw := iw60 (i := k) (Nat.lt_trans hlt (by decide))
                have PY := Lib.hid (flying_x HN.out.net (Nat.le_trans HO.out.fl (by decide)))
                obtain ⟨l, hl⟩ : ∃ l, l = Sk'.fl.length := ⟨_, rfl⟩
                rw [← hl] at PY
                have HL := Lib.hid hl
                have HL2 := Lib.hid (show l ≤ 200 from hl ▸ HO.out.fl)
                clear hl hlt
                by_cases h0 : l = 0
                · subst h0
                  go_upto_region 27 with (go_at_call 10; refine (PY.out).mono ?_; rintro e w8 ⟨A', cap', rfl, hb⟩; have HB8 := Lib.hid hb; clear hb)
                  have HN9 := Lib.hid (HN.out.below HB8.out)
                  have he := drK_end (D := Sk.D ee es) (kk := 4) (i := 100 - k) HL.out.symm
                  rw [HE.out] at he
                  rw [← he] at HN9
                  have HQ9 := Lib.hid (show OkQ ((21 * i + 101 * j + 1) + 100) (Sk.D ee es) (Sk.drK (Sk.D ee es) 4 100 U) by rw [he]; exact HO.out.up (ub1 (Nat.le_of_lt HLTK.out)))
                  clear he hkk hkw PY HN HO HE
                  go_wp2_with fail
                  try simp only [hiw]
                  refine ⟨⟨j + 1, Nat.succ_le_of_lt HI.out.1, ?_, by simp, Lib.hid ⟨?_, ?_⟩⟩, lt_step HI.out.1⟩
                  · have e : Sk.fls ee es 4 100 T (j + 1) = Sk.fls ee es 4 100 T j + 0 := by
                      show Sk.fls ee es 4 100 T j + (if (Nw.tick (Sk.D ee es) (Sk.rds ee es 4 100 T j) 1000).flow = 1000 then 1 else 0) = _
                      rw [← HUE.out, if_neg HFL.out]
                    rw [e, ← HCC.out]
                    simp
                  · exact HRD.out ▸ HN9.out
                  · exact HRD.out ▸ (HQ9.out.up up4)
                · have hl0 := dl0 h0
                  have HL0 := Lib.hid (show Sk'.fl.length ≠ 0 from HL.out ▸ h0)
                  clear h0
                  go_upto_region 35 with (go_at_call 10; refine (PY.out).mono ?_; rintro e w8 ⟨A', cap', rfl, hb⟩; have HB8 := Lib.hid hb; clear hb)
                  have HN2 := Lib.hid (HN.out.below HB8.out)
                  clear PY hl0 HN
                  obtain ⟨K2, hK2⟩ := HO.out.a (okm4 HI.out.2.2 HI.out.2.1 HLTK.out)
                  have PD2 := Lib.hid (HN2.out.do hK2 4 0 0 0)
                  clear hK2
                  go_wp2_with (go_at_call 6; refine (PD2.out).mono ?_; rintro e w7 ⟨rfl, hr⟩; have HN3 := Lib.hid hr; clear hr)
                  exact ⟨⟨k + 1, Nat.succ_le_of_lt HLTK.out, by simp, Lib.hid ⟨_, HN3.out, (HO.out.do (okm4 HI.out.2.2 HI.out.2.1 HLTK.out) 4 0 0 0).up ub2, by rw [← HE.out, drK_go HLTK.out HL0.out]⟩⟩, lt_step HLTK.out⟩
              · have hkk := dn100 hlt
                have he : Sk.drK (Sk.D ee es) 4 100 U = Sk' := by rw [← HE.out, sub0 hlt]; rfl
                have HN9 := Lib.hid HN.out
                rw [← he] at HN9
                have HQ9 := Lib.hid (show OkQ ((21 * i + 101 * j + 1) + 100) (Sk.D ee es) (Sk.drK (Sk.D ee es) 4 100 U) by rw [he]; exact HO.out.up (ub1 hk))
                clear he hlt hk HN HO HE
                go_upto_region 27 with fail
                go_wp2_with fail
                try simp only [hiw]
                refine ⟨⟨j + 1, Nat.succ_le_of_lt HI.out.1, ?_, by simp, Lib.hid ⟨?_, ?_⟩⟩, lt_step HI.out.1⟩
                · have e : Sk.fls ee es 4 100 T (j + 1) = Sk.fls ee es 4 100 T j + 0 := by
                    show Sk.fls ee es 4 100 T j + (if (Nw.tick (Sk.D ee es) (Sk.rds ee es 4 100 T j) 1000).flow = 1000 then 1 else 0) = _
                    rw [← HUE.out, if_neg HFL.out]
                  rw [e, ← HCC.out]
                  simp
                · exact HRD.out ▸ HN9.out
                · exact HRD.out ▸ (HQ9.out.up up4)
        · have hd := (dJ HJE.out).2 hlt
          have hg0 : 0 < Sk.fls ee es 4 100 T j := HG.out j (Nat.le_trans HJ.out.1 (Nat.le_of_not_lt hlt))
          have hg := cg_lt hg0
          have hg2 : decide (0 < Sk.fls ee es 4 100 T j) = true := decide_eq_true hg0
          obtain ⟨mw, mw2, mw3, mw4, mw5⟩ := HMW.out
          clear hg0
          have HBL := Lib.hid HR2.out.net.bel
          generalize Sk.fls ee es 4 100 T j = cg at hg hg2 ⊢
          clear hlt hj
          go_wp2_with (go_at_call 11; refine (works_c _).mono ?_; rintro e w6 ⟨rfl, hb⟩; have HB6 := Lib.hid hb; clear hb)
          go_ret
          exact ⟨rfl, HBL.out.trans (HB6.out.mono HBL.out.size)⟩
end Go.Proofs.Ytlklnaebdnahcaa
namespace Go.Proofs.Ytlklnaebdnahcaa
open Go.RowKit Go.WideShapes Go.ChangeShapes
section
variable {H : Type} {enc : TypeId × Value → H} {P : Program}
theorem all_stays (hl : laidOutB P = true) {W W' : World} {sp' : Nat → Bool} : ∀ {ts : List TypeId} {vs : List Value} {ds : List (DataW H)} {ps : List MemPlace}, (ts.all fun t => P.readableRec t && decide (t < P.types.size)) = true →
    DataW.TrodAll enc P W 0 (fun _ => true) true ts vs ds ps → (∀ p ∈ ps, W.sameAt W' p) → (∀ p ∈ ps, sp' p.block = true) → DataW.TrodAll enc P W' 0 sp' true ts vs ds ps
  | [], [], [], _, _, h, _, _ => h
  | t :: ts, v :: vs, d :: ds, _, hr, ⟨p, q, h1, h2, e⟩, hsame, hs => by
    subst e
    simp only [List.all_cons, Bool.and_eq_true, decide_eq_true_eq] at hr
    refine ⟨p, q, WideElems.Trod_stays hl hr.1.1 hr.1.2 h1 (fun x hx => hsame x (List.mem_append_left _ hx)) (fun x hx => hs x (List.mem_append_left _ hx)), ?_, rfl⟩
    exact all_stays hl (by simpa using hr.2) h2 (fun x hx => hsame x (List.mem_append_right _ hx)) (fun x hx => hs x (List.mem_append_right _ hx))
theorem law_post {f : Func} {s : ChangeSpec} {apart fresh handsOn again : Bool} {W W' : World} {args : Array Value} {ds : List (DataW H)} {p : List MemPlace}
    (hl : laidOutB P = true) (hr : (f.params.toList.all fun t => P.readableRec t && decide (t < P.types.size)) = true) (hsv : s.vars = [])
    (hW : DataW.Whole enc P f.params.toList s.vars apart W args.toList ds [] p)
    (hA : DataW.TrodAll enc P W 0 (fun _ => true) true f.params.toList args.toList ds p)
    (hsr : (s.fn H (ds ++ [])).results = [.lit (.bool true)]) (hsa : (s.fn H (ds ++ [])).args = ds) (hsvv : (s.fn H (ds ++ [])).vars = [])
    (hres : ∀ (b : Nat) (sp : Nat → Bool) (hd : Bool), DataW.TrodAll enc P W' b sp hd f.resultTypes.toList ((Value.bool true).resultList f.resultTypes.size) [.lit (.bool true)] [])
    (hb : Below W.heap.size W W')
    (hok : ∀ (j : Nat) (t : TypeId) (r : Value), f.resultTypes[j]? = some t → ((Value.bool true).resultList f.resultTypes.size)[j]? = some r → Value.okWide P W' .any 0 t r) :
    s.post enc P f apart fresh handsOn again W args (.bool true) W' := by
  have hlt : ∀ x ∈ p, x.block < W.heap.size := fun x hx => hW.lt x hx
  have hargs : ∀ sp : Nat → Bool, (∀ x ∈ p, sp x.block = true) → DataW.TrodAll enc P W' 0 sp true f.params.toList args.toList (s.fn H (ds ++ [])).args p := fun sp hsp => by
    rw [hsa]
    exact all_stays hl hr hA (fun x hx => hb.same (hlt x hx)) hsp
  have hvars : ∀ sp : Nat → Bool, DataW.TrodVars enc P W' sp s.vars (s.fn H (ds ++ [])).vars [] := fun sp => by rw [hsv, hsvv]; rfl
  have hres' : ∀ (b : Nat) (sp : Nat → Bool) (hd : Bool), DataW.TrodAll enc P W' b sp hd f.resultTypes.toList ((Value.bool true).resultList f.resultTypes.size) (s.fn H (ds ++ [])).results [] := fun b sp hd => by rw [hsr]; exact hres b sp hd
  have hold : ∀ x ∈ p, (fun b => decide (b < W.heap.size)) x.block = true := fun x hx => by simpa using hlt x hx
  refine ⟨ds, [], p, [], p, [], hW, hres' _ _ _, hargs _ hold, hvars _, World.keptBut_mono (fun x hx => ⟨hx, Or.inr (by simpa using hx)⟩) (hb.frame (· ∈ p)), fun _ => ?_⟩
  · obtain ⟨_, _, _, _, _, hz, hn⟩ := hW
    refine ⟨hok, _, _, ([] ++ p) ++ [], ⟨[] ++ p, [], trodAll_append (hargs _ (fun _ _ => rfl)) (hres' _ _ _), hvars _, rfl, ?_, ?_⟩, ?_⟩
    · intro b off hp
      have hin : MemPlace.cell b off ∈ p := by simpa using hp
      rw [hb.frozen (hlt _ hin)]
      exact hz b off hin
    · intro ha
      simpa using hn ha
    · intro x hx _
      simpa using hx
end
end Go.Proofs.Ytlklnaebdnahcaa
