/- Contracts that the claim leans on, part 1: N1 M1 A1 H1 C1 S1 H2 G0 G1 G4 G5 R2 RI RJ G6 G7 R3 G8 S2 S3 S4 S5 R4 S6 S6b S8 S9 S10 -/
import Derived.Test.YtlklnaebdnahcaaRows
import Derived.WalkKit
import Derived.WalkSpells
import Derived.WalkLawsBesides
import Derived.IntWalk
import Derived.Lib.Hide
import Derived.Deep.QuietTactic
import Derived.BigQuiet
import Derived.LoopN
import Derived.Laws.AppendOwn
import Derived.Deep.Draws
import Derived.Deep.AppendLies
import Derived.Deep.AppendSrc
import Derived.OwnWalk
import Derived.Deep.RegionHeld3
import Derived.Deep.DrawnRows
import Derived.RangeFuncNested
import Derived.RangeFuncLeaves
import Derived.RangeFuncWrites
import Derived.RangeFuncCalls
import Derived.OrdersIn
import Derived.RangeFuncBound
import Derived.Shelf.Abstract
import Derived.OwnWalkIn
import Derived.TacticsInMore
import Derived.LoopNIn
import Derived.LoopIn
import Derived.Deep.Cut
import Derived.Deep.Quiet
import Derived.StillTail
import Derived.Orders
import Derived.Laws.IdiomCopy
set_option linter.unusedVariables false
set_option linter.unusedSimpArgs false
set_option linter.unnecessarySimpa false
namespace Go.Proofs.Ytlklnaebdnahcaa
structure Nt where
  k : Int
  s : Int
  a : Int
  b : Int
  c : Int
deriving DecidableEq
instance : Inhabited Nt := ⟨⟨0, 0, 0, 0, 0⟩⟩
structure Pk where
  has : Bool
  nu : Int
  nt : Nt
  ak : Int
deriving DecidableEq
structure Ln where
  L : List Nt
  dn : Int
  tk : Int
  ow : Bool
namespace Lx
def nt0 : Nt := ⟨0, 0, 0, 0, 0⟩
def pk0 : Pk := ⟨false, 0, nt0, 0⟩
def ln0 : Ln := ⟨[], 0, 0, false⟩
def sendE (l : Ln) : Int := if 64 ≤ l.L.length then 11 else 0
def sendL (l : Ln) (n : Nt) : Ln := if 64 ≤ l.L.length then l else { l with L := l.L ++ [n] }
def pollB (l : Ln) : Bool := !l.L.isEmpty || l.ow
def pollP (l : Ln) : Pk := match l.L with
  | [] => if l.ow then ⟨false, 0, nt0, l.tk⟩ else pk0
  | n :: _ => ⟨true, l.dn + 1, n, l.tk⟩
def pollL (l : Ln) : Ln := { l with ow := false }
def ackB (l : Ln) (p : Pk) : Bool := decide (l.dn < p.ak) && decide (p.ak - l.dn ≤ l.L.length)
def ack (l : Ln) (p : Pk) : Ln := if ackB l p then { l with L := l.L.drop (p.ak - l.dn).toNat, dn := p.ak } else l
def recvB (l : Ln) (p : Pk) : Bool := p.has && decide (p.nu = l.tk + 1)
def recvN (l : Ln) (p : Pk) : Nt := if recvB l p then p.nt else nt0
def recvL (l : Ln) (p : Pk) : Ln := if p.has then (if p.nu = l.tk + 1 then { ack l p with ow := true, tk := l.tk + 1 } else { ack l p with ow := true }) else ack l p
def ok (b : Int) (l : Ln) : Prop := (0 ≤ l.dn ∧ l.dn ≤ b) ∧ (0 ≤ l.tk ∧ l.tk ≤ b) ∧ l.L.length ≤ 64
theorem ok_mono {b c : Int} {l : Ln} (h : ok b l) (hc : b ≤ c) : ok c l := ⟨⟨h.1.1, by have := h.1.2; omega⟩, ⟨h.2.1.1, by have := h.2.1.2; omega⟩, h.2.2⟩
theorem ok_send {b : Int} {l : Ln} {n : Nt} (h : ok b l) : ok b (sendL l n) := by
  unfold sendL
  split
  · exact h
  · exact ⟨h.1, h.2.1, by simp; omega⟩
theorem ok_poll {b : Int} {l : Ln} (h : ok b l) : ok b (pollL l) := h
theorem ok_ack {b : Int} {l : Ln} {p : Pk} (h : ok b l) : ok (b + 64) (ack l p) ∧ (ack l p).tk = l.tk ∧ (ack l p).ow = l.ow := by
  unfold ack
  split
  · rename_i hb
    simp only [ackB, Bool.and_eq_true, decide_eq_true_eq] at hb
    obtain ⟨h1, h2, h3⟩ := h
    exact ⟨⟨⟨show 0 ≤ p.ak by omega, show p.ak ≤ b + 64 by omega⟩, ⟨h2.1, show l.tk ≤ b + 64 by omega⟩, show (l.L.drop _).length ≤ 64 by simp; omega⟩, rfl, rfl⟩
  · exact ⟨ok_mono h (by omega), rfl, rfl⟩
theorem ok_recv {b : Int} {l : Ln} {p : Pk} (h : ok b l) : ok (b + 64) (recvL l p) := by
  have h1 := (ok_ack (p := p) h).1
  unfold recvL
  split
  · split
    · exact ⟨h1.1, ⟨show 0 ≤ l.tk + 1 by have := h.2.1; omega, show l.tk + 1 ≤ b + 64 by have := h.2.1; omega⟩, h1.2.2⟩
    · exact h1
  · exact h1
end Lx
end Go.Proofs.Ytlklnaebdnahcaa
namespace Go.Proofs.Ytlklnaebdnahcaa
structure Bd where
  fr : Int
  inn : Int
  bk : Int
instance : Inhabited Bd := ⟨⟨0, 0, 0⟩⟩
namespace Cv
def inB (x lo hi : Int) : Bool := decide (lo ≤ x ∧ x ≤ hi)
theorem inB_iff {x lo hi : Int} : inB x lo hi = true ↔ lo ≤ x ∧ x ≤ hi := by simp [inB]
theorem inB_no {x lo hi : Int} (h : ¬ (lo ≤ x ∧ x ≤ hi)) : inB x lo hi = false := by simp only [inB, decide_eq_false_iff_not]; exact h
def fr (bs : List Bd) (i : Nat) : Int := (bs.getD i default).fr
def inn (bs : List Bd) (i : Nat) : Int := (bs.getD i default).inn
def bk (bs : List Bd) (i : Nat) : Int := (bs.getD i default).bk
def okAt (day : Int) (bs : List Bd) (i : Nat) : Prop :=
  (0 ≤ fr bs i ∧ fr bs i < day) ∧ (i = 0 → fr bs i = 0) ∧ (0 < i → fr bs (i - 1) < fr bs i) ∧ (0 ≤ inn bs i ∧ inn bs i ≤ 1048576) ∧ (0 ≤ bk bs i ∧ bk bs i ≤ 1048576)
def TarOk (day fee : Int) (bs : List Bd) : Prop :=
  (1 ≤ day ∧ day ≤ 1099511627776) ∧ (1 ≤ bs.length ∧ bs.length ≤ 48) ∧ (0 ≤ fee ∧ fee ≤ 1048576) ∧ ∀ i, i < bs.length → okAt day bs i
noncomputable def tarE (day fee : Int) (bs : List Bd) : Int := @ite Int (TarOk day fee bs) (Classical.propDecidable _) 0 2
theorem tarE_ok {day fee : Int} {bs : List Bd} (h : TarOk day fee bs) : tarE day fee bs = 0 := by unfold tarE; rw [if_pos h]
theorem tarE_no {day fee : Int} {bs : List Bd} (h : ¬ TarOk day fee bs) : tarE day fee bs = 2 := by unfold tarE; rw [if_neg h]
theorem fr_mono {day fee : Int} {bs : List Bd} (h : TarOk day fee bs) : ∀ (d i : Nat), i + d < bs.length → fr bs i ≤ fr bs (i + d)
  | 0, _, _ => Int.le_refl _
  | d + 1, i, hi => by
    have h1 := fr_mono h d i (by omega)
    have h2 := (h.2.2.2 (i + (d + 1)) hi).2.2.1 (by omega)
    rw [show i + (d + 1) - 1 = i + d from by omega] at h2
    omega
theorem fr_lt {day fee : Int} {bs : List Bd} (h : TarOk day fee bs) {i j : Nat} (hij : i < j) (hj : j < bs.length) : fr bs i < fr bs j := by
  have h1 := fr_mono h (j - 1 - i) i (by omega)
  have h2 := (h.2.2.2 j hj).2.2.1 (by omega)
  rw [show i + (j - 1 - i) = j - 1 from by omega] at h1
  omega
def bandK (bs : List Bd) (x : Int) : Nat → Nat
  | 0 => 0
  | n + 1 => if fr bs n ≤ x then n else bandK bs x n
theorem bandK_lt (bs : List Bd) (x : Int) : ∀ n, 0 < n → bandK bs x n < n
  | 0, h => absurd h (Nat.lt_irrefl _)
  | n + 1, _ => by
    unfold bandK
    split
    · omega
    · by_cases hn : n = 0
      · subst hn; simp [bandK]
      · have := bandK_lt bs x n (by omega); omega
theorem bandK_eq (bs : List Bd) (x : Int) (k : Nat) : ∀ n, k < n → fr bs k ≤ x → (∀ j, k < j → j < n → x < fr bs j) → bandK bs x n = k
  | 0, h, _, _ => absurd h (Nat.not_lt_zero _)
  | n + 1, h, h1, h2 => by
    unfold bandK
    by_cases hk : k = n
    · subst hk; rw [if_pos h1]
    · rw [if_neg (by have := h2 n (by omega) (by omega); omega)]
      exact bandK_eq bs x k n (by omega) h1 (fun j a b => h2 j a (by omega))
noncomputable def prE (day fee : Int) (bs : List Bd) (at_ : Int) : Int := if tarE day fee bs = 0 then (if inB at_ 0 1099511627776 = true then 0 else 3) else tarE day fee bs
noncomputable def prK (day : Int) (bs : List Bd) (at_ : Int) : Nat := bandK bs (at_ % day) bs.length
noncomputable def pr1 (day fee : Int) (bs : List Bd) (at_ : Int) : Int := if prE day fee bs at_ = 0 then inn bs (prK day bs at_) else 0
noncomputable def pr2 (day fee : Int) (bs : List Bd) (at_ : Int) : Int := if prE day fee bs at_ = 0 then bk bs (prK day bs at_) else 0
def coB (x y : Int) : Bool := inB x 0 1099511627776 && inB y 0 1099511627776
noncomputable def coE (day fee : Int) (bs : List Bd) (at_ x y : Int) : Int := if prE day fee bs at_ = 0 then (if coB x y = true then 0 else 3) else prE day fee bs at_
noncomputable def coV (day fee : Int) (bs : List Bd) (at_ x y : Int) : Int := if coE day fee bs at_ x y = 0 then x * pr1 day fee bs at_ / 3600000 - y * pr2 day fee bs at_ / 3600000 else 0
end Cv
end Go.Proofs.Ytlklnaebdnahcaa
namespace Go.Proofs.Ytlklnaebdnahcaa
open Go.RowKit
theorem ret_int {k : IntKind} {a b : Int} (h : a = b) : Ending.returned (.int k a) = .returned (.int k b) := by rw [h]
theorem ret_bool {a b : Bool} (h : a = b) : Ending.returned (.bool a) = .returned (.bool b) := by rw [h]
theorem below_cell {B : Nat} {w w1 : World} (hb : Below B w w1) {b o : Nat} {v : Option Value} (hlt : b < B) (h : w.cell? ⟨b, o, none⟩ = v) : w1.cell? ⟨b, o, none⟩ = v :=
  (hb.cell (p := ⟨b, o, none⟩) hlt).trans h
theorem below_drewN {B : Nat} {a w : World} (h : Below B a w) (n : Nat) : Below B a (w.drewN n) := ⟨h.os, h.tape, h.output, h.size, h.block⟩
theorem block_of_add (a : Addr) (n : Nat) : (a.add n).block = a.block := by unfold Addr.add; split <;> rfl
theorem quiet_left {P : Program} {f : FuncId} {args : Array Value} {w : World} {n : Nat} {v : Value}
    (h : Calls P f args (w.drewN n) fun e w' => e = .returned v ∧ w.drewN n = w') : Calls P f args (w.drewN n) fun e w'' => e = .returned v ∧ ∃ m, w'' = w.drewN m :=
  h.mono fun _ _ ⟨he, hm⟩ => ⟨he, n, hm.symm⟩
def BandsAt (w : World) (A : Option Addr) (bs : List Bd) : Prop :=
  ∀ i, i < bs.length → ∃ ad, A = some ad ∧ ad.block < w.heap.size ∧ w.cell? (ad.add (i * 3)) = some (.int .i64 (Cv.fr bs i)) ∧
    w.cell? ⟨(ad.add (i * 3)).block, (ad.add (i * 3)).off + 1, none⟩ = some (.int .i64 (Cv.inn bs i)) ∧ w.cell? ⟨(ad.add (i * 3)).block, (ad.add (i * 3)).off + 2, none⟩ = some (.int .i64 (Cv.bk bs i))
theorem BandsAt.below {w w1 : World} {A : Option Addr} {bs : List Bd} (h : BandsAt w A bs) (hb : Below w.heap.size w w1) : BandsAt w1 A bs := by
  intro i hi
  obtain ⟨ad, e, hlt, c0, c1, c2⟩ := h i hi
  have hbl : (ad.add (i * 3)).block < w.heap.size := by rw [block_of_add]; exact hlt
  exact ⟨ad, e, Nat.lt_of_lt_of_le hlt hb.size, (hb.cell hbl).trans c0, (hb.cell (p := ⟨_, _, none⟩) hbl).trans c1, (hb.cell (p := ⟨_, _, none⟩) hbl).trans c2⟩
set_option maxHeartbeats 400000 in
theorem within_c (x lo hi : Int) (w : World) : Calls Try.prog 23 #[.int .i64 x, .int .i64 lo, .int .i64 hi] w fun e w' => e = .returned (.bool (Cv.inB x lo hi)) ∧ w = w' := by
  by_cases h1 : lo ≤ x
  · by_cases h2 : x ≤ hi
    all_goals
      go_enter Try.func23, Try.ntmps23
      go_wp2
      go_ret
      exact ⟨ret_bool (by rw [Bool.eq_iff_iff]; simp [Cv.inB]; omega), rfl⟩
  · go_enter Try.func23, Try.ntmps23
    go_wp2
    go_ret
    exact ⟨ret_bool (by rw [Bool.eq_iff_iff]; simp [Cv.inB]; omega), rfl⟩
theorem int_beq_false {a b : Int} (h : a ≠ b) : (a == b) = false := by simpa using h
def HeadBad (day fee : Int) (n : Nat) : Prop := ¬ (1 ≤ day ∧ day ≤ 1099511627776) ∨ n = 0 ∨ 48 < n ∨ ¬ (0 ≤ fee ∧ fee ≤ 1048576)
set_option maxHeartbeats 400000 in
theorem CheckTariff_head (day fee : Int) (A : Option Addr) (n cap : Nat) (w : World) (hn63 : n ≤ 9223372036854775807) (h : HeadBad day fee n) :
    Calls Try.prog 37 #[.agg #[.int .i64 day, .slice A n cap, .int .i64 fee]] w fun e w' => e = .returned (.int .i64 2) ∧ Below w.heap.size w w' := by
  cases h0 : Cv.inB day 1 1099511627776
  · clear h
    go_enter Try.func37, Try.ntmps37
    go_wp2_with (go_at_call 23; refine (within_c _ _ _ _).mono ?_; rintro e w' ⟨rfl, rfl⟩)
    go_ret
    exact ⟨rfl, (Below.refl _ _).alloc (Nat.le_refl _) _⟩
  · have h0' := Cv.inB_iff.1 h0
    by_cases h1 : n = 0
    · have hn0 : ((n : Int) == 0) = true := by simp; omega
      clear h h1
      go_enter Try.func37, Try.ntmps37
      go_wp2_with (go_at_call 23; refine (within_c _ _ _ _).mono ?_; rintro e w' ⟨rfl, rfl⟩)
      go_ret
      exact ⟨rfl, (Below.refl _ _).alloc (Nat.le_refl _) _⟩
    · have hn0 : ((n : Int) == 0) = false := by simp; omega
      by_cases h2 : 48 < n
      · have hn1 : decide (48 < (n : Int)) = true := by simp; omega
        clear h h1
        go_enter Try.func37, Try.ntmps37
        go_wp2_with (go_at_call 23; refine (within_c _ _ _ _).mono ?_; rintro e w' ⟨rfl, rfl⟩)
        go_ret
        exact ⟨rfl, (Below.refl _ _).alloc (Nat.le_refl _) _⟩
      · have hn1 : decide (48 < (n : Int)) = false := by simp; omega
        have h3 : Cv.inB fee 0 1048576 = false := Cv.inB_no (by unfold HeadBad at h; omega)
        clear h h1 h2
        go_enter Try.func37, Try.ntmps37
        go_wp2_with (go_at_call 23; refine (within_c _ _ _ _).mono ?_; rintro e w' ⟨rfl, rfl⟩)
        go_ret
        exact ⟨rfl, (Below.refl _ _).alloc (Nat.le_refl _) _⟩
end Go.Proofs.Ytlklnaebdnahcaa
namespace Go.Proofs.Ytlklnaebdnahcaa
open Go.RowKit
def Blk (w : World) (g : Nat) (t : TypeId) (cs : List Value) : Prop := w.heap[g]? = some (.cells cs.toArray t (0, 0))
section
variable {w w' : World} {g : Nat} {t : TypeId} {cs : List Value}
theorem Blk.cell (h : Blk w g t cs) (o : Nat) {v : Value} (hv : cs[o]? = some v) : w.cell? ⟨g, o, none⟩ = some v := by
  unfold Blk at h
  simp [World.cell?, h, hv]
theorem Blk.free (h : Blk w g t cs) (o : Nat) : w.frozen? ⟨g, o, none⟩ = false := by
  unfold Blk at h
  simp [World.frozen?, h]
theorem Blk.lt (h : Blk w g t cs) : g < w.heap.size := by
  rcases Nat.lt_or_ge g w.heap.size with h' | h'
  · exact h'
  · unfold Blk at h
    rw [Array.getElem?_eq_none h'] at h
    cases h
theorem Blk.of_eq (h : Blk w g t cs) (e : w'.heap[g]? = w.heap[g]?) : Blk w' g t cs := e.trans h
theorem Blk.drew (h : Blk w g t cs) : Blk w.drew g t cs := h
theorem Blk.drewN (h : Blk w g t cs) (n : Nat) : Blk (w.drewN n) g t cs := h
theorem Blk.alloc (h : Blk w g t cs) (o : Obj) : Blk (w.alloc o) g t cs := h.of_eq (Below.heap_alloc _ _ _ h.lt)
theorem Blk.new (w : World) (cs : List Value) (t : TypeId) : Blk (w.alloc (.cells cs.toArray t)) w.heap.size t cs := by
  show (w.heap.push _)[w.heap.size]? = _
  simp
theorem Blk.new' (w : World) (cs : Array Value) (t : TypeId) : Blk (w.alloc (.cells cs t)) w.heap.size t cs.toList := by
  show (w.heap.push _)[w.heap.size]? = _
  simp
theorem Blk.setCell (h : Blk w g t cs) (o : Nat) (u : Value) : Blk (w.setCell ⟨g, o, none⟩ u) g t (cs.set o u) := by
  have hlt := h.lt
  unfold Blk at h ⊢
  have h' : w.heap[g] = .cells cs.toArray t (0, 0) := by simpa [Array.getElem?_eq_getElem hlt] using h
  show (w.heap.modify g _)[g]? = _
  rw [Array.getElem?_eq_getElem (by simpa using hlt), Array.getElem_modify_self, h']
  simp
theorem Blk.setCell_ne (h : Blk w g t cs) {p : Addr} (hp : g ≠ p.block) (u : Value) : Blk (w.setCell p u) g t cs := h.of_eq (Below.heap_setCell _ _ _ _ hp)
theorem Blk.grown {row : Option Nat} (h : Blk w g t cs) (hg : w.grownBy w' row) (hne : some g ≠ row) : Blk w' g t cs := h.of_eq (hg.block g h.lt hne)
theorem Blk.below {B : Nat} (h : Blk w g t cs) (hb : Below B w w') (hlt : g < B) : Blk w' g t cs := h.of_eq (hb.block g hlt)
end
structure Touch (S : Nat → Prop) (w w' : World) : Prop where
  os : w'.os = w.os
  tape : w'.tape = w.tape
  output : w'.output = w.output
  size : w.heap.size ≤ w'.heap.size
  block : ∀ k, k < w.heap.size → ¬ S k → w'.heap[k]? = w.heap[k]?
section
variable {S : Nat → Prop} {a w w' : World}
theorem Touch.refl (S : Nat → Prop) (w : World) : Touch S w w := ⟨rfl, rfl, rfl, Nat.le_refl _, fun _ _ _ => rfl⟩
theorem Touch.trans (h : Touch S a w) (k : Touch S w w') : Touch S a w' :=
  ⟨k.os.trans h.os, k.tape.trans h.tape, k.output.trans h.output, Nat.le_trans h.size k.size, fun i hi hn => (k.block i (Nat.lt_of_lt_of_le hi h.size) hn).trans (h.block i hi hn)⟩
theorem Touch.mono {S' : Nat → Prop} (h : Touch S w w') (hS : ∀ k, S k → S' k) : Touch S' w w' := ⟨h.os, h.tape, h.output, h.size, fun k hk hn => h.block k hk (fun hs => hn (hS k hs))⟩
theorem Touch.drew (h : Touch S a w) : Touch S a w.drew := ⟨h.os, h.tape, h.output, h.size, h.block⟩
theorem Touch.drewN (h : Touch S a w) (n : Nat) : Touch S a (w.drewN n) := ⟨h.os, h.tape, h.output, h.size, h.block⟩
theorem Touch.step (h : Touch S a w) (hos : w'.os = w.os) (ht : w'.tape = w.tape) (ho : w'.output = w.output) (hs : w.heap.size ≤ w'.heap.size) (hb : ∀ k, k < a.heap.size → ¬ S k → w'.heap[k]? = w.heap[k]?) : Touch S a w' :=
  ⟨hos.trans h.os, ht.trans h.tape, ho.trans h.output, Nat.le_trans h.size hs, fun k hk hn => (hb k hk hn).trans (h.block k hk hn)⟩
theorem Touch.alloc (h : Touch S a w) (o : Obj) : Touch S a (w.alloc o) :=
  h.step rfl rfl rfl (by simp) fun k hk _ => Below.heap_alloc _ _ _ (Nat.lt_of_lt_of_le hk h.size)
theorem Touch.setCell (h : Touch S a w) {p : Addr} (hp : S p.block ∨ a.heap.size ≤ p.block) (u : Value) : Touch S a (w.setCell p u) :=
  h.step rfl rfl rfl (by simp [World.setCell]) fun k hk hn => Below.heap_setCell _ _ _ _ (fun e => by subst e; exact hp.elim hn (fun h' => by omega))
theorem Touch.put {g : Nat} (h : Touch (fun k => k = g) a w) (o : Nat) (u : Value) : Touch (fun k => k = g) a (w.setCell ⟨g, o, none⟩ u) := h.setCell (.inl rfl) u
theorem Touch.grown {row : Option Nat} (h : Touch S a w) (hg : w.grownBy w' row) (hr : ∀ k, row = some k → S k ∨ a.heap.size ≤ k) : Touch S a w' :=
  h.step hg.os hg.tape hg.output hg.size fun k hk hn => hg.block k (Nat.lt_of_lt_of_le hk h.size) (fun e => (hr k e.symm).elim hn (fun h' => by omega))
theorem Touch.then {S' : Nat → Prop} (h : Touch S a w) (k : Touch S' w w') (hr : ∀ k, S' k → S k ∨ a.heap.size ≤ k) : Touch S a w' :=
  h.step k.os k.tape k.output k.size fun i hi hn => k.block i (Nat.lt_of_lt_of_le hi h.size) (fun e => (hr i e).elim hn (fun h' => by omega))
theorem Touch.of_below (hb : Below w.heap.size w w') : Touch S w w' := ⟨hb.os, hb.tape, hb.output, hb.size, fun k hk _ => hb.block k hk⟩
theorem Touch.below (h : Touch S a w) (hb : Below w.heap.size w w') : Touch S a w' := h.then (Touch.of_below (S := fun _ => False) hb) (fun _ h => h.elim)
theorem Below.touch {B : Nat} (h : Below B a w) (hB : B ≤ w.heap.size) (k : Touch S w w') (hS : ∀ k, S k → B ≤ k) : Below B a w' :=
  h.trans ⟨k.os, k.tape, k.output, k.size, fun i hi => k.block i (by omega) (fun e => by have := hS i e; omega)⟩
theorem Blk.touch {g : Nat} {t : TypeId} {cs : List Value} (h : Blk w g t cs) (k : Touch S w w') (hn : ¬ S g) : Blk w' g t cs := h.of_eq (k.block g h.lt hn)
theorem Touch.cell (k : Touch S w w') {p : Addr} (hp : p.block < w.heap.size) (hn : ¬ S p.block) : w'.cell? p = w.cell? p := World.cell?_of_block (k.block p.block hp hn)
end
end Go.Proofs.Ytlklnaebdnahcaa
namespace Go.Proofs.Ytlklnaebdnahcaa
open Go.RowKit
structure Ls where
  n : Int
  d : Int
  b : Int
  u : Int
def Ls.vals (l : Ls) : List Value := [.int .i64 l.n, .int .i64 l.d, .int .i64 l.b, .int .i64 l.u]
def PostAt (w : World) (g : Nat) (p : Ls) : Prop := Blk w g 118 (.bool true :: p.vals)
namespace Po
def tkB (p l : Ls) : Bool := decide (p.n < l.n)
def tk (p l : Ls) : Ls := if p.n < l.n then l else p
def m1 (p : Ls) (at_ : Int) : Int := if p.u ≤ at_ then 0 else p.d
def m2 (p : Ls) (at_ : Int) : Int := if p.u ≤ at_ then 0 else p.b
end Po
theorem NewPost_c (w : World) : Calls Try.prog 17 #[] w fun e w' => e = .returned (.pointer (some ⟨w.heap.size, 0, none⟩)) ∧ w' = w.alloc (.cells #[.bool true, .int .i64 0, .int .i64 0, .int .i64 0, .int .i64 0] 118) := by
  go_enter Try.func17, Try.ntmps17
  go_wp2
  go_ret
  exact ⟨rfl, rfl⟩
theorem validP_c (g : Nat) (w : World) (c0 : w.cell? ⟨g, 0, none⟩ = some (.bool true)) : Calls Try.prog 58 #[.pointer (some ⟨g, 0, none⟩)] w fun e w' => e = .returned (.bool true) ∧ w = w' := by
  go_enter Try.func58, Try.ntmps58
  go_wp2
  go_ret
  exact ⟨rfl, rfl⟩
set_option maxHeartbeats 1000000 in
theorem Most_c (g : Nat) (p : Ls) (at_ : Int) (w : World) (h : PostAt w g p) : Calls Try.prog 43 #[.pointer (some ⟨g, 0, none⟩), .int .i64 at_] w fun e w' => e = .returned (.tuple #[.int .i64 (Po.m1 p at_), .int .i64 (Po.m2 p at_)]) ∧ Below w.heap.size w w' := by
  have hlt := Blk.lt h
  have c0 := Blk.cell h 0 rfl
  have c2 := Blk.cell h 2 rfl
  have c3 := Blk.cell h 3 rfl
  have c4 := Blk.cell h 4 rfl
  by_cases hu : p.u ≤ at_
  · have e1 : Po.m1 p at_ = 0 := by unfold Po.m1; rw [if_pos hu]
    have e2 : Po.m2 p at_ = 0 := by unfold Po.m2; rw [if_pos hu]
    rw [e1, e2]
    clear h e1 e2
    go_enter Try.func43, Try.ntmps43
    go_wp2_with (go_at_call 58; refine (validP_c _ _ c0).mono ?_; rintro e w' ⟨rfl, rfl⟩)
    go_ret2
    exact ⟨rfl, Below.refl _ _⟩
  · have e1 : Po.m1 p at_ = p.d := by unfold Po.m1; rw [if_neg hu]
    have e2 : Po.m2 p at_ = p.b := by unfold Po.m2; rw [if_neg hu]
    rw [e1, e2]
    clear h e1 e2
    go_enter Try.func43, Try.ntmps43
    go_wp2_with (go_at_call 58; refine (validP_c _ _ c0).mono ?_; rintro e w' ⟨rfl, rfl⟩)
    go_quiet (fail)
    go_wp2
    go_ret2
    exact ⟨rfl, below_drewN (Below.refl _ _) _⟩
set_option maxHeartbeats 2000000 in
theorem Take_c (g : Nat) (p l : Ls) (w : World) (h : PostAt w g p) : Calls Try.prog 91 #[.pointer (some ⟨g, 0, none⟩), .agg #[.int .i64 l.n, .int .i64 l.d, .int .i64 l.b, .int .i64 l.u]] w fun e w' => e = .returned (.bool (Po.tkB p l)) ∧ PostAt w' g (Po.tk p l) ∧ Touch (· = g) w w' := by
  have hlt := Blk.lt h
  have c0 := Blk.cell h 0 rfl
  have c1 := Blk.cell h 1 rfl
  have f1 := Blk.free h 1
  have f2 := Blk.free h 2
  have f3 := Blk.free h 3
  have f4 := Blk.free h 4
  have c2 := Blk.cell h 2 rfl
  have c3 := Blk.cell h 3 rfl
  have c4 := Blk.cell h 4 rfl
  have H := Lib.hid h
  have HT := Lib.hid (show w.heap.size ≤ w.heap.size from Nat.le_refl _)
  clear h
  by_cases hn : p.n < l.n
  · have e1 : Po.tkB p l = true := decide_eq_true hn
    have e2 : Po.tk p l = l := by unfold Po.tk; rw [if_pos hn]
    have hd : decide (l.n ≤ p.n) = false := by simp; omega
    rw [e1, e2]
    clear e1 e2
    go_enter Try.func91, Try.ntmps91
    go_wp2
    go_quiet ((go_at_call 58; exact quiet_left (validP_c _ _ (by go_simp))))
    go_wp2
    go_ret
    refine ⟨rfl, ?_, ?_⟩
    · have := ((((((H.out.alloc (.cells #[.int .i64 l.n, .int .i64 l.d, .int .i64 l.b, .int .i64 l.u] 116)).drewN ‹Nat›).setCell 1 (.int .i64 l.n)).setCell 2 (.int .i64 l.d)).setCell 3 (.int .i64 l.b)).setCell 4 (.int .i64 l.u))
      exact this
    · iterate 4 (refine Touch.put ?_ _ _)
      exact ((Touch.refl _ _).alloc _).drewN _
  · have e1 : Po.tkB p l = false := decide_eq_false hn
    have e2 : Po.tk p l = p := by unfold Po.tk; rw [if_neg hn]
    have hd : decide (l.n ≤ p.n) = true := by simp; omega
    rw [e1, e2]
    clear e1 e2
    go_enter Try.func91, Try.ntmps91
    go_wp2
    go_quiet ((go_at_call 58; exact quiet_left (validP_c _ _ (by go_simp))))
    go_wp2
    go_ret
    exact ⟨rfl, (H.out.alloc _).drewN _, ((Touch.refl _ _).alloc _).drewN _⟩
end Go.Proofs.Ytlklnaebdnahcaa
namespace Go.Proofs.Ytlklnaebdnahcaa
open Go.RowKit
instance : Inhabited Ls := ⟨⟨0, 0, 0, 0⟩⟩
namespace Sx
structure Cl where
  L : List Ls
  last : Int
  kn : Int
instance : Inhabited Cl := ⟨⟨[], 0, 0⟩⟩
def liveB (kn t : Int) (l : Ls) : Bool := decide (kn ≤ l.n) && decide (t < l.u)
def live (c : Cl) (t : Int) : List Ls := c.L.filter (liveB c.kn t)
def mxD (L : List Ls) : Int := L.foldl (fun m l => max m l.d) 0
def mxB (L : List Ls) : Int := L.foldl (fun m l => max m l.b) 0
theorem mxD_snoc (L : List Ls) (l : Ls) : mxD (L ++ [l]) = max (mxD L) l.d := by unfold mxD; rw [List.foldl_append]; rfl
theorem mxB_snoc (L : List Ls) (l : Ls) : mxB (L ++ [l]) = max (mxB L) l.b := by unfold mxB; rw [List.foldl_append]; rfl
def okL (L : List Ls) : Prop := ∀ l ∈ L, (0 ≤ l.d ∧ l.d ≤ 1073741824) ∧ (0 ≤ l.b ∧ l.b ≤ 1073741824)
theorem snoc_ind {P : List Ls → Prop} (h0 : P []) (h1 : ∀ L l, P L → P (L ++ [l])) (L : List Ls) : P L := by
  have h : ∀ n (L : List Ls), L.length = n → P L := by
    intro n
    induction n with
    | zero => intro L hl; rw [List.eq_nil_of_length_eq_zero hl]; exact h0
    | succ n ih =>
      intro L hl
      rcases List.eq_nil_or_concat L with rfl | ⟨L', l, rfl⟩
      · cases hl
      · rw [List.concat_eq_append] at hl ⊢
        exact h1 L' l (ih L' (by simpa using hl))
  exact h _ L rfl
theorem mx_bd {L : List Ls} (h : okL L) : (0 ≤ mxD L ∧ mxD L ≤ 1073741824) ∧ (0 ≤ mxB L ∧ mxB L ≤ 1073741824) := by
  induction L using snoc_ind with
  | h0 => exact ⟨⟨by decide, by decide⟩, by decide, by decide⟩
  | h1 L l ih =>
    have := ih (fun x hx => h x (List.mem_append_left _ hx))
    have := h l (by simp)
    rw [mxD_snoc, mxB_snoc]
    omega
theorem okL_live {c : Cl} (h : okL c.L) (t : Int) : okL (live c t) := fun l hl => h l (List.mem_filter.1 hl).1
def lv (c : Cl) (t : Int) (k : Nat) : List Ls := (c.L.take k).filter (liveB c.kn t)
theorem lv_succ (c : Cl) (t : Int) (k : Nat) (hk : k < c.L.length) : lv c t (k + 1) = if liveB c.kn t (c.L.getD k default) = true then lv c t k ++ [c.L.getD k default] else lv c t k := by
  unfold lv
  have hg : c.L.getD k default = c.L[k] := by rw [List.getD_eq_getElem?_getD, List.getElem?_eq_getElem hk]; rfl
  rw [List.take_succ_eq_append_getElem hk, List.filter_append, hg]
  cases h : liveB c.kn t c.L[k] <;> simp [h]
theorem lv_all (c : Cl) (t : Int) : lv c t c.L.length = live c t := by unfold lv live; rw [List.take_length]
theorem lv_len (c : Cl) (t : Int) (k : Nat) : (lv c t k).length ≤ k := by
  unfold lv
  exact Nat.le_trans (List.length_filter_le _ _) (by rw [List.length_take]; omega)
theorem okL_lv {c : Cl} (h : okL c.L) (t : Int) (k : Nat) : okL (lv c t k) := fun l hl => h l (List.mem_of_mem_take (List.mem_filter.1 hl).1)
def rD (c : Cl) (t : Int) : Int := mxD (live c t)
def rB (c : Cl) (t : Int) : Int := mxB (live c t)
def many (c : Cl) (t : Int) : Nat := (live c t).length
def sumF (f : Cl → Int) (cs : List Cl) (st : Nat) (x : Int) : Nat → Int
  | 0 => 0
  | k + 1 => sumF f cs st x k + (if k = st then x else f (cs.getD k default))
def sumD (cs : List Cl) (t : Int) (st : Nat) (x : Int) (k : Nat) : Int := sumF (fun c => rD c t) cs st x k
def sumB (cs : List Cl) (t : Int) (st : Nat) (x : Int) (k : Nat) : Int := sumF (fun c => rB c t) cs st x k
theorem sumF_bd {f : Cl → Int} {cs : List Cl} {st : Nat} {x : Int} (hx : 0 ≤ x ∧ x ≤ 1073741824) (k : Nat) (hk : k ≤ cs.length) (h : ∀ c ∈ cs, 0 ≤ f c ∧ f c ≤ 1073741824) : 0 ≤ sumF f cs st x k ∧ sumF f cs st x k ≤ k * 1073741824 := by
  induction k with
  | zero => simp [sumF]
  | succ k ih =>
    have h1 := ih (by omega)
    have h2 := h (cs.getD k default) (by rw [List.getD_eq_getElem?_getD, List.getElem?_eq_getElem (by omega)]; exact List.getElem_mem _)
    have e : ((k + 1 : Nat) : Int) * 1073741824 = (k : Int) * 1073741824 + 1073741824 := by rw [Int.natCast_add, Int.add_mul]; rfl
    rw [e]
    unfold sumF
    split <;> omega
def askOk (dr bk un now : Int) : Prop := (0 ≤ dr ∧ dr ≤ 1073741824) ∧ (0 ≤ bk ∧ bk ≤ 1073741824) ∧ (0 ≤ now ∧ now ≤ 1099511627776) ∧ (now + 1 ≤ un ∧ un ≤ now + 100000)
instance (dr bk un now : Int) : Decidable (askOk dr bk un now) := by unfold askOk; infer_instance
def gE (cs : List Cl) (D B N : Int) (s : Nat) (dr bk un now : Int) : Int :=
  if askOk dr bk un now then if now < N then 14 else if 64 ≤ many (cs.getD s default) now then 11
    else if D < sumD cs now s (max (rD (cs.getD s default) now) dr) cs.length ∨ B < sumB cs now s (max (rB (cs.getD s default) now) bk) cs.length then 17 else 0 else 2
def gLs (cs : List Cl) (s : Nat) (dr bk un : Int) : Ls := ⟨(cs.getD s default).last + 1, dr, bk, un⟩
def gS (cs : List Cl) (s : Nat) (dr bk un : Int) : List Cl := cs.set s { (cs.getD s default) with L := (cs.getD s default).L ++ [gLs cs s dr bk un], last := (cs.getD s default).last + 1 }
def aE (cs : List Cl) (s : Nat) (nu : Int) : Int := if 1 ≤ nu ∧ nu ≤ (cs.getD s default).last then 0 else 5
def aI (c : Cl) (nu : Int) : Cl := if c.kn < nu then { c with L := c.L.filter (fun l => !decide (l.n < nu)), kn := nu } else c
def Rel (a b : Cl) : Prop := a.last = b.last ∧ a.kn = b.kn ∧ a.L = b.L.filter (fun l => decide (b.kn ≤ l.n))
structure OkC (k : Int) (c : Cl) : Prop where
  k0 : 0 ≤ c.kn
  k1 : c.kn ≤ c.last
  l1 : c.last ≤ k
  ls : okL c.L
  ln : (c.L.length : Int) ≤ k
def Rels (xs ys : List Cl) : Prop := xs.length = ys.length ∧ ∀ i, i < xs.length → Rel (xs.getD i default) (ys.getD i default)
theorem getD_set' {cs : List Cl} {i : Nat} (hi : i < cs.length) (c : Cl) (j : Nat) : (cs.set i c).getD j default = if j = i then c else cs.getD j default := by
  rw [List.getD_eq_getElem?_getD, List.getElem?_set]
  by_cases h : i = j
  · subst h; simp [hi]
  · rw [if_neg h, if_neg (fun e => h e.symm), ← List.getD_eq_getElem?_getD]
theorem Rels.set {xs ys : List Cl} (h : Rels xs ys) {i : Nat} (hi : i < xs.length) {a b : Cl} (hr : Rel a b) : Rels (xs.set i a) (ys.set i b) := by
  refine ⟨by simp [h.1], fun j hj => ?_⟩
  rw [getD_set' hi, getD_set' (by rw [← h.1]; exact hi)]
  split
  · exact hr
  · exact h.2 j (by simpa using hj)
end Sx
end Go.Proofs.Ytlklnaebdnahcaa
namespace Go.Proofs.Ytlklnaebdnahcaa
open Go Go.RowKit
def SrcRow (w : World) (Bo : Option Addr) (m : Nat) (news : List Value) : Prop := (Bo = none ∧ m = 0) ∨ ∃ a, Bo = some a ∧ ∀ j u, news[j]? = some u → w.cell? (a.add j) = some u
def OwnB (A : Option Addr) (k : Nat) : Prop := ∃ a, A = some a ∧ a.block = k
theorem ownB_iff {A : Option Addr} {n cap k : Nat} : OwnB A k ↔ (Value.slice A n cap).ownBlock = some k := by
  cases A with
  | none => exact ⟨fun ⟨a, h, _⟩ => (by cases h), fun h => (by cases h)⟩
  | some a =>
    show OwnB (some a) k ↔ some a.block = some k
    exact ⟨fun ⟨b, h, e⟩ => (by cases h; rw [e]), fun h => ⟨a, rfl, by simpa using h⟩⟩
section
variable {P : Program} {w : World}
theorem run_append_any (t ty : TypeId) (base : Nat) (e : TypeId) (i : TypeInfo) (z : Value) (size bytes : Nat) (ht : P.underlying t = some (.slice e)) (hi : P.info? e = some i) (hz : i.zero = some z)
    (hsize : i.size = size) (hby : i.bytes = bytes) (hzs : z.cells.size = size) (hsz : 0 < size)
    (A : Option Addr) (n cap : Nat) (xs : List Value) (hown : w.ownsRow base e size (.slice A n cap) n xs)
    (Bo : Option Addr) (m c : Nat) (news : List Value) (hl : news.length = m * size) (hnews : SrcRow w Bo m news) (h1 : ∀ u ∈ news, u.oneCell' = true)
    (h63 : n + m ≤ maxLen) (hbytes : (n + m) * bytes ≤ 140737488355328) (hbase : base ≤ w.heap.size) :
    ∃ A' cap' w', (Builtin.append_ #[t, t] ty #[.slice A n cap, .slice Bo m c]).run P w = .ok (.slice A' (n + m) cap') w' ∧ w'.ownsRow base e size (.slice A' (n + m) cap') (n + m) (xs ++ news) ∧
      w.grownBy w' (Value.slice A n cap).ownBlock ∧ (∀ k, OwnB A' k → OwnB A k ∨ k = w.heap.size) := by
  rcases hnews with ⟨rfl, rfl⟩ | ⟨a, rfl, hnews⟩
  · have hn : news = [] := List.eq_nil_of_length_eq_zero (by simpa using hl)
    subst hn
    refine ⟨A, cap, w, ?_, by simpa using hown, ⟨rfl, rfl, rfl, Nat.le_refl _, fun _ _ _ => rfl⟩, fun k hk => .inl hk⟩
    rcases hown.2 with ⟨hv, rfl⟩ | ⟨g, cap', cur, hv, hbg, hg, hnc, hcm, hcs, htake⟩
    · cases hv
      simp [Builtin.append_, run_underlying ht, sizeOf, typeInfo, hi, Builtin.lenOf, Builtin.firstCells]
    · cases hv
      have hr := run_append_room_src (P := P) w t t ty e i ht hi g 0 n cap (.slice none 0 c) 0 [] (Src.ofNil w ht c) (by omega) (by simp) (by simp)
      simpa [World.setCells] using hr
  · obtain ⟨v', w', hr, h2, h3, h4, h5⟩ := run_append_own_at (P := P) w base t ty e i z size bytes ht hi hz hsize hby hzs hsz (.slice A n cap) n xs hown a m c news hl hnews h1 h63 hbytes hbase
    have hform : ∃ A' cap', v' = .slice A' (n + m) cap' := by
      rcases h2.2 with ⟨rfl, hn⟩ | ⟨g, cap', cur, rfl, _⟩
      · exact ⟨none, 0, by rw [hn]⟩
      · exact ⟨_, _, rfl⟩
    obtain ⟨A', cap', rfl⟩ := hform
    refine ⟨A', cap', w', hr, h2, h3, fun k hk => ?_⟩
    have hk' := (ownB_iff (n := n + m) (cap := cap')).1 hk
    rcases h5 with h5 | h5
    · exact .inl ((ownB_iff (n := n) (cap := cap)).2 (h5 ▸ hk'))
    · rw [h5] at hk'
      exact .inr (by simpa using hk'.symm)
theorem step_append_any {ops : Array Oper} {o : Oper} {a : Act} {K : Act → World → Prop} {Q : Exit → Act → World → Prop} {E : Prop} (s x : Operand) (t : TypeId)
    (ho : o.op = .call { callee := .builtin .append, args := #[s, x], argTypes := #[t, t] }) (hgd : o.guard = none)
    (base : Nat) (e : TypeId) (i : TypeInfo) (z : Value) (size bytes : Nat) (ht : P.underlying t = some (.slice e)) (hi : P.info? e = some i) (hz : i.zero = some z)
    (hsize : i.size = size) (hby : i.bytes = bytes) (hzs : z.cells.size = size) (hsz : 0 < size)
    (A : Option Addr) (n cap : Nat) (xs : List Value) (hs : a.eval s = .slice A n cap) (hown : w.ownsRow base e size (.slice A n cap) n xs)
    (Bo : Option Addr) (m c : Nat) (news : List Value) (hx : a.eval x = .slice Bo m c) (hl : news.length = m * size) (hnews : SrcRow w Bo m news) (h1 : ∀ u ∈ news, u.oneCell' = true)
    (h63 : n + m ≤ maxLen) (hbytes : (n + m) * bytes ≤ 140737488355328) (hbase : base ≤ w.heap.size)
    (h : ∀ A' cap' w', w'.ownsRow base e size (.slice A' (n + m) cap') (n + m) (xs ++ news) → w.grownBy w' (Value.slice A n cap).ownBlock → (∀ k, OwnB A' k → OwnB A k ∨ k = w.heap.size) → K (a.put o.dst (.slice A' (n + m) cap')) w') :
    if Region.wanted o (yielded ops a.tmps) = true then Oper.wp P o a w K Q else E := by
  have hw : Region.wanted o (yielded ops a.tmps) = true := by simp [Region.wanted, hgd]
  rw [if_pos hw]
  obtain ⟨A', cap', w', hr, h2, h3, h4⟩ := run_append_any (P := P) t o.type base e i z size bytes ht hi hz hsize hby hzs hsz A n cap xs hown Bo m c news hl hnews h1 h63 hbytes hbase
  unfold Oper.wp execOp
  simp only [ho, resolve, invoke, builtin, Sem.run_bind, Sem.run_pure, Result.andThen_ok, List.map_toArray, List.map_cons, List.map_nil, hs, hx, hr]
  exact h A' cap' w' h2 h3 h4
theorem wpList_append_any {ops : Array Oper} {rest : List Oper} {o : Oper} {a : Act} {Q : Exit → Act → World → Prop} (s x : Operand) (t : TypeId)
    (ho : o.op = .call { callee := .builtin .append, args := #[s, x], argTypes := #[t, t] }) (hgd : o.guard = none)
    (base : Nat) (e : TypeId) (i : TypeInfo) (z : Value) (size bytes : Nat) (ht : P.underlying t = some (.slice e)) (hi : P.info? e = some i) (hz : i.zero = some z)
    (hsize : i.size = size) (hby : i.bytes = bytes) (hzs : z.cells.size = size) (hsz : 0 < size)
    (A : Option Addr) (n cap : Nat) (xs : List Value) (hs : a.eval s = .slice A n cap) (hown : w.ownsRow base e size (.slice A n cap) n xs)
    (Bo : Option Addr) (m c : Nat) (news : List Value) (hx : a.eval x = .slice Bo m c) (hl : news.length = m * size) (hnews : SrcRow w Bo m news) (h1 : ∀ u ∈ news, u.oneCell' = true)
    (h63 : n + m ≤ maxLen) (hbytes : (n + m) * bytes ≤ 140737488355328) (hbase : base ≤ w.heap.size)
    (h : ∀ A' cap' w', w'.ownsRow base e size (.slice A' (n + m) cap') (n + m) (xs ++ news) → w.grownBy w' (Value.slice A n cap).ownBlock → (∀ k, OwnB A' k → OwnB A k ∨ k = w.heap.size) → wpList P ops Q rest (a.put o.dst (.slice A' (n + m) cap')) w') :
    wpList P ops Q (o :: rest) a w := by
  refine wpList_plain hgd fun K hK => ?_
  obtain ⟨A', cap', w', hr, h2, h3, h4⟩ := run_append_any (P := P) t o.type base e i z size bytes ht hi hz hsize hby hzs hsz A n cap xs hown Bo m c news hl hnews h1 h63 hbytes hbase
  unfold Oper.wp execOp
  simp only [ho, resolve, invoke, builtin, Sem.run_bind, Sem.run_pure, Result.andThen_ok, List.map_toArray, List.map_cons, List.map_nil, hs, hx, hr]
  exact hK _ _ (h A' cap' w' h2 h3 h4)
end
end Go.Proofs.Ytlklnaebdnahcaa
namespace Go.Proofs.Ytlklnaebdnahcaa
open Go.RowKit
namespace Pf
theorem mul_pos_bd {x y A B : Int} (hx : 0 ≤ x ∧ x ≤ A) (hy : 0 ≤ y ∧ y ≤ B) : 0 ≤ x * y ∧ x * y ≤ A * B :=
  ⟨Int.mul_nonneg hx.1 hy.1, Int.mul_le_mul hx.2 hy.2 hy.1 (Int.le_trans hx.1 hx.2)⟩
def wd (a b c : Int) : Int := 256 * (256 * a + b) + c
def horn (x : Int) (l : List Int) : Int := l.foldl (fun s w => (s + w) * x % 2147483647) 0
theorem horn_snoc (x : Int) (l : List Int) (w : Int) : horn x (l ++ [w]) = (horn x l + w) * x % 2147483647 := by unfold horn; rw [List.foldl_append]; rfl
theorem horn_bd (x : Int) (l : List Int) : 0 ≤ horn x l ∧ horn x l ≤ 2147483646 := by
  rcases List.eq_nil_or_concat l with rfl | ⟨l', w, rfl⟩
  · unfold horn; simp
  · rw [List.concat_eq_append, horn_snoc]
    exact ⟨Int.emod_nonneg _ (by decide), by have := Int.emod_lt_of_pos ((horn x l' + w) * x) (show (0 : Int) < 2147483647 by decide); omega⟩
def C (a b : Int) : Prop := a % 2147483647 = b % 2147483647
theorem C.add {a b c d : Int} (h : C a b) (k : C c d) : C (a + c) (b + d) := by unfold C at *; rw [Int.add_emod, h, k, ← Int.add_emod]
theorem C.trans {a b c : Int} (h : C a b) (k : C b c) : C a c := Eq.trans h k
def ws (bs : List Int) (k : Nat) : List Int := 1 :: (List.range k).map (fun i => wd (bs.getD (3 * i) 0) (bs.getD (3 * i + 1) 0) (bs.getD (3 * i + 2) 0))
theorem ws_succ (bs : List Int) (k : Nat) : ws bs (k + 1) = ws bs k ++ [wd (bs.getD (3 * k) 0) (bs.getD (3 * k + 1) 0) (bs.getD (3 * k + 2) 0)] := by unfold ws; rw [List.range_succ, List.map_append]; rfl
def tag (x pad : Int) (l : List Int) : Int := (horn x l + pad) % 2147483647
def four (n : Int) : List Int := [n / 16777216 % 256, n / 65536 % 256, n / 256 % 256, n % 256]
def msg (k n : Int) : List Int := four k ++ four n
theorem four_bd (n : Int) : ∀ x ∈ four n, 0 ≤ x ∧ x ≤ 255 := by unfold four; simp; omega
theorem msg_bd (k n : Int) : ∀ x ∈ msg k n, 0 ≤ x ∧ x ≤ 255 := by
  unfold msg
  intro x hx
  rcases List.mem_append.1 hx with h | h
  · exact four_bd k x h
  · exact four_bd n x h
end Pf
theorem rowE_lt {W : World} {B n cap sz : Nat} {e : TypeId} {A : Option Addr} {xs : List Value} (h : W.ownsRow B e sz (.slice A n cap) n xs) {k : Nat} (hk : OwnB A k) : B ≤ k ∧ k < W.heap.size := by
  rcases h.2 with ⟨h2, _⟩ | ⟨g', c, cur, hv, hb, hg, r⟩
  · cases h2; obtain ⟨a, e, _⟩ := hk; cases e
  · cases hv
    obtain ⟨a, e, rfl⟩ := hk
    cases e
    exact ⟨hb, (Array.getElem?_eq_some_iff.1 hg).1⟩
theorem rowE_ne {W : World} {B B' n n' cap cap' sz sz' : Nat} {e e' : TypeId} {xs xs' : List Value} {A A' : Option Addr} (h : W.ownsRow B e sz (.slice A n cap) n xs) (h' : W.ownsRow B' e' sz' (.slice A' n' cap') n' xs') (ht : e ≠ e') {k : Nat} (hk : OwnB A k) : ¬ OwnB A' k := fun ho => by
  rcases h.2 with ⟨h2, _⟩ | ⟨q, c, cur, hv, hb, hg, _⟩
  · cases h2; obtain ⟨a, e1, _⟩ := hk; cases e1
  · rcases h'.2 with ⟨h2, _⟩ | ⟨q', c', cur', hv', hb', hg', _⟩
    · cases h2; obtain ⟨a, e1, _⟩ := ho; cases e1
    · cases hv
      cases hv'
      obtain ⟨a, e1, e2⟩ := hk
      obtain ⟨a', e3, e4⟩ := ho
      cases e1
      cases e3
      simp at e2 e4
      subst e2 e4
      rw [hg] at hg'
      simp at hg'
      exact ht hg'.2
theorem rowE_keep {W W' : World} {S : Nat → Prop} {B n cap sz : Nat} {e : TypeId} {A : Option Addr} {xs : List Value} (h : W.ownsRow B e sz (.slice A n cap) n xs) (ht : Touch S W W') (hn : ∀ k, OwnB A k → ¬ S k) : W'.ownsRow B e sz (.slice A n cap) n xs := by
  refine ⟨h.1, ?_⟩
  rcases h.2 with h2 | ⟨k, c, cur, hv, hb, hg, r⟩
  · exact .inl h2
  · cases hv
    exact .inr ⟨k, cap, cur, rfl, hb, by rw [ht.block k (Array.getElem?_eq_some_iff.1 hg).1 (hn k ⟨_, rfl, rfl⟩)]; exact hg, r⟩
theorem rowE_below {W W' : World} {B n cap sz : Nat} {e : TypeId} {A : Option Addr} {xs : List Value} (h : W.ownsRow B e sz (.slice A n cap) n xs) (hb : Below W.heap.size W W') : W'.ownsRow B e sz (.slice A n cap) n xs :=
  rowE_keep h (Touch.of_below (S := fun _ => False) hb) (fun _ _ h => h)
theorem grown_touch {W W' : World} {A : Option Addr} {n cap : Nat} (hg : W.grownBy W' (Value.slice A n cap).ownBlock) : Touch (fun k => OwnB A k) W W' := (Touch.refl _ _).grown hg (fun k hk => .inl (ownB_iff.2 hk))
theorem rowE_cells {W : World} {B n cap : Nat} {e : TypeId} {A : Option Addr} {xs : List Value} (h : W.ownsRow B e 1 (.slice A n cap) n xs) (hn : 0 < n) : ∃ g, A = some ⟨g, 0, none⟩ ∧ g < W.heap.size ∧ n ≤ cap ∧ cap ≤ maxLen ∧ ∀ i v, xs[i]? = some v → W.cell? ⟨g, i, none⟩ = some v := by
  rcases h.2 with ⟨h2, hx⟩ | ⟨g, c, cur, hv, hb, hg, hnc, hcm, _⟩
  · cases h2
    exact absurd hn (Nat.lt_irrefl 0)
  · cases hv
    refine ⟨g, rfl, (Array.getElem?_eq_some_iff.1 hg).1, hnc, hcm, fun i v hv => ?_⟩
    have hc := World.ownsRow.cells (g := g) h rfl i v hv
    rwa [show ((⟨g, 0, none⟩ : Addr).add i) = ⟨g, i, none⟩ from (by unfold Addr.add; split <;> simp_all)] at hc
end Go.Proofs.Ytlklnaebdnahcaa
namespace Go.Proofs.Ytlklnaebdnahcaa
open Go.RowKit
namespace Cv
def padsOk (ps : List Int) : Bool := ps.all (fun p => decide (p < 2147483647))
def ctOk (pt : Int) (ps : List Int) : Bool := decide (1 ≤ pt ∧ pt < 2147483647 ∧ ps.length ≤ 5000) && padsOk ps
theorem padsOk_iff {ps : List Int} : padsOk ps = true ↔ ∀ i, i < ps.length → ps.getD i 0 < 2147483647 := by
  unfold padsOk
  rw [List.all_eq_true]
  constructor
  · intro h i hi
    have := h (ps.getD i 0) (by rw [List.getD_eq_getElem?_getD, List.getElem?_eq_getElem hi]; exact List.getElem_mem hi)
    simpa using this
  · intro h x hx
    obtain ⟨i, hi, rfl⟩ := List.getElem_of_mem hx
    have := h i hi
    rw [List.getD_eq_getElem?_getD, List.getElem?_eq_getElem hi] at this
    simpa using this
theorem padsOk_no {ps : List Int} {k : Nat} (hk : k < ps.length) (h : 2147483647 ≤ ps.getD k 0) : padsOk ps = false := by
  cases hp : padsOk ps
  · rfl
  · have := padsOk_iff.1 hp k hk; omega
theorem ctOk_head {pt : Int} {ps : List Int} (h : ¬ (1 ≤ pt ∧ pt < 2147483647 ∧ ps.length ≤ 5000)) : ctOk pt ps = false := by unfold ctOk; rw [decide_eq_false h]; rfl
theorem ctOk_body {pt : Int} {ps : List Int} (h : 1 ≤ pt ∧ pt < 2147483647 ∧ ps.length ≤ 5000) : ctOk pt ps = padsOk ps := by unfold ctOk; rw [decide_eq_true h]; rfl
theorem ctOk_iff {pt : Int} {ps : List Int} : ctOk pt ps = true ↔ (1 ≤ pt ∧ pt < 2147483647 ∧ ps.length ≤ 5000) ∧ padsOk ps = true := by unfold ctOk; simp
end Cv
def PadsAt (w : World) (A : Option Addr) (ps : List Int) : Prop := ∀ i, i < ps.length → ∃ ad, A = some ad ∧ ad.block < w.heap.size ∧ w.cell? (ad.add i) = some (.int .u64 (ps.getD i 0))
theorem PadsAt.below {w w1 : World} {A : Option Addr} {ps : List Int} (h : PadsAt w A ps) (hb : Below w.heap.size w w1) : PadsAt w1 A ps := by
  intro i hi
  obtain ⟨ad, e, hlt, c0⟩ := h i hi
  exact ⟨ad, e, Nat.lt_of_lt_of_le hlt hb.size, (hb.cell (by rw [block_of_add]; exact hlt)).trans c0⟩
theorem notless_c (n : Int) (w : World) : Calls Try.prog 56 #[.int .u64 n] w fun e w' => e = .returned (.bool (decide (2147483647 ≤ n))) ∧ w = w' := by
  go_enter Try.func56, Try.ntmps56
  go_wp2
  go_ret
  exact ⟨rfl, rfl⟩
def IdxR (b : Bool) (P : World → Prop) (e : Ending) (w' : World) : Prop := ∃ r : Int, e = .returned (.int .i64 r) ∧ decide (0 ≤ r) = b ∧ P w'
set_option maxHeartbeats 1000000 in
theorem idxPads_c (A : Option Addr) (ps : List Int) (cap : Nat) (w : World) (hcap : ps.length ≤ cap) (hl : cap ≤ 9223372036854775807) (hw : PadsAt w A ps) :
    Calls Try.prog 84 #[.slice A ps.length cap, .func (.func 56) #[] #[]] w (IdxR (!Cv.padsOk ps) (fun w' => w = w')) := by
  have HW := Lib.hid hw
  clear hw
  go_enter Try.func84, Try.ntmps84
  go_wp2
  go_loop [8] (fun i => ∃ k : Nat, k ≤ ps.length ∧ i = .int .i64 k ∧ Hid (∀ j, j < k → ps.getD j 0 < 2147483647)) (fun i => ps.length - (intOf i).toNat)
  case atStart => exact ⟨0, Nat.zero_le _, rfl, Lib.hid (fun j hj => absurd hj (Nat.not_lt_zero _))⟩
  case round =>
    obtain ⟨k, hk, rfl, HA⟩ := hrel
    by_cases hlt : k < ps.length
    · obtain ⟨ad, rfl, hlb, hcell⟩ := HW.out k hlt
      have HNo := Lib.hid (Cv.padsOk_no hlt)
      have HYes := Lib.hid (fun (h : ps.getD k 0 < 2147483647) j (hj : j < k + 1) => (by
        by_cases e : j = k
        · subst e; exact h
        · exact HA.out j (by omega) : ps.getD j 0 < 2147483647))
      generalize ps.getD k 0 = x at hcell HNo HYes
      by_cases hb : 2147483647 ≤ x
      · have hb' : decide (2147483647 ≤ x) = true := decide_eq_true hb
        have HN := Lib.hid (HNo.out hb)
        clear hb
        go_wp2_with (go_at_call 56; refine (notless_c _ _).mono ?_; rintro e w' ⟨rfl, rfl⟩)
        go_ret
        exact ⟨_, rfl, by rw [HN.out]; simp, rfl⟩
      · have hb' : decide (2147483647 ≤ x) = false := decide_eq_false hb
        have HN := Lib.hid (HYes.out (by omega))
        clear hb
        go_wp2_with (go_at_call 56; refine (notless_c _ _).mono ?_; rintro e w' ⟨rfl, rfl⟩)
        go_round
        case rel => exact ⟨k + 1, by omega, by go_num, HN⟩
        case measure => simp [intOf]; omega
    · have e : k = ps.length := by omega
      subst e
      have HN := Lib.hid (Cv.padsOk_iff.2 HA.out)
      go_wp2
      go_ret
      exact ⟨_, rfl, by rw [HN.out]; rfl, rfl⟩
theorem anyPads_c (A : Option Addr) (ps : List Int) (cap : Nat) (w : World) (hcap : ps.length ≤ cap) (hl : cap ≤ 9223372036854775807) (hw : PadsAt w A ps) :
    Calls Try.prog 55 #[.slice A ps.length cap, .func (.func 56) #[] #[]] w fun e w' => e = .returned (.bool (!Cv.padsOk ps)) ∧ w = w' := by
  have hc := idxPads_c A ps cap w hcap hl hw
  clear hw
  go_enter Try.func55, Try.ntmps55
  go_wp2_with (go_at_call 84; refine hc.mono ?_; rintro e w' ⟨r, rfl, hr, rfl⟩; have HR := Lib.hid hr; clear hr)
  go_ret
  exact ⟨ret_bool HR.out, rfl⟩
set_option maxHeartbeats 1000000 in
theorem checkContract_c (pt : Int) (A : Option Addr) (ps : List Int) (cap : Nat) (w : World) (hcap : ps.length ≤ cap) (hl : cap ≤ 9223372036854775807) (hw : PadsAt w A ps) :
    Calls Try.prog 40 #[.agg #[.int .u64 pt, .slice A ps.length cap]] w fun e w' => e = .returned (.bool (Cv.ctOk pt ps)) ∧ Below w.heap.size w w' := by
  have hc := fun w0 hw0 => anyPads_c A ps cap w0 hcap hl hw0
  have HBW := fun w0 => Lib.hid (PadsAt.below (w1 := w0) hw)
  have hn63 : ps.length ≤ 9223372036854775807 := by omega
  clear hw
  by_cases h1 : 1 ≤ pt
  · have h1' : decide (1 ≤ pt) = true := decide_eq_true h1
    by_cases h2 : pt < 2147483647
    · have h2' : decide (pt < 2147483647) = true := decide_eq_true h2
      by_cases h3 : ps.length ≤ 5000
      · have h3' : decide ((ps.length : Int) ≤ 5000) = true := decide_eq_true (by omega)
        have HE := Lib.hid (Cv.ctOk_body ⟨h1, h2, h3⟩)
        clear h1 h2 h3
        generalize Cv.padsOk ps = b at *
        go_enter Try.func40, Try.ntmps40
        go_wp2_with (go_at_call 55; refine (hc _ ((HBW _).out ((Below.refl _ _).alloc (Nat.le_refl _) _))).mono ?_; rintro e w' ⟨rfl, rfl⟩)
        go_ret
        exact ⟨ret_bool (by rw [HE.out]), (Below.refl _ _).alloc (Nat.le_refl _) _⟩
      · have h3' : decide ((ps.length : Int) ≤ 5000) = false := decide_eq_false (by omega)
        have HE := Lib.hid (Cv.ctOk_head (pt := pt) (ps := ps) (by omega))
        clear h1 h2 h3 hc
        go_enter Try.func40, Try.ntmps40
        go_wp2
        go_ret
        exact ⟨ret_bool (by rw [HE.out]), (Below.refl _ _).alloc (Nat.le_refl _) _⟩
    · have h2' : decide (pt < 2147483647) = false := decide_eq_false h2
      have HE := Lib.hid (Cv.ctOk_head (pt := pt) (ps := ps) (by omega))
      clear h1 h2 hc
      go_enter Try.func40, Try.ntmps40
      go_wp2
      go_ret
      exact ⟨ret_bool (by rw [HE.out]), (Below.refl _ _).alloc (Nat.le_refl _) _⟩
  · have h1' : decide (1 ≤ pt) = false := decide_eq_false h1
    have HE := Lib.hid (Cv.ctOk_head (pt := pt) (ps := ps) (by omega))
    clear h1 hc
    go_enter Try.func40, Try.ntmps40
    go_wp2
    go_ret
    exact ⟨ret_bool (by rw [HE.out]), (Below.refl _ _).alloc (Nat.le_refl _) _⟩
end Go.Proofs.Ytlklnaebdnahcaa
namespace Go.Proofs.Ytlklnaebdnahcaa
open Go.RowKit
theorem info5 : (Try.prog.info? 5).map (fun i => (i.zero, i.size, i.bytes)) = some (some (.int .u8 0), 1, 1) := by kernel_rfl
abbrev BRow (B : Nat) (A : Option Addr) (n cap : Nat) (bs : List Int) (W : World) : Prop := W.ownsRow B 5 1 (.slice A n cap) n (bs.map (Value.int .u8))
theorem src_blk {W : World} {g : Nat} {t : TypeId} {cs : List Value} (h : Blk W g t cs) (m : Nat) : SrcRow W (some ⟨g, 0, none⟩) m cs :=
  .inr ⟨_, rfl, fun j u hu => by rw [show ((⟨g, 0, none⟩ : Addr).add j) = ⟨g, j, none⟩ from (by unfold Addr.add; split <;> simp_all)]; exact h.cell j hu⟩
theorem one_u8 (bs : List Int) : ∀ u ∈ bs.map (Value.int .u8), u.oneCell' = true := by
  intro u hu
  obtain ⟨b, _, rfl⟩ := List.mem_map.1 hu
  rfl
end Go.Proofs.Ytlklnaebdnahcaa
namespace Go.Proofs.Ytlklnaebdnahcaa
open Go.RowKit
theorem src_below {w w' : World} {A : Option Addr} {m : Nat} {xs : List Value} (h : SrcRow w A m xs) (hb : Below w.heap.size w w') : SrcRow w' A m xs := by
  rcases h with h | ⟨a, e, h⟩
  · exact .inl h
  · refine .inr ⟨a, e, fun j u hu => ?_⟩
    have h1 := h j u hu
    exact (hb.cell (World.block_lt_of_cell? _ _ h1)).trans h1
end Go.Proofs.Ytlklnaebdnahcaa
namespace Go.Proofs.Ytlklnaebdnahcaa
open Go Go.RowKit
section
variable {P : Program} {ops : Array Oper} {Q : Exit → Act → World → Prop} {md : Region.Mode} {S : Array Bool → World → Prop}
def Kept (md : Region.Mode) (ops : Array Oper) (listed : Array Bool) : Prop :=
  ∀ (j : Nat) (oj : Oper), ops[j]? = some oj → listed.getD j false = true → ∀ e ∈ oj.after, Region.binds md e = true → listed.getD e.on false = true
def AnyL (P : Program) (md : Region.Mode) (ops : Array Oper) (Q : Exit → Act → World → Prop) (S : Array Bool → World → Prop) : Nat → Array Bool → Act → World → Prop
  | 0, listed, a, w => Region.ready md ops listed = [] ∧ Q .normal a w
  | fuel + 1, listed, a, w => (Region.ready md ops listed = [] → Q .normal a w) ∧
    ∀ i ∈ Region.ready md ops listed, wpOp P ops Q i (fun a' w' => S (listed.setIfInBounds i true) w' ∧ AnyL P md ops Q S fuel (listed.setIfInBounds i true) a' w') a w
theorem AnyL.any : ∀ (fuel : Nat) (listed : Array Bool) (a : Act) (w : World), AnyL P md ops Q S fuel listed a w → wpAny P md ops Q fuel listed a w
  | 0, _, _, _, h => h
  | fuel + 1, _, _, _, h => ⟨h.1, fun i hi => wpOp_mono (fun a' w' h' => AnyL.any fuel _ a' w' h'.2) (h.2 i hi)⟩
def Ahead (md : Region.Mode) (ops : Array Oper) (S : Array Bool → World → Prop) (i : Nat) (w : World) : Prop := ∃ listed, listed.getD i true = false ∧ Kept md ops listed ∧ S listed w
theorem kept_set {listed : Array Bool} {i : Nat} (h : Kept md ops listed) (hr : i ∈ Region.ready md ops listed) : Kept md ops (listed.setIfInBounds i true) := by
  intro j oj hj hl e he hb
  by_cases hji : i = j
  · subst hji
    obtain ⟨_, o, ho, hall⟩ := mem_ready.1 hr
    rw [ho] at hj
    cases hj
    exact getD_set_true (hall e he hb)
  · rw [getD_set_ne false hji] at hl
    exact getD_set_true (h j oj hj hl e he hb)
theorem anyL_first {i : Nat} {oi : Oper} {v : Value} (hi : ops[i]? = some oi) (hsel : ∀ (j : Nat) (o : Oper) cs b, ops[j]? = some o → o.op ≠ .select cs b)
    (hQ : ∀ c a w, Q (.panic c) (a.put oi.dst v) w → Q (.panic c) a w) (hSi : ∀ listed w, S (listed.setIfInBounds i true) w → S listed w) :
    ∀ (fuel : Nat) (listed : Array Bool) (a : Act) (w : World),
      (∀ j oj, ops[j]? = some oj → j ≠ i → listed.getD j true = false → (∀ e ∈ oj.after, Region.binds md e = true → e.on ≠ i) → oi.apart ops oj = true) →
      i ∈ Region.ready md ops listed → Kept md ops listed → YieldsIf P ops (Ahead md ops S i) oi v a → S listed w →
      AnyL P md ops Q S fuel (listed.setIfInBounds i true) (a.put oi.dst v) w → S (listed.setIfInBounds i true) w → AnyL P md ops Q S (fuel + 1) listed a w := by
  intro fuel
  induction fuel with
  | zero =>
    intro listed a w _ hr hk hy hS H hS1
    refine ⟨fun h => (by rw [h] at hr; cases hr), fun j hj => ?_⟩
    by_cases hji : j = i
    · subst hji; exact hy.wpOp hi ⟨listed, (mem_ready.1 hr).1, hk, hS⟩ ⟨hS1, H⟩
    · have := ready_mono hj hji
      rw [H.1] at this
      cases this
  | succ fuel ih =>
    intro listed a w hfree hr hk hy hS H hS1
    refine ⟨fun h => (by rw [h] at hr; cases hr), fun j hj => ?_⟩
    by_cases hji : j = i
    · subst hji; exact hy.wpOp hi ⟨listed, (mem_ready.1 hr).1, hk, hS⟩ ⟨hS1, H⟩
    · have h1 := H.2 j (ready_mono hj hji)
      obtain ⟨hjun, oj, hoj, hall⟩ := mem_ready.1 hj
      have hnot : ∀ e ∈ oj.after, Region.binds md e = true → e.on ≠ i := fun e he hb heq => by
        have h1 := hall e he hb
        have h0 := (mem_ready.1 hr).1
        rw [heq] at h1
        rcases Nat.lt_or_ge i listed.size with h' | h'
        · simp [h'] at h0 h1; rw [h0] at h1; cases h1
        · simp [Array.getElem?_eq_none h'] at h1
      have h2 := wpOp_putIf hoj (hfree j oj hoj hji hjun hnot) (fun cs b => hsel i oi cs b hi) (fun cs b => hsel j oj cs b hoj) hQ hy h1
      have hfree' : ∀ k ok, ops[k]? = some ok → k ≠ i → (listed.setIfInBounds j true).getD k true = false →
          (∀ e ∈ ok.after, Region.binds md e = true → e.on ≠ i) → oi.apart ops ok = true := fun k ok hk hki hun hno => by
        refine hfree k ok hk hki ?_ hno
        by_cases hjk : j = k
        · subst hjk; exact hjun
        · rw [getD_set_ne true hjk] at hun; exact hun
      refine wpOp_mono (fun a' w' h3 => ?_) h2
      have hc : (listed.setIfInBounds i true).setIfInBounds j true = (listed.setIfInBounds j true).setIfInBounds i true := by rw [Array.setIfInBounds_comm _ _ (Ne.symm hji)]
      have hS' : S (listed.setIfInBounds j true) w' := hSi _ _ (by rw [← hc]; exact h3.2.1)
      exact ⟨hS', ih (listed.setIfInBounds j true) a' w' hfree' (ready_mono hr (Ne.symm hji)) (kept_set hk hj) h3.1 hS' (by rw [← hc]; exact h3.2.2) (by rw [← hc]; exact h3.2.1)⟩
def waitsB (md : Region.Mode) (ops : Array Oper) : List Nat → Bool
  | b :: c :: r => (match ops[b]? with | some o => o.after.any (fun e => Region.binds md e && e.on == c) | none => false) && waitsB md ops (c :: r)
  | _ => true
theorem waits_no {listed : Array Bool} (hk : Kept md ops listed) : ∀ (p : List Nat) (b i : Nat), waitsB md ops (b :: (p ++ [i])) = true → listed.getD i true = false → listed.getD b false = false
  | [], b, i, h, hi => by
    simp only [List.nil_append, waitsB, Bool.and_true] at h
    split at h
    · rename_i o ho
      cases hb : listed.getD b false
      · rfl
      · obtain ⟨e, he, h1⟩ := Array.any_eq_true'.1 h
        simp only [Bool.and_eq_true, beq_iff_eq] at h1
        have h2 := hk b o ho hb e he h1.1
        rw [h1.2] at h2
        rcases Nat.lt_or_ge i listed.size with h' | h'
        · simp [h'] at hi h2; rw [hi] at h2; cases h2
        · simp [Array.getElem?_eq_none h'] at h2
    · cases h
  | c :: p, b, i, h, hi => by
    have h' : waitsB md ops (b :: c :: (p ++ [i])) = true := h
    simp only [waitsB, Bool.and_eq_true] at h'
    obtain ⟨h1, h2⟩ := h'
    have hc := waits_no hk p c i h2 hi
    split at h1
    · rename_i o ho
      cases hb : listed.getD b false
      · rfl
      · obtain ⟨e, he, h3⟩ := Array.any_eq_true'.1 h1
        simp only [Bool.and_eq_true, beq_iff_eq] at h3
        have h4 := hk b o ho hb e he h3.1
        rw [h3.2, hc] at h4
        cases h4
    · cases h1
end
section
variable {P : Program} {l : List Oper} {Q : Exit → Act → World → Prop} {md : Region.Mode} {S : Array Bool → World → Prop}
theorem still {listed : Array Bool} {C : Prop} {b i : Nat} (p : List Nat) (hk : Kept md l.toArray listed) (hi : listed.getD i true = false) (hp : waitsB md l.toArray (b :: (p ++ [i])) = true) (h : listed.getD b false = true ∨ C) : C :=
  h.resolve_left (by rw [waits_no hk p b i hp hi]; decide)
def GoL (P : Program) (md : Region.Mode) (l : List Oper) (Q : Exit → Act → World → Prop) (S : Array Bool → World → Prop) (fuel : Nat) (listed : Array Bool) (a : Act) (w : World) : Prop :=
  Kept md l.toArray listed → AnyL P md l.toArray Q S fuel listed a w
theorem lTake {i : Nat} {oi : Oper} {v : Value} {fuel : Nat} {listed : Array Bool} {a : Act} {w : World} (hi : l[i]? = some oi)
    (hs : Region.noSelect l.toArray = true) (hf : Region.free md l.toArray listed i = true) (hr : (Region.ready md l.toArray listed).contains i = true)
    (hQ : ∀ c a w, Q (.panic c) (a.put oi.dst v) w → Q (.panic c) a w) (hw : Region.wanted oi (yielded l.toArray a.tmps) = true) (hSi : ∀ listed w, S (listed.setIfInBounds i true) w → S listed w) (hSj : ∀ listed w, S listed w → S (listed.setIfInBounds i true) w)
    (hy : ∀ L w, L.getD i true = false → Kept md l.toArray L → S L w → (execOp a.eval oi).run P w = .ok (.value v) w) (hS : S listed w)
    (h : S (listed.setIfInBounds i true) w → GoL P md l Q S fuel (listed.setIfInBounds i true) (a.put oi.dst v) w) : GoL P md l Q S (fuel + 1) listed a w := fun hk => by
  have hi' : l.toArray[i]? = some oi := by simpa using hi
  have hr' : i ∈ Region.ready md l.toArray listed := by simpa using hr
  exact anyL_first hi' (Region.noSelect_spec hs) hQ hSi fuel listed a w (Region.free_spec hi' hf) hr' hk (.inl ⟨hw, fun w' ⟨L, h1, h2, h3⟩ => hy L w' h1 h2 h3⟩) hS (h (hSj _ _ hS) (kept_set hk hr')) (hSj _ _ hS)
def AllL (P : Program) (md : Region.Mode) (l : List Oper) (Q : Exit → Act → World → Prop) (S : Array Bool → World → Prop) (fuel : Nat) (listed : Array Bool) (a : Act) (w : World) (rs : List Nat) : Prop :=
  ∀ i ∈ rs, wpOp P l.toArray Q i (fun a' w' => S (listed.setIfInBounds i true) w' ∧ GoL P md l Q S fuel (listed.setIfInBounds i true) a' w') a w
theorem AllL.nil {fuel : Nat} {listed : Array Bool} {a : Act} {w : World} : AllL P md l Q S fuel listed a w [] := fun _ h => by cases h
theorem AllL.cons {fuel : Nat} {listed : Array Bool} {a : Act} {w : World} {i : Nat} {o : Oper} {rs : List Nat} (ho : l[i]? = some o)
    (h : ∀ K' : Act → World → Prop, Shut (∀ a w, S (listed.setIfInBounds i true) w → (S (listed.setIfInBounds i true) w → GoL P md l Q S fuel (listed.setIfInBounds i true) a w) → K' a w) → if Region.wanted o (yielded l.toArray a.tmps) = true then Oper.wp P o a w K' Q else K' (a.put o.dst undef) w)
    (hs : AllL P md l Q S fuel listed a w rs) : AllL P md l Q S fuel listed a w (i :: rs) := fun j hj => by
  rcases List.mem_cons.1 hj with rfl | hj
  · exact wpOp_step (by simpa using ho) (fun K' hK => h K' (fun a w hS hW => hK a w ⟨hS, hW hS⟩))
  · exact hs j hj
theorem lReady {rs : List Nat} {fuel : Nat} {listed : Array Bool} {a : Act} {w : World} (hr : Region.ready md l.toArray listed = rs) (hne : rs ≠ [])
    (h : AllL P md l Q S fuel listed a w rs) : GoL P md l Q S (fuel + 1) listed a w := fun hk =>
  ⟨fun h0 => absurd (hr ▸ h0) hne, fun i hi => wpOp_mono (fun _ _ h' => ⟨h'.1, h'.2 (kept_set hk hi)⟩) (h i (hr ▸ hi))⟩
theorem lDone {listed : Array Bool} {a : Act} {w : World} (hr : Region.ready md l.toArray listed = []) (h : Q .normal a w) : ∀ fuel, GoL P md l Q S fuel listed a w
  | 0 => fun _ => ⟨hr, h⟩
  | _ + 1 => fun _ => ⟨fun _ => h, by rw [hr]; simp⟩
theorem lBegin {id : Nat} {a : Act} {w : World} (hm : P.follows .mixedOrders = true) (hS : S (Array.replicate l.length false) w.drew)
    (h : S (Array.replicate l.length false) w.drew → GoL P .any l Q S l.length (Array.replicate l.length false) a w.drew) : (Code.region id l.toArray true).wp P Q a w := by
  refine wp_region_any hm ?_
  have h1 := AnyL.any _ _ _ _ (h hS (fun j oj hj hl => by
    rw [Array.getD_eq_getD_getElem?, Array.getElem?_replicate] at hl
    split at hl <;> cases hl))
  have e : l.toArray.size = l.length := by simp
  rw [e]
  exact h1
end
end Go.Proofs.Ytlklnaebdnahcaa
namespace Go.Proofs.Ytlklnaebdnahcaa
open Go Go.RowKit
section
variable {P : Program} {Q : Exit → Act → World → Prop} {md : Region.Mode}
def noDefer (l : List Oper) : Bool := l.all fun o => match o.op with | .defer _ => false | _ => true
theorem noDefer_spec {l : List Oper} (h : noDefer l = true) {o : Oper} (ho : o ∈ l) (c : Call) : o.op ≠ .defer c := by
  intro e
  have := List.all_eq_true.1 h o ho
  rw [e] at this
  cases this
theorem oper_round {o : Oper} {a : Act} {w : World} {K : Act → World → Prop} (k n : Nat) (hd : ∀ c, o.op ≠ .defer c) (h : Oper.wp P o a w K Q) : Oper.wpIn (Fence.wide.inRound k) n P o a w K Q := by
  unfold Oper.wpIn
  refine ⟨fun _ _ => trivial, ?_⟩
  rw [show (Fence.wide.inRound k).round = some k from rfl, Oper.semAt_some k _ _ hd]
  unfold Oper.wp at h
  generalize (execOp a.eval o).run P w = r at *
  cases r with
  | ok x w' =>
    cases x <;> simp only [Oper.upon, Oper.uponIn] at h ⊢
    case value => exact h
    case skip => exact h
    case defer => exact h
    case enter f args => exact ⟨fun e => (by cases e), CallsIn.inRound k (callsIn_wide.2 h)⟩
    case row row args =>
      refine ⟨fun e => (by cases e), fun c cs _ => ?_⟩
      obtain ⟨v, w'', hR, hs⟩ := h c cs
      exact ⟨v, w'', hR, stepsIn_wide.2 hs⟩
  | halt x w' =>
    cases x <;> simp only [Oper.upon, Oper.uponIn] at h ⊢
    case panic => exact h
theorem wpOp_round {l : List Oper} {i : Nat} {a : Act} {w : World} {K : Act → World → Prop} (k n : Nat) (hq : ¬ LetsOut Q) (hd : noDefer l = true) (h : wpOp P l.toArray Q i K a w) : wpOpIn (Fence.wide.inRound k) n P l.toArray Q i K a w := by
  unfold wpOp at h
  unfold wpOpIn
  cases ho : l.toArray[i]? with
  | none => simpa [ho] using h
  | some o =>
    simp only [ho] at h ⊢
    have hm : o ∈ l := by simpa using Array.mem_of_getElem? ho
    split
    · rename_i hw
      rw [if_pos hw] at h
      exact oper_round k n (noDefer_spec hd hm) (h.resolve_right (fun h' => hq h'.2))
    · rename_i hw
      rw [if_neg hw] at h
      exact ⟨fun _ _ => trivial, h⟩
theorem wpAny_round {l : List Oper} (k n : Nat) (hq : ¬ LetsOut Q) (hd : noDefer l = true) : ∀ (fuel : Nat) (listed : Array Bool) (a : Act) (w : World), wpAny P md l.toArray Q fuel listed a w → wpAnyIn (Fence.wide.inRound k) n P md l.toArray Q fuel listed a w
  | 0, _, _, _, h => h
  | fuel + 1, listed, a, w, h => ⟨h.1, fun i hi => wpOpIn_mono (fun a' w' h' => wpAny_round k n hq hd fuel _ a' w' h') (wpOp_round k n hq hd (h.2 i hi))⟩
theorem lBeginIn {l : List Oper} {S : Array Bool → World → Prop} {id k n : Nat} {a : Act} {w : World} (hm : P.follows .mixedOrders = true) (hd : noDefer l = true) (hq : ¬ LetsOut Q) (hS : S (Array.replicate l.length false) w.drew)
    (h : S (Array.replicate l.length false) w.drew → GoL P .any l Q S l.length (Array.replicate l.length false) a w.drew) : (Code.region id l.toArray true).wpIn (Fence.wide.inRound k) n P Q a w := by
  refine wpIn_region_any hm ?_
  have h1 := AnyL.any _ _ _ _ (h hS (fun j oj hj hl => by
    rw [Array.getD_eq_getD_getElem?, Array.getElem?_replicate] at hl
    split at hl <;> cases hl))
  have e : l.toArray.size = l.length := by simp
  rw [e]
  exact wpAny_round k n hq hd _ _ _ _ h1
end
end Go.Proofs.Ytlklnaebdnahcaa
namespace Go.Proofs.Ytlklnaebdnahcaa
open Go Go.RowKit
def rgPost {α : Type} (B : Nat) (I : List α → World → Prop) (c : Code) (Ix : List α → World → Prop) (pre : List α) (x : α) (W : World) : Exit → Act → World → Prop
  | .normal, _, W' => KeepsFrom B W W' ∧ I (pre ++ [x]) W'
  | .exit id, _, W' => c = .exit id ∧ KeepsFrom B W W' ∧ Ix (pre ++ [x]) W'
  | _, _, _ => False
theorem range_mine2 {α : Type} {F : Fence} {n : Nat} {P : Program} {g : Operand} {ps : Array Tmp} {assign body : Code} {Q : Exit → Act → World → Prop} {a : Act} {w : World}
    (hro : F.round = none) (h1 : 1 ≤ n) {gf : Nat} {lb : Array Value} (hg : a.eval g = .func (.func gf) #[] lb) (hFg : F.fn gf) (eg : ∀ args w, (callFunc gf args).run P w = .ok (.enter gf args) w)
    {encs : α → Array Value} (hps : ∀ x, (encs x).size = ps.size) (I Ix : List α → World → Prop) (c : Code) (S Sp : List α → Prop) (Ok : List α → α → Prop)
    (hI : OwnFrom w.heap.size I) (hIx : OwnFrom w.heap.size Ix) (h0 : I [] w)
    (hseq : ∀ (l : Nat) (J Jx : List α → World → Prop) (W : World), (∀ pre W, J pre W → I pre W) → (∀ pre W W', J pre W → W.grownBy W' none → J pre W') →
      (∀ pre x W1, J pre W1 → Ok pre x → YieldAt F (n - 1 - 1) P l (encs x) W1 fun e W' => (e = .returned (.bool true) ∧ J (pre ++ [x]) W') ∨ (e = .returned (.bool false) ∧ Jx (pre ++ [x]) W')) →
      J [] W → CallsIn F (n - 1) P gf (#[.func (.yield l) #[] #[]] ++ lb) W fun e W' => (∃ v, e = .returned v) ∧ ((∃ xs, S xs ∧ J xs W') ∨ (∃ pre, Sp pre ∧ Jx pre W')))
    (a₁ : α → Act)
    (hassign : ∀ (l : Nat) (x : α) (W : World) (K : Act → World → Prop), K (a₁ x) W →
      assign.wpIn (F.inRound l) (n - 1 - 1) P (Exit.then K (fun _ _ _ => False)) { tmps := (ps.zip (encs x)).foldl (fun t (p, v) => t.setIfInBounds p v) a.tmps, defers := [] } W)
    (hbody : ∀ (l : Nat) (pre : List α) (x : α) (W : World), I pre W → Ok pre x → body.wpIn (F.inRound l) (n - 1 - 1) P (rgPost w.heap.size I c Ix pre x W) (a₁ x) W)
    (hdone : ∀ (D : Nat) (xs : List α) (W : World), w.heap.size ≤ D → S xs → I xs W → W.heap[D]? = some (.deferred (some [])) → Q .normal { a with defers := { target := .collected D, args := #[] } :: a.defers } W)
    (hstop : ∀ (D : Nat) (pre : List α) (W : World), w.heap.size ≤ D → Sp pre → Ix pre W → W.heap[D]? = some (.deferred (some [])) → c.wpIn F n P Q { a with defers := { target := .collected D, args := #[] } :: a.defers } W) :
    (Code.rangeFunc g ps assign body).wpIn F n P Q a w := by
  refine wpIn_rangeFunc fun fn hfn => ?_
  rw [hro]
  -- the two blocks of the loop
  generalize hd : w.heap.size = d at *
  obtain ⟨rec, hrec⟩ : ∃ rec : LoopState → Option Code → Loop, rec = fun st pe => { state := st, pending := pe, fn, tmps := a.tmps, params := ps, assign, body, defers := d } := ⟨_, rfl⟩
  obtain ⟨W1, hW1⟩ : ∃ W1, (w.alloc (.deferred (some []))).alloc (.loop (rec .ready none)) = W1 := ⟨_, rfl⟩
  have eL : W1.heap[d + 1]? = some (.loop (rec .ready none)) := by
    rw [← hW1, ← hd]
    have h := World.alloc_heap_new (w.alloc (.deferred (some []))) (.loop (rec .ready none))
    rwa [World.size_alloc] at h
  have eD : W1.heap[d]? = some (.deferred (some [])) := by
    rw [← hW1, ← hd]
    exact (Below.heap_alloc _ _ _ (by simp)).trans (World.alloc_heap_new w _)
  have i1 : I [] W1 := by rw [← hW1]; exact hI.alloc _ (hI.alloc _ h0)
  -- a turn of the record keeps what is kept
  have turn : ∀ {W : World} {o : Obj} (o' : Obj), W.heap[d + 1]? = some o → (W.putObj (d + 1) o').heap[d + 1]? = some o' ∧ ((W.putObj (d + 1) o').heap[d]? = W.heap[d]?) :=
    fun {W o} o' h => ⟨World.putObj_heap_same (Array.getElem?_eq_some_iff.1 h).1, World.putObj_heap_other (by omega)⟩
  refine ⟨d + 1, [{ target := .collected d, args := #[] }], W1, { target := .fn (.func gf) lb, args := #[.func (.yield (d + 1)) #[] #[]] }, W1, gf, #[.func (.yield (d + 1)) #[] #[]] ++ lb, W1, ?_, ?_, ?_, ?_, fun _ => h1, ?_⟩
  · rw [← hW1, hrec, ← hd]; exact run_enterLoop_outer _ _ _ _ _
  · simp only [resolve, hg]; simp [go_sem]
  · intro f' hf'
    simp [Target.leads] at hf'
    subst hf'
    exact hFg
  · simp [invoke, go_sem, eg]
  · refine (hseq (d + 1) (fun pre W => I pre W ∧ W.heap[d + 1]? = some (.loop (rec .ready none)) ∧ W.heap[d]? = some (.deferred (some [])))
      (fun pre W => Ix pre W ∧ W.heap[d + 1]? = some (.loop (rec .done (some c))) ∧ W.heap[d]? = some (.deferred (some []))) W1 (fun pre W h => h.1) (fun pre W W' h hg => ⟨hI pre W W' none h.1 hg (fun r e => by cases e), (hg.block _ (Array.getElem?_eq_some_iff.1 h.2.1).1 (by simp)).trans h.2.1, (hg.block _ (Array.getElem?_eq_some_iff.1 h.2.2).1 (by simp)).trans h.2.2⟩) ?_ ⟨i1, eL, eD⟩).mono ?_
    · rintro pre x W ⟨hi, hl, hk⟩ hok
      have hy := run_yield (P := P) (args := encs x) hl (by rw [hrec]; exact hps x)
      rw [hrec] at hy
      obtain ⟨W2, hW2⟩ : ∃ W2, W.putObj (d + 1) (.loop { rec .ready none with state := .busy }) = W2 := ⟨_, rfl⟩
      have hb := run_beginRound (P := P) hl (by rw [hrec])
      rw [hW2] at hb
      have t := turn (.loop { rec .ready none with state := .busy }) hl
      rw [hW2] at t
      have i2 : I pre W2 := by rw [← hW2]; exact hI.putObj _ hi (by omega) hl rfl
      refine ⟨fn, _, assign, body, hy, roundIn_of_wpIn hfn (hassign _ x W _ ⟨W2, hb, wpIn_mono (hbody _ pre x _ i2 hok) ?_⟩)⟩
      -- the end of the round, by the way in which it is left
      have close : ∀ (j : Option Code) (W3 : World), KeepsFrom d W2 W3 → ∃ W4, (Instr.endRound (d + 1) j).run P W3 = .ok (.bool j.isNone) W4 ∧ W4 = W3.putObj (d + 1) (.loop (rec (if j.isNone then .ready else .done) j)) ∧
          W3.heap[d + 1]? = some (.loop { rec .ready none with state := .busy }) ∧ W4.heap[d + 1]? = some (.loop (rec (if j.isNone then .ready else .done) j)) ∧ W4.heap[d]? = some (.deferred (some [])) := fun j W3 hk3 => by
        have l3 := hk3.same _ _ (by omega) t.1 rfl
        have k3 := hk3.same _ _ (by omega) (t.2.trans hk) rfl
        have he := run_endRound (P := P) j l3
        have t3 := turn (.loop (rec (if j.isNone then .ready else .done) j)) l3
        refine ⟨_, he, ?_, l3, ?_, ?_⟩
        · rw [hrec]
        · have := t3.1; rw [hrec] at this ⊢; exact this
        · exact (World.putObj_heap_other (by omega)).trans k3
      rintro e a3 W3 hp
      cases e with
      | normal =>
        obtain ⟨hk3, hi3⟩ := hp
        obtain ⟨W4, he, hW4, l3, l4, k4⟩ := close none W3 hk3
        refine ⟨_, _, he, .inl ⟨rfl, ?_, l4, k4⟩⟩
        rw [hW4]
        exact hI.putObj _ hi3 (by omega) l3 rfl
      | exit id =>
        obtain ⟨hc, hk3, hi3⟩ := hp
        obtain ⟨W4, he, hW4, l3, l4, k4⟩ := close (some (.exit id)) W3 hk3
        refine ⟨_, _, he, .inr ⟨rfl, ?_, by rw [hc]; exact l4, k4⟩⟩
        rw [hW4]
        exact hIx.putObj _ hi3 (by omega) l3 rfl
      | ret => exact hp.elim
      | goto t => exact hp.elim
      | panic ch => exact hp.elim
      | outgrown => exact hp.elim
    · rintro e W2 ⟨⟨v, rfl⟩, (⟨xs, hS, hi, hl, hk⟩ | ⟨pre, hSp, hi, hl, hk⟩)⟩
      · have he := run_endLoop (P := P) hl (by rw [hrec]; simp)
        rw [hrec] at he
        have t := turn (.loop { rec .ready none with state := .exhausted }) hl
        refine ⟨none, _, he, hdone d xs _ (by omega) hS (hI.putObj _ hi (by omega) hl rfl) ?_⟩
        have := t.2.trans hk
        rw [hrec] at this
        exact this
      · have he := run_endLoop (P := P) hl (by rw [hrec]; simp)
        rw [hrec] at he
        have t := turn (.loop { rec .done (some c) with state := .exhausted }) hl
        refine ⟨some c, _, he, hstop d pre _ (by omega) hSp (hIx.putObj _ hi (by omega) hl rfl) ?_⟩
        have := t.2.trans hk
        rw [hrec] at this
        exact this
end Go.Proofs.Ytlklnaebdnahcaa
namespace Go.Proofs.Ytlklnaebdnahcaa
open Go.RowKit Go.Shelf
attribute [local go_sem] Oper.semAt_some
theorem fieldOf_c (w : World) : Calls Try.prog 86 #[.int .i64 2] w fun e w' => e = .returned (.pointer (some ⟨w.heap.size, 4, none⟩)) ∧ w' = w.alloc (.cells #[.int .u64 257, .int .i64 1, .int .u64 65537, .int .i64 2, .int .u64 2147483647, .int .i64 3] 186) := by
  go_enter Try.func86, Try.ntmps86
  go_wp2
  go_ret
  exact ⟨rfl, rfl⟩
theorem words_c (f : Value) (m : Value) (w : World) (hf : ∃ A, f = .pointer A) (hm : ∃ A n c, m = .slice A n c) : Calls Try.prog 99 #[f, m] w fun e w' => e = .returned (.func (.func 101) #[] #[.pointer (some ⟨w.heap.size + 1, 0, none⟩), .pointer (some ⟨w.heap.size, 0, none⟩)]) ∧ w' = (w.alloc (.cells #[f] 175)).alloc (.cells #[m] 152) := by
  obtain ⟨A, rfl⟩ := hf
  obtain ⟨A, n, c, rfl⟩ := hm
  go_enter Try.func99, Try.ntmps99
  go_wp2
  go_ret
  exact ⟨rfl, rfl⟩
theorem or_byte (a b : Int) (ha : 0 ≤ a ∧ a ≤ 65535) (hb : 0 ≤ b ∧ b ≤ 255) : bits .or .u64 (a * 256) b = a * 256 + b := by
  obtain ⟨x, rfl⟩ := Int.eq_ofNat_of_zero_le ha.1
  obtain ⟨y, rfl⟩ := Int.eq_ofNat_of_zero_le hb.1
  have h1 : (BitVec.ofInt 64 ((x : Int) * 256)) = BitVec.ofNat 64 (x * 256) := by
    rw [show ((x : Int) * 256) = ((x * 256 : Nat) : Int) by omega]
    exact BitVec.ofInt_natCast 64 _
  have h2 : (BitVec.ofInt 64 (y : Int)) = BitVec.ofNat 64 y := BitVec.ofInt_natCast 64 _
  have h3 : (x * 256 ||| y) = x * 256 + y := by
    have h := Nat.two_pow_add_eq_or_of_lt (i := 8) (b := y) (by omega) x
    rw [show (2 : Nat) ^ 8 = 256 from rfl] at h
    rw [Nat.mul_comm x 256, ← h]
  show IntKind.u64.wrap (((BitVec.ofInt 64 ((x : Int) * 256)) ||| (BitVec.ofInt 64 (y : Int))).toNat : Int) = _
  rw [h1, h2]
  rw [BitVec.toNat_or, BitVec.toNat_ofNat, BitVec.toNat_ofNat, Nat.mod_eq_of_lt (by omega), Nat.mod_eq_of_lt (by omega), h3]
  rw [IntWalk.u64_in _ (by omega)]
  omega
theorem or_one (a : Int) (ha : 0 ≤ a ∧ a ≤ 65535) : bits .or .u64 (a * 256) 1 = a * 256 + 1 := or_byte a 1 ha (by omega)
theorem or_zero (b : Int) (hb : 0 ≤ b ∧ b ≤ 255) : bits .or .u64 0 b = b := by have := or_byte 0 b (by omega) hb; simpa using this
def DgI (w : World) (fa ma : Addr) (c : Nat) (x : Int) (l : List Int) (W : World) : Prop :=
  Blk W w.heap.size 175 [.pointer (some fa)] ∧ Blk W (w.heap.size + 1) 45 [.int .u64 x] ∧ Blk W (w.heap.size + 2) 45 [.int .u64 (Pf.horn x l)] ∧ Blk W (w.heap.size + 3) 175 [.pointer (some fa)] ∧ Blk W (w.heap.size + 4) 152 [.slice (some ma) 8 c] ∧ Below w.heap.size w W
section
variable {w W W' : World} {fa ma : Addr} {c : Nat} {x : Int} {l : List Int}
theorem Blk.turn9 {row : Option Nat} {b : Nat} {t : TypeId} {cs : List Value} (h : Blk W b t cs) (hg : W.grownBy W' row) (hr : ∀ r, row = some r → ∃ o : Obj, W.heap[r]? = some o ∧ o.isCells = false) : Blk W' b t cs :=
  h.grown hg (fun e => by
    obtain ⟨o, ho, hc⟩ := hr b e.symm
    have h' : W.heap[b]? = some (.cells cs.toArray t (0, 0)) := h
    rw [h'] at ho
    cases ho
    cases hc)
theorem DgI.own {B : Nat} (hB : w.heap.size ≤ B) : OwnFrom B (DgI w fa ma c x) := by
  rintro pre W W' row ⟨h1, h2, h3, h4, h5, h6⟩ hg hr
  have h' := fun r e => (hr r e).2
  exact ⟨h1.turn9 hg h', h2.turn9 hg h', h3.turn9 hg h', h4.turn9 hg h', h5.turn9 hg h', h6.grown hg h6.size (fun r e => by have := (hr r e).1; omega)⟩
theorem DgI.start (w1 : World) (h : w1 = ((((w.alloc (.cells #[.pointer (some fa)] 175)).alloc (.cells #[.int .u64 x] 45)).alloc (.cells #[.int .u64 0] 45)).alloc (.cells #[.pointer (some fa)] 175)).alloc (.cells #[.slice (some ma) 8 c] 152)) : DgI w fa ma c x [] w1 := by
  subst h
  have b0 := (((Blk.new' w #[.pointer (some fa)] 175).alloc (.cells #[.int .u64 x] 45)).alloc (.cells #[.int .u64 0] 45)).alloc (.cells #[.pointer (some fa)] 175) |>.alloc (.cells #[.slice (some ma) 8 c] 152)
  have b1 := (((Blk.new' (w.alloc (.cells #[.pointer (some fa)] 175)) #[.int .u64 x] 45).alloc (.cells #[.int .u64 0] 45)).alloc (.cells #[.pointer (some fa)] 175)).alloc (.cells #[.slice (some ma) 8 c] 152)
  have b2 := ((Blk.new' ((w.alloc (.cells #[.pointer (some fa)] 175)).alloc (.cells #[.int .u64 x] 45)) #[.int .u64 0] 45).alloc (.cells #[.pointer (some fa)] 175)).alloc (.cells #[.slice (some ma) 8 c] 152)
  have b3 := (Blk.new' (((w.alloc (.cells #[.pointer (some fa)] 175)).alloc (.cells #[.int .u64 x] 45)).alloc (.cells #[.int .u64 0] 45)) #[.pointer (some fa)] 175).alloc (.cells #[.slice (some ma) 8 c] 152)
  have b4 := Blk.new' ((((w.alloc (.cells #[.pointer (some fa)] 175)).alloc (.cells #[.int .u64 x] 45)).alloc (.cells #[.int .u64 0] 45)).alloc (.cells #[.pointer (some fa)] 175)) #[.slice (some ma) 8 c] 152
  simp only [World.size_alloc] at b1 b2 b3 b4
  exact ⟨b0, b1, b2, b3, b4, (((((Below.refl _ _).alloc (Nat.le_refl _) _).alloc (by simp) _).alloc (by simp; omega) _).alloc (by simp; omega) _).alloc (by simp; omega) _⟩
theorem DgI.step {y : Int} (h : DgI w fa ma c x l W) : DgI w fa ma c x (l ++ [y]) (W.setCell ⟨w.heap.size + 2, 0, none⟩ (.int .u64 ((Pf.horn x l + y) * x % 2147483647))) := by
  obtain ⟨h1, h2, h3, h4, h5, h6⟩ := h
  have h3' := h3.setCell 0 (.int .u64 ((Pf.horn x l + y) * x % 2147483647))
  rw [← Pf.horn_snoc] at h3' ⊢
  exact ⟨h1.setCell_ne (by simp) _, h2.setCell_ne (by simp) _, by simpa using h3', h4.setCell_ne (by simp) _, h5.setCell_ne (by simp) _, h6.setCell (by simp) _⟩
end
def FmAt (w : World) (F g : Nat) (bs : List Int) : Prop := (w.cell? ⟨F, 4, none⟩ = some (.int .u64 2147483647) ∧ w.cell? ⟨F, 5, none⟩ = some (.int .i64 3)) ∧ (bs.length = 8 ∧ ∀ x ∈ bs, 0 ≤ x ∧ x ≤ 255) ∧ ∀ j, j < 8 → w.cell? ⟨g, j, none⟩ = some (.int .u8 (bs.getD j 0))
theorem FmAt.below {w w1 : World} {F g : Nat} {bs : List Int} (h : FmAt w F g bs) (hb : Below w.heap.size w w1) : FmAt w1 F g bs := by
  obtain ⟨⟨h1, h2⟩, h3, h4⟩ := h
  exact ⟨⟨(hb.cell (World.block_lt_of_cell? _ _ h1)).trans h1, (hb.cell (World.block_lt_of_cell? _ _ h2)).trans h2⟩, h3, fun j hj => (hb.cell (World.block_lt_of_cell? _ _ (h4 j hj))).trans (h4 j hj)⟩
theorem eight (bs : List Int) (h : bs.length = 8) : ∃ a b c d e f g i : Int, bs = [a, b, c, d, e, f, g, i] := by
  match bs, h with
  | [a, b, c, d, e, f, g, i], _ => exact ⟨a, b, c, d, e, f, g, i, rfl⟩
set_option maxHeartbeats 4000000 in
theorem words1_c (w : World) (F G c : Nat) (x : Int) (bs : List Int) (l : Nat) (hfm : FmAt w F G bs) (hc8 : 8 ≤ c) (hcm : c ≤ maxLen) (J Jx : List Int → World → Prop) (hJ : ∀ pre W, J pre W → DgI w ⟨F, 4, none⟩ ⟨G, 0, none⟩ c x pre W) (hJg : ∀ pre W W', J pre W → W.grownBy W' none → J pre W')
    (hY : ∀ pre y W1, J pre W1 → (0 ≤ y ∧ y ≤ 16777215) → YieldAt Fence.wide 1 Try.prog l #[.int .u64 y] W1 fun e W' => (e = .returned (.bool true) ∧ J (pre ++ [y]) W') ∨ (e = .returned (.bool false) ∧ Jx (pre ++ [y]) W'))
    (W : World) (hj : J [] W) :
    CallsIn Fence.wide 2 Try.prog 101 #[.func (.yield l) #[] #[], .pointer (some ⟨w.heap.size + 4, 0, none⟩), .pointer (some ⟨w.heap.size + 3, 0, none⟩)] W fun e W' => (∃ v, e = .returned v) ∧ ((∃ ys, ys = Pf.ws (bs ++ [1]) 3 ∧ J ys W') ∨ (∃ pre, True ∧ Jx pre W')) := by
  refine callsIn_of_wp Try.func101 rfl trivial ?_ rfl
  simp only [Try.ntmps101, List.size_toArray, List.length_cons, List.length_nil, Nat.reduceAdd, Nat.reduceSub, Array.replicate_succ, Array.replicate_zero, List.push_toArray, List.append_toArray, List.nil_append, List.cons_append]
  obtain ⟨b0, b1, b2, b3, b4, b5, b6, b7, rfl⟩ := eight bs hfm.2.1.1
  have HB := Lib.hid hfm.2.1.2
  have HF := Lib.hid hfm
  have HJ := Lib.hid hJ
  have HJg := Lib.hid hJg
  have HY := Lib.hid hY
  obtain ⟨fn, tmps, assign, body, hy, hR⟩ := hY _ 1 _ hj (by omega)
  clear hJ hJg hY hj hfm
  unfold maxLen at hcm
  gi_wp2
  refine hR.mono ?_
  rintro e W1 (⟨rfl, hJ1⟩ | ⟨rfl, hJx1⟩)
  · have HJ1 := Lib.hid hJ1
    clear hJ1
    gi_wp2
    gi_loopw [4] (fun i wr => ∃ k : Nat, k ≤ 3 ∧ i = .int .i64 k ∧ Hid (J (Pf.ws ([b0, b1, b2, b3, b4, b5, b6, b7] ++ [1]) k) wr)) (fun i _ => 3 - (intOf i).toNat)
    case atStart => exact ⟨0, by omega, rfl, HJ1⟩
    case round =>
      obtain ⟨k, hk, rfl, HK⟩ := hrel
      obtain ⟨d1, d2, d3, d4, d5, d6⟩ := HJ.out _ _ HK.out
      have p3 := d4.cell 0 rfl
      have p4 := d5.cell 0 rfl
      obtain ⟨⟨q1, q2⟩, -, q3⟩ := HF.out.below (w1 := wr) ⟨d6.os, d6.tape, d6.output, d6.size, d6.block⟩
      have c0 : wr.cell? ⟨G, 0, none⟩ = some (.int .u8 b0) := q3 0 (by omega)
      have c1 : wr.cell? ⟨G, 1, none⟩ = some (.int .u8 b1) := q3 1 (by omega)
      have c2 : wr.cell? ⟨G, 2, none⟩ = some (.int .u8 b2) := q3 2 (by omega)
      have c3 : wr.cell? ⟨G, 3, none⟩ = some (.int .u8 b3) := q3 3 (by omega)
      have c4 : wr.cell? ⟨G, 4, none⟩ = some (.int .u8 b4) := q3 4 (by omega)
      have c5 : wr.cell? ⟨G, 5, none⟩ = some (.int .u8 b5) := q3 5 (by omega)
      have c6 : wr.cell? ⟨G, 6, none⟩ = some (.int .u8 b6) := q3 6 (by omega)
      have c7 : wr.cell? ⟨G, 7, none⟩ = some (.int .u8 b7) := q3 7 (by omega)
      have hBd : (0 ≤ b0 ∧ b0 ≤ 255) ∧ (0 ≤ b1 ∧ b1 ≤ 255) ∧ (0 ≤ b2 ∧ b2 ≤ 255) ∧ (0 ≤ b3 ∧ b3 ≤ 255) ∧ (0 ≤ b4 ∧ b4 ≤ 255) ∧ (0 ≤ b5 ∧ b5 ≤ 255) ∧ (0 ≤ b6 ∧ b6 ≤ 255) ∧ (0 ≤ b7 ∧ b7 ≤ 255) := by
        have h := HB.out
        simp at h
        exact h
      obtain ⟨e0, e1, e2, e3, e4, e5, e6, e7⟩ := hBd
      have HSz := Lib.hid d6.size
      clear d1 d2 d3 d4 d5 d6 q3
      have h4 : k = 0 ∨ k = 1 ∨ k = 2 ∨ k = 3 := by omega
      rcases h4 with rfl | rfl | rfl | rfl
      · have HS := Lib.hid (show Pf.ws ([b0, b1, b2, b3, b4, b5, b6, b7] ++ [1]) (0 + 1) = Pf.ws ([b0, b1, b2, b3, b4, b5, b6, b7] ++ [1]) 0 ++ [((b0 * 256 + b1) * 256 + b2)] from by
          rw [Pf.ws_succ]
          show _ ++ [Pf.wd b0 b1 b2] = _
          rw [show Pf.wd b0 b1 b2 = ((b0 * 256 + b1) * 256 + b2) from by unfold Pf.wd; omega])
        have o0 := or_zero b0 e0
        have o1 := or_byte b0 b1 (by omega) e1
        have o2 := or_byte (b0 * 256 + b1) b2 (by omega) e2
        gi_wp2
        refine wpIn_wide.2 ?_
        go_quiet (fail)
        gi_wp2
        refine wpIn_loop_rounds 4 ?_
        rw [roundsIn_succ]
        gi_wp2
        rw [roundsIn_succ]
        gi_wp2
        rw [roundsIn_succ]
        have HKd := Lib.hid (HJg.out _ _ (wr.drewN nq) HK.out ⟨rfl, rfl, rfl, Nat.le_refl _, fun _ _ _ => rfl⟩)
        gi_wp2
        rw [roundsIn_succ]
        obtain ⟨fn2, tmps2, assign2, body2, hy2, hR2⟩ := HY.out _ ((b0 * 256 + b1) * 256 + b2) _ HKd.out (by omega)
        gi_wp2
        refine hR2.mono ?_
        rintro e W3 (⟨rfl, hJ3⟩ | ⟨rfl, hJx3⟩)
        · have HJ3 : Hid (J (Pf.ws ([b0, b1, b2, b3, b4, b5, b6, b7] ++ [1]) (0 + 1)) W3) := Lib.hid (by rw [HS.out]; exact hJ3)
          clear hJ3
          gi_wp2
          go_roundw
          case rel => exact ⟨0 + 1, by omega, rfl, HJ3⟩
          case measure => simp [intOf]
        · have HJX := Lib.hid hJx3
          clear hJx3
          gi_wp2
          refine bodyPost_ret (results_none rfl _ _ _) rfl ?_
          exact ⟨⟨_, rfl⟩, .inr ⟨_, trivial, HJX.out⟩⟩
      · have HS := Lib.hid (show Pf.ws ([b0, b1, b2, b3, b4, b5, b6, b7] ++ [1]) (1 + 1) = Pf.ws ([b0, b1, b2, b3, b4, b5, b6, b7] ++ [1]) 1 ++ [((b3 * 256 + b4) * 256 + b5)] from by
          rw [Pf.ws_succ]
          show _ ++ [Pf.wd b3 b4 b5] = _
          rw [show Pf.wd b3 b4 b5 = ((b3 * 256 + b4) * 256 + b5) from by unfold Pf.wd; omega])
        have o0 := or_zero b3 e3
        have o1 := or_byte b3 b4 (by omega) e4
        have o2 := or_byte (b3 * 256 + b4) b5 (by omega) e5
        gi_wp2
        refine wpIn_wide.2 ?_
        go_quiet (fail)
        gi_wp2
        refine wpIn_loop_rounds 4 ?_
        rw [roundsIn_succ]
        gi_wp2
        rw [roundsIn_succ]
        gi_wp2
        rw [roundsIn_succ]
        have HKd := Lib.hid (HJg.out _ _ (wr.drewN nq) HK.out ⟨rfl, rfl, rfl, Nat.le_refl _, fun _ _ _ => rfl⟩)
        gi_wp2
        rw [roundsIn_succ]
        obtain ⟨fn2, tmps2, assign2, body2, hy2, hR2⟩ := HY.out _ ((b3 * 256 + b4) * 256 + b5) _ HKd.out (by omega)
        gi_wp2
        refine hR2.mono ?_
        rintro e W3 (⟨rfl, hJ3⟩ | ⟨rfl, hJx3⟩)
        · have HJ3 : Hid (J (Pf.ws ([b0, b1, b2, b3, b4, b5, b6, b7] ++ [1]) (1 + 1)) W3) := Lib.hid (by rw [HS.out]; exact hJ3)
          clear hJ3
          gi_wp2
          go_roundw
          case rel => exact ⟨1 + 1, by omega, rfl, HJ3⟩
          case measure => simp [intOf]
        · have HJX := Lib.hid hJx3
          clear hJx3
          gi_wp2
          refine bodyPost_ret (results_none rfl _ _ _) rfl ?_
          exact ⟨⟨_, rfl⟩, .inr ⟨_, trivial, HJX.out⟩⟩
      · have HS := Lib.hid (show Pf.ws ([b0, b1, b2, b3, b4, b5, b6, b7] ++ [1]) (2 + 1) = Pf.ws ([b0, b1, b2, b3, b4, b5, b6, b7] ++ [1]) 2 ++ [((b6 * 256 + b7) * 256 + 1)] from by
          rw [Pf.ws_succ]
          show _ ++ [Pf.wd b6 b7 1] = _
          rw [show Pf.wd b6 b7 1 = ((b6 * 256 + b7) * 256 + 1) from by unfold Pf.wd; omega])
        have o0 := or_zero b6 e6
        have o1 := or_byte b6 b7 (by omega) e7
        have o2 := or_one (b6 * 256 + b7) (by omega)
        gi_wp2
        refine wpIn_wide.2 ?_
        go_quiet (fail)
        gi_wp2
        refine wpIn_loop_rounds 4 ?_
        rw [roundsIn_succ]
        gi_wp2
        rw [roundsIn_succ]
        gi_wp2
        rw [roundsIn_succ]
        have HKd := Lib.hid (HJg.out _ _ (wr.drewN nq) HK.out ⟨rfl, rfl, rfl, Nat.le_refl _, fun _ _ _ => rfl⟩)
        gi_wp2
        rw [roundsIn_succ]
        obtain ⟨fn2, tmps2, assign2, body2, hy2, hR2⟩ := HY.out _ ((b6 * 256 + b7) * 256 + 1) _ HKd.out (by omega)
        gi_wp2
        refine hR2.mono ?_
        rintro e W3 (⟨rfl, hJ3⟩ | ⟨rfl, hJx3⟩)
        · have HJ3 : Hid (J (Pf.ws ([b0, b1, b2, b3, b4, b5, b6, b7] ++ [1]) (2 + 1)) W3) := Lib.hid (by rw [HS.out]; exact hJ3)
          clear hJ3
          gi_wp2
          go_roundw
          case rel => exact ⟨2 + 1, by omega, rfl, HJ3⟩
          case measure => simp [intOf]
        · have HJX := Lib.hid hJx3
          clear hJx3
          gi_wp2
          refine bodyPost_ret (results_none rfl _ _ _) rfl ?_
          exact ⟨⟨_, rfl⟩, .inr ⟨_, trivial, HJX.out⟩⟩
      · gi_wp2
        refine wpIn_wide.2 ?_
        go_quiet (fail)
        gi_wp2
        go_end0
        exact ⟨⟨_, rfl⟩, .inl ⟨_, rfl, HJg.out _ _ _ HK.out ⟨rfl, rfl, rfl, Nat.le_refl _, fun _ _ _ => rfl⟩⟩⟩
  · have HJX := Lib.hid hJx1
    clear hJx1
    gi_wp2
    refine bodyPost_ret (results_none rfl _ _ _) rfl ?_
    exact ⟨⟨_, rfl⟩, .inr ⟨_, trivial, HJX.out⟩⟩
end Go.Proofs.Ytlklnaebdnahcaa
namespace Go.Proofs.Ytlklnaebdnahcaa
open Go.RowKit Go.Shelf
attribute [local go_sem] Oper.semAt_some
theorem DgI.drew {w W : World} {fa ma : Addr} {c : Nat} {x : Int} {l : List Int} (h : DgI w fa ma c x l W) : DgI w fa ma c x l W.drew := DgI.own (Nat.le_refl _) _ _ W.drew none h ⟨rfl, rfl, rfl, Nat.le_refl _, fun _ _ _ => rfl⟩ (fun r e => by cases e)
set_option maxRecDepth 100000 in
set_option maxHeartbeats 4000000 in
theorem digest_c (F G c : Nat) (x : Int) (hx : 1 ≤ x ∧ x ≤ 2147483646) (bs : List Int) (w : World) (hfm : FmAt w F G bs) (hc8 : 8 ≤ c) (hcm : c ≤ maxLen) :
    Calls Try.prog 95 #[.pointer (some ⟨F, 4, none⟩), .int .u64 x, .slice (some ⟨G, 0, none⟩) 8 c] w fun e w' => e = .returned (.int .u64 (Pf.horn x (Pf.ws (bs ++ [1]) 3))) ∧ Below w.heap.size w w' := by
  have HF := Lib.hid hfm
  have HC := Lib.hid (And.intro hc8 hcm)
  clear hfm hc8 hcm
  refine (callsIn_wide (n := 3)).1 (callsIn_of_wp_marks Try.func95 rfl trivial (wpIn_wide.2 ?_) rfl)
  simp only [Try.ntmps95, List.size_toArray, List.length_cons, List.length_nil, Nat.reduceAdd, Nat.reduceSub, Array.replicate_succ, Array.replicate_zero, List.push_toArray, List.append_toArray, List.nil_append, List.cons_append]
  go_wp2_with fail
  refine (words_c _ _ _ ⟨_, rfl⟩ ⟨_, _, _, rfl⟩).mono ?_
  rintro e w1 ⟨rfl, hw1⟩
  have HI : Hid (DgI w ⟨F, 4, none⟩ ⟨G, 0, none⟩ c x [] w1) := Lib.hid (DgI.start w1 hw1)
  have hz : w.heap.size ≤ w1.heap.size := HI.out.2.2.2.2.2.size
  simp only [World.size_alloc, Nat.add_assoc, Nat.reduceAdd]
  clear hw1
  go_wp2_with fail
  refine (wpIn_wide (n := 3)).1 (range_mine2 (F := Fence.wide) (n := 3) rfl (by omega) (gf := 101) (lb := #[.pointer (some ⟨w.heap.size + 4, 0, none⟩), .pointer (some ⟨w.heap.size + 3, 0, none⟩)]) rfl trivial (fun _ _ => by kernel_rfl)
    (encs := fun y : Int => #[.int .u64 y]) (fun _ => rfl) (DgI w ⟨F, 4, none⟩ ⟨G, 0, none⟩ c x) (fun _ _ => False) (.exit 0) (fun ys => ys = Pf.ws (bs ++ [1]) 3) (fun pre => True) (fun pre y => 0 ≤ y ∧ y ≤ 16777215)
    (DgI.own hz) (fun _ _ _ _ h _ _ => h) HI.out (fun l J Jx W hJ hJg hY hj => words1_c w F G c x bs l HF.out HC.out.1 HC.out.2 J Jx hJ hJg hY W hj) ?a1 ?assign ?body ?done ?stop)
  case assign =>
    intro l y W K hK
    gi_wp2
    exact hK
  case body =>
    intro l pre y W hI hy
    have HI2 := Lib.hid hI
    have p0 := hI.1.cell 0 rfl
    have p1 := hI.2.1.cell 0 rfl
    have p2 := hI.2.2.1.cell 0 rfl
    have f2 := hI.2.2.1.free 0
    have q1 := (HF.out.below (w1 := W) ⟨hI.2.2.2.2.2.os, hI.2.2.2.2.2.tape, hI.2.2.2.2.2.output, hI.2.2.2.2.2.size, hI.2.2.2.2.2.block⟩).1.1
    have hs := Pf.horn_bd x pre
    have HST := Lib.hid (hI.step (y := y))
    clear hI
    generalize Pf.horn x pre = s at *
    have hm := Pf.mul_pos_bd (show 0 ≤ s + y ∧ s + y ≤ 2164260861 by omega) (show 0 ≤ x ∧ x ≤ 2147483646 by omega)
    gi_wp2
    have w1 : IntKind.u64.wrap (s + y) = s + y := IntWalk.u64_in _ (by omega)
    have w2 : IntKind.u64.wrap ((s + y) * x) = (s + y) * x := IntWalk.u64_in _ (by omega)
    have w3 : ((s + y) * x).tmod 2147483647 = (s + y) * x % 2147483647 := Int.tmod_eq_emod_of_nonneg hm.1
    clear hm hs hy hx
    refine lBeginIn (S := fun L W => (True) ∧ (L.getD 10 false = true ∨ (W.cell? ⟨w.heap.size, 0, none⟩ = some (.pointer (some ⟨F, 4, none⟩)) ∧ W.cell? ⟨w.heap.size + 1, 0, none⟩ = some (.int .u64 x) ∧ W.cell? ⟨w.heap.size + 2, 0, none⟩ = some (.int .u64 s) ∧ W.cell? ⟨F, 4, none⟩ = some (.int .u64 2147483647)))) (by kernel_rfl) (by kernel_rfl) (by first | assumption | exact (fun ⟨_, _, h⟩ => h)) ?_ (fun hHeld => ?_)
    · (try dsimp only); refine ⟨?_, Or.inr ?_⟩
      · (first | trivial | with_reducible assumption)
      · (first | with_reducible assumption | (refine ⟨?_, ?_, ?_, ?_⟩ <;> (go_simp; done)))
    refine lTake (i := 0) (v := ?_) rfl (by kernel_rfl) (by kernel_rfl) (by kernel_rfl) (fun _ _ _ h => h) (by rfl) (fun _ _ h => by simpa only [getD_set_ne false (show 0 ≠ 10 by decide)] using h) (fun _ _ h => by simpa only [getD_set_ne false (show 0 ≠ 10 by decide)] using h) ?_ (by assumption) (fun hHeld2 => ?_)
    rotate_left 1
    · (intro L W hL hK hSw; (try dsimp only at hSw); obtain ⟨h0, h1⟩ := hSw; replace h1 := still [] hK hL (by kernel_rfl) h1; clear hL hK; first | (go_simp; done) | (go_simp; with_reducible rfl))
    clear hHeld; have hHeld := hHeld2; clear hHeld2
    (try simp only [Act.put, List.setIfInBounds_toArray, List.set_cons_zero, List.set_cons_succ])
    refine lTake (i := 1) (v := ?_) rfl (by kernel_rfl) (by kernel_rfl) (by kernel_rfl) (fun _ _ _ h => h) (by rfl) (fun _ _ h => by simpa only [getD_set_ne false (show 1 ≠ 10 by decide)] using h) (fun _ _ h => by simpa only [getD_set_ne false (show 1 ≠ 10 by decide)] using h) ?_ (by assumption) (fun hHeld2 => ?_)
    rotate_left 1
    · (intro _ _ _ _ _; first | (go_simp; done) | (go_simp; with_reducible rfl))
    clear hHeld; have hHeld := hHeld2; clear hHeld2
    (try simp only [Act.put, List.setIfInBounds_toArray, List.set_cons_zero, List.set_cons_succ])
    refine lTake (i := 2) (v := ?_) rfl (by kernel_rfl) (by kernel_rfl) (by kernel_rfl) (fun _ _ _ h => h) (by rfl) (fun _ _ h => by simpa only [getD_set_ne false (show 2 ≠ 10 by decide)] using h) (fun _ _ h => by simpa only [getD_set_ne false (show 2 ≠ 10 by decide)] using h) ?_ (by assumption) (fun hHeld2 => ?_)
    rotate_left 1
    · (intro _ _ _ _ _; first | (go_simp; done) | (go_simp; with_reducible rfl))
    clear hHeld; have hHeld := hHeld2; clear hHeld2
    (try simp only [Act.put, List.setIfInBounds_toArray, List.set_cons_zero, List.set_cons_succ])
    refine lTake (i := 3) (v := ?_) rfl (by kernel_rfl) (by kernel_rfl) (by kernel_rfl) (fun _ _ _ h => h) (by rfl) (fun _ _ h => by simpa only [getD_set_ne false (show 3 ≠ 10 by decide)] using h) (fun _ _ h => by simpa only [getD_set_ne false (show 3 ≠ 10 by decide)] using h) ?_ (by assumption) (fun hHeld2 => ?_)
    rotate_left 1
    · (intro L W hL hK hSw; (try dsimp only at hSw); obtain ⟨h0, h1⟩ := hSw; replace h1 := still [] hK hL (by kernel_rfl) h1; clear hL hK; first | (go_simp; done) | (go_simp; with_reducible rfl))
    clear hHeld; have hHeld := hHeld2; clear hHeld2
    (try simp only [Act.put, List.setIfInBounds_toArray, List.set_cons_zero, List.set_cons_succ])
    refine lTake (i := 4) (v := ?_) rfl (by kernel_rfl) (by kernel_rfl) (by kernel_rfl) (fun _ _ _ h => h) (by rfl) (fun _ _ h => by simpa only [getD_set_ne false (show 4 ≠ 10 by decide)] using h) (fun _ _ h => by simpa only [getD_set_ne false (show 4 ≠ 10 by decide)] using h) ?_ (by assumption) (fun hHeld2 => ?_)
    rotate_left 1
    · (intro _ _ _ _ _; first | (go_simp; done) | (go_simp; with_reducible rfl))
    clear hHeld; have hHeld := hHeld2; clear hHeld2
    (try simp only [Act.put, List.setIfInBounds_toArray, List.set_cons_zero, List.set_cons_succ])
    refine lTake (i := 5) (v := ?_) rfl (by kernel_rfl) (by kernel_rfl) (by kernel_rfl) (fun _ _ _ h => h) (by rfl) (fun _ _ h => by simpa only [getD_set_ne false (show 5 ≠ 10 by decide)] using h) (fun _ _ h => by simpa only [getD_set_ne false (show 5 ≠ 10 by decide)] using h) ?_ (by assumption) (fun hHeld2 => ?_)
    rotate_left 1
    · (intro L W hL hK hSw; (try dsimp only at hSw); obtain ⟨h0, h1⟩ := hSw; replace h1 := still [] hK hL (by kernel_rfl) h1; clear hL hK; first | (go_simp; done) | (go_simp; with_reducible rfl))
    clear hHeld; have hHeld := hHeld2; clear hHeld2
    (try simp only [Act.put, List.setIfInBounds_toArray, List.set_cons_zero, List.set_cons_succ])
    refine lTake (i := 6) (v := ?_) rfl (by kernel_rfl) (by kernel_rfl) (by kernel_rfl) (fun _ _ _ h => h) (by rfl) (fun _ _ h => by simpa only [getD_set_ne false (show 6 ≠ 10 by decide)] using h) (fun _ _ h => by simpa only [getD_set_ne false (show 6 ≠ 10 by decide)] using h) ?_ (by assumption) (fun hHeld2 => ?_)
    rotate_left 1
    · (intro _ _ _ _ _; first | (go_simp; done) | (go_simp; with_reducible rfl))
    clear hHeld; have hHeld := hHeld2; clear hHeld2
    (try simp only [Act.put, List.setIfInBounds_toArray, List.set_cons_zero, List.set_cons_succ])
    refine lTake (i := 7) (v := ?_) rfl (by kernel_rfl) (by kernel_rfl) (by kernel_rfl) (fun _ _ _ h => h) (by rfl) (fun _ _ h => by simpa only [getD_set_ne false (show 7 ≠ 10 by decide)] using h) (fun _ _ h => by simpa only [getD_set_ne false (show 7 ≠ 10 by decide)] using h) ?_ (by assumption) (fun hHeld2 => ?_)
    rotate_left 1
    · (intro _ _ _ _ _; first | (go_simp; done) | (go_simp; with_reducible rfl))
    clear hHeld; have hHeld := hHeld2; clear hHeld2
    (try simp only [Act.put, List.setIfInBounds_toArray, List.set_cons_zero, List.set_cons_succ])
    refine lTake (i := 8) (v := ?_) rfl (by kernel_rfl) (by kernel_rfl) (by kernel_rfl) (fun _ _ _ h => h) (by rfl) (fun _ _ h => by simpa only [getD_set_ne false (show 8 ≠ 10 by decide)] using h) (fun _ _ h => by simpa only [getD_set_ne false (show 8 ≠ 10 by decide)] using h) ?_ (by assumption) (fun hHeld2 => ?_)
    rotate_left 1
    · (intro L W hL hK hSw; (try dsimp only at hSw); obtain ⟨h0, h1⟩ := hSw; replace h1 := still [] hK hL (by kernel_rfl) h1; clear hL hK; first | (go_simp; done) | (go_simp; with_reducible rfl))
    clear hHeld; have hHeld := hHeld2; clear hHeld2
    (try simp only [Act.put, List.setIfInBounds_toArray, List.set_cons_zero, List.set_cons_succ])
    refine lTake (i := 9) (v := ?_) rfl (by kernel_rfl) (by kernel_rfl) (by kernel_rfl) (fun _ _ _ h => h) (by rfl) (fun _ _ h => by simpa only [getD_set_ne false (show 9 ≠ 10 by decide)] using h) (fun _ _ h => by simpa only [getD_set_ne false (show 9 ≠ 10 by decide)] using h) ?_ (by assumption) (fun hHeld2 => ?_)
    rotate_left 1
    · (intro _ _ _ _ _; first | (go_simp; done) | (go_simp; with_reducible rfl))
    clear hHeld; have hHeld := hHeld2; clear hHeld2
    (try simp only [Act.put, List.setIfInBounds_toArray, List.set_cons_zero, List.set_cons_succ])
    refine lReady (rs := [10]) (by kernel_rfl) (by simp) ?_
    refine AllL.cons (i := 10) rfl (fun K hK => ?_) ?_
    · go_simp
      (try go_wp2_with fail)
      refine hK.out _ _ ?_ (fun hHeld2 => ?_)
      · (try dsimp only); refine ⟨?_, Or.inl (by rfl)⟩
        · (first | trivial | with_reducible assumption)
      clear hK K
      clear hHeld; have hHeld := hHeld2; clear hHeld2
      (try simp only [Act.put, List.setIfInBounds_toArray, List.set_cons_zero, List.set_cons_succ])
      refine lDone (by kernel_rfl) ?_ _
      exact (⟨((KeepsOthers.setCell _ _ _).trans (KeepsOthers.drew _)).from _, HST.out.drew⟩ : _ ∧ _)
    exact AllL.nil
  case done =>
    rintro D ys W hD rfl hI hK
    have HB := Lib.hid hI.2.2.2.2.2
    have p2 := hI.2.2.1.cell 0 rfl
    clear hI
    go_wp2
    refine ⟨by simp, .inl ⟨_, _, rfl, run_takeDeferred hK, ?_⟩⟩
    exact ⟨_, results_tmp rfl _ _ _, rfl, HB.out.grown (grownBy_putObj' W D _) HB.out.size (fun r e => by cases e; omega)⟩
  case stop =>
    rintro D pre0 W hD hk hI hK
    exact hI.elim
theorem PDigest_c (x : Int) (hx : 1 ≤ x ∧ x ≤ 2147483646) (G c : Nat) (bs : List Int) (w : World) (hb : bs.length = 8 ∧ ∀ x ∈ bs, 0 ≤ x ∧ x ≤ 255) (hm : ∀ j, j < 8 → w.cell? ⟨G, j, none⟩ = some (.int .u8 (bs.getD j 0))) (hc8 : 8 ≤ c) (hcm : c ≤ maxLen) :
    Calls Try.prog 85 #[.int .i64 2, .int .u64 x, .slice (some ⟨G, 0, none⟩) 8 c] w fun e w' => e = .returned (.tuple #[.int .u64 (Pf.horn x (Pf.ws (bs ++ [1]) 3)), .int .i64 0]) ∧ Below w.heap.size w w' := by
  have hd := fun w1 (hf : FmAt w1 w.heap.size G bs) => digest_c w.heap.size G c x hx bs w1 hf hc8 hcm
  have HM := Lib.hid hm
  have HBb := Lib.hid hb
  clear hm hb
  generalize Pf.horn x (Pf.ws (bs ++ [1]) 3) = r at *
  unfold maxLen at hcm
  go_enter Try.func85, Try.ntmps85
  go_wp2_with (first
    | (go_at_call 86; refine (fieldOf_c _).mono ?_; rintro e w1 ⟨rfl, hw1⟩; have q1 : w1.cell? ⟨w.heap.size, 4, none⟩ = some (.int .u64 2147483647) := (by rw [hw1]; go_simp); have q2 : w1.cell? ⟨w.heap.size, 5, none⟩ = some (.int .i64 3) := (by rw [hw1]; go_simp); have HB := Lib.hid (show Below w.heap.size w w1 from by rw [hw1]; exact (Below.refl _ _).alloc (Nat.le_refl _) _); have HFm := Lib.hid (show FmAt w1 w.heap.size G bs from ⟨⟨q1, q2⟩, HBb.out, fun j hj => (HB.out.cell (World.block_lt_of_cell? _ _ (HM.out j hj))).trans (HM.out j hj)⟩); clear hw1)
    | (go_at_call 95; refine (hd _ HFm.out).mono ?_; rintro e w2 ⟨rfl, hb⟩; have HB2 := Lib.hid (HB.out.trans (hb.mono HB.out.size)); clear hb))
  go_ret2
  exact ⟨rfl, HB2.out⟩
theorem PTag_c (x pad : Int) (hx : 1 ≤ x ∧ x ≤ 2147483646) (hp : 0 ≤ pad ∧ pad ≤ 2147483646) (G c : Nat) (bs : List Int) (w : World) (hb : bs.length = 8 ∧ ∀ x ∈ bs, 0 ≤ x ∧ x ≤ 255) (hm : ∀ j, j < 8 → w.cell? ⟨G, j, none⟩ = some (.int .u8 (bs.getD j 0))) (hc8 : 8 ≤ c) (hcm : c ≤ maxLen) :
    Calls Try.prog 57 #[.int .i64 2, .int .u64 x, .int .u64 pad, .slice (some ⟨G, 0, none⟩) 8 c] w fun e w' => e = .returned (.tuple #[.int .u64 (Pf.tag x pad (Pf.ws (bs ++ [1]) 3)), .int .i64 0]) ∧ Below w.heap.size w w' := by
  have hd := PDigest_c x hx G c bs w hb hm hc8 hcm
  have hr := Pf.horn_bd x (Pf.ws (bs ++ [1]) 3)
  clear hm hb
  unfold Pf.tag
  generalize Pf.horn x (Pf.ws (bs ++ [1]) 3) = r at *
  unfold maxLen at hcm
  go_enter Try.func57, Try.ntmps57
  go_wp2_with (first
    | (go_at_call 85; refine hd.mono ?_; rintro e w2 ⟨rfl, hb⟩; have HB := Lib.hid hb; clear hb)
    | (go_at_call 86; refine (fieldOf_c _).mono ?_; rintro e w1 ⟨rfl, hw1⟩; have q1 : w1.cell? ⟨w2.heap.size, 4, none⟩ = some (.int .u64 2147483647) := (by rw [hw1]; go_simp); have HB1 := Lib.hid (show Below w.heap.size w w1 from by rw [hw1]; exact HB.out.alloc HB.out.size _); clear hw1))
  go_ret2
  exact ⟨rfl, HB1.out⟩
end Go.Proofs.Ytlklnaebdnahcaa
namespace Go.Proofs.Ytlklnaebdnahcaa
open Go Go.RowKit
structure Past (W : World) where
  w : World
  far : Below W.heap.size W w
instance (W : World) : Nonempty (Past W) := ⟨⟨W, Below.refl _ _⟩⟩
section
variable {W : World}
@[simp, go_sem] theorem Past.cell (x : Past W) (b o : Nat) (h : b < W.heap.size) : x.w.cell? ⟨b, o, none⟩ = W.cell? ⟨b, o, none⟩ := x.far.cell (p := ⟨b, o, none⟩) h
@[simp, go_sem] theorem Past.frozen (x : Past W) (b o : Nat) (h : b < W.heap.size) : x.w.frozen? ⟨b, o, none⟩ = W.frozen? ⟨b, o, none⟩ := x.far.frozen (p := ⟨b, o, none⟩) h
theorem past_drew (W : World) : ∃ x : Past W, W.drew = x.w := ⟨⟨W.drew, (Below.refl _ _).drew⟩, rfl⟩
theorem past_on {x : Past W} {w' : World} (h : Below x.w.heap.size x.w w') : ∃ y : Past W, w' = y.w := ⟨⟨w', x.far.trans (h.mono x.far.size)⟩, rfl⟩
theorem past_same {P : Program} {f : FuncId} {args : Array Value} {x : Past W} {v : Value} (h : Calls P f args x.w fun e w' => e = .returned v ∧ x.w = w') : Calls P f args x.w fun e w'' => e = .returned v ∧ ∃ y : Past W, w'' = y.w :=
  h.mono fun _ _ ⟨he, hm⟩ => ⟨he, x, hm.symm⟩
theorem past_below {P : Program} {f : FuncId} {args : Array Value} {x : Past W} {v : Value} (h : Calls P f args x.w fun e w' => e = .returned v ∧ Below x.w.heap.size x.w w') : Calls P f args x.w fun e w'' => e = .returned v ∧ ∃ y : Past W, w'' = y.w :=
  h.mono fun _ _ ⟨he, hm⟩ => ⟨he, past_on hm⟩
theorem wpQuiet_mono {P : Program} {ops : Array Oper} {C : World → Prop} {Q Q' : Act → Prop} (hq : ∀ a, Q a → Q' a) : ∀ (l : List Oper) (a : Act), wpQuiet P ops C Q l a → wpQuiet P ops C Q' l a
  | [], a, h => hq a h
  | o :: rest, a, h => by
    unfold wpQuiet at h ⊢
    split
    · rename_i hw
      rw [if_pos hw] at h
      exact Oper.quiet_mono (fun a' => wpQuiet_mono hq rest a') h
    · rename_i hw
      rw [if_neg hw] at h
      exact wpQuiet_mono hq rest _ h
theorem wp_region_past {P : Program} {id : Nat} {Q : Exit → Act → World → Prop} {a : Act} {W : World} {l : List Oper} (hm : P.follows .mixedOrders = true) (hB : Region.lexB .any l.toArray = true)
    (h : wpQuiet P l.toArray (fun w' => ∃ x : Past W, w' = x.w) (fun a' => ∀ x : Past W, Q .normal a' x.w) l a) : (Code.region id l.toArray true).wp P Q a W :=
  wp_region_quiet (C := fun w' => ∃ x : Past W, w' = x.w) hm hB (past_drew W) (wpQuiet_mono (fun a' (h' : ∀ x : Past W, Q .normal a' x.w) w' ⟨x, hx⟩ => by rw [hx]; exact h' x) _ _ (by simpa using h))
end
end Go.Proofs.Ytlklnaebdnahcaa
namespace Go.Proofs.Ytlklnaebdnahcaa
open Go.RowKit
namespace Pf
def prV (pt : Int) (ps : List Int) (k n : Int) : Int := if Cv.ctOk pt ps = true then if (0 ≤ k ∧ k ≤ 2147483647) ∧ 0 ≤ n ∧ n ≤ 2147483647 then if n < ps.length then tag pt (ps.getD n.toNat 0) (ws (msg k n ++ [1]) 3) else 0 else 0 else 0
def prE (pt : Int) (ps : List Int) (k n : Int) : Int := if Cv.ctOk pt ps = true then if (0 ≤ k ∧ k ≤ 2147483647) ∧ 0 ≤ n ∧ n ≤ 2147483647 then if n < ps.length then 0 else 4 else 3 else 2
theorem pr_2 {pt : Int} {ps : List Int} {k n : Int} (h : Cv.ctOk pt ps = false) : prV pt ps k n = 0 ∧ prE pt ps k n = 2 := by unfold prV prE; rw [h]; simp
theorem pr_3 {pt : Int} {ps : List Int} {k n : Int} (h : Cv.ctOk pt ps = true) (h2 : ¬ ((0 ≤ k ∧ k ≤ 2147483647) ∧ 0 ≤ n ∧ n ≤ 2147483647)) : prV pt ps k n = 0 ∧ prE pt ps k n = 3 := by unfold prV prE; rw [if_pos h, if_pos h, if_neg h2, if_neg h2]; exact ⟨rfl, rfl⟩
theorem pr_4 {pt : Int} {ps : List Int} {k n : Int} (h : Cv.ctOk pt ps = true) (h2 : (0 ≤ k ∧ k ≤ 2147483647) ∧ 0 ≤ n ∧ n ≤ 2147483647) (h3 : ¬ n < ps.length) : prV pt ps k n = 0 ∧ prE pt ps k n = 4 := by unfold prV prE; rw [if_pos h, if_pos h, if_pos h2, if_pos h2, if_neg h3, if_neg h3]; exact ⟨rfl, rfl⟩
theorem pr_0 {pt : Int} {ps : List Int} {k : Int} {m : Nat} (h : Cv.ctOk pt ps = true) (h2 : (0 ≤ k ∧ k ≤ 2147483647) ∧ 0 ≤ (m : Int) ∧ (m : Int) ≤ 2147483647) (h3 : m < ps.length) : prV pt ps k m = tag pt (ps.getD m 0) (ws (msg k m ++ [1]) 3) ∧ prE pt ps k m = 0 := by unfold prV prE; rw [if_pos h, if_pos h, if_pos h2, if_pos h2, if_pos (by omega), if_pos (by omega)]; exact ⟨rfl, rfl⟩
end Pf
theorem ret_pf {a b c d : Int} (h : a = b ∧ c = d) : Ending.returned (.tuple #[.int .u64 a, .int .i64 c]) = .returned (.tuple #[.int .u64 b, .int .i64 d]) := by rw [h.1, h.2]
def PrS (N : Nat) (pt : Int) (A : Option Addr) (n cap : Nat) (w W : World) : Prop := Below N w W ∧ N < W.heap.size ∧ W.cell? ⟨N, 0, none⟩ = some (.int .u64 pt) ∧ W.cell? ⟨N, 1, none⟩ = some (.slice A n cap)
theorem PrS.below {N : Nat} {pt : Int} {A : Option Addr} {n cap : Nat} {w W W1 : World} (h : PrS N pt A n cap w W) (hb : Below W.heap.size W W1) : PrS N pt A n cap w W1 :=
  ⟨h.1.trans (hb.mono (Nat.le_of_lt h.2.1)), Nat.lt_of_lt_of_le h.2.1 hb.size, below_cell hb h.2.1 h.2.2.1, below_cell hb h.2.1 h.2.2.2⟩
theorem u8_256 (x : Int) : IntKind.u8.wrap x = x % 256 := by rw [IntKind.wrap_u8]
theorem two_index0 (a b : Int) (w : World) : (Instr.index 143 (.agg #[.int .i64 a, .int .i64 b]) (.int .i64 0)).run Try.prog w = .ok (.int .i64 a) w := by kernel_rfl
theorem two_index1 (a b : Int) (w : World) : (Instr.index 143 (.agg #[.int .i64 a, .int .i64 b]) (.int .i64 1)).run Try.prog w = .ok (.int .i64 b) w := by kernel_rfl
set_option maxRecDepth 100000 in
set_option maxHeartbeats 4000000 in
theorem Proof_c (pt : Int) (A : Option Addr) (ps : List Int) (cap : Nat) (k n : Int) (w : World) (hcap : ps.length ≤ cap) (hl : cap ≤ 9223372036854775807) (hps : ∀ x ∈ ps, 0 ≤ x) (hw : PadsAt w A ps) :
    Calls Try.prog 41 #[.agg #[.int .u64 pt, .slice A ps.length cap], .int .i64 k, .int .i64 n] w fun e w' => e = .returned (.tuple #[.int .u64 (Pf.prV pt ps k n), .int .i64 (Pf.prE pt ps k n)]) ∧ Below w.heap.size w w' := by
  have hc := checkContract_c pt A ps cap _ hcap hl (hw.below ((Below.refl w.heap.size w).alloc (Nat.le_refl _) (.cells #[.int .u64 pt, .slice A ps.length cap] 48)))
  have HW := Lib.hid hw
  have hn63 : ps.length ≤ 9223372036854775807 := by omega
  clear hw
  cases hok : Cv.ctOk pt ps
  · rw [hok] at hc
    have HP := Lib.hid (Pf.pr_2 (k := k) (n := n) hok)
    clear hok hps
    generalize Pf.prV pt ps k n = v at *
    generalize Pf.prE pt ps k n = er at *
    go_enter Try.func41, Try.ntmps41
    go_wp2_with (go_at_call 40; refine hc.mono ?_; rintro e w1 ⟨rfl, hb⟩; have HB := Lib.hid (((Below.refl w.heap.size w).alloc (Nat.le_refl _) _).trans (hb.mono (by simp))); clear hb)
    go_ret2
    exact ⟨ret_pf ⟨HP.out.1.symm, HP.out.2.symm⟩, HB.out⟩
  rw [hok] at hc
  by_cases hr : (0 ≤ k ∧ k ≤ 2147483647) ∧ 0 ≤ n ∧ n ≤ 2147483647
  rotate_left 1
  · have HP := Lib.hid (Pf.pr_3 hok hr)
    generalize Pf.prV pt ps k n = v at *
    generalize Pf.prE pt ps k n = er at *
    by_cases h1 : k < 0
    · have h1' : decide (k < 0) = true := decide_eq_true h1
      clear hok hps hr h1
      go_enter Try.func41, Try.ntmps41
      go_wp2_with (go_at_call 40; refine hc.mono ?_; rintro e w1 ⟨rfl, hb⟩; have HB := Lib.hid (((Below.refl w.heap.size w).alloc (Nat.le_refl _) _).trans (hb.mono (by simp))); clear hb)
      go_ret2
      exact ⟨ret_pf ⟨HP.out.1.symm, HP.out.2.symm⟩, HB.out⟩
    have h1' : decide (k < 0) = false := decide_eq_false h1
    by_cases h2 : 2147483647 < k
    · have h2' : decide (2147483647 < k) = true := decide_eq_true h2
      clear hok hps hr h1 h2
      go_enter Try.func41, Try.ntmps41
      go_wp2_with (go_at_call 40; refine hc.mono ?_; rintro e w1 ⟨rfl, hb⟩; have HB := Lib.hid (((Below.refl w.heap.size w).alloc (Nat.le_refl _) _).trans (hb.mono (by simp))); clear hb)
      go_ret2
      exact ⟨ret_pf ⟨HP.out.1.symm, HP.out.2.symm⟩, HB.out⟩
    have h2' : decide (2147483647 < k) = false := decide_eq_false h2
    by_cases h3 : n < 0
    · have h3' : decide (n < 0) = true := decide_eq_true h3
      clear hok hps hr h1 h2 h3
      go_enter Try.func41, Try.ntmps41
      go_wp2_with (go_at_call 40; refine hc.mono ?_; rintro e w1 ⟨rfl, hb⟩; have HB := Lib.hid (((Below.refl w.heap.size w).alloc (Nat.le_refl _) _).trans (hb.mono (by simp))); clear hb)
      go_ret2
      exact ⟨ret_pf ⟨HP.out.1.symm, HP.out.2.symm⟩, HB.out⟩
    have h3' : decide (n < 0) = false := decide_eq_false h3
    have h4' : decide (2147483647 < n) = true := decide_eq_true (by omega)
    clear hok hps hr h1 h2 h3
    go_enter Try.func41, Try.ntmps41
    go_wp2_with (go_at_call 40; refine hc.mono ?_; rintro e w1 ⟨rfl, hb⟩; have HB := Lib.hid (((Below.refl w.heap.size w).alloc (Nat.le_refl _) _).trans (hb.mono (by simp))); clear hb)
    go_ret2
    exact ⟨ret_pf ⟨HP.out.1.symm, HP.out.2.symm⟩, HB.out⟩
  have h1' : decide (k < 0) = false := decide_eq_false (by omega)
  have h2' : decide (2147483647 < k) = false := decide_eq_false (by omega)
  obtain ⟨m, rfl⟩ := Int.eq_ofNat_of_zero_le hr.2.1
  have h3' : decide ((m : Int) < 0) = false := decide_eq_false (by omega)
  have h4' : decide (2147483647 < (m : Int)) = false := decide_eq_false (by omega)
  by_cases hlt : m < ps.length
  rotate_left 1
  · have HP := Lib.hid (Pf.pr_4 hok hr (by omega))
    generalize Pf.prV pt ps k m = v at *
    generalize Pf.prE pt ps k m = er at *
    have hge : decide (ps.length ≤ m) = true := decide_eq_true (by omega)
    clear hok hps hr hlt
    go_enter Try.func41, Try.ntmps41
    go_wp2_with (go_at_call 40; refine hc.mono ?_; rintro e w1 ⟨rfl, hb⟩; have HB := Lib.hid (((Below.refl w.heap.size w).alloc (Nat.le_refl _) _).trans (hb.mono (by simp))); have t1 : w1.cell? ⟨w.heap.size, 1, none⟩ = some (.slice A ps.length cap) := below_cell hb (by simp) (by go_simp); clear hb)
    go_ret2
    exact ⟨ret_pf ⟨HP.out.1.symm, HP.out.2.symm⟩, HB.out⟩
  have HP := Lib.hid (Pf.pr_0 hok hr hlt)
  generalize Pf.prV pt ps k m = v at *
  generalize Pf.prE pt ps k m = er at *
  have hge : decide (ps.length ≤ m) = false := decide_eq_false (by omega)
  have hpt := (Cv.ctOk_iff.1 hok).1
  have hpad := Cv.padsOk_iff.1 (Cv.ctOk_iff.1 hok).2 m hlt
  have hpad0 : 0 ≤ ps.getD m 0 := hps _ (by rw [List.getD_eq_getElem?_getD, List.getElem?_eq_getElem hlt]; exact List.getElem_mem hlt)
  have HR := Lib.hid hr
  have E1 := Lib.hid (And.intro (u8_256 (k / 16777216)) (And.intro (u8_256 (k / 65536)) (And.intro (u8_256 (k / 256)) (u8_256 k))))
  have E2 := Lib.hid (And.intro (u8_256 ((m : Int) / 16777216)) (And.intro (u8_256 ((m : Int) / 65536)) (And.intro (u8_256 ((m : Int) / 256)) (u8_256 (m : Int)))))
  obtain ⟨i5, hi5, y0, y1, y2⟩ := info_parts info5
  have hk0 := hr.1.1
  have hm0 := hr.2.1
  clear hok hps hr
  go_enter Try.func41, Try.ntmps41
  go_wp2_with (go_at_call 40; refine hc.mono ?_; rintro e w1 ⟨rfl, hb⟩; have HS := Lib.hid (show PrS w.heap.size pt A ps.length cap w w1 from ⟨((Below.refl w.heap.size w).alloc (Nat.le_refl _) _).trans (hb.mono (by simp)), by have := hb.size; simp at this; omega, below_cell hb (by simp) (by go_simp), below_cell hb (by simp) (by go_simp)⟩); have t1 : w1.cell? ⟨w.heap.size, 1, none⟩ = some (.slice A ps.length cap) := HS.out.2.2.2; clear hb)
  clear h1' h2' h3' h4' hge t1
  refine wp_loop_rounds 3 ?_
  obtain ⟨e1, e2, e3, e4⟩ := E1.out
  obtain ⟨f1, f2, f3, f4⟩ := E2.out
  have IX0 := two_index0 k m
  have IX1 := two_index1 k m
  rw [rounds_succ]
  go_wp2_with (at_builtin; refine wpList_append_any (.tmp 39) (.tmp 51) 152 rfl rfl w.heap.size 5 i5 (.int .u8 0) 1 1 Try.underlying152 hi5 y0 y1 y2 rfl (by decide) none 0 0 [] (by rfl) (World.ownsRow_nil _ _ _ _) (some ⟨w1.heap.size, 0, none⟩) 4 4 ((Pf.four k).map (Value.int .u8)) (by rfl) rfl (src_blk (Blk.new' w1 #[.int .u8 (k / 16777216 % 256), .int .u8 (k / 65536 % 256), .int .u8 (k / 256 % 256), .int .u8 (k % 256)] 5) 4) (one_u8 _) (by unfold maxLen; omega) (by omega) (by have := HS.out.1.size; simp; omega) ?_; intro A1 c1 w2 hown hgrow hat; have HB2 := Lib.hid (show Below w1.heap.size w1 w2 from Below.grown ((Below.refl _ _).alloc (Nat.le_refl _) (.cells #[.int .u8 (k / 16777216 % 256), .int .u8 (k / 65536 % 256), .int .u8 (k / 256 % 256), .int .u8 (k % 256)] 5)) hgrow (by simp) (fun j hj => by cases hj)); have HO1 := Lib.hid (show BRow w.heap.size A1 4 c1 (Pf.four k) w2 from hown); have HA1 := Lib.hid (show ∀ j, OwnB A1 j → w1.heap.size ≤ j from fun j hj => (hat j hj).elim (fun ⟨a, e, _⟩ => by cases e) (fun e => by simp at e; omega)); clear hown hgrow hat)
  rw [rounds_succ]
  go_wp2_with (at_builtin; refine wpList_append_any (.tmp 39) (.tmp 51) 152 rfl rfl w.heap.size 5 i5 (.int .u8 0) 1 1 Try.underlying152 hi5 y0 y1 y2 rfl (by decide) A1 4 c1 ((Pf.four k).map (Value.int .u8)) (by rfl) (rowE_below HO1.out ((Below.refl _ _).alloc (Nat.le_refl _) _)) (some ⟨w2.heap.size, 0, none⟩) 4 4 ((Pf.four m).map (Value.int .u8)) (by rfl) rfl (src_blk (Blk.new' w2 #[.int .u8 ((m : Int) / 16777216 % 256), .int .u8 ((m : Int) / 65536 % 256), .int .u8 ((m : Int) / 256 % 256), .int .u8 ((m : Int) % 256)] 5) 4) (one_u8 _) (by unfold maxLen; omega) (by omega) (by have := HB2.out.size; have := HS.out.1.size; simp; omega) ?_; intro A2 c2 w3 hown hgrow hat; have HB3 := Lib.hid (show Below w1.heap.size w2 w3 from Below.grown ((Below.refl _ _).alloc HB2.out.size (.cells #[.int .u8 ((m : Int) / 16777216 % 256), .int .u8 ((m : Int) / 65536 % 256), .int .u8 ((m : Int) / 256 % 256), .int .u8 ((m : Int) % 256)] 5)) hgrow (by have := HB2.out.size; simp; omega) (fun j hj => HA1.out j (ownB_iff.2 hj))); have HO2 := Lib.hid (show BRow w.heap.size A2 8 c2 (Pf.msg k m) w3 from by unfold BRow Pf.msg; rw [List.map_append]; exact hown); clear hown hgrow hat)
  rw [rounds_succ]
  go_wp2_with fail
  clear IX0 IX1 e1 e2 e3 e4 f1 f2 f3 f4
  have HS3 := Lib.hid (HS.out.below (HB2.out.trans HB3.out))
  obtain ⟨g, rfl, hgl, hgc, hgm, hgs⟩ := rowE_cells HO2.out (by decide)
  obtain ⟨ad, rfl, hadl, hcell⟩ := (HW.out.below HS3.out.1 : PadsAt w3 A ps) m hlt
  have t0 := HS3.out.2.2.1
  have t1 := HS3.out.2.2.2
  have PT := Lib.hid (fun W1 (h : Below w3.heap.size w3 W1) => PTag_c pt (ps.getD m 0) (by omega) (by omega) g c2 (Pf.msg k m) W1 ⟨rfl, Pf.msg_bd k m⟩ (fun j hj => (h.cell hgl).trans (hgs j _ (by simp [List.getD, show j < (Pf.msg k m).length from hj]))) hgc hgm)
  generalize ps.getD m 0 = pad at *
  generalize Pf.tag pt pad (Pf.ws (Pf.msg k m ++ [1]) 3) = tg at *
  clear hgs
  have P1 : (m : Int) < (ps.length : Int) := by omega
  have z3 : w.heap.size < w3.heap.size := HS3.out.2.1
  have hpc : ∀ x : Past w3, x.w.cell? (ad.add m) = some (.int .u64 pad) := fun x => (x.far.cell (by rw [block_of_add]; exact hadl)).trans hcell
  refine wp_region_past (by kernel_rfl) (by kernel_rfl) ?_
  repeat (go_big_quiet_step ((go_at_call 57; exact past_below (PT.out _ (Past.far _)))))
  refine wpQuiet_nil ?_
  intro x
  have HBx := Lib.hid x.far
  generalize x.w = w4 at HBx ⊢
  go_wp2
  go_ret2
  exact ⟨ret_pf ⟨HP.out.1.symm, HP.out.2.symm⟩, HS3.out.1.trans (HBx.out.mono HS3.out.1.size)⟩
end Go.Proofs.Ytlklnaebdnahcaa
namespace Go.Proofs.Ytlklnaebdnahcaa
open Go.RowKit
def LsAt (w : World) (A : Option Addr) (L : List Ls) : Prop := ∀ i, i < L.length → ∃ ad, A = some ad ∧ ad.block < w.heap.size ∧ w.cell? (ad.add (i * 4)) = some (.int .i64 (L.getD i default).n) ∧
  w.cell? ⟨(ad.add (i * 4)).block, (ad.add (i * 4)).off + 1, none⟩ = some (.int .i64 (L.getD i default).d) ∧ w.cell? ⟨(ad.add (i * 4)).block, (ad.add (i * 4)).off + 2, none⟩ = some (.int .i64 (L.getD i default).b) ∧ w.cell? ⟨(ad.add (i * 4)).block, (ad.add (i * 4)).off + 3, none⟩ = some (.int .i64 (L.getD i default).u)
theorem LsAt.touch {w w1 : World} {A : Option Addr} {L : List Ls} {S : Nat → Prop} (h : LsAt w A L) (ht : Touch S w w1) (hn : ∀ k, OwnB A k → ¬ S k) : LsAt w1 A L := by
  intro i hi
  obtain ⟨ad, e, hlt, c0, c1, c2, c3⟩ := h i hi
  have hbl : (ad.add (i * 4)).block < w.heap.size := by rw [block_of_add]; exact hlt
  have hs : ¬ S (ad.add (i * 4)).block := by rw [block_of_add]; exact hn _ ⟨ad, e, rfl⟩
  exact ⟨ad, e, Nat.lt_of_lt_of_le hlt ht.size, (ht.cell hbl hs).trans c0, (ht.cell (p := ⟨_, _, none⟩) hbl hs).trans c1, (ht.cell (p := ⟨_, _, none⟩) hbl hs).trans c2, (ht.cell (p := ⟨_, _, none⟩) hbl hs).trans c3⟩
theorem LsAt.below {w w1 : World} {A : Option Addr} {L : List Ls} (h : LsAt w A L) (hb : Below w.heap.size w w1) : LsAt w1 A L := h.touch (Touch.of_below (S := fun _ => False) hb) (fun _ _ h => h)
set_option maxHeartbeats 4000000 in
theorem reserved_c (g o : Nat) (A : Option Addr) (cap : Nat) (c : Sx.Cl) (t : Int) (w : World) (hok : Sx.okL c.L) (hn : c.L.length ≤ 100000) (hcap : c.L.length ≤ cap) (hcm : cap ≤ 9223372036854775807) (c0 : w.cell? ⟨g, o, none⟩ = some (.slice A c.L.length cap)) (c2 : w.cell? ⟨g, o + 2, none⟩ = some (.int .i64 c.kn)) (hl : LsAt w A c.L) :
    Calls Try.prog 78 #[.pointer (some ⟨g, o, none⟩), .int .i64 t] w fun e w' => e = .returned (.tuple #[.int .i64 (Sx.rD c t), .int .i64 (Sx.rB c t), .int .i64 (Sx.many c t)]) ∧ Below w.heap.size w w' := by
  have HL := Lib.hid hl
  have HO := Lib.hid hok
  have zg : g < w.heap.size := World.block_lt_of_cell? _ _ c0
  have HC := Lib.hid c2
  clear hl hok c2
  go_enter Try.func78, Try.ntmps78
  go_wp2
  clear c0
  go_loopw [4, 5, 6, 14] (fun d b m i wr => ∃ k : Nat, k ≤ c.L.length ∧ i = .int .i64 k ∧ d = .int .i64 (Sx.mxD (Sx.lv c t k)) ∧ b = .int .i64 (Sx.mxB (Sx.lv c t k)) ∧ m = .int .i64 ((Sx.lv c t k).length : Nat) ∧ Hid (Below w.heap.size w wr)) (fun _ _ _ i _ => c.L.length - (intOf i).toNat)
  case atStart => exact ⟨0, Nat.zero_le _, rfl, rfl, rfl, rfl, Lib.hid (Below.refl _ _)⟩
  case round =>
    obtain ⟨k, hk, rfl, rfl, rfl, rfl, HB⟩ := hrel
    by_cases hlt : k < c.L.length
    · obtain ⟨ad, rfl, hlb, c0, c1, c2, c3⟩ := HL.out.below HB.out k hlt
      have q2 : wr.cell? ⟨g, o + 2, none⟩ = some (.int .i64 c.kn) := (HB.out.cell (p := ⟨g, o + 2, none⟩) zg).trans HC.out
      have HS := Lib.hid (Sx.lv_succ c t k hlt)
      have hb := Sx.mx_bd (Sx.okL_lv HO.out t k)
      have hln := Sx.lv_len c t k
      have hx := HO.out (c.L.getD k default) (by rw [List.getD_eq_getElem?_getD, List.getElem?_eq_getElem hlt]; exact List.getElem_mem hlt)
      have hz : g < wr.heap.size := Nat.lt_of_lt_of_le zg HB.out.size
      have hz2 : g ≠ wr.heap.size := by omega
      generalize c.L.getD k default = l at *
      generalize hLv : Sx.lv c t k = V at *
      clear hLv
      by_cases h1 : c.kn ≤ l.n
      · have h1' : decide (c.kn ≤ l.n) = true := decide_eq_true h1
        by_cases h2 : t < l.u
        · have h2' : decide (t < l.u) = true := decide_eq_true h2
          have HV : Hid (Sx.lv c t (k + 1) = V ++ [l]) := Lib.hid (by rw [HS.out, if_pos (by unfold Sx.liveB; rw [h1', h2']; rfl)])
          clear h1 h2
          go_wp2_with fail
          go_quiet (fail)
          go_wp2_with fail
          go_quiet (fail)
          go_wp2_with fail
          have hm1 : (if Sx.mxD V < l.d then l.d else Sx.mxD V) = max (Sx.mxD V) l.d := by split <;> omega
          have hm2 : (if Sx.mxB V < l.b then l.b else Sx.mxB V) = max (Sx.mxB V) l.b := by split <;> omega
          rw [hm1, hm2]
          refine ⟨⟨k + 1, by omega, by go_num, by rw [HV.out, Sx.mxD_snoc], by rw [HV.out, Sx.mxB_snoc], by rw [HV.out, List.length_append]; rfl, Lib.hid (below_drewN (HB.out.alloc HB.out.size _) _)⟩, by simp [intOf]; omega⟩
        · have h2' : decide (t < l.u) = false := decide_eq_false h2
          have HV : Hid (Sx.lv c t (k + 1) = V) := Lib.hid (by rw [HS.out, if_neg (by unfold Sx.liveB; rw [h2']; simp)])
          clear h1 h2
          go_wp2_with fail
          go_quiet (fail)
          go_wp2_with fail
          go_roundw
          case rel => exact ⟨k + 1, by omega, by go_num, by rw [HV.out], by rw [HV.out], by rw [HV.out], Lib.hid (below_drewN (HB.out.alloc HB.out.size _) _)⟩
          case measure => simp [intOf]; omega
      · have h1' : decide (c.kn ≤ l.n) = false := decide_eq_false h1
        have HV : Hid (Sx.lv c t (k + 1) = V) := Lib.hid (by rw [HS.out, if_neg (by unfold Sx.liveB; rw [h1']; simp)])
        clear h1
        go_wp2_with fail
        go_quiet (fail)
        go_wp2_with fail
        go_roundw
        case rel => exact ⟨k + 1, by omega, by go_num, by rw [HV.out], by rw [HV.out], by rw [HV.out], Lib.hid (below_drewN (HB.out.alloc HB.out.size _) _)⟩
        case measure => simp [intOf]; omega
    · have e : k = c.L.length := by omega
      subst e
      have HE := Lib.hid (Sx.lv_all c t)
      go_wp2_with fail
      go_ret3
      rw [HE.out]
      exact ⟨rfl, HB.out⟩
end Go.Proofs.Ytlklnaebdnahcaa
namespace Go.Proofs.Ytlklnaebdnahcaa
open Go.RowKit
theorem info43 : (Try.prog.info? 116).map (fun i => (i.zero, i.size, i.bytes)) = some (some (.agg #[.int .i64 0, .int .i64 0, .int .i64 0, .int .i64 0]), 4, 32) := by kernel_rfl
def flatLs (L : List Ls) : List Value := L.flatMap Ls.vals
theorem flatLs_append (a b : List Ls) : flatLs (a ++ b) = flatLs a ++ flatLs b := by simp [flatLs]
theorem flatLs_length (L : List Ls) : (flatLs L).length = L.length * 4 := by
  induction L with
  | nil => rfl
  | cons x L ih =>
    have e : flatLs (x :: L) = x.vals ++ flatLs L := rfl
    rw [e, List.length_append, ih, List.length_cons]
    simp [Ls.vals]
    omega
theorem flatLs_drop (L : List Ls) : ∀ k, (flatLs L).drop (k * 4) = flatLs (L.drop k) := by
  induction L with
  | nil => intro k; simp [flatLs]
  | cons x L ih =>
    intro k
    cases k with
    | zero => rfl
    | succ k =>
      have e : flatLs (x :: L) = x.vals ++ flatLs L := rfl
      rw [e, show (k + 1) * 4 = x.vals.length + k * 4 by simp [Ls.vals]; omega, ← List.drop_drop, List.drop_left, ih k]
      rfl
theorem flatLs_one (L : List Ls) : ∀ u ∈ flatLs L, u.oneCell' = true := by
  intro u hu
  simp only [flatLs, List.mem_flatMap, Ls.vals] at hu
  obtain ⟨n, _, hu⟩ := hu
  simp at hu
  rcases hu with rfl | rfl | rfl | rfl <;> rfl
theorem flatLs_at (L : List Ls) {i : Nat} (hi : i < L.length) (j : Nat) (u : Value) (hu : (L.getD i default).vals[j]? = some u) : (flatLs L)[i * 4 + j]? = some u := by
  have h1 : ((flatLs L).drop (i * 4))[j]? = some u := by
    rw [flatLs_drop, List.drop_eq_getElem_cons hi]
    have e : L.getD i default = L[i] := by rw [List.getD_eq_getElem?_getD, List.getElem?_eq_getElem hi]; rfl
    rw [e] at hu
    show (L[i].vals ++ flatLs (L.drop (i + 1)))[j]? = some u
    rw [List.getElem?_append_left (List.getElem?_eq_some_iff.1 hu).1]
    exact hu
  rwa [List.getElem?_drop] at h1
abbrev LRow (B : Nat) (A : Option Addr) (cap : Nat) (L : List Ls) (W : World) : Prop := W.ownsRow B 116 4 (.slice A L.length cap) L.length (flatLs L)
theorem lrow_cells {W : World} {B cap : Nat} {A : Option Addr} {L : List Ls} (h : LRow B A cap L W) (hn : 0 < L.length) : ∃ g, A = some ⟨g, 0, none⟩ ∧ g < W.heap.size ∧ B ≤ g ∧ L.length ≤ cap ∧ cap ≤ maxLen ∧ ∀ i u, (flatLs L)[i]? = some u → W.cell? ⟨g, i, none⟩ = some u := by
  rcases h.2 with ⟨h2, hx⟩ | ⟨g, c, cur, hv, hb, hg, hnc, hcm, _⟩
  · have := flatLs_length L
    rw [hx] at this
    simp at this
    omega
  · cases hv
    refine ⟨g, rfl, (Array.getElem?_eq_some_iff.1 hg).1, hb, hnc, hcm, fun i v hv => ?_⟩
    have hc := World.ownsRow.cells (g := g) h rfl i v hv
    rwa [show ((⟨g, 0, none⟩ : Addr).add i) = ⟨g, i, none⟩ from (by unfold Addr.add; split <;> simp_all)] at hc
theorem lrow_at {W : World} {B cap : Nat} {A : Option Addr} {L : List Ls} (h : LRow B A cap L W) : LsAt W A L := by
  intro i hi
  obtain ⟨g, rfl, hlt, _, _, _, hc⟩ := lrow_cells h (by omega)
  have e : ((⟨g, 0, none⟩ : Addr).add (i * 4)) = ⟨g, i * 4, none⟩ := by unfold Addr.add; split <;> simp_all
  refine ⟨_, rfl, hlt, ?_, ?_, ?_, ?_⟩ <;> rw [e]
  · exact hc _ _ (flatLs_at L hi 0 _ rfl)
  · exact hc _ _ (flatLs_at L hi 1 _ rfl)
  · exact hc _ _ (flatLs_at L hi 2 _ rfl)
  · exact hc _ _ (flatLs_at L hi 3 _ rfl)
theorem lrow_cap {W : World} {B cap : Nat} {A : Option Addr} {L : List Ls} (h : LRow B A cap L W) : L.length ≤ cap ∧ cap ≤ maxLen := by
  rcases h.2 with ⟨h2, hx⟩ | ⟨g, c, cur, hv, hb, hg, hnc, hcm, _⟩
  · have := flatLs_length L
    rw [hx] at this
    simp at this
    have e3 : cap = 0 := by injection h2
    exact ⟨by omega, by rw [e3]; decide⟩
  · cases hv
    exact ⟨hnc, hcm⟩
end Go.Proofs.Ytlklnaebdnahcaa
namespace Go.Proofs.Ytlklnaebdnahcaa
open Go.RowKit
def clV (A : Option Addr) (cap : Nat) (c : Sx.Cl) : List Value := [.slice A c.L.length cap, .int .i64 c.last, .int .i64 c.kn]
def ArrAt (W : World) (g : Nat) (ty : TypeId) (n : Nat) (f : Nat → List Value) : Prop := ∃ cs : Array Value, W.heap[g]? = some (.cells cs ty (0, 0)) ∧ ∀ i, i < n → ∀ j u, (f i)[j]? = some u → cs[i * 3 + j]? = some u
section
variable {W W' : World} {g n : Nat} {ty : TypeId} {f : Nat → List Value}
theorem ArrAt.lt (h : ArrAt W g ty n f) : g < W.heap.size := by
  obtain ⟨cs, h, _⟩ := h
  exact (Array.getElem?_eq_some_iff.1 h).1
theorem ArrAt.cell (h : ArrAt W g ty n f) {i : Nat} (hi : i < n) (j : Nat) {u : Value} (hu : (f i)[j]? = some u) : W.cell? ⟨g, i * 3 + j, none⟩ = some u := by
  obtain ⟨cs, h, hc⟩ := h
  simp [World.cell?, h, hc i hi j u hu]
theorem ArrAt.free (h : ArrAt W g ty n f) (o : Nat) : W.frozen? ⟨g, o, none⟩ = false := by
  obtain ⟨cs, h, hc⟩ := h
  simp [World.frozen?, h]
theorem ArrAt.of_eq (h : ArrAt W g ty n f) (e : W'.heap[g]? = W.heap[g]?) : ArrAt W' g ty n f := by
  obtain ⟨cs, h, hc⟩ := h
  exact ⟨cs, e.trans h, hc⟩
theorem ArrAt.touch {S : Nat → Prop} (h : ArrAt W g ty n f) (ht : Touch S W W') (hn : ¬ S g) : ArrAt W' g ty n f := h.of_eq (ht.block g h.lt hn)
theorem ArrAt.below (h : ArrAt W g ty n f) (hb : Below W.heap.size W W') : ArrAt W' g ty n f := h.of_eq (hb.block g h.lt)
theorem ArrAt.set (h : ArrAt W g ty n f) {i j : Nat} (hi : i < n) (hj : j < 3) (h3 : ∀ i, i < n → (f i).length = 3) (v : Value) : ArrAt (W.setCell ⟨g, i * 3 + j, none⟩ v) g ty n (fun k => if k = i then (f i).set j v else f k) := by
  have hlt := h.lt
  obtain ⟨cs, h, hc⟩ := h
  refine ⟨cs.setIfInBounds (i * 3 + j) v, ?_, fun k hk o u hu => ?_⟩
  · have h' : W.heap[g] = .cells cs ty (0, 0) := by simpa [Array.getElem?_eq_getElem hlt] using h
    show (W.heap.modify g _)[g]? = _
    rw [Array.getElem?_eq_getElem (by simpa using hlt), Array.getElem_modify_self, h']
    rfl
  · have hcs : i * 3 + j < cs.size := by
      obtain ⟨u0, hu0⟩ : ∃ u0, (f i)[j]? = some u0 := ⟨_, List.getElem?_eq_getElem (by rw [h3 i hi]; exact hj)⟩
      exact (Array.getElem?_eq_some_iff.1 (hc i hi j u0 hu0)).1
    by_cases hki : k = i
    · subst hki
      simp only [if_true] at hu
      rw [List.getElem?_set] at hu
      by_cases hjo : j = o
      · subst hjo
        rw [if_pos rfl] at hu
        split at hu
        · cases hu; simp [hcs]
        · cases hu
      · rw [if_neg hjo] at hu
        rw [Array.getElem?_setIfInBounds_ne (by omega)]
        exact hc k hk o u hu
    · simp only [hki, if_false] at hu
      have ho : o < 3 := by rw [← h3 k hk]; exact (List.getElem?_eq_some_iff.1 hu).1
      rw [Array.getElem?_setIfInBounds_ne (by omega)]
      exact hc k hk o u hu
theorem ArrAt.congr {f' : Nat → List Value} (h : ArrAt W g ty n f) (e : ∀ i, i < n → f' i = f i) : ArrAt W g ty n f' := by
  obtain ⟨cs, h, hc⟩ := h
  exact ⟨cs, h, fun i hi j u hu => hc i hi j u (by rw [← e i hi]; exact hu)⟩
end
structure SiteAt (W : World) (B gs gc cc : Nat) (A : Nat → Option Addr) (q : Nat → Nat) (cs : List Sx.Cl) (D Bk N : Int) : Prop where
  s : Blk W gs 121 [.int .i64 D, .int .i64 Bk, .int .i64 N, .slice (some ⟨gc, 0, none⟩) cs.length cc]
  a : ArrAt W gc 166 cs.length (fun i => clV (A i) (q i) (cs.getD i default))
  r : ∀ i, i < cs.length → LRow B (A i) (q i) (cs.getD i default).L W
  ne : ∀ i j, i < cs.length → j < cs.length → i ≠ j → ∀ k, OwnB (A i) k → ¬ OwnB (A j) k
  b : B ≤ gs ∧ B ≤ gc
  c : cs.length ≤ cc ∧ cc ≤ 9223372036854775807
def SOwn (gs gc : Nat) (A : Nat → Option Addr) (n k : Nat) : Prop := k = gs ∨ k = gc ∨ ∃ i, i < n ∧ OwnB (A i) k
theorem SiteAt.touch {W W' : World} {B gs gc cc : Nat} {A : Nat → Option Addr} {q : Nat → Nat} {cs : List Sx.Cl} {D Bk N : Int} {S : Nat → Prop} (h : SiteAt W B gs gc cc A q cs D Bk N) (ht : Touch S W W') (hn : ∀ k, SOwn gs gc A cs.length k → ¬ S k) : SiteAt W' B gs gc cc A q cs D Bk N :=
  ⟨h.s.touch ht (hn _ (.inl rfl)), h.a.touch ht (hn _ (.inr (.inl rfl))), fun i hi => rowE_keep (h.r i hi) ht (fun k hk => hn k (.inr (.inr ⟨i, hi, hk⟩))), h.ne, h.b, h.c⟩
theorem SiteAt.below {W W' : World} {B gs gc cc : Nat} {A : Nat → Option Addr} {q : Nat → Nat} {cs : List Sx.Cl} {D Bk N : Int} (h : SiteAt W B gs gc cc A q cs D Bk N) (hb : Below W.heap.size W W') : SiteAt W' B gs gc cc A q cs D Bk N :=
  h.touch (Touch.of_below (S := fun _ => False) hb) (fun _ _ e => e)
set_option maxHeartbeats 1000000 in
theorem client_c (gs gc n cc : Nat) (s : Int) (w : World) (hn : n ≤ cc) (hcc : cc ≤ 9223372036854775807) (c3 : w.cell? ⟨gs, 3, none⟩ = some (.slice (some ⟨gc, 0, none⟩) n cc)) :
    Calls Try.prog 77 #[.pointer (some ⟨gs, 0, none⟩), .int .i64 s] w fun e w' => e = .returned (if 0 ≤ s ∧ s < n then .tuple #[.pointer (some ⟨gc, s.toNat * 3, none⟩), .int .i64 0] else .tuple #[.pointer none, .int .i64 3]) ∧ w = w' := by
  have q139 : ∀ (w : World) (a : Option Addr) (n c n' c' : Nat), (binOp .eql 119 (.slice a n c) (.slice none n' c')).run Try.prog w = .ok (.bool a.isNone) w := fun w a n c n' c' => Lib.run_eql_slice_nil w _ _ a n c n' c' Try.underlying119
  by_cases h1 : 0 ≤ s
  · obtain ⟨m, rfl⟩ := Int.eq_ofNat_of_zero_le h1
    have h1' : decide ((m : Int) < 0) = false := decide_eq_false (by omega)
    by_cases h2 : m < n
    · have h2' : decide (n ≤ m) = false := decide_eq_false (by omega)
      rw [if_pos (by omega)]
      have hm0 : (0 : Int) ≤ (m : Int) := by omega
      have hm1 : (m : Int) < (n : Int) := by omega
      go_enter Try.func77, Try.ntmps77
      go_wp2
      go_ret2
      simp
    · have h2' : decide (n ≤ m) = true := decide_eq_true (by omega)
      rw [if_neg (by omega)]
      clear h2
      go_enter Try.func77, Try.ntmps77
      go_wp2
      go_ret2
      exact ⟨rfl, rfl⟩
  · have h1' : decide (s < 0) = true := decide_eq_true (by omega)
    rw [if_neg (by omega)]
    clear h1
    go_enter Try.func77, Try.ntmps77
    go_wp2
    go_ret2
    exact ⟨rfl, rfl⟩
theorem SiteAt.res {W : World} {B gs gc cc : Nat} {A : Nat → Option Addr} {q : Nat → Nat} {cs : List Sx.Cl} {D Bk N : Int} (h : SiteAt W B gs gc cc A q cs D Bk N) {K : Int} (hk : K ≤ 100000) (hok : ∀ c ∈ cs, Sx.OkC K c) {i : Nat} (hi : i < cs.length) (t : Int) {w : World} (hb : Below W.heap.size W w) :
    Calls Try.prog 78 #[.pointer (some ⟨gc, i * 3, none⟩), .int .i64 t] w fun e w' => e = .returned (.tuple #[.int .i64 (Sx.rD (cs.getD i default) t), .int .i64 (Sx.rB (cs.getD i default) t), .int .i64 (Sx.many (cs.getD i default) t)]) ∧ Below w.heap.size w w' := by
  have hw := h.below hb
  have hm := hok (cs.getD i default) (by rw [List.getD_eq_getElem?_getD, List.getElem?_eq_getElem hi]; exact List.getElem_mem hi)
  have hc := lrow_cap (hw.r i hi)
  unfold maxLen at hc
  have hln := hm.ln
  exact reserved_c gc (i * 3) (A i) (q i) _ t w hm.ls (by omega) hc.1 (by omega) (hw.a.cell hi 0 rfl) (hw.a.cell hi 2 rfl) (lrow_at (hw.r i hi))
end Go.Proofs.Ytlklnaebdnahcaa
namespace Go.Proofs.Ytlklnaebdnahcaa
open Go.RowKit
theorem of1_c (a b : Int) (w : World) : Calls Try.prog 80 #[.int .i64 a, .int .i64 b] w fun e w' => e = .returned (.int .i64 a) ∧ w = w' := by
  go_enter Try.func80, Try.ntmps80
  go_wp2
  go_ret
  exact ⟨rfl, rfl⟩
theorem of2_c (a b : Int) (w : World) : Calls Try.prog 81 #[.int .i64 a, .int .i64 b] w fun e w' => e = .returned (.int .i64 b) ∧ w = w' := by
  go_enter Try.func81, Try.ntmps81
  go_wp2
  go_ret
  exact ⟨rfl, rfl⟩
def GrV (w : World) (b6 b11 b7 b16 b8 b17 b9 gs : Nat) (now : Int) (m : Nat) (a dr b bk : Int) : Prop :=
  w.cell? ⟨b6, 0, none⟩ = some (.pointer (some ⟨gs, 0, none⟩)) ∧ w.cell? ⟨b11, 0, none⟩ = some (.int .i64 now) ∧ w.cell? ⟨b7, 0, none⟩ = some (.int .i64 m) ∧ w.cell? ⟨b16, 0, none⟩ = some (.int .i64 a) ∧ w.cell? ⟨b8, 0, none⟩ = some (.int .i64 dr) ∧ w.cell? ⟨b17, 0, none⟩ = some (.int .i64 b) ∧ w.cell? ⟨b9, 0, none⟩ = some (.int .i64 bk)
theorem cell_keep {w w1 : World} (hb : Below w.heap.size w w1) {g o : Nat} {v : Value} (h : w.cell? ⟨g, o, none⟩ = some v) : w1.cell? ⟨g, o, none⟩ = some v := (hb.cell (World.block_lt_of_cell? _ _ h)).trans h
theorem GrV.below {w w1 : World} {b6 b11 b7 b16 b8 b17 b9 gs : Nat} {now : Int} {m : Nat} {a dr b bk : Int} (h : GrV w b6 b11 b7 b16 b8 b17 b9 gs now m a dr b bk) (hb : Below w.heap.size w w1) : GrV w1 b6 b11 b7 b16 b8 b17 b9 gs now m a dr b bk :=
  ⟨cell_keep hb h.1, cell_keep hb h.2.1, cell_keep hb h.2.2.1, cell_keep hb h.2.2.2.1, cell_keep hb h.2.2.2.2.1, cell_keep hb h.2.2.2.2.2.1, cell_keep hb h.2.2.2.2.2.2⟩
set_option maxHeartbeats 4000000 in
theorem sum1_c {w : World} {B gs gc cc : Nat} {A : Nat → Option Addr} {q : Nat → Nat} {cs : List Sx.Cl} {D Bk N : Int} (h : SiteAt w B gs gc cc A q cs D Bk N) {K : Int} (hk : K ≤ 100000) (hok : ∀ c ∈ cs, Sx.OkC K c) (hn32 : cs.length ≤ 32) (b6 b11 b7 b16 b8 b17 b9 : Nat) (now : Int) (m : Nat) (a dr b bk : Int) (ha : 0 ≤ a ∧ a ≤ 1073741824) (hdr : 0 ≤ dr ∧ dr ≤ 1073741824) (hb : 0 ≤ b ∧ b ≤ 1073741824) (hbk : 0 ≤ bk ∧ bk ≤ 1073741824) (hv : GrV w b6 b11 b7 b16 b8 b17 b9 gs now m a dr b bk) :
    Calls Try.prog 79 #[.func (.func 80) #[] #[], .pointer (some ⟨b6, 0, none⟩), .pointer (some ⟨b11, 0, none⟩), .pointer (some ⟨b7, 0, none⟩), .pointer (some ⟨b16, 0, none⟩), .pointer (some ⟨b8, 0, none⟩), .pointer (some ⟨b17, 0, none⟩), .pointer (some ⟨b9, 0, none⟩)] w
      fun e w' => e = .returned (.int .i64 (Sx.sumF (fun c => Sx.rD c now) cs m (max a dr) cs.length)) ∧ Below w.heap.size w w' := by
  obtain ⟨p, hp⟩ : ∃ p, p = max a dr := ⟨_, rfl⟩
  obtain ⟨r, hr⟩ : ∃ r, r = max b bk := ⟨_, rfl⟩
  rw [← hp]
  have hx1 : 0 ≤ p ∧ p ≤ 1073741824 := by omega
  have hx2 : 0 ≤ r ∧ r ≤ 1073741824 := by omega
  have HP := Lib.hid hp
  have HQ := Lib.hid hr
  clear hp hr
  have HR := Lib.hid (fun (i : Nat) (hi : i < cs.length) W (hW : Below w.heap.size w W) => h.res hk hok hi now hW)
  have HV := Lib.hid hv
  have HS := Lib.hid h
  have HB := Lib.hid (fun k hkl => Sx.sumF_bd (f := fun c => Sx.rD c now) (cs := cs) (st := m) (x := p) (by omega) k hkl (fun c hc => (Sx.mx_bd (Sx.okL_live (hok c hc).ls now)).1))
  have HE := Lib.hid (fun (i : Nat) (hi : i < cs.length) => Sx.mx_bd (Sx.okL_live (hok (cs.getD i default) (by rw [List.getD_eq_getElem?_getD, List.getElem?_eq_getElem hi]; exact List.getElem_mem hi)).ls now))
  have v6 := hv.1
  have c3 := h.s.cell 3 rfl
  have hcc := h.c.1
  have hcm := h.c.2
  clear h hok hv
  go_enter Try.func79, Try.ntmps79
  go_wp2
  clear v6 c3
  go_loopw [10, 20] (fun s i wr => ∃ k : Nat, k ≤ cs.length ∧ i = .int .i64 k ∧ s = .int .i64 (Sx.sumF (fun c => Sx.rD c now) cs m p k) ∧ Hid (Below w.heap.size w wr)) (fun _ i _ => cs.length - (intOf i).toNat)
  case atStart => exact ⟨0, Nat.zero_le _, rfl, rfl, Lib.hid (Below.refl _ _)⟩
  case round =>
    obtain ⟨k, hk, rfl, rfl, HW⟩ := hrel
    by_cases hlt : k < cs.length
    · have hsb := HB.out k (by omega)
      have hsb2 := Int.le_trans hsb.2 (show (k : Int) * 1073741824 ≤ 34359738368 by omega)
      have hsb1 := hsb.1
      clear hsb
      obtain ⟨v1, v2, v3, v4, v5, v6, v7⟩ := HV.out.below HW.out
      have c3 := (HS.out.below HW.out).s.cell 3 rfl
      have z1 := World.block_lt_of_cell? _ _ v1
      have z2 := World.block_lt_of_cell? _ _ v2
      have z8 := World.block_lt_of_cell? _ _ c3
      have PR := Lib.hid (fun W (hW : Below wr.heap.size wr W) => HR.out k hlt W (HW.out.trans (hW.mono HW.out.size)))
      have HSu := Lib.hid (show Sx.sumF (fun c => Sx.rD c now) cs m p (k + 1) = Sx.sumF (fun c => Sx.rD c now) cs m p k + (if k = m then p else Sx.rD (cs.getD k default) now) from rfl)
      have hrd : 0 ≤ Sx.rD (cs.getD k default) now ∧ Sx.rD (cs.getD k default) now ≤ 1073741824 := (HE.out k hlt).1
      have hrb : 0 ≤ Sx.rB (cs.getD k default) now ∧ Sx.rB (cs.getD k default) now ≤ 1073741824 := (HE.out k hlt).2
      have k0 : (0 : Int) ≤ (k : Int) := by omega
      have k1 : (k : Int) < (cs.length : Int) := by omega
      generalize Sx.sumF (fun c => Sx.rD c now) cs m p k = s at *
      generalize Sx.rD (cs.getD k default) now = x at *
      generalize Sx.rB (cs.getD k default) now = y at *
      generalize ((Sx.many (cs.getD k default) now : Nat) : Int) = z at *
      go_wp2_with fail
      refine wp_region_past (by kernel_rfl) (by kernel_rfl) ?_
      repeat (go_big_quiet_step ((go_at_call 78; exact past_below (PR.out _ (Past.far _)))))
      refine wpQuiet_nil ?_
      intro xx
      have HX := Lib.hid xx.far
      generalize xx.w = w4 at HX ⊢
      have HW4 := Lib.hid (HW.out.trans (HX.out.mono HW.out.size))
      clear v1 v2 v3 v4 v5 v6 v7 c3 z1 z2 z8
      obtain ⟨v1, v2, v3, v4, v5, v6, v7⟩ := HV.out.below HW4.out
      by_cases hkm : k = m
      · have hkm' : ((k : Int) == (m : Int)) = true := by simp [hkm]
        have HT := Lib.hid (HSu.out.trans (by rw [if_pos hkm]))
        clear hkm
        go_wp2_with fail
        go_quiet (fail)
        have hm1 : (if a < dr then dr else a) = p := by have := HP.out; split <;> omega
        have hm2 : (if b < bk then bk else b) = r := by have := HQ.out; split <;> omega
        try rw [hm1]
        try rw [hm2]
        clear hm1 hm2
        go_wp2_with (go_at_call 80; refine (of1_c _ _ _).mono ?_; rintro e w' ⟨rfl, rfl⟩)
        go_roundw
        case rel => exact ⟨k + 1, by omega, by go_num, by rw [HT.out], Lib.hid (below_drewN HW4.out _)⟩
        case measure => simp [intOf]; omega
      · have hkm' : ((k : Int) == (m : Int)) = false := by simp; omega
        have HT := Lib.hid (HSu.out.trans (by rw [if_neg hkm]))
        clear hkm
        go_wp2_with (go_at_call 80; refine (of1_c _ _ _).mono ?_; rintro e w' ⟨rfl, rfl⟩)
        go_roundw
        case rel => exact ⟨k + 1, by omega, by go_num, by rw [HT.out], HW4⟩
        case measure => simp [intOf]; omega
    · have e : k = cs.length := by omega
      subst e
      go_wp2_with fail
      go_ret
      exact ⟨rfl, HW.out⟩
set_option maxHeartbeats 4000000 in
theorem sum2_c {w : World} {B gs gc cc : Nat} {A : Nat → Option Addr} {q : Nat → Nat} {cs : List Sx.Cl} {D Bk N : Int} (h : SiteAt w B gs gc cc A q cs D Bk N) {K : Int} (hk : K ≤ 100000) (hok : ∀ c ∈ cs, Sx.OkC K c) (hn32 : cs.length ≤ 32) (b6 b11 b7 b16 b8 b17 b9 : Nat) (now : Int) (m : Nat) (a dr b bk : Int) (ha : 0 ≤ a ∧ a ≤ 1073741824) (hdr : 0 ≤ dr ∧ dr ≤ 1073741824) (hb : 0 ≤ b ∧ b ≤ 1073741824) (hbk : 0 ≤ bk ∧ bk ≤ 1073741824) (hv : GrV w b6 b11 b7 b16 b8 b17 b9 gs now m a dr b bk) :
    Calls Try.prog 79 #[.func (.func 81) #[] #[], .pointer (some ⟨b6, 0, none⟩), .pointer (some ⟨b11, 0, none⟩), .pointer (some ⟨b7, 0, none⟩), .pointer (some ⟨b16, 0, none⟩), .pointer (some ⟨b8, 0, none⟩), .pointer (some ⟨b17, 0, none⟩), .pointer (some ⟨b9, 0, none⟩)] w
      fun e w' => e = .returned (.int .i64 (Sx.sumF (fun c => Sx.rB c now) cs m (max b bk) cs.length)) ∧ Below w.heap.size w w' := by
  obtain ⟨p, hp⟩ : ∃ p, p = max a dr := ⟨_, rfl⟩
  obtain ⟨r, hr⟩ : ∃ r, r = max b bk := ⟨_, rfl⟩
  rw [← hr]
  have hx1 : 0 ≤ p ∧ p ≤ 1073741824 := by omega
  have hx2 : 0 ≤ r ∧ r ≤ 1073741824 := by omega
  have HP := Lib.hid hp
  have HQ := Lib.hid hr
  clear hp hr
  have HR := Lib.hid (fun (i : Nat) (hi : i < cs.length) W (hW : Below w.heap.size w W) => h.res hk hok hi now hW)
  have HV := Lib.hid hv
  have HS := Lib.hid h
  have HB := Lib.hid (fun k hkl => Sx.sumF_bd (f := fun c => Sx.rB c now) (cs := cs) (st := m) (x := r) (by omega) k hkl (fun c hc => (Sx.mx_bd (Sx.okL_live (hok c hc).ls now)).2))
  have HE := Lib.hid (fun (i : Nat) (hi : i < cs.length) => Sx.mx_bd (Sx.okL_live (hok (cs.getD i default) (by rw [List.getD_eq_getElem?_getD, List.getElem?_eq_getElem hi]; exact List.getElem_mem hi)).ls now))
  have v6 := hv.1
  have c3 := h.s.cell 3 rfl
  have hcc := h.c.1
  have hcm := h.c.2
  clear h hok hv
  go_enter Try.func79, Try.ntmps79
  go_wp2
  clear v6 c3
  go_loopw [10, 20] (fun s i wr => ∃ k : Nat, k ≤ cs.length ∧ i = .int .i64 k ∧ s = .int .i64 (Sx.sumF (fun c => Sx.rB c now) cs m r k) ∧ Hid (Below w.heap.size w wr)) (fun _ i _ => cs.length - (intOf i).toNat)
  case atStart => exact ⟨0, Nat.zero_le _, rfl, rfl, Lib.hid (Below.refl _ _)⟩
  case round =>
    obtain ⟨k, hk, rfl, rfl, HW⟩ := hrel
    by_cases hlt : k < cs.length
    · have hsb := HB.out k (by omega)
      have hsb2 := Int.le_trans hsb.2 (show (k : Int) * 1073741824 ≤ 34359738368 by omega)
      have hsb1 := hsb.1
      clear hsb
      obtain ⟨v1, v2, v3, v4, v5, v6, v7⟩ := HV.out.below HW.out
      have c3 := (HS.out.below HW.out).s.cell 3 rfl
      have z1 := World.block_lt_of_cell? _ _ v1
      have z2 := World.block_lt_of_cell? _ _ v2
      have z8 := World.block_lt_of_cell? _ _ c3
      have PR := Lib.hid (fun W (hW : Below wr.heap.size wr W) => HR.out k hlt W (HW.out.trans (hW.mono HW.out.size)))
      have HSu := Lib.hid (show Sx.sumF (fun c => Sx.rB c now) cs m r (k + 1) = Sx.sumF (fun c => Sx.rB c now) cs m r k + (if k = m then r else Sx.rB (cs.getD k default) now) from rfl)
      have hrd : 0 ≤ Sx.rD (cs.getD k default) now ∧ Sx.rD (cs.getD k default) now ≤ 1073741824 := (HE.out k hlt).1
      have hrb : 0 ≤ Sx.rB (cs.getD k default) now ∧ Sx.rB (cs.getD k default) now ≤ 1073741824 := (HE.out k hlt).2
      have k0 : (0 : Int) ≤ (k : Int) := by omega
      have k1 : (k : Int) < (cs.length : Int) := by omega
      generalize Sx.sumF (fun c => Sx.rB c now) cs m r k = s at *
      generalize Sx.rD (cs.getD k default) now = x at *
      generalize Sx.rB (cs.getD k default) now = y at *
      generalize ((Sx.many (cs.getD k default) now : Nat) : Int) = z at *
      go_wp2_with fail
      refine wp_region_past (by kernel_rfl) (by kernel_rfl) ?_
      repeat (go_big_quiet_step ((go_at_call 78; exact past_below (PR.out _ (Past.far _)))))
      refine wpQuiet_nil ?_
      intro xx
      have HX := Lib.hid xx.far
      generalize xx.w = w4 at HX ⊢
      have HW4 := Lib.hid (HW.out.trans (HX.out.mono HW.out.size))
      clear v1 v2 v3 v4 v5 v6 v7 c3 z1 z2 z8
      obtain ⟨v1, v2, v3, v4, v5, v6, v7⟩ := HV.out.below HW4.out
      by_cases hkm : k = m
      · have hkm' : ((k : Int) == (m : Int)) = true := by simp [hkm]
        have HT := Lib.hid (HSu.out.trans (by rw [if_pos hkm]))
        clear hkm
        go_wp2_with fail
        go_quiet (fail)
        have hm1 : (if a < dr then dr else a) = p := by have := HP.out; split <;> omega
        have hm2 : (if b < bk then bk else b) = r := by have := HQ.out; split <;> omega
        try rw [hm1]
        try rw [hm2]
        clear hm1 hm2
        go_wp2_with (go_at_call 81; refine (of2_c _ _ _).mono ?_; rintro e w' ⟨rfl, rfl⟩)
        go_roundw
        case rel => exact ⟨k + 1, by omega, by go_num, by rw [HT.out], Lib.hid (below_drewN HW4.out _)⟩
        case measure => simp [intOf]; omega
      · have hkm' : ((k : Int) == (m : Int)) = false := by simp; omega
        have HT := Lib.hid (HSu.out.trans (by rw [if_neg hkm]))
        clear hkm
        go_wp2_with (go_at_call 81; refine (of2_c _ _ _).mono ?_; rintro e w' ⟨rfl, rfl⟩)
        go_roundw
        case rel => exact ⟨k + 1, by omega, by go_num, by rw [HT.out], HW4⟩
        case measure => simp [intOf]; omega
    · have e : k = cs.length := by omega
      subst e
      go_wp2_with fail
      go_ret
      exact ⟨rfl, HW.out⟩
end Go.Proofs.Ytlklnaebdnahcaa
namespace Go.Proofs.Ytlklnaebdnahcaa
open Go Go.RowKit
def slotOf (a : Act) (t : Tmp) : Value := a.tmps.getD t undef
theorem slot_put_same {a : Act} {d : Tmp} (v : Value) (h : d < a.tmps.size) : slotOf (a.put (some d) v) d = v := by
  simp [slotOf, Act.put, h]
theorem slot_put_ne {a : Act} {x : Option Tmp} {t : Tmp} (v : Value) (h : x ≠ some t) : slotOf (a.put x v) t = slotOf a t := by
  cases x with
  | none => rfl
  | some d =>
    have hne : d ≠ t := fun e => h (by rw [e])
    simp [slotOf, Act.put, Array.getElem?_setIfInBounds_ne hne]
theorem size_put (a : Act) (x : Option Tmp) (v : Value) : (a.put x v).tmps.size = a.tmps.size := by
  cases x <;> simp [Act.put]
theorem defers_put (a : Act) (x : Option Tmp) (v : Value) : (a.put x v).defers = a.defers := by
  cases x <;> rfl
theorem act_ext {a b : Act} (hs : a.tmps.size = b.tmps.size) (hd : a.defers = b.defers) (h : ∀ t, slotOf a t = slotOf b t) : a = b := by
  cases a with
  | mk ta da =>
    cases b with
    | mk tb db =>
      simp only at hs hd
      subst hd
      congr 1
      apply Array.ext hs
      intro i h1 h2
      have := h i
      simpa [slotOf, h1, h2] using this
def leftBy (af : Act) (o : Oper) : Value := match o.dst with | some d => slotOf af d | none => undef
def dstsOk (n : Nat) : List Oper → Bool
  | [] => true
  | o :: r => (match o.dst with | some d => decide (d < n) && r.all (fun o' => o'.dst != some d) | none => false) && dstsOk n r
section
variable {P : Program} {ops : Array Oper} {C : World → Prop} {af : Act}
def AllIn (P : Program) (ops : Array Oper) (C : World → Prop) (af : Act) : List Oper → Act → Prop
  | [], a => a = af
  | o :: r, a => YieldsIn P ops C o (leftBy af o) a ∧ AllIn P ops C af r (a.put o.dst (leftBy af o))
theorem AllIn.keep : ∀ {l : List Oper} {a : Act}, AllIn P ops C af l a → af.tmps.size = a.tmps.size ∧ af.defers = a.defers ∧ ∀ t, (∀ o ∈ l, o.dst ≠ some t) → slotOf af t = slotOf a t
  | [], a, h => by
    have : a = af := h
    subst this
    exact ⟨rfl, rfl, fun _ _ => rfl⟩
  | o :: r, a, h => by
    obtain ⟨h1, h2, h3⟩ := AllIn.keep h.2
    refine ⟨by rw [h1, size_put], by rw [h2, defers_put], fun t ht => ?_⟩
    rw [h3 t (fun o' ho' => ht o' (by simp [ho'])), slot_put_ne _ (ht o (by simp))]
theorem allIn_of : ∀ {l : List Oper} {a : Act}, dstsOk a.tmps.size l = true → wpQuiet P ops C (fun a' => a' = af) l a → AllIn P ops C af l a
  | [], a, _, h => h
  | o :: r, a, hd, h => by
    unfold wpQuiet at h
    have hv : ∃ v, YieldsIn P ops C o v a ∧ wpQuiet P ops C (fun a' => a' = af) r (a.put o.dst v) := by
      split at h
      · rename_i hw
        obtain ⟨v, h1, h2⟩ := h
        exact ⟨v, .inl ⟨hw, h1⟩, h2⟩
      · rename_i hw
        exact ⟨undef, .inr ⟨by simpa using hw, rfl⟩, h⟩
    obtain ⟨v, hy, hr⟩ := hv
    simp only [dstsOk, Bool.and_eq_true] at hd
    obtain ⟨hd1, hd2⟩ := hd
    split at hd1
    · rename_i d hod
      simp only [Bool.and_eq_true, decide_eq_true_eq, List.all_eq_true] at hd1
      have hA := allIn_of (l := r) (a := a.put o.dst v) (by rw [size_put]; exact hd2) hr
      have he : leftBy af o = v := by
        unfold leftBy
        rw [hod]
        have := hA.keep.2.2 d (fun o' ho' => by simpa using hd1.2 o' ho')
        simp only [this, hod]
        exact slot_put_same v hd1.1
      refine ⟨by rw [he]; exact hy, by rw [he]; exact hA⟩
    · cases hd1
def accum (af : Act) (l : List Oper) (a : Act) : Act := l.foldl (fun a o => a.put o.dst (leftBy af o)) a
theorem AllIn.get : ∀ {l : List Oper} {a : Act} {i : Nat} {o : Oper}, AllIn P ops C af l a → l[i]? = some o → YieldsIn P ops C o (leftBy af o) (accum af (l.take i) a)
  | [], _, _, _, _, hi => by simp at hi
  | o :: r, a, 0, o', h, hi => by
    have : o = o' := by simpa using hi
    subst this
    exact h.1
  | o :: r, a, i + 1, o', h, hi => by
    have := AllIn.get (i := i) h.2 (by simpa using hi)
    simpa [accum] using this
theorem accum_slot : ∀ (l : List Oper) (a : Act) (t : Tmp), dstsOk a.tmps.size l = true → slotOf (accum af l a) t = if l.any (fun o => o.dst == some t) = true then slotOf af t else slotOf a t
  | [], a, t, _ => by simp [accum]
  | o :: r, a, t, hd => by
    have hd' := hd
    simp only [dstsOk, Bool.and_eq_true] at hd
    have ih := accum_slot r (a.put o.dst (leftBy af o)) t (by rw [size_put]; exact hd.2)
    have e : accum af (o :: r) a = accum af r (a.put o.dst (leftBy af o)) := rfl
    rw [e, ih]
    by_cases hr : r.any (fun o => o.dst == some t) = true
    · simp [hr]
    · rw [if_neg hr]
      by_cases ho : o.dst = some t
      · have h1 := hd.1
        rw [ho] at h1
        simp only [Bool.and_eq_true, decide_eq_true_eq] at h1
        simp only [List.any_cons, ho, beq_self_eq_true, Bool.true_or, if_true]
        rw [slot_put_same _ h1.1]
        simp [leftBy, ho]
      · rw [slot_put_ne _ ho]
        have : (o.dst == some t) = false := by simpa using ho
        simp [List.any_cons, this, hr]
theorem dstsOk_take : ∀ (l : List Oper) (n i : Nat), dstsOk n l = true → dstsOk n (l.take i) = true
  | _, _, 0, _ => by simp [dstsOk]
  | [], _, _ + 1, _ => by simp [dstsOk]
  | o :: r, n, i + 1, h => by
    simp only [dstsOk, Bool.and_eq_true, List.take_succ_cons] at h ⊢
    refine ⟨?_, dstsOk_take r n i h.2⟩
    have h1 := h.1
    split at h1
    · simp only [Bool.and_eq_true, decide_eq_true_eq, List.all_eq_true] at h1 ⊢
      exact ⟨h1.1, fun o' ho' => h1.2 o' (List.mem_of_mem_take ho')⟩
    · cases h1
end
theorem wanted_congr {ops : Array Oper} {o : Oper} {a a' : Act} (h : ∀ t ∈ o.looksAt ops, slotOf a t = slotOf a' t) : Region.wanted o (yielded ops a.tmps) = Region.wanted o (yielded ops a'.tmps) := by
  unfold Region.wanted
  cases hg : o.guard with
  | none => rfl
  | some gw =>
    obtain ⟨g, b⟩ := gw
    simp only
    congr 1
    unfold yielded
    cases hd : (ops[g]?).bind (·.dst) with
    | none => simp
    | some d =>
      have := h d (by unfold Oper.looksAt; rw [hg]; simp [hd])
      simp only [slotOf, Array.getD_eq_getD_getElem?] at this
      have key : ∀ x : Option Value, (match x with | some (.bool b) => some b | _ => none) = (match x.getD undef with | .bool b => some b | _ => none) := by
        intro x
        cases x with
        | none => rfl
        | some v => cases v <;> rfl
      simp only [Option.bind_some]
      refine (key _).trans (Eq.trans ?_ (key _).symm)
      rw [this]
def unl (listed : Array Bool) : Nat := (listed.toList.filter (fun b => !b)).length
theorem unl_list : ∀ (l : List Bool) (i : Nat), l[i]? = some false → ((l.set i true).filter (fun b => !b)).length + 1 = (l.filter (fun b => !b)).length
  | [], i, h => by simp at h
  | b :: l, 0, h => by
    have : b = false := by simpa using h
    subst this
    simp
  | b :: l, i + 1, h => by
    have := unl_list l i (by simpa using h)
    cases b
    · simp only [List.set_cons_succ, List.filter_cons, Bool.not_false, if_true, List.length_cons]; omega
    · simpa using this
theorem unl_set {listed : Array Bool} {i : Nat} (hi : i < listed.size) (h : listed.getD i true = false) : unl (listed.setIfInBounds i true) + 1 = unl listed := by
  unfold unl
  have h' : listed.toList[i]? = some false := by
    have : listed[i] = false := by simpa [Array.getD, hi] using h
    simp [hi, this]
  have := unl_list listed.toList i h'
  simpa using this
theorem unl_rep (n : Nat) : unl (Array.replicate n false) = n := by simp [unl]
theorem unl_done {a b : Nat} : unl (Array.replicate a true ++ Array.replicate b false) = b := by simp [unl]
def waitsB1 (md : Region.Mode) (ops : Array Oper) (t i : Nat) : Bool :=
  match ops[t]? with
  | some o => o.after.any fun e => Region.binds md e && e.on == i
  | none => false
theorem waitsB1_spec {md : Region.Mode} {ops : Array Oper} {t i : Nat} {o : Oper} (ho : ops[t]? = some o) (h : waitsB1 md ops t i = true) : ∃ e ∈ o.after, Region.binds md e = true ∧ e.on = i := by
  unfold waitsB1 at h
  rw [ho] at h
  obtain ⟨e, he, hb⟩ := Array.any_eq_true'.1 h
  simp only [Bool.and_eq_true, beq_iff_eq] at hb
  exact ⟨e, he, hb.1, hb.2⟩
def floatB (ops : Array Oper) (k n : Nat) : Bool :=
  Region.noSelect ops && decide (k < ops.size) && dstsOk n (ops.toList.take (k + 1)) &&
  (List.range ops.size).all (fun i => match ops[i]? with | some o => o.after.all (fun e => !Region.binds .any e || decide (e.on < i)) | none => false) &&
  (List.range ops.size).all (fun t => decide (t ≤ k) || (List.range (k + 1)).all (fun i => waitsB1 .any ops t i)) &&
  (List.range k).all (fun i => (List.range (k + 1)).all fun j => match ops[i]?, ops[j]? with
    | some oi, some oj => (match oj.dst with | some d => !(oi.looksAt ops).contains d || (decide (j < i) && waitsB1 .any ops i j) | none => false)
    | _, _ => false) &&
  Region.seqB .any ops (ops.size - (k + 1)) (k + 1) (Array.replicate (k + 1) true ++ Array.replicate (ops.size - (k + 1)) false)
structure Mid (P : Program) (ops : Array Oper) (k : Nat) (a0 af : Act) (W : World) (ds : Tmp) (O : Obj) (listed : Array Bool) (a : Act) (w : World) : Prop where
  size : listed.size = ops.size
  closed : ∀ j oj, ops[j]? = some oj → listed.getD j false = true → ∀ e ∈ oj.after, Region.binds .any e = true → listed.getD e.on false = true
  tail : ∀ t, k < t → t < ops.size → listed.getD t true = false
  ahd : Below W.heap.size W w
  defers : a.defers = a0.defers
  tsize : a.tmps.size = a0.tmps.size
  put : ∀ j o t, j < k → ops[j]? = some o → o.dst = some t → listed.getD j false = true → slotOf a t = slotOf af t
  same : ∀ t, t ≠ ds → (∀ j o, j < k → ops[j]? = some o → listed.getD j false = true → o.dst ≠ some t) → slotOf a t = slotOf a0 t
  spec : listed.getD k false = true → ∃ g, slotOf a ds = .pointer (some ⟨g, 0, none⟩) ∧ W.heap.size ≤ g ∧ w.heap[g]? = some O
section
variable {P : Program} {Q : Exit → Act → World → Prop} {W : World} {a0 af : Act} {l : List Oper} {k : Nat} {ok : Oper} {O : Obj} {ds : Tmp}
theorem getD_tf {listed : Array Bool} {i : Nat} (h : i < listed.size) : listed.getD i true = listed.getD i false := by
  simp [h]
theorem dsts_lt : ∀ (l : List Oper) (n j : Nat) (o : Oper), dstsOk n l = true → l[j]? = some o → ∃ d, o.dst = some d ∧ d < n
  | [], _, _, _, _, h => by simp at h
  | o :: r, n, 0, o', hd, h => by
    have : o = o' := by simpa using h
    subst this
    simp only [dstsOk, Bool.and_eq_true] at hd
    have h1 := hd.1
    split at h1
    · rename_i d hod
      simp only [Bool.and_eq_true, decide_eq_true_eq] at h1
      exact ⟨d, hod, h1.1⟩
    · cases h1
  | o :: r, n, j + 1, o', hd, h => by
    simp only [dstsOk, Bool.and_eq_true] at hd
    exact dsts_lt r n j o' hd.2 (by simpa using h)
theorem dsts_ne : ∀ (l : List Oper) (n i j : Nat) (o o' : Oper) (d : Tmp), dstsOk n l = true → l[i]? = some o → l[j]? = some o' → i ≠ j → o.dst = some d → o'.dst ≠ some d
  | [], _, _, _, _, _, _, _, h, _, _, _ => by simp at h
  | o :: r, n, 0, 0, _, _, _, _, _, _, hne, _ => absurd rfl hne
  | o :: r, n, 0, j + 1, x, y, d, hd, hi, hj, _, hx => by
    have : o = x := by simpa using hi
    subst this
    simp only [dstsOk, Bool.and_eq_true] at hd
    have h1 := hd.1
    rw [hx] at h1
    simp only [Bool.and_eq_true, decide_eq_true_eq, List.all_eq_true] at h1
    have := h1.2 y (List.mem_of_getElem? (show r[j]? = some y by simpa using hj))
    simpa using this
  | o :: r, n, i + 1, 0, x, y, d, hd, hi, hj, _, hx => by
    have : o = y := by simpa using hj
    subst this
    simp only [dstsOk, Bool.and_eq_true] at hd
    intro hy
    have h1 := hd.1
    rw [hy] at h1
    simp only [Bool.and_eq_true, decide_eq_true_eq, List.all_eq_true] at h1
    have := h1.2 x (List.mem_of_getElem? (show r[i]? = some x by simpa using hi))
    simp [hx] at this
  | o :: r, n, i + 1, j + 1, x, y, d, hd, hi, hj, hne, hx => by
    simp only [dstsOk, Bool.and_eq_true] at hd
    exact dsts_ne r n i j x y d hd.2 (by simpa using hi) (by simpa using hj) (by omega) hx
theorem first_no (listed : Array Bool) : ∀ (k : Nat), ¬ (∀ i, i ≤ k → listed.getD i false = true) → ∃ i, i ≤ k ∧ (∀ j, j < i → listed.getD j false = true) ∧ listed.getD i false = false
  | 0, h => ⟨0, Nat.le_refl _, fun j hj => absurd hj (Nat.not_lt_zero _), by
      cases hc : listed.getD 0 false
      · rfl
      · exact absurd (fun i hi => by obtain rfl : i = 0 := by omega
                                     exact hc) h⟩
  | k + 1, h => by
    by_cases hk : ∀ i, i ≤ k → listed.getD i false = true
    · refine ⟨k + 1, Nat.le_refl _, fun j hj => hk j (by omega), ?_⟩
      cases hc : listed.getD (k + 1) false
      · rfl
      · refine absurd (fun i hi => ?_) h
        by_cases hik : i = k + 1
        · rw [hik]; exact hc
        · exact hk i (by omega)
    · obtain ⟨i, h1, h2, h3⟩ := first_no listed k hk
      exact ⟨i, by omega, h2, h3⟩
theorem wp_region_float {id : Nat} (k : Nat) (ok : Oper) (O : Obj) (ds : Tmp) (af : Act) (hm : P.follows .mixedOrders = true) (hk : l[k]? = some ok) (hds : ok.dst = some ds) (hg : ok.guard = none)
    (hB : floatB l.toArray k a0.tmps.size = true)
    (hsp : ∀ (e : Operand → Value) (w : World), (execOp e ok).run P w = .ok (.value (.pointer (some ⟨w.heap.size, 0, none⟩))) (w.alloc O))
    (hwalk : ∀ V : World, Below W.heap.size W V → wpQuiet P l.toArray (fun w' => ∃ x : Past V, w' = x.w) (fun a' => a' = af) (l.take k) a0)
    (htail : ∀ (g : Nat) (w' : World), W.heap.size ≤ g → Below W.heap.size W w' → w'.heap[g]? = some O → wpList P l.toArray Q (l.drop (k + 1)) (af.put (some ds) (.pointer (some ⟨g, 0, none⟩))) w') :
    (Code.region id l.toArray true).wp P Q a0 W := by
  unfold floatB at hB
  simp only [Bool.and_eq_true, decide_eq_true_eq, List.all_eq_true, List.mem_range, Bool.or_eq_true] at hB
  obtain ⟨⟨⟨⟨⟨⟨hsel, hks⟩, hdst⟩, hback⟩, htl⟩, hdep⟩, hseq⟩ := hB
  have hsz : l.toArray.size = l.length := by simp
  have hkl : k < l.length := by rw [← hsz]; exact hks
  have hdst' : dstsOk a0.tmps.size (l.take (k + 1)) = true := hdst
  have hdk : dstsOk a0.tmps.size (l.take k) = true := by
    have := dstsOk_take _ _ k hdst'
    rwa [List.take_take, Nat.min_eq_left (by omega)] at this
  have hall : ∀ V : World, Below W.heap.size W V → AllIn P l.toArray (fun w' => ∃ x : Past V, w' = x.w) af (l.take k) a0 := fun V hV => allIn_of hdk (hwalk V hV)
  have hA0 := hall W (Below.refl _ _)
  have hget : ∀ i, i < k + 1 → (l.take (k + 1))[i]? = l[i]? := fun i hi => by rw [List.getElem?_take]; simp [hi]
  have hafs : ∀ t, (∀ j o, j < k → l[j]? = some o → o.dst ≠ some t) → slotOf af t = slotOf a0 t := fun t ht => hA0.keep.2.2 t (fun o ho => by
    obtain ⟨j, hj⟩ := List.getElem?_of_mem ho
    rw [List.getElem?_take] at hj
    split at hj
    · exact ht j o (by assumption) hj
    · cases hj)
  have hback' : ∀ i o, l[i]? = some o → ∀ e ∈ o.after, Region.binds .any e = true → e.on < i := by
    intro i o hi e he hb
    have hil : i < l.length := (List.getElem?_eq_some_iff.1 hi).1
    have h1 := hback i (by rw [hsz]; exact hil)
    have hi' : l.toArray[i]? = some o := by simpa using hi
    rw [hi'] at h1
    have h2 := Array.all_eq_true_iff_forall_mem.1 h1 e he
    simpa [hb] using h2
  have hdep' : ∀ i o j oj d, i < k → l[i]? = some o → j ≤ k → l[j]? = some oj → oj.dst = some d → d ∈ o.looksAt l.toArray → j < i ∧ waitsB1 .any l.toArray i j = true := by
    intro i o j oj d hi ho hj hoj hd hmem
    have h1 := hdep i hi j (by omega)
    have ho' : l.toArray[i]? = some o := by simpa using ho
    have hoj' : l.toArray[j]? = some oj := by simpa using hoj
    rw [ho', hoj'] at h1
    simp only [hd] at h1
    have hc : (o.looksAt l.toArray).contains d = true := by simpa using hmem
    rw [hc] at h1
    simpa using h1
  have dlt : ∀ i o, i ≤ k → l[i]? = some o → ∃ d, o.dst = some d ∧ d < a0.tmps.size := fun i o hi ho => dsts_lt _ _ i o hdst' (by rw [hget i (by omega)]; exact ho)
  have dne : ∀ i j o oj t, i ≤ k → j ≤ k → l[i]? = some o → l[j]? = some oj → i ≠ j → oj.dst = some t → o.dst ≠ some t := fun i j o oj t hi hj ho hoj hne hd => dsts_ne _ _ j i oj o t hdst' (by rw [hget j (by omega)]; exact hoj) (by rw [hget i (by omega)]; exact ho) (Ne.symm hne) hd
  have fin : ∀ (listed : Array Bool) (a : Act) (w : World), Mid P l.toArray k a0 af W ds O listed a w → (∀ i, i ≤ k → listed.getD i false = true) → ∀ fuel, unl listed = fuel → wpAny P .any l.toArray Q fuel listed a w := by
    intro listed a w m hdone fuel hu
    have hLH : listed = Array.replicate (k + 1) true ++ Array.replicate (l.toArray.size - (k + 1)) false := by
      apply Array.ext
      · simp [m.size]; omega
      · intro i h1 h2
        rcases Nat.lt_or_ge k i with h | h
        · have := m.tail i h (by rw [← m.size]; exact h1)
          rw [Array.getElem_append_right (by simp; omega)]
          simpa [h1] using this
        · have := hdone i h
          rw [Array.getElem_append_left (by simp; omega)]
          simpa [h1] using this
    obtain ⟨g, hg1, hg2, hg3⟩ := m.spec (hdone k (Nat.le_refl _))
    have hae : a = af.put (some ds) (.pointer (some ⟨g, 0, none⟩)) := by
      have hs0 := hA0.keep
      refine act_ext ?_ ?_ ?_
      · rw [size_put, m.tsize, hs0.1]
      · rw [defers_put, m.defers, hs0.2.1]
      · intro t
        by_cases ht : t = ds
        · subst ht
          obtain ⟨d, h1, h2⟩ := dlt k ok (Nat.le_refl _) hk
          rw [hds] at h1
          cases h1
          rw [hg1, slot_put_same _ (by rw [hs0.1]; exact h2)]
        · rw [slot_put_ne _ (fun e => ht (by cases e; rfl))]
          by_cases hex : ∃ j o, j < k ∧ l[j]? = some o ∧ o.dst = some t
          · obtain ⟨j, o, hj, ho, hd⟩ := hex
            exact m.put j o t hj (by simpa using ho) hd (hdone j (by omega))
          · rw [m.same t ht (fun j o hj ho _ hd => hex ⟨j, o, hj, by simpa using ho, hd⟩), hafs t (fun j o hj ho hd => hex ⟨j, o, hj, ho, hd⟩)]
    have hfu : fuel = (l.drop (k + 1)).length := by
      rw [← hu, hLH, unl_done]
      simp
    rw [hfu, hae]
    refine wpAny_of_seq (l.drop (k + 1)) (k + 1) listed _ w (fun j => by simp [List.getElem?_drop]) ?_ (htail g w hg2 m.ahd hg3)
    rw [hLH]
    have : (l.drop (k + 1)).length = l.toArray.size - (k + 1) := by simp
    rw [this]
    exact hseq
  have main : ∀ (fuel : Nat) (listed : Array Bool) (a : Act) (w : World), Mid P l.toArray k a0 af W ds O listed a w → unl listed = fuel → wpAny P .any l.toArray Q fuel listed a w := by
    intro fuel
    induction fuel with
    | zero =>
      intro listed a w m hu
      by_cases hdone : ∀ i, i ≤ k → listed.getD i false = true
      · exact fin listed a w m hdone _ hu
      · obtain ⟨i, hi, _, hun⟩ := first_no listed k hdone
        have := unl_set (listed := listed) (i := i) (by rw [m.size]; omega) (by rw [getD_tf (by rw [m.size]; omega)]; exact hun)
        omega
    | succ fuel ih =>
      intro listed a w m hu
      by_cases hdone : ∀ i, i ≤ k → listed.getD i false = true
      · exact fin listed a w m hdone _ hu
      · obtain ⟨i0, hi0, hpre, hun0⟩ := first_no listed k hdone
        refine ⟨fun h0 => ?_, fun i hi => ?_⟩
        · have hr : i0 ∈ Region.ready .any l.toArray listed := by
            rw [mem_ready]
            refine ⟨by rw [getD_tf (by rw [m.size]; omega)]; exact hun0, l[i0]'(by omega), by simp, fun e he hb => hpre _ ?_⟩
            exact hback' i0 _ (by simp) e he hb
          rw [h0] at hr
          cases hr
        · have hi' := hi
          obtain ⟨hun, o, ho, hw⟩ := mem_ready.1 hi
          have hil : i < l.length := by
            have := (Array.getElem?_eq_some_iff.1 ho).1
            simpa using this
          have hol : l[i]? = some o := by simpa using ho
          have hun' : unl (listed.setIfInBounds i true) = fuel := by
            have := unl_set (listed := listed) (i := i) (by rw [m.size]; omega) hun
            omega
          have hik : i ≤ k := by
            rcases Nat.lt_or_ge k i with h | h
            · have h1 := (htl i (by omega)).resolve_left (by omega) i0 (by omega)
              obtain ⟨e, he, hb, heo⟩ := waitsB1_spec ho h1
              have h2 := hw e he hb
              rw [heo, hun0] at h2
              cases h2
            · exact h
          have hclosed : ∀ j oj, l.toArray[j]? = some oj → (listed.setIfInBounds i true).getD j false = true → ∀ e ∈ oj.after, Region.binds .any e = true → (listed.setIfInBounds i true).getD e.on false = true := by
            intro j oj hj hl e he hb
            by_cases hji : i = j
            · subst hji
              rw [ho] at hj
              cases hj
              exact getD_set_true (hw e he hb)
            · rw [getD_set_ne false hji] at hl
              exact getD_set_true (m.closed j oj hj hl e he hb)
          have htail' : ∀ t, k < t → t < l.toArray.size → (listed.setIfInBounds i true).getD t true = false := fun t ht ht' => by rw [getD_set_ne true (by omega)]; exact m.tail t ht ht'
          by_cases hikk : i = k
          · subst hikk
            have hoo : o = ok := by rw [hk] at hol; exact (Option.some.inj hol).symm
            subst hoo
            have hdlt := dlt i o hik hol
            unfold wpOp
            simp only [ho]
            rw [if_pos (by unfold Region.wanted; rw [hg])]
            refine .inl ?_
            unfold Oper.wp
            rw [hsp]
            show wpAny P .any l.toArray Q fuel (listed.setIfInBounds i true) (a.put o.dst (.pointer (some ⟨w.heap.size, 0, none⟩))) (w.alloc O)
            refine ih _ _ _ ⟨by simp [m.size], hclosed, htail', m.ahd.alloc m.ahd.size _, by rw [defers_put]; exact m.defers, by rw [size_put]; exact m.tsize, ?_, ?_, ?_⟩ hun'
            · intro j oj t hj hoj hdt hl
              rw [getD_set_ne false (by omega)] at hl
              rw [slot_put_ne _ (dne i j o oj t hik (by omega) hol (by simpa using hoj) (by omega) hdt)]
              exact m.put j oj t hj hoj hdt hl
            · intro t ht hno
              rw [slot_put_ne _ (by rw [hds]; intro e; cases e; exact ht rfl)]
              exact m.same t ht (fun j oj hj hoj hl => hno j oj hj hoj (getD_set_true hl))
            · intro _
              refine ⟨w.heap.size, ?_, m.ahd.size, ?_⟩
              · rw [hds]
                obtain ⟨d, h1, h2⟩ := hdlt
                rw [hds] at h1
                cases h1
                exact slot_put_same _ (by rw [m.tsize]; exact h2)
              · show (w.heap.push O)[w.heap.size]? = _
                simp
          · have hik' : i < k := by omega
            obtain ⟨d, hod, hdlt⟩ := dlt i o hik hol
            have hlook : ∀ t ∈ o.looksAt l.toArray, slotOf a t = slotOf (accum af ((l.take k).take i) a0) t := by
              intro t ht
              rw [accum_slot _ _ _ (dstsOk_take _ _ _ hdk)]
              by_cases hex : ∃ j oj, j ≤ k ∧ l[j]? = some oj ∧ oj.dst = some t
              · obtain ⟨j, oj, hj, hoj, hdt⟩ := hex
                obtain ⟨hji, hwt⟩ := hdep' i o j oj t hik' hol hj hoj hdt ht
                obtain ⟨e, he, hb, heo⟩ := waitsB1_spec ho hwt
                have hlj := hw e he hb
                rw [heo] at hlj
                rw [m.put j oj t (by omega) (by simpa using hoj) hdt hlj, if_pos]
                rw [List.any_eq_true]
                refine ⟨oj, ?_, by simp [hdt]⟩
                refine List.mem_of_getElem? (i := j) ?_
                rw [List.getElem?_take, List.getElem?_take]
                simp only [hji, show j < k by omega, if_true, hoj]
              · rw [m.same t (fun e => hex ⟨k, ok, Nat.le_refl _, hk, by rw [e]; exact hds⟩) (fun j oj hj hoj _ hdt => hex ⟨j, oj, by omega, by simpa using hoj, hdt⟩), if_neg]
                intro hany
                rw [List.any_eq_true] at hany
                obtain ⟨oj, hmem, hdt⟩ := hany
                obtain ⟨j, hj⟩ := List.getElem?_of_mem (List.mem_of_mem_take hmem)
                rw [List.getElem?_take] at hj
                split at hj
                · exact hex ⟨j, oj, by omega, hj, by simpa using hdt⟩
                · cases hj
            have hy := (hall w m.ahd).get (i := i) (o := o) (by rw [List.getElem?_take]; simp [hik', hol])
            have he : execOp a.eval o = execOp (accum af ((l.take k).take i) a0).eval o := execOp_congr o (fun cs b => Region.noSelect_spec hsel i o cs b ho) (fun x hx => by
              cases x with
              | tmp t => exact hlook t (List.mem_append_left _ (List.mem_filterMap.2 ⟨.tmp t, by simpa using hx, rfl⟩))
              | _ => rfl)
            have hy' := hy.of_same he (wanted_congr hlook)
            refine wpOp_of_qOp (C := fun w' => ∃ x : Past w, w' = x.w) ⟨⟨w, Below.refl _ _⟩, rfl⟩ (fun a' w' hx ha => ?_) (hy'.qOp ho (K := fun a' => a' = a.put o.dst (leftBy af o)) rfl)
            obtain ⟨x, rfl⟩ := hx
            subst ha
            refine ih _ _ _ ⟨by simp [m.size], hclosed, htail', m.ahd.trans (x.far.mono m.ahd.size), by rw [defers_put]; exact m.defers, by rw [size_put]; exact m.tsize, ?_, ?_, ?_⟩ hun'
            · intro j oj t hj hoj hdt hl
              by_cases hji : i = j
              · subst hji
                rw [ho] at hoj
                cases hoj
                have : leftBy af o = slotOf af t := by simp [leftBy, hdt]
                rw [hdt, this]
                rw [hod] at hdt
                cases hdt
                exact slot_put_same _ (by rw [m.tsize]; exact hdlt)
              · rw [getD_set_ne false hji] at hl
                rw [slot_put_ne _ (dne i j o oj t hik (by omega) hol (by simpa using hoj) hji hdt)]
                exact m.put j oj t hj hoj hdt hl
            · intro t ht hno
              have h1 : (listed.setIfInBounds i true).getD i false = true := by
                have : i < listed.size := by rw [m.size]; omega
                simp [this]
              rw [slot_put_ne _ (hno i o hik' ho h1)]
              exact m.same t ht (fun j oj hj hoj hl => hno j oj hj hoj (getD_set_true hl))
            · intro hl
              rw [getD_set_ne false hikk] at hl
              obtain ⟨g, h1, h2, h3⟩ := m.spec hl
              refine ⟨g, ?_, h2, ?_⟩
              · rw [slot_put_ne _ (dne i k o ok ds hik (Nat.le_refl _) hol hk hikk hds)]
                exact h1
              · rw [x.far.block g (Array.getElem?_eq_some_iff.1 h3).1]
                exact h3
  refine wp_region_any hm (main _ _ a0 _ ?_ (by rw [unl_rep]))
  refine ⟨by simp, ?_, ?_, (Below.refl _ _).drew, rfl, rfl, ?_, ?_, ?_⟩
  · intro j oj hj h
    rw [getD_replicate_false] at h
    cases h
  · intro t _ ht
    have : (Array.replicate l.toArray.size false).getD t true = false := by simp at ht; simp [ht]
    exact this
  · intro j o t _ _ _ h
    rw [getD_replicate_false] at h
    cases h
  · intro t _ _; rfl
  · intro h
    rw [getD_replicate_false] at h
    cases h
end
end Go.Proofs.Ytlklnaebdnahcaa
namespace Go.Proofs.Ytlklnaebdnahcaa
open Go.RowKit
namespace Sx
def grE (cs : List Cl) (D B N s dr bk un now : Int) : Int := if 0 ≤ s ∧ s < cs.length then gE cs D B N s.toNat dr bk un now else 3
def grL (cs : List Cl) (D B N s dr bk un now : Int) : Ls := if grE cs D B N s dr bk un now = 0 then gLs cs s.toNat dr bk un else ⟨0, 0, 0, 0⟩
def grS (cs : List Cl) (D B N s dr bk un now : Int) : List Cl := if grE cs D B N s dr bk un now = 0 then gS cs s.toNat dr bk un else cs
def grN (cs : List Cl) (D B N s dr bk un now : Int) : Int := if grE cs D B N s dr bk un now = 0 then now else N
end Sx
def GrPost (w : World) (B gs gc cc : Nat) (A : Nat → Option Addr) (q : Nat → Nat) (cs : List Sx.Cl) (D Bk N s dr bk un now : Int) (e : Ending) (w' : World) : Prop :=
  ∃ (A' : Nat → Option Addr) (q' : Nat → Nat) (l : Ls), l = Sx.grL cs D Bk N s dr bk un now ∧ e = .returned (.tuple #[.agg #[.int .i64 l.n, .int .i64 l.d, .int .i64 l.b, .int .i64 l.u], .int .i64 (Sx.grE cs D Bk N s dr bk un now)]) ∧
    SiteAt w' B gs gc cc A' q' (Sx.grS cs D Bk N s dr bk un now) D Bk (Sx.grN cs D Bk N s dr bk un now) ∧ Touch (SOwn gs gc A cs.length) w w' ∧ ∀ i k, OwnB (A' i) k → OwnB (A i) k ∨ w.heap.size ≤ k
theorem grPost_no {w w' : World} {B gs gc cc : Nat} {A : Nat → Option Addr} {q : Nat → Nat} {cs : List Sx.Cl} {D Bk N s dr bk un now er : Int} (he : Sx.grE cs D Bk N s dr bk un now = er) (h0 : er ≠ 0) (h : SiteAt w B gs gc cc A q cs D Bk N) (hb : Below w.heap.size w w') :
    GrPost w B gs gc cc A q cs D Bk N s dr bk un now (.returned (.tuple #[.agg #[.int .i64 0, .int .i64 0, .int .i64 0, .int .i64 0], .int .i64 er])) w' := by
  subst he
  refine ⟨A, q, ⟨0, 0, 0, 0⟩, by unfold Sx.grL; rw [if_neg h0], rfl, ?_, Touch.of_below hb, fun i k hk => .inl hk⟩
  unfold Sx.grS Sx.grN
  rw [if_neg h0, if_neg h0]
  exact h.below hb
structure GrI (N0 gs : Nat) (s dr bk now : Int) (W : World) : Prop where
  p6 : Blk W N0 73 [.pointer (some ⟨gs, 0, none⟩)]
  p7 : Blk W (N0 + 1) 3 [.int .i64 s]
  p8 : Blk W (N0 + 2) 2 [.int .i64 dr]
  p9 : Blk W (N0 + 3) 2 [.int .i64 bk]
  p11 : Blk W (N0 + 4) 2 [.int .i64 now]
  p12 : Blk W (N0 + 5) 116 [.int .i64 0, .int .i64 0, .int .i64 0, .int .i64 0]
theorem GrI.touch {N0 gs : Nat} {s dr bk now : Int} {W W' : World} {S : Nat → Prop} (h : GrI N0 gs s dr bk now W) (ht : Touch S W W') (hn : ∀ k, N0 ≤ k → ¬ S k) : GrI N0 gs s dr bk now W' :=
  ⟨h.p6.touch ht (hn _ (Nat.le_refl _)), h.p7.touch ht (hn _ (by omega)), h.p8.touch ht (hn _ (by omega)), h.p9.touch ht (hn _ (by omega)), h.p11.touch ht (hn _ (by omega)), h.p12.touch ht (hn _ (by omega))⟩
theorem GrI.below {N0 gs : Nat} {s dr bk now : Int} {W W' : World} (h : GrI N0 gs s dr bk now W) (hb : Below W.heap.size W W') : GrI N0 gs s dr bk now W' := h.touch (Touch.of_below (S := fun _ => False) hb) (fun _ _ e => e)
theorem GrI.start (w : World) (gs : Nat) (s dr bk now : Int) :
    Below w.heap.size w ((((((w.alloc (.cells #[.pointer (some ⟨gs, 0, none⟩)] 73)).alloc (.cells #[.int .i64 s] 3)).alloc (.cells #[.int .i64 dr] 2)).alloc (.cells #[.int .i64 bk] 2)).alloc (.cells #[.int .i64 now] 2)).alloc (.cells #[.int .i64 0, .int .i64 0, .int .i64 0, .int .i64 0] 116)) ∧
    GrI w.heap.size gs s dr bk now ((((((w.alloc (.cells #[.pointer (some ⟨gs, 0, none⟩)] 73)).alloc (.cells #[.int .i64 s] 3)).alloc (.cells #[.int .i64 dr] 2)).alloc (.cells #[.int .i64 bk] 2)).alloc (.cells #[.int .i64 now] 2)).alloc (.cells #[.int .i64 0, .int .i64 0, .int .i64 0, .int .i64 0] 116)) := by
  have b0 := Blk.new' w #[.pointer (some ⟨gs, 0, none⟩)] 73
  have b1 := Blk.new' (w.alloc (.cells #[.pointer (some ⟨gs, 0, none⟩)] 73)) #[.int .i64 s] 3
  have b2 := Blk.new' ((w.alloc (.cells #[.pointer (some ⟨gs, 0, none⟩)] 73)).alloc (.cells #[.int .i64 s] 3)) #[.int .i64 dr] 2
  have b3 := Blk.new' (((w.alloc (.cells #[.pointer (some ⟨gs, 0, none⟩)] 73)).alloc (.cells #[.int .i64 s] 3)).alloc (.cells #[.int .i64 dr] 2)) #[.int .i64 bk] 2
  have b4 := Blk.new' ((((w.alloc (.cells #[.pointer (some ⟨gs, 0, none⟩)] 73)).alloc (.cells #[.int .i64 s] 3)).alloc (.cells #[.int .i64 dr] 2)).alloc (.cells #[.int .i64 bk] 2)) #[.int .i64 now] 2
  have b5 := Blk.new' (((((w.alloc (.cells #[.pointer (some ⟨gs, 0, none⟩)] 73)).alloc (.cells #[.int .i64 s] 3)).alloc (.cells #[.int .i64 dr] 2)).alloc (.cells #[.int .i64 bk] 2)).alloc (.cells #[.int .i64 now] 2)) #[.int .i64 0, .int .i64 0, .int .i64 0, .int .i64 0] 116
  simp only [World.size_alloc] at b1 b2 b3 b4 b5
  exact ⟨(((((((Below.refl _ _).alloc (Nat.le_refl _) _).alloc (by simp) _).alloc (by simp; omega) _).alloc (by simp; omega) _).alloc (by simp; omega) _).alloc (by simp; omega) _), ((((b0.alloc _).alloc _).alloc _).alloc _).alloc _, (((b1.alloc _).alloc _).alloc _).alloc _, ((b2.alloc _).alloc _).alloc _, (b3.alloc _).alloc _, b4.alloc _, b5⟩
theorem gen_world' {P : Program} {c : Code} {Q : Exit → Act → World → Prop} {a : Act} {W : World} (J : World → Prop) (hJ : J W) (h : ∀ W', J W' → Code.wp P c Q a W') : Code.wp P c Q a W := h W hJ
section
variable {W : World} {B gs gc cc : Nat} {A : Nat → Option Addr} {q : Nat → Nat} {cs : List Sx.Cl} {D Bk N : Int}
theorem clV_len (A : Option Addr) (q : Nat) (c : Sx.Cl) : (clV A q c).length = 3 := rfl
theorem SiteAt.setN (h : SiteAt W B gs gc cc A q cs D Bk N) (x : Int) : SiteAt (W.setCell ⟨gs, 2, none⟩ (.int .i64 x)) B gs gc cc A q cs D Bk x := by
  have ht := (Touch.refl (fun k => k = gs) W).put 2 (.int .i64 x)
  have hgc : gc ≠ gs := fun e => by
    obtain ⟨vs, h1, _⟩ := h.a
    have h2 := h.s
    unfold Blk at h2
    rw [e, h2] at h1
    simp at h1
  have hr : ∀ i, i < cs.length → ∀ k, OwnB (A i) k → k ≠ gs := fun i hi k hk e => by
    subst e
    rcases (h.r i hi).2 with ⟨h2, _⟩ | ⟨g, c, cur, hv, hb, hg, _⟩
    · obtain ⟨a, ha, _⟩ := hk
      rw [ha] at h2
      cases h2
    · obtain ⟨a, ha, hab⟩ := hk
      rw [ha] at hv
      cases hv
      simp at hab
      have h2 := h.s
      unfold Blk at h2
      rw [← hab, hg] at h2
      simp at h2
  exact ⟨h.s.setCell 2 _, h.a.touch ht hgc, fun i hi => rowE_keep (h.r i hi) ht (fun k hk e => hr i hi k hk e), h.ne, h.b, h.c⟩
theorem SiteAt.setLast (h : SiteAt W B gs gc cc A q cs D Bk N) {m : Nat} (hm : m < cs.length) (x : Int) : SiteAt (W.setCell ⟨gc, m * 3 + 1, none⟩ (.int .i64 x)) B gs gc cc A q (cs.set m { (cs.getD m default) with last := x }) D Bk N := by
  have ht := (Touch.refl (fun k => k = gc) W).put (m * 3 + 1) (.int .i64 x)
  have hgs : gs ≠ gc := fun e => by
    obtain ⟨vs, h1, _⟩ := h.a
    have h2 := h.s
    unfold Blk at h2
    rw [← e, h2] at h1
    simp at h1
  have hr : ∀ i, i < cs.length → ∀ k, OwnB (A i) k → k ≠ gc := fun i hi k hk e => by
    subst e
    rcases (h.r i hi).2 with ⟨h2, _⟩ | ⟨g, c, cur, hv, hb, hg, _⟩
    · obtain ⟨a, ha, _⟩ := hk
      rw [ha] at h2
      cases h2
    · obtain ⟨a, ha, hab⟩ := hk
      rw [ha] at hv
      cases hv
      simp at hab
      obtain ⟨vs, h1, _⟩ := h.a
      rw [← hab, hg] at h1
      simp at h1
  have hd : ∀ i, i < cs.length → (cs.set m { (cs.getD m default) with last := x }).getD i default = if i = m then { (cs.getD m default) with last := x } else cs.getD i default := fun i hi => Sx.getD_set' hm _ i
  refine ⟨?_, ?_, fun i hi => ?_, fun i j hi hj => h.ne i j (by simpa using hi) (by simpa using hj), h.b, by simpa using h.c⟩
  · have := h.s.touch ht hgs
    simpa using this
  · rw [List.length_set]
    refine (h.a.set hm (show 1 < 3 by omega) (fun i hi => clV_len _ _ _) _).congr (fun i hi => ?_)
    rw [hd i hi]
    by_cases him : i = m
    · subst him; simp [clV]
    · simp [him]
  · have hi' : i < cs.length := by simpa using hi
    have := rowE_keep (h.r i hi') ht (fun k hk e => hr i hi' k hk e)
    rw [hd i hi']
    by_cases him : i = m
    · subst him; simpa using this
    · simpa [him] using this
end
end Go.Proofs.Ytlklnaebdnahcaa
namespace Go.Proofs.Ytlklnaebdnahcaa
open Go.RowKit
section
variable {W : World} {B gs gc cc : Nat} {A : Nat → Option Addr} {q : Nat → Nat} {cs : List Sx.Cl} {D Bk N : Int}
theorem SiteAt.ne_gs (h : SiteAt W B gs gc cc A q cs D Bk N) {i : Nat} (hi : i < cs.length) : ∀ k, OwnB (A i) k → k ≠ gs := fun k hk e => by
  subst e
  rcases (h.r i hi).2 with ⟨h2, _⟩ | ⟨g, c, cur, hv, hb, hg, _⟩
  · obtain ⟨a, ha, _⟩ := hk
    rw [ha] at h2
    cases h2
  · obtain ⟨a, ha, hab⟩ := hk
    rw [ha] at hv
    cases hv
    simp at hab
    have h2 := h.s
    unfold Blk at h2
    rw [← hab, hg] at h2
    simp at h2
theorem SiteAt.ne_gc (h : SiteAt W B gs gc cc A q cs D Bk N) {i : Nat} (hi : i < cs.length) : ∀ k, OwnB (A i) k → k ≠ gc := fun k hk e => by
  subst e
  rcases (h.r i hi).2 with ⟨h2, _⟩ | ⟨g, c, cur, hv, hb, hg, _⟩
  · obtain ⟨a, ha, _⟩ := hk
    rw [ha] at h2
    cases h2
  · obtain ⟨a, ha, hab⟩ := hk
    rw [ha] at hv
    cases hv
    simp at hab
    obtain ⟨vs, h1, _⟩ := h.a
    rw [← hab, hg] at h1
    simp at h1
theorem SiteAt.gs_gc (h : SiteAt W B gs gc cc A q cs D Bk N) : gs ≠ gc := fun e => by
  obtain ⟨vs, h1, _⟩ := h.a
  have h2 := h.s
  unfold Blk at h2
  rw [← e, h2] at h1
  simp at h1
theorem SiteAt.row_lt (h : SiteAt W B gs gc cc A q cs D Bk N) {i : Nat} (hi : i < cs.length) {k : Nat} (hk : OwnB (A i) k) : k < W.heap.size := (rowE_lt (h.r i hi) hk).2
theorem SiteAt.setKn (h : SiteAt W B gs gc cc A q cs D Bk N) {m : Nat} (hm : m < cs.length) (x : Int) : SiteAt (W.setCell ⟨gc, m * 3 + 2, none⟩ (.int .i64 x)) B gs gc cc A q (cs.set m { (cs.getD m default) with kn := x }) D Bk N := by
  have ht := (Touch.refl (fun k => k = gc) W).put (m * 3 + 2) (.int .i64 x)
  have hd : ∀ i, i < cs.length → (cs.set m { (cs.getD m default) with kn := x }).getD i default = if i = m then { (cs.getD m default) with kn := x } else cs.getD i default := fun i hi => Sx.getD_set' hm _ i
  refine ⟨?_, ?_, fun i hi => ?_, fun i j hi hj => h.ne i j (by simpa using hi) (by simpa using hj), h.b, by simpa using h.c⟩
  · have := h.s.touch ht h.gs_gc
    simpa using this
  · rw [List.length_set]
    refine (h.a.set hm (show 2 < 3 by omega) (fun i hi => clV_len _ _ _) _).congr (fun i hi => ?_)
    rw [hd i hi]
    by_cases him : i = m
    · subst him; simp [clV]
    · simp [him]
  · have hi' : i < cs.length := by simpa using hi
    have := rowE_keep (h.r i hi') ht (fun k hk e => h.ne_gc hi' k hk e)
    rw [hd i hi']
    by_cases him : i = m
    · subst him; simpa using this
    · simpa [him] using this
theorem SiteAt.put (h : SiteAt W B gs gc cc A q cs D Bk N) {m : Nat} (hm : m < cs.length) {W1 : World} (ht : Touch (fun k => OwnB (A m) k) W W1) {A' : Option Addr} {cap' : Nat} {L' : List Ls} (hrow : LRow B A' cap' L' W1) (hA : ∀ k, OwnB A' k → OwnB (A m) k ∨ W.heap.size ≤ k) :
    SiteAt (W1.setCell ⟨gc, m * 3, none⟩ (.slice A' L'.length cap')) B gs gc cc (fun i => if i = m then A' else A i) (fun i => if i = m then cap' else q i) (cs.set m { (cs.getD m default) with L := L' }) D Bk N := by
  have hd : ∀ i, i < cs.length → (cs.set m { (cs.getD m default) with L := L' }).getD i default = if i = m then { (cs.getD m default) with L := L' } else cs.getD i default := fun i hi => Sx.getD_set' hm _ i
  have hs1 := h.s.touch ht (fun e => h.ne_gs hm _ e rfl)
  have ha1 := h.a.touch ht (fun e => h.ne_gc hm _ e rfl)
  have hr1 : ∀ i, i < cs.length → i ≠ m → LRow B (A i) (q i) (cs.getD i default).L W1 := fun i hi him => rowE_keep (h.r i hi) ht (fun k hk e => h.ne i m hi hm him k hk e)
  have hA' : ∀ k, OwnB A' k → k ≠ gc := fun k hk e => by
    rcases hA k hk with h1 | h1
    · exact h.ne_gc hm k h1 e
    · have := h.a.lt; omega
  have ht2 := (Touch.refl (fun k => k = gc) W1).put (m * 3) (.slice A' L'.length cap')
  refine ⟨?_, ?_, fun i hi => ?_, fun i j hi hj hij k h1 h2 => ?_, h.b, by simpa using h.c⟩
  · have := hs1.touch ht2 h.gs_gc
    simpa using this
  · rw [List.length_set]
    refine (ha1.set hm (show 0 < 3 by omega) (fun i hi => clV_len _ _ _) _).congr (fun i hi => ?_)
    rw [hd i hi]
    by_cases him : i = m
    · subst him; simp [clV]
    · simp [him]
  · have hi' : i < cs.length := by simpa using hi
    rw [hd i hi']
    by_cases him : i = m
    · subst him
      simp only [if_true]
      exact rowE_keep hrow ht2 (fun k hk e => hA' k hk e)
    · simp only [him, if_false]
      exact rowE_keep (hr1 i hi' him) ht2 (fun k hk e => h.ne_gc hi' k hk e)
  · have hi' : i < cs.length := by simpa using hi
    have hj' : j < cs.length := by simpa using hj
    by_cases him : i = m
    · subst him
      have hjm : j ≠ i := fun e => hij e.symm
      simp only [if_true, hjm, if_false] at h1 h2
      rcases hA k h1 with h3 | h3
      · exact h.ne i j hm hj' hij k h3 h2
      · have := h.row_lt hj' h2; omega
    · by_cases hjm : j = m
      · subst hjm
        simp only [if_true, him, if_false] at h1 h2
        rcases hA k h2 with h3 | h3
        · exact h.ne i j hi' hm hij k h1 h3
        · have := h.row_lt hi' h1; omega
      · simp only [him, hjm, if_false] at h1 h2
        exact h.ne i j hi' hj' hij k h1 h2
end
end Go.Proofs.Ytlklnaebdnahcaa
namespace Go.Proofs.Ytlklnaebdnahcaa
open Go.RowKit
def RowM (W : World) (g c : Nat) (M : List Ls) : Prop := ∃ cur : Array Value, W.heap[g]? = some (.cells cur 116 (0, 0)) ∧ cur.size = c * 4 ∧ M.length ≤ c ∧ ∀ i, i < M.length → ∀ j u, (M.getD i default).vals[j]? = some u → cur[i * 4 + j]? = some u
section
variable {W W' : World} {g c : Nat} {M : List Ls}
theorem RowM.lt (h : RowM W g c M) : g < W.heap.size := by
  obtain ⟨cur, h, _⟩ := h
  exact (Array.getElem?_eq_some_iff.1 h).1
theorem RowM.cell (h : RowM W g c M) {i : Nat} (hi : i < M.length) (j : Nat) {u : Value} (hu : (M.getD i default).vals[j]? = some u) : W.cell? ⟨g, i * 4 + j, none⟩ = some u := by
  obtain ⟨cur, h, _, _, hc⟩ := h
  simp [World.cell?, h, hc i hi j u hu]
theorem RowM.isSome (h : RowM W g c M) {k : Nat} (hk : k < c * 4) : (W.cell? ⟨g, k, none⟩).isSome = true := by
  obtain ⟨cur, h, hs, _, hc⟩ := h
  simp [World.cell?, h]
  omega
theorem RowM.free (h : RowM W g c M) (o : Nat) : W.frozen? ⟨g, o, none⟩ = false := by
  obtain ⟨cur, h, _⟩ := h
  simp [World.frozen?, h]
theorem RowM.of_eq (h : RowM W g c M) (e : W'.heap[g]? = W.heap[g]?) : RowM W' g c M := by
  obtain ⟨cur, h, r⟩ := h
  exact ⟨cur, e.trans h, r⟩
theorem RowM.below (h : RowM W g c M) (hb : Below W.heap.size W W') : RowM W' g c M := h.of_eq (hb.block g h.lt)
theorem RowM.of_row {B cap : Nat} {A : Option Addr} {L : List Ls} (h : LRow B A cap L W) (hn : 0 < L.length) : ∃ g, A = some ⟨g, 0, none⟩ ∧ B ≤ g ∧ cap ≤ maxLen ∧ RowM W g cap L := by
  rcases h.2 with ⟨h2, hx⟩ | ⟨g, c, cur, hv, hb, hg, hnc, hcm, hcs, htk⟩
  · omega
  · cases hv
    refine ⟨g, rfl, hb, hcm, cur, hg, hcs, hnc, fun i hi j u hu => ?_⟩
    have h1 := flatLs_at L hi j u hu
    rw [← htk, List.getElem?_take] at h1
    split at h1
    · simpa using h1
    · cases h1
theorem vals_four (l : Ls) : l.vals.length = 4 := rfl
theorem RowM.to_row (h : RowM W g c M) {B : Nat} (hB : B ≤ g) (hc : c ≤ maxLen) {n : Nat} (hn : n ≤ M.length) : LRow B (some ⟨g, 0, none⟩) c (M.take n) W := by
  obtain ⟨cur, h, hs, hm, hcl⟩ := h
  have hl : (M.take n).length = n := by rw [List.length_take]; omega
  unfold LRow World.ownsRow
  rw [hl]
  refine ⟨by rw [flatLs_length, hl], .inr ⟨g, c, cur, rfl, hB, h, by omega, hc, hs, ?_⟩⟩
  apply List.ext_getElem?
  intro k
  by_cases hk : k < n * 4
  · have hi : k / 4 < (M.take n).length := by rw [hl]; omega
    have hj : k % 4 < ((M.take n).getD (k / 4) default).vals.length := by rw [vals_four]; omega
    have h1 := flatLs_at (M.take n) hi (k % 4) _ (List.getElem?_eq_getElem hj)
    have hg : (M.take n).getD (k / 4) default = M.getD (k / 4) default := by
      rw [List.getD_eq_getElem?_getD, List.getD_eq_getElem?_getD, List.getElem?_take, if_pos (by omega)]
    have h2 := hcl (k / 4) (by omega) (k % 4) _ (by rw [← hg]; exact List.getElem?_eq_getElem hj)
    have e : k / 4 * 4 + k % 4 = k := by omega
    rw [e] at h1 h2
    rw [h1, List.getElem?_take, if_pos hk]
    simpa using h2
  · rw [List.getElem?_take, if_neg hk]
    symm
    rw [List.getElem?_eq_none_iff, flatLs_length, hl]
    omega
theorem RowM.store (h : RowM W g c M) {i : Nat} (hi : i < M.length) (l : Ls) :
    RowM ((((W.setCell ⟨g, i * 4, none⟩ (.int .i64 l.n)).setCell ⟨g, i * 4 + 1, none⟩ (.int .i64 l.d)).setCell ⟨g, i * 4 + 2, none⟩ (.int .i64 l.b)).setCell ⟨g, i * 4 + 3, none⟩ (.int .i64 l.u)) g c (M.set i l) := by
  have step : ∀ {W : World} {cur : Array Value} (o : Nat) (v : Value), W.heap[g]? = some (.cells cur 116 (0, 0)) → (W.setCell ⟨g, o, none⟩ v).heap[g]? = some (.cells (cur.setIfInBounds o v) 116 (0, 0)) := by
    intro W cur o v hW
    have hlt := (Array.getElem?_eq_some_iff.1 hW).1
    have h' : W.heap[g] = .cells cur 116 (0, 0) := by simpa [Array.getElem?_eq_getElem hlt] using hW
    show (W.heap.modify g _)[g]? = _
    rw [Array.getElem?_eq_getElem (by simpa using hlt), Array.getElem_modify_self, h']
    rfl
  obtain ⟨cur, hg, hs, hm, hc⟩ := h
  refine ⟨_, step _ _ (step _ _ (step _ _ (step _ _ hg))), by simpa using hs, by simpa using hm, fun k hk j u hu => ?_⟩
  have hk' : k < M.length := by simpa using hk
  have hj : j < 4 := by rw [← vals_four ((M.set i l).getD k default)]; exact (List.getElem?_eq_some_iff.1 hu).1
  have hd : (M.set i l).getD k default = if k = i then l else M.getD k default := by
    rw [List.getD_eq_getElem?_getD, List.getElem?_set]
    by_cases h : i = k
    · subst h; simp [hi]
    · rw [if_neg h, if_neg (fun e => h e.symm), ← List.getD_eq_getElem?_getD]
  rw [hd] at hu
  have hb : i * 4 + 3 < cur.size := by omega
  by_cases hki : k = i
  · subst hki
    rw [if_pos rfl] at hu
    have : j = 0 ∨ j = 1 ∨ j = 2 ∨ j = 3 := by omega
    rcases this with rfl | rfl | rfl | rfl
    · cases hu; rw [Array.getElem?_setIfInBounds_ne (by omega), Array.getElem?_setIfInBounds_ne (by omega), Array.getElem?_setIfInBounds_ne (by omega)]; exact Array.getElem?_setIfInBounds_self_of_lt (by omega)
    · cases hu; rw [Array.getElem?_setIfInBounds_ne (by omega), Array.getElem?_setIfInBounds_ne (by omega)]; exact Array.getElem?_setIfInBounds_self_of_lt (by simp; omega)
    · cases hu; rw [Array.getElem?_setIfInBounds_ne (by omega)]; exact Array.getElem?_setIfInBounds_self_of_lt (by simp; omega)
    · cases hu; exact Array.getElem?_setIfInBounds_self_of_lt (by simp; omega)
  · rw [if_neg hki] at hu
    rw [Array.getElem?_setIfInBounds_ne (by omega), Array.getElem?_setIfInBounds_ne (by omega), Array.getElem?_setIfInBounds_ne (by omega), Array.getElem?_setIfInBounds_ne (by omega)]
    exact hc k hk' j u hu
theorem heap_setCells {ty : TypeId} {fz : Nat × Nat} : ∀ (vs : List Value) (o : Nat) (W : World) (cur : Array Value), W.heap[g]? = some (.cells cur ty fz) → ∃ cur', (W.setCells g o vs).heap[g]? = some (.cells cur' ty fz) ∧ cur'.size = cur.size ∧ ∀ k, k < o → cur'[k]? = cur[k]?
  | [], _, W, cur, h => ⟨cur, h, rfl, fun _ _ => rfl⟩
  | v :: r, o, W, cur, hW => by
    have hlt := (Array.getElem?_eq_some_iff.1 hW).1
    have h' : W.heap[g] = .cells cur ty fz := by simpa [Array.getElem?_eq_getElem hlt] using hW
    have h1 : (W.setCell ⟨g, o, none⟩ v).heap[g]? = some (.cells (cur.setIfInBounds o v) ty fz) := by
      show (W.heap.modify g _)[g]? = _
      rw [Array.getElem?_eq_getElem (by simpa using hlt), Array.getElem_modify_self, h']
      rfl
    obtain ⟨cur', h2, h3, h4⟩ := heap_setCells r (o + 1) _ _ h1
    exact ⟨cur', h2, by simpa using h3, fun k hk => by rw [h4 k (by omega), Array.getElem?_setIfInBounds_ne (by omega)]⟩
theorem touch_setCells {S : Nat → Prop} {a : World} (hg : S g) : ∀ (vs : List Value) (o : Nat) (W : World), Touch S a W → Touch S a (W.setCells g o vs)
  | [], _, _, h => h
  | v :: r, o, W, h => touch_setCells hg r (o + 1) _ (h.setCell (.inl hg) v)
theorem RowM.clear (h : RowM W g c M) {i : Nat} (hi : i ≤ M.length) (vs : List Value) : RowM (W.setCells g (i * 4) vs) g c (M.take i) := by
  obtain ⟨cur, hg, hs, hm, hc⟩ := h
  obtain ⟨cur', h1, h2, h3⟩ := heap_setCells vs (i * 4) W cur hg
  refine ⟨cur', h1, by omega, by rw [List.length_take]; omega, fun k hk j u hu => ?_⟩
  have hk' : k < i := by rw [List.length_take] at hk; omega
  have hj : j < 4 := by rw [← vals_four ((M.take i).getD k default)]; exact (List.getElem?_eq_some_iff.1 hu).1
  rw [List.getD_eq_getElem?_getD, List.getElem?_take, if_pos hk', ← List.getD_eq_getElem?_getD] at hu
  rw [h3 _ (by omega)]
  exact hc k (by omega) j u hu
end
theorem run_clear_ls (w : World) (g o n c : Nat) (hn : 0 < n) (hc : ∀ j, j < n * 4 → (w.cell? ⟨g, o + j, none⟩).isSome = true) (hf : ∀ j, w.frozen? ⟨g, j, none⟩ = false) :
    ∃ vs, ∀ ty, (Builtin.clear_ #[164] ty #[.slice (some ⟨g, o, none⟩) n c]).run Try.prog w = .ok (.tuple #[]) (w.setCells g o vs) := by
  have hz : ∀ w, (zeroValue 116).run Try.prog w = .ok (.agg #[.int .i64 0, .int .i64 0, .int .i64 0, .int .i64 0]) w := fun w => by
    obtain ⟨i0, hi, z0, z1, z2⟩ := info_parts info43
    simp [zeroValue, typeInfo, hi, z0]
  obtain ⟨vs, hvs⟩ : ∃ vs, vs = (Builtin.zeroCells (Value.agg #[.int .i64 0, .int .i64 0, .int .i64 0, .int .i64 0]).cells n).toList := ⟨_, rfl⟩
  have hcl : (Value.agg #[.int .i64 0, .int .i64 0, .int .i64 0, .int .i64 0]).cells = #[.int .i64 0, .int .i64 0, .int .i64 0, .int .i64 0] := rfl
  have hl : vs.length = n * 4 := by rw [hvs, hcl]; simp [Builtin.zeroCells]
  have h1 : ∀ v ∈ vs, v.oneCell' = true := by
    intro v hv
    rw [hvs, hcl] at hv
    simp only [Builtin.zeroCells, Array.toList_map, List.mem_map] at hv
    obtain ⟨i, _, rfl⟩ := hv
    have : i % 4 = 0 ∨ i % 4 = 1 ∨ i % 4 = 2 ∨ i % 4 = 3 := by omega
    have hs : (#[Value.int .i64 0, .int .i64 0, .int .i64 0, .int .i64 0] : Array Value).size = 4 := rfl
    rw [hs]
    rcases this with e | e | e | e <;> rw [e] <;> rfl
  have hst := run_storeCells_cells (P := Try.prog) g o vs 0 w (fun j hj => by simpa using hc j (by omega)) (fun j _ => hf _) h1
  refine ⟨vs, fun ty => ?_⟩
  obtain ⟨m, rfl⟩ : ∃ m, n = m + 1 := ⟨n - 1, by omega⟩
  simp only [Nat.add_zero] at hst
  simp [Builtin.clear_, run_underlying Try.underlying164, hz, ← hvs, hst]
end Go.Proofs.Ytlklnaebdnahcaa
namespace Go.Proofs.Ytlklnaebdnahcaa
open Go.RowKit
theorem flatLs_src {w : World} {B cap : Nat} {A : Option Addr} {L : List Ls} (h : LRow B A cap L w) : SrcRow w A L.length (flatLs L) ∧ (A = none → L = []) := by
  rcases h.2 with ⟨h2, hx⟩ | ⟨g, c, cur, hv, hb, hg, hnc, hcm, hcs, htk⟩
  · injection h2 with e1 e2 e3
    subst e1
    have : L = [] := List.eq_nil_of_length_eq_zero hx
    subst this
    exact ⟨.inl ⟨rfl, rfl⟩, fun _ => rfl⟩
  · cases hv
    exact ⟨.inr ⟨_, rfl, fun j u hu => World.ownsRow.cells (g := g) h rfl j u hu⟩, fun e => by cases e⟩
def CloneLs (w : World) (L : List Ls) (e : Ending) (w' : World) : Prop := ∃ A' cap', e = .returned (.slice A' L.length cap') ∧ LRow w.heap.size A' cap' L w' ∧ Below w.heap.size w w'
set_option maxHeartbeats 1000000 in
theorem CloneLs_c (A : Option Addr) (c B : Nat) (L : List Ls) (w : World) (hr : LRow B A c L w) (hl : L.length ≤ 1000000) :
    Calls Try.prog 97 #[.slice A L.length c] w (CloneLs w L) := by
  obtain ⟨hs, hnil⟩ := flatLs_src hr
  obtain ⟨n, hn⟩ : ∃ n, n = L.length := ⟨_, rfl⟩
  rw [← hn] at hs ⊢
  clear hr
  have q36 : ∀ (w : World) (a : Option Addr) (n c n' c' : Nat), (binOp .eql 164 (.slice a n c) (.slice none n' c')).run Try.prog w = .ok (.bool a.isNone) w := fun w a n c n' c' => Lib.run_eql_slice_nil w _ _ a n c n' c' Try.underlying164
  cases A with
  | none =>
    have hL := hnil rfl
    subst hL
    clear hs hnil
    go_enter Try.func97, Try.ntmps97
    go_wp2
    go_ret
    exact ⟨none, 0, rfl, World.ownsRow_nil _ _ _ _, Below.refl _ _⟩
  | some a =>
    clear hnil
    obtain ⟨i0, hi, hz0, hz1, hz2⟩ := info_parts info43
    have HC := Lib.hid (show SrcRow (w.alloc (.cells #[] 116)) (some a) n (flatLs L) from by
      rcases hs with ⟨h, _⟩ | ⟨a', h, hc⟩
      · cases h
      · exact .inr ⟨a', h, fun j u hu => ((World.grownBy_alloc w _ none).cell (hc j u hu) (by simp))⟩)
    have HL := Lib.hid hl
    have HN := Lib.hid hn
    clear hs hl hn
    go_enter Try.func97, Try.ntmps97
    go_wp2_with (at_builtin; refine wpList_append_any (.tmp 5) (.tmp 6) 164 rfl rfl w.heap.size 116 i0 (.agg #[.int .i64 0, .int .i64 0, .int .i64 0, .int .i64 0]) 4 32 Try.underlying164 hi hz0 hz1 hz2 rfl (by decide) (some ⟨w.heap.size, 0, none⟩) 0 0 [] (by rfl) (World.ownsRow_made w #[] 0 (Nat.le_refl _) (by decide) (by simp)) (some a) n c (flatLs L) (by rfl) (by rw [flatLs_length, HN.out]) HC.out (flatLs_one L) (by have := HL.out; have := HN.out; unfold maxLen; omega) (by have := HL.out; have := HN.out; omega) (by simp) ?_; intro A' cap' w1 hown hgrow hat; have HOw := Lib.hid hown; have HG := Lib.hid hgrow; clear hown hgrow hat)
    go_ret
    have hown := HOw.out
    refine ⟨A', cap', ?_, ?_, Below.grown ((Below.refl _ _).alloc (Nat.le_refl _) _) HG.out (by simp) (fun k hk => by simp [Value.ownBlock] at hk; omega)⟩
    · rw [← HN.out]; simp
    · unfold LRow; rw [← HN.out]; simpa using hown
theorem ackT_c (p : Nat) (l : Ls) (nu : Int) (w : World) (c0 : w.cell? ⟨p, 0, none⟩ = some (.int .i64 nu)) :
    Calls Try.prog 98 #[.agg #[.int .i64 l.n, .int .i64 l.d, .int .i64 l.b, .int .i64 l.u], .pointer (some ⟨p, 0, none⟩)] w fun e w' => e = .returned (.bool (decide (l.n < nu))) ∧ Below w.heap.size w w' := by
  have zp : p < w.heap.size := World.block_lt_of_cell? _ _ c0
  have zp2 : p ≠ w.heap.size := by omega
  go_enter Try.func98, Try.ntmps98
  go_wp2
  go_ret
  exact ⟨rfl, (Below.refl _ _).alloc (Nat.le_refl _) _⟩
def IxV (L : List Ls) (nu : Int) (v : Int) : Prop := (v = -1 ∧ ∀ i, i < L.length → nu ≤ (L.getD i default).n) ∨ ∃ i : Nat, v = i ∧ i < L.length ∧ (L.getD i default).n < nu ∧ ∀ j, j < i → nu ≤ (L.getD j default).n
set_option maxHeartbeats 2000000 in
theorem IndexFunc_c (g c p : Nat) (L : List Ls) (nu : Int) (w : World) (hr : RowM w g c L) (hcm : c ≤ maxLen) (c0 : w.cell? ⟨p, 0, none⟩ = some (.int .i64 nu)) :
    Calls Try.prog 100 #[.slice (some ⟨g, 0, none⟩) L.length c, .func (.func 98) #[] #[.pointer (some ⟨p, 0, none⟩)]] w fun e w' => ∃ v, e = .returned (.int .i64 v) ∧ IxV L nu v ∧ Below w.heap.size w w' := by
  have HR := Lib.hid hr
  have HP := Lib.hid c0
  have zp : p < w.heap.size := World.block_lt_of_cell? _ _ c0
  have hnc : L.length ≤ c := by obtain ⟨_, _, _, h, _⟩ := hr; exact h
  unfold maxLen at hcm
  clear hr c0
  go_enter Try.func100, Try.ntmps100
  go_wp2
  go_loopw [8] (fun i wr => ∃ k : Nat, k ≤ L.length ∧ i = .int .i64 k ∧ Hid (Below w.heap.size w wr ∧ ∀ j, j < k → nu ≤ (L.getD j default).n)) (fun i _ => L.length - (intOf i).toNat)
  case atStart => exact ⟨0, Nat.zero_le _, rfl, Lib.hid ⟨Below.refl _ _, fun j hj => absurd hj (Nat.not_lt_zero _)⟩⟩
  case round =>
    obtain ⟨k, hk, rfl, HB⟩ := hrel
    by_cases hlt : k < L.length
    · have hR := HR.out.below HB.out.1
      have c0 := hR.cell hlt 0 rfl
      have c1 := hR.cell hlt 1 rfl
      have c2 := hR.cell hlt 2 rfl
      have c3 := hR.cell hlt 3 rfl
      have HT := Lib.hid (fun W (hW : Below wr.heap.size wr W) => ackT_c p (L.getD k default) nu W (((HB.out.1.trans (hW.mono HB.out.1.size)).cell (p := ⟨p, 0, none⟩) zp).trans HP.out))
      have k0 : (0 : Int) ≤ (k : Int) := by omega
      have k1 : (k : Int) < (L.length : Int) := by omega
      have e4 : ((⟨g, 0, none⟩ : Addr).add (k * 4)) = ⟨g, k * 4, none⟩ := by unfold Addr.add; split <;> simp_all
      have HD := Lib.hid (show L.getD k default = L.getD k default from rfl)
      simp only [Nat.add_zero] at c0
      clear hR
      generalize hl : L.getD k default = l at HT c0 c1 c2 c3
      have HL := Lib.hid hl
      clear hl
      by_cases hd : l.n < nu
      · have hd' : decide (l.n < nu) = true := decide_eq_true hd
        rw [hd'] at HT
        have HDd := Lib.hid hd
        clear hd
        go_wp2_with (go_at_call 98; refine (HT.out _ (Below.refl _ _)).mono ?_; rintro e w1 ⟨rfl, hb⟩; have HB1 := Lib.hid hb; clear hb)
        go_ret
        exact ⟨k, rfl, .inr ⟨k, rfl, hlt, by rw [HL.out]; exact HDd.out, HB.out.2⟩, HB.out.1.trans (HB1.out.mono HB.out.1.size)⟩
      · have hd' : decide (l.n < nu) = false := decide_eq_false hd
        rw [hd'] at HT
        have HDd := Lib.hid hd
        clear hd
        go_wp2_with (go_at_call 98; refine (HT.out _ (Below.refl _ _)).mono ?_; rintro e w1 ⟨rfl, hb⟩; have HB1 := Lib.hid hb; clear hb)
        go_roundw
        case rel => exact ⟨k + 1, by omega, by go_num, Lib.hid ⟨HB.out.1.trans (HB1.out.mono HB.out.1.size), fun j hj => by
          rcases Nat.lt_or_ge j k with h | h
          · exact HB.out.2 j h
          · obtain rfl : j = k := by omega
            rw [HL.out]; have := HDd.out; omega⟩⟩
        case measure => simp [intOf]; omega
    · have e : k = L.length := by omega
      subst e
      go_wp2_with fail
      go_ret
      exact ⟨-1, rfl, .inl ⟨rfl, HB.out.2⟩, HB.out.1⟩
end Go.Proofs.Ytlklnaebdnahcaa
namespace Go.Proofs.Ytlklnaebdnahcaa
open Go.RowKit
namespace Sx
def kp (nu : Int) (l : Ls) : Bool := !decide (l.n < nu)
theorem kp_all {L : List Ls} {nu : Int} (h : ∀ i, i < L.length → nu ≤ (L.getD i default).n) : L.filter (kp nu) = L := by
  rw [List.filter_eq_self]
  intro l hl
  obtain ⟨i, hi, rfl⟩ := List.mem_iff_getElem.1 hl
  have := h i hi
  rw [List.getD_eq_getElem?_getD, List.getElem?_eq_getElem hi] at this
  simp at this
  simp [kp]
  omega
theorem getD_at {L : List Ls} {i : Nat} (hi : i < L.length) : L.getD i default = L[i] := by rw [List.getD_eq_getElem?_getD, List.getElem?_eq_getElem hi]; rfl
theorem del_start {L : List Ls} {nu : Int} {i : Nat} (hi : i < L.length) (h0 : (L.getD i default).n < nu) (h : ∀ j, j < i → nu ≤ (L.getD j default).n) : L.take i = (L.take (i + 1)).filter (kp nu) := by
  rw [List.take_succ_eq_append_getElem hi, List.filter_append, ← getD_at hi]
  have h1 : (L.take i).filter (kp nu) = L.take i := kp_all (fun j hj => by
    rw [List.length_take] at hj
    have := h j (by omega)
    rwa [List.getD_eq_getElem?_getD, List.getElem?_take, if_pos (by omega), ← List.getD_eq_getElem?_getD])
  rw [h1]
  generalize L.getD i default = x at h0
  simp [kp, h0]
theorem del_at {L M : List Ls} {b : Nat} (hb : b < L.length) (h : M.drop b = L.drop b) : M.getD b default = L.getD b default := by
  have h1 : (M.drop b)[0]? = (L.drop b)[0]? := by rw [h]
  rw [List.getElem?_drop, List.getElem?_drop] at h1
  rw [List.getD_eq_getElem?_getD, List.getD_eq_getElem?_getD]
  simpa using congrArg (fun o => o.getD default) h1
theorem drop_next {L M : List Ls} {b : Nat} (h : M.drop b = L.drop b) : M.drop (b + 1) = L.drop (b + 1) := by
  rw [← List.drop_drop, ← List.drop_drop, h]
theorem del_gone {L : List Ls} {nu : Int} {b : Nat} (hb : b < L.length) (h0 : (L.getD b default).n < nu) : (L.take (b + 1)).filter (kp nu) = (L.take b).filter (kp nu) := by
  rw [List.take_succ_eq_append_getElem hb, List.filter_append, ← getD_at hb]
  generalize L.getD b default = x at h0
  simp [kp, h0]
theorem del_keep {L M : List Ls} {nu : Int} {a b : Nat} (hb : b < L.length) (hm : M.length = L.length) (hab : a < b) (h0 : ¬ (L.getD b default).n < nu) (ht : M.take a = (L.take b).filter (kp nu)) (hd : M.drop b = L.drop b) :
    (M.set a (L.getD b default)).take (a + 1) = (L.take (b + 1)).filter (kp nu) ∧ (M.set a (L.getD b default)).drop (b + 1) = L.drop (b + 1) := by
  constructor
  · rw [List.take_succ_eq_append_getElem (by simp; omega), List.getElem_set_self, List.take_set_of_le (Nat.le_refl _), ht, List.take_succ_eq_append_getElem hb, List.filter_append, ← getD_at hb]
    generalize L.getD b default = x at h0
    simp [kp, h0]
  · rw [List.drop_set_of_lt (by omega)]
    exact drop_next hd
end Sx
theorem IndexFunc_any (A : Option Addr) (B c p : Nat) (L : List Ls) (nu : Int) (w : World) (hr : LRow B A c L w) (c0 : w.cell? ⟨p, 0, none⟩ = some (.int .i64 nu)) :
    Calls Try.prog 100 #[.slice A L.length c, .func (.func 98) #[] #[.pointer (some ⟨p, 0, none⟩)]] w fun e w' => ∃ v, e = .returned (.int .i64 v) ∧ IxV L nu v ∧ Below w.heap.size w w' := by
  by_cases h0 : 0 < L.length
  · obtain ⟨g, rfl, _, hcm, hm⟩ := RowM.of_row hr h0
    exact IndexFunc_c g c p L nu w hm hcm c0
  · have : L = [] := List.eq_nil_of_length_eq_zero (by omega)
    subst this
    clear hr c0 h0
    go_enter Try.func100, Try.ntmps100
    go_wp2
    refine wp_loop_rounds 1 ?_
    rw [rounds_succ]
    go_wp2
    go_ret
    exact ⟨-1, rfl, .inl ⟨rfl, fun i hi => by simp at hi⟩, Below.refl _ _⟩
def DelTo (w : World) (B : Nat) (A : Option Addr) (c : Nat) (L : List Ls) (nu : Int) (e : Ending) (w' : World) : Prop := e = .returned (.slice A (L.filter (Sx.kp nu)).length c) ∧ LRow B A c (L.filter (Sx.kp nu)) w' ∧ Touch (OwnB A) w w'
def DelI (w : World) (g c : Nat) (L : List Ls) (nu : Int) (a b : Nat) (M : List Ls) (W : World) : Prop := RowM W g c M ∧ M.length = L.length ∧ M.take a = (L.take b).filter (Sx.kp nu) ∧ M.drop b = L.drop b ∧ Touch (OwnB (some ⟨g, 0, none⟩)) w W
theorem touch4 {w W : World} {g : Nat} (h : Touch (OwnB (some ⟨g, 0, none⟩)) w W) (o : Nat) (v0 v1 v2 v3 : Value) : Touch (OwnB (some ⟨g, 0, none⟩)) w ((((W.setCell ⟨g, o, none⟩ v0).setCell ⟨g, o + 1, none⟩ v1).setCell ⟨g, o + 2, none⟩ v2).setCell ⟨g, o + 3, none⟩ v3) :=
  have hg : OwnB (some ⟨g, 0, none⟩) g := ⟨_, rfl, rfl⟩
  (((h.setCell (p := ⟨g, o, none⟩) (.inl hg) v0).setCell (p := ⟨g, o + 1, none⟩) (.inl hg) v1).setCell (p := ⟨g, o + 2, none⟩) (.inl hg) v2).setCell (p := ⟨g, o + 3, none⟩) (.inl hg) v3
set_option maxHeartbeats 4000000 in
theorem DeleteFunc_c (A : Option Addr) (B c p : Nat) (L : List Ls) (nu : Int) (w : World) (hr : LRow B A c L w) (hl : L.length ≤ 1000000) (c0 : w.cell? ⟨p, 0, none⟩ = some (.int .i64 nu)) (hp : ¬ OwnB A p) :
    Calls Try.prog 96 #[.slice A L.length c, .func (.func 98) #[] #[.pointer (some ⟨p, 0, none⟩)]] w (DelTo w B A c L nu) := by
  have HI := Lib.hid (IndexFunc_any A B c p L nu w hr c0)
  have HR := Lib.hid hr
  have HP := Lib.hid c0
  have HPn := Lib.hid hp
  have zp : p < w.heap.size := World.block_lt_of_cell? _ _ c0
  obtain ⟨hc1, hc2⟩ := lrow_cap hr
  unfold maxLen at hc2
  clear hr c0 hp
  go_enter Try.func96, Try.ntmps96
  go_upto_region 2 with (go_at_call 100; refine HI.out.mono ?_; rintro e w1 ⟨v, rfl, hv, hb⟩; have HV := Lib.hid hv; have HB := Lib.hid hb; clear hv hb)
  rcases HV.out with ⟨hv, hall⟩ | ⟨i0, hv, hi0, hdel, hbef⟩
  · subst hv
    have HK := Lib.hid (Sx.kp_all hall)
    clear hall
    go_wp2_with fail
    go_ret
    unfold DelTo
    rw [HK.out]
    exact ⟨rfl, rowE_below HR.out HB.out, Touch.of_below HB.out⟩
  subst hv
  obtain ⟨g, rfl, hBg, hcm, hm⟩ := RowM.of_row HR.out (by omega)
  have HM := Lib.hid (hm.below HB.out)
  have HD := Lib.hid (Sx.del_start hi0 hdel hbef)
  have hne : ((i0 : Int) == -1) = false := by simp
  have P1 := Lib.hid ((HB.out.cell (p := ⟨p, 0, none⟩) zp).trans HP.out)
  clear hdel hbef hm HV
  have hg2 : g < w1.heap.size := HM.out.lt
  have hpg : p ≠ g := fun e => HPn.out ⟨⟨g, 0, none⟩, rfl, e.symm⟩
  go_wp2_with fail
  go_loopw [5, 6] (fun i j wr => ∃ (a b : Nat) (M : List Ls), a < b ∧ b ≤ L.length ∧ i = .int .i64 a ∧ j = .int .i64 b ∧ Hid (DelI w g c L nu a b M wr)) (fun _ j _ => L.length - (intOf j).toNat)
  case atStart => exact ⟨i0, i0 + 1, L, by omega, by omega, rfl, by go_num, Lib.hid ⟨HM.out, rfl, HD.out, rfl, Touch.of_below HB.out⟩⟩
  case round =>
    obtain ⟨a, b, M, hab, hb, rfl, rfl, HJ⟩ := hrel
    have HPr := Lib.hid (show wr.cell? ⟨p, 0, none⟩ = some (.int .i64 nu) from (HJ.out.2.2.2.2.cell (p := ⟨p, 0, none⟩) zp (fun e => hpg (by obtain ⟨x, hx, rfl⟩ := e; cases hx; rfl))).trans HP.out)
    by_cases hlt : b < L.length
    · have hbM : b < M.length := by rw [HJ.out.2.1]; exact hlt
      have haM : a < M.length := by omega
      have c0 := HJ.out.1.cell hbM 0 rfl
      have c1 := HJ.out.1.cell hbM 1 rfl
      have c2 := HJ.out.1.cell hbM 2 rfl
      have c3 := HJ.out.1.cell hbM 3 rfl
      have hz : g < wr.heap.size := HJ.out.1.lt
      have HE := Lib.hid (Sx.del_at hlt HJ.out.2.2.2.1)
      rw [HE.out] at c0 c1 c2 c3
      have HT := Lib.hid (fun W (hW : Below wr.heap.size wr W) => ackT_c p (L.getD b default) nu W ((hW.cell (p := ⟨p, 0, none⟩) (World.block_lt_of_cell? _ _ HPr.out)).trans HPr.out))
      have k0 : (0 : Int) ≤ (b : Int) := by omega
      have k1 : (b : Int) < (L.length : Int) := by omega
      have k2 : (0 : Int) ≤ (a : Int) := by omega
      have k3 : (a : Int) < (L.length : Int) := by omega
      simp only [Nat.add_zero] at c0
      by_cases hd : (L.getD b default).n < nu
      · have HGo := Lib.hid (Sx.del_gone hlt hd)
        have hd' : decide ((L.getD b default).n < nu) = true := decide_eq_true hd
        rw [hd'] at HT
        clear hd hd'
        generalize L.getD b default = l at HT c0 c1 c2 c3
        go_wp2_with (go_at_call 98; refine (HT.out _ ((Below.refl _ _).alloc (Nat.le_refl _) _)).mono ?_; rintro e w2 ⟨rfl, hb2⟩; have HB2 := Lib.hid hb2; clear hb2)
        go_roundw
        case rel =>
          have hbb : Below wr.heap.size wr w2 := ((Below.refl _ _).alloc (Nat.le_refl _) _).trans (HB2.out.mono (by simp))
          exact ⟨a, b + 1, M, by omega, by omega, rfl, by go_num, Lib.hid ⟨HJ.out.1.below hbb, HJ.out.2.1, HJ.out.2.2.1.trans HGo.out.symm, Sx.drop_next HJ.out.2.2.2.1, HJ.out.2.2.2.2.below hbb⟩⟩
        case measure => simp [intOf]; omega
      · have HKe := Lib.hid (Sx.del_keep hlt HJ.out.2.1 hab hd HJ.out.2.2.1 HJ.out.2.2.2.1)
        have hd' : decide ((L.getD b default).n < nu) = false := decide_eq_false hd
        rw [hd'] at HT
        clear hd hd'
        generalize L.getD b default = l at HT c0 c1 c2 c3 HKe
        go_upto_region 9 with (go_at_call 98; refine (HT.out _ ((Below.refl _ _).alloc (Nat.le_refl _) _)).mono ?_; rintro e w2 ⟨rfl, hb2⟩; have HB2 := Lib.hid hb2; clear hb2)
        have hbb : Below wr.heap.size wr w2 := ((Below.refl _ _).alloc (Nat.le_refl _) _).trans (HB2.out.mono (by simp))
        have hr2 := HJ.out.1.below hbb
        have HR2 := Lib.hid hr2
        have HT2 := Lib.hid (HJ.out.2.2.2.2.below hbb)
        have t := (Blk.new' wr #[.int .i64 l.n, .int .i64 l.d, .int .i64 l.b, .int .i64 l.u] 116).touch (Touch.of_below (S := fun _ => False) HB2.out) (fun e => e)
        have t0 := t.cell 0 rfl
        have t1 := t.cell 1 rfl
        have t2 := t.cell 2 rfl
        have t3 := t.cell 3 rfl
        have b0 := hr2.cell haM 0 rfl
        have b1 := hr2.cell haM 1 rfl
        have b2 := hr2.cell haM 2 rfl
        have b3 := hr2.cell haM 3 rfl
        have y0 := hr2.free (a * 4)
        have y1 := hr2.free (a * 4 + 1)
        have y2 := hr2.free (a * 4 + 2)
        have y3 := hr2.free (a * 4 + 3)
        simp only [Nat.add_zero] at b0
        clear c0 c1 c2 c3 t hr2 hbb
        go_wp2_with fail
        exact ⟨⟨a + 1, b + 1, M.set a l, by omega, by omega, by go_num, by go_num, Lib.hid ⟨HR2.out.store haM l, by rw [List.length_set]; exact HJ.out.2.1, HKe.out.1, HKe.out.2, touch4 HT2.out _ _ _ _ _⟩⟩, by simp [intOf]; omega⟩
    · have e : b = L.length := by omega
      subst e
      have hML := HJ.out.2.1
      obtain ⟨vs, hcl⟩ := run_clear_ls wr g (a * 4) (L.length - a) (c - a) (by omega) (fun j hj => HJ.out.1.isSome (by omega)) (fun j => HJ.out.1.free j)
      have HF : Hid (M.take a = L.filter (Sx.kp nu)) := Lib.hid (by have := HJ.out.2.2.1; rwa [List.take_length] at this)
      have HLn : Hid ((L.filter (Sx.kp nu)).length = a) := Lib.hid (by rw [← HF.out, List.length_take]; omega)
      have k2 : (0 : Int) ≤ (a : Int) := by omega
      have k3 : (a : Int) ≤ (L.length : Int) := by omega
      have k4 : (a : Int) ≤ (c : Int) := by omega
      have k5 : (L.length : Int) ≤ (c : Int) := by omega
      go_wp2_with (simp only [hcl])
      go_ret
      have hcm2 := HJ.out.1.clear (i := a) (by omega) vs
      have hrow := hcm2.to_row hBg hcm (n := a) (by rw [List.length_take]; omega)
      rw [List.take_take, Nat.min_self, HF.out] at hrow
      exact ⟨by rw [HLn.out]; rfl, hrow, touch_setCells ⟨_, rfl, rfl⟩ vs _ _ HJ.out.2.2.2.2⟩
end Go.Proofs.Ytlklnaebdnahcaa
