/- The contract of Shares of drive: refused, or shared. -/
import Derived.Test.YtcneohhfnnelgaaW38
import Derived.Test.YtcneohhfnnelgaaH2
namespace Go.Proofs.Ytcneohhfnnelgaa
open Go.RowKit
set_option linter.unusedVariables false
namespace Dv
/-- what Shares answers: the shares and an error -/
def ShOut (T : Int) (xs ys : List Int) (er : Int) : Prop :=
  (¬ (1 ≤ xs.length ∧ xs.length ≤ 8) ∧ er = 6 ∧ ys = []) ∨ ((1 ≤ xs.length ∧ xs.length ≤ 8) ∧ ¬ ((0 ≤ T ∧ T ≤ 68719476736) ∧ okS xs) ∧ er = 3 ∧ ys = []) ∨
    (((1 ≤ xs.length ∧ xs.length ≤ 8) ∧ (0 ≤ T ∧ T ≤ 68719476736) ∧ okS xs) ∧ er = 0 ∧ ∃ L, Lev T xs L ∧ ys = shR L (T - pour L xs) xs)
theorem ShOut.unique {T : Int} {xs ys ys' : List Int} {er er' : Int} (h : ShOut T xs ys er) (h' : ShOut T xs ys' er') : ys = ys' ∧ er = er' := by
  rcases h with ⟨a, rfl, rfl⟩ | ⟨a, b, rfl, rfl⟩ | ⟨⟨a, b, c⟩, rfl, L, hL, rfl⟩ <;> rcases h' with ⟨a', rfl, rfl⟩ | ⟨a', b', rfl, rfl⟩ | ⟨⟨a', b', c'⟩, rfl, L', hL', rfl⟩
  · exact ⟨rfl, rfl⟩
  · exact absurd a' a
  · exact absurd a' a
  · exact absurd a a'
  · exact ⟨rfl, rfl⟩
  · exact absurd ⟨b', c'⟩ b
  · exact absurd a a'
  · exact absurd ⟨b, c⟩ b'
  · rw [lev_unique hL hL']; exact ⟨rfl, rfl⟩
end Dv
def ShRes (T : Int) (xs : List Int) (w : World) (e : Ending) (w' : World) : Prop :=
  Below w.heap.size w w' ∧ ∃ (A' : Option Addr) (cap' : Nat) (ys : List Int) (er : Int), e = .returned (.tuple #[.slice A' ys.length cap', .int .i64 er]) ∧ IntsAt w' A' ys ∧ Dv.ShOut T xs ys er
theorem intsAt_blk {W : World} {g : Nat} {t : TypeId} {ys : List Int} (h : Blk W g t (ys.map (Value.int .i64))) : IntsAt W (some ⟨g, 0, none⟩) ys := fun i hi => ⟨_, rfl, by
  have := h.cell i (v := .int .i64 (ys.getD i 0)) (by simp [List.getD, hi])
  have e : (⟨g, 0, none⟩ : Addr).add i = ⟨g, i, none⟩ := by
    unfold Addr.add
    split
    · rename_i h0; subst h0; rfl
    · simp
  rw [e]
  exact this⟩
theorem ShRes.no {T : Int} {xs : List Int} {w w' : World} {er : Int} (hb : Below w.heap.size w w') (h : Dv.ShOut T xs [] er) : ShRes T xs w (.returned (.tuple #[.slice none 0 0, .int .i64 er])) w' := ⟨hb, none, 0, [], er, rfl, fun i hi => absurd hi (Nat.not_lt_zero _), h⟩

set_option maxHeartbeats 1000000 in
theorem Shares_no60 (T : Int) (A : Option Addr) (xs : List Int) (cap : Nat) (w : World) (hx : IntsAt w A xs) (h : xs.length < 1) :
    Calls Try.prog 37 #[.int .i64 T, .slice A xs.length cap] w (ShRes T xs w) := by
  have I0 := Lib.hid (ShI.start (T := T) (cap := cap) hx)
  clear hx
  have E := Lib.hid (show Dv.ShOut T xs [] 6 from .inl ⟨by omega, rfl, rfl⟩)
  go_enter Try.func37, Try.ntmps37
  go_wp2
  go_ret2
  exact ShRes.no I0.out.2.2.2 E.out

set_option maxHeartbeats 1000000 in
theorem Shares_no61 (T : Int) (A : Option Addr) (xs : List Int) (cap : Nat) (w : World) (hx : IntsAt w A xs) (h : 8 < xs.length) :
    Calls Try.prog 37 #[.int .i64 T, .slice A xs.length cap] w (ShRes T xs w) := by
  have I0 := Lib.hid (ShI.start (T := T) (cap := cap) hx)
  clear hx
  have E := Lib.hid (show Dv.ShOut T xs [] 6 from .inl ⟨by omega, rfl, rfl⟩)
  go_enter Try.func37, Try.ntmps37
  go_wp2
  go_ret2
  exact ShRes.no I0.out.2.2.2 E.out

set_option maxHeartbeats 1000000 in
theorem Shares_no30 (T : Int) (A : Option Addr) (xs : List Int) (cap : Nat) (w : World) (hx : IntsAt w A xs) (h1 : 1 ≤ xs.length) (h8 : xs.length ≤ 8) (h : T < 0) :
    Calls Try.prog 37 #[.int .i64 T, .slice A xs.length cap] w (ShRes T xs w) := by
  have I0 := Lib.hid (ShI.start (T := T) (cap := cap) hx)
  clear hx
  have E := Lib.hid (show Dv.ShOut T xs [] 3 from .inr (.inl ⟨⟨h1, h8⟩, fun h' => by omega, rfl, rfl⟩))
  go_enter Try.func37, Try.ntmps37
  go_wp2
  go_ret2
  exact ShRes.no I0.out.2.2.2 E.out

set_option maxHeartbeats 1000000 in
theorem Shares_no31 (T : Int) (A : Option Addr) (xs : List Int) (cap : Nat) (w : World) (hx : IntsAt w A xs) (h1 : 1 ≤ xs.length) (h8 : xs.length ≤ 8) (h : 0 ≤ T) (hu : upB 68719476736 [T] = false) :
    Calls Try.prog 37 #[.int .i64 T, .slice A xs.length cap] w (ShRes T xs w) := by
  have I0 := Lib.hid (ShI.start (T := T) (cap := cap) hx)
  clear hx
  have E := Lib.hid (show Dv.ShOut T xs [] 3 from .inr (.inl ⟨⟨h1, h8⟩, (fun h' => by have h2 := h'.1; rw [upB1.2 (show -68719476736 ≤ T ∧ T ≤ 68719476736 by omega)] at hu; cases hu), rfl, rfl⟩))
  go_enter Try.func37, Try.ntmps37
  go_wp2_with fail
  refine (up1w _ T _ _ (by simp) (by omega) (by omega)).mono ?_
  rintro e w1 ⟨rfl, hb1⟩
  have I1 := Lib.hid (I0.out.below hb1)
  clear hb1
  go_wp2
  go_ret2
  exact ShRes.no I1.out.2.2.2 E.out

set_option maxHeartbeats 1000000 in
theorem Shares_no32 (T : Int) (A : Option Addr) (xs : List Int) (cap : Nat) (w : World) (hx : IntsAt w A xs) (h1 : 1 ≤ xs.length) (h8 : xs.length ≤ 8) (h : 0 ≤ T) (hu : upB 68719476736 [T] = true) (hno : ¬ Dv.okS xs) :
    Calls Try.prog 37 #[.int .i64 T, .slice A xs.length cap] w (ShRes T xs w) := by
  have I0 := Lib.hid (ShI.start (T := T) (cap := cap) hx)
  clear hx
  have E := Lib.hid (show Dv.ShOut T xs [] 3 from .inr (.inl ⟨⟨h1, h8⟩, fun h' => hno h'.2, rfl, rfl⟩))
  have HN := Lib.hid hno
  clear hno
  go_enter Try.func37, Try.ntmps37
  go_wp2_with fail
  refine (up1w _ T _ _ (by simp) (by omega) (by omega)).mono ?_
  rintro e w1 ⟨rfl, hb1⟩
  have I1 := Lib.hid (I0.out.below hb1)
  clear hb1
  obtain ⟨p1, p2⟩ := I1.out.b
  go_wp2_with fail
  go_loop [33] (fun i => ∃ k : Nat, k ≤ xs.length ∧ i = .int .i64 k ∧ Hid (∀ j, j < k → 0 ≤ xs.getD j 0 ∧ xs.getD j 0 ≤ 68719476736)) (fun i => xs.length - (intOf i).toNat)
  case atStart => exact ⟨0, Nat.zero_le _, rfl, Lib.hid (fun j hj => absurd hj (Nat.not_lt_zero _))⟩
  case round =>
    obtain ⟨k, hk, rfl, HA⟩ := hrel
    by_cases hlt : k < xs.length
    · obtain ⟨ad, rfl, hcell⟩ := I1.out.2.2.1 k hlt
      have HK := Lib.hid (fun (h : 0 ≤ xs.getD k 0 ∧ xs.getD k 0 ≤ 68719476736) (j : Nat) (hj : j < k + 1) => (show 0 ≤ xs.getD j 0 ∧ xs.getD j 0 ≤ 68719476736 from by
        by_cases h' : j < k
        · exact HA.out j h'
        · obtain rfl : j = k := by omega
          exact h))
      generalize hxx : xs.getD k 0 = x at hcell HK
      clear hxx
      by_cases g1 : 0 ≤ x
      · by_cases g2 : x ≤ 68719476736
        · go_wp2
          go_round
          case rel => exact ⟨k + 1, by omega, by go_num, Lib.hid (HK.out ⟨g1, g2⟩)⟩
          case measure => simp [intOf]; omega
        · go_wp2
          go_ret2
          exact ShRes.no I1.out.2.2.2 E.out
      · go_wp2
        go_ret2
        exact ShRes.no I1.out.2.2.2 E.out
    · exact absurd (Dv.okS_of fun j hj => HA.out j (by omega)) HN.out

theorem Shares_c (T : Int) (A : Option Addr) (xs : List Int) (cap : Nat) (w : World) (hx : IntsAt w A xs) : Calls Try.prog 37 #[.int .i64 T, .slice A xs.length cap] w (ShRes T xs w) := by
  by_cases h1 : 1 ≤ xs.length
  · by_cases h8 : xs.length ≤ 8
    · by_cases h : 0 ≤ T
      · cases hu : upB 68719476736 [T]
        · exact Shares_no31 T A xs cap w hx h1 h8 h hu
        · by_cases ho : Dv.okS xs
          · have hT : 0 ≤ T ∧ T ≤ 68719476736 := ⟨h, (upB1.1 hu).2⟩
            refine (Shares_go T A xs cap w hx h1 h8 hT ho).mono ?_
            rintro e w' ⟨L, g, hL, rfl, hb, hg⟩
            exact ⟨hb, _, xs.length, _, 0, by rw [Dv.shR_length], intsAt_blk hg, .inr (.inr ⟨⟨⟨h1, h8⟩, hT, ho⟩, rfl, L, hL, rfl⟩)⟩
          · exact Shares_no32 T A xs cap w hx h1 h8 h hu ho
      · exact Shares_no30 T A xs cap w hx h1 h8 (by omega)
    · exact Shares_no61 T A xs cap w hx (by omega)
  · exact Shares_no60 T A xs cap w hx (by omega)
end Go.Proofs.Ytcneohhfnnelgaa
