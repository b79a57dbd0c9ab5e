/- Contracts of Inner of drive and of coulombref06. The contract of Step of drive. The contract of Step of drive, where it steps. General: a region that draws its order: operations that read and callees that read or make memory; one new block; then stores. One walk in the order of the text. The contract of Step of drive, the way on which it steps. General: a region that draws its order: operations that read and callees that read or make memory; then stores. One walk in the order of the text. The contract of Step of coulombref06. Contracts of parts and Apply of drive, of plus and Apply of coulombref06. Contracts of Apply of drive and of coulombref06. Contract of Apply of coulombref06; Apply of both.  Contracts of room, Room, most and the closures of weaken. Contracts of one, less, per, ceil of drive and of point, up, times of coulombref06: spans of numbers. Contracts of times of coulombref06 and of per of drive. The contract of per of drive. Contracts of the limiter's allowed of drive and of span of coulombref06. General: how the walk of a law becomes its statement (any program, any law whose arguments read afterwards as before). General: arguments whose cells are integers and bools, structs and arrays of these to any depth, opened at once. General: arguments whose cells are integers, bools and slices (of such elements, to any depth), opened at once. A slice of spans that came in: its cells. -/
import Derived.Test.YtcneohhfnnelgaaPl1
import Derived.Deep.RegionHeld3
import Derived.StillTail
import Derived.Orders
import Derived.Laws.EntriesVeiled
import Derived.WalkKit
import Derived.ProofKit
import Derived.OpenShut
import Derived.Below
import Derived.ChangeSame
import Derived.WideKeyArgs
import Derived.Deep.Slices
namespace Go.Proofs.Ytcneohhfnnelgaa
open Go.RowKit
set_option linter.unusedVariables false

set_option maxHeartbeats 1000000 in
theorem Inner_no1 (m : Mot) (d q s : Int) (w : World) (hC : Dv.chkB m = false) :
    Calls Try.prog 46 #[.agg #[.int .i64 m.r, .int .i64 m.ld, .int .i64 m.lq, .int .i64 m.fx, .int .i64 m.po, .int .i64 m.mi, .int .i64 m.sp, .int .i64 m.dr, .int .i64 m.cu, .int .i64 m.fa], .int .i64 d, .int .i64 q, .int .i64 s] w fun e w' => e = .returned (.tuple #[.int .i64 0, .int .i64 0, .int .i64 2]) ∧ Below w.heap.size w w' := by
  go_enter Try.func46, Try.ntmps46
  go_wp2_with fail
  refine (Check_no m _ hC).mono ?_
  rintro e w1 ⟨rfl, hb1⟩
  go_wp2
  go_ret3
  exact ⟨rfl, ((Below.refl _ _).alloc (Nat.le_refl _) _).trans (hb1.mono (by simp))⟩
set_option maxHeartbeats 1000000 in
theorem Inner_no20 (m : Mot) (d q s : Int) (w : World) (hC : Dv.chkB m = true) (h1 : upB 1048576 [d, q] = false) :
    Calls Try.prog 46 #[.agg #[.int .i64 m.r, .int .i64 m.ld, .int .i64 m.lq, .int .i64 m.fx, .int .i64 m.po, .int .i64 m.mi, .int .i64 m.sp, .int .i64 m.dr, .int .i64 m.cu, .int .i64 m.fa], .int .i64 d, .int .i64 q, .int .i64 s] w fun e w' => e = .returned (.tuple #[.int .i64 0, .int .i64 0, .int .i64 3]) ∧ Below w.heap.size w w' := by
  go_enter Try.func46, Try.ntmps46
  go_wp2_with fail
  refine (Check_yes m _ hC).mono ?_
  rintro e w1 ⟨rfl, hb1⟩
  have HB := Lib.hid (((Below.refl _ _).alloc (Nat.le_refl _) _).trans (hb1.mono (by simp)))
  clear hb1
  go_wp2_with (first | (go_at_call 67; (with_reducible refine (up2 _ _ _ _ _ (by simp) (by omega) (by omega)).mono ?_); rintro e w' ⟨rfl, rfl⟩) | (go_at_call 67; (with_reducible refine (up1 _ _ _ _ (by simp) (by omega) (by omega)).mono ?_); rintro e w' ⟨rfl, rfl⟩))
  go_ret3
  exact ⟨rfl, HB.out.alloc HB.out.size _⟩
set_option maxHeartbeats 1000000 in
theorem Inner_no21 (m : Mot) (d q s : Int) (w : World) (hC : Dv.chkB m = true) (h1 : upB 1048576 [d, q] = true) (h2 : upB 16384 [s] = false) :
    Calls Try.prog 46 #[.agg #[.int .i64 m.r, .int .i64 m.ld, .int .i64 m.lq, .int .i64 m.fx, .int .i64 m.po, .int .i64 m.mi, .int .i64 m.sp, .int .i64 m.dr, .int .i64 m.cu, .int .i64 m.fa], .int .i64 d, .int .i64 q, .int .i64 s] w fun e w' => e = .returned (.tuple #[.int .i64 0, .int .i64 0, .int .i64 3]) ∧ Below w.heap.size w w' := by
  go_enter Try.func46, Try.ntmps46
  go_wp2_with fail
  refine (Check_yes m _ hC).mono ?_
  rintro e w1 ⟨rfl, hb1⟩
  have HB := Lib.hid (((Below.refl _ _).alloc (Nat.le_refl _) _).trans (hb1.mono (by simp)))
  clear hb1
  go_wp2_with (first | (go_at_call 67; (with_reducible refine (up2 _ _ _ _ _ (by simp) (by omega) (by omega)).mono ?_); rintro e w' ⟨rfl, rfl⟩) | (go_at_call 67; (with_reducible refine (up1 _ _ _ _ (by simp) (by omega) (by omega)).mono ?_); rintro e w' ⟨rfl, rfl⟩))
  go_ret3
  exact ⟨rfl, (HB.out.alloc HB.out.size _).alloc (by have := HB.out.size; simp; omega) _⟩
set_option maxHeartbeats 1000000 in
theorem Inner_go (m : Mot) (d q s : Int) (w : World) (hC : Dv.chkB m = true) (h1 : upB 1048576 [d, q] = true) (h2 : upB 16384 [s] = true) (hd : -1048576 ≤ d ∧ d ≤ 1048576) (hq : -1048576 ≤ q ∧ q ≤ 1048576) (hs : -16384 ≤ s ∧ s ≤ 16384) :
    Calls Try.prog 46 #[.agg #[.int .i64 m.r, .int .i64 m.ld, .int .i64 m.lq, .int .i64 m.fx, .int .i64 m.po, .int .i64 m.mi, .int .i64 m.sp, .int .i64 m.dr, .int .i64 m.cu, .int .i64 m.fa], .int .i64 d, .int .i64 q, .int .i64 s] w fun e w' => e = .returned (.tuple #[.int .i64 (Dv.ibd m d q s), .int .i64 (Dv.ibq m d q s), .int .i64 0]) ∧ Below w.heap.size w w' := by
  have HK := Lib.hid (Dv.chkB_iff.1 hC)
  go_enter Try.func46, Try.ntmps46
  go_wp2_with fail
  refine (Check_yes m _ hC).mono ?_
  rintro e w1 ⟨rfl, hb1⟩
  obtain ⟨c0, c1, c2, c3, c4, c5, c6, c7, c8, c9⟩ := (motAt_alloc w m 52).on hb1 (by simp)
  have hz : w.heap.size < w1.heap.size := by have := hb1.size; simp at this; omega
  have HB := Lib.hid (((Below.refl _ _).alloc (Nat.le_refl _) _).trans (hb1.mono (by simp)))
  clear hb1
  go_wp2_with (first | (go_at_call 67; (with_reducible refine (up2 _ _ _ _ _ (by simp) (by omega) (by omega)).mono ?_); rintro e w' ⟨rfl, rfl⟩) | (go_at_call 67; (with_reducible refine (up1 _ _ _ _ (by simp) (by omega) (by omega)).mono ?_); rintro e w' ⟨rfl, rfl⟩) | (go_at_call 102; refine (inner_c m d q s _ HK.out hd hq hs).mono ?_; rintro e w2 ⟨rfl, hb2⟩; have HB2 := Lib.hid (((HB.out.alloc (by omega) _).alloc (by simp; omega) _).trans (hb2.mono (by simp; omega))); have hz2 := HB2.out.size; clear hb2))
  go_ret3
  exact ⟨rfl, HB2.out⟩
set_option maxHeartbeats 1000000 in
theorem InnerR_no1 (m : Mot) (d q s : Int) (w : World) (hC : Dv.chkB m = false) :
    Calls Try.prog 47 #[.agg #[.int .i64 m.r, .int .i64 m.ld, .int .i64 m.lq, .int .i64 m.fx, .int .i64 m.po, .int .i64 m.mi, .int .i64 m.sp, .int .i64 m.dr, .int .i64 m.cu, .int .i64 m.fa], .int .i64 d, .int .i64 q, .int .i64 s] w fun e w' => e = .returned (.tuple #[.int .i64 0, .int .i64 0, .int .i64 2]) ∧ Below w.heap.size w w' := by
  go_enter Try.func47, Try.ntmps47
  go_wp2_with fail
  refine (CheckR_no m _ hC).mono ?_
  rintro e w1 ⟨rfl, hb1⟩
  go_wp2
  go_ret3
  exact ⟨rfl, ((Below.refl _ _).alloc (Nat.le_refl _) _).trans (hb1.mono (by simp))⟩
set_option maxHeartbeats 1000000 in
theorem InnerR_no20 (m : Mot) (d q s : Int) (w : World) (hC : Dv.chkB m = true) (h1 : upB 1048576 [d] = false) :
    Calls Try.prog 47 #[.agg #[.int .i64 m.r, .int .i64 m.ld, .int .i64 m.lq, .int .i64 m.fx, .int .i64 m.po, .int .i64 m.mi, .int .i64 m.sp, .int .i64 m.dr, .int .i64 m.cu, .int .i64 m.fa], .int .i64 d, .int .i64 q, .int .i64 s] w fun e w' => e = .returned (.tuple #[.int .i64 0, .int .i64 0, .int .i64 3]) ∧ Below w.heap.size w w' := by
  go_enter Try.func47, Try.ntmps47
  go_wp2_with fail
  refine (CheckR_yes m _ hC).mono ?_
  rintro e w1 ⟨rfl, hb1⟩
  have HB := Lib.hid (((Below.refl _ _).alloc (Nat.le_refl _) _).trans (hb1.mono (by simp)))
  clear hb1
  go_wp2_with (first | (go_at_call 97; refine (current_c _ _).mono ?_; rintro e w' ⟨rfl, rfl⟩) | (go_at_call 98; refine (speed_c _ _).mono ?_; rintro e w' ⟨rfl, rfl⟩))
  go_ret3
  exact ⟨rfl, HB.out⟩
set_option maxHeartbeats 1000000 in
theorem InnerR_no21 (m : Mot) (d q s : Int) (w : World) (hC : Dv.chkB m = true) (h1 : upB 1048576 [d] = true) (h2 : upB 1048576 [q] = false) :
    Calls Try.prog 47 #[.agg #[.int .i64 m.r, .int .i64 m.ld, .int .i64 m.lq, .int .i64 m.fx, .int .i64 m.po, .int .i64 m.mi, .int .i64 m.sp, .int .i64 m.dr, .int .i64 m.cu, .int .i64 m.fa], .int .i64 d, .int .i64 q, .int .i64 s] w fun e w' => e = .returned (.tuple #[.int .i64 0, .int .i64 0, .int .i64 3]) ∧ Below w.heap.size w w' := by
  go_enter Try.func47, Try.ntmps47
  go_wp2_with fail
  refine (CheckR_yes m _ hC).mono ?_
  rintro e w1 ⟨rfl, hb1⟩
  have HB := Lib.hid (((Below.refl _ _).alloc (Nat.le_refl _) _).trans (hb1.mono (by simp)))
  clear hb1
  go_wp2_with (first | (go_at_call 97; refine (current_c _ _).mono ?_; rintro e w' ⟨rfl, rfl⟩) | (go_at_call 98; refine (speed_c _ _).mono ?_; rintro e w' ⟨rfl, rfl⟩))
  go_ret3
  exact ⟨rfl, HB.out⟩
set_option maxHeartbeats 1000000 in
theorem InnerR_no22 (m : Mot) (d q s : Int) (w : World) (hC : Dv.chkB m = true) (h1 : upB 1048576 [d] = true) (h2 : upB 1048576 [q] = true) (h3 : Dv.spE s = 3) :
    Calls Try.prog 47 #[.agg #[.int .i64 m.r, .int .i64 m.ld, .int .i64 m.lq, .int .i64 m.fx, .int .i64 m.po, .int .i64 m.mi, .int .i64 m.sp, .int .i64 m.dr, .int .i64 m.cu, .int .i64 m.fa], .int .i64 d, .int .i64 q, .int .i64 s] w fun e w' => e = .returned (.tuple #[.int .i64 0, .int .i64 0, .int .i64 3]) ∧ Below w.heap.size w w' := by
  go_enter Try.func47, Try.ntmps47
  go_wp2_with fail
  refine (CheckR_yes m _ hC).mono ?_
  rintro e w1 ⟨rfl, hb1⟩
  have HB := Lib.hid (((Below.refl _ _).alloc (Nat.le_refl _) _).trans (hb1.mono (by simp)))
  clear hb1
  go_wp2_with (first | (go_at_call 97; refine (current_c _ _).mono ?_; rintro e w' ⟨rfl, rfl⟩) | (go_at_call 98; refine (speed_c _ _).mono ?_; rintro e w' ⟨rfl, rfl⟩))
  go_ret3
  exact ⟨rfl, HB.out⟩
set_option maxHeartbeats 1000000 in
theorem InnerR_go (m : Mot) (d q s : Int) (w : World) (hC : Dv.chkB m = true) (h1 : upB 1048576 [d] = true) (h2 : upB 1048576 [q] = true) (h3 : Dv.spE s = 0) (hd : -1048576 ≤ d ∧ d ≤ 1048576) (hq : -1048576 ≤ q ∧ q ≤ 1048576) (hs : -16384 ≤ s ∧ s ≤ 16384) :
    Calls Try.prog 47 #[.agg #[.int .i64 m.r, .int .i64 m.ld, .int .i64 m.lq, .int .i64 m.fx, .int .i64 m.po, .int .i64 m.mi, .int .i64 m.sp, .int .i64 m.dr, .int .i64 m.cu, .int .i64 m.fa], .int .i64 d, .int .i64 q, .int .i64 s] w fun e w' => e = .returned (.tuple #[.int .i64 (Dv.ibd m d q s), .int .i64 (Dv.ibq m d q s), .int .i64 0]) ∧ Below w.heap.size w w' := by
  have HK := Lib.hid (Dv.chkB_iff.1 hC)
  go_enter Try.func47, Try.ntmps47
  go_wp2_with fail
  refine (CheckR_yes m _ hC).mono ?_
  rintro e w1 ⟨rfl, hb1⟩
  obtain ⟨c0, c1, c2, c3, c4, c5, c6, c7, c8, c9⟩ := (motAt_alloc w m 52).on hb1 (by simp)
  have hz : w.heap.size < w1.heap.size := by have := hb1.size; simp at this; omega
  have HB := Lib.hid (((Below.refl _ _).alloc (Nat.le_refl _) _).trans (hb1.mono (by simp)))
  clear hb1
  go_wp2_with (first | (go_at_call 97; refine (current_c _ _).mono ?_; rintro e w' ⟨rfl, rfl⟩) | (go_at_call 98; refine (speed_c _ _).mono ?_; rintro e w' ⟨rfl, rfl⟩) | (go_at_call 103; refine (innerR_c m d q s _ HK.out hd hq hs).mono ?_; rintro e w2 ⟨rfl, hb2⟩; have HB2 := Lib.hid (HB.out.trans (hb2.mono (by omega))); have hz2 := HB2.out.size; clear hb2))
  go_ret3
  exact ⟨rfl, HB2.out⟩

theorem Inner_c (m : Mot) (d q s : Int) (w : World) :
    Calls Try.prog 46 #[.agg #[.int .i64 m.r, .int .i64 m.ld, .int .i64 m.lq, .int .i64 m.fx, .int .i64 m.po, .int .i64 m.mi, .int .i64 m.sp, .int .i64 m.dr, .int .i64 m.cu, .int .i64 m.fa], .int .i64 d, .int .i64 q, .int .i64 s] w fun e w' => e = .returned (.tuple #[.int .i64 (Dv.InD m d q s), .int .i64 (Dv.InQ m d q s), .int .i64 (Dv.InE m d q s)]) ∧ Below w.heap.size w w' := by
  cases hC : Dv.chkB m
  · exact (Inner_no1 m d q s w hC).mono fun _ _ ⟨h1, h2⟩ => ⟨by rw [h1]; simp [Dv.InD, Dv.InQ, Dv.InE, hC], h2⟩
  · cases hu : upB 1048576 [d, q]
    · exact (Inner_no20 m d q s w hC hu).mono fun _ _ ⟨h1, h2⟩ => ⟨by rw [h1]; simp [Dv.InD, Dv.InQ, Dv.InE, Dv.inOk, hC, hu], h2⟩
    · cases hs : upB 16384 [s]
      · exact (Inner_no21 m d q s w hC hu hs).mono fun _ _ ⟨h1, h2⟩ => ⟨by rw [h1]; simp [Dv.InD, Dv.InQ, Dv.InE, Dv.inOk, hC, hu, hs], h2⟩
      · obtain ⟨hd, hq⟩ := upB2.1 hu
        exact (Inner_go m d q s w hC hu hs hd hq (upB1.1 hs)).mono fun _ _ ⟨h1, h2⟩ => ⟨by rw [h1]; simp [Dv.InD, Dv.InQ, Dv.InE, Dv.inOk, hC, hu, hs], h2⟩
theorem InnerR_c (m : Mot) (d q s : Int) (w : World) :
    Calls Try.prog 47 #[.agg #[.int .i64 m.r, .int .i64 m.ld, .int .i64 m.lq, .int .i64 m.fx, .int .i64 m.po, .int .i64 m.mi, .int .i64 m.sp, .int .i64 m.dr, .int .i64 m.cu, .int .i64 m.fa], .int .i64 d, .int .i64 q, .int .i64 s] w fun e w' => e = .returned (.tuple #[.int .i64 (Dv.InD m d q s), .int .i64 (Dv.InQ m d q s), .int .i64 (Dv.InE m d q s)]) ∧ Below w.heap.size w w' := by
  cases hC : Dv.chkB m
  · exact (InnerR_no1 m d q s w hC).mono fun _ _ ⟨h1, h2⟩ => ⟨by rw [h1]; simp [Dv.InD, Dv.InQ, Dv.InE, hC], h2⟩
  · cases h1 : upB 1048576 [d]
    · exact (InnerR_no20 m d q s w hC h1).mono fun _ _ ⟨h, h2⟩ => ⟨by rw [h]; simp [Dv.InD, Dv.InQ, Dv.InE, Dv.inOk, hC, upB_two, h1], h2⟩
    · cases h2 : upB 1048576 [q]
      · exact (InnerR_no21 m d q s w hC h1 h2).mono fun _ _ ⟨h, h3⟩ => ⟨by rw [h]; simp [Dv.InD, Dv.InQ, Dv.InE, Dv.inOk, hC, upB_two, h1, h2], h3⟩
      · cases hs : upB 16384 [s]
        · exact (InnerR_no22 m d q s w hC h1 h2 (by simp [Dv.spE, hs])).mono fun _ _ ⟨h, h3⟩ => ⟨by rw [h]; simp [Dv.InD, Dv.InQ, Dv.InE, Dv.inOk, hC, upB_two, h1, h2, hs], h3⟩
        · exact (InnerR_go m d q s w hC h1 h2 (by simp [Dv.spE, hs]) (upB1.1 h1) (upB1.1 h2) (upB1.1 hs)).mono fun _ _ ⟨h, h3⟩ => ⟨by rw [h]; simp [Dv.InD, Dv.InQ, Dv.InE, Dv.inOk, hC, upB_two, h1, h2, hs], h3⟩
end Go.Proofs.Ytcneohhfnnelgaa
namespace Go.Proofs.Ytcneohhfnnelgaa
open Go.RowKit
set_option linter.unusedVariables false
def Rot.cs (s : Rot) : List Value := [.int .i64 s.d, .int .i64 s.q, .int .i64 s.w, .int .i64 s.a]
def Mot.cs (m : Mot) : List Value := [.int .i64 m.r, .int .i64 m.ld, .int .i64 m.lq, .int .i64 m.fx, .int .i64 m.po, .int .i64 m.mi, .int .i64 m.sp, .int .i64 m.dr, .int .i64 m.cu, .int .i64 m.fa]
def rot0 : Rot := ⟨0, 0, 0, 0⟩
theorem motOf {w : World} {b : Nat} {m : Mot} {T : TypeId} (h : Blk w b T m.cs) : MotAt w b m :=
  ⟨h.cell 0 rfl, h.cell 1 rfl, h.cell 2 rfl, h.cell 3 rfl, h.cell 4 rfl, h.cell 5 rfl, h.cell 6 rfl, h.cell 7 rfl, h.cell 8 rfl, h.cell 9 rfl⟩
theorem rotOf {w : World} {b : Nat} {s : Rot} {T : TypeId} (h : Blk w b T s.cs) : w.cell? ⟨b, 0, none⟩ = some (.int .i64 s.d) ∧ w.cell? ⟨b, 1, none⟩ = some (.int .i64 s.q) ∧ w.cell? ⟨b, 2, none⟩ = some (.int .i64 s.w) ∧ w.cell? ⟨b, 3, none⟩ = some (.int .i64 s.a) :=
  ⟨h.cell 0 rfl, h.cell 1 rfl, h.cell 2 rfl, h.cell 3 rfl⟩
theorem freeOf {w : World} {b : Nat} {s : Rot} {T : TypeId} (h : Blk w b T s.cs) : w.frozen? ⟨b, 0, none⟩ = false ∧ w.frozen? ⟨b, 1, none⟩ = false ∧ w.frozen? ⟨b, 2, none⟩ = false ∧ w.frozen? ⟨b, 3, none⟩ = false :=
  ⟨h.free 0, h.free 1, h.free 2, h.free 3⟩

/-- behind a call that came after three new blocks -/
theorem after3 {w w1 : World} {c1 c2 c3 : List Value} {T1 T2 T3 : TypeId} (hb : Below (((w.alloc (.cells c1.toArray T1)).alloc (.cells c2.toArray T2)).alloc (.cells c3.toArray T3)).heap.size (((w.alloc (.cells c1.toArray T1)).alloc (.cells c2.toArray T2)).alloc (.cells c3.toArray T3)) w1) :
    Blk w1 w.heap.size T1 c1 ∧ Blk w1 (w.heap.size + 1) T2 c2 ∧ Blk w1 (w.heap.size + 1 + 1) T3 c3 ∧ Below w.heap.size w w1 := by
  refine ⟨(((Blk.new w c1 T1).alloc _).alloc _).below hb (by simp; omega), ?_, ?_, (((Below.refl _ w).alloc (Nat.le_refl _) _).alloc (by simp) _ |>.alloc (by simp; omega) _).trans (hb.mono (by simp; omega))⟩
  · have := ((Blk.new (w.alloc (.cells c1.toArray T1)) c2 T2).alloc (.cells c3.toArray T3)).below hb (by simp)
    simpa using this
  · have := (Blk.new ((w.alloc (.cells c1.toArray T1)).alloc (.cells c2.toArray T2)) c3 T3).below hb (by simp)
    simpa using this
/-- what lies in memory while Step runs -/
def StI (w : World) (m : Mot) (s : Rot) (W : World) : Prop := Blk W w.heap.size 52 m.cs ∧ Blk W (w.heap.size + 1) 57 s.cs ∧ Blk W (w.heap.size + 1 + 1) 57 rot0.cs ∧ Below w.heap.size w W
theorem StI.below {w : World} {m : Mot} {s : Rot} {W W' : World} (h : StI w m s W) (hb : Below W.heap.size W W') : StI w m s W' :=
  ⟨h.1.below hb h.1.lt, h.2.1.below hb h.2.1.lt, h.2.2.1.below hb h.2.2.1.lt, h.2.2.2.trans (hb.mono h.2.2.2.size)⟩
theorem StI.alloc {w : World} {m : Mot} {s : Rot} {W : World} (h : StI w m s W) (o : Obj) : StI w m s (W.alloc o) := h.below ((Below.refl _ _).alloc (Nat.le_refl _) _)
theorem StI.m {w : World} {m : Mot} {s : Rot} {W : World} (h : StI w m s W) : MotAt W w.heap.size m := motOf h.1
theorem StI.s {w : World} {m : Mot} {s : Rot} {W : World} (h : StI w m s W) : W.cell? ⟨w.heap.size + 1, 0, none⟩ = some (.int .i64 s.d) ∧ W.cell? ⟨w.heap.size + 1, 1, none⟩ = some (.int .i64 s.q) ∧ W.cell? ⟨w.heap.size + 1, 2, none⟩ = some (.int .i64 s.w) ∧ W.cell? ⟨w.heap.size + 1, 3, none⟩ = some (.int .i64 s.a) := rotOf h.2.1
theorem StI.r {w : World} {m : Mot} {s : Rot} {W : World} (h : StI w m s W) : W.cell? ⟨w.heap.size + 1 + 1, 0, none⟩ = some (.int .i64 rot0.d) ∧ W.cell? ⟨w.heap.size + 1 + 1, 1, none⟩ = some (.int .i64 rot0.q) ∧ W.cell? ⟨w.heap.size + 1 + 1, 2, none⟩ = some (.int .i64 rot0.w) ∧ W.cell? ⟨w.heap.size + 1 + 1, 3, none⟩ = some (.int .i64 rot0.a) := rotOf h.2.2.1
theorem StI.f {w : World} {m : Mot} {s : Rot} {W : World} (h : StI w m s W) : W.frozen? ⟨w.heap.size + 1 + 1, 0, none⟩ = false ∧ W.frozen? ⟨w.heap.size + 1 + 1, 1, none⟩ = false ∧ W.frozen? ⟨w.heap.size + 1 + 1, 2, none⟩ = false ∧ W.frozen? ⟨w.heap.size + 1 + 1, 3, none⟩ = false := freeOf h.2.2.1
theorem StI.lt {w : World} {m : Mot} {s : Rot} {W : World} (h : StI w m s W) : w.heap.size + 1 + 1 < W.heap.size := h.2.2.1.lt
theorem below_put4 {w W : World} {b : Nat} (h : Below w.heap.size w W) (hb : w.heap.size ≤ b) (v0 v1 v2 v3 : Value) : Below w.heap.size w ((((W.setCell ⟨b, 0, none⟩ v0).setCell ⟨b, 1, none⟩ v1).setCell ⟨b, 2, none⟩ v2).setCell ⟨b, 3, none⟩ v3) :=
  (((h.setCell hb _).setCell hb _).setCell hb _).setCell hb _

/-- upTo of one or two numbers, where it is said of the world only that all that was there stays -/
theorem up2w (m a b : Int) (W : World) (g : Nat) (hg : W.heap.size = g) (hm0 : 0 ≤ m) (hm1 : m ≤ 4611686018427387904) :
    Calls Try.prog 67 #[.int .i64 m, .slice (some ⟨g, 0, none⟩) 2 2] (W.alloc (.cells #[.int .i64 a, .int .i64 b] 2)) fun e w' => e = .returned (.bool (upB m [a, b])) ∧ Below W.heap.size W w' :=
  (up2 m a b W g hg hm0 hm1).mono fun _ _ ⟨h1, h2⟩ => ⟨h1, h2 ▸ (Below.refl _ _).alloc (Nat.le_refl _) _⟩

namespace Dv
def stW (s : Rot) : Int := s.w / 1000
def stN (m : Mot) (s : Rot) (vd vq ld : Int) : Rot :=
  ⟨s.d + (vd + ibd m s.d s.q (stW s)) * m.mi / m.ld, s.q + (vq + ibq m s.d s.q (stW s)) * m.mi / m.lq, s.w + (tq m s.d s.q - ld - m.dr * stW s) * m.sp / 1048576, (s.a + s.w * m.mi * 10430378 / 1000000000000) % 65536⟩
def stB (s : Rot) (vd vq ld : Int) : Bool := rotB s && (upB 1073741824 [vd, vq] && upB 68719476736 [ld])
def stR (m : Mot) (s : Rot) (vd vq ld : Int) : Rot × Int :=
  if chkB m = true then (if stB s vd vq ld = true then (if upB 68719476736 [tq m s.d s.q] = true ∧ rotB (stN m s vd vq ld) = true then (stN m s vd vq ld, 0) else (rot0, 4)) else (rot0, 3)) else (rot0, 2)
theorem rotB_iff {s : Rot} : rotB s = true ↔ (-1048576 ≤ s.d ∧ s.d ≤ 1048576) ∧ (-1048576 ≤ s.q ∧ s.q ≤ 1048576) ∧ (-16384000 ≤ s.w ∧ s.w ≤ 16384000) ∧ (0 ≤ s.a ∧ s.a < 65536) := by
  unfold rotB
  rw [Bool.and_eq_true, Bool.and_eq_true, upB2, upB1]
  simp only [angB, decide_eq_true_eq]
  exact ⟨fun ⟨⟨a, b⟩, c, d⟩ => ⟨a, b, c, d⟩, fun ⟨a, b, c, d⟩ => ⟨⟨a, b⟩, c, d⟩⟩
/-- the products of Step -/
theorem st_prods {m : Mot} {s : Rot} {vd vq ld : Int} (hm : chk m) (hs : rotB s = true) (hv : (-1073741824 ≤ vd ∧ vd ≤ 1073741824) ∧ (-1073741824 ≤ vq ∧ vq ≤ 1073741824)) (hl : -68719476736 ≤ ld ∧ ld ≤ 68719476736) :
    (-16384 ≤ s.w / 1000 ∧ s.w / 1000 ≤ 16384) ∧
    (-(100000000000 * 1000) ≤ (vd + ibd m s.d s.q (s.w / 1000)) * m.mi ∧ (vd + ibd m s.d s.q (s.w / 1000)) * m.mi ≤ 100000000000 * 1000) ∧
    (-(200000000000 * 1000) ≤ (vq + ibq m s.d s.q (s.w / 1000)) * m.mi ∧ (vq + ibq m s.d s.q (s.w / 1000)) * m.mi ≤ 200000000000 * 1000) ∧
    (-(100000000000 * 1000) ≤ (vd + ibd m s.d s.q (s.w / 1000)) * m.mi / m.ld ∧ (vd + ibd m s.d s.q (s.w / 1000)) * m.mi / m.ld ≤ 100000000000 * 1000) ∧
    (-(200000000000 * 1000) ≤ (vq + ibq m s.d s.q (s.w / 1000)) * m.mi / m.lq ∧ (vq + ibq m s.d s.q (s.w / 1000)) * m.mi / m.lq ≤ 200000000000 * 1000) ∧
    (-(1048576 * 16384) ≤ m.dr * (s.w / 1000) ∧ m.dr * (s.w / 1000) ≤ 1048576 * 16384) ∧
    (-(1000000000000 * 1048576) ≤ (tq m s.d s.q - ld - m.dr * (s.w / 1000)) * m.sp ∧ (tq m s.d s.q - ld - m.dr * (s.w / 1000)) * m.sp ≤ 1000000000000 * 1048576) ∧
    (-(16384000 * 1000) ≤ s.w * m.mi ∧ s.w * m.mi ≤ 16384000 * 1000) := by
  obtain ⟨h1, h2, h3, h4⟩ := rotB_iff.1 hs
  have hw : -16384 ≤ s.w / 1000 ∧ s.w / 1000 ≤ 16384 := by omega
  obtain ⟨b1, b2⟩ := in_bd hm h1 h2 hw
  have b3 := tq_bd hm h1 h2
  unfold chk at hm
  obtain ⟨k0, k1, k2, k3, k4, k5, k6, k7, k8, k9⟩ := hm
  have p1 := mul_bd (x := vd + ibd m s.d s.q (s.w / 1000)) (y := m.mi) 100000000000 1000 (by omega) (by omega)
  have p2 := mul_bd (x := vq + ibq m s.d s.q (s.w / 1000)) (y := m.mi) 200000000000 1000 (by omega) (by omega)
  have p5 := mul_bd (x := m.dr) (y := s.w / 1000) 1048576 16384 (by omega) hw
  exact ⟨hw, p1, p2, ediv_bd _ _ k1.1 _ p1.1 p1.2 (by omega), ediv_bd _ _ k2.1 _ p2.1 p2.2 (by omega), p5, mul_bd (x := tq m s.d s.q - ld - m.dr * (s.w / 1000)) (y := m.sp) 1000000000000 1048576 (by omega) (by omega), mul_bd (x := s.w) (y := m.mi) 16384000 1000 h3 (by omega)⟩
end Dv

set_option maxHeartbeats 1000000 in
theorem Step_no1 (m : Mot) (s : Rot) (vd vq ld : Int) (w : World) (hC : Dv.chkB m = false) :
    Calls Try.prog 50 #[.agg #[.int .i64 m.r, .int .i64 m.ld, .int .i64 m.lq, .int .i64 m.fx, .int .i64 m.po, .int .i64 m.mi, .int .i64 m.sp, .int .i64 m.dr, .int .i64 m.cu, .int .i64 m.fa], .agg #[.int .i64 s.d, .int .i64 s.q, .int .i64 s.w, .int .i64 s.a], .int .i64 vd, .int .i64 vq, .int .i64 ld] w fun e w' => e = .returned (.tuple #[.agg #[.int .i64 rot0.d, .int .i64 rot0.q, .int .i64 rot0.w, .int .i64 rot0.a], .int .i64 2]) ∧ Below w.heap.size w w' := by
  go_enter Try.func50, Try.ntmps50
  go_wp2_with fail
  refine (Check_no m _ hC).mono ?_
  rintro e w1 ⟨rfl, hb1⟩
  obtain ⟨HM, HS, HR, hB⟩ := after3 hb1
  have HR' : Blk w1 (w.heap.size + 1 + 1) 57 rot0.cs := HR
  obtain ⟨r0, r1, r2, r3⟩ := rotOf HR'
  obtain ⟨f0, f1, f2, f3⟩ := freeOf HR'
  have HB := Lib.hid hB
  clear hb1 HR HR' HM HS hB
  go_wp2
  exact bodyPost_ret (v := .tuple #[.agg #[.int .i64 rot0.d, .int .i64 rot0.q, .int .i64 rot0.w, .int .i64 rot0.a], .int .i64 2]) (by simp [results, Try.results50, go_sem, r0, r1, r2, r3]; exact ⟨rfl, rfl, rfl, rfl⟩) rfl ⟨rfl, ((((HB.out.setCell (by simp; omega) _).setCell (by simp; omega) _).setCell (by simp; omega) _).setCell (by simp; omega) _)⟩

set_option maxHeartbeats 1000000 in
theorem Step_no2 (m : Mot) (s : Rot) (vd vq ld : Int) (w : World) (hC : Dv.chkB m = true) (h1 : Dv.rotB s = false) :
    Calls Try.prog 50 #[.agg #[.int .i64 m.r, .int .i64 m.ld, .int .i64 m.lq, .int .i64 m.fx, .int .i64 m.po, .int .i64 m.mi, .int .i64 m.sp, .int .i64 m.dr, .int .i64 m.cu, .int .i64 m.fa], .agg #[.int .i64 s.d, .int .i64 s.q, .int .i64 s.w, .int .i64 s.a], .int .i64 vd, .int .i64 vq, .int .i64 ld] w fun e w' => e = .returned (.tuple #[.agg #[.int .i64 rot0.d, .int .i64 rot0.q, .int .i64 rot0.w, .int .i64 rot0.a], .int .i64 3]) ∧ Below w.heap.size w w' := by
  go_enter Try.func50, Try.ntmps50
  go_wp2_with fail
  refine (Check_yes m _ hC).mono ?_
  rintro e w1 ⟨rfl, hb1⟩
  have I1 : Hid (StI w m s w1) := Lib.hid (after3 hb1)
  clear hb1
  obtain ⟨s0, s1, s2, s3⟩ := I1.out.s
  go_wp2_with fail
  refine (valid_c s _).mono ?_
  rintro e w2 ⟨rfl, hb2⟩
  have I2 := Lib.hid (I1.out.below hb2)
  clear hb2
  obtain ⟨r0, r1, r2, r3⟩ := I2.out.r
  obtain ⟨f0, f1, f2, f3⟩ := I2.out.f
  go_wp2
  exact bodyPost_ret (v := .tuple #[.agg #[.int .i64 rot0.d, .int .i64 rot0.q, .int .i64 rot0.w, .int .i64 rot0.a], .int .i64 3]) (by simp [results, Try.results50, go_sem, r0, r1, r2, r3]; exact ⟨rfl, rfl, rfl, rfl⟩) rfl ⟨rfl, below_put4 I2.out.2.2.2 (by omega) _ _ _ _⟩

set_option maxHeartbeats 1000000 in
theorem Step_no3 (m : Mot) (s : Rot) (vd vq ld : Int) (w : World) (hC : Dv.chkB m = true) (h1 : Dv.rotB s = true) (h2 : upB 1073741824 [vd, vq] = false) :
    Calls Try.prog 50 #[.agg #[.int .i64 m.r, .int .i64 m.ld, .int .i64 m.lq, .int .i64 m.fx, .int .i64 m.po, .int .i64 m.mi, .int .i64 m.sp, .int .i64 m.dr, .int .i64 m.cu, .int .i64 m.fa], .agg #[.int .i64 s.d, .int .i64 s.q, .int .i64 s.w, .int .i64 s.a], .int .i64 vd, .int .i64 vq, .int .i64 ld] w fun e w' => e = .returned (.tuple #[.agg #[.int .i64 rot0.d, .int .i64 rot0.q, .int .i64 rot0.w, .int .i64 rot0.a], .int .i64 3]) ∧ Below w.heap.size w w' := by
  go_enter Try.func50, Try.ntmps50
  go_wp2_with fail
  refine (Check_yes m _ hC).mono ?_
  rintro e w1 ⟨rfl, hb1⟩
  have I1 : Hid (StI w m s w1) := Lib.hid (after3 hb1)
  clear hb1
  obtain ⟨s0, s1, s2, s3⟩ := I1.out.s
  go_wp2_with fail
  refine (valid_c s _).mono ?_
  rintro e w2 ⟨rfl, hb2⟩
  have I2 := Lib.hid (I1.out.below hb2)
  clear hb2 s0 s1 s2 s3
  go_wp2_with fail
  refine (up2w _ vd vq _ _ (by simp) (by omega) (by omega)).mono ?_
  rintro e w3 ⟨rfl, hb3⟩
  have I3 := Lib.hid (I2.out.below hb3)
  clear hb3
  obtain ⟨r0, r1, r2, r3⟩ := I3.out.r
  obtain ⟨f0, f1, f2, f3⟩ := I3.out.f
  go_wp2
  exact bodyPost_ret (v := .tuple #[.agg #[.int .i64 rot0.d, .int .i64 rot0.q, .int .i64 rot0.w, .int .i64 rot0.a], .int .i64 3]) (by simp [results, Try.results50, go_sem, r0, r1, r2, r3]; exact ⟨rfl, rfl, rfl, rfl⟩) rfl ⟨rfl, below_put4 I3.out.2.2.2 (by omega) _ _ _ _⟩

set_option maxHeartbeats 1000000 in
theorem Step_no4 (m : Mot) (s : Rot) (vd vq ld : Int) (w : World) (hC : Dv.chkB m = true) (h1 : Dv.rotB s = true) (h2 : upB 1073741824 [vd, vq] = true) (h3 : upB 68719476736 [ld] = false) :
    Calls Try.prog 50 #[.agg #[.int .i64 m.r, .int .i64 m.ld, .int .i64 m.lq, .int .i64 m.fx, .int .i64 m.po, .int .i64 m.mi, .int .i64 m.sp, .int .i64 m.dr, .int .i64 m.cu, .int .i64 m.fa], .agg #[.int .i64 s.d, .int .i64 s.q, .int .i64 s.w, .int .i64 s.a], .int .i64 vd, .int .i64 vq, .int .i64 ld] w fun e w' => e = .returned (.tuple #[.agg #[.int .i64 rot0.d, .int .i64 rot0.q, .int .i64 rot0.w, .int .i64 rot0.a], .int .i64 3]) ∧ Below w.heap.size w w' := by
  go_enter Try.func50, Try.ntmps50
  go_wp2_with fail
  refine (Check_yes m _ hC).mono ?_
  rintro e w1 ⟨rfl, hb1⟩
  have I1 : Hid (StI w m s w1) := Lib.hid (after3 hb1)
  clear hb1
  obtain ⟨s0, s1, s2, s3⟩ := I1.out.s
  go_wp2_with fail
  refine (valid_c s _).mono ?_
  rintro e w2 ⟨rfl, hb2⟩
  have I2 := Lib.hid (I1.out.below hb2)
  clear hb2 s0 s1 s2 s3
  go_wp2_with fail
  refine (up2w _ vd vq _ _ (by simp) (by omega) (by omega)).mono ?_
  rintro e w3 ⟨rfl, hb3⟩
  have I3 := Lib.hid (I2.out.below hb3)
  clear hb3
  go_wp2_with fail
  refine (up1w _ ld _ _ (by simp) (by omega) (by omega)).mono ?_
  rintro e w4 ⟨rfl, hb4⟩
  have I4 := Lib.hid (I3.out.below hb4)
  clear hb4
  obtain ⟨r0, r1, r2, r3⟩ := I4.out.r
  obtain ⟨f0, f1, f2, f3⟩ := I4.out.f
  go_wp2
  exact bodyPost_ret (v := .tuple #[.agg #[.int .i64 rot0.d, .int .i64 rot0.q, .int .i64 rot0.w, .int .i64 rot0.a], .int .i64 3]) (by simp [results, Try.results50, go_sem, r0, r1, r2, r3]; exact ⟨rfl, rfl, rfl, rfl⟩) rfl ⟨rfl, below_put4 I4.out.2.2.2 (by omega) _ _ _ _⟩

end Go.Proofs.Ytcneohhfnnelgaa
namespace Go.Proofs.Ytcneohhfnnelgaa
open Go.RowKit
set_option linter.unusedVariables false

theorem i64_and65535 (n : Int) : bits .and .i64 n 65535 = n % 65536 := by
  have h : (BitVec.ofInt 64 65535).toNat = 2 ^ 16 - 1 := by decide
  have key : (BitVec.ofInt 64 n &&& BitVec.ofInt 64 65535).toNat = (n % ((2 ^ 64 : Nat) : Int)).toNat % 2 ^ 16 := by
    rw [BitVec.toNat_and, BitVec.toNat_ofInt, h, Nat.and_two_pow_sub_one_eq_mod]
  show IntKind.i64.wrap ((BitVec.ofInt 64 n &&& BitVec.ofInt 64 65535).toNat : Nat) = n % 65536
  rw [key, IntKind.wrap_i64]
  omega

set_option maxHeartbeats 2000000 in
set_option maxRecDepth 100000 in
theorem Step_no5 (m : Mot) (s : Rot) (vd vq ld : Int) (w : World) (hC : Dv.chkB m = true) (h1 : Dv.rotB s = true) (h2 : upB 1073741824 [vd, vq] = true) (h3 : upB 68719476736 [ld] = true) (ht : upB 68719476736 [Dv.tq m s.d s.q] = false) :
    Calls Try.prog 50 #[.agg #[.int .i64 m.r, .int .i64 m.ld, .int .i64 m.lq, .int .i64 m.fx, .int .i64 m.po, .int .i64 m.mi, .int .i64 m.sp, .int .i64 m.dr, .int .i64 m.cu, .int .i64 m.fa], .agg #[.int .i64 s.d, .int .i64 s.q, .int .i64 s.w, .int .i64 s.a], .int .i64 vd, .int .i64 vq, .int .i64 ld] w fun e w' => e = .returned (.tuple #[.agg #[.int .i64 rot0.d, .int .i64 rot0.q, .int .i64 rot0.w, .int .i64 rot0.a], .int .i64 4]) ∧ Below w.heap.size w w' := by
  have HK := Lib.hid (Dv.chkB_iff.1 hC)
  obtain ⟨q1, q2, q3, q4⟩ := Dv.rotB_iff.1 h1
  go_enter Try.func50, Try.ntmps50
  go_wp2_with fail
  refine (Check_yes m _ hC).mono ?_
  rintro e w1 ⟨rfl, hb1⟩
  have I1 : Hid (StI w m s w1) := Lib.hid (after3 hb1)
  clear hb1
  obtain ⟨s0, s1, s2, s3⟩ := I1.out.s
  go_wp2_with fail
  refine (valid_c s _).mono ?_
  rintro e w2 ⟨rfl, hb2⟩
  have I2 := Lib.hid (I1.out.below hb2)
  clear hb2 s0 s1 s2 s3
  go_wp2_with fail
  refine (up2w _ vd vq _ _ (by simp) (by omega) (by omega)).mono ?_
  rintro e w3 ⟨rfl, hb3⟩
  have I3 := Lib.hid (I2.out.below hb3)
  clear hb3
  go_wp2_with fail
  refine (up1w _ ld _ _ (by simp) (by omega) (by omega)).mono ?_
  rintro e w4 ⟨rfl, hb4⟩
  have I4 := Lib.hid (I3.out.below hb4)
  clear hb4
  obtain ⟨c0, c1, c2, c3, c4, c5, c6, c7, c8, c9⟩ := I4.out.m
  go_wp2_with fail
  refine gen_world (fun W => StI w m s W ∧ Blk W w4.heap.size 110 m.cs) ⟨I4.out.alloc _, Blk.new' _ _ _⟩ ?_
  rintro w5 ⟨i5, g5⟩
  have I5 := Lib.hid (And.intro i5 g5)
  obtain ⟨s0, s1, s2, s3⟩ := I5.out.1.s
  have z1 := I5.out.2.lt
  have z2 := I5.out.1.lt
  have z3 : w.heap.size + 1 < w5.heap.size := by omega
  clear c0 c1 c2 c3 c4 c5 c6 c7 c8 c9 i5 g5
  obtain ⟨c0, c1, c2, c3, c4, c5, c6, c7, c8, c9⟩ := motOf I5.out.2
  refine wp_region_past (by kernel_rfl) (by kernel_rfl) ?_
  repeat (go_big_quiet_step (first | (go_at_call 69; exact past_same (div_c _ _ _ (by omega) (by omega) (by omega))) | (go_at_call 100; exact past_below (torque_c m s.d s.q _ HK.out q1 q2))))
  refine wpQuiet_nil ?_
  intro x
  have I6 := Lib.hid (And.intro (I5.out.1.below x.far) (I5.out.2.below x.far I5.out.2.lt))
  generalize x.w = w6 at I6 ⊢
  clear c0 c1 c2 c3 c4 c5 c6 c7 c8 c9 s0 s1 s2 s3 z1 z2 z3
  go_wp2_with fail
  refine (up1w _ (Dv.tq m s.d s.q) _ _ (by simp) (by omega) (by omega)).mono ?_
  rintro e w7 ⟨rfl, hb7⟩
  have I7 := Lib.hid (And.intro (I6.out.1.below hb7) (I6.out.2.below hb7 I6.out.2.lt))
  clear hb7
  obtain ⟨r0, r1, r2, r3⟩ := I7.out.1.r
  obtain ⟨f0, f1, f2, f3⟩ := I7.out.1.f
  go_wp2
  exact bodyPost_ret (v := .tuple #[.agg #[.int .i64 rot0.d, .int .i64 rot0.q, .int .i64 rot0.w, .int .i64 rot0.a], .int .i64 4]) (by simp [results, Try.results50, go_sem, r0, r1, r2, r3]; exact ⟨rfl, rfl, rfl, rfl⟩) rfl ⟨rfl, below_put4 I7.out.1.2.2.2 (by omega) _ _ _ _⟩
end Go.Proofs.Ytcneohhfnnelgaa
namespace Go.Proofs.Ytcneohhfnnelgaa
open Go Go.RowKit
set_option linter.unusedVariables false

def slotOf (a : Act) (t : Tmp) : Value := a.tmps.getD t undef
theorem slot_put_same {a : Act} {d : Tmp} (v : Value) (h : d < a.tmps.size) : slotOf (a.put (some d) v) d = v := by
  simp [slotOf, Act.put, h]
theorem slot_put_ne {a : Act} {x : Option Tmp} {t : Tmp} (v : Value) (h : x ≠ some t) : slotOf (a.put x v) t = slotOf a t := by
  cases x with
  | none => rfl
  | some d =>
    have hne : d ≠ t := fun e => h (by rw [e])
    simp [slotOf, Act.put, Array.getElem?_setIfInBounds_ne hne]
theorem size_put (a : Act) (x : Option Tmp) (v : Value) : (a.put x v).tmps.size = a.tmps.size := by
  cases x <;> simp [Act.put]
theorem defers_put (a : Act) (x : Option Tmp) (v : Value) : (a.put x v).defers = a.defers := by
  cases x <;> rfl
theorem act_ext {a b : Act} (hs : a.tmps.size = b.tmps.size) (hd : a.defers = b.defers) (h : ∀ t, slotOf a t = slotOf b t) : a = b := by
  cases a with
  | mk ta da =>
    cases b with
    | mk tb db =>
      simp only at hs hd
      subst hd
      congr 1
      apply Array.ext hs
      intro i h1 h2
      have := h i
      simpa [slotOf, h1, h2] using this

/-- what an operation leaves, read in the frame at the end -/
def leftBy (af : Act) (o : Oper) : Value := match o.dst with | some d => slotOf af d | none => undef
def dstsOk (n : Nat) : List Oper → Bool
  | [] => true
  | o :: r => (match o.dst with | some d => decide (d < n) && r.all (fun o' => o'.dst != some d) | none => false) && dstsOk n r
section
variable {P : Program} {ops : Array Oper} {C : World → Prop} {af : Act}
def AllIn (P : Program) (ops : Array Oper) (C : World → Prop) (af : Act) : List Oper → Act → Prop
  | [], a => a = af
  | o :: r, a => YieldsIn P ops C o (leftBy af o) a ∧ AllIn P ops C af r (a.put o.dst (leftBy af o))
theorem AllIn.keep : ∀ {l : List Oper} {a : Act}, AllIn P ops C af l a → af.tmps.size = a.tmps.size ∧ af.defers = a.defers ∧ ∀ t, (∀ o ∈ l, o.dst ≠ some t) → slotOf af t = slotOf a t
  | [], a, h => by
    have : a = af := h
    subst this
    exact ⟨rfl, rfl, fun _ _ => rfl⟩
  | o :: r, a, h => by
    obtain ⟨h1, h2, h3⟩ := AllIn.keep h.2
    refine ⟨by rw [h1, size_put], by rw [h2, defers_put], fun t ht => ?_⟩
    rw [h3 t (fun o' ho' => ht o' (by simp [ho'])), slot_put_ne _ (ht o (by simp))]
theorem allIn_of : ∀ {l : List Oper} {a : Act}, dstsOk a.tmps.size l = true → wpQuiet P ops C (fun a' => a' = af) l a → AllIn P ops C af l a
  | [], a, _, h => h
  | o :: r, a, hd, h => by
    unfold wpQuiet at h
    have hv : ∃ v, YieldsIn P ops C o v a ∧ wpQuiet P ops C (fun a' => a' = af) r (a.put o.dst v) := by
      split at h
      · rename_i hw
        obtain ⟨v, h1, h2⟩ := h
        exact ⟨v, .inl ⟨hw, h1⟩, h2⟩
      · rename_i hw
        exact ⟨undef, .inr ⟨by simpa using hw, rfl⟩, h⟩
    obtain ⟨v, hy, hr⟩ := hv
    simp only [dstsOk, Bool.and_eq_true] at hd
    obtain ⟨hd1, hd2⟩ := hd
    split at hd1
    · rename_i d hod
      simp only [Bool.and_eq_true, decide_eq_true_eq, List.all_eq_true] at hd1
      have hA := allIn_of (l := r) (a := a.put o.dst v) (by rw [size_put]; exact hd2) hr
      have he : leftBy af o = v := by
        unfold leftBy
        rw [hod]
        have := hA.keep.2.2 d (fun o' ho' => by simpa using hd1.2 o' ho')
        simp only [this, hod]
        exact slot_put_same v hd1.1
      refine ⟨by rw [he]; exact hy, by rw [he]; exact hA⟩
    · cases hd1
def accum (af : Act) (l : List Oper) (a : Act) : Act := l.foldl (fun a o => a.put o.dst (leftBy af o)) a
theorem AllIn.get : ∀ {l : List Oper} {a : Act} {i : Nat} {o : Oper}, AllIn P ops C af l a → l[i]? = some o → YieldsIn P ops C o (leftBy af o) (accum af (l.take i) a)
  | [], _, _, _, _, hi => by simp at hi
  | o :: r, a, 0, o', h, hi => by
    have : o = o' := by simpa using hi
    subst this
    exact h.1
  | o :: r, a, i + 1, o', h, hi => by
    have := AllIn.get (i := i) h.2 (by simpa using hi)
    simpa [accum] using this
theorem accum_slot : ∀ (l : List Oper) (a : Act) (t : Tmp), dstsOk a.tmps.size l = true → slotOf (accum af l a) t = if l.any (fun o => o.dst == some t) = true then slotOf af t else slotOf a t
  | [], a, t, _ => by simp [accum]
  | o :: r, a, t, hd => by
    have hd' := hd
    simp only [dstsOk, Bool.and_eq_true] at hd
    have ih := accum_slot r (a.put o.dst (leftBy af o)) t (by rw [size_put]; exact hd.2)
    have e : accum af (o :: r) a = accum af r (a.put o.dst (leftBy af o)) := rfl
    rw [e, ih]
    by_cases hr : r.any (fun o => o.dst == some t) = true
    · simp [hr]
    · rw [if_neg hr]
      by_cases ho : o.dst = some t
      · have h1 := hd.1
        rw [ho] at h1
        simp only [Bool.and_eq_true, decide_eq_true_eq] at h1
        simp only [List.any_cons, ho, beq_self_eq_true, Bool.true_or, if_true]
        rw [slot_put_same _ h1.1]
        simp [leftBy, ho]
      · rw [slot_put_ne _ ho]
        have : (o.dst == some t) = false := by simpa using ho
        simp [List.any_cons, this, hr]
theorem dstsOk_take : ∀ (l : List Oper) (n i : Nat), dstsOk n l = true → dstsOk n (l.take i) = true
  | _, _, 0, _ => by simp [dstsOk]
  | [], _, _ + 1, _ => by simp [dstsOk]
  | o :: r, n, i + 1, h => by
    simp only [dstsOk, Bool.and_eq_true, List.take_succ_cons] at h ⊢
    refine ⟨?_, dstsOk_take r n i h.2⟩
    have h1 := h.1
    split at h1
    · simp only [Bool.and_eq_true, decide_eq_true_eq, List.all_eq_true] at h1 ⊢
      exact ⟨h1.1, fun o' ho' => h1.2 o' (List.mem_of_mem_take ho')⟩
    · cases h1
end
theorem wanted_congr {ops : Array Oper} {o : Oper} {a a' : Act} (h : ∀ t ∈ o.looksAt ops, slotOf a t = slotOf a' t) : Region.wanted o (yielded ops a.tmps) = Region.wanted o (yielded ops a'.tmps) := by
  unfold Region.wanted
  cases hg : o.guard with
  | none => rfl
  | some gw =>
    obtain ⟨g, b⟩ := gw
    simp only
    congr 1
    unfold yielded
    cases hd : (ops[g]?).bind (·.dst) with
    | none => simp
    | some d =>
      have := h d (by unfold Oper.looksAt; rw [hg]; simp [hd])
      simp only [slotOf, Array.getD_eq_getD_getElem?] at this
      have key : ∀ x : Option Value, (match x with | some (.bool b) => some b | _ => none) = (match x.getD undef with | .bool b => some b | _ => none) := by
        intro x
        cases x with
        | none => rfl
        | some v => cases v <;> rfl
      simp only [Option.bind_some]
      refine (key _).trans (Eq.trans ?_ (key _).symm)
      rw [this]

/-- how many have not come up -/
def unl (listed : Array Bool) : Nat := (listed.toList.filter (fun b => !b)).length
theorem unl_list : ∀ (l : List Bool) (i : Nat), l[i]? = some false → ((l.set i true).filter (fun b => !b)).length + 1 = (l.filter (fun b => !b)).length
  | [], i, h => by simp at h
  | b :: l, 0, h => by
    have : b = false := by simpa using h
    subst this
    simp
  | b :: l, i + 1, h => by
    have := unl_list l i (by simpa using h)
    cases b
    · simp only [List.set_cons_succ, List.filter_cons, Bool.not_false, if_true, List.length_cons]; omega
    · simpa using this
theorem unl_set {listed : Array Bool} {i : Nat} (hi : i < listed.size) (h : listed.getD i true = false) : unl (listed.setIfInBounds i true) + 1 = unl listed := by
  unfold unl
  have h' : listed.toList[i]? = some false := by
    have : listed[i] = false := by simpa [Array.getD, hi] using h
    simp [hi, this]
  have := unl_list listed.toList i h'
  simpa using this
theorem unl_rep (n : Nat) : unl (Array.replicate n false) = n := by simp [unl]
theorem unl_done {a b : Nat} : unl (Array.replicate a true ++ Array.replicate b false) = b := by simp [unl]

/-- operation t waits for i -/
def waitsB1 (md : Region.Mode) (ops : Array Oper) (t i : Nat) : Bool :=
  match ops[t]? with
  | some o => o.after.any fun e => Region.binds md e && e.on == i
  | none => false
theorem waitsB1_spec {md : Region.Mode} {ops : Array Oper} {t i : Nat} {o : Oper} (ho : ops[t]? = some o) (h : waitsB1 md ops t i = true) : ∃ e ∈ o.after, Region.binds md e = true ∧ e.on = i := by
  unfold waitsB1 at h
  rw [ho] at h
  obtain ⟨e, he, hb⟩ := Array.any_eq_true'.1 h
  simp only [Bool.and_eq_true, beq_iff_eq] at hb
  exact ⟨e, he, hb.1, hb.2⟩
/-- the region's form: k operations that are quiet, one that makes a block, and a tail -/
def floatB (ops : Array Oper) (k n : Nat) : Bool :=
  Region.noSelect ops && decide (k < ops.size) && dstsOk n (ops.toList.take (k + 1)) &&
  (List.range ops.size).all (fun i => match ops[i]? with | some o => o.after.all (fun e => !Region.binds .any e || decide (e.on < i)) | none => false) &&
  (List.range ops.size).all (fun t => decide (t ≤ k) || (List.range (k + 1)).all (fun i => waitsB1 .any ops t i)) &&
  (List.range k).all (fun i => (List.range (k + 1)).all fun j => match ops[i]?, ops[j]? with
    | some oi, some oj => (match oj.dst with | some d => !(oi.looksAt ops).contains d || (decide (j < i) && waitsB1 .any ops i j) | none => false)
    | _, _ => false) &&
  Region.seqB .any ops (ops.size - (k + 1)) (k + 1) (Array.replicate (k + 1) true ++ Array.replicate (ops.size - (k + 1)) false)

structure Mid (P : Program) (ops : Array Oper) (k : Nat) (a0 af : Act) (W : World) (ds : Tmp) (O : Obj) (listed : Array Bool) (a : Act) (w : World) : Prop where
  size : listed.size = ops.size
  closed : ∀ j oj, ops[j]? = some oj → listed.getD j false = true → ∀ e ∈ oj.after, Region.binds .any e = true → listed.getD e.on false = true
  tail : ∀ t, k < t → t < ops.size → listed.getD t true = false
  ahd : Below W.heap.size W w
  defers : a.defers = a0.defers
  tsize : a.tmps.size = a0.tmps.size
  put : ∀ j o t, j < k → ops[j]? = some o → o.dst = some t → listed.getD j false = true → slotOf a t = slotOf af t
  same : ∀ t, t ≠ ds → (∀ j o, j < k → ops[j]? = some o → listed.getD j false = true → o.dst ≠ some t) → slotOf a t = slotOf a0 t
  spec : listed.getD k false = true → ∃ g, slotOf a ds = .pointer (some ⟨g, 0, none⟩) ∧ W.heap.size ≤ g ∧ w.heap[g]? = some O

section
variable {P : Program} {Q : Exit → Act → World → Prop} {W : World} {a0 af : Act} {l : List Oper} {k : Nat} {ok : Oper} {O : Obj} {ds : Tmp}

theorem getD_tf {listed : Array Bool} {i : Nat} (h : i < listed.size) : listed.getD i true = listed.getD i false := by
  simp [h]
theorem dsts_lt : ∀ (l : List Oper) (n j : Nat) (o : Oper), dstsOk n l = true → l[j]? = some o → ∃ d, o.dst = some d ∧ d < n
  | [], _, _, _, _, h => by simp at h
  | o :: r, n, 0, o', hd, h => by
    have : o = o' := by simpa using h
    subst this
    simp only [dstsOk, Bool.and_eq_true] at hd
    have h1 := hd.1
    split at h1
    · rename_i d hod
      simp only [Bool.and_eq_true, decide_eq_true_eq] at h1
      exact ⟨d, hod, h1.1⟩
    · cases h1
  | o :: r, n, j + 1, o', hd, h => by
    simp only [dstsOk, Bool.and_eq_true] at hd
    exact dsts_lt r n j o' hd.2 (by simpa using h)
theorem dsts_ne : ∀ (l : List Oper) (n i j : Nat) (o o' : Oper) (d : Tmp), dstsOk n l = true → l[i]? = some o → l[j]? = some o' → i ≠ j → o.dst = some d → o'.dst ≠ some d
  | [], _, _, _, _, _, _, _, h, _, _, _ => by simp at h
  | o :: r, n, 0, 0, _, _, _, _, _, _, hne, _ => absurd rfl hne
  | o :: r, n, 0, j + 1, x, y, d, hd, hi, hj, _, hx => by
    have : o = x := by simpa using hi
    subst this
    simp only [dstsOk, Bool.and_eq_true] at hd
    have h1 := hd.1
    rw [hx] at h1
    simp only [Bool.and_eq_true, decide_eq_true_eq, List.all_eq_true] at h1
    have := h1.2 y (List.mem_of_getElem? (show r[j]? = some y by simpa using hj))
    simpa using this
  | o :: r, n, i + 1, 0, x, y, d, hd, hi, hj, _, hx => by
    have : o = y := by simpa using hj
    subst this
    simp only [dstsOk, Bool.and_eq_true] at hd
    intro hy
    have h1 := hd.1
    rw [hy] at h1
    simp only [Bool.and_eq_true, decide_eq_true_eq, List.all_eq_true] at h1
    have := h1.2 x (List.mem_of_getElem? (show r[i]? = some x by simpa using hi))
    simp [hx] at this
  | o :: r, n, i + 1, j + 1, x, y, d, hd, hi, hj, hne, hx => by
    simp only [dstsOk, Bool.and_eq_true] at hd
    exact dsts_ne r n i j x y d hd.2 (by simpa using hi) (by simpa using hj) (by omega) hx

theorem first_no (listed : Array Bool) : ∀ (k : Nat), ¬ (∀ i, i ≤ k → listed.getD i false = true) → ∃ i, i ≤ k ∧ (∀ j, j < i → listed.getD j false = true) ∧ listed.getD i false = false
  | 0, h => ⟨0, Nat.le_refl _, fun j hj => absurd hj (Nat.not_lt_zero _), by
      cases hc : listed.getD 0 false
      · rfl
      · exact absurd (fun i hi => by obtain rfl : i = 0 := by omega
                                     exact hc) h⟩
  | k + 1, h => by
    by_cases hk : ∀ i, i ≤ k → listed.getD i false = true
    · refine ⟨k + 1, Nat.le_refl _, fun j hj => hk j (by omega), ?_⟩
      cases hc : listed.getD (k + 1) false
      · rfl
      · refine absurd (fun i hi => ?_) h
        by_cases hik : i = k + 1
        · rw [hik]; exact hc
        · exact hk i (by omega)
    · obtain ⟨i, h1, h2, h3⟩ := first_no listed k hk
      exact ⟨i, by omega, h2, h3⟩
theorem wp_region_float {id : Nat} (k : Nat) (ok : Oper) (O : Obj) (ds : Tmp) (af : Act) (hm : P.follows .mixedOrders = true) (hk : l[k]? = some ok) (hds : ok.dst = some ds) (hg : ok.guard = none)
    (hB : floatB l.toArray k a0.tmps.size = true)
    (hsp : ∀ (e : Operand → Value) (w : World), (execOp e ok).run P w = .ok (.value (.pointer (some ⟨w.heap.size, 0, none⟩))) (w.alloc O))
    (hwalk : ∀ V : World, Below W.heap.size W V → wpQuiet P l.toArray (fun w' => ∃ x : Past V, w' = x.w) (fun a' => a' = af) (l.take k) a0)
    (htail : ∀ (g : Nat) (w' : World), W.heap.size ≤ g → Below W.heap.size W w' → w'.heap[g]? = some O → wpList P l.toArray Q (l.drop (k + 1)) (af.put (some ds) (.pointer (some ⟨g, 0, none⟩))) w') :
    (Code.region id l.toArray true).wp P Q a0 W := by
  unfold floatB at hB
  simp only [Bool.and_eq_true, decide_eq_true_eq, List.all_eq_true, List.mem_range, Bool.or_eq_true] at hB
  obtain ⟨⟨⟨⟨⟨⟨hsel, hks⟩, hdst⟩, hback⟩, htl⟩, hdep⟩, hseq⟩ := hB
  have hsz : l.toArray.size = l.length := by simp
  have hkl : k < l.length := by rw [← hsz]; exact hks
  have hdst' : dstsOk a0.tmps.size (l.take (k + 1)) = true := hdst
  have hdk : dstsOk a0.tmps.size (l.take k) = true := by
    have := dstsOk_take _ _ k hdst'
    rwa [List.take_take, Nat.min_eq_left (by omega)] at this
  have hall : ∀ V : World, Below W.heap.size W V → AllIn P l.toArray (fun w' => ∃ x : Past V, w' = x.w) af (l.take k) a0 := fun V hV => allIn_of hdk (hwalk V hV)
  have hA0 := hall W (Below.refl _ _)
  have hget : ∀ i, i < k + 1 → (l.take (k + 1))[i]? = l[i]? := fun i hi => by rw [List.getElem?_take]; simp [hi]
  have hafs : ∀ t, (∀ j o, j < k → l[j]? = some o → o.dst ≠ some t) → slotOf af t = slotOf a0 t := fun t ht => hA0.keep.2.2 t (fun o ho => by
    obtain ⟨j, hj⟩ := List.getElem?_of_mem ho
    rw [List.getElem?_take] at hj
    split at hj
    · exact ht j o (by assumption) hj
    · cases hj)
  have hback' : ∀ i o, l[i]? = some o → ∀ e ∈ o.after, Region.binds .any e = true → e.on < i := by
    intro i o hi e he hb
    have hil : i < l.length := (List.getElem?_eq_some_iff.1 hi).1
    have h1 := hback i (by rw [hsz]; exact hil)
    have hi' : l.toArray[i]? = some o := by simpa using hi
    rw [hi'] at h1
    have h2 := Array.all_eq_true_iff_forall_mem.1 h1 e he
    simpa [hb] using h2
  have hdep' : ∀ i o j oj d, i < k → l[i]? = some o → j ≤ k → l[j]? = some oj → oj.dst = some d → d ∈ o.looksAt l.toArray → j < i ∧ waitsB1 .any l.toArray i j = true := by
    intro i o j oj d hi ho hj hoj hd hmem
    have h1 := hdep i hi j (by omega)
    have ho' : l.toArray[i]? = some o := by simpa using ho
    have hoj' : l.toArray[j]? = some oj := by simpa using hoj
    rw [ho', hoj'] at h1
    simp only [hd] at h1
    have hc : (o.looksAt l.toArray).contains d = true := by simpa using hmem
    rw [hc] at h1
    simpa using h1
  have dlt : ∀ i o, i ≤ k → l[i]? = some o → ∃ d, o.dst = some d ∧ d < a0.tmps.size := fun i o hi ho => dsts_lt _ _ i o hdst' (by rw [hget i (by omega)]; exact ho)
  have dne : ∀ i j o oj t, i ≤ k → j ≤ k → l[i]? = some o → l[j]? = some oj → i ≠ j → oj.dst = some t → o.dst ≠ some t := fun i j o oj t hi hj ho hoj hne hd => dsts_ne _ _ j i oj o t hdst' (by rw [hget j (by omega)]; exact hoj) (by rw [hget i (by omega)]; exact ho) (Ne.symm hne) hd
  have fin : ∀ (listed : Array Bool) (a : Act) (w : World), Mid P l.toArray k a0 af W ds O listed a w → (∀ i, i ≤ k → listed.getD i false = true) → ∀ fuel, unl listed = fuel → wpAny P .any l.toArray Q fuel listed a w := by
    intro listed a w m hdone fuel hu
    have hLH : listed = Array.replicate (k + 1) true ++ Array.replicate (l.toArray.size - (k + 1)) false := by
      apply Array.ext
      · simp [m.size]; omega
      · intro i h1 h2
        rcases Nat.lt_or_ge k i with h | h
        · have := m.tail i h (by rw [← m.size]; exact h1)
          rw [Array.getElem_append_right (by simp; omega)]
          simpa [h1] using this
        · have := hdone i h
          rw [Array.getElem_append_left (by simp; omega)]
          simpa [h1] using this
    obtain ⟨g, hg1, hg2, hg3⟩ := m.spec (hdone k (Nat.le_refl _))
    have hae : a = af.put (some ds) (.pointer (some ⟨g, 0, none⟩)) := by
      have hs0 := hA0.keep
      refine act_ext ?_ ?_ ?_
      · rw [size_put, m.tsize, hs0.1]
      · rw [defers_put, m.defers, hs0.2.1]
      · intro t
        by_cases ht : t = ds
        · subst ht
          obtain ⟨d, h1, h2⟩ := dlt k ok (Nat.le_refl _) hk
          rw [hds] at h1
          cases h1
          rw [hg1, slot_put_same _ (by rw [hs0.1]; exact h2)]
        · rw [slot_put_ne _ (fun e => ht (by cases e; rfl))]
          by_cases hex : ∃ j o, j < k ∧ l[j]? = some o ∧ o.dst = some t
          · obtain ⟨j, o, hj, ho, hd⟩ := hex
            exact m.put j o t hj (by simpa using ho) hd (hdone j (by omega))
          · rw [m.same t ht (fun j o hj ho _ hd => hex ⟨j, o, hj, by simpa using ho, hd⟩), hafs t (fun j o hj ho hd => hex ⟨j, o, hj, ho, hd⟩)]
    have hfu : fuel = (l.drop (k + 1)).length := by
      rw [← hu, hLH, unl_done]
      simp
    rw [hfu, hae]
    refine wpAny_of_seq (l.drop (k + 1)) (k + 1) listed _ w (fun j => by simp [List.getElem?_drop]) ?_ (htail g w hg2 m.ahd hg3)
    rw [hLH]
    have : (l.drop (k + 1)).length = l.toArray.size - (k + 1) := by simp
    rw [this]
    exact hseq
  have main : ∀ (fuel : Nat) (listed : Array Bool) (a : Act) (w : World), Mid P l.toArray k a0 af W ds O listed a w → unl listed = fuel → wpAny P .any l.toArray Q fuel listed a w := by
    intro fuel
    induction fuel with
    | zero =>
      intro listed a w m hu
      by_cases hdone : ∀ i, i ≤ k → listed.getD i false = true
      · exact fin listed a w m hdone _ hu
      · obtain ⟨i, hi, _, hun⟩ := first_no listed k hdone
        have := unl_set (listed := listed) (i := i) (by rw [m.size]; omega) (by rw [getD_tf (by rw [m.size]; omega)]; exact hun)
        omega
    | succ fuel ih =>
      intro listed a w m hu
      by_cases hdone : ∀ i, i ≤ k → listed.getD i false = true
      · exact fin listed a w m hdone _ hu
      · obtain ⟨i0, hi0, hpre, hun0⟩ := first_no listed k hdone
        refine ⟨fun h0 => ?_, fun i hi => ?_⟩
        · have hr : i0 ∈ Region.ready .any l.toArray listed := by
            rw [mem_ready]
            refine ⟨by rw [getD_tf (by rw [m.size]; omega)]; exact hun0, l[i0]'(by omega), by simp, fun e he hb => hpre _ ?_⟩
            exact hback' i0 _ (by simp) e he hb
          rw [h0] at hr
          cases hr
        · have hi' := hi
          obtain ⟨hun, o, ho, hw⟩ := mem_ready.1 hi
          have hil : i < l.length := by
            have := (Array.getElem?_eq_some_iff.1 ho).1
            simpa using this
          have hol : l[i]? = some o := by simpa using ho
          have hun' : unl (listed.setIfInBounds i true) = fuel := by
            have := unl_set (listed := listed) (i := i) (by rw [m.size]; omega) hun
            omega
          have hik : i ≤ k := by
            rcases Nat.lt_or_ge k i with h | h
            · have h1 := (htl i (by omega)).resolve_left (by omega) i0 (by omega)
              obtain ⟨e, he, hb, heo⟩ := waitsB1_spec ho h1
              have h2 := hw e he hb
              rw [heo, hun0] at h2
              cases h2
            · exact h
          have hclosed : ∀ j oj, l.toArray[j]? = some oj → (listed.setIfInBounds i true).getD j false = true → ∀ e ∈ oj.after, Region.binds .any e = true → (listed.setIfInBounds i true).getD e.on false = true := by
            intro j oj hj hl e he hb
            by_cases hji : i = j
            · subst hji
              rw [ho] at hj
              cases hj
              exact getD_set_true (hw e he hb)
            · rw [getD_set_ne false hji] at hl
              exact getD_set_true (m.closed j oj hj hl e he hb)
          have htail' : ∀ t, k < t → t < l.toArray.size → (listed.setIfInBounds i true).getD t true = false := fun t ht ht' => by rw [getD_set_ne true (by omega)]; exact m.tail t ht ht'
          by_cases hikk : i = k
          · subst hikk
            have hoo : o = ok := by rw [hk] at hol; exact (Option.some.inj hol).symm
            subst hoo
            have hdlt := dlt i o hik hol
            unfold wpOp
            simp only [ho]
            rw [if_pos (by unfold Region.wanted; rw [hg])]
            refine .inl ?_
            unfold Oper.wp
            rw [hsp]
            show wpAny P .any l.toArray Q fuel (listed.setIfInBounds i true) (a.put o.dst (.pointer (some ⟨w.heap.size, 0, none⟩))) (w.alloc O)
            refine ih _ _ _ ⟨by simp [m.size], hclosed, htail', m.ahd.alloc m.ahd.size _, by rw [defers_put]; exact m.defers, by rw [size_put]; exact m.tsize, ?_, ?_, ?_⟩ hun'
            · intro j oj t hj hoj hdt hl
              rw [getD_set_ne false (by omega)] at hl
              rw [slot_put_ne _ (dne i j o oj t hik (by omega) hol (by simpa using hoj) (by omega) hdt)]
              exact m.put j oj t hj hoj hdt hl
            · intro t ht hno
              rw [slot_put_ne _ (by rw [hds]; intro e; cases e; exact ht rfl)]
              exact m.same t ht (fun j oj hj hoj hl => hno j oj hj hoj (getD_set_true hl))
            · intro _
              refine ⟨w.heap.size, ?_, m.ahd.size, ?_⟩
              · rw [hds]
                obtain ⟨d, h1, h2⟩ := hdlt
                rw [hds] at h1
                cases h1
                exact slot_put_same _ (by rw [m.tsize]; exact h2)
              · show (w.heap.push O)[w.heap.size]? = _
                simp
          · have hik' : i < k := by omega
            obtain ⟨d, hod, hdlt⟩ := dlt i o hik hol
            have hlook : ∀ t ∈ o.looksAt l.toArray, slotOf a t = slotOf (accum af ((l.take k).take i) a0) t := by
              intro t ht
              rw [accum_slot _ _ _ (dstsOk_take _ _ _ hdk)]
              by_cases hex : ∃ j oj, j ≤ k ∧ l[j]? = some oj ∧ oj.dst = some t
              · obtain ⟨j, oj, hj, hoj, hdt⟩ := hex
                obtain ⟨hji, hwt⟩ := hdep' i o j oj t hik' hol hj hoj hdt ht
                obtain ⟨e, he, hb, heo⟩ := waitsB1_spec ho hwt
                have hlj := hw e he hb
                rw [heo] at hlj
                rw [m.put j oj t (by omega) (by simpa using hoj) hdt hlj, if_pos]
                rw [List.any_eq_true]
                refine ⟨oj, ?_, by simp [hdt]⟩
                refine List.mem_of_getElem? (i := j) ?_
                rw [List.getElem?_take, List.getElem?_take]
                simp only [hji, show j < k by omega, if_true, hoj]
              · rw [m.same t (fun e => hex ⟨k, ok, Nat.le_refl _, hk, by rw [e]; exact hds⟩) (fun j oj hj hoj _ hdt => hex ⟨j, oj, by omega, by simpa using hoj, hdt⟩), if_neg]
                intro hany
                rw [List.any_eq_true] at hany
                obtain ⟨oj, hmem, hdt⟩ := hany
                obtain ⟨j, hj⟩ := List.getElem?_of_mem (List.mem_of_mem_take hmem)
                rw [List.getElem?_take] at hj
                split at hj
                · exact hex ⟨j, oj, by omega, hj, by simpa using hdt⟩
                · cases hj
            have hy := (hall w m.ahd).get (i := i) (o := o) (by rw [List.getElem?_take]; simp [hik', hol])
            have he : execOp a.eval o = execOp (accum af ((l.take k).take i) a0).eval o := execOp_congr o (fun cs b => Region.noSelect_spec hsel i o cs b ho) (fun x hx => by
              cases x with
              | tmp t => exact hlook t (List.mem_append_left _ (List.mem_filterMap.2 ⟨.tmp t, by simpa using hx, rfl⟩))
              | _ => rfl)
            have hy' := hy.of_same he (wanted_congr hlook)
            refine wpOp_of_qOp (C := fun w' => ∃ x : Past w, w' = x.w) ⟨⟨w, Below.refl _ _⟩, rfl⟩ (fun a' w' hx ha => ?_) (hy'.qOp ho (K := fun a' => a' = a.put o.dst (leftBy af o)) rfl)
            obtain ⟨x, rfl⟩ := hx
            subst ha
            refine ih _ _ _ ⟨by simp [m.size], hclosed, htail', m.ahd.trans (x.far.mono m.ahd.size), by rw [defers_put]; exact m.defers, by rw [size_put]; exact m.tsize, ?_, ?_, ?_⟩ hun'
            · intro j oj t hj hoj hdt hl
              by_cases hji : i = j
              · subst hji
                rw [ho] at hoj
                cases hoj
                have : leftBy af o = slotOf af t := by simp [leftBy, hdt]
                rw [hdt, this]
                rw [hod] at hdt
                cases hdt
                exact slot_put_same _ (by rw [m.tsize]; exact hdlt)
              · rw [getD_set_ne false hji] at hl
                rw [slot_put_ne _ (dne i j o oj t hik (by omega) hol (by simpa using hoj) hji hdt)]
                exact m.put j oj t hj hoj hdt hl
            · intro t ht hno
              have h1 : (listed.setIfInBounds i true).getD i false = true := by
                have : i < listed.size := by rw [m.size]; omega
                simp [this]
              rw [slot_put_ne _ (hno i o hik' ho h1)]
              exact m.same t ht (fun j oj hj hoj hl => hno j oj hj hoj (getD_set_true hl))
            · intro hl
              rw [getD_set_ne false hikk] at hl
              obtain ⟨g, h1, h2, h3⟩ := m.spec hl
              refine ⟨g, ?_, h2, ?_⟩
              · rw [slot_put_ne _ (dne i k o ok ds hik (Nat.le_refl _) hol hk hikk hds)]
                exact h1
              · rw [x.far.block g (Array.getElem?_eq_some_iff.1 h3).1]
                exact h3
  refine wp_region_any hm (main _ _ a0 _ ?_ (by rw [unl_rep]))
  refine ⟨by simp, ?_, ?_, (Below.refl _ _).drew, rfl, rfl, ?_, ?_, ?_⟩
  · intro j oj hj h
    rw [getD_replicate_false] at h
    cases h
  · intro t _ ht
    have : (Array.replicate l.toArray.size false).getD t true = false := by simp at ht; simp [ht]
    exact this
  · intro j o t _ _ _ h
    rw [getD_replicate_false] at h
    cases h
  · intro t _ _; rfl
  · intro h
    rw [getD_replicate_false] at h
    cases h
end
end Go.Proofs.Ytcneohhfnnelgaa
namespace Go.Proofs.Ytcneohhfnnelgaa
open Go.RowKit
set_option linter.unusedVariables false

set_option maxHeartbeats 2000000 in
set_option maxRecDepth 100000 in
theorem Step_go (m : Mot) (s : Rot) (vd vq ld : Int) (w : World) (hC : Dv.chkB m = true) (h1 : Dv.rotB s = true) (h2 : upB 1073741824 [vd, vq] = true) (h3 : upB 68719476736 [ld] = true) (ht : upB 68719476736 [Dv.tq m s.d s.q] = true) (b : Bool) (hb2 : Dv.rotB (Dv.stN m s vd vq ld) = b) :
    Calls Try.prog 50 #[.agg #[.int .i64 m.r, .int .i64 m.ld, .int .i64 m.lq, .int .i64 m.fx, .int .i64 m.po, .int .i64 m.mi, .int .i64 m.sp, .int .i64 m.dr, .int .i64 m.cu, .int .i64 m.fa], .agg #[.int .i64 s.d, .int .i64 s.q, .int .i64 s.w, .int .i64 s.a], .int .i64 vd, .int .i64 vq, .int .i64 ld] w fun e w' => e = .returned (.tuple #[.agg #[.int .i64 (if b = true then Dv.stN m s vd vq ld else rot0).d, .int .i64 (if b = true then Dv.stN m s vd vq ld else rot0).q, .int .i64 (if b = true then Dv.stN m s vd vq ld else rot0).w, .int .i64 (if b = true then Dv.stN m s vd vq ld else rot0).a], .int .i64 (if b = true then 0 else 4)]) ∧ Below w.heap.size w w' := by
  have HK := Lib.hid (Dv.chkB_iff.1 hC)
  obtain ⟨q1, q2, q3, q4⟩ := Dv.rotB_iff.1 h1
  go_enter Try.func50, Try.ntmps50
  go_wp2_with fail
  refine (Check_yes m _ hC).mono ?_
  rintro e w1 ⟨rfl, hb1⟩
  have I1 : Hid (StI w m s w1) := Lib.hid (after3 hb1)
  clear hb1
  obtain ⟨s0, s1, s2, s3⟩ := I1.out.s
  go_wp2_with fail
  refine (valid_c s _).mono ?_
  rintro e w2 ⟨rfl, hb2⟩
  have I2 := Lib.hid (I1.out.below hb2)
  clear hb2 s0 s1 s2 s3
  go_wp2_with fail
  refine (up2w _ vd vq _ _ (by simp) (by omega) (by omega)).mono ?_
  rintro e w3 ⟨rfl, hb3⟩
  have I3 := Lib.hid (I2.out.below hb3)
  clear hb3
  go_wp2_with fail
  refine (up1w _ ld _ _ (by simp) (by omega) (by omega)).mono ?_
  rintro e w4 ⟨rfl, hb4⟩
  have I4 := Lib.hid (I3.out.below hb4)
  clear hb4
  obtain ⟨c0, c1, c2, c3, c4, c5, c6, c7, c8, c9⟩ := I4.out.m
  go_wp2_with fail
  refine gen_world (fun W => StI w m s W ∧ Blk W w4.heap.size 110 m.cs) ⟨I4.out.alloc _, Blk.new' _ _ _⟩ ?_
  rintro w5 ⟨i5, g5⟩
  have I5 := Lib.hid (And.intro i5 g5)
  obtain ⟨s0, s1, s2, s3⟩ := I5.out.1.s
  have z1 := I5.out.2.lt
  have z2 := I5.out.1.lt
  have z3 : w.heap.size + 1 < w5.heap.size := by omega
  clear c0 c1 c2 c3 c4 c5 c6 c7 c8 c9 i5 g5
  obtain ⟨c0, c1, c2, c3, c4, c5, c6, c7, c8, c9⟩ := motOf I5.out.2
  refine wp_region_past (by kernel_rfl) (by kernel_rfl) ?_
  repeat (go_big_quiet_step (first | (go_at_call 69; exact past_same (div_c _ _ _ (by omega) (by omega) (by omega))) | (go_at_call 100; exact past_below (torque_c m s.d s.q _ HK.out q1 q2))))
  refine wpQuiet_nil ?_
  intro x
  have I6 := Lib.hid (And.intro (I5.out.1.below x.far) (I5.out.2.below x.far I5.out.2.lt))
  generalize x.w = w6 at I6 ⊢
  clear c0 c1 c2 c3 c4 c5 c6 c7 c8 c9 s0 s1 s2 s3 z1 z2 z3
  go_wp2_with fail
  refine (up1w _ (Dv.tq m s.d s.q) _ _ (by simp) (by omega) (by omega)).mono ?_
  rintro e w7 ⟨rfl, hb7⟩
  have I7 := Lib.hid (And.intro (I6.out.1.below hb7) (I6.out.2.below hb7 I6.out.2.lt))
  clear hb7
  obtain ⟨s0, s1, s2, s3⟩ := I7.out.1.s
  obtain ⟨c0, c1, c2, c3, c4, c5, c6, c7, c8, c9⟩ := motOf I7.out.2
  have z1 := I7.out.2.lt
  have z2 := I7.out.1.lt
  have z3 : w.heap.size + 1 < w7.heap.size := by omega
  go_wp2_with fail
  refine (inner_c m s.d s.q (s.w / 1000) _ HK.out q1 q2 (by omega)).mono ?_
  rintro e w8 ⟨rfl, hb8⟩
  have I8 := Lib.hid (And.intro (I7.out.1.below hb8) (I7.out.2.below hb8 I7.out.2.lt))
  clear hb8 c0 c1 c2 c3 c4 c5 c6 c7 c8 c9 s0 s1 s2 s3 z1 z2 z3
  go_wp2_with fail
  refine wp_region_float 58 _ (.cells #[.int .i64 0, .int .i64 0, .int .i64 0, .int .i64 0] 57) 18 ?af (by kernel_rfl) rfl rfl rfl (by kernel_rfl) (fun _ _ => by kernel_rfl) ?walk ?tail
  case walk =>
    intro V hV
    have IV := Lib.hid (And.intro (I8.out.1.below hV) (I8.out.2.below hV I8.out.2.lt))
    obtain ⟨s0, s1, s2, s3⟩ := IV.out.1.s
    obtain ⟨c0, c1, c2, c3, c4, c5, c6, c7, c8, c9⟩ := motOf IV.out.2
    have z1 := IV.out.2.lt
    have z2 := IV.out.1.lt
    have z3 : w.heap.size + 1 < V.heap.size := by omega
    obtain ⟨p1, p2, p3, p4, p5, p6, p7, p8⟩ := Dv.st_prods HK.out h1 (upB2.1 h2) (upB1.1 h3)
    have k1 := HK.out.2.1
    have k2 := HK.out.2.2.1
    have p9 := Dv.tq_bd HK.out q1 q2
    have p10 := Dv.in_bd HK.out q1 q2 p1
    have p11 := upB2.1 h2
    have p12 := upB1.1 h3
    have eand := i64_and65535 (s.a + s.w * m.mi * 10430378 / 1000000000000)
    simp only [List.take_succ_cons, List.take_zero]
    repeat (go_big_quiet_step ((go_at_call 69; exact past_same (div_c _ _ _ (by omega) (by omega) (by omega)))))
    refine wpQuiet_nil ?_
    rfl
  case tail =>
    intro g w9 hg hb9 hcell
    have H9 : Blk w9 g 57 rot0.cs := hcell
    have I9 := Lib.hid (And.intro (I8.out.1.below hb9) (I8.out.2.below hb9 I8.out.2.lt))
    obtain ⟨g0, g1, g2, g3⟩ := rotOf H9
    obtain ⟨f0, f1, f2, f3⟩ := freeOf H9
    simp only [List.drop_succ_cons, List.drop_zero]
    simp only [Act.put, List.setIfInBounds_toArray, List.set_cons_zero, List.set_cons_succ]
    go_wp2_with fail
    refine (valid_c (Dv.stN m s vd vq ld) _).mono ?_
    rintro e w10 ⟨rfl, hb10⟩
    have HN := (((((H9.setCell 0 (.int .i64 (Dv.stN m s vd vq ld).d)).setCell 1 (.int .i64 (Dv.stN m s vd vq ld).q)).setCell 2 (.int .i64 (Dv.stN m s vd vq ld).w)).setCell 3 (.int .i64 (Dv.stN m s vd vq ld).a)))
    have HN2 : Blk w10 g 57 (Dv.stN m s vd vq ld).cs := HN.below hb10 HN.lt
    have hgw : w.heap.size + 1 + 1 < g := by have := I8.out.1.lt; omega
    have HR : Blk w10 (w.heap.size + 1 + 1) 57 rot0.cs := ((((I9.out.1.2.2.1.setCell_ne (p := ⟨g, 0, none⟩) (by simp; omega) _).setCell_ne (p := ⟨g, 1, none⟩) (by simp; omega) _).setCell_ne (p := ⟨g, 2, none⟩) (by simp; omega) _).setCell_ne (p := ⟨g, 3, none⟩) (by simp; omega) _).below hb10 (by simp; have := I9.out.1.lt; omega)
    have HB := Lib.hid ((below_put4 I9.out.1.2.2.2 (by omega) _ _ _ _ : Below w.heap.size w ((((w9.setCell ⟨g, 0, none⟩ (.int .i64 (Dv.stN m s vd vq ld).d)).setCell ⟨g, 1, none⟩ (.int .i64 (Dv.stN m s vd vq ld).q)).setCell ⟨g, 2, none⟩ (.int .i64 (Dv.stN m s vd vq ld).w)).setCell ⟨g, 3, none⟩ (.int .i64 (Dv.stN m s vd vq ld).a))).trans (hb10.mono (by simp; have := I9.out.1.lt; omega)))
    clear g0 g1 g2 g3 f0 f1 f2 f3 hb10 HN
    obtain ⟨g0, g1, g2, g3⟩ := rotOf HN2
    obtain ⟨r0, r1, r2, r3⟩ := rotOf HR
    obtain ⟨f0, f1, f2, f3⟩ := freeOf HR
    cases b
    · go_wp2
      exact bodyPost_ret (v := .tuple #[.agg #[.int .i64 rot0.d, .int .i64 rot0.q, .int .i64 rot0.w, .int .i64 rot0.a], .int .i64 4]) (by simp [results, Try.results50, go_sem, r0, r1, r2, r3]; exact ⟨rfl, rfl, rfl, rfl⟩) rfl ⟨rfl, below_put4 HB.out (by omega) _ _ _ _⟩
    · go_wp2
      refine bodyPost_ret (v := .tuple #[.agg #[.int .i64 (Dv.stN m s vd vq ld).d, .int .i64 (Dv.stN m s vd vq ld).q, .int .i64 (Dv.stN m s vd vq ld).w, .int .i64 (Dv.stN m s vd vq ld).a], .int .i64 0]) (by simp [results, Try.results50, go_sem, r0, r1, r2, r3]) rfl ⟨rfl, below_put4 HB.out (by omega) _ _ _ _⟩
end Go.Proofs.Ytcneohhfnnelgaa
namespace Go.Proofs.Ytcneohhfnnelgaa
open Go Go.RowKit
set_option linter.unusedVariables false
/-- the region's form: k operations that are quiet, and a tail -/
def headB (ops : Array Oper) (k n : Nat) : Bool :=
  Region.noSelect ops && decide (k < ops.size) && dstsOk n (ops.toList.take k) &&
  (List.range ops.size).all (fun i => match ops[i]? with | some o => o.after.all (fun e => !Region.binds .any e || decide (e.on < i)) | none => false) &&
  (List.range ops.size).all (fun t => decide (t < k) || (List.range k).all (fun i => waitsB1 .any ops t i)) &&
  (List.range k).all (fun i => (List.range k).all fun j => match ops[i]?, ops[j]? with
    | some oi, some oj => (match oj.dst with | some d => !(oi.looksAt ops).contains d || (decide (j < i) && waitsB1 .any ops i j) | none => false)
    | _, _ => false) &&
  Region.seqB .any ops (ops.size - k) k (Array.replicate k true ++ Array.replicate (ops.size - k) false)

structure Mid0 (P : Program) (ops : Array Oper) (k : Nat) (a0 af : Act) (W : World) (listed : Array Bool) (a : Act) (w : World) : Prop where
  size : listed.size = ops.size
  closed : ∀ j oj, ops[j]? = some oj → listed.getD j false = true → ∀ e ∈ oj.after, Region.binds .any e = true → listed.getD e.on false = true
  tail : ∀ t, k ≤ t → t < ops.size → listed.getD t true = false
  ahd : Below W.heap.size W w
  defers : a.defers = a0.defers
  tsize : a.tmps.size = a0.tmps.size
  put : ∀ j o t, j < k → ops[j]? = some o → o.dst = some t → listed.getD j false = true → slotOf a t = slotOf af t
  same : ∀ t, (∀ j o, j < k → ops[j]? = some o → listed.getD j false = true → o.dst ≠ some t) → slotOf a t = slotOf a0 t
section
variable {P : Program} {Q : Exit → Act → World → Prop} {W : World} {a0 af : Act} {l : List Oper} {k : Nat}
theorem first_no' (listed : Array Bool) (k : Nat) (h : ¬ (∀ i, i < k → listed.getD i false = true)) : ∃ i, i < k ∧ (∀ j, j < i → listed.getD j false = true) ∧ listed.getD i false = false := by
  cases k with
  | zero => exact absurd (fun i hi => absurd hi (Nat.not_lt_zero _)) h
  | succ k =>
    obtain ⟨i, h1, h2, h3⟩ := first_no listed k (fun hk => h (fun i hi => hk i (by omega)))
    exact ⟨i, by omega, h2, h3⟩
theorem wp_region_head {id : Nat} (k : Nat) (af : Act) (hm : P.follows .mixedOrders = true)
    (hB : headB l.toArray k a0.tmps.size = true)
    (hwalk : ∀ V : World, Below W.heap.size W V → wpQuiet P l.toArray (fun w' => ∃ x : Past V, w' = x.w) (fun a' => a' = af) (l.take k) a0)
    (htail : ∀ (w' : World), Below W.heap.size W w' → wpList P l.toArray Q (l.drop k) af w') :
    (Code.region id l.toArray true).wp P Q a0 W := by
  unfold headB at hB
  simp only [Bool.and_eq_true, decide_eq_true_eq, List.all_eq_true, List.mem_range, Bool.or_eq_true] at hB
  obtain ⟨⟨⟨⟨⟨⟨hsel, hks⟩, hdst⟩, hback⟩, htl⟩, hdep⟩, hseq⟩ := hB
  have hsz : l.toArray.size = l.length := by simp
  have hkl : k < l.length := by rw [← hsz]; exact hks
  have hdk : dstsOk a0.tmps.size (l.take k) = true := hdst
  have hall : ∀ V : World, Below W.heap.size W V → AllIn P l.toArray (fun w' => ∃ x : Past V, w' = x.w) af (l.take k) a0 := fun V hV => allIn_of hdk (hwalk V hV)
  have hA0 := hall W (Below.refl _ _)
  have hget : ∀ i, i < k → (l.take k)[i]? = l[i]? := fun i hi => by rw [List.getElem?_take]; simp [hi]
  have hafs : ∀ t, (∀ j o, j < k → l[j]? = some o → o.dst ≠ some t) → slotOf af t = slotOf a0 t := fun t ht => hA0.keep.2.2 t (fun o ho => by
    obtain ⟨j, hj⟩ := List.getElem?_of_mem ho
    rw [List.getElem?_take] at hj
    split at hj
    · exact ht j o (by assumption) hj
    · cases hj)
  have hback' : ∀ i o, l[i]? = some o → ∀ e ∈ o.after, Region.binds .any e = true → e.on < i := by
    intro i o hi e he hb
    have hil : i < l.length := (List.getElem?_eq_some_iff.1 hi).1
    have h1 := hback i (by rw [hsz]; exact hil)
    have hi' : l.toArray[i]? = some o := by simpa using hi
    rw [hi'] at h1
    have h2 := Array.all_eq_true_iff_forall_mem.1 h1 e he
    simpa [hb] using h2
  have hdep' : ∀ i o j oj d, i < k → l[i]? = some o → j < k → l[j]? = some oj → oj.dst = some d → d ∈ o.looksAt l.toArray → j < i ∧ waitsB1 .any l.toArray i j = true := by
    intro i o j oj d hi ho hj hoj hd hmem
    have h1 := hdep i hi j (by omega)
    have ho' : l.toArray[i]? = some o := by simpa using ho
    have hoj' : l.toArray[j]? = some oj := by simpa using hoj
    rw [ho', hoj'] at h1
    simp only [hd] at h1
    have hc : (o.looksAt l.toArray).contains d = true := by simpa using hmem
    rw [hc] at h1
    simpa using h1
  have dlt : ∀ i o, i < k → l[i]? = some o → ∃ d, o.dst = some d ∧ d < a0.tmps.size := fun i o hi ho => dsts_lt _ _ i o hdk (by rw [hget i (by omega)]; exact ho)
  have dne : ∀ i j o oj t, i < k → j < k → l[i]? = some o → l[j]? = some oj → i ≠ j → oj.dst = some t → o.dst ≠ some t := fun i j o oj t hi hj ho hoj hne hd => dsts_ne _ _ j i oj o t hdk (by rw [hget j (by omega)]; exact hoj) (by rw [hget i (by omega)]; exact ho) (Ne.symm hne) hd
  have fin : ∀ (listed : Array Bool) (a : Act) (w : World), Mid0 P l.toArray k a0 af W listed a w → (∀ i, i < k → listed.getD i false = true) → ∀ fuel, unl listed = fuel → wpAny P .any l.toArray Q fuel listed a w := by
    intro listed a w m hdone fuel hu
    have hLH : listed = Array.replicate k true ++ Array.replicate (l.toArray.size - k) false := by
      apply Array.ext
      · simp [m.size]; omega
      · intro i h1 h2
        rcases Nat.lt_or_ge i k with h' | h
        rotate_left 1
        · have := m.tail i h (by rw [← m.size]; exact h1)
          rw [Array.getElem_append_right (by simp; omega)]
          simpa [h1] using this
        · have := hdone i h'
          rw [Array.getElem_append_left (by simp; omega)]
          simpa [h1] using this
    have hae : a = af := by
      have hs0 := hA0.keep
      refine act_ext ?_ ?_ ?_
      · rw [m.tsize, hs0.1]
      · rw [m.defers, hs0.2.1]
      · intro t
        by_cases hex : ∃ j o, j < k ∧ l[j]? = some o ∧ o.dst = some t
        · obtain ⟨j, o, hj, ho, hd⟩ := hex
          exact m.put j o t hj (by simpa using ho) hd (hdone j hj)
        · rw [m.same t (fun j o hj ho _ hd => hex ⟨j, o, hj, by simpa using ho, hd⟩), hafs t (fun j o hj ho hd => hex ⟨j, o, hj, ho, hd⟩)]
    have hfu : fuel = (l.drop k).length := by
      rw [← hu, hLH, unl_done]
      simp
    rw [hfu, hae]
    refine wpAny_of_seq (l.drop k) k listed _ w (fun j => by simp [List.getElem?_drop]) ?_ (htail w m.ahd)
    rw [hLH]
    have : (l.drop k).length = l.toArray.size - k := by simp
    rw [this]
    exact hseq
  have main : ∀ (fuel : Nat) (listed : Array Bool) (a : Act) (w : World), Mid0 P l.toArray k a0 af W listed a w → unl listed = fuel → wpAny P .any l.toArray Q fuel listed a w := by
    intro fuel
    induction fuel with
    | zero =>
      intro listed a w m hu
      by_cases hdone : ∀ i, i < k → listed.getD i false = true
      · exact fin listed a w m hdone _ hu
      · obtain ⟨i, hi, _, hun⟩ := first_no' listed k hdone
        have := unl_set (listed := listed) (i := i) (by rw [m.size]; omega) (by rw [getD_tf (by rw [m.size]; omega)]; exact hun)
        omega
    | succ fuel ih =>
      intro listed a w m hu
      by_cases hdone : ∀ i, i < k → listed.getD i false = true
      · exact fin listed a w m hdone _ hu
      · obtain ⟨i0, hi0, hpre, hun0⟩ := first_no' listed k hdone
        refine ⟨fun h0 => ?_, fun i hi => ?_⟩
        · have hr : i0 ∈ Region.ready .any l.toArray listed := by
            rw [mem_ready]
            refine ⟨by rw [getD_tf (by rw [m.size]; omega)]; exact hun0, l[i0]'(by omega), by simp, fun e he hb => hpre _ ?_⟩
            exact hback' i0 _ (by simp) e he hb
          rw [h0] at hr
          cases hr
        · have hi' := hi
          obtain ⟨hun, o, ho, hw⟩ := mem_ready.1 hi
          have hil : i < l.length := by
            have := (Array.getElem?_eq_some_iff.1 ho).1
            simpa using this
          have hol : l[i]? = some o := by simpa using ho
          have hun' : unl (listed.setIfInBounds i true) = fuel := by
            have := unl_set (listed := listed) (i := i) (by rw [m.size]; omega) hun
            omega
          have hik : i < k := by
            rcases Nat.lt_or_ge i k with h | h
            rotate_left 1
            · have h1 := (htl i (by omega)).resolve_left (by omega) i0 (by omega)
              obtain ⟨e, he, hb, heo⟩ := waitsB1_spec ho h1
              have h2 := hw e he hb
              rw [heo, hun0] at h2
              cases h2
            · exact h
          have hclosed : ∀ j oj, l.toArray[j]? = some oj → (listed.setIfInBounds i true).getD j false = true → ∀ e ∈ oj.after, Region.binds .any e = true → (listed.setIfInBounds i true).getD e.on false = true := by
            intro j oj hj hl e he hb
            by_cases hji : i = j
            · subst hji
              rw [ho] at hj
              cases hj
              exact getD_set_true (hw e he hb)
            · rw [getD_set_ne false hji] at hl
              exact getD_set_true (m.closed j oj hj hl e he hb)
          have htail' : ∀ t, k ≤ t → t < l.toArray.size → (listed.setIfInBounds i true).getD t true = false := fun t ht ht' => by rw [getD_set_ne true (by omega)]; exact m.tail t ht ht'
          obtain ⟨d, hod, hdlt⟩ := dlt i o hik hol
          have hlook : ∀ t ∈ o.looksAt l.toArray, slotOf a t = slotOf (accum af ((l.take k).take i) a0) t := by
            intro t ht
            rw [accum_slot _ _ _ (dstsOk_take _ _ _ hdk)]
            by_cases hex : ∃ j oj, j < k ∧ l[j]? = some oj ∧ oj.dst = some t
            · obtain ⟨j, oj, hj, hoj, hdt⟩ := hex
              obtain ⟨hji, hwt⟩ := hdep' i o j oj t hik hol hj hoj hdt ht
              obtain ⟨e, he, hb, heo⟩ := waitsB1_spec ho hwt
              have hlj := hw e he hb
              rw [heo] at hlj
              rw [m.put j oj t (by omega) (by simpa using hoj) hdt hlj, if_pos]
              rw [List.any_eq_true]
              refine ⟨oj, ?_, by simp [hdt]⟩
              refine List.mem_of_getElem? (i := j) ?_
              rw [List.getElem?_take, List.getElem?_take]
              simp only [hji, show j < k by omega, if_true, hoj]
            · rw [m.same t (fun j oj hj hoj _ hdt => hex ⟨j, oj, by omega, by simpa using hoj, hdt⟩), if_neg]
              intro hany
              rw [List.any_eq_true] at hany
              obtain ⟨oj, hmem, hdt⟩ := hany
              obtain ⟨j, hj⟩ := List.getElem?_of_mem (List.mem_of_mem_take hmem)
              rw [List.getElem?_take] at hj
              split at hj
              · exact hex ⟨j, oj, by omega, hj, by simpa using hdt⟩
              · cases hj
          have hy := (hall w m.ahd).get (i := i) (o := o) (by rw [List.getElem?_take]; simp [hik, hol])
          have he : execOp a.eval o = execOp (accum af ((l.take k).take i) a0).eval o := execOp_congr o (fun cs b => Region.noSelect_spec hsel i o cs b ho) (fun x hx => by
            cases x with
            | tmp t => exact hlook t (List.mem_append_left _ (List.mem_filterMap.2 ⟨.tmp t, by simpa using hx, rfl⟩))
            | _ => rfl)
          have hy' := hy.of_same he (wanted_congr hlook)
          refine wpOp_of_qOp (C := fun w' => ∃ x : Past w, w' = x.w) ⟨⟨w, Below.refl _ _⟩, rfl⟩ (fun a' w' hx ha => ?_) (hy'.qOp ho (K := fun a' => a' = a.put o.dst (leftBy af o)) rfl)
          obtain ⟨x, rfl⟩ := hx
          subst ha
          refine ih _ _ _ ⟨by simp [m.size], hclosed, htail', m.ahd.trans (x.far.mono m.ahd.size), by rw [defers_put]; exact m.defers, by rw [size_put]; exact m.tsize, ?_, ?_⟩ hun'
          · intro j oj t hj hoj hdt hl
            by_cases hji : i = j
            · subst hji
              rw [ho] at hoj
              cases hoj
              have : leftBy af o = slotOf af t := by simp [leftBy, hdt]
              rw [hdt, this]
              rw [hod] at hdt
              cases hdt
              exact slot_put_same _ (by rw [m.tsize]; exact hdlt)
            · rw [getD_set_ne false hji] at hl
              rw [slot_put_ne _ (dne i j o oj t hik (by omega) hol (by simpa using hoj) hji hdt)]
              exact m.put j oj t hj hoj hdt hl
          · intro t hno
            have h1 : (listed.setIfInBounds i true).getD i false = true := by
              have : i < listed.size := by rw [m.size]; omega
              simp [this]
            rw [slot_put_ne _ (hno i o hik ho h1)]
            exact m.same t (fun j oj hj hoj hl => hno j oj hj hoj (getD_set_true hl))
  refine wp_region_any hm (main _ _ a0 _ ?_ (by rw [unl_rep]))
  refine ⟨by simp, ?_, ?_, (Below.refl _ _).drew, rfl, rfl, ?_, ?_⟩
  · intro j oj hj h
    rw [getD_replicate_false] at h
    cases h
  · intro t _ ht
    have : (Array.replicate l.toArray.size false).getD t true = false := by simp at ht; simp [ht]
    exact this
  · intro j o t _ _ _ h
    rw [getD_replicate_false] at h
    cases h
  · intro t _; rfl
end
end Go.Proofs.Ytcneohhfnnelgaa
namespace Go.Proofs.Ytcneohhfnnelgaa
open Go.RowKit
set_option linter.unusedVariables false

theorem Step_c (m : Mot) (s : Rot) (vd vq ld : Int) (w : World) :
    Calls Try.prog 50 #[.agg #[.int .i64 m.r, .int .i64 m.ld, .int .i64 m.lq, .int .i64 m.fx, .int .i64 m.po, .int .i64 m.mi, .int .i64 m.sp, .int .i64 m.dr, .int .i64 m.cu, .int .i64 m.fa], .agg #[.int .i64 s.d, .int .i64 s.q, .int .i64 s.w, .int .i64 s.a], .int .i64 vd, .int .i64 vq, .int .i64 ld] w fun e w' => e = .returned (.tuple #[.agg #[.int .i64 (Dv.stR m s vd vq ld).1.d, .int .i64 (Dv.stR m s vd vq ld).1.q, .int .i64 (Dv.stR m s vd vq ld).1.w, .int .i64 (Dv.stR m s vd vq ld).1.a], .int .i64 (Dv.stR m s vd vq ld).2]) ∧ Below w.heap.size w w' := by
  cases hC : Dv.chkB m
  · exact (Step_no1 m s vd vq ld w hC).mono fun _ _ ⟨h1, h2⟩ => ⟨by rw [h1]; simp [Dv.stR, hC], h2⟩
  · cases h1 : Dv.rotB s
    · exact (Step_no2 m s vd vq ld w hC h1).mono fun _ _ ⟨h, h2⟩ => ⟨by rw [h]; simp [Dv.stR, Dv.stB, hC, h1], h2⟩
    · cases h2 : upB 1073741824 [vd, vq]
      · exact (Step_no3 m s vd vq ld w hC h1 h2).mono fun _ _ ⟨h, h'⟩ => ⟨by rw [h]; simp [Dv.stR, Dv.stB, hC, h1, h2], h'⟩
      · cases h3 : upB 68719476736 [ld]
        · exact (Step_no4 m s vd vq ld w hC h1 h2 h3).mono fun _ _ ⟨h, h'⟩ => ⟨by rw [h]; simp [Dv.stR, Dv.stB, hC, h1, h2, h3], h'⟩
        · cases ht : upB 68719476736 [Dv.tq m s.d s.q]
          · exact (Step_no5 m s vd vq ld w hC h1 h2 h3 ht).mono fun _ _ ⟨h, h'⟩ => ⟨by rw [h]; simp [Dv.stR, Dv.stB, hC, h1, h2, h3, ht], h'⟩
          · cases hb : Dv.rotB (Dv.stN m s vd vq ld)
            · exact (Step_go m s vd vq ld w hC h1 h2 h3 ht _ hb).mono fun _ _ ⟨h, h'⟩ => ⟨by rw [h]; simp [Dv.stR, Dv.stB, hC, h1, h2, h3, ht, hb], h'⟩
            · exact (Step_go m s vd vq ld w hC h1 h2 h3 ht _ hb).mono fun _ _ ⟨h, h'⟩ => ⟨by rw [h]; simp [Dv.stR, Dv.stB, hC, h1, h2, h3, ht, hb], h'⟩

theorem StI.put {w : World} {m : Mot} {s : Rot} {W : World} (h : StI w m s W) {g : Nat} (hg : w.heap.size + 1 + 1 < g) (o : Nat) (v : Value) : StI w m s (W.setCell ⟨g, o, none⟩ v) :=
  ⟨h.1.setCell_ne (p := ⟨g, o, none⟩) (by show w.heap.size ≠ g; omega) v, h.2.1.setCell_ne (p := ⟨g, o, none⟩) (by show w.heap.size + 1 ≠ g; omega) v, h.2.2.1.setCell_ne (p := ⟨g, o, none⟩) (by show w.heap.size + 1 + 1 ≠ g; omega) v, h.2.2.2.setCell (p := ⟨g, o, none⟩) (by show w.heap.size ≤ g; omega) v⟩

set_option maxHeartbeats 2000000 in
set_option maxRecDepth 100000 in
theorem StepR_no1 (m : Mot) (s : Rot) (vd vq ld : Int) (w : World) (hC : Dv.chkB m = false) :
    Calls Try.prog 51 #[.agg #[.int .i64 m.r, .int .i64 m.ld, .int .i64 m.lq, .int .i64 m.fx, .int .i64 m.po, .int .i64 m.mi, .int .i64 m.sp, .int .i64 m.dr, .int .i64 m.cu, .int .i64 m.fa], .agg #[.int .i64 s.d, .int .i64 s.q, .int .i64 s.w, .int .i64 s.a], .int .i64 vd, .int .i64 vq, .int .i64 ld] w fun e w' => e = .returned (.tuple #[.agg #[.int .i64 rot0.d, .int .i64 rot0.q, .int .i64 rot0.w, .int .i64 rot0.a], .int .i64 2]) ∧ Below w.heap.size w w' := by
  go_enter Try.func51, Try.ntmps51
  go_wp2_with fail
  refine (CheckR_no m _ hC).mono ?_
  rintro e w1 ⟨rfl, hb1⟩
  have I1 : Hid (StI w m s w1) := Lib.hid (after3 hb1)
  clear hb1
  obtain ⟨r0, r1, r2, r3⟩ := I1.out.r
  obtain ⟨f0, f1, f2, f3⟩ := I1.out.f
  go_wp2
  exact bodyPost_ret (v := .tuple #[.agg #[.int .i64 rot0.d, .int .i64 rot0.q, .int .i64 rot0.w, .int .i64 rot0.a], .int .i64 2]) (by simp [results, Try.results51, go_sem, r0, r1, r2, r3]; exact ⟨rfl, rfl, rfl, rfl⟩) rfl ⟨rfl, below_put4 I1.out.2.2.2 (by omega) _ _ _ _⟩

set_option maxHeartbeats 2000000 in
set_option maxRecDepth 100000 in
theorem StepR_no2 (m : Mot) (s : Rot) (vd vq ld : Int) (w : World) (hC : Dv.chkB m = true) (h1 : Dv.rotB s = false) :
    Calls Try.prog 51 #[.agg #[.int .i64 m.r, .int .i64 m.ld, .int .i64 m.lq, .int .i64 m.fx, .int .i64 m.po, .int .i64 m.mi, .int .i64 m.sp, .int .i64 m.dr, .int .i64 m.cu, .int .i64 m.fa], .agg #[.int .i64 s.d, .int .i64 s.q, .int .i64 s.w, .int .i64 s.a], .int .i64 vd, .int .i64 vq, .int .i64 ld] w fun e w' => e = .returned (.tuple #[.agg #[.int .i64 rot0.d, .int .i64 rot0.q, .int .i64 rot0.w, .int .i64 rot0.a], .int .i64 3]) ∧ Below w.heap.size w w' := by
  go_enter Try.func51, Try.ntmps51
  go_wp2_with fail
  refine (CheckR_yes m _ hC).mono ?_
  rintro e w1 ⟨rfl, hb1⟩
  have I1 : Hid (StI w m s w1) := Lib.hid (after3 hb1)
  clear hb1
  obtain ⟨s0, s1, s2, s3⟩ := I1.out.s
  go_wp2_with fail
  refine (rotor_c s _).mono ?_
  rintro e w2 ⟨rfl, hb2⟩
  have I2 := Lib.hid (I1.out.below hb2)
  clear hb2 s0 s1 s2 s3
  obtain ⟨r0, r1, r2, r3⟩ := I2.out.r
  obtain ⟨f0, f1, f2, f3⟩ := I2.out.f
  go_wp2_with (first | (go_at_call 79; refine (volt_c _ _).mono ?_; rintro e w' ⟨rfl, rfl⟩) | (go_at_call 89; refine (great_c _ _).mono ?_; rintro e w' ⟨rfl, rfl⟩))
  exact bodyPost_ret (v := .tuple #[.agg #[.int .i64 rot0.d, .int .i64 rot0.q, .int .i64 rot0.w, .int .i64 rot0.a], .int .i64 3]) (by simp [results, Try.results51, go_sem, r0, r1, r2, r3]; exact ⟨rfl, rfl, rfl, rfl⟩) rfl ⟨rfl, below_put4 I2.out.2.2.2 (by omega) _ _ _ _⟩

set_option maxHeartbeats 2000000 in
set_option maxRecDepth 100000 in
theorem StepR_no3 (m : Mot) (s : Rot) (vd vq ld : Int) (w : World) (hC : Dv.chkB m = true) (h1 : Dv.rotB s = true) (h2 : upB 1073741824 [vd] = false) :
    Calls Try.prog 51 #[.agg #[.int .i64 m.r, .int .i64 m.ld, .int .i64 m.lq, .int .i64 m.fx, .int .i64 m.po, .int .i64 m.mi, .int .i64 m.sp, .int .i64 m.dr, .int .i64 m.cu, .int .i64 m.fa], .agg #[.int .i64 s.d, .int .i64 s.q, .int .i64 s.w, .int .i64 s.a], .int .i64 vd, .int .i64 vq, .int .i64 ld] w fun e w' => e = .returned (.tuple #[.agg #[.int .i64 rot0.d, .int .i64 rot0.q, .int .i64 rot0.w, .int .i64 rot0.a], .int .i64 3]) ∧ Below w.heap.size w w' := by
  go_enter Try.func51, Try.ntmps51
  go_wp2_with fail
  refine (CheckR_yes m _ hC).mono ?_
  rintro e w1 ⟨rfl, hb1⟩
  have I1 : Hid (StI w m s w1) := Lib.hid (after3 hb1)
  clear hb1
  obtain ⟨s0, s1, s2, s3⟩ := I1.out.s
  go_wp2_with fail
  refine (rotor_c s _).mono ?_
  rintro e w2 ⟨rfl, hb2⟩
  have I2 := Lib.hid (I1.out.below hb2)
  clear hb2 s0 s1 s2 s3
  obtain ⟨r0, r1, r2, r3⟩ := I2.out.r
  obtain ⟨f0, f1, f2, f3⟩ := I2.out.f
  go_wp2_with (first | (go_at_call 79; refine (volt_c _ _).mono ?_; rintro e w' ⟨rfl, rfl⟩) | (go_at_call 89; refine (great_c _ _).mono ?_; rintro e w' ⟨rfl, rfl⟩))
  exact bodyPost_ret (v := .tuple #[.agg #[.int .i64 rot0.d, .int .i64 rot0.q, .int .i64 rot0.w, .int .i64 rot0.a], .int .i64 3]) (by simp [results, Try.results51, go_sem, r0, r1, r2, r3]; exact ⟨rfl, rfl, rfl, rfl⟩) rfl ⟨rfl, below_put4 I2.out.2.2.2 (by omega) _ _ _ _⟩

set_option maxHeartbeats 2000000 in
set_option maxRecDepth 100000 in
theorem StepR_no4 (m : Mot) (s : Rot) (vd vq ld : Int) (w : World) (hC : Dv.chkB m = true) (h1 : Dv.rotB s = true) (h2 : upB 1073741824 [vd] = true) (h3 : upB 1073741824 [vq] = false) :
    Calls Try.prog 51 #[.agg #[.int .i64 m.r, .int .i64 m.ld, .int .i64 m.lq, .int .i64 m.fx, .int .i64 m.po, .int .i64 m.mi, .int .i64 m.sp, .int .i64 m.dr, .int .i64 m.cu, .int .i64 m.fa], .agg #[.int .i64 s.d, .int .i64 s.q, .int .i64 s.w, .int .i64 s.a], .int .i64 vd, .int .i64 vq, .int .i64 ld] w fun e w' => e = .returned (.tuple #[.agg #[.int .i64 rot0.d, .int .i64 rot0.q, .int .i64 rot0.w, .int .i64 rot0.a], .int .i64 3]) ∧ Below w.heap.size w w' := by
  go_enter Try.func51, Try.ntmps51
  go_wp2_with fail
  refine (CheckR_yes m _ hC).mono ?_
  rintro e w1 ⟨rfl, hb1⟩
  have I1 : Hid (StI w m s w1) := Lib.hid (after3 hb1)
  clear hb1
  obtain ⟨s0, s1, s2, s3⟩ := I1.out.s
  go_wp2_with fail
  refine (rotor_c s _).mono ?_
  rintro e w2 ⟨rfl, hb2⟩
  have I2 := Lib.hid (I1.out.below hb2)
  clear hb2 s0 s1 s2 s3
  obtain ⟨r0, r1, r2, r3⟩ := I2.out.r
  obtain ⟨f0, f1, f2, f3⟩ := I2.out.f
  go_wp2_with (first | (go_at_call 79; refine (volt_c _ _).mono ?_; rintro e w' ⟨rfl, rfl⟩) | (go_at_call 89; refine (great_c _ _).mono ?_; rintro e w' ⟨rfl, rfl⟩))
  exact bodyPost_ret (v := .tuple #[.agg #[.int .i64 rot0.d, .int .i64 rot0.q, .int .i64 rot0.w, .int .i64 rot0.a], .int .i64 3]) (by simp [results, Try.results51, go_sem, r0, r1, r2, r3]; exact ⟨rfl, rfl, rfl, rfl⟩) rfl ⟨rfl, below_put4 I2.out.2.2.2 (by omega) _ _ _ _⟩

set_option maxHeartbeats 2000000 in
set_option maxRecDepth 100000 in
theorem StepR_no5 (m : Mot) (s : Rot) (vd vq ld : Int) (w : World) (hC : Dv.chkB m = true) (h1 : Dv.rotB s = true) (h2 : upB 1073741824 [vd] = true) (h3 : upB 1073741824 [vq] = true) (h4 : upB 68719476736 [ld] = false) :
    Calls Try.prog 51 #[.agg #[.int .i64 m.r, .int .i64 m.ld, .int .i64 m.lq, .int .i64 m.fx, .int .i64 m.po, .int .i64 m.mi, .int .i64 m.sp, .int .i64 m.dr, .int .i64 m.cu, .int .i64 m.fa], .agg #[.int .i64 s.d, .int .i64 s.q, .int .i64 s.w, .int .i64 s.a], .int .i64 vd, .int .i64 vq, .int .i64 ld] w fun e w' => e = .returned (.tuple #[.agg #[.int .i64 rot0.d, .int .i64 rot0.q, .int .i64 rot0.w, .int .i64 rot0.a], .int .i64 3]) ∧ Below w.heap.size w w' := by
  go_enter Try.func51, Try.ntmps51
  go_wp2_with fail
  refine (CheckR_yes m _ hC).mono ?_
  rintro e w1 ⟨rfl, hb1⟩
  have I1 : Hid (StI w m s w1) := Lib.hid (after3 hb1)
  clear hb1
  obtain ⟨s0, s1, s2, s3⟩ := I1.out.s
  go_wp2_with fail
  refine (rotor_c s _).mono ?_
  rintro e w2 ⟨rfl, hb2⟩
  have I2 := Lib.hid (I1.out.below hb2)
  clear hb2 s0 s1 s2 s3
  obtain ⟨r0, r1, r2, r3⟩ := I2.out.r
  obtain ⟨f0, f1, f2, f3⟩ := I2.out.f
  go_wp2_with (first | (go_at_call 79; refine (volt_c _ _).mono ?_; rintro e w' ⟨rfl, rfl⟩) | (go_at_call 89; refine (great_c _ _).mono ?_; rintro e w' ⟨rfl, rfl⟩))
  exact bodyPost_ret (v := .tuple #[.agg #[.int .i64 rot0.d, .int .i64 rot0.q, .int .i64 rot0.w, .int .i64 rot0.a], .int .i64 3]) (by simp [results, Try.results51, go_sem, r0, r1, r2, r3]; exact ⟨rfl, rfl, rfl, rfl⟩) rfl ⟨rfl, below_put4 I2.out.2.2.2 (by omega) _ _ _ _⟩

set_option maxHeartbeats 2000000 in
set_option maxRecDepth 100000 in
theorem StepR_no6 (m : Mot) (s : Rot) (vd vq ld : Int) (w : World) (hC : Dv.chkB m = true) (h1 : Dv.rotB s = true) (h2 : upB 1073741824 [vd] = true) (h3 : upB 1073741824 [vq] = true) (h4 : upB 68719476736 [ld] = true) (ht : upB 68719476736 [Dv.tq m s.d s.q] = false) :
    Calls Try.prog 51 #[.agg #[.int .i64 m.r, .int .i64 m.ld, .int .i64 m.lq, .int .i64 m.fx, .int .i64 m.po, .int .i64 m.mi, .int .i64 m.sp, .int .i64 m.dr, .int .i64 m.cu, .int .i64 m.fa], .agg #[.int .i64 s.d, .int .i64 s.q, .int .i64 s.w, .int .i64 s.a], .int .i64 vd, .int .i64 vq, .int .i64 ld] w fun e w' => e = .returned (.tuple #[.agg #[.int .i64 rot0.d, .int .i64 rot0.q, .int .i64 rot0.w, .int .i64 rot0.a], .int .i64 4]) ∧ Below w.heap.size w w' := by
  have HK := Lib.hid (Dv.chkB_iff.1 hC)
  obtain ⟨q1, q2, q3, q4⟩ := Dv.rotB_iff.1 h1
  go_enter Try.func51, Try.ntmps51
  go_wp2_with fail
  refine (CheckR_yes m _ hC).mono ?_
  rintro e w1 ⟨rfl, hb1⟩
  have I1 : Hid (StI w m s w1) := Lib.hid (after3 hb1)
  clear hb1
  obtain ⟨s0, s1, s2, s3⟩ := I1.out.s
  go_wp2_with fail
  refine (rotor_c s _).mono ?_
  rintro e w2 ⟨rfl, hb2⟩
  have I2 := Lib.hid (I1.out.below hb2)
  clear hb2 s0 s1 s2 s3
  obtain ⟨s0, s1, s2, s3⟩ := I2.out.s
  obtain ⟨c0, c1, c2, c3, c4, c5, c6, c7, c8, c9⟩ := I2.out.m
  go_wp2_with (first | (go_at_call 79; refine (volt_c _ _).mono ?_; rintro e w' ⟨rfl, rfl⟩) | (go_at_call 85; refine (floor_c _ _ _ (by omega) (by omega) (by omega)).mono ?_; rintro e w' ⟨rfl, rfl⟩) | (go_at_call 89; refine (great_c _ _).mono ?_; rintro e w' ⟨rfl, rfl⟩))
  refine (torqueR_c m s.d s.q _ HK.out q1 q2).mono ?_
  rintro e w3 ⟨rfl, hb3⟩
  have I3 := Lib.hid (I2.out.below hb3)
  clear hb3 s0 s1 s2 s3 c0 c1 c2 c3 c4 c5 c6 c7 c8 c9
  obtain ⟨r0, r1, r2, r3⟩ := I3.out.r
  obtain ⟨f0, f1, f2, f3⟩ := I3.out.f
  go_wp2_with (go_at_call 89; refine (great_c _ _).mono ?_; rintro e w' ⟨rfl, rfl⟩)
  exact bodyPost_ret (v := .tuple #[.agg #[.int .i64 rot0.d, .int .i64 rot0.q, .int .i64 rot0.w, .int .i64 rot0.a], .int .i64 4]) (by simp [results, Try.results51, go_sem, r0, r1, r2, r3]; exact ⟨rfl, rfl, rfl, rfl⟩) rfl ⟨rfl, below_put4 I3.out.2.2.2 (by omega) _ _ _ _⟩

set_option maxHeartbeats 2000000 in
set_option maxRecDepth 100000 in
theorem StepR_go (m : Mot) (s : Rot) (vd vq ld : Int) (w : World) (hC : Dv.chkB m = true) (h1 : Dv.rotB s = true) (h2 : upB 1073741824 [vd] = true) (h3 : upB 1073741824 [vq] = true) (h4 : upB 68719476736 [ld] = true) (ht : upB 68719476736 [Dv.tq m s.d s.q] = true) (b : Bool) (hb2 : Dv.rotB (Dv.stN m s vd vq ld) = b) :
    Calls Try.prog 51 #[.agg #[.int .i64 m.r, .int .i64 m.ld, .int .i64 m.lq, .int .i64 m.fx, .int .i64 m.po, .int .i64 m.mi, .int .i64 m.sp, .int .i64 m.dr, .int .i64 m.cu, .int .i64 m.fa], .agg #[.int .i64 s.d, .int .i64 s.q, .int .i64 s.w, .int .i64 s.a], .int .i64 vd, .int .i64 vq, .int .i64 ld] w fun e w' => e = .returned (.tuple #[.agg #[.int .i64 (if b = true then Dv.stN m s vd vq ld else rot0).d, .int .i64 (if b = true then Dv.stN m s vd vq ld else rot0).q, .int .i64 (if b = true then Dv.stN m s vd vq ld else rot0).w, .int .i64 (if b = true then Dv.stN m s vd vq ld else rot0).a], .int .i64 (if b = true then 0 else 4)]) ∧ Below w.heap.size w w' := by
  have HK := Lib.hid (Dv.chkB_iff.1 hC)
  obtain ⟨q1, q2, q3, q4⟩ := Dv.rotB_iff.1 h1
  go_enter Try.func51, Try.ntmps51
  go_wp2_with fail
  refine (CheckR_yes m _ hC).mono ?_
  rintro e w1 ⟨rfl, hb1⟩
  have I1 : Hid (StI w m s w1) := Lib.hid (after3 hb1)
  clear hb1
  obtain ⟨s0, s1, s2, s3⟩ := I1.out.s
  go_wp2_with fail
  refine (rotor_c s _).mono ?_
  rintro e w2 ⟨rfl, hb2⟩
  have I2 := Lib.hid (I1.out.below hb2)
  clear hb2 s0 s1 s2 s3
  obtain ⟨s0, s1, s2, s3⟩ := I2.out.s
  obtain ⟨c0, c1, c2, c3, c4, c5, c6, c7, c8, c9⟩ := I2.out.m
  go_wp2_with (first | (go_at_call 79; refine (volt_c _ _).mono ?_; rintro e w' ⟨rfl, rfl⟩) | (go_at_call 85; refine (floor_c _ _ _ (by omega) (by omega) (by omega)).mono ?_; rintro e w' ⟨rfl, rfl⟩) | (go_at_call 89; refine (great_c _ _).mono ?_; rintro e w' ⟨rfl, rfl⟩))
  refine (torqueR_c m s.d s.q _ HK.out q1 q2).mono ?_
  rintro e w3 ⟨rfl, hb3⟩
  have I3 := Lib.hid (I2.out.below hb3)
  clear hb3 s0 s1 s2 s3 c0 c1 c2 c3 c4 c5 c6 c7 c8 c9
  obtain ⟨s0, s1, s2, s3⟩ := I3.out.s
  obtain ⟨c0, c1, c2, c3, c4, c5, c6, c7, c8, c9⟩ := I3.out.m
  go_wp2_with (go_at_call 89; refine (great_c _ _).mono ?_; rintro e w' ⟨rfl, rfl⟩)
  refine (innerR_c m s.d s.q (s.w / 1000) _ HK.out q1 q2 (by omega)).mono ?_
  rintro e w4 ⟨rfl, hb4⟩
  have I4 := Lib.hid (I3.out.below hb4)
  clear hb4 s0 s1 s2 s3 c0 c1 c2 c3 c4 c5 c6 c7 c8 c9
  go_wp2_with fail
  refine wp_region_float 25 _ (.cells #[.int .i64 0, .int .i64 0, .int .i64 0, .int .i64 0] 57) 16 ?af (by kernel_rfl) rfl rfl rfl (by kernel_rfl) (fun _ _ => by kernel_rfl) ?walk ?tail
  case walk =>
    intro V hV
    have IV := Lib.hid (I4.out.below hV)
    obtain ⟨s0, s1, s2, s3⟩ := IV.out.s
    obtain ⟨c0, c1, c2, c3, c4, c5, c6, c7, c8, c9⟩ := IV.out.m
    have z2 := IV.out.lt
    have z3 : w.heap.size + 1 < V.heap.size := by omega
    have z4 : w.heap.size < V.heap.size := by omega
    obtain ⟨p1, p2, p3, p4, p5, p6, p7, p8⟩ := Dv.st_prods HK.out h1 ⟨upB1.1 h2, upB1.1 h3⟩ (upB1.1 h4)
    have k1 := HK.out.2.1
    have k2 := HK.out.2.2.1
    have p10 := Dv.in_bd HK.out q1 q2 p1
    have p11 := upB1.1 h2
    have p12 := upB1.1 h3
    simp only [List.take_succ_cons, List.take_zero]
    repeat (go_big_quiet_step ((go_at_call 85; exact past_same (floor_c _ _ _ (by omega) (by omega) (by omega)))))
    refine wpQuiet_nil ?_
    rfl
  case tail =>
    intro g w5 hg hb5 hcell
    have H5 : Blk w5 g 57 rot0.cs := hcell
    have I5 := Lib.hid (I4.out.below hb5)
    have hgw : w.heap.size + 1 + 1 < g := by have := I4.out.lt; omega
    obtain ⟨g0, g1, g2, g3⟩ := rotOf H5
    obtain ⟨f0, f1, f2, f3⟩ := freeOf H5
    simp only [List.drop_succ_cons, List.drop_zero]
    simp only [Act.put, List.setIfInBounds_toArray, List.set_cons_zero, List.set_cons_succ]
    go_wp2_with fail
    refine gen_world (fun W => StI w m s W ∧ Blk W g 57 (Rot.mk (Dv.stN m s vd vq ld).d (Dv.stN m s vd vq ld).q 0 0).cs) ⟨(((I5.out.put hgw 0 _).put hgw 1 _).put hgw 2 _).put hgw 3 _, (((H5.setCell 0 (.int .i64 (Dv.stN m s vd vq ld).d)).setCell 1 (.int .i64 (Dv.stN m s vd vq ld).q)).setCell 2 (.int .i64 0)).setCell 3 (.int .i64 0)⟩ ?_
    clear g0 g1 g2 g3 f0 f1 f2 f3
    rintro w6 ⟨i6, h6⟩
    have I6 := Lib.hid i6
    have H6 := Lib.hid h6
    clear i6 h6
    refine wp_region_head 15 ?af2 (by kernel_rfl) (by kernel_rfl) ?walk2 ?tail2
    case walk2 =>
      intro V hV
      have IV := Lib.hid (I6.out.below hV)
      obtain ⟨s0, s1, s2, s3⟩ := IV.out.s
      obtain ⟨c0, c1, c2, c3, c4, c5, c6, c7, c8, c9⟩ := IV.out.m
      have z2 := IV.out.lt
      have z3 : w.heap.size + 1 < V.heap.size := by omega
      have z4 : w.heap.size < V.heap.size := by omega
      obtain ⟨p1, p2, p3, p4, p5, p6, p7, p8⟩ := Dv.st_prods HK.out h1 ⟨upB1.1 h2, upB1.1 h3⟩ (upB1.1 h4)
      have p9 := Dv.tq_bd HK.out q1 q2
      have p12 := upB1.1 h4
      simp only [List.take_succ_cons, List.take_zero]
      repeat (go_big_quiet_step ((go_at_call 85; exact past_same (floor_c _ _ _ (by omega) (by omega) (by omega)))))
      refine wpQuiet_nil ?_
      rfl
    case tail2 =>
      intro w7 hb7
      have I7 := Lib.hid (I6.out.below hb7)
      have H7 := Lib.hid (H6.out.below hb7 H6.out.lt)
      obtain ⟨g0, g1, g2, g3⟩ := rotOf H7.out
      obtain ⟨f0, f1, f2, f3⟩ := freeOf H7.out
      simp only [List.drop_succ_cons, List.drop_zero]
      go_wp2_with fail
      refine gen_world (fun W => StI w m s W ∧ Blk W g 57 (Rot.mk (Dv.stN m s vd vq ld).d (Dv.stN m s vd vq ld).q (Dv.stN m s vd vq ld).w 0).cs) ⟨I7.out.put hgw 2 _, H7.out.setCell 2 (.int .i64 (Dv.stN m s vd vq ld).w)⟩ ?_
      clear g0 g1 g2 g3 f0 f1 f2 f3
      rintro w8 ⟨i8, h8⟩
      have I8 := Lib.hid i8
      have H8 := Lib.hid h8
      clear i8 h8
      obtain ⟨s0, s1, s2, s3⟩ := I8.out.s
      obtain ⟨c0, c1, c2, c3, c4, c5, c6, c7, c8, c9⟩ := I8.out.m
      have z2 := I8.out.lt
      have z3 : w.heap.size + 1 < w8.heap.size := by omega
      have z4 : w.heap.size < w8.heap.size := by omega
      obtain ⟨p1, p2, p3, p4, p5, p6, p7, p8⟩ := Dv.st_prods HK.out h1 ⟨upB1.1 h2, upB1.1 h3⟩ (upB1.1 h4)
      refine wp_region_past (by kernel_rfl) (by kernel_rfl) ?_
      repeat (go_big_quiet_step ((go_at_call 85; exact past_same (floor_c _ _ _ (by omega) (by omega) (by omega)))))
      refine wpQuiet_nil ?_
      intro x
      have I9 := Lib.hid (I8.out.below x.far)
      have H9 := Lib.hid (H8.out.below x.far H8.out.lt)
      generalize x.w = w9 at I9 H9 ⊢
      clear s0 s1 s2 s3 c0 c1 c2 c3 c4 c5 c6 c7 c8 c9 z2 z3 z4
      obtain ⟨g0, g1, g2, g3⟩ := rotOf H9.out
      obtain ⟨f0, f1, f2, f3⟩ := freeOf H9.out
      have emod : s.a + s.w * m.mi * 10430378 / 1000000000000 - 65536 * ((s.a + s.w * m.mi * 10430378 / 1000000000000) / 65536) = (s.a + s.w * m.mi * 10430378 / 1000000000000) % 65536 := by omega
      go_wp2_with (go_at_call 85; refine (floor_c _ _ _ (by omega) (by omega) (by omega)).mono ?_; rintro e w' ⟨rfl, rfl⟩)
      refine (rotor_c (Dv.stN m s vd vq ld) _).mono ?_
      rintro e w10 ⟨rfl, hb10⟩
      have IA := Lib.hid ((I9.out.put hgw 3 _).below hb10)
      have HN := (H9.out.setCell 3 (.int .i64 (Dv.stN m s vd vq ld).a)).below hb10 (H9.out.setCell 3 (.int .i64 (Dv.stN m s vd vq ld).a)).lt
      have HN2 : Blk w10 g 57 (Dv.stN m s vd vq ld).cs := HN
      clear g0 g1 g2 g3 f0 f1 f2 f3 hb10 HN emod
      obtain ⟨g0, g1, g2, g3⟩ := rotOf HN2
      obtain ⟨r0, r1, r2, r3⟩ := IA.out.r
      obtain ⟨f0, f1, f2, f3⟩ := IA.out.f
      cases b
      · go_wp2
        exact bodyPost_ret (v := .tuple #[.agg #[.int .i64 rot0.d, .int .i64 rot0.q, .int .i64 rot0.w, .int .i64 rot0.a], .int .i64 4]) (by simp [results, Try.results51, go_sem, r0, r1, r2, r3]; exact ⟨rfl, rfl, rfl, rfl⟩) rfl ⟨rfl, below_put4 IA.out.2.2.2 (by omega) _ _ _ _⟩
      · go_wp2
        refine bodyPost_ret (v := .tuple #[.agg #[.int .i64 (Dv.stN m s vd vq ld).d, .int .i64 (Dv.stN m s vd vq ld).q, .int .i64 (Dv.stN m s vd vq ld).w, .int .i64 (Dv.stN m s vd vq ld).a], .int .i64 0]) (by simp [results, Try.results51, go_sem, r0, r1, r2, r3]) rfl ⟨rfl, below_put4 IA.out.2.2.2 (by omega) _ _ _ _⟩

theorem StepR_c (m : Mot) (s : Rot) (vd vq ld : Int) (w : World) :
    Calls Try.prog 51 #[.agg #[.int .i64 m.r, .int .i64 m.ld, .int .i64 m.lq, .int .i64 m.fx, .int .i64 m.po, .int .i64 m.mi, .int .i64 m.sp, .int .i64 m.dr, .int .i64 m.cu, .int .i64 m.fa], .agg #[.int .i64 s.d, .int .i64 s.q, .int .i64 s.w, .int .i64 s.a], .int .i64 vd, .int .i64 vq, .int .i64 ld] w fun e w' => e = .returned (.tuple #[.agg #[.int .i64 (Dv.stR m s vd vq ld).1.d, .int .i64 (Dv.stR m s vd vq ld).1.q, .int .i64 (Dv.stR m s vd vq ld).1.w, .int .i64 (Dv.stR m s vd vq ld).1.a], .int .i64 (Dv.stR m s vd vq ld).2]) ∧ Below w.heap.size w w' := by
  cases hC : Dv.chkB m
  · exact (StepR_no1 m s vd vq ld w hC).mono fun _ _ ⟨h1, h2⟩ => ⟨by rw [h1]; simp [Dv.stR, hC], h2⟩
  · cases h1 : Dv.rotB s
    · exact (StepR_no2 m s vd vq ld w hC h1).mono fun _ _ ⟨h, h2⟩ => ⟨by rw [h]; simp [Dv.stR, Dv.stB, hC, h1], h2⟩
    · cases h2 : upB 1073741824 [vd]
      · exact (StepR_no3 m s vd vq ld w hC h1 h2).mono fun _ _ ⟨h, h'⟩ => ⟨by rw [h]; simp [Dv.stR, Dv.stB, upB_two, hC, h1, h2], h'⟩
      · cases h3 : upB 1073741824 [vq]
        · exact (StepR_no4 m s vd vq ld w hC h1 h2 h3).mono fun _ _ ⟨h, h'⟩ => ⟨by rw [h]; simp [Dv.stR, Dv.stB, upB_two, hC, h1, h2, h3], h'⟩
        · cases h4 : upB 68719476736 [ld]
          · exact (StepR_no5 m s vd vq ld w hC h1 h2 h3 h4).mono fun _ _ ⟨h, h'⟩ => ⟨by rw [h]; simp [Dv.stR, Dv.stB, upB_two, hC, h1, h2, h3, h4], h'⟩
          · cases ht : upB 68719476736 [Dv.tq m s.d s.q]
            · exact (StepR_no6 m s vd vq ld w hC h1 h2 h3 h4 ht).mono fun _ _ ⟨h, h'⟩ => ⟨by rw [h]; simp [Dv.stR, Dv.stB, upB_two, hC, h1, h2, h3, h4, ht], h'⟩
            · cases hb : Dv.rotB (Dv.stN m s vd vq ld)
              · exact (StepR_go m s vd vq ld w hC h1 h2 h3 h4 ht _ hb).mono fun _ _ ⟨h, h'⟩ => ⟨by rw [h]; simp [Dv.stR, Dv.stB, upB_two, hC, h1, h2, h3, h4, ht, hb], h'⟩
              · exact (StepR_go m s vd vq ld w hC h1 h2 h3 h4 ht _ hb).mono fun _ _ ⟨h, h'⟩ => ⟨by rw [h]; simp [Dv.stR, Dv.stB, upB_two, hC, h1, h2, h3, h4, ht, hb], h'⟩
end Go.Proofs.Ytcneohhfnnelgaa
namespace Go.Proofs.Ytcneohhfnnelgaa
open Go.RowKit
set_option linter.unusedVariables false

@[simp, go_sem] theorem Past.cellA {W : World} (x : Past W) (p : Addr) (h : p.block < W.heap.size) : x.w.cell? p = W.cell? p := x.far.cell h

def ptrs (b : Nat) : List Value := [.pointer (some ⟨b, 0, none⟩), .pointer (some ⟨b, 1, none⟩), .pointer (some ⟨b, 2, none⟩), .pointer (some ⟨b, 3, none⟩)]
set_option maxHeartbeats 1000000 in
theorem parts_c (b : Nat) (w : World) : Calls Try.prog 106 #[.pointer (some ⟨b, 0, none⟩)] w fun e w' => e = .returned (.agg #[.pointer (some ⟨b, 0, none⟩), .pointer (some ⟨b, 1, none⟩), .pointer (some ⟨b, 2, none⟩), .pointer (some ⟨b, 3, none⟩)]) ∧ Below w.heap.size w w' := by
  go_enter Try.func106, Try.ntmps106
  go_wp2_with fail
  refine gen_world (fun W => Blk W w.heap.size 119 [.pointer none, .pointer none, .pointer none, .pointer none] ∧ Below w.heap.size w W) ⟨Blk.new' _ _ _, (Below.refl _ _).alloc (Nat.le_refl _) _⟩ ?_
  rintro w1 ⟨H1, hB⟩
  refine wp_region_head 13 ?af (by kernel_rfl) (by kernel_rfl) ?walk ?tail
  case walk =>
    intro V hV
    simp only [List.take_succ_cons, List.take_zero]
    repeat (go_big_quiet_step (fail))
    refine wpQuiet_nil ?_
    rfl
  case tail =>
    intro w2 hb2
    have H2 := H1.below hb2 H1.lt
    have f0 := H2.free 0
    have f1 := H2.free 1
    have f2 := H2.free 2
    have f3 := H2.free 3
    have c0 : w2.cell? ⟨w.heap.size, 0, none⟩ = some (.pointer none) := H2.cell 0 rfl
    have c1 : w2.cell? ⟨w.heap.size, 1, none⟩ = some (.pointer none) := H2.cell 1 rfl
    have c2 : w2.cell? ⟨w.heap.size, 2, none⟩ = some (.pointer none) := H2.cell 2 rfl
    have c3 : w2.cell? ⟨w.heap.size, 3, none⟩ = some (.pointer none) := H2.cell 3 rfl
    have HB := Lib.hid (hB.trans (hb2.mono hB.size))
    clear hb2 H1 H2 hB
    simp only [List.drop_succ_cons, List.drop_zero]
    go_wp2
    exact bodyPost_ret (v := .agg #[.pointer (some ⟨b, 0, none⟩), .pointer (some ⟨b, 1, none⟩), .pointer (some ⟨b, 2, none⟩), .pointer (some ⟨b, 3, none⟩)]) (by simp [results, Try.results106, go_sem, c0, c1, c2, c3]) rfl ⟨rfl, below_put4 HB.out (Nat.le_refl _) _ _ _ _⟩

/-- a motor with offsets -/
def Mot.plus (m : Mot) (a b c d : Int) : Mot := ⟨m.r + a, m.ld + b, m.lq + c, m.fx + d, m.po, m.mi, m.sp, m.dr, m.cu, m.fa⟩
def mot0 : Mot := ⟨0, 0, 0, 0, 0, 0, 0, 0, 0, 0⟩
def Int4 (w : World) (ad : Addr) (a b c d : Int) : Prop := ad.block < w.heap.size ∧ w.cell? ad = some (.int .i64 a) ∧ w.cell? ⟨ad.block, ad.off + 1, none⟩ = some (.int .i64 b) ∧ w.cell? ⟨ad.block, ad.off + 2, none⟩ = some (.int .i64 c) ∧ w.cell? ⟨ad.block, ad.off + 3, none⟩ = some (.int .i64 d)
theorem Int4.below {w w1 : World} {ad : Addr} {a b c d : Int} (h : Int4 w ad a b c d) {B : Nat} (hb : Below B w w1) (hB : ad.block < B) : Int4 w1 ad a b c d :=
  ⟨Nat.lt_of_lt_of_le h.1 hb.size, (hb.cell hB).trans h.2.1, below_cell hb hB h.2.2.1, below_cell hb hB h.2.2.2.1, below_cell hb hB h.2.2.2.2⟩
theorem below_put10 {w W : World} {b : Nat} (h : Below w.heap.size w W) (hb : w.heap.size ≤ b) (v0 v1 v2 v3 v4 v5 v6 v7 v8 v9 : Value) : Below w.heap.size w ((((((((((W.setCell ⟨b, 0, none⟩ v0).setCell ⟨b, 1, none⟩ v1).setCell ⟨b, 2, none⟩ v2).setCell ⟨b, 3, none⟩ v3).setCell ⟨b, 4, none⟩ v4).setCell ⟨b, 5, none⟩ v5).setCell ⟨b, 6, none⟩ v6).setCell ⟨b, 7, none⟩ v7).setCell ⟨b, 8, none⟩ v8).setCell ⟨b, 9, none⟩ v9) :=
  (((((((((h.setCell hb _).setCell hb _).setCell hb _).setCell hb _).setCell hb _).setCell hb _).setCell hb _).setCell hb _).setCell hb _).setCell hb _
theorem freeMot {w : World} {b : Nat} {m : Mot} {T : TypeId} (h : Blk w b T m.cs) : w.frozen? ⟨b, 0, none⟩ = false ∧ w.frozen? ⟨b, 1, none⟩ = false ∧ w.frozen? ⟨b, 2, none⟩ = false ∧ w.frozen? ⟨b, 3, none⟩ = false ∧ w.frozen? ⟨b, 4, none⟩ = false ∧ w.frozen? ⟨b, 5, none⟩ = false ∧ w.frozen? ⟨b, 6, none⟩ = false ∧ w.frozen? ⟨b, 7, none⟩ = false ∧ w.frozen? ⟨b, 8, none⟩ = false ∧ w.frozen? ⟨b, 9, none⟩ = false :=
  ⟨h.free 0, h.free 1, h.free 2, h.free 3, h.free 4, h.free 5, h.free 6, h.free 7, h.free 8, h.free 9⟩
/-- what lies in memory while plus runs -/
def PlI (w : World) (ad : Addr) (a b c d : Int) (mm : Mot) (W : World) : Prop := Blk W w.heap.size 52 mm.cs ∧ Blk W (w.heap.size + 1) 52 mot0.cs ∧ Int4 W ad a b c d ∧ Below w.heap.size w W ∧ ad.block < w.heap.size
theorem PlI.below {w : World} {ad : Addr} {a b c d : Int} {mm : Mot} {W W' : World} (h : PlI w ad a b c d mm W) (hb : Below W.heap.size W W') : PlI w ad a b c d mm W' :=
  ⟨h.1.below hb h.1.lt, h.2.1.below hb h.2.1.lt, h.2.2.1.below hb h.2.2.1.1, h.2.2.2.1.trans (hb.mono h.2.2.2.1.size), h.2.2.2.2⟩
theorem PlI.put {w : World} {ad : Addr} {a b c d : Int} {mm : Mot} {W : World} (h : PlI w ad a b c d mm W) (o : Nat) (v : Value) (mm' : Mot) (he : mm.cs.set o v = mm'.cs) : PlI w ad a b c d mm' (W.setCell ⟨w.heap.size, o, none⟩ v) := by
  have hadne : ad.block ≠ w.heap.size := by have := h.2.2.2.2; omega
  refine ⟨he ▸ h.1.setCell o v, h.2.1.setCell_ne (p := ⟨w.heap.size, o, none⟩) (by show w.heap.size + 1 ≠ w.heap.size; omega) v, ⟨by simpa [World.setCell] using h.2.2.1.1, ?_, ?_, ?_, ?_⟩, h.2.2.2.1.setCell (Nat.le_refl _) v, h.2.2.2.2⟩
  all_goals
    refine (World.cell?_of_block (w := W) (Below.heap_setCell _ _ _ _ hadne)).trans ?_
  · exact h.2.2.1.2.1
  · exact h.2.2.1.2.2.1
  · exact h.2.2.1.2.2.2.1
  · exact h.2.2.1.2.2.2.2

set_option maxHeartbeats 2000000 in
theorem plus_c (m : Mot) (a b c d : Int) (ad : Addr) (cap : Nat) (w : World) (hm : Dv.chk m) (h : Int4 w ad a b c d) (ha : -1099511627776 ≤ a ∧ a ≤ 1099511627776) (hb : -1099511627776 ≤ b ∧ b ≤ 1099511627776) (hc : -1099511627776 ≤ c ∧ c ≤ 1099511627776) (hd : -1099511627776 ≤ d ∧ d ≤ 1099511627776) :
    Calls Try.prog 107 #[.agg #[.int .i64 m.r, .int .i64 m.ld, .int .i64 m.lq, .int .i64 m.fx, .int .i64 m.po, .int .i64 m.mi, .int .i64 m.sp, .int .i64 m.dr, .int .i64 m.cu, .int .i64 m.fa], .slice (some ad) 4 cap] w fun e w' => e = .returned (.agg #[.int .i64 (m.plus a b c d).r, .int .i64 (m.plus a b c d).ld, .int .i64 (m.plus a b c d).lq, .int .i64 (m.plus a b c d).fx, .int .i64 m.po, .int .i64 m.mi, .int .i64 m.sp, .int .i64 m.dr, .int .i64 m.cu, .int .i64 m.fa]) ∧ Below w.heap.size w w' := by
  have HM := Lib.hid hm
  have H := Lib.hid h
  clear h
  unfold Dv.chk at hm
  go_enter Try.func107, Try.ntmps107
  go_wp2_with fail
  refine gen_world (fun W => PlI w ad a b c d m W) ⟨(Blk.new' _ _ _).alloc _, by have := Blk.new' (w.alloc (.cells #[.int .i64 m.r, .int .i64 m.ld, .int .i64 m.lq, .int .i64 m.fx, .int .i64 m.po, .int .i64 m.mi, .int .i64 m.sp, .int .i64 m.dr, .int .i64 m.cu, .int .i64 m.fa] 52)) #[.int .i64 0, .int .i64 0, .int .i64 0, .int .i64 0, .int .i64 0, .int .i64 0, .int .i64 0, .int .i64 0, .int .i64 0, .int .i64 0] 52; simp at this; exact this, (H.out.below ((Below.refl _ _).alloc (Nat.le_refl _) _) H.out.1).below ((Below.refl _ _).alloc (Nat.le_refl _) _) (by have := H.out.1; simp; omega), (((Below.refl _ _).alloc (Nat.le_refl _) _).alloc (by simp) _), H.out.1⟩ ?_
  intro w0 i0
  refine wp_region_head 6 ?af0 (by kernel_rfl) (by kernel_rfl) ?walk0 ?tail0
  case walk0 =>
    intro V hV
    have IV := Lib.hid (i0.below hV)
    obtain ⟨c0, c1, c2, c3, c4, c5, c6, c7, c8, c9⟩ := motOf IV.out.1
    obtain ⟨zad, x0, x1, x2, x3⟩ := IV.out.2.2.1
    have z1 := IV.out.1.lt
    simp only [List.take_succ_cons, List.take_zero]
    repeat (go_big_quiet_step (fail))
    refine wpQuiet_nil ?_
    rfl
  case tail0 =>
  intro w1 hb1
  have i1 := i0.below hb1
  clear hb1 i0
  obtain ⟨c0, c1, c2, c3, c4, c5, c6, c7, c8, c9⟩ := motOf i1.1
  have f := i1.1.free 0
  have I1 := Lib.hid i1
  clear i1
  simp only [List.drop_succ_cons, List.drop_zero]
  go_wp2_with fail
  refine gen_world (fun W => PlI w ad a b c d (Mot.mk (m.r + a) m.ld m.lq m.fx m.po m.mi m.sp m.dr m.cu m.fa) W) (I1.out.put 0 (.int .i64 (m.r + a)) _ rfl) ?_
  clear c0 c1 c2 c3 c4 c5 c6 c7 c8 c9 f I1 w1
  intro w0 i0
  refine wp_region_head 6 ?af1 (by kernel_rfl) (by kernel_rfl) ?walk1 ?tail1
  case walk1 =>
    intro V hV
    have IV := Lib.hid (i0.below hV)
    obtain ⟨c0, c1, c2, c3, c4, c5, c6, c7, c8, c9⟩ := motOf IV.out.1
    obtain ⟨zad, x0, x1, x2, x3⟩ := IV.out.2.2.1
    have z1 := IV.out.1.lt
    simp only [List.take_succ_cons, List.take_zero]
    repeat (go_big_quiet_step (fail))
    refine wpQuiet_nil ?_
    rfl
  case tail1 =>
  intro w1 hb1
  have i1 := i0.below hb1
  clear hb1 i0
  obtain ⟨c0, c1, c2, c3, c4, c5, c6, c7, c8, c9⟩ := motOf i1.1
  have f := i1.1.free 1
  have I1 := Lib.hid i1
  clear i1
  simp only [List.drop_succ_cons, List.drop_zero]
  go_wp2_with fail
  refine gen_world (fun W => PlI w ad a b c d (Mot.mk (m.r + a) (m.ld + b) m.lq m.fx m.po m.mi m.sp m.dr m.cu m.fa) W) (I1.out.put 1 (.int .i64 (m.ld + b)) _ rfl) ?_
  clear c0 c1 c2 c3 c4 c5 c6 c7 c8 c9 f I1 w1
  intro w0 i0
  refine wp_region_head 6 ?af2 (by kernel_rfl) (by kernel_rfl) ?walk2 ?tail2
  case walk2 =>
    intro V hV
    have IV := Lib.hid (i0.below hV)
    obtain ⟨c0, c1, c2, c3, c4, c5, c6, c7, c8, c9⟩ := motOf IV.out.1
    obtain ⟨zad, x0, x1, x2, x3⟩ := IV.out.2.2.1
    have z1 := IV.out.1.lt
    simp only [List.take_succ_cons, List.take_zero]
    repeat (go_big_quiet_step (fail))
    refine wpQuiet_nil ?_
    rfl
  case tail2 =>
  intro w1 hb1
  have i1 := i0.below hb1
  clear hb1 i0
  obtain ⟨c0, c1, c2, c3, c4, c5, c6, c7, c8, c9⟩ := motOf i1.1
  have f := i1.1.free 2
  have I1 := Lib.hid i1
  clear i1
  simp only [List.drop_succ_cons, List.drop_zero]
  go_wp2_with fail
  refine gen_world (fun W => PlI w ad a b c d (Mot.mk (m.r + a) (m.ld + b) (m.lq + c) m.fx m.po m.mi m.sp m.dr m.cu m.fa) W) (I1.out.put 2 (.int .i64 (m.lq + c)) _ rfl) ?_
  clear c0 c1 c2 c3 c4 c5 c6 c7 c8 c9 f I1 w1
  intro w0 i0
  refine wp_region_head 6 ?af3 (by kernel_rfl) (by kernel_rfl) ?walk3 ?tail3
  case walk3 =>
    intro V hV
    have IV := Lib.hid (i0.below hV)
    obtain ⟨c0, c1, c2, c3, c4, c5, c6, c7, c8, c9⟩ := motOf IV.out.1
    obtain ⟨zad, x0, x1, x2, x3⟩ := IV.out.2.2.1
    have z1 := IV.out.1.lt
    simp only [List.take_succ_cons, List.take_zero]
    repeat (go_big_quiet_step (fail))
    refine wpQuiet_nil ?_
    rfl
  case tail3 =>
  intro w1 hb1
  have i1 := i0.below hb1
  clear hb1 i0
  obtain ⟨c0, c1, c2, c3, c4, c5, c6, c7, c8, c9⟩ := motOf i1.1
  have f := i1.1.free 3
  have I1 := Lib.hid i1
  clear i1
  obtain ⟨r0, r1, r2, r3, r4, r5, r6, r7, r8, r9⟩ := motOf I1.out.2.1
  obtain ⟨g0, g1, g2, g3, g4, g5, g6, g7, g8, g9⟩ := freeMot I1.out.2.1
  simp only [List.drop_succ_cons, List.drop_zero]
  go_wp2
  exact bodyPost_ret (v := .agg #[.int .i64 (m.plus a b c d).r, .int .i64 (m.plus a b c d).ld, .int .i64 (m.plus a b c d).lq, .int .i64 (m.plus a b c d).fx, .int .i64 m.po, .int .i64 m.mi, .int .i64 m.sp, .int .i64 m.dr, .int .i64 m.cu, .int .i64 m.fa]) (by simp [results, Try.results107, go_sem, r0, r1, r2, r3, r4, r5, r6, r7, r8, r9]; exact ⟨rfl, rfl, rfl, rfl⟩) rfl ⟨rfl, below_put10 (I1.out.2.2.2.1.setCell (Nat.le_refl _) _) (by omega) _ _ _ _ _ _ _ _ _ _⟩
end Go.Proofs.Ytcneohhfnnelgaa
namespace Go.Proofs.Ytcneohhfnnelgaa
open Go.RowKit
set_option linter.unusedVariables false

theorem IntsAt.four {w : World} {A : Option Addr} {a b c d : Int} (h : IntsAt w A [a, b, c, d]) : ∃ ad, A = some ad ∧ Int4 w ad a b c d := by
  obtain ⟨ad, rfl, h0⟩ := h 0 (by simp)
  obtain ⟨ad1, e1, h1⟩ := h 1 (by simp)
  obtain ⟨ad2, e2, h2⟩ := h 2 (by simp)
  obtain ⟨ad3, e3, h3⟩ := h 3 (by simp)
  cases e1; cases e2; cases e3
  have h0' : w.cell? ad = some (.int .i64 a) := by simpa [Addr.add] using h0
  exact ⟨ad, rfl, World.block_lt_of_cell? w _ h0', h0', by simpa [Addr.add] using h1, by simpa [Addr.add] using h2, by simpa [Addr.add] using h3⟩
namespace Dv
def apB (m : Mot) (xs : List Int) : Bool := chkB m && (decide (xs.length = 4) && upB 1099511627776 xs)
def apM (m : Mot) (xs : List Int) : Mot := m.plus (xs.getD 0 0) (xs.getD 1 0) (xs.getD 2 0) (xs.getD 3 0)
def apR (m : Mot) (xs : List Int) : Mot × Int := if apB m xs = true then (if chkB (apM m xs) = true then (apM m xs, 0) else (mot0, 3)) else (mot0, 2)
end Dv
/-- what lies in memory while Apply runs -/
def ApI (w : World) (mm : Mot) (A : Option Addr) (xs : List Int) (W : World) : Prop := Blk W w.heap.size 52 mm.cs ∧ Blk W (w.heap.size + 1) 52 mot0.cs ∧ IntsAt W A xs ∧ Below w.heap.size w W
theorem ApI.below {w : World} {mm : Mot} {A : Option Addr} {xs : List Int} {W W' : World} (h : ApI w mm A xs W) (hb : Below W.heap.size W W') : ApI w mm A xs W' :=
  ⟨h.1.below hb h.1.lt, h.2.1.below hb h.2.1.lt, h.2.2.1.below hb, h.2.2.2.trans (hb.mono h.2.2.2.size)⟩
theorem ApI.start {w : World} {mm : Mot} {A : Option Addr} {xs : List Int} (h : IntsAt w A xs) : ApI w mm A xs ((w.alloc (.cells #[.int .i64 mm.r, .int .i64 mm.ld, .int .i64 mm.lq, .int .i64 mm.fx, .int .i64 mm.po, .int .i64 mm.mi, .int .i64 mm.sp, .int .i64 mm.dr, .int .i64 mm.cu, .int .i64 mm.fa] 52)).alloc (.cells #[.int .i64 0, .int .i64 0, .int .i64 0, .int .i64 0, .int .i64 0, .int .i64 0, .int .i64 0, .int .i64 0, .int .i64 0, .int .i64 0] 52)) :=
  ⟨(Blk.new' _ _ _).alloc _, by have := Blk.new' (w.alloc (.cells #[.int .i64 mm.r, .int .i64 mm.ld, .int .i64 mm.lq, .int .i64 mm.fx, .int .i64 mm.po, .int .i64 mm.mi, .int .i64 mm.sp, .int .i64 mm.dr, .int .i64 mm.cu, .int .i64 mm.fa] 52)) #[.int .i64 0, .int .i64 0, .int .i64 0, .int .i64 0, .int .i64 0, .int .i64 0, .int .i64 0, .int .i64 0, .int .i64 0, .int .i64 0] 52; simp at this; exact this,
    h.below (((Below.refl _ _).alloc (Nat.le_refl _) _).alloc (by simp) _), (((Below.refl _ _).alloc (Nat.le_refl _) _).alloc (by simp) _)⟩
/-- the numbers of the array of pointers -/
theorem ptrsOf {w : World} {b g : Nat} {T : TypeId} (h : Blk w g T (ptrs b)) : w.cell? ⟨g, 0, none⟩ = some (.pointer (some ⟨b, 0, none⟩)) ∧ w.cell? ⟨g, 1, none⟩ = some (.pointer (some ⟨b, 1, none⟩)) ∧ w.cell? ⟨g, 2, none⟩ = some (.pointer (some ⟨b, 2, none⟩)) ∧ w.cell? ⟨g, 3, none⟩ = some (.pointer (some ⟨b, 3, none⟩)) :=
  ⟨h.cell 0 rfl, h.cell 1 rfl, h.cell 2 rfl, h.cell 3 rfl⟩

set_option maxHeartbeats 2000000 in
set_option maxRecDepth 100000 in
theorem Apply_no1 (m : Mot) (A : Option Addr) (xs : List Int) (cap : Nat) (w : World) (hx : IntsAt w A xs) (hC : Dv.chkB m = false) :
    Calls Try.prog 52 #[.agg #[.int .i64 m.r, .int .i64 m.ld, .int .i64 m.lq, .int .i64 m.fx, .int .i64 m.po, .int .i64 m.mi, .int .i64 m.sp, .int .i64 m.dr, .int .i64 m.cu, .int .i64 m.fa], .slice A xs.length cap] w fun e w' => e = .returned (.tuple #[.agg #[.int .i64 mot0.r, .int .i64 mot0.ld, .int .i64 mot0.lq, .int .i64 mot0.fx, .int .i64 mot0.po, .int .i64 mot0.mi, .int .i64 mot0.sp, .int .i64 mot0.dr, .int .i64 mot0.cu, .int .i64 mot0.fa], .int .i64 2]) ∧ Below w.heap.size w w' := by
  have HX := Lib.hid hx
  clear hx
  go_enter Try.func52, Try.ntmps52
  go_wp2_with fail
  refine (parts_c w.heap.size _).mono ?_
  rintro e w1 ⟨rfl, hb1⟩
  have I1 := Lib.hid ((ApI.start (mm := m) HX.out).below hb1)
  clear hb1
  obtain ⟨c0, c1, c2, c3, c4, c5, c6, c7, c8, c9⟩ := motOf I1.out.1
  have z1 := I1.out.2.1.lt
  have z2 := I1.out.1.lt
  go_wp2_with fail
  refine (Check_no m _ hC).mono ?_
  rintro e w2 ⟨rfl, hb2⟩
  have G2 : Hid (Blk w2 w1.heap.size 119 (ptrs w.heap.size)) := Lib.hid ((Blk.new' _ _ _).below hb2 (by simp))
  have I2 := Lib.hid ((I1.out.below ((Below.refl _ _).alloc (Nat.le_refl _) _)).below hb2)
  clear hb2 c0 c1 c2 c3 c4 c5 c6 c7 c8 c9 z1 z2
  obtain ⟨r0, r1, r2, r3, r4, r5, r6, r7, r8, r9⟩ := motOf I2.out.2.1
  obtain ⟨g0, g1, g2, g3, g4, g5, g6, g7, g8, g9⟩ := freeMot I2.out.2.1
  go_wp2
  exact bodyPost_ret (v := .tuple #[.agg #[.int .i64 mot0.r, .int .i64 mot0.ld, .int .i64 mot0.lq, .int .i64 mot0.fx, .int .i64 mot0.po, .int .i64 mot0.mi, .int .i64 mot0.sp, .int .i64 mot0.dr, .int .i64 mot0.cu, .int .i64 mot0.fa], .int .i64 2]) (by simp [results, Try.results52, go_sem, r0, r1, r2, r3, r4, r5, r6, r7, r8, r9]; exact ⟨rfl, rfl, rfl, rfl, rfl, rfl, rfl, rfl, rfl, rfl⟩) rfl ⟨rfl, below_put10 I2.out.2.2.2 (by omega) _ _ _ _ _ _ _ _ _ _⟩

set_option maxHeartbeats 2000000 in
set_option maxRecDepth 100000 in
theorem Apply_no2 (m : Mot) (A : Option Addr) (xs : List Int) (cap : Nat) (w : World) (hx : IntsAt w A xs) (hC : Dv.chkB m = true) (hl : ((xs.length : Int) != 4) = true) :
    Calls Try.prog 52 #[.agg #[.int .i64 m.r, .int .i64 m.ld, .int .i64 m.lq, .int .i64 m.fx, .int .i64 m.po, .int .i64 m.mi, .int .i64 m.sp, .int .i64 m.dr, .int .i64 m.cu, .int .i64 m.fa], .slice A xs.length cap] w fun e w' => e = .returned (.tuple #[.agg #[.int .i64 mot0.r, .int .i64 mot0.ld, .int .i64 mot0.lq, .int .i64 mot0.fx, .int .i64 mot0.po, .int .i64 mot0.mi, .int .i64 mot0.sp, .int .i64 mot0.dr, .int .i64 mot0.cu, .int .i64 mot0.fa], .int .i64 2]) ∧ Below w.heap.size w w' := by
  have HX := Lib.hid hx
  clear hx
  go_enter Try.func52, Try.ntmps52
  go_wp2_with fail
  refine (parts_c w.heap.size _).mono ?_
  rintro e w1 ⟨rfl, hb1⟩
  have I1 := Lib.hid ((ApI.start (mm := m) HX.out).below hb1)
  clear hb1
  obtain ⟨c0, c1, c2, c3, c4, c5, c6, c7, c8, c9⟩ := motOf I1.out.1
  have z1 := I1.out.2.1.lt
  have z2 := I1.out.1.lt
  go_wp2_with fail
  refine (Check_yes m _ hC).mono ?_
  rintro e w2 ⟨rfl, hb2⟩
  have G2 : Hid (Blk w2 w1.heap.size 119 (ptrs w.heap.size)) := Lib.hid ((Blk.new' _ _ _).below hb2 (by simp))
  have I2 := Lib.hid ((I1.out.below ((Below.refl _ _).alloc (Nat.le_refl _) _)).below hb2)
  clear hb2 c0 c1 c2 c3 c4 c5 c6 c7 c8 c9 z1 z2
  obtain ⟨r0, r1, r2, r3, r4, r5, r6, r7, r8, r9⟩ := motOf I2.out.2.1
  obtain ⟨g0, g1, g2, g3, g4, g5, g6, g7, g8, g9⟩ := freeMot I2.out.2.1
  go_wp2
  exact bodyPost_ret (v := .tuple #[.agg #[.int .i64 mot0.r, .int .i64 mot0.ld, .int .i64 mot0.lq, .int .i64 mot0.fx, .int .i64 mot0.po, .int .i64 mot0.mi, .int .i64 mot0.sp, .int .i64 mot0.dr, .int .i64 mot0.cu, .int .i64 mot0.fa], .int .i64 2]) (by simp [results, Try.results52, go_sem, r0, r1, r2, r3, r4, r5, r6, r7, r8, r9]; exact ⟨rfl, rfl, rfl, rfl, rfl, rfl, rfl, rfl, rfl, rfl⟩) rfl ⟨rfl, below_put10 I2.out.2.2.2 (by omega) _ _ _ _ _ _ _ _ _ _⟩

set_option maxHeartbeats 2000000 in
set_option maxRecDepth 100000 in
theorem Apply_no3 (m : Mot) (A : Option Addr) (xs : List Int) (cap : Nat) (w : World) (hx : IntsAt w A xs) (hC : Dv.chkB m = true) (hl : ((xs.length : Int) != 4) = false) (hll : xs.length ≤ 4611686018427387904) (hu : upB 1099511627776 xs = false) :
    Calls Try.prog 52 #[.agg #[.int .i64 m.r, .int .i64 m.ld, .int .i64 m.lq, .int .i64 m.fx, .int .i64 m.po, .int .i64 m.mi, .int .i64 m.sp, .int .i64 m.dr, .int .i64 m.cu, .int .i64 m.fa], .slice A xs.length cap] w fun e w' => e = .returned (.tuple #[.agg #[.int .i64 mot0.r, .int .i64 mot0.ld, .int .i64 mot0.lq, .int .i64 mot0.fx, .int .i64 mot0.po, .int .i64 mot0.mi, .int .i64 mot0.sp, .int .i64 mot0.dr, .int .i64 mot0.cu, .int .i64 mot0.fa], .int .i64 2]) ∧ Below w.heap.size w w' := by
  have HX := Lib.hid hx
  clear hx
  go_enter Try.func52, Try.ntmps52
  go_wp2_with fail
  refine (parts_c w.heap.size _).mono ?_
  rintro e w1 ⟨rfl, hb1⟩
  have I1 := Lib.hid ((ApI.start (mm := m) HX.out).below hb1)
  clear hb1
  obtain ⟨c0, c1, c2, c3, c4, c5, c6, c7, c8, c9⟩ := motOf I1.out.1
  have z1 := I1.out.2.1.lt
  have z2 := I1.out.1.lt
  go_wp2_with fail
  refine (Check_yes m _ hC).mono ?_
  rintro e w2 ⟨rfl, hb2⟩
  have G2 : Hid (Blk w2 w1.heap.size 119 (ptrs w.heap.size)) := Lib.hid ((Blk.new' _ _ _).below hb2 (by simp))
  have I2 := Lib.hid ((I1.out.below ((Below.refl _ _).alloc (Nat.le_refl _) _)).below hb2)
  clear hb2 c0 c1 c2 c3 c4 c5 c6 c7 c8 c9 z1 z2
  obtain ⟨r0, r1, r2, r3, r4, r5, r6, r7, r8, r9⟩ := motOf I2.out.2.1
  obtain ⟨g0, g1, g2, g3, g4, g5, g6, g7, g8, g9⟩ := freeMot I2.out.2.1
  go_wp2_with (go_at_call 67; refine (upTo_c _ _ xs _ _ (by omega) (by omega) hll I2.out.2.2.1).mono ?_; rintro e w' ⟨rfl, rfl⟩)
  exact bodyPost_ret (v := .tuple #[.agg #[.int .i64 mot0.r, .int .i64 mot0.ld, .int .i64 mot0.lq, .int .i64 mot0.fx, .int .i64 mot0.po, .int .i64 mot0.mi, .int .i64 mot0.sp, .int .i64 mot0.dr, .int .i64 mot0.cu, .int .i64 mot0.fa], .int .i64 2]) (by simp [results, Try.results52, go_sem, r0, r1, r2, r3, r4, r5, r6, r7, r8, r9]; exact ⟨rfl, rfl, rfl, rfl, rfl, rfl, rfl, rfl, rfl, rfl⟩) rfl ⟨rfl, below_put10 I2.out.2.2.2 (by omega) _ _ _ _ _ _ _ _ _ _⟩

set_option maxHeartbeats 4000000 in
set_option maxRecDepth 100000 in
theorem Apply_go (m : Mot) (A : Option Addr) (a b c d : Int) (cap : Nat) (w : World) (hx : IntsAt w A [a, b, c, d]) (hC : Dv.chkB m = true) (hu : upB 1099511627776 [a, b, c, d] = true) (q : Bool) (hq : Dv.chkB (m.plus a b c d) = q) :
    Calls Try.prog 52 #[.agg #[.int .i64 m.r, .int .i64 m.ld, .int .i64 m.lq, .int .i64 m.fx, .int .i64 m.po, .int .i64 m.mi, .int .i64 m.sp, .int .i64 m.dr, .int .i64 m.cu, .int .i64 m.fa], .slice A 4 cap] w fun e w' => e = .returned (.tuple #[.agg #[.int .i64 (if q = true then m.plus a b c d else mot0).r, .int .i64 (if q = true then m.plus a b c d else mot0).ld, .int .i64 (if q = true then m.plus a b c d else mot0).lq, .int .i64 (if q = true then m.plus a b c d else mot0).fx, .int .i64 (if q = true then m.plus a b c d else mot0).po, .int .i64 (if q = true then m.plus a b c d else mot0).mi, .int .i64 (if q = true then m.plus a b c d else mot0).sp, .int .i64 (if q = true then m.plus a b c d else mot0).dr, .int .i64 (if q = true then m.plus a b c d else mot0).cu, .int .i64 (if q = true then m.plus a b c d else mot0).fa], .int .i64 (if q = true then 0 else 3)]) ∧ Below w.heap.size w w' := by
  obtain ⟨u1, u2, u3, u4⟩ := upB4.1 hu
  have hK := Dv.chkB_iff.1 hC
  unfold Dv.chk at hK
  have HX := Lib.hid hx
  clear hx
  go_enter Try.func52, Try.ntmps52
  go_wp2_with fail
  refine (parts_c w.heap.size _).mono ?_
  rintro e w1 ⟨rfl, hb1⟩
  have I1 := Lib.hid ((ApI.start (mm := m) HX.out).below hb1)
  clear hb1
  obtain ⟨c0, c1, c2, c3, c4, c5, c6, c7, c8, c9⟩ := motOf I1.out.1
  have z1 := I1.out.2.1.lt
  have z2 := I1.out.1.lt
  go_wp2_with fail
  refine (Check_yes m _ hC).mono ?_
  rintro e w2 ⟨rfl, hb2⟩
  have G2 : Hid (Blk w2 w1.heap.size 119 (ptrs w.heap.size)) := Lib.hid ((Blk.new' _ _ _).below hb2 (by simp))
  have I2 := Lib.hid ((I1.out.below ((Below.refl _ _).alloc (Nat.le_refl _) _)).below hb2)
  clear hb2 c0 c1 c2 c3 c4 c5 c6 c7 c8 c9 z1 z2
  have hlen : [a, b, c, d].length ≤ 4611686018427387904 := by simp
  go_wp2_with fail
  refine (upTo_c 1099511627776 A [a, b, c, d] cap w2 (by omega) (by omega) hlen I2.out.2.2.1).mono ?_
  rintro e w' ⟨rfl, rfl⟩
  obtain ⟨ad, rfl, zad, x0, x1, x2, x3⟩ := I2.out.2.2.1.four
  obtain ⟨c0, c1, c2, c3, c4, c5, c6, c7, c8, c9⟩ := motOf I2.out.1
  obtain ⟨p0, p1, p2, p3⟩ := ptrsOf G2.out
  obtain ⟨f0, f1, f2, f3, f4, f5, f6, f7, f8, f9⟩ := freeMot I2.out.1
  have hadw : ad.block < w.heap.size := (HX.out.four.elim fun ad' h => by cases h.1; exact h.2.1)
  have hne : ad.block ≠ w.heap.size := by omega
  have hne2 : w.heap.size ≠ ad.block := by omega
  have hg1 : w1.heap.size ≠ w.heap.size := by have := I1.out.1.lt; omega
  have hg2 : w.heap.size ≠ w1.heap.size := by omega
  go_wp2_with fail
  refine wp_loop_rounds 5 ?_
  rw [rounds_succ]
  go_wp2_with fail
  rw [rounds_succ]
  go_wp2_with fail
  rw [rounds_succ]
  go_wp2_with fail
  rw [rounds_succ]
  go_wp2_with fail
  rw [rounds_succ]
  go_wp2_with fail
  have P3 : ApI w (m.plus a b c d) (some ad) [a, b, c, d] ((((w2.setCell ⟨w.heap.size, 0, none⟩ (.int .i64 (m.r + a))).setCell ⟨w.heap.size, 1, none⟩ (.int .i64 (m.ld + b))).setCell ⟨w.heap.size, 2, none⟩ (.int .i64 (m.lq + c))).setCell ⟨w.heap.size, 3, none⟩ (.int .i64 (m.fx + d))) := by
    have hw1 : w.heap.size + 1 ≠ w.heap.size := by omega
    refine ⟨(((I2.out.1.setCell 0 _).setCell 1 _).setCell 2 _).setCell 3 _, (((I2.out.2.1.setCell_ne hw1 _).setCell_ne hw1 _).setCell_ne hw1 _).setCell_ne hw1 _, ?_, below_put4 I2.out.2.2.2 (Nat.le_refl _) _ _ _ _⟩
    intro i hi
    obtain ⟨ad', e, hc⟩ := I2.out.2.2.1 i hi
    cases e
    refine ⟨ad, rfl, ?_⟩
    have hbl : ∀ j, (ad.add j).block = ad.block := fun j => by unfold Addr.add; split <;> rfl
    have k0 : (ad.add i).block ≠ w.heap.size := by rw [hbl]; exact hne
    refine Eq.trans ?_ hc
    refine (World.cell?_of_block (Below.heap_setCell _ _ _ _ k0)).trans ?_
    refine (World.cell?_of_block (Below.heap_setCell _ _ _ _ k0)).trans ?_
    refine (World.cell?_of_block (Below.heap_setCell _ _ _ _ k0)).trans ?_
    exact World.cell?_of_block (Below.heap_setCell _ _ _ _ k0)
  cases q
  · refine (Check_no (m.plus a b c d) _ hq).mono ?_
    rintro e w4 ⟨rfl, hb4⟩
    have I4 := Lib.hid (P3.below hb4)
    clear hb4 P3
    obtain ⟨r0, r1, r2, r3, r4, r5, r6, r7, r8, r9⟩ := motOf I4.out.2.1
    obtain ⟨g0, g1, g2, g3, g4, g5, g6, g7, g8, g9⟩ := freeMot I4.out.2.1
    go_wp2
    exact bodyPost_ret (v := .tuple #[.agg #[.int .i64 mot0.r, .int .i64 mot0.ld, .int .i64 mot0.lq, .int .i64 mot0.fx, .int .i64 mot0.po, .int .i64 mot0.mi, .int .i64 mot0.sp, .int .i64 mot0.dr, .int .i64 mot0.cu, .int .i64 mot0.fa], .int .i64 3]) (by simp [results, Try.results52, go_sem, r0, r1, r2, r3, r4, r5, r6, r7, r8, r9]; exact ⟨rfl, rfl, rfl, rfl, rfl, rfl, rfl, rfl, rfl, rfl⟩) rfl ⟨rfl, below_put10 I4.out.2.2.2 (by omega) _ _ _ _ _ _ _ _ _ _⟩
  · refine (Check_yes (m.plus a b c d) _ hq).mono ?_
    rintro e w4 ⟨rfl, hb4⟩
    have I4 := Lib.hid (P3.below hb4)
    clear hb4 P3 c0 c1 c2 c3 c4 c5 c6 c7 c8 c9
    obtain ⟨c0, c1, c2, c3, c4, c5, c6, c7, c8, c9⟩ := motOf I4.out.1
    obtain ⟨r0, r1, r2, r3, r4, r5, r6, r7, r8, r9⟩ := motOf I4.out.2.1
    obtain ⟨g0, g1, g2, g3, g4, g5, g6, g7, g8, g9⟩ := freeMot I4.out.2.1
    go_wp2
    refine bodyPost_ret (v := .tuple #[.agg #[.int .i64 (m.plus a b c d).r, .int .i64 (m.plus a b c d).ld, .int .i64 (m.plus a b c d).lq, .int .i64 (m.plus a b c d).fx, .int .i64 (m.plus a b c d).po, .int .i64 (m.plus a b c d).mi, .int .i64 (m.plus a b c d).sp, .int .i64 (m.plus a b c d).dr, .int .i64 (m.plus a b c d).cu, .int .i64 (m.plus a b c d).fa], .int .i64 0]) (by simp [results, Try.results52, go_sem, r0, r1, r2, r3, r4, r5, r6, r7, r8, r9]) rfl ⟨rfl, below_put10 I4.out.2.2.2 (by omega) _ _ _ _ _ _ _ _ _ _⟩
end Go.Proofs.Ytcneohhfnnelgaa
namespace Go.Proofs.Ytcneohhfnnelgaa
open Go.RowKit
set_option linter.unusedVariables false
theorem upB_four (m a b c d : Int) : upB m [a, b, c, d] = (upB m [a] && (upB m [b] && (upB m [c] && upB m [d]))) := by simp [upB]

set_option maxHeartbeats 2000000 in
set_option maxRecDepth 100000 in
theorem ApplyR_no1 (m : Mot) (A : Option Addr) (xs : List Int) (cap : Nat) (w : World) (hx : IntsAt w A xs) (hC : Dv.chkB m = false) :
    Calls Try.prog 53 #[.agg #[.int .i64 m.r, .int .i64 m.ld, .int .i64 m.lq, .int .i64 m.fx, .int .i64 m.po, .int .i64 m.mi, .int .i64 m.sp, .int .i64 m.dr, .int .i64 m.cu, .int .i64 m.fa], .slice A xs.length cap] w fun e w' => e = .returned (.tuple #[.agg #[.int .i64 mot0.r, .int .i64 mot0.ld, .int .i64 mot0.lq, .int .i64 mot0.fx, .int .i64 mot0.po, .int .i64 mot0.mi, .int .i64 mot0.sp, .int .i64 mot0.dr, .int .i64 mot0.cu, .int .i64 mot0.fa], .int .i64 2]) ∧ Below w.heap.size w w' := by
  have HX := Lib.hid hx
  clear hx
  go_enter Try.func53, Try.ntmps53
  go_wp2_with fail
  refine (CheckR_no m _ hC).mono ?_
  rintro e w2 ⟨rfl, hb2⟩
  have I2 := Lib.hid ((ApI.start (mm := m) HX.out).below hb2)
  clear hb2
  obtain ⟨r0, r1, r2, r3, r4, r5, r6, r7, r8, r9⟩ := motOf I2.out.2.1
  obtain ⟨g0, g1, g2, g3, g4, g5, g6, g7, g8, g9⟩ := freeMot I2.out.2.1
  go_wp2
  exact bodyPost_ret (v := .tuple #[.agg #[.int .i64 mot0.r, .int .i64 mot0.ld, .int .i64 mot0.lq, .int .i64 mot0.fx, .int .i64 mot0.po, .int .i64 mot0.mi, .int .i64 mot0.sp, .int .i64 mot0.dr, .int .i64 mot0.cu, .int .i64 mot0.fa], .int .i64 2]) (by simp [results, Try.results53, go_sem, r0, r1, r2, r3, r4, r5, r6, r7, r8, r9]; exact ⟨rfl, rfl, rfl, rfl, rfl, rfl, rfl, rfl, rfl, rfl⟩) rfl ⟨rfl, below_put10 I2.out.2.2.2 (by omega) _ _ _ _ _ _ _ _ _ _⟩

set_option maxHeartbeats 2000000 in
set_option maxRecDepth 100000 in
theorem ApplyR_no2 (m : Mot) (A : Option Addr) (xs : List Int) (cap : Nat) (w : World) (hx : IntsAt w A xs) (hC : Dv.chkB m = true) (hl : ((xs.length : Int) != 4) = true) :
    Calls Try.prog 53 #[.agg #[.int .i64 m.r, .int .i64 m.ld, .int .i64 m.lq, .int .i64 m.fx, .int .i64 m.po, .int .i64 m.mi, .int .i64 m.sp, .int .i64 m.dr, .int .i64 m.cu, .int .i64 m.fa], .slice A xs.length cap] w fun e w' => e = .returned (.tuple #[.agg #[.int .i64 mot0.r, .int .i64 mot0.ld, .int .i64 mot0.lq, .int .i64 mot0.fx, .int .i64 mot0.po, .int .i64 mot0.mi, .int .i64 mot0.sp, .int .i64 mot0.dr, .int .i64 mot0.cu, .int .i64 mot0.fa], .int .i64 2]) ∧ Below w.heap.size w w' := by
  have HX := Lib.hid hx
  clear hx
  go_enter Try.func53, Try.ntmps53
  go_wp2_with fail
  refine (CheckR_yes m _ hC).mono ?_
  rintro e w2 ⟨rfl, hb2⟩
  have I2 := Lib.hid ((ApI.start (mm := m) HX.out).below hb2)
  clear hb2
  obtain ⟨r0, r1, r2, r3, r4, r5, r6, r7, r8, r9⟩ := motOf I2.out.2.1
  obtain ⟨g0, g1, g2, g3, g4, g5, g6, g7, g8, g9⟩ := freeMot I2.out.2.1
  go_wp2
  exact bodyPost_ret (v := .tuple #[.agg #[.int .i64 mot0.r, .int .i64 mot0.ld, .int .i64 mot0.lq, .int .i64 mot0.fx, .int .i64 mot0.po, .int .i64 mot0.mi, .int .i64 mot0.sp, .int .i64 mot0.dr, .int .i64 mot0.cu, .int .i64 mot0.fa], .int .i64 2]) (by simp [results, Try.results53, go_sem, r0, r1, r2, r3, r4, r5, r6, r7, r8, r9]; exact ⟨rfl, rfl, rfl, rfl, rfl, rfl, rfl, rfl, rfl, rfl⟩) rfl ⟨rfl, below_put10 I2.out.2.2.2 (by omega) _ _ _ _ _ _ _ _ _ _⟩

set_option maxHeartbeats 2000000 in
set_option maxRecDepth 100000 in
theorem ApplyR_no30 (m : Mot) (A : Option Addr) (a b c d : Int) (cap : Nat) (w : World) (hx : IntsAt w A [a, b, c, d]) (hC : Dv.chkB m = true) (h0 : upB 1099511627776 [a] = false) :
    Calls Try.prog 53 #[.agg #[.int .i64 m.r, .int .i64 m.ld, .int .i64 m.lq, .int .i64 m.fx, .int .i64 m.po, .int .i64 m.mi, .int .i64 m.sp, .int .i64 m.dr, .int .i64 m.cu, .int .i64 m.fa], .slice A 4 cap] w fun e w' => e = .returned (.tuple #[.agg #[.int .i64 mot0.r, .int .i64 mot0.ld, .int .i64 mot0.lq, .int .i64 mot0.fx, .int .i64 mot0.po, .int .i64 mot0.mi, .int .i64 mot0.sp, .int .i64 mot0.dr, .int .i64 mot0.cu, .int .i64 mot0.fa], .int .i64 2]) ∧ Below w.heap.size w w' := by
  have HX := Lib.hid hx
  clear hx
  go_enter Try.func53, Try.ntmps53
  go_wp2_with fail
  refine (CheckR_yes m _ hC).mono ?_
  rintro e w2 ⟨rfl, hb2⟩
  have I2 := Lib.hid ((ApI.start (mm := m) HX.out).below hb2)
  clear hb2
  obtain ⟨r0, r1, r2, r3, r4, r5, r6, r7, r8, r9⟩ := motOf I2.out.2.1
  obtain ⟨g0, g1, g2, g3, g4, g5, g6, g7, g8, g9⟩ := freeMot I2.out.2.1
  obtain ⟨ad, rfl, zad, x0, x1, x2, x3⟩ := I2.out.2.2.1.four
  go_wp2_with fail
  refine wp_loop_rounds 5 ?_
  rw [rounds_succ]
  go_wp2_with (go_at_call 78; refine (quantity_c _ _).mono ?_; rintro e w' ⟨rfl, rfl⟩)
  exact bodyPost_ret (v := .tuple #[.agg #[.int .i64 mot0.r, .int .i64 mot0.ld, .int .i64 mot0.lq, .int .i64 mot0.fx, .int .i64 mot0.po, .int .i64 mot0.mi, .int .i64 mot0.sp, .int .i64 mot0.dr, .int .i64 mot0.cu, .int .i64 mot0.fa], .int .i64 2]) (by simp [results, Try.results53, go_sem, r0, r1, r2, r3, r4, r5, r6, r7, r8, r9]; exact ⟨rfl, rfl, rfl, rfl, rfl, rfl, rfl, rfl, rfl, rfl⟩) rfl ⟨rfl, below_put10 I2.out.2.2.2 (by omega) _ _ _ _ _ _ _ _ _ _⟩

set_option maxHeartbeats 2000000 in
set_option maxRecDepth 100000 in
theorem ApplyR_no31 (m : Mot) (A : Option Addr) (a b c d : Int) (cap : Nat) (w : World) (hx : IntsAt w A [a, b, c, d]) (hC : Dv.chkB m = true) (h0 : upB 1099511627776 [a] = true) (h1 : upB 1099511627776 [b] = false) :
    Calls Try.prog 53 #[.agg #[.int .i64 m.r, .int .i64 m.ld, .int .i64 m.lq, .int .i64 m.fx, .int .i64 m.po, .int .i64 m.mi, .int .i64 m.sp, .int .i64 m.dr, .int .i64 m.cu, .int .i64 m.fa], .slice A 4 cap] w fun e w' => e = .returned (.tuple #[.agg #[.int .i64 mot0.r, .int .i64 mot0.ld, .int .i64 mot0.lq, .int .i64 mot0.fx, .int .i64 mot0.po, .int .i64 mot0.mi, .int .i64 mot0.sp, .int .i64 mot0.dr, .int .i64 mot0.cu, .int .i64 mot0.fa], .int .i64 2]) ∧ Below w.heap.size w w' := by
  have HX := Lib.hid hx
  clear hx
  go_enter Try.func53, Try.ntmps53
  go_wp2_with fail
  refine (CheckR_yes m _ hC).mono ?_
  rintro e w2 ⟨rfl, hb2⟩
  have I2 := Lib.hid ((ApI.start (mm := m) HX.out).below hb2)
  clear hb2
  obtain ⟨r0, r1, r2, r3, r4, r5, r6, r7, r8, r9⟩ := motOf I2.out.2.1
  obtain ⟨g0, g1, g2, g3, g4, g5, g6, g7, g8, g9⟩ := freeMot I2.out.2.1
  obtain ⟨ad, rfl, zad, x0, x1, x2, x3⟩ := I2.out.2.2.1.four
  go_wp2_with fail
  refine wp_loop_rounds 5 ?_
  rw [rounds_succ]
  go_wp2_with (go_at_call 78; refine (quantity_c _ _).mono ?_; rintro e w' ⟨rfl, rfl⟩)
  rw [rounds_succ]
  go_wp2_with (go_at_call 78; refine (quantity_c _ _).mono ?_; rintro e w' ⟨rfl, rfl⟩)
  exact bodyPost_ret (v := .tuple #[.agg #[.int .i64 mot0.r, .int .i64 mot0.ld, .int .i64 mot0.lq, .int .i64 mot0.fx, .int .i64 mot0.po, .int .i64 mot0.mi, .int .i64 mot0.sp, .int .i64 mot0.dr, .int .i64 mot0.cu, .int .i64 mot0.fa], .int .i64 2]) (by simp [results, Try.results53, go_sem, r0, r1, r2, r3, r4, r5, r6, r7, r8, r9]; exact ⟨rfl, rfl, rfl, rfl, rfl, rfl, rfl, rfl, rfl, rfl⟩) rfl ⟨rfl, below_put10 I2.out.2.2.2 (by omega) _ _ _ _ _ _ _ _ _ _⟩

set_option maxHeartbeats 2000000 in
set_option maxRecDepth 100000 in
theorem ApplyR_no32 (m : Mot) (A : Option Addr) (a b c d : Int) (cap : Nat) (w : World) (hx : IntsAt w A [a, b, c, d]) (hC : Dv.chkB m = true) (h0 : upB 1099511627776 [a] = true) (h1 : upB 1099511627776 [b] = true) (h2 : upB 1099511627776 [c] = false) :
    Calls Try.prog 53 #[.agg #[.int .i64 m.r, .int .i64 m.ld, .int .i64 m.lq, .int .i64 m.fx, .int .i64 m.po, .int .i64 m.mi, .int .i64 m.sp, .int .i64 m.dr, .int .i64 m.cu, .int .i64 m.fa], .slice A 4 cap] w fun e w' => e = .returned (.tuple #[.agg #[.int .i64 mot0.r, .int .i64 mot0.ld, .int .i64 mot0.lq, .int .i64 mot0.fx, .int .i64 mot0.po, .int .i64 mot0.mi, .int .i64 mot0.sp, .int .i64 mot0.dr, .int .i64 mot0.cu, .int .i64 mot0.fa], .int .i64 2]) ∧ Below w.heap.size w w' := by
  have HX := Lib.hid hx
  clear hx
  go_enter Try.func53, Try.ntmps53
  go_wp2_with fail
  refine (CheckR_yes m _ hC).mono ?_
  rintro e w2 ⟨rfl, hb2⟩
  have I2 := Lib.hid ((ApI.start (mm := m) HX.out).below hb2)
  clear hb2
  obtain ⟨r0, r1, r2, r3, r4, r5, r6, r7, r8, r9⟩ := motOf I2.out.2.1
  obtain ⟨g0, g1, g2, g3, g4, g5, g6, g7, g8, g9⟩ := freeMot I2.out.2.1
  obtain ⟨ad, rfl, zad, x0, x1, x2, x3⟩ := I2.out.2.2.1.four
  go_wp2_with fail
  refine wp_loop_rounds 5 ?_
  rw [rounds_succ]
  go_wp2_with (go_at_call 78; refine (quantity_c _ _).mono ?_; rintro e w' ⟨rfl, rfl⟩)
  rw [rounds_succ]
  go_wp2_with (go_at_call 78; refine (quantity_c _ _).mono ?_; rintro e w' ⟨rfl, rfl⟩)
  rw [rounds_succ]
  go_wp2_with (go_at_call 78; refine (quantity_c _ _).mono ?_; rintro e w' ⟨rfl, rfl⟩)
  exact bodyPost_ret (v := .tuple #[.agg #[.int .i64 mot0.r, .int .i64 mot0.ld, .int .i64 mot0.lq, .int .i64 mot0.fx, .int .i64 mot0.po, .int .i64 mot0.mi, .int .i64 mot0.sp, .int .i64 mot0.dr, .int .i64 mot0.cu, .int .i64 mot0.fa], .int .i64 2]) (by simp [results, Try.results53, go_sem, r0, r1, r2, r3, r4, r5, r6, r7, r8, r9]; exact ⟨rfl, rfl, rfl, rfl, rfl, rfl, rfl, rfl, rfl, rfl⟩) rfl ⟨rfl, below_put10 I2.out.2.2.2 (by omega) _ _ _ _ _ _ _ _ _ _⟩

set_option maxHeartbeats 2000000 in
set_option maxRecDepth 100000 in
theorem ApplyR_no33 (m : Mot) (A : Option Addr) (a b c d : Int) (cap : Nat) (w : World) (hx : IntsAt w A [a, b, c, d]) (hC : Dv.chkB m = true) (h0 : upB 1099511627776 [a] = true) (h1 : upB 1099511627776 [b] = true) (h2 : upB 1099511627776 [c] = true) (h3 : upB 1099511627776 [d] = false) :
    Calls Try.prog 53 #[.agg #[.int .i64 m.r, .int .i64 m.ld, .int .i64 m.lq, .int .i64 m.fx, .int .i64 m.po, .int .i64 m.mi, .int .i64 m.sp, .int .i64 m.dr, .int .i64 m.cu, .int .i64 m.fa], .slice A 4 cap] w fun e w' => e = .returned (.tuple #[.agg #[.int .i64 mot0.r, .int .i64 mot0.ld, .int .i64 mot0.lq, .int .i64 mot0.fx, .int .i64 mot0.po, .int .i64 mot0.mi, .int .i64 mot0.sp, .int .i64 mot0.dr, .int .i64 mot0.cu, .int .i64 mot0.fa], .int .i64 2]) ∧ Below w.heap.size w w' := by
  have HX := Lib.hid hx
  clear hx
  go_enter Try.func53, Try.ntmps53
  go_wp2_with fail
  refine (CheckR_yes m _ hC).mono ?_
  rintro e w2 ⟨rfl, hb2⟩
  have I2 := Lib.hid ((ApI.start (mm := m) HX.out).below hb2)
  clear hb2
  obtain ⟨r0, r1, r2, r3, r4, r5, r6, r7, r8, r9⟩ := motOf I2.out.2.1
  obtain ⟨g0, g1, g2, g3, g4, g5, g6, g7, g8, g9⟩ := freeMot I2.out.2.1
  obtain ⟨ad, rfl, zad, x0, x1, x2, x3⟩ := I2.out.2.2.1.four
  go_wp2_with fail
  refine wp_loop_rounds 5 ?_
  rw [rounds_succ]
  go_wp2_with (go_at_call 78; refine (quantity_c _ _).mono ?_; rintro e w' ⟨rfl, rfl⟩)
  rw [rounds_succ]
  go_wp2_with (go_at_call 78; refine (quantity_c _ _).mono ?_; rintro e w' ⟨rfl, rfl⟩)
  rw [rounds_succ]
  go_wp2_with (go_at_call 78; refine (quantity_c _ _).mono ?_; rintro e w' ⟨rfl, rfl⟩)
  rw [rounds_succ]
  go_wp2_with (go_at_call 78; refine (quantity_c _ _).mono ?_; rintro e w' ⟨rfl, rfl⟩)
  exact bodyPost_ret (v := .tuple #[.agg #[.int .i64 mot0.r, .int .i64 mot0.ld, .int .i64 mot0.lq, .int .i64 mot0.fx, .int .i64 mot0.po, .int .i64 mot0.mi, .int .i64 mot0.sp, .int .i64 mot0.dr, .int .i64 mot0.cu, .int .i64 mot0.fa], .int .i64 2]) (by simp [results, Try.results53, go_sem, r0, r1, r2, r3, r4, r5, r6, r7, r8, r9]; exact ⟨rfl, rfl, rfl, rfl, rfl, rfl, rfl, rfl, rfl, rfl⟩) rfl ⟨rfl, below_put10 I2.out.2.2.2 (by omega) _ _ _ _ _ _ _ _ _ _⟩

set_option maxHeartbeats 4000000 in
set_option maxRecDepth 100000 in
theorem ApplyR_go (m : Mot) (A : Option Addr) (a b c d : Int) (cap : Nat) (w : World) (hx : IntsAt w A [a, b, c, d]) (hC : Dv.chkB m = true) (h0 : upB 1099511627776 [a] = true) (h1 : upB 1099511627776 [b] = true) (h2 : upB 1099511627776 [c] = true) (h3 : upB 1099511627776 [d] = true) (q : Bool) (hq : Dv.chkB (m.plus a b c d) = q) :
    Calls Try.prog 53 #[.agg #[.int .i64 m.r, .int .i64 m.ld, .int .i64 m.lq, .int .i64 m.fx, .int .i64 m.po, .int .i64 m.mi, .int .i64 m.sp, .int .i64 m.dr, .int .i64 m.cu, .int .i64 m.fa], .slice A 4 cap] w fun e w' => e = .returned (.tuple #[.agg #[.int .i64 (if q = true then m.plus a b c d else mot0).r, .int .i64 (if q = true then m.plus a b c d else mot0).ld, .int .i64 (if q = true then m.plus a b c d else mot0).lq, .int .i64 (if q = true then m.plus a b c d else mot0).fx, .int .i64 (if q = true then m.plus a b c d else mot0).po, .int .i64 (if q = true then m.plus a b c d else mot0).mi, .int .i64 (if q = true then m.plus a b c d else mot0).sp, .int .i64 (if q = true then m.plus a b c d else mot0).dr, .int .i64 (if q = true then m.plus a b c d else mot0).cu, .int .i64 (if q = true then m.plus a b c d else mot0).fa], .int .i64 (if q = true then 0 else 3)]) ∧ Below w.heap.size w w' := by
  have HK := Lib.hid (Dv.chkB_iff.1 hC)
  have HX := Lib.hid hx
  clear hx
  go_enter Try.func53, Try.ntmps53
  go_wp2_with fail
  refine (CheckR_yes m _ hC).mono ?_
  rintro e w2 ⟨rfl, hb2⟩
  have I2 := Lib.hid ((ApI.start (mm := m) HX.out).below hb2)
  clear hb2
  obtain ⟨ad, rfl, i4⟩ := I2.out.2.2.1.four
  have X4 := Lib.hid i4
  obtain ⟨zad, x0, x1, x2, x3⟩ := i4
  obtain ⟨c0, c1, c2, c3, c4, c5, c6, c7, c8, c9⟩ := motOf I2.out.1
  go_wp2_with fail
  refine wp_loop_rounds 5 ?_
  rw [rounds_succ]
  go_wp2_with (go_at_call 78; refine (quantity_c _ _).mono ?_; rintro e w' ⟨rfl, rfl⟩)
  rw [rounds_succ]
  go_wp2_with (go_at_call 78; refine (quantity_c _ _).mono ?_; rintro e w' ⟨rfl, rfl⟩)
  rw [rounds_succ]
  go_wp2_with (go_at_call 78; refine (quantity_c _ _).mono ?_; rintro e w' ⟨rfl, rfl⟩)
  rw [rounds_succ]
  go_wp2_with (go_at_call 78; refine (quantity_c _ _).mono ?_; rintro e w' ⟨rfl, rfl⟩)
  rw [rounds_succ]
  go_wp2_with (go_at_call 78; refine (quantity_c _ _).mono ?_; rintro e w' ⟨rfl, rfl⟩)
  refine (plus_c m a b c d ad cap w2 HK.out X4.out (upB1.1 h0) (upB1.1 h1) (upB1.1 h2) (upB1.1 h3)).mono ?_
  rintro e w3 ⟨rfl, hb3⟩
  have I3 := Lib.hid (I2.out.below hb3)
  clear hb3 c0 c1 c2 c3 c4 c5 c6 c7 c8 c9 zad x0 x1 x2 x3 X4
  go_wp2_with fail
  cases q
  · refine (CheckR_no (m.plus a b c d) _ hq).mono ?_
    rintro e w4 ⟨rfl, hb4⟩
    have I4 := Lib.hid (I3.out.below hb4)
    clear hb4
    obtain ⟨r0, r1, r2, r3, r4, r5, r6, r7, r8, r9⟩ := motOf I4.out.2.1
    obtain ⟨g0, g1, g2, g3, g4, g5, g6, g7, g8, g9⟩ := freeMot I4.out.2.1
    go_wp2
    exact bodyPost_ret (v := .tuple #[.agg #[.int .i64 mot0.r, .int .i64 mot0.ld, .int .i64 mot0.lq, .int .i64 mot0.fx, .int .i64 mot0.po, .int .i64 mot0.mi, .int .i64 mot0.sp, .int .i64 mot0.dr, .int .i64 mot0.cu, .int .i64 mot0.fa], .int .i64 3]) (by simp [results, Try.results53, go_sem, r0, r1, r2, r3, r4, r5, r6, r7, r8, r9]; exact ⟨rfl, rfl, rfl, rfl, rfl, rfl, rfl, rfl, rfl, rfl⟩) rfl ⟨rfl, below_put10 I4.out.2.2.2 (by omega) _ _ _ _ _ _ _ _ _ _⟩
  · refine (CheckR_yes (m.plus a b c d) _ hq).mono ?_
    rintro e w4 ⟨rfl, hb4⟩
    have I4 := Lib.hid (I3.out.below hb4)
    clear hb4
    obtain ⟨c0, c1, c2, c3, c4, c5, c6, c7, c8, c9⟩ := motOf I4.out.1
    obtain ⟨ad', e', x4⟩ := I4.out.2.2.1.four
    cases e'
    have X4 := Lib.hid x4
    clear x4
    go_wp2_with fail
    refine (plus_c m a b c d ad cap w4 HK.out X4.out (upB1.1 h0) (upB1.1 h1) (upB1.1 h2) (upB1.1 h3)).mono ?_
    rintro e w5 ⟨rfl, hb5⟩
    have I5 := Lib.hid (I4.out.below hb5)
    clear hb5 c0 c1 c2 c3 c4 c5 c6 c7 c8 c9
    obtain ⟨r0, r1, r2, r3, r4, r5, r6, r7, r8, r9⟩ := motOf I5.out.2.1
    obtain ⟨g0, g1, g2, g3, g4, g5, g6, g7, g8, g9⟩ := freeMot I5.out.2.1
    go_wp2
    refine bodyPost_ret (v := .tuple #[.agg #[.int .i64 (m.plus a b c d).r, .int .i64 (m.plus a b c d).ld, .int .i64 (m.plus a b c d).lq, .int .i64 (m.plus a b c d).fx, .int .i64 (m.plus a b c d).po, .int .i64 (m.plus a b c d).mi, .int .i64 (m.plus a b c d).sp, .int .i64 (m.plus a b c d).dr, .int .i64 (m.plus a b c d).cu, .int .i64 (m.plus a b c d).fa], .int .i64 0]) (by simp [results, Try.results53, go_sem, r0, r1, r2, r3, r4, r5, r6, r7, r8, r9]; exact ⟨rfl, rfl, rfl, rfl, rfl, rfl⟩) rfl ⟨rfl, below_put10 I5.out.2.2.2 (by omega) _ _ _ _ _ _ _ _ _ _⟩

theorem Apply_c (m : Mot) (A : Option Addr) (xs : List Int) (cap : Nat) (w : World) (hx : IntsAt w A xs) (hll : xs.length ≤ 4611686018427387904) :
    Calls Try.prog 52 #[.agg #[.int .i64 m.r, .int .i64 m.ld, .int .i64 m.lq, .int .i64 m.fx, .int .i64 m.po, .int .i64 m.mi, .int .i64 m.sp, .int .i64 m.dr, .int .i64 m.cu, .int .i64 m.fa], .slice A xs.length cap] w fun e w' => e = .returned (.tuple #[.agg #[.int .i64 (Dv.apR m xs).1.r, .int .i64 (Dv.apR m xs).1.ld, .int .i64 (Dv.apR m xs).1.lq, .int .i64 (Dv.apR m xs).1.fx, .int .i64 (Dv.apR m xs).1.po, .int .i64 (Dv.apR m xs).1.mi, .int .i64 (Dv.apR m xs).1.sp, .int .i64 (Dv.apR m xs).1.dr, .int .i64 (Dv.apR m xs).1.cu, .int .i64 (Dv.apR m xs).1.fa], .int .i64 (Dv.apR m xs).2]) ∧ Below w.heap.size w w' := by
  cases hC : Dv.chkB m
  · exact (Apply_no1 m A xs cap w hx hC).mono fun _ _ ⟨h1, h2⟩ => ⟨by rw [h1]; simp [Dv.apR, Dv.apB, hC], h2⟩
  · by_cases hl : xs.length = 4
    · obtain ⟨a, b, c, d, rfl⟩ : ∃ a b c d, xs = [a, b, c, d] := by
        match xs, hl with
        | [a, b, c, d], _ => exact ⟨a, b, c, d, rfl⟩
      cases hu : upB 1099511627776 [a, b, c, d]
      · exact (Apply_no3 m A [a, b, c, d] cap w hx hC (by simp) (by simp) hu).mono fun _ _ ⟨h1, h2⟩ => ⟨by rw [h1]; simp [Dv.apR, Dv.apB, hC, hu], h2⟩
      · cases hq : Dv.chkB (m.plus a b c d)
        · exact (Apply_go m A a b c d cap w hx hC hu _ hq).mono fun _ _ ⟨h1, h2⟩ => ⟨by rw [h1]; simp [Dv.apR, Dv.apB, Dv.apM, hC, hu, hq], h2⟩
        · exact (Apply_go m A a b c d cap w hx hC hu _ hq).mono fun _ _ ⟨h1, h2⟩ => ⟨by rw [h1]; simp [Dv.apR, Dv.apB, Dv.apM, hC, hu, hq], h2⟩
    · exact (Apply_no2 m A xs cap w hx hC (by simp; omega)).mono fun _ _ ⟨h1, h2⟩ => ⟨by rw [h1]; simp [Dv.apR, Dv.apB, hC, hl], h2⟩

theorem ApplyR_c (m : Mot) (A : Option Addr) (xs : List Int) (cap : Nat) (w : World) (hx : IntsAt w A xs) (hll : xs.length ≤ 4611686018427387904) :
    Calls Try.prog 53 #[.agg #[.int .i64 m.r, .int .i64 m.ld, .int .i64 m.lq, .int .i64 m.fx, .int .i64 m.po, .int .i64 m.mi, .int .i64 m.sp, .int .i64 m.dr, .int .i64 m.cu, .int .i64 m.fa], .slice A xs.length cap] w fun e w' => e = .returned (.tuple #[.agg #[.int .i64 (Dv.apR m xs).1.r, .int .i64 (Dv.apR m xs).1.ld, .int .i64 (Dv.apR m xs).1.lq, .int .i64 (Dv.apR m xs).1.fx, .int .i64 (Dv.apR m xs).1.po, .int .i64 (Dv.apR m xs).1.mi, .int .i64 (Dv.apR m xs).1.sp, .int .i64 (Dv.apR m xs).1.dr, .int .i64 (Dv.apR m xs).1.cu, .int .i64 (Dv.apR m xs).1.fa], .int .i64 (Dv.apR m xs).2]) ∧ Below w.heap.size w w' := by
  cases hC : Dv.chkB m
  · exact (ApplyR_no1 m A xs cap w hx hC).mono fun _ _ ⟨h1, h2⟩ => ⟨by rw [h1]; simp [Dv.apR, Dv.apB, hC], h2⟩
  · by_cases hl : xs.length = 4
    · obtain ⟨a, b, c, d, rfl⟩ : ∃ a b c d, xs = [a, b, c, d] := by
        match xs, hl with
        | [a, b, c, d], _ => exact ⟨a, b, c, d, rfl⟩
      cases h0 : upB 1099511627776 [a]
      · exact (ApplyR_no30 m A a b c d cap w hx hC h0).mono fun _ _ ⟨h, h'⟩ => ⟨by rw [h]; simp [Dv.apR, Dv.apB, upB_four, hC, h0], h'⟩
      · skip
        cases h1 : upB 1099511627776 [b]
        · exact (ApplyR_no31 m A a b c d cap w hx hC h0 h1).mono fun _ _ ⟨h, h'⟩ => ⟨by rw [h]; simp [Dv.apR, Dv.apB, upB_four, hC, h0, h1], h'⟩
        · skip
          cases h2 : upB 1099511627776 [c]
          · exact (ApplyR_no32 m A a b c d cap w hx hC h0 h1 h2).mono fun _ _ ⟨h, h'⟩ => ⟨by rw [h]; simp [Dv.apR, Dv.apB, upB_four, hC, h0, h1, h2], h'⟩
          · skip
            cases h3 : upB 1099511627776 [d]
            · exact (ApplyR_no33 m A a b c d cap w hx hC h0 h1 h2 h3).mono fun _ _ ⟨h, h'⟩ => ⟨by rw [h]; simp [Dv.apR, Dv.apB, upB_four, hC, h0, h1, h2, h3], h'⟩
            · skip
              cases hq : Dv.chkB (m.plus a b c d)
              · exact (ApplyR_go m A a b c d cap w hx hC h0 h1 h2 h3 _ hq).mono fun _ _ ⟨h, h'⟩ => ⟨by rw [h]; simp [Dv.apR, Dv.apB, Dv.apM, upB_four, hC, h0, h1, h2, h3, hq], h'⟩
              · exact (ApplyR_go m A a b c d cap w hx hC h0 h1 h2 h3 _ hq).mono fun _ _ ⟨h, h'⟩ => ⟨by rw [h]; simp [Dv.apR, Dv.apB, Dv.apM, upB_four, hC, h0, h1, h2, h3, hq], h'⟩
    · exact (ApplyR_no2 m A xs cap w hx hC (by simp; omega)).mono fun _ _ ⟨h1, h2⟩ => ⟨by rw [h1]; simp [Dv.apR, Dv.apB, hC, hl], h2⟩
end Go.Proofs.Ytcneohhfnnelgaa
namespace Go.Proofs.Ytcneohhfnnelgaa
set_option linter.unusedVariables false
namespace Dv
/-- the first number up to N for which something holds -/
def wkV (f : Nat → Bool) (N : Nat) : Option Nat := (List.range (N + 1)).find? f
theorem wkV_some {f : Nat → Bool} {N n : Nat} (h : f n = true) (h0 : ∀ j, j < n → f j = false) (hn : n ≤ N) : wkV f N = some n := by
  unfold wkV
  rw [List.find?_range_eq_some]
  exact ⟨h, by simp; omega, fun j hj => by simp [h0 j hj]⟩
theorem wkV_none {f : Nat → Bool} {N : Nat} (h : ∀ j, j ≤ N → f j = false) : wkV f N = none := by
  unfold wkV
  rw [List.find?_eq_none]
  intro j hj
  simp at hj
  simp [h j (by omega)]
theorem wkV_spec {f : Nat → Bool} {N n : Nat} (h : wkV f N = some n) : f n = true ∧ n ≤ N ∧ ∀ j, j < n → f j = false := by
  unfold wkV at h
  rw [List.find?_range_eq_some] at h
  obtain ⟨h1, h2, h3⟩ := h
  exact ⟨h1, by simp at h2; omega, fun j hj => by simpa using h3 j hj⟩
theorem wkV_spec_none {f : Nat → Bool} {N : Nat} (h : wkV f N = none) (j : Nat) (hj : j ≤ N) : f j = false := by
  unfold wkV at h
  rw [List.find?_eq_none] at h
  have := h j (by simp; omega)
  simpa using this

def Mono (x : Nat → Int) : Prop := (∀ i j, i ≤ j → x i ≤ x j) ∨ (∀ i j, i ≤ j → x j ≤ x i)
def inR (room x : Int) : Prop := -room ≤ x ∧ x ≤ room
def side (room x0 x : Int) : Prop := (room < x0 ∧ room < x) ∨ (x0 < -room ∧ x < -room)
theorem side_prefix {x : Nat → Int} {room : Int} (hm : Mono x) {i j : Nat} (hij : i ≤ j) (h : side room (x 0) (x j)) : side room (x 0) (x i) := by
  rcases hm with hm | hm
  · have h1 := hm 0 i (Nat.zero_le _)
    have h2 := hm i j hij
    unfold side at *
    omega
  · have h1 := hm 0 i (Nat.zero_le _)
    have h2 := hm i j hij
    unfold side at *
    omega
theorem side_not {room x0 x : Int} (h : side room x0 x) : ¬ inR room x := by unfold side at h; unfold inR; omega
theorem past {x : Nat → Int} {room : Int} (hm : Mono x) (hr : 0 ≤ room) {i j : Nat} (hij : i ≤ j) (h : ¬ side room (x 0) (x i)) (h2 : ¬ inR room (x i)) : ¬ inR room (x j) := by
  rcases hm with hm | hm
  · have h1 := hm 0 i (Nat.zero_le _)
    have h3 := hm i j hij
    unfold side at h
    unfold inR at *
    omega
  · have h1 := hm 0 i (Nat.zero_le _)
    have h3 := hm i j hij
    unfold side at h
    unfold inR at *
    omega
/-- what the search by halves leaves -/
theorem weaken_plain {x y : Nat → Int} {room : Int} (hx : Mono x) (hy : Mono y) (hr : 0 ≤ room) (f : Nat → Bool) (hf : ∀ n, f n = true ↔ inR room (x n) ∧ inR room (y n)) (N r : Nat) (hN : r ≤ N)
    (h1 : r = 0 ∨ (side room (x 0) (x (r - 1)) ∨ side room (y 0) (y (r - 1)))) (h2 : r = N ∨ ¬ (side room (x 0) (x r) ∨ side room (y 0) (y r))) : wkV f N = if f r = true then some r else none := by
  have hf' : ∀ n, f n = false ↔ ¬ (inR room (x n) ∧ inR room (y n)) := by
    intro n
    rw [← hf n]
    cases f n <;> simp
  have low : ∀ j, j < r → f j = false := by
    intro j hj
    rw [hf']
    rintro ⟨a, b⟩
    rcases h1 with h1 | h1 | h1
    · omega
    · exact side_not (side_prefix hx (by omega) h1) a
    · exact side_not (side_prefix hy (by omega) h1) b
  by_cases hfr : f r = true
  · rw [if_pos hfr]
    exact wkV_some hfr low hN
  · rw [if_neg hfr]
    refine wkV_none fun j hj => ?_
    by_cases hjr : j < r
    · exact low j hjr
    · rcases h2 with h2 | h2
      · obtain rfl : j = r := by omega
        simpa using hfr
      · have hfr' : f r = false := by simpa using hfr
        rw [hf'] at hfr' ⊢
        rintro ⟨a, b⟩
        have h3 : ¬ side room (x 0) (x r) ∧ ¬ side room (y 0) (y r) := ⟨fun e => h2 (.inl e), fun e => h2 (.inr e)⟩
        by_cases hxr : inR room (x r)
        · exact past hy hr (show r ≤ j by omega) h3.2 (fun hyr => hfr' ⟨hxr, hyr⟩) b
        · exact past hx hr (show r ≤ j by omega) h3.1 hxr a
end Dv
end Go.Proofs.Ytcneohhfnnelgaa
namespace Go.Proofs.Ytcneohhfnnelgaa
open Go.RowKit
set_option linter.unusedVariables false
namespace Dv
def roomV (u : Int) : Int := u * 26755 / 65536
def RoomV (u : Int) : Int := if busB u = true then roomV u else 0
def RoomE (u : Int) : Int := if busB u = true then 0 else 3
theorem busB_iff {u : Int} : busB u = true ↔ 1 ≤ u ∧ u ≤ 1073741824 := by simp [busB, inB]
theorem roomV_bd {u : Int} (h : 1 ≤ u ∧ u ≤ 1073741824) : 0 ≤ roomV u ∧ roomV u ≤ 1073741824 := by unfold roomV; omega
end Dv
theorem room_c (u : Int) (w : World) (h : 1 ≤ u ∧ u ≤ 1073741824) : Calls Try.prog 96 #[.int .i64 u] w fun e w' => e = .returned (.int .i64 (Dv.roomV u)) ∧ w = w' := by
  go_enter Try.func96, Try.ntmps96
  go_wp2
  go_ret
  exact ⟨rfl, rfl⟩
theorem Room_c (u : Int) (w : World) : Calls Try.prog 54 #[.int .i64 u] w fun e w' => e = .returned (.tuple #[.int .i64 (Dv.RoomV u), .int .i64 (Dv.RoomE u)]) ∧ w = w' := by
  by_cases h1 : 1 ≤ u
  · by_cases h2 : u ≤ 1073741824
    · have E := Lib.hid (show Dv.RoomV u = Dv.roomV u ∧ Dv.RoomE u = 0 from by simp [Dv.RoomV, Dv.RoomE, Dv.busB, Dv.inB, h1, h2])
      go_enter Try.func54, Try.ntmps54
      go_wp2_with (go_at_call 96; refine (room_c u _ ⟨h1, h2⟩).mono ?_; rintro e w' ⟨rfl, rfl⟩)
      go_ret2
      exact ⟨ret2_int E.out.1.symm E.out.2.symm, rfl⟩
    · have E := Lib.hid (show Dv.RoomV u = 0 ∧ Dv.RoomE u = 3 from by simp [Dv.RoomV, Dv.RoomE, Dv.busB, Dv.inB, h1, h2])
      go_enter Try.func54, Try.ntmps54
      go_wp2
      go_ret2
      exact ⟨ret2_int E.out.1.symm E.out.2.symm, rfl⟩
  · have E := Lib.hid (show Dv.RoomV u = 0 ∧ Dv.RoomE u = 3 from by simp [Dv.RoomV, Dv.RoomE, Dv.busB, Dv.inB, h1])
    go_enter Try.func54, Try.ntmps54
    go_wp2
    go_ret2
    exact ⟨ret2_int E.out.1.symm E.out.2.symm, rfl⟩

end Go.Proofs.Ytcneohhfnnelgaa
namespace Go.Proofs.Ytcneohhfnnelgaa
open Go.RowKit
set_option linter.unusedVariables false

theorem ceil_c (n d : Int) (w : World) (hd : 1 ≤ d) (h0 : -4611686018427387904 ≤ n) (h1 : n ≤ 4611686018427387904) :
    Calls Try.prog 112 #[.int .i64 n, .int .i64 d] w fun e w' => e = .returned (.int .i64 (-(-n / d))) ∧ w = w' := by
  have hb := Dv.ediv_bd (-n) d hd 4611686018427387904 (by omega) (by omega) (by omega)
  go_enter Try.func112, Try.ntmps112
  go_wp2_with (go_at_call 69; refine (div_c _ _ _ hd (by omega) (by omega)).mono ?_; rintro e w' ⟨rfl, rfl⟩)
  go_ret
  exact ⟨rfl, rfl⟩
theorem upR_c (n d : Int) (w : World) (hd : 1 ≤ d) (h0 : -4611686018427387904 ≤ n) (h1 : n ≤ 4611686018427387904) :
    Calls Try.prog 114 #[.int .i64 n, .int .i64 d] w fun e w' => e = .returned (.int .i64 (-(-n / d))) ∧ w = w' := by
  have hb := Dv.ediv_bd (-n) d hd 4611686018427387904 (by omega) (by omega) (by omega)
  go_enter Try.func114, Try.ntmps114
  go_wp2_with (go_at_call 117; refine (Floor_c _ _ _ hd (by omega) (by omega)).mono ?_; rintro e w' ⟨rfl, rfl⟩)
  go_ret
  exact ⟨rfl, rfl⟩
theorem one_c (x : Int) (w : World) : Calls Try.prog 131 #[.int .i64 x] w fun e w' => e = .returned (.agg #[.int .i64 x, .int .i64 x]) ∧ Below w.heap.size w w' := by
  go_enter Try.func131, Try.ntmps131
  go_wp2
  exact bodyPost_ret (v := .agg #[.int .i64 x, .int .i64 x]) (by simp [results, Try.results131, go_sem]) rfl ⟨rfl, (Below.refl _ _).alloc (Nat.le_refl _) _⟩
theorem point_c (x : Int) (w : World) : Calls Try.prog 133 #[.int .i64 x] w fun e w' => e = .returned (.agg #[.int .i64 x, .int .i64 x]) ∧ Below w.heap.size w w' := by
  go_enter Try.func133, Try.ntmps133
  go_wp2
  exact bodyPost_ret (v := .agg #[.int .i64 x, .int .i64 x]) (by simp [results, Try.results133, go_sem]) rfl ⟨rfl, (Below.refl _ _).alloc (Nat.le_refl _) _⟩
set_option maxHeartbeats 1000000 in
theorem less_c (a b c d : Int) (w : World) (ha : -4611686018427387904 ≤ a ∧ a ≤ 4611686018427387904) (hb : -4611686018427387904 ≤ b ∧ b ≤ 4611686018427387904) (hc : -4611686018427387904 ≤ c ∧ c ≤ 4611686018427387903) (hd : -4611686018427387903 ≤ d ∧ d ≤ 4611686018427387904) (hc' : -4611686018427387903 ≤ c) :
    Calls Try.prog 128 #[.agg #[.int .i64 a, .int .i64 b], .agg #[.int .i64 c, .int .i64 d]] w fun e w' => e = .returned (.agg #[.int .i64 (a - d), .int .i64 (b - c)]) ∧ Below w.heap.size w w' := by
  go_enter Try.func128, Try.ntmps128
  go_wp2
  exact bodyPost_ret (v := .agg #[.int .i64 (a - d), .int .i64 (b - c)]) (by simp [results, Try.results128, go_sem]) rfl ⟨rfl, (((Below.refl _ _).alloc (Nat.le_refl _) _).alloc (by simp) _).alloc (by simp; omega) _⟩
end Go.Proofs.Ytcneohhfnnelgaa
namespace Go.Proofs.Ytcneohhfnnelgaa
open Go.RowKit
set_option linter.unusedVariables false
namespace Dv
def mn4 (a b c d : Int) : Int := min (min (min a b) c) d
def mx4 (a b c d : Int) : Int := max (max (max a b) c) d
end Dv

theorem max4_run (ts : Array TypeId) (t : TypeId) (x y z u : Int) (w : World) : (Builtin.max_ ts t #[.int .i64 x, .int .i64 y, .int .i64 z, .int .i64 u]).run Try.prog w = .ok (.int .i64 (Dv.mx4 x y z u)) w := by
  have h : (Builtin.max_ ts t #[.int .i64 x, .int .i64 y, .int .i64 z, .int .i64 u]).run Try.prog w = .ok (.int .i64 (if u > (if z > (if y > x then y else x) then z else (if y > x then y else x)) then u else (if z > (if y > x then y else x) then z else (if y > x then y else x)))) w := by simp [Builtin.max_]; rfl
  rw [h]
  congr 2
  unfold Dv.mx4
  by_cases h1 : x < y
  · rw [if_pos h1]
    by_cases h2 : y < z
    · rw [if_pos h2]; split <;> omega
    · rw [if_neg h2]; split <;> omega
  · rw [if_neg h1]
    by_cases h2 : x < z
    · rw [if_pos h2]; split <;> omega
    · rw [if_neg h2]; split <;> omega
theorem min4_run (ts : Array TypeId) (t : TypeId) (x y z u : Int) (w : World) : (Builtin.min_ ts t #[.int .i64 x, .int .i64 y, .int .i64 z, .int .i64 u]).run Try.prog w = .ok (.int .i64 (Dv.mn4 x y z u)) w := by
  have h : (Builtin.min_ ts t #[.int .i64 x, .int .i64 y, .int .i64 z, .int .i64 u]).run Try.prog w = .ok (.int .i64 (if u < (if z < (if y < x then y else x) then z else (if y < x then y else x)) then u else (if z < (if y < x then y else x) then z else (if y < x then y else x)))) w := by simp [Builtin.min_]; rfl
  rw [h]
  congr 2
  unfold Dv.mn4
  by_cases h1 : y < x
  · rw [if_pos h1]
    by_cases h2 : z < y
    · rw [if_pos h2]; split <;> omega
    · rw [if_neg h2]; split <;> omega
  · rw [if_neg h1]
    by_cases h2 : z < x
    · rw [if_pos h2]; split <;> omega
    · rw [if_neg h2]; split <;> omega

set_option maxHeartbeats 1000000 in
theorem times_c (a b c d : Int) (w : World) (h1 : -4611686018427387904 ≤ a * c ∧ a * c ≤ 4611686018427387904) (h2 : -4611686018427387904 ≤ a * d ∧ a * d ≤ 4611686018427387904) (h3 : -4611686018427387904 ≤ b * c ∧ b * c ≤ 4611686018427387904) (h4 : -4611686018427387904 ≤ b * d ∧ b * d ≤ 4611686018427387904) :
    Calls Try.prog 132 #[.agg #[.int .i64 a, .int .i64 b], .agg #[.int .i64 c, .int .i64 d]] w fun e w' => e = .returned (.agg #[.int .i64 (Dv.mn4 (a * c) (a * d) (b * c) (b * d)), .int .i64 (Dv.mx4 (a * c) (a * d) (b * c) (b * d))]) ∧ Below w.heap.size w w' := by
  have hmx := fun ts t W => max4_run ts t (a * c) (a * d) (b * c) (b * d) W
  have hmn := fun ts t W => min4_run ts t (a * c) (a * d) (b * c) (b * d) W
  go_enter Try.func132, Try.ntmps132
  go_wp2_with fail
  refine gen_world (fun W => Blk W w.heap.size 29 [.int .i64 a, .int .i64 b] ∧ Blk W (w.heap.size + 1) 29 [.int .i64 c, .int .i64 d] ∧ Blk W (w.heap.size + 1 + 1) 29 [.int .i64 0, .int .i64 0] ∧ Below w.heap.size w W) ⟨((Blk.new' _ _ _).alloc _).alloc _, by have := (Blk.new' (w.alloc (.cells #[.int .i64 a, .int .i64 b] 29)) #[.int .i64 c, .int .i64 d] 29).alloc (.cells #[.int .i64 0, .int .i64 0] 29); simpa using this, by have := Blk.new' ((w.alloc (.cells #[.int .i64 a, .int .i64 b] 29)).alloc (.cells #[.int .i64 c, .int .i64 d] 29)) #[.int .i64 0, .int .i64 0] 29; simpa using this, (((Below.refl _ _).alloc (Nat.le_refl _) _).alloc (by simp) _).alloc (by simp; omega) _⟩ ?_
  rintro w1 ⟨b1, b2, b3, b4⟩
  have p0 := b1.cell 0 rfl
  have p1 := b1.cell 1 rfl
  have q0 := b2.cell 0 rfl
  have q1 := b2.cell 1 rfl
  have z1 := b1.lt
  have z2 := b2.lt
  have I1 := Lib.hid (And.intro b3 b4)
  clear b1 b2 b3 b4
  refine wp_region_past (by kernel_rfl) (by kernel_rfl) ?_
  repeat (go_big_quiet_step (fail))
  refine wpQuiet_nil ?_
  intro x
  have I2 := Lib.hid (And.intro (I1.out.1.below x.far I1.out.1.lt) (I1.out.2.trans (x.far.mono I1.out.2.size)))
  generalize x.w = w2 at I2 ⊢
  clear p0 p1 q0 q1 z1 z2
  have c0 := I2.out.1.cell 0 rfl
  have c1 := I2.out.1.cell 1 rfl
  have f0 := I2.out.1.free 0
  have f1 := I2.out.1.free 1
  have z := I2.out.1.lt
  go_wp2
  exact bodyPost_ret (v := .agg #[.int .i64 (Dv.mn4 (a * c) (a * d) (b * c) (b * d)), .int .i64 (Dv.mx4 (a * c) (a * d) (b * c) (b * d))]) (by simp [results, Try.results132, go_sem, c0, c1]) rfl ⟨rfl, (I2.out.2.setCell (by simp; omega) _).setCell (by simp; omega) _⟩
end Go.Proofs.Ytcneohhfnnelgaa
namespace Go.Proofs.Ytcneohhfnnelgaa
open Go.RowKit
set_option linter.unusedVariables false

set_option maxHeartbeats 1000000 in
theorem per_c (a b d : Int) (w : World) (hd : 1 ≤ d) (ha : -4611686018427387904 ≤ a ∧ a ≤ 4611686018427387904) (hb : -4611686018427387904 ≤ b ∧ b ≤ 4611686018427387904) :
    Calls Try.prog 129 #[.agg #[.int .i64 a, .int .i64 b], .int .i64 d] w fun e w' => e = .returned (.agg #[.int .i64 (a / d), .int .i64 (b / d)]) ∧ Below w.heap.size w w' := by
  go_enter Try.func129, Try.ntmps129
  go_wp2_with fail
  refine gen_world (fun W => Blk W w.heap.size 29 [.int .i64 a, .int .i64 b] ∧ Blk W (w.heap.size + 1) 29 [.int .i64 0, .int .i64 0] ∧ Below w.heap.size w W) ⟨(Blk.new' _ _ _).alloc _, by have := Blk.new' (w.alloc (.cells #[.int .i64 a, .int .i64 b] 29)) #[.int .i64 0, .int .i64 0] 29; simpa using this, ((Below.refl _ _).alloc (Nat.le_refl _) _).alloc (by simp) _⟩ ?_
  rintro w1 ⟨b1, b2, b3⟩
  have I1 := Lib.hid (And.intro b1 (And.intro b2 b3))
  clear b1 b2 b3
  refine wp_region_head 9 ?af (by kernel_rfl) (by kernel_rfl) ?walk ?tail
  case walk =>
    intro V hV
    have b1 := I1.out.1.below hV I1.out.1.lt
    have p0 := b1.cell 0 rfl
    have p1 := b1.cell 1 rfl
    have z1 := b1.lt
    clear b1
    simp only [List.take_succ_cons, List.take_zero]
    repeat (go_big_quiet_step ((go_at_call 69; exact past_same (div_c _ _ _ hd (by omega) (by omega)))))
    refine wpQuiet_nil ?_
    rfl
  case tail =>
    intro w2 hb2
    have I2 := Lib.hid (And.intro (I1.out.2.1.below hb2 I1.out.2.1.lt) (I1.out.2.2.trans (hb2.mono I1.out.2.2.size)))
    clear hb2
    have c0 := I2.out.1.cell 0 rfl
    have c1 := I2.out.1.cell 1 rfl
    have f0 := I2.out.1.free 0
    have f1 := I2.out.1.free 1
    have z := I2.out.1.lt
    simp only [List.drop_succ_cons, List.drop_zero]
    go_wp2
    exact bodyPost_ret (v := .agg #[.int .i64 (a / d), .int .i64 (b / d)]) (by simp [results, Try.results129, go_sem, c0, c1]) rfl ⟨rfl, (I2.out.2.setCell (by simp) _).setCell (by simp) _⟩
end Go.Proofs.Ytcneohhfnnelgaa
namespace Go.Proofs.Ytcneohhfnnelgaa
open Go.RowKit
set_option linter.unusedVariables false
namespace Dv
def alLo (cu i l mi lo : Int) : Int := -((cu + i) * l / mi) - lo
def alHi (cu i l mi hi : Int) : Int := ((cu - i + 1) * l - 1) / mi - hi
end Dv

set_option maxHeartbeats 2000000 in
theorem spanR_c (cu i l mi lo hi : Int) (w : World) (hm : 1 ≤ mi) (hcu : -1073741824 ≤ cu ∧ cu ≤ 1073741824) (hi' : -1073741824 ≤ i ∧ i ≤ 1073741824) (b1 : -1152921504606846976 ≤ (cu + i) * l ∧ (cu + i) * l ≤ 1152921504606846976) (b2 : -1152921504606846976 ≤ (cu - i + 1) * l ∧ (cu - i + 1) * l ≤ 1152921504606846976) (hlo : -1152921504606846976 ≤ lo ∧ lo ≤ 1152921504606846976) (hhi : -1152921504606846976 ≤ hi ∧ hi ≤ 1152921504606846976) :
    Calls Try.prog 127 #[.int .i64 cu, .int .i64 i, .int .i64 l, .int .i64 mi, .agg #[.int .i64 lo, .int .i64 hi]] w fun e w' => e = .returned (.agg #[.int .i64 (Dv.alLo cu i l mi lo), .int .i64 (Dv.alHi cu i l mi hi)]) ∧ Below w.heap.size w w' := by
  have d1 := Dv.ediv_bd ((cu + i) * l) mi hm 1152921504606846976 (by omega) (by omega) (by omega)
  have d2 := Dv.ediv_bd ((cu - i + 1) * l - 1) mi hm 1152921504606846977 (by omega) (by omega) (by omega)
  go_enter Try.func127, Try.ntmps127
  go_wp2_with fail
  refine gen_world (fun W => Blk W w.heap.size 29 [.int .i64 lo, .int .i64 hi] ∧ Blk W (w.heap.size + 1) 29 [.int .i64 0, .int .i64 0] ∧ Below w.heap.size w W) ⟨(Blk.new' _ _ _).alloc _, by have := Blk.new' (w.alloc (.cells #[.int .i64 lo, .int .i64 hi] 29)) #[.int .i64 0, .int .i64 0] 29; simpa using this, ((Below.refl _ _).alloc (Nat.le_refl _) _).alloc (by simp) _⟩ ?_
  rintro w1 ⟨x1, x2, x3⟩
  have I1 := Lib.hid (And.intro x1 (And.intro x2 x3))
  clear x1 x2 x3
  refine wp_region_head 24 ?af (by kernel_rfl) (by kernel_rfl) ?walk ?tail
  case walk =>
    intro V hV
    have x1 := I1.out.1.below hV I1.out.1.lt
    have p0 := x1.cell 0 rfl
    have p1 := x1.cell 1 rfl
    have z1 := x1.lt
    clear x1
    simp only [List.take_succ_cons, List.take_zero]
    repeat (go_big_quiet_step ((go_at_call 85; exact past_same (floor_c _ _ _ hm (by omega) (by omega)))))
    refine wpQuiet_nil ?_
    rfl
  case tail =>
    intro w2 hb2
    have I2 := Lib.hid (And.intro (I1.out.2.1.below hb2 I1.out.2.1.lt) (I1.out.2.2.trans (hb2.mono I1.out.2.2.size)))
    clear hb2
    have c0 := I2.out.1.cell 0 rfl
    have c1 := I2.out.1.cell 1 rfl
    have f0 := I2.out.1.free 0
    have f1 := I2.out.1.free 1
    have z := I2.out.1.lt
    simp only [List.drop_succ_cons, List.drop_zero]
    go_wp2
    exact bodyPost_ret (v := .agg #[.int .i64 (Dv.alLo cu i l mi lo), .int .i64 (Dv.alHi cu i l mi hi)]) (by simp [results, Try.results127, go_sem, c0, c1, Dv.alLo, Dv.alHi]) rfl ⟨rfl, (I2.out.2.setCell (by simp) _).setCell (by simp) _⟩

set_option maxHeartbeats 2000000 in
theorem allowed1_c (cu i l mi lo hi : Int) (g : Nat) (w : World) (q1 : w.cell? ⟨g, 8, none⟩ = some (.int .i64 cu)) (q2 : w.cell? ⟨g, 5, none⟩ = some (.int .i64 mi)) (hm : 1 ≤ mi) (hcu : -1073741824 ≤ cu ∧ cu ≤ 1073741824) (hi' : -1073741824 ≤ i ∧ i ≤ 1073741824) (b1 : -1152921504606846976 ≤ (cu + i) * l ∧ (cu + i) * l ≤ 1152921504606846976) (b2 : -1152921504606846976 ≤ (cu - i + 1) * l ∧ (cu - i + 1) * l ≤ 1152921504606846976) (hlo : -1152921504606846976 ≤ lo ∧ lo ≤ 1152921504606846976) (hhi : -1152921504606846976 ≤ hi ∧ hi ≤ 1152921504606846976) :
    Calls Try.prog 125 #[.pointer (some ⟨g, 0, none⟩), .int .i64 i, .int .i64 l, .agg #[.int .i64 lo, .int .i64 hi]] w fun e w' => e = .returned (.agg #[.int .i64 (Dv.alLo cu i l mi lo), .int .i64 (Dv.alHi cu i l mi hi)]) ∧ Below w.heap.size w w' := by
  have d1 := Dv.ediv_bd ((cu + i) * l) mi hm 1152921504606846976 (by omega) (by omega) (by omega)
  have d2 := Dv.ediv_bd ((cu - i + 1) * l - 1) mi hm 1152921504606846977 (by omega) (by omega) (by omega)
  have zg : g < w.heap.size := World.block_lt_of_cell? w _ q1
  have Q1 := Lib.hid q1
  have Q2 := Lib.hid q2
  clear q1 q2
  go_enter Try.func125, Try.ntmps125
  go_wp2_with fail
  refine gen_world (fun W => Blk W w.heap.size 29 [.int .i64 lo, .int .i64 hi] ∧ Blk W (w.heap.size + 1) 29 [.int .i64 0, .int .i64 0] ∧ Below w.heap.size w W) ⟨(Blk.new' _ _ _).alloc _, by have := Blk.new' (w.alloc (.cells #[.int .i64 lo, .int .i64 hi] 29)) #[.int .i64 0, .int .i64 0] 29; simpa using this, ((Below.refl _ _).alloc (Nat.le_refl _) _).alloc (by simp) _⟩ ?_
  rintro w1 ⟨x1, x2, x3⟩
  have I1 := Lib.hid (And.intro x1 (And.intro x2 x3))
  clear x1 x2 x3
  refine wp_region_head 44 ?af (by kernel_rfl) (by kernel_rfl) ?walk ?tail
  case walk =>
    intro V hV
    have x1 := I1.out.1.below hV I1.out.1.lt
    have hb := I1.out.2.2.trans (hV.mono I1.out.2.2.size)
    have p0 := x1.cell 0 rfl
    have p1 := x1.cell 1 rfl
    have z1 := x1.lt
    have q1 := (hb.cell (p := ⟨g, 8, none⟩) zg).trans Q1.out
    have q2 := (hb.cell (p := ⟨g, 5, none⟩) zg).trans Q2.out
    have z2 : g < V.heap.size := by have := hb.size; omega
    clear x1 hb
    simp only [List.take_succ_cons, List.take_zero]
    repeat (go_big_quiet_step ((go_at_call 69; exact past_same (div_c _ _ _ hm (by omega) (by omega)))))
    refine wpQuiet_nil ?_
    rfl
  case tail =>
    intro w2 hb2
    have I2 := Lib.hid (And.intro (I1.out.2.1.below hb2 I1.out.2.1.lt) (I1.out.2.2.trans (hb2.mono I1.out.2.2.size)))
    clear hb2
    have c0 := I2.out.1.cell 0 rfl
    have c1 := I2.out.1.cell 1 rfl
    have f0 := I2.out.1.free 0
    have f1 := I2.out.1.free 1
    have z := I2.out.1.lt
    simp only [List.drop_succ_cons, List.drop_zero]
    go_wp2
    exact bodyPost_ret (v := .agg #[.int .i64 (Dv.alLo cu i l mi lo), .int .i64 (Dv.alHi cu i l mi hi)]) (by simp [results, Try.results125, go_sem, c0, c1, Dv.alLo, Dv.alHi]) rfl ⟨rfl, (I2.out.2.setCell (by simp) _).setCell (by simp) _⟩
end Go.Proofs.Ytcneohhfnnelgaa
namespace Go.Proofs.Ytcneohhfnnelgaa
open Go.RowKit Go.WideShapes Go.ChangeShapes

section
variable {H : Type} {enc : TypeId × Value → H} {P : Program}

theorem all_stays (hl : laidOutB P = true) {W W' : World} {sp' : Nat → Bool} : ∀ {ts : List TypeId} {vs : List Value} {ds : List (DataW H)} {ps : List MemPlace}, (ts.all fun t => P.readableRec t && decide (t < P.types.size)) = true →
    DataW.TrodAll enc P W 0 (fun _ => true) true ts vs ds ps → (∀ p ∈ ps, W.sameAt W' p) → (∀ p ∈ ps, sp' p.block = true) → DataW.TrodAll enc P W' 0 sp' true ts vs ds ps
  | [], [], [], _, _, h, _, _ => h
  | t :: ts, v :: vs, d :: ds, _, hr, ⟨p, q, h1, h2, e⟩, hsame, hs => by
    subst e
    simp only [List.all_cons, Bool.and_eq_true, decide_eq_true_eq] at hr
    refine ⟨p, q, WideElems.Trod_stays hl hr.1.1 hr.1.2 h1 (fun x hx => hsame x (List.mem_append_left _ hx)) (fun x hx => hs x (List.mem_append_left _ hx)), ?_, rfl⟩
    exact all_stays hl (by simpa using hr.2) h2 (fun x hx => hsame x (List.mem_append_right _ hx)) (fun x hx => hs x (List.mem_append_right _ hx))

/-- the row's last step, where the call left all that there was as it was -/
theorem law_post {f : Func} {s : ChangeSpec} {apart fresh handsOn again : Bool} {W W' : World} {args : Array Value} {ds : List (DataW H)} {p : List MemPlace}
    (hl : laidOutB P = true) (hr : (f.params.toList.all fun t => P.readableRec t && decide (t < P.types.size)) = true) (hsv : s.vars = [])
    (hW : DataW.Whole enc P f.params.toList s.vars apart W args.toList ds [] p)
    (hA : DataW.TrodAll enc P W 0 (fun _ => true) true f.params.toList args.toList ds p)
    (hsr : (s.fn H (ds ++ [])).results = [.lit (.bool true)]) (hsa : (s.fn H (ds ++ [])).args = ds) (hsvv : (s.fn H (ds ++ [])).vars = [])
    (hres : ∀ (b : Nat) (sp : Nat → Bool) (hd : Bool), DataW.TrodAll enc P W' b sp hd f.resultTypes.toList ((Value.bool true).resultList f.resultTypes.size) [.lit (.bool true)] [])
    (hb : Below W.heap.size W W')
    (hok : ∀ (j : Nat) (t : TypeId) (r : Value), f.resultTypes[j]? = some t → ((Value.bool true).resultList f.resultTypes.size)[j]? = some r → Value.okWide P W' .any 0 t r) :
    s.post enc P f apart fresh handsOn again W args (.bool true) W' := by
  have hlt : ∀ x ∈ p, x.block < W.heap.size := fun x hx => hW.lt x hx
  have hargs : ∀ sp : Nat → Bool, (∀ x ∈ p, sp x.block = true) → DataW.TrodAll enc P W' 0 sp true f.params.toList args.toList (s.fn H (ds ++ [])).args p := fun sp hsp => by
    rw [hsa]
    exact all_stays hl hr hA (fun x hx => hb.same (hlt x hx)) hsp
  have hvars : ∀ sp : Nat → Bool, DataW.TrodVars enc P W' sp s.vars (s.fn H (ds ++ [])).vars [] := fun sp => by rw [hsv, hsvv]; rfl
  have hres' : ∀ (b : Nat) (sp : Nat → Bool) (hd : Bool), DataW.TrodAll enc P W' b sp hd f.resultTypes.toList ((Value.bool true).resultList f.resultTypes.size) (s.fn H (ds ++ [])).results [] := fun b sp hd => by rw [hsr]; exact hres b sp hd
  have hold : ∀ x ∈ p, (fun b => decide (b < W.heap.size)) x.block = true := fun x hx => by simpa using hlt x hx
  refine ⟨ds, [], p, [], p, [], hW, hres' _ _ _, hargs _ hold, hvars _, World.keptBut_mono (fun x hx => ⟨hx, Or.inr (by simpa using hx)⟩) (hb.frame (· ∈ p)), fun _ => ?_⟩
  · obtain ⟨_, _, _, _, _, hz, hn⟩ := hW
    refine ⟨hok, _, _, ([] ++ p) ++ [], ⟨[] ++ p, [], trodAll_append (hargs _ (fun _ _ => rfl)) (hres' _ _ _), hvars _, rfl, ?_, ?_⟩, ?_⟩
    · intro b off hp
      have hin : MemPlace.cell b off ∈ p := by simpa using hp
      rw [hb.frozen (hlt _ hin)]
      exact hz b off hin
    · intro ha
      simpa using hn ha
    · intro x hx _
      simpa using hx
end
end Go.Proofs.Ytcneohhfnnelgaa
namespace Go.Proofs.Ytcneohhfnnelgaa
open Go.RowKit Go.WideShapes Go.ChangeShapes

/-- what a cell of a kind holds: an integer of that kind, or a bool (none) -/
def CellOk : Option IntKind → Value → Prop
  | some k, v => ∃ n, v = .int k n ∧ (Lit.int k n).wf = true
  | none, v => ∃ b, v = .bool b
def CellsOk : List (Option IntKind) → List Value → Prop
  | [], [] => True
  | k :: ks, v :: vs => CellOk k v ∧ CellsOk ks vs
  | _, _ => False

theorem cellsOk_length : ∀ {ks : List (Option IntKind)} {vs : List Value}, CellsOk ks vs → ks.length = vs.length
  | [], [], _ => rfl
  | _ :: _, _ :: _, h => by simp [cellsOk_length h.2]
theorem cellsOk_append : ∀ {ks ks' : List (Option IntKind)} {vs vs' : List Value}, CellsOk ks vs → CellsOk ks' vs' → CellsOk (ks ++ ks') (vs ++ vs')
  | [], _, [], _, _, h => h
  | _ :: _, _, _ :: _, _, h, h' => ⟨h.1, cellsOk_append h.2 h'⟩
theorem cellsOk_cons {k : Option IntKind} {ks : List (Option IntKind)} {l : List Value} (h : CellsOk (k :: ks) l) : ∃ v vs, l = v :: vs ∧ CellOk k v ∧ CellsOk ks vs := by
  cases l with
  | nil => exact h.elim
  | cons v vs => exact ⟨v, vs, rfl, h.1, h.2⟩
theorem cellsOk_nil {l : List Value} (h : CellsOk [] l) : l = [] := by
  cases l with
  | nil => rfl
  | cons v vs => exact h.elim

def flatFields (g : TypeId → Option (List (Option IntKind))) : List Field → Nat → Option (List (Option IntKind))
  | [], _ => some []
  | f :: fs, off => if f.offset = off then
      match g f.type with
      | some ks => match flatFields g fs (off + ks.length) with
        | some r => some (ks ++ r)
        | none => none
      | none => none
    else none

def flatTimes (ks : List (Option IntKind)) : Nat → List (Option IntKind)
  | 0 => []
  | n + 1 => ks ++ flatTimes ks n

/-- the kinds of a type's cells, where they are all integers and bools -/
def flatK (P : Program) : Nat → TypeId → Option (List (Option IntKind))
  | 0, _ => none
  | f + 1, t =>
    let r := match P.underlying t with
      | some (.int k) => some [some k]
      | some .bool => some [none]
      | some (.struct fs) => flatFields (flatK P f) fs.toList 0
      | some (.array n e) => match flatK P f e with
        | some ks => some (flatTimes ks n)
        | none => none
      | _ => none
    match r with
    | some ks => if ks.length = P.cellsOf t then some ks else none
    | none => none

section
variable {H : Type} {enc : TypeId × Value → H} {P : Program} {w : World} {base : Nat} {spare : Nat → Bool} {held : Bool}

theorem flatFields_open (g : TypeId → Option (List (Option IntKind))) (n : Nat)
    (hg : ∀ t ks, g t = some ks → ks.length = P.cellsOf t ∧ ∀ cs x, DataW.trod enc P w base spare held n t cs = some x → CellsOk ks cs) :
    ∀ (fs : List Field) (off : Nat) (ks : List (Option IntKind)) (cs : List Value), flatFields g fs off = some ks → cs.length = off + ks.length →
      (∀ f ∈ fs, ∃ x, DataW.trod enc P w base spare held n f.type ((cs.drop f.offset).take (P.cellsOf f.type)) = some x) → CellsOk ks (cs.drop off)
  | [], off, ks, cs, h, hl, _ => by
    simp only [flatFields, Option.some.injEq] at h
    subst h
    rw [List.drop_eq_nil_of_le (by simp at hl; omega)]
    trivial
  | f :: fs, off, ks, cs, h, hl, hx => by
    unfold flatFields at h
    split at h
    · rename_i ho
      split at h
      · rename_i k1 hk1
        split at h
        · rename_i k2 hk2
          simp only [Option.some.injEq] at h
          subst h
          obtain ⟨x, hx0⟩ := hx f (by simp)
          obtain ⟨hlen, hop⟩ := hg _ _ hk1
          have h1 := hop _ _ hx0
          rw [ho, ← hlen] at h1
          have h2 := flatFields_open g n hg fs (off + k1.length) k2 cs hk2 (by simp at hl; omega) (fun f' hf' => hx f' (by simp [hf']))
          have := cellsOk_append h1 h2
          rw [← List.drop_drop] at this
          rwa [List.take_append_drop] at this
        · cases h
      · cases h
    · cases h

theorem flatTimes_open {ks : List (Option IntKind)} {c : Nat} (hc : ks.length = c) : ∀ (m i : Nat) (cs : List Value), cs.length = (i + m) * c →
    (∀ j, j < m → CellsOk ks ((cs.drop ((i + j) * c)).take c)) → CellsOk (flatTimes ks m) (cs.drop (i * c))
  | 0, i, cs, hl, _ => by
    rw [List.drop_eq_nil_of_le (by simp at hl; omega)]
    trivial
  | m + 1, i, cs, hl, h => by
    have h1 := h 0 (by omega)
    have h2 := flatTimes_open hc m (i + 1) cs (by rw [hl]; congr 1; omega) (fun j hj => by
      have := h (j + 1) (by omega)
      rwa [show i + (j + 1) = i + 1 + j from by omega] at this)
    have := cellsOk_append h1 h2
    rw [show (i + 1) * c = (i + 0) * c + c from by rw [Nat.add_mul]; simp, ← List.drop_drop, List.take_append_drop] at this
    show CellsOk (ks ++ flatTimes ks m) _
    simpa using this

theorem flat_open : ∀ (fuel : Nat) (t : TypeId) (ks : List (Option IntKind)), flatK P fuel t = some ks →
    ks.length = P.cellsOf t ∧ ∀ (n : Nat) (cs : List Value) (x : DataW H × List MemPlace), DataW.trod enc P w base spare held n t cs = some x → CellsOk ks cs
  | 0, _, _, h => by cases h
  | f + 1, t, ks, h => by
    have hrec := fun t' ks' (h' : flatK P f t' = some ks') => flat_open f t' ks' h'
    unfold flatK at h
    simp only at h
    split at h
    · rename_i r hr
      split at h
      · rename_i hlen
        simp only [Option.some.injEq] at h
        subst h
        refine ⟨hlen, fun n cs x hx => ?_⟩
        split at hr
        · rename_i k hu
          simp only [Option.some.injEq] at hr
          subst hr
          obtain ⟨m, rfl, _, hwf⟩ := DataW.trod_int hu hx
          exact ⟨⟨m, rfl, hwf⟩, trivial⟩
        · rename_i hu
          simp only [Option.some.injEq] at hr
          subst hr
          obtain ⟨b, rfl, _⟩ := DataW.trod_bool hu hx
          exact ⟨⟨b, rfl⟩, trivial⟩
        · rename_i fs hu
          obtain ⟨xs, m, _, _, hcl, hxl, hf⟩ := DataW.trod_struct hu hx
          have := flatFields_open (enc := enc) (P := P) (w := w) (base := base) (spare := spare) (held := held) (flatK P f) m (fun t' ks' h' => ⟨(hrec t' ks' h').1, fun cs x => (hrec t' ks' h').2 m cs x⟩) fs.toList 0 r cs hr (by omega) (fun fd hfd => by
            obtain ⟨i, hi, he⟩ := List.getElem_of_mem hfd
            have hi' : fs[i]? = some fd := by
              rw [← he]
              simp at hi
              simp [hi]
            have h2 := hf i fd hi'
            have hlt : i < xs.length := by simp at hi; omega
            rw [List.getElem?_eq_getElem hlt] at h2
            exact ⟨_, h2⟩)
          simpa using this
        · rename_i nn e hu
          split at hr
          · rename_i ke hke
            simp only [Option.some.injEq] at hr
            subst hr
            obtain ⟨xs, m, _, _, hcl, hxl, hf⟩ := DataW.trod_array hu hx
            obtain ⟨hel, hop⟩ := hrec e ke hke
            have hcs : cs.length = (0 + nn) * P.cellsOf e := by
              have hlt : (flatTimes ke nn).length = nn * ke.length := by
                clear hlen hx hu hf hxl
                induction nn with
                | zero => simp [flatTimes]
                | succ k ih => simp [flatTimes, ih, Nat.add_mul, Nat.add_comm]
              rw [hcl, ← hlen, hlt, hel, Nat.zero_add]
            have := flatTimes_open hel nn 0 cs hcs (fun j hj => by
              have h2 := hf j hj
              have hlt : j < xs.length := by omega
              rw [List.getElem?_eq_getElem hlt] at h2
              rw [Nat.zero_add]
              exact hop m _ _ h2)
            simpa using this
          · cases hr
        · cases hr
      · cases h
    · cases h

theorem flat_agg {r : Reach} {b0 fuel : Nat} {t : TypeId} {fs : Array Field} {ks : List (Option IntKind)} {v : Value} {d : DataW H} {p : List MemPlace} (hs : P.underlying t = some (.struct fs)) (hk : flatK P fuel t = some ks)
    (hv : Value.okWide P w r b0 t v) (h : DataW.Trod enc P w base spare held t v d p) : ∃ l, v = .agg ⟨l⟩ ∧ CellsOk ks l := by
  obtain ⟨cs, rfl, _⟩ := okWide_struct hs hv
  obtain ⟨n, hn⟩ := h
  obtain ⟨l⟩ := cs
  exact ⟨l, rfl, (flat_open fuel t ks hk).2 n _ _ hn⟩
theorem flat_arr {r : Reach} {b0 fuel m : Nat} {t e : TypeId} {ks : List (Option IntKind)} {v : Value} {d : DataW H} {p : List MemPlace} (hs : P.underlying t = some (.array m e)) (hk : flatK P fuel t = some ks)
    (hv : Value.okWide P w r b0 t v) (h : DataW.Trod enc P w base spare held t v d p) : ∃ l, v = .agg ⟨l⟩ ∧ CellsOk ks l := by
  simp only [Value.okWide, hs] at hv
  obtain ⟨cs, rfl, _⟩ := hv
  obtain ⟨n, hn⟩ := h
  obtain ⟨l⟩ := cs
  exact ⟨l, rfl, (flat_open fuel t ks hk).2 n _ _ hn⟩
end

theorem i64_bd {a : Int} (h : (Lit.int .i64 a).wf = true) : -9223372036854775808 ≤ a ∧ a ≤ 9223372036854775807 := by
  have h1 : IntKind.i64.min = -9223372036854775808 := rfl
  have h2 : IntKind.i64.max = 9223372036854775807 := rfl
  simp only [Lit.wf, Bool.and_eq_true, decide_eq_true_eq] at h
  omega
theorem cells_i2 {l : List Value} (h : CellsOk [some .i64, some .i64] l) : ∃ a b, l = [.int .i64 a, .int .i64 b] ∧ (Lit.int .i64 a).wf = true ∧ (Lit.int .i64 b).wf = true := by
  obtain ⟨_, _, rfl, ⟨a, rfl, wa⟩, h1⟩ := cellsOk_cons h
  obtain ⟨_, _, rfl, ⟨b, rfl, wb⟩, h2⟩ := cellsOk_cons h1
  obtain rfl := cellsOk_nil h2
  exact ⟨a, b, rfl, wa, wb⟩
theorem cells_i3 {l : List Value} (h : CellsOk [some .i64, some .i64, some .i64] l) : ∃ a b c, l = [.int .i64 a, .int .i64 b, .int .i64 c] ∧ (Lit.int .i64 a).wf = true ∧ (Lit.int .i64 b).wf = true ∧ (Lit.int .i64 c).wf = true := by
  obtain ⟨_, _, rfl, ⟨a, rfl, wa⟩, h1⟩ := cellsOk_cons h
  obtain ⟨b, c, rfl, w⟩ := cells_i2 h1
  exact ⟨a, b, c, rfl, wa, w⟩
theorem cells_i4 {l : List Value} (h : CellsOk [some .i64, some .i64, some .i64, some .i64] l) : ∃ a b c d, l = [.int .i64 a, .int .i64 b, .int .i64 c, .int .i64 d] ∧ (Lit.int .i64 a).wf = true ∧ (Lit.int .i64 b).wf = true ∧ (Lit.int .i64 c).wf = true ∧ (Lit.int .i64 d).wf = true := by
  obtain ⟨_, _, rfl, ⟨a, rfl, wa⟩, h1⟩ := cellsOk_cons h
  obtain ⟨b, c, d, rfl, w⟩ := cells_i3 h1
  exact ⟨a, b, c, d, rfl, wa, w⟩
theorem cells_i5 {l : List Value} (h : CellsOk [some .i64, some .i64, some .i64, some .i64, some .i64] l) : ∃ a b c d e, l = [.int .i64 a, .int .i64 b, .int .i64 c, .int .i64 d, .int .i64 e] ∧ (Lit.int .i64 a).wf = true ∧ (Lit.int .i64 b).wf = true ∧ (Lit.int .i64 c).wf = true ∧ (Lit.int .i64 d).wf = true ∧ (Lit.int .i64 e).wf = true := by
  obtain ⟨_, _, rfl, ⟨a, rfl, wa⟩, h1⟩ := cellsOk_cons h
  obtain ⟨b, c, d, e, rfl, w⟩ := cells_i4 h1
  exact ⟨a, b, c, d, e, rfl, wa, w⟩
theorem cells_i10 {l : List Value} (h : CellsOk [some .i64, some .i64, some .i64, some .i64, some .i64, some .i64, some .i64, some .i64, some .i64, some .i64] l) :
    ∃ a b c d e f g i j k, l = [.int .i64 a, .int .i64 b, .int .i64 c, .int .i64 d, .int .i64 e, .int .i64 f, .int .i64 g, .int .i64 i, .int .i64 j, .int .i64 k] ∧ (Lit.int .i64 a).wf = true ∧ (Lit.int .i64 b).wf = true ∧ (Lit.int .i64 c).wf = true ∧ (Lit.int .i64 d).wf = true ∧ (Lit.int .i64 e).wf = true ∧ (Lit.int .i64 f).wf = true ∧ (Lit.int .i64 g).wf = true ∧ (Lit.int .i64 i).wf = true ∧ (Lit.int .i64 j).wf = true ∧ (Lit.int .i64 k).wf = true := by
  obtain ⟨_, _, rfl, ⟨a, rfl, wa⟩, h1⟩ := cellsOk_cons h
  obtain ⟨_, _, rfl, ⟨b, rfl, wb⟩, h2⟩ := cellsOk_cons h1
  obtain ⟨_, _, rfl, ⟨c, rfl, wc⟩, h3⟩ := cellsOk_cons h2
  obtain ⟨_, _, rfl, ⟨d, rfl, wd⟩, h4⟩ := cellsOk_cons h3
  obtain ⟨_, _, rfl, ⟨e, rfl, we⟩, h5⟩ := cellsOk_cons h4
  obtain ⟨f, g, i, j, k, rfl, w⟩ := cells_i5 h5
  exact ⟨a, b, c, d, e, f, g, i, j, k, rfl, wa, wb, wc, wd, we, w⟩
end Go.Proofs.Ytcneohhfnnelgaa
namespace Go.Proofs.Ytcneohhfnnelgaa
open Go.RowKit Go.WideShapes Go.ChangeShapes Go.Deep

/-- the shape of a row of cells -/
inductive Sh where
  | nil
  | i (k : IntKind) (r : Sh)
  | b (r : Sh)
  | s (sz : Nat) (es : Sh) (r : Sh)
namespace Sh
def app : Sh → Sh → Sh
  | nil, t => t
  | i k r, t => i k (app r t)
  | b r, t => b (app r t)
  | s sz es r, t => s sz es (app r t)
def len : Sh → Nat
  | nil => 0
  | i _ r => len r + 1
  | b r => len r + 1
  | s _ _ r => len r + 1
theorem len_app : ∀ a b : Sh, (app a b).len = a.len + b.len
  | nil, _ => by simp [app, len]
  | i _ r, t => by simp [app, len, len_app r t]; omega
  | b r, t => by simp [app, len, len_app r t]; omega
  | s _ _ r, t => by simp [app, len, len_app r t]; omega
end Sh
/-- a row of cells has a shape -/
def Rd (w : World) : Sh → List Value → Prop
  | .nil, l => l = []
  | .i k r, l => ∃ n vs, l = .int k n :: vs ∧ (Lit.int k n).wf = true ∧ Rd w r vs
  | .b r, l => ∃ b vs, l = .bool b :: vs ∧ Rd w r vs
  | .s sz es r, l => ∃ v vs, l = v :: vs ∧ Rd w r vs ∧ (v = .slice none 0 0 ∨ ∃ a len cap, v = .slice (some a) len cap ∧ len ≤ cap ∧ cap ≤ maxLen ∧
      ∀ i, i < len → ∃ cs, cs.length = sz ∧ (∀ j u, cs[j]? = some u → w.cell? ((a.add (i * sz)).add j) = some u) ∧ Rd w es cs)
theorem rd_app {w : World} : ∀ {s t : Sh} {l m : List Value}, Rd w s l → Rd w t m → Rd w (s.app t) (l ++ m)
  | .nil, _, _, _, h, h' => by
    have : _ = [] := h
    subst this
    exact h'
  | .i _ _, _, _, _, ⟨n, vs, e, hw, h⟩, h' => ⟨n, vs ++ _, by rw [e]; rfl, hw, rd_app h h'⟩
  | .b _, _, _, _, ⟨n, vs, e, h⟩, h' => ⟨n, vs ++ _, by rw [e]; rfl, rd_app h h'⟩
  | .s _ _ _, _, _, _, ⟨v, vs, e, h, hs⟩, h' => ⟨v, vs ++ _, by rw [e]; rfl, rd_app h h', hs⟩

def shFields (g : TypeId → Option Sh) : List Field → Nat → Option Sh
  | [], _ => some .nil
  | f :: fs, off => if f.offset = off then
      match g f.type with
      | some ks => match shFields g fs (off + ks.len) with
        | some r => some (ks.app r)
        | none => none
      | none => none
    else none
def shTimes (ks : Sh) : Nat → Sh
  | 0 => .nil
  | n + 1 => ks.app (shTimes ks n)
/-- the shape of a type's cells -/
def shK (P : Program) : Nat → TypeId → Option Sh
  | 0, _ => none
  | f + 1, t =>
    let r := match P.underlying t with
      | some (.int k) => some (Sh.i k .nil)
      | some .bool => some (Sh.b .nil)
      | some (.slice e) => match shK P f e with
        | some es => some (Sh.s (P.cellsOf e) es .nil)
        | none => none
      | some (.struct fs) => shFields (shK P f) fs.toList 0
      | some (.array n e) => match shK P f e with
        | some ks => some (shTimes ks n)
        | none => none
      | _ => none
    match r with
    | some ks => if ks.len = P.cellsOf t then some ks else none
    | none => none

section
variable {H : Type} {enc : TypeId × Value → H} {P : Program} {w : World} {base : Nat} {spare : Nat → Bool} {held : Bool}

theorem shFields_open (g : TypeId → Option Sh) (n : Nat)
    (hg : ∀ t ks, g t = some ks → ks.len = P.cellsOf t ∧ ∀ cs x, DataW.trod enc P w base spare held n t cs = some x → Rd w ks cs) :
    ∀ (fs : List Field) (off : Nat) (ks : Sh) (cs : List Value), shFields g fs off = some ks → cs.length = off + ks.len →
      (∀ f ∈ fs, ∃ x, DataW.trod enc P w base spare held n f.type ((cs.drop f.offset).take (P.cellsOf f.type)) = some x) → Rd w ks (cs.drop off)
  | [], off, ks, cs, h, hl, _ => by
    simp only [shFields, Option.some.injEq] at h
    subst h
    rw [List.drop_eq_nil_of_le (by simp [Sh.len] at hl; omega)]
    rfl
  | f :: fs, off, ks, cs, h, hl, hx => by
    unfold shFields at h
    split at h
    · rename_i ho
      split at h
      · rename_i k1 hk1
        split at h
        · rename_i k2 hk2
          simp only [Option.some.injEq] at h
          subst h
          obtain ⟨x, hx0⟩ := hx f (by simp)
          obtain ⟨hlen, hop⟩ := hg _ _ hk1
          have h1 := hop _ _ hx0
          rw [ho, ← hlen] at h1
          have h2 := shFields_open g n hg fs (off + k1.len) k2 cs hk2 (by rw [Sh.len_app] at hl; omega) (fun f' hf' => hx f' (by simp [hf']))
          have := rd_app h1 h2
          rw [← List.drop_drop] at this
          rwa [List.take_append_drop] at this
        · cases h
      · cases h
    · cases h

theorem shTimes_len (ks : Sh) : ∀ n, (shTimes ks n).len = n * ks.len
  | 0 => by simp [shTimes, Sh.len]
  | n + 1 => by rw [shTimes, Sh.len_app, shTimes_len ks n, Nat.add_mul]; omega
theorem shTimes_open {ks : Sh} {c : Nat} (hc : ks.len = c) : ∀ (m i : Nat) (cs : List Value), cs.length = (i + m) * c →
    (∀ j, j < m → Rd w ks ((cs.drop ((i + j) * c)).take c)) → Rd w (shTimes ks m) (cs.drop (i * c))
  | 0, i, cs, hl, _ => by
    rw [List.drop_eq_nil_of_le (by simp at hl; omega)]
    rfl
  | m + 1, i, cs, hl, h => by
    have h1 := h 0 (by omega)
    have h2 := shTimes_open hc m (i + 1) cs (by rw [hl]; congr 1; omega) (fun j hj => by
      have := h (j + 1) (by omega)
      rwa [show i + (j + 1) = i + 1 + j from by omega] at this)
    have := rd_app h1 h2
    rw [show (i + 1) * c = (i + 0) * c + c from by rw [Nat.add_mul]; simp, ← List.drop_drop, List.take_append_drop] at this
    show Rd w (ks.app (shTimes ks m)) _
    simpa using this

theorem sh_open : ∀ (fuel : Nat) (t : TypeId) (ks : Sh), shK P fuel t = some ks →
    ks.len = P.cellsOf t ∧ ∀ (n : Nat) (cs : List Value) (x : DataW H × List MemPlace), DataW.trod enc P w base spare held n t cs = some x → Rd w ks cs
  | 0, _, _, h => by cases h
  | f + 1, t, ks, h => by
    have hrec := fun t' ks' (h' : shK P f t' = some ks') => sh_open f t' ks' h'
    unfold shK at h
    simp only at h
    split at h
    · rename_i r hr
      split at h
      · rename_i hlen
        simp only [Option.some.injEq] at h
        subst h
        refine ⟨hlen, fun n cs x hx => ?_⟩
        split at hr
        · rename_i k hu
          simp only [Option.some.injEq] at hr
          subst hr
          obtain ⟨m, rfl, _, hwf⟩ := DataW.trod_int hu hx
          exact ⟨m, [], rfl, hwf, rfl⟩
        · rename_i hu
          simp only [Option.some.injEq] at hr
          subst hr
          obtain ⟨b, rfl, _⟩ := DataW.trod_bool hu hx
          exact ⟨b, [], rfl, rfl⟩
        · rename_i e hu
          split at hr
          · rename_i es hes
            simp only [Option.some.injEq] at hr
            subst hr
            rcases open_slice hu hx with ⟨rfl, _⟩ | ⟨a, len, cap, m, n', D, Pl, rfl, _, hl, hm, hmm, _, hi⟩
            · exact ⟨_, [], rfl, rfl, .inl rfl⟩
            · refine ⟨_, [], rfl, rfl, .inr ⟨a, len, cap, rfl, hl, hm, fun i hil => ?_⟩⟩
              have hlm : len ≤ m := by rw [hmm]; split <;> omega
              obtain ⟨cs', hc, ht⟩ := hi i (by omega)
              obtain ⟨_, hcl, hat⟩ := World.cells?_some hc
              refine ⟨cs', hcl, fun j u hj => ?_, (hrec e es hes).2 n' _ _ ht⟩
              have hjl : j < cs'.length := (List.getElem?_eq_some_iff.1 hj).1
              rw [hat j (by omega), hj]
          · cases hr
        · rename_i fs hu
          obtain ⟨xs, m, _, _, hcl, hxl, hf⟩ := DataW.trod_struct hu hx
          have := shFields_open (enc := enc) (P := P) (w := w) (base := base) (spare := spare) (held := held) (shK P f) m (fun t' ks' h' => ⟨(hrec t' ks' h').1, fun cs x => (hrec t' ks' h').2 m cs x⟩) fs.toList 0 r cs hr (by omega) (fun fd hfd => by
            obtain ⟨i, hi, he⟩ := List.getElem_of_mem hfd
            have hi' : fs[i]? = some fd := by
              rw [← he]
              simp at hi
              simp [hi]
            have h2 := hf i fd hi'
            have hlt : i < xs.length := by simp at hi; omega
            rw [List.getElem?_eq_getElem hlt] at h2
            exact ⟨_, h2⟩)
          simpa using this
        · rename_i nn e hu
          split at hr
          · rename_i ke hke
            simp only [Option.some.injEq] at hr
            subst hr
            obtain ⟨xs, m, _, _, hcl, hxl, hf⟩ := DataW.trod_array hu hx
            obtain ⟨hel, hop⟩ := hrec e ke hke
            have hcs : cs.length = (0 + nn) * P.cellsOf e := by
              rw [hcl, ← hlen, shTimes_len, hel, Nat.zero_add]
            have := shTimes_open (w := w) hel nn 0 cs hcs (fun j hj => by
              have h2 := hf j hj
              have hlt : j < xs.length := by omega
              rw [List.getElem?_eq_getElem hlt] at h2
              rw [Nat.zero_add]
              exact hop m _ _ h2)
            simpa using this
          · cases hr
        · cases hr
      · cases h
    · cases h

theorem sh_agg {r : Reach} {b0 fuel : Nat} {t : TypeId} {fs : Array Field} {ks : Sh} {v : Value} {d : DataW H} {p : List MemPlace} (hs : P.underlying t = some (.struct fs)) (hk : shK P fuel t = some ks)
    (hv : Value.okWide P w r b0 t v) (h : DataW.Trod enc P w base spare held t v d p) : ∃ l, v = .agg ⟨l⟩ ∧ Rd w ks l := by
  obtain ⟨cs, rfl, _⟩ := okWide_struct hs hv
  obtain ⟨n, hn⟩ := h
  obtain ⟨l⟩ := cs
  exact ⟨l, rfl, (sh_open fuel t ks hk).2 n _ _ hn⟩
theorem sh_slice {r : Reach} {b0 fuel : Nat} {t e : TypeId} {sz : Nat} {es : Sh} {v : Value} {d : DataW H} {p : List MemPlace} (hs : P.underlying t = some (.slice e)) (hk : shK P fuel t = some (.s sz es .nil))
    (hv : Value.okWide P w r b0 t v) (h : DataW.Trod enc P w base spare held t v d p) : v = .slice none 0 0 ∨ ∃ a len cap, v = .slice (some a) len cap ∧ len ≤ cap ∧ cap ≤ maxLen ∧
      ∀ i, i < len → ∃ cs, cs.length = sz ∧ (∀ j u, cs[j]? = some u → w.cell? ((a.add (i * sz)).add j) = some u) ∧ Rd w es cs := by
  obtain ⟨n, hn⟩ := h
  have h1 := (sh_open fuel t _ hk).2 n _ _ hn
  have hc : v.cells = #[v] := by
    simp only [Value.okWide, hs] at hv
    cases v <;> simp_all [Cell.okWide, Cell.ok, Value.cells]
  rw [hc] at h1
  obtain ⟨v', vs, hv', hvs, hx⟩ := h1
  have hv'' : v' = v := by simp at hv'; exact hv'.1.symm
  subst hv''
  exact hx
end

/-- choosing a list of elements -/
theorem choose_list {α : Type} {n : Nat} {Q : Nat → α → Prop} (h : ∀ i, i < n → ∃ x, Q i x) : ∃ l : List α, l.length = n ∧ ∀ i x, l[i]? = some x → Q i x := by
  induction n with
  | zero => exact ⟨[], rfl, fun i x hx => by simp at hx⟩
  | succ n ih =>
    obtain ⟨l, hl, hq⟩ := ih (fun i hi => h i (by omega))
    obtain ⟨x, hx⟩ := h n (by omega)
    refine ⟨l ++ [x], by simp [hl], fun i y hy => ?_⟩
    by_cases hi : i < l.length
    · rw [List.getElem?_append_left hi] at hy
      exact hq i y hy
    · rw [List.getElem?_append_right (by omega)] at hy
      have h0 : i - l.length = 0 := by
        rcases Nat.eq_zero_or_pos (i - l.length) with h0 | h0
        · exact h0
        · rw [List.getElem?_eq_none (by simp; omega)] at hy; cases hy
      rw [h0] at hy
      simp at hy
      subst hy
      obtain rfl : i = n := by omega
      exact hx
theorem add_zero' (a : Addr) : a.add 0 = a := rfl
theorem add_succ' (a : Addr) (j : Nat) : a.add (j + 1) = ⟨a.block, a.off + (j + 1), none⟩ := rfl
end Go.Proofs.Ytcneohhfnnelgaa
namespace Go.Proofs.Ytcneohhfnnelgaa
open Go.RowKit
set_option linter.unusedVariables false
structure Sp where
  lo : Int
  hi : Int
  deriving Inhabited
theorem block_add (a : Addr) (n : Nat) : (a.add n).block = a.block := by unfold Addr.add; split <;> rfl
/-- a slice's spans -/
def SpAt (w : World) (A : Option Addr) (l : List Sp) : Prop :=
  ∀ i, i < l.length → ∃ ad, A = some ad ∧ ad.block < w.heap.size ∧ w.cell? (ad.add (i * 2)) = some (.int .i64 (l.getD i default).lo) ∧ w.cell? ⟨(ad.add (i * 2)).block, (ad.add (i * 2)).off + 1, none⟩ = some (.int .i64 (l.getD i default).hi)
theorem SpAt.below {w w1 : World} {A : Option Addr} {l : List Sp} (h : SpAt w A l) (hb : Below w.heap.size w w1) : SpAt w1 A l := by
  intro i hi
  obtain ⟨ad, e, hlt, c0, c1⟩ := h i hi
  have hbl : (ad.add (i * 2)).block < w.heap.size := by rw [block_add]; exact hlt
  exact ⟨ad, e, Nat.lt_of_lt_of_le hlt hb.size, (hb.cell hbl).trans c0, (hb.cell (p := ⟨_, _, none⟩) hbl).trans c1⟩
theorem spans_of {w : World} {v : Value} (h : v = .slice none 0 0 ∨ ∃ a len cap, v = .slice (some a) len cap ∧ len ≤ cap ∧ cap ≤ maxLen ∧
      ∀ i, i < len → ∃ cs, cs.length = 2 ∧ (∀ j u, cs[j]? = some u → w.cell? ((a.add (i * 2)).add j) = some u) ∧ Rd w (.i .i64 (.i .i64 .nil)) cs) :
    ∃ (A : Option Addr) (l : List Sp) (cap : Nat), v = .slice A l.length cap ∧ l.length ≤ cap ∧ cap ≤ 9223372036854775807 ∧ SpAt w A l := by
  rcases h with rfl | ⟨a, len, cap, rfl, hl, hm, hi⟩
  · exact ⟨none, [], 0, rfl, Nat.le_refl _, by omega, fun i hi => by simp at hi⟩
  · obtain ⟨bs, hbl, hbs⟩ := choose_list (α := Sp) (n := len) (Q := fun i x => w.cell? ((a.add (i * 2)).add 0) = some (.int .i64 x.lo) ∧ w.cell? ((a.add (i * 2)).add 1) = some (.int .i64 x.hi)) (fun i hil => by
      obtain ⟨cs, _, hc, n0, _, rfl, _, n1, _, rfl, _, rfl⟩ := hi i hil
      exact ⟨⟨n0, n1⟩, hc 0 _ rfl, hc 1 _ rfl⟩)
    refine ⟨some a, bs, cap, by rw [hbl], by omega, by unfold maxLen at hm; omega, fun i hi => ?_⟩
    have hg : bs[i]? = some (bs.getD i default) := by rw [List.getD_eq_getElem?_getD, List.getElem?_eq_getElem hi]; rfl
    obtain ⟨h0, h1⟩ := hbs i _ hg
    rw [add_zero'] at h0
    have hb := World.block_lt_of_cell? _ _ h0
    rw [block_add] at hb
    exact ⟨a, rfl, hb, h0, h1⟩
end Go.Proofs.Ytcneohhfnnelgaa
