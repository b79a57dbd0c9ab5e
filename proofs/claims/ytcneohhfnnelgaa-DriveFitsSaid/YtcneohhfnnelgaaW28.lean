/- Contracts of room, Room, most and the closures of weaken. -/
import Derived.Test.YtcneohhfnnelgaaW27
import Derived.Test.YtcneohhfnnelgaaM4
import Derived.Laws.EntriesVeiled
namespace Go.Proofs.Ytcneohhfnnelgaa
open Go.RowKit
set_option linter.unusedVariables false
namespace Dv
def roomV (u : Int) : Int := u * 26755 / 65536
def RoomV (u : Int) : Int := if busB u = true then roomV u else 0
def RoomE (u : Int) : Int := if busB u = true then 0 else 3
theorem busB_iff {u : Int} : busB u = true ↔ 1 ≤ u ∧ u ≤ 1073741824 := by simp [busB, inB]
theorem roomV_bd {u : Int} (h : 1 ≤ u ∧ u ≤ 1073741824) : 0 ≤ roomV u ∧ roomV u ≤ 1073741824 := by unfold roomV; omega
end Dv
theorem room_c (u : Int) (w : World) (h : 1 ≤ u ∧ u ≤ 1073741824) : Calls Try.prog 96 #[.int .i64 u] w fun e w' => e = .returned (.int .i64 (Dv.roomV u)) ∧ w = w' := by
  go_enter Try.func96, Try.ntmps96
  go_wp2
  go_ret
  exact ⟨rfl, rfl⟩
theorem Room_c (u : Int) (w : World) : Calls Try.prog 54 #[.int .i64 u] w fun e w' => e = .returned (.tuple #[.int .i64 (Dv.RoomV u), .int .i64 (Dv.RoomE u)]) ∧ w = w' := by
  by_cases h1 : 1 ≤ u
  · by_cases h2 : u ≤ 1073741824
    · have E := Lib.hid (show Dv.RoomV u = Dv.roomV u ∧ Dv.RoomE u = 0 from by simp [Dv.RoomV, Dv.RoomE, Dv.busB, Dv.inB, h1, h2])
      go_enter Try.func54, Try.ntmps54
      go_wp2_with (go_at_call 96; refine (room_c u _ ⟨h1, h2⟩).mono ?_; rintro e w' ⟨rfl, rfl⟩)
      go_ret2
      exact ⟨ret2_int E.out.1.symm E.out.2.symm, rfl⟩
    · have E := Lib.hid (show Dv.RoomV u = 0 ∧ Dv.RoomE u = 3 from by simp [Dv.RoomV, Dv.RoomE, Dv.busB, Dv.inB, h1, h2])
      go_enter Try.func54, Try.ntmps54
      go_wp2
      go_ret2
      exact ⟨ret2_int E.out.1.symm E.out.2.symm, rfl⟩
  · have E := Lib.hid (show Dv.RoomV u = 0 ∧ Dv.RoomE u = 3 from by simp [Dv.RoomV, Dv.RoomE, Dv.busB, Dv.inB, h1])
    go_enter Try.func54, Try.ntmps54
    go_wp2
    go_ret2
    exact ⟨ret2_int E.out.1.symm E.out.2.symm, rfl⟩

/-- what most leaves -/
def MostR (p : Int → Bool) (lo hi : Int) (w : World) (e : Ending) (w' : World) : Prop := ∃ r : Int, e = .returned (.int .i64 r) ∧ lo ≤ r ∧ r ≤ hi ∧ p r = true ∧ (r = hi ∨ p (r + 1) = false) ∧ Below w.heap.size w w'
set_option maxHeartbeats 1000000 in
set_option maxRecDepth 100000 in
theorem most_c (F : FuncId) (a b : Value) (p : Int → Bool) (lo hi : Int) (w : World) (hlo : 0 ≤ lo) (hlh : lo ≤ hi) (hhi : hi ≤ 1152921504606846976) (hp : p lo = true) (hcf : ∀ (args : Array Value) (W : World), (callFunc F args).run Try.prog W = .ok (.enter F args) W)
    (hF : ∀ (x : Int) (W : World), lo ≤ x → x ≤ hi → Below w.heap.size w W → Calls Try.prog F #[.int .i64 x, a, b] W fun e W' => e = .returned (.bool (p x)) ∧ Below W.heap.size W W') :
    Calls Try.prog 91 #[.int .i64 lo, .int .i64 hi, .func (.func F) #[] #[a, b]] w (MostR p lo hi w) := by
  have HF := Lib.hid hF
  have HP := Lib.hid hp
  clear hF hp
  go_enter Try.func91, Try.ntmps91
  go_wp2
  go_loopw [0, 1] (fun x y wr => ∃ l h : Int, x = .int .i64 l ∧ y = .int .i64 h ∧ lo ≤ l ∧ l ≤ h ∧ h ≤ hi ∧ Hid (p l = true ∧ (h = hi ∨ p (h + 1) = false)) ∧ Below w.heap.size w wr) (fun x y _ => (intOf y - intOf x).toNat)
  case atStart => exact ⟨lo, hi, rfl, rfl, by omega, by omega, by omega, Lib.hid ⟨HP.out, .inl rfl⟩, Below.refl _ _⟩
  case round =>
    obtain ⟨l, h, rfl, rfl, h1, h2, h3, HQ, hb⟩ := hrel
    have HB := Lib.hid hb
    clear hb
    by_cases hlt : l < h
    · go_wp2_with fail
      refine (HF.out (l + (h - l + 1) / 2) _ (by omega) (by omega) HB.out).mono ?_
      rintro e w1 ⟨rfl, hb1⟩
      have HB1 := Lib.hid (HB.out.trans (hb1.mono HB.out.size))
      clear hb1
      cases hq : p (l + (h - l + 1) / 2)
      · have HQ2 := Lib.hid (show p l = true ∧ (l + (h - l + 1) / 2 - 1 = hi ∨ p (l + (h - l + 1) / 2 - 1 + 1) = false) from ⟨HQ.out.1, .inr (by rw [show l + (h - l + 1) / 2 - 1 + 1 = l + (h - l + 1) / 2 from by omega]; exact hq)⟩)
        clear hq
        go_wp2
        go_roundw
        case rel => exact ⟨l, l + (h - l + 1) / 2 - 1, rfl, rfl, by omega, by omega, by omega, HQ2, HB1.out⟩
        case measure => simp [intOf]; omega
      · have HQ2 := Lib.hid (show p (l + (h - l + 1) / 2) = true ∧ (h = hi ∨ p (h + 1) = false) from ⟨hq, HQ.out.2⟩)
        clear hq
        go_wp2
        go_roundw
        case rel => exact ⟨l + (h - l + 1) / 2, h, rfl, rfl, by omega, by omega, by omega, HQ2, HB1.out⟩
        case measure => simp [intOf]; omega
    · obtain rfl : l = h := by omega
      go_wp2
      go_ret
      exact ⟨l, rfl, h1, h3, HQ.out.1, HQ.out.2, HB.out⟩
end Go.Proofs.Ytcneohhfnnelgaa
