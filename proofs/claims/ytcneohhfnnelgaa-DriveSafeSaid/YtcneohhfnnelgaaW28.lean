/- Contracts of room, Room, most and the closures of weaken. -/
import Derived.Test.YtcneohhfnnelgaaW27
import Derived.Test.YtcneohhfnnelgaaM4
import Derived.Laws.EntriesVeiled
namespace Go.Proofs.Ytcneohhfnnelgaa
open Go.RowKit
set_option linter.unusedVariables false
namespace Dv
def roomV (u : Int) : Int := u * 26755 / 65536
def RoomV (u : Int) : Int := if busB u = true then roomV u else 0
def RoomE (u : Int) : Int := if busB u = true then 0 else 3
theorem busB_iff {u : Int} : busB u = true ↔ 1 ≤ u ∧ u ≤ 1073741824 := by simp [busB, inB]
theorem roomV_bd {u : Int} (h : 1 ≤ u ∧ u ≤ 1073741824) : 0 ≤ roomV u ∧ roomV u ≤ 1073741824 := by unfold roomV; omega
end Dv
theorem room_c (u : Int) (w : World) (h : 1 ≤ u ∧ u ≤ 1073741824) : Calls Try.prog 96 #[.int .i64 u] w fun e w' => e = .returned (.int .i64 (Dv.roomV u)) ∧ w = w' := by
  go_enter Try.func96, Try.ntmps96
  go_wp2
  go_ret
  exact ⟨rfl, rfl⟩
theorem Room_c (u : Int) (w : World) : Calls Try.prog 54 #[.int .i64 u] w fun e w' => e = .returned (.tuple #[.int .i64 (Dv.RoomV u), .int .i64 (Dv.RoomE u)]) ∧ w = w' := by
  by_cases h1 : 1 ≤ u
  · by_cases h2 : u ≤ 1073741824
    · have E := Lib.hid (show Dv.RoomV u = Dv.roomV u ∧ Dv.RoomE u = 0 from by simp [Dv.RoomV, Dv.RoomE, Dv.busB, Dv.inB, h1, h2])
      go_enter Try.func54, Try.ntmps54
      go_wp2_with (go_at_call 96; refine (room_c u _ ⟨h1, h2⟩).mono ?_; rintro e w' ⟨rfl, rfl⟩)
      go_ret2
      exact ⟨ret2_int E.out.1.symm E.out.2.symm, rfl⟩
    · have E := Lib.hid (show Dv.RoomV u = 0 ∧ Dv.RoomE u = 3 from by simp [Dv.RoomV, Dv.RoomE, Dv.busB, Dv.inB, h1, h2])
      go_enter Try.func54, Try.ntmps54
      go_wp2
      go_ret2
      exact ⟨ret2_int E.out.1.symm E.out.2.symm, rfl⟩
  · have E := Lib.hid (show Dv.RoomV u = 0 ∧ Dv.RoomE u = 3 from by simp [Dv.RoomV, Dv.RoomE, Dv.busB, Dv.inB, h1])
    go_enter Try.func54, Try.ntmps54
    go_wp2
    go_ret2
    exact ⟨ret2_int E.out.1.symm E.out.2.symm, rfl⟩

end Go.Proofs.Ytcneohhfnnelgaa
