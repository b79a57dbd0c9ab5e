/- band of coulombref09. -/
import Derived.Test.YtafajclbghofkaaA4
namespace Go.Proofs.Ytafajclbghofkaa
open Go.RowKit
set_option linter.unusedVariables false

theorem bandK_le (bs : List Bd) (x : Int) (n : Nat) : Cv.bandK bs x n ≤ n := by
  by_cases h : n = 0
  · subst h; exact Nat.le_refl _
  · exact Nat.le_of_lt (Cv.bandK_lt bs x n (by omega))

set_option maxHeartbeats 4000000 in
theorem band_c (day fee : Int) (A : Option Addr) (bs : List Bd) (cap : Nat) (a : Int) (w : World) (hd : 1 ≤ day ∧ day ≤ 1099511627776) (ha : 0 ≤ a ∧ a ≤ 1099511627776) (hn : 1 ≤ bs.length ∧ bs.length ≤ 48) (hcap : bs.length ≤ cap) (hw : BandsAt w A bs) :
    Calls Try.prog 55 #[.agg #[.int .i64 day, .slice A bs.length cap, .int .i64 fee], .int .i64 a] w fun e w' =>
      e = .returned (.agg #[.int .i64 (Cv.fr bs (Cv.prK day bs a)), .int .i64 (Cv.inn bs (Cv.prK day bs a)), .int .i64 (Cv.bk bs (Cv.prK day bs a))]) ∧ Below w.heap.size w w' := by
  have HW := Lib.hid hw
  have ht : a.tmod day = a % day := Int.tmod_eq_emod_of_nonneg ha.1
  have hm : 0 ≤ a % day ∧ a % day < day := ⟨Int.emod_nonneg _ (by omega), Int.emod_lt_of_pos _ (by omega)⟩
  have hd0 : day ≠ 0 := by omega
  unfold Cv.prK
  generalize hx : a % day = x at *
  have HX := Lib.hid hx
  clear hw hx
  go_enter Try.func55, Try.ntmps55
  go_wp2
  go_loopw [5, 6] (fun s5 s6 wr => ∃ k : Nat, k ≤ bs.length ∧ s6 = .int .i64 k ∧ s5 = .int .i64 (Cv.bandK bs x k : Nat) ∧ Hid (Below (w.heap.size + 2) ((w.alloc (.cells #[.int .i64 day, .slice A bs.length cap, .int .i64 fee] 24)).alloc (.cells #[.int .i64 0, .int .i64 0, .int .i64 0] 120)) wr)) (fun _ s6 _ => bs.length - (intOf s6).toNat)
  case atStart => exact ⟨0, Nat.zero_le _, rfl, rfl, Lib.hid (by simpa using Below.refl _ _)⟩
  case round =>
    obtain ⟨k, hk, rfl, rfl, HB⟩ := hrel
    have hb := HB.out
    have t0 : wr.cell? ⟨w.heap.size, 0, none⟩ = some (.int .i64 day) := below_cell hb (by omega) (by go_simp)
    have t1 : wr.cell? ⟨w.heap.size, 1, none⟩ = some (.slice A bs.length cap) := below_cell hb (by omega) (by go_simp)
    have e0 : wr.cell? ⟨w.heap.size + 1, 0, none⟩ = some (.int .i64 0) := below_cell hb (by omega) (by go_simp)
    have e1 : wr.cell? ⟨w.heap.size + 1, 1, none⟩ = some (.int .i64 0) := below_cell hb (by omega) (by go_simp)
    have e2 : wr.cell? ⟨w.heap.size + 1, 2, none⟩ = some (.int .i64 0) := below_cell hb (by omega) (by go_simp)
    have f0 : wr.frozen? ⟨w.heap.size + 1, 0, none⟩ = false := (hb.frozen (p := ⟨w.heap.size + 1, 0, none⟩) (by simp)).trans (by go_simp)
    have f1 : wr.frozen? ⟨w.heap.size + 1, 1, none⟩ = false := (hb.frozen (p := ⟨w.heap.size + 1, 1, none⟩) (by simp)).trans (by go_simp)
    have f2 : wr.frozen? ⟨w.heap.size + 1, 2, none⟩ = false := (hb.frozen (p := ⟨w.heap.size + 1, 2, none⟩) (by simp)).trans (by go_simp)
    have hz : w.heap.size + 1 < wr.heap.size := by have := hb.size; simp at this; omega
    have HBb := Lib.hid (show Below w.heap.size w wr from (((Below.refl _ _).alloc (Nat.le_refl _) _).alloc (by simp) _).trans (hb.mono (by omega)))
    have hK := bandK_le bs x k
    have HS := Lib.hid (show Cv.bandK bs x (k + 1) = if Cv.fr bs k ≤ x then k else Cv.bandK bs x k from rfl)
    clear hb
    by_cases hlt : k < bs.length
    · obtain ⟨ad, hA, hadb, c0, c1, c2⟩ := HW.out.below HBb.out k hlt
      subst hA
      by_cases g : Cv.fr bs k ≤ x
      · go_wp2_with fail
        go_quiet (fail)
        go_wp2_with fail
        go_roundw
        case rel => exact ⟨k + 1, by omega, by go_num, by rw [HS.out, if_pos g], Lib.hid (below_drewN HB.out _)⟩
        case measure => simp [intOf]; omega
      · go_wp2_with fail
        go_quiet (fail)
        go_wp2_with fail
        go_roundw
        case rel => exact ⟨k + 1, by omega, by go_num, by rw [HS.out, if_neg (by omega)], Lib.hid (below_drewN HB.out _)⟩
        case measure => simp [intOf]; omega
    · obtain rfl : k = bs.length := by omega
      have hlt' := Cv.bandK_lt bs x bs.length (by omega)
      obtain ⟨ad, hA, hadb, c0, c1, c2⟩ := HW.out.below HBb.out (Cv.bandK bs x bs.length) hlt'
      subst hA
      go_wp2_with fail
      refine bodyPost_ret (v := .agg #[.int .i64 (Cv.fr bs (Cv.bandK bs x bs.length)), .int .i64 (Cv.inn bs (Cv.bandK bs x bs.length)), .int .i64 (Cv.bk bs (Cv.bandK bs x bs.length))]) (by simp [results, Try.results55, go_sem, e0, e1, e2]) rfl ⟨rfl, ?_⟩
      exact ((HBb.out.setCell (by simp) _).setCell (by simp) _).setCell (by simp) _
end Go.Proofs.Ytafajclbghofkaa
