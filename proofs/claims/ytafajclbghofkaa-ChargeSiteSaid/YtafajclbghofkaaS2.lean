/- What a station has: client.reserved of charge; left and reserved of coulombref09. -/
import Derived.Test.YtafajclbghofkaaS1
import Derived.Test.YtafajclbghofkaaG0
import Derived.OwnWalk
namespace Go.Proofs.Ytafajclbghofkaa
open Go.RowKit
set_option linter.unusedVariables false
/-- a slice's leases -/
def LsAt (w : World) (A : Option Addr) (L : List Ls) : Prop := ∀ i, i < L.length → ∃ ad, A = some ad ∧ ad.block < w.heap.size ∧ w.cell? (ad.add (i * 4)) = some (.int .i64 (L.getD i default).n) ∧
  w.cell? ⟨(ad.add (i * 4)).block, (ad.add (i * 4)).off + 1, none⟩ = some (.int .i64 (L.getD i default).d) ∧ w.cell? ⟨(ad.add (i * 4)).block, (ad.add (i * 4)).off + 2, none⟩ = some (.int .i64 (L.getD i default).b) ∧ w.cell? ⟨(ad.add (i * 4)).block, (ad.add (i * 4)).off + 3, none⟩ = some (.int .i64 (L.getD i default).u)
theorem LsAt.touch {w w1 : World} {A : Option Addr} {L : List Ls} {S : Nat → Prop} (h : LsAt w A L) (ht : Touch S w w1) (hn : ∀ k, OwnB A k → ¬ S k) : LsAt w1 A L := by
  intro i hi
  obtain ⟨ad, e, hlt, c0, c1, c2, c3⟩ := h i hi
  have hbl : (ad.add (i * 4)).block < w.heap.size := by rw [block_of_add]; exact hlt
  have hs : ¬ S (ad.add (i * 4)).block := by rw [block_of_add]; exact hn _ ⟨ad, e, rfl⟩
  exact ⟨ad, e, Nat.lt_of_lt_of_le hlt ht.size, (ht.cell hbl hs).trans c0, (ht.cell (p := ⟨_, _, none⟩) hbl hs).trans c1, (ht.cell (p := ⟨_, _, none⟩) hbl hs).trans c2, (ht.cell (p := ⟨_, _, none⟩) hbl hs).trans c3⟩
theorem LsAt.below {w w1 : World} {A : Option Addr} {L : List Ls} (h : LsAt w A L) (hb : Below w.heap.size w w1) : LsAt w1 A L := h.touch (Touch.of_below (S := fun _ => False) hb) (fun _ _ h => h)

set_option maxHeartbeats 4000000 in
theorem reserved_c (g o : Nat) (A : Option Addr) (cap : Nat) (c : Sx.Cl) (t : Int) (w : World) (hok : Sx.okL c.L) (hn : c.L.length ≤ 100000) (hcap : c.L.length ≤ cap) (hcm : cap ≤ 9223372036854775807) (c0 : w.cell? ⟨g, o, none⟩ = some (.slice A c.L.length cap)) (c2 : w.cell? ⟨g, o + 2, none⟩ = some (.int .i64 c.kn)) (hl : LsAt w A c.L) :
    Calls Try.prog 74 #[.pointer (some ⟨g, o, none⟩), .int .i64 t] w fun e w' => e = .returned (.tuple #[.int .i64 (Sx.rD c t), .int .i64 (Sx.rB c t), .int .i64 (Sx.many c t)]) ∧ Below w.heap.size w w' := by
  have HL := Lib.hid hl
  have HO := Lib.hid hok
  have zg : g < w.heap.size := World.block_lt_of_cell? _ _ c0
  have HC := Lib.hid c2
  clear hl hok c2
  go_enter Try.func74, Try.ntmps74
  go_wp2
  clear c0
  go_loopw [4, 5, 6, 14] (fun d b m i wr => ∃ k : Nat, k ≤ c.L.length ∧ i = .int .i64 k ∧ d = .int .i64 (Sx.mxD (Sx.lv c t k)) ∧ b = .int .i64 (Sx.mxB (Sx.lv c t k)) ∧ m = .int .i64 ((Sx.lv c t k).length : Nat) ∧ Hid (Below w.heap.size w wr)) (fun _ _ _ i _ => c.L.length - (intOf i).toNat)
  case atStart => exact ⟨0, Nat.zero_le _, rfl, rfl, rfl, rfl, Lib.hid (Below.refl _ _)⟩
  case round =>
    obtain ⟨k, hk, rfl, rfl, rfl, rfl, HB⟩ := hrel
    by_cases hlt : k < c.L.length
    · obtain ⟨ad, rfl, hlb, c0, c1, c2, c3⟩ := HL.out.below HB.out k hlt
      have q2 : wr.cell? ⟨g, o + 2, none⟩ = some (.int .i64 c.kn) := (HB.out.cell (p := ⟨g, o + 2, none⟩) zg).trans HC.out
      have HS := Lib.hid (Sx.lv_succ c t k hlt)
      have hb := Sx.mx_bd (Sx.okL_lv HO.out t k)
      have hln := Sx.lv_len c t k
      have hx := HO.out (c.L.getD k default) (by rw [List.getD_eq_getElem?_getD, List.getElem?_eq_getElem hlt]; exact List.getElem_mem hlt)
      have hz : g < wr.heap.size := Nat.lt_of_lt_of_le zg HB.out.size
      have hz2 : g ≠ wr.heap.size := by omega
      generalize c.L.getD k default = l at *
      generalize hLv : Sx.lv c t k = V at *
      clear hLv
      by_cases h1 : c.kn ≤ l.n
      · have h1' : decide (c.kn ≤ l.n) = true := decide_eq_true h1
        by_cases h2 : t < l.u
        · have h2' : decide (t < l.u) = true := decide_eq_true h2
          have HV : Hid (Sx.lv c t (k + 1) = V ++ [l]) := Lib.hid (by rw [HS.out, if_pos (by unfold Sx.liveB; rw [h1', h2']; rfl)])
          clear h1 h2
          go_wp2_with fail
          go_quiet (fail)
          go_wp2_with fail
          go_quiet (fail)
          go_wp2_with fail
          have hm1 : (if Sx.mxD V < l.d then l.d else Sx.mxD V) = max (Sx.mxD V) l.d := by split <;> omega
          have hm2 : (if Sx.mxB V < l.b then l.b else Sx.mxB V) = max (Sx.mxB V) l.b := by split <;> omega
          rw [hm1, hm2]
          refine ⟨⟨k + 1, by omega, by go_num, by rw [HV.out, Sx.mxD_snoc], by rw [HV.out, Sx.mxB_snoc], by rw [HV.out, List.length_append]; rfl, Lib.hid (below_drewN (HB.out.alloc HB.out.size _) _)⟩, by simp [intOf]; omega⟩
        · have h2' : decide (t < l.u) = false := decide_eq_false h2
          have HV : Hid (Sx.lv c t (k + 1) = V) := Lib.hid (by rw [HS.out, if_neg (by unfold Sx.liveB; rw [h2']; simp)])
          clear h1 h2
          go_wp2_with fail
          go_quiet (fail)
          go_wp2_with fail
          go_roundw
          case rel => exact ⟨k + 1, by omega, by go_num, by rw [HV.out], by rw [HV.out], by rw [HV.out], Lib.hid (below_drewN (HB.out.alloc HB.out.size _) _)⟩
          case measure => simp [intOf]; omega
      · have h1' : decide (c.kn ≤ l.n) = false := decide_eq_false h1
        have HV : Hid (Sx.lv c t (k + 1) = V) := Lib.hid (by rw [HS.out, if_neg (by unfold Sx.liveB; rw [h1']; simp)])
        clear h1
        go_wp2_with fail
        go_quiet (fail)
        go_wp2_with fail
        go_roundw
        case rel => exact ⟨k + 1, by omega, by go_num, by rw [HV.out], by rw [HV.out], by rw [HV.out], Lib.hid (below_drewN (HB.out.alloc HB.out.size _) _)⟩
        case measure => simp [intOf]; omega
    · have e : k = c.L.length := by omega
      subst e
      have HE := Lib.hid (Sx.lv_all c t)
      go_wp2_with fail
      go_ret3
      rw [HE.out]
      exact ⟨rfl, HB.out⟩
end Go.Proofs.Ytafajclbghofkaa
