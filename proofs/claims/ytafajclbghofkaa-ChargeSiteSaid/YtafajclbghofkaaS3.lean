/- left and reserved of coulombref09. -/
import Derived.Test.YtafajclbghofkaaS2
import Derived.Test.YtafajclbghofkaaG4
namespace Go.Proofs.Ytafajclbghofkaa
open Go.RowKit
set_option linter.unusedVariables false
theorem info43 : (Try.prog.info? 43).map (fun i => (i.zero, i.size, i.bytes)) = some (some (.agg #[.int .i64 0, .int .i64 0, .int .i64 0, .int .i64 0]), 4, 32) := by kernel_rfl
def flatLs (L : List Ls) : List Value := L.flatMap Ls.vals
theorem flatLs_append (a b : List Ls) : flatLs (a ++ b) = flatLs a ++ flatLs b := by simp [flatLs]
theorem flatLs_length (L : List Ls) : (flatLs L).length = L.length * 4 := by
  induction L with
  | nil => rfl
  | cons x L ih =>
    have e : flatLs (x :: L) = x.vals ++ flatLs L := rfl
    rw [e, List.length_append, ih, List.length_cons]
    simp [Ls.vals]
    omega
theorem flatLs_drop (L : List Ls) : ∀ k, (flatLs L).drop (k * 4) = flatLs (L.drop k) := by
  induction L with
  | nil => intro k; simp [flatLs]
  | cons x L ih =>
    intro k
    cases k with
    | zero => rfl
    | succ k =>
      have e : flatLs (x :: L) = x.vals ++ flatLs L := rfl
      rw [e, show (k + 1) * 4 = x.vals.length + k * 4 by simp [Ls.vals]; omega, ← List.drop_drop, List.drop_left, ih k]
      rfl
theorem flatLs_one (L : List Ls) : ∀ u ∈ flatLs L, u.oneCell' = true := by
  intro u hu
  simp only [flatLs, List.mem_flatMap, Ls.vals] at hu
  obtain ⟨n, _, hu⟩ := hu
  simp at hu
  rcases hu with rfl | rfl | rfl | rfl <;> rfl
theorem flatLs_at (L : List Ls) {i : Nat} (hi : i < L.length) (j : Nat) (u : Value) (hu : (L.getD i default).vals[j]? = some u) : (flatLs L)[i * 4 + j]? = some u := by
  have h1 : ((flatLs L).drop (i * 4))[j]? = some u := by
    rw [flatLs_drop, List.drop_eq_getElem_cons hi]
    have e : L.getD i default = L[i] := by rw [List.getD_eq_getElem?_getD, List.getElem?_eq_getElem hi]; rfl
    rw [e] at hu
    show (L[i].vals ++ flatLs (L.drop (i + 1)))[j]? = some u
    rw [List.getElem?_append_left (List.getElem?_eq_some_iff.1 hu).1]
    exact hu
  rwa [List.getElem?_drop] at h1
/-- a row of leases -/
abbrev LRow (B : Nat) (A : Option Addr) (cap : Nat) (L : List Ls) (W : World) : Prop := W.ownsRow B 43 4 (.slice A L.length cap) L.length (flatLs L)
theorem lrow_cells {W : World} {B cap : Nat} {A : Option Addr} {L : List Ls} (h : LRow B A cap L W) (hn : 0 < L.length) : ∃ g, A = some ⟨g, 0, none⟩ ∧ g < W.heap.size ∧ B ≤ g ∧ L.length ≤ cap ∧ cap ≤ maxLen ∧ ∀ i u, (flatLs L)[i]? = some u → W.cell? ⟨g, i, none⟩ = some u := by
  rcases h.2 with ⟨h2, hx⟩ | ⟨g, c, cur, hv, hb, hg, hnc, hcm, _⟩
  · have := flatLs_length L
    rw [hx] at this
    simp at this
    omega
  · cases hv
    refine ⟨g, rfl, (Array.getElem?_eq_some_iff.1 hg).1, hb, hnc, hcm, fun i v hv => ?_⟩
    have hc := World.ownsRow.cells (g := g) h rfl i v hv
    rwa [show ((⟨g, 0, none⟩ : Addr).add i) = ⟨g, i, none⟩ from (by unfold Addr.add; split <;> simp_all)] at hc
theorem lrow_at {W : World} {B cap : Nat} {A : Option Addr} {L : List Ls} (h : LRow B A cap L W) : LsAt W A L := by
  intro i hi
  obtain ⟨g, rfl, hlt, _, _, _, hc⟩ := lrow_cells h (by omega)
  have e : ((⟨g, 0, none⟩ : Addr).add (i * 4)) = ⟨g, i * 4, none⟩ := by unfold Addr.add; split <;> simp_all
  refine ⟨_, rfl, hlt, ?_, ?_, ?_, ?_⟩ <;> rw [e]
  · exact hc _ _ (flatLs_at L hi 0 _ rfl)
  · exact hc _ _ (flatLs_at L hi 1 _ rfl)
  · exact hc _ _ (flatLs_at L hi 2 _ rfl)
  · exact hc _ _ (flatLs_at L hi 3 _ rfl)
theorem lrow_cap {W : World} {B cap : Nat} {A : Option Addr} {L : List Ls} (h : LRow B A cap L W) : L.length ≤ cap ∧ cap ≤ maxLen := by
  rcases h.2 with ⟨h2, hx⟩ | ⟨g, c, cur, hv, hb, hg, hnc, hcm, _⟩
  · have := flatLs_length L
    rw [hx] at this
    simp at this
    have e3 : cap = 0 := by injection h2
    exact ⟨by omega, by rw [e3]; decide⟩
  · cases hv
    exact ⟨hnc, hcm⟩
/-- a slice of leases of the call's own -/
def LvR (w : World) (L : List Ls) (e : Ending) (w' : World) : Prop := ∃ A' c', e = .returned (.slice A' L.length c') ∧ LRow w.heap.size A' c' L w' ∧ Below w.heap.size w w'

set_option maxRecDepth 100000 in
set_option maxHeartbeats 4000000 in
theorem left_c (A : Option Addr) (cap : Nat) (c : Sx.Cl) (t : Int) (w : World) (hn : c.L.length ≤ 100000) (hcap : c.L.length ≤ cap) (hcm : cap ≤ 9223372036854775807) (hl : LsAt w A c.L) :
    Calls Try.prog 88 #[.agg #[.slice A c.L.length cap, .int .i64 c.last, .int .i64 c.kn], .int .i64 t] w (LvR w (Sx.live c t)) := by
  have HL := Lib.hid hl
  obtain ⟨i0, hi, z0, z1, z2⟩ := info_parts info43
  clear hl
  go_enter Try.func88, Try.ntmps88
  go_wp2
  go_loopw [5, 6] (fun o i wr => ∃ (k : Nat) (A' : Option Addr) (c' : Nat), k ≤ c.L.length ∧ i = .int .i64 k ∧ o = .slice A' (Sx.lv c t k).length c' ∧ Hid (LRow w.heap.size A' c' (Sx.lv c t k) wr ∧ Below w.heap.size w wr ∧ Blk wr w.heap.size 156 [.slice A c.L.length cap, .int .i64 c.last, .int .i64 c.kn] ∧ ∀ k, OwnB A' k → w.heap.size < k)) (fun _ i _ => c.L.length - (intOf i).toNat)
  case atStart => exact ⟨0, none, 0, Nat.zero_le _, rfl, rfl, Lib.hid ⟨World.ownsRow_nil _ _ _ _, (Below.refl _ _).alloc (Nat.le_refl _) _, Blk.new' _ _ _, fun k ⟨a, e, _⟩ => (by cases e)⟩⟩
  case round =>
    obtain ⟨k, A', c', hk, rfl, rfl, HR⟩ := hrel
    have b0 := HR.out.2.2.1.cell 0 rfl
    have b2 := HR.out.2.2.1.cell 2 rfl
    have hz := HR.out.2.2.1.lt
    by_cases hlt : k < c.L.length
    · obtain ⟨ad, rfl, hlb, c0, c1, c2, c3⟩ := HL.out.below HR.out.2.1 k hlt
      have HS := Lib.hid (Sx.lv_succ c t k hlt)
      have hln := Sx.lv_len c t k
      have HLn := Lib.hid hln
      have k0 : (0 : Int) ≤ (k : Int) := by omega
      have k1 : (k : Int) < (c.L.length : Int) := by omega
      generalize c.L.getD k default = l at *
      by_cases h1 : c.kn ≤ l.n
      · have h1' : decide (c.kn ≤ l.n) = true := decide_eq_true h1
        by_cases h2 : t < l.u
        · have h2' : decide (t < l.u) = true := decide_eq_true h2
          have HV : Hid (Sx.lv c t (k + 1) = Sx.lv c t k ++ [l]) := Lib.hid (by rw [HS.out, if_pos (by unfold Sx.liveB; rw [h1', h2']; rfl)])
          generalize Sx.lv c t k = V at *
          clear h1 h2
          go_wp2_with fail
          go_quiet (fail)
          go_wp2_with (at_builtin; refine wpList_append_any (.tmp 33) (.tmp 39) 36 rfl rfl w.heap.size 43 i0 (.agg #[.int .i64 0, .int .i64 0, .int .i64 0, .int .i64 0]) 4 32 Try.underlying36 hi z0 z1 z2 rfl (by decide) A' V.length c' (flatLs V) (by rfl) (rowE_below HR.out.1 (below_drewN ((Below.refl _ _).alloc (Nat.le_refl _) _) _)) (some ⟨wr.heap.size, 0, none⟩) 1 1 l.vals (by rfl) rfl (src_blk ((Blk.new' wr #[.int .i64 l.n, .int .i64 l.d, .int .i64 l.b, .int .i64 l.u] 43).drewN _) 1) (by simp [Ls.vals, Value.oneCell']) (by have := HLn.out; unfold maxLen; omega) (by have := HLn.out; omega) (by have := HR.out.2.1.size; simp; omega) ?_; intro A2 c2' w2 hown hgrow hat; have HO := Lib.hid hown; have HT := Lib.hid (grown_touch hgrow); have HB2 := Lib.hid (Below.grown (below_drewN (HR.out.2.1.alloc HR.out.2.1.size (.cells #[.int .i64 l.n, .int .i64 l.d, .int .i64 l.b, .int .i64 l.u] 43)) nq) hgrow (by have := HR.out.2.1.size; simp; omega) (fun j hj => Nat.le_of_lt (HR.out.2.2.2 j (ownB_iff.2 hj)))); have HA := Lib.hid hat; clear hown hgrow hat)
          go_roundw
          case rel => exact ⟨k + 1, A2, c2', by omega, by go_num, by rw [HV.out, List.length_append]; rfl, Lib.hid ⟨by have h := HO.out; rw [HV.out]; unfold LRow; rw [flatLs_append, List.length_append]; exact h, HB2.out, (((HR.out.2.2.1.alloc _).drewN _).touch HT.out (fun e => by have := HR.out.2.2.2 _ e; omega)), fun j hj => by rcases HA.out j hj with h | h; exact HR.out.2.2.2 j h; simp at h; omega⟩⟩
          case measure => simp [intOf]; omega
        · have h2' : decide (t < l.u) = false := decide_eq_false h2
          have HV : Hid (Sx.lv c t (k + 1) = Sx.lv c t k) := Lib.hid (by rw [HS.out, if_neg (by unfold Sx.liveB; rw [h2']; simp)])
          clear h1 h2
          go_wp2_with fail
          go_quiet (fail)
          go_wp2_with fail
          go_roundw
          case rel => exact ⟨k + 1, A', c', by omega, by go_num, by rw [HV.out], Lib.hid ⟨by rw [HV.out]; exact rowE_below HR.out.1 (below_drewN (Below.refl _ _) _), below_drewN HR.out.2.1 _, HR.out.2.2.1.drewN _, HR.out.2.2.2⟩⟩
          case measure => simp [intOf]; omega
      · have h1' : decide (c.kn ≤ l.n) = false := decide_eq_false h1
        have HV : Hid (Sx.lv c t (k + 1) = Sx.lv c t k) := Lib.hid (by rw [HS.out, if_neg (by unfold Sx.liveB; rw [h1']; simp)])
        clear h1
        go_wp2_with fail
        go_quiet (fail)
        go_wp2_with fail
        go_roundw
        case rel => exact ⟨k + 1, A', c', by omega, by go_num, by rw [HV.out], Lib.hid ⟨by rw [HV.out]; exact rowE_below HR.out.1 (below_drewN (Below.refl _ _) _), below_drewN HR.out.2.1 _, HR.out.2.2.1.drewN _, HR.out.2.2.2⟩⟩
        case measure => simp [intOf]; omega
    · have e : k = c.L.length := by omega
      subst e
      have HE := Lib.hid (Sx.lv_all c t)
      go_wp2_with fail
      go_ret
      exact ⟨A', c', by rw [HE.out]; rfl, by have h := HR.out.1; rw [HE.out] at h; exact h, HR.out.2.1⟩

theorem mx_take {L : List Ls} {k : Nat} (hk : k < L.length) : Sx.mxD (L.take (k + 1)) = max (Sx.mxD (L.take k)) (L.getD k default).d ∧ Sx.mxB (L.take (k + 1)) = max (Sx.mxB (L.take k)) (L.getD k default).b := by
  have e : L.getD k default = L[k] := by rw [List.getD_eq_getElem?_getD, List.getElem?_eq_getElem hk]; rfl
  rw [List.take_succ_eq_append_getElem hk, Sx.mxD_snoc, Sx.mxB_snoc, e]
  exact ⟨rfl, rfl⟩
set_option maxHeartbeats 2000000 in
theorem reservedR_c (A : Option Addr) (cap : Nat) (c : Sx.Cl) (t : Int) (w : World) (hok : Sx.okL c.L) (hn : c.L.length ≤ 100000) (hcap : c.L.length ≤ cap) (hcm : cap ≤ 9223372036854775807) (hl : LsAt w A c.L) :
    Calls Try.prog 75 #[.agg #[.slice A c.L.length cap, .int .i64 c.last, .int .i64 c.kn], .int .i64 t] w fun e w' => e = .returned (.tuple #[.int .i64 (Sx.rD c t), .int .i64 (Sx.rB c t)]) ∧ Below w.heap.size w w' := by
  have hc := left_c A cap c t _ hn hcap hcm (hl.below ((Below.refl w.heap.size w).alloc (Nat.le_refl _) (.cells #[.slice A c.L.length cap, .int .i64 c.last, .int .i64 c.kn] 156)))
  have HO := Lib.hid (Sx.okL_live hok t)
  have HD := Lib.hid (show Sx.rD c t = Sx.mxD (Sx.live c t) from rfl)
  have HB := Lib.hid (show Sx.rB c t = Sx.mxB (Sx.live c t) from rfl)
  have hvn : (Sx.live c t).length ≤ 100000 := Nat.le_trans (List.length_filter_le _ _) hn
  clear hl hok
  generalize Sx.live c t = V at *
  generalize Sx.rD c t = rd at *
  generalize Sx.rB c t = rb at *
  go_enter Try.func75, Try.ntmps75
  go_wp2_with (go_at_call 88; refine hc.mono ?_; rintro e w1 ⟨A', c', rfl, hr, hb⟩; have HR := Lib.hid hr; have HW := Lib.hid (((Below.refl w.heap.size w).alloc (Nat.le_refl _) _).trans (hb.mono (by simp))); clear hr hb)
  have hcc := lrow_cap HR.out
  unfold maxLen at hcc
  have HA := Lib.hid (lrow_at HR.out)
  go_loop [6, 7, 9] (fun d b i => ∃ k : Nat, k ≤ V.length ∧ i = .int .i64 k ∧ d = .int .i64 (Sx.mxD (V.take k)) ∧ b = .int .i64 (Sx.mxB (V.take k))) (fun _ _ i => V.length - (intOf i).toNat)
  case atStart => exact ⟨0, Nat.zero_le _, rfl, rfl, rfl⟩
  case round =>
    obtain ⟨k, hk, rfl, rfl, rfl⟩ := hrel
    by_cases hlt : k < V.length
    · obtain ⟨ad, rfl, hlb, c0, c1, c2, c3⟩ := HA.out k hlt
      have HM := Lib.hid (mx_take hlt)
      have hb := Sx.mx_bd (L := V.take k) (fun l hl => HO.out l (List.mem_of_mem_take hl))
      clear c0 c3
      generalize V.getD k default = l at *
      generalize Sx.mxD (V.take k) = x at *
      generalize Sx.mxB (V.take k) = y at *
      go_wp2
      have hm1 : (if x < l.d then l.d else x) = max x l.d := by split <;> omega
      have hm2 : (if y < l.b then l.b else y) = max y l.b := by split <;> omega
      rw [hm1, hm2]
      exact ⟨⟨k + 1, by omega, by go_num, by rw [HM.out.1], by rw [HM.out.2]⟩, by simp [intOf]; omega⟩
    · have e : k = V.length := by omega
      subst e
      rw [List.take_length]
      go_wp2
      go_ret2
      rw [HD.out, HB.out]
      exact ⟨rfl, HW.out⟩
end Go.Proofs.Ytafajclbghofkaa
