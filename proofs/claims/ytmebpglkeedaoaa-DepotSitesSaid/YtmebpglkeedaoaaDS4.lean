/- Contracts that the claim leans on, part 4: S13 S2 S3 R16 S6 S7 M20 R17 S8a S9 S8 S10 S11 S12 S14 M21 M22 T1 M23 T3 T4c T2 -/
import Derived.Test.YtmebpglkeedaoaaDS3
import Derived.Deep.Cut
import Derived.RangeFuncNested
import Derived.RangeFuncLeaves
import Derived.RangeFuncWrites
import Derived.RangeFuncBound
import Derived.Shelf.Abstract
import Derived.OwnWalkIn
import Derived.TacticsInMore
import Derived.LoopNIn
import Derived.LoopIn
import Derived.Sort.CutIn
set_option linter.unusedVariables false
set_option linter.unusedSimpArgs false
set_option linter.unnecessarySimpa false
namespace Go.Proofs.Ytmebpglkeedaoaa
open Go.RowKit Dp
def LongP (w : World) (e : Ending) (w' : World) : Prop := (∃ b, e = .returned (.bool b)) ∧ Below w.heap.size w w'
set_option maxHeartbeats 4000000 in
set_option maxRecDepth 100000 in
theorem long_c (A B C D E P Q : Option Addr) (cs : List Car) (T : Tab) (n nB nC nD m p q cA cB cC cD cE cP cQ : Nat) (w : World) (hm : m = cs.length) (hp : p = T.inn.length) (hq : q = T.out.length)
    (hE : m ≤ cE ∧ cE ≤ 9223372036854775807) (hP : p ≤ cP ∧ cP ≤ 9223372036854775807) (hQ : q ≤ cQ ∧ cQ ≤ 9223372036854775807) (hcs : CarsAt w E cs) (hT : TabAt w P Q T) :
    Calls Try.prog 30 #[.agg #[.slice A n cA, .slice B nB cB, .slice C nC cC, .slice D nD cD], .slice E m cE, .agg #[.slice P p cP, .slice Q q cQ]] w fun e w' => LongP w e w' := by
  have HM := Lib.hid hm
  have HP := Lib.hid hp
  have HQ := Lib.hid hq
  have HCS := Lib.hid hcs
  have HT := Lib.hid hT
  clear hm hp hq hcs hT
  have HB := Lib.hid (((Below.refl w.heap.size w).alloc (Nat.le_refl _) (.cells #[.slice A n cA, .slice B nB cB, .slice C nC cC, .slice D nD cD] 51)).alloc (by simp) (.cells #[.slice P p cP, .slice Q q cQ] 55))
  have XS := Lib.hid ((Blk.new' w #[.slice A n cA, .slice B nB cB, .slice C nC cC, .slice D nD cD] 51).alloc (.cells #[.slice P p cP, .slice Q q cQ] 55))
  have XT := Lib.hid (show Blk ((w.alloc (.cells #[.slice A n cA, .slice B nB cB, .slice C nC cC, .slice D nD cD] 51)).alloc (.cells #[.slice P p cP, .slice Q q cQ] 55)) (w.heap.size + 1) 55 [.slice P p cP, .slice Q q cQ] from by simpa using Blk.new' (w.alloc (.cells #[.slice A n cA, .slice B nB cB, .slice C nC cC, .slice D nD cD] 51)) #[.slice P p cP, .slice Q q cQ] 55)
  go_enter Try.func30, Try.ntmps30
  go_upto_region 1 with fail
  generalize (w.alloc (.cells #[.slice A n cA, .slice B nB cB, .slice C nC cC, .slice D nD cD] 51)).alloc (.cells #[.slice P p cP, .slice Q q cQ] 55) = w1 at HB XS XT ⊢
  have s0 := XS.out.cell 0 rfl
  have s1 := XS.out.cell 1 rfl
  have s2 := XS.out.cell 2 rfl
  have s3 := XS.out.cell 3 rfl
  have t0 := XT.out.cell 0 rfl
  have t1 := XT.out.cell 1 rfl
  have HC1 := Lib.hid (HCS.out.below HB.out (Nat.le_refl _))
  have HT1 := Lib.hid (HT.out.below HB.out (Nat.le_refl _))
  by_cases a0 : 60 < n
  · have a0i : (60 : Int) < (n : Int) := by omega
    go_wp2_with fail
    exact bodyPost_ret (v := .bool true) (by simp [results, Try.results30, go_sem]) rfl (show LongP w _ _ from ⟨⟨_, rfl⟩, HB.out⟩)
  have a0i : ¬ (60 : Int) < (n : Int) := by omega
  by_cases a1 : 60 < nB
  · have a1i : (60 : Int) < (nB : Int) := by omega
    go_wp2_with fail
    exact bodyPost_ret (v := .bool true) (by simp [results, Try.results30, go_sem]) rfl (show LongP w _ _ from ⟨⟨_, rfl⟩, HB.out⟩)
  have a1i : ¬ (60 : Int) < (nB : Int) := by omega
  by_cases a2 : 60 < nC
  · have a2i : (60 : Int) < (nC : Int) := by omega
    go_wp2_with fail
    exact bodyPost_ret (v := .bool true) (by simp [results, Try.results30, go_sem]) rfl (show LongP w _ _ from ⟨⟨_, rfl⟩, HB.out⟩)
  have a2i : ¬ (60 : Int) < (nC : Int) := by omega
  by_cases a3 : 60 < nD
  · have a3i : (60 : Int) < (nD : Int) := by omega
    go_wp2_with fail
    exact bodyPost_ret (v := .bool true) (by simp [results, Try.results30, go_sem]) rfl (show LongP w _ _ from ⟨⟨_, rfl⟩, HB.out⟩)
  have a3i : ¬ (60 : Int) < (nD : Int) := by omega
  by_cases a4 : 12 < m
  · have a4i : (12 : Int) < (m : Int) := by omega
    go_wp2_with fail
    exact bodyPost_ret (v := .bool true) (by simp [results, Try.results30, go_sem]) rfl (show LongP w _ _ from ⟨⟨_, rfl⟩, HB.out⟩)
  have a4i : ¬ (12 : Int) < (m : Int) := by omega
  by_cases a5 : 12 < p
  · have a5i : (12 : Int) < (p : Int) := by omega
    go_wp2_with fail
    exact bodyPost_ret (v := .bool true) (by simp [results, Try.results30, go_sem]) rfl (show LongP w _ _ from ⟨⟨_, rfl⟩, HB.out⟩)
  have a5i : ¬ (12 : Int) < (p : Int) := by omega
  by_cases a6 : 12 < q
  · have a6i : (12 : Int) < (q : Int) := by omega
    go_wp2_with fail
    exact bodyPost_ret (v := .bool true) (by simp [results, Try.results30, go_sem]) rfl (show LongP w _ _ from ⟨⟨_, rfl⟩, HB.out⟩)
  have a6i : ¬ (12 : Int) < (q : Int) := by omega
  go_upto_region 3 with fail
  clear s0 s1 s2 s3 a0i a1i a2i a3i a4i a5i a6i
  go_wp2_with fail
  go_loop [7] (fun iv => ∃ k : Nat, k ≤ m ∧ iv = .int .i64 k) (fun iv => m - (intOf iv).toNat)
  case atStart => exact ⟨0, Nat.zero_le _, rfl⟩
  case round =>
    obtain ⟨k, hk, rfl⟩ := hrel
    by_cases hlt : k < m
    · have hki : (k : Int) < (m : Int) := by omega
      obtain ⟨ad, rfl, abl, c0, c1, c2, c3, c4, TT, cT, c5, hcT, HTT⟩ := HC1.out k (by rw [← HM.out]; exact hlt)
      clear c0 c1 c2 c3 c4 HTT
      generalize (cs.getD k default).trips.length = tl at *
      by_cases h8 : 8 < tl
      · have h8i : (8 : Int) < (tl : Int) := by omega
        go_wp2_with fail
        exact bodyPost_ret (v := .bool true) (by simp [results, Try.results30, go_sem]) rfl (show LongP w _ _ from ⟨⟨_, rfl⟩, HB.out⟩)
      · have h8i : ¬ (8 : Int) < (tl : Int) := by omega
        go_wp2_with fail
        go_round
        case rel => exact ⟨k + 1, by omega, by go_num⟩
        case measure => simp [intOf]; omega
    · obtain rfl : m = k := by omega
      go_wp2_with fail
      go_loop [8] (fun iv => ∃ k : Nat, k ≤ p ∧ iv = .int .i64 k) (fun iv => p - (intOf iv).toNat)
      case atStart => exact ⟨0, Nat.zero_le _, rfl⟩
      case round =>
        obtain ⟨k, hk, rfl⟩ := hrel
        by_cases hlt : k < p
        · have hki : (k : Int) < (p : Int) := by omega
          obtain ⟨ad, rfl, abl, TT, cT, c5, hcT, HTT⟩ := HT1.out.1 k (by rw [← HP.out]; exact hlt)
          clear HTT
          generalize (T.inn.getD k []).length = tl at *
          by_cases h8 : 60 < tl
          · have h8i : (60 : Int) < (tl : Int) := by omega
            go_wp2_with fail
            exact bodyPost_ret (v := .bool true) (by simp [results, Try.results30, go_sem]) rfl (show LongP w _ _ from ⟨⟨_, rfl⟩, HB.out⟩)
          · have h8i : ¬ (60 : Int) < (tl : Int) := by omega
            go_wp2_with fail
            go_round
            case rel => exact ⟨k + 1, by omega, by go_num⟩
            case measure => simp [intOf]; omega
        · obtain rfl : p = k := by omega
          go_wp2_with fail
          go_loop [9] (fun iv => ∃ k : Nat, k ≤ q ∧ iv = .int .i64 k) (fun iv => q - (intOf iv).toNat)
          case atStart => exact ⟨0, Nat.zero_le _, rfl⟩
          case round =>
            obtain ⟨k, hk, rfl⟩ := hrel
            by_cases hlt : k < q
            · have hki : (k : Int) < (q : Int) := by omega
              obtain ⟨ad, rfl, abl, TT, cT, c5, hcT, HTT⟩ := HT1.out.2 k (by rw [← HQ.out]; exact hlt)
              clear HTT
              generalize (T.out.getD k []).length = tl at *
              by_cases h8 : 60 < tl
              · have h8i : (60 : Int) < (tl : Int) := by omega
                go_wp2_with fail
                exact bodyPost_ret (v := .bool true) (by simp [results, Try.results30, go_sem]) rfl (show LongP w _ _ from ⟨⟨_, rfl⟩, HB.out⟩)
              · have h8i : ¬ (60 : Int) < (tl : Int) := by omega
                go_wp2_with fail
                go_round
                case rel => exact ⟨k + 1, by omega, by go_num⟩
                case measure => simp [intOf]; omega
            · obtain rfl : q = k := by omega
              go_wp2_with fail
              exact bodyPost_ret (v := .bool false) (by simp [results, Try.results30, go_sem]) rfl (show LongP w _ _ from ⟨⟨_, rfl⟩, HB.out⟩)
end Go.Proofs.Ytmebpglkeedaoaa
namespace Go.Proofs.Ytmebpglkeedaoaa
open Go.RowKit Dp
def carV (c : Car) (T : Option Addr) (n cT : Nat) : Array Value := #[.int .i64 c.cap, .int .i64 c.inn, .int .i64 c.out, .int .i64 c.start, .int .i64 c.fin, .slice T n cT]
set_option maxHeartbeats 1000000 in
set_option maxRecDepth 100000 in
theorem trip_c (v0 v1 v2 v3 v4 : Value) (k : Int) (T : Option Addr) (l : List Trip) (n cT : Nat) (w : World) (hn : n = l.length) (hc : n ≤ cT ∧ cT ≤ 9223372036854775807) (hT : TripsAt w T l) :
    Calls Try.prog 87 #[.agg #[v0, v1, v2, v3, v4, .slice T n cT], .int .i64 k] w fun e w' => e = .returned (.tuple #[.int .i64 (useP l k n), .bool (awayP l k n)]) ∧ Below w.heap.size w w' := by
  have HN := Lib.hid hn
  have HT := Lib.hid hT
  clear hn hT
  have X := Lib.hid (Blk.new' w #[v0, v1, v2, v3, v4, .slice T n cT] 63)
  have HB := Lib.hid ((Below.refl w.heap.size w).alloc (Nat.le_refl _) (.cells #[v0, v1, v2, v3, v4, .slice T n cT] 63))
  go_enter Try.func87, Try.ntmps87
  go_upto_region 1 with fail
  generalize w.alloc (.cells #[v0, v1, v2, v3, v4, .slice T n cT] 63) = w1 at X HB ⊢
  have c5 := X.out.cell 5 rfl
  go_wp2_with fail
  clear c5
  have HT1 := Lib.hid (HT.out.below HB.out (Nat.le_refl _))
  go_loopw [4, 5, 7, 11] (fun u a _ i wr => ∃ j : Nat, j ≤ n ∧ i = .int .i64 j ∧ u = .int .i64 (useP l k j) ∧ a = .bool (awayP l k j) ∧ Hid (Below w.heap.size w wr)) (fun _ _ _ i _ => n - (intOf i).toNat)
  case atStart => exact ⟨0, Nat.zero_le _, rfl, rfl, rfl, HB⟩
  case round =>
    obtain ⟨j, hj, rfl, rfl, rfl, HW⟩ := hrel
    by_cases hlt : j < n
    · have hji : (j : Int) < (n : Int) := by omega
      obtain ⟨ad, rfl, abl, t0, t1, t2⟩ := (HT.out.below HW.out (Nat.le_refl _)) j (by rw [← HN.out]; exact hlt)
      have HU := Lib.hid (show useP l k (j + 1) = if (l.getD j default).fr = k then (l.getD j default).use else useP l k j from rfl)
      have HA := Lib.hid (show awayP l k (j + 1) = (awayP l k j || decide ((l.getD j default).fr ≤ k ∧ k < (l.getD j default).to)) from rfl)
      generalize l.getD j default = t at *
      obtain ⟨fr, «to», us⟩ := t
      simp only at t0 t1 t2 HU HA
      go_upto_region 4 with fail
      have HX := Lib.hid (HW.out.alloc HW.out.size (.cells #[.int .i64 fr, .int .i64 «to», .int .i64 us] 65))
      have BX := Lib.hid (Blk.new' wr #[.int .i64 fr, .int .i64 «to», .int .i64 us] 65)
      generalize wr.alloc (.cells #[.int .i64 fr, .int .i64 «to», .int .i64 us] 65) = wx at HX BX ⊢
      clear t0 t1 t2 abl
      have e0 := BX.out.cell 0 rfl
      have e1 := BX.out.cell 1 rfl
      have e2 := BX.out.cell 2 rfl
      generalize useP l k j = U at *
      cases ha : awayP l k j
      · rw [ha] at HA
        by_cases h1 : fr = k
        · subst h1
          have h2 : fr ≤ fr := Int.le_refl _
          by_cases h3 : fr < «to»
          · go_wp2_with fail
            exact ⟨⟨j + 1, by omega, by go_num, by rw [HU.out, if_pos rfl], by rw [HA.out, (decide_eq_true (And.intro h2 h3))]; rfl, HX⟩, by simp [intOf]; omega⟩
          · go_wp2_with fail
            exact ⟨⟨j + 1, by omega, by go_num, by rw [HU.out, if_pos rfl], by rw [HA.out, (decide_eq_false (fun h => h3 h.2))]; rfl, HX⟩, by simp [intOf]; omega⟩
        · have h1b : (fr == k) = false := by simp [h1]
          by_cases h2 : fr ≤ k
          · by_cases h3 : k < «to»
            · go_wp2_with fail
              exact ⟨⟨j + 1, by omega, by go_num, by rw [HU.out, if_neg h1], by rw [HA.out, (decide_eq_true (And.intro h2 h3))]; rfl, HX⟩, by simp [intOf]; omega⟩
            · go_wp2_with fail
              exact ⟨⟨j + 1, by omega, by go_num, by rw [HU.out, if_neg h1], by rw [HA.out, (decide_eq_false (fun h => h3 h.2))]; rfl, HX⟩, by simp [intOf]; omega⟩
          · go_wp2_with fail
            exact ⟨⟨j + 1, by omega, by go_num, by rw [HU.out, if_neg h1], by rw [HA.out, (decide_eq_false (fun h => h2 h.1))]; rfl, HX⟩, by simp [intOf]; omega⟩
      · rw [ha] at HA
        by_cases h1 : fr = k
        · subst h1
          go_wp2_with fail
          exact ⟨⟨j + 1, by omega, by go_num, by rw [HU.out, if_pos rfl], by rw [HA.out]; rfl, HX⟩, by simp [intOf]; omega⟩
        · have h1b : (fr == k) = false := by simp [h1]
          go_wp2_with fail
          exact ⟨⟨j + 1, by omega, by go_num, by rw [HU.out, if_neg h1], by rw [HA.out]; rfl, HX⟩, by simp [intOf]; omega⟩
    · obtain rfl : j = n := by omega
      go_wp2_with fail
      exact bodyPost_ret (v := .tuple #[.int .i64 (useP l k j), .bool (awayP l k j)]) (by simp [results, Try.results87, go_sem]) rfl ⟨rfl, HW.out⟩
end Go.Proofs.Ytmebpglkeedaoaa
namespace Go.Proofs.Ytmebpglkeedaoaa
open Go.RowKit Dp
set_option maxHeartbeats 1000000 in
set_option maxRecDepth 100000 in
theorem drawn_c (A B : Option Addr) (T : Tab) (m mo cA cB k : Nat) (w : World) (hm : m = T.inn.length) (hmo : mo = T.out.length) (hmm : m ≤ mo) (h8 : m ≤ 8) (hA : m ≤ cA ∧ cA ≤ 9223372036854775807) (hB : mo ≤ cB ∧ cB ≤ 9223372036854775807) (hT : TabAt w A B T) (hS : SlotBd T k m) :
    Calls Try.prog 89 #[.agg #[.slice A m cA, .slice B mo cB], .int .i64 k] w fun e w' => e = .returned (.int .i64 (drP T k m)) ∧ Below w.heap.size w w' := by
  have HM := Lib.hid hm
  have HMO := Lib.hid hmo
  have HT := Lib.hid hT
  have HS := Lib.hid hS
  have HD := Lib.hid (drP_bd hS)
  clear hm hmo hT hS
  have X := Lib.hid (Blk.new' w #[.slice A m cA, .slice B mo cB] 55)
  have HB := Lib.hid ((Below.refl w.heap.size w).alloc (Nat.le_refl _) (.cells #[.slice A m cA, .slice B mo cB] 55))
  go_enter Try.func89, Try.ntmps89
  go_upto_region 1 with fail
  generalize w.alloc (.cells #[.slice A m cA, .slice B mo cB] 55) = w1 at X HB ⊢
  have c0 := X.out.cell 0 rfl
  go_wp2_with fail
  clear c0
  go_loopw [4, 5, 9] (fun s _ i wr => ∃ j : Nat, j ≤ m ∧ i = .int .i64 j ∧ s = .int .i64 (drP T k j) ∧ Hid (Below w.heap.size w wr ∧ Blk wr w.heap.size 55 [.slice A m cA, .slice B mo cB])) (fun _ _ i _ => m - (intOf i).toNat)
  case atStart => exact ⟨0, Nat.zero_le _, rfl, rfl, Lib.hid ⟨HB.out, X.out⟩⟩
  case round =>
    obtain ⟨j, hj, rfl, rfl, HW⟩ := hrel
    by_cases hlt : j < m
    · have hji : (j : Int) < (m : Int) := by omega
      have hjo : (j : Int) < (mo : Int) := by omega
      obtain ⟨ad, rfl, abl, P, cP, p0, pb, pi⟩ := (HT.out.1.below HW.out.1 (Nat.le_refl _)) j (by rw [← HM.out]; exact hlt)
      obtain ⟨bd, rfl, bbl, Q, cQ, q0, qb, qi⟩ := (HT.out.2.below HW.out.1 (Nat.le_refl _)) j (by rw [← HMO.out]; omega)
      have hs := HS.out j hlt
      obtain ⟨pd, rfl, pbl, px⟩ := pi k hs.1.1
      obtain ⟨qd, rfl, qbl, qx⟩ := qi k hs.1.2
      have hkp : (k : Int) < ((T.inn.getD j []).length : Int) := by omega
      have hkq : (k : Int) < ((T.out.getD j []).length : Int) := by omega
      have hb := HD.out j (by omega)
      have hb2 := hs.2
      have HST := Lib.hid (show drP T k (j + 1) = drP T k j + ((T.inn.getD j []).getD k 0 - (T.out.getD j []).getD k 0) from rfl)
      clear hs pi qi
      generalize (T.inn.getD j []).getD k 0 = x at *
      generalize (T.out.getD j []).getD k 0 = y at *
      generalize (T.inn.getD j []).length = np at *
      generalize (T.out.getD j []).length = nq at *
      generalize drP T k j = d at *
      go_upto_region 4 with fail
      have c0 := HW.out.2.cell 0 rfl
      have c1 := HW.out.2.cell 1 rfl
      have lt0 := HW.out.2.lt
      have w1e : IntKind.i64.wrap (x - y) = x - y := IntWalk.i64_in _ (by omega)
      have w2e : IntKind.i64.wrap (d + (x - y)) = d + (x - y) := IntWalk.i64_in _ (by omega)
      have ab2 : (ad.add j).block < wr.heap.size := by rw [block_add]; exact abl
      have bb2 : (bd.add j).block < wr.heap.size := by rw [block_add]; exact bbl
      have pb2 : (pd.add k).block < wr.heap.size := by rw [block_add]; exact pbl
      have qb2 : (qd.add k).block < wr.heap.size := by rw [block_add]; exact qbl
      clear hb hb2
      refine wp_region_past (by kernel_rfl) (by kernel_rfl) ?_
      repeat (go_big_quiet_step (fail))
      refine wpQuiet_nil ?_
      intro xx
      have HX := Lib.hid (HW.out.1.trans (xx.far.mono HW.out.1.size))
      have BX := Lib.hid (HW.out.2.below xx.far HW.out.2.lt)
      generalize xx.w = w3 at HX BX ⊢
      clear c0 c1 lt0 ab2 bb2 pb2 qb2 w1e w2e p0 q0 px qx
      go_wp2_with fail
      exact ⟨⟨j + 1, by omega, by go_num, by rw [HST.out], Lib.hid ⟨HX.out, BX.out⟩⟩, by simp [intOf]; omega⟩
    · obtain rfl : j = m := by omega
      go_wp2_with fail
      go_ret
      exact ⟨rfl, HW.out.1⟩
end Go.Proofs.Ytmebpglkeedaoaa
namespace Go.Proofs.Ytmebpglkeedaoaa
open Go Go.RowKit
def rgPost3 {α : Type} (B : Nat) (I : List α → World → Prop) (c : Code) (Ix : List α → World → Prop) (pre : List α) (x : α) (W : World) : Exit → Act → World → Prop
  | .normal, _, W' => KeepsFrom B W W' ∧ I (pre ++ [x]) W'
  | .exit id, _, W' => c = .exit id ∧ KeepsFrom B W W' ∧ Ix (pre ++ [x]) W'
  | .ret, _, W' => c = .ret ∧ KeepsFrom B W W' ∧ Ix (pre ++ [x]) W'
  | _, _, _ => False
theorem range_mine3 {α : Type} {F : Fence} {n : Nat} {P : Program} {g : Operand} {ps : Array Tmp} {assign body : Code} {Q : Exit → Act → World → Prop} {a : Act} {w : World}
    (hro : F.round = none) (h1 : 1 ≤ n) {gf : Nat} {lb : Array Value} (hg : a.eval g = .func (.func gf) #[] lb) (hFg : F.fn gf) (eg : ∀ args w, (callFunc gf args).run P w = .ok (.enter gf args) w)
    {encs : α → Array Value} (hps : ∀ x, (encs x).size = ps.size) (I Ix : List α → World → Prop) (c : Code) (S Sp : List α → Prop) (Ok : List α → α → Prop)
    (hI : OwnFrom w.heap.size I) (hIx : OwnFrom w.heap.size Ix) (h0 : I [] w)
    (hseq : ∀ (l : Nat) (J Jx : List α → World → Prop) (W : World), (∀ pre W, J pre W → I pre W) → OwnFrom W.heap.size J → OwnFrom W.heap.size Jx → w.heap.size ≤ W.heap.size →
      (∀ pre x W1, J pre W1 → Ok pre x → YieldAt F (n - 1 - 1) P l (encs x) W1 fun e W' => KeepsFrom W.heap.size W1 W' ∧ ((e = .returned (.bool true) ∧ J (pre ++ [x]) W') ∨ (e = .returned (.bool false) ∧ Jx (pre ++ [x]) W'))) →
      J [] W → CallsIn F (n - 1) P gf (#[.func (.yield l) #[] #[]] ++ lb) W fun e W' => (∃ v, e = .returned v) ∧ ((∃ xs, S xs ∧ J xs W') ∨ (∃ pre, Sp pre ∧ Jx pre W')))
    (a₁ : α → Act)
    (hassign : ∀ (l : Nat) (x : α) (W : World) (K : Act → World → Prop), K (a₁ x) W →
      assign.wpIn (F.inRound l) (n - 1 - 1) P (Exit.then K (fun _ _ _ => False)) { tmps := (ps.zip (encs x)).foldl (fun t (p, v) => t.setIfInBounds p v) a.tmps, defers := [] } W)
    (hbody : ∀ (l : Nat) (pre : List α) (x : α) (W : World), I pre W → Ok pre x → body.wpIn (F.inRound l) (n - 1 - 1) P (rgPost3 w.heap.size I c Ix pre x W) (a₁ x) W)
    (hdone : ∀ (D : Nat) (xs : List α) (W : World), w.heap.size ≤ D → S xs → I xs W → W.heap[D]? = some (.deferred (some [])) → Q .normal { a with defers := { target := .collected D, args := #[] } :: a.defers } W)
    (hstop : ∀ (D : Nat) (pre : List α) (W : World), w.heap.size ≤ D → Sp pre → Ix pre W → W.heap[D]? = some (.deferred (some [])) → c.wpIn F n P Q { a with defers := { target := .collected D, args := #[] } :: a.defers } W) :
    (Code.rangeFunc g ps assign body).wpIn F n P Q a w := by
  refine wpIn_rangeFunc fun fn hfn => ?_
  rw [hro]
  -- the two blocks of the loop
  generalize hd : w.heap.size = d at *
  obtain ⟨rec, hrec⟩ : ∃ rec : LoopState → Option Code → Loop, rec = fun st pe => { state := st, pending := pe, fn, tmps := a.tmps, params := ps, assign, body, defers := d } := ⟨_, rfl⟩
  obtain ⟨W1, hW1⟩ : ∃ W1, (w.alloc (.deferred (some []))).alloc (.loop (rec .ready none)) = W1 := ⟨_, rfl⟩
  have eL : W1.heap[d + 1]? = some (.loop (rec .ready none)) := by
    rw [← hW1, ← hd]
    have h := World.alloc_heap_new (w.alloc (.deferred (some []))) (.loop (rec .ready none))
    rwa [World.size_alloc] at h
  have eD : W1.heap[d]? = some (.deferred (some [])) := by
    rw [← hW1, ← hd]
    exact (Below.heap_alloc _ _ _ (by simp)).trans (World.alloc_heap_new w _)
  have hz1 : W1.heap.size = d + 2 := by rw [← hW1, ← hd]; simp
  have i1 : I [] W1 := by rw [← hW1]; exact hI.alloc _ (hI.alloc _ h0)
  -- a turn of the record keeps what is kept
  have turn : ∀ {W : World} {o : Obj} (o' : Obj), W.heap[d + 1]? = some o → (W.putObj (d + 1) o').heap[d + 1]? = some o' ∧ ((W.putObj (d + 1) o').heap[d]? = W.heap[d]?) :=
    fun {W o} o' h => ⟨World.putObj_heap_same (Array.getElem?_eq_some_iff.1 h).1, World.putObj_heap_other (by omega)⟩
  refine ⟨d + 1, [{ target := .collected d, args := #[] }], W1, { target := .fn (.func gf) lb, args := #[.func (.yield (d + 1)) #[] #[]] }, W1, gf, #[.func (.yield (d + 1)) #[] #[]] ++ lb, W1, ?_, ?_, ?_, ?_, fun _ => h1, ?_⟩
  · rw [← hW1, hrec, ← hd]; exact run_enterLoop_outer _ _ _ _ _
  · simp only [resolve, hg]; simp [go_sem]
  · intro f' hf'
    simp [Target.leads] at hf'
    subst hf'
    exact hFg
  · simp [invoke, go_sem, eg]
  · refine (hseq (d + 1) (fun pre W => I pre W ∧ W.heap[d + 1]? = some (.loop (rec .ready none)) ∧ W.heap[d]? = some (.deferred (some [])))
      (fun pre W => Ix pre W ∧ W.heap[d + 1]? = some (.loop (rec .done (some c))) ∧ W.heap[d]? = some (.deferred (some []))) W1 (fun pre W h => h.1) (fun pre W W' row h hg hr => ⟨hI pre W W' row h.1 hg (fun r e => ⟨Nat.le_trans (by omega) (hr r e).1, (hr r e).2⟩), (hg.block _ (Array.getElem?_eq_some_iff.1 h.2.1).1 (fun e => by have := (hr _ e.symm).1; omega)).trans h.2.1, (hg.block _ (Array.getElem?_eq_some_iff.1 h.2.2).1 (fun e => by have := (hr _ e.symm).1; omega)).trans h.2.2⟩) (fun pre W W' row h hg hr => ⟨hIx pre W W' row h.1 hg (fun r e => ⟨Nat.le_trans (by omega) (hr r e).1, (hr r e).2⟩), (hg.block _ (Array.getElem?_eq_some_iff.1 h.2.1).1 (fun e => by have := (hr _ e.symm).1; omega)).trans h.2.1, (hg.block _ (Array.getElem?_eq_some_iff.1 h.2.2).1 (fun e => by have := (hr _ e.symm).1; omega)).trans h.2.2⟩) (by omega) ?_ ⟨i1, eL, eD⟩).mono ?_
    · rintro pre x W ⟨hi, hl, hk⟩ hok
      have hy := run_yield (P := P) (args := encs x) hl (by rw [hrec]; exact hps x)
      rw [hrec] at hy
      obtain ⟨W2, hW2⟩ : ∃ W2, W.putObj (d + 1) (.loop { rec .ready none with state := .busy }) = W2 := ⟨_, rfl⟩
      have hb := run_beginRound (P := P) hl (by rw [hrec])
      rw [hW2] at hb
      have t := turn (.loop { rec .ready none with state := .busy }) hl
      rw [hW2] at t
      have i2 : I pre W2 := by rw [← hW2]; exact hI.putObj _ hi (by omega) hl rfl
      refine ⟨fn, _, assign, body, hy, roundIn_of_wpIn hfn (hassign _ x W _ ⟨W2, hb, wpIn_mono (hbody _ pre x _ i2 hok) ?_⟩)⟩
      -- the end of the round, by the way in which it is left
      have close : ∀ (j : Option Code) (W3 : World), KeepsFrom d W2 W3 → ∃ W4, (Instr.endRound (d + 1) j).run P W3 = .ok (.bool j.isNone) W4 ∧ W4 = W3.putObj (d + 1) (.loop (rec (if j.isNone then .ready else .done) j)) ∧
          W3.heap[d + 1]? = some (.loop { rec .ready none with state := .busy }) ∧ W4.heap[d + 1]? = some (.loop (rec (if j.isNone then .ready else .done) j)) ∧ W4.heap[d]? = some (.deferred (some [])) ∧ KeepsFrom W1.heap.size W W4 := fun j W3 hk3 => by
        have l3 := hk3.same _ _ (by omega) t.1 rfl
        have k3 := hk3.same _ _ (by omega) (t.2.trans hk) rfl
        have he := run_endRound (P := P) j l3
        have t3 := turn (.loop (rec (if j.isNone then .ready else .done) j)) l3
        refine ⟨_, he, ?_, l3, ?_, ?_, ?_⟩
        · rw [hrec]
        · have := t3.1; rw [hrec] at this ⊢; exact this
        · exact (World.putObj_heap_other (by omega)).trans k3
        · refine ⟨?_, fun k o hk4 ho hc => ?_⟩
          · have e1 : W2.heap.size = W.heap.size := by rw [← hW2]; simp [World.putObj]
            have e2 := hk3.size
            have e3 : ∀ o : Obj, (W3.putObj (d + 1) o).heap.size = W3.heap.size := fun o => by simp [World.putObj]
            rw [e3]; omega
          · refine (World.putObj_heap_other (by omega)).trans (hk3.same k o (by omega) ?_ hc)
            rw [← hW2]
            exact (World.putObj_heap_other (by omega)).trans ho
      rintro e a3 W3 hp
      cases e with
      | normal =>
        obtain ⟨hk3, hi3⟩ := hp
        obtain ⟨W4, he, hW4, l3, l4, k4, kk⟩ := close none W3 hk3
        refine ⟨_, _, he, kk, .inl ⟨rfl, ?_, l4, k4⟩⟩
        rw [hW4]
        exact hI.putObj _ hi3 (by omega) l3 rfl
      | exit id =>
        obtain ⟨hc, hk3, hi3⟩ := hp
        obtain ⟨W4, he, hW4, l3, l4, k4, kk⟩ := close (some (.exit id)) W3 hk3
        refine ⟨_, _, he, kk, .inr ⟨rfl, ?_, by rw [hc]; exact l4, k4⟩⟩
        rw [hW4]
        exact hIx.putObj _ hi3 (by omega) l3 rfl
      | ret =>
        obtain ⟨hc, hk3, hi3⟩ := hp
        obtain ⟨W4, he, hW4, l3, l4, k4, kk⟩ := close (some .ret) W3 hk3
        refine ⟨_, _, he, kk, .inr ⟨rfl, ?_, by rw [hc]; exact l4, k4⟩⟩
        rw [hW4]
        exact hIx.putObj _ hi3 (by omega) l3 rfl
      | goto t => exact hp.elim
      | panic ch => exact hp.elim
      | outgrown => exact hp.elim
    · rintro e W2 ⟨⟨v, rfl⟩, (⟨xs, hS, hi, hl, hk⟩ | ⟨pre, hSp, hi, hl, hk⟩)⟩
      · have he := run_endLoop (P := P) hl (by rw [hrec]; simp)
        rw [hrec] at he
        have t := turn (.loop { rec .ready none with state := .exhausted }) hl
        refine ⟨none, _, he, hdone d xs _ (by omega) hS (hI.putObj _ hi (by omega) hl rfl) ?_⟩
        have := t.2.trans hk
        rw [hrec] at this
        exact this
      · have he := run_endLoop (P := P) hl (by rw [hrec]; simp)
        rw [hrec] at he
        have t := turn (.loop { rec .done (some c) with state := .exhausted }) hl
        refine ⟨some c, _, he, hstop d pre _ (by omega) hSp (hIx.putObj _ hi (by omega) hl rfl) ?_⟩
        have := t.2.trans hk
        rw [hrec] at this
        exact this
end Go.Proofs.Ytmebpglkeedaoaa
namespace Go.Proofs.Ytmebpglkeedaoaa
open Go.RowKit Go.Shelf Dp
attribute [local go_sem] Oper.semAt_some
theorem round_any {m m' k l : Nat} {P : Program} {f : FuncId} {tmps : Array Value} {assign body : Code} {w : World} {R : Ending → World → Prop} (h : RoundIn Fence.wide m P l f tmps assign body w R) : RoundIn (Fence.wide.inRound k) m' P l f tmps assign body w R :=
  ⟨h.1, fun c cs _ => h.2 c cs (room_wide _)⟩
theorem grown_below {w w' : World} (h : Below w.heap.size w w') : w.grownBy w' none := ⟨h.os, h.tape, h.output, h.size, fun k hk _ => h.block k hk⟩
theorem levels_c (v : Array Value) (a b : Value) (w : World) (hv : ∃ v0 v1 v2 v3 v4 v5, v = #[v0, v1, v2, v3, v4, v5]) (ha : ∃ A n c, a = .slice A n c) (hb : ∃ A n c, b = .slice A n c) :
    Calls Try.prog 75 #[.agg v, a, b] w fun e w' => e = .returned (.func (.func 107) #[] #[.pointer (some ⟨w.heap.size, 0, none⟩), .pointer (some ⟨w.heap.size + 1, 0, none⟩), .pointer (some ⟨w.heap.size + 2, 0, none⟩)]) ∧ w' = ((w.alloc (.cells v 63)).alloc (.cells #[a] 22)).alloc (.cells #[b] 22) := by
  obtain ⟨v0, v1, v2, v3, v4, v5, rfl⟩ := hv
  obtain ⟨A, n, c, rfl⟩ := ha
  obtain ⟨B, m, d, rfl⟩ := hb
  go_enter Try.func75, Try.ntmps75
  go_wp2
  go_ret
  exact ⟨rfl, rfl⟩
def lvs (c : Car) (x y : List Int) (k : Nat) : List (Int × Int) := (List.range k).map fun (j : Nat) => ((j : Int), lev c x y j)
theorem lvs_succ (c : Car) (x y : List Int) (k : Nat) : lvs c x y (k + 1) = lvs c x y k ++ [((k : Int), lev c x y k)] := by simp [lvs, List.range_succ]
structure LvM (bc bi bo : Nat) (c : Car) (x y : List Int) (T A B : Option Addr) (q n m cT cA cB : Nat) (W : World) : Prop where
  kc : Blk W bc 63 (carV c T q cT).toList
  ki : Blk W bi 22 [.slice A n cA]
  ko : Blk W bo 22 [.slice B m cB]
  kt : TripsAt W T c.trips
  kx : IntsAt W A x
  ky : IntsAt W B y
theorem LvM.below {bc bi bo : Nat} {c : Car} {x y : List Int} {T A B : Option Addr} {q n m cT cA cB : Nat} {W V : World} (h : LvM bc bi bo c x y T A B q n m cT cA cB W) (hb : Below W.heap.size W V) : LvM bc bi bo c x y T A B q n m cT cA cB V :=
  ⟨h.kc.below hb h.kc.lt, h.ki.below hb h.ki.lt, h.ko.below hb h.ko.lt, h.kt.below hb (Nat.le_refl _), h.kx.below hb (Nat.le_refl _), h.ky.below hb (Nat.le_refl _)⟩
set_option maxHeartbeats 4000000 in
set_option maxRecDepth 100000 in
theorem levels1_c (bc bi bo : Nat) (c : Car) (x y : List Int) (T A B : Option Addr) (q n m cT cA cB l : Nat) (hq : q = c.trips.length) (hcT : q ≤ cT ∧ cT ≤ 9223372036854775807) (hn : n = x.length) (hm : n ≤ m) (hmy : m = y.length) (hcA : n ≤ cA ∧ cA ≤ 9223372036854775807) (hcB : m ≤ cB ∧ cB ≤ 9223372036854775807)
    (hbd : ∀ k, k < n → (-167772160 ≤ lev c x y k ∧ lev c x y k ≤ 167772160) ∧ (0 ≤ x.getD k 0 ∧ x.getD k 0 ≤ 1048576) ∧ (0 ≤ y.getD k 0 ∧ y.getD k 0 ≤ 1048576) ∧ (0 ≤ useC c k ∧ useC c k ≤ 1048576))
    (J Jx : List (Int × Int) → World → Prop) (hJ : ∀ pre W, J pre W → LvM bc bi bo c x y T A B q n m cT cA cB W) (hJo : ∀ pre W W', J pre W → Below W.heap.size W W' → J pre W')
    (hY : ∀ k, k ≤ n → ∀ W1, J (lvs c x y k) W1 → YieldAt Fence.wide 1 Try.prog l #[.int .i64 k, .int .i64 (lev c x y k)] W1 fun e W' => (e = .returned (.bool true) ∧ J (lvs c x y (k + 1)) W') ∨ (e = .returned (.bool false) ∧ Jx (lvs c x y (k + 1)) W'))
    (W : World) (hj : J (lvs c x y 0) W) :
    CallsIn Fence.wide 2 Try.prog 107 #[.func (.yield l) #[] #[], .pointer (some ⟨bc, 0, none⟩), .pointer (some ⟨bi, 0, none⟩), .pointer (some ⟨bo, 0, none⟩)] W fun e W' => (∃ v, e = .returned v) ∧ (J (lvs c x y (n + 1)) W' ∨ (∃ k, k ≤ n ∧ Jx (lvs c x y (k + 1)) W')) := by
  refine callsIn_of_wp Try.func107 rfl trivial ?_ rfl
  simp only [Try.ntmps107, List.size_toArray, List.length_cons, List.length_nil, Nat.reduceAdd, Nat.reduceSub, Array.replicate_succ, Array.replicate_zero, List.push_toArray, List.append_toArray, List.nil_append, List.cons_append]
  have HQ := Lib.hid hq
  have HN := Lib.hid hn
  have HMY := Lib.hid hmy
  have HBD := Lib.hid hbd
  have HJ := Lib.hid hJ
  have HJO := Lib.hid hJo
  have HY := Lib.hid hY
  have HJ0 := Lib.hid hj
  clear hq hn hmy hbd hJ hJo hY
  have s0 := (HJ.out _ _ hj).kc.cell 3 rfl
  have i0 := (HJ.out _ _ hj).ki.cell 0 rfl
  have L0 := Lib.hid (show lev c x y 0 = c.start from rfl)
  clear hj
  gi_wp2
  clear s0 i0
  gi_loopw [5, 6, 7, 8, 13] (fun lv _ _ _ i wr => ∃ k : Nat, k ≤ n ∧ i = .int .i64 k ∧ lv = .int .i64 (lev c x y k) ∧ Hid (J (lvs c x y k) wr)) (fun _ _ _ _ i _ => n - (intOf i).toNat)
  case atStart => exact ⟨0, Nat.zero_le _, rfl, by rw [L0.out], HJ0⟩
  case round =>
    obtain ⟨k, hk, rfl, rfl, HK⟩ := hrel
    by_cases hlt : k < n
    · have hki : (k : Int) < (n : Int) := by omega
      have hkm : (k : Int) < (m : Int) := by omega
      obtain ⟨fn, tmps, assign, body, hy, hR⟩ := HY.out k hk _ HK.out
      have HST := Lib.hid (show lev c x y (k + 1) = lev c x y k + (x.getD k 0 - y.getD k 0 - useC c k) from rfl)
      have hb := HBD.out k hlt
      have HBB := Lib.hid hb
      clear hb
      generalize lev c x y k = v at *
      gi_wp2
      refine hR.mono ?_
      rintro e W1 (⟨rfl, hJ1⟩ | ⟨rfl, hJx1⟩)
      · have HJ1 := Lib.hid hJ1
        clear hJ1 hy hR
        have M1 := HJ.out _ _ HJ1.out
        have c0 := M1.kc.cell 0 rfl
        have c1 := M1.kc.cell 1 rfl
        have c2 := M1.kc.cell 2 rfl
        have c3 := M1.kc.cell 3 rfl
        have c4 := M1.kc.cell 4 rfl
        have c5 := M1.kc.cell 5 rfl
        have TC := trip_c (.int .i64 c.cap) (.int .i64 c.inn) (.int .i64 c.out) (.int .i64 c.start) (.int .i64 c.fin) k T c.trips q cT W1 HQ.out hcT M1.kt
        rw [show useP c.trips k q = useC c k from by unfold useC; rw [HQ.out]] at TC
        clear M1
        gi_wp2
        refine ⟨trivial, callsIn_wide.2 (TC.mono ?_)⟩
        rintro e W2 ⟨rfl, hb2⟩
        clear c0 c1 c2 c3 c4 c5
        have HJ2 := Lib.hid (HJO.out _ _ _ HJ1.out hb2)
        clear hb2
        generalize awayP c.trips k q = aw
        have M2 := HJ.out _ _ HJ2.out
        have i0 := M2.ki.cell 0 rfl
        have o0 := M2.ko.cell 0 rfl
        have il := M2.ki.lt
        have ol := M2.ko.lt
        obtain ⟨pd, rfl, pbl, px⟩ := M2.kx k (by rw [← HN.out]; exact hlt)
        obtain ⟨qd, rfl, qbl, qx⟩ := M2.ky k (by rw [← HMY.out]; omega)
        have pb2 : (pd.add k).block < W2.heap.size := by rw [block_add]; exact pbl
        have qb2 : (qd.add k).block < W2.heap.size := by rw [block_add]; exact qbl
        clear M2
        gi_wp2
        generalize x.getD k 0 = a at *
        generalize y.getD k 0 = b at *
        generalize useC c k = u at *
        have w1e : IntKind.i64.wrap (a - b) = a - b := IntWalk.i64_in _ (by have := HBB.out; omega)
        have w2e : IntKind.i64.wrap (a - b - u) = a - b - u := IntWalk.i64_in _ (by have := HBB.out; omega)
        have w3e : IntKind.i64.wrap (v + (a - b - u)) = v + (a - b - u) := IntWalk.i64_in _ (by have := HBB.out; omega)
        refine wpIn_wide.2 ?_
        refine wp_region_past (by kernel_rfl) (by kernel_rfl) ?_
        repeat (go_big_quiet_step (fail))
        refine wpQuiet_nil ?_
        intro xx
        have HJ3 := Lib.hid (HJO.out _ _ _ HJ2.out xx.far)
        generalize xx.w = W3 at HJ3 ⊢
        clear i0 o0 il ol pb2 qb2 px qx pbl qbl w1e w2e w3e
        gi_wp2
        exact ⟨⟨k + 1, by omega, by go_num, by rw [HST.out], HJ3⟩, by simp [intOf]; omega⟩
      · have HJX := Lib.hid hJx1
        clear hJx1 hy hR
        gi_wp2
        refine bodyPost_ret (results_none rfl _ _ _) rfl ?_
        exact ⟨⟨_, rfl⟩, .inr ⟨k, hk, HJX.out⟩⟩
    · obtain rfl : n = k := by omega
      obtain ⟨fn, tmps, assign, body, hy, hR⟩ := HY.out n hk _ HK.out
      have i0 := (HJ.out _ _ HK.out).ki.cell 0 rfl
      gi_wp2
      refine hR.mono ?_
      rintro e W1 (⟨rfl, hJ1⟩ | ⟨rfl, hJx1⟩)
      · have HJ1 := Lib.hid hJ1
        clear hJ1 hy hR i0
        gi_wp2
        go_end0
        exact ⟨⟨_, rfl⟩, .inl HJ1.out⟩
      · have HJX := Lib.hid hJx1
        clear hJx1 hy hR i0
        gi_wp2
        go_end0
        exact ⟨⟨_, rfl⟩, .inr ⟨n, hk, HJX.out⟩⟩
end Go.Proofs.Ytmebpglkeedaoaa
namespace Go.Proofs.Ytmebpglkeedaoaa
open Go.RowKit Dp
theorem lenNe_c (T : Option Addr) (q cT n bn : Nat) (w : World) (hb : w.cell? ⟨bn, 0, none⟩ = some (.int .i64 n)) :
    Calls Try.prog 106 #[.slice T q cT, .pointer (some ⟨bn, 0, none⟩)] w fun e w' => e = .returned (.bool (!decide (q = n))) ∧ w = w' := by
  by_cases h : q = n
  · subst h
    go_enter Try.func106, Try.ntmps106
    go_wp2
    go_ret
    exact ⟨ret_bool (by simp), rfl⟩
  · have h1 : ¬ (q : Int) = (n : Int) := by omega
    have h2 : ((q : Int) == (n : Int)) = false := by simpa using h1
    go_enter Try.func106, Try.ntmps106
    go_wp2
    go_ret
    exact ⟨ret_bool (by simp [h]; exact h1), rfl⟩
set_option maxHeartbeats 1000000 in
theorem IndexFunc_c (A : Option Addr) (rows : List (List Int)) (m cap n bn : Nat) (w : World) (hm : m = rows.length) (hcap : m ≤ cap ∧ cap ≤ 9223372036854775807) (hR : RowsAt w A rows) (hb : w.cell? ⟨bn, 0, none⟩ = some (.int .i64 n)) :
    Calls Try.prog 113 #[.slice A m cap, .func (.func 106) #[] #[.pointer (some ⟨bn, 0, none⟩)]] w fun e w' => (∃ r : Int, e = .returned (.int .i64 r) ∧ (0 ≤ r ↔ allB m (fun i => decide ((rows.getD i []).length = n)) = false)) ∧ w = w' := by
  have HM := Lib.hid hm
  have HR := Lib.hid hR
  clear hm hR
  have LC := Lib.hid (fun T q cT => lenNe_c T q cT n bn w hb)
  clear hb
  go_enter Try.func113, Try.ntmps113
  go_wp2_with fail
  go_loop [4, 5, 8] (fun _ _ i => ∃ k : Nat, k ≤ m ∧ i = .int .i64 k ∧ Hid (∀ j, j < k → (rows.getD j []).length = n)) (fun _ _ i => m - (intOf i).toNat)
  case atStart => exact ⟨0, Nat.zero_le _, rfl, Lib.hid (fun j hj => by omega)⟩
  case round =>
    obtain ⟨k, hk, rfl, HK⟩ := hrel
    by_cases hlt : k < m
    · have hki : (k : Int) < (m : Int) := by omega
      obtain ⟨ad, rfl, abl, T, cT, c0, cb, _⟩ := HR.out k (by rw [← HM.out]; exact hlt)
      have HL := Lib.hid (show (rows.getD k []).length = (rows.getD k []).length from rfl)
      have LK := LC.out T (rows.getD k []).length cT
      by_cases hq : (rows.getD k []).length = n
      · have HQ := Lib.hid hq
        rw [hq] at c0 LK cb
        clear hq
        rw [show (!decide (n = n)) = false from by simp] at LK
        go_wp2_with (go_at_call 106; refine LK.mono ?_; rintro e w1 ⟨rfl, rfl⟩)
        go_round
        case rel =>
          refine ⟨k + 1, by omega, by go_num, Lib.hid (fun j hj => ?_)⟩
          by_cases hjk : j < k
          · exact HK.out j hjk
          · obtain rfl : j = k := by omega
            exact HQ.out
        case measure => simp [intOf]; omega
      · have HA := Lib.hid (allB_no (n := m) (p := fun i => decide ((rows.getD i []).length = n)) k hlt (decide_eq_false hq))
        rw [show (!decide ((rows.getD k []).length = n)) = true from by rw [decide_eq_false hq]; rfl] at LK
        generalize (rows.getD k []).length = q at *
        clear hq
        go_wp2_with (go_at_call 106; refine LK.mono ?_; rintro e w1 ⟨rfl, rfl⟩)
        go_ret
        exact ⟨⟨_, rfl, fun _ => HA.out, fun _ => by omega⟩, rfl⟩
    · obtain rfl : m = k := by omega
      have HA := Lib.hid (allB_iff (n := m) (p := fun i => decide ((rows.getD i []).length = n)) |>.2 (fun j hj => decide_eq_true (HK.out j hj)))
      go_wp2_with fail
      go_ret
      exact ⟨⟨_, rfl, fun h => by omega, fun h => by have h' := HA.out.symm.trans h; cases h'⟩, rfl⟩
theorem ContainsFunc_c (A : Option Addr) (rows : List (List Int)) (m cap n bn : Nat) (w : World) (hm : m = rows.length) (hcap : m ≤ cap ∧ cap ≤ 9223372036854775807) (hR : RowsAt w A rows) (hb : w.cell? ⟨bn, 0, none⟩ = some (.int .i64 n)) :
    Calls Try.prog 105 #[.slice A m cap, .func (.func 106) #[] #[.pointer (some ⟨bn, 0, none⟩)]] w fun e w' => e = .returned (.bool (!allB m (fun i => decide ((rows.getD i []).length = n)))) ∧ w = w' := by
  have IC := IndexFunc_c A rows m cap n bn w hm hcap hR hb
  clear hR hm hb
  generalize allB m (fun i => decide ((rows.getD i []).length = n)) = v at *
  go_enter Try.func105, Try.ntmps105
  go_wp2_with fail
  refine IC.mono ?_
  rintro e w1 ⟨⟨r, rfl, hr⟩, rfl⟩
  by_cases h0 : 0 ≤ r
  · have hv := hr.1 h0
    subst hv
    clear hr IC
    go_wp2_with fail
    go_ret
    exact ⟨ret_bool (by simp), rfl⟩
  · have hv : v = true := by cases v
                             · exact absurd (hr.2 rfl) h0
                             · rfl
    subst hv
    clear hr IC
    go_wp2_with fail
    go_ret
    exact ⟨ret_bool (by simpa using h0), rfl⟩
theorem faults_c (v : Array Value) (a : Value) (u : Array Value) (w : World) (hv : ∃ v0 v1 v2 v3, v = #[v0, v1, v2, v3]) (ha : ∃ A n c, a = .slice A n c) (hu : ∃ v0 v1, u = #[v0, v1]) :
    Calls Try.prog 74 #[.agg v, a, .agg u] w fun e w' => e = .returned (.func (.func 104) #[] #[.pointer (some ⟨w.heap.size, 0, none⟩), .pointer (some ⟨w.heap.size + 2, 0, none⟩), .pointer (some ⟨w.heap.size + 1, 0, none⟩)]) ∧ w' = ((w.alloc (.cells v 51)).alloc (.cells #[a] 52)).alloc (.cells u 55) := by
  obtain ⟨v0, v1, v2, v3, rfl⟩ := hv
  obtain ⟨A, n, c, rfl⟩ := ha
  obtain ⟨u0, u1, rfl⟩ := hu
  go_enter Try.func74, Try.ntmps74
  go_wp2
  go_ret
  exact ⟨rfl, rfl⟩
end Go.Proofs.Ytmebpglkeedaoaa
namespace Go.Proofs.Ytmebpglkeedaoaa
namespace Dp
section
variable {S : Site} {cs : List Car} {T : Tab}
theorem slotsE_zero : ∀ {n : Nat}, (∀ k, k < n → slotE S cs T k = 0) → slotsE S cs T n = 0
  | 0, _ => rfl
  | n + 1, h => by
    unfold slotsE
    rw [slotsE_zero (fun k hk => h k (by omega)), if_pos rfl]
    exact h n (by omega)
theorem slotsE_at {k : Nat} {e : Int} (h : ∀ j, j < k → slotE S cs T j = 0) (he : slotE S cs T k = e) (h0 : e ≠ 0) : ∀ d, slotsE S cs T (k + 1 + d) = e
  | 0 => by
    show slotsE S cs T (k + 1) = e
    unfold slotsE
    rw [slotsE_zero h, if_pos rfl, he]
  | d + 1 => by
    have ih := slotsE_at h he h0 d
    show slotsE S cs T (k + 1 + d + 1) = e
    unfold slotsE
    rw [ih, if_neg h0]
theorem plE_len (h0 : stE S cs = 0) (h : (lenG cs.length S.lim.length T.inn && lenG cs.length S.lim.length T.out) = false) : plE S cs T = 20 := by
  unfold plE; rw [if_pos h0, h]; rfl
theorem plE_slot (h0 : stE S cs = 0) (hl : (lenG cs.length S.lim.length T.inn && lenG cs.length S.lim.length T.out) = true) {k : Nat} {e : Int} (hk : k < S.lim.length) (h : ∀ j, j < k → slotE S cs T j = 0) (he : slotE S cs T k = e) (hne : e ≠ 0) : plE S cs T = e := by
  have := slotsE_at h he hne (S.lim.length - (k + 1))
  rw [show k + 1 + (S.lim.length - (k + 1)) = S.lim.length by omega] at this
  unfold plE
  rw [if_pos h0, if_pos hl, this, if_neg hne]
theorem plE_lev (h0 : stE S cs = 0) (hl : (lenG cs.length S.lim.length T.inn && lenG cs.length S.lim.length T.out) = true) (h : ∀ j, j < S.lim.length → slotE S cs T j = 0) {i : Nat} (hi : i < cs.length) {k : Nat} (hk : k ≤ S.lim.length)
    (hg : levG (cs.getD i default) (T.inn.getD i []) (T.out.getD i []) S.lim.length k = false) : plE S cs T = 19 := by
  have h1 : levsG cs T S.lim.length i = false := allB_no k (by omega) hg
  have h2 : allB cs.length (levsG cs T S.lim.length) = false := allB_no i hi h1
  unfold plE
  rw [if_pos h0, if_pos hl, slotsE_zero h, if_pos rfl, h2]
  rfl
theorem plE_good (h0 : stE S cs = 0) (hl : (lenG cs.length S.lim.length T.inn && lenG cs.length S.lim.length T.out) = true) (h : ∀ j, j < S.lim.length → slotE S cs T j = 0)
    (hg : ∀ i, i < cs.length → ∀ k, k ≤ S.lim.length → levG (cs.getD i default) (T.inn.getD i []) (T.out.getD i []) S.lim.length k = true) : plE S cs T = 0 := by
  have h2 : allB cs.length (levsG cs T S.lim.length) = true := allB_iff.2 fun i hi => allB_iff.2 fun k hk => hg i hi k (by omega)
  unfold plE
  rw [if_pos h0, if_pos hl, slotsE_zero h, if_pos rfl, if_pos h2]
theorem slotE_car {k i : Nat} (hi : i < cs.length) (h : carAt cs T k i = false) : slotE S cs T k = 3 := by
  have : allB cs.length (carAt cs T k) = false := allB_no i hi h
  unfold slotE; rw [this]; rfl
theorem slotE_lim {k : Nat} (h : ∀ i, i < cs.length → carAt cs T k i = true) (hd : ¬ (drP T k T.inn.length ≤ S.lim.getD k 0 ∧ -(S.exp.getD k 0) ≤ drP T k T.inn.length)) : slotE S cs T k = 17 := by
  have : allB cs.length (carAt cs T k) = true := allB_iff.2 h
  unfold slotE; rw [if_pos this, if_neg hd]
theorem slotE_ok {k : Nat} (h : ∀ i, i < cs.length → carAt cs T k i = true) (hd : drP T k T.inn.length ≤ S.lim.getD k 0 ∧ -(S.exp.getD k 0) ≤ drP T k T.inn.length) : slotE S cs T k = 0 := by
  have : allB cs.length (carAt cs T k) = true := allB_iff.2 h
  unfold slotE; rw [if_pos this, if_pos hd]
theorem slot_bd (h0 : stE S cs = 0) (hl : (lenG cs.length S.lim.length T.inn && lenG cs.length S.lim.length T.out) = true) {k : Nat} (hk : k < S.lim.length) (h : ∀ i, i < cs.length → carAt cs T k i = true) : SlotBd T k cs.length := by
  rw [Bool.and_eq_true] at hl
  have a := lenG_iff.1 hl.1
  have b := lenG_iff.1 hl.2
  intro i hi
  have c := carOk_iff.1 ((stE_0 h0).2.2.2 i hi)
  have d := carG_iff.1 (h i hi)
  have e := a.2 i hi
  have f := b.2 i hi
  exact ⟨⟨by omega, by omega⟩, ⟨by omega, by omega⟩, by omega, by omega⟩
theorem row_bd (h0 : stE S cs = 0) (hl : (lenG cs.length S.lim.length T.inn && lenG cs.length S.lim.length T.out) = true) (h : ∀ k, k < S.lim.length → ∀ i, i < cs.length → carAt cs T k i = true) {i : Nat} (hi : i < cs.length) :
    RowBd S.lim.length (T.inn.getD i []) ∧ RowBd S.lim.length (T.out.getD i []) := by
  rw [Bool.and_eq_true] at hl
  have a := lenG_iff.1 hl.1
  have b := lenG_iff.1 hl.2
  have c := carOk_iff.1 ((stE_0 h0).2.2.2 i hi)
  refine ⟨⟨a.2 i hi, fun k hk => ?_⟩, ⟨b.2 i hi, fun k hk => ?_⟩⟩
  · have d := carG_iff.1 (h k hk i hi)
    omega
  · have d := carG_iff.1 (h k hk i hi)
    omega
theorem slotE_cars {k : Nat} (h : slotE S cs T k = 0) : ∀ i, i < cs.length → carAt cs T k i = true := (slotE_0 h).1
end
theorem lev_all {n : Nat} {c : Car} {x y : List Int} (hn : n ≤ 48) (hc : carOk n c = true) (hx : RowBd n x) (hy : RowBd n y) : ∀ k, k < n → (-167772160 ≤ lev c x y k ∧ lev c x y k ≤ 167772160) ∧ (0 ≤ x.getD k 0 ∧ x.getD k 0 ≤ 1048576) ∧ (0 ≤ y.getD k 0 ∧ y.getD k 0 ≤ 1048576) ∧ (0 ≤ useC c k ∧ useC c k ≤ 1048576) := by
  intro k hk
  have h1 := lev_bd hc hx hy k (by omega)
  exact ⟨⟨by omega, by omega⟩, hx.2 k hk, hy.2 k hk, useC_bd hc k⟩
end Dp
end Go.Proofs.Ytmebpglkeedaoaa
namespace Go.Proofs.Ytmebpglkeedaoaa
open Go Go.RowKit
def markOf (r : Nat) : Deferred := { target := .collected r, args := #[] }
def Marks (B : Nat) (ds : List Deferred) (W : World) : Prop := ∃ rs : List Nat, ds = rs.map markOf ∧ rs.Nodup ∧ ∀ r, r ∈ rs → B ≤ r ∧ W.heap[r]? = some (.deferred (some []))
theorem Marks.nil (B : Nat) (W : World) : Marks B [] W := ⟨[], rfl, List.nodup_nil, fun r h => by cases h⟩
theorem Marks.keep {B : Nat} {ds : List Deferred} {W W' : World} (h : Marks B ds W) (k : KeepsFrom B W W') : Marks B ds W' := by
  obtain ⟨rs, h1, h2, h3⟩ := h
  exact ⟨rs, h1, h2, fun r hr => ⟨(h3 r hr).1, k.same r _ (h3 r hr).1 (h3 r hr).2 rfl⟩⟩
theorem Marks.below {B : Nat} {ds : List Deferred} {W W' : World} (h : Marks B ds W) (k : Below W.heap.size W W') : Marks B ds W' := by
  obtain ⟨rs, h1, h2, h3⟩ := h
  exact ⟨rs, h1, h2, fun r hr => ⟨(h3 r hr).1, (k.block r (Array.getElem?_eq_some_iff.1 (h3 r hr).2).1).trans (h3 r hr).2⟩⟩
theorem Marks.cons {B D : Nat} {ds : List Deferred} {W0 W : World} (h0 : Marks B ds W0) (hz : W0.heap.size ≤ D) (hB : B ≤ D) (h : Marks B ds W) (hD : W.heap[D]? = some (.deferred (some []))) : Marks B (markOf D :: ds) W := by
  obtain ⟨rs, h1, h2, h3⟩ := h
  obtain ⟨rs0, h4, h5, h6⟩ := h0
  have e : rs0 = rs := by
    rw [h4] at h1
    have hinj : ∀ a b, markOf a = markOf b → a = b := fun a b e => by cases e; rfl
    clear h2 h3 h4 h5 h6
    induction rs0 generalizing rs with
    | nil => cases rs with
      | nil => rfl
      | cons a l => cases h1
    | cons a l ih => cases rs with
      | nil => cases h1
      | cons b m =>
        simp only [List.map_cons, List.cons.injEq] at h1
        rw [hinj _ _ h1.1, ih m h1.2]
  subst e
  refine ⟨D :: rs0, by rw [h1]; rfl, List.nodup_cons.2 ⟨fun hm => ?_, h2⟩, fun r hr => ?_⟩
  · have := (Array.getElem?_eq_some_iff.1 (h6 D hm).2).1
    omega
  · rcases List.mem_cons.1 hr with rfl | hr
    · exact ⟨hB, hD⟩
    · exact h3 r hr
theorem marks_own {B D : Nat} {ds : List Deferred} {W0 : World} (h0 : Marks B ds W0) (hz : W0.heap.size ≤ D) : OwnFrom D (fun (_ : Unit) W => Marks B ds W) := by
  rintro _ W W' row ⟨rs, h1, h2, h3⟩ hg hr
  obtain ⟨rs0, h4, h5, h6⟩ := h0
  have e : ∀ r, r ∈ rs → r < W0.heap.size := fun r hm => by
    have : markOf r ∈ rs0.map markOf := by rw [← h4, h1]; exact List.mem_map_of_mem hm
    obtain ⟨r', hr', e⟩ := List.mem_map.1 this
    cases e
    exact (Array.getElem?_eq_some_iff.1 (h6 _ hr').2).1
  refine ⟨rs, h1, h2, fun r hm => ⟨(h3 r hm).1, (hg.block r (Array.getElem?_eq_some_iff.1 (h3 r hm).2).1 (fun e' => ?_)).trans (h3 r hm).2⟩⟩
  have := (hr r e'.symm).1
  have := e r hm
  omega
theorem leaves_marks {F : Fence} {n : Nat} {P : Program} {fn : Func} {tmps : Array Value} {R : Ending → World → Prop} {B : Nat} {C : World → Prop} {u : FrameMode} (hu : u ≠ .run)
    (hC : OwnFrom B (fun (_ : Unit) W => C W)) (hend : ∀ W, C W → LeavesInM F n P fn tmps R [] u W) {ds : List Deferred} {W : World} (hm : Marks B ds W) (hc : C W) : LeavesInM F n P fn tmps R ds u W := by
  obtain ⟨rs, rfl, h2, h3⟩ := hm
  induction rs generalizing W with
  | nil => exact hend W hc
  | cons r rs ih =>
    have hr := h3 r (by simp)
    refine ⟨hu, .inl ⟨r, _, rfl, run_takeDeferred hr.2, ?_⟩⟩
    refine ih (hC.putObj (s := ()) _ hc hr.1 hr.2 rfl) (List.nodup_cons.1 h2).2 (fun r' hr' => ?_)
    have hne : r' ≠ r := fun e => (List.nodup_cons.1 h2).1 (e ▸ hr')
    have := h3 r' (by simp [hr'])
    exact ⟨this.1, (World.putObj_heap_other hne).trans this.2⟩
end Go.Proofs.Ytmebpglkeedaoaa
namespace Go.Proofs.Ytmebpglkeedaoaa
open Go.RowKit Go.Shelf Dp
attribute [local go_sem] Oper.semAt_some
structure FtH (S : Site) (cs : List Car) (T : Tab) (n m p q cA cB cC cD cE cP cQ : Nat) : Prop where
  hn : n = S.lim.length
  hm : m = cs.length
  hp : p = T.inn.length
  hq : q = T.out.length
  ok : stE S cs = 0
  ha : n ≤ cA ∧ cA ≤ 9223372036854775807
  hb : n ≤ cB ∧ cB ≤ 9223372036854775807
  hc : n ≤ cC ∧ cC ≤ 9223372036854775807
  hd : n ≤ cD ∧ cD ≤ 9223372036854775807
  he : m ≤ cE ∧ cE ≤ 9223372036854775807
  hx : p ≤ cP ∧ cP ≤ 9223372036854775807
  hy : q ≤ cQ ∧ cQ ≤ 9223372036854775807
structure FtM (bs bt bc : Nat) (S : Site) (cs : List Car) (T : Tab) (A B C D E P Q : Option Addr) (n m p q cA cB cC cD cE cP cQ : Nat) (W : World) : Prop where
  ks : Blk W bs 51 [.slice A n cA, .slice B n cB, .slice C n cC, .slice D n cD]
  kt : Blk W bt 55 [.slice P p cP, .slice Q q cQ]
  kc : Blk W bc 52 [.slice E m cE]
  hs : SiteAt W A B C D S
  ht : TabAt W P Q T
  hc : CarsAt W E cs
theorem FtM.below {bs bt bc : Nat} {S : Site} {cs : List Car} {T : Tab} {A B C D E P Q : Option Addr} {n m p q cA cB cC cD cE cP cQ : Nat} {W V : World} (h : FtM bs bt bc S cs T A B C D E P Q n m p q cA cB cC cD cE cP cQ W) (hb : Below W.heap.size W V) : FtM bs bt bc S cs T A B C D E P Q n m p q cA cB cC cD cE cP cQ V :=
  ⟨h.ks.below hb h.ks.lt, h.kt.below hb h.kt.lt, h.kc.below hb h.kc.lt, h.hs.below hb (Nat.le_refl _), h.ht.below hb (Nat.le_refl _), h.hc.below hb (Nat.le_refl _)⟩
theorem end104 {R : Ending → World → Prop} {tmps : Array Value} {n : Nat} : ∀ W : World, (∀ v, R (.returned v) W) → LeavesInM Fence.wide n Try.prog Try.f104 tmps R [] .returning W := fun W h => ⟨_, results_none rfl _ _ _, h _⟩
end Go.Proofs.Ytmebpglkeedaoaa
namespace Go.Proofs.Ytmebpglkeedaoaa
open Go.RowKit Go.Shelf Dp
attribute [local go_sem] Oper.semAt_some
noncomputable def loop104 : Code := ((Try.f104.body.bind (blockOf 6)).getD .skip)
def St8 (J : World → Prop) (b4 b5 l n D0 : Nat) (V : World) : Prop := J V ∧ Blk V b4 161 [.func (.yield l) #[] #[]] ∧ Blk V b5 3 [.int .i64 n] ∧ D0 ≤ V.heap.size
def R104 (S : Site) (cs : List Car) (T : Tab) (J : World → Prop) (Jx : Int → World → Prop) : Ending → World → Prop := fun e W' => (∃ v, e = .returned v) ∧ ((plE S cs T = 0 ∧ J W') ∨ (plE S cs T ≠ 0 ∧ Jx (plE S cs T) W'))
def Rel4 (S : Site) (cs : List Car) (T : Tab) (J : World → Prop) (b4 b5 l n m D0 : Nat) (v : Value) (ds : List Deferred) (w : World) : Prop :=
  ∃ i : Nat, v = .int .i64 i ∧ i ≤ m ∧ Marks D0 ds w ∧ St8 J b4 b5 l n D0 w ∧ ∀ x, x < i → ∀ k, k ≤ n → levG (cs.getD x default) (T.inn.getD x []) (T.out.getD x []) n k = true
theorem blk_kept {W W' : World} {row : Option Nat} {g D : Nat} {t : TypeId} {vs : List Value} (h : Blk W g t vs) (hg : W.grownBy W' row) (hr : ∀ r, row = some r → D ≤ r ∧ ∃ o : Obj, W.heap[r]? = some o ∧ o.isCells = false) : Blk W' g t vs :=
  h.of_eq (hg.block g h.lt (fun e => by
    obtain ⟨o, ho, hc⟩ := (hr g e.symm).2
    have h' : W.heap[g]? = some (.cells vs.toArray t (0, 0)) := h
    rw [h'] at ho
    cases ho
    cases hc))
set_option maxHeartbeats 8000000 in
set_option maxRecDepth 100000 in
theorem faults4_c (bs bt bc b4 b5 : Nat) (S : Site) (cs : List Car) (T : Tab) (A B C D E P Q : Option Addr) (n m p q cA cB cC cD cE cP cQ l D0 : Nat) (hH : FtH S cs T n m p q cA cB cC cD cE cP cQ) (hpm : p = m) (hqm : q = m)
    (hL : (lenG cs.length S.lim.length T.inn && lenG cs.length S.lim.length T.out) = true) (hSl : ∀ j, j < n → slotE S cs T j = 0)
    (J : World → Prop) (Jx : Int → World → Prop) (hJ : ∀ W, J W → FtM bs bt bc S cs T A B C D E P Q n m p q cA cB cC cD cE cP cQ W) (hJo : OwnFrom D0 (fun (_ : Unit) W => J W)) (hJxo : ∀ e, OwnFrom D0 (fun (_ : Unit) W => Jx e W))
    (hY : ∀ e W1, J W1 → YieldAt Fence.wide 1 Try.prog l #[.int .i64 e] W1 fun e' W' => KeepsFrom D0 W1 W' ∧ e' = .returned (.bool false) ∧ Jx e W')
    (W0 : World) (h0 : St8 J b4 b5 l n D0 W0) {x6 x7 x8 x9 x10 x11 x12 x13 x14 x15 x16 x17 x18 x19 x20 x21 x22 x23 x24 x25 x26 x27 x28 x29 x30 x31 x32 x33 x34 x35 x36 x37 x38 x39 x40 x41 x42 x43 x44 x45 x46 x47 x48 x49 x50 x51 x52 x53 x54 x55 x56 x57 x58 x59 x60 x61 x62 x63 x64 x65 x66 x67 x68 x69 x70 x71 x72 x73 x74 x75 x76 x77 x78 x79 x80 x81 x82 x83 x84 x85 x86 x87 x88 x89 x90 x91 x92 x93 x94 x95 x96 x97 x98 x99 x100 x101 x102 x103 x104 x105 x106 x107 x108 x109 x110 x111 x112 x113 x114 x115 x116 x117 x118 x119 x120 x121 x122 x123 x124 x125 x126 x127 x128 x129 x130 x131 x132 x136 x137 x138 x139 x140 x141 x142 x143 x144 x145 x146 x147 x148 x149 x150 x151 x152 x153 x154 x155 x156 x157 x158 x159 x160 x161 x162 x163 x164 x165 x166 x167 x168 x169 x170 x171 x172 x173 x174 x175 x176 x177 x178 x179 x180 x181 x182 x183 x184 x185 x186 x187 x188 x189 : Value} :
    Code.wpIn Fence.wide 2 Try.prog loop104 (Exit.inBlock 6 (bodyPostM Fence.wide 2 Try.prog Try.f104 (R104 S cs T J Jx))) { tmps := List.toArray ((.func (.yield l) #[] #[] : Value) :: (.pointer (some ⟨bs, 0, none⟩) : Value) :: (.pointer (some ⟨bt, 0, none⟩) : Value) :: (.pointer (some ⟨bc, 0, none⟩) : Value) :: (.pointer (some ⟨b4, 0, none⟩) : Value) :: (.pointer (some ⟨b5, 0, none⟩) : Value) :: x6 :: x7 :: x8 :: x9 :: x10 :: x11 :: x12 :: x13 :: x14 :: x15 :: x16 :: x17 :: x18 :: x19 :: x20 :: x21 :: x22 :: x23 :: x24 :: x25 :: x26 :: x27 :: x28 :: x29 :: x30 :: x31 :: x32 :: x33 :: x34 :: x35 :: x36 :: x37 :: x38 :: x39 :: x40 :: x41 :: x42 :: x43 :: x44 :: x45 :: x46 :: x47 :: x48 :: x49 :: x50 :: x51 :: x52 :: x53 :: x54 :: x55 :: x56 :: x57 :: x58 :: x59 :: x60 :: x61 :: x62 :: x63 :: x64 :: x65 :: x66 :: x67 :: x68 :: x69 :: x70 :: x71 :: x72 :: x73 :: x74 :: x75 :: x76 :: x77 :: x78 :: x79 :: x80 :: x81 :: x82 :: x83 :: x84 :: x85 :: x86 :: x87 :: x88 :: x89 :: x90 :: x91 :: x92 :: x93 :: x94 :: x95 :: x96 :: x97 :: x98 :: x99 :: x100 :: x101 :: x102 :: x103 :: x104 :: x105 :: x106 :: x107 :: x108 :: x109 :: x110 :: x111 :: x112 :: x113 :: x114 :: x115 :: x116 :: x117 :: x118 :: x119 :: x120 :: x121 :: x122 :: x123 :: x124 :: x125 :: x126 :: x127 :: x128 :: x129 :: x130 :: x131 :: x132 :: (.slice E m cE : Value) :: (.int .i64 m : Value) :: (.int .i64 0 : Value) :: x136 :: x137 :: x138 :: x139 :: x140 :: x141 :: x142 :: x143 :: x144 :: x145 :: x146 :: x147 :: x148 :: x149 :: x150 :: x151 :: x152 :: x153 :: x154 :: x155 :: x156 :: x157 :: x158 :: x159 :: x160 :: x161 :: x162 :: x163 :: x164 :: x165 :: x166 :: x167 :: x168 :: x169 :: x170 :: x171 :: x172 :: x173 :: x174 :: x175 :: x176 :: x177 :: x178 :: x179 :: x180 :: x181 :: x182 :: x183 :: x184 :: x185 :: x186 :: x187 :: x188 :: x189 :: []), defers := [] } W0 := by
  have HH := Lib.hid hH
  have HV1 := Lib.hid hpm
  have HV2 := Lib.hid hqm
  have HL := Lib.hid hL
  have HSL := Lib.hid hSl
  have HJ := Lib.hid hJ
  have HJO := Lib.hid hJo
  have HJXO := Lib.hid hJxo
  have HJB : Hid (∀ W W', J W → Below W.heap.size W W' → J W') := Lib.hid (fun W W' h hb => hJo () W W' none h (grown_below hb) (fun r e => by cases e))
  have HY := Lib.hid hY
  have H0 := Lib.hid h0
  have HS8 : Hid (∀ V V', St8 J b4 b5 l n D0 V → Below V.heap.size V V' → St8 J b4 b5 l n D0 V') := Lib.hid (fun V V' h hb => ⟨HJB.out _ _ h.1 hb, h.2.1.below hb h.2.1.lt, h.2.2.1.below hb h.2.2.1.lt, Nat.le_trans h.2.2.2 hb.size⟩)
  have ee := hH.he
  have ep := hH.hx
  have eq := hH.hy
  clear hH hpm hqm hL hSl hJ hJo hJxo hY h0
  conv => arg 4; whnf
  refine wpIn_loop (fun a w => ∃ u16 u17 u18 u19 u20 u135 u136 u137 u138 u139 u140 u141 u142 u143 u144 u145 u146 u147 u148 u149 u150 u151 u152 u153 u154 u155 u156 u157 u158 u159 u160 u161 u162 u163 u164 u165 u166 u167 u168 u169 u170 u171 u172 u173 u174 u175 u176 u177 u178 u179 u180 u181 u182 u183 u184 u185 u186 u187 u188 u189 ds, (Rel4 S cs T J b4 b5 l n m D0 u135 ds w) ∧ a = { tmps := List.toArray ((.func (.yield l) #[] #[] : Value) :: (.pointer (some ⟨bs, 0, none⟩) : Value) :: (.pointer (some ⟨bt, 0, none⟩) : Value) :: (.pointer (some ⟨bc, 0, none⟩) : Value) :: (.pointer (some ⟨b4, 0, none⟩) : Value) :: (.pointer (some ⟨b5, 0, none⟩) : Value) :: x6 :: x7 :: x8 :: x9 :: x10 :: x11 :: x12 :: x13 :: x14 :: x15 :: u16 :: u17 :: u18 :: u19 :: u20 :: x21 :: x22 :: x23 :: x24 :: x25 :: x26 :: x27 :: x28 :: x29 :: x30 :: x31 :: x32 :: x33 :: x34 :: x35 :: x36 :: x37 :: x38 :: x39 :: x40 :: x41 :: x42 :: x43 :: x44 :: x45 :: x46 :: x47 :: x48 :: x49 :: x50 :: x51 :: x52 :: x53 :: x54 :: x55 :: x56 :: x57 :: x58 :: x59 :: x60 :: x61 :: x62 :: x63 :: x64 :: x65 :: x66 :: x67 :: x68 :: x69 :: x70 :: x71 :: x72 :: x73 :: x74 :: x75 :: x76 :: x77 :: x78 :: x79 :: x80 :: x81 :: x82 :: x83 :: x84 :: x85 :: x86 :: x87 :: x88 :: x89 :: x90 :: x91 :: x92 :: x93 :: x94 :: x95 :: x96 :: x97 :: x98 :: x99 :: x100 :: x101 :: x102 :: x103 :: x104 :: x105 :: x106 :: x107 :: x108 :: x109 :: x110 :: x111 :: x112 :: x113 :: x114 :: x115 :: x116 :: x117 :: x118 :: x119 :: x120 :: x121 :: x122 :: x123 :: x124 :: x125 :: x126 :: x127 :: x128 :: x129 :: x130 :: x131 :: x132 :: (.slice E m cE : Value) :: (.int .i64 m : Value) :: u135 :: u136 :: u137 :: u138 :: u139 :: u140 :: u141 :: u142 :: u143 :: u144 :: u145 :: u146 :: u147 :: u148 :: u149 :: u150 :: u151 :: u152 :: u153 :: u154 :: u155 :: u156 :: u157 :: u158 :: u159 :: u160 :: u161 :: u162 :: u163 :: u164 :: u165 :: u166 :: u167 :: u168 :: u169 :: u170 :: u171 :: u172 :: u173 :: u174 :: u175 :: u176 :: u177 :: u178 :: u179 :: u180 :: u181 :: u182 :: u183 :: u184 :: u185 :: u186 :: u187 :: u188 :: u189 :: []), defers := ds }) (fun a w => m - (intOf (a.tmps.getD 135 undef)).toNat) ?start ?round
  case start =>
    (repeat apply Exists.intro)
    refine ⟨⟨0, rfl, Nat.zero_le _, Marks.nil _ _, H0.out, fun x hx => by omega⟩, rfl⟩
  intro a w hinv
  obtain ⟨u16, hinv⟩ := hinv
  obtain ⟨u17, hinv⟩ := hinv
  obtain ⟨u18, hinv⟩ := hinv
  obtain ⟨u19, hinv⟩ := hinv
  obtain ⟨u20, hinv⟩ := hinv
  obtain ⟨u135, hinv⟩ := hinv
  obtain ⟨u136, hinv⟩ := hinv
  obtain ⟨u137, hinv⟩ := hinv
  obtain ⟨u138, hinv⟩ := hinv
  obtain ⟨u139, hinv⟩ := hinv
  obtain ⟨u140, hinv⟩ := hinv
  obtain ⟨u141, hinv⟩ := hinv
  obtain ⟨u142, hinv⟩ := hinv
  obtain ⟨u143, hinv⟩ := hinv
  obtain ⟨u144, hinv⟩ := hinv
  obtain ⟨u145, hinv⟩ := hinv
  obtain ⟨u146, hinv⟩ := hinv
  obtain ⟨u147, hinv⟩ := hinv
  obtain ⟨u148, hinv⟩ := hinv
  obtain ⟨u149, hinv⟩ := hinv
  obtain ⟨u150, hinv⟩ := hinv
  obtain ⟨u151, hinv⟩ := hinv
  obtain ⟨u152, hinv⟩ := hinv
  obtain ⟨u153, hinv⟩ := hinv
  obtain ⟨u154, hinv⟩ := hinv
  obtain ⟨u155, hinv⟩ := hinv
  obtain ⟨u156, hinv⟩ := hinv
  obtain ⟨u157, hinv⟩ := hinv
  obtain ⟨u158, hinv⟩ := hinv
  obtain ⟨u159, hinv⟩ := hinv
  obtain ⟨u160, hinv⟩ := hinv
  obtain ⟨u161, hinv⟩ := hinv
  obtain ⟨u162, hinv⟩ := hinv
  obtain ⟨u163, hinv⟩ := hinv
  obtain ⟨u164, hinv⟩ := hinv
  obtain ⟨u165, hinv⟩ := hinv
  obtain ⟨u166, hinv⟩ := hinv
  obtain ⟨u167, hinv⟩ := hinv
  obtain ⟨u168, hinv⟩ := hinv
  obtain ⟨u169, hinv⟩ := hinv
  obtain ⟨u170, hinv⟩ := hinv
  obtain ⟨u171, hinv⟩ := hinv
  obtain ⟨u172, hinv⟩ := hinv
  obtain ⟨u173, hinv⟩ := hinv
  obtain ⟨u174, hinv⟩ := hinv
  obtain ⟨u175, hinv⟩ := hinv
  obtain ⟨u176, hinv⟩ := hinv
  obtain ⟨u177, hinv⟩ := hinv
  obtain ⟨u178, hinv⟩ := hinv
  obtain ⟨u179, hinv⟩ := hinv
  obtain ⟨u180, hinv⟩ := hinv
  obtain ⟨u181, hinv⟩ := hinv
  obtain ⟨u182, hinv⟩ := hinv
  obtain ⟨u183, hinv⟩ := hinv
  obtain ⟨u184, hinv⟩ := hinv
  obtain ⟨u185, hinv⟩ := hinv
  obtain ⟨u186, hinv⟩ := hinv
  obtain ⟨u187, hinv⟩ := hinv
  obtain ⟨u188, hinv⟩ := hinv
  obtain ⟨u189, hinv⟩ := hinv
  obtain ⟨ds, hinv⟩ := hinv
  obtain ⟨⟨i, rfl, hi, HMK, HST, HLV⟩, rfl⟩ := hinv
  have HW := Lib.hid (And.intro HMK (And.intro HST HLV))
  clear HMK HST HLV
  try dsimp only
  by_cases hlt : i < m
  · have hii : (i : Int) < (m : Int) := by omega
    have il : i < cs.length := by rw [← HH.out.hm]; exact hlt
    have M := HJ.out _ HW.out.2.1.1
    obtain ⟨ad, rfl, abl, c0, c1, c2, c3, c4, TT, cT, c5, hcT, HTT⟩ := M.hc i il
    have HTR := Lib.hid HTT
    have HCOK := Lib.hid ((stE_0 HH.out.ok).2.2.2 i il)
    clear HTT M
    generalize hcc : cs.getD i default = c at *
    have HCC := Lib.hid hcc
    clear hcc
    obtain ⟨cap, inn, out, start, fin, trips⟩ := c
    simp only at c0 c1 c2 c3 c4 c5 hcT HTR HCOK
    obtain ⟨qn, hqn⟩ : ∃ qn, qn = trips.length := ⟨_, rfl⟩
    rw [← hqn] at c5 hcT
    have HQN := Lib.hid hqn
    clear hqn
    gi_upto_region 26 with fail
    have HBB := Lib.hid (((Below.refl w.heap.size w).alloc (Nat.le_refl _) (.cells #[.int .i64 i] 3)).alloc (by simp) (.cells #[.int .i64 cap, .int .i64 inn, .int .i64 out, .int .i64 start, .int .i64 fin, .slice TT qn cT] 63))
    have XI := Lib.hid ((Blk.new' w #[.int .i64 i] 3).alloc (.cells #[.int .i64 cap, .int .i64 inn, .int .i64 out, .int .i64 start, .int .i64 fin, .slice TT qn cT] 63))
    have XC := Lib.hid (show Blk ((w.alloc (.cells #[.int .i64 i] 3)).alloc (.cells #[.int .i64 cap, .int .i64 inn, .int .i64 out, .int .i64 start, .int .i64 fin, .slice TT qn cT] 63)) (w.heap.size + 1) 63 [.int .i64 cap, .int .i64 inn, .int .i64 out, .int .i64 start, .int .i64 fin, .slice TT qn cT] from by simpa using Blk.new' (w.alloc (.cells #[.int .i64 i] 3)) #[.int .i64 cap, .int .i64 inn, .int .i64 out, .int .i64 start, .int .i64 fin, .slice TT qn cT] 63)
    have HX0 := Lib.hid (HS8.out _ _ HW.out.2.1 HBB.out)
    have HTR2 := Lib.hid (HTR.out.below HBB.out (Nat.le_refl _))
    have HMK2 := Lib.hid (HW.out.1.below HBB.out)
    have HLV := Lib.hid HW.out.2.2
    clear HBB HTR HW c0 c1 c2 c3 c4 c5 abl
    generalize (w.alloc (.cells #[.int .i64 i] 3)).alloc (.cells #[.int .i64 cap, .int .i64 inn, .int .i64 out, .int .i64 start, .int .i64 fin, .slice TT qn cT] 63) = w2 at XI XC HX0 HTR2 HMK2 ⊢
    generalize w.heap.size = bi at *
    have M := HJ.out _ HX0.out.1
    obtain ⟨pa, rfl, pal, PT, cPT, p0, pb, pi⟩ := M.ht.1 i (by rw [← HH.out.hp, HV1.out]; exact hlt)
    obtain ⟨qa, rfl, qal, QT, cQT, q0, qb, qi⟩ := M.ht.2 i (by rw [← HH.out.hq, HV2.out]; exact hlt)
    have LL := HL.out
    rw [Bool.and_eq_true] at LL
    have L1 := (lenG_iff.1 LL.1).2 i il
    have L2 := (lenG_iff.1 LL.2).2 i il
    rw [L1, ← HH.out.hn] at p0 pb
    rw [L2, ← HH.out.hn] at q0 qb
    have N8 : n ≤ 48 := by
      have h := siteHead_iff.1 (stE_0 HH.out.ok).2.1
      have h3 := HH.out.hn
      omega
    have RB := row_bd HH.out.ok HL.out (fun k hk x hx => slotE_cars (HSL.out k (by rw [HH.out.hn]; exact hk)) x hx) il
    rw [← HH.out.hn] at RB HCOK
    have HLA := Lib.hid (lev_all N8 HCOK.out RB.1 RB.2)
    have HPI := Lib.hid (And.intro pi qi)
    have HLX := Lib.hid (And.intro (L1.trans HH.out.hn.symm).symm (L2.trans HH.out.hn.symm).symm)
    clear pi qi LL L1 L2 M RB
    have hip : (i : Int) < (p : Int) := by have := HV1.out; omega
    have hiq : (i : Int) < (q : Int) := by have := HV2.out; omega
    have HPE : Hid (∀ k, k ≤ n → levG ⟨cap, inn, out, start, fin, trips⟩ (T.inn.getD i []) (T.out.getD i []) n k = false → plE S cs T = 19) := Lib.hid (fun k hk h => plE_lev HH.out.ok HL.out (fun j hj => HSL.out j (by rw [HH.out.hn]; exact hj)) il (k := k) (by rw [← HH.out.hn]; exact hk) (by rw [HCC.out, ← HH.out.hn]; exact h))
    have HNXT : Hid ((∀ k, k ≤ n → levG ⟨cap, inn, out, start, fin, trips⟩ (T.inn.getD i []) (T.out.getD i []) n k = true) → ∀ x, x < i + 1 → ∀ k, k ≤ n → levG (cs.getD x default) (T.inn.getD x []) (T.out.getD x []) n k = true) := Lib.hid (fun h x hx k hk => by
      by_cases hxi : x < i
      · exact HLV.out x hxi k hk
      · obtain rfl : x = i := by omega
        rw [HCC.out]; exact h k hk)
    generalize T.inn.getD i [] = xr at *
    generalize hyr : T.out.getD i [] = yr at *
    have HYR := Lib.hid hyr
    clear hyr
    have HP0 : Hid (∀ V, Below w2.heap.size w2 V → (V.cell? (pa.add i) = some (.slice PT n cPT) ∧ (pa.add i).block < V.heap.size) ∧ (V.cell? (qa.add i) = some (.slice QT n cQT) ∧ (qa.add i).block < V.heap.size)) := Lib.hid (fun V hV => by
      have k := hV.size
      exact ⟨⟨(hV.cell (by rw [block_add]; exact pal)).trans p0, by rw [block_add]; omega⟩, ⟨(hV.cell (by rw [block_add]; exact qal)).trans q0, by rw [block_add]; omega⟩⟩)
    clear p0 q0 pal qal
    refine wpIn_wide.2 ?_
    refine wp_region_then 11 _ ?af rfl (by kernel_rfl) (by kernel_rfl) ?walk ?tail
    case walk =>
      intro V hV
      have XIV := XI.out.below hV XI.out.lt
      have XCV := XC.out.below hV XC.out.lt
      have MV := HJ.out _ (HS8.out _ _ HX0.out hV).1
      obtain ⟨⟨p0, pab⟩, ⟨q0, qab⟩⟩ := HP0.out V hV
      have i0 := XIV.cell 0 rfl
      have ilt := XIV.lt
      have clt := XCV.lt
      have e0 := XCV.cell 0 rfl
      have e1 := XCV.cell 1 rfl
      have e2 := XCV.cell 2 rfl
      have e3 := XCV.cell 3 rfl
      have e4 := XCV.cell 4 rfl
      have e5 := XCV.cell 5 rfl
      have t0 := MV.kt.cell 0 rfl
      have t1 := MV.kt.cell 1 rfl
      have tl := MV.kt.lt
      clear XIV XCV MV hV
      simp only [List.take_succ_cons, List.take_zero]
      repeat (go_big_quiet_step (fail))
      refine wpQuiet_nil ?_
      rfl
    intro w8 hb8
    have XI3 := Lib.hid (XI.out.below hb8 XI.out.lt)
    have XC3 := Lib.hid (XC.out.below hb8 XC.out.lt)
    have HX3 := Lib.hid (HS8.out _ _ HX0.out hb8)
    have HMK3 := Lib.hid (HMK2.out.below hb8)
    have HTR3 := Lib.hid (HTR2.out.below hb8 (Nat.le_refl _))
    have HPI3 := Lib.hid (And.intro (HPI.out.1.below hb8 (Nat.le_refl _)) (HPI.out.2.below hb8 (Nat.le_refl _)))
    clear hb8 XI XC HX0 HMK2 HTR2 HPI HP0
    go_simp
    refine (levels_c _ _ _ _ ⟨_, _, _, _, _, _, rfl⟩ ⟨_, _, _, rfl⟩ ⟨_, _, _, rfl⟩).mono ?_
    rintro e w9 ⟨rfl, hw9⟩
    have HB9 : Below w8.heap.size w8 w9 := by
      rw [hw9]
      exact (((Below.refl _ _).alloc (Nat.le_refl _) _).alloc (by simp) _).alloc (by simp; omega) _
    have KC : Blk w9 w8.heap.size 63 [.int .i64 cap, .int .i64 inn, .int .i64 out, .int .i64 start, .int .i64 fin, .slice TT qn cT] := by
      rw [hw9]; exact ((Blk.new' w8 #[.int .i64 cap, .int .i64 inn, .int .i64 out, .int .i64 start, .int .i64 fin, .slice TT qn cT] 63).alloc _).alloc _
    have KI : Blk w9 (w8.heap.size + 1) 22 [.slice PT n cPT] := by
      have := (Blk.new' (w8.alloc (.cells #[.int .i64 cap, .int .i64 inn, .int .i64 out, .int .i64 start, .int .i64 fin, .slice TT qn cT] 63)) #[.slice PT n cPT] 22).alloc (.cells #[.slice QT n cQT] 22)
      rw [hw9]; simpa using this
    have KO : Blk w9 (w8.heap.size + 2) 22 [.slice QT n cQT] := by
      have := Blk.new' ((w8.alloc (.cells #[.int .i64 cap, .int .i64 inn, .int .i64 out, .int .i64 start, .int .i64 fin, .slice TT qn cT] 63)).alloc (.cells #[.slice PT n cPT] 22)) #[.slice QT n cQT] 22
      rw [hw9]; simpa [Nat.add_assoc] using this
    have XI4 := Lib.hid (XI3.out.below HB9 XI3.out.lt)
    have XC4 := Lib.hid (XC3.out.below HB9 XC3.out.lt)
    have HX4 := Lib.hid (HS8.out _ _ HX3.out HB9)
    have HMK4 := Lib.hid (HMK3.out.below HB9)
    have HLM : Hid (LvM w8.heap.size (w8.heap.size + 1) (w8.heap.size + 2) ⟨cap, inn, out, start, fin, trips⟩ xr yr TT PT QT qn n n cT cPT cQT w9) := Lib.hid ⟨KC, KI, KO, HTR3.out.below HB9 (Nat.le_refl _), HPI3.out.1.below HB9 (Nat.le_refl _), HPI3.out.2.below HB9 (Nat.le_refl _)⟩
    clear hw9 HB9 KC KI KO XI3 XC3 HX3 HMK3 HTR3 HPI3
    dsimp only
    (try simp only [Act.put, List.setIfInBounds_toArray, List.set_cons_zero, List.set_cons_succ])
    refine wpQuiet_nil ?_
    intro xx
    have XI5 := Lib.hid (XI4.out.below xx.far XI4.out.lt)
    have XC5 := Lib.hid (XC4.out.below xx.far XC4.out.lt)
    have HX5 := Lib.hid (HS8.out _ _ HX4.out xx.far)
    have HMK5 := Lib.hid (HMK4.out.below xx.far)
    have HLM5 := Lib.hid (HLM.out.below xx.far)
    generalize xx.w = w5 at XI5 XC5 HX5 HMK5 HLM5 ⊢
    clear XI4 XC4 HX4 HMK4 HLM
    generalize w8.heap.size = g at *
    gi_wp2
    refine wpIn_wide.2 ((wpIn_wide (n := 3)).1 (range_mine3 (F := Fence.wide) (n := 3) rfl (by omega) (gf := 107) (lb := #[.pointer (some ⟨g, 0, none⟩), .pointer (some ⟨g + 1, 0, none⟩), .pointer (some ⟨g + 2, 0, none⟩)]) rfl trivial (fun _ _ => by kernel_rfl)
      (encs := fun y : Int × Int => #[.int .i64 y.1, .int .i64 y.2]) (fun _ => rfl)
      (fun pre V => St8 J b4 b5 l n D0 V ∧ Below w5.heap.size w5 V ∧ ∀ j, j < pre.length → levG ⟨cap, inn, out, start, fin, trips⟩ xr yr n j = true) (fun _ V => Jx 19 V ∧ plE S cs T = 19 ∧ Marks D0 ds V) .ret
      (fun ys => ys.length = n + 1) (fun _ => True) (fun pre y => ∃ k : Nat, k ≤ n ∧ pre.length = k ∧ y = ((k : Int), lev ⟨cap, inn, out, start, fin, trips⟩ xr yr k))
      ?hI ?hIx ⟨HX5.out, Below.refl _ _, fun j hj => by simp at hj⟩ ?hseq ?a1 ?assign ?body ?done ?stop))
    case hI =>
      rintro pre V V' row ⟨⟨h1, h2, h3, h4⟩, h5, h6⟩ hg hr
      exact ⟨⟨HJO.out () V V' row h1 hg (fun r e => ⟨Nat.le_trans HX5.out.2.2.2 (hr r e).1, (hr r e).2⟩), blk_kept h2 hg hr, blk_kept h3 hg hr, Nat.le_trans h4 hg.size⟩, h5.grown hg h5.size (fun r e => (hr r e).1), h6⟩
    case hIx =>
      rintro pre V V' row ⟨h1, h2, h3⟩ hg hr
      exact ⟨HJXO.out 19 () V V' row h1 hg (fun r e => ⟨Nat.le_trans HX5.out.2.2.2 (hr r e).1, (hr r e).2⟩), h2, marks_own HMK5.out (Nat.le_refl _) () V V' row h3 hg hr⟩
    case hseq =>
      intro l2 J2 Jx2 V hJ2 hO2 hOx2 hz2 hY2 hj2
      have lv0 : ∀ k, (lvs ⟨cap, inn, out, start, fin, trips⟩ xr yr k).length = k := fun k => by simp [lvs]
      refine (levels1_c g (g + 1) (g + 2) ⟨cap, inn, out, start, fin, trips⟩ xr yr TT PT QT qn n n cT cPT cQT l2 HQN.out hcT HLX.out.1 (Nat.le_refl _) HLX.out.2 pb qb HLA.out J2 Jx2 (fun pre V2 h => HLM5.out.below (hJ2 pre V2 h).2.1) (fun pre V1 V2 h hb => hO2 pre V1 V2 none h (grown_below hb) (fun r e => by cases e)) (fun k hk V1 h => (hY2 _ ((k : Int), lev ⟨cap, inn, out, start, fin, trips⟩ xr yr k) V1 h ⟨k, hk, lv0 k, rfl⟩).mono (fun e V2 h2 => by rw [lvs_succ]; exact h2.2)) V hj2).mono ?_
      rintro e V2 ⟨hv, h | ⟨k, hk, h⟩⟩
      · exact ⟨hv, .inl ⟨_, lv0 _, h⟩⟩
      · exact ⟨hv, .inr ⟨_, trivial, h⟩⟩
    case assign =>
      intro l2 y V K hK
      gi_wp2
      exact hK
    case body =>
      rintro l2 pre y V hI ⟨k, hk, hpre, rfl⟩
      have HI := Lib.hid hI
      clear hI
      have HBAD : Hid (¬ (least ⟨cap, inn, out, start, fin, trips⟩ yr n k ≤ lev ⟨cap, inn, out, start, fin, trips⟩ xr yr k ∧ lev ⟨cap, inn, out, start, fin, trips⟩ xr yr k ≤ (Car.cap ⟨cap, inn, out, start, fin, trips⟩)) → plE S cs T = 19) := Lib.hid (fun h => HPE.out k hk (by rw [← Bool.not_eq_true, levG_iff]; exact h))
      have HGOOD : Hid ((least ⟨cap, inn, out, start, fin, trips⟩ yr n k ≤ lev ⟨cap, inn, out, start, fin, trips⟩ xr yr k ∧ lev ⟨cap, inn, out, start, fin, trips⟩ xr yr k ≤ (Car.cap ⟨cap, inn, out, start, fin, trips⟩)) → levG ⟨cap, inn, out, start, fin, trips⟩ xr yr n k = true) := Lib.hid (fun h => levG_iff.2 h)
      have XC6 := XC5.out.below HI.out.2.1 XC5.out.lt
      have XI6 := XI5.out.below HI.out.2.1 XI5.out.lt
      have e0 := XC6.cell 0 rfl
      have e1 := XC6.cell 1 rfl
      have e2 := XC6.cell 2 rfl
      have e3 := XC6.cell 3 rfl
      have e4 := XC6.cell 4 rfl
      have e5 := XC6.cell 5 rfl
      have n0 := HI.out.1.2.2.1.cell 0 rfl
      by_cases hkn : k < n
      · have hki : (k : Int) < (n : Int) := by omega
        have HLS : Hid (least ⟨cap, inn, out, start, fin, trips⟩ yr n k = max (useC ⟨cap, inn, out, start, fin, trips⟩ k) (yr.getD k 0)) := Lib.hid (by unfold least; rw [if_pos hkn])
        have TC := trip_c (.int .i64 cap) (.int .i64 inn) (.int .i64 out) (.int .i64 start) (.int .i64 fin) k TT trips qn cT V HQN.out hcT (HLM5.out.below HI.out.2.1).kt
        rw [show useP trips k qn = useC ⟨cap, inn, out, start, fin, trips⟩ k from by unfold useC; rw [HQN.out]] at TC
        clear XC6 XI6
        generalize lev ⟨cap, inn, out, start, fin, trips⟩ xr yr k = LV at *
        gi_wp2
        refine ⟨trivial, CallsIn.inRound _ (callsIn_wide.2 (TC.mono ?_))⟩
        rintro e V2 ⟨rfl, hb2⟩
        have HI2 := Lib.hid (And.intro (HS8.out _ _ HI.out.1 hb2) (HI.out.2.1.trans (hb2.mono HI.out.2.1.size)))
        have HMV := Lib.hid ((HMK5.out.below HI.out.2.1).below hb2)
        have HKV : Hid (KeepsFrom w5.heap.size V V2) := Lib.hid (KeepsFrom.of_grownBy (grown_below hb2) (fun j e => by cases e))
        clear e0 e1 e2 e3 e4 e5 n0 hb2 TC
        have XC6 := XC5.out.below HI2.out.2 XC5.out.lt
        have XI6 := XI5.out.below HI2.out.2 XI5.out.lt
        have e0 := XC6.cell 0 rfl
        have i0 := XI6.cell 0 rfl
        have ilt := XI6.lt
        have M := HJ.out _ HI2.out.1.1
        have t1 := M.kt.cell 1 rfl
        obtain ⟨qa2, hqa, qal, QT2, cQT2, q0, qb2, qi⟩ := M.ht.2 i (by rw [← HH.out.hq, HV2.out]; exact hlt)
        cases hqa
        rw [HYR.out, ← HLX.out.2] at q0 qb2
        rw [HYR.out] at qi
        obtain ⟨qd, rfl, qdl, qx⟩ := qi k (by rw [← HLX.out.2]; exact hkn)
        clear M qi XC6 XI6
        generalize yr.getD k 0 = yk at *
        generalize useC ⟨cap, inn, out, start, fin, trips⟩ k = us at *
        generalize awayP trips k qn = aw at *
        have hmx := fun ts t W => maxTwo us yk ts t W
        generalize max us yk = mx at *
        gi_upto_region 33 with fail
        clear t1 q0 qx i0 ilt hmx
        have y0 := HI2.out.1.2.1.cell 0 rfl
        obtain ⟨fn, tm, asg, bo, hy, hR⟩ := HY.out 19 V2 HI2.out.1.1
        by_cases d1 : LV < mx
        · have HPX := Lib.hid (HBAD.out (fun h => by have := h.1; rw [HLS.out] at this; omega))
          gi_wp2
          refine (round_any hR).mono ?_
          rintro e V4 ⟨hk4, rfl, hx⟩
          have HX := Lib.hid hx
          have HM4 := Lib.hid (HMV.out.keep hk4)
          have HK4 : Hid (KeepsFrom w5.heap.size V V4) := Lib.hid (HKV.out.trans ⟨hk4.size, fun k o h => hk4.same k o (Nat.le_trans HX5.out.2.2.2 h)⟩)
          clear hx hk4
          gi_wp2
          exact (⟨rfl, HK4.out, HX.out, HPX.out, HM4.out⟩ : _ ∧ _ ∧ _ ∧ _ ∧ _)
        by_cases d2 : cap < LV
        · have HPX := Lib.hid (HBAD.out (fun h => by have := h.2; (try simp only at this); omega))
          gi_wp2
          refine (round_any hR).mono ?_
          rintro e V4 ⟨hk4, rfl, hx⟩
          have HX := Lib.hid hx
          have HM4 := Lib.hid (HMV.out.keep hk4)
          have HK4 : Hid (KeepsFrom w5.heap.size V V4) := Lib.hid (HKV.out.trans ⟨hk4.size, fun k o h => hk4.same k o (Nat.le_trans HX5.out.2.2.2 h)⟩)
          clear hx hk4
          gi_wp2
          exact (⟨rfl, HK4.out, HX.out, HPX.out, HM4.out⟩ : _ ∧ _ ∧ _ ∧ _ ∧ _)
        have HGG := Lib.hid (HGOOD.out ⟨by rw [HLS.out]; omega, by (try simp only); omega⟩)
        clear hy hR
        gi_wp2
        refine ⟨fun _ h => (by cases h), ?_⟩
        gi_wp2
        refine (⟨HKV.out, HI2.out.1, HI2.out.2, fun j hj => ?_⟩ : _ ∧ _ ∧ _ ∧ _)
        by_cases hjk : j < k
        · exact HI.out.2.2 j (by rw [hpre]; exact hjk)
        · obtain rfl : j = k := by rw [List.length_append, hpre] at hj; simp at hj; omega
          exact HGG.out
      · obtain rfl : n = k := by omega
        have hki : ¬ (n : Int) < (n : Int) := by omega
        have HLS : Hid (least ⟨cap, inn, out, start, fin, trips⟩ yr n n = fin) := Lib.hid (by unfold least; rw [if_neg (by omega)])
        have HI2 := Lib.hid (And.intro HI.out.1 HI.out.2.1)
        have HMV := Lib.hid (HMK5.out.below HI.out.2.1)
        have HKV : Hid (KeepsFrom w5.heap.size V V) := Lib.hid (KeepsFrom.refl _ _)
        clear XC6 XI6
        generalize lev ⟨cap, inn, out, start, fin, trips⟩ xr yr n = LV at *
        gi_upto_region 33 with fail
        have y0 := HI2.out.1.2.1.cell 0 rfl
        obtain ⟨fn, tm, asg, bo, hy, hR⟩ := HY.out 19 V HI2.out.1.1
        by_cases d1 : LV < fin
        · have HPX := Lib.hid (HBAD.out (fun h => by have := h.1; rw [HLS.out] at this; omega))
          gi_wp2
          refine (round_any hR).mono ?_
          rintro e V4 ⟨hk4, rfl, hx⟩
          have HX := Lib.hid hx
          have HM4 := Lib.hid (HMV.out.keep hk4)
          have HK4 : Hid (KeepsFrom w5.heap.size V V4) := Lib.hid (HKV.out.trans ⟨hk4.size, fun k o h => hk4.same k o (Nat.le_trans HX5.out.2.2.2 h)⟩)
          clear hx hk4
          gi_wp2
          exact (⟨rfl, HK4.out, HX.out, HPX.out, HM4.out⟩ : _ ∧ _ ∧ _ ∧ _ ∧ _)
        by_cases d2 : cap < LV
        · have HPX := Lib.hid (HBAD.out (fun h => by have := h.2; (try simp only at this); omega))
          gi_wp2
          refine (round_any hR).mono ?_
          rintro e V4 ⟨hk4, rfl, hx⟩
          have HX := Lib.hid hx
          have HM4 := Lib.hid (HMV.out.keep hk4)
          have HK4 : Hid (KeepsFrom w5.heap.size V V4) := Lib.hid (HKV.out.trans ⟨hk4.size, fun k o h => hk4.same k o (Nat.le_trans HX5.out.2.2.2 h)⟩)
          clear hx hk4
          gi_wp2
          exact (⟨rfl, HK4.out, HX.out, HPX.out, HM4.out⟩ : _ ∧ _ ∧ _ ∧ _ ∧ _)
        have HGG := Lib.hid (HGOOD.out ⟨by rw [HLS.out]; omega, by (try simp only); omega⟩)
        clear hy hR
        gi_wp2
        refine ⟨fun _ h => (by cases h), ?_⟩
        gi_wp2
        refine (⟨HKV.out, HI2.out.1, HI2.out.2, fun j hj => ?_⟩ : _ ∧ _ ∧ _ ∧ _)
        by_cases hjk : j < n
        · exact HI.out.2.2 j (by rw [hpre]; exact hjk)
        · obtain rfl : j = n := by rw [List.length_append, hpre] at hj; simp at hj; omega
          exact HGG.out
    case done =>
      rintro D ys V hD hys hI hK
      have HI := Lib.hid hI
      have HK := Lib.hid hK
      have HMK6 := Lib.hid (Marks.cons HMK5.out hD (Nat.le_trans HX5.out.2.2.2 hD) (HMK5.out.below HI.out.2.1) HK.out)
      have HGO := Lib.hid (HNXT.out (fun k hk => HI.out.2.2 k (by rw [hys]; omega)))
      clear hI hK
      gi_wp2
      refine ⟨?_, by simp [intOf]; omega⟩
      (repeat apply Exists.intro)
      refine ⟨⟨i + 1, rfl, by omega, HMK6.out, HI.out.1, HGO.out⟩, rfl⟩
    case stop =>
      rintro D pre V hD _ hI hK
      have HMK6 := Lib.hid (Marks.cons HMK5.out hD (Nat.le_trans HX5.out.2.2.2 hD) hI.2.2 hK)
      have HI := Lib.hid hI
      clear hI hK
      gi_wp2
      exact leaves_marks (by simp) (HJXO.out 19) (fun V2 h => end104 _ (fun v => ⟨⟨_, rfl⟩, .inr ⟨by rw [HI.out.2.1]; omega, by rw [HI.out.2.1]; exact h⟩⟩)) HMK6.out HI.out.1
  · obtain rfl : m = i := by omega
    have HPZ := Lib.hid (plE_good HH.out.ok HL.out (fun j hj => HSL.out j (by rw [HH.out.hn]; exact hj)) (fun x hx k hk => by rw [← HH.out.hn] at hk ⊢; exact HW.out.2.2 x (by rw [HH.out.hm]; exact hx) k hk))
    gi_wp2
    exact leaves_marks (by simp) HJO.out (fun V2 h => end104 _ (fun v => ⟨⟨_, rfl⟩, .inl ⟨HPZ.out, h⟩⟩)) HW.out.1 HW.out.2.1.1
end Go.Proofs.Ytmebpglkeedaoaa
namespace Go.Proofs.Ytmebpglkeedaoaa
open Go.RowKit Go.Shelf Dp
attribute [local go_sem] Oper.semAt_some
theorem wpIn_codeP {F : Fence} {n : Nat} {P : Program} {c c' : Code} {Q : Exit → Act → World → Prop} {a : Act} {W : World} (h : c = c') (hw : c'.wpIn F n P Q a W) : c.wpIn F n P Q a W := h ▸ hw
@[go_sem] theorem ix162_a (A B : Option Addr) (n m c d : Nat) (w : World) : (Instr.index 162 (.agg #[.slice A n c, .slice B m d]) (.int .i64 0)).run Try.prog w = .ok (.slice A n c) w := by kernel_rfl
@[go_sem] theorem ix162_b (A B : Option Addr) (n m c d : Nat) (w : World) : (Instr.index 162 (.agg #[.slice A n c, .slice B m d]) (.int .i64 1)).run Try.prog w = .ok (.slice B m d) w := by kernel_rfl
set_option maxHeartbeats 8000000 in
set_option maxRecDepth 100000 in
theorem faults1_c (bs bt bc : Nat) (S : Site) (cs : List Car) (T : Tab) (A B C D E P Q : Option Addr) (n m p q cA cB cC cD cE cP cQ l D0 : Nat) (hH : FtH S cs T n m p q cA cB cC cD cE cP cQ)
    (J : World → Prop) (Jx : Int → World → Prop) (hJ : ∀ W, J W → FtM bs bt bc S cs T A B C D E P Q n m p q cA cB cC cD cE cP cQ W) (hJo : OwnFrom D0 (fun (_ : Unit) W => J W)) (hJxo : ∀ e, OwnFrom D0 (fun (_ : Unit) W => Jx e W))
    (hY : ∀ e W1, J W1 → YieldAt Fence.wide 1 Try.prog l #[.int .i64 e] W1 fun e' W' => KeepsFrom D0 W1 W' ∧ e' = .returned (.bool false) ∧ Jx e W')
    (W : World) (hD : D0 ≤ W.heap.size) (hj : J W) :
    CallsIn Fence.wide 2 Try.prog 104 #[.func (.yield l) #[] #[], .pointer (some ⟨bs, 0, none⟩), .pointer (some ⟨bt, 0, none⟩), .pointer (some ⟨bc, 0, none⟩)] W fun e W' => (∃ v, e = .returned v) ∧ ((plE S cs T = 0 ∧ J W') ∨ (plE S cs T ≠ 0 ∧ Jx (plE S cs T) W')) := by
  refine callsIn_of_wp_marks Try.func104 rfl trivial ?_ rfl
  simp only [Try.ntmps104, List.size_toArray, List.length_cons, List.length_nil, Nat.reduceAdd, Nat.reduceSub, Array.replicate_succ, Array.replicate_zero, List.push_toArray, List.append_toArray, List.nil_append, List.cons_append]
  have HH := Lib.hid hH
  have HJ := Lib.hid hJ
  have HJO := Lib.hid hJo
  have HJXO := Lib.hid hJxo
  have HJB : Hid (∀ W W', J W → Below W.heap.size W W' → J W') := Lib.hid (fun W W' h hb => hJo () W W' none h (grown_below hb) (fun r e => by cases e))
  have HY := Lib.hid hY
  have HEND : Hid (∀ (e : Int) (W' : World) (tmps : Array Value), plE S cs T = e → e ≠ 0 → Jx e W' → LeavesInM Fence.wide 2 Try.prog Try.f104 tmps (fun e W' => (∃ v, e = .returned v) ∧ ((plE S cs T = 0 ∧ J W') ∨ (plE S cs T ≠ 0 ∧ Jx (plE S cs T) W'))) [] .returning W') := Lib.hid (fun e W' tmps h h0 hx => end104 _ fun v => ⟨⟨_, rfl⟩, .inr ⟨by rw [h]; exact h0, by rw [h]; exact hx⟩⟩)
  have ea := hH.ha
  have eb := hH.hb
  have ee := hH.he
  have ep := hH.hx
  have eq := hH.hy
  have HN8 : Hid (m ≤ 8 ∧ n ≤ 48) := Lib.hid (by
    have h := stE_0 hH.ok
    have h1 := siteHead_iff.1 h.2.1
    have h2 := hH.hm
    have h3 := hH.hn
    omega)
  have HB0 := (Below.refl W.heap.size W).alloc (Nat.le_refl _) (.cells #[.func (.yield l) #[] #[]] 161)
  have X4 := Lib.hid (Blk.new' W #[.func (.yield l) #[] #[]] 161)
  have HJ1 := Lib.hid (HJB.out _ _ hj HB0)
  have HD1 : Hid (D0 ≤ W.heap.size) := Lib.hid hD
  clear hJ hJo hJxo hY hj HB0 hH hD
  gi_upto_region 1 with fail
  generalize W.alloc (.cells #[.func (.yield l) #[] #[]] 161) = W1 at X4 HJ1 ⊢
  generalize W.heap.size = b4 at *
  have M0 := HJ.out _ HJ1.out
  have s0 := M0.ks.cell 0 rfl
  have sl := M0.ks.lt
  have X4b := Lib.hid (X4.out.alloc (.cells #[.int .i64 n] 3))
  have X5 := Lib.hid (Blk.new' W1 #[.int .i64 n] 3)
  have HJ2 := Lib.hid (HJB.out _ _ HJ1.out ((Below.refl W1.heap.size W1).alloc (Nat.le_refl _) (.cells #[.int .i64 n] 3)))
  have HB5 : Hid (b4 < W1.heap.size) := Lib.hid X4.out.lt
  clear M0
  gi_upto_region 2 with fail
  generalize W1.alloc (.cells #[.int .i64 n] 3) = W2 at X4b X5 HJ2 ⊢
  generalize W1.heap.size = b5 at *
  clear s0 sl X4 HJ1
  have M1 := HJ.out _ HJ2.out
  have t0 := M1.kt.cell 0 rfl
  have t1 := M1.kt.cell 1 rfl
  have k0 := M1.kc.cell 0 rfl
  have n0 := X5.out.cell 0 rfl
  have y0 := X4b.out.cell 0 rfl
  have CC1 := ContainsFunc_c P T.inn p cP n b5 W2 HH.out.hp ep M1.ht.1 n0
  have CC2 := ContainsFunc_c Q T.out q cQ n b5 W2 HH.out.hq eq M1.ht.2 n0
  obtain ⟨fn, tm, asg, bo, hy, hR⟩ := HY.out 20 W2 HJ2.out
  clear M1
  have HA1 : Hid (lenG cs.length S.lim.length T.inn = (decide (p = m) && allB p (fun i => decide ((T.inn.getD i []).length = n)))) := Lib.hid (by rw [lenG, ← HH.out.hp, ← HH.out.hm, ← HH.out.hn])
  have HA2 : Hid (lenG cs.length S.lim.length T.out = (decide (q = m) && allB q (fun i => decide ((T.out.getD i []).length = n)))) := Lib.hid (by rw [lenG, ← HH.out.hq, ← HH.out.hm, ← HH.out.hn])
  generalize allB p (fun i => decide ((T.inn.getD i []).length = n)) = v1 at *
  generalize allB q (fun i => decide ((T.out.getD i []).length = n)) = v2 at *
  gi_wp2
  clear t0 t1
  refine wpIn_loop_rounds 3 ?_
  rw [roundsIn_succ]
  have HALL : Hid (v1 = true → v2 = true → p = m → q = m → (lenG cs.length S.lim.length T.inn && lenG cs.length S.lim.length T.out) = true) := Lib.hid (fun a b c d => by rw [HA1.out, HA2.out, a, b, decide_eq_true c, decide_eq_true d]; rfl)
  have HNO1 : Hid ((p = m → v1 = false) → plE S cs T = 20) := Lib.hid (fun h => plE_len HH.out.ok (by
    rw [HA1.out]
    by_cases e : p = m
    · rw [h e]; simp
    · rw [decide_eq_false e]; simp))
  have HNO2 : Hid ((q = m → v2 = false) → plE S cs T = 20) := Lib.hid (fun h => plE_len HH.out.ok (by
    rw [HA2.out]
    by_cases e : q = m
    · rw [h e]; simp
    · rw [decide_eq_false e]; simp))
  have FIN : Hid (∀ (e : Int) (tm0 : Array Value) (W' : World), plE S cs T = e → e ≠ 0 → Jx e W' → LeavesInM Fence.wide 2 Try.prog Try.f104 tm0 (fun e W' => (∃ v, e = .returned v) ∧ ((plE S cs T = 0 ∧ J W') ∨ (plE S cs T ≠ 0 ∧ Jx (plE S cs T) W'))) [] .returning W') := Lib.hid (fun e tm0 W' h1 h2 h3 => HEND.out e W' tm0 h1 h2 h3)
  by_cases hpm : p = m
  · have hpb : ((p : Int) != (m : Int)) = false := by simp [hpm]
    have hpi : (p : Int) = (m : Int) := by omega
    cases v1
    · have HPE := Lib.hid (HNO1.out (fun _ => rfl))
      rw [show (!false) = true from rfl] at CC1
      clear hpm
      gi_wp2
      refine ⟨trivial, callsIn_wide.2 (CC1.mono ?_)⟩
      rintro e W3 ⟨rfl, rfl⟩
      gi_wp2
      refine hR.mono ?_
      rintro e W4 ⟨_, rfl, hx⟩
      have HX := Lib.hid hx
      clear hx
      gi_wp2
      exact FIN.out 20 _ _ HPE.out (by omega) HX.out
    · rw [show (!true) = false from rfl] at CC1
      have HV1 := Lib.hid hpm
      clear hpm
      gi_wp2
      refine ⟨trivial, callsIn_wide.2 (CC1.mono ?_)⟩
      rintro e W3 ⟨rfl, rfl⟩
      clear hpb hpi CC1
      gi_wp2
      rw [roundsIn_succ]
      by_cases hqm : q = m
      · have hqb : ((q : Int) != (m : Int)) = false := by simp [hqm]
        have hqi : (q : Int) = (m : Int) := by omega
        have HV2 := Lib.hid hqm
        clear hqm
        cases v2
        · have HPE := Lib.hid (HNO2.out (fun _ => rfl))
          rw [show (!false) = true from rfl] at CC2
          gi_wp2
          refine ⟨trivial, callsIn_wide.2 (CC2.mono ?_)⟩
          rintro e W3 ⟨rfl, rfl⟩
          gi_wp2
          refine hR.mono ?_
          rintro e W4 ⟨_, rfl, hx⟩
          have HX := Lib.hid hx
          clear hx
          gi_wp2
          exact FIN.out 20 _ _ HPE.out (by omega) HX.out
        · rw [show (!true) = false from rfl] at CC2
          gi_wp2
          refine ⟨trivial, callsIn_wide.2 (CC2.mono ?_)⟩
          rintro e W3 ⟨rfl, rfl⟩
          clear hqb hqi CC2
          have HL := Lib.hid (HALL.out (by simp) (by simp) HV1.out HV2.out)
          clear HALL HNO1 HNO2 HA1 HA2 hy hR
          gi_wp2
          rw [roundsIn_succ]
          gi_wp2
          have HS8 : Hid (∀ V V' : World, (J V ∧ Blk V b4 161 [.func (.yield l) #[] #[]] ∧ Blk V b5 3 [.int .i64 n] ∧ D0 ≤ V.heap.size) → Below V.heap.size V V' → (J V' ∧ Blk V' b4 161 [.func (.yield l) #[] #[]] ∧ Blk V' b5 3 [.int .i64 n] ∧ D0 ≤ V'.heap.size)) := Lib.hid (fun V V' h hb => ⟨HJB.out _ _ h.1 hb, h.2.1.below hb h.2.1.lt, h.2.2.1.below hb h.2.2.1.lt, Nat.le_trans h.2.2.2 hb.size⟩)
          have H0 : Hid (J W2 ∧ Blk W2 b4 161 [.func (.yield l) #[] #[]] ∧ Blk W2 b5 3 [.int .i64 n] ∧ D0 ≤ W2.heap.size) := Lib.hid ⟨HJ2.out, X4b.out, X5.out, by have := X4b.out.lt; have := HD1.out; omega⟩
          clear HJ2 X4b X5 k0 n0 y0
          gi_loopw [8, 9, 10, 11, 12, 13, 14, 15, 46] (fun _ _ _ _ _ _ _ _ iv wr => ∃ k : Nat, k ≤ n ∧ iv = .int .i64 k ∧ Hid ((J wr ∧ Blk wr b4 161 [.func (.yield l) #[] #[]] ∧ Blk wr b5 3 [.int .i64 n] ∧ D0 ≤ wr.heap.size) ∧ ∀ j, j < k → slotE S cs T j = 0)) (fun _ _ _ _ _ _ _ _ iv _ => n - (intOf iv).toNat)
          case atStart => exact ⟨0, Nat.zero_le _, rfl, Lib.hid ⟨H0.out, fun j hj => by omega⟩⟩
          case round =>
            obtain ⟨k, hk, rfl, HW⟩ := hrel
            by_cases hlt : k < n
            · have hki : (k : Int) < (n : Int) := by omega
              have M := HJ.out _ HW.out.1.1
              have k0 := M.kc.cell 0 rfl
              have kl := M.kc.lt
              clear M
              gi_wp2
              clear k0 kl
              gi_loopw [9, 10, 11, 12, 13, 14, 51] (fun _ _ _ _ _ _ iv wr => ∃ i : Nat, i ≤ m ∧ iv = .int .i64 i ∧ Hid ((J wr ∧ Blk wr b4 161 [.func (.yield l) #[] #[]] ∧ Blk wr b5 3 [.int .i64 n] ∧ D0 ≤ wr.heap.size) ∧ ∀ x, x < i → carAt cs T k x = true)) (fun _ _ _ _ _ _ iv _ => m - (intOf iv).toNat)
              case atStart => exact ⟨0, Nat.zero_le _, rfl, Lib.hid ⟨HW.out.1, fun j hj => by omega⟩⟩
              case round =>
                obtain ⟨i, hi, rfl, HI⟩ := hrel
                by_cases hlt2 : i < m
                · have hii : (i : Int) < (m : Int) := by omega
                  have M := HJ.out _ HI.out.1.1
                  have il : i < cs.length := by rw [← HH.out.hm]; exact hlt2
                  obtain ⟨ad, rfl, abl, c0, c1, c2, c3, c4, TT, cT, c5, hcT, HTT⟩ := M.hc i il
                  have HTR := Lib.hid HTT
                  have HCOK := Lib.hid ((stE_0 HH.out.ok).2.2.2 i il)
                  clear HTT M
                  have HCA := Lib.hid (show carAt cs T k i = carG (cs.getD i default) ((T.inn.getD i []).getD k 0) ((T.out.getD i []).getD k 0) (awayC (cs.getD i default) k) from rfl)
                  have HNXT : Hid (carAt cs T k i = true → ∀ x, x < i + 1 → carAt cs T k x = true) := Lib.hid (fun h x hx => by
                    by_cases hxi : x < i
                    · exact HI.out.2 x hxi
                    · obtain rfl : x = i := by omega
                      exact h)
                  have HPE : Hid (carAt cs T k i = false → plE S cs T = 3) := Lib.hid (fun h => plE_slot HH.out.ok HL.out (by rw [← HH.out.hn]; exact hlt) HW.out.2 (slotE_car il h) (by omega))
                  rw [HCA.out] at HNXT HPE
                  clear HCA
                  generalize cs.getD i default = c at *
                  obtain ⟨cap, inn, out, start, fin, trips⟩ := c
                  simp only at c0 c1 c2 c3 c4 c5 hcT HTR HNXT HPE HCOK
                  obtain ⟨qn, hqn⟩ : ∃ qn, qn = trips.length := ⟨_, rfl⟩
                  rw [← hqn] at c5 hcT
                  have HQN := Lib.hid hqn
                  have HAW := Lib.hid (show awayC ⟨cap, inn, out, start, fin, trips⟩ k = awayP trips k qn from by rw [hqn]; rfl)
                  clear hqn
                  gi_upto_region 14 with fail
                  have HY0 := Lib.hid (HS8.out _ _ HI.out.1 ((Below.refl wr.heap.size wr).alloc (Nat.le_refl _) (.cells #[.int .i64 cap, .int .i64 inn, .int .i64 out, .int .i64 start, .int .i64 fin, .slice TT qn cT] 63)))
                  have XC := Lib.hid (Blk.new' wr #[.int .i64 cap, .int .i64 inn, .int .i64 out, .int .i64 start, .int .i64 fin, .slice TT qn cT] 63)
                  have HTR2 := Lib.hid (HTR.out.below ((Below.refl wr.heap.size wr).alloc (Nat.le_refl _) (.cells #[.int .i64 cap, .int .i64 inn, .int .i64 out, .int .i64 start, .int .i64 fin, .slice TT qn cT] 63)) (Nat.le_refl _))
                  generalize wr.alloc (.cells #[.int .i64 cap, .int .i64 inn, .int .i64 out, .int .i64 start, .int .i64 fin, .slice TT qn cT] 63) = wx at HY0 XC HTR2 ⊢
                  generalize wr.heap.size = gc at *
                  clear c0 c1 c2 c3 c4 c5 abl HTR
                  have M := HJ.out _ HY0.out.1
                  have t0 := M.kt.cell 0 rfl
                  have t1 := M.kt.cell 1 rfl
                  have tl := M.kt.lt
                  obtain ⟨pa, rfl, pal, PT, cPT, p0, pb, pi⟩ := M.ht.1 i (by rw [← HH.out.hp, HV1.out]; exact hlt2)
                  obtain ⟨qa, rfl, qal, QT, cQT, q0, qb, qi⟩ := M.ht.2 i (by rw [← HH.out.hq, HV2.out]; exact hlt2)
                  have LL := HL.out
                  rw [Bool.and_eq_true] at LL
                  have L1 := (lenG_iff.1 LL.1).2 i il
                  have L2 := (lenG_iff.1 LL.2).2 i il
                  obtain ⟨pd, rfl, pdl, px⟩ := pi k (by rw [L1, ← HH.out.hn]; exact hlt)
                  obtain ⟨qd, rfl, qdl, qx⟩ := qi k (by rw [L2, ← HH.out.hn]; exact hlt)
                  rw [L1, ← HH.out.hn] at p0 pb
                  rw [L2, ← HH.out.hn] at q0 qb
                  clear pi qi LL L1 L2 M
                  have hip : (i : Int) < (p : Int) := by have := HV1.out; omega
                  have hiq : (i : Int) < (q : Int) := by have := HV2.out; omega
                  have pab : (pa.add i).block < wx.heap.size := by rw [block_add]; exact pal
                  have qab : (qa.add i).block < wx.heap.size := by rw [block_add]; exact qal
                  have pdb : (pd.add k).block < wx.heap.size := by rw [block_add]; exact pdl
                  have qdb : (qd.add k).block < wx.heap.size := by rw [block_add]; exact qdl
                  generalize (T.inn.getD i []).getD k 0 = x at *
                  generalize (T.out.getD i []).getD k 0 = y at *
                  refine wpIn_wide.2 ?_
                  refine wp_region_past (by kernel_rfl) (by kernel_rfl) ?_
                  repeat (go_big_quiet_step (fail))
                  refine wpQuiet_nil ?_
                  intro xx
                  have HY1 := Lib.hid (HS8.out _ _ HY0.out xx.far)
                  have XC1 := Lib.hid (XC.out.below xx.far XC.out.lt)
                  have HTR3 := Lib.hid (HTR2.out.below xx.far (Nat.le_refl _))
                  generalize xx.w = w3 at HY1 XC1 HTR3 ⊢
                  clear t0 t1 tl p0 q0 px qx pal qal pdl qdl pab qab pdb qdb HY0 XC HTR2
                  have e0 := XC1.out.cell 0 rfl
                  have e1 := XC1.out.cell 1 rfl
                  have e2 := XC1.out.cell 2 rfl
                  have e3 := XC1.out.cell 3 rfl
                  have e4 := XC1.out.cell 4 rfl
                  have e5 := XC1.out.cell 5 rfl
                  have TC := trip_c (.int .i64 cap) (.int .i64 inn) (.int .i64 out) (.int .i64 start) (.int .i64 fin) k TT trips qn cT w3 HQN.out hcT HTR3.out
                  gi_wp2
                  refine ⟨trivial, callsIn_wide.2 (TC.mono ?_)⟩
                  rintro e w5 ⟨rfl, hb5⟩
                  have HY2 := Lib.hid (HS8.out _ _ HY1.out hb5)
                  have XC2 := Lib.hid (XC1.out.below hb5 XC1.out.lt)
                  clear e0 e1 e2 e3 e4 e5 hb5 HY1 XC1 HTR3 TC
                  generalize awayP trips k qn = aw at *
                  generalize useP trips k qn = us at *
                  gi_upto_region 16 with fail
                  have e1 := XC2.out.cell 1 rfl
                  have e2 := XC2.out.cell 2 rfl
                  have y0 := HY2.out.2.1.cell 0 rfl
                  rw [HAW.out] at HNXT HPE
                  obtain ⟨fn, tm, asg, bo, hy, hR⟩ := HY.out 3 w5 HY2.out.1
                  by_cases a1 : x < 0
                  · have HPX := Lib.hid (HPE.out (by rw [← Bool.not_eq_true, carG_iff]; simp only; omega))
                    gi_wp2
                    refine hR.mono ?_
                    rintro e W4 ⟨_, rfl, hx⟩
                    have HX := Lib.hid hx
                    clear hx
                    gi_wp2
                    exact FIN.out 3 _ _ HPX.out (by omega) HX.out
                  by_cases a2 : inn < x
                  · have HPX := Lib.hid (HPE.out (by rw [← Bool.not_eq_true, carG_iff]; simp only; omega))
                    gi_wp2
                    refine hR.mono ?_
                    rintro e W4 ⟨_, rfl, hx⟩
                    have HX := Lib.hid hx
                    clear hx
                    gi_wp2
                    exact FIN.out 3 _ _ HPX.out (by omega) HX.out
                  by_cases a3 : y < 0
                  · have HPX := Lib.hid (HPE.out (by rw [← Bool.not_eq_true, carG_iff]; simp only; omega))
                    gi_wp2
                    refine hR.mono ?_
                    rintro e W4 ⟨_, rfl, hx⟩
                    have HX := Lib.hid hx
                    clear hx
                    gi_wp2
                    exact FIN.out 3 _ _ HPX.out (by omega) HX.out
                  by_cases a4 : out < y
                  · have HPX := Lib.hid (HPE.out (by rw [← Bool.not_eq_true, carG_iff]; simp only; omega))
                    gi_wp2
                    refine hR.mono ?_
                    rintro e W4 ⟨_, rfl, hx⟩
                    have HX := Lib.hid hx
                    clear hx
                    gi_wp2
                    exact FIN.out 3 _ _ HPX.out (by omega) HX.out
                  have CB := (carOk_iff.1 HCOK.out).1
                  simp only at CB
                  have wxy : IntKind.i64.wrap (x + y) = x + y := IntWalk.i64_in _ (by omega)
                  clear CB
                  cases aw
                  · have HGG := Lib.hid (HNXT.out (by rw [carG_iff]; simp only; refine ⟨by omega, by omega, fun h => by cases h⟩))
                    clear hy hR
                    gi_wp2
                    exact ⟨⟨i + 1, by omega, by go_num, Lib.hid ⟨HY2.out, HGG.out⟩⟩, by simp [intOf]; omega⟩
                  · by_cases a5 : x + y = 0
                    · have HGG := Lib.hid (HNXT.out (by rw [carG_iff]; simp only; exact ⟨by omega, by omega, fun _ => a5⟩))
                      clear hy hR
                      gi_wp2
                      exact ⟨⟨i + 1, by omega, by go_num, Lib.hid ⟨HY2.out, HGG.out⟩⟩, by simp [intOf]; omega⟩
                    · have a5b : ((x + y) != 0) = true := by simpa using a5
                      have HPX := Lib.hid (HPE.out (by rw [← Bool.not_eq_true, carG_iff]; simp only; exact fun h => a5 (h.2.2 trivial)))
                      gi_wp2
                      refine hR.mono ?_
                      rintro e W4 ⟨_, rfl, hx⟩
                      have HX := Lib.hid hx
                      clear hx
                      gi_wp2
                      exact FIN.out 3 _ _ HPX.out (by omega) HX.out
                · obtain rfl : m = i := by omega
                  have M := HJ.out _ HI.out.1.1
                  have t0 := M.kt.cell 0 rfl
                  have t1 := M.kt.cell 1 rfl
                  have DC := drawn_c P Q T p q cP cQ k wr HH.out.hp HH.out.hq (by rw [HV1.out, HV2.out]; exact Nat.le_refl _) (by rw [HV1.out]; exact HN8.out.1) ep eq M.ht (by rw [HV1.out, HH.out.hm]; exact slot_bd HH.out.ok HL.out (by rw [← HH.out.hn]; exact hlt) (fun x hx => HI.out.2 x (by rw [HH.out.hm]; exact hx)))
                  clear M
                  gi_wp2
                  refine ⟨trivial, callsIn_wide.2 (DC.mono ?_)⟩
                  rintro e w6 ⟨rfl, hb6⟩
                  have HI2 := Lib.hid (HS8.out _ _ HI.out.1 hb6)
                  clear t0 t1 hb6 DC
                  have kS : k < S.lim.length := by rw [← HH.out.hn]; exact hlt
                  have HGD : Hid (drP T k p ≤ S.lim.getD k 0 ∧ -(S.exp.getD k 0) ≤ drP T k p → slotE S cs T k = 0) := Lib.hid (fun h => slotE_ok (fun x hx => HI.out.2 x (by rw [HH.out.hm]; exact hx)) (by rw [← HH.out.hp]; exact h))
                  have HBG : Hid (¬ (drP T k p ≤ S.lim.getD k 0 ∧ -(S.exp.getD k 0) ≤ drP T k p) → plE S cs T = 17) := Lib.hid (fun h => plE_slot HH.out.ok HL.out kS HW.out.2 (slotE_lim (fun x hx => HI.out.2 x (by rw [HH.out.hm]; exact hx)) (by rw [← HH.out.hp]; exact h)) (by omega))
                  have SB := slotOk_iff.1 ((stE_0 HH.out.ok).2.2.1 k kS)
                  have SH := siteHead_iff.1 (stE_0 HH.out.ok).2.1
                  have M := HJ.out _ HI2.out.1
                  have s0 := M.ks.cell 0 rfl
                  have s1 := M.ks.cell 1 rfl
                  obtain ⟨la, hla, lal, lx⟩ := M.hs.1 k kS
                  obtain ⟨ea2, hea2, eal, ex⟩ := M.hs.2.1 k (by rw [SH.2.1]; exact kS)
                  rw [hla] at s0
                  rw [hea2] at s1
                  clear M SH hla hea2
                  generalize drP T k p = d at *
                  generalize S.lim.getD k 0 = lm at *
                  generalize S.exp.getD k 0 = ep2 at *
                  have wne : IntKind.i64.wrap (-ep2) = -ep2 := IntWalk.i64_in _ (by omega)
                  clear SB
                  gi_upto_region 20 with fail
                  have y0 := HI2.out.2.1.cell 0 rfl
                  obtain ⟨fn, tm, asg, bo, hy, hR⟩ := HY.out 17 w6 HI2.out.1
                  by_cases b1 : lm < d
                  · have HPX := Lib.hid (HBG.out (fun h => by omega))
                    gi_wp2
                    refine hR.mono ?_
                    rintro e W4 ⟨_, rfl, hx⟩
                    have HX := Lib.hid hx
                    clear hx
                    gi_wp2
                    exact FIN.out 17 _ _ HPX.out (by omega) HX.out
                  by_cases b2 : d < -ep2
                  · have HPX := Lib.hid (HBG.out (fun h => by omega))
                    gi_wp2
                    refine hR.mono ?_
                    rintro e W4 ⟨_, rfl, hx⟩
                    have HX := Lib.hid hx
                    clear hx
                    gi_wp2
                    exact FIN.out 17 _ _ HPX.out (by omega) HX.out
                  have HGG := Lib.hid (HGD.out ⟨by omega, by omega⟩)
                  clear hy hR
                  gi_wp2
                  go_roundw
                  case measure => simp [intOf]; omega
                  case rel =>
                    refine ⟨k + 1, by omega, by go_num, Lib.hid ⟨HI2.out, fun j hj => ?_⟩⟩
                    by_cases hjk : j < k
                    · exact HW.out.2 j hjk
                    · obtain rfl : j = k := by omega
                      exact HGG.out
            · obtain rfl : n = k := by omega
              have M := HJ.out _ HW.out.1.1
              have k0 := M.kc.cell 0 rfl
              have kl := M.kc.lt
              clear M
              gi_wp2
              clear k0 kl
              refine wpIn_codeP (c' := loop104) (by kernel_rfl) ?_
              exact faults4_c bs bt bc b4 b5 S cs T A B C D E P Q n m p q cA cB cC cD cE cP cQ l D0 HH.out HV1.out HV2.out HL.out HW.out.2 J Jx HJ.out HJO.out HJXO.out HY.out wr HW.out.1
      · have hqi : ¬ (q : Int) = (m : Int) := by omega
        have hqb : ((q : Int) != (m : Int)) = true := by simpa using hqi
        have HPE := Lib.hid (HNO2.out (fun h => absurd h hqm))
        clear CC2 hqm
        gi_wp2
        refine ⟨trivial, ?_⟩
        gi_wp2
        refine hR.mono ?_
        rintro e W4 ⟨_, rfl, hx⟩
        have HX := Lib.hid hx
        clear hx
        gi_wp2
        exact FIN.out 20 _ _ HPE.out (by omega) HX.out
  · have hpi : ¬ (p : Int) = (m : Int) := by omega
    have hpb : ((p : Int) != (m : Int)) = true := by simpa using hpi
    have HPE := Lib.hid (HNO1.out (fun h => absurd h hpm))
    clear CC1 CC2 hpm
    gi_wp2
    refine ⟨trivial, ?_⟩
    gi_wp2
    refine hR.mono ?_
    rintro e W4 ⟨_, rfl, hx⟩
    have HX := Lib.hid hx
    clear hx
    gi_wp2
    exact FIN.out 20 _ _ HPE.out (by omega) HX.out
end Go.Proofs.Ytmebpglkeedaoaa
namespace Go.Proofs.Ytmebpglkeedaoaa
open Go.RowKit Go.Shelf Dp
attribute [local go_sem] Oper.semAt_some
theorem plE_site {S : Site} {cs : List Car} {T : Tab} (h : stE S cs ≠ 0) : plE S cs T = stE S cs := by unfold plE; rw [if_neg h]
set_option maxHeartbeats 8000000 in
set_option maxRecDepth 100000 in
theorem CheckPlan_c (A B C D E P Q : Option Addr) (S : Site) (cs : List Car) (T : Tab) (n nB nC nD m p q cA cB cC cD cE cP cQ : Nat) (w : World) (hn : n = S.lim.length) (hnB : nB = S.exp.length) (hnC : nC = S.buy.length) (hnD : nD = S.sell.length) (hm : m = cs.length) (hp : p = T.inn.length) (hq : q = T.out.length)
    (hA : n ≤ cA ∧ cA ≤ 9223372036854775807) (hB : nB ≤ cB ∧ cB ≤ 9223372036854775807) (hC : nC ≤ cC ∧ cC ≤ 9223372036854775807) (hD : nD ≤ cD ∧ cD ≤ 9223372036854775807) (hE : m ≤ cE ∧ cE ≤ 9223372036854775807) (hP : p ≤ cP ∧ cP ≤ 9223372036854775807) (hQ : q ≤ cQ ∧ cQ ≤ 9223372036854775807)
    (hS : SiteAt w A B C D S) (hcs : CarsAt w E cs) (hT : TabAt w P Q T) :
    Calls Try.prog 32 #[.agg #[.slice A n cA, .slice B nB cB, .slice C nC cC, .slice D nD cD], .slice E m cE, .agg #[.slice P p cP, .slice Q q cQ]] w fun e w' => e = .returned (.int .i64 (plE S cs T)) ∧ Below w.heap.size w w' := by
  have HN := Lib.hid hn
  have HNB := Lib.hid hnB
  have HNC := Lib.hid hnC
  have HND := Lib.hid hnD
  have HM := Lib.hid hm
  have HP := Lib.hid hp
  have HQ := Lib.hid hq
  have HS := Lib.hid hS
  have HCS := Lib.hid hcs
  have HT := Lib.hid hT
  clear hn hnB hnC hnD hm hp hq hS hcs hT
  refine (callsIn_wide (n := 3)).1 (callsIn_of_wp_marks Try.func32 rfl trivial (wpIn_wide.2 ?_) rfl)
  simp only [Try.ntmps32, List.size_toArray, List.length_cons, List.length_nil, Nat.reduceAdd, Nat.reduceSub, Array.replicate_succ, Array.replicate_zero, List.push_toArray, List.append_toArray, List.nil_append, List.cons_append]
  have HB := Lib.hid ((((Below.refl w.heap.size w).alloc (Nat.le_refl _) (.cells #[.slice A n cA, .slice B nB cB, .slice C nC cC, .slice D nD cD] 51)).alloc (by simp) (.cells #[.slice P p cP, .slice Q q cQ] 55)).alloc (by simp; omega) (.cells #[.int .i64 0] 29))
  have XS := Lib.hid (((Blk.new' w #[.slice A n cA, .slice B nB cB, .slice C nC cC, .slice D nD cD] 51).alloc (.cells #[.slice P p cP, .slice Q q cQ] 55)).alloc (.cells #[.int .i64 0] 29))
  have XT := Lib.hid (show Blk (((w.alloc (.cells #[.slice A n cA, .slice B nB cB, .slice C nC cC, .slice D nD cD] 51)).alloc (.cells #[.slice P p cP, .slice Q q cQ] 55)).alloc (.cells #[.int .i64 0] 29)) (w.heap.size + 1) 55 [.slice P p cP, .slice Q q cQ] from by
    simpa using (Blk.new' (w.alloc (.cells #[.slice A n cA, .slice B nB cB, .slice C nC cC, .slice D nD cD] 51)) #[.slice P p cP, .slice Q q cQ] 55).alloc (.cells #[.int .i64 0] 29))
  have XR := Lib.hid (show Blk (((w.alloc (.cells #[.slice A n cA, .slice B nB cB, .slice C nC cC, .slice D nD cD] 51)).alloc (.cells #[.slice P p cP, .slice Q q cQ] 55)).alloc (.cells #[.int .i64 0] 29)) (w.heap.size + 2) 29 [.int .i64 0] from by
    simpa [Nat.add_assoc] using Blk.new' ((w.alloc (.cells #[.slice A n cA, .slice B nB cB, .slice C nC cC, .slice D nD cD] 51)).alloc (.cells #[.slice P p cP, .slice Q q cQ] 55)) #[.int .i64 0] 29)
  go_upto_region 1 with fail
  simp only [World.size_alloc, Nat.add_assoc, Nat.reduceAdd]
  generalize ((w.alloc (.cells #[.slice A n cA, .slice B nB cB, .slice C nC cC, .slice D nD cD] 51)).alloc (.cells #[.slice P p cP, .slice Q q cQ] 55)).alloc (.cells #[.int .i64 0] 29) = w1 at HB XS XT XR ⊢
  have s0 := XS.out.cell 0 rfl
  have s1 := XS.out.cell 1 rfl
  have s2 := XS.out.cell 2 rfl
  have s3 := XS.out.cell 3 rfl
  have CS := CheckSite_c A B C D E S cs n nB nC nD m cA cB cC cD cE w1 HN.out HNB.out HNC.out HND.out HM.out hA hB hC hD hE (HS.out.below HB.out (Nat.le_refl _)) (HCS.out.below HB.out (Nat.le_refl _))
  have HPS := Lib.hid (plE_site (S := S) (cs := cs) (T := T))
  obtain ⟨v, hv⟩ : ∃ v, v = stE S cs := ⟨_, rfl⟩
  rw [← hv] at CS HPS
  have HV := Lib.hid hv
  clear hv
  go_upto_region 2 with (go_at_call 36; refine CS.mono ?_; rintro e w2 ⟨rfl, hb2⟩)
  have HB2 := Lib.hid (HB.out.trans (hb2.mono HB.out.size))
  have XS2 := Lib.hid (XS.out.below hb2 XS.out.lt)
  have XT2 := Lib.hid (XT.out.below hb2 XT.out.lt)
  have XR2 := Lib.hid (XR.out.below hb2 XR.out.lt)
  clear hb2 s0 s1 s2 s3 CS HB XS XT XR
  by_cases h0 : v = 0
  rotate_left
  · have hb0 : (v == 0) = false := by simpa using h0
    have HPV := Lib.hid (HPS.out h0)
    have r0 := XR2.out.cell 0 rfl
    have rf := XR2.out.free 0
    have XE := Lib.hid (XR2.out.setCell 0 (.int .i64 v))
    have BE := Lib.hid (HB2.out.setCell (p := ⟨w.heap.size + 2, 0, none⟩) (by simp) (.int .i64 v))
    go_wp2_with fail
    have c0 := XE.out.cell 0 rfl
    exact ⟨.int .i64 v, by simp [results, Try.results32, go_sem, c0], ret_int HPV.out.symm, BE.out⟩
  · subst h0
    clear HPS
    have s0 := XS2.out.cell 0 rfl
    have s1 := XS2.out.cell 1 rfl
    have s2 := XS2.out.cell 2 rfl
    have s3 := XS2.out.cell 3 rfl
    have t0 := XT2.out.cell 0 rfl
    have t1 := XT2.out.cell 1 rfl
    go_wp2_with fail
    refine (faults_c _ _ _ _ ⟨_, _, _, _, rfl⟩ ⟨_, _, _, rfl⟩ ⟨_, _, rfl⟩).mono ?_
    rintro e w4 ⟨rfl, hw4⟩
    have HB4 : Below w2.heap.size w2 w4 := by
      rw [hw4]
      exact (((Below.refl _ _).alloc (Nat.le_refl _) _).alloc (by simp) _).alloc (by simp; omega) _
    have KS : Blk w4 w2.heap.size 51 [.slice A n cA, .slice B nB cB, .slice C nC cC, .slice D nD cD] := by
      rw [hw4]; exact ((Blk.new' w2 #[.slice A n cA, .slice B nB cB, .slice C nC cC, .slice D nD cD] 51).alloc _).alloc _
    have KC : Blk w4 (w2.heap.size + 1) 52 [.slice E m cE] := by
      have := (Blk.new' (w2.alloc (.cells #[.slice A n cA, .slice B nB cB, .slice C nC cC, .slice D nD cD] 51)) #[.slice E m cE] 52).alloc (.cells #[.slice P p cP, .slice Q q cQ] 55)
      rw [hw4]; simpa using this
    have KT : Blk w4 (w2.heap.size + 2) 55 [.slice P p cP, .slice Q q cQ] := by
      have := Blk.new' ((w2.alloc (.cells #[.slice A n cA, .slice B nB cB, .slice C nC cC, .slice D nD cD] 51)).alloc (.cells #[.slice E m cE] 52)) #[.slice P p cP, .slice Q q cQ] 55
      rw [hw4]; simpa [Nat.add_assoc] using this
    have SH := siteHead_iff.1 (stE_0 HV.out.symm).2.1
    have eB : nB = n := by have h1 := HNB.out; have h2 := HN.out; omega
    have eC : nC = n := by have h1 := HNC.out; have h2 := HN.out; omega
    have eD : nD = n := by have h1 := HND.out; have h2 := HN.out; omega
    have HB5 := Lib.hid (HB2.out.trans (HB4.mono HB2.out.size))
    have XR5 := Lib.hid (XR2.out.below HB4 XR2.out.lt)
    have HFM : Hid (FtM w2.heap.size (w2.heap.size + 2) (w2.heap.size + 1) S cs T A B C D E P Q n m p q cA cB cC cD cE cP cQ w4) := Lib.hid ⟨by rw [eB, eC, eD] at KS; exact KS, KT, KC, HS.out.below HB5.out (Nat.le_refl _), HT.out.below HB5.out (Nat.le_refl _), HCS.out.below HB5.out (Nat.le_refl _)⟩
    have HFH : Hid (FtH S cs T n m p q cA cB cC cD cE cP cQ) := Lib.hid ⟨HN.out, HM.out, HP.out, HQ.out, HV.out.symm, hA, by rw [← eB]; exact hB, by rw [← eC]; exact hC, by rw [← eD]; exact hD, hE, hP, hQ⟩
    have hz4 : w.heap.size ≤ w4.heap.size := HB5.out.size
    have hr4 : w.heap.size + 2 < w4.heap.size := XR5.out.lt
    clear hw4 HB4 KS KC KT SH eB eC eD s0 s1 s2 s3 t0 t1 HB2 XS2 XT2 XR2
    generalize w2.heap.size = g at *
    go_wp2_with fail
    have HOWN : Hid (OwnFrom w4.heap.size (fun (_ : Unit) V => Below w.heap.size w V ∧ Blk V (w.heap.size + 2) 29 [.int .i64 (plE S cs T)])) := Lib.hid (by
      rintro _ V V' row ⟨h1, h2⟩ hg hr
      exact ⟨h1.grown hg h1.size (fun r e => Nat.le_trans hz4 (hr r e).1), blk_kept h2 hg hr⟩)
    refine (wpIn_wide (n := 3)).1 (range_mine3 (F := Fence.wide) (n := 3) rfl (by omega) (gf := 104) (lb := #[.pointer (some ⟨g, 0, none⟩), .pointer (some ⟨g + 2, 0, none⟩), .pointer (some ⟨g + 1, 0, none⟩)]) rfl trivial (fun _ _ => by kernel_rfl)
      (encs := fun y : Int => #[.int .i64 y]) (fun _ => rfl)
      (fun pre V => pre = [] ∧ Below w4.heap.size w4 V) (fun pre V => ∃ x, pre = [x] ∧ Below w.heap.size w V ∧ Blk V (w.heap.size + 2) 29 [.int .i64 x]) .ret
      (fun ys => ys = [] ∧ plE S cs T = 0) (fun pre => pre = [plE S cs T]) (fun pre y => True)
      ?hI ?hIx ⟨rfl, Below.refl _ _⟩ ?hseq ?a1 ?assign ?body ?done ?stop)
    case hI =>
      rintro pre V V' row ⟨h1, h2⟩ hg hr
      exact ⟨h1, h2.grown hg h2.size (fun r e => (hr r e).1)⟩
    case hIx =>
      rintro pre V V' row ⟨x, h1, h2, h3⟩ hg hr
      exact ⟨x, h1, h2.grown hg h2.size (fun r e => Nat.le_trans hz4 (hr r e).1), blk_kept h3 hg hr⟩
    case hseq =>
      intro l2 J2 Jx2 V hJ2 hO2 hOx2 hz2 hY2 hj2
      refine (faults1_c g (g + 2) (g + 1) S cs T A B C D E P Q n m p q cA cB cC cD cE cP cQ l2 V.heap.size HFH.out (fun W => J2 [] W) (fun x W => Jx2 [x] W) (fun W h => HFM.out.below (hJ2 [] W h).2) (fun _ W W' row h => hO2 [] W W' row h) (fun x _ W W' row h => hOx2 [x] W W' row h)
        (fun x W1 h => (hY2 [] x W1 h trivial).mono (fun e W' h2 => ⟨h2.1, ?_⟩)) V (Nat.le_refl _) hj2).mono ?_
      · rcases h2.2 with ⟨rfl, h3⟩ | ⟨rfl, h3⟩
        · have := (hJ2 _ _ h3).1
          cases this
        · exact ⟨rfl, h3⟩
      · rintro e W' ⟨hv, ⟨h3, h4⟩ | ⟨h3, h4⟩⟩
        · exact ⟨hv, .inl ⟨_, ⟨rfl, h3⟩, h4⟩⟩
        · exact ⟨hv, .inr ⟨_, rfl, h4⟩⟩
    case assign =>
      intro l2 y V K hK
      gi_wp2
      exact hK
    case body =>
      rintro l2 pre y V hI _
      have HI := Lib.hid hI
      clear hI
      have XV := Lib.hid (XR5.out.below HI.out.2 hr4)
      have rf := XV.out.free 0
      have r0 := XV.out.cell 0 rfl
      gi_wp2
      refine (⟨rfl, (KeepsOthers.setCell _ _ _).from _, ?_⟩ : _ ∧ _ ∧ _)
      exact ⟨y, by rw [HI.out.1]; rfl, ((HB5.out.trans (HI.out.2.mono hz4)).setCell (p := ⟨w.heap.size + 2, 0, none⟩) (by simp) _), XV.out.setCell 0 (.int .i64 y)⟩
    case done =>
      rintro Dk ys V hD ⟨hys, h0⟩ hI hK
      have HI := Lib.hid hI
      have XV := Lib.hid (XR5.out.below HI.out.2 hr4)
      have rf := XV.out.free 0
      have r0 := XV.out.cell 0 rfl
      have EE : Hid (Below w.heap.size w (V.setCell ⟨w.heap.size + 2, 0, none⟩ (.int .i64 0)) ∧ Blk (V.setCell ⟨w.heap.size + 2, 0, none⟩ (.int .i64 0)) (w.heap.size + 2) 29 [.int .i64 (plE S cs T)]) := Lib.hid ⟨((HB5.out.trans (HI.out.2.mono hz4)).setCell (p := ⟨w.heap.size + 2, 0, none⟩) (by simp) _), by rw [h0]; exact XV.out.setCell 0 (.int .i64 0)⟩
      have HMK : Hid (Marks w4.heap.size [markOf Dk] (V.setCell ⟨w.heap.size + 2, 0, none⟩ (.int .i64 0))) := Lib.hid (Marks.cons (W0 := w4) (Marks.nil _ _) hD hD (Marks.nil _ _) ((Below.heap_setCell _ _ _ _ (by simp; omega)).trans hK))
      clear hI hK
      gi_wp2
      go_wp2_with fail
      refine leaves_marks (u := .returning) (by intro h; cases h) HOWN.out (fun V2 h2 => ?_) HMK.out EE.out
      have c0 := h2.2.cell 0 rfl
      exact ⟨.int .i64 (plE S cs T), by simp [results, Try.results32, go_sem, c0], rfl, h2.1⟩
    case stop =>
      rintro Dk pre V hD hS ⟨x, h1, h2, h3⟩ hK
      rw [hS] at h1
      cases h1
      have HMK : Hid (Marks w4.heap.size [markOf Dk] V) := Lib.hid (Marks.cons (W0 := w4) (Marks.nil _ _) hD hD (Marks.nil _ _) hK)
      have EE := Lib.hid (And.intro h2 h3)
      clear h2 h3 hK
      gi_wp2
      refine leaves_marks (u := .returning) (by intro h; cases h) HOWN.out (fun V2 h2 => ?_) HMK.out EE.out
      have c0 := h2.2.cell 0 rfl
      exact ⟨.int .i64 (plE S cs T), by simp [results, Try.results32, go_sem, c0], rfl, h2.1⟩
end Go.Proofs.Ytmebpglkeedaoaa
namespace Go.Proofs.Ytmebpglkeedaoaa
open Go.RowKit Go.Shelf Dp
attribute [local go_sem] Oper.semAt_some
theorem info22 : (Try.prog.info? 22).map (fun i => (i.zero, i.size, i.bytes)) = some (some (.slice none 0 0), 1, 24) := by kernel_rfl
noncomputable def loop33 : Code := ((Try.f33.body.bind (blockOf 0)).getD .skip)
noncomputable def end33 : Code := ((Try.f33.body.bind (behind 0)).getD .skip)
def lvN (c : Car) (x y : List Int) (k : Nat) : List Int := (List.range k).map (fun j => lev c x y j)
theorem lvN_succ (c : Car) (x y : List Int) (k : Nat) : lvN c x y (k + 1) = lvN c x y k ++ [lev c x y k] := by simp [lvN, List.range_succ]
theorem lvN_len (c : Car) (x y : List Int) (k : Nat) : (lvN c x y k).length = k := by simp [lvN]
def RowsO (D : Nat) (w : World) (i n : Nat) (vs : List Value) (cs : List Car) (T : Tab) : Prop :=
  ∀ x, x < i → ∃ v, vs[x]? = some v ∧ w.ownsRow D 2 1 v (n + 1) ((lvN (cs.getD x default) (T.inn.getD x []) (T.out.getD x []) (n + 1)).map (.int .i64))
theorem ownV_below {w w' : World} {B e z n : Nat} {v : Value} {xs : List Value} (h : w.ownsRow B e z v n xs) (hb : Below w.heap.size w w') : w'.ownsRow B e z v n xs := by
  refine ⟨h.1, ?_⟩
  rcases h.2 with h2 | ⟨k, c, cur, hv, hb', hg, r⟩
  · exact .inl h2
  · exact .inr ⟨k, c, cur, hv, hb', (hb.block k (Array.getElem?_eq_some_iff.1 hg).1).trans hg, r⟩
theorem ownV_kept {w w' : World} {row : Option Nat} {D B e z n : Nat} {v : Value} {xs : List Value} (h : w.ownsRow B e z v n xs) (hg : w.grownBy w' row) (hr : ∀ r, row = some r → D ≤ r ∧ ∃ o : Obj, w.heap[r]? = some o ∧ o.isCells = false) : w'.ownsRow B e z v n xs := by
  refine ⟨h.1, ?_⟩
  rcases h.2 with h2 | ⟨k, c, cur, hv, hb', hgk, r⟩
  · exact .inl h2
  · refine .inr ⟨k, c, cur, hv, hb', (hg.block k (Array.getElem?_eq_some_iff.1 hgk).1 (fun e => ?_)).trans hgk, r⟩
    obtain ⟨o, ho, hc⟩ := (hr k e.symm).2
    rw [hgk] at ho
    cases ho
    cases hc
theorem ownV_other {w w' : World} {B B' e e' z z' n n' : Nat} {v v' : Value} {xs xs' : List Value} (h : w.ownsRow B e z v n xs) (h' : w.ownsRow B' e' z' v' n' xs') (hne : e ≠ e') (hg : w.grownBy w' v'.ownBlock) : w'.ownsRow B e z v n xs := by
  refine ⟨h.1, ?_⟩
  rcases h.2 with h2 | ⟨k, c, cur, hv, hb', hgk, r⟩
  · exact .inl h2
  · refine .inr ⟨k, c, cur, hv, hb', (hg.block k (Array.getElem?_eq_some_iff.1 hgk).1 (fun ek => ?_)).trans hgk, r⟩
    rcases h'.2 with ⟨h2, _⟩ | ⟨k', c', cur', hv', _, hgk', _⟩
    · rw [h2] at ek; cases ek
    · rw [hv'] at ek
      simp only [Value.ownBlock, Option.some.injEq] at ek
      subst ek
      rw [hgk] at hgk'
      cases hgk'
      exact hne rfl
theorem ownV_ne {w w' : World} {row : Option Nat} {B e z n : Nat} {v : Value} {xs : List Value} (h : w.ownsRow B e z v n xs) (hg : w.grownBy w' row) (hne : ∀ k, v.ownBlock = some k → some k ≠ row) : w'.ownsRow B e z v n xs := by
  refine ⟨h.1, ?_⟩
  rcases h.2 with h2 | ⟨k, c, cur, hv, hb', hgk, r⟩
  · exact .inl h2
  · exact .inr ⟨k, c, cur, hv, hb', (hg.block k (Array.getElem?_eq_some_iff.1 hgk).1 (hne k (by rw [hv]; rfl))).trans hgk, r⟩
theorem ownV_mono {w : World} {B B' e z n : Nat} {v : Value} {xs : List Value} (h : w.ownsRow B e z v n xs) (hb : B' ≤ B) : w.ownsRow B' e z v n xs := ⟨h.1, h.2.imp id (fun ⟨k, c, cur, hv, hb', r⟩ => ⟨k, c, cur, hv, Nat.le_trans hb hb', r⟩)⟩
def Rel33 (w0 : World) (n m : Nat) (cs : List Car) (T : Tab) (v9 v24 : Value) (ds : List Deferred) (w : World) : Prop :=
  ∃ i : Nat, v24 = .int .i64 i ∧ i ≤ m ∧ Marks w0.heap.size ds w ∧ Below w0.heap.size w0 w ∧ ∃ vs, w.ownsRow w0.heap.size 22 1 v9 i vs ∧ RowsO w0.heap.size w i n vs cs T
set_option maxHeartbeats 8000000 in
set_option maxRecDepth 100000 in
theorem levels33 (bt : Nat) (S : Site) (cs : List Car) (T : Tab) (E P Q : Option Addr) (n m p q cE cP cQ : Nat) (w0 : World) (hn : n = S.lim.length) (hm : m = cs.length) (hp : p = T.inn.length) (hq : q = T.out.length) (hE : m ≤ cE ∧ cE ≤ 9223372036854775807) (hP : p ≤ cP ∧ cP ≤ 9223372036854775807) (hQ : q ≤ cQ ∧ cQ ≤ 9223372036854775807)
    (hK : Keeps S cs T) (hT : TabAt w0 P Q T) (hC : CarsAt w0 E cs) (hB : Blk w0 bt 55 [.slice P p cP, .slice Q q cQ])
    {R : Ending → World → Prop} {K : Act → World → Prop} (hKK : ∀ a w', Code.wpIn Fence.wide 3 Try.prog end33 (bodyPostM Fence.wide 3 Try.prog Try.f33 R) a w' → K a w') {x0 x2 x3 x4 x6 x7 x8 x10 x11 x12 x13 x14 x15 x16 x17 x18 x19 x20 x21 x25 x26 x27 x28 x29 x30 x31 x32 x33 x34 x35 x36 x37 x38 x39 x40 x41 x42 x43 x44 x45 x46 x47 x48 x49 x50 x51 x52 : Value}
    (hR : ∀ (v : Value) (vs : List Value) (tm : Array Value) (ds : List Deferred) (w : World), Marks w0.heap.size ds w → Below w0.heap.size w0 w → w.ownsRow w0.heap.size 22 1 v m vs → RowsO w0.heap.size w m n vs cs T → tm.getD 6 undef = v → tm.getD 7 undef = .int .i64 0 → LeavesInM Fence.wide 3 Try.prog Try.f33 tm R ds .returning w) :
    Code.wpIn Fence.wide 3 Try.prog loop33 (Exit.inBlock 0 (Exit.then K (bodyPostM Fence.wide 3 Try.prog Try.f33 R))) { tmps := List.toArray (x0 :: (.slice E m cE : Value) :: x2 :: x3 :: x4 :: (.pointer (some ⟨bt, 0, none⟩) : Value) :: x6 :: x7 :: x8 :: (.slice none 0 0 : Value) :: x10 :: x11 :: x12 :: x13 :: x14 :: x15 :: x16 :: x17 :: x18 :: x19 :: x20 :: x21 :: (.slice E m cE : Value) :: (.int .i64 m : Value) :: (.int .i64 0 : Value) :: x25 :: x26 :: x27 :: x28 :: x29 :: x30 :: x31 :: x32 :: x33 :: x34 :: x35 :: x36 :: x37 :: x38 :: x39 :: x40 :: x41 :: x42 :: x43 :: x44 :: x45 :: x46 :: x47 :: x48 :: x49 :: x50 :: x51 :: x52 :: []), defers := [] } w0 := by
  have HN := Lib.hid hn
  have HM := Lib.hid hm
  have HP := Lib.hid hp
  have HQ := Lib.hid hq
  have HKP := Lib.hid hK
  have HT := Lib.hid hT
  have HC := Lib.hid hC
  have HB := Lib.hid hB
  have HR := Lib.hid hR
  have hpm : p = m := by rw [hp, hm, hK.li]
  have hqm : q = m := by rw [hq, hm, hK.lo]
  have HV1 := Lib.hid hpm
  have HV2 := Lib.hid hqm
  have H0 : Hid (Below w0.heap.size w0 w0) := Lib.hid (Below.refl _ _)
  obtain ⟨i2, h2i, h2z, h2s, h2b⟩ := info_parts info2
  obtain ⟨i22, h22i, h22z, h22s, h22b⟩ := info_parts info22
  clear hn hm hp hq hK hT hC hB hR hpm hqm
  conv => arg 4; whnf
  refine wpIn_loop (fun a w => ∃ u9 u10 u11 u12 u14 u24 u25 u26 u27 u28 u29 u30 u31 u32 u33 u34 u35 u36 u37 u38 u39 u40 u41 u42 u43 u44 u45 u46 u47 u48 u49 u50 u51 ds, (Rel33 w0 n m cs T u9 u24 ds w) ∧ a = { tmps := List.toArray (x0 :: (.slice E m cE : Value) :: x2 :: x3 :: x4 :: (.pointer (some ⟨bt, 0, none⟩) : Value) :: x6 :: x7 :: x8 :: u9 :: u10 :: u11 :: u12 :: x13 :: u14 :: x15 :: x16 :: x17 :: x18 :: x19 :: x20 :: x21 :: (.slice E m cE : Value) :: (.int .i64 m : Value) :: u24 :: u25 :: u26 :: u27 :: u28 :: u29 :: u30 :: u31 :: u32 :: u33 :: u34 :: u35 :: u36 :: u37 :: u38 :: u39 :: u40 :: u41 :: u42 :: u43 :: u44 :: u45 :: u46 :: u47 :: u48 :: u49 :: u50 :: u51 :: x52 :: []), defers := ds }) (fun a w => m - (intOf (a.tmps.getD 24 undef)).toNat) ?start ?round
  case start =>
    (repeat apply Exists.intro)
    refine ⟨⟨0, rfl, Nat.zero_le _, Marks.nil _ _, H0.out, [], World.ownsRow_nil _ _ _ _, fun x hx => by omega⟩, rfl⟩
  intro a w hinv
  obtain ⟨u9, hinv⟩ := hinv
  obtain ⟨u10, hinv⟩ := hinv
  obtain ⟨u11, hinv⟩ := hinv
  obtain ⟨u12, hinv⟩ := hinv
  obtain ⟨u14, hinv⟩ := hinv
  obtain ⟨u24, hinv⟩ := hinv
  obtain ⟨u25, hinv⟩ := hinv
  obtain ⟨u26, hinv⟩ := hinv
  obtain ⟨u27, hinv⟩ := hinv
  obtain ⟨u28, hinv⟩ := hinv
  obtain ⟨u29, hinv⟩ := hinv
  obtain ⟨u30, hinv⟩ := hinv
  obtain ⟨u31, hinv⟩ := hinv
  obtain ⟨u32, hinv⟩ := hinv
  obtain ⟨u33, hinv⟩ := hinv
  obtain ⟨u34, hinv⟩ := hinv
  obtain ⟨u35, hinv⟩ := hinv
  obtain ⟨u36, hinv⟩ := hinv
  obtain ⟨u37, hinv⟩ := hinv
  obtain ⟨u38, hinv⟩ := hinv
  obtain ⟨u39, hinv⟩ := hinv
  obtain ⟨u40, hinv⟩ := hinv
  obtain ⟨u41, hinv⟩ := hinv
  obtain ⟨u42, hinv⟩ := hinv
  obtain ⟨u43, hinv⟩ := hinv
  obtain ⟨u44, hinv⟩ := hinv
  obtain ⟨u45, hinv⟩ := hinv
  obtain ⟨u46, hinv⟩ := hinv
  obtain ⟨u47, hinv⟩ := hinv
  obtain ⟨u48, hinv⟩ := hinv
  obtain ⟨u49, hinv⟩ := hinv
  obtain ⟨u50, hinv⟩ := hinv
  obtain ⟨u51, hinv⟩ := hinv
  obtain ⟨ds, hinv⟩ := hinv
  obtain ⟨⟨i, rfl, hi, HMK, HST, vs, HO, HRO⟩, rfl⟩ := hinv
  have HW := Lib.hid (And.intro HMK (And.intro HST (And.intro HO HRO)))
  clear HMK HST HO HRO
  try dsimp only
  by_cases hlt : i < m
  · have hii : (i : Int) < (m : Int) := by omega
    have il : i < cs.length := by rw [← HM.out]; exact hlt
    obtain ⟨ad, rfl, abl, c0, c1, c2, c3, c4, TT, cT, c5, hcT, HTT⟩ := (HC.out.below HW.out.2.1 (Nat.le_refl _)) i il
    have HTR := Lib.hid HTT
    have HCOK := Lib.hid (HKP.out.carok il)
    clear HTT
    generalize hcc : cs.getD i default = c at *
    have HCC := Lib.hid hcc
    clear hcc
    obtain ⟨cap, inn, out, start, fin, trips⟩ := c
    simp only at c0 c1 c2 c3 c4 c5 hcT HTR HCOK
    obtain ⟨qn, hqn⟩ : ∃ qn, qn = trips.length := ⟨_, rfl⟩
    rw [← hqn] at c5 hcT
    have HQN := Lib.hid hqn
    clear hqn
    gi_upto_region 9 with fail
    have HBB := Lib.hid (((Below.refl w.heap.size w).alloc (Nat.le_refl _) (.cells #[.int .i64 cap, .int .i64 inn, .int .i64 out, .int .i64 start, .int .i64 fin, .slice TT qn cT] 63)).alloc (by simp) (.cells #[.slice none 0 0] 22))
    have XC := Lib.hid ((Blk.new' w #[.int .i64 cap, .int .i64 inn, .int .i64 out, .int .i64 start, .int .i64 fin, .slice TT qn cT] 63).alloc (.cells #[.slice none 0 0] 22))
    have XI := Lib.hid (show Blk ((w.alloc (.cells #[.int .i64 cap, .int .i64 inn, .int .i64 out, .int .i64 start, .int .i64 fin, .slice TT qn cT] 63)).alloc (.cells #[.slice none 0 0] 22)) (w.heap.size + 1) 22 [.slice none 0 0] from by simpa using Blk.new' (w.alloc (.cells #[.int .i64 cap, .int .i64 inn, .int .i64 out, .int .i64 start, .int .i64 fin, .slice TT qn cT] 63)) #[.slice none 0 0] 22)
    have hzw : w0.heap.size ≤ w.heap.size := HW.out.2.1.size
    obtain ⟨pa, rfl, pal, PT, cPT, p0, pb, pi⟩ := (HT.out.below HW.out.2.1 (Nat.le_refl _)).1 i (by rw [← HP.out, HV1.out]; exact hlt)
    obtain ⟨qa, rfl, qal, QT, cQT, q0, qb, qi⟩ := (HT.out.below HW.out.2.1 (Nat.le_refl _)).2 i (by rw [← HQ.out, HV2.out]; exact hlt)
    clear c0 c1 c2 c3 c4 c5 abl
    generalize (w.alloc (.cells #[.int .i64 cap, .int .i64 inn, .int .i64 out, .int .i64 start, .int .i64 fin, .slice TT qn cT] 63)).alloc (.cells #[.slice none 0 0] 22) = w2 at XI XC HBB ⊢
    obtain ⟨bi, hbi⟩ : ∃ bi, bi = w.heap.size := ⟨_, rfl⟩
    rw [← hbi] at XI XC HBB hzw pal qal ⊢
    have HBI := Lib.hid hbi
    clear hbi
    have L1 := HKP.out.ri i il
    have L2 := HKP.out.ro i il
    rw [L1, ← HN.out] at p0 pb
    rw [L2, ← HN.out] at q0 qb
    have N8 : n ≤ 48 := by
      have h := siteHead_iff.1 (stE_0 HKP.out.ok).2.1
      have h3 := HN.out
      omega
    have LGG : (lenG cs.length S.lim.length T.inn && lenG cs.length S.lim.length T.out) = true := by
      rw [Bool.and_eq_true]
      exact ⟨lenG_iff.2 ⟨HKP.out.li, HKP.out.ri⟩, lenG_iff.2 ⟨HKP.out.lo, HKP.out.ro⟩⟩
    have RB := row_bd HKP.out.ok LGG (fun k hk x hx => HKP.out.car k hk x hx) il
    rw [← HN.out] at RB HCOK
    have HLA := Lib.hid (lev_all N8 HCOK.out RB.1 RB.2)
    have HPI := Lib.hid (And.intro pi qi)
    have HLX := Lib.hid (And.intro (L1.trans HN.out.symm).symm (L2.trans HN.out.symm).symm)
    have HN48 := Lib.hid N8
    clear pi qi LGG L1 L2 RB N8
    have hip : (i : Int) < (p : Int) := by have := HV1.out; omega
    have hiq : (i : Int) < (q : Int) := by have := HV2.out; omega
    generalize hxr : T.inn.getD i [] = xr at *
    generalize hyr : T.out.getD i [] = yr at *
    have HXR := Lib.hid hxr
    have HYR := Lib.hid hyr
    clear hxr hyr
    have HP0 : Hid (∀ V, Below bi w V → (V.cell? (pa.add i) = some (.slice PT n cPT) ∧ (pa.add i).block < V.heap.size) ∧ (V.cell? (qa.add i) = some (.slice QT n cQT) ∧ (qa.add i).block < V.heap.size)) := Lib.hid (fun V hV => by
      have k := hV.size
      have e := HBI.out
      exact ⟨⟨(hV.cell (by rw [block_add]; omega)).trans p0, by rw [block_add]; omega⟩, ⟨(hV.cell (by rw [block_add]; omega)).trans q0, by rw [block_add]; omega⟩⟩)
    clear p0 q0 pal qal
    refine wpIn_wide.2 ?_
    refine wp_region_then 11 _ ?af rfl (by kernel_rfl) (by kernel_rfl) ?walk ?tail
    case walk =>
      intro V hV
      have XCV := XC.out.below hV XC.out.lt
      have hwV : Below bi w V := HBB.out.trans (hV.mono (by have := XI.out.lt; omega))
      have BV := HB.out.below (HW.out.2.1.trans (hwV.mono hzw)) HB.out.lt
      obtain ⟨⟨pa0, pab⟩, ⟨qa0, qab⟩⟩ := HP0.out V hwV
      clear hwV
      have clt := XCV.lt
      have e0 := XCV.cell 0 rfl
      have e1 := XCV.cell 1 rfl
      have e2 := XCV.cell 2 rfl
      have e3 := XCV.cell 3 rfl
      have e4 := XCV.cell 4 rfl
      have e5 := XCV.cell 5 rfl
      have t0 := BV.cell 0 rfl
      have t1 := BV.cell 1 rfl
      have tl := BV.lt
      clear XCV BV hV
      simp only [List.take_succ_cons, List.take_zero]
      repeat (go_big_quiet_step (fail))
      refine wpQuiet_nil ?_
      rfl
    intro w8 hb8
    have XI3 := Lib.hid (XI.out.below hb8 XI.out.lt)
    have HBB3 : Hid (Below w2.heap.size w2 w8) := Lib.hid hb8
    clear hb8 HP0
    go_simp
    refine (levels_c _ _ _ _ ⟨_, _, _, _, _, _, rfl⟩ ⟨_, _, _, rfl⟩ ⟨_, _, _, rfl⟩).mono ?_
    rintro e w9 ⟨rfl, hw9⟩
    have HB9 : Below w8.heap.size w8 w9 := by
      rw [hw9]
      exact (((Below.refl _ _).alloc (Nat.le_refl _) _).alloc (by simp) _).alloc (by simp; omega) _
    have KC : Blk w9 w8.heap.size 63 [.int .i64 cap, .int .i64 inn, .int .i64 out, .int .i64 start, .int .i64 fin, .slice TT qn cT] := by
      rw [hw9]; exact ((Blk.new' w8 #[.int .i64 cap, .int .i64 inn, .int .i64 out, .int .i64 start, .int .i64 fin, .slice TT qn cT] 63).alloc _).alloc _
    have KI : Blk w9 (w8.heap.size + 1) 22 [.slice PT n cPT] := by
      have := (Blk.new' (w8.alloc (.cells #[.int .i64 cap, .int .i64 inn, .int .i64 out, .int .i64 start, .int .i64 fin, .slice TT qn cT] 63)) #[.slice PT n cPT] 22).alloc (.cells #[.slice QT n cQT] 22)
      rw [hw9]; simpa using this
    have KO : Blk w9 (w8.heap.size + 2) 22 [.slice QT n cQT] := by
      have := Blk.new' ((w8.alloc (.cells #[.int .i64 cap, .int .i64 inn, .int .i64 out, .int .i64 start, .int .i64 fin, .slice TT qn cT] 63)).alloc (.cells #[.slice PT n cPT] 22)) #[.slice QT n cQT] 22
      rw [hw9]; simpa [Nat.add_assoc] using this
    have HB29 := Lib.hid (HBB3.out.trans (HB9.mono HBB3.out.size))
    have XI4 := Lib.hid (XI3.out.below HB9 XI3.out.lt)
    have HLM := Lib.hid (And.intro KC (And.intro KI KO))
    have hg8 : bi + 1 < w8.heap.size := XI3.out.lt
    clear hw9 HB9 KC KI KO XI3 HBB3
    dsimp only
    (try simp only [Act.put, List.setIfInBounds_toArray, List.set_cons_zero, List.set_cons_succ])
    refine wpQuiet_nil ?_
    intro xx
    have HB5 := Lib.hid (HB29.out.trans (xx.far.mono HB29.out.size))
    have XI5 := Lib.hid (XI4.out.below xx.far XI4.out.lt)
    have HLM5 := Lib.hid (And.intro (HLM.out.1.below xx.far HLM.out.1.lt) (And.intro (HLM.out.2.1.below xx.far HLM.out.2.1.lt) (HLM.out.2.2.below xx.far HLM.out.2.2.lt)))
    generalize xx.w = w5 at HB5 XI5 HLM5 ⊢
    clear XI4 HLM HB29
    generalize w8.heap.size = g at *
    gi_wp2
    have HLVM : Hid (∀ V, Below bi w V → Blk V g 63 [.int .i64 cap, .int .i64 inn, .int .i64 out, .int .i64 start, .int .i64 fin, .slice TT qn cT] → Blk V (g + 1) 22 [.slice PT n cPT] → Blk V (g + 2) 22 [.slice QT n cQT] → LvM g (g + 1) (g + 2) ⟨cap, inn, out, start, fin, trips⟩ xr yr TT PT QT qn n n cT cPT cQT V) := Lib.hid (fun V hV h1 h2 h3 => ⟨h1, h2, h3, HTR.out.below hV (by rw [HBI.out]; exact Nat.le_refl _), HPI.out.1.below hV (by rw [HBI.out]; exact Nat.le_refl _), HPI.out.2.below hV (by rw [HBI.out]; exact Nat.le_refl _)⟩)
    have h5b : bi + 1 < w5.heap.size := XI5.out.lt
    have h5w : Below bi w w5 := HBB.out.trans (HB5.out.mono (by have := XI.out.lt; omega))
    have H5W := Lib.hid h5w
    clear h5w
    refine wpIn_wide.2 ((wpIn_wide (n := 3)).1 (range_mine3 (F := Fence.wide) (n := 3) rfl (by omega) (gf := 107) (lb := #[.pointer (some ⟨g, 0, none⟩), .pointer (some ⟨g + 1, 0, none⟩), .pointer (some ⟨g + 2, 0, none⟩)]) rfl trivial (fun _ _ => by kernel_rfl)
      (encs := fun y : Int × Int => #[.int .i64 y.1, .int .i64 y.2]) (fun _ => rfl)
      (fun pre V => Below bi w V ∧ (Blk V g 63 [.int .i64 cap, .int .i64 inn, .int .i64 out, .int .i64 start, .int .i64 fin, .slice TT qn cT] ∧ Blk V (g + 1) 22 [.slice PT n cPT] ∧ Blk V (g + 2) 22 [.slice QT n cQT]) ∧ w5.heap.size ≤ V.heap.size ∧ ∃ v, Blk V (bi + 1) 22 [v] ∧ V.ownsRow w5.heap.size 2 1 v pre.length ((lvN ⟨cap, inn, out, start, fin, trips⟩ xr yr pre.length).map (.int .i64))) (fun _ _ => False) .ret
      (fun ys => ys.length = n + 1) (fun _ => True) (fun pre y => ∃ k : Nat, k ≤ n ∧ pre.length = k ∧ y = ((k : Int), lev ⟨cap, inn, out, start, fin, trips⟩ xr yr k))
      ?hI ?hIx ⟨H5W.out, HLM5.out, Nat.le_refl _, _, XI5.out, World.ownsRow_nil _ _ _ _⟩ ?hseq ?a1 ?assign ?body ?done ?stop))
    case hI =>
      rintro pre V V' row ⟨h1, ⟨h2, h3, h4⟩, h5, v, h6, h7⟩ hg hr
      exact ⟨h1.grown hg (by have := h1.size; have e := HBI.out; omega) (fun r e => by have := (hr r e).1; omega), ⟨blk_kept h2 hg hr, blk_kept h3 hg hr, blk_kept h4 hg hr⟩, Nat.le_trans h5 hg.size, v, blk_kept h6 hg hr, ownV_kept h7 hg hr⟩
    case hIx =>
      rintro pre V V' row h hg hr
      exact h
    case hseq =>
      intro l2 J2 Jx2 V hJ2 hO2 hOx2 hz2 hY2 hj2
      have lv0 : ∀ k, (lvs ⟨cap, inn, out, start, fin, trips⟩ xr yr k).length = k := fun k => by simp [lvs]
      refine (levels1_c g (g + 1) (g + 2) ⟨cap, inn, out, start, fin, trips⟩ xr yr TT PT QT qn n n cT cPT cQT l2 HQN.out hcT HLX.out.1 (Nat.le_refl _) HLX.out.2 pb qb HLA.out J2 Jx2 (fun pre V2 h => HLVM.out _ (hJ2 pre V2 h).1 (hJ2 pre V2 h).2.1.1 (hJ2 pre V2 h).2.1.2.1 (hJ2 pre V2 h).2.1.2.2) (fun pre V1 V2 h hb => hO2 pre V1 V2 none h (grown_below hb) (fun r e => by cases e)) (fun k hk V1 h => (hY2 _ ((k : Int), lev ⟨cap, inn, out, start, fin, trips⟩ xr yr k) V1 h ⟨k, hk, lv0 k, rfl⟩).mono (fun e V2 h2 => by rw [lvs_succ]; exact h2.2)) V hj2).mono ?_
      rintro e V2 ⟨hv, h | ⟨k, hk, h⟩⟩
      · exact ⟨hv, .inl ⟨_, lv0 _, h⟩⟩
      · exact ⟨hv, .inr ⟨_, trivial, h⟩⟩
    case assign =>
      intro l2 y V K hK
      gi_wp2
      exact hK
    case body =>
      rintro l2 pre y V ⟨h1, h2, h3, v, h6, h7⟩ ⟨k, hk, hpre, rfl⟩
      have HI := Lib.hid (And.intro h1 (And.intro h2 h3))
      have XB := Lib.hid h6
      have OW := Lib.hid h7
      have b0 := h6.cell 0 rfl
      have bl := h6.lt
      have hk50 : k ≤ 48 := by have := HN48.out; omega
      clear h1 h2 h3 h6 h7
      generalize hlv : lev ⟨cap, inn, out, start, fin, trips⟩ xr yr k = LV at *
      have HLV := Lib.hid hlv
      clear hlv
      gi_wp2_with (first
        | (gi_at_builtin; refine wpListIn_append_own _ rfl _ _ 22 rfl w5.heap.size 2 i2 (.int .i64 0) 1 8 Try.underlying22 h2i h2z h2s h2b rfl (by decide) v pre.length _ rfl (ownV_below OW.out ((Below.refl _ _).alloc (Nat.le_refl _) _)) ⟨V.heap.size, 0, none⟩ 1 1 [.int .i64 LV] rfl rfl ?c1 ?c2 ?c3 ?c4 ?c5 ?_)
        | gi_in)
      case c1 =>
        intro j u hj
        match j, hj with
        | 0, hj => simp at hj; subst hj; simp [Addr.add]
      case c2 => intro u hu; simp at hu; subst hu; rfl
      case c3 => unfold maxLen; omega
      case c4 => omega
      case c5 => have := HI.out.2.2; simp; omega
      intro v' w7 ho hg _
      obtain ⟨gz, cz, hvz, hzb, hzl⟩ := ho.form (by omega)
      subst hvz
      have hne : ∀ j, v.ownBlock = some j → w5.heap.size ≤ j := fun j e => (World.ownsRow.lt OW.out j e).1
      have hne' : ∀ j, (Value.slice (some ⟨gz, 0, none⟩) (k + 1) cz).ownBlock = some j → w5.heap.size ≤ j := fun j e => (World.ownsRow.lt ho j e).1
      have hgl : g + 2 < w5.heap.size := HLM5.out.2.2.lt
      have XB7 : Blk w7 (bi + 1) 22 [v] := (XB.out.alloc _).grown hg (fun e => by have := hne _ e.symm; omega)
      have hcells : ∀ (j : Nat) (o : Obj), v.ownBlock = some j → (V.alloc (.cells #[.int .i64 LV] 2)).heap[j]? = some o → o.isCells = true := fun j o e ho2 => by
        obtain ⟨_, h2⟩ := ownV_below OW.out ((Below.refl V.heap.size V).alloc (Nat.le_refl _) (.cells #[.int .i64 LV] 2))
        rcases h2 with ⟨h2, _⟩ | ⟨k', c', cur', hv', _, hgk', _⟩
        · rw [h2] at e; cases e
        · rw [hv'] at e
          simp only [Value.ownBlock, Option.some.injEq] at e
          subst e
          rw [hgk'] at ho2
          cases ho2
          rfl
      have HKF : Hid (KeepsFrom w5.heap.size V (w7.setCell ⟨bi + 1, 0, none⟩ (.slice (some ⟨gz, 0, none⟩) (k + 1) cz))) := Lib.hid (((KeepsOthers.alloc V (.cells #[.int .i64 LV] 2)).trans ((KeepsOthers.of_grownBy hg hcells).trans (KeepsOthers.setCell _ _ _))).from _)
      have hBV : Below bi w (w7.setCell ⟨bi + 1, 0, none⟩ (.slice (some ⟨gz, 0, none⟩) (k + 1) cz)) := by
        have e := HBI.out
        have z1 := HI.out.1.size
        refine Below.setCell (Below.grown (HI.out.1.alloc (by omega) (.cells #[.int .i64 LV] 2)) hg (by simp; omega) (fun k e => by have := hne k e; omega)) (by simp) _
      have hB3 : ∀ (j : Nat) (t : TypeId) (l : List Value), j ≠ bi + 1 → j < w5.heap.size → Blk V j t l → Blk (w7.setCell ⟨bi + 1, 0, none⟩ (.slice (some ⟨gz, 0, none⟩) (k + 1) cz)) j t l := fun j t l h1 h2 h3 =>
        Blk.setCell_ne ((h3.alloc (.cells #[.int .i64 LV] 2)).grown hg (fun e => by have := hne _ e.symm; omega)) (by simpa using h1) _
      have HIN : Hid (Below bi w (w7.setCell ⟨bi + 1, 0, none⟩ (.slice (some ⟨gz, 0, none⟩) (k + 1) cz)) ∧ (Blk (w7.setCell ⟨bi + 1, 0, none⟩ (.slice (some ⟨gz, 0, none⟩) (k + 1) cz)) g 63 [.int .i64 cap, .int .i64 inn, .int .i64 out, .int .i64 start, .int .i64 fin, .slice TT qn cT] ∧ Blk (w7.setCell ⟨bi + 1, 0, none⟩ (.slice (some ⟨gz, 0, none⟩) (k + 1) cz)) (g + 1) 22 [.slice PT n cPT] ∧ Blk (w7.setCell ⟨bi + 1, 0, none⟩ (.slice (some ⟨gz, 0, none⟩) (k + 1) cz)) (g + 2) 22 [.slice QT n cQT]) ∧ w5.heap.size ≤ (w7.setCell ⟨bi + 1, 0, none⟩ (.slice (some ⟨gz, 0, none⟩) (k + 1) cz)).heap.size ∧ ∃ u, Blk (w7.setCell ⟨bi + 1, 0, none⟩ (.slice (some ⟨gz, 0, none⟩) (k + 1) cz)) (bi + 1) 22 [u] ∧ (w7.setCell ⟨bi + 1, 0, none⟩ (.slice (some ⟨gz, 0, none⟩) (k + 1) cz)).ownsRow w5.heap.size 2 1 u (k + 1) ((lvN ⟨cap, inn, out, start, fin, trips⟩ xr yr (k + 1)).map (.int .i64))) := Lib.hid (by
        refine ⟨hBV, ⟨hB3 _ _ _ (by omega) (by omega) HI.out.2.1.1, hB3 _ _ _ (by omega) (by omega) HI.out.2.1.2.1, hB3 _ _ _ (by omega) (by omega) HI.out.2.1.2.2⟩, ?_, .slice (some ⟨gz, 0, none⟩) (k + 1) cz, ?_, ?_⟩
        · have z1 := HI.out.2.2
          have z2 := hg.size
          simp at z2
          simp [World.setCell]
          omega
        · exact XB7.setCell 0 _
        · rw [lvN_succ, HLV.out, List.map_append]
          exact ownV_ne ho (grownBy_setCell' w7 (bi + 1) _) (fun j e => by have := hne' j e; intro h; cases h; omega))
      have b7 := XB7.cell 0 rfl
      have f7 := XB7.free 0
      clear b0 bl hne hne' hgl hcells hBV hB3 ho hg XB7
      gi_wp2
      refine (⟨HKF.out, ?_⟩ : _ ∧ _)
      simp only [List.length_append, List.length_cons, List.length_nil, hpre]
      exact HIN.out
    case done =>
      rintro D ys V hD hys ⟨h1, h2, h3, v, h6, h7⟩ hK
      rw [hys] at h7
      obtain ⟨gz, cz, rfl, hzb, hzl⟩ := h7.form (by omega)
      have eBI := HBI.out
      have HBV := Lib.hid h1
      have HBV2 : Below w.heap.size w V := by rw [← eBI]; exact h1
      have HMV := Lib.hid (Marks.cons (HW.out.1.below (W' := w5) (by rw [← eBI]; exact H5W.out)) hD (Nat.le_trans hzw (by omega)) (HW.out.1.below HBV2) hK)
      have HOV := Lib.hid (ownV_below HW.out.2.2.1 HBV2)
      have HRV : Hid (RowsO w0.heap.size V i n vs cs T) := Lib.hid (fun x hx => by
        obtain ⟨u, h1, h2⟩ := HW.out.2.2.2 x hx
        exact ⟨u, h1, ownV_below h2 HBV2⟩)
      have H0V := Lib.hid (HW.out.2.1.trans (HBV2.mono HW.out.2.1.size))
      have b0 := h6.cell 0 rfl
      have bl := h6.lt
      have OW := Lib.hid h7
      have hzV : w0.heap.size ≤ V.heap.size := by have := HBV2.size; omega
      have m8 : i ≤ 8 := by have := (stE_0 HKP.out.ok).1; omega
      clear h1 h2 h3 h6 h7 HBV2 hK eBI
      gi_wp2_with (first
        | (gi_at_builtin; refine wpListIn_append_own _ rfl _ _ 53 rfl w0.heap.size 22 i22 (.slice none 0 0) 1 24 Try.underlying53 h22i h22z h22s h22b rfl (by decide) u9 i vs rfl (ownV_below HOV.out ((Below.refl _ _).alloc (Nat.le_refl _) _)) ⟨V.heap.size, 0, none⟩ 1 1 [.slice (some ⟨gz, 0, none⟩) (n + 1) cz] rfl rfl ?d1 ?d2 ?d3 ?d4 ?d5 ?_)
        | gi_in)
      case d1 =>
        intro j u hj
        match j, hj with
        | 0, hj => simp at hj; subst hj; simp [Addr.add]
      case d2 =>
        intro u hu; simp at hu; subst hu
        rfl
      case d3 => unfold maxLen; omega
      case d4 => omega
      case d5 => simp; omega
      intro v' w7 ho hg _
      have HOA := ownV_below HOV.out ((Below.refl V.heap.size V).alloc (Nat.le_refl _) (.cells #[.slice (some ⟨gz, 0, none⟩) (n + 1) cz] 22))
      have hne : ∀ j, u9.ownBlock = some j → w0.heap.size ≤ j := fun j e => (World.ownsRow.lt HOV.out j e).1
      have hcells : ∀ (j : Nat) (o : Obj), u9.ownBlock = some j → (V.alloc (.cells #[.slice (some ⟨gz, 0, none⟩) (n + 1) cz] 22)).heap[j]? = some o → o.isCells = true := fun j o e ho2 => by
        rcases HOA.2 with ⟨h2, _⟩ | ⟨k', c', cur', hv', _, hgk', _⟩
        · rw [h2] at e; cases e
        · rw [hv'] at e
          simp only [Value.ownBlock, Option.some.injEq] at e
          subst e
          rw [hgk'] at ho2
          cases ho2
          rfl
      have HM7 := Lib.hid (HMV.out.keep (((KeepsOthers.alloc V (.cells #[.slice (some ⟨gz, 0, none⟩) (n + 1) cz] 22)).trans (KeepsOthers.of_grownBy hg hcells)).from _))
      have HB7 : Hid (Below w0.heap.size w0 w7) := Lib.hid (Below.grown (H0V.out.alloc (by omega) (.cells #[.slice (some ⟨gz, 0, none⟩) (n + 1) cz] 22)) hg (by simp; omega) (fun k e => hne k e))
      have HO7 := Lib.hid ho
      have hvl : vs.length = i := by have := HOV.out.1; omega
      have HR7 : Hid (RowsO w0.heap.size w7 (i + 1) n (vs ++ [.slice (some ⟨gz, 0, none⟩) (n + 1) cz]) cs T) := Lib.hid (fun x hx => by
        by_cases hxi : x < i
        · obtain ⟨u, h1, h2⟩ := HRV.out x hxi
          exact ⟨u, by rw [List.getElem?_append_left (by omega)]; exact h1, ownV_other (ownV_below h2 ((Below.refl V.heap.size V).alloc (Nat.le_refl _) (.cells #[.slice (some ⟨gz, 0, none⟩) (n + 1) cz] 22))) HOA (by decide) hg⟩
        · obtain rfl : x = i := by omega
          refine ⟨_, by rw [List.getElem?_append_right (by omega), hvl, Nat.sub_self]; rfl, ?_⟩
          rw [HCC.out, HXR.out, HYR.out]
          exact ownV_mono (ownV_other (ownV_below OW.out ((Below.refl V.heap.size V).alloc (Nat.le_refl _) (.cells #[.slice (some ⟨gz, 0, none⟩) (n + 1) cz] 22))) HOA (by decide) hg) (by omega))
      clear ho hg hne hcells hvl HOA b0 bl
      gi_wp2
      refine ⟨?_, by simp [intOf]; omega⟩
      (repeat apply Exists.intro)
      refine ⟨⟨i + 1, rfl, by omega, HM7.out, HB7.out, _, HO7.out, HR7.out⟩, rfl⟩
    case stop =>
      rintro D pre V hD _ hI hK
      exact hI.elim
  · obtain rfl : m = i := by omega
    have HW2 := HW
    gi_wp2
    conv => arg 4; whnf
    gi_wp2
    exact HR.out _ _ _ _ _ HW2.out.1 HW2.out.2.1 HW2.out.2.2.1 HW2.out.2.2.2 rfl rfl
end Go.Proofs.Ytmebpglkeedaoaa
namespace Go.Proofs.Ytmebpglkeedaoaa
open Go.RowKit Go.Shelf Dp
attribute [local go_sem] Oper.semAt_some
def LevP (S : Site) (cs : List Car) (T : Tab) (n m : Nat) (w : World) : Ending → World → Prop := fun e w' =>
  Below w.heap.size w w' ∧ ((plE S cs T = 0 ∧ ∃ v vs, e = .returned (.tuple #[v, .int .i64 0]) ∧ w'.ownsRow w.heap.size 22 1 v m vs ∧ RowsO w.heap.size w' m n vs cs T) ∨ (plE S cs T ≠ 0 ∧ e = .returned (.tuple #[.slice none 0 0, .int .i64 (plE S cs T)])))
set_option maxHeartbeats 8000000 in
set_option maxRecDepth 100000 in
theorem Levels_c (A B C D E P Q : Option Addr) (S : Site) (cs : List Car) (T : Tab) (n nB nC nD m p q cA cB cC cD cE cP cQ : Nat) (w : World) (hn : n = S.lim.length) (hnB : nB = S.exp.length) (hnC : nC = S.buy.length) (hnD : nD = S.sell.length) (hm : m = cs.length) (hp : p = T.inn.length) (hq : q = T.out.length)
    (hA : n ≤ cA ∧ cA ≤ 9223372036854775807) (hB : nB ≤ cB ∧ cB ≤ 9223372036854775807) (hC : nC ≤ cC ∧ cC ≤ 9223372036854775807) (hD : nD ≤ cD ∧ cD ≤ 9223372036854775807) (hE : m ≤ cE ∧ cE ≤ 9223372036854775807) (hP : p ≤ cP ∧ cP ≤ 9223372036854775807) (hQ : q ≤ cQ ∧ cQ ≤ 9223372036854775807)
    (hS : SiteAt w A B C D S) (hcs : CarsAt w E cs) (hT : TabAt w P Q T) :
    Calls Try.prog 33 #[.agg #[.slice A n cA, .slice B nB cB, .slice C nC cC, .slice D nD cD], .slice E m cE, .agg #[.slice P p cP, .slice Q q cQ]] w (LevP S cs T n m w) := by
  have HN := Lib.hid hn
  have HM := Lib.hid hm
  have HP := Lib.hid hp
  have HQ := Lib.hid hq
  have HCS := Lib.hid hcs
  have HT := Lib.hid hT
  have HB := Lib.hid (((Below.refl w.heap.size w).alloc (Nat.le_refl _) (.cells #[.slice A n cA, .slice B nB cB, .slice C nC cC, .slice D nD cD] 51)).alloc (by simp) (.cells #[.slice P p cP, .slice Q q cQ] 55))
  have XS := Lib.hid ((Blk.new' w #[.slice A n cA, .slice B nB cB, .slice C nC cC, .slice D nD cD] 51).alloc (.cells #[.slice P p cP, .slice Q q cQ] 55))
  have XT := Lib.hid (show Blk ((w.alloc (.cells #[.slice A n cA, .slice B nB cB, .slice C nC cC, .slice D nD cD] 51)).alloc (.cells #[.slice P p cP, .slice Q q cQ] 55)) (w.heap.size + 1) 55 [.slice P p cP, .slice Q q cQ] from by
    simpa using Blk.new' (w.alloc (.cells #[.slice A n cA, .slice B nB cB, .slice C nC cC, .slice D nD cD] 51)) #[.slice P p cP, .slice Q q cQ] 55)
  have CP := Lib.hid (CheckPlan_c A B C D E P Q S cs T n nB nC nD m p q cA cB cC cD cE cP cQ ((w.alloc (.cells #[.slice A n cA, .slice B nB cB, .slice C nC cC, .slice D nD cD] 51)).alloc (.cells #[.slice P p cP, .slice Q q cQ] 55)) hn hnB hnC hnD hm hp hq hA hB hC hD hE hP hQ (hS.below HB.out (Nat.le_refl _)) (hcs.below HB.out (Nat.le_refl _)) (hT.below HB.out (Nat.le_refl _)))
  clear hn hnB hnC hnD hm hp hq hS hcs hT
  refine (callsIn_wide (n := 3)).1 (callsIn_of_wp_marks Try.func33 rfl trivial (wpIn_wide.2 ?_) rfl)
  simp only [Try.ntmps33, List.size_toArray, List.length_cons, List.length_nil, Nat.reduceAdd, Nat.reduceSub, Array.replicate_succ, Array.replicate_zero, List.push_toArray, List.append_toArray, List.nil_append, List.cons_append]
  go_upto_region 1 with fail
  (try simp only [World.size_alloc, Nat.add_assoc, Nat.reduceAdd])
  generalize (w.alloc (.cells #[.slice A n cA, .slice B nB cB, .slice C nC cC, .slice D nD cD] 51)).alloc (.cells #[.slice P p cP, .slice Q q cQ] 55) = w1 at HB XS XT CP ⊢
  have s0 := XS.out.cell 0 rfl
  have s1 := XS.out.cell 1 rfl
  have s2 := XS.out.cell 2 rfl
  have s3 := XS.out.cell 3 rfl
  have t0 := XT.out.cell 0 rfl
  have t1 := XT.out.cell 1 rfl
  obtain ⟨v, hv⟩ : ∃ v, v = plE S cs T := ⟨_, rfl⟩
  rw [← hv] at CP
  have HV := Lib.hid hv
  clear hv
  go_upto_region 2 with (go_at_call 32; refine CP.out.mono ?_; rintro e w2 ⟨rfl, hb2⟩)
  have HB2 := Lib.hid (HB.out.trans (hb2.mono HB.out.size))
  have XT2 := Lib.hid (XT.out.below hb2 XT.out.lt)
  clear hb2 s0 s1 s2 s3 t0 t1 CP HB XS XT
  by_cases h0 : v = 0
  rotate_left
  · have hb0 : (v == 0) = false := by simpa using h0
    have HPV := Lib.hid h0
    go_wp2_with fail
    exact ⟨.tuple #[.slice none 0 0, .int .i64 v], by simp [results, Try.results33, go_sem], HB2.out, .inr ⟨by rw [← HV.out]; exact HPV.out, by rw [← HV.out]⟩⟩
  · subst h0
    have HZ := Lib.hid (show plE S cs T = 0 from HV.out.symm)
    clear HV
    go_wp2_with fail
    rename_i KK hKK
    refine (wpIn_wide (n := 3)).1 ?_
    refine wpIn_codeP (c' := loop33) (by kernel_rfl) ?_
    refine levels33 (w.heap.size + 1) S cs T E P Q n m p q cE cP cQ w2 HN.out HM.out HP.out HQ.out hE hP hQ (plE_0 HZ.out) (HT.out.below HB2.out (Nat.le_refl _)) (HCS.out.below HB2.out (Nat.le_refl _)) XT2.out (fun a w' h => hKK a w' ((wpIn_wide (n := 3)).1 (wpIn_codeP (by kernel_rfl) h))) ?_
    intro v vs tm ds V hmk hbl ho hro h6 h7
    refine leaves_marks (u := .returning) (C := fun V => Below w2.heap.size w2 V ∧ V.ownsRow w2.heap.size 22 1 v m vs ∧ RowsO w2.heap.size V m n vs cs T) (by intro h; cases h) ?_ (fun V2 h2 => ?_) hmk ⟨hbl, ho, hro⟩
    · rintro _ X Y row ⟨g1, g2, g3⟩ hg hr
      refine ⟨g1.grown hg g1.size (fun r e => (hr r e).1), ownV_kept g2 hg hr, fun x hx => ?_⟩
      obtain ⟨u, e1, e2⟩ := g3 x hx
      exact ⟨u, e1, ownV_kept e2 hg hr⟩
    · refine ⟨.tuple #[v, .int .i64 0], by simp [results, Try.results33, go_sem]; rw [Array.getD_eq_getD_getElem?] at h6 h7; exact ⟨h6, h7⟩, HB2.out.trans (h2.1.mono HB2.out.size), .inl ⟨HZ.out, v, vs, rfl, ownV_mono h2.2.1 HB2.out.size, fun x hx => ?_⟩⟩
      obtain ⟨u, e1, e2⟩ := h2.2.2 x hx
      exact ⟨u, e1, ownV_mono e2 HB2.out.size⟩
end Go.Proofs.Ytmebpglkeedaoaa
namespace Go.Proofs.Ytmebpglkeedaoaa
open Go.RowKit Dp
def lvR (cs : List Car) (T : Tab) (n m : Nat) : List (List Int) := (List.range m).map (fun i => lvN (cs.getD i default) (T.inn.getD i []) (T.out.getD i []) (n + 1))
theorem lvR_len (cs : List Car) (T : Tab) (n m : Nat) : (lvR cs T n m).length = m := by simp [lvR]
theorem lvR_get {cs : List Car} {T : Tab} {n m i : Nat} (h : i < m) : (lvR cs T n m).getD i [] = lvN (cs.getD i default) (T.inn.getD i []) (T.out.getD i []) (n + 1) := by
  simp [lvR, List.getD_eq_getElem?_getD, h]
theorem lvN_get {c : Car} {x y : List Int} {n k : Nat} (h : k < n) : (lvN c x y n).getD k 0 = lev c x y k := by
  simp [lvN, List.getD_eq_getElem?_getD, h]
theorem ownV_ints {W : World} {D n : Nat} {v : Value} {xs : List Int} (h : W.ownsRow D 2 1 v n (xs.map (.int .i64))) (hl : xs.length = n) (hn : 0 < n) : ∃ g c, v = .slice (some ⟨g, 0, none⟩) n c ∧ n ≤ c ∧ c ≤ 9223372036854775807 ∧ IntsAt W (some ⟨g, 0, none⟩) xs := by
  rcases h.2 with ⟨_, h2⟩ | ⟨g, c, cur, hv, hb, hg, hnc, hcm, _⟩
  · omega
  · subst hv
    refine ⟨g, c, rfl, hnc, by unfold maxLen at hcm; omega, fun i hi => ⟨_, rfl, (Array.getElem?_eq_some_iff.1 hg).1, ?_⟩⟩
    have e : (⟨g, 0, none⟩ : Addr).add i = ⟨g, i, none⟩ := by unfold Addr.add; split <;> simp_all
    rw [e, World.ownsRow.cellAt h i (by omega), List.getElem?_map, List.getElem?_eq_getElem hi, List.getD_eq_getElem?_getD, List.getElem?_eq_getElem hi]
    rfl
theorem rows_at {W : World} {D n m : Nat} {cs : List Car} {T : Tab} {v : Value} {vs : List Value} (h : W.ownsRow D 22 1 v m vs) (hr : RowsO D W m n vs cs T) :
    ∃ A c, v = .slice A m c ∧ m ≤ c ∧ c ≤ 9223372036854775807 ∧ RowsAt W A (lvR cs T n m) := by
  rcases h.2 with ⟨h1, h2⟩ | ⟨g, c, cur, hv, hb, hg, hnc, hcm, _⟩
  · subst h2
    exact ⟨none, 0, h1, Nat.le_refl _, by omega, fun i hi => by rw [lvR_len] at hi; omega⟩
  · subst hv
    refine ⟨_, c, rfl, hnc, by unfold maxLen at hcm; omega, fun i hi => ?_⟩
    rw [lvR_len] at hi
    obtain ⟨u, h1, h2⟩ := hr i hi
    obtain ⟨g', c', rfl, h3, h4, h5⟩ := ownV_ints h2 (lvN_len _ _ _ _) (by omega)
    rw [lvR_get hi]
    have e : (⟨g, 0, none⟩ : Addr).add i = ⟨g, i, none⟩ := by unfold Addr.add; split <;> simp_all
    refine ⟨_, rfl, (Array.getElem?_eq_some_iff.1 hg).1, some ⟨g', 0, none⟩, c', ?_, by rw [lvN_len]; exact ⟨h3, h4⟩, h5⟩
    rw [e, World.ownsRow.cellAt h i (by omega), h1, lvN_len]
end Go.Proofs.Ytmebpglkeedaoaa
namespace Go.Proofs.Ytmebpglkeedaoaa
namespace Dp
def nodeF (n i k : Nat) : Nat := 1 + n + 2 * (i * (n + 1) + k)
theorem nodeF_k (n i k : Nat) : nodeF n i k = nodeF n i 0 + 2 * k := by unfold nodeF; omega
theorem nodeF_next (n i : Nat) : nodeF n (i + 1) 0 = nodeF n i n + 2 := by
  unfold nodeF
  rw [Nat.add_mul]
  omega
def slA (c : Car) (a k : Nat) : List Arc := ⟨a, a + 1, c.cap, 0⟩ :: ⟨a + 1, a + 2, c.cap, 0⟩ :: (if awayC c k = true then [] else [⟨1 + k, a + 2, c.inn, 0⟩, ⟨a + 1, 1 + k, c.out, 0⟩])
def carA (c : Car) (a : Nat) : Nat → List Arc
  | 0 => []
  | k + 1 => carA c a k ++ slA c (a + 2 * k) k
def finA (c : Car) (a : Nat) : List Arc := [⟨a, a + 1, c.cap, 0⟩, ⟨a + 1, 0, c.cap - c.fin, 0⟩]
def limA (S : Site) : Nat → List Arc
  | 0 => []
  | t + 1 => limA S t ++ [⟨0, 1 + t, S.lim.getD t 0, S.buy.getD t 0⟩]
def expA (S : Site) : Nat → List Arc
  | 0 => []
  | t + 1 => expA S t ++ [⟨1 + t, 0, S.exp.getD t 0, -(S.sell.getD t 0)⟩]
def carsA (S : Site) (cs : List Car) : Nat → List Arc
  | 0 => limA S S.lim.length ++ expA S S.lim.length
  | i + 1 => carsA S cs i ++ (carA (cs.getD i default) (nodeF S.lim.length i 0) S.lim.length ++ finA (cs.getD i default) (nodeF S.lim.length i S.lim.length))
theorem limA_len (S : Site) : ∀ t, (limA S t).length = t
  | 0 => rfl
  | t + 1 => by simp [limA, limA_len S t]
theorem expA_len (S : Site) : ∀ t, (expA S t).length = t
  | 0 => rfl
  | t + 1 => by simp [expA, expA_len S t]
theorem slA_len (c : Car) (a k : Nat) : (slA c a k).length ≤ 4 ∧ 2 ≤ (slA c a k).length := by unfold slA; split <;> simp
theorem carA_len (c : Car) (a : Nat) : ∀ k, (carA c a k).length ≤ 4 * k
  | 0 => Nat.le_refl _
  | k + 1 => by have := carA_len c a k; have := slA_len c (a + 2 * k) k; simp only [carA, List.length_append]; omega
theorem carsA_len (S : Site) (cs : List Car) : ∀ i, (carsA S cs i).length ≤ 2 * S.lim.length + i * (4 * S.lim.length + 2)
  | 0 => by simp [carsA, limA_len, expA_len]; omega
  | i + 1 => by
    have := carsA_len S cs i
    have h2 := carA_len (cs.getD i default) (nodeF S.lim.length i 0) S.lim.length
    simp only [carsA, List.length_append, finA, List.length_cons, List.length_nil, Nat.add_mul]
    omega
theorem carsA_bd {S : Site} {cs : List Car} (h : stE S cs = 0) (i : Nat) (hi : i ≤ cs.length) : (carsA S cs i).length ≤ 1648 := by
  have h0 := stE_0 h
  have hn := (siteHead_iff.1 h0.2.1).1
  have h1 := carsA_len S cs i
  have h2 : i * (4 * S.lim.length + 2) ≤ 8 * 194 := Nat.mul_le_mul (by omega) (by omega)
  omega
def arcsAt (S : Site) (cs : List Car) (i k : Nat) : List Arc := carsA S cs i ++ carA (cs.getD i default) (nodeF S.lim.length i 0) k
theorem carA_mono (c : Car) (a k : Nat) : ∀ d, (carA c a k).length ≤ (carA c a (k + d)).length
  | 0 => Nat.le_refl _
  | d + 1 => by
    have := carA_mono c a k d
    show _ ≤ (carA c a (k + d + 1)).length
    simp only [carA, List.length_append]; omega
theorem arcsAt_bd {S : Site} {cs : List Car} (h : stE S cs = 0) {i k : Nat} (hi : i < cs.length) (hk : k ≤ S.lim.length) : (arcsAt S cs i k).length + 2 ≤ 1648 := by
  have h1 := carsA_bd h (i + 1) hi
  have h2 := carA_mono (cs.getD i default) (nodeF S.lim.length i 0) k (S.lim.length - k)
  rw [show k + (S.lim.length - k) = S.lim.length by omega] at h2
  simp only [carsA, arcsAt, List.length_append, finA, List.length_cons, List.length_nil] at h1 ⊢
  omega
theorem arcsAt_zero (S : Site) (cs : List Car) (i : Nat) : arcsAt S cs i 0 = carsA S cs i := by simp [arcsAt, carA]
theorem arcsAt_succ (S : Site) (cs : List Car) (i k : Nat) : arcsAt S cs i (k + 1) = arcsAt S cs i k ++ slA (cs.getD i default) (nodeF S.lim.length i k) k := by
  rw [nodeF_k]
  simp [arcsAt, carA]
theorem arcsAt_last (S : Site) (cs : List Car) (i : Nat) : carsA S cs (i + 1) = arcsAt S cs i S.lim.length ++ finA (cs.getD i default) (nodeF S.lim.length i S.lim.length) := by simp [arcsAt, carsA]
def inX (S : Site) (cs : List Car) (i k : Nat) : Int := if awayC (cs.getD i default) k = true then -1 else ((arcsAt S cs i k).length : Int) + 2
def outX (S : Site) (cs : List Car) (i k : Nat) : Int := if awayC (cs.getD i default) k = true then -1 else ((arcsAt S cs i k).length : Int) + 3
def rowK (f : Nat → Int) (n k : Nat) : List Int := (List.range n).map fun j => if j < k then f j else 0
theorem rowK_len (f : Nat → Int) (n k : Nat) : (rowK f n k).length = n := by simp [rowK]
theorem rowK_zero (f : Nat → Int) (n : Nat) : rowK f n 0 = List.replicate n 0 := by
  apply List.ext_getElem
  · simp [rowK]
  · intro i h1 h2; simp [rowK]
theorem rowK_set (f : Nat → Int) (n k : Nat) (hk : k < n) : (rowK f n k).set k (f k) = rowK f n (k + 1) := by
  apply List.ext_getElem
  · simp [rowK]
  · intro i h1 h2
    simp only [rowK, List.getElem_set, List.getElem_map, List.getElem_range]
    by_cases e : k = i
    · subst e; rw [if_pos rfl, if_pos (by omega)]
    · rw [if_neg e]
      by_cases h : i < k
      · rw [if_pos h, if_pos (by omega)]
      · rw [if_neg h, if_neg (by omega)]
theorem rowK_get {f : Nat → Int} {n k j : Nat} (hj : j < n) : (rowK f n k).getD j 0 = if j < k then f j else 0 := by
  simp [rowK, List.getD_eq_getElem?_getD, hj]
theorem rowK_none (f : Nat → Int) (n k : Nat) (h : f k = 0) (hk : k < n) : rowK f n k = rowK f n (k + 1) := by
  apply List.ext_getElem
  · simp [rowK]
  · intro i h1 h2
    simp only [rowK, List.getElem_map, List.getElem_range]
    by_cases e : i = k
    · subst e; rw [if_neg (by omega), if_pos (by omega), h]
    · by_cases h : i < k
      · rw [if_pos h, if_pos (by omega)]
      · rw [if_neg h, if_neg (by omega)]
def inR (S : Site) (cs : List Car) (i : Nat) : List Int := rowK (inX S cs i) S.lim.length S.lim.length
def outR (S : Site) (cs : List Car) (i : Nat) : List Int := rowK (outX S cs i) S.lim.length S.lim.length
def slS (c : Car) (k : Nat) : List Int := [if k = 0 then c.start else 0, -(useC c k)]
def carS (c : Car) : Nat → List Int
  | 0 => []
  | k + 1 => carS c k ++ slS c k
def carZ (c : Car) : Nat → List Int
  | 0 => []
  | k + 1 => carZ c k ++ [0, -(useC c k)]
def carsS (S : Site) (cs : List Car) : Nat → List Int
  | 0 => 0 :: List.replicate S.lim.length 0
  | i + 1 => carsS S cs i ++ (carS (cs.getD i default) S.lim.length ++ [0, -(cs.getD i default).fin])
theorem carS_len (c : Car) : ∀ k, (carS c k).length = 2 * k
  | 0 => rfl
  | k + 1 => by simp [carS, slS, carS_len c k]; omega
theorem carZ_len (c : Car) : ∀ k, (carZ c k).length = 2 * k
  | 0 => rfl
  | k + 1 => by simp [carZ, carZ_len c k]; omega
theorem carsS_len (S : Site) (cs : List Car) : ∀ i, (carsS S cs i).length = nodeF S.lim.length i 0
  | 0 => by simp [carsS, nodeF]; omega
  | i + 1 => by
    rw [nodeF_next, nodeF_k]
    simp only [carsS, List.length_append, carS_len, carsS_len S cs i, List.length_cons, List.length_nil]
    omega
theorem carS_Z (c : Car) (k : Nat) : ∃ t, carZ c (k + 1) = 0 :: t ∧ carS c (k + 1) = c.start :: t := by
  induction k with
  | zero => exact ⟨[-(useC c 0)], by simp [carZ], by simp [carS, slS]⟩
  | succ k ih =>
    obtain ⟨t, h1, h2⟩ := ih
    refine ⟨t ++ [0, -(useC c (k + 1))], ?_, ?_⟩
    · rw [carZ, h1]; simp
    · rw [carS, h2]; simp [slS]
theorem set_at {P Z : List Int} {a x : Int} : (P ++ a :: Z).set P.length x = P ++ x :: Z := by
  rw [List.set_append_right _ _ (Nat.le_refl _), Nat.sub_self]; rfl
theorem getD_at {P Z : List Int} {a : Int} : (P ++ a :: Z).getD P.length 0 = a := by
  rw [List.getD_eq_getElem?_getD, List.getElem?_append_right (Nat.le_refl _), Nat.sub_self]; rfl
theorem set_at1 {P Z : List Int} {a b x : Int} : (P ++ a :: b :: Z).set (P.length + 1) x = P ++ a :: x :: Z := by
  simp
theorem getD_at1 {P Z : List Int} {a b : Int} : (P ++ a :: b :: Z).getD (P.length + 1) 0 = b := by
  simp
def tlS (c : Car) (k r : Nat) : List Int := if k = 0 then c.start :: List.replicate (r - 1) 0 else List.replicate r 0
theorem tlS_form (c : Car) (k r : Nat) : tlS c k (r + 2) = (if k = 0 then c.start else 0) :: 0 :: List.replicate r 0 := by
  unfold tlS; split <;> rfl
theorem tlS_len (c : Car) (k r : Nat) (hr : 0 < r) : (tlS c k r).length = r := by
  unfold tlS; split <;> simp; omega
def supK (S : Site) (cs : List Car) (M i k : Nat) : List Int := (carsS S cs i ++ carS (cs.getD i default) k) ++ tlS (cs.getD i default) k (M - nodeF S.lim.length i k)
def supC (S : Site) (cs : List Car) (M i : Nat) : List Int := carsS S cs i ++ List.replicate (M - nodeF S.lim.length i 0) 0
theorem pre_len (S : Site) (cs : List Car) (i k : Nat) : (carsS S cs i ++ carS (cs.getD i default) k).length = nodeF S.lim.length i k := by
  rw [List.length_append, carsS_len, carS_len, ← nodeF_k]
theorem supK_len (S : Site) (cs : List Car) {M i k : Nat} (h : nodeF S.lim.length i k < M) : (supK S cs M i k).length = M := by
  unfold supK
  rw [List.length_append, pre_len, tlS_len _ _ _ (by omega)]; omega
theorem supC_len (S : Site) (cs : List Car) {M i : Nat} (h : nodeF S.lim.length i 0 ≤ M) : (supC S cs M i).length = M := by
  unfold supC
  rw [List.length_append, carsS_len, List.length_replicate]; omega
theorem supC_get (S : Site) (cs : List Car) {M i : Nat} (h : nodeF S.lim.length i 0 < M) : (supC S cs M i).getD (nodeF S.lim.length i 0) 0 = 0 := by
  obtain ⟨r, hr⟩ : ∃ r, M - nodeF S.lim.length i 0 = r + 1 := ⟨M - nodeF S.lim.length i 0 - 1, by omega⟩
  unfold supC
  rw [hr, List.replicate_succ]
  have := getD_at (P := carsS S cs i) (Z := List.replicate r 0) (a := 0)
  rw [carsS_len] at this
  exact this
theorem supC_start (S : Site) (cs : List Car) {M i : Nat} (h : nodeF S.lim.length i 0 < M) : (supC S cs M i).set (nodeF S.lim.length i 0) (cs.getD i default).start = supK S cs M i 0 := by
  obtain ⟨r, hr⟩ : ∃ r, M - nodeF S.lim.length i 0 = r + 1 := ⟨M - nodeF S.lim.length i 0 - 1, by omega⟩
  unfold supC supK
  rw [hr, List.replicate_succ]
  have := set_at (P := carsS S cs i) (Z := List.replicate r 0) (a := 0) (x := (cs.getD i default).start)
  rw [carsS_len] at this
  rw [this]
  simp [carS, tlS]
theorem supK_get (S : Site) (cs : List Car) {M i k : Nat} (h : nodeF S.lim.length i k + 1 < M) : (supK S cs M i k).getD (nodeF S.lim.length i k + 1) 0 = 0 := by
  obtain ⟨r, hr⟩ : ∃ r, M - nodeF S.lim.length i k = r + 2 := ⟨M - nodeF S.lim.length i k - 2, by omega⟩
  unfold supK
  rw [hr, tlS_form]
  have := getD_at1 (P := carsS S cs i ++ carS (cs.getD i default) k) (Z := List.replicate r 0) (a := if k = 0 then (cs.getD i default).start else 0) (b := 0)
  rw [pre_len] at this
  exact this
theorem supK_set (S : Site) (cs : List Car) {M i k : Nat} (h : nodeF S.lim.length i k + 1 < M) : (supK S cs M i k).set (nodeF S.lim.length i k + 1) (-(useC (cs.getD i default) k)) = supK S cs M i (k + 1) := by
  obtain ⟨r, hr⟩ : ∃ r, M - nodeF S.lim.length i k = r + 2 := ⟨M - nodeF S.lim.length i k - 2, by omega⟩
  have hr2 : M - nodeF S.lim.length i (k + 1) = r := by rw [nodeF_k] at hr ⊢; omega
  unfold supK
  rw [hr, hr2, tlS_form]
  have := set_at1 (P := carsS S cs i ++ carS (cs.getD i default) k) (Z := List.replicate r 0) (a := if k = 0 then (cs.getD i default).start else 0) (b := 0) (x := -(useC (cs.getD i default) k))
  rw [pre_len] at this
  rw [this]
  simp [carS, slS, tlS]
theorem supK_last (S : Site) (cs : List Car) {M i : Nat} (hn : 0 < S.lim.length) (h : nodeF S.lim.length i S.lim.length + 1 < M) : (supK S cs M i S.lim.length).set (nodeF S.lim.length i S.lim.length + 1) (-(cs.getD i default).fin) = supC S cs M (i + 1) := by
  obtain ⟨r, hr⟩ : ∃ r, M - nodeF S.lim.length i S.lim.length = r + 2 := ⟨M - nodeF S.lim.length i S.lim.length - 2, by omega⟩
  have hr2 : M - nodeF S.lim.length (i + 1) 0 = r := by rw [nodeF_next]; omega
  unfold supK supC
  rw [hr, hr2, tlS_form]
  have := set_at1 (P := carsS S cs i ++ carS (cs.getD i default) S.lim.length) (Z := List.replicate r 0) (a := if S.lim.length = 0 then (cs.getD i default).start else 0) (b := 0) (x := -(cs.getD i default).fin)
  rw [pre_len] at this
  rw [this, if_neg (by omega)]
  simp [carsS]
def supR (S : Site) (cs : List Car) (M i k : Nat) : List Int := (carsS S cs i ++ carZ (cs.getD i default) k) ++ List.replicate (M - nodeF S.lim.length i k) 0
theorem preZ_len (S : Site) (cs : List Car) (i k : Nat) : (carsS S cs i ++ carZ (cs.getD i default) k).length = nodeF S.lim.length i k := by
  rw [List.length_append, carsS_len, carZ_len, ← nodeF_k]
theorem supR_zero (S : Site) (cs : List Car) (M i : Nat) : supR S cs M i 0 = supC S cs M i := by simp [supR, supC, carZ]
theorem supR_len (S : Site) (cs : List Car) {M i k : Nat} (h : nodeF S.lim.length i k ≤ M) : (supR S cs M i k).length = M := by
  unfold supR
  rw [List.length_append, preZ_len, List.length_replicate]; omega
theorem supR_get (S : Site) (cs : List Car) {M i k : Nat} (h : nodeF S.lim.length i k + 1 < M) : (supR S cs M i k).getD (nodeF S.lim.length i k + 1) 0 = 0 := by
  obtain ⟨r, hr⟩ : ∃ r, M - nodeF S.lim.length i k = r + 2 := ⟨M - nodeF S.lim.length i k - 2, by omega⟩
  unfold supR
  rw [hr]
  have := getD_at1 (P := carsS S cs i ++ carZ (cs.getD i default) k) (Z := List.replicate r 0) (a := 0) (b := 0)
  rw [preZ_len] at this
  exact this
theorem supR_set (S : Site) (cs : List Car) {M i k : Nat} (h : nodeF S.lim.length i k + 1 < M) : (supR S cs M i k).set (nodeF S.lim.length i k + 1) (-(useC (cs.getD i default) k)) = supR S cs M i (k + 1) := by
  obtain ⟨r, hr⟩ : ∃ r, M - nodeF S.lim.length i k = r + 2 := ⟨M - nodeF S.lim.length i k - 2, by omega⟩
  have hr2 : M - nodeF S.lim.length i (k + 1) = r := by rw [nodeF_k] at hr ⊢; omega
  unfold supR
  rw [hr, hr2]
  have := set_at1 (P := carsS S cs i ++ carZ (cs.getD i default) k) (Z := List.replicate r 0) (a := 0) (b := 0) (x := -(useC (cs.getD i default) k))
  rw [preZ_len] at this
  show (carsS S cs i ++ carZ (cs.getD i default) k ++ 0 :: 0 :: List.replicate r 0).set _ _ = _
  rw [this]
  simp [carZ]
theorem supR_start (S : Site) (cs : List Car) {M i : Nat} (hn : 0 < S.lim.length) : (supR S cs M i S.lim.length).getD (nodeF S.lim.length i 0) 0 = 0 ∧
    (supR S cs M i S.lim.length).set (nodeF S.lim.length i 0) (cs.getD i default).start = (carsS S cs i ++ carS (cs.getD i default) S.lim.length) ++ List.replicate (M - nodeF S.lim.length i S.lim.length) 0 := by
  obtain ⟨k, hk⟩ : ∃ k, S.lim.length = k + 1 := ⟨S.lim.length - 1, by omega⟩
  obtain ⟨t, h1, h2⟩ := carS_Z (cs.getD i default) k
  have e : supR S cs M i S.lim.length = carsS S cs i ++ 0 :: (t ++ List.replicate (M - nodeF S.lim.length i S.lim.length) 0) := by
    unfold supR
    rw [show carZ (cs.getD i default) S.lim.length = 0 :: t by rw [hk]; exact h1]
    simp
  rw [e]
  have a := getD_at (P := carsS S cs i) (Z := t ++ List.replicate (M - nodeF S.lim.length i S.lim.length) 0) (a := 0)
  have b := set_at (P := carsS S cs i) (Z := t ++ List.replicate (M - nodeF S.lim.length i S.lim.length) 0) (a := 0) (x := (cs.getD i default).start)
  rw [carsS_len] at a b
  refine ⟨a, ?_⟩
  rw [b, show carS (cs.getD i default) S.lim.length = (cs.getD i default).start :: t by rw [hk]; exact h2]
  simp
theorem supR_last (S : Site) (cs : List Car) {M i : Nat} (h : nodeF S.lim.length i S.lim.length + 1 < M) :
    ((carsS S cs i ++ carS (cs.getD i default) S.lim.length) ++ List.replicate (M - nodeF S.lim.length i S.lim.length) 0).getD (nodeF S.lim.length i S.lim.length + 1) 0 = 0 ∧
    ((carsS S cs i ++ carS (cs.getD i default) S.lim.length) ++ List.replicate (M - nodeF S.lim.length i S.lim.length) 0).set (nodeF S.lim.length i S.lim.length + 1) (-(cs.getD i default).fin) = supC S cs M (i + 1) := by
  obtain ⟨r, hr⟩ : ∃ r, M - nodeF S.lim.length i S.lim.length = r + 2 := ⟨M - nodeF S.lim.length i S.lim.length - 2, by omega⟩
  have hr2 : M - nodeF S.lim.length (i + 1) 0 = r := by rw [nodeF_next]; omega
  unfold supC
  rw [hr, hr2]
  have a := getD_at1 (P := carsS S cs i ++ carS (cs.getD i default) S.lim.length) (Z := List.replicate r 0) (a := 0) (b := 0)
  have b := set_at1 (P := carsS S cs i ++ carS (cs.getD i default) S.lim.length) (Z := List.replicate r 0) (a := 0) (b := 0) (x := -(cs.getD i default).fin)
  rw [pre_len] at a b
  refine ⟨a, ?_⟩
  show (carsS S cs i ++ carS (cs.getD i default) S.lim.length ++ 0 :: 0 :: List.replicate r 0).set _ _ = _
  rw [b]
  simp [carsS]
def supN (S : Site) (cs : List Car) : List Int := (carsS S cs cs.length).set 0 (-(sum (carsS S cs cs.length)))
def nodesN (S : Site) (cs : List Car) : Nat := nodeF S.lim.length cs.length 0
theorem supN_len (S : Site) (cs : List Car) : (supN S cs).length = nodesN S cs := by simp [supN, carsS_len, nodesN]
theorem supC_all (S : Site) (cs : List Car) : supC S cs (nodesN S cs) cs.length = carsS S cs cs.length := by simp [supC, nodesN]
theorem supC_none (S : Site) (cs : List Car) (hm : S.lim.length + 1 ≤ nodesN S cs) : supC S cs (nodesN S cs) 0 = List.replicate (nodesN S cs) 0 := by
  unfold supC
  show 0 :: List.replicate S.lim.length 0 ++ _ = _
  rw [← List.replicate_succ, ← List.replicate_append_replicate.symm]
  congr 1
  simp [nodeF]
  omega
theorem nodes_bd {S : Site} {cs : List Car} (h : stE S cs = 0) : nodesN S cs ≤ 833 ∧ S.lim.length + 1 ≤ nodesN S cs := by
  have h0 := stE_0 h
  have hn := (siteHead_iff.1 h0.2.1).1
  unfold nodesN nodeF
  have h2 : cs.length * (S.lim.length + 1) ≤ 8 * 49 := Nat.mul_le_mul (by omega) (by omega)
  omega
theorem node_lt {S : Site} {cs : List Car} {i k : Nat} (hi : i < cs.length) (hk : k ≤ S.lim.length) : nodeF S.lim.length i k + 1 < nodesN S cs := by
  unfold nodesN nodeF
  have h2 : (i + 1) * (S.lim.length + 1) ≤ cs.length * (S.lim.length + 1) := Nat.mul_le_mul hi (Nat.le_refl _)
  rw [Nat.add_mul] at h2
  omega
end Dp
end Go.Proofs.Ytmebpglkeedaoaa
namespace Go.Proofs.Ytmebpglkeedaoaa
namespace Dp
theorem carok_of {S : Site} {cs : List Car} (h : stE S cs = 0) {i : Nat} (hi : i < cs.length) : carOk S.lim.length (cs.getD i default) = true := (stE_0 h).2.2.2 i hi
theorem carS_bd {n : Nat} {c : Car} (h : carOk n c = true) : ∀ k x, x ∈ carS c k → -1048576 ≤ x ∧ x ≤ 1048576
  | 0, x, hx => by simp [carS] at hx
  | k + 1, x, hx => by
    simp only [carS, slS, List.mem_append, List.mem_cons, List.not_mem_nil, or_false] at hx
    have h1 := (carOk_iff.1 h).1
    have h2 := useC_bd h k
    rcases hx with hx | hx | hx
    · exact carS_bd h k x hx
    · subst hx; split <;> omega
    · subst hx; omega
theorem carsS_bd {S : Site} {cs : List Car} (h : stE S cs = 0) : ∀ i, i ≤ cs.length → ∀ x, x ∈ carsS S cs i → -1048576 ≤ x ∧ x ≤ 1048576
  | 0, _, x, hx => by
    simp only [carsS, List.mem_cons, List.mem_replicate] at hx
    rcases hx with hx | hx <;> omega
  | i + 1, hi, x, hx => by
    have hc := carok_of h (show i < cs.length by omega)
    have h1 := (carOk_iff.1 hc).1
    simp only [carsS, List.mem_append, List.mem_cons, List.not_mem_nil, or_false] at hx
    rcases hx with hx | hx | hx | hx
    · exact carsS_bd h i (by omega) x hx
    · exact carS_bd hc _ x hx
    · subst hx; omega
    · subst hx; omega
def sumT (l : List Int) (j : Nat) : Int := sum ((l.drop 1).take j)
theorem sumT_zero (l : List Int) : sumT l 0 = 0 := rfl
theorem sumT_succ (l : List Int) (j : Nat) (h : j + 1 < l.length) : sumT l (j + 1) = sumT l j + l.getD (j + 1) 0 := by
  unfold sumT
  rw [sum_take _ _ (by simp; omega)]
  congr 1
  simp only [List.getD_eq_getElem?_getD, List.getElem?_drop]
  rw [Nat.add_comm 1 j]
theorem sumT_all (l : List Int) (h0 : l.getD 0 0 = 0) (hl : 0 < l.length) : sumT l (l.length - 1) = sum l := by
  cases l with
  | nil => simp at hl
  | cons a t =>
    have ha : a = 0 := h0
    subst ha
    unfold sumT
    simp [sum]
theorem sumT_bd {l : List Int} (h : ∀ x, x ∈ l → -1048576 ≤ x ∧ x ≤ 1048576) (j : Nat) (hj : j ≤ 1024) : -1073741824 ≤ sumT l j ∧ sumT l j ≤ 1073741824 := by
  have h2 := sum_bd (B := 1048576) (by omega) ((l.drop 1).take j) (fun x hx => h x (List.mem_of_mem_drop (List.mem_of_mem_take hx)))
  have h3 : ((l.drop 1).take j).length ≤ 1024 := by rw [List.length_take]; omega
  unfold sumT
  omega
theorem carsS_head (S : Site) (cs : List Car) : ∀ i, (carsS S cs i).getD 0 0 = 0
  | 0 => rfl
  | i + 1 => by
    have h := carsS_head S cs i
    have hl : 0 < (carsS S cs i).length := by rw [carsS_len]; unfold nodeF; omega
    simp only [carsS, List.getD_eq_getElem?_getD] at h ⊢
    rw [List.getElem?_append_left hl]
    exact h
def egA (c : Car) (k : Nat) (l left : Int) : Int := if awayC c k = true then 0 else max 0 (min (min c.inn (c.cap - l)) left)
def egW (S : Site) (cs : List Car) (L : Nat → Int) (k : Nat) : Nat → Int
  | 0 => S.lim.getD k 0
  | i + 1 => egW S cs L k i - egA (cs.getD i default) k (L i) (egW S cs L k i)
def egL (S : Site) (cs : List Car) : Nat → Nat → Int
  | 0, i => (cs.getD i default).start
  | k + 1, i => egL S cs k i + egA (cs.getD i default) k (egL S cs k i) (egW S cs (egL S cs k) k i) - useC (cs.getD i default) k
def egV (S : Site) (cs : List Car) (k i : Nat) : Int := egW S cs (egL S cs k) k i
def egX (S : Site) (cs : List Car) (i k : Nat) : Int := egA (cs.getD i default) k (egL S cs k i) (egV S cs k i)
theorem egV_succ (S : Site) (cs : List Car) (k i : Nat) : egV S cs k (i + 1) = egV S cs k i - egX S cs i k := rfl
theorem egL_succ (S : Site) (cs : List Car) (k i : Nat) : egL S cs (k + 1) i = egL S cs k i + egX S cs i k - useC (cs.getD i default) k := rfl
theorem egA_bd {c : Car} {k : Nat} {l left : Int} (h : 0 ≤ c.inn ∧ c.inn ≤ 1048576) : 0 ≤ egA c k l left ∧ egA c k l left ≤ 1048576 := by
  unfold egA
  split <;> omega
theorem egL_bd {S : Site} {cs : List Car} (h : stE S cs = 0) {i : Nat} (hi : i < cs.length) : ∀ k : Nat, -(1048576 * (k : Int)) ≤ egL S cs k i ∧ egL S cs k i ≤ 1048576 * ((k : Int) + 1)
  | 0 => by
    have h1 := (carOk_iff.1 (carok_of h hi)).1
    simp only [egL]; omega
  | k + 1 => by
    have h1 := (carOk_iff.1 (carok_of h hi)).1
    have h2 := egL_bd h hi k
    have h3 := useC_bd (carok_of h hi) k
    have h4 := egA_bd (c := cs.getD i default) (k := k) (l := egL S cs k i) (left := egV S cs k i) h1.2.1
    rw [egL_succ]
    unfold egX
    omega
theorem egX_bd {S : Site} {cs : List Car} (h : stE S cs = 0) {i : Nat} (hi : i < cs.length) (k : Nat) : 0 ≤ egX S cs i k ∧ egX S cs i k ≤ 1048576 := egA_bd (carOk_iff.1 (carok_of h hi)).1.2.1
theorem egV_bd {S : Site} {cs : List Car} (h : stE S cs = 0) {k : Nat} (hk : k < S.lim.length) : ∀ i : Nat, i ≤ cs.length → -(1048576 * (i : Int)) ≤ egV S cs k i ∧ egV S cs k i ≤ 1048576
  | 0, _ => by
    have h1 := slotOk_iff.1 ((stE_0 h).2.2.1 k hk)
    have : egV S cs k 0 = S.lim.getD k 0 := rfl
    omega
  | i + 1, hi => by
    have h2 := egV_bd h hk i (by omega)
    have h3 := egX_bd h (show i < cs.length by omega) k
    rw [egV_succ]
    omega
theorem egL_lev {S : Site} {cs : List Car} {i n K : Nat} (hK : K ≤ n) : ∀ k, k ≤ K → lev (cs.getD i default) (rowK (egX S cs i) n K) (List.replicate n 0) k = egL S cs k i
  | 0, _ => rfl
  | k + 1, hk => by
    rw [lev, egL_lev hK k (by omega), egL_succ, rowK_get (by omega), if_pos (by omega)]
    have : (List.replicate n (0 : Int)).getD k 0 = 0 := by simp [List.getD_eq_getElem?_getD, List.getElem?_replicate]; split <;> rfl
    rw [this]
    omega
def egT (S : Site) (cs : List Car) : Tab := ⟨(List.range cs.length).map fun i => rowK (egX S cs i) S.lim.length S.lim.length, (List.range cs.length).map fun _ => List.replicate S.lim.length 0⟩
def egE (S : Site) (cs : List Car) : Int := if stE S cs = 0 then (if plE S cs (egT S cs) = 0 then 0 else 18) else stE S cs
end Dp
end Go.Proofs.Ytmebpglkeedaoaa
namespace Go.Proofs.Ytmebpglkeedaoaa
open Go.RowKit Dp
theorem useP_none {l : List Trip} {k : Int} : ∀ j, (∀ i, i < j → (l.getD i default).fr ≠ k) → useP l k j = 0
  | 0, _ => rfl
  | j + 1, h => by
    unfold useP
    rw [if_neg (h j (by omega))]
    exact useP_none j (fun i hi => h i (by omega))
theorem awayP_yes {l : List Trip} {k : Int} {j : Nat} (h : (l.getD j default).fr ≤ k ∧ k < (l.getD j default).to) : ∀ n, j < n → awayP l k n = true
  | 0, hn => by omega
  | n + 1, hn => by
    unfold awayP
    by_cases e : n = j
    · subst e; rw [decide_eq_true h]; simp
    · rw [awayP_yes h n (by omega)]; rfl
set_option maxHeartbeats 1000000 in
set_option maxRecDepth 100000 in
theorem away_c (v0 v1 v2 v3 v4 : Value) (k : Int) (T : Option Addr) (l : List Trip) (n cT : Nat) (w : World) (hn : n = l.length) (hc : n ≤ cT ∧ cT ≤ 9223372036854775807) (hT : TripsAt w T l) :
    Calls Try.prog 84 #[.agg #[v0, v1, v2, v3, v4, .slice T n cT], .int .i64 k] w fun e w' => e = .returned (.bool (awayP l k n)) ∧ Below w.heap.size w w' := by
  have HN := Lib.hid hn
  have HT := Lib.hid hT
  clear hn hT
  have X := Lib.hid (Blk.new' w #[v0, v1, v2, v3, v4, .slice T n cT] 63)
  have HB := Lib.hid ((Below.refl w.heap.size w).alloc (Nat.le_refl _) (.cells #[v0, v1, v2, v3, v4, .slice T n cT] 63))
  have HT1 := Lib.hid (HT.out.below HB.out (Nat.le_refl _))
  go_enter Try.func84, Try.ntmps84
  go_upto_region 1 with fail
  generalize w.alloc (.cells #[v0, v1, v2, v3, v4, .slice T n cT] 63) = w1 at X HB HT1 ⊢
  have c5 := X.out.cell 5 rfl
  go_wp2_with fail
  go_loop [5] (fun i => ∃ j : Nat, j ≤ n ∧ i = .int .i64 j ∧ Hid (awayP l k j = false)) (fun i => n - (intOf i).toNat)
  case atStart => exact ⟨0, Nat.zero_le _, rfl, Lib.hid rfl⟩
  case round =>
    obtain ⟨j, hj, rfl, HJ⟩ := hrel
    by_cases hlt : j < n
    · have hji : (j : Int) < (n : Int) := by omega
      obtain ⟨ad, rfl, abl, t0, t1, t2⟩ := HT1.out j (by rw [← HN.out]; exact hlt)
      have HA := Lib.hid (show awayP l k (j + 1) = (awayP l k j || decide ((l.getD j default).fr ≤ k ∧ k < (l.getD j default).to)) from rfl)
      have HY := Lib.hid (fun h => awayP_yes (l := l) (k := k) (j := j) h n hlt)
      generalize l.getD j default = t at *
      obtain ⟨fr, «to», us⟩ := t
      simp only at t0 t1 t2 HA HY
      by_cases h1 : fr ≤ k
      · by_cases h2 : k < «to»
        · go_wp2_with fail
          exact bodyPost_ret (v := .bool true) (by simp [results, Try.results84, go_sem]) rfl ⟨by rw [HY.out ⟨h1, h2⟩], HB.out⟩
        · go_wp2_with fail
          exact ⟨⟨j + 1, by omega, by go_num, Lib.hid (by rw [HA.out, HJ.out, decide_eq_false (fun h => h2 h.2)]; rfl)⟩, by simp [intOf]; omega⟩
      · go_wp2_with fail
        exact ⟨⟨j + 1, by omega, by go_num, Lib.hid (by rw [HA.out, HJ.out, decide_eq_false (fun h => h1 h.1)]; rfl)⟩, by simp [intOf]; omega⟩
    · obtain rfl : j = n := by omega
      go_wp2_with fail
      exact bodyPost_ret (v := .bool false) (by simp [results, Try.results84, go_sem]) rfl ⟨by rw [HJ.out], HB.out⟩
set_option maxHeartbeats 1000000 in
set_option maxRecDepth 100000 in
theorem use_c (v0 v1 v2 v3 v4 : Value) (k cap : Int) (N : Nat) (T : Option Addr) (l : List Trip) (n cT : Nat) (w : World) (hn : n = l.length) (hc : n ≤ cT ∧ cT ≤ 9223372036854775807) (hT : TripsAt w T l) (hok : ∀ j, j < l.length → tripOk cap N l j = true) :
    Calls Try.prog 86 #[.agg #[v0, v1, v2, v3, v4, .slice T n cT], .int .i64 k] w fun e w' => e = .returned (.int .i64 (useP l k n)) ∧ Below w.heap.size w w' := by
  have HN := Lib.hid hn
  have HT := Lib.hid hT
  have HK := Lib.hid hok
  clear hn hT hok
  have X := Lib.hid (Blk.new' w #[v0, v1, v2, v3, v4, .slice T n cT] 63)
  have HB := Lib.hid ((Below.refl w.heap.size w).alloc (Nat.le_refl _) (.cells #[v0, v1, v2, v3, v4, .slice T n cT] 63))
  have HT1 := Lib.hid (HT.out.below HB.out (Nat.le_refl _))
  go_enter Try.func86, Try.ntmps86
  go_upto_region 1 with fail
  generalize w.alloc (.cells #[v0, v1, v2, v3, v4, .slice T n cT] 63) = w1 at X HB HT1 ⊢
  have c5 := X.out.cell 5 rfl
  go_wp2_with fail
  go_loop [5] (fun i => ∃ j : Nat, j ≤ n ∧ i = .int .i64 j ∧ Hid (∀ i, i < j → (l.getD i default).fr ≠ k)) (fun i => n - (intOf i).toNat)
  case atStart => exact ⟨0, Nat.zero_le _, rfl, Lib.hid (fun i hi => absurd hi (Nat.not_lt_zero _))⟩
  case round =>
    obtain ⟨j, hj, rfl, HJ⟩ := hrel
    by_cases hlt : j < n
    · have hji : (j : Int) < (n : Int) := by omega
      obtain ⟨ad, rfl, abl, t0, t1, t2⟩ := HT1.out j (by rw [← HN.out]; exact hlt)
      have HY := Lib.hid (useP_at HK.out (j := j) (by rw [← HN.out]; exact hlt) n hlt (by rw [← HN.out]; exact Nat.le_refl _))
      have HS : Hid ((l.getD j default).fr ≠ k → ∀ i, i < j + 1 → (l.getD i default).fr ≠ k) := Lib.hid (fun h i hi => by
        by_cases e : i = j
        · subst e; exact h
        · exact HJ.out i (by omega))
      generalize l.getD j default = t at *
      obtain ⟨fr, «to», us⟩ := t
      simp only at t0 t1 t2 HY HS
      by_cases h1 : fr = k
      · subst h1
        go_wp2_with fail
        exact bodyPost_ret (v := .int .i64 us) (by simp [results, Try.results86, go_sem]) rfl ⟨by rw [HY.out], HB.out⟩
      · have h1b : (fr == k) = false := by simp [h1]
        have HR := Lib.hid (HS.out h1)
        go_wp2_with fail
        exact ⟨⟨j + 1, by omega, by go_num, HR⟩, by simp [intOf]; omega⟩
    · obtain rfl : j = n := by omega
      have HZ := Lib.hid (useP_none (l := l) (k := k) j HJ.out)
      go_wp2_with fail
      exact bodyPost_ret (v := .int .i64 0) (by simp [results, Try.results86, go_sem]) rfl ⟨by rw [HZ.out], HB.out⟩
set_option maxRecDepth 100000 in
theorem node_ref (n i k : Nat) (hn : n ≤ 48) (hi : i ≤ 8) (hk : k ≤ 48) (w : World) : Calls Try.prog 109 #[.int .i64 n, .int .i64 i, .int .i64 k] w fun e w' => e = .returned (.int .i64 ((nodeF n i k : Nat) : Int)) ∧ w = w' := by
  have h1 : i * (n + 1) ≤ 8 * 49 := Nat.mul_le_mul hi (by omega)
  have e1 : (i : Int) * ((n : Int) + 1) = ((i * (n + 1) : Nat) : Int) := by rw [Int.natCast_mul]; rfl
  have HE : Hid ((1 + (n : Int)) + 2 * (((i * (n + 1) : Nat) : Int) + k) = ((nodeF n i k : Nat) : Int)) := Lib.hid (by unfold nodeF; omega)
  generalize i * (n + 1) = q at *
  have w1 : IntKind.i64.wrap (1 + (n : Int)) = 1 + (n : Int) := IntWalk.i64_in _ (by omega)
  have w2 : IntKind.i64.wrap ((n : Int) + 1) = (n : Int) + 1 := IntWalk.i64_in _ (by omega)
  have w3 : IntKind.i64.wrap ((q : Int)) = (q : Int) := IntWalk.i64_in _ (by omega)
  have w4 : IntKind.i64.wrap ((q : Int) + k) = (q : Int) + k := IntWalk.i64_in _ (by omega)
  have w5 : IntKind.i64.wrap (2 * ((q : Int) + k)) = 2 * ((q : Int) + k) := IntWalk.i64_in _ (by omega)
  have w6 : IntKind.i64.wrap ((1 + (n : Int)) + 2 * ((q : Int) + k)) = (1 + (n : Int)) + 2 * ((q : Int) + k) := IntWalk.i64_in _ (by omega)
  go_enter Try.func109, Try.ntmps109
  go_wp2_with fail
  exact bodyPost_ret (v := .int .i64 (((nodeF n i k : Nat) : Int))) (by simp [results, Try.results109, go_sem]; rw [← HE.out]) rfl ⟨rfl, rfl⟩
end Go.Proofs.Ytmebpglkeedaoaa
namespace Go.Proofs.Ytmebpglkeedaoaa
namespace Dp
def prQ (S : Site) (T : Tab) (m k : Nat) : Int := max 0 (drP T k m) * S.buy.getD k 0 + min 0 (drP T k m) * S.sell.getD k 0
def prc (S : Site) (T : Tab) (m : Nat) : Nat → Int
  | 0 => 0
  | k + 1 => prc S T m k + prQ S T m k
theorem mul_in {a b A B : Int} (ha : 0 ≤ a ∧ a ≤ A) (hb : 0 ≤ b ∧ b ≤ B) : 0 ≤ a * b ∧ a * b ≤ A * B :=
  ⟨Int.mul_nonneg ha.1 hb.1, Int.mul_le_mul ha.2 hb.2 hb.1 (by omega)⟩
theorem mul_neg {a b A B : Int} (ha : -A ≤ a ∧ a ≤ 0) (hb : 0 ≤ b ∧ b ≤ B) : -(A * B) ≤ a * b ∧ a * b ≤ 0 := by
  have h := mul_in (a := -a) (A := A) (by omega) hb
  rw [Int.neg_mul] at h
  omega
theorem prQ_bd {S : Site} {T : Tab} {m k : Nat} (hs : slotOk S k = true) (hb : SlotBd T k m) (h8 : m ≤ 8) :
    (0 ≤ max 0 (drP T k m) * S.buy.getD k 0 ∧ max 0 (drP T k m) * S.buy.getD k 0 ≤ 8796093022208) ∧ (-8796093022208 ≤ min 0 (drP T k m) * S.sell.getD k 0 ∧ min 0 (drP T k m) * S.sell.getD k 0 ≤ 0) := by
  have h1 := slotOk_iff.1 hs
  have h2 := drP_bd hb m (Nat.le_refl _)
  exact ⟨mul_in (A := 8388608) (B := 1048576) (by omega) (by omega), mul_neg (A := 8388608) (B := 1048576) (by omega) (by omega)⟩
theorem prc_bd {S : Site} {T : Tab} {m : Nat} (h8 : m ≤ 8) : ∀ k : Nat, (∀ j, j < k → slotOk S j = true ∧ SlotBd T j m) → -(8796093022208 * (k : Int)) ≤ prc S T m k ∧ prc S T m k ≤ 8796093022208 * (k : Int)
  | 0, _ => by simp [prc]
  | k + 1, h => by
    have h1 := prc_bd h8 k (fun j hj => h j (by omega))
    have h2 := prQ_bd (h k (by omega)).1 (h k (by omega)).2 h8
    simp only [prc, prQ]
    omega
theorem prQ_pos {S : Site} {T : Tab} {m k : Nat} (h : 0 < drP T k m) : prQ S T m k = drP T k m * S.buy.getD k 0 := by
  unfold prQ
  rw [show max 0 (drP T k m) = drP T k m by omega, show min 0 (drP T k m) = 0 by omega]; omega
theorem prQ_neg {S : Site} {T : Tab} {m k : Nat} (h : ¬ 0 < drP T k m) : prQ S T m k = drP T k m * S.sell.getD k 0 := by
  unfold prQ
  rw [show max 0 (drP T k m) = 0 by omega, show min 0 (drP T k m) = drP T k m by omega]; omega
def prcV (S : Site) (cs : List Car) (T : Tab) : Int := if plE S cs T = 0 then prc S T cs.length S.lim.length else 0
theorem Keeps.slot {S : Site} {cs : List Car} {T : Tab} (h : Keeps S cs T) {k : Nat} (hk : k < S.lim.length) : SlotBd T k cs.length := by
  intro i hi
  have h1 := carG_iff.1 (h.car k hk i hi)
  have h2 := (carOk_iff.1 (h.carok hi)).1
  have h3 := h.ri i hi
  have h4 := h.ro i hi
  omega
theorem Keeps.rows {S : Site} {cs : List Car} {T : Tab} (h : Keeps S cs T) {i : Nat} (hi : i < cs.length) : RowBd S.lim.length (T.inn.getD i []) ∧ RowBd S.lim.length (T.out.getD i []) := by
  refine ⟨⟨h.ri i hi, fun k hk => ?_⟩, ⟨h.ro i hi, fun k hk => ?_⟩⟩
  · exact (h.slot hk i hi).2.1
  · exact (h.slot hk i hi).2.2
end Dp
end Go.Proofs.Ytmebpglkeedaoaa
namespace Go.Proofs.Ytmebpglkeedaoaa
open Go.RowKit Dp
theorem own_form {W : World} {B e z n cap : Nat} {A : Option Addr} {xs : List Value} (h : W.ownsRow B e z (.slice A n cap) n xs) (hn : 0 < n) : ∃ g, A = some ⟨g, 0, none⟩ ∧ B ≤ g ∧ g < W.heap.size ∧ n ≤ cap ∧ cap ≤ 9223372036854775807 := by
  rcases h.2 with ⟨h1, h2⟩ | ⟨g, c, cur, hv, hb, hg, hnc, hcm, _⟩
  · simp only [Value.slice.injEq] at h1; omega
  · simp only [Value.slice.injEq, true_and] at hv
    obtain ⟨rfl, rfl⟩ := hv
    exact ⟨g, rfl, hb, (Array.getElem?_eq_some_iff.1 hg).1, hnc, by unfold maxLen at hcm; omega⟩
theorem grown_ne {W V : World} {B e z n cap g : Nat} {A : Option Addr} {xs cs : List Value} {t : TypeId} (hb : Blk W g t cs) (h : W.ownsRow B e z (.slice A n cap) n xs) (hg : W.grownBy V (Value.slice A n cap).ownBlock) (hB : g < B) : Blk V g t cs :=
  hb.grown hg (fun q => by have := (World.ownsRow.lt h g q.symm).1; omega)
set_option maxHeartbeats 2000000 in
set_option maxRecDepth 100000 in
theorem levelsR_c (cap inn out start fin : Int) (trips : List Trip) (xs ys : List Int) (T P Q : Option Addr) (q n cT cP cQ : Nat) (w : World) (hq : q = trips.length) (hcT : q ≤ cT ∧ cT ≤ 9223372036854775807) (hT : TripsAt w T trips) (hc : carOk n ⟨cap, inn, out, start, fin, trips⟩ = true)
    (h48 : n ≤ 48) (hP : n ≤ cP ∧ cP ≤ 9223372036854775807) (hQ : n ≤ cQ ∧ cQ ≤ 9223372036854775807) (hX : IntsAt w P xs) (hY : IntsAt w Q ys) (bx : RowBd n xs) (bY : RowBd n ys) :
    Calls Try.prog 83 #[.agg #[.int .i64 cap, .int .i64 inn, .int .i64 out, .int .i64 start, .int .i64 fin, .slice T q cT], .slice P n cP, .slice Q n cQ] w fun e w' => ∃ g c, e = .returned (.slice (some ⟨g, 0, none⟩) (n + 1) c) ∧ OwnI w.heap.size w' g c (lvN ⟨cap, inn, out, start, fin, trips⟩ xs ys (n + 1)) ∧ Below w.heap.size w w' := by
  have HQ := Lib.hid hq
  have HT := Lib.hid hT
  have HX := Lib.hid hX
  have HY := Lib.hid hY
  have HU : Hid (∀ k V, Below w.heap.size w V → Calls Try.prog 86 #[.agg #[.int .i64 cap, .int .i64 inn, .int .i64 out, .int .i64 start, .int .i64 fin, .slice T q cT], .int .i64 ((k : Nat) : Int)] V fun e w' => e = .returned (.int .i64 (useC ⟨cap, inn, out, start, fin, trips⟩ k)) ∧ Below V.heap.size V w') := Lib.hid (fun k V hV => by
    have := use_c (.int .i64 cap) (.int .i64 inn) (.int .i64 out) (.int .i64 start) (.int .i64 fin) k _ n T trips q cT V hq hcT (hT.below hV (Nat.le_refl _)) (carOk_iff.1 hc).2
    rw [show useC ⟨cap, inn, out, start, fin, trips⟩ k = useP trips k q from by rw [hq]; rfl]
    exact this)
  have HBX := Lib.hid bx
  have HBY := Lib.hid bY
  have HLB := Lib.hid (fun k (hk : k ≤ n) => lev_bd hc bx bY k hk)
  have HUB := Lib.hid (fun k => useC_bd hc k)
  have HLS := Lib.hid (fun k => (show lev ⟨cap, inn, out, start, fin, trips⟩ xs ys (k + 1) = lev ⟨cap, inn, out, start, fin, trips⟩ xs ys k + (xs.getD k 0 - ys.getD k 0 - useC ⟨cap, inn, out, start, fin, trips⟩ k) from rfl))
  have HL0 : Hid (lvN ⟨cap, inn, out, start, fin, trips⟩ xs ys 1 = [start]) := Lib.hid rfl
  have HSB : Hid (-9223372036854775808 ≤ start ∧ start ≤ 9223372036854775807) := Lib.hid (by have := (carOk_iff.1 hc).1; simp only at this; omega)
  clear hq hT hX hY bx bY hc
  generalize hcar : (⟨cap, inn, out, start, fin, trips⟩ : Car) = C at *
  clear hcar
  have HB := Lib.hid (((Below.refl w.heap.size w).alloc (Nat.le_refl _) (.cells #[.int .i64 cap, .int .i64 inn, .int .i64 out, .int .i64 start, .int .i64 fin, .slice T q cT] 63)).alloc (by simp) (.cells #[.int .i64 start] 2))
  have XC := Lib.hid ((Blk.new' w #[.int .i64 cap, .int .i64 inn, .int .i64 out, .int .i64 start, .int .i64 fin, .slice T q cT] 63).alloc (.cells #[.int .i64 start] 2))
  have XO : Hid (OwnI (w.heap.size + 1) ((w.alloc (.cells #[.int .i64 cap, .int .i64 inn, .int .i64 out, .int .i64 start, .int .i64 fin, .slice T q cT] 63)).alloc (.cells #[.int .i64 start] 2)) (w.heap.size + 1) 1 (lvN C xs ys 1)) := Lib.hid (by
    rw [HL0.out]
    have := World.ownsRow_lit (base := w.heap.size + 1) (w.alloc (.cells #[.int .i64 cap, .int .i64 inn, .int .i64 out, .int .i64 start, .int .i64 fin, .slice T q cT] 63)) (e := 2) (size := 1) #[.int .i64 start] 1 (by simp) (by unfold maxLen; omega) rfl
    simpa [OwnI] using this)
  obtain ⟨i2, h2i, h2z, h2s, h2b⟩ := info_parts info2
  go_enter Try.func83, Try.ntmps83
  go_upto_region 2 with fail
  (try simp only [World.size_alloc])
  generalize (w.alloc (.cells #[.int .i64 cap, .int .i64 inn, .int .i64 out, .int .i64 start, .int .i64 fin, .slice T q cT] 63)).alloc (.cells #[.int .i64 start] 2) = w1 at HB XC XO ⊢
  go_wp2_with fail
  go_loopw [7, 8] (fun lv iv wr => ∃ (j g c : Nat), j ≤ n ∧ iv = .int .i64 j ∧ lv = .slice (some ⟨g, 0, none⟩) (j + 1) c ∧ Hid (OwnI (w.heap.size + 1) wr g c (lvN C xs ys (j + 1)) ∧ Below w.heap.size w wr ∧ Blk wr w.heap.size 63 [.int .i64 cap, .int .i64 inn, .int .i64 out, .int .i64 start, .int .i64 fin, .slice T q cT])) (fun _ iv _ => n - (intOf iv).toNat)
  case atStart => exact ⟨0, w.heap.size + 1, 1, Nat.zero_le _, rfl, rfl, Lib.hid ⟨XO.out, HB.out, XC.out⟩⟩
  case round =>
    clear HB XC XO
    obtain ⟨j, g, c, hj, rfl, rfl, HJ⟩ := hrel
    have HO := Lib.hid HJ.out.1
    have HB := Lib.hid HJ.out.2.1
    have XC := Lib.hid HJ.out.2.2
    clear HJ
    by_cases hlt : j < n
    · have hji : (j : Int) < (n : Int) := by omega
      have hjj : (j : Int) < (j : Int) + 1 := by omega
      obtain ⟨pa, rfl, pal, px⟩ := (HX.out.below HB.out (Nat.le_refl _)) j (by rw [HBX.out.1]; exact hlt)
      obtain ⟨qa, rfl, qal, qx⟩ := (HY.out.below HB.out (Nat.le_refl _)) j (by rw [HBY.out.1]; exact hlt)
      have b1 := HBX.out.2 j hlt
      have b2 := HBY.out.2 j hlt
      have b3 := HLB.out j hj
      have b4 := HUB.out j
      have HV := Lib.hid (HLS.out j)
      have HN2 := Lib.hid (lvN_succ C xs ys (j + 1))
      have ow := HO.out.cell j (by rw [lvN_len]; omega)
      rw [lvN_get (by omega)] at ow
      have HUU := Lib.hid (HU.out j)
      have gl := HO.out.lt.2
      generalize xs.getD j 0 = x at *
      generalize ys.getD j 0 = y at *
      generalize useC C j = u at *
      generalize lev C xs ys (j + 1) = lv1 at *
      generalize lev C xs ys j = lv at *
      have w1e : IntKind.i64.wrap (lv - y) = lv - y := IntWalk.i64_in _ (by omega)
      have w2e : IntKind.i64.wrap (lv - y + x) = lv - y + x := IntWalk.i64_in _ (by omega)
      have w3e : IntKind.i64.wrap (lv - y + x - u) = lv - y + x - u := IntWalk.i64_in _ (by omega)
      have HV2 : Hid (lv - y + x - u = lv1) := Lib.hid (by rw [HV.out]; omega)
      have pb2 : (pa.add j).block < wr.heap.size := by rw [block_add]; exact pal
      have qb2 : (qa.add j).block < wr.heap.size := by rw [block_add]; exact qal
      have e0 := XC.out.cell 0 rfl
      have e1 := XC.out.cell 1 rfl
      have e2 := XC.out.cell 2 rfl
      have e3 := XC.out.cell 3 rfl
      have e4 := XC.out.cell 4 rfl
      have e5 := XC.out.cell 5 rfl
      have el := XC.out.lt
      clear b1 b2 b3 b4 HV
      go_upto_region 5 with fail
      refine wp_region_priv 20 [.q, .q, .q, .q, .q, .q, .q, .q, .q, .q, .q, .q, .q, .q, .q, .q, .q, .q, .q, .p] (fun _ => (.cells #[.int .i64 (lv - y + x - u)] 2, fun b => .slice (some ⟨b, 0, none⟩) 1 1)) ?af (by kernel_rfl) (by kernel_rfl) ?walk ?tail
      case walk =>
        intro V hV
        have pv := (hV.cell pb2).trans px
        have qv := (hV.cell qb2).trans qx
        have ov := (hV.cell (p := ⟨g, j, none⟩) gl).trans ow
        have e0v := (hV.cell (p := ⟨w.heap.size, 0, none⟩) el).trans e0
        have e1v := (hV.cell (p := ⟨w.heap.size, 1, none⟩) el).trans e1
        have e2v := (hV.cell (p := ⟨w.heap.size, 2, none⟩) el).trans e2
        have e3v := (hV.cell (p := ⟨w.heap.size, 3, none⟩) el).trans e3
        have e4v := (hV.cell (p := ⟨w.heap.size, 4, none⟩) el).trans e4
        have e5v := (hV.cell (p := ⟨w.heap.size, 5, none⟩) el).trans e5
        have pb3 := Nat.lt_of_lt_of_le pb2 hV.size
        have qb3 := Nat.lt_of_lt_of_le qb2 hV.size
        have gl3 := Nat.lt_of_lt_of_le gl hV.size
        have el3 := Nat.lt_of_lt_of_le el hV.size
        have HBV := Lib.hid (HB.out.trans (hV.mono HB.out.size))
        clear hV
        simp only [List.take_succ_cons, List.take_zero]
        repeat (with_reducible refine wpP_q ?_; go_big_quiet_step ((go_at_call 86; exact past_below (HUU.out _ (HBV.out.trans ((Past.far _).mono HBV.out.size))))); with_reducible refine wpQuiet_nil ?_)
        refine wpP_p (by kernel_rfl) (fun _ => by kernel_rfl) ?_
        (try simp only [Act.put, List.setIfInBounds_toArray, List.set_cons_zero, List.set_cons_succ])
        with_reducible refine wpP_nil ?_
        rfl
      intro gs w3 hb3 hgs _
      have HB3 := Lib.hid (HB.out.trans (hb3.mono HB.out.size))
      have XC3 := Lib.hid (XC.out.below hb3 XC.out.lt)
      have HO3 := Lib.hid (HO.out.below hb3)
      obtain ⟨_, hgb⟩ := hgs 19 rfl
      have GB : Hid (Blk w3 (gs 19) 2 [.int .i64 (lv - y + x - u)]) := Lib.hid hgb
      clear hb3 hgs hgb HB XC HO e0 e1 e2 e3 e4 e5 ow px qx pb2 qb2 gl el pal qal
      simp only [List.drop_succ_cons, List.drop_zero, List.take_succ_cons, List.take_zero, fillP]
      (try simp only [Act.put, List.setIfInBounds_toArray, List.set_cons_zero, List.set_cons_succ])
      generalize gs 19 = gb at *
      have OO : Hid (w3.ownsRow (w.heap.size + 1) 2 1 (.slice (some ⟨g, 0, none⟩) (j + 1) c) (j + 1) ((lvN C xs ys (j + 1)).map (.int .i64))) := Lib.hid (by have := HO3.out; unfold OwnI at this; rwa [lvN_len] at this)
      go_wp2_with (at_builtin; refine wpList_append_any (.tmp 18) (.tmp 37) 22 rfl rfl (w.heap.size + 1) 2 i2 (.int .i64 0) 1 8 Try.underlying22 h2i h2z h2s h2b rfl (by decide) (some ⟨g, 0, none⟩) (j + 1) c ((lvN C xs ys (j + 1)).map (.int .i64)) (by rfl) OO.out (some ⟨gb, 0, none⟩) 1 1 [.int .i64 (lv - y + x - u)] (by rfl) (by rfl) (.inr ⟨_, rfl, fun k u hk => by rcases k with _ | k <;> simp at hk; subst hk; exact GB.out.cell 0 rfl⟩) (by simp [Value.oneCell']) (by unfold maxLen; omega) (by omega) (by have := XC3.out.lt; omega) ?_; intro A3 c3 w4 hown hgrow hat; obtain ⟨g3, rfl, hg31, hg32, _, _⟩ := own_form hown (by omega); have HO4 : Hid (OwnI (w.heap.size + 1) w4 g3 c3 (lvN C xs ys (j + 1 + 1))) := Lib.hid (by unfold OwnI; rw [lvN_len, HN2.out, List.map_append, ← HV2.out]; exact hown); have HB4 := Lib.hid (HB3.out.grown hgrow HB3.out.size (fun k e => by have := (World.ownsRow.lt OO.out k e).1; omega)); have XC4 := Lib.hid (grown_ne XC3.out OO.out hgrow (Nat.lt_succ_self _)); clear hown hgrow hat hg31 hg32)
      exact ⟨⟨j + 1, g3, c3, by omega, by go_num, rfl, Lib.hid ⟨HO4.out, HB4.out, XC4.out⟩⟩, by simp [intOf]; omega⟩
    · obtain rfl : j = n := by omega
      go_wp2_with fail
      exact bodyPost_ret (v := .slice (some ⟨g, 0, none⟩) (j + 1) c) (by simp [results, Try.results83, go_sem]) rfl ⟨g, c, rfl, HO.out.mono (Nat.le_succ _), HB.out⟩
end Go.Proofs.Ytmebpglkeedaoaa
namespace Go.Proofs.Ytmebpglkeedaoaa
open Go.RowKit Dp
theorem levG_hi {c : Car} {x y : List Int} {n k : Nat} (h : c.cap < lev c x y k) : levG c x y n k = false := decide_eq_false (fun e => by omega)
theorem levG_out {c : Car} {x y : List Int} {n k : Nat} (hk : k < n) (h : lev c x y k < y.getD k 0) : levG c x y n k = false := decide_eq_false (fun e => by unfold least at e; rw [if_pos hk] at e; omega)
theorem levG_use {c : Car} {x y : List Int} {n k : Nat} (hk : k < n) (h : lev c x y k < useC c k) : levG c x y n k = false := decide_eq_false (fun e => by unfold least at e; rw [if_pos hk] at e; omega)
theorem levG_fin {c : Car} {x y : List Int} {n : Nat} (h : lev c x y n < c.fin) : levG c x y n n = false := decide_eq_false (fun e => by unfold least at e; rw [if_neg (Nat.lt_irrefl _)] at e; omega)
theorem levG_in {c : Car} {x y : List Int} {n k : Nat} (hk : k < n) (h1 : lev c x y k ≤ c.cap) (h2 : y.getD k 0 ≤ lev c x y k) (h3 : useC c k ≤ lev c x y k) : levG c x y n k = true := decide_eq_true (by unfold least; rw [if_pos hk]; omega)
theorem levG_end {c : Car} {x y : List Int} {n : Nat} (h1 : lev c x y n ≤ c.cap) (h2 : c.fin ≤ lev c x y n) : levG c x y n n = true := decide_eq_true (by unfold least; rw [if_neg (Nat.lt_irrefl _)]; omega)
noncomputable def loop41c : Code := ((Try.f41.body.bind (blockOf 8)).getD .skip)
noncomputable def end41c : Code := ((Try.f41.body.bind (behind 8)).getD .skip)
def R41 (S : Site) (cs : List Car) (T : Tab) (w : World) : Ending → World → Prop := fun e w' => e = .returned (.int .i64 (plE S cs T)) ∧ Below w.heap.size w w'
set_option maxHeartbeats 8000000 in
set_option maxRecDepth 100000 in
theorem plr8 (A B C D E P Q : Option Addr) (S : Site) (cs : List Car) (T : Tab) (n nB nC nD m cA cB cC cD cE cP cQ : Nat) (w W0 : World) (bt : Nat) (hn : n = S.lim.length) (hm : m = cs.length) (hE : m ≤ cE ∧ cE ≤ 9223372036854775807) (hP : m ≤ cP ∧ cP ≤ 9223372036854775807) (hQ : m ≤ cQ ∧ cQ ≤ 9223372036854775807)
    (h0 : stE S cs = 0) (hl : (lenG cs.length S.lim.length T.inn && lenG cs.length S.lim.length T.out) = true) (hsl : ∀ j, j < S.lim.length → slotE S cs T j = 0) (hcs : CarsAt w E cs) (hT : TabAt w P Q T) (hX : Blk W0 bt 55 [.slice P m cP, .slice Q m cQ]) (hB : Below w.heap.size w W0)
    {K : Act → World → Prop} (hK : ∀ a w', Code.wp Try.prog end41c (bodyPost Try.prog Try.f41 (R41 S cs T w)) a w' → K a w') {x0 x2 x4 x6 x8 x9 x10 x11 x12 x14 x15 x16 x17 x18 x19 x20 x21 x22 x23 x24 x25 x26 x27 x28 x29 x30 x31 x32 x33 x34 x35 x36 x37 x38 x39 x40 x41 x42 x43 x44 x45 x46 x47 x48 x49 x50 x51 x52 x53 x54 x55 x56 x57 x58 x59 x60 x61 x62 x63 x64 x65 x66 x67 x68 x69 x70 x71 x72 x73 x74 x75 x76 x77 x78 x79 x80 x81 x82 x83 x84 x85 x86 x87 x88 x89 x90 x91 x92 x93 x94 x95 x96 x97 x98 x99 x100 x101 x102 x103 x104 x105 x106 x107 x108 x109 x110 x111 x112 x113 x114 x115 x116 x117 x118 x119 x120 x121 x122 x123 x124 x125 x126 x127 x128 x129 x130 x131 x132 x133 x134 x135 x136 x137 x138 x139 x140 x141 x142 x143 x144 x145 x146 x147 x148 x149 x150 x151 x152 x153 x154 x155 x156 x157 x158 x159 x160 x161 x162 x163 x164 x165 x166 x167 x168 x169 x170 x171 x172 x173 x174 x175 x176 x177 x178 x179 x180 x181 x182 x183 x184 x185 x186 x187 x188 x189 x190 x191 x192 x193 x194 x195 x196 x197 x198 x199 x200 x201 x202 x203 x204 x205 x206 x207 x208 x209 x210 x211 x212 x213 x214 x215 x216 x217 x218 x219 x220 x221 x222 x223 x224 x225 x226 x227 x228 : Value} :
    Code.wp Try.prog loop41c (Exit.inBlock 8 (Exit.then K (bodyPost Try.prog Try.f41 (R41 S cs T w)))) { tmps := List.toArray (x0 :: (.slice E m cE : Value) :: x2 :: (.pointer (some ⟨w.heap.size, 0, none⟩) : Value) :: x4 :: (.pointer (some ⟨bt, 0, none⟩) : Value) :: x6 :: (.int .i64 n : Value) :: x8 :: x9 :: x10 :: x11 :: x12 :: (.int .i64 0 : Value) :: x14 :: x15 :: x16 :: x17 :: x18 :: x19 :: x20 :: x21 :: x22 :: x23 :: x24 :: x25 :: x26 :: x27 :: x28 :: x29 :: x30 :: x31 :: x32 :: x33 :: x34 :: x35 :: x36 :: x37 :: x38 :: x39 :: x40 :: x41 :: x42 :: x43 :: x44 :: x45 :: x46 :: x47 :: x48 :: x49 :: x50 :: x51 :: x52 :: x53 :: x54 :: x55 :: x56 :: x57 :: x58 :: x59 :: x60 :: x61 :: x62 :: x63 :: x64 :: x65 :: x66 :: x67 :: x68 :: x69 :: x70 :: x71 :: x72 :: x73 :: x74 :: x75 :: x76 :: x77 :: x78 :: x79 :: x80 :: x81 :: x82 :: x83 :: x84 :: x85 :: x86 :: x87 :: x88 :: x89 :: x90 :: x91 :: x92 :: x93 :: x94 :: x95 :: x96 :: x97 :: x98 :: x99 :: x100 :: x101 :: x102 :: x103 :: x104 :: x105 :: x106 :: x107 :: x108 :: x109 :: x110 :: x111 :: x112 :: x113 :: x114 :: x115 :: x116 :: x117 :: x118 :: x119 :: x120 :: x121 :: x122 :: x123 :: x124 :: x125 :: x126 :: x127 :: x128 :: x129 :: x130 :: x131 :: x132 :: x133 :: x134 :: x135 :: x136 :: x137 :: x138 :: x139 :: x140 :: x141 :: x142 :: x143 :: x144 :: x145 :: x146 :: x147 :: x148 :: x149 :: x150 :: x151 :: x152 :: x153 :: x154 :: x155 :: x156 :: x157 :: x158 :: x159 :: x160 :: x161 :: x162 :: x163 :: x164 :: x165 :: x166 :: x167 :: x168 :: x169 :: x170 :: x171 :: x172 :: x173 :: x174 :: x175 :: x176 :: x177 :: x178 :: x179 :: x180 :: x181 :: x182 :: x183 :: x184 :: x185 :: x186 :: x187 :: x188 :: x189 :: x190 :: x191 :: x192 :: x193 :: x194 :: x195 :: x196 :: x197 :: x198 :: x199 :: x200 :: x201 :: x202 :: x203 :: x204 :: x205 :: x206 :: x207 :: x208 :: x209 :: x210 :: x211 :: x212 :: x213 :: x214 :: x215 :: x216 :: x217 :: x218 :: x219 :: x220 :: x221 :: x222 :: x223 :: x224 :: x225 :: x226 :: x227 :: x228 :: []), defers := [] } W0 := by
  have HN := Lib.hid hn
  have HM := Lib.hid hm
  have H0 := Lib.hid h0
  have HL := Lib.hid hl
  have HLG : Hid ((T.inn.length = cs.length ∧ ∀ i, i < cs.length → (T.inn.getD i []).length = S.lim.length) ∧ (T.out.length = cs.length ∧ ∀ i, i < cs.length → (T.out.getD i []).length = S.lim.length)) := Lib.hid (by
    rw [Bool.and_eq_true] at hl
    exact ⟨lenG_iff.1 hl.1, lenG_iff.1 hl.2⟩)
  have HSL := Lib.hid hsl
  have HCS := Lib.hid hcs
  have HT := Lib.hid hT
  have XT := Lib.hid hX
  have HB := Lib.hid hB
  have h48 : n ≤ 48 := by have h3 := (siteHead_iff.1 (stE_0 h0).2.1).1; omega
  clear hn hm h0 hl hsl hcs hT hX hB
  conv => arg 2; whnf
  go_loopw [13, 14, 15, 16] (fun iv _ _ _ wr => ∃ i : Nat, i ≤ m ∧ iv = .int .i64 i ∧ Hid (Below W0.heap.size W0 wr ∧ ∀ x, x < i → ∀ k, k ≤ S.lim.length → levG (cs.getD x default) (T.inn.getD x []) (T.out.getD x []) S.lim.length k = true)) (fun iv _ _ _ _ => m - (intOf iv).toNat)
  case atStart => exact ⟨0, Nat.zero_le _, rfl, Lib.hid ⟨Below.refl _ _, fun x hx => absurd hx (Nat.not_lt_zero _)⟩⟩
  case round =>
    obtain ⟨i, hi, rfl, HJ⟩ := hrel
    have HBW := Lib.hid (HB.out.trans (HJ.out.1.mono HB.out.size))
    by_cases hlt : i < m
    · have hii : (i : Int) < (m : Int) := by omega
      have il : i < cs.length := by rw [← HM.out]; exact hlt
      have HGO : Hid ((∀ k, k ≤ S.lim.length → levG (cs.getD i default) (T.inn.getD i []) (T.out.getD i []) S.lim.length k = true) → ∀ x, x < i + 1 → ∀ k, k ≤ S.lim.length → levG (cs.getD x default) (T.inn.getD x []) (T.out.getD x []) S.lim.length k = true) := Lib.hid (fun h x hx => by
        by_cases e : x = i
        · subst e; exact h
        · exact HJ.out.2 x (by omega))
      have HBAD : Hid (∀ k, k ≤ S.lim.length → levG (cs.getD i default) (T.inn.getD i []) (T.out.getD i []) S.lim.length k = false → plE S cs T = 19) := Lib.hid (fun k hk h => plE_lev H0.out HL.out HSL.out il hk h)
      have HRB := Lib.hid (row_bd H0.out HL.out (fun k hk x hx => slotE_cars (HSL.out k hk) x hx) il)
      have HOK := Lib.hid ((stE_0 H0.out).2.2.2 i il)
      obtain ⟨ad, hE2, abl, c0, c1, c2, c3, c4, TT, cT, c5, hcT, HTT⟩ := (HCS.out.below HBW.out (Nat.le_refl _)) i il
      subst hE2
      have HTR := Lib.hid HTT
      clear HTT
      obtain ⟨pa, hP2, pal, PT, cPT, p0, pb, pi⟩ := (HT.out.below HBW.out (Nat.le_refl _)).1 i (by rw [HLG.out.1.1]; exact il)
      obtain ⟨qa, hQ2, qal, QT, cQT, q0, qb, qi⟩ := (HT.out.below HBW.out (Nat.le_refl _)).2 i (by rw [HLG.out.2.1]; exact il)
      subst hP2
      subst hQ2
      have L1 := HLG.out.1.2 i il
      have L2 := HLG.out.2.2 i il
      rw [L1, ← HN.out] at p0 pb
      rw [L2, ← HN.out] at q0 qb
      rw [← HN.out] at HGO HBAD HRB HOK
      generalize hcc : cs.getD i default = c at *
      clear hcc
      obtain ⟨cap, inn, out, start, fin, trips⟩ := c
      simp only at c0 c1 c2 c3 c4 c5 hcT HTR
      generalize T.inn.getD i [] = xr at *
      generalize T.out.getD i [] = yr at *
      obtain ⟨qn, hqn⟩ : ∃ qn, qn = trips.length := ⟨_, rfl⟩
      rw [← hqn] at c5 hcT
      have HQN := Lib.hid hqn
      have HPI := Lib.hid pi
      have HQI := Lib.hid qi
      have HXL := Lib.hid (L1.trans HN.out.symm)
      have HYL := Lib.hid (L2.trans HN.out.symm)
      clear hqn pi qi L1 L2
      have HUS : Hid (∀ (k : Nat) V, Below wr.heap.size wr V → Calls Try.prog 86 #[.agg #[.int .i64 cap, .int .i64 inn, .int .i64 out, .int .i64 start, .int .i64 fin, .slice TT qn cT], .int .i64 ((k : Nat) : Int)] V fun e w' => e = .returned (.int .i64 (useC ⟨cap, inn, out, start, fin, trips⟩ k)) ∧ Below V.heap.size V w') := Lib.hid (fun k V hV => by
        have := use_c (.int .i64 cap) (.int .i64 inn) (.int .i64 out) (.int .i64 start) (.int .i64 fin) k _ n TT trips qn cT V HQN.out hcT (HTR.out.below hV (Nat.le_refl _)) (carOk_iff.1 HOK.out).2
        rw [show useC ⟨cap, inn, out, start, fin, trips⟩ k = useP trips k qn from by rw [HQN.out]; rfl]
        exact this)
      have HLC : Hid (∀ V, Below wr.heap.size wr V → Calls Try.prog 83 #[.agg #[.int .i64 cap, .int .i64 inn, .int .i64 out, .int .i64 start, .int .i64 fin, .slice TT qn cT], .slice PT n cPT, .slice QT n cQT] V fun e w' => ∃ g c, e = .returned (.slice (some ⟨g, 0, none⟩) (n + 1) c) ∧ OwnI V.heap.size w' g c (lvN ⟨cap, inn, out, start, fin, trips⟩ xr yr (n + 1)) ∧ Below V.heap.size V w') := Lib.hid (fun V hV => levelsR_c cap inn out start fin trips xr yr TT PT QT qn n cT cPT cQT V HQN.out hcT (HTR.out.below hV (Nat.le_refl _)) HOK.out h48 pb qb (HPI.out.below hV (Nat.le_refl _)) (HQI.out.below hV (Nat.le_refl _)) HRB.out.1 HRB.out.2)
      have HP0 : Hid (∀ V, Below wr.heap.size wr V → (V.cell? (pa.add i) = some (.slice PT n cPT) ∧ (pa.add i).block < V.heap.size) ∧ (V.cell? (qa.add i) = some (.slice QT n cQT) ∧ (qa.add i).block < V.heap.size)) := Lib.hid (fun V hV => by
        have k := hV.size
        exact ⟨⟨(hV.cell (by rw [block_add]; omega)).trans p0, by rw [block_add]; omega⟩, ⟨(hV.cell (by rw [block_add]; omega)).trans q0, by rw [block_add]; omega⟩⟩)
      have HY0 : Hid (∀ k, k < n → ∀ V, Below wr.heap.size wr V → ∃ qd, QT = some qd ∧ V.cell? (qd.add k) = some (.int .i64 (yr.getD k 0)) ∧ (qd.add k).block < V.heap.size) := Lib.hid (fun k hk V hV => by
        obtain ⟨qd, e, h1, h2⟩ := (HQI.out.below hV (Nat.le_refl _)) k (by rw [HYL.out]; exact hk)
        exact ⟨qd, e, h2, by rw [block_add]; exact h1⟩)
      have HXT : Hid (∀ V, Below wr.heap.size wr V → Blk V bt 55 [.slice (some pa) m cP, .slice (some qa) m cQ]) := Lib.hid (fun V hV => XT.out.below (HJ.out.1.trans (hV.mono HJ.out.1.size)) XT.out.lt)
      clear p0 q0 pal qal
      go_upto_region 33 with fail
      have HWX := Lib.hid ((Below.refl wr.heap.size wr).alloc (Nat.le_refl _) (.cells #[.int .i64 cap, .int .i64 inn, .int .i64 out, .int .i64 start, .int .i64 fin, .slice TT qn cT] 63))
      have XC := Lib.hid (Blk.new' wr #[.int .i64 cap, .int .i64 inn, .int .i64 out, .int .i64 start, .int .i64 fin, .slice TT qn cT] 63)
      clear c0 c1 c2 c3 c4 c5 abl
      generalize wr.alloc (.cells #[.int .i64 cap, .int .i64 inn, .int .i64 out, .int .i64 start, .int .i64 fin, .slice TT qn cT] 63) = wx at HWX XC ⊢
      obtain ⟨gc, hgc⟩ : ∃ gc, gc = wr.heap.size := ⟨_, rfl⟩
      rw [← hgc] at XC ⊢
      have HGC := Lib.hid hgc
      clear hgc
      refine wp_region_then 11 _ ?af rfl (by kernel_rfl) (by kernel_rfl) ?walk ?tail
      case walk =>
        intro V hV
        have hWV := HWX.out.trans (hV.mono HWX.out.size)
        obtain ⟨⟨pa0, pab⟩, ⟨qa0, qab⟩⟩ := HP0.out V hWV
        have XCV := XC.out.below hV XC.out.lt
        have e0 := XCV.cell 0 rfl
        have e1 := XCV.cell 1 rfl
        have e2 := XCV.cell 2 rfl
        have e3 := XCV.cell 3 rfl
        have e4 := XCV.cell 4 rfl
        have e5 := XCV.cell 5 rfl
        have el := XCV.lt
        clear XCV
        have XTV := HXT.out V hWV
        have t0 := XTV.cell 0 rfl
        have t1 := XTV.cell 1 rfl
        have tl := XTV.lt
        clear XTV
        clear hWV hV
        simp only [List.take_succ_cons, List.take_zero]
        repeat (go_big_quiet_step (fail))
        refine wpQuiet_nil ?_
        rfl
      intro w8 hb8
      have HW8 := Lib.hid (HWX.out.trans (hb8.mono HWX.out.size))
      have XC8 := Lib.hid (XC.out.below hb8 XC.out.lt)
      clear hb8 XC HWX
      go_simp
      refine (HLC.out w8 HW8.out).mono ?_
      rintro e w9 ⟨g, cg, rfl, ho9, hb9⟩
      have HO9 := Lib.hid ho9
      have HW9 := Lib.hid (HW8.out.trans (hb9.mono HW8.out.size))
      have XC9 := Lib.hid (XC8.out.below hb9 XC8.out.lt)
      clear ho9 hb9 HW8 XC8 HLC
      dsimp only
      (try simp only [Act.put, List.setIfInBounds_toArray, List.set_cons_zero, List.set_cons_succ])
      go_big_quiet_step (fail)
      refine wpQuiet_nil ?_
      intro xx
      have HO := Lib.hid (HO9.out.below xx.far)
      have HWY := Lib.hid (HW9.out.trans (xx.far.mono HW9.out.size))
      have XC := Lib.hid (XC9.out.below xx.far XC9.out.lt)
      generalize xx.w = wy at HO HWY XC ⊢
      clear HO9 HW9 XC9
      go_wp2_with fail
      go_loopw [16] (fun kv wr => ∃ k : Nat, k ≤ n + 1 ∧ kv = .int .i64 k ∧ Hid (Below wy.heap.size wy wr ∧ ∀ j, j < k → levG ⟨cap, inn, out, start, fin, trips⟩ xr yr n j = true)) (fun kv _ => n + 1 - (intOf kv).toNat)
      case atStart => exact ⟨0, Nat.zero_le _, rfl, Lib.hid ⟨Below.refl _ _, fun x hx => absurd hx (Nat.not_lt_zero _)⟩⟩
      case round =>
        obtain ⟨k, hk, rfl, HZ⟩ := hrel
        have HWZ := Lib.hid (HWY.out.trans (HZ.out.1.mono HWY.out.size))
        by_cases hlt3 : k < n + 1
        · have hki : (k : Int) ≤ (n : Int) := by omega
          have HG1 : Hid (levG ⟨cap, inn, out, start, fin, trips⟩ xr yr n k = true → ∀ j, j < k + 1 → levG ⟨cap, inn, out, start, fin, trips⟩ xr yr n j = true) := Lib.hid (fun h j hj => by
            by_cases e : j = k
            · subst e; exact h
            · exact HZ.out.2 j (by omega))
          have HB1 := Lib.hid (HBAD.out k (by omega))
          have ow := (HO.out.below HZ.out.1).cell k (by rw [lvN_len]; exact hlt3)
          rw [lvN_get hlt3] at ow
          have gl := (HO.out.below HZ.out.1).lt.2
          have XCV := XC.out.below HZ.out.1 XC.out.lt
          have e0 := XCV.cell 0 rfl
          have e1 := XCV.cell 1 rfl
          have e2 := XCV.cell 2 rfl
          have e3 := XCV.cell 3 rfl
          have e4 := XCV.cell 4 rfl
          have e5 := XCV.cell 5 rfl
          have el := XCV.lt
          clear XCV
          have HUK := Lib.hid (HUS.out k)
          have HV0 : Hid ((useC ⟨cap, inn, out, start, fin, trips⟩ k = useC ⟨cap, inn, out, start, fin, trips⟩ k) ∧ lev ⟨cap, inn, out, start, fin, trips⟩ xr yr k = lev ⟨cap, inn, out, start, fin, trips⟩ xr yr k) := Lib.hid ⟨rfl, rfl⟩
          have HLO := Lib.hid (fun (hk : k < n) h => HB1.out (levG_out (c := ⟨cap, inn, out, start, fin, trips⟩) (x := xr) (y := yr) hk h))
          have HLU := Lib.hid (fun (hk : k < n) h => HB1.out (levG_use (c := ⟨cap, inn, out, start, fin, trips⟩) (x := xr) (y := yr) hk h))
          have HLH := Lib.hid (fun h => HB1.out (levG_hi (c := ⟨cap, inn, out, start, fin, trips⟩) (x := xr) (y := yr) (n := n) (k := k) h))
          have HLI := Lib.hid (fun (hk : k < n) h1 h2 h3 => HG1.out (levG_in (c := ⟨cap, inn, out, start, fin, trips⟩) (x := xr) (y := yr) hk h1 h2 h3))
          have HLF : Hid (k = n → lev ⟨cap, inn, out, start, fin, trips⟩ xr yr k < fin → plE S cs T = 19) := Lib.hid (fun e h => HB1.out (by subst e; exact levG_fin (c := ⟨cap, inn, out, start, fin, trips⟩) h))
          have HLE : Hid (k = n → lev ⟨cap, inn, out, start, fin, trips⟩ xr yr k ≤ cap → fin ≤ lev ⟨cap, inn, out, start, fin, trips⟩ xr yr k → ∀ j, j < k + 1 → levG ⟨cap, inn, out, start, fin, trips⟩ xr yr n j = true) := Lib.hid (fun e h1 h2 => HG1.out (by subst e; exact levG_end (c := ⟨cap, inn, out, start, fin, trips⟩) h1 h2))
          clear HV0
          generalize lev ⟨cap, inn, out, start, fin, trips⟩ xr yr k = lv at *
          generalize useC ⟨cap, inn, out, start, fin, trips⟩ k = u at *
          simp only at HLH HLI HLO HLU
          by_cases g1 : cap < lv
          · have EE := Lib.hid (HLH.out g1)
            go_upto_region 37 with fail
            refine wp_region_past (by kernel_rfl) (by kernel_rfl) ?_
            repeat (go_big_quiet_step (fail))
            refine wpQuiet_nil ?_
            intro xx
            have HZ2 := Lib.hid (HZ.out.1.trans (xx.far.mono HZ.out.1.size))
            have HE2 := Lib.hid (HWZ.out.trans (xx.far.mono HWZ.out.size))
            generalize xx.w = w3 at HZ2 HE2 ⊢
            go_wp2_with fail
            go_ret
            exact ⟨ret_int EE.out.symm, HBW.out.trans (HE2.out.mono HBW.out.size)⟩
          by_cases hkn : k < n
          · have hkni : (k : Int) < (n : Int) := by omega
            have hkne : ((k : Int) == (n : Int)) = false := by simp; omega
            obtain ⟨qd, hqd, qd0, qdb⟩ := HY0.out k hkn wr HWZ.out
            subst hqd
            obtain ⟨_, ⟨qa0, qab⟩⟩ := HP0.out wr HWZ.out
            have XTV := HXT.out wr HWZ.out
            have t0 := XTV.cell 0 rfl
            have t1 := XTV.cell 1 rfl
            have tl := XTV.lt
            clear XTV
            generalize yr.getD k 0 = y at *
            by_cases g2 : lv < y
            · have EE := Lib.hid (HLO.out hkn g2)
              go_upto_region 37 with fail
              refine wp_region_past (by kernel_rfl) (by kernel_rfl) ?_
              repeat (go_big_quiet_step (fail))
              refine wpQuiet_nil ?_
              intro xx
              have HZ2 := Lib.hid (HZ.out.1.trans (xx.far.mono HZ.out.1.size))
              have HE2 := Lib.hid (HWZ.out.trans (xx.far.mono HWZ.out.size))
              generalize xx.w = w3 at HZ2 HE2 ⊢
              go_wp2_with fail
              go_ret
              exact ⟨ret_int EE.out.symm, HBW.out.trans (HE2.out.mono HBW.out.size)⟩
            by_cases g3 : lv < u
            · have EE := Lib.hid (HLU.out hkn g3)
              go_upto_region 37 with fail
              refine wp_region_past (by kernel_rfl) (by kernel_rfl) ?_
              repeat (go_big_quiet_step ((go_at_call 86; exact past_below (HUK.out _ (HWZ.out.trans ((Past.far _).mono HWZ.out.size))))))
              refine wpQuiet_nil ?_
              intro xx
              have HZ2 := Lib.hid (HZ.out.1.trans (xx.far.mono HZ.out.1.size))
              have HE2 := Lib.hid (HWZ.out.trans (xx.far.mono HWZ.out.size))
              generalize xx.w = w3 at HZ2 HE2 ⊢
              go_wp2_with fail
              go_ret
              exact ⟨ret_int EE.out.symm, HBW.out.trans (HE2.out.mono HBW.out.size)⟩
            · have EE := Lib.hid (HLI.out hkn (by omega) (by omega) (by omega))
              go_upto_region 37 with fail
              refine wp_region_past (by kernel_rfl) (by kernel_rfl) ?_
              repeat (go_big_quiet_step ((go_at_call 86; exact past_below (HUK.out _ (HWZ.out.trans ((Past.far _).mono HWZ.out.size))))))
              refine wpQuiet_nil ?_
              intro xx
              have HZ2 := Lib.hid (HZ.out.1.trans (xx.far.mono HZ.out.1.size))
              have HE2 := Lib.hid (HWZ.out.trans (xx.far.mono HWZ.out.size))
              generalize xx.w = w3 at HZ2 HE2 ⊢
              go_wp2_with fail
              exact ⟨⟨k + 1, by omega, by go_num, Lib.hid ⟨HZ2.out, EE.out⟩⟩, by simp [intOf]; omega⟩
          · have hkn2 : k = n := by omega
            have EF := Lib.hid (HLF.out hkn2)
            have EG := Lib.hid (HLE.out hkn2)
            have hkni : ¬ (k : Int) < (n : Int) := by omega
            have hkne : ((k : Int) == (n : Int)) = true := by rw [hkn2]; exact beq_self_eq_true _
            clear HLF HLE HLO HLU HLI hkn2
            by_cases g2 : lv < fin
            · have EE := Lib.hid (EF.out g2)
              go_upto_region 37 with fail
              refine wp_region_past (by kernel_rfl) (by kernel_rfl) ?_
              repeat (go_big_quiet_step (fail))
              refine wpQuiet_nil ?_
              intro xx
              have HZ2 := Lib.hid (HZ.out.1.trans (xx.far.mono HZ.out.1.size))
              have HE2 := Lib.hid (HWZ.out.trans (xx.far.mono HWZ.out.size))
              generalize xx.w = w3 at HZ2 HE2 ⊢
              go_wp2_with fail
              go_ret
              exact ⟨ret_int EE.out.symm, HBW.out.trans (HE2.out.mono HBW.out.size)⟩
            · have EE := Lib.hid (EG.out (by omega) (by omega))
              go_upto_region 37 with fail
              refine wp_region_past (by kernel_rfl) (by kernel_rfl) ?_
              repeat (go_big_quiet_step (fail))
              refine wpQuiet_nil ?_
              intro xx
              have HZ2 := Lib.hid (HZ.out.1.trans (xx.far.mono HZ.out.1.size))
              have HE2 := Lib.hid (HWZ.out.trans (xx.far.mono HWZ.out.size))
              generalize xx.w = w3 at HZ2 HE2 ⊢
              go_wp2_with fail
              exact ⟨⟨k + 1, by omega, by go_num, Lib.hid ⟨HZ2.out, EE.out⟩⟩, by simp [intOf]; omega⟩
        · obtain rfl : k = n + 1 := by omega
          have hki : ¬ ((n + 1 : Nat) : Int) ≤ (n : Int) := by omega
          have HFIN := Lib.hid (HGO.out (fun j hj => HZ.out.2 j (by omega)))
          have HFW := Lib.hid (HJ.out.1.trans (HWZ.out.mono HJ.out.1.size))
          rw [HN.out] at HFIN
          go_wp2_with fail
          go_roundw
          case measure => simp [intOf]; omega
          case rel => exact ⟨i + 1, by omega, by go_num, Lib.hid ⟨HFW.out, HFIN.out⟩⟩
    · obtain rfl : m = i := by omega
      have EE := Lib.hid (plE_good H0.out HL.out HSL.out (fun x hx => HJ.out.2 x (by rw [HM.out]; exact hx)))
      go_wp2_with fail
      conv => arg 2; whnf
      go_wp2_with fail
      go_ret
      exact ⟨ret_int EE.out.symm, HBW.out⟩
end Go.Proofs.Ytmebpglkeedaoaa
namespace Go.Proofs.Ytmebpglkeedaoaa
open Go.RowKit Dp
set_option maxHeartbeats 1000000 in
set_option maxRecDepth 100000 in
theorem drawnR_c (A B : Option Addr) (T : Tab) (m mo cA cB k : Nat) (w : World) (hm : m = T.inn.length) (hmo : mo = T.out.length) (hmm : m ≤ mo) (h8 : m ≤ 8) (hA : m ≤ cA ∧ cA ≤ 9223372036854775807) (hB : mo ≤ cB ∧ cB ≤ 9223372036854775807) (hT : TabAt w A B T) (hS : SlotBd T k m) :
    Calls Try.prog 85 #[.agg #[.slice A m cA, .slice B mo cB], .int .i64 k] w fun e w' => e = .returned (.int .i64 (drP T k m)) ∧ Below w.heap.size w w' := by
  have HM := Lib.hid hm
  have HMO := Lib.hid hmo
  have HT := Lib.hid hT
  have HS := Lib.hid hS
  have HD := Lib.hid (drP_bd hS)
  clear hm hmo hT hS
  have X := Lib.hid (Blk.new' w #[.slice A m cA, .slice B mo cB] 55)
  have HB := Lib.hid ((Below.refl w.heap.size w).alloc (Nat.le_refl _) (.cells #[.slice A m cA, .slice B mo cB] 55))
  go_enter Try.func85, Try.ntmps85
  go_upto_region 1 with fail
  generalize w.alloc (.cells #[.slice A m cA, .slice B mo cB] 55) = w1 at X HB ⊢
  go_wp2_with fail
  go_loopw [5, 6] (fun s i wr => ∃ j : Nat, j ≤ m ∧ i = .int .i64 j ∧ s = .int .i64 (drP T k j) ∧ Hid (Below w.heap.size w wr ∧ Blk wr w.heap.size 55 [.slice A m cA, .slice B mo cB])) (fun _ i _ => m - (intOf i).toNat)
  case atStart => exact ⟨0, Nat.zero_le _, rfl, rfl, Lib.hid ⟨HB.out, X.out⟩⟩
  case round =>
    obtain ⟨j, hj, rfl, rfl, HW⟩ := hrel
    have c0 := HW.out.2.cell 0 rfl
    have lt0 := HW.out.2.lt
    by_cases hlt : j < m
    · have hji : (j : Int) < (m : Int) := by omega
      have hjo : (j : Int) < (mo : Int) := by omega
      obtain ⟨ad, rfl, abl, P, cP, p0, pb, pi⟩ := (HT.out.1.below HW.out.1 (Nat.le_refl _)) j (by rw [← HM.out]; exact hlt)
      obtain ⟨bd, rfl, bbl, Q, cQ, q0, qb, qi⟩ := (HT.out.2.below HW.out.1 (Nat.le_refl _)) j (by rw [← HMO.out]; omega)
      have hs := HS.out j hlt
      obtain ⟨pd, rfl, pbl, px⟩ := pi k hs.1.1
      obtain ⟨qd, rfl, qbl, qx⟩ := qi k hs.1.2
      have hkp : (k : Int) < ((T.inn.getD j []).length : Int) := by omega
      have hkq : (k : Int) < ((T.out.getD j []).length : Int) := by omega
      have hb := HD.out j (by omega)
      have hb2 := hs.2
      have HST := Lib.hid (show drP T k (j + 1) = drP T k j + ((T.inn.getD j []).getD k 0 - (T.out.getD j []).getD k 0) from rfl)
      clear hs pi qi
      generalize (T.inn.getD j []).getD k 0 = x at *
      generalize (T.out.getD j []).getD k 0 = y at *
      generalize (T.inn.getD j []).length = np at *
      generalize (T.out.getD j []).length = nq at *
      generalize drP T k j = d at *
      have c1 := HW.out.2.cell 1 rfl
      go_upto_region 5 with fail
      have w1e : IntKind.i64.wrap (x - y) = x - y := IntWalk.i64_in _ (by omega)
      have w2e : IntKind.i64.wrap (d + (x - y)) = d + (x - y) := IntWalk.i64_in _ (by omega)
      have ab2 : (ad.add j).block < wr.heap.size := by rw [block_add]; exact abl
      have bb2 : (bd.add j).block < wr.heap.size := by rw [block_add]; exact bbl
      have pb2 : (pd.add k).block < wr.heap.size := by rw [block_add]; exact pbl
      have qb2 : (qd.add k).block < wr.heap.size := by rw [block_add]; exact qbl
      clear hb hb2
      refine wp_region_past (by kernel_rfl) (by kernel_rfl) ?_
      repeat (go_big_quiet_step (fail))
      refine wpQuiet_nil ?_
      intro xx
      have HX := Lib.hid (HW.out.1.trans (xx.far.mono HW.out.1.size))
      have BX := Lib.hid (HW.out.2.below xx.far HW.out.2.lt)
      generalize xx.w = w3 at HX BX ⊢
      clear c0 c1 lt0 ab2 bb2 pb2 qb2 w1e w2e p0 q0 px qx
      go_wp2_with fail
      exact ⟨⟨j + 1, by omega, by go_num, by rw [HST.out], Lib.hid ⟨HX.out, BX.out⟩⟩, by simp [intOf]; omega⟩
    · obtain rfl : j = m := by omega
      go_wp2_with fail
      go_ret
      exact ⟨rfl, HW.out.1⟩
set_option maxHeartbeats 4000000 in
set_option maxRecDepth 100000 in
theorem price_c (A B C D P Q : Option Addr) (S : Site) (T : Tab) (n nB nC nD m mo cA cB cC cD cP cQ : Nat) (w : World) (hn : n = S.lim.length) (hnC : n = S.buy.length) (hnD : n = S.sell.length) (hm : m = T.inn.length) (hmo : mo = T.out.length) (hmm : m ≤ mo) (h8 : m ≤ 8) (h48 : n ≤ 48) (hC1 : nC = n) (hD1 : nD = n)
    (hP : m ≤ cP ∧ cP ≤ 9223372036854775807) (hQ : mo ≤ cQ ∧ cQ ≤ 9223372036854775807) (hS : SiteAt w A B C D S) (hT : TabAt w P Q T) (hB : ∀ k, k < n → slotOk S k = true ∧ SlotBd T k m) :
    Calls Try.prog 81 #[.agg #[.slice A nD cA, .slice B nB cB, .slice C nD cC, .slice D nD cD], .agg #[.slice P m cP, .slice Q mo cQ]] w fun e w' => e = .returned (.int .i64 (prc S T m n)) ∧ Below w.heap.size w w' := by
  subst hC1
  subst hD1
  have HN := Lib.hid hn
  have HC := Lib.hid hnC
  have HD := Lib.hid hnD
  have HM := Lib.hid hm
  have HMO := Lib.hid hmo
  have HS := Lib.hid hS
  have HT := Lib.hid hT
  have HBD := Lib.hid hB
  have F89 : Hid (∀ k V, k < nD → Below w.heap.size w V → Calls Try.prog 89 #[.agg #[.slice P m cP, .slice Q mo cQ], .int .i64 k] V fun e w' => e = .returned (.int .i64 (drP T k m)) ∧ Below V.heap.size V w') := Lib.hid (fun k V hk hV => drawn_c P Q T m mo cP cQ k V hm hmo hmm h8 hP hQ (hT.below hV (Nat.le_refl _)) (hB k hk).2)
  have HPB := Lib.hid (fun k (hk : k ≤ nD) => prc_bd (S := S) (T := T) h8 k (fun j hj => hB j (by omega)))
  have HQB := Lib.hid (fun k (hk : k < nD) => prQ_bd (hB k hk).1 (hB k hk).2 h8)
  clear hn hnC hnD hm hmo hS hT hB
  have HB := Lib.hid (((Below.refl w.heap.size w).alloc (Nat.le_refl _) (.cells #[.slice A nD cA, .slice B nB cB, .slice C nD cC, .slice D nD cD] 51)).alloc (by simp) (.cells #[.slice P m cP, .slice Q mo cQ] 55))
  have XS := Lib.hid ((Blk.new' w #[.slice A nD cA, .slice B nB cB, .slice C nD cC, .slice D nD cD] 51).alloc (.cells #[.slice P m cP, .slice Q mo cQ] 55))
  have XT := Lib.hid (show Blk ((w.alloc (.cells #[.slice A nD cA, .slice B nB cB, .slice C nD cC, .slice D nD cD] 51)).alloc (.cells #[.slice P m cP, .slice Q mo cQ] 55)) (w.heap.size + 1) 55 [.slice P m cP, .slice Q mo cQ] from by simpa using Blk.new' (w.alloc (.cells #[.slice A nD cA, .slice B nB cB, .slice C nD cC, .slice D nD cD] 51)) #[.slice P m cP, .slice Q mo cQ] 55)
  go_enter Try.func81, Try.ntmps81
  go_upto_region 1 with fail
  generalize (w.alloc (.cells #[.slice A nD cA, .slice B nB cB, .slice C nD cC, .slice D nD cD] 51)).alloc (.cells #[.slice P m cP, .slice Q mo cQ] 55) = w1 at HB XS XT ⊢
  have s0 := XS.out.cell 0 rfl
  go_wp2_with fail
  clear s0
  go_loopw [4, 5, 6, 10] (fun sv _ _ iv wr => ∃ j : Nat, j ≤ nD ∧ iv = .int .i64 j ∧ sv = .int .i64 (prc S T m j) ∧ Hid (Below w1.heap.size w1 wr)) (fun _ _ _ iv _ => nD - (intOf iv).toNat)
  case atStart => exact ⟨0, Nat.zero_le _, rfl, rfl, Lib.hid (Below.refl _ _)⟩
  case round =>
    obtain ⟨j, hj, rfl, rfl, HW⟩ := hrel
    have HX := Lib.hid (HB.out.trans (HW.out.mono HB.out.size))
    by_cases hlt : j < nD
    · have hji : (j : Int) < (nD : Int) := by omega
      have XTW := XT.out.below HW.out XT.out.lt
      have t0 := XTW.cell 0 rfl
      have t1 := XTW.cell 1 rfl
      have tl := XTW.lt
      clear XTW
      have HF := F89.out j wr hlt HX.out
      have HPV := HPB.out j hj
      have HQV := HQB.out j hlt
      have HST : Hid (prc S T m (j + 1) = prc S T m j + prQ S T m j) := Lib.hid rfl
      have HQD : Hid (prQ S T m j = max 0 (drP T j m) * S.buy.getD j 0 + min 0 (drP T j m) * S.sell.getD j 0) := Lib.hid rfl
      have HDD := Lib.hid (fun V (hV : Below w.heap.size w V) => (⟨(HS.out.below hV (Nat.le_refl _)).2.2.1 j (by rw [← HC.out]; exact hlt), (HS.out.below hV (Nat.le_refl _)).2.2.2 j (by rw [← HD.out]; exact hlt)⟩ : _ ∧ _))
      generalize S.buy.getD j 0 = by1 at *
      generalize S.sell.getD j 0 = se at *
      generalize drP T j m = d at *
      go_wp2_with fail
      refine HF.mono ?_
      rintro e w2 ⟨rfl, hb⟩
      have HW2 := Lib.hid (HW.out.trans (hb.mono HW.out.size))
      have HX2 := Lib.hid (HB.out.trans (HW2.out.mono HB.out.size))
      clear hb HF HX HW t0 t1 tl
      have XSW := XS.out.below HW2.out XS.out.lt
      have s2 := XSW.cell 2 rfl
      have s3 := XSW.cell 3 rfl
      have sl := XSW.lt
      clear XSW
      obtain ⟨⟨ba, hba, bal, bx⟩, sa, hsa, sal, sx⟩ := HDD.out w2 HX2.out
      rw [hba] at s2
      rw [hsa] at s3
      have ba2 : (ba.add j).block < w2.heap.size := by rw [block_add]; exact bal
      have sa2 : (sa.add j).block < w2.heap.size := by rw [block_add]; exact sal
      clear hba hsa HDD
      generalize prc S T m j = pv at *
      have hm1 := fun ts t W => maxTwo 0 d ts t W
      have hm2 := fun ts t W => minTwo 0 d ts t W
      generalize max 0 d = dx at *
      generalize min 0 d = dn at *
      obtain ⟨q1, hq1⟩ : ∃ q1, q1 = dx * by1 := ⟨_, rfl⟩
      obtain ⟨q2, hq2⟩ : ∃ q2, q2 = dn * se := ⟨_, rfl⟩
      rw [← hq1, ← hq2] at HQV
      have w1e : IntKind.i64.wrap (dx * by1) = q1 := by rw [← hq1]; exact IntWalk.i64_in _ (by omega)
      have w2e : IntKind.i64.wrap (dn * se) = q2 := by rw [← hq2]; exact IntWalk.i64_in _ (by omega)
      have w3e : IntKind.i64.wrap (q1 + q2) = q1 + q2 := IntWalk.i64_in _ (by omega)
      have w4e : IntKind.i64.wrap (pv + (q1 + q2)) = pv + (q1 + q2) := IntWalk.i64_in _ (by omega)
      have HE : Hid (prc S T m (j + 1) = pv + (q1 + q2)) := Lib.hid (by rw [HST.out, HQD.out, hq1, hq2])
      clear hq1 hq2 HPV HQV HQD HST
      go_upto_region 5 with fail
      refine wp_region_past (by kernel_rfl) (by kernel_rfl) ?_
      repeat (go_big_quiet_step (fail))
      refine wpQuiet_nil ?_
      intro xx
      have HY := Lib.hid (HW2.out.trans (xx.far.mono HW2.out.size))
      generalize xx.w = w3 at HY ⊢
      clear s2 s3 sl bal sal bx sx ba2 sa2 w1e w2e w3e w4e hm1 hm2
      go_wp2_with fail
      exact ⟨⟨j + 1, by omega, by go_num, by rw [HE.out], HY⟩, by simp [intOf]; omega⟩
    · obtain rfl : j = nD := by omega
      go_wp2_with fail
      go_ret
      exact ⟨rfl, HX.out⟩
set_option maxHeartbeats 4000000 in
set_option maxRecDepth 100000 in
theorem priceR_c (A B C D P Q : Option Addr) (S : Site) (T : Tab) (n nB nC nD m mo cA cB cC cD cP cQ : Nat) (w : World) (hn : n = S.lim.length) (hnC : n = S.buy.length) (hnD : n = S.sell.length) (hm : m = T.inn.length) (hmo : mo = T.out.length) (hmm : m ≤ mo) (h8 : m ≤ 8) (h48 : n ≤ 48) (hC1 : nC = n) (hD1 : nD = n)
    (hP : m ≤ cP ∧ cP ≤ 9223372036854775807) (hQ : mo ≤ cQ ∧ cQ ≤ 9223372036854775807) (hS : SiteAt w A B C D S) (hT : TabAt w P Q T) (hB : ∀ k, k < n → slotOk S k = true ∧ SlotBd T k m) :
    Calls Try.prog 82 #[.agg #[.slice A nD cA, .slice B nB cB, .slice C nD cC, .slice D nD cD], .agg #[.slice P m cP, .slice Q mo cQ]] w fun e w' => e = .returned (.int .i64 (prc S T m n)) ∧ Below w.heap.size w w' := by
  subst hC1
  subst hD1
  have HN := Lib.hid hn
  have HC := Lib.hid hnC
  have HD := Lib.hid hnD
  have HM := Lib.hid hm
  have HMO := Lib.hid hmo
  have HS := Lib.hid hS
  have HT := Lib.hid hT
  have HBD := Lib.hid hB
  have F89 : Hid (∀ k V, k < nD → Below w.heap.size w V → Calls Try.prog 85 #[.agg #[.slice P m cP, .slice Q mo cQ], .int .i64 k] V fun e w' => e = .returned (.int .i64 (drP T k m)) ∧ Below V.heap.size V w') := Lib.hid (fun k V hk hV => drawnR_c P Q T m mo cP cQ k V hm hmo hmm h8 hP hQ (hT.below hV (Nat.le_refl _)) (hB k hk).2)
  have HPB := Lib.hid (fun k (hk : k ≤ nD) => prc_bd (S := S) (T := T) h8 k (fun j hj => hB j (by omega)))
  have HQB := Lib.hid (fun k (hk : k < nD) => prQ_bd (hB k hk).1 (hB k hk).2 h8)
  clear hn hnC hnD hm hmo hS hT hB
  have HB := Lib.hid (((Below.refl w.heap.size w).alloc (Nat.le_refl _) (.cells #[.slice A nD cA, .slice B nB cB, .slice C nD cC, .slice D nD cD] 51)).alloc (by simp) (.cells #[.slice P m cP, .slice Q mo cQ] 55))
  have XS := Lib.hid ((Blk.new' w #[.slice A nD cA, .slice B nB cB, .slice C nD cC, .slice D nD cD] 51).alloc (.cells #[.slice P m cP, .slice Q mo cQ] 55))
  have XT := Lib.hid (show Blk ((w.alloc (.cells #[.slice A nD cA, .slice B nB cB, .slice C nD cC, .slice D nD cD] 51)).alloc (.cells #[.slice P m cP, .slice Q mo cQ] 55)) (w.heap.size + 1) 55 [.slice P m cP, .slice Q mo cQ] from by simpa using Blk.new' (w.alloc (.cells #[.slice A nD cA, .slice B nB cB, .slice C nD cC, .slice D nD cD] 51)) #[.slice P m cP, .slice Q mo cQ] 55)
  go_enter Try.func82, Try.ntmps82
  go_upto_region 1 with fail
  generalize (w.alloc (.cells #[.slice A nD cA, .slice B nB cB, .slice C nD cC, .slice D nD cD] 51)).alloc (.cells #[.slice P m cP, .slice Q mo cQ] 55) = w1 at HB XS XT ⊢
  go_wp2_with fail
  go_loopw [5, 6, 7] (fun sv iv _ wr => ∃ j : Nat, j ≤ nD ∧ iv = .int .i64 j ∧ sv = .int .i64 (prc S T m j) ∧ Hid (Below w1.heap.size w1 wr)) (fun _ iv _ _ => nD - (intOf iv).toNat)
  case atStart => exact ⟨0, Nat.zero_le _, rfl, rfl, Lib.hid (Below.refl _ _)⟩
  case round =>
    obtain ⟨j, hj, rfl, rfl, HW⟩ := hrel
    have HX := Lib.hid (HB.out.trans (HW.out.mono HB.out.size))
    have XSW := XS.out.below HW.out XS.out.lt
    have s0 := XSW.cell 0 rfl
    have sl := XSW.lt
    clear XSW
    by_cases hlt : j < nD
    · have hji : (j : Int) < (nD : Int) := by omega
      have XTW := XT.out.below HW.out XT.out.lt
      have t0 := XTW.cell 0 rfl
      have t1 := XTW.cell 1 rfl
      have tl := XTW.lt
      clear XTW
      have HF := F89.out j wr hlt HX.out
      have HPV := HPB.out j hj
      have HQV := HQB.out j hlt
      have HST : Hid (prc S T m (j + 1) = prc S T m j + prQ S T m j) := Lib.hid rfl
      have HQD : Hid (prQ S T m j = max 0 (drP T j m) * S.buy.getD j 0 + min 0 (drP T j m) * S.sell.getD j 0) := Lib.hid rfl
      have HQ1 := Lib.hid (fun h => prQ_pos (S := S) (T := T) (m := m) (k := j) h)
      have HQ2 := Lib.hid (fun h => prQ_neg (S := S) (T := T) (m := m) (k := j) h)
      have HDD := Lib.hid (fun V (hV : Below w.heap.size w V) => (⟨(HS.out.below hV (Nat.le_refl _)).2.2.1 j (by rw [← HC.out]; exact hlt), (HS.out.below hV (Nat.le_refl _)).2.2.2 j (by rw [← HD.out]; exact hlt)⟩ : _ ∧ _))
      generalize S.buy.getD j 0 = by1 at *
      generalize S.sell.getD j 0 = se at *
      generalize drP T j m = d at *
      go_wp2_with fail
      refine HF.mono ?_
      rintro e w2 ⟨rfl, hb⟩
      have HW2 := Lib.hid (HW.out.trans (hb.mono HW.out.size))
      have HX2 := Lib.hid (HB.out.trans (HW2.out.mono HB.out.size))
      clear hb HF HX HW t0 t1 tl s0 sl
      have XSW := XS.out.below HW2.out XS.out.lt
      have s2 := XSW.cell 2 rfl
      have s3 := XSW.cell 3 rfl
      have sl := XSW.lt
      clear XSW
      obtain ⟨⟨ba, hba, bal, bx⟩, sa, hsa, sal, sx⟩ := HDD.out w2 HX2.out
      rw [hba] at s2
      rw [hsa] at s3
      have ba2 : (ba.add j).block < w2.heap.size := by rw [block_add]; exact bal
      have sa2 : (sa.add j).block < w2.heap.size := by rw [block_add]; exact sal
      clear hba hsa HDD
      by_cases hd : 0 < d
      · have HE := Lib.hid (HST.out.trans (by rw [HQ1.out hd]))
        have HQW := HQD.out
        rw [HQ1.out (by omega)] at HQW
        obtain ⟨q1, hq1⟩ : ∃ q1, q1 = max 0 d * by1 := ⟨_, rfl⟩
        obtain ⟨q2, hq2⟩ : ∃ q2, q2 = min 0 d * se := ⟨_, rfl⟩
        rw [← hq1, ← hq2] at HQV HQW
        obtain ⟨q, hq⟩ : ∃ q, q = d * by1 := ⟨_, rfl⟩
        rw [← hq] at HQW
        have HE2 : Hid (prc S T m (j + 1) = prc S T m j + q) := Lib.hid (by rw [HE.out, hq])
        generalize prc S T m j = pv at *
        have w1e : IntKind.i64.wrap (d * by1) = q := by rw [← hq]; exact IntWalk.i64_in _ (by omega)
        have w4e : IntKind.i64.wrap (pv + q) = pv + q := IntWalk.i64_in _ (by omega)
        clear hq hq1 hq2 HPV HQV HQW HE HQ1 HQ2 HQD HST
        go_wp2_with fail
        exact ⟨⟨j + 1, by omega, by go_num, by rw [HE2.out], HW2⟩, by simp [intOf]; omega⟩
      · have HE := Lib.hid (HST.out.trans (by rw [HQ2.out (by omega)]))
        have HQW := HQD.out
        rw [HQ2.out (by omega)] at HQW
        obtain ⟨q1, hq1⟩ : ∃ q1, q1 = max 0 d * by1 := ⟨_, rfl⟩
        obtain ⟨q2, hq2⟩ : ∃ q2, q2 = min 0 d * se := ⟨_, rfl⟩
        rw [← hq1, ← hq2] at HQV HQW
        obtain ⟨q, hq⟩ : ∃ q, q = d * se := ⟨_, rfl⟩
        rw [← hq] at HQW
        have HE2 : Hid (prc S T m (j + 1) = prc S T m j + q) := Lib.hid (by rw [HE.out, hq])
        generalize prc S T m j = pv at *
        have w1e : IntKind.i64.wrap (d * se) = q := by rw [← hq]; exact IntWalk.i64_in _ (by omega)
        have w4e : IntKind.i64.wrap (pv + q) = pv + q := IntWalk.i64_in _ (by omega)
        clear hq hq1 hq2 HPV HQV HQW HE HQ1 HQ2 HQD HST
        go_wp2_with fail
        exact ⟨⟨j + 1, by omega, by go_num, by rw [HE2.out], HW2⟩, by simp [intOf]; omega⟩
    · obtain rfl : j = nD := by omega
      go_wp2_with fail
      go_ret
      exact ⟨rfl, HX.out⟩
end Go.Proofs.Ytmebpglkeedaoaa
