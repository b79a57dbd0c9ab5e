/- Contracts of the reference's tag: List, sum, Digest, Tag of coulombref07, at the large field and a message of eight bytes. -/
import Derived.Test.YtafajclbghofkaaG4
namespace Go.Proofs.Ytafajclbghofkaa
open Go.RowKit
set_option linter.unusedVariables false

theorem src_below {w w' : World} {A : Option Addr} {m : Nat} {xs : List Value} (h : SrcRow w A m xs) (hb : Below w.heap.size w w') : SrcRow w' A m xs := by
  rcases h with h | ⟨a, e, h⟩
  · exact .inl h
  · refine .inr ⟨a, e, fun j u hu => ?_⟩
    have h1 := h j u hu
    exact (hb.cell (World.block_lt_of_cell? _ _ h1)).trans h1
/-- a slice of words -/
def LsR (w : World) (l : List Int) (n : Nat) (e : Ending) (w' : World) : Prop := ∃ A' c', e = .returned (.slice A' n c') ∧ Below w.heap.size w w' ∧ PadsAt w' A' l ∧ n ≤ c'
theorem getD_bd {l : List Int} {a b : Int} (h : ∀ x ∈ l, a ≤ x ∧ x ≤ b) {k : Nat} (hk : k < l.length) : a ≤ l.getD k 0 ∧ l.getD k 0 ≤ b := by
  rw [List.getD_eq_getElem?_getD, List.getElem?_eq_getElem hk]
  exact h _ (List.getElem_mem hk)
theorem ws_bd {bs : List Int} (h : ∀ x ∈ bs, 0 ≤ x ∧ x ≤ 255) (k : Nat) (hk : 3 * k ≤ bs.length) : ∀ x ∈ Pf.ws bs k, 0 ≤ x ∧ x ≤ 16777215 := by
  intro x hx
  unfold Pf.ws at hx
  rcases List.mem_cons.1 hx with rfl | hx
  · omega
  · obtain ⟨i, hi, rfl⟩ := List.mem_map.1 hx
    have := List.mem_range.1 hi
    exact Pf.wd_bd (getD_bd h (by omega)) (getD_bd h (by omega)) (getD_bd h (by omega))
set_option maxRecDepth 100000 in
set_option maxHeartbeats 2000000 in
theorem List_c (A : Option Addr) (c : Nat) (bs : List Int) (w : World) (hb8 : bs.length = 8) (hbd : ∀ x ∈ bs, 0 ≤ x ∧ x ≤ 255) (hs : SrcRow w A 8 (bs.map (Value.int .u8))) :
    Calls Try.prog 94 #[.int .i64 2, .slice A 8 c] w (LsR w (Pf.ws (bs ++ [1]) 3) 4) := by
  obtain ⟨i5, hi5, y0, y1, y2⟩ := info_parts info5
  obtain ⟨i0, hi, z0, z1, z2⟩ := info_parts info83
  have HS := Lib.hid hs
  have H8 := Lib.hid hb8
  have HBD := Lib.hid (show ∀ x ∈ bs ++ [1], 0 ≤ x ∧ x ≤ 255 from fun x hx => by
    rcases List.mem_append.1 hx with h | h
    · exact hbd x h
    · simp at h; omega)
  have H9 := Lib.hid (show (bs ++ [1]).length = 9 by simp [hb8])
  clear hs hb8 hbd
  go_enter Try.func94, Try.ntmps94
  go_wp2_with (first
    | (at_builtin; refine wpList_append_any (.tmp 13) (.tmp 14) 133 rfl rfl w.heap.size 5 i5 (.int .u8 0) 1 1 Try.underlying133 hi5 y0 y1 y2 rfl (by decide) (some ⟨w.heap.size, 0, none⟩) 0 0 [] (by rfl) (blk_row (cs := []) (Blk.new' w #[] 5) (Nat.le_refl _) (by simp)) A 8 c (bs.map (Value.int .u8)) (by rfl) (by simp [H8.out]) (src_below HS.out ((Below.refl _ _).alloc (Nat.le_refl _) _)) (one_u8 _) (by unfold maxLen; omega) (by omega) (by simp) ?_; intro A1 c1 w1 hown hgrow hat; have HB1 := Lib.hid (show Below w.heap.size w w1 from Below.grown ((Below.refl _ _).alloc (Nat.le_refl _) _) hgrow (by simp) (fun k hk => by simp [Value.ownBlock] at hk; omega)); have HO1 := Lib.hid hown; clear hown hgrow hat)
    | (at_builtin; refine wpList_append_any (.tmp 15) (.tmp 16) 133 rfl rfl w.heap.size 5 i5 (.int .u8 0) 1 1 Try.underlying133 hi5 y0 y1 y2 rfl (by decide) A1 (0 + 8) c1 ([] ++ bs.map (Value.int .u8)) (by rfl) (rowE_below HO1.out ((Below.refl _ _).alloc (Nat.le_refl _) _)) (some ⟨w1.heap.size, 0, none⟩) 1 1 [.int .u8 1] (by rfl) rfl (src_blk (Blk.new' w1 #[.int .u8 1] 5) 1) (by simp [Value.oneCell']) (by unfold maxLen; omega) (by omega) (by have := HB1.out.size; simp; omega) ?_; intro A2 c2 w2 hown hgrow hat; have HB2 := Lib.hid (show Below w.heap.size w w2 from Below.grown (HB1.out.alloc HB1.out.size _) hgrow (by have := HB1.out.size; simp; omega) (fun k hk => (rowE_lt HO1.out (ownB_iff.2 hk)).1)); have HO2 := Lib.hid (show BRow w.heap.size A2 9 c2 (bs ++ [1]) w2 from by unfold BRow; rw [List.map_append]; exact hown); clear hown hgrow hat))
  refine wp_loop_rounds 1 ?_
  rw [rounds_succ]
  go_wp2_with fail
  clear HO1 HB1 HS
  obtain ⟨g, rfl, -, -, hcm, -⟩ := rowE_cells HO2.out (by decide)
  unfold maxLen at hcm
  generalize hall : bs ++ [1] = all at *
  clear hall
  go_loopw [7, 8] (fun o i wr => ∃ (k : Nat) (A' : Option Addr) (c' : Nat), k ≤ 3 ∧ i = .int .i64 ((3 * k : Nat) : Int) ∧ o = .slice A' (k + 1) c' ∧ Hid (URow w.heap.size A' (k + 1) c' (Pf.ws all k) wr ∧ BRow w.heap.size (some ⟨g, 0, none⟩) 9 c2 all wr ∧ Below w.heap.size w wr)) (fun _ i _ => 9 - (intOf i).toNat)
  case atStart => exact ⟨0, _, 1, by omega, rfl, rfl, Lib.hid ⟨blk_row (cs := [.int .u64 1]) (Blk.new' w2 _ 83) HB2.out.size (by simp [maxLen]), rowE_below HO2.out ((Below.refl _ _).alloc (Nat.le_refl _) _), HB2.out.alloc HB2.out.size _⟩⟩
  case round =>
    obtain ⟨k, A', c', hk, rfl, rfl, HR⟩ := hrel
    by_cases hlt : k < 3
    · obtain ⟨g', hg', hgl, hnc, -, hc⟩ := rowE_cells HR.out.2.1 (by decide)
      obtain rfl : g = g' := by cases hg'; rfl
      have hc0 : wr.cell? ⟨g, 3 * k, none⟩ = some (.int .u8 (all.getD (3 * k) 0)) := hc _ _ (by simp [List.getD, show 3 * k < all.length by have := H9.out; omega])
      have hc1 : wr.cell? ⟨g, 3 * k + 1, none⟩ = some (.int .u8 (all.getD (3 * k + 1) 0)) := hc _ _ (by simp [List.getD, show 3 * k + 1 < all.length by have := H9.out; omega])
      have hc2 : wr.cell? ⟨g, 3 * k + 2, none⟩ = some (.int .u8 (all.getD (3 * k + 2) 0)) := hc _ _ (by simp [List.getD, show 3 * k + 2 < all.length by have := H9.out; omega])
      have hx := getD_bd HBD.out (show 3 * k < all.length by have := H9.out; omega)
      have hy := getD_bd HBD.out (show 3 * k + 1 < all.length by have := H9.out; omega)
      have hz := getD_bd HBD.out (show 3 * k + 2 < all.length by have := H9.out; omega)
      have HW := Lib.hid (Pf.ws_succ all k)
      clear hc hg'
      generalize all.getD (3 * k) 0 = x at *
      generalize all.getD (3 * k + 1) 0 = y at *
      generalize all.getD (3 * k + 2) 0 = z at *
      go_wp2_with fail
      refine wp_loop_rounds 4 ?_
      rw [rounds_succ]
      go_wp2_with fail
      rw [rounds_succ]
      go_wp2_with fail
      rw [rounds_succ]
      go_wp2_with fail
      rw [rounds_succ]
      go_wp2_with (at_builtin; refine wpList_append_any (.tmp 49) (.tmp 51) 84 rfl rfl w.heap.size 83 i0 (.int .u64 0) 1 8 Try.underlying84 hi z0 z1 z2 rfl (by decide) A' (k + 1) c' ((Pf.ws all k).map (Value.int .u64)) (by rfl) (rowE_below HR.out.1 ((Below.refl _ _).alloc (Nat.le_refl _) _)) (some ⟨wr.heap.size, 0, none⟩) 1 1 [.int .u64 (Pf.wd x y z)] (by rfl) rfl (src_blk (Blk.new' wr #[.int .u64 (Pf.wd x y z)] 83) 1) (by simp [Value.oneCell']) (by unfold maxLen; omega) (by omega) (by have := HR.out.2.2.size; simp; omega) ?_; intro A3 c3 w3 hown hgrow hat; have HO3 := Lib.hid hown; have HT3 := Lib.hid (grown_touch hgrow); have HB3 := Lib.hid (Below.grown (HR.out.2.2.alloc HR.out.2.2.size (.cells #[.int .u64 (Pf.wd x y z)] 83)) hgrow (by have := HR.out.2.2.size; simp; omega) (fun j hj => (rowE_lt HR.out.1 (ownB_iff.2 hj)).1)); clear hown hgrow hat)
      go_roundw
      case rel => exact ⟨k + 1, A3, c3, by omega, by go_num, rfl, Lib.hid ⟨by have h := HO3.out; rw [HW.out]; unfold URow; rw [List.map_append]; exact h, rowE_keep (rowE_below HR.out.2.1 ((Below.refl _ _).alloc (Nat.le_refl _) _)) HT3.out (fun j hj => rowE_ne HR.out.2.1 HR.out.1 (by decide) hj), HB3.out⟩⟩
      case measure => simp [intOf]; omega
    · obtain rfl : k = 3 := by omega
      go_wp2_with fail
      go_ret
      obtain ⟨_, _, _, hnc, _⟩ := rowE_cells HR.out.1 (by decide)
      exact ⟨A', c', rfl, HR.out.2.2, urow_pads HR.out.1 (Pf.ws_length _ _) (by decide), hnc⟩

set_option maxHeartbeats 2000000 in
theorem sum_c (x : Int) (hx : 1 ≤ x ∧ x ≤ 2147483646) (A : Option Addr) (c : Nat) (bs : List Int) (w : World) (hb8 : bs.length = 8) (hbd : ∀ x ∈ bs, 0 ≤ x ∧ x ≤ 255) (hs : SrcRow w A 8 (bs.map (Value.int .u8))) :
    Calls Try.prog 92 #[.int .i64 2, .int .u64 x, .slice A 8 c] w fun e w' => e = .returned (.int .u64 (Pf.horn x (Pf.ws (bs ++ [1]) 3))) ∧ Below w.heap.size w w' := by
  have hc := List_c A c bs w hb8 hbd hs
  have HL := Lib.hid (Pf.ws_length (bs ++ [1]) 3)
  have HBD := Lib.hid (ws_bd (bs := bs ++ [1]) (fun x hx => by
    rcases List.mem_append.1 hx with h | h
    · exact hbd x h
    · simp at h; omega) 3 (by simp [hb8]))
  have HF := Lib.hid (show Pf.sm x (Pf.ws (bs ++ [1]) 3) 4 = Pf.horn x (Pf.ws (bs ++ [1]) 3) from Pf.four_eq _ _ _ _ _)
  clear hs hb8 hbd
  generalize Pf.ws (bs ++ [1]) 3 = l at *
  generalize Pf.horn x l = r at *
  go_enter Try.func92, Try.ntmps92
  go_wp2_with (first
    | (go_at_call 85; refine (Prime_c _).mono ?_; rintro e w' ⟨rfl, rfl⟩)
    | (go_at_call 94; refine hc.mono ?_; rintro e w1 ⟨A', c', rfl, hb, hp, hn⟩; have HB := Lib.hid hb; have HP := Lib.hid hp; have HN := Lib.hid hn; clear hb hp hn))
  go_loop [9, 10, 11] (fun o p i => ∃ k j : Nat, k + j = 4 ∧ i = .int .i64 ((j : Int) - 1) ∧ o = .int .u64 (Pf.sm x l k) ∧ p = .int .u64 (Pf.pw x k)) (fun _ _ i => (intOf i + 1).toNat)
  case atStart => exact ⟨0, 4, rfl, rfl, rfl, rfl⟩
  case round =>
    obtain ⟨k, j, hkj, rfl, rfl, rfl⟩ := hrel
    cases j with
    | zero =>
      obtain rfl : k = 4 := by omega
      rw [HF.out]
      go_wp2
      go_ret
      exact ⟨rfl, HB.out⟩
    | succ j =>
      rw [show ((j + 1 : Nat) : Int) - 1 = (j : Int) by omega]
      obtain ⟨ad, rfl, hlt, hcell⟩ := HP.out j (by have := HL.out; omega)
      have hy := getD_bd HBD.out (show j < l.length by have := HL.out; omega)
      have hsb := Pf.sm_bd x l k
      have hpb := Pf.pw_bd (show 0 ≤ x ∧ x ≤ 2147483646 by omega) k
      have HS : Hid (Pf.sm x l (k + 1) = (Pf.sm x l k + l.getD j 0 % 2147483647 * Pf.pw x k) % 2147483647) := Lib.hid (by
        have e : l.length - 1 - k = j := by have := HL.out; omega
        show (Pf.sm x l k + l.getD (l.length - 1 - k) 0 % 2147483647 * Pf.pw x k) % 2147483647 = _
        rw [e])
      have HQ : Hid (Pf.pw x (k + 1) = Pf.pw x k * x % 2147483647) := Lib.hid rfl
      have hn4 := HN.out
      generalize l.getD j 0 = y at *
      generalize Pf.sm x l k = s at *
      generalize Pf.pw x k = q at *
      have hyp : 0 ≤ y % 2147483647 ∧ y % 2147483647 ≤ 2147483646 := by omega
      have hm1 := Pf.mul_pos_bd hyp hpb
      have hm2 := Pf.mul_pos_bd hpb (show 0 ≤ x ∧ x ≤ 2147483646 by omega)
      clear hyp
      go_wp2
      go_round
      case rel => exact ⟨k + 1, j, by omega, rfl, by rw [HS.out], by rw [HQ.out]⟩
      case measure => simp [intOf]

theorem DigestR_c (x : Int) (hx : 1 ≤ x ∧ x ≤ 2147483646) (A : Option Addr) (c : Nat) (bs : List Int) (w : World) (hb8 : bs.length = 8) (hbd : ∀ x ∈ bs, 0 ≤ x ∧ x ≤ 255) (hs : SrcRow w A 8 (bs.map (Value.int .u8))) :
    Calls Try.prog 86 #[.int .i64 2, .int .u64 x, .slice A 8 c] w fun e w' => e = .returned (.tuple #[.int .u64 (Pf.horn x (Pf.ws (bs ++ [1]) 3)), .int .i64 0]) ∧ Below w.heap.size w w' := by
  have hc := sum_c x hx A c bs w hb8 hbd hs
  clear hs hb8 hbd
  generalize Pf.horn x (Pf.ws (bs ++ [1]) 3) = r at *
  go_enter Try.func86, Try.ntmps86
  go_wp2_with (first
    | (go_at_call 85; refine (Prime_c _).mono ?_; rintro e w' ⟨rfl, rfl⟩)
    | (go_at_call 92; refine hc.mono ?_; rintro e w1 ⟨rfl, hb⟩; have HB := Lib.hid hb; clear hb))
  go_ret2
  exact ⟨rfl, HB.out⟩
theorem TagR_c (x pad : Int) (hx : 1 ≤ x ∧ x ≤ 2147483646) (hp : 0 ≤ pad ∧ pad ≤ 2147483646) (A : Option Addr) (c : Nat) (bs : List Int) (w : World) (hb8 : bs.length = 8) (hbd : ∀ x ∈ bs, 0 ≤ x ∧ x ≤ 255) (hs : SrcRow w A 8 (bs.map (Value.int .u8))) :
    Calls Try.prog 65 #[.int .i64 2, .int .u64 x, .int .u64 pad, .slice A 8 c] w fun e w' => e = .returned (.tuple #[.int .u64 (Pf.tag x pad (Pf.ws (bs ++ [1]) 3)), .int .i64 0]) ∧ Below w.heap.size w w' := by
  have hc := DigestR_c x hx A c bs w hb8 hbd hs
  have hr := Pf.horn_bd x (Pf.ws (bs ++ [1]) 3)
  clear hs hb8 hbd
  unfold Pf.tag
  generalize Pf.horn x (Pf.ws (bs ++ [1]) 3) = r at *
  go_enter Try.func65, Try.ntmps65
  go_wp2_with (first
    | (go_at_call 85; refine (Prime_c _).mono ?_; rintro e w' ⟨rfl, rfl⟩)
    | (go_at_call 86; refine hc.mono ?_; rintro e w1 ⟨rfl, hb⟩; have HB := Lib.hid hb; clear hb))
  go_ret2
  exact ⟨rfl, HB.out⟩
end Go.Proofs.Ytafajclbghofkaa
