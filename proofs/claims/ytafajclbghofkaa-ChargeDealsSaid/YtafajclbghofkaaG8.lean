/- Contracts of Proof of charge and of coulombref09. -/
import Derived.Test.YtafajclbghofkaaG7
import Derived.Test.YtafajclbghofkaaR3
namespace Go.Proofs.Ytafajclbghofkaa
open Go.RowKit
set_option linter.unusedVariables false
namespace Pf
/-- what Proof says -/
def prOk (pt : Int) (ps : List Int) (k n : Int) : Prop := Cv.ctOk pt ps = true ∧ ((0 ≤ k ∧ k ≤ 2147483647) ∧ 0 ≤ n ∧ n ≤ 2147483647) ∧ n < ps.length
def prV (pt : Int) (ps : List Int) (k n : Int) : Int := if Cv.ctOk pt ps = true then if (0 ≤ k ∧ k ≤ 2147483647) ∧ 0 ≤ n ∧ n ≤ 2147483647 then if n < ps.length then tag pt (ps.getD n.toNat 0) (ws (msg k n ++ [1]) 3) else 0 else 0 else 0
def prE (pt : Int) (ps : List Int) (k n : Int) : Int := if Cv.ctOk pt ps = true then if (0 ≤ k ∧ k ≤ 2147483647) ∧ 0 ≤ n ∧ n ≤ 2147483647 then if n < ps.length then 0 else 4 else 3 else 2
theorem pr_2 {pt : Int} {ps : List Int} {k n : Int} (h : Cv.ctOk pt ps = false) : prV pt ps k n = 0 ∧ prE pt ps k n = 2 := by unfold prV prE; rw [h]; simp
theorem pr_3 {pt : Int} {ps : List Int} {k n : Int} (h : Cv.ctOk pt ps = true) (h2 : ¬ ((0 ≤ k ∧ k ≤ 2147483647) ∧ 0 ≤ n ∧ n ≤ 2147483647)) : prV pt ps k n = 0 ∧ prE pt ps k n = 3 := by unfold prV prE; rw [if_pos h, if_pos h, if_neg h2, if_neg h2]; exact ⟨rfl, rfl⟩
theorem pr_4 {pt : Int} {ps : List Int} {k n : Int} (h : Cv.ctOk pt ps = true) (h2 : (0 ≤ k ∧ k ≤ 2147483647) ∧ 0 ≤ n ∧ n ≤ 2147483647) (h3 : ¬ n < ps.length) : prV pt ps k n = 0 ∧ prE pt ps k n = 4 := by unfold prV prE; rw [if_pos h, if_pos h, if_pos h2, if_pos h2, if_neg h3, if_neg h3]; exact ⟨rfl, rfl⟩
theorem pr_0 {pt : Int} {ps : List Int} {k : Int} {m : Nat} (h : Cv.ctOk pt ps = true) (h2 : (0 ≤ k ∧ k ≤ 2147483647) ∧ 0 ≤ (m : Int) ∧ (m : Int) ≤ 2147483647) (h3 : m < ps.length) : prV pt ps k m = tag pt (ps.getD m 0) (ws (msg k m ++ [1]) 3) ∧ prE pt ps k m = 0 := by unfold prV prE; rw [if_pos h, if_pos h, if_pos h2, if_pos h2, if_pos (by omega), if_pos (by omega)]; exact ⟨rfl, rfl⟩
end Pf
theorem ret_pf {a b c d : Int} (h : a = b ∧ c = d) : Ending.returned (.tuple #[.int .u64 a, .int .i64 c]) = .returned (.tuple #[.int .u64 b, .int .i64 d]) := by rw [h.1, h.2]
/-- what Proof reads -/
def PrS (N : Nat) (pt : Int) (A : Option Addr) (n cap : Nat) (w W : World) : Prop := Below N w W ∧ N < W.heap.size ∧ W.cell? ⟨N, 0, none⟩ = some (.int .u64 pt) ∧ W.cell? ⟨N, 1, none⟩ = some (.slice A n cap)
theorem PrS.below {N : Nat} {pt : Int} {A : Option Addr} {n cap : Nat} {w W W1 : World} (h : PrS N pt A n cap w W) (hb : Below W.heap.size W W1) : PrS N pt A n cap w W1 :=
  ⟨h.1.trans (hb.mono (Nat.le_of_lt h.2.1)), Nat.lt_of_lt_of_le h.2.1 hb.size, below_cell hb h.2.1 h.2.2.1, below_cell hb h.2.1 h.2.2.2⟩
theorem u8_256 (x : Int) : IntKind.u8.wrap x = x % 256 := by rw [IntKind.wrap_u8]

theorem two_index0 (a b : Int) (w : World) : (Instr.index 134 (.agg #[.int .i64 a, .int .i64 b]) (.int .i64 0)).run Try.prog w = .ok (.int .i64 a) w := by kernel_rfl
theorem two_index1 (a b : Int) (w : World) : (Instr.index 134 (.agg #[.int .i64 a, .int .i64 b]) (.int .i64 1)).run Try.prog w = .ok (.int .i64 b) w := by kernel_rfl
set_option maxRecDepth 100000 in
set_option maxHeartbeats 4000000 in
theorem Proof_c (pt : Int) (A : Option Addr) (ps : List Int) (cap : Nat) (k n : Int) (w : World) (hcap : ps.length ≤ cap) (hl : cap ≤ 9223372036854775807) (hps : ∀ x ∈ ps, 0 ≤ x) (hw : PadsAt w A ps) :
    Calls Try.prog 37 #[.agg #[.int .u64 pt, .slice A ps.length cap], .int .i64 k, .int .i64 n] w fun e w' => e = .returned (.tuple #[.int .u64 (Pf.prV pt ps k n), .int .i64 (Pf.prE pt ps k n)]) ∧ Below w.heap.size w w' := by
  have hc := checkContract_c pt A ps cap _ hcap hl (hw.below ((Below.refl w.heap.size w).alloc (Nat.le_refl _) (.cells #[.int .u64 pt, .slice A ps.length cap] 86)))
  have HW := Lib.hid hw
  have hn63 : ps.length ≤ 9223372036854775807 := by omega
  clear hw
  cases hok : Cv.ctOk pt ps
  · rw [hok] at hc
    have HP := Lib.hid (Pf.pr_2 (k := k) (n := n) hok)
    clear hok hps
    generalize Pf.prV pt ps k n = v at *
    generalize Pf.prE pt ps k n = er at *
    go_enter Try.func37, Try.ntmps37
    go_wp2_with (go_at_call 62; refine hc.mono ?_; rintro e w1 ⟨rfl, hb⟩; have HB := Lib.hid (((Below.refl w.heap.size w).alloc (Nat.le_refl _) _).trans (hb.mono (by simp))); clear hb)
    go_ret2
    exact ⟨ret_pf ⟨HP.out.1.symm, HP.out.2.symm⟩, HB.out⟩
  rw [hok] at hc
  by_cases hr : (0 ≤ k ∧ k ≤ 2147483647) ∧ 0 ≤ n ∧ n ≤ 2147483647
  rotate_left 1
  · have HP := Lib.hid (Pf.pr_3 hok hr)
    generalize Pf.prV pt ps k n = v at *
    generalize Pf.prE pt ps k n = er at *
    by_cases h1 : k < 0
    · have h1' : decide (k < 0) = true := decide_eq_true h1
      clear hok hps hr h1
      go_enter Try.func37, Try.ntmps37
      go_wp2_with (go_at_call 62; refine hc.mono ?_; rintro e w1 ⟨rfl, hb⟩; have HB := Lib.hid (((Below.refl w.heap.size w).alloc (Nat.le_refl _) _).trans (hb.mono (by simp))); clear hb)
      go_ret2
      exact ⟨ret_pf ⟨HP.out.1.symm, HP.out.2.symm⟩, HB.out⟩
    have h1' : decide (k < 0) = false := decide_eq_false h1
    by_cases h2 : 2147483647 < k
    · have h2' : decide (2147483647 < k) = true := decide_eq_true h2
      clear hok hps hr h1 h2
      go_enter Try.func37, Try.ntmps37
      go_wp2_with (go_at_call 62; refine hc.mono ?_; rintro e w1 ⟨rfl, hb⟩; have HB := Lib.hid (((Below.refl w.heap.size w).alloc (Nat.le_refl _) _).trans (hb.mono (by simp))); clear hb)
      go_ret2
      exact ⟨ret_pf ⟨HP.out.1.symm, HP.out.2.symm⟩, HB.out⟩
    have h2' : decide (2147483647 < k) = false := decide_eq_false h2
    by_cases h3 : n < 0
    · have h3' : decide (n < 0) = true := decide_eq_true h3
      clear hok hps hr h1 h2 h3
      go_enter Try.func37, Try.ntmps37
      go_wp2_with (go_at_call 62; refine hc.mono ?_; rintro e w1 ⟨rfl, hb⟩; have HB := Lib.hid (((Below.refl w.heap.size w).alloc (Nat.le_refl _) _).trans (hb.mono (by simp))); clear hb)
      go_ret2
      exact ⟨ret_pf ⟨HP.out.1.symm, HP.out.2.symm⟩, HB.out⟩
    have h3' : decide (n < 0) = false := decide_eq_false h3
    have h4' : decide (2147483647 < n) = true := decide_eq_true (by omega)
    clear hok hps hr h1 h2 h3
    go_enter Try.func37, Try.ntmps37
    go_wp2_with (go_at_call 62; refine hc.mono ?_; rintro e w1 ⟨rfl, hb⟩; have HB := Lib.hid (((Below.refl w.heap.size w).alloc (Nat.le_refl _) _).trans (hb.mono (by simp))); clear hb)
    go_ret2
    exact ⟨ret_pf ⟨HP.out.1.symm, HP.out.2.symm⟩, HB.out⟩
  have h1' : decide (k < 0) = false := decide_eq_false (by omega)
  have h2' : decide (2147483647 < k) = false := decide_eq_false (by omega)
  obtain ⟨m, rfl⟩ := Int.eq_ofNat_of_zero_le hr.2.1
  have h3' : decide ((m : Int) < 0) = false := decide_eq_false (by omega)
  have h4' : decide (2147483647 < (m : Int)) = false := decide_eq_false (by omega)
  by_cases hlt : m < ps.length
  rotate_left 1
  · have HP := Lib.hid (Pf.pr_4 hok hr (by omega))
    generalize Pf.prV pt ps k m = v at *
    generalize Pf.prE pt ps k m = er at *
    have hge : decide (ps.length ≤ m) = true := decide_eq_true (by omega)
    clear hok hps hr hlt
    go_enter Try.func37, Try.ntmps37
    go_wp2_with (go_at_call 62; refine hc.mono ?_; rintro e w1 ⟨rfl, hb⟩; have HB := Lib.hid (((Below.refl w.heap.size w).alloc (Nat.le_refl _) _).trans (hb.mono (by simp))); have t1 : w1.cell? ⟨w.heap.size, 1, none⟩ = some (.slice A ps.length cap) := below_cell hb (by simp) (by go_simp); clear hb)
    go_ret2
    exact ⟨ret_pf ⟨HP.out.1.symm, HP.out.2.symm⟩, HB.out⟩
  have HP := Lib.hid (Pf.pr_0 hok hr hlt)
  generalize Pf.prV pt ps k m = v at *
  generalize Pf.prE pt ps k m = er at *
  have hge : decide (ps.length ≤ m) = false := decide_eq_false (by omega)
  have hpt := (Cv.ctOk_iff.1 hok).1
  have hpad := Cv.padsOk_iff.1 (Cv.ctOk_iff.1 hok).2 m hlt
  have hpad0 : 0 ≤ ps.getD m 0 := hps _ (by rw [List.getD_eq_getElem?_getD, List.getElem?_eq_getElem hlt]; exact List.getElem_mem hlt)
  have HR := Lib.hid hr
  have E1 := Lib.hid (And.intro (u8_256 (k / 16777216)) (And.intro (u8_256 (k / 65536)) (And.intro (u8_256 (k / 256)) (u8_256 k))))
  have E2 := Lib.hid (And.intro (u8_256 ((m : Int) / 16777216)) (And.intro (u8_256 ((m : Int) / 65536)) (And.intro (u8_256 ((m : Int) / 256)) (u8_256 (m : Int)))))
  obtain ⟨i5, hi5, y0, y1, y2⟩ := info_parts info5
  have hk0 := hr.1.1
  have hm0 := hr.2.1
  clear hok hps hr
  go_enter Try.func37, Try.ntmps37
  go_wp2_with (go_at_call 62; refine hc.mono ?_; rintro e w1 ⟨rfl, hb⟩; have HS := Lib.hid (show PrS w.heap.size pt A ps.length cap w w1 from ⟨((Below.refl w.heap.size w).alloc (Nat.le_refl _) _).trans (hb.mono (by simp)), by have := hb.size; simp at this; omega, below_cell hb (by simp) (by go_simp), below_cell hb (by simp) (by go_simp)⟩); have t1 : w1.cell? ⟨w.heap.size, 1, none⟩ = some (.slice A ps.length cap) := HS.out.2.2.2; clear hb)
  clear h1' h2' h3' h4' hge t1
  refine wp_loop_rounds 3 ?_
  obtain ⟨e1, e2, e3, e4⟩ := E1.out
  obtain ⟨f1, f2, f3, f4⟩ := E2.out
  have IX0 := two_index0 k m
  have IX1 := two_index1 k m
  rw [rounds_succ]
  go_wp2_with (at_builtin; refine wpList_append_any (.tmp 39) (.tmp 51) 133 rfl rfl w.heap.size 5 i5 (.int .u8 0) 1 1 Try.underlying133 hi5 y0 y1 y2 rfl (by decide) none 0 0 [] (by rfl) (World.ownsRow_nil _ _ _ _) (some ⟨w1.heap.size, 0, none⟩) 4 4 ((Pf.four k).map (Value.int .u8)) (by rfl) rfl (src_blk (Blk.new' w1 #[.int .u8 (k / 16777216 % 256), .int .u8 (k / 65536 % 256), .int .u8 (k / 256 % 256), .int .u8 (k % 256)] 5) 4) (one_u8 _) (by unfold maxLen; omega) (by omega) (by have := HS.out.1.size; simp; omega) ?_; intro A1 c1 w2 hown hgrow hat; have HB2 := Lib.hid (show Below w1.heap.size w1 w2 from Below.grown ((Below.refl _ _).alloc (Nat.le_refl _) (.cells #[.int .u8 (k / 16777216 % 256), .int .u8 (k / 65536 % 256), .int .u8 (k / 256 % 256), .int .u8 (k % 256)] 5)) hgrow (by simp) (fun j hj => by cases hj)); have HO1 := Lib.hid (show BRow w.heap.size A1 4 c1 (Pf.four k) w2 from hown); have HA1 := Lib.hid (show ∀ j, OwnB A1 j → w1.heap.size ≤ j from fun j hj => (hat j hj).elim (fun ⟨a, e, _⟩ => by cases e) (fun e => by simp at e; omega)); clear hown hgrow hat)
  rw [rounds_succ]
  go_wp2_with (at_builtin; refine wpList_append_any (.tmp 39) (.tmp 51) 133 rfl rfl w.heap.size 5 i5 (.int .u8 0) 1 1 Try.underlying133 hi5 y0 y1 y2 rfl (by decide) A1 4 c1 ((Pf.four k).map (Value.int .u8)) (by rfl) (rowE_below HO1.out ((Below.refl _ _).alloc (Nat.le_refl _) _)) (some ⟨w2.heap.size, 0, none⟩) 4 4 ((Pf.four m).map (Value.int .u8)) (by rfl) rfl (src_blk (Blk.new' w2 #[.int .u8 ((m : Int) / 16777216 % 256), .int .u8 ((m : Int) / 65536 % 256), .int .u8 ((m : Int) / 256 % 256), .int .u8 ((m : Int) % 256)] 5) 4) (one_u8 _) (by unfold maxLen; omega) (by omega) (by have := HB2.out.size; have := HS.out.1.size; simp; omega) ?_; intro A2 c2 w3 hown hgrow hat; have HB3 := Lib.hid (show Below w1.heap.size w2 w3 from Below.grown ((Below.refl _ _).alloc HB2.out.size (.cells #[.int .u8 ((m : Int) / 16777216 % 256), .int .u8 ((m : Int) / 65536 % 256), .int .u8 ((m : Int) / 256 % 256), .int .u8 ((m : Int) % 256)] 5)) hgrow (by have := HB2.out.size; simp; omega) (fun j hj => HA1.out j (ownB_iff.2 hj))); have HO2 := Lib.hid (show BRow w.heap.size A2 8 c2 (Pf.msg k m) w3 from by unfold BRow Pf.msg; rw [List.map_append]; exact hown); clear hown hgrow hat)
  rw [rounds_succ]
  go_wp2_with fail
  clear IX0 IX1 e1 e2 e3 e4 f1 f2 f3 f4
  have HS3 := Lib.hid (HS.out.below (HB2.out.trans HB3.out))
  obtain ⟨g, rfl, hgl, hgc, hgm, hgs⟩ := rowE_cells HO2.out (by decide)
  obtain ⟨ad, rfl, hadl, hcell⟩ := (HW.out.below HS3.out.1 : PadsAt w3 A ps) m hlt
  have t0 := HS3.out.2.2.1
  have t1 := HS3.out.2.2.2
  have PT := Lib.hid (fun W1 (h : Below w3.heap.size w3 W1) => PTag_c pt (ps.getD m 0) (by omega) (by omega) g c2 (Pf.msg k m) W1 ⟨rfl, Pf.msg_bd k m⟩ (fun j hj => (h.cell hgl).trans (hgs j _ (by simp [List.getD, show j < (Pf.msg k m).length from hj]))) hgc hgm)
  generalize ps.getD m 0 = pad at *
  generalize Pf.tag pt pad (Pf.ws (Pf.msg k m ++ [1]) 3) = tg at *
  clear hgs
  have P1 : (m : Int) < (ps.length : Int) := by omega
  have z3 : w.heap.size < w3.heap.size := HS3.out.2.1
  have hpc : ∀ x : Past w3, x.w.cell? (ad.add m) = some (.int .u64 pad) := fun x => (x.far.cell (by rw [block_of_add]; exact hadl)).trans hcell
  refine wp_region_past (by kernel_rfl) (by kernel_rfl) ?_
  repeat (go_big_quiet_step ((go_at_call 63; exact past_below (PT.out _ (Past.far _)))))
  refine wpQuiet_nil ?_
  intro x
  have HBx := Lib.hid x.far
  generalize x.w = w4 at HBx ⊢
  go_wp2
  go_ret2
  exact ⟨ret_pf ⟨HP.out.1.symm, HP.out.2.symm⟩, HS3.out.1.trans (HBx.out.mono HS3.out.1.size)⟩
end Go.Proofs.Ytafajclbghofkaa
