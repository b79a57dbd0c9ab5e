/- The contract of heap.take of depot at visits. -/
import Derived.Test.YtmebpglkeedaoaaD1
namespace Go.Proofs.Ytmebpglkeedaoaa
open Go.RowKit Dp
set_option linter.unusedVariables false

@[go_sem] theorem idx_a (a b : Int) (w : World) : (Instr.index 173 (.agg #[.int .i64 a, .int .i64 b]) (.int .i64 0)).run Try.prog w = .ok (.int .i64 a) w := by kernel_rfl
@[go_sem] theorem idx_b (a b : Int) (w : World) : (Instr.index 173 (.agg #[.int .i64 a, .int .i64 b]) (.int .i64 1)).run Try.prog w = .ok (.int .i64 b) w := by kernel_rfl
theorem HpAt.pop {w : World} {B b g c : Nat} {l : List Vs} (h : HpAt w B b (some ⟨g, 0, none⟩) c l) (k : Nat) (hk : k + 1 = l.length) : HpAt (w.setCell ⟨b, 0, none⟩ (.slice (some ⟨g, 0, none⟩) k c)) B b (some ⟨g, 0, none⟩) c (l.take k) := by
  have hbg : b ≠ g := fun e => h.2.2 (ownB_some.2 e)
  have hl : (l.take k).length = k := by simp; omega
  exact ⟨by rw [hl]; exact h.1.setCell 0 _, (h.2.1.pop visC_len k hk).set_ne (fun e => hbg (ownB_some.1 e)) _, h.2.2⟩
/-- L is the place with the least key of place i and the first j below it -/
def ChI (l : List Vs) (i L j : Nat) : Prop := (L = i ∨ ((L = 2 * i + 1 ∨ L = 2 * i + 2) ∧ L < l.length ∧ keyAt l L < keyAt l i)) ∧ keyAt l L ≤ keyAt l i ∧ ∀ t, t < j → 2 * i + 1 + t < l.length → keyAt l L ≤ keyAt l (2 * i + 1 + t)
theorem ch_start (l : List Vs) (i : Nat) : ChI l i i 0 := ⟨.inl rfl, Int.le_refl _, fun t h => absurd h (Nat.not_lt_zero _)⟩
theorem ch_yes {l : List Vs} {i L j : Nat} (h : ChI l i L j) (hj : j < 2) (h1 : 2 * i + 1 + j < l.length) (h2 : keyAt l (2 * i + 1 + j) < keyAt l L) : ChI l i (2 * i + 1 + j) (j + 1) := by
  have h3 := h.2.1
  refine ⟨.inr ⟨by omega, h1, by omega⟩, by omega, fun t ht hl => ?_⟩
  by_cases e : t = j
  · subst e; exact Int.le_refl _
  · have := h.2.2 t (by omega) hl; omega
theorem ch_no {l : List Vs} {i L j : Nat} (h : ChI l i L j) (h1 : ¬ (2 * i + 1 + j < l.length ∧ keyAt l (2 * i + 1 + j) < keyAt l L)) : ChI l i L (j + 1) := by
  refine ⟨h.1, h.2.1, fun t ht hl => ?_⟩
  by_cases e : t = j
  · subst e; omega
  · exact h.2.2 t (by omega) hl
theorem ch_done {l : List Vs} {i : Nat} (h : ChI l i i 2) (d : DnAt l i) : Heap l := dn_done d (fun hl => h.2.2 0 (by omega) hl) (fun hl => h.2.2 1 (by omega) hl)
theorem ch_step {l : List Vs} {i L : Nat} (h : ChI l i L 2) (d : DnAt l i) (hne : L ≠ i) : L < l.length ∧ i < L ∧ DnAt (swp l i L) L := by
  rcases h.1 with h1 | ⟨h1, h2, h3⟩
  · exact absurd h1 hne
  · refine ⟨h2, by omega, dn_step d h2 h1 h3 (fun j j0 hj hq => ?_)⟩
    rcases (show j = 2 * i + 1 + 0 ∨ j = 2 * i + 1 + 1 by omega) with e | e
    · rw [e] at hj ⊢; exact h.2.2 0 (by omega) hj
    · rw [e] at hj ⊢; exact h.2.2 1 (by omega) hj
/-- memory in take: the list without its first, which lies by itself -/
def TkJ (w : World) (B b g c : Nat) (e : Vs) (l' : List Vs) (W : World) : Prop :=
  HpAt W B b (some ⟨g, 0, none⟩) c l' ∧ Touch (fun k => k = b ∨ k = g) w W ∧ Blk W w.heap.size 154 [.int .i64 0, .int .i64 0] ∧ Blk W (w.heap.size + 1) 154 [.int .i64 e.1, .int .i64 e.2] ∧ b < w.heap.size ∧ g < w.heap.size
section
variable {w W W' : World} {B b g c : Nat} {e : Vs} {l' : List Vs}
theorem TkJ.below (h : TkJ w B b g c e l' W) (hb : Below W.heap.size W W') : TkJ w B b g c e l' W' :=
  ⟨h.1.below hb, h.2.1.below hb, h.2.2.1.below hb h.2.2.1.lt, h.2.2.2.1.below hb h.2.2.2.1.lt, h.2.2.2.2⟩
theorem TkJ.drew (h : TkJ w B b g c e l' W) : TkJ w B b g c e l' W.drew := h.below (Below.refl _ _).drew
theorem TkJ.putg (h : TkJ w B b g c e l' W) {l2 : List Vs} (o : Nat) (u : Value) (k : HpAt (W.setCell ⟨g, o, none⟩ u) B b (some ⟨g, 0, none⟩) c l2) : TkJ w B b g c e l2 (W.setCell ⟨g, o, none⟩ u) :=
  ⟨k, h.2.1.setCell (.inl (.inr rfl)) _, h.2.2.1.setCell_ne (by have := h.2.2.2.2.2; simp; omega) _, h.2.2.2.1.setCell_ne (by have := h.2.2.2.2.2; simp; omega) _, h.2.2.2.2⟩
theorem TkJ.put (h : TkJ w B b g c e l' W) (i : Nat) (x : Vs) (hi : i < l'.length) : TkJ w B b g c e (l'.set i x) ((W.setCell ⟨g, i * 2, none⟩ (.int .i64 x.1)).setCell ⟨g, i * 2 + 1, none⟩ (.int .i64 x.2)) := by
  have hk := h.1.put i x hi
  refine ⟨hk, (h.2.1.setCell (p := ⟨g, i * 2, none⟩) (.inl (.inr rfl)) _).setCell (p := ⟨g, i * 2 + 1, none⟩) (.inl (.inr rfl)) _, ?_, ?_, h.2.2.2.2⟩
  · exact (h.2.2.1.setCell_ne (p := ⟨g, i * 2, none⟩) (by have := h.2.2.2.2.2; simp; omega) _).setCell_ne (p := ⟨g, i * 2 + 1, none⟩) (by have := h.2.2.2.2.2; simp; omega) _
  · exact (h.2.2.2.1.setCell_ne (p := ⟨g, i * 2, none⟩) (by have := h.2.2.2.2.2; simp; omega) _).setCell_ne (p := ⟨g, i * 2 + 1, none⟩) (by have := h.2.2.2.2.2; simp; omega) _
theorem TkJ.pop (h : TkJ w B b g c e l' W) (k : Nat) (hk : k + 1 = l'.length) : TkJ w B b g c e (l'.take k) (W.setCell ⟨b, 0, none⟩ (.slice (some ⟨g, 0, none⟩) k c)) :=
  ⟨h.1.pop k hk, h.2.1.setCell (.inl (.inl rfl)) _, h.2.2.1.setCell_ne (by have := h.2.2.2.2.1; simp; omega) _, h.2.2.2.1.setCell_ne (by have := h.2.2.2.2.1; simp; omega) _, h.2.2.2.2⟩
end

set_option maxHeartbeats 2000000 in
set_option maxRecDepth 100000 in
theorem take_c (b g n c : Nat) (l : List Vs) (B : Nat) (w : World) (hn : n = l.length) (hn0 : 0 < n) (hn2 : n ≤ 8388608) (h : HpAt w B b (some ⟨g, 0, none⟩) c l) (hp : Heap l) :
    Calls Try.prog 103 #[.pointer (some ⟨b, 0, none⟩)] w fun e w' => e = .returned (.agg #[.int .i64 (l.getD 0 (0, 0)).1, .int .i64 (l.getD 0 (0, 0)).2]) ∧ ∃ l', HpAt w' B b (some ⟨g, 0, none⟩) c l' ∧ (l.getD 0 (0, 0) :: l').Perm l ∧ Heap l' ∧ Touch (fun k => k = b ∨ k = g) w w' := by
  obtain ⟨m, rfl⟩ : ∃ m, n = m + 1 := ⟨n - 1, by omega⟩
  have HN := Lib.hid hn
  have HP := Lib.hid hp
  have hl0 : 0 < l.length := by omega
  have PP := Lib.hid (popd_perm hl0)
  have PD := Lib.hid (popd_dn hp)
  have J0 : Hid (TkJ w B b g c (l.getD 0 (0, 0)) l ((w.alloc (.cells #[.int .i64 0, .int .i64 0] 154)).alloc (.cells #[.int .i64 (l.getD 0 (0, 0)).1, .int .i64 (l.getD 0 (0, 0)).2] 154))) := Lib.hid (by
    have b1 := (Below.refl w.heap.size w).alloc (Nat.le_refl _) (.cells #[.int .i64 0, .int .i64 0] 154)
    have b2 := b1.alloc b1.size (.cells #[.int .i64 (l.getD 0 (0, 0)).1, .int .i64 (l.getD 0 (0, 0)).2] 154)
    refine ⟨h.below b2, Touch.of_below b2, (Blk.new' w _ 154).alloc _, ?_, h.1.lt, h.2.1.lt.2⟩
    have := Blk.new' (w.alloc (.cells #[.int .i64 0, .int .i64 0] 154)) #[.int .i64 (l.getD 0 (0, 0)).1, .int .i64 (l.getD 0 (0, 0)).2] 154
    simpa using this)
  have c0 := h.1.cell 0 rfl
  rw [← hn] at c0
  have bl := h.1.lt
  have gl := h.2.1.lt.2
  obtain ⟨e0, e1⟩ := h.cells 0 hl0
  have EL := Lib.hid (show (popd l) = (l.set 0 (l.getD m (0, 0))).take m from by unfold popd; rw [← hn]; rfl)
  have hmc : l.length ≤ c := by obtain ⟨gx, _, _, _, hmc, _⟩ := h.2.1.form hl0; exact hmc
  rw [← hn] at hmc
  clear h hp hn hl0
  generalize hx : l.getD 0 (0, 0) = x at *
  obtain ⟨x0, x1⟩ := x
  have HX := Lib.hid hx
  clear hx
  simp only [Nat.zero_mul, Nat.zero_add] at e0 e1
  go_enter Try.func103, Try.ntmps103
  go_wp2_with fail
  generalize (w.alloc (.cells #[.int .i64 0, .int .i64 0] 154)).alloc (.cells #[.int .i64 x0, .int .i64 x1] 154) = w1 at J0 ⊢
  clear c0 e0 e1 bl gl
  generalize hy : l.getD m (0, 0) = y at *
  obtain ⟨y0, y1⟩ := y
  have HY := Lib.hid hy
  clear hy
  refine wp_region_spine 12 [false] [] ?af3 (fun V => TkJ w B b g c (x0, x1) l V) (by kernel_rfl) (by kernel_rfl) J0.out.drew ?walk3 ?spine3
  case walk3 =>
    intro V hV
    have c0 := hV.1.1.cell 0 rfl
    rw [← HN.out] at c0
    obtain ⟨e0, e1⟩ := hV.1.cells m (by rw [← HN.out]; omega)
    rw [HY.out] at e0 e1
    clear hV
    simp only [List.take_succ_cons, List.take_zero]
    repeat (go_big_quiet_step (fail))
    refine wpQuiet_nil ?_
    rfl
  case spine3 =>
    intro V hV
    have P1 := Lib.hid (hV.put 0 (y0, y1) (by rw [← HN.out]; omega))
    simp only [Nat.zero_mul, Nat.zero_add] at P1
    obtain ⟨e0, e1⟩ := hV.1.cells 0 (by rw [← HN.out]; omega)
    simp only [Nat.zero_mul, Nat.zero_add] at e0 e1
    have z0 := hV.1.2.1.free 0
    have z1 := hV.1.2.1.free 1
    clear hV
    refine spineV_cons ?_
    unfold StepV
    go_simp
    generalize (V.setCell ⟨g, 0, none⟩ (.int .i64 y0)).setCell ⟨g, 1, none⟩ (.int .i64 y1) = V1 at P1 ⊢
    clear e0 e1 z0 z1
    refine spineV_nil ?_
    have c0 := P1.out.1.1.cell 0 rfl
    rw [List.length_set, ← HN.out] at c0
    have z0 := P1.out.1.1.free 0
    have P2 := Lib.hid (P1.out.pop m (by rw [List.length_set, ← HN.out]))
    rw [← EL.out] at P2
    clear P1
    go_wp2_with fail
    generalize V1.setCell ⟨b, 0, none⟩ (.slice (some ⟨g, 0, none⟩) m c) = w2 at P2 ⊢
    clear c0 z0
    go_loopw [5] (fun i wr => ∃ k : Nat, i = .int .i64 k ∧ (k = 0 ∨ k < m) ∧ Hid (∃ l', TkJ w B b g c (x0, x1) l' wr ∧ l'.Perm (popd l) ∧ DnAt l' k)) (fun i _ => m - (intOf i).toNat)
    case atStart => exact ⟨0, rfl, .inl rfl, Lib.hid ⟨_, P2.out, .refl _, PD.out⟩⟩
    case round =>
      obtain ⟨i, rfl, hi, HJ⟩ := hrel
      obtain ⟨l', j, pm, u⟩ := HJ.out
      have JR := Lib.hid j
      have PM := Lib.hid pm
      have UR := Lib.hid u
      have HL : Hid (l'.length = m) := Lib.hid (by rw [pm.length_eq, popd_length, ← HN.out]; rfl)
      clear HJ j u pm
      obtain ⟨k1, hq1⟩ : ∃ k1 : Nat, k1 = 2 * i + 1 := ⟨_, rfl⟩
      obtain ⟨k2, hq2⟩ : ∃ k2 : Nat, k2 = 2 * i + 2 := ⟨_, rfl⟩
      have hk1 : 2 * (i : Int) + 1 = (k1 : Int) := by omega
      have hk2 : 2 * (i : Int) + 2 = (k2 : Int) := by omega
      have HQ1 := Lib.hid hq1
      have HQ2 := Lib.hid hq2
      clear hq1 hq2
      go_wp2_with fail
      go_loopw [6, 50] (fun lv jv wq => ∃ L j : Nat, lv = .int .i64 L ∧ jv = .int .i64 j ∧ j ≤ 2 ∧ Hid (TkJ w B b g c (x0, x1) l' wq) ∧ Hid (ChI l' i L j)) (fun _ jv _ => 2 - (intOf jv).toNat)
      case atStart => exact ⟨i, 0, rfl, rfl, by omega, JR, Lib.hid (ch_start l' i)⟩
      case round =>
        obtain ⟨L, j, rfl, rfl, hj, JQ, CH⟩ := hrel
        rcases (show j = 0 ∨ j = 1 ∨ j = 2 by omega) with rfl | rfl | rfl
        · -- place 0
          have CY := Lib.hid (ch_yes (l := l') (i := i) (L := L) (j := 0) CH.out (by omega))
          have CN := Lib.hid (ch_no (l := l') (i := i) (L := L) (j := 0) CH.out)
          have HK : Hid (k1 = 2 * i + 1 + 0) := Lib.hid (by rw [HQ1.out])
          rw [← HK.out, HL.out] at CY CN
          by_cases hlt : k1 < m
          · have hkm : (k1 : Int) < (m : Int) := by omega
            have d1 : decide ((k1 : Int) < (m : Int)) = true := decide_eq_true hkm
            have d1n : decide (k1 < m) = true := decide_eq_true hlt
            have hLm : L < m := by
              rcases CH.out.1 with h | h
              · omega
              · have := h.2.1; rw [HL.out] at this; exact this
            have c0 := JQ.out.1.1.cell 0 rfl
            have c1 := JQ.out.1.1.cell 1 rfl
            rw [HL.out] at c0
            have bl := JQ.out.1.1.lt
            have gl := JQ.out.1.2.1.lt.2
            obtain ⟨e0, e1⟩ := JQ.out.1.cells k1 (by rw [HL.out]; exact hlt)
            obtain ⟨f0, f1⟩ := JQ.out.1.cells L (by rw [HL.out]; exact hLm)
            have HE1 : Hid (keyAt l' k1 = (l'.getD k1 (0, 0)).2) := Lib.hid rfl
            have HE2 : Hid (keyAt l' L = (l'.getD L (0, 0)).2) := Lib.hid rfl
            generalize l'.getD k1 (0, 0) = ek at *
            generalize l'.getD L (0, 0) = eq at *
            obtain ⟨ek0, ek1⟩ := ek
            obtain ⟨eq0, eq1⟩ := eq
            simp only at e0 e1 f0 f1 HE1 HE2
            rw [HE1.out, HE2.out] at CY CN
            go_wp2_with fail
            refine wp_region_past (by kernel_rfl) (by kernel_rfl) ?_
            repeat (go_big_quiet_step (exact past_below (less_c _ _ _ _ _)))
            refine wpQuiet_nil ?_
            intro xx
            have J5 := Lib.hid (JQ.out.below xx.far)
            generalize xx.w = w5 at J5 ⊢
            clear c0 c1 e0 e1 f0 f1 bl gl
            by_cases hle : ek1 < eq1
            · have d2 : decide (ek1 < eq1) = true := decide_eq_true hle
              simp only [d2]
              go_wp2_with fail
              go_roundw
              case rel => exact ⟨k1, 1, rfl, rfl, by omega, J5, Lib.hid (CY.out hlt hle)⟩
              case measure => simp [intOf]
            · have d2 : decide (ek1 < eq1) = false := decide_eq_false hle
              simp only [d2]
              go_wp2_with fail
              go_roundw
              case rel => exact ⟨L, 1, rfl, rfl, by omega, J5, Lib.hid (CN.out (fun h => hle h.2))⟩
              case measure => simp [intOf]
          · have hkm : ¬ (k1 : Int) < (m : Int) := by omega
            have d1 : decide ((k1 : Int) < (m : Int)) = false := decide_eq_false hkm
            have d1n : decide (k1 < m) = false := decide_eq_false hlt
            go_wp2_with fail
            refine wp_region_past (by kernel_rfl) (by kernel_rfl) ?_
            repeat (go_big_quiet_step (fail))
            refine wpQuiet_nil ?_
            intro xx
            have J5 := Lib.hid (JQ.out.below xx.far)
            generalize xx.w = w5 at J5 ⊢
            go_wp2_with fail
            go_roundw
            case rel => exact ⟨L, 1, rfl, rfl, by omega, J5, Lib.hid (CN.out (fun h => hlt h.1))⟩
            case measure => simp [intOf]
        · -- place 1
          have CY := Lib.hid (ch_yes (l := l') (i := i) (L := L) (j := 1) CH.out (by omega))
          have CN := Lib.hid (ch_no (l := l') (i := i) (L := L) (j := 1) CH.out)
          have HK : Hid (k2 = 2 * i + 1 + 1) := Lib.hid (by rw [HQ2.out])
          rw [← HK.out, HL.out] at CY CN
          by_cases hlt : k2 < m
          · have hkm : (k2 : Int) < (m : Int) := by omega
            have d1 : decide ((k2 : Int) < (m : Int)) = true := decide_eq_true hkm
            have d1n : decide (k2 < m) = true := decide_eq_true hlt
            have hLm : L < m := by
              rcases CH.out.1 with h | h
              · omega
              · have := h.2.1; rw [HL.out] at this; exact this
            have c0 := JQ.out.1.1.cell 0 rfl
            have c1 := JQ.out.1.1.cell 1 rfl
            rw [HL.out] at c0
            have bl := JQ.out.1.1.lt
            have gl := JQ.out.1.2.1.lt.2
            obtain ⟨e0, e1⟩ := JQ.out.1.cells k2 (by rw [HL.out]; exact hlt)
            obtain ⟨f0, f1⟩ := JQ.out.1.cells L (by rw [HL.out]; exact hLm)
            have HE1 : Hid (keyAt l' k2 = (l'.getD k2 (0, 0)).2) := Lib.hid rfl
            have HE2 : Hid (keyAt l' L = (l'.getD L (0, 0)).2) := Lib.hid rfl
            generalize l'.getD k2 (0, 0) = ek at *
            generalize l'.getD L (0, 0) = eq at *
            obtain ⟨ek0, ek1⟩ := ek
            obtain ⟨eq0, eq1⟩ := eq
            simp only at e0 e1 f0 f1 HE1 HE2
            rw [HE1.out, HE2.out] at CY CN
            go_wp2_with fail
            refine wp_region_past (by kernel_rfl) (by kernel_rfl) ?_
            repeat (go_big_quiet_step (exact past_below (less_c _ _ _ _ _)))
            refine wpQuiet_nil ?_
            intro xx
            have J5 := Lib.hid (JQ.out.below xx.far)
            generalize xx.w = w5 at J5 ⊢
            clear c0 c1 e0 e1 f0 f1 bl gl
            by_cases hle : ek1 < eq1
            · have d2 : decide (ek1 < eq1) = true := decide_eq_true hle
              simp only [d2]
              go_wp2_with fail
              go_roundw
              case rel => exact ⟨k2, 2, rfl, rfl, by omega, J5, Lib.hid (CY.out hlt hle)⟩
              case measure => simp [intOf]
            · have d2 : decide (ek1 < eq1) = false := decide_eq_false hle
              simp only [d2]
              go_wp2_with fail
              go_roundw
              case rel => exact ⟨L, 2, rfl, rfl, by omega, J5, Lib.hid (CN.out (fun h => hle h.2))⟩
              case measure => simp [intOf]
          · have hkm : ¬ (k2 : Int) < (m : Int) := by omega
            have d1 : decide ((k2 : Int) < (m : Int)) = false := decide_eq_false hkm
            have d1n : decide (k2 < m) = false := decide_eq_false hlt
            go_wp2_with fail
            refine wp_region_past (by kernel_rfl) (by kernel_rfl) ?_
            repeat (go_big_quiet_step (fail))
            refine wpQuiet_nil ?_
            intro xx
            have J5 := Lib.hid (JQ.out.below xx.far)
            generalize xx.w = w5 at J5 ⊢
            go_wp2_with fail
            go_roundw
            case rel => exact ⟨L, 2, rfl, rfl, by omega, J5, Lib.hid (CN.out (fun h => hlt h.1))⟩
            case measure => simp [intOf]
        · -- both seen
          by_cases hLi : L = i
          · subst hLi
            have c2 := JQ.out.2.2.1
            have c3 := JQ.out.2.2.2.1
            have a0 := c2.cell 0 rfl
            have a1 := c2.cell 1 rfl
            have z0 := c2.free 0
            have z1 := c2.free 1
            have e0 := c3.cell 0 rfl
            have e1 := c3.cell 1 rfl
            clear c2 c3
            go_wp2_with fail
            have hb := JQ.out.2.2.2.2
            have s1 := (JQ.out.1.1.setCell_ne (p := ⟨w.heap.size, 0, none⟩) (by simp; omega) (.int .i64 x0)).setCell_ne (p := ⟨w.heap.size, 1, none⟩) (by simp; omega) (.int .i64 x1)
            have s2 := (JQ.out.1.2.1.set_ne (p := ⟨w.heap.size, 0, none⟩) (fun e => by have := ownB_some.1 e; simp at this; omega) (.int .i64 x0)).set_ne (p := ⟨w.heap.size, 1, none⟩) (fun e => by have := ownB_some.1 e; simp at this; omega) (.int .i64 x1)
            have t1 := (JQ.out.2.1.setCell (p := ⟨w.heap.size, 0, none⟩) (.inr (Nat.le_refl _)) (.int .i64 x0)).setCell (p := ⟨w.heap.size, 1, none⟩) (.inr (Nat.le_refl _)) (.int .i64 x1)
            refine bodyPost_ret (v := .agg #[.int .i64 x0, .int .i64 x1]) (by simp [results, Try.results103, go_sem, *]) rfl ⟨rfl, l', ⟨s1, s2, JQ.out.1.2.2⟩, ((PM.out.cons _).trans PP.out), ch_done CH.out UR.out, t1⟩
          · have hLi' : ¬ (L : Int) = (i : Int) := by omega
            have hLb : ((L : Int) == (i : Int)) = false := by simpa using hLi'
            have HST := Lib.hid (ch_step CH.out UR.out hLi)
            rw [HL.out] at HST
            have hLm : L < m := HST.out.1
            have hiL : i < L := HST.out.2.1
            have him : i < m := by omega
            generalize hek : (l'.getD i (0, 0)) = ek at *
            generalize heq : (l'.getD L (0, 0)) = eq at *
            obtain ⟨ek0, ek1⟩ := ek
            obtain ⟨eq0, eq1⟩ := eq
            have HEK := Lib.hid hek
            have HEQ := Lib.hid heq
            clear hek heq
            go_wp2_with fail
            refine wp_region_spine 25 [false] [9] ?af6 (fun V => TkJ w B b g c (x0, x1) l' V) (by kernel_rfl) (by kernel_rfl) JQ.out.drew ?walk6 ?spine6
            case walk6 =>
              intro V hV
              have c0 := hV.1.1.cell 0 rfl
              rw [HL.out] at c0
              obtain ⟨e0, e1⟩ := hV.1.cells i (by rw [HL.out]; exact him)
              obtain ⟨f0, f1⟩ := hV.1.cells L (by rw [HL.out]; exact hLm)
              rw [HEK.out] at e0 e1
              rw [HEQ.out] at f0 f1
              clear hV
              simp only [List.take_succ_cons, List.take_zero]
              repeat (go_big_quiet_step (fail))
              refine wpQuiet_nil ?_
              rfl
            case spine6 =>
              intro V hV
              have P1 := Lib.hid (hV.put i (eq0, eq1) (by rw [HL.out]; exact him))
              have P2 := Lib.hid (P1.out.put L (ek0, ek1) (by rw [List.length_set, HL.out]; exact hLm))
              rw [show (l'.set i (eq0, eq1)).set L (ek0, ek1) = swp l' i L from by unfold swp; rw [HEK.out, HEQ.out]] at P2
              obtain ⟨e0, e1⟩ := hV.1.cells i (by rw [HL.out]; exact him)
              have z0 := hV.1.2.1.free (i * 2)
              have z1 := hV.1.2.1.free (i * 2 + 1)
              clear hV
              refine spineV_cons ?_
              unfold StepV
              go_simp
              generalize (V.setCell ⟨g, i * 2, none⟩ (.int .i64 eq0)).setCell ⟨g, i * 2 + 1, none⟩ (.int .i64 eq1) = V1 at P1 P2 ⊢
              clear e0 e1 z0 z1
              refine spineV_nil ?_
              obtain ⟨e0, e1⟩ := P1.out.1.cells L (by rw [List.length_set, HL.out]; exact hLm)
              have z0 := P1.out.1.2.1.free (L * 2)
              have z1 := P1.out.1.2.1.free (L * 2 + 1)
              go_wp2_with fail
              go_roundw
              case rel => exact ⟨L, rfl, by omega, Lib.hid ⟨_, P2.out, (swp_perm (by rw [HL.out]; exact him) (by rw [HL.out]; exact hLm)).trans PM.out, HST.out.2.2⟩⟩
              case measure => simp [intOf]; omega
end Go.Proofs.Ytmebpglkeedaoaa
