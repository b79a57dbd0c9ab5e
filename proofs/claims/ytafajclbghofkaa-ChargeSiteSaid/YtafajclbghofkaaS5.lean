/- The sums of Grant of charge. -/
import Derived.Test.YtafajclbghofkaaS4
import Derived.Test.YtafajclbghofkaaR3
namespace Go.Proofs.Ytafajclbghofkaa
open Go.RowKit
set_option linter.unusedVariables false
theorem of1_c (a b : Int) (w : World) : Calls Try.prog 77 #[.int .i64 a, .int .i64 b] w fun e w' => e = .returned (.int .i64 a) ∧ w = w' := by
  go_enter Try.func77, Try.ntmps77
  go_wp2
  go_ret
  exact ⟨rfl, rfl⟩
theorem of2_c (a b : Int) (w : World) : Calls Try.prog 78 #[.int .i64 a, .int .i64 b] w fun e w' => e = .returned (.int .i64 b) ∧ w = w' := by
  go_enter Try.func78, Try.ntmps78
  go_wp2
  go_ret
  exact ⟨rfl, rfl⟩
/-- what Grant's variables hold -/
def GrV (w : World) (b6 b11 b7 b16 b8 b17 b9 gs : Nat) (now : Int) (m : Nat) (a dr b bk : Int) : Prop :=
  w.cell? ⟨b6, 0, none⟩ = some (.pointer (some ⟨gs, 0, none⟩)) ∧ w.cell? ⟨b11, 0, none⟩ = some (.int .i64 now) ∧ w.cell? ⟨b7, 0, none⟩ = some (.int .i64 m) ∧ w.cell? ⟨b16, 0, none⟩ = some (.int .i64 a) ∧ w.cell? ⟨b8, 0, none⟩ = some (.int .i64 dr) ∧ w.cell? ⟨b17, 0, none⟩ = some (.int .i64 b) ∧ w.cell? ⟨b9, 0, none⟩ = some (.int .i64 bk)
theorem cell_keep {w w1 : World} (hb : Below w.heap.size w w1) {g o : Nat} {v : Value} (h : w.cell? ⟨g, o, none⟩ = some v) : w1.cell? ⟨g, o, none⟩ = some v := (hb.cell (World.block_lt_of_cell? _ _ h)).trans h
theorem GrV.below {w w1 : World} {b6 b11 b7 b16 b8 b17 b9 gs : Nat} {now : Int} {m : Nat} {a dr b bk : Int} (h : GrV w b6 b11 b7 b16 b8 b17 b9 gs now m a dr b bk) (hb : Below w.heap.size w w1) : GrV w1 b6 b11 b7 b16 b8 b17 b9 gs now m a dr b bk :=
  ⟨cell_keep hb h.1, cell_keep hb h.2.1, cell_keep hb h.2.2.1, cell_keep hb h.2.2.2.1, cell_keep hb h.2.2.2.2.1, cell_keep hb h.2.2.2.2.2.1, cell_keep hb h.2.2.2.2.2.2⟩

set_option maxHeartbeats 4000000 in
theorem sum1_c {w : World} {B gs gc cc : Nat} {A : Nat → Option Addr} {q : Nat → Nat} {cs : List Sx.Cl} {D Bk N : Int} (h : SiteAt w B gs gc cc A q cs D Bk N) {K : Int} (hk : K ≤ 100000) (hok : ∀ c ∈ cs, Sx.OkC K c) (hn32 : cs.length ≤ 32) (b6 b11 b7 b16 b8 b17 b9 : Nat) (now : Int) (m : Nat) (a dr b bk : Int) (ha : 0 ≤ a ∧ a ≤ 1073741824) (hdr : 0 ≤ dr ∧ dr ≤ 1073741824) (hb : 0 ≤ b ∧ b ≤ 1073741824) (hbk : 0 ≤ bk ∧ bk ≤ 1073741824) (hv : GrV w b6 b11 b7 b16 b8 b17 b9 gs now m a dr b bk) :
    Calls Try.prog 76 #[.func (.func 77) #[] #[], .pointer (some ⟨b6, 0, none⟩), .pointer (some ⟨b11, 0, none⟩), .pointer (some ⟨b7, 0, none⟩), .pointer (some ⟨b16, 0, none⟩), .pointer (some ⟨b8, 0, none⟩), .pointer (some ⟨b17, 0, none⟩), .pointer (some ⟨b9, 0, none⟩)] w
      fun e w' => e = .returned (.int .i64 (Sx.sumF (fun c => Sx.rD c now) cs m (max a dr) cs.length)) ∧ Below w.heap.size w w' := by
  obtain ⟨p, hp⟩ : ∃ p, p = max a dr := ⟨_, rfl⟩
  obtain ⟨r, hr⟩ : ∃ r, r = max b bk := ⟨_, rfl⟩
  rw [← hp]
  have hx1 : 0 ≤ p ∧ p ≤ 1073741824 := by omega
  have hx2 : 0 ≤ r ∧ r ≤ 1073741824 := by omega
  have HP := Lib.hid hp
  have HQ := Lib.hid hr
  clear hp hr
  have HR := Lib.hid (fun (i : Nat) (hi : i < cs.length) W (hW : Below w.heap.size w W) => h.res hk hok hi now hW)
  have HV := Lib.hid hv
  have HS := Lib.hid h
  have HB := Lib.hid (fun k hkl => Sx.sumF_bd (f := fun c => Sx.rD c now) (cs := cs) (st := m) (x := p) (by omega) k hkl (fun c hc => (Sx.mx_bd (Sx.okL_live (hok c hc).ls now)).1))
  have HE := Lib.hid (fun (i : Nat) (hi : i < cs.length) => Sx.mx_bd (Sx.okL_live (hok (cs.getD i default) (by rw [List.getD_eq_getElem?_getD, List.getElem?_eq_getElem hi]; exact List.getElem_mem hi)).ls now))
  have v6 := hv.1
  have c3 := h.s.cell 3 rfl
  have hcc := h.c.1
  have hcm := h.c.2
  clear h hok hv
  go_enter Try.func76, Try.ntmps76
  go_wp2
  clear v6 c3
  go_loopw [10, 20] (fun s i wr => ∃ k : Nat, k ≤ cs.length ∧ i = .int .i64 k ∧ s = .int .i64 (Sx.sumF (fun c => Sx.rD c now) cs m p k) ∧ Hid (Below w.heap.size w wr)) (fun _ i _ => cs.length - (intOf i).toNat)
  case atStart => exact ⟨0, Nat.zero_le _, rfl, rfl, Lib.hid (Below.refl _ _)⟩
  case round =>
    obtain ⟨k, hk, rfl, rfl, HW⟩ := hrel
    by_cases hlt : k < cs.length
    · have hsb := HB.out k (by omega)
      have hsb2 := Int.le_trans hsb.2 (show (k : Int) * 1073741824 ≤ 34359738368 by omega)
      have hsb1 := hsb.1
      clear hsb
      obtain ⟨v1, v2, v3, v4, v5, v6, v7⟩ := HV.out.below HW.out
      have c3 := (HS.out.below HW.out).s.cell 3 rfl
      have z1 := World.block_lt_of_cell? _ _ v1
      have z2 := World.block_lt_of_cell? _ _ v2
      have z8 := World.block_lt_of_cell? _ _ c3
      have PR := Lib.hid (fun W (hW : Below wr.heap.size wr W) => HR.out k hlt W (HW.out.trans (hW.mono HW.out.size)))
      have HSu := Lib.hid (show Sx.sumF (fun c => Sx.rD c now) cs m p (k + 1) = Sx.sumF (fun c => Sx.rD c now) cs m p k + (if k = m then p else Sx.rD (cs.getD k default) now) from rfl)
      have hrd : 0 ≤ Sx.rD (cs.getD k default) now ∧ Sx.rD (cs.getD k default) now ≤ 1073741824 := (HE.out k hlt).1
      have hrb : 0 ≤ Sx.rB (cs.getD k default) now ∧ Sx.rB (cs.getD k default) now ≤ 1073741824 := (HE.out k hlt).2
      have k0 : (0 : Int) ≤ (k : Int) := by omega
      have k1 : (k : Int) < (cs.length : Int) := by omega
      generalize Sx.sumF (fun c => Sx.rD c now) cs m p k = s at *
      generalize Sx.rD (cs.getD k default) now = x at *
      generalize Sx.rB (cs.getD k default) now = y at *
      generalize ((Sx.many (cs.getD k default) now : Nat) : Int) = z at *
      go_wp2_with fail
      refine wp_region_past (by kernel_rfl) (by kernel_rfl) ?_
      repeat (go_big_quiet_step ((go_at_call 74; exact past_below (PR.out _ (Past.far _)))))
      refine wpQuiet_nil ?_
      intro xx
      have HX := Lib.hid xx.far
      generalize xx.w = w4 at HX ⊢
      have HW4 := Lib.hid (HW.out.trans (HX.out.mono HW.out.size))
      clear v1 v2 v3 v4 v5 v6 v7 c3 z1 z2 z8
      obtain ⟨v1, v2, v3, v4, v5, v6, v7⟩ := HV.out.below HW4.out
      by_cases hkm : k = m
      · have hkm' : ((k : Int) == (m : Int)) = true := by simp [hkm]
        have HT := Lib.hid (HSu.out.trans (by rw [if_pos hkm]))
        clear hkm
        go_wp2_with fail
        go_quiet (fail)
        have hm1 : (if a < dr then dr else a) = p := by have := HP.out; split <;> omega
        have hm2 : (if b < bk then bk else b) = r := by have := HQ.out; split <;> omega
        try rw [hm1]
        try rw [hm2]
        clear hm1 hm2
        go_wp2_with (go_at_call 77; refine (of1_c _ _ _).mono ?_; rintro e w' ⟨rfl, rfl⟩)
        go_roundw
        case rel => exact ⟨k + 1, by omega, by go_num, by rw [HT.out], Lib.hid (below_drewN HW4.out _)⟩
        case measure => simp [intOf]; omega
      · have hkm' : ((k : Int) == (m : Int)) = false := by simp; omega
        have HT := Lib.hid (HSu.out.trans (by rw [if_neg hkm]))
        clear hkm
        go_wp2_with (go_at_call 77; refine (of1_c _ _ _).mono ?_; rintro e w' ⟨rfl, rfl⟩)
        go_roundw
        case rel => exact ⟨k + 1, by omega, by go_num, by rw [HT.out], HW4⟩
        case measure => simp [intOf]; omega
    · have e : k = cs.length := by omega
      subst e
      go_wp2_with fail
      go_ret
      exact ⟨rfl, HW.out⟩

set_option maxHeartbeats 4000000 in
theorem sum2_c {w : World} {B gs gc cc : Nat} {A : Nat → Option Addr} {q : Nat → Nat} {cs : List Sx.Cl} {D Bk N : Int} (h : SiteAt w B gs gc cc A q cs D Bk N) {K : Int} (hk : K ≤ 100000) (hok : ∀ c ∈ cs, Sx.OkC K c) (hn32 : cs.length ≤ 32) (b6 b11 b7 b16 b8 b17 b9 : Nat) (now : Int) (m : Nat) (a dr b bk : Int) (ha : 0 ≤ a ∧ a ≤ 1073741824) (hdr : 0 ≤ dr ∧ dr ≤ 1073741824) (hb : 0 ≤ b ∧ b ≤ 1073741824) (hbk : 0 ≤ bk ∧ bk ≤ 1073741824) (hv : GrV w b6 b11 b7 b16 b8 b17 b9 gs now m a dr b bk) :
    Calls Try.prog 76 #[.func (.func 78) #[] #[], .pointer (some ⟨b6, 0, none⟩), .pointer (some ⟨b11, 0, none⟩), .pointer (some ⟨b7, 0, none⟩), .pointer (some ⟨b16, 0, none⟩), .pointer (some ⟨b8, 0, none⟩), .pointer (some ⟨b17, 0, none⟩), .pointer (some ⟨b9, 0, none⟩)] w
      fun e w' => e = .returned (.int .i64 (Sx.sumF (fun c => Sx.rB c now) cs m (max b bk) cs.length)) ∧ Below w.heap.size w w' := by
  obtain ⟨p, hp⟩ : ∃ p, p = max a dr := ⟨_, rfl⟩
  obtain ⟨r, hr⟩ : ∃ r, r = max b bk := ⟨_, rfl⟩
  rw [← hr]
  have hx1 : 0 ≤ p ∧ p ≤ 1073741824 := by omega
  have hx2 : 0 ≤ r ∧ r ≤ 1073741824 := by omega
  have HP := Lib.hid hp
  have HQ := Lib.hid hr
  clear hp hr
  have HR := Lib.hid (fun (i : Nat) (hi : i < cs.length) W (hW : Below w.heap.size w W) => h.res hk hok hi now hW)
  have HV := Lib.hid hv
  have HS := Lib.hid h
  have HB := Lib.hid (fun k hkl => Sx.sumF_bd (f := fun c => Sx.rB c now) (cs := cs) (st := m) (x := r) (by omega) k hkl (fun c hc => (Sx.mx_bd (Sx.okL_live (hok c hc).ls now)).2))
  have HE := Lib.hid (fun (i : Nat) (hi : i < cs.length) => Sx.mx_bd (Sx.okL_live (hok (cs.getD i default) (by rw [List.getD_eq_getElem?_getD, List.getElem?_eq_getElem hi]; exact List.getElem_mem hi)).ls now))
  have v6 := hv.1
  have c3 := h.s.cell 3 rfl
  have hcc := h.c.1
  have hcm := h.c.2
  clear h hok hv
  go_enter Try.func76, Try.ntmps76
  go_wp2
  clear v6 c3
  go_loopw [10, 20] (fun s i wr => ∃ k : Nat, k ≤ cs.length ∧ i = .int .i64 k ∧ s = .int .i64 (Sx.sumF (fun c => Sx.rB c now) cs m r k) ∧ Hid (Below w.heap.size w wr)) (fun _ i _ => cs.length - (intOf i).toNat)
  case atStart => exact ⟨0, Nat.zero_le _, rfl, rfl, Lib.hid (Below.refl _ _)⟩
  case round =>
    obtain ⟨k, hk, rfl, rfl, HW⟩ := hrel
    by_cases hlt : k < cs.length
    · have hsb := HB.out k (by omega)
      have hsb2 := Int.le_trans hsb.2 (show (k : Int) * 1073741824 ≤ 34359738368 by omega)
      have hsb1 := hsb.1
      clear hsb
      obtain ⟨v1, v2, v3, v4, v5, v6, v7⟩ := HV.out.below HW.out
      have c3 := (HS.out.below HW.out).s.cell 3 rfl
      have z1 := World.block_lt_of_cell? _ _ v1
      have z2 := World.block_lt_of_cell? _ _ v2
      have z8 := World.block_lt_of_cell? _ _ c3
      have PR := Lib.hid (fun W (hW : Below wr.heap.size wr W) => HR.out k hlt W (HW.out.trans (hW.mono HW.out.size)))
      have HSu := Lib.hid (show Sx.sumF (fun c => Sx.rB c now) cs m r (k + 1) = Sx.sumF (fun c => Sx.rB c now) cs m r k + (if k = m then r else Sx.rB (cs.getD k default) now) from rfl)
      have hrd : 0 ≤ Sx.rD (cs.getD k default) now ∧ Sx.rD (cs.getD k default) now ≤ 1073741824 := (HE.out k hlt).1
      have hrb : 0 ≤ Sx.rB (cs.getD k default) now ∧ Sx.rB (cs.getD k default) now ≤ 1073741824 := (HE.out k hlt).2
      have k0 : (0 : Int) ≤ (k : Int) := by omega
      have k1 : (k : Int) < (cs.length : Int) := by omega
      generalize Sx.sumF (fun c => Sx.rB c now) cs m r k = s at *
      generalize Sx.rD (cs.getD k default) now = x at *
      generalize Sx.rB (cs.getD k default) now = y at *
      generalize ((Sx.many (cs.getD k default) now : Nat) : Int) = z at *
      go_wp2_with fail
      refine wp_region_past (by kernel_rfl) (by kernel_rfl) ?_
      repeat (go_big_quiet_step ((go_at_call 74; exact past_below (PR.out _ (Past.far _)))))
      refine wpQuiet_nil ?_
      intro xx
      have HX := Lib.hid xx.far
      generalize xx.w = w4 at HX ⊢
      have HW4 := Lib.hid (HW.out.trans (HX.out.mono HW.out.size))
      clear v1 v2 v3 v4 v5 v6 v7 c3 z1 z2 z8
      obtain ⟨v1, v2, v3, v4, v5, v6, v7⟩ := HV.out.below HW4.out
      by_cases hkm : k = m
      · have hkm' : ((k : Int) == (m : Int)) = true := by simp [hkm]
        have HT := Lib.hid (HSu.out.trans (by rw [if_pos hkm]))
        clear hkm
        go_wp2_with fail
        go_quiet (fail)
        have hm1 : (if a < dr then dr else a) = p := by have := HP.out; split <;> omega
        have hm2 : (if b < bk then bk else b) = r := by have := HQ.out; split <;> omega
        try rw [hm1]
        try rw [hm2]
        clear hm1 hm2
        go_wp2_with (go_at_call 78; refine (of2_c _ _ _).mono ?_; rintro e w' ⟨rfl, rfl⟩)
        go_roundw
        case rel => exact ⟨k + 1, by omega, by go_num, by rw [HT.out], Lib.hid (below_drewN HW4.out _)⟩
        case measure => simp [intOf]; omega
      · have hkm' : ((k : Int) == (m : Int)) = false := by simp; omega
        have HT := Lib.hid (HSu.out.trans (by rw [if_neg hkm]))
        clear hkm
        go_wp2_with (go_at_call 78; refine (of2_c _ _ _).mono ?_; rintro e w' ⟨rfl, rfl⟩)
        go_roundw
        case rel => exact ⟨k + 1, by omega, by go_num, by rw [HT.out], HW4⟩
        case measure => simp [intOf]; omega
    · have e : k = cs.length := by omega
      subst e
      go_wp2_with fail
      go_ret
      exact ⟨rfl, HW.out⟩

end Go.Proofs.Ytafajclbghofkaa
