/- Contracts that the claim leans on, part 3: G2 R8 R15 R14 V3 V4 V5 V6 R15b V7 V8 -/
import Derived.Test.YtlklnaebdnahcaaCK2
import Derived.Orders
import Derived.OwnWalk
import Derived.StillTailTactics
set_option linter.unusedVariables false
set_option linter.unusedSimpArgs false
set_option linter.unnecessarySimpa false
namespace Go.Proofs.Ytlklnaebdnahcaa
open Go.RowKit
structure Ct where
  pt : Int
  A : Option Addr
  cap : Nat
  ps : List Int
instance : Inhabited Ct := ⟨⟨0, none, 0, []⟩⟩
namespace Ct
def v (c : Ct) : Value := .agg #[.int .u64 c.pt, .slice c.A c.ps.length c.cap]
def At (w : World) (c : Ct) : Prop := PadsAt w c.A c.ps ∧ c.ps.length ≤ c.cap ∧ c.cap ≤ 9223372036854775807
theorem At.below {w w1 : World} {c : Ct} (h : At w c) (hb : Below w.heap.size w w1) : At w1 c := ⟨h.1.below hb, h.2⟩
end Ct
def CtsAt (w : World) (C : Option Addr) (cs : List Ct) : Prop := ∀ i, i < cs.length → ∃ ad, C = some ad ∧ ad.block < w.heap.size ∧ w.cell? (ad.add (i * 2)) = some (.int .u64 (cs.getD i default).pt) ∧
  w.cell? ⟨(ad.add (i * 2)).block, (ad.add (i * 2)).off + 1, none⟩ = some (.slice (cs.getD i default).A (cs.getD i default).ps.length (cs.getD i default).cap) ∧ Ct.At w (cs.getD i default)
theorem CtsAt.below {w w1 : World} {C : Option Addr} {cs : List Ct} (h : CtsAt w C cs) (hb : Below w.heap.size w w1) : CtsAt w1 C cs := by
  intro i hi
  obtain ⟨ad, e, hlt, c0, c1, ha⟩ := h i hi
  have hbl : (ad.add (i * 2)).block < w.heap.size := by rw [block_of_add]; exact hlt
  exact ⟨ad, e, Nat.lt_of_lt_of_le hlt hb.size, (hb.cell hbl).trans c0, (hb.cell (p := ⟨_, _, none⟩) hbl).trans c1, ha.below hb⟩
namespace Cv
def ctsOk (cs : List Ct) : Bool := cs.all (fun c => ctOk c.pt c.ps)
theorem ctsOk_iff {cs : List Ct} : ctsOk cs = true ↔ ∀ i, i < cs.length → ctOk (cs.getD i default).pt (cs.getD i default).ps = true := by
  unfold ctsOk
  rw [List.all_eq_true]
  constructor
  · intro h i hi
    exact h (cs.getD i default) (by rw [List.getD_eq_getElem?_getD, List.getElem?_eq_getElem hi]; exact List.getElem_mem hi)
  · intro h x hx
    obtain ⟨i, hi, rfl⟩ := List.getElem_of_mem hx
    have := h i hi
    rw [List.getD_eq_getElem?_getD, List.getElem?_eq_getElem hi] at this
    exact this
theorem ctsOk_no {cs : List Ct} {k : Nat} (hk : k < cs.length) (h : ctOk (cs.getD k default).pt (cs.getD k default).ps = false) : ctsOk cs = false := by
  cases hp : ctsOk cs
  · rfl
  · have := ctsOk_iff.1 hp k hk; rw [h] at this; cases this
def deE (te : Int) (n : Nat) (ok : Bool) (cr ev sl dr bk : Int) : Int := if te = 0 ∧ 1 ≤ n ∧ n ≤ 16 ∧ ok = true ∧ inB cr 0 1099511627776 = true ∧ 1 ≤ ev ∧ ev ≤ 1000 ∧ 1 ≤ sl ∧ sl ≤ 20 ∧ inB dr 0 1073741824 = true ∧ inB bk 0 1073741824 = true then 0 else 2
theorem deE_no {te : Int} {n : Nat} {ok : Bool} {cr ev sl dr bk : Int} (h : ¬ (te = 0 ∧ 1 ≤ n ∧ n ≤ 16 ∧ ok = true ∧ inB cr 0 1099511627776 = true ∧ 1 ≤ ev ∧ ev ≤ 1000 ∧ 1 ≤ sl ∧ sl ≤ 20 ∧ inB dr 0 1073741824 = true ∧ inB bk 0 1073741824 = true)) : deE te n ok cr ev sl dr bk = 2 := if_neg h
theorem deE_yes {te : Int} {n : Nat} {ok : Bool} {cr ev sl dr bk : Int} (h : te = 0 ∧ 1 ≤ n ∧ n ≤ 16 ∧ ok = true ∧ inB cr 0 1099511627776 = true ∧ 1 ≤ ev ∧ ev ≤ 1000 ∧ 1 ≤ sl ∧ sl ≤ 20 ∧ inB dr 0 1073741824 = true ∧ inB bk 0 1073741824 = true) : deE te n ok cr ev sl dr bk = 0 := if_pos h
end Cv
theorem badContract_c (c : Ct) (w : World) (h : c.At w) : Calls Try.prog 39 #[c.v] w fun e w' => e = .returned (.bool (!Cv.ctOk c.pt c.ps)) ∧ Below w.heap.size w w' := by
  have hc := checkContract_c c.pt c.A c.ps c.cap _ h.2.1 h.2.2 (h.1.below ((Below.refl w.heap.size w).alloc (Nat.le_refl _) (.cells #[.int .u64 c.pt, .slice c.A c.ps.length c.cap] 48)))
  clear h
  unfold Ct.v
  generalize Cv.ctOk c.pt c.ps = b at *
  go_enter Try.func39, Try.ntmps39
  go_wp2_with (go_at_call 40; refine hc.mono ?_; rintro e w' ⟨rfl, hb⟩; have HB := Lib.hid (((Below.refl w.heap.size w).alloc (Nat.le_refl _) _).trans (hb.mono (by simp))); clear hb)
  go_ret
  exact ⟨rfl, HB.out⟩
set_option maxHeartbeats 1000000 in
theorem idxCts_c (C : Option Addr) (cs : List Ct) (cap : Nat) (w : World) (hcap : cs.length ≤ cap) (hl : cap ≤ 9223372036854775807) (hw : CtsAt w C cs) :
    Calls Try.prog 54 #[.slice C cs.length cap, .func (.func 39) #[] #[]] w (IdxR (!Cv.ctsOk cs) (fun w' => Below w.heap.size w w')) := by
  have HW := Lib.hid hw
  clear hw
  go_enter Try.func54, Try.ntmps54
  go_wp2
  go_loopw [8] (fun i wr => ∃ k : Nat, k ≤ cs.length ∧ i = .int .i64 k ∧ Hid (∀ j, j < k → Cv.ctOk (cs.getD j default).pt (cs.getD j default).ps = true) ∧ Hid (Below w.heap.size w wr)) (fun i _ => cs.length - (intOf i).toNat)
  case atStart => exact ⟨0, Nat.zero_le _, rfl, Lib.hid (fun j hj => absurd hj (Nat.not_lt_zero _)), Lib.hid (Below.refl _ _)⟩
  case round =>
    obtain ⟨k, hk, rfl, HA, HB⟩ := hrel
    by_cases hlt : k < cs.length
    · obtain ⟨ad, rfl, hlb, c0, c1, ha⟩ := HW.out.below HB.out k hlt
      have hc := badContract_c _ _ ha
      have HNo := Lib.hid (Cv.ctsOk_no hlt)
      have HYes := Lib.hid (fun (h : Cv.ctOk (cs.getD k default).pt (cs.getD k default).ps = true) j (hj : j < k + 1) => (by
        by_cases e : j = k
        · subst e; exact h
        · exact HA.out j (by omega) : Cv.ctOk (cs.getD j default).pt (cs.getD j default).ps = true))
      clear ha
      generalize cs.getD k default = c at *
      unfold Ct.v at hc
      cases hb : Cv.ctOk c.pt c.ps
      · have HN := Lib.hid (HNo.out hb)
        rw [hb] at hc
        clear hb
        go_wp2_with (go_at_call 39; refine hc.mono ?_; rintro e w' ⟨rfl, hb⟩; have HB2 := Lib.hid (HB.out.trans (hb.mono HB.out.size)); clear hb)
        go_ret
        exact ⟨_, rfl, by rw [HN.out]; simp, HB2.out⟩
      · have HN := Lib.hid (HYes.out hb)
        rw [hb] at hc
        clear hb
        go_wp2_with (go_at_call 39; refine hc.mono ?_; rintro e w' ⟨rfl, hb⟩; have HB2 := Lib.hid (HB.out.trans (hb.mono HB.out.size)); clear hb)
        go_roundw
        case rel => exact ⟨k + 1, by omega, by go_num, HN, HB2⟩
        case measure => simp [intOf]; omega
    · have e : k = cs.length := by omega
      subst e
      have HN := Lib.hid (Cv.ctsOk_iff.2 HA.out)
      go_wp2
      go_ret
      exact ⟨_, rfl, by rw [HN.out]; rfl, HB.out⟩
theorem anyCts_c (C : Option Addr) (cs : List Ct) (cap : Nat) (w : World) (hcap : cs.length ≤ cap) (hl : cap ≤ 9223372036854775807) (hw : CtsAt w C cs) :
    Calls Try.prog 38 #[.slice C cs.length cap, .func (.func 39) #[] #[]] w fun e w' => e = .returned (.bool (!Cv.ctsOk cs)) ∧ Below w.heap.size w w' := by
  have hc := idxCts_c C cs cap w hcap hl hw
  clear hw
  go_enter Try.func38, Try.ntmps38
  go_wp2_with (go_at_call 54; refine hc.mono ?_; rintro e w' ⟨r, rfl, hr, hb⟩; have HR := Lib.hid hr; have HB := Lib.hid hb; clear hr hb)
  go_ret
  exact ⟨ret_bool HR.out, HB.out⟩
abbrev dealV (day fee : Int) (A : Option Addr) (bs : List Bd) (cap : Nat) (C : Option Addr) (cs : List Ct) (cc : Nat) (cr ev sl dr bk : Int) : Value :=
  .agg #[.int .i64 day, .slice A bs.length cap, .int .i64 fee, .slice C cs.length cc, .int .i64 cr, .int .i64 ev, .int .i64 sl, .int .i64 dr, .int .i64 bk]
set_option maxRecDepth 100000 in
set_option maxHeartbeats 4000000 in
theorem CheckDeal_c (day fee : Int) (A : Option Addr) (bs : List Bd) (cap : Nat) (C : Option Addr) (cs : List Ct) (cc : Nat) (cr ev sl dr bk : Int) (w : World) (hcap : bs.length ≤ cap) (hl : cap ≤ 9223372036854775807) (hw : BandsAt w A bs) (hcc : cs.length ≤ cc) (hl2 : cc ≤ 9223372036854775807) (hw2 : CtsAt w C cs) :
    Calls Try.prog 13 #[dealV day fee A bs cap C cs cc cr ev sl dr bk] w fun e w' => e = .returned (.int .i64 (Cv.deE (Cv.tarE day fee bs) cs.length (Cv.ctsOk cs) cr ev sl dr bk)) ∧ Below w.heap.size w w' := by
  have h17 := fun w0 hw0 => CheckTariff_c day fee A bs cap w0 hcap hl hw0
  have h67 := fun w0 hw0 => anyCts_c C cs cc w0 hcc hl2 hw0
  have HBW := fun w0 => Lib.hid (BandsAt.below (w1 := w0) hw)
  have HCW := fun w0 => Lib.hid (CtsAt.below (w1 := w0) hw2)
  have h51a := fun w0 => within_c cr 0 1099511627776 w0
  have h51b := fun w0 => within_c dr 0 1073741824 w0
  have h51c := fun w0 => within_c bk 0 1073741824 w0
  have hn63 : bs.length ≤ 9223372036854775807 := by omega
  have hm63 : cs.length ≤ 9223372036854775807 := by omega
  clear hw hw2
  generalize hte : Cv.tarE day fee bs = te at *
  generalize hok : Cv.ctsOk cs = ok at *
  clear hte hok
  have HE0 := Lib.hid (@Cv.deE_no te cs.length ok cr ev sl dr bk)
  have HE1 := Lib.hid (@Cv.deE_yes te cs.length ok cr ev sl dr bk)
  generalize Cv.deE te cs.length ok cr ev sl dr bk = de at *
  by_cases hq0 : te = 0
  rotate_left 1
  · have q0 : (te == 0) = false := by simpa using hq0
    have HN := Lib.hid (HE0.out (fun h => hq0 (by omega)))
    clear hq0 HE0 HE1
    go_enter Try.func13, Try.ntmps13
    go_wp2_with (first | (go_at_call 37; refine (h17 _ ((HBW _).out ((Below.refl _ _).alloc (Nat.le_refl _) _))).mono ?_; rintro e w1 ⟨rfl, hb⟩; have B1 := Lib.hid (((Below.refl w.heap.size w).alloc (Nat.le_refl _) _).trans (hb.mono (by simp))); have t3 : w1.cell? ⟨w.heap.size, 3, none⟩ = some (.slice C cs.length cc) := below_cell hb (by simp) (by go_simp); have t4 : w1.cell? ⟨w.heap.size, 4, none⟩ = some (.int .i64 cr) := below_cell hb (by simp) (by go_simp); have t5 : w1.cell? ⟨w.heap.size, 5, none⟩ = some (.int .i64 ev) := below_cell hb (by simp) (by go_simp); have t6 : w1.cell? ⟨w.heap.size, 6, none⟩ = some (.int .i64 sl) := below_cell hb (by simp) (by go_simp); have t7 : w1.cell? ⟨w.heap.size, 7, none⟩ = some (.int .i64 dr) := below_cell hb (by simp) (by go_simp); have t8 : w1.cell? ⟨w.heap.size, 8, none⟩ = some (.int .i64 bk) := below_cell hb (by simp) (by go_simp); have z1 : w.heap.size < w1.heap.size := (by have := hb.size; simp at this; omega); clear hb) | (go_at_call 38; refine (h67 _ ((HCW _).out B1.out)).mono ?_; rintro e w2 ⟨rfl, hb⟩; have B2 := Lib.hid (B1.out.trans (hb.mono B1.out.size)); have u4 : w2.cell? ⟨w.heap.size, 4, none⟩ = some (.int .i64 cr) := below_cell hb z1 t4; have u5 : w2.cell? ⟨w.heap.size, 5, none⟩ = some (.int .i64 ev) := below_cell hb z1 t5; have u6 : w2.cell? ⟨w.heap.size, 6, none⟩ = some (.int .i64 sl) := below_cell hb z1 t6; have u7 : w2.cell? ⟨w.heap.size, 7, none⟩ = some (.int .i64 dr) := below_cell hb z1 t7; have u8 : w2.cell? ⟨w.heap.size, 8, none⟩ = some (.int .i64 bk) := below_cell hb z1 t8; clear hb) | (go_at_call 23; first | ((with_reducible refine (h51a _).mono ?_); rintro e w3 ⟨rfl, rfl⟩) | ((with_reducible refine (h51b _).mono ?_); rintro e w3 ⟨rfl, rfl⟩) | ((with_reducible refine (h51c _).mono ?_); rintro e w3 ⟨rfl, rfl⟩)))
    go_ret
    exact ⟨ret_int HN.out.symm, B1.out⟩
  have q0 : (te == 0) = true := by simpa using hq0
  by_cases hq1 : 1 ≤ cs.length
  rotate_left 1
  · have q1 : decide (1 ≤ (cs.length : Int)) = false := decide_eq_false (by omega)
    have HN := Lib.hid (HE0.out (fun h => hq1 (by omega)))
    clear hq0 hq1 HE0 HE1
    go_enter Try.func13, Try.ntmps13
    go_wp2_with (first | (go_at_call 37; refine (h17 _ ((HBW _).out ((Below.refl _ _).alloc (Nat.le_refl _) _))).mono ?_; rintro e w1 ⟨rfl, hb⟩; have B1 := Lib.hid (((Below.refl w.heap.size w).alloc (Nat.le_refl _) _).trans (hb.mono (by simp))); have t3 : w1.cell? ⟨w.heap.size, 3, none⟩ = some (.slice C cs.length cc) := below_cell hb (by simp) (by go_simp); have t4 : w1.cell? ⟨w.heap.size, 4, none⟩ = some (.int .i64 cr) := below_cell hb (by simp) (by go_simp); have t5 : w1.cell? ⟨w.heap.size, 5, none⟩ = some (.int .i64 ev) := below_cell hb (by simp) (by go_simp); have t6 : w1.cell? ⟨w.heap.size, 6, none⟩ = some (.int .i64 sl) := below_cell hb (by simp) (by go_simp); have t7 : w1.cell? ⟨w.heap.size, 7, none⟩ = some (.int .i64 dr) := below_cell hb (by simp) (by go_simp); have t8 : w1.cell? ⟨w.heap.size, 8, none⟩ = some (.int .i64 bk) := below_cell hb (by simp) (by go_simp); have z1 : w.heap.size < w1.heap.size := (by have := hb.size; simp at this; omega); clear hb) | (go_at_call 38; refine (h67 _ ((HCW _).out B1.out)).mono ?_; rintro e w2 ⟨rfl, hb⟩; have B2 := Lib.hid (B1.out.trans (hb.mono B1.out.size)); have u4 : w2.cell? ⟨w.heap.size, 4, none⟩ = some (.int .i64 cr) := below_cell hb z1 t4; have u5 : w2.cell? ⟨w.heap.size, 5, none⟩ = some (.int .i64 ev) := below_cell hb z1 t5; have u6 : w2.cell? ⟨w.heap.size, 6, none⟩ = some (.int .i64 sl) := below_cell hb z1 t6; have u7 : w2.cell? ⟨w.heap.size, 7, none⟩ = some (.int .i64 dr) := below_cell hb z1 t7; have u8 : w2.cell? ⟨w.heap.size, 8, none⟩ = some (.int .i64 bk) := below_cell hb z1 t8; clear hb) | (go_at_call 23; first | ((with_reducible refine (h51a _).mono ?_); rintro e w3 ⟨rfl, rfl⟩) | ((with_reducible refine (h51b _).mono ?_); rintro e w3 ⟨rfl, rfl⟩) | ((with_reducible refine (h51c _).mono ?_); rintro e w3 ⟨rfl, rfl⟩)))
    go_ret
    exact ⟨ret_int HN.out.symm, B1.out⟩
  have q1 : decide (1 ≤ (cs.length : Int)) = true := decide_eq_true (by omega)
  by_cases hq2 : cs.length ≤ 16
  rotate_left 1
  · have q2 : decide ((cs.length : Int) ≤ 16) = false := decide_eq_false (by omega)
    have HN := Lib.hid (HE0.out (fun h => hq2 (by omega)))
    clear hq0 hq1 hq2 HE0 HE1
    go_enter Try.func13, Try.ntmps13
    go_wp2_with (first | (go_at_call 37; refine (h17 _ ((HBW _).out ((Below.refl _ _).alloc (Nat.le_refl _) _))).mono ?_; rintro e w1 ⟨rfl, hb⟩; have B1 := Lib.hid (((Below.refl w.heap.size w).alloc (Nat.le_refl _) _).trans (hb.mono (by simp))); have t3 : w1.cell? ⟨w.heap.size, 3, none⟩ = some (.slice C cs.length cc) := below_cell hb (by simp) (by go_simp); have t4 : w1.cell? ⟨w.heap.size, 4, none⟩ = some (.int .i64 cr) := below_cell hb (by simp) (by go_simp); have t5 : w1.cell? ⟨w.heap.size, 5, none⟩ = some (.int .i64 ev) := below_cell hb (by simp) (by go_simp); have t6 : w1.cell? ⟨w.heap.size, 6, none⟩ = some (.int .i64 sl) := below_cell hb (by simp) (by go_simp); have t7 : w1.cell? ⟨w.heap.size, 7, none⟩ = some (.int .i64 dr) := below_cell hb (by simp) (by go_simp); have t8 : w1.cell? ⟨w.heap.size, 8, none⟩ = some (.int .i64 bk) := below_cell hb (by simp) (by go_simp); have z1 : w.heap.size < w1.heap.size := (by have := hb.size; simp at this; omega); clear hb) | (go_at_call 38; refine (h67 _ ((HCW _).out B1.out)).mono ?_; rintro e w2 ⟨rfl, hb⟩; have B2 := Lib.hid (B1.out.trans (hb.mono B1.out.size)); have u4 : w2.cell? ⟨w.heap.size, 4, none⟩ = some (.int .i64 cr) := below_cell hb z1 t4; have u5 : w2.cell? ⟨w.heap.size, 5, none⟩ = some (.int .i64 ev) := below_cell hb z1 t5; have u6 : w2.cell? ⟨w.heap.size, 6, none⟩ = some (.int .i64 sl) := below_cell hb z1 t6; have u7 : w2.cell? ⟨w.heap.size, 7, none⟩ = some (.int .i64 dr) := below_cell hb z1 t7; have u8 : w2.cell? ⟨w.heap.size, 8, none⟩ = some (.int .i64 bk) := below_cell hb z1 t8; clear hb) | (go_at_call 23; first | ((with_reducible refine (h51a _).mono ?_); rintro e w3 ⟨rfl, rfl⟩) | ((with_reducible refine (h51b _).mono ?_); rintro e w3 ⟨rfl, rfl⟩) | ((with_reducible refine (h51c _).mono ?_); rintro e w3 ⟨rfl, rfl⟩)))
    go_ret
    exact ⟨ret_int HN.out.symm, B1.out⟩
  have q2 : decide ((cs.length : Int) ≤ 16) = true := decide_eq_true (by omega)
  cases hq3 : ok
  · rw [hq3] at h67
    have HN := Lib.hid (HE0.out (fun h => by simp [hq3] at h))
    clear hq0 hq1 hq2 hq3 HE0 HE1
    go_enter Try.func13, Try.ntmps13
    go_wp2_with (first | (go_at_call 37; refine (h17 _ ((HBW _).out ((Below.refl _ _).alloc (Nat.le_refl _) _))).mono ?_; rintro e w1 ⟨rfl, hb⟩; have B1 := Lib.hid (((Below.refl w.heap.size w).alloc (Nat.le_refl _) _).trans (hb.mono (by simp))); have t3 : w1.cell? ⟨w.heap.size, 3, none⟩ = some (.slice C cs.length cc) := below_cell hb (by simp) (by go_simp); have t4 : w1.cell? ⟨w.heap.size, 4, none⟩ = some (.int .i64 cr) := below_cell hb (by simp) (by go_simp); have t5 : w1.cell? ⟨w.heap.size, 5, none⟩ = some (.int .i64 ev) := below_cell hb (by simp) (by go_simp); have t6 : w1.cell? ⟨w.heap.size, 6, none⟩ = some (.int .i64 sl) := below_cell hb (by simp) (by go_simp); have t7 : w1.cell? ⟨w.heap.size, 7, none⟩ = some (.int .i64 dr) := below_cell hb (by simp) (by go_simp); have t8 : w1.cell? ⟨w.heap.size, 8, none⟩ = some (.int .i64 bk) := below_cell hb (by simp) (by go_simp); have z1 : w.heap.size < w1.heap.size := (by have := hb.size; simp at this; omega); clear hb) | (go_at_call 38; refine (h67 _ ((HCW _).out B1.out)).mono ?_; rintro e w2 ⟨rfl, hb⟩; have B2 := Lib.hid (B1.out.trans (hb.mono B1.out.size)); have u4 : w2.cell? ⟨w.heap.size, 4, none⟩ = some (.int .i64 cr) := below_cell hb z1 t4; have u5 : w2.cell? ⟨w.heap.size, 5, none⟩ = some (.int .i64 ev) := below_cell hb z1 t5; have u6 : w2.cell? ⟨w.heap.size, 6, none⟩ = some (.int .i64 sl) := below_cell hb z1 t6; have u7 : w2.cell? ⟨w.heap.size, 7, none⟩ = some (.int .i64 dr) := below_cell hb z1 t7; have u8 : w2.cell? ⟨w.heap.size, 8, none⟩ = some (.int .i64 bk) := below_cell hb z1 t8; clear hb) | (go_at_call 23; first | ((with_reducible refine (h51a _).mono ?_); rintro e w3 ⟨rfl, rfl⟩) | ((with_reducible refine (h51b _).mono ?_); rintro e w3 ⟨rfl, rfl⟩) | ((with_reducible refine (h51c _).mono ?_); rintro e w3 ⟨rfl, rfl⟩)))
    go_ret
    exact ⟨ret_int HN.out.symm, B2.out⟩
  rw [hq3] at h67
  cases hq4 : Cv.inB cr 0 1099511627776
  · simp only [hq4] at h51a
    have HN := Lib.hid (HE0.out (fun h => by simp [hq4] at h))
    clear hq0 hq1 hq2 hq3 hq4 HE0 HE1
    go_enter Try.func13, Try.ntmps13
    go_wp2_with (first | (go_at_call 37; refine (h17 _ ((HBW _).out ((Below.refl _ _).alloc (Nat.le_refl _) _))).mono ?_; rintro e w1 ⟨rfl, hb⟩; have B1 := Lib.hid (((Below.refl w.heap.size w).alloc (Nat.le_refl _) _).trans (hb.mono (by simp))); have t3 : w1.cell? ⟨w.heap.size, 3, none⟩ = some (.slice C cs.length cc) := below_cell hb (by simp) (by go_simp); have t4 : w1.cell? ⟨w.heap.size, 4, none⟩ = some (.int .i64 cr) := below_cell hb (by simp) (by go_simp); have t5 : w1.cell? ⟨w.heap.size, 5, none⟩ = some (.int .i64 ev) := below_cell hb (by simp) (by go_simp); have t6 : w1.cell? ⟨w.heap.size, 6, none⟩ = some (.int .i64 sl) := below_cell hb (by simp) (by go_simp); have t7 : w1.cell? ⟨w.heap.size, 7, none⟩ = some (.int .i64 dr) := below_cell hb (by simp) (by go_simp); have t8 : w1.cell? ⟨w.heap.size, 8, none⟩ = some (.int .i64 bk) := below_cell hb (by simp) (by go_simp); have z1 : w.heap.size < w1.heap.size := (by have := hb.size; simp at this; omega); clear hb) | (go_at_call 38; refine (h67 _ ((HCW _).out B1.out)).mono ?_; rintro e w2 ⟨rfl, hb⟩; have B2 := Lib.hid (B1.out.trans (hb.mono B1.out.size)); have u4 : w2.cell? ⟨w.heap.size, 4, none⟩ = some (.int .i64 cr) := below_cell hb z1 t4; have u5 : w2.cell? ⟨w.heap.size, 5, none⟩ = some (.int .i64 ev) := below_cell hb z1 t5; have u6 : w2.cell? ⟨w.heap.size, 6, none⟩ = some (.int .i64 sl) := below_cell hb z1 t6; have u7 : w2.cell? ⟨w.heap.size, 7, none⟩ = some (.int .i64 dr) := below_cell hb z1 t7; have u8 : w2.cell? ⟨w.heap.size, 8, none⟩ = some (.int .i64 bk) := below_cell hb z1 t8; clear hb) | (go_at_call 23; first | ((with_reducible refine (h51a _).mono ?_); rintro e w3 ⟨rfl, rfl⟩) | ((with_reducible refine (h51b _).mono ?_); rintro e w3 ⟨rfl, rfl⟩) | ((with_reducible refine (h51c _).mono ?_); rintro e w3 ⟨rfl, rfl⟩)))
    go_ret
    exact ⟨ret_int HN.out.symm, B2.out⟩
  simp only [hq4] at h51a
  by_cases hq5 : 1 ≤ ev
  rotate_left 1
  · have q5 : decide (1 ≤ ev) = false := decide_eq_false (by omega)
    have HN := Lib.hid (HE0.out (fun h => hq5 (by omega)))
    clear hq0 hq1 hq2 hq3 hq4 hq5 HE0 HE1
    go_enter Try.func13, Try.ntmps13
    go_wp2_with (first | (go_at_call 37; refine (h17 _ ((HBW _).out ((Below.refl _ _).alloc (Nat.le_refl _) _))).mono ?_; rintro e w1 ⟨rfl, hb⟩; have B1 := Lib.hid (((Below.refl w.heap.size w).alloc (Nat.le_refl _) _).trans (hb.mono (by simp))); have t3 : w1.cell? ⟨w.heap.size, 3, none⟩ = some (.slice C cs.length cc) := below_cell hb (by simp) (by go_simp); have t4 : w1.cell? ⟨w.heap.size, 4, none⟩ = some (.int .i64 cr) := below_cell hb (by simp) (by go_simp); have t5 : w1.cell? ⟨w.heap.size, 5, none⟩ = some (.int .i64 ev) := below_cell hb (by simp) (by go_simp); have t6 : w1.cell? ⟨w.heap.size, 6, none⟩ = some (.int .i64 sl) := below_cell hb (by simp) (by go_simp); have t7 : w1.cell? ⟨w.heap.size, 7, none⟩ = some (.int .i64 dr) := below_cell hb (by simp) (by go_simp); have t8 : w1.cell? ⟨w.heap.size, 8, none⟩ = some (.int .i64 bk) := below_cell hb (by simp) (by go_simp); have z1 : w.heap.size < w1.heap.size := (by have := hb.size; simp at this; omega); clear hb) | (go_at_call 38; refine (h67 _ ((HCW _).out B1.out)).mono ?_; rintro e w2 ⟨rfl, hb⟩; have B2 := Lib.hid (B1.out.trans (hb.mono B1.out.size)); have u4 : w2.cell? ⟨w.heap.size, 4, none⟩ = some (.int .i64 cr) := below_cell hb z1 t4; have u5 : w2.cell? ⟨w.heap.size, 5, none⟩ = some (.int .i64 ev) := below_cell hb z1 t5; have u6 : w2.cell? ⟨w.heap.size, 6, none⟩ = some (.int .i64 sl) := below_cell hb z1 t6; have u7 : w2.cell? ⟨w.heap.size, 7, none⟩ = some (.int .i64 dr) := below_cell hb z1 t7; have u8 : w2.cell? ⟨w.heap.size, 8, none⟩ = some (.int .i64 bk) := below_cell hb z1 t8; clear hb) | (go_at_call 23; first | ((with_reducible refine (h51a _).mono ?_); rintro e w3 ⟨rfl, rfl⟩) | ((with_reducible refine (h51b _).mono ?_); rintro e w3 ⟨rfl, rfl⟩) | ((with_reducible refine (h51c _).mono ?_); rintro e w3 ⟨rfl, rfl⟩)))
    go_ret
    exact ⟨ret_int HN.out.symm, B2.out⟩
  have q5 : decide (1 ≤ ev) = true := decide_eq_true (by omega)
  by_cases hq6 : ev ≤ 1000
  rotate_left 1
  · have q6 : decide (ev ≤ 1000) = false := decide_eq_false (by omega)
    have HN := Lib.hid (HE0.out (fun h => hq6 (by omega)))
    clear hq0 hq1 hq2 hq3 hq4 hq5 hq6 HE0 HE1
    go_enter Try.func13, Try.ntmps13
    go_wp2_with (first | (go_at_call 37; refine (h17 _ ((HBW _).out ((Below.refl _ _).alloc (Nat.le_refl _) _))).mono ?_; rintro e w1 ⟨rfl, hb⟩; have B1 := Lib.hid (((Below.refl w.heap.size w).alloc (Nat.le_refl _) _).trans (hb.mono (by simp))); have t3 : w1.cell? ⟨w.heap.size, 3, none⟩ = some (.slice C cs.length cc) := below_cell hb (by simp) (by go_simp); have t4 : w1.cell? ⟨w.heap.size, 4, none⟩ = some (.int .i64 cr) := below_cell hb (by simp) (by go_simp); have t5 : w1.cell? ⟨w.heap.size, 5, none⟩ = some (.int .i64 ev) := below_cell hb (by simp) (by go_simp); have t6 : w1.cell? ⟨w.heap.size, 6, none⟩ = some (.int .i64 sl) := below_cell hb (by simp) (by go_simp); have t7 : w1.cell? ⟨w.heap.size, 7, none⟩ = some (.int .i64 dr) := below_cell hb (by simp) (by go_simp); have t8 : w1.cell? ⟨w.heap.size, 8, none⟩ = some (.int .i64 bk) := below_cell hb (by simp) (by go_simp); have z1 : w.heap.size < w1.heap.size := (by have := hb.size; simp at this; omega); clear hb) | (go_at_call 38; refine (h67 _ ((HCW _).out B1.out)).mono ?_; rintro e w2 ⟨rfl, hb⟩; have B2 := Lib.hid (B1.out.trans (hb.mono B1.out.size)); have u4 : w2.cell? ⟨w.heap.size, 4, none⟩ = some (.int .i64 cr) := below_cell hb z1 t4; have u5 : w2.cell? ⟨w.heap.size, 5, none⟩ = some (.int .i64 ev) := below_cell hb z1 t5; have u6 : w2.cell? ⟨w.heap.size, 6, none⟩ = some (.int .i64 sl) := below_cell hb z1 t6; have u7 : w2.cell? ⟨w.heap.size, 7, none⟩ = some (.int .i64 dr) := below_cell hb z1 t7; have u8 : w2.cell? ⟨w.heap.size, 8, none⟩ = some (.int .i64 bk) := below_cell hb z1 t8; clear hb) | (go_at_call 23; first | ((with_reducible refine (h51a _).mono ?_); rintro e w3 ⟨rfl, rfl⟩) | ((with_reducible refine (h51b _).mono ?_); rintro e w3 ⟨rfl, rfl⟩) | ((with_reducible refine (h51c _).mono ?_); rintro e w3 ⟨rfl, rfl⟩)))
    go_ret
    exact ⟨ret_int HN.out.symm, B2.out⟩
  have q6 : decide (ev ≤ 1000) = true := decide_eq_true (by omega)
  by_cases hq7 : 1 ≤ sl
  rotate_left 1
  · have q7 : decide (1 ≤ sl) = false := decide_eq_false (by omega)
    have HN := Lib.hid (HE0.out (fun h => hq7 (by omega)))
    clear hq0 hq1 hq2 hq3 hq4 hq5 hq6 hq7 HE0 HE1
    go_enter Try.func13, Try.ntmps13
    go_wp2_with (first | (go_at_call 37; refine (h17 _ ((HBW _).out ((Below.refl _ _).alloc (Nat.le_refl _) _))).mono ?_; rintro e w1 ⟨rfl, hb⟩; have B1 := Lib.hid (((Below.refl w.heap.size w).alloc (Nat.le_refl _) _).trans (hb.mono (by simp))); have t3 : w1.cell? ⟨w.heap.size, 3, none⟩ = some (.slice C cs.length cc) := below_cell hb (by simp) (by go_simp); have t4 : w1.cell? ⟨w.heap.size, 4, none⟩ = some (.int .i64 cr) := below_cell hb (by simp) (by go_simp); have t5 : w1.cell? ⟨w.heap.size, 5, none⟩ = some (.int .i64 ev) := below_cell hb (by simp) (by go_simp); have t6 : w1.cell? ⟨w.heap.size, 6, none⟩ = some (.int .i64 sl) := below_cell hb (by simp) (by go_simp); have t7 : w1.cell? ⟨w.heap.size, 7, none⟩ = some (.int .i64 dr) := below_cell hb (by simp) (by go_simp); have t8 : w1.cell? ⟨w.heap.size, 8, none⟩ = some (.int .i64 bk) := below_cell hb (by simp) (by go_simp); have z1 : w.heap.size < w1.heap.size := (by have := hb.size; simp at this; omega); clear hb) | (go_at_call 38; refine (h67 _ ((HCW _).out B1.out)).mono ?_; rintro e w2 ⟨rfl, hb⟩; have B2 := Lib.hid (B1.out.trans (hb.mono B1.out.size)); have u4 : w2.cell? ⟨w.heap.size, 4, none⟩ = some (.int .i64 cr) := below_cell hb z1 t4; have u5 : w2.cell? ⟨w.heap.size, 5, none⟩ = some (.int .i64 ev) := below_cell hb z1 t5; have u6 : w2.cell? ⟨w.heap.size, 6, none⟩ = some (.int .i64 sl) := below_cell hb z1 t6; have u7 : w2.cell? ⟨w.heap.size, 7, none⟩ = some (.int .i64 dr) := below_cell hb z1 t7; have u8 : w2.cell? ⟨w.heap.size, 8, none⟩ = some (.int .i64 bk) := below_cell hb z1 t8; clear hb) | (go_at_call 23; first | ((with_reducible refine (h51a _).mono ?_); rintro e w3 ⟨rfl, rfl⟩) | ((with_reducible refine (h51b _).mono ?_); rintro e w3 ⟨rfl, rfl⟩) | ((with_reducible refine (h51c _).mono ?_); rintro e w3 ⟨rfl, rfl⟩)))
    go_ret
    exact ⟨ret_int HN.out.symm, B2.out⟩
  have q7 : decide (1 ≤ sl) = true := decide_eq_true (by omega)
  by_cases hq8 : sl ≤ 20
  rotate_left 1
  · have q8 : decide (sl ≤ 20) = false := decide_eq_false (by omega)
    have HN := Lib.hid (HE0.out (fun h => hq8 (by omega)))
    clear hq0 hq1 hq2 hq3 hq4 hq5 hq6 hq7 hq8 HE0 HE1
    go_enter Try.func13, Try.ntmps13
    go_wp2_with (first | (go_at_call 37; refine (h17 _ ((HBW _).out ((Below.refl _ _).alloc (Nat.le_refl _) _))).mono ?_; rintro e w1 ⟨rfl, hb⟩; have B1 := Lib.hid (((Below.refl w.heap.size w).alloc (Nat.le_refl _) _).trans (hb.mono (by simp))); have t3 : w1.cell? ⟨w.heap.size, 3, none⟩ = some (.slice C cs.length cc) := below_cell hb (by simp) (by go_simp); have t4 : w1.cell? ⟨w.heap.size, 4, none⟩ = some (.int .i64 cr) := below_cell hb (by simp) (by go_simp); have t5 : w1.cell? ⟨w.heap.size, 5, none⟩ = some (.int .i64 ev) := below_cell hb (by simp) (by go_simp); have t6 : w1.cell? ⟨w.heap.size, 6, none⟩ = some (.int .i64 sl) := below_cell hb (by simp) (by go_simp); have t7 : w1.cell? ⟨w.heap.size, 7, none⟩ = some (.int .i64 dr) := below_cell hb (by simp) (by go_simp); have t8 : w1.cell? ⟨w.heap.size, 8, none⟩ = some (.int .i64 bk) := below_cell hb (by simp) (by go_simp); have z1 : w.heap.size < w1.heap.size := (by have := hb.size; simp at this; omega); clear hb) | (go_at_call 38; refine (h67 _ ((HCW _).out B1.out)).mono ?_; rintro e w2 ⟨rfl, hb⟩; have B2 := Lib.hid (B1.out.trans (hb.mono B1.out.size)); have u4 : w2.cell? ⟨w.heap.size, 4, none⟩ = some (.int .i64 cr) := below_cell hb z1 t4; have u5 : w2.cell? ⟨w.heap.size, 5, none⟩ = some (.int .i64 ev) := below_cell hb z1 t5; have u6 : w2.cell? ⟨w.heap.size, 6, none⟩ = some (.int .i64 sl) := below_cell hb z1 t6; have u7 : w2.cell? ⟨w.heap.size, 7, none⟩ = some (.int .i64 dr) := below_cell hb z1 t7; have u8 : w2.cell? ⟨w.heap.size, 8, none⟩ = some (.int .i64 bk) := below_cell hb z1 t8; clear hb) | (go_at_call 23; first | ((with_reducible refine (h51a _).mono ?_); rintro e w3 ⟨rfl, rfl⟩) | ((with_reducible refine (h51b _).mono ?_); rintro e w3 ⟨rfl, rfl⟩) | ((with_reducible refine (h51c _).mono ?_); rintro e w3 ⟨rfl, rfl⟩)))
    go_ret
    exact ⟨ret_int HN.out.symm, B2.out⟩
  have q8 : decide (sl ≤ 20) = true := decide_eq_true (by omega)
  cases hq9 : Cv.inB dr 0 1073741824
  · simp only [hq9] at h51b
    have HN := Lib.hid (HE0.out (fun h => by simp [hq9] at h))
    clear hq0 hq1 hq2 hq3 hq4 hq5 hq6 hq7 hq8 hq9 HE0 HE1
    go_enter Try.func13, Try.ntmps13
    go_wp2_with (first | (go_at_call 37; refine (h17 _ ((HBW _).out ((Below.refl _ _).alloc (Nat.le_refl _) _))).mono ?_; rintro e w1 ⟨rfl, hb⟩; have B1 := Lib.hid (((Below.refl w.heap.size w).alloc (Nat.le_refl _) _).trans (hb.mono (by simp))); have t3 : w1.cell? ⟨w.heap.size, 3, none⟩ = some (.slice C cs.length cc) := below_cell hb (by simp) (by go_simp); have t4 : w1.cell? ⟨w.heap.size, 4, none⟩ = some (.int .i64 cr) := below_cell hb (by simp) (by go_simp); have t5 : w1.cell? ⟨w.heap.size, 5, none⟩ = some (.int .i64 ev) := below_cell hb (by simp) (by go_simp); have t6 : w1.cell? ⟨w.heap.size, 6, none⟩ = some (.int .i64 sl) := below_cell hb (by simp) (by go_simp); have t7 : w1.cell? ⟨w.heap.size, 7, none⟩ = some (.int .i64 dr) := below_cell hb (by simp) (by go_simp); have t8 : w1.cell? ⟨w.heap.size, 8, none⟩ = some (.int .i64 bk) := below_cell hb (by simp) (by go_simp); have z1 : w.heap.size < w1.heap.size := (by have := hb.size; simp at this; omega); clear hb) | (go_at_call 38; refine (h67 _ ((HCW _).out B1.out)).mono ?_; rintro e w2 ⟨rfl, hb⟩; have B2 := Lib.hid (B1.out.trans (hb.mono B1.out.size)); have u4 : w2.cell? ⟨w.heap.size, 4, none⟩ = some (.int .i64 cr) := below_cell hb z1 t4; have u5 : w2.cell? ⟨w.heap.size, 5, none⟩ = some (.int .i64 ev) := below_cell hb z1 t5; have u6 : w2.cell? ⟨w.heap.size, 6, none⟩ = some (.int .i64 sl) := below_cell hb z1 t6; have u7 : w2.cell? ⟨w.heap.size, 7, none⟩ = some (.int .i64 dr) := below_cell hb z1 t7; have u8 : w2.cell? ⟨w.heap.size, 8, none⟩ = some (.int .i64 bk) := below_cell hb z1 t8; clear hb) | (go_at_call 23; first | ((with_reducible refine (h51a _).mono ?_); rintro e w3 ⟨rfl, rfl⟩) | ((with_reducible refine (h51b _).mono ?_); rintro e w3 ⟨rfl, rfl⟩) | ((with_reducible refine (h51c _).mono ?_); rintro e w3 ⟨rfl, rfl⟩)))
    go_ret
    exact ⟨ret_int HN.out.symm, B2.out⟩
  simp only [hq9] at h51b
  cases hq10 : Cv.inB bk 0 1073741824
  · simp only [hq10] at h51c
    have HN := Lib.hid (HE0.out (fun h => by simp [hq10] at h))
    clear hq0 hq1 hq2 hq3 hq4 hq5 hq6 hq7 hq8 hq9 hq10 HE0 HE1
    go_enter Try.func13, Try.ntmps13
    go_wp2_with (first | (go_at_call 37; refine (h17 _ ((HBW _).out ((Below.refl _ _).alloc (Nat.le_refl _) _))).mono ?_; rintro e w1 ⟨rfl, hb⟩; have B1 := Lib.hid (((Below.refl w.heap.size w).alloc (Nat.le_refl _) _).trans (hb.mono (by simp))); have t3 : w1.cell? ⟨w.heap.size, 3, none⟩ = some (.slice C cs.length cc) := below_cell hb (by simp) (by go_simp); have t4 : w1.cell? ⟨w.heap.size, 4, none⟩ = some (.int .i64 cr) := below_cell hb (by simp) (by go_simp); have t5 : w1.cell? ⟨w.heap.size, 5, none⟩ = some (.int .i64 ev) := below_cell hb (by simp) (by go_simp); have t6 : w1.cell? ⟨w.heap.size, 6, none⟩ = some (.int .i64 sl) := below_cell hb (by simp) (by go_simp); have t7 : w1.cell? ⟨w.heap.size, 7, none⟩ = some (.int .i64 dr) := below_cell hb (by simp) (by go_simp); have t8 : w1.cell? ⟨w.heap.size, 8, none⟩ = some (.int .i64 bk) := below_cell hb (by simp) (by go_simp); have z1 : w.heap.size < w1.heap.size := (by have := hb.size; simp at this; omega); clear hb) | (go_at_call 38; refine (h67 _ ((HCW _).out B1.out)).mono ?_; rintro e w2 ⟨rfl, hb⟩; have B2 := Lib.hid (B1.out.trans (hb.mono B1.out.size)); have u4 : w2.cell? ⟨w.heap.size, 4, none⟩ = some (.int .i64 cr) := below_cell hb z1 t4; have u5 : w2.cell? ⟨w.heap.size, 5, none⟩ = some (.int .i64 ev) := below_cell hb z1 t5; have u6 : w2.cell? ⟨w.heap.size, 6, none⟩ = some (.int .i64 sl) := below_cell hb z1 t6; have u7 : w2.cell? ⟨w.heap.size, 7, none⟩ = some (.int .i64 dr) := below_cell hb z1 t7; have u8 : w2.cell? ⟨w.heap.size, 8, none⟩ = some (.int .i64 bk) := below_cell hb z1 t8; clear hb) | (go_at_call 23; first | ((with_reducible refine (h51a _).mono ?_); rintro e w3 ⟨rfl, rfl⟩) | ((with_reducible refine (h51b _).mono ?_); rintro e w3 ⟨rfl, rfl⟩) | ((with_reducible refine (h51c _).mono ?_); rintro e w3 ⟨rfl, rfl⟩)))
    go_ret
    exact ⟨ret_int HN.out.symm, B2.out⟩
  simp only [hq10] at h51c
  have HN := Lib.hid (HE1.out ⟨hq0, hq1, hq2, hq3, hq4, hq5, hq6, hq7, hq8, hq9, hq10⟩)
  clear hq0 hq1 hq2 hq3 hq4 hq5 hq6 hq7 hq8 hq9 hq10 HE0 HE1
  go_enter Try.func13, Try.ntmps13
  go_wp2_with (first | (go_at_call 37; refine (h17 _ ((HBW _).out ((Below.refl _ _).alloc (Nat.le_refl _) _))).mono ?_; rintro e w1 ⟨rfl, hb⟩; have B1 := Lib.hid (((Below.refl w.heap.size w).alloc (Nat.le_refl _) _).trans (hb.mono (by simp))); have t3 : w1.cell? ⟨w.heap.size, 3, none⟩ = some (.slice C cs.length cc) := below_cell hb (by simp) (by go_simp); have t4 : w1.cell? ⟨w.heap.size, 4, none⟩ = some (.int .i64 cr) := below_cell hb (by simp) (by go_simp); have t5 : w1.cell? ⟨w.heap.size, 5, none⟩ = some (.int .i64 ev) := below_cell hb (by simp) (by go_simp); have t6 : w1.cell? ⟨w.heap.size, 6, none⟩ = some (.int .i64 sl) := below_cell hb (by simp) (by go_simp); have t7 : w1.cell? ⟨w.heap.size, 7, none⟩ = some (.int .i64 dr) := below_cell hb (by simp) (by go_simp); have t8 : w1.cell? ⟨w.heap.size, 8, none⟩ = some (.int .i64 bk) := below_cell hb (by simp) (by go_simp); have z1 : w.heap.size < w1.heap.size := (by have := hb.size; simp at this; omega); clear hb) | (go_at_call 38; refine (h67 _ ((HCW _).out B1.out)).mono ?_; rintro e w2 ⟨rfl, hb⟩; have B2 := Lib.hid (B1.out.trans (hb.mono B1.out.size)); have u4 : w2.cell? ⟨w.heap.size, 4, none⟩ = some (.int .i64 cr) := below_cell hb z1 t4; have u5 : w2.cell? ⟨w.heap.size, 5, none⟩ = some (.int .i64 ev) := below_cell hb z1 t5; have u6 : w2.cell? ⟨w.heap.size, 6, none⟩ = some (.int .i64 sl) := below_cell hb z1 t6; have u7 : w2.cell? ⟨w.heap.size, 7, none⟩ = some (.int .i64 dr) := below_cell hb z1 t7; have u8 : w2.cell? ⟨w.heap.size, 8, none⟩ = some (.int .i64 bk) := below_cell hb z1 t8; clear hb) | (go_at_call 23; first | ((with_reducible refine (h51a _).mono ?_); rintro e w3 ⟨rfl, rfl⟩) | ((with_reducible refine (h51b _).mono ?_); rintro e w3 ⟨rfl, rfl⟩) | ((with_reducible refine (h51c _).mono ?_); rintro e w3 ⟨rfl, rfl⟩)))
  go_ret
  exact ⟨ret_int HN.out.symm, B2.out⟩
end Go.Proofs.Ytlklnaebdnahcaa
namespace Go.Proofs.Ytlklnaebdnahcaa
open Go Go.RowKit
inductive Role where
  | q
  | p
  | c (j d : Nat)
def Role.isP : Role → Bool
  | .p => true
  | _ => false
def Role.eats : Role → Nat → Nat → Bool
  | .c j d, j', d' => (j == j') && (d == d')
  | _, _, _ => false
def depsB (ops : Array Oper) (t : Nat) (S : List Bool) : List Bool :=
  match ops[t]? with
  | some o => o.after.toList.foldl (fun S e => if Region.binds .any e = true then S.set e.on true else S) S
  | none => S
def coverB (ops : Array Oper) : Nat → List Bool → List Bool
  | 0, S => S
  | n + 1, S => coverB ops n (if S.getD n false = true then depsB ops n S else S)
theorem getD_set_list {S : List Bool} {i j : Nat} (h : (S.set i true).getD j false = true) : j = i ∨ S.getD j false = true := by
  by_cases hij : j = i
  · exact .inl hij
  · right
    rwa [List.getD_eq_getElem?_getD, List.getElem?_set_ne (fun e => hij e.symm), ← List.getD_eq_getElem?_getD] at h
theorem deps_listed {listed : Array Bool} (l : List Edge) (S : List Bool) (he : ∀ e ∈ l, Region.binds .any e = true → listed.getD e.on false = true) (hS : ∀ i, S.getD i false = true → listed.getD i false = true) (i : Nat)
    (h : (l.foldl (fun S e => if Region.binds .any e = true then S.set e.on true else S) S).getD i false = true) : listed.getD i false = true := by
  induction l generalizing S with
  | nil => exact hS i h
  | cons e l ih =>
    rw [List.foldl_cons] at h
    refine ih _ (fun e' he' => he e' (by simp [he'])) (fun j hj => ?_) h
    split at hj
    · rename_i hb
      rcases getD_set_list hj with rfl | h'
      · exact he e (by simp) hb
      · exact hS j h'
    · exact hS j hj
theorem cover_listed {ops : Array Oper} {listed : Array Bool} (hc : ∀ j oj, ops[j]? = some oj → listed.getD j false = true → ∀ e ∈ oj.after, Region.binds .any e = true → listed.getD e.on false = true) :
    ∀ (n : Nat) (S : List Bool), (∀ i, S.getD i false = true → listed.getD i false = true) → ∀ i, (coverB ops n S).getD i false = true → listed.getD i false = true
  | 0, S, hS, i, h => hS i h
  | n + 1, S, hS, i, h => by
    unfold coverB at h
    refine cover_listed hc n _ (fun j hj => ?_) i h
    split at hj
    · rename_i hn
      unfold depsB at hj
      split at hj
      · rename_i o ho
        exact deps_listed _ S (fun e he hb => hc n o ho (hS n hn) e (by simpa using he) hb) hS j hj
      · exact hS j hj
    · exact hS j hj
theorem deps_length (ops : Array Oper) (t : Nat) (S : List Bool) : (depsB ops t S).length = S.length := by
  unfold depsB
  split
  · rename_i o _
    generalize o.after.toList = l
    induction l generalizing S with
    | nil => rfl
    | cons e l ih =>
      rw [List.foldl_cons, ih]
      split
      · simp
      · rfl
  · rfl
theorem cover_length {ops : Array Oper} : ∀ (n : Nat) (S : List Bool), (coverB ops n S).length = S.length
  | 0, S => rfl
  | n + 1, S => by
    unfold coverB
    rw [cover_length n]
    split
    · exact deps_length ops n S
    · rfl
def headLB (ops : Array Oper) (k n : Nat) : Bool :=
  Region.noSelect ops && decide (k ≤ ops.size) && dstsOk n (ops.toList.take k) &&
  (List.range ops.size).all (fun i => match ops[i]? with | some o => o.after.all (fun e => !Region.binds .any e || decide (e.on < i)) | none => false) &&
  (List.range ops.size).all (fun t => decide (t < k) || ((coverB ops ops.size (depsB ops t (List.replicate ops.size false))).take k).all (fun b => b)) &&
  (List.range k).all (fun i => (List.range k).all fun j => match ops[i]?, ops[j]? with
    | some oi, some oj => (match oj.dst with | some d => !(oi.looksAt ops).contains d || (decide (j < i) && waitsB1 .any ops i j) | none => false)
    | _, _ => false) &&
  Region.seqB .any ops (ops.size - k) k (Array.replicate k true ++ Array.replicate (ops.size - k) false)
def privB (ops : Array Oper) (k n : Nat) (rs : List Role) : Bool :=
  headLB ops k n && decide (rs.length = k) &&
  (List.range k).all (fun i => (List.range k).all fun j => match ops[i]?, ops[j]?, rs[i]?, rs[j]? with
    | some oi, some oj, some ri, some rj => !rj.isP || (match oj.dst with | some d => !(oi.looksAt ops).contains d || ri.eats j d | none => false)
    | _, _, _, _ => false) &&
  (List.range k).all (fun i => match ops[i]?, rs[i]? with
    | some oi, some (.c j d) => decide (j < k) && (match ops[j]?, rs[j]? with | some oj, some rj => rj.isP && (oj.dst == some d) | _, _ => false) && (oi.looksAt ops).contains d
    | _, _ => true)
def slotTo (a : Act) : Option Tmp → Value
  | some t => slotOf a t
  | none => undef
section
variable {P : Program} {ops : Array Oper} {af : Act} {cont : Nat → Obj × (Nat → Value)} {V : World}
def StepP (P : Program) (ops : Array Oper) (af : Act) (cont : Nat → Obj × (Nat → Value)) (V : World) (i : Nat) (r : Role) (o : Oper) (a : Act) : Prop :=
  match r with
  | .q => YieldsIn P ops (fun w' => ∃ x : Past V, w' = x.w) o (leftBy af o) a
  | .p => Region.wanted o (yielded ops a.tmps) = true ∧ ∀ w : World, (execOp a.eval o).run P w = .ok (.value ((cont i).2 w.heap.size)) (w.alloc (cont i).1)
  | .c j d => ∀ (V' : World) (g : Nat), Below V.heap.size V V' → V'.heap[g]? = some (cont j).1 → YieldsIn P ops (fun w' => ∃ x : Past V', w' = x.w) o (leftBy af o) (a.put (some d) ((cont j).2 g))
def AllInP (P : Program) (ops : Array Oper) (af : Act) (cont : Nat → Obj × (Nat → Value)) (V : World) : Nat → List Role → List Oper → Act → Prop
  | _, [], [], a => a = af
  | i, r :: rs, o :: l, a => StepP P ops af cont V i r o a ∧ AllInP P ops af cont V (i + 1) rs l (a.put o.dst (leftBy af o))
  | _, _, _, _ => False
def wpP (P : Program) (ops : Array Oper) (af : Act) (cont : Nat → Obj × (Nat → Value)) (V : World) : Nat → List Role → List Oper → Act → Prop
  | _, [], [], a => a = af
  | i, .q :: rs, o :: l, a => wpQuiet P ops (fun w' => ∃ x : Past V, w' = x.w) (fun a' => wpP P ops af cont V (i + 1) rs l a') [o] a
  | i, .p :: rs, o :: l, a => Region.wanted o (yielded ops a.tmps) = true ∧ (∀ w : World, (execOp a.eval o).run P w = .ok (.value ((cont i).2 w.heap.size)) (w.alloc (cont i).1)) ∧ wpP P ops af cont V (i + 1) rs l (a.put o.dst undef)
  | i, .c j d :: rs, o :: l, a => ∃ u, (∀ (V' : World) (g : Nat), Below V.heap.size V V' → V'.heap[g]? = some (cont j).1 → wpQuiet P ops (fun w' => ∃ x : Past V', w' = x.w) (fun a' => slotTo a' o.dst = u) [o] (a.put (some d) ((cont j).2 g))) ∧ wpP P ops af cont V (i + 1) rs l (a.put o.dst u)
  | _, _, _, _ => False
theorem wpP_nil {i : Nat} {a : Act} (h : a = af) : wpP P ops af cont V i [] [] a := h
theorem wpP_q {i : Nat} {rs : List Role} {o : Oper} {l : List Oper} {a : Act} (h : wpQuiet P ops (fun w' => ∃ x : Past V, w' = x.w) (fun a' => wpP P ops af cont V (i + 1) rs l a') [o] a) : wpP P ops af cont V i (.q :: rs) (o :: l) a := h
theorem AllInP.keep : ∀ {i : Nat} {rs : List Role} {l : List Oper} {a : Act}, AllInP P ops af cont V i rs l a → af.tmps.size = a.tmps.size ∧ af.defers = a.defers ∧ (∀ t, (∀ o ∈ l, o.dst ≠ some t) → slotOf af t = slotOf a t)
  | _, [], [], a, h => by
    have : a = af := h
    subst this
    exact ⟨rfl, rfl, fun _ _ => rfl⟩
  | _, [], _ :: _, _, h => h.elim
  | _, _ :: _, [], _, h => h.elim
  | i, r :: rs, o :: l, a, h => by
    obtain ⟨h1, h2, h3⟩ := AllInP.keep h.2
    refine ⟨by rw [h1, size_put], by rw [h2, defers_put], fun t ht => ?_⟩
    rw [h3 t (fun o' ho' => ht o' (by simp [ho'])), slot_put_ne _ (ht o (by simp))]
theorem yields_of_quiet {C : World → Prop} {Q : Act → Prop} {o : Oper} {a : Act} (h : wpQuiet P ops C Q [o] a) : ∃ v, YieldsIn P ops C o v a ∧ Q (a.put o.dst v) := by
  unfold wpQuiet at h
  split at h
  · rename_i hw
    obtain ⟨v, h1, h2⟩ := h
    exact ⟨v, .inl ⟨hw, h1⟩, h2⟩
  · rename_i hw
    exact ⟨undef, .inr ⟨by simpa using hw, rfl⟩, h⟩
theorem allInP_of : ∀ {i : Nat} {rs : List Role} {l : List Oper} {a : Act}, dstsOk a.tmps.size l = true → wpP P ops af cont V i rs l a → AllInP P ops af cont V i rs l a
  | _, [], [], a, _, h => h
  | _, [], _ :: _, _, _, h => h.elim
  | _, .q :: _, [], _, _, h => h.elim
  | _, .p :: _, [], _, _, h => h.elim
  | _, .c _ _ :: _, [], _, _, h => h.elim
  | i, r :: rs, o :: l, a, hd, h => by
    have hd' := hd
    simp only [dstsOk, Bool.and_eq_true] at hd'
    obtain ⟨hd1, hd2⟩ := hd'
    split at hd1
    rotate_left 1
    · cases hd1
    · rename_i d hod
      simp only [Bool.and_eq_true, decide_eq_true_eq, List.all_eq_true] at hd1
      have key : ∀ v : Value, wpP P ops af cont V (i + 1) rs l (a.put o.dst v) → AllInP P ops af cont V (i + 1) rs l (a.put o.dst v) ∧ leftBy af o = v := by
        intro v hr
        have hA := allInP_of (i := i + 1) (rs := rs) (l := l) (a := a.put o.dst v) (by rw [size_put]; exact hd2) hr
        refine ⟨hA, ?_⟩
        unfold leftBy
        rw [hod]
        have := hA.keep.2.2 d (fun o' ho' => by simpa using hd1.2 o' ho')
        simp only [this, hod]
        exact slot_put_same v hd1.1
      cases r with
      | q =>
        obtain ⟨v, hy, hr⟩ := yields_of_quiet (show wpQuiet P ops _ _ [o] a from h)
        obtain ⟨hA, he⟩ := key v hr
        exact ⟨show YieldsIn P ops _ o (leftBy af o) a by rw [he]; exact hy, by rw [he]; exact hA⟩
      | p =>
        obtain ⟨hg, hrun, hr⟩ := (show _ ∧ _ ∧ _ from h)
        obtain ⟨hA, he⟩ := key undef hr
        exact ⟨⟨hg, hrun⟩, by rw [he]; exact hA⟩
      | c j dd =>
        obtain ⟨u, hu, hr⟩ := (show ∃ u, _ ∧ _ from h)
        obtain ⟨hA, he⟩ := key u hr
        refine ⟨fun V' g hb hg => ?_, by rw [he]; exact hA⟩
        obtain ⟨v, hy, hv⟩ := yields_of_quiet (hu V' g hb hg)
        have : v = u := by
          rw [← hv, hod]
          exact (slot_put_same v (by rw [size_put]; exact hd1.1)).symm
        rw [he, ← this]
        exact hy
theorem AllInP.get : ∀ {b : Nat} {rs : List Role} {l : List Oper} {a : Act} {i : Nat} {o : Oper} {r : Role}, AllInP P ops af cont V b rs l a → l[i]? = some o → rs[i]? = some r → StepP P ops af cont V (b + i) r o (accum af (l.take i) a)
  | _, [], [], _, _, _, _, _, hi, _ => by simp at hi
  | _, [], _ :: _, _, _, _, _, h, _, _ => h.elim
  | _, _ :: _, [], _, _, _, _, h, _, _ => h.elim
  | b, r :: rs, o :: l, a, 0, o', r', h, hi, hr => by
    have e1 : o = o' := by simpa using hi
    have e2 : r = r' := by simpa using hr
    subst e1; subst e2
    exact h.1
  | b, r :: rs, o :: l, a, i + 1, o', r', h, hi, hr => by
    have := AllInP.get (i := i) h.2 (by simpa using hi) (by simpa using hr)
    rw [show b + (i + 1) = b + 1 + i from by omega]
    simpa [accum] using this
def fillP (cont : Nat → Obj × (Nat → Value)) (gs : Nat → Nat) : Nat → List Role → List Oper → Act → Act
  | i, .p :: rs, o :: l, a => fillP cont gs (i + 1) rs l (a.put o.dst ((cont i).2 (gs i)))
  | i, .q :: rs, _ :: l, a => fillP cont gs (i + 1) rs l a
  | i, .c _ _ :: rs, _ :: l, a => fillP cont gs (i + 1) rs l a
  | _, [], _, a => a
  | _, _, [], a => a
theorem fillP_keep (gs : Nat → Nat) : ∀ (rs : List Role) (b : Nat) (l : List Oper) (a : Act), (fillP cont gs b rs l a).tmps.size = a.tmps.size ∧ (fillP cont gs b rs l a).defers = a.defers
  | [], _, _, _ => by unfold fillP; exact ⟨rfl, rfl⟩
  | .p :: rs, b, [], a => by unfold fillP; exact ⟨rfl, rfl⟩
  | .q :: rs, b, [], a => by unfold fillP; exact ⟨rfl, rfl⟩
  | .c _ _ :: rs, b, [], a => by unfold fillP; exact ⟨rfl, rfl⟩
  | .q :: rs, b, o :: l, a => by unfold fillP; exact fillP_keep gs rs (b + 1) l a
  | .c _ _ :: rs, b, o :: l, a => by unfold fillP; exact fillP_keep gs rs (b + 1) l a
  | .p :: rs, b, o :: l, a => by
    unfold fillP
    obtain ⟨h1, h2⟩ := fillP_keep gs rs (b + 1) l (a.put o.dst ((cont b).2 (gs b)))
    exact ⟨by rw [h1, size_put], by rw [h2, defers_put]⟩
theorem fillP_ne (gs : Nat → Nat) : ∀ (rs : List Role) (b : Nat) (l : List Oper) (a : Act) (t : Tmp), (∀ (i : Nat) (o : Oper), l[i]? = some o → rs[i]? = some Role.p → o.dst ≠ some t) → slotOf (fillP cont gs b rs l a) t = slotOf a t
  | [], _, _, _, _, _ => by unfold fillP; rfl
  | .p :: rs, b, [], a, _, _ => by unfold fillP; rfl
  | .q :: rs, b, [], a, _, _ => by unfold fillP; rfl
  | .c _ _ :: rs, b, [], a, _, _ => by unfold fillP; rfl
  | .q :: rs, b, o :: l, a, t, h => by
    unfold fillP
    exact fillP_ne gs rs (b + 1) l a t (fun i o ho hr => h (i + 1) o (by simpa using ho) (by simpa using hr))
  | .c _ _ :: rs, b, o :: l, a, t, h => by
    unfold fillP
    exact fillP_ne gs rs (b + 1) l a t (fun i o ho hr => h (i + 1) o (by simpa using ho) (by simpa using hr))
  | .p :: rs, b, o :: l, a, t, h => by
    unfold fillP
    rw [fillP_ne gs rs (b + 1) l _ t (fun i o ho hr => h (i + 1) o (by simpa using ho) (by simpa using hr))]
    exact slot_put_ne _ (h 0 o (by simp) (by simp))
theorem fillP_at (gs : Nat → Nat) : ∀ (rs : List Role) (b : Nat) (l : List Oper) (a : Act) (n i : Nat) (o : Oper) (t : Tmp), dstsOk n l = true → n = a.tmps.size → l[i]? = some o → rs[i]? = some Role.p → o.dst = some t → slotOf (fillP cont gs b rs l a) t = (cont (b + i)).2 (gs (b + i))
  | [], _, _, _, _, _, _, _, _, _, _, hr, _ => by simp at hr
  | _ :: rs, b, [], a, _, _, _, _, _, _, ho, _, _ => by simp at ho
  | .q :: rs, b, o :: l, a, n, 0, o', t, hd, hn, ho, hr, ht => by simp at hr
  | .c _ _ :: rs, b, o :: l, a, n, 0, o', t, hd, hn, ho, hr, ht => by simp at hr
  | .p :: rs, b, o :: l, a, n, 0, o', t, hd, hn, ho, hr, ht => by
    have e : o = o' := by simpa using ho
    subst e
    unfold fillP
    simp only [dstsOk, Bool.and_eq_true] at hd
    have h1 := hd.1
    rw [ht] at h1
    simp only [Bool.and_eq_true, decide_eq_true_eq, List.all_eq_true] at h1
    rw [fillP_ne gs rs (b + 1) l _ t (fun i o' ho' _ => by simpa using h1.2 o' (List.mem_of_getElem? ho')), ht]
    exact slot_put_same _ (by rw [← hn]; exact h1.1)
  | r :: rs, b, o :: l, a, n, i + 1, o', t, hd, hn, ho, hr, ht => by
    simp only [dstsOk, Bool.and_eq_true] at hd
    have key : ∀ a' : Act, a'.tmps.size = n → slotOf (fillP cont gs (b + 1) rs l a') t = (cont (b + (i + 1))).2 (gs (b + (i + 1))) := by
      intro a' ha'
      have := fillP_at gs rs (b + 1) l a' n i o' t hd.2 ha'.symm (by simpa using ho) (by simpa using hr) ht
      rw [this, show b + 1 + i = b + (i + 1) from by omega]
    cases r <;> unfold fillP
    · exact key _ hn.symm
    · exact key _ (by rw [size_put]; exact hn.symm)
    · exact key _ hn.symm
end
structure MidP (P : Program) (ops : Array Oper) (k : Nat) (rs : List Role) (cont : Nat → Obj × (Nat → Value)) (a0 af : Act) (W : World) (gs : Nat → Nat) (listed : Array Bool) (a : Act) (w : World) : Prop where
  size : listed.size = ops.size
  closed : ∀ j oj, ops[j]? = some oj → listed.getD j false = true → ∀ e ∈ oj.after, Region.binds .any e = true → listed.getD e.on false = true
  tail : ∀ t, k ≤ t → t < ops.size → listed.getD t true = false
  ahd : Below W.heap.size W w
  defers : a.defers = a0.defers
  tsize : a.tmps.size = a0.tmps.size
  put : ∀ j o t, j < k → ops[j]? = some o → o.dst = some t → listed.getD j false = true → rs[j]? ≠ some Role.p → slotOf a t = slotOf af t
  same : ∀ t, (∀ j o, j < k → ops[j]? = some o → listed.getD j false = true → o.dst ≠ some t) → slotOf a t = slotOf a0 t
  spec : ∀ j o t, j < k → ops[j]? = some o → o.dst = some t → listed.getD j false = true → rs[j]? = some Role.p → slotOf a t = (cont j).2 (gs j) ∧ W.heap.size ≤ gs j ∧ w.heap[gs j]? = some (cont j).1
  apart : ∀ j j', j < k → j' < k → j ≠ j' → listed.getD j false = true → listed.getD j' false = true → rs[j]? = some Role.p → rs[j']? = some Role.p → gs j ≠ gs j'
section
variable {P : Program} {Q : Exit → Act → World → Prop} {W : World} {a0 af : Act} {l : List Oper} {k : Nat} {rs : List Role} {cont : Nat → Obj × (Nat → Value)}
theorem wp_region_priv {id : Nat} (k : Nat) (rs : List Role) (cont : Nat → Obj × (Nat → Value)) (af : Act) (hm : P.follows .mixedOrders = true)
    (hB : privB l.toArray k a0.tmps.size rs = true)
    (hwalk : ∀ V : World, Below W.heap.size W V → wpP P l.toArray af cont V 0 rs (l.take k) a0)
    (htail : ∀ (gs : Nat → Nat) (w' : World), Below W.heap.size W w' → (∀ j : Nat, rs[j]? = some Role.p → W.heap.size ≤ gs j ∧ w'.heap[gs j]? = some (cont j).1) → (∀ j j' : Nat, rs[j]? = some Role.p → rs[j']? = some Role.p → j ≠ j' → gs j ≠ gs j') → wpList P l.toArray Q (l.drop k) (fillP cont gs 0 rs (l.take k) af) w') :
    (Code.region id l.toArray true).wp P Q a0 W := by
  unfold privB at hB
  simp only [Bool.and_eq_true, decide_eq_true_eq] at hB
  obtain ⟨⟨⟨hB, hrl⟩, hpc⟩, hcc⟩ := hB
  unfold headLB at hB
  simp only [Bool.and_eq_true, decide_eq_true_eq, List.all_eq_true, List.mem_range, Bool.or_eq_true] at hB hpc hcc
  obtain ⟨⟨⟨⟨⟨⟨hsel, hks⟩, hdst⟩, hback⟩, htl⟩, hdep⟩, hseq⟩ := hB
  have hsz : l.toArray.size = l.length := by simp
  have hkl : k ≤ l.length := by rw [← hsz]; exact hks
  have hdk : dstsOk a0.tmps.size (l.take k) = true := hdst
  have hall : ∀ V : World, Below W.heap.size W V → AllInP P l.toArray af cont V 0 rs (l.take k) a0 := fun V hV => allInP_of hdk (hwalk V hV)
  have hA0 := hall W (Below.refl _ _)
  have hget : ∀ i, i < k → (l.take k)[i]? = l[i]? := fun i hi => by rw [List.getElem?_take]; simp [hi]
  have hrole : ∀ i, i < k → ∃ r, rs[i]? = some r := fun i hi => ⟨rs[i]'(by omega), by simp [hrl, hi]⟩
  have hafs : ∀ t, (∀ j o, j < k → l[j]? = some o → o.dst ≠ some t) → slotOf af t = slotOf a0 t := fun t ht => hA0.keep.2.2 t (fun o ho => by
    obtain ⟨j, hj⟩ := List.getElem?_of_mem ho
    rw [List.getElem?_take] at hj
    split at hj
    · exact ht j o (by assumption) hj
    · cases hj)
  have hback' : ∀ i o, l[i]? = some o → ∀ e ∈ o.after, Region.binds .any e = true → e.on < i := by
    intro i o hi e he hb
    have hil : i < l.length := (List.getElem?_eq_some_iff.1 hi).1
    have h1 := hback i (by rw [hsz]; exact hil)
    have hi' : l.toArray[i]? = some o := by simpa using hi
    rw [hi'] at h1
    have h2 := Array.all_eq_true_iff_forall_mem.1 h1 e he
    simpa [hb] using h2
  have hdep' : ∀ i o j oj d, i < k → l[i]? = some o → j < k → l[j]? = some oj → oj.dst = some d → d ∈ o.looksAt l.toArray → j < i ∧ waitsB1 .any l.toArray i j = true := by
    intro i o j oj d hi ho hj hoj hd hmem
    have h1 := hdep i hi j (by omega)
    have ho' : l.toArray[i]? = some o := by simpa using ho
    have hoj' : l.toArray[j]? = some oj := by simpa using hoj
    rw [ho', hoj'] at h1
    simp only [hd] at h1
    have hc : (o.looksAt l.toArray).contains d = true := by simpa using hmem
    rw [hc] at h1
    simpa using h1
  have heat : ∀ i o j oj d r, i < k → l[i]? = some o → j < k → l[j]? = some oj → oj.dst = some d → d ∈ o.looksAt l.toArray → rs[j]? = some Role.p → rs[i]? = some r → r.eats j d = true := by
    intro i o j oj d r hi ho hj hoj hd hmem hrj hri
    have h1 := hpc i hi j hj
    have ho' : l.toArray[i]? = some o := by simpa using ho
    have hoj' : l.toArray[j]? = some oj := by simpa using hoj
    rw [ho', hoj', hri, hrj] at h1
    simp only [hd] at h1
    have hc : (o.looksAt l.toArray).contains d = true := by simpa using hmem
    rw [hc] at h1
    simpa [Role.isP] using h1
  have hfood : ∀ i o j d, i < k → l[i]? = some o → rs[i]? = some (.c j d) → j < k ∧ rs[j]? = some Role.p ∧ (∃ oj, l[j]? = some oj ∧ oj.dst = some d) ∧ d ∈ o.looksAt l.toArray := by
    intro i o j d hi ho hri
    have h1 := hcc i hi
    have ho' : l.toArray[i]? = some o := by simpa using ho
    rw [ho', hri] at h1
    simp only [Bool.and_eq_true, decide_eq_true_eq] at h1
    obtain ⟨⟨hjk, h2⟩, h3⟩ := h1
    obtain ⟨rj, hrj⟩ := hrole j hjk
    have hoj : l[j]? = some (l[j]'(by omega)) := by simp
    have hoj' : l.toArray[j]? = some (l[j]'(by omega)) := by simp
    rw [hoj', hrj] at h2
    simp only [Bool.and_eq_true, beq_iff_eq] at h2
    refine ⟨hjk, ?_, ⟨_, hoj, h2.2⟩, by simpa using h3⟩
    cases rj with
    | p => exact hrj
    | q => cases h2.1
    | c _ _ => cases h2.1
  have dlt : ∀ i o, i < k → l[i]? = some o → ∃ d, o.dst = some d ∧ d < a0.tmps.size := fun i o hi ho => dsts_lt _ _ i o hdk (by rw [hget i (by omega)]; exact ho)
  have dne : ∀ i j o oj t, i < k → j < k → l[i]? = some o → l[j]? = some oj → i ≠ j → oj.dst = some t → o.dst ≠ some t := fun i j o oj t hi hj ho hoj hne hd => dsts_ne _ _ j i oj o t hdk (by rw [hget j (by omega)]; exact hoj) (by rw [hget i (by omega)]; exact ho) (Ne.symm hne) hd
  have fin : ∀ (gs : Nat → Nat) (listed : Array Bool) (a : Act) (w : World), MidP P l.toArray k rs cont a0 af W gs listed a w → (∀ i, i < k → listed.getD i false = true) → ∀ fuel, unl listed = fuel → wpAny P .any l.toArray Q fuel listed a w := by
    intro gs listed a w m hdone fuel hu
    have hLH : listed = Array.replicate k true ++ Array.replicate (l.toArray.size - k) false := by
      apply Array.ext
      · simp [m.size]; omega
      · intro i h1 h2
        rcases Nat.lt_or_ge i k with h' | h
        rotate_left 1
        · have := m.tail i h (by rw [← m.size]; exact h1)
          rw [Array.getElem_append_right (by simp; omega)]
          simpa [h1] using this
        · have := hdone i h'
          rw [Array.getElem_append_left (by simp; omega)]
          simpa [h1] using this
    have hae : a = fillP cont gs 0 rs (l.take k) af := by
      have hs0 := hA0.keep
      have hf0 := fillP_keep (cont := cont) gs rs 0 (l.take k) af
      refine act_ext ?_ ?_ ?_
      · rw [m.tsize, hf0.1, hs0.1]
      · rw [m.defers, hf0.2, hs0.2.1]
      · intro t
        by_cases hex : ∃ j o, j < k ∧ l[j]? = some o ∧ o.dst = some t
        · obtain ⟨j, o, hj, ho, hd⟩ := hex
          by_cases hp : rs[j]? = some Role.p
          · rw [(m.spec j o t hj (by simpa using ho) hd (hdone j hj) hp).1]
            have := fillP_at (cont := cont) gs rs 0 (l.take k) af a0.tmps.size j o t hdk hs0.1.symm (by rw [hget j hj]; exact ho) hp hd
            rw [this, Nat.zero_add]
          · rw [m.put j o t hj (by simpa using ho) hd (hdone j hj) hp]
            rw [fillP_ne gs rs 0 (l.take k) af t (fun i o' ho' hr' => ?_)]
            have hik : i < k := by
              have := (List.getElem?_eq_some_iff.1 ho').1
              simp at this
              omega
            by_cases hij : i = j
            · subst hij; exact absurd hr' hp
            · exact dne i j o' o t hik hj (by rw [← hget i hik]; exact ho') ho hij hd
        · rw [m.same t (fun j o hj ho _ hd => hex ⟨j, o, hj, by simpa using ho, hd⟩)]
          rw [fillP_ne gs rs 0 (l.take k) af t (fun i o' ho' hr' hd => hex ⟨i, o', by have := (List.getElem?_eq_some_iff.1 ho').1; simp at this; omega, by rw [← hget i (by have := (List.getElem?_eq_some_iff.1 ho').1; simp at this; omega)]; exact ho', hd⟩)]
          exact (hafs t (fun j o hj ho hd => hex ⟨j, o, hj, ho, hd⟩)).symm
    have hfu : fuel = (l.drop k).length := by
      rw [← hu, hLH, unl_done]
      simp
    rw [hfu, hae]
    have hpk : ∀ j, rs[j]? = some Role.p → j < k := fun j hj => by
      have := (List.getElem?_eq_some_iff.1 hj).1
      omega
    refine wpAny_of_seq (l.drop k) k listed _ w (fun j => by simp [List.getElem?_drop]) ?_ (htail gs w m.ahd (fun j hj => ?_) (fun j j' hj hj' hne => m.apart j j' (hpk j hj) (hpk j' hj') hne (hdone j (hpk j hj)) (hdone j' (hpk j' hj')) hj hj'))
    · rw [hLH]
      have : (l.drop k).length = l.toArray.size - k := by simp
      rw [this]
      exact hseq
    · have hjk := hpk j hj
      have hoj : l[j]? = some (l[j]'(by omega)) := by simp
      obtain ⟨d, hd, _⟩ := dlt j _ hjk hoj
      exact (m.spec j _ d hjk (by simp) hd (hdone j hjk) hj).2
  have main : ∀ (fuel : Nat) (gs : Nat → Nat) (listed : Array Bool) (a : Act) (w : World), MidP P l.toArray k rs cont a0 af W gs listed a w → unl listed = fuel → wpAny P .any l.toArray Q fuel listed a w := by
    intro fuel
    induction fuel with
    | zero =>
      intro gs listed a w m hu
      by_cases hdone : ∀ i, i < k → listed.getD i false = true
      · exact fin gs listed a w m hdone _ hu
      · obtain ⟨i, hi, _, hun⟩ := first_no' listed k hdone
        have := unl_set (listed := listed) (i := i) (by rw [m.size]; omega) (by rw [getD_tf (by rw [m.size]; omega)]; exact hun)
        omega
    | succ fuel ih =>
      intro gs listed a w m hu
      by_cases hdone : ∀ i, i < k → listed.getD i false = true
      · exact fin gs listed a w m hdone _ hu
      · obtain ⟨i0, hi0, hpre, hun0⟩ := first_no' listed k hdone
        refine ⟨fun h0 => ?_, fun i hi => ?_⟩
        · have hr : i0 ∈ Region.ready .any l.toArray listed := by
            rw [mem_ready]
            refine ⟨by rw [getD_tf (by rw [m.size]; omega)]; exact hun0, l[i0]'(by omega), by simp, fun e he hb => hpre _ ?_⟩
            exact hback' i0 _ (by simp) e he hb
          rw [h0] at hr
          cases hr
        · have hi' := hi
          obtain ⟨hun, o, ho, hw⟩ := mem_ready.1 hi
          have hil : i < l.length := by
            have := (Array.getElem?_eq_some_iff.1 ho).1
            simpa using this
          have hol : l[i]? = some o := by simpa using ho
          have hun' : unl (listed.setIfInBounds i true) = fuel := by
            have := unl_set (listed := listed) (i := i) (by rw [m.size]; omega) hun
            omega
          have hik : i < k := by
            rcases Nat.lt_or_ge i k with h | h
            rotate_left 1
            · have h1 := (htl i (by omega)).resolve_left (by omega)
              have h2 : (coverB l.toArray l.toArray.size (depsB l.toArray i (List.replicate l.toArray.size false))).getD i0 false = true := by
                have hlen := cover_length (ops := l.toArray) l.toArray.size (depsB l.toArray i (List.replicate l.toArray.size false))
                rw [deps_length, List.length_replicate] at hlen
                have hm : (coverB l.toArray l.toArray.size (depsB l.toArray i (List.replicate l.toArray.size false)))[i0]'(by rw [hlen, hsz]; omega) ∈ (coverB l.toArray l.toArray.size (depsB l.toArray i (List.replicate l.toArray.size false))).take k :=
                  List.mem_take_iff_getElem.2 ⟨i0, by rw [hlen, hsz]; omega, rfl⟩
                have := h1 _ hm
                rw [List.getD_eq_getElem?_getD, List.getElem?_eq_getElem (by rw [hlen, hsz]; omega)]
                exact this
              have h3 := cover_listed (ops := l.toArray) m.closed l.toArray.size _ (fun j hj => ?_) i0 h2
              · rw [hun0] at h3
                cases h3
              · unfold depsB at hj
                rw [ho] at hj
                refine deps_listed _ _ (fun e he hb => hw e (by simpa using he) hb) (fun q hq => ?_) j hj
                rw [List.getD_eq_getElem?_getD, List.getElem?_replicate] at hq
                split at hq <;> cases hq
            · exact h
          have hclosed : ∀ j oj, l.toArray[j]? = some oj → (listed.setIfInBounds i true).getD j false = true → ∀ e ∈ oj.after, Region.binds .any e = true → (listed.setIfInBounds i true).getD e.on false = true := by
            intro j oj hj hl e he hb
            by_cases hji : i = j
            · subst hji
              rw [ho] at hj
              cases hj
              exact getD_set_true (hw e he hb)
            · rw [getD_set_ne false hji] at hl
              exact getD_set_true (m.closed j oj hj hl e he hb)
          have htail' : ∀ t, k ≤ t → t < l.toArray.size → (listed.setIfInBounds i true).getD t true = false := fun t ht ht' => by rw [getD_set_ne true (by omega)]; exact m.tail t ht ht'
          obtain ⟨d, hod, hdlt⟩ := dlt i o hik hol
          obtain ⟨r, hri⟩ := hrole i hik
          have hset : (listed.setIfInBounds i true).getD i false = true := by
            have : i < listed.size := by rw [m.size]; omega
            simp [this]
          have hunl : listed.getD i false = false := by rw [← getD_tf (by rw [m.size]; omega)]; exact hun
          -- the slots that the operation looks at, but for a block of its own kind
          have hlook : ∀ t ∈ o.looksAt l.toArray, (∀ j oj, j < k → l[j]? = some oj → oj.dst = some t → rs[j]? = some Role.p → False) → slotOf a t = slotOf (accum af ((l.take k).take i) a0) t := by
            intro t ht hnp
            rw [accum_slot _ _ _ (dstsOk_take _ _ _ hdk)]
            by_cases hex : ∃ j oj, j < k ∧ l[j]? = some oj ∧ oj.dst = some t
            · obtain ⟨j, oj, hj, hoj, hdt⟩ := hex
              obtain ⟨hji, hwt⟩ := hdep' i o j oj t hik hol hj hoj hdt ht
              obtain ⟨e, he, hb, heo⟩ := waitsB1_spec ho hwt
              have hlj := hw e he hb
              rw [heo] at hlj
              rw [m.put j oj t (by omega) (by simpa using hoj) hdt hlj (fun h => hnp j oj hj hoj hdt h), if_pos]
              rw [List.any_eq_true]
              refine ⟨oj, ?_, by simp [hdt]⟩
              refine List.mem_of_getElem? (i := j) ?_
              rw [List.getElem?_take, List.getElem?_take]
              simp only [hji, show j < k by omega, if_true, hoj]
            · rw [m.same t (fun j oj hj hoj _ hdt => hex ⟨j, oj, by omega, by simpa using hoj, hdt⟩), if_neg]
              intro hany
              rw [List.any_eq_true] at hany
              obtain ⟨oj, hmem, hdt⟩ := hany
              obtain ⟨j, hj⟩ := List.getElem?_of_mem (List.mem_of_mem_take hmem)
              rw [List.getElem?_take] at hj
              split at hj
              · exact hex ⟨j, oj, by omega, hj, by simpa using hdt⟩
              · cases hj
          have hstep := (hall w m.ahd).get (i := i) (o := o) (r := r) (by rw [hget i hik]; exact hol) hri
          rw [Nat.zero_add] at hstep
          -- what comes behind an operation that leaves a fixed value
          have after : rs[i]? ≠ some Role.p → ∀ x : Past w, wpAny P .any l.toArray Q fuel (listed.setIfInBounds i true) (a.put o.dst (leftBy af o)) x.w := by
            intro hnp x
            refine ih gs _ _ _ ⟨by simp [m.size], hclosed, htail', m.ahd.trans (x.far.mono m.ahd.size), by rw [defers_put]; exact m.defers, by rw [size_put]; exact m.tsize, ?_, ?_, ?_, ?_⟩ hun'
            · intro j oj t hj hoj hdt hl hrj
              by_cases hji : i = j
              · subst hji
                rw [ho] at hoj
                cases hoj
                have : leftBy af o = slotOf af t := by simp [leftBy, hdt]
                rw [hdt, this]
                rw [hod] at hdt
                cases hdt
                exact slot_put_same _ (by rw [m.tsize]; exact hdlt)
              · rw [getD_set_ne false hji] at hl
                rw [slot_put_ne _ (dne i j o oj t hik hj hol (by simpa using hoj) hji hdt)]
                exact m.put j oj t hj hoj hdt hl hrj
            · intro t hno
              rw [slot_put_ne _ (hno i o hik ho hset)]
              exact m.same t (fun j oj hj hoj hl => hno j oj hj hoj (getD_set_true hl))
            · intro j oj t hj hoj hdt hl hrj
              have hji : i ≠ j := fun e => hnp (by rw [e]; exact hrj)
              rw [getD_set_ne false hji] at hl
              obtain ⟨h1, h2, h3⟩ := m.spec j oj t hj hoj hdt hl hrj
              refine ⟨by rw [slot_put_ne _ (dne i j o oj t hik hj hol (by simpa using hoj) hji hdt)]; exact h1, h2, ?_⟩
              rw [x.far.block _ (Array.getElem?_eq_some_iff.1 h3).1]
              exact h3
            · intro j j' hj hj' hne hl hl' hrj hrj'
              have hji : i ≠ j := fun e => hnp (by rw [e]; exact hrj)
              have hji' : i ≠ j' := fun e => hnp (by rw [e]; exact hrj')
              rw [getD_set_ne false hji] at hl
              rw [getD_set_ne false hji'] at hl'
              exact m.apart j j' hj hj' hne hl hl' hrj hrj'
          have exec : ∀ b : Act, (∀ t ∈ o.looksAt l.toArray, slotOf a t = slotOf b t) → execOp a.eval o = execOp b.eval o := fun b hb => execOp_congr o (fun cs b => Region.noSelect_spec hsel i o cs b ho) (fun x hx => by
            cases x with
            | tmp t => exact hb t (List.mem_append_left _ (List.mem_filterMap.2 ⟨.tmp t, by simpa using hx, rfl⟩))
            | _ => rfl)
          cases r with
          | q =>
            have hl : ∀ t ∈ o.looksAt l.toArray, slotOf a t = slotOf (accum af ((l.take k).take i) a0) t := fun t ht => hlook t ht (fun j oj hj hoj hdt hrj => by
              have := heat i o j oj t _ hik hol hj hoj hdt ht hrj hri
              cases this)
            have hy' := YieldsIn.of_same (show YieldsIn P l.toArray _ o (leftBy af o) _ from hstep) (exec _ hl) (wanted_congr hl)
            refine wpOp_of_qOp (C := fun w' => ∃ x : Past w, w' = x.w) ⟨⟨w, Below.refl _ _⟩, rfl⟩ (fun a' w' hx ha => ?_) (hy'.qOp ho (K := fun a' => a' = a.put o.dst (leftBy af o)) rfl)
            obtain ⟨x, rfl⟩ := hx
            subst ha
            exact after (by rw [hri]; simp) x
          | c j dd =>
            obtain ⟨hjk, hrj, ⟨oj, hoj, hdj⟩, hmem⟩ := hfood i o j dd hik hol hri
            obtain ⟨hji, hwt⟩ := hdep' i o j oj dd hik hol hjk hoj hdj hmem
            obtain ⟨e, he, hb, heo⟩ := waitsB1_spec ho hwt
            have hlj := hw e he hb
            rw [heo] at hlj
            obtain ⟨s1, s2, s3⟩ := m.spec j oj dd hjk (by simpa using hoj) hdj hlj hrj
            have hst := (show ∀ (V' : World) (g : Nat), _ → _ → YieldsIn P l.toArray _ o (leftBy af o) _ from hstep) w (gs j) (Below.refl _ _) s3
            obtain ⟨dj', hdj', hdjlt⟩ := dlt j oj hjk hoj
            have hdd : dj' = dd := by rw [hdj] at hdj'; exact (Option.some.inj hdj').symm
            rw [hdd] at hdjlt
            have hacc : (accum af ((l.take k).take i) a0).tmps.size = a0.tmps.size := by
              have : ∀ (l : List Oper) (a : Act), (accum af l a).tmps.size = a.tmps.size := by
                intro l
                induction l with
                | nil => intro a; rfl
                | cons o l ih => intro a; show (accum af l (a.put o.dst (leftBy af o))).tmps.size = _; rw [ih, size_put]
              exact this _ _
            have hl : ∀ t ∈ o.looksAt l.toArray, slotOf a t = slotOf ((accum af ((l.take k).take i) a0).put (some dd) ((cont j).2 (gs j))) t := by
              intro t ht
              by_cases htd : t = dd
              · subst htd
                rw [s1, slot_put_same _ (by rw [hacc]; exact hdjlt)]
              · rw [slot_put_ne _ (fun e => htd (by cases e; rfl))]
                refine hlook t ht (fun j' oj' hj' hoj' hdt' hrj' => ?_)
                have := heat i o j' oj' t _ hik hol hj' hoj' hdt' ht hrj' hri
                simp only [Role.eats, Bool.and_eq_true, beq_iff_eq] at this
                exact htd this.2.symm
            have hy' := YieldsIn.of_same hst (exec _ hl) (wanted_congr hl)
            refine wpOp_of_qOp (C := fun w' => ∃ x : Past w, w' = x.w) ⟨⟨w, Below.refl _ _⟩, rfl⟩ (fun a' w' hx ha => ?_) (hy'.qOp ho (K := fun a' => a' = a.put o.dst (leftBy af o)) rfl)
            obtain ⟨x, rfl⟩ := hx
            subst ha
            exact after (by rw [hri]; simp) x
          | p =>
            obtain ⟨hg, hrun⟩ := (show _ ∧ _ from hstep)
            have hl : ∀ t ∈ o.looksAt l.toArray, slotOf a t = slotOf (accum af ((l.take k).take i) a0) t := fun t ht => hlook t ht (fun j oj hj hoj hdt hrj => by
              have := heat i o j oj t _ hik hol hj hoj hdt ht hrj hri
              cases this)
            unfold wpOp
            simp only [ho]
            rw [if_pos (by rw [wanted_congr hl]; exact hg)]
            refine .inl ?_
            unfold Oper.wp
            rw [exec _ hl, hrun]
            show wpAny P .any l.toArray Q fuel (listed.setIfInBounds i true) (a.put o.dst ((cont i).2 w.heap.size)) (w.alloc (cont i).1)
            refine ih (fun j => if j = i then w.heap.size else gs j) _ _ _ ⟨by simp [m.size], hclosed, htail', m.ahd.alloc m.ahd.size _, by rw [defers_put]; exact m.defers, by rw [size_put]; exact m.tsize, ?_, ?_, ?_, ?_⟩ hun'
            · intro j oj t hj hoj hdt hlj hrj
              have hji : i ≠ j := fun e => hrj (by rw [← e]; exact hri)
              rw [getD_set_ne false hji] at hlj
              rw [slot_put_ne _ (dne i j o oj t hik hj hol (by simpa using hoj) hji hdt)]
              exact m.put j oj t hj hoj hdt hlj hrj
            · intro t hno
              rw [slot_put_ne _ (hno i o hik ho hset)]
              exact m.same t (fun j oj hj hoj hl => hno j oj hj hoj (getD_set_true hl))
            · intro j oj t hj hoj hdt hlj hrj
              by_cases hji : i = j
              · subst hji
                rw [ho] at hoj
                cases hoj
                simp only [if_true]
                refine ⟨?_, m.ahd.size, ?_⟩
                · rw [hdt]
                  rw [hod] at hdt
                  cases hdt
                  exact slot_put_same _ (by rw [m.tsize]; exact hdlt)
                · show (w.heap.push _)[w.heap.size]? = _
                  simp
              · rw [getD_set_ne false hji] at hlj
                obtain ⟨h1, h2, h3⟩ := m.spec j oj t hj hoj hdt hlj hrj
                have hne : ¬ j = i := fun e => hji e.symm
                simp only [if_neg hne]
                refine ⟨by rw [slot_put_ne _ (dne i j o oj t hik hj hol (by simpa using hoj) hji hdt)]; exact h1, h2, ?_⟩
                rw [Below.heap_alloc _ _ _ (Array.getElem?_eq_some_iff.1 h3).1]
                exact h3
            · have old : ∀ j, j < k → i ≠ j → (listed.setIfInBounds i true).getD j false = true → rs[j]? = some Role.p → gs j < w.heap.size := by
                intro j hj hji hlj hrj
                rw [getD_set_ne false hji] at hlj
                have hoj : l[j]? = some (l[j]'(by omega)) := by simp
                obtain ⟨d', hd', _⟩ := dlt j _ hj hoj
                exact (Array.getElem?_eq_some_iff.1 (m.spec j _ d' hj (by simp) hd' hlj hrj).2.2).1
              intro j j' hj hj' hne hlj hlj' hrj hrj'
              by_cases hji : i = j
              · subst hji
                have := old j' hj' hne hlj' hrj'
                rw [if_pos rfl, if_neg (fun e => hne e.symm)]
                omega
              · by_cases hji' : i = j'
                · subst hji'
                  have := old j hj hji hlj hrj
                  rw [if_neg hne, if_pos rfl]
                  omega
                · rw [if_neg (fun e => hji e.symm), if_neg (fun e => hji' e.symm)]
                  rw [getD_set_ne false hji] at hlj
                  rw [getD_set_ne false hji'] at hlj'
                  exact m.apart j j' hj hj' hne hlj hlj' hrj hrj'
  refine wp_region_any hm (main _ (fun _ => 0) _ a0 _ ?_ (by rw [unl_rep]))
  refine ⟨by simp, ?_, ?_, (Below.refl _ _).drew, rfl, rfl, ?_, ?_, ?_, ?_⟩
  · intro j oj hj h
    rw [getD_replicate_false] at h
    cases h
  · intro t _ ht
    have : (Array.replicate l.toArray.size false).getD t true = false := by simp at ht; simp [ht]
    exact this
  · intro j o t _ _ _ h
    rw [getD_replicate_false] at h
    cases h
  · intro t _; rfl
  · intro j o t _ _ _ h
    rw [getD_replicate_false] at h
    cases h
  · intro j j' _ _ _ h
    rw [getD_replicate_false] at h
    cases h
end
end Go.Proofs.Ytlklnaebdnahcaa
namespace Go.Proofs.Ytlklnaebdnahcaa
open Go Go.RowKit
structure Same (W : World) where
  w : World
  is : w = W
instance (W : World) : Nonempty (Same W) := ⟨⟨W, rfl⟩⟩
@[simp, go_sem] theorem Same.eq {W : World} (x : Same W) : x.w = W := x.is
def isMove (o : Oper) : Bool := (match o.op with | .move _ => true | _ => false) && o.guard.isNone
def StepV (P : Program) (o : Oper) (a : Act) (w : World) (N : Value → World → Prop) : Prop :=
  match (execOp a.eval o).run P w with
  | .ok (.value v) w' => N v w'
  | .ok .skip w' => N undef w'
  | .ok (.enter f args) w' => Calls P f args w' fun e w'' => ∃ v, e = .returned v ∧ N v w''
  | _ => False
def SpineV (P : Program) (C : World → Prop) (T : Act → World → Prop) : List (Oper × Bool) → Act → World → Prop
  | [], a, w => T a w
  | (o, f) :: r, a, w => StepV P o a w fun v w' => (f = true → C w') ∧ SpineV P C T r (a.put o.dst v) w'
def spineB (ops : Array Oper) (k : Nat) (fl : List Bool) (lz : List Nat) (n : Nat) : Bool :=
  Region.noSelect ops && decide (k + fl.length ≤ ops.size) && dstsOk n (ops.toList.take k) &&
  (List.range ops.size).all (fun i => match ops[i]? with | some o => o.after.all (fun e => !Region.binds .any e || decide (e.on < i)) | none => false) &&
  (List.range k).all (fun i => (List.range k).all fun j => match ops[i]?, ops[j]? with
    | some oi, some oj => (match oj.dst with | some d => !(oi.looksAt ops).contains d || (decide (j < i) && waitsB1 .any ops i j) | none => false)
    | _, _ => false) &&
  (List.range k).all (fun i => (List.range fl.length).all fun j => match ops[i]?, ops[k + j]? with
    | some oi, some oj => (match oj.dst with | some d => !(oi.looksAt ops).contains d && oi.dst != some d | none => true)
    | _, _ => false) &&
  (List.range fl.length).all (fun s => match ops[k + s]? with
    | some o => o.guard.isNone && (decide (s = 0) || waitsB1 .any ops (k + s) (k + s - 1)) && (List.range k).all (fun j => match ops[j]? with
      | some oj => (match oj.dst with | some d => !(o.looksAt ops).contains d || waitsB1 .any ops (k + s) j | none => false)
      | none => false) && (fl.getD s true || (List.range k).all (fun i => lz.contains i || (coverB ops ops.size (depsB ops (k + s) (List.replicate ops.size false))).getD i false))
    | none => false) &&
  lz.all (fun i => match ops[i]? with | some o => isMove o | none => false) &&
  (List.range ops.size).all (fun t => decide (t < k + fl.length) || ((coverB ops ops.size (depsB ops t (List.replicate ops.size false))).take (k + fl.length)).all (fun b => b)) &&
  Region.seqB .any ops (ops.size - (k + fl.length)) (k + fl.length) (Array.replicate (k + fl.length) true ++ Array.replicate (ops.size - (k + fl.length)) false)
theorem slot_put_congr {a b : Act} {t : Tmp} (hs : a.tmps.size = b.tmps.size) (h : slotOf a t = slotOf b t) (x : Option Tmp) (v : Value) : slotOf (a.put x v) t = slotOf (b.put x v) t := by
  by_cases hx : x = some t
  · subst hx
    by_cases hl : t < a.tmps.size
    · have hl' : t < b.tmps.size := hs ▸ hl
      rw [slot_put_same v hl, slot_put_same v hl']
    · have hl' : ¬ t < b.tmps.size := hs ▸ hl
      simp [slotOf, Act.put, hl, hl']
  · rw [slot_put_ne v hx, slot_put_ne v hx, h]
theorem move_yields {P : Program} {ops : Array Oper} {o : Oper} {v : Value} {a : Act} {W : World} (he : isMove o = true) (h : YieldsIn P ops (fun w' => ∃ x : Same W, w' = x.w) o v a) (V : World) : YieldsIn P ops (fun w' => ∃ x : Same V, w' = x.w) o v a := by
  unfold isMove at he
  simp only [Bool.and_eq_true] at he
  have hw : Region.wanted o (yielded ops a.tmps) = true := by
    unfold Region.wanted
    rw [Option.isNone_iff_eq_none.1 he.2]
  rcases h with ⟨_, h1⟩ | ⟨h1, _⟩
  · refine .inl ⟨hw, fun w hx => ?_⟩
    have h2 := h1 W ⟨⟨W, rfl⟩, rfl⟩
    have h3 := he.1
    unfold Oper.quietAt at h2 ⊢
    cases ho : o.op <;> rw [ho] at h3 <;> simp at h3
    rename_i x
    have e : ∀ w, (execOp a.eval o).run P w = .ok (.value (a.eval x)) w := fun w => by
      unfold execOp
      simp only [ho]
      rfl
    rw [e] at h2 ⊢
    simp only [Oper.quietUpon] at h2 ⊢
    exact ⟨trivial, h2.2⟩
  · rw [hw] at h1; cases h1
theorem StepV.wp {P : Program} {o : Oper} {a b : Act} {w : World} {N : Value → World → Prop} {K : Act → World → Prop} {Q : Exit → Act → World → Prop} (h : StepV P o b w N) (he : execOp a.eval o = execOp b.eval o) (hK : ∀ v w', N v w' → K (a.put o.dst v) w') : o.wp P a w K Q := by
  unfold StepV at h
  unfold Oper.wp
  rw [he]
  generalize (execOp b.eval o).run P w = r at *
  cases r with
  | ok n w' =>
    cases n <;> simp only [Oper.upon] at h ⊢
    case value u => exact hK _ _ h
    case skip => exact hK _ _ h
    case enter f args => exact h.mono fun e w'' ⟨v, hv, hn⟩ => by subst hv; exact hK _ _ hn
    all_goals exact h.elim
  | halt x w' => exact h.elim
structure MidV (P : Program) (ops : Array Oper) (k m : Nat) (lz : List Nat) (C : World → Prop) (T : Act → World → Prop) (sp : List (Oper × Bool)) (a0 af : Act) (s : Nat) (b : Act) (listed : Array Bool) (a : Act) (w : World) : Prop where
  size : listed.size = ops.size
  closed : ∀ j oj, ops[j]? = some oj → listed.getD j false = true → ∀ e ∈ oj.after, Region.binds .any e = true → listed.getD e.on false = true
  le : s ≤ m
  sdone : ∀ j, j < s → listed.getD (k + j) false = true
  sleft : ∀ t, k + s ≤ t → t < ops.size → listed.getD t true = false
  adef : a.defers = b.defers
  asize : a.tmps.size = a0.tmps.size
  bsize : b.tmps.size = a0.tmps.size
  put : ∀ j o t, j < k → ops[j]? = some o → o.dst = some t → listed.getD j false = true → slotOf a t = slotOf b t
  same : ∀ t, (∀ j o, j < k → ops[j]? = some o → o.dst ≠ some t) → slotOf a t = slotOf b t
  keep : ∀ j o t, j < k → ops[j]? = some o → o.dst = some t → slotOf b t = slotOf af t
  other : ∀ t, (∀ j o, j < k → ops[j]? = some o → o.dst ≠ some t) → (∀ j o, j < m → ops[k + j]? = some o → o.dst ≠ some t) → slotOf b t = slotOf a0 t
  stage : SpineV P C T (sp.drop s) b w
  cw : C w ∨ ∀ i, i < k → i ∉ lz → listed.getD i false = true
section
variable {P : Program} {Q : Exit → Act → World → Prop} {W : World} {a0 af : Act} {l : List Oper}
theorem wp_region_spine {id : Nat} (k : Nat) (fl : List Bool) (lz : List Nat) (af : Act) (C : World → Prop) (hm : P.follows .mixedOrders = true)
    (hB : spineB l.toArray k fl lz a0.tmps.size = true) (hC : C W.drew)
    (hwalk : ∀ V : World, C V → wpQuiet P l.toArray (fun w' => ∃ x : Same V, w' = x.w) (fun a' => a' = af) (l.take k) a0)
    (hS : ∀ V : World, C V → SpineV P C (fun a w => wpList P l.toArray Q (l.drop (k + fl.length)) a w) (((l.drop k).take fl.length).zip fl) af V) :
    (Code.region id l.toArray true).wp P Q a0 W := by
  unfold spineB at hB
  rw [Bool.and_eq_true, Bool.and_eq_true, Bool.and_eq_true, Bool.and_eq_true, Bool.and_eq_true, Bool.and_eq_true, Bool.and_eq_true, Bool.and_eq_true, Bool.and_eq_true] at hB
  obtain ⟨⟨⟨⟨⟨⟨⟨⟨⟨hsel, hks⟩, hdst⟩, hback⟩, hdep⟩, hap⟩, hsp⟩, hlz⟩, htl⟩, hseq⟩ := hB
  simp only [decide_eq_true_eq, List.all_eq_true, List.mem_range, Bool.or_eq_true] at hks hback hdep hap htl hlz hsp
  have hsz : l.toArray.size = l.length := by simp
  generalize hfm : fl.length = m at *
  have hkl : k + m ≤ l.length := by rw [← hsz]; exact hks
  have hdk : dstsOk a0.tmps.size (l.take k) = true := hdst
  have hall : ∀ V : World, C V → AllIn P l.toArray (fun w' => ∃ x : Same V, w' = x.w) af (l.take k) a0 := fun V hV => allIn_of hdk (hwalk V hV)
  have hA0 := hall _ hC
  have hget : ∀ i, i < k → (l.take k)[i]? = l[i]? := fun i hi => by rw [List.getElem?_take]; simp [hi]
  have hafs : ∀ t, (∀ j o, j < k → l[j]? = some o → o.dst ≠ some t) → slotOf af t = slotOf a0 t := fun t ht => hA0.keep.2.2 t (fun o ho => by
    obtain ⟨j, hj⟩ := List.getElem?_of_mem ho
    rw [List.getElem?_take] at hj
    split at hj
    · exact ht j o (by assumption) hj
    · cases hj)
  have hback' : ∀ i o, l[i]? = some o → ∀ e ∈ o.after, Region.binds .any e = true → e.on < i := by
    intro i o hi e he hb
    have hil : i < l.length := (List.getElem?_eq_some_iff.1 hi).1
    have h1 := hback i (by rw [hsz]; exact hil)
    have hi' : l.toArray[i]? = some o := by simpa using hi
    rw [hi'] at h1
    have h2 := Array.all_eq_true_iff_forall_mem.1 h1 e he
    simpa [hb] using h2
  have hdep' : ∀ i o j oj d, i < k → l[i]? = some o → j < k → l[j]? = some oj → oj.dst = some d → d ∈ o.looksAt l.toArray → j < i ∧ waitsB1 .any l.toArray i j = true := by
    intro i o j oj d hi ho hj hoj hd hmem
    have h1 := hdep i hi j hj
    have ho' : l.toArray[i]? = some o := by simpa using ho
    have hoj' : l.toArray[j]? = some oj := by simpa using hoj
    rw [ho', hoj'] at h1
    simp only [hd] at h1
    have hc : (o.looksAt l.toArray).contains d = true := by simpa using hmem
    rw [hc] at h1
    simpa using h1
  have hap' : ∀ i o j oj d, i < k → l[i]? = some o → j < m → l[k + j]? = some oj → oj.dst = some d → d ∉ o.looksAt l.toArray ∧ o.dst ≠ some d := by
    intro i o j oj d hi ho hj hoj hd
    have h1 := hap i hi j hj
    have ho' : l.toArray[i]? = some o := by simpa using ho
    have hoj' : l.toArray[k + j]? = some oj := by simpa using hoj
    rw [ho', hoj'] at h1
    simpa [hd] using h1
  have hsp' : ∀ s o, s < m → l[k + s]? = some o → o.guard = none ∧ (s = 0 ∨ waitsB1 .any l.toArray (k + s) (k + s - 1) = true) ∧ (∀ j oj d, j < k → l[j]? = some oj → oj.dst = some d → d ∈ o.looksAt l.toArray → waitsB1 .any l.toArray (k + s) j = true) ∧ (fl.getD s true = true ∨ ∀ i, i < k → i ∉ lz → (coverB l.toArray l.toArray.size (depsB l.toArray (k + s) (List.replicate l.toArray.size false))).getD i false = true) := by
    intro s o hs ho
    have h1 := hsp s hs
    have ho' : l.toArray[k + s]? = some o := by simpa using ho
    rw [ho'] at h1
    simp only [Bool.and_eq_true, Bool.or_eq_true, decide_eq_true_eq, List.all_eq_true, List.mem_range] at h1
    obtain ⟨⟨⟨g1, g2⟩, g3⟩, g4⟩ := h1
    refine ⟨Option.isNone_iff_eq_none.1 g1, g2, fun j oj d hj hoj hd hmem => ?_, g4.imp (fun x => x) (fun h i hi hn => (h i hi).resolve_left (by simpa using hn))⟩
    have h2 := g3 j hj
    have hoj' : l.toArray[j]? = some oj := by simpa using hoj
    rw [hoj'] at h2
    simp only [hd] at h2
    have hc : (o.looksAt l.toArray).contains d = true := by simpa using hmem
    rw [hc] at h2
    simpa using h2
  have dlt : ∀ i o, i < k → l[i]? = some o → ∃ d, o.dst = some d ∧ d < a0.tmps.size := fun i o hi ho => dsts_lt _ _ i o hdk (by rw [hget i (by omega)]; exact ho)
  have dne : ∀ i j o oj t, i < k → j < k → l[i]? = some o → l[j]? = some oj → i ≠ j → oj.dst = some t → o.dst ≠ some t := fun i j o oj t hi hj ho hoj hne hd => dsts_ne _ _ j i oj o t hdk (by rw [hget j (by omega)]; exact hoj) (by rw [hget i (by omega)]; exact ho) (Ne.symm hne) hd
  have fin : ∀ (b : Act) (listed : Array Bool) (a : Act) (w : World), MidV P l.toArray k m lz C (fun a w => wpList P l.toArray Q (l.drop (k + m)) a w) (((l.drop k).take m).zip fl) a0 af m b listed a w → (∀ i, i < k → listed.getD i false = true) → ∀ fuel, unl listed = fuel → wpAny P .any l.toArray Q fuel listed a w := by
    intro b listed a w mm hdone fuel hu
    have hLH : listed = Array.replicate (k + m) true ++ Array.replicate (l.toArray.size - (k + m)) false := by
      apply Array.ext
      · simp [mm.size]; omega
      · intro i h1 h2
        rcases Nat.lt_or_ge i (k + m) with h' | h
        rotate_left 1
        · have := mm.sleft i h (by rw [← mm.size]; exact h1)
          rw [Array.getElem_append_right (by simp; omega)]
          simpa [h1] using this
        · have : listed.getD i false = true := by
            rcases Nat.lt_or_ge i k with h3 | h3
            · exact hdone i h3
            · have := mm.sdone (i - k) (by omega)
              rwa [show k + (i - k) = i by omega] at this
          rw [Array.getElem_append_left (by simp; omega)]
          simpa [h1] using this
    have hab : a = b := by
      refine act_ext (by rw [mm.asize, mm.bsize]) mm.adef (fun t => ?_)
      by_cases hex : ∃ j o, j < k ∧ l[j]? = some o ∧ o.dst = some t
      · obtain ⟨j, o, hj, ho, hd⟩ := hex
        exact mm.put j o t hj (by simpa using ho) hd (hdone j hj)
      · exact mm.same t (fun j o hj ho hd => hex ⟨j, o, hj, by simpa using ho, hd⟩)
    have hst := mm.stage
    have hnil : (((l.drop k).take m).zip fl).drop m = [] := List.drop_eq_nil_of_le (by simp; omega)
    rw [hnil] at hst
    have hfu : fuel = (l.drop (k + m)).length := by
      rw [← hu, hLH, unl_done]
      simp
    rw [hfu, hab, hLH]
    refine wpAny_of_seq (l.drop (k + m)) (k + m) _ b w (fun j => by simp [List.getElem?_drop]) ?_ hst
    have : (l.drop (k + m)).length = l.toArray.size - (k + m) := by simp
    rw [this]
    exact hseq
  have main : ∀ (fuel s : Nat) (b : Act) (listed : Array Bool) (a : Act) (w : World), MidV P l.toArray k m lz C (fun a w => wpList P l.toArray Q (l.drop (k + m)) a w) (((l.drop k).take m).zip fl) a0 af s b listed a w → unl listed = fuel → wpAny P .any l.toArray Q fuel listed a w := by
    intro fuel
    induction fuel with
    | zero =>
      intro s b listed a w mm hu
      have hlist : ∀ i, i < listed.size → listed.getD i false = true := by
        intro i hi
        cases hc : listed.getD i false
        · have := unl_set (listed := listed) (i := i) hi (by rw [getD_tf hi]; exact hc)
          omega
        · rfl
      have hsm : s = m := by
        rcases Nat.lt_or_ge s m with h | h
        · have h1 := mm.sleft (k + s) (Nat.le_refl _) (by omega)
          have h2 := hlist (k + s) (by rw [mm.size]; omega)
          rw [getD_tf (by rw [mm.size]; omega), h2] at h1
          cases h1
        · have := mm.le; omega
      subst hsm
      exact fin b listed a w mm (fun i hi => hlist i (by rw [mm.size]; omega)) _ hu
    | succ fuel ih =>
      intro s b listed a w mm hu
      by_cases hdone : (∀ i, i < k → listed.getD i false = true) ∧ s = m
      · obtain ⟨h1, rfl⟩ := hdone
        exact fin b listed a w mm h1 _ hu
      · have hex : ¬ ∀ i, i < k + m → listed.getD i false = true := by
          intro hh
          refine hdone ⟨fun i hi => hh i (by omega), ?_⟩
          rcases Nat.lt_or_ge s m with h | h
          · have h1 := mm.sleft (k + s) (Nat.le_refl _) (by omega)
            have h2 := hh (k + s) (by omega)
            rw [getD_tf (by rw [mm.size]; omega), h2] at h1
            cases h1
          · have := mm.le; omega
        obtain ⟨i0, hi0, hpre, hun0⟩ := first_no' listed (k + m) hex
        refine ⟨fun h0 => ?_, fun i hi => ?_⟩
        · have hr : i0 ∈ Region.ready .any l.toArray listed := by
            rw [mem_ready]
            refine ⟨by rw [getD_tf (by rw [mm.size]; omega)]; exact hun0, l[i0]'(by omega), by simp, fun e he hb => hpre _ ?_⟩
            exact hback' i0 _ (by simp) e he hb
          rw [h0] at hr
          cases hr
        · obtain ⟨hun, o, ho, hw⟩ := mem_ready.1 hi
          have hil : i < l.length := by
            have := (Array.getElem?_eq_some_iff.1 ho).1
            simpa using this
          have hol : l[i]? = some o := by simpa using ho
          have hun' : unl (listed.setIfInBounds i true) = fuel := by
            have := unl_set (listed := listed) (i := i) (by rw [mm.size]; omega) hun
            omega
          have hcov : ∀ q, (coverB l.toArray l.toArray.size (depsB l.toArray i (List.replicate l.toArray.size false))).getD q false = true → listed.getD q false = true := by
            intro q h2
            refine cover_listed (ops := l.toArray) mm.closed l.toArray.size _ (fun j hj => ?_) q h2
            unfold depsB at hj
            rw [ho] at hj
            refine deps_listed _ _ (fun e he hb => hw e (by simpa using he) hb) (fun q hq => ?_) j hj
            rw [List.getD_eq_getElem?_getD, List.getElem?_replicate] at hq
            split at hq <;> cases hq
          have hik : i < k + m := by
            rcases Nat.lt_or_ge i (k + m) with h | h
            rotate_left 1
            · have h1 := (htl i (by omega)).resolve_left (by omega)
              have h2 : (coverB l.toArray l.toArray.size (depsB l.toArray i (List.replicate l.toArray.size false))).getD i0 false = true := by
                have hlen := cover_length (ops := l.toArray) l.toArray.size (depsB l.toArray i (List.replicate l.toArray.size false))
                rw [deps_length, List.length_replicate] at hlen
                have hm : (coverB l.toArray l.toArray.size (depsB l.toArray i (List.replicate l.toArray.size false)))[i0]'(by rw [hlen, hsz]; omega) ∈ (coverB l.toArray l.toArray.size (depsB l.toArray i (List.replicate l.toArray.size false))).take (k + m) :=
                  List.mem_take_iff_getElem.2 ⟨i0, by rw [hlen, hsz]; omega, rfl⟩
                have := h1 _ hm
                rw [List.getD_eq_getElem?_getD, List.getElem?_eq_getElem (by rw [hlen, hsz]; omega)]
                exact this
              have h3 := hcov i0 h2
              rw [hun0] at h3
              cases h3
            · exact h
          have hclosed : ∀ j oj, l.toArray[j]? = some oj → (listed.setIfInBounds i true).getD j false = true → ∀ e ∈ oj.after, Region.binds .any e = true → (listed.setIfInBounds i true).getD e.on false = true := by
            intro j oj hj hl e he hb
            by_cases hji : i = j
            · subst hji
              rw [ho] at hj
              cases hj
              exact getD_set_true (hw e he hb)
            · rw [getD_set_ne false hji] at hl
              exact getD_set_true (mm.closed j oj hj hl e he hb)
          have hnow : (listed.setIfInBounds i true).getD i false = true := by
            have : i < listed.size := by rw [mm.size]; omega
            simp [this]
          rcases Nat.lt_or_ge i k with hikk | hikk
          · -- an operation that reads
            obtain ⟨d, hod, hdlt⟩ := dlt i o hikk hol
            have hlook : ∀ t ∈ o.looksAt l.toArray, slotOf a t = slotOf (accum af ((l.take k).take i) a0) t := by
              intro t ht
              rw [accum_slot _ _ _ (dstsOk_take _ _ _ hdk)]
              by_cases hex : ∃ j oj, j < k ∧ l[j]? = some oj ∧ oj.dst = some t
              · obtain ⟨j, oj, hj, hoj, hdt⟩ := hex
                obtain ⟨hji, hwt⟩ := hdep' i o j oj t hikk hol hj hoj hdt ht
                obtain ⟨e, he, hb, heo⟩ := waitsB1_spec ho hwt
                have hlj := hw e he hb
                rw [heo] at hlj
                rw [mm.put j oj t hj (by simpa using hoj) hdt hlj, mm.keep j oj t hj (by simpa using hoj) hdt, if_pos]
                rw [List.any_eq_true]
                refine ⟨oj, ?_, by simp [hdt]⟩
                refine List.mem_of_getElem? (i := j) ?_
                rw [List.getElem?_take, List.getElem?_take]
                simp only [hji, show j < k by omega, if_true, hoj]
              · rw [mm.same t (fun j oj hj hoj hdt => hex ⟨j, oj, hj, by simpa using hoj, hdt⟩), mm.other t (fun j oj hj hoj hdt => hex ⟨j, oj, hj, by simpa using hoj, hdt⟩) (fun j oj hj hoj hdt => (hap' i o j oj t hikk hol hj (by simpa using hoj) hdt).1 ht), if_neg]
                intro hany
                rw [List.any_eq_true] at hany
                obtain ⟨oj, hmem, hdt⟩ := hany
                obtain ⟨j, hj⟩ := List.getElem?_of_mem (List.mem_of_mem_take hmem)
                rw [List.getElem?_take] at hj
                split at hj
                · exact hex ⟨j, oj, by omega, hj, by simpa using hdt⟩
                · cases hj
            have hy : YieldsIn P l.toArray (fun w' => ∃ x : Same w, w' = x.w) o (leftBy af o) (accum af ((l.take k).take i) a0) := by
              by_cases hz : i ∈ lz
              · refine move_yields ?_ (hA0.get (i := i) (o := o) (by rw [List.getElem?_take]; simp [hikk, hol])) w
                have := hlz i hz
                rw [ho] at this
                exact this
              · have hcw : C w := mm.cw.resolve_right (fun h => by
                  have h1 := h i hikk hz
                  rw [getD_tf (by rw [mm.size]; omega), h1] at hun
                  cases hun)
                exact (hall w hcw).get (i := i) (o := o) (by rw [List.getElem?_take]; simp [hikk, hol])
            have he : execOp a.eval o = execOp (accum af ((l.take k).take i) a0).eval o := execOp_congr o (fun cs b => Region.noSelect_spec hsel i o cs b ho) (fun x hx => by
              cases x with
              | tmp t => exact hlook t (List.mem_append_left _ (List.mem_filterMap.2 ⟨.tmp t, by simpa using hx, rfl⟩))
              | _ => rfl)
            have hy' := hy.of_same he (wanted_congr hlook)
            refine wpOp_of_qOp (C := fun w' => ∃ x : Same w, w' = x.w) ⟨⟨w, rfl⟩, rfl⟩ (fun a' w' hx ha => ?_) (hy'.qOp ho (K := fun a' => a' = a.put o.dst (leftBy af o)) rfl)
            obtain ⟨⟨x, hxw⟩, rfl⟩ := hx
            subst hxw
            subst ha
            have hvb : leftBy af o = slotOf b d := by
              rw [mm.keep i o d hikk ho hod]
              simp [leftBy, hod]
            refine ih s b _ _ _ ⟨by simp [mm.size], hclosed, mm.le, fun j hj => getD_set_true (mm.sdone j hj), fun t ht ht' => by rw [getD_set_ne true (by omega)]; exact mm.sleft t ht ht', by rw [defers_put]; exact mm.adef, by rw [size_put]; exact mm.asize, mm.bsize, ?_, ?_, mm.keep, mm.other, mm.stage, mm.cw.imp (fun x => x) (fun h q hq hz => getD_set_true (h q hq hz))⟩ hun'
            · intro j oj t hj hoj hdt hl
              by_cases hji : i = j
              · subst hji
                rw [ho] at hoj
                cases hoj
                rw [hod] at hdt
                cases hdt
                rw [hod, slot_put_same _ (by rw [mm.asize]; exact hdlt), hvb]
              · rw [getD_set_ne false hji] at hl
                rw [slot_put_ne _ (dne i j o oj t hikk hj hol (by simpa using hoj) hji hdt)]
                exact mm.put j oj t hj hoj hdt hl
            · intro t hno
              rw [slot_put_ne _ (hno i o hikk ho)]
              exact mm.same t hno
          · -- the next one of the row
            have his : i = k + s := by
              rcases Nat.lt_or_ge i (k + s) with h | h
              · have := mm.sdone (i - k) (by omega)
                rw [show k + (i - k) = i by omega] at this
                rw [getD_tf (by rw [mm.size]; omega), this] at hun
                cases hun
              · rcases Nat.lt_or_ge (k + s) i with h2 | h2
                · obtain ⟨_, g2, _, _⟩ := hsp' (i - k) o (by omega) (by rw [show k + (i - k) = i by omega]; exact hol)
                  have g3 := g2.resolve_left (by omega)
                  rw [show k + (i - k) = i by omega] at g3
                  obtain ⟨e, he, hb, heo⟩ := waitsB1_spec ho g3
                  have hlj := hw e he hb
                  rw [heo] at hlj
                  have := mm.sleft (i - 1) (by omega) (by omega)
                  rw [getD_tf (by rw [mm.size]; omega), hlj] at this
                  cases this
                · omega
            subst his
            have hs : s < m := by omega
            obtain ⟨g1, g2, g3, g4⟩ := hsp' s o hs hol
            have hspl : (((l.drop k).take m).zip fl).drop s = (o, fl[s]'(by omega)) :: (((l.drop k).take m).zip fl).drop (s + 1) := by
              rw [List.drop_eq_getElem_cons (by simp; omega)]
              congr 1
              simp only [List.getElem_zip, List.getElem_take, List.getElem_drop]
              rw [List.getElem?_eq_getElem hil] at hol
              simp only [Option.some.injEq] at hol
              rw [hol]
            have hst := mm.stage
            rw [hspl] at hst
            have hlook : ∀ t ∈ o.looksAt l.toArray, slotOf a t = slotOf b t := by
              intro t ht
              by_cases hex : ∃ j oj, j < k ∧ l[j]? = some oj ∧ oj.dst = some t
              · obtain ⟨j, oj, hj, hoj, hdt⟩ := hex
                obtain ⟨e, he, hb, heo⟩ := waitsB1_spec ho (g3 j oj t hj hoj hdt ht)
                have hlj := hw e he hb
                rw [heo] at hlj
                exact mm.put j oj t hj (by simpa using hoj) hdt hlj
              · exact mm.same t (fun j oj hj hoj hdt => hex ⟨j, oj, hj, by simpa using hoj, hdt⟩)
            have he : execOp a.eval o = execOp b.eval o := execOp_congr o (fun cs b => Region.noSelect_spec hsel _ o cs b ho) (fun x hx => by
              cases x with
              | tmp t => exact hlook t (List.mem_append_left _ (List.mem_filterMap.2 ⟨.tmp t, by simpa using hx, rfl⟩))
              | _ => rfl)
            unfold wpOp
            rw [ho]
            simp only
            rw [if_pos (by unfold Region.wanted; rw [g1])]
            refine .inl (StepV.wp hst he (fun v w' hN => ?_))
            refine ih (s + 1) (b.put o.dst v) _ _ _ ⟨by simp [mm.size], hclosed, hs, fun j hj => ?_, fun t ht ht' => by rw [getD_set_ne true (by omega)]; exact mm.sleft t (by omega) ht', by rw [defers_put, defers_put]; exact mm.adef, by rw [size_put]; exact mm.asize, by rw [size_put]; exact mm.bsize, ?_, ?_, ?_, ?_, hN.2, ?_⟩ hun'
            · by_cases hjs : j = s
              · subst hjs; exact hnow
              · exact getD_set_true (mm.sdone j (by omega))
            · intro j oj t hj hoj hdt hl
              rw [getD_set_ne false (by omega)] at hl
              exact slot_put_congr (by rw [mm.asize, mm.bsize]) (mm.put j oj t hj hoj hdt hl) _ _
            · intro t hno
              exact slot_put_congr (by rw [mm.asize, mm.bsize]) (mm.same t hno) _ _
            · intro j oj t hj hoj hdt
              rw [slot_put_ne _ (fun e => (hap' j oj s o t hj (by simpa using hoj) hs hol e).2 hdt)]
              exact mm.keep j oj t hj hoj hdt
            · intro t h1 h2
              rw [slot_put_ne _ (h2 s o hs ho)]
              exact mm.other t h1 h2
            · rcases g4 with g4 | g4
              · refine .inl (hN.1 ?_)
                rw [List.getD_eq_getElem?_getD, List.getElem?_eq_getElem (by omega)] at g4
                exact g4
              · exact .inr (fun q hq hz => getD_set_true (hcov q (g4 q hq hz)))
  have hrep : ∀ i d, i < l.toArray.size → (Array.replicate l.toArray.size false).getD i d = false := fun i d hi => by simp at hi; simp [hi]
  refine wp_region_any hm (main _ 0 af _ a0 _ ?_ (by rw [unl_rep]))
  refine ⟨by simp, ?_, Nat.zero_le _, fun j hj => absurd hj (Nat.not_lt_zero _), fun t _ ht => hrep t _ ht, hA0.keep.2.1.symm, rfl, hA0.keep.1, ?_, ?_, fun _ _ _ _ _ _ => rfl, ?_, ?_, .inl hC⟩
  · intro j oj hj h
    rw [hrep j _ (Array.getElem?_eq_some_iff.1 hj).1] at h
    cases h
  · intro j o t _ ho _ h
    rw [hrep j _ (Array.getElem?_eq_some_iff.1 ho).1] at h
    cases h
  · intro t hno
    exact (hafs t (fun j o hj ho => hno j o hj (by simpa using ho))).symm
  · intro t h1 _
    exact hafs t (fun j o hj ho => h1 j o hj (by simpa using ho))
  · exact hS _ hC
end
end Go.Proofs.Ytlklnaebdnahcaa
namespace Go.Proofs.Ytlklnaebdnahcaa
open Go Go.RowKit
def thenB (ops : Array Oper) (k n : Nat) : Bool :=
  Region.noSelect ops && decide (k < ops.size) && dstsOk n (ops.toList.take k) &&
  (List.range ops.size).all (fun i => match ops[i]? with | some o => o.after.all (fun e => !Region.binds .any e || decide (e.on < i)) | none => false) &&
  (List.range ops.size).all (fun t => decide (t < k) || ((coverB ops ops.size (depsB ops t (List.replicate ops.size false))).take k).all (fun b => b)) &&
  (List.range k).all (fun i => (List.range k).all fun j => match ops[i]?, ops[j]? with
    | some oi, some oj => (match oj.dst with | some d => !(oi.looksAt ops).contains d || (decide (j < i) && waitsB1 .any ops i j) | none => false)
    | _, _ => false) &&
  decide (Region.ready .any ops (Array.replicate k true ++ Array.replicate (ops.size - k) false) = [k]) &&
  Region.lexFrom .any ops (ops.size - (k + 1)) (k + 1) ((Array.replicate k true ++ Array.replicate (ops.size - k) false).setIfInBounds k true) &&
  (match ops[k]? with | some o => o.guard.isNone | none => false)
section
variable {P : Program} {Q : Exit → Act → World → Prop} {W : World} {a0 af : Act} {l : List Oper} {k : Nat}
theorem wp_region_then {id : Nat} (k : Nat) (ok : Oper) (af : Act) (hok : l[k]? = some ok) (hm : P.follows .mixedOrders = true)
    (hB : thenB l.toArray k a0.tmps.size = true)
    (hwalk : ∀ V : World, Below W.heap.size W V → wpQuiet P l.toArray (fun w' => ∃ x : Past V, w' = x.w) (fun a' => a' = af) (l.take k) a0)
    (htail : ∀ (w' : World), Below W.heap.size W w' → ok.wp P af w' (fun a w2 => wpQuiet P l.toArray (fun w3 => ∃ x : Past w2, w3 = x.w) (fun a' => ∀ x : Past w2, Q .normal a' x.w) (l.drop (k + 1)) a) Q) :
    (Code.region id l.toArray true).wp P Q a0 W := by
  unfold thenB at hB
  rw [Bool.and_eq_true, Bool.and_eq_true, Bool.and_eq_true, Bool.and_eq_true, Bool.and_eq_true, Bool.and_eq_true, Bool.and_eq_true, Bool.and_eq_true] at hB
  obtain ⟨⟨⟨⟨⟨⟨⟨⟨hsel, hks⟩, hdst⟩, hback⟩, htl⟩, hdep⟩, hrdy⟩, hlex⟩, hgk⟩ := hB
  simp only [decide_eq_true_eq, List.all_eq_true, List.mem_range, Bool.or_eq_true] at hks hback htl hdep hrdy
  have hokA : l.toArray[k]? = some ok := by simpa using hok
  rw [hokA] at hgk
  have hsz : l.toArray.size = l.length := by simp
  have hkl : k < l.length := by rw [← hsz]; exact hks
  have hdk : dstsOk a0.tmps.size (l.take k) = true := hdst
  have hall : ∀ V : World, Below W.heap.size W V → AllIn P l.toArray (fun w' => ∃ x : Past V, w' = x.w) af (l.take k) a0 := fun V hV => allIn_of hdk (hwalk V hV)
  have hA0 := hall W (Below.refl _ _)
  have hget : ∀ i, i < k → (l.take k)[i]? = l[i]? := fun i hi => by rw [List.getElem?_take]; simp [hi]
  have hafs : ∀ t, (∀ j o, j < k → l[j]? = some o → o.dst ≠ some t) → slotOf af t = slotOf a0 t := fun t ht => hA0.keep.2.2 t (fun o ho => by
    obtain ⟨j, hj⟩ := List.getElem?_of_mem ho
    rw [List.getElem?_take] at hj
    split at hj
    · exact ht j o (by assumption) hj
    · cases hj)
  have hback' : ∀ i o, l[i]? = some o → ∀ e ∈ o.after, Region.binds .any e = true → e.on < i := by
    intro i o hi e he hb
    have hil : i < l.length := (List.getElem?_eq_some_iff.1 hi).1
    have h1 := hback i (by rw [hsz]; exact hil)
    have hi' : l.toArray[i]? = some o := by simpa using hi
    rw [hi'] at h1
    have h2 := Array.all_eq_true_iff_forall_mem.1 h1 e he
    simpa [hb] using h2
  have hdep' : ∀ i o j oj d, i < k → l[i]? = some o → j < k → l[j]? = some oj → oj.dst = some d → d ∈ o.looksAt l.toArray → j < i ∧ waitsB1 .any l.toArray i j = true := by
    intro i o j oj d hi ho hj hoj hd hmem
    have h1 := hdep i hi j (by omega)
    have ho' : l.toArray[i]? = some o := by simpa using ho
    have hoj' : l.toArray[j]? = some oj := by simpa using hoj
    rw [ho', hoj'] at h1
    simp only [hd] at h1
    have hc : (o.looksAt l.toArray).contains d = true := by simpa using hmem
    rw [hc] at h1
    simpa using h1
  have dlt : ∀ i o, i < k → l[i]? = some o → ∃ d, o.dst = some d ∧ d < a0.tmps.size := fun i o hi ho => dsts_lt _ _ i o hdk (by rw [hget i (by omega)]; exact ho)
  have dne : ∀ i j o oj t, i < k → j < k → l[i]? = some o → l[j]? = some oj → i ≠ j → oj.dst = some t → o.dst ≠ some t := fun i j o oj t hi hj ho hoj hne hd => dsts_ne _ _ j i oj o t hdk (by rw [hget j (by omega)]; exact hoj) (by rw [hget i (by omega)]; exact ho) (Ne.symm hne) hd
  have fin : ∀ (listed : Array Bool) (a : Act) (w : World), Mid0 P l.toArray k a0 af W listed a w → (∀ i, i < k → listed.getD i false = true) → ∀ fuel, unl listed = fuel → wpAny P .any l.toArray Q fuel listed a w := by
    intro listed a w m hdone fuel hu
    have hLH : listed = Array.replicate k true ++ Array.replicate (l.toArray.size - k) false := by
      apply Array.ext
      · simp [m.size]; omega
      · intro i h1 h2
        rcases Nat.lt_or_ge i k with h' | h
        rotate_left 1
        · have := m.tail i h (by rw [← m.size]; exact h1)
          rw [Array.getElem_append_right (by simp; omega)]
          simpa [h1] using this
        · have := hdone i h'
          rw [Array.getElem_append_left (by simp; omega)]
          simpa [h1] using this
    have hae : a = af := by
      have hs0 := hA0.keep
      refine act_ext ?_ ?_ ?_
      · rw [m.tsize, hs0.1]
      · rw [m.defers, hs0.2.1]
      · intro t
        by_cases hex : ∃ j o, j < k ∧ l[j]? = some o ∧ o.dst = some t
        · obtain ⟨j, o, hj, ho, hd⟩ := hex
          exact m.put j o t hj (by simpa using ho) hd (hdone j hj)
        · rw [m.same t (fun j o hj ho _ hd => hex ⟨j, o, hj, by simpa using ho, hd⟩), hafs t (fun j o hj ho hd => hex ⟨j, o, hj, ho, hd⟩)]
    have hfu : fuel = (l.drop k).length := by
      rw [← hu, hLH, unl_done]
      simp
    rw [hfu, hae, show (l.drop k).length = (l.drop (k + 1)).length + 1 by simp; omega, hLH]
    refine ⟨fun h0 => (by rw [hrdy] at h0; cases h0), fun i hi => ?_⟩
    rw [hrdy] at hi
    obtain rfl : i = k := by simpa using hi
    unfold wpOp
    rw [hokA]
    simp only
    rw [if_pos (by unfold Region.wanted; rw [Option.isNone_iff_eq_none.1 hgk])]
    refine .inl (Oper.wp_mono (fun a' w' hq => ?_) (htail w m.ahd))
    refine wpAny_of_quiet (C := fun w3 => ∃ x : Past w', w3 = x.w) (Q := fun a' => ∀ x : Past w', Q .normal a' x.w) (fun a'' w'' hx h => by obtain ⟨x, rfl⟩ := hx; exact h x) _ _ _ _ ⟨⟨w', Below.refl _ _⟩, rfl⟩ ?_
    refine wpAnyQ_lex (md := .any) hsel (l.drop (i + 1)) (i + 1) _ a' (fun j => by simp [List.getElem?_drop]) ?_ hq
    have : (l.drop (i + 1)).length = l.toArray.size - (i + 1) := by simp
    rw [this]
    exact hlex
  have main : ∀ (fuel : Nat) (listed : Array Bool) (a : Act) (w : World), Mid0 P l.toArray k a0 af W listed a w → unl listed = fuel → wpAny P .any l.toArray Q fuel listed a w := by
    intro fuel
    induction fuel with
    | zero =>
      intro listed a w m hu
      by_cases hdone : ∀ i, i < k → listed.getD i false = true
      · exact fin listed a w m hdone _ hu
      · obtain ⟨i, hi, _, hun⟩ := first_no' listed k hdone
        have := unl_set (listed := listed) (i := i) (by rw [m.size]; omega) (by rw [getD_tf (by rw [m.size]; omega)]; exact hun)
        omega
    | succ fuel ih =>
      intro listed a w m hu
      by_cases hdone : ∀ i, i < k → listed.getD i false = true
      · exact fin listed a w m hdone _ hu
      · obtain ⟨i0, hi0, hpre, hun0⟩ := first_no' listed k hdone
        refine ⟨fun h0 => ?_, fun i hi => ?_⟩
        · have hr : i0 ∈ Region.ready .any l.toArray listed := by
            rw [mem_ready]
            refine ⟨by rw [getD_tf (by rw [m.size]; omega)]; exact hun0, l[i0]'(by omega), by simp, fun e he hb => hpre _ ?_⟩
            exact hback' i0 _ (by simp) e he hb
          rw [h0] at hr
          cases hr
        · have hi' := hi
          obtain ⟨hun, o, ho, hw⟩ := mem_ready.1 hi
          have hil : i < l.length := by
            have := (Array.getElem?_eq_some_iff.1 ho).1
            simpa using this
          have hol : l[i]? = some o := by simpa using ho
          have hun' : unl (listed.setIfInBounds i true) = fuel := by
            have := unl_set (listed := listed) (i := i) (by rw [m.size]; omega) hun
            omega
          have hik : i < k := by
            rcases Nat.lt_or_ge i k with h | h
            rotate_left 1
            · have h1 := (htl i (by omega)).resolve_left (by omega)
              have h2 : (coverB l.toArray l.toArray.size (depsB l.toArray i (List.replicate l.toArray.size false))).getD i0 false = true := by
                have hlen := cover_length (ops := l.toArray) l.toArray.size (depsB l.toArray i (List.replicate l.toArray.size false))
                rw [deps_length, List.length_replicate] at hlen
                have hm : (coverB l.toArray l.toArray.size (depsB l.toArray i (List.replicate l.toArray.size false)))[i0]'(by rw [hlen, hsz]; omega) ∈ (coverB l.toArray l.toArray.size (depsB l.toArray i (List.replicate l.toArray.size false))).take k :=
                  List.mem_take_iff_getElem.2 ⟨i0, by rw [hlen, hsz]; omega, rfl⟩
                have := h1 _ hm
                rw [List.getD_eq_getElem?_getD, List.getElem?_eq_getElem (by rw [hlen, hsz]; omega)]
                exact this
              have h3 := cover_listed (ops := l.toArray) m.closed l.toArray.size _ (fun j hj => ?_) i0 h2
              · rw [hun0] at h3
                cases h3
              · unfold depsB at hj
                rw [ho] at hj
                refine deps_listed _ _ (fun e he hb => hw e (by simpa using he) hb) (fun q hq => ?_) j hj
                rw [List.getD_eq_getElem?_getD, List.getElem?_replicate] at hq
                split at hq <;> cases hq
            · exact h
          have hclosed : ∀ j oj, l.toArray[j]? = some oj → (listed.setIfInBounds i true).getD j false = true → ∀ e ∈ oj.after, Region.binds .any e = true → (listed.setIfInBounds i true).getD e.on false = true := by
            intro j oj hj hl e he hb
            by_cases hji : i = j
            · subst hji
              rw [ho] at hj
              cases hj
              exact getD_set_true (hw e he hb)
            · rw [getD_set_ne false hji] at hl
              exact getD_set_true (m.closed j oj hj hl e he hb)
          have htail' : ∀ t, k ≤ t → t < l.toArray.size → (listed.setIfInBounds i true).getD t true = false := fun t ht ht' => by rw [getD_set_ne true (by omega)]; exact m.tail t ht ht'
          obtain ⟨d, hod, hdlt⟩ := dlt i o hik hol
          have hlook : ∀ t ∈ o.looksAt l.toArray, slotOf a t = slotOf (accum af ((l.take k).take i) a0) t := by
            intro t ht
            rw [accum_slot _ _ _ (dstsOk_take _ _ _ hdk)]
            by_cases hex : ∃ j oj, j < k ∧ l[j]? = some oj ∧ oj.dst = some t
            · obtain ⟨j, oj, hj, hoj, hdt⟩ := hex
              obtain ⟨hji, hwt⟩ := hdep' i o j oj t hik hol hj hoj hdt ht
              obtain ⟨e, he, hb, heo⟩ := waitsB1_spec ho hwt
              have hlj := hw e he hb
              rw [heo] at hlj
              rw [m.put j oj t (by omega) (by simpa using hoj) hdt hlj, if_pos]
              rw [List.any_eq_true]
              refine ⟨oj, ?_, by simp [hdt]⟩
              refine List.mem_of_getElem? (i := j) ?_
              rw [List.getElem?_take, List.getElem?_take]
              simp only [hji, show j < k by omega, if_true, hoj]
            · rw [m.same t (fun j oj hj hoj _ hdt => hex ⟨j, oj, by omega, by simpa using hoj, hdt⟩), if_neg]
              intro hany
              rw [List.any_eq_true] at hany
              obtain ⟨oj, hmem, hdt⟩ := hany
              obtain ⟨j, hj⟩ := List.getElem?_of_mem (List.mem_of_mem_take hmem)
              rw [List.getElem?_take] at hj
              split at hj
              · exact hex ⟨j, oj, by omega, hj, by simpa using hdt⟩
              · cases hj
          have hy := (hall w m.ahd).get (i := i) (o := o) (by rw [List.getElem?_take]; simp [hik, hol])
          have he : execOp a.eval o = execOp (accum af ((l.take k).take i) a0).eval o := execOp_congr o (fun cs b => Region.noSelect_spec hsel i o cs b ho) (fun x hx => by
            cases x with
            | tmp t => exact hlook t (List.mem_append_left _ (List.mem_filterMap.2 ⟨.tmp t, by simpa using hx, rfl⟩))
            | _ => rfl)
          have hy' := hy.of_same he (wanted_congr hlook)
          refine wpOp_of_qOp (C := fun w' => ∃ x : Past w, w' = x.w) ⟨⟨w, Below.refl _ _⟩, rfl⟩ (fun a' w' hx ha => ?_) (hy'.qOp ho (K := fun a' => a' = a.put o.dst (leftBy af o)) rfl)
          obtain ⟨x, rfl⟩ := hx
          subst ha
          refine ih _ _ _ ⟨by simp [m.size], hclosed, htail', m.ahd.trans (x.far.mono m.ahd.size), by rw [defers_put]; exact m.defers, by rw [size_put]; exact m.tsize, ?_, ?_⟩ hun'
          · intro j oj t hj hoj hdt hl
            by_cases hji : i = j
            · subst hji
              rw [ho] at hoj
              cases hoj
              have : leftBy af o = slotOf af t := by simp [leftBy, hdt]
              rw [hdt, this]
              rw [hod] at hdt
              cases hdt
              exact slot_put_same _ (by rw [m.tsize]; exact hdlt)
            · rw [getD_set_ne false hji] at hl
              rw [slot_put_ne _ (dne i j o oj t hik (by omega) hol (by simpa using hoj) hji hdt)]
              exact m.put j oj t hj hoj hdt hl
          · intro t hno
            have h1 : (listed.setIfInBounds i true).getD i false = true := by
              have : i < listed.size := by rw [m.size]; omega
              simp [this]
            rw [slot_put_ne _ (hno i o hik ho h1)]
            exact m.same t (fun j oj hj hoj hl => hno j oj hj hoj (getD_set_true hl))
  refine wp_region_any hm (main _ _ a0 _ ?_ (by rw [unl_rep]))
  refine ⟨by simp, ?_, ?_, (Below.refl _ _).drew, rfl, rfl, ?_, ?_⟩
  · intro j oj hj h
    rw [getD_replicate_false] at h
    cases h
  · intro t _ ht
    have : (Array.replicate l.toArray.size false).getD t true = false := by simp at ht; simp [ht]
    exact this
  · intro j o t _ _ _ h
    rw [getD_replicate_false] at h
    cases h
  · intro t _; rfl
end
end Go.Proofs.Ytlklnaebdnahcaa
namespace Go.Proofs.Ytlklnaebdnahcaa
open Go.RowKit Nw
def Nw.Bl.v (b : Nw.Bl) : Value := .agg #[.int .i64 b.s, .int .i64 b.i, .int .i64 b.b, .int .i64 b.a]
def Nw.En.v (e : Nw.En) : Value := .agg #[.int .i64 e.i, .int .i64 e.b]
def Nw.Ac.vals (a : Nw.Ac) : List Value := [.int .i64 a.bl.s, .int .i64 a.bl.i, .int .i64 a.bl.b, .int .i64 a.bl.a, .bool a.op, .bool a.dn]
def Nw.Sn.vals (s : Nw.Sn) : List Value := .int .i64 s.l :: s.p.cells
def kI (x : Int) : Value := .int .i64 x
def kP (x : Int × Int) : Value := .agg #[.int .i64 x.1, .int .i64 x.2]
def vB (x : Bool) : Value := .bool x
def flatA (l : List Nw.Ac) : List Value := l.flatMap Nw.Ac.vals
def flatS (l : List Nw.Sn) : List Value := l.flatMap Nw.Sn.vals
structure Mem where
  bA : Option Addr
  bc : Nat
  cA : Option Addr
  cc : Nat
  ct : List Ct
  g : Nat → Nat
  lA : Nat → Option Addr
  lc : Nat → Nat
  fA : Option Addr
  fc : Nat
  vb : Option Nat
  vc : Nat
  sb : Option Nat
  po : Nat
  us : Nat
  aA : Option Addr
  ac : Nat
  gs : Nat
  gc : Nat
  sc : Nat
  sA : Nat → Option Addr
  sq : Nat → Nat
  pb : Option Nat
  pc : Nat
  pd : Nat
def netC (M : Mem) (D : Dl) (S : St) : List Value :=
  .bool true :: .int .i64 D.day :: .slice M.bA D.bs.length M.bc :: .int .i64 D.fee :: .slice M.cA M.ct.length M.cc :: .int .i64 D.cr ::
  .int .i64 D.ev :: .int .i64 D.sl :: .int .i64 D.dr :: .int .i64 D.bk :: .int .i64 S.now :: .pointer (some ⟨M.g 0, 0, none⟩) ::
  .pointer (some ⟨M.g 1, 0, none⟩) :: .pointer (some ⟨M.g 2, 0, none⟩) :: .pointer (some ⟨M.g 3, 0, none⟩) :: .pointer (some ⟨M.g 4, 0, none⟩) :: .pointer (some ⟨M.g 5, 0, none⟩) :: .slice M.fA S.fl.length M.fc ::
  .int .i64 (S.pg.getD 0 0) :: .int .i64 (S.pg.getD 1 0) :: .int .i64 (S.pg.getD 2 0) :: .int .i64 (S.pg.getD 3 0) :: .int .i64 (S.pg.getD 4 0) :: .int .i64 (S.pg.getD 5 0) ::
  .int .i64 (S.pg.getD 6 0) :: .int .i64 (S.pg.getD 7 0) :: .int .i64 (S.pg.getD 8 0) :: .int .i64 (S.pg.getD 9 0) :: .int .i64 (S.pg.getD 10 0) :: .int .i64 (S.pg.getD 11 0) ::
  .int .i64 (S.pg.getD 12 0) :: .int .i64 (S.pg.getD 13 0) :: .int .i64 (S.pg.getD 14 0) :: .int .i64 (S.pg.getD 15 0) :: .bool S.inn :: .int .i64 S.flow ::
  .map M.vb :: .int .i64 S.vph :: .int .i64 S.vp0 :: .int .i64 S.vp1 :: .int .i64 S.vss :: .map (some M.vc) ::
  .map M.sb :: .int .i64 S.sph :: .int .i64 S.sss :: .int .i64 S.sp0 :: .int .i64 S.sp1 :: .bool S.gone ::
  .int .i64 S.si :: .int .i64 S.sk :: .int .i64 S.opn :: .int .i64 S.tks :: .pointer (some ⟨M.po, 0, none⟩) :: .map (some M.us) ::
  .slice M.aA S.ac.length M.ac :: .pointer (some ⟨M.gs, 0, none⟩) :: .map M.pb :: .map (some M.pc) :: .map (some M.pd) :: []
def BookAt (w : World) (b : Option Nat) (l : List (Int × Nw.Bl)) : Prop := match b with
  | none => l = []
  | some b => MpAt kI Nw.Bl.v w b l
def LikeAt (w : World) (b : Nat) (l : List (Int × Bool)) : Prop := ∃ l', MpAt kI vB w b l' ∧ ∀ k, (mget k l').getD false = (mget k l).getD false
structure NetAt (w : World) (B n : Nat) (col : Nat → Nat) (base : Nat) (D : Dl) (M : Mem) (S : St) : Prop where
  blk : Blk w n 81 (netC M D S)
  bB : B ≤ n
  c0 : col n = base
  ln : ∀ i, i < 6 → LineAt w B (M.g i) (M.lA i) (M.lc i) (Nw.ln S i)
  lc : ∀ i, i < 6 → col (M.g i) = base + 1 + i ∧ ∀ k, OwnB (M.lA i) k → col k = base + 1 + i
  ll : S.L.length = 6
  fl : w.ownsRow B 95 9 (.slice M.fA S.fl.length M.fc) S.fl.length (flatS S.fl)
  fc : ∀ k, OwnB M.fA k → col k = base + 7
  pg : S.pg.length = 16
  vb : BookAt w M.vb S.vb
  vbc : ∀ k, M.vb = some k → col k = base + 8
  vc : MpAt kI Nw.En.v w M.vc S.vc
  vcc : col M.vc = base + 9
  sb : BookAt w M.sb S.sb
  sbc : ∀ k, M.sb = some k → col k = base + 10
  po : PostAt w M.po S.po
  poc : col M.po = base + 11
  us : MpAt kP vB w M.us S.us
  usc : col M.us = base + 12
  ac : w.ownsRow B 100 6 (.slice M.aA S.ac.length M.ac) S.ac.length (flatA S.ac)
  acc : ∀ k, OwnB M.aA k → col k = base + 13
  si : SiteAt w B M.gs M.gc M.sc M.sA M.sq S.cs D.dr D.bk S.sN
  sic : ∀ k, SOwn M.gs M.gc M.sA S.cs.length k → col k = base + 14
  pb : BookAt w M.pb S.pb
  pbc : ∀ k, M.pb = some k → col k = base + 15
  pc : MpAt kI kI w M.pc S.pc
  pcc : col M.pc = base + 16
  pd : LikeAt w M.pd S.pd
  pdc : col M.pd = base + 17
  de : BandsAt w M.bA D.bs ∧ CtsAt w M.cA M.ct
  dec : ∀ k, (OwnB M.bA k ∨ OwnB M.cA k ∨ ∃ c ∈ M.ct, OwnB c.A k) → k < w.heap.size ∧ col k = base + 18
  cap : D.bs.length ≤ M.bc ∧ M.bc ≤ 9223372036854775807 ∧ M.ct.length ≤ M.cc ∧ M.cc ≤ 9223372036854775807
  cn : M.ct.map (fun c => (⟨c.pt, c.ps⟩ : Cn)) = D.cn
def NetOwn (col : Nat → Nat) (base k : Nat) : Prop := base ≤ col k ∧ col k < base + 19
def NetTo (w : World) (B n : Nat) (col : Nat → Nat) (base : Nat) (D : Dl) (S : St) (w' : World) : Prop :=
  ∃ col' M, (∀ k, k < w.heap.size → col' k = col k) ∧ NetAt w' B n col' base D M S ∧ Touch (NetOwn col base) w w'
structure OkN (K : Int) (D : Dl) (S : St) : Prop where
  k : 0 ≤ K ∧ K ≤ 4611686018427387904
  ln : ∀ i, i < 6 → Lx.ok K (Nw.ln S i)
  fl : ∀ s ∈ S.fl, 0 ≤ s.l ∧ s.l < 6 ∧ s.p.ak ≤ 9223372036854775807
section
variable {w w' : World} {B n base : Nat} {col : Nat → Nat} {D : Dl} {M : Mem} {S : St}
theorem BookAt.touch {T : Nat → Prop} {b : Option Nat} {l : List (Int × Nw.Bl)} (h : BookAt w b l) (ht : Touch T w w') (hn : ∀ k, b = some k → ¬ T k) : BookAt w' b l := by
  cases b with
  | none => exact h
  | some b => exact MpAt.touch h ht (hn b rfl)
theorem LikeAt.touch {T : Nat → Prop} {b : Nat} {l : List (Int × Bool)} (h : LikeAt w b l) (ht : Touch T w w') (hn : ¬ T b) : LikeAt w' b l := by
  obtain ⟨l', h1, h2⟩ := h
  exact ⟨l', h1.touch ht hn, h2⟩
theorem BandsAt.touch {T : Nat → Prop} {A : Option Addr} {bs : List Bd} (h : BandsAt w A bs) (ht : Touch T w w') (hn : ∀ k, OwnB A k → ¬ T k) : BandsAt w' A bs := by
  intro i hi
  obtain ⟨ad, e, hlt, c0, c1, c2⟩ := h i hi
  have hbl : (ad.add (i * 3)).block = ad.block := block_of_add _ _
  have hno := hn ad.block ⟨ad, e, rfl⟩
  refine ⟨ad, e, Nat.lt_of_lt_of_le hlt ht.size, ?_, ?_, ?_⟩
  · rw [ht.cell (by rw [hbl]; exact hlt) (by rw [hbl]; exact hno)]; exact c0
  · rw [ht.cell (p := ⟨_, _, none⟩) (by rw [hbl]; exact hlt) (by show ¬ T (ad.add (i * 3)).block; rw [hbl]; exact hno)]; exact c1
  · rw [ht.cell (p := ⟨_, _, none⟩) (by rw [hbl]; exact hlt) (by show ¬ T (ad.add (i * 3)).block; rw [hbl]; exact hno)]; exact c2
theorem PadsAt.touch {T : Nat → Prop} {A : Option Addr} {ps : List Int} (h : PadsAt w A ps) (ht : Touch T w w') (hn : ∀ k, OwnB A k → ¬ T k) : PadsAt w' A ps := by
  intro i hi
  obtain ⟨ad, e, hlt, c0⟩ := h i hi
  have hbl : (ad.add i).block = ad.block := block_of_add _ _
  exact ⟨ad, e, Nat.lt_of_lt_of_le hlt ht.size, by rw [ht.cell (by rw [hbl]; exact hlt) (by rw [hbl]; exact hn ad.block ⟨ad, e, rfl⟩)]; exact c0⟩
theorem CtsAt.touch {T : Nat → Prop} {C : Option Addr} {cs : List Ct} (h : CtsAt w C cs) (ht : Touch T w w') (hn : ∀ k, OwnB C k → ¬ T k) (hp : ∀ c ∈ cs, ∀ k, OwnB c.A k → ¬ T k) : CtsAt w' C cs := by
  intro i hi
  obtain ⟨ad, e, hlt, c0, c1, ha⟩ := h i hi
  have hbl : (ad.add (i * 2)).block = ad.block := block_of_add _ _
  have hno := hn ad.block ⟨ad, e, rfl⟩
  have hm : cs.getD i default ∈ cs := by rw [List.getD_eq_getElem?_getD, List.getElem?_eq_getElem hi]; exact List.getElem_mem hi
  refine ⟨ad, e, Nat.lt_of_lt_of_le hlt ht.size, ?_, ?_, ⟨ha.1.touch ht (hp _ hm), ha.2⟩⟩
  · rw [ht.cell (by rw [hbl]; exact hlt) (by rw [hbl]; exact hno)]; exact c0
  · rw [ht.cell (p := ⟨_, _, none⟩) (by rw [hbl]; exact hlt) (by show ¬ T (ad.add (i * 2)).block; rw [hbl]; exact hno)]; exact c1
theorem NetAt.lt (h : NetAt w B n col base D M S) : n < w.heap.size := h.blk.lt
theorem NetAt.touch {T : Nat → Prop} (h : NetAt w B n col base D M S) (ht : Touch T w w') (hn : ∀ k, NetOwn col base k → ¬ T k) : NetAt w' B n col base D M S where
  blk := h.blk.touch ht (hn n ⟨by rw [h.c0]; omega, by rw [h.c0]; omega⟩)
  bB := h.bB
  c0 := h.c0
  ln := fun i hi => (h.ln i hi).touch ht (hn _ ⟨by rw [(h.lc i hi).1]; omega, by rw [(h.lc i hi).1]; omega⟩) (fun k hk => hn k ⟨by rw [(h.lc i hi).2 k hk]; omega, by rw [(h.lc i hi).2 k hk]; omega⟩)
  lc := h.lc
  ll := h.ll
  fl := rowE_keep h.fl ht (fun k hk => hn k ⟨by rw [h.fc k hk]; omega, by rw [h.fc k hk]; omega⟩)
  fc := h.fc
  pg := h.pg
  vb := h.vb.touch ht (fun k hk => hn k ⟨by rw [h.vbc k hk]; omega, by rw [h.vbc k hk]; omega⟩)
  vbc := h.vbc
  vc := h.vc.touch ht (hn _ ⟨by rw [h.vcc]; omega, by rw [h.vcc]; omega⟩)
  vcc := h.vcc
  sb := h.sb.touch ht (fun k hk => hn k ⟨by rw [h.sbc k hk]; omega, by rw [h.sbc k hk]; omega⟩)
  sbc := h.sbc
  po := Blk.touch h.po ht (hn _ ⟨by rw [h.poc]; omega, by rw [h.poc]; omega⟩)
  poc := h.poc
  us := h.us.touch ht (hn _ ⟨by rw [h.usc]; omega, by rw [h.usc]; omega⟩)
  usc := h.usc
  ac := rowE_keep h.ac ht (fun k hk => hn k ⟨by rw [h.acc k hk]; omega, by rw [h.acc k hk]; omega⟩)
  acc := h.acc
  si := h.si.touch ht (fun k hk => hn k ⟨by rw [h.sic k hk]; omega, by rw [h.sic k hk]; omega⟩)
  sic := h.sic
  pb := h.pb.touch ht (fun k hk => hn k ⟨by rw [h.pbc k hk]; omega, by rw [h.pbc k hk]; omega⟩)
  pbc := h.pbc
  pc := h.pc.touch ht (hn _ ⟨by rw [h.pcc]; omega, by rw [h.pcc]; omega⟩)
  pcc := h.pcc
  pd := h.pd.touch ht (hn _ ⟨by rw [h.pdc]; omega, by rw [h.pdc]; omega⟩)
  pdc := h.pdc
  de := ⟨h.de.1.touch ht (fun k hk => hn k ⟨by rw [(h.dec k (.inl hk)).2]; omega, by rw [(h.dec k (.inl hk)).2]; omega⟩), h.de.2.touch ht (fun k hk => hn k ⟨by rw [(h.dec k (.inr (.inl hk))).2]; omega, by rw [(h.dec k (.inr (.inl hk))).2]; omega⟩) (fun c hc k hk => hn k ⟨by rw [(h.dec k (.inr (.inr ⟨c, hc, hk⟩))).2]; omega, by rw [(h.dec k (.inr (.inr ⟨c, hc, hk⟩))).2]; omega⟩)⟩
  dec := fun k hk => ⟨Nat.lt_of_lt_of_le (h.dec k hk).1 ht.size, (h.dec k hk).2⟩
  cap := h.cap
  cn := h.cn
theorem NetAt.below (h : NetAt w B n col base D M S) (hb : Below w.heap.size w w') : NetAt w' B n col base D M S := h.touch (Touch.of_below (S := fun _ => False) hb) (fun _ _ e => e)
theorem BookAt.lt {b : Option Nat} {l : List (Int × Nw.Bl)} (h : BookAt w b l) {k : Nat} (hk : b = some k) : k < w.heap.size := by
  subst hk
  exact MpAt.lt h
theorem LikeAt.lt {b : Nat} {l : List (Int × Bool)} (h : LikeAt w b l) : b < w.heap.size := by
  obtain ⟨l', h1, _⟩ := h
  exact h1.lt
theorem SiteAt.own_lt {gs gc cc : Nat} {A : Nat → Option Addr} {q : Nat → Nat} {cs : List Sx.Cl} {Dr Bk N : Int} (h : SiteAt w B gs gc cc A q cs Dr Bk N) {k : Nat} (hk : SOwn gs gc A cs.length k) : k < w.heap.size := by
  rcases hk with rfl | rfl | ⟨i, hi, hk⟩
  · exact h.s.lt
  · exact h.a.lt
  · exact (rowE_lt (h.r i hi) hk).2
theorem NetAt.put (h : NetAt w B n col base D M S) {col' : Nat → Nat} (hc : ∀ k, k < w.heap.size → col' k = col k) {S' : St} (e1 : S'.L = S.L) (e2 : S'.fl = S.fl) (e3 : S'.pg.length = S.pg.length) (e4 : S'.vb = S.vb) (e5 : S'.vc = S.vc) (e6 : S'.sb = S.sb) (e7 : S'.po = S.po) (e8 : S'.us = S.us) (e9 : S'.ac = S.ac) (e10 : S'.cs = S.cs) (e11 : S'.sN = S.sN) (e12 : S'.pb = S.pb) (e13 : S'.pc = S.pc) (e14 : S'.pd = S.pd)
    (ht : Touch (fun k => col k = base ∨ col k = base + 0) w w') (hb : Blk w' n 81 (netC (M) D (S'))) : NetAt w' B n col' base D (M) (S') := by
  have hn : ∀ d, d ≠ 0 → d ≠ 0 → ∀ k, col k = base + d → ¬ (col k = base ∨ col k = base + 0) := fun d _ _ k e => by omega
  exact {
    blk := hb
    bB := h.bB
    c0 := (hc n h.blk.lt).trans h.c0
    ln := fun i hi => by have e : Nw.ln S' i = Nw.ln S i := by { unfold Nw.ln; rw [e1] }; rw [e]; exact (h.ln i hi).touch ht (hn (1 + i) (by omega) (by omega) _ (by rw [(h.lc i hi).1]; omega)) (fun k hk => hn (1 + i) (by omega) (by omega) k (by rw [(h.lc i hi).2 k hk]; omega))
    lc := fun i hi => ⟨(hc _ (h.ln i hi).blk.lt).trans (h.lc i hi).1, fun k hk => (hc k (own_lt (h.ln i hi).own hk).2).trans ((h.lc i hi).2 k hk)⟩
    ll := by rw [e1]; exact h.ll
    fl := by rw [e2]; exact rowE_keep h.fl ht (fun k hk => hn 7 (by omega) (by omega) k (h.fc k hk))
    fc := fun k hk => (hc k (rowE_lt h.fl hk).2).trans (h.fc k hk)
    pg := by rw [e3]; exact h.pg
    vb := by rw [e4]; exact h.vb.touch ht (fun k hk => hn 8 (by omega) (by omega) k (h.vbc k hk))
    vbc := fun k hk => (hc k (h.vb.lt hk)).trans (h.vbc k hk)
    vc := by rw [e5]; exact h.vc.touch ht (hn 9 (by omega) (by omega) _ h.vcc)
    vcc := (hc _ h.vc.lt).trans h.vcc
    sb := by rw [e6]; exact h.sb.touch ht (fun k hk => hn 10 (by omega) (by omega) k (h.sbc k hk))
    sbc := fun k hk => (hc k (h.sb.lt hk)).trans (h.sbc k hk)
    po := by rw [e7]; exact Blk.touch h.po ht (hn 11 (by omega) (by omega) _ h.poc)
    poc := (hc _ (Blk.lt h.po)).trans h.poc
    us := by rw [e8]; exact h.us.touch ht (hn 12 (by omega) (by omega) _ h.usc)
    usc := (hc _ h.us.lt).trans h.usc
    ac := by rw [e9]; exact rowE_keep h.ac ht (fun k hk => hn 13 (by omega) (by omega) k (h.acc k hk))
    acc := fun k hk => (hc k (rowE_lt h.ac hk).2).trans (h.acc k hk)
    si := by rw [e10, e11]; exact h.si.touch ht (fun k hk => hn 14 (by omega) (by omega) k (h.sic k hk))
    sic := by rw [e10]; exact fun k hk => (hc k (h.si.own_lt hk)).trans (h.sic k hk)
    pb := by rw [e12]; exact h.pb.touch ht (fun k hk => hn 15 (by omega) (by omega) k (h.pbc k hk))
    pbc := fun k hk => (hc k (h.pb.lt hk)).trans (h.pbc k hk)
    pc := by rw [e13]; exact h.pc.touch ht (hn 16 (by omega) (by omega) _ h.pcc)
    pcc := (hc _ h.pc.lt).trans h.pcc
    pd := by rw [e14]; exact h.pd.touch ht (hn 17 (by omega) (by omega) _ h.pdc)
    pdc := (hc _ h.pd.lt).trans h.pdc
    de := ⟨h.de.1.touch ht (fun k hk => hn 18 (by omega) (by omega) k (h.dec k (.inl hk)).2), h.de.2.touch ht (fun k hk => hn 18 (by omega) (by omega) k (h.dec k (.inr (.inl hk))).2) (fun c hc k hk => hn 18 (by omega) (by omega) k (h.dec k (.inr (.inr ⟨c, hc, hk⟩))).2)⟩
    dec := fun k hk => ⟨Nat.lt_of_lt_of_le (h.dec k hk).1 ht.size, (hc k (h.dec k hk).1).trans (h.dec k hk).2⟩
    cap := h.cap
    cn := h.cn }
theorem NetAt.setLn (h : NetAt w B n col base D M S) {col' : Nat → Nat} (hc : ∀ k, k < w.heap.size → col' k = col k) {i0 : Nat} (hi0 : i0 < 6) {l' : Ln} {A' : Option Addr} {c' : Nat} (hl : LineAt w' B (M.g i0) A' c' l') (hA : ∀ k, OwnB A' k → col' k = base + 1 + i0)
    (ht : Touch (fun k => col k = base ∨ col k = base + (1 + i0)) w w') (hb : Blk w' n 81 (netC ({ M with lA := fun j => if j = i0 then A' else M.lA j, lc := fun j => if j = i0 then c' else M.lc j }) D ({ S with L := S.L.set i0 l' }))) : NetAt w' B n col' base D ({ M with lA := fun j => if j = i0 then A' else M.lA j, lc := fun j => if j = i0 then c' else M.lc j }) ({ S with L := S.L.set i0 l' }) := by
  have hn : ∀ d, d ≠ 0 → d ≠ (1 + i0) → ∀ k, col k = base + d → ¬ (col k = base ∨ col k = base + (1 + i0)) := fun d _ _ k e => by omega
  exact {
    blk := hb
    bB := h.bB
    c0 := (hc n h.blk.lt).trans h.c0
    ln := fun i hi => by
      have hlt : i < S.L.length := by rw [h.ll]; exact hi
      by_cases e : i = i0
      · subst e
        have e1 : Nw.ln { S with L := S.L.set i l' } i = l' := by unfold Nw.ln; rw [List.getD_eq_getElem?_getD, List.getElem?_set_self hlt]; rfl
        rw [e1]
        simpa using hl
      · have e1 : Nw.ln { S with L := S.L.set i0 l' } i = Nw.ln S i := by unfold Nw.ln; rw [List.getD_eq_getElem?_getD, List.getD_eq_getElem?_getD, List.getElem?_set_ne (Ne.symm e)]
        rw [e1]
        simp only [e, if_false]
        exact (h.ln i hi).touch ht (hn (1 + i) (by omega) (by omega) _ (by rw [(h.lc i hi).1]; omega)) (fun k hk => hn (1 + i) (by omega) (by omega) k (by rw [(h.lc i hi).2 k hk]; omega))
    lc := fun i hi => by
      refine ⟨(hc _ (h.ln i hi).blk.lt).trans (h.lc i hi).1, fun k hk => ?_⟩
      by_cases e : i = i0
      · subst e
        simp only [if_true] at hk
        exact hA k hk
      · simp only [e, if_false] at hk
        exact (hc k (own_lt (h.ln i hi).own hk).2).trans ((h.lc i hi).2 k hk)
    ll := by rw [List.length_set]; exact h.ll
    fl := rowE_keep h.fl ht (fun k hk => hn 7 (by omega) (by omega) k (h.fc k hk))
    fc := fun k hk => (hc k (rowE_lt h.fl hk).2).trans (h.fc k hk)
    pg := h.pg
    vb := h.vb.touch ht (fun k hk => hn 8 (by omega) (by omega) k (h.vbc k hk))
    vbc := fun k hk => (hc k (h.vb.lt hk)).trans (h.vbc k hk)
    vc := h.vc.touch ht (hn 9 (by omega) (by omega) _ h.vcc)
    vcc := (hc _ h.vc.lt).trans h.vcc
    sb := h.sb.touch ht (fun k hk => hn 10 (by omega) (by omega) k (h.sbc k hk))
    sbc := fun k hk => (hc k (h.sb.lt hk)).trans (h.sbc k hk)
    po := Blk.touch h.po ht (hn 11 (by omega) (by omega) _ h.poc)
    poc := (hc _ (Blk.lt h.po)).trans h.poc
    us := h.us.touch ht (hn 12 (by omega) (by omega) _ h.usc)
    usc := (hc _ h.us.lt).trans h.usc
    ac := rowE_keep h.ac ht (fun k hk => hn 13 (by omega) (by omega) k (h.acc k hk))
    acc := fun k hk => (hc k (rowE_lt h.ac hk).2).trans (h.acc k hk)
    si := h.si.touch ht (fun k hk => hn 14 (by omega) (by omega) k (h.sic k hk))
    sic := fun k hk => (hc k (h.si.own_lt hk)).trans (h.sic k hk)
    pb := h.pb.touch ht (fun k hk => hn 15 (by omega) (by omega) k (h.pbc k hk))
    pbc := fun k hk => (hc k (h.pb.lt hk)).trans (h.pbc k hk)
    pc := h.pc.touch ht (hn 16 (by omega) (by omega) _ h.pcc)
    pcc := (hc _ h.pc.lt).trans h.pcc
    pd := h.pd.touch ht (hn 17 (by omega) (by omega) _ h.pdc)
    pdc := (hc _ h.pd.lt).trans h.pdc
    de := ⟨h.de.1.touch ht (fun k hk => hn 18 (by omega) (by omega) k (h.dec k (.inl hk)).2), h.de.2.touch ht (fun k hk => hn 18 (by omega) (by omega) k (h.dec k (.inr (.inl hk))).2) (fun c hc k hk => hn 18 (by omega) (by omega) k (h.dec k (.inr (.inr ⟨c, hc, hk⟩))).2)⟩
    dec := fun k hk => ⟨Nat.lt_of_lt_of_le (h.dec k hk).1 ht.size, (hc k (h.dec k hk).1).trans (h.dec k hk).2⟩
    cap := h.cap
    cn := h.cn }
theorem NetAt.setFl (h : NetAt w B n col base D M S) {col' : Nat → Nat} (hc : ∀ k, k < w.heap.size → col' k = col k) {fl' : List Sn} {A' : Option Addr} {c' : Nat} (hl : w'.ownsRow B 95 9 (.slice A' fl'.length c') fl'.length (flatS fl')) (hA : ∀ k, OwnB A' k → col' k = base + 7)
    (ht : Touch (fun k => col k = base ∨ col k = base + 7) w w') (hb : Blk w' n 81 (netC ({ M with fA := A', fc := c' }) D ({ S with fl := fl' }))) : NetAt w' B n col' base D ({ M with fA := A', fc := c' }) ({ S with fl := fl' }) := by
  have hn : ∀ d, d ≠ 0 → d ≠ 7 → ∀ k, col k = base + d → ¬ (col k = base ∨ col k = base + 7) := fun d _ _ k e => by omega
  exact {
    blk := hb
    bB := h.bB
    c0 := (hc n h.blk.lt).trans h.c0
    ln := fun i hi => (h.ln i hi).touch ht (hn (1 + i) (by omega) (by omega) _ (by rw [(h.lc i hi).1]; omega)) (fun k hk => hn (1 + i) (by omega) (by omega) k (by rw [(h.lc i hi).2 k hk]; omega))
    lc := fun i hi => ⟨(hc _ (h.ln i hi).blk.lt).trans (h.lc i hi).1, fun k hk => (hc k (own_lt (h.ln i hi).own hk).2).trans ((h.lc i hi).2 k hk)⟩
    ll := h.ll
    fl := hl
    fc := hA
    pg := h.pg
    vb := h.vb.touch ht (fun k hk => hn 8 (by omega) (by omega) k (h.vbc k hk))
    vbc := fun k hk => (hc k (h.vb.lt hk)).trans (h.vbc k hk)
    vc := h.vc.touch ht (hn 9 (by omega) (by omega) _ h.vcc)
    vcc := (hc _ h.vc.lt).trans h.vcc
    sb := h.sb.touch ht (fun k hk => hn 10 (by omega) (by omega) k (h.sbc k hk))
    sbc := fun k hk => (hc k (h.sb.lt hk)).trans (h.sbc k hk)
    po := Blk.touch h.po ht (hn 11 (by omega) (by omega) _ h.poc)
    poc := (hc _ (Blk.lt h.po)).trans h.poc
    us := h.us.touch ht (hn 12 (by omega) (by omega) _ h.usc)
    usc := (hc _ h.us.lt).trans h.usc
    ac := rowE_keep h.ac ht (fun k hk => hn 13 (by omega) (by omega) k (h.acc k hk))
    acc := fun k hk => (hc k (rowE_lt h.ac hk).2).trans (h.acc k hk)
    si := h.si.touch ht (fun k hk => hn 14 (by omega) (by omega) k (h.sic k hk))
    sic := fun k hk => (hc k (h.si.own_lt hk)).trans (h.sic k hk)
    pb := h.pb.touch ht (fun k hk => hn 15 (by omega) (by omega) k (h.pbc k hk))
    pbc := fun k hk => (hc k (h.pb.lt hk)).trans (h.pbc k hk)
    pc := h.pc.touch ht (hn 16 (by omega) (by omega) _ h.pcc)
    pcc := (hc _ h.pc.lt).trans h.pcc
    pd := h.pd.touch ht (hn 17 (by omega) (by omega) _ h.pdc)
    pdc := (hc _ h.pd.lt).trans h.pdc
    de := ⟨h.de.1.touch ht (fun k hk => hn 18 (by omega) (by omega) k (h.dec k (.inl hk)).2), h.de.2.touch ht (fun k hk => hn 18 (by omega) (by omega) k (h.dec k (.inr (.inl hk))).2) (fun c hc k hk => hn 18 (by omega) (by omega) k (h.dec k (.inr (.inr ⟨c, hc, hk⟩))).2)⟩
    dec := fun k hk => ⟨Nat.lt_of_lt_of_le (h.dec k hk).1 ht.size, (hc k (h.dec k hk).1).trans (h.dec k hk).2⟩
    cap := h.cap
    cn := h.cn }
theorem NetAt.setVb (h : NetAt w B n col base D M S) {col' : Nat → Nat} (hc : ∀ k, k < w.heap.size → col' k = col k) {l' : List (Int × Nw.Bl)} {b' : Option Nat} (hl : BookAt w' b' l') (hA : ∀ k, b' = some k → col' k = base + 8)
    (ht : Touch (fun k => col k = base ∨ col k = base + 8) w w') (hb : Blk w' n 81 (netC ({ M with vb := b' }) D ({ S with vb := l' }))) : NetAt w' B n col' base D ({ M with vb := b' }) ({ S with vb := l' }) := by
  have hn : ∀ d, d ≠ 0 → d ≠ 8 → ∀ k, col k = base + d → ¬ (col k = base ∨ col k = base + 8) := fun d _ _ k e => by omega
  exact {
    blk := hb
    bB := h.bB
    c0 := (hc n h.blk.lt).trans h.c0
    ln := fun i hi => (h.ln i hi).touch ht (hn (1 + i) (by omega) (by omega) _ (by rw [(h.lc i hi).1]; omega)) (fun k hk => hn (1 + i) (by omega) (by omega) k (by rw [(h.lc i hi).2 k hk]; omega))
    lc := fun i hi => ⟨(hc _ (h.ln i hi).blk.lt).trans (h.lc i hi).1, fun k hk => (hc k (own_lt (h.ln i hi).own hk).2).trans ((h.lc i hi).2 k hk)⟩
    ll := h.ll
    fl := rowE_keep h.fl ht (fun k hk => hn 7 (by omega) (by omega) k (h.fc k hk))
    fc := fun k hk => (hc k (rowE_lt h.fl hk).2).trans (h.fc k hk)
    pg := h.pg
    vb := hl
    vbc := hA
    vc := h.vc.touch ht (hn 9 (by omega) (by omega) _ h.vcc)
    vcc := (hc _ h.vc.lt).trans h.vcc
    sb := h.sb.touch ht (fun k hk => hn 10 (by omega) (by omega) k (h.sbc k hk))
    sbc := fun k hk => (hc k (h.sb.lt hk)).trans (h.sbc k hk)
    po := Blk.touch h.po ht (hn 11 (by omega) (by omega) _ h.poc)
    poc := (hc _ (Blk.lt h.po)).trans h.poc
    us := h.us.touch ht (hn 12 (by omega) (by omega) _ h.usc)
    usc := (hc _ h.us.lt).trans h.usc
    ac := rowE_keep h.ac ht (fun k hk => hn 13 (by omega) (by omega) k (h.acc k hk))
    acc := fun k hk => (hc k (rowE_lt h.ac hk).2).trans (h.acc k hk)
    si := h.si.touch ht (fun k hk => hn 14 (by omega) (by omega) k (h.sic k hk))
    sic := fun k hk => (hc k (h.si.own_lt hk)).trans (h.sic k hk)
    pb := h.pb.touch ht (fun k hk => hn 15 (by omega) (by omega) k (h.pbc k hk))
    pbc := fun k hk => (hc k (h.pb.lt hk)).trans (h.pbc k hk)
    pc := h.pc.touch ht (hn 16 (by omega) (by omega) _ h.pcc)
    pcc := (hc _ h.pc.lt).trans h.pcc
    pd := h.pd.touch ht (hn 17 (by omega) (by omega) _ h.pdc)
    pdc := (hc _ h.pd.lt).trans h.pdc
    de := ⟨h.de.1.touch ht (fun k hk => hn 18 (by omega) (by omega) k (h.dec k (.inl hk)).2), h.de.2.touch ht (fun k hk => hn 18 (by omega) (by omega) k (h.dec k (.inr (.inl hk))).2) (fun c hc k hk => hn 18 (by omega) (by omega) k (h.dec k (.inr (.inr ⟨c, hc, hk⟩))).2)⟩
    dec := fun k hk => ⟨Nat.lt_of_lt_of_le (h.dec k hk).1 ht.size, (hc k (h.dec k hk).1).trans (h.dec k hk).2⟩
    cap := h.cap
    cn := h.cn }
theorem NetAt.setSb (h : NetAt w B n col base D M S) {col' : Nat → Nat} (hc : ∀ k, k < w.heap.size → col' k = col k) {l' : List (Int × Nw.Bl)} {b' : Option Nat} (hl : BookAt w' b' l') (hA : ∀ k, b' = some k → col' k = base + 10)
    (ht : Touch (fun k => col k = base ∨ col k = base + 10) w w') (hb : Blk w' n 81 (netC ({ M with sb := b' }) D ({ S with sb := l' }))) : NetAt w' B n col' base D ({ M with sb := b' }) ({ S with sb := l' }) := by
  have hn : ∀ d, d ≠ 0 → d ≠ 10 → ∀ k, col k = base + d → ¬ (col k = base ∨ col k = base + 10) := fun d _ _ k e => by omega
  exact {
    blk := hb
    bB := h.bB
    c0 := (hc n h.blk.lt).trans h.c0
    ln := fun i hi => (h.ln i hi).touch ht (hn (1 + i) (by omega) (by omega) _ (by rw [(h.lc i hi).1]; omega)) (fun k hk => hn (1 + i) (by omega) (by omega) k (by rw [(h.lc i hi).2 k hk]; omega))
    lc := fun i hi => ⟨(hc _ (h.ln i hi).blk.lt).trans (h.lc i hi).1, fun k hk => (hc k (own_lt (h.ln i hi).own hk).2).trans ((h.lc i hi).2 k hk)⟩
    ll := h.ll
    fl := rowE_keep h.fl ht (fun k hk => hn 7 (by omega) (by omega) k (h.fc k hk))
    fc := fun k hk => (hc k (rowE_lt h.fl hk).2).trans (h.fc k hk)
    pg := h.pg
    vb := h.vb.touch ht (fun k hk => hn 8 (by omega) (by omega) k (h.vbc k hk))
    vbc := fun k hk => (hc k (h.vb.lt hk)).trans (h.vbc k hk)
    vc := h.vc.touch ht (hn 9 (by omega) (by omega) _ h.vcc)
    vcc := (hc _ h.vc.lt).trans h.vcc
    sb := hl
    sbc := hA
    po := Blk.touch h.po ht (hn 11 (by omega) (by omega) _ h.poc)
    poc := (hc _ (Blk.lt h.po)).trans h.poc
    us := h.us.touch ht (hn 12 (by omega) (by omega) _ h.usc)
    usc := (hc _ h.us.lt).trans h.usc
    ac := rowE_keep h.ac ht (fun k hk => hn 13 (by omega) (by omega) k (h.acc k hk))
    acc := fun k hk => (hc k (rowE_lt h.ac hk).2).trans (h.acc k hk)
    si := h.si.touch ht (fun k hk => hn 14 (by omega) (by omega) k (h.sic k hk))
    sic := fun k hk => (hc k (h.si.own_lt hk)).trans (h.sic k hk)
    pb := h.pb.touch ht (fun k hk => hn 15 (by omega) (by omega) k (h.pbc k hk))
    pbc := fun k hk => (hc k (h.pb.lt hk)).trans (h.pbc k hk)
    pc := h.pc.touch ht (hn 16 (by omega) (by omega) _ h.pcc)
    pcc := (hc _ h.pc.lt).trans h.pcc
    pd := h.pd.touch ht (hn 17 (by omega) (by omega) _ h.pdc)
    pdc := (hc _ h.pd.lt).trans h.pdc
    de := ⟨h.de.1.touch ht (fun k hk => hn 18 (by omega) (by omega) k (h.dec k (.inl hk)).2), h.de.2.touch ht (fun k hk => hn 18 (by omega) (by omega) k (h.dec k (.inr (.inl hk))).2) (fun c hc k hk => hn 18 (by omega) (by omega) k (h.dec k (.inr (.inr ⟨c, hc, hk⟩))).2)⟩
    dec := fun k hk => ⟨Nat.lt_of_lt_of_le (h.dec k hk).1 ht.size, (hc k (h.dec k hk).1).trans (h.dec k hk).2⟩
    cap := h.cap
    cn := h.cn }
theorem NetAt.setPb (h : NetAt w B n col base D M S) {col' : Nat → Nat} (hc : ∀ k, k < w.heap.size → col' k = col k) {l' : List (Int × Nw.Bl)} {b' : Option Nat} (hl : BookAt w' b' l') (hA : ∀ k, b' = some k → col' k = base + 15)
    (ht : Touch (fun k => col k = base ∨ col k = base + 15) w w') (hb : Blk w' n 81 (netC ({ M with pb := b' }) D ({ S with pb := l' }))) : NetAt w' B n col' base D ({ M with pb := b' }) ({ S with pb := l' }) := by
  have hn : ∀ d, d ≠ 0 → d ≠ 15 → ∀ k, col k = base + d → ¬ (col k = base ∨ col k = base + 15) := fun d _ _ k e => by omega
  exact {
    blk := hb
    bB := h.bB
    c0 := (hc n h.blk.lt).trans h.c0
    ln := fun i hi => (h.ln i hi).touch ht (hn (1 + i) (by omega) (by omega) _ (by rw [(h.lc i hi).1]; omega)) (fun k hk => hn (1 + i) (by omega) (by omega) k (by rw [(h.lc i hi).2 k hk]; omega))
    lc := fun i hi => ⟨(hc _ (h.ln i hi).blk.lt).trans (h.lc i hi).1, fun k hk => (hc k (own_lt (h.ln i hi).own hk).2).trans ((h.lc i hi).2 k hk)⟩
    ll := h.ll
    fl := rowE_keep h.fl ht (fun k hk => hn 7 (by omega) (by omega) k (h.fc k hk))
    fc := fun k hk => (hc k (rowE_lt h.fl hk).2).trans (h.fc k hk)
    pg := h.pg
    vb := h.vb.touch ht (fun k hk => hn 8 (by omega) (by omega) k (h.vbc k hk))
    vbc := fun k hk => (hc k (h.vb.lt hk)).trans (h.vbc k hk)
    vc := h.vc.touch ht (hn 9 (by omega) (by omega) _ h.vcc)
    vcc := (hc _ h.vc.lt).trans h.vcc
    sb := h.sb.touch ht (fun k hk => hn 10 (by omega) (by omega) k (h.sbc k hk))
    sbc := fun k hk => (hc k (h.sb.lt hk)).trans (h.sbc k hk)
    po := Blk.touch h.po ht (hn 11 (by omega) (by omega) _ h.poc)
    poc := (hc _ (Blk.lt h.po)).trans h.poc
    us := h.us.touch ht (hn 12 (by omega) (by omega) _ h.usc)
    usc := (hc _ h.us.lt).trans h.usc
    ac := rowE_keep h.ac ht (fun k hk => hn 13 (by omega) (by omega) k (h.acc k hk))
    acc := fun k hk => (hc k (rowE_lt h.ac hk).2).trans (h.acc k hk)
    si := h.si.touch ht (fun k hk => hn 14 (by omega) (by omega) k (h.sic k hk))
    sic := fun k hk => (hc k (h.si.own_lt hk)).trans (h.sic k hk)
    pb := hl
    pbc := hA
    pc := h.pc.touch ht (hn 16 (by omega) (by omega) _ h.pcc)
    pcc := (hc _ h.pc.lt).trans h.pcc
    pd := h.pd.touch ht (hn 17 (by omega) (by omega) _ h.pdc)
    pdc := (hc _ h.pd.lt).trans h.pdc
    de := ⟨h.de.1.touch ht (fun k hk => hn 18 (by omega) (by omega) k (h.dec k (.inl hk)).2), h.de.2.touch ht (fun k hk => hn 18 (by omega) (by omega) k (h.dec k (.inr (.inl hk))).2) (fun c hc k hk => hn 18 (by omega) (by omega) k (h.dec k (.inr (.inr ⟨c, hc, hk⟩))).2)⟩
    dec := fun k hk => ⟨Nat.lt_of_lt_of_le (h.dec k hk).1 ht.size, (hc k (h.dec k hk).1).trans (h.dec k hk).2⟩
    cap := h.cap
    cn := h.cn }
theorem NetAt.setVc (h : NetAt w B n col base D M S) {col' : Nat → Nat} (hc : ∀ k, k < w.heap.size → col' k = col k) {l' : List (Int × Nw.En)} (hl : MpAt kI Nw.En.v w' M.vc l')
    (ht : Touch (fun k => col k = base ∨ col k = base + 9) w w') (hb : Blk w' n 81 (netC (M) D ({ S with vc := l' }))) : NetAt w' B n col' base D (M) ({ S with vc := l' }) := by
  have hn : ∀ d, d ≠ 0 → d ≠ 9 → ∀ k, col k = base + d → ¬ (col k = base ∨ col k = base + 9) := fun d _ _ k e => by omega
  exact {
    blk := hb
    bB := h.bB
    c0 := (hc n h.blk.lt).trans h.c0
    ln := fun i hi => (h.ln i hi).touch ht (hn (1 + i) (by omega) (by omega) _ (by rw [(h.lc i hi).1]; omega)) (fun k hk => hn (1 + i) (by omega) (by omega) k (by rw [(h.lc i hi).2 k hk]; omega))
    lc := fun i hi => ⟨(hc _ (h.ln i hi).blk.lt).trans (h.lc i hi).1, fun k hk => (hc k (own_lt (h.ln i hi).own hk).2).trans ((h.lc i hi).2 k hk)⟩
    ll := h.ll
    fl := rowE_keep h.fl ht (fun k hk => hn 7 (by omega) (by omega) k (h.fc k hk))
    fc := fun k hk => (hc k (rowE_lt h.fl hk).2).trans (h.fc k hk)
    pg := h.pg
    vb := h.vb.touch ht (fun k hk => hn 8 (by omega) (by omega) k (h.vbc k hk))
    vbc := fun k hk => (hc k (h.vb.lt hk)).trans (h.vbc k hk)
    vc := hl
    vcc := (hc _ h.vc.lt).trans h.vcc
    sb := h.sb.touch ht (fun k hk => hn 10 (by omega) (by omega) k (h.sbc k hk))
    sbc := fun k hk => (hc k (h.sb.lt hk)).trans (h.sbc k hk)
    po := Blk.touch h.po ht (hn 11 (by omega) (by omega) _ h.poc)
    poc := (hc _ (Blk.lt h.po)).trans h.poc
    us := h.us.touch ht (hn 12 (by omega) (by omega) _ h.usc)
    usc := (hc _ h.us.lt).trans h.usc
    ac := rowE_keep h.ac ht (fun k hk => hn 13 (by omega) (by omega) k (h.acc k hk))
    acc := fun k hk => (hc k (rowE_lt h.ac hk).2).trans (h.acc k hk)
    si := h.si.touch ht (fun k hk => hn 14 (by omega) (by omega) k (h.sic k hk))
    sic := fun k hk => (hc k (h.si.own_lt hk)).trans (h.sic k hk)
    pb := h.pb.touch ht (fun k hk => hn 15 (by omega) (by omega) k (h.pbc k hk))
    pbc := fun k hk => (hc k (h.pb.lt hk)).trans (h.pbc k hk)
    pc := h.pc.touch ht (hn 16 (by omega) (by omega) _ h.pcc)
    pcc := (hc _ h.pc.lt).trans h.pcc
    pd := h.pd.touch ht (hn 17 (by omega) (by omega) _ h.pdc)
    pdc := (hc _ h.pd.lt).trans h.pdc
    de := ⟨h.de.1.touch ht (fun k hk => hn 18 (by omega) (by omega) k (h.dec k (.inl hk)).2), h.de.2.touch ht (fun k hk => hn 18 (by omega) (by omega) k (h.dec k (.inr (.inl hk))).2) (fun c hc k hk => hn 18 (by omega) (by omega) k (h.dec k (.inr (.inr ⟨c, hc, hk⟩))).2)⟩
    dec := fun k hk => ⟨Nat.lt_of_lt_of_le (h.dec k hk).1 ht.size, (hc k (h.dec k hk).1).trans (h.dec k hk).2⟩
    cap := h.cap
    cn := h.cn }
theorem NetAt.setPo (h : NetAt w B n col base D M S) {col' : Nat → Nat} (hc : ∀ k, k < w.heap.size → col' k = col k) {l' : Ls} (hl : PostAt w' M.po l')
    (ht : Touch (fun k => col k = base ∨ col k = base + 11) w w') (hb : Blk w' n 81 (netC (M) D ({ S with po := l' }))) : NetAt w' B n col' base D (M) ({ S with po := l' }) := by
  have hn : ∀ d, d ≠ 0 → d ≠ 11 → ∀ k, col k = base + d → ¬ (col k = base ∨ col k = base + 11) := fun d _ _ k e => by omega
  exact {
    blk := hb
    bB := h.bB
    c0 := (hc n h.blk.lt).trans h.c0
    ln := fun i hi => (h.ln i hi).touch ht (hn (1 + i) (by omega) (by omega) _ (by rw [(h.lc i hi).1]; omega)) (fun k hk => hn (1 + i) (by omega) (by omega) k (by rw [(h.lc i hi).2 k hk]; omega))
    lc := fun i hi => ⟨(hc _ (h.ln i hi).blk.lt).trans (h.lc i hi).1, fun k hk => (hc k (own_lt (h.ln i hi).own hk).2).trans ((h.lc i hi).2 k hk)⟩
    ll := h.ll
    fl := rowE_keep h.fl ht (fun k hk => hn 7 (by omega) (by omega) k (h.fc k hk))
    fc := fun k hk => (hc k (rowE_lt h.fl hk).2).trans (h.fc k hk)
    pg := h.pg
    vb := h.vb.touch ht (fun k hk => hn 8 (by omega) (by omega) k (h.vbc k hk))
    vbc := fun k hk => (hc k (h.vb.lt hk)).trans (h.vbc k hk)
    vc := h.vc.touch ht (hn 9 (by omega) (by omega) _ h.vcc)
    vcc := (hc _ h.vc.lt).trans h.vcc
    sb := h.sb.touch ht (fun k hk => hn 10 (by omega) (by omega) k (h.sbc k hk))
    sbc := fun k hk => (hc k (h.sb.lt hk)).trans (h.sbc k hk)
    po := hl
    poc := (hc _ (Blk.lt h.po)).trans h.poc
    us := h.us.touch ht (hn 12 (by omega) (by omega) _ h.usc)
    usc := (hc _ h.us.lt).trans h.usc
    ac := rowE_keep h.ac ht (fun k hk => hn 13 (by omega) (by omega) k (h.acc k hk))
    acc := fun k hk => (hc k (rowE_lt h.ac hk).2).trans (h.acc k hk)
    si := h.si.touch ht (fun k hk => hn 14 (by omega) (by omega) k (h.sic k hk))
    sic := fun k hk => (hc k (h.si.own_lt hk)).trans (h.sic k hk)
    pb := h.pb.touch ht (fun k hk => hn 15 (by omega) (by omega) k (h.pbc k hk))
    pbc := fun k hk => (hc k (h.pb.lt hk)).trans (h.pbc k hk)
    pc := h.pc.touch ht (hn 16 (by omega) (by omega) _ h.pcc)
    pcc := (hc _ h.pc.lt).trans h.pcc
    pd := h.pd.touch ht (hn 17 (by omega) (by omega) _ h.pdc)
    pdc := (hc _ h.pd.lt).trans h.pdc
    de := ⟨h.de.1.touch ht (fun k hk => hn 18 (by omega) (by omega) k (h.dec k (.inl hk)).2), h.de.2.touch ht (fun k hk => hn 18 (by omega) (by omega) k (h.dec k (.inr (.inl hk))).2) (fun c hc k hk => hn 18 (by omega) (by omega) k (h.dec k (.inr (.inr ⟨c, hc, hk⟩))).2)⟩
    dec := fun k hk => ⟨Nat.lt_of_lt_of_le (h.dec k hk).1 ht.size, (hc k (h.dec k hk).1).trans (h.dec k hk).2⟩
    cap := h.cap
    cn := h.cn }
theorem NetAt.setUs (h : NetAt w B n col base D M S) {col' : Nat → Nat} (hc : ∀ k, k < w.heap.size → col' k = col k) {l' : List ((Int × Int) × Bool)} (hl : MpAt kP vB w' M.us l')
    (ht : Touch (fun k => col k = base ∨ col k = base + 12) w w') (hb : Blk w' n 81 (netC (M) D ({ S with us := l' }))) : NetAt w' B n col' base D (M) ({ S with us := l' }) := by
  have hn : ∀ d, d ≠ 0 → d ≠ 12 → ∀ k, col k = base + d → ¬ (col k = base ∨ col k = base + 12) := fun d _ _ k e => by omega
  exact {
    blk := hb
    bB := h.bB
    c0 := (hc n h.blk.lt).trans h.c0
    ln := fun i hi => (h.ln i hi).touch ht (hn (1 + i) (by omega) (by omega) _ (by rw [(h.lc i hi).1]; omega)) (fun k hk => hn (1 + i) (by omega) (by omega) k (by rw [(h.lc i hi).2 k hk]; omega))
    lc := fun i hi => ⟨(hc _ (h.ln i hi).blk.lt).trans (h.lc i hi).1, fun k hk => (hc k (own_lt (h.ln i hi).own hk).2).trans ((h.lc i hi).2 k hk)⟩
    ll := h.ll
    fl := rowE_keep h.fl ht (fun k hk => hn 7 (by omega) (by omega) k (h.fc k hk))
    fc := fun k hk => (hc k (rowE_lt h.fl hk).2).trans (h.fc k hk)
    pg := h.pg
    vb := h.vb.touch ht (fun k hk => hn 8 (by omega) (by omega) k (h.vbc k hk))
    vbc := fun k hk => (hc k (h.vb.lt hk)).trans (h.vbc k hk)
    vc := h.vc.touch ht (hn 9 (by omega) (by omega) _ h.vcc)
    vcc := (hc _ h.vc.lt).trans h.vcc
    sb := h.sb.touch ht (fun k hk => hn 10 (by omega) (by omega) k (h.sbc k hk))
    sbc := fun k hk => (hc k (h.sb.lt hk)).trans (h.sbc k hk)
    po := Blk.touch h.po ht (hn 11 (by omega) (by omega) _ h.poc)
    poc := (hc _ (Blk.lt h.po)).trans h.poc
    us := hl
    usc := (hc _ h.us.lt).trans h.usc
    ac := rowE_keep h.ac ht (fun k hk => hn 13 (by omega) (by omega) k (h.acc k hk))
    acc := fun k hk => (hc k (rowE_lt h.ac hk).2).trans (h.acc k hk)
    si := h.si.touch ht (fun k hk => hn 14 (by omega) (by omega) k (h.sic k hk))
    sic := fun k hk => (hc k (h.si.own_lt hk)).trans (h.sic k hk)
    pb := h.pb.touch ht (fun k hk => hn 15 (by omega) (by omega) k (h.pbc k hk))
    pbc := fun k hk => (hc k (h.pb.lt hk)).trans (h.pbc k hk)
    pc := h.pc.touch ht (hn 16 (by omega) (by omega) _ h.pcc)
    pcc := (hc _ h.pc.lt).trans h.pcc
    pd := h.pd.touch ht (hn 17 (by omega) (by omega) _ h.pdc)
    pdc := (hc _ h.pd.lt).trans h.pdc
    de := ⟨h.de.1.touch ht (fun k hk => hn 18 (by omega) (by omega) k (h.dec k (.inl hk)).2), h.de.2.touch ht (fun k hk => hn 18 (by omega) (by omega) k (h.dec k (.inr (.inl hk))).2) (fun c hc k hk => hn 18 (by omega) (by omega) k (h.dec k (.inr (.inr ⟨c, hc, hk⟩))).2)⟩
    dec := fun k hk => ⟨Nat.lt_of_lt_of_le (h.dec k hk).1 ht.size, (hc k (h.dec k hk).1).trans (h.dec k hk).2⟩
    cap := h.cap
    cn := h.cn }
theorem NetAt.setAc (h : NetAt w B n col base D M S) {col' : Nat → Nat} (hc : ∀ k, k < w.heap.size → col' k = col k) {l' : List Nw.Ac} {A' : Option Addr} {c' : Nat} (hl : w'.ownsRow B 100 6 (.slice A' l'.length c') l'.length (flatA l')) (hA : ∀ k, OwnB A' k → col' k = base + 13)
    (ht : Touch (fun k => col k = base ∨ col k = base + 13) w w') (hb : Blk w' n 81 (netC ({ M with aA := A', ac := c' }) D ({ S with ac := l' }))) : NetAt w' B n col' base D ({ M with aA := A', ac := c' }) ({ S with ac := l' }) := by
  have hn : ∀ d, d ≠ 0 → d ≠ 13 → ∀ k, col k = base + d → ¬ (col k = base ∨ col k = base + 13) := fun d _ _ k e => by omega
  exact {
    blk := hb
    bB := h.bB
    c0 := (hc n h.blk.lt).trans h.c0
    ln := fun i hi => (h.ln i hi).touch ht (hn (1 + i) (by omega) (by omega) _ (by rw [(h.lc i hi).1]; omega)) (fun k hk => hn (1 + i) (by omega) (by omega) k (by rw [(h.lc i hi).2 k hk]; omega))
    lc := fun i hi => ⟨(hc _ (h.ln i hi).blk.lt).trans (h.lc i hi).1, fun k hk => (hc k (own_lt (h.ln i hi).own hk).2).trans ((h.lc i hi).2 k hk)⟩
    ll := h.ll
    fl := rowE_keep h.fl ht (fun k hk => hn 7 (by omega) (by omega) k (h.fc k hk))
    fc := fun k hk => (hc k (rowE_lt h.fl hk).2).trans (h.fc k hk)
    pg := h.pg
    vb := h.vb.touch ht (fun k hk => hn 8 (by omega) (by omega) k (h.vbc k hk))
    vbc := fun k hk => (hc k (h.vb.lt hk)).trans (h.vbc k hk)
    vc := h.vc.touch ht (hn 9 (by omega) (by omega) _ h.vcc)
    vcc := (hc _ h.vc.lt).trans h.vcc
    sb := h.sb.touch ht (fun k hk => hn 10 (by omega) (by omega) k (h.sbc k hk))
    sbc := fun k hk => (hc k (h.sb.lt hk)).trans (h.sbc k hk)
    po := Blk.touch h.po ht (hn 11 (by omega) (by omega) _ h.poc)
    poc := (hc _ (Blk.lt h.po)).trans h.poc
    us := h.us.touch ht (hn 12 (by omega) (by omega) _ h.usc)
    usc := (hc _ h.us.lt).trans h.usc
    ac := hl
    acc := hA
    si := h.si.touch ht (fun k hk => hn 14 (by omega) (by omega) k (h.sic k hk))
    sic := fun k hk => (hc k (h.si.own_lt hk)).trans (h.sic k hk)
    pb := h.pb.touch ht (fun k hk => hn 15 (by omega) (by omega) k (h.pbc k hk))
    pbc := fun k hk => (hc k (h.pb.lt hk)).trans (h.pbc k hk)
    pc := h.pc.touch ht (hn 16 (by omega) (by omega) _ h.pcc)
    pcc := (hc _ h.pc.lt).trans h.pcc
    pd := h.pd.touch ht (hn 17 (by omega) (by omega) _ h.pdc)
    pdc := (hc _ h.pd.lt).trans h.pdc
    de := ⟨h.de.1.touch ht (fun k hk => hn 18 (by omega) (by omega) k (h.dec k (.inl hk)).2), h.de.2.touch ht (fun k hk => hn 18 (by omega) (by omega) k (h.dec k (.inr (.inl hk))).2) (fun c hc k hk => hn 18 (by omega) (by omega) k (h.dec k (.inr (.inr ⟨c, hc, hk⟩))).2)⟩
    dec := fun k hk => ⟨Nat.lt_of_lt_of_le (h.dec k hk).1 ht.size, (hc k (h.dec k hk).1).trans (h.dec k hk).2⟩
    cap := h.cap
    cn := h.cn }
theorem NetAt.setSi (h : NetAt w B n col base D M S) {col' : Nat → Nat} (hc : ∀ k, k < w.heap.size → col' k = col k) {cs' : List Sx.Cl} {N' : Int} {A' : Nat → Option Addr} {q' : Nat → Nat} (hl : SiteAt w' B M.gs M.gc M.sc A' q' cs' D.dr D.bk N') (hA : ∀ k, SOwn M.gs M.gc A' cs'.length k → col' k = base + 14)
    (ht : Touch (fun k => col k = base ∨ col k = base + 14) w w') (hb : Blk w' n 81 (netC ({ M with sA := A', sq := q' }) D ({ S with cs := cs', sN := N' }))) : NetAt w' B n col' base D ({ M with sA := A', sq := q' }) ({ S with cs := cs', sN := N' }) := by
  have hn : ∀ d, d ≠ 0 → d ≠ 14 → ∀ k, col k = base + d → ¬ (col k = base ∨ col k = base + 14) := fun d _ _ k e => by omega
  exact {
    blk := hb
    bB := h.bB
    c0 := (hc n h.blk.lt).trans h.c0
    ln := fun i hi => (h.ln i hi).touch ht (hn (1 + i) (by omega) (by omega) _ (by rw [(h.lc i hi).1]; omega)) (fun k hk => hn (1 + i) (by omega) (by omega) k (by rw [(h.lc i hi).2 k hk]; omega))
    lc := fun i hi => ⟨(hc _ (h.ln i hi).blk.lt).trans (h.lc i hi).1, fun k hk => (hc k (own_lt (h.ln i hi).own hk).2).trans ((h.lc i hi).2 k hk)⟩
    ll := h.ll
    fl := rowE_keep h.fl ht (fun k hk => hn 7 (by omega) (by omega) k (h.fc k hk))
    fc := fun k hk => (hc k (rowE_lt h.fl hk).2).trans (h.fc k hk)
    pg := h.pg
    vb := h.vb.touch ht (fun k hk => hn 8 (by omega) (by omega) k (h.vbc k hk))
    vbc := fun k hk => (hc k (h.vb.lt hk)).trans (h.vbc k hk)
    vc := h.vc.touch ht (hn 9 (by omega) (by omega) _ h.vcc)
    vcc := (hc _ h.vc.lt).trans h.vcc
    sb := h.sb.touch ht (fun k hk => hn 10 (by omega) (by omega) k (h.sbc k hk))
    sbc := fun k hk => (hc k (h.sb.lt hk)).trans (h.sbc k hk)
    po := Blk.touch h.po ht (hn 11 (by omega) (by omega) _ h.poc)
    poc := (hc _ (Blk.lt h.po)).trans h.poc
    us := h.us.touch ht (hn 12 (by omega) (by omega) _ h.usc)
    usc := (hc _ h.us.lt).trans h.usc
    ac := rowE_keep h.ac ht (fun k hk => hn 13 (by omega) (by omega) k (h.acc k hk))
    acc := fun k hk => (hc k (rowE_lt h.ac hk).2).trans (h.acc k hk)
    si := hl
    sic := hA
    pb := h.pb.touch ht (fun k hk => hn 15 (by omega) (by omega) k (h.pbc k hk))
    pbc := fun k hk => (hc k (h.pb.lt hk)).trans (h.pbc k hk)
    pc := h.pc.touch ht (hn 16 (by omega) (by omega) _ h.pcc)
    pcc := (hc _ h.pc.lt).trans h.pcc
    pd := h.pd.touch ht (hn 17 (by omega) (by omega) _ h.pdc)
    pdc := (hc _ h.pd.lt).trans h.pdc
    de := ⟨h.de.1.touch ht (fun k hk => hn 18 (by omega) (by omega) k (h.dec k (.inl hk)).2), h.de.2.touch ht (fun k hk => hn 18 (by omega) (by omega) k (h.dec k (.inr (.inl hk))).2) (fun c hc k hk => hn 18 (by omega) (by omega) k (h.dec k (.inr (.inr ⟨c, hc, hk⟩))).2)⟩
    dec := fun k hk => ⟨Nat.lt_of_lt_of_le (h.dec k hk).1 ht.size, (hc k (h.dec k hk).1).trans (h.dec k hk).2⟩
    cap := h.cap
    cn := h.cn }
theorem NetAt.setPc (h : NetAt w B n col base D M S) {col' : Nat → Nat} (hc : ∀ k, k < w.heap.size → col' k = col k) {l' : List (Int × Int)} (hl : MpAt kI kI w' M.pc l')
    (ht : Touch (fun k => col k = base ∨ col k = base + 16) w w') (hb : Blk w' n 81 (netC (M) D ({ S with pc := l' }))) : NetAt w' B n col' base D (M) ({ S with pc := l' }) := by
  have hn : ∀ d, d ≠ 0 → d ≠ 16 → ∀ k, col k = base + d → ¬ (col k = base ∨ col k = base + 16) := fun d _ _ k e => by omega
  exact {
    blk := hb
    bB := h.bB
    c0 := (hc n h.blk.lt).trans h.c0
    ln := fun i hi => (h.ln i hi).touch ht (hn (1 + i) (by omega) (by omega) _ (by rw [(h.lc i hi).1]; omega)) (fun k hk => hn (1 + i) (by omega) (by omega) k (by rw [(h.lc i hi).2 k hk]; omega))
    lc := fun i hi => ⟨(hc _ (h.ln i hi).blk.lt).trans (h.lc i hi).1, fun k hk => (hc k (own_lt (h.ln i hi).own hk).2).trans ((h.lc i hi).2 k hk)⟩
    ll := h.ll
    fl := rowE_keep h.fl ht (fun k hk => hn 7 (by omega) (by omega) k (h.fc k hk))
    fc := fun k hk => (hc k (rowE_lt h.fl hk).2).trans (h.fc k hk)
    pg := h.pg
    vb := h.vb.touch ht (fun k hk => hn 8 (by omega) (by omega) k (h.vbc k hk))
    vbc := fun k hk => (hc k (h.vb.lt hk)).trans (h.vbc k hk)
    vc := h.vc.touch ht (hn 9 (by omega) (by omega) _ h.vcc)
    vcc := (hc _ h.vc.lt).trans h.vcc
    sb := h.sb.touch ht (fun k hk => hn 10 (by omega) (by omega) k (h.sbc k hk))
    sbc := fun k hk => (hc k (h.sb.lt hk)).trans (h.sbc k hk)
    po := Blk.touch h.po ht (hn 11 (by omega) (by omega) _ h.poc)
    poc := (hc _ (Blk.lt h.po)).trans h.poc
    us := h.us.touch ht (hn 12 (by omega) (by omega) _ h.usc)
    usc := (hc _ h.us.lt).trans h.usc
    ac := rowE_keep h.ac ht (fun k hk => hn 13 (by omega) (by omega) k (h.acc k hk))
    acc := fun k hk => (hc k (rowE_lt h.ac hk).2).trans (h.acc k hk)
    si := h.si.touch ht (fun k hk => hn 14 (by omega) (by omega) k (h.sic k hk))
    sic := fun k hk => (hc k (h.si.own_lt hk)).trans (h.sic k hk)
    pb := h.pb.touch ht (fun k hk => hn 15 (by omega) (by omega) k (h.pbc k hk))
    pbc := fun k hk => (hc k (h.pb.lt hk)).trans (h.pbc k hk)
    pc := hl
    pcc := (hc _ h.pc.lt).trans h.pcc
    pd := h.pd.touch ht (hn 17 (by omega) (by omega) _ h.pdc)
    pdc := (hc _ h.pd.lt).trans h.pdc
    de := ⟨h.de.1.touch ht (fun k hk => hn 18 (by omega) (by omega) k (h.dec k (.inl hk)).2), h.de.2.touch ht (fun k hk => hn 18 (by omega) (by omega) k (h.dec k (.inr (.inl hk))).2) (fun c hc k hk => hn 18 (by omega) (by omega) k (h.dec k (.inr (.inr ⟨c, hc, hk⟩))).2)⟩
    dec := fun k hk => ⟨Nat.lt_of_lt_of_le (h.dec k hk).1 ht.size, (hc k (h.dec k hk).1).trans (h.dec k hk).2⟩
    cap := h.cap
    cn := h.cn }
theorem NetAt.setPd (h : NetAt w B n col base D M S) {col' : Nat → Nat} (hc : ∀ k, k < w.heap.size → col' k = col k) {l' : List (Int × Bool)} (hl : LikeAt w' M.pd l')
    (ht : Touch (fun k => col k = base ∨ col k = base + 17) w w') (hb : Blk w' n 81 (netC (M) D ({ S with pd := l' }))) : NetAt w' B n col' base D (M) ({ S with pd := l' }) := by
  have hn : ∀ d, d ≠ 0 → d ≠ 17 → ∀ k, col k = base + d → ¬ (col k = base ∨ col k = base + 17) := fun d _ _ k e => by omega
  exact {
    blk := hb
    bB := h.bB
    c0 := (hc n h.blk.lt).trans h.c0
    ln := fun i hi => (h.ln i hi).touch ht (hn (1 + i) (by omega) (by omega) _ (by rw [(h.lc i hi).1]; omega)) (fun k hk => hn (1 + i) (by omega) (by omega) k (by rw [(h.lc i hi).2 k hk]; omega))
    lc := fun i hi => ⟨(hc _ (h.ln i hi).blk.lt).trans (h.lc i hi).1, fun k hk => (hc k (own_lt (h.ln i hi).own hk).2).trans ((h.lc i hi).2 k hk)⟩
    ll := h.ll
    fl := rowE_keep h.fl ht (fun k hk => hn 7 (by omega) (by omega) k (h.fc k hk))
    fc := fun k hk => (hc k (rowE_lt h.fl hk).2).trans (h.fc k hk)
    pg := h.pg
    vb := h.vb.touch ht (fun k hk => hn 8 (by omega) (by omega) k (h.vbc k hk))
    vbc := fun k hk => (hc k (h.vb.lt hk)).trans (h.vbc k hk)
    vc := h.vc.touch ht (hn 9 (by omega) (by omega) _ h.vcc)
    vcc := (hc _ h.vc.lt).trans h.vcc
    sb := h.sb.touch ht (fun k hk => hn 10 (by omega) (by omega) k (h.sbc k hk))
    sbc := fun k hk => (hc k (h.sb.lt hk)).trans (h.sbc k hk)
    po := Blk.touch h.po ht (hn 11 (by omega) (by omega) _ h.poc)
    poc := (hc _ (Blk.lt h.po)).trans h.poc
    us := h.us.touch ht (hn 12 (by omega) (by omega) _ h.usc)
    usc := (hc _ h.us.lt).trans h.usc
    ac := rowE_keep h.ac ht (fun k hk => hn 13 (by omega) (by omega) k (h.acc k hk))
    acc := fun k hk => (hc k (rowE_lt h.ac hk).2).trans (h.acc k hk)
    si := h.si.touch ht (fun k hk => hn 14 (by omega) (by omega) k (h.sic k hk))
    sic := fun k hk => (hc k (h.si.own_lt hk)).trans (h.sic k hk)
    pb := h.pb.touch ht (fun k hk => hn 15 (by omega) (by omega) k (h.pbc k hk))
    pbc := fun k hk => (hc k (h.pb.lt hk)).trans (h.pbc k hk)
    pc := h.pc.touch ht (hn 16 (by omega) (by omega) _ h.pcc)
    pcc := (hc _ h.pc.lt).trans h.pcc
    pd := hl
    pdc := (hc _ h.pd.lt).trans h.pdc
    de := ⟨h.de.1.touch ht (fun k hk => hn 18 (by omega) (by omega) k (h.dec k (.inl hk)).2), h.de.2.touch ht (fun k hk => hn 18 (by omega) (by omega) k (h.dec k (.inr (.inl hk))).2) (fun c hc k hk => hn 18 (by omega) (by omega) k (h.dec k (.inr (.inr ⟨c, hc, hk⟩))).2)⟩
    dec := fun k hk => ⟨Nat.lt_of_lt_of_le (h.dec k hk).1 ht.size, (hc k (h.dec k hk).1).trans (h.dec k hk).2⟩
    cap := h.cap
    cn := h.cn }
theorem NetAt.own (h : NetAt w B n col base D M S) : NetOwn col base n := ⟨by rw [h.c0]; omega, by rw [h.c0]; omega⟩
theorem NetTo.refl (h : NetAt w B n col base D M S) : NetTo w B n col base D S w := ⟨col, M, fun _ _ => rfl, h, Touch.refl _ _⟩
theorem NetTo.trans {w1 w2 : World} {S1 S2 : St} (h : NetTo w B n col base D S1 w1) (k : ∀ col' M', (∀ k, k < w.heap.size → col' k = col k) → NetAt w1 B n col' base D M' S1 → NetTo w1 B n col' base D S2 w2) : NetTo w B n col base D S2 w2 := by
  obtain ⟨col1, M1, hc, hN, ht⟩ := h
  obtain ⟨col2, M2, hc2, hN2, ht2⟩ := k col1 M1 hc hN
  refine ⟨col2, M2, fun k hk => (hc2 k (Nat.lt_of_lt_of_le hk ht.size)).trans (hc k hk), hN2, ht.then ht2 (fun k hk => ?_)⟩
  by_cases hlt : k < w.heap.size
  · left
    unfold NetOwn at hk ⊢
    rw [hc k hlt] at hk
    exact hk
  · right; omega
end
end Go.Proofs.Ytlklnaebdnahcaa
namespace Go.Proofs.Ytlklnaebdnahcaa
open Go.RowKit Nw
theorem lineP {w : World} {B n base : Nat} {col : Nat → Nat} {D : Dl} {M : Mem} {S : St} (h : NetAt w B n col base D M S) {i : Nat} (hi : i < 6) : w.cell? ⟨n, 11 + i, none⟩ = some (.pointer (some ⟨M.g i, 0, none⟩)) := by
  match i, hi with
  | 0, _ => exact h.blk.cell 11 rfl
  | 1, _ => exact h.blk.cell 12 rfl
  | 2, _ => exact h.blk.cell 13 rfl
  | 3, _ => exact h.blk.cell 14 rfl
  | 4, _ => exact h.blk.cell 15 rfl
  | 5, _ => exact h.blk.cell 16 rfl
theorem line_to {w w1 w' : World} {B n base : Nat} {col : Nat → Nat} {D : Dl} {M : Mem} {S : St} (h : NetAt w B n col base D M S) {i : Nat} (hi : i < 6) {l' : Ln} (hb : Below w.heap.size w w1) (h1 : LineTo w1 B (M.g i) (M.lA i) l' w') :
    NetTo w B n col base D { S with L := S.L.set i l' } w' := by
  obtain ⟨⟨A', c', hl, hA⟩, ht⟩ := h1
  have hg := (h.lc i hi).1
  have hgl := (h.ln i hi).blk.lt
  have hno : ∀ k, (k = M.g i ∨ OwnB (M.lA i) k) → col k = base + (1 + i) := fun k hk => by
    rcases hk with rfl | hk
    · rw [hg]; omega
    · rw [(h.lc i hi).2 k hk]; omega
  have hT : Touch (fun k => k = M.g i ∨ OwnB (M.lA i) k) w w' := (Touch.of_below hb).then ht (fun k hk => .inl hk)
  refine ⟨fun k => if k < w.heap.size then col k else base + 1 + i, _, fun k hk => if_pos hk, h.setLn (col' := fun k => if k < w.heap.size then col k else base + 1 + i) (fun k hk => if_pos hk) hi (l' := l') (A' := A') (c' := c') hl (fun k hk => ?_) (hT.mono (fun k hk => .inr (hno k hk))) ?_, hT.mono (fun k hk => ?_)⟩
  · by_cases hlt : k < w.heap.size
    · show (if k < w.heap.size then col k else base + 1 + i) = _
      rw [if_pos hlt]
      rcases hA k hk with e | e
      · exact (h.lc i hi).2 k e
      · have := hb.size; omega
    · exact if_neg hlt
  · exact h.blk.touch hT (fun e => by
      have := hno n e
      rw [h.c0] at this
      omega)
  · have := hno k hk
    unfold NetOwn
    omega
theorem NetTo.below {w w1 w2 : World} {B n base : Nat} {col : Nat → Nat} {D : Dl} {S : St} (h : NetTo w B n col base D S w1) (hb : Below w1.heap.size w1 w2) : NetTo w B n col base D S w2 := by
  obtain ⟨col', M, hc, hN, ht⟩ := h
  exact ⟨col', M, hc, hN.below hb, ht.below hb⟩
theorem NetTo.before {w w1 w2 : World} {B n base : Nat} {col : Nat → Nat} {D : Dl} {S : St} (ht : Touch (NetOwn col base) w w1) (h : NetTo w1 B n col base D S w2) : NetTo w B n col base D S w2 := by
  obtain ⟨col', M, hc, hN, ht'⟩ := h
  exact ⟨col', M, fun k hk => hc k (Nat.lt_of_lt_of_le hk ht.size), hN, ht.trans ht'⟩
theorem own_or {w w1 : World} {B n base : Nat} {col col1 : Nat → Nat} {D : Dl} {M : Mem} {S : St} (hc : ∀ k, k < w.heap.size → col1 k = col k) (hs : w.heap.size ≤ w1.heap.size) (h : NetAt w1 B n col1 base D M S) {k : Nat} (e : k = n) : NetOwn col base k ∨ w.heap.size ≤ k := by
  subst e
  by_cases hk : k < w.heap.size
  · left
    have := h.c0
    rw [hc k hk] at this
    unfold NetOwn
    omega
  · right; omega
set_option maxRecDepth 100000 in
set_option maxHeartbeats 2000000 in
theorem tell_c {w : World} {B n base : Nat} {col : Nat → Nat} {D : Dl} {M : Mem} {S : St} (h : NetAt w B n col base D M S) (hB : B ≤ w.heap.size) (i : Nat) (hi : i < 6) (x : Nt) :
    Calls Try.prog 28 #[.pointer (some ⟨n, 0, none⟩), .int .i64 i, .agg #[.int .i64 x.k, .int .i64 x.s, .int .i64 x.a, .int .i64 x.b, .int .i64 x.c]] w fun e w' => e = .returned (.tuple #[]) ∧ NetTo w B n col base D (Nw.tell S i x) w' := by
  have al := (Below.refl w.heap.size w).alloc (Nat.le_refl _) (.cells #[.int .i64 x.k, .int .i64 x.s, .int .i64 x.a, .int .i64 x.b, .int .i64 x.c] 91)
  have HX := Lib.hid (Blk.new' w #[.int .i64 x.k, .int .i64 x.s, .int .i64 x.a, .int .i64 x.b, .int .i64 x.c] 91)
  have H1 := Lib.hid (h.below al)
  have HA := Lib.hid al
  have H := Lib.hid h
  have HI := Lib.hid hi
  have HBB := Lib.hid (Nat.le_trans hB al.size)
  have i0 : (i : Int) < 6 := by omega
  clear h al hB
  go_enter Try.func28, Try.ntmps28
  go_wp2_with fail
  generalize w.alloc (.cells #[.int .i64 x.k, .int .i64 x.s, .int .i64 x.a, .int .i64 x.b, .int .i64 x.c] 91) = w1 at *
  obtain ⟨gb, hgb⟩ : ∃ gb, gb = w.heap.size := ⟨_, rfl⟩
  have HG := Lib.hid hgb
  rw [← hgb] at HX ⊢
  clear hgb
  refine wp_region_then 7 _ ?af rfl (by kernel_rfl) (by kernel_rfl) ?walk ?tail
  case walk =>
    intro V hV
    have d0 := lineP (H1.out.below hV) hi
    have nl := (H1.out.below hV).lt
    have gl := (HX.out.below hV HX.out.lt).lt
    have XB := HX.out.below hV HX.out.lt
    have e0 := XB.cell 0 rfl
    have e1 := XB.cell 1 rfl
    have e2 := XB.cell 2 rfl
    have e3 := XB.cell 3 rfl
    have e4 := XB.cell 4 rfl
    clear hV XB
    simp only [List.take_succ_cons, List.take_zero]
    repeat (go_big_quiet_step (fail))
    refine wpQuiet_nil ?_
    rfl
  intro w8 hb8
  have H8 := Lib.hid (H1.out.below hb8)
  have HA8 := Lib.hid (HA.out.trans (hb8.mono HA.out.size))
  have HB8 := Lib.hid (Nat.le_trans HBB.out hb8.size)
  clear hb8
  go_simp
  refine (Send_c B _ _ _ _ x w8 (H8.out.ln i hi) HB8.out).mono ?_
  rintro e w9 ⟨rfl, hl9⟩
  have HN := Lib.hid (line_to H.out hi HA8.out hl9)
  clear hl9
  dsimp only
  refine wpQuiet_nil ?_
  intro xx
  have HN2 := Lib.hid (HN.out.below xx.far)
  go_wp2_with fail
  exact bodyPost_end (v := .tuple #[]) (by simp [results, Try.results28, go_sem]) rfl ⟨rfl, HN2.out⟩
theorem validN_c {w : World} {B n base : Nat} {col : Nat → Nat} {D : Dl} {M : Mem} {S : St} (h : NetAt w B n col base D M S) : Calls Try.prog 20 #[.pointer (some ⟨n, 0, none⟩)] w fun e w' => e = .returned (.bool true) ∧ w = w' := by
  have c0 := h.blk.cell 0 rfl
  clear h
  go_enter Try.func20, Try.ntmps20
  go_wp2
  go_ret
  exact ⟨rfl, rfl⟩
theorem busy_c {w : World} {B n base : Nat} {col : Nat → Nat} {D : Dl} {M : Mem} {S : St} (h : NetAt w B n col base D M S) (i : Nat) (hi : i < 6) :
    Calls Try.prog 27 #[.pointer (some ⟨n, 0, none⟩), .int .i64 i] w fun e w' => e = .returned (.bool (Nw.busy S i)) ∧ w = w' := by
  have c0 := lineP h hi
  have HL := Lib.hid (h.ln i hi)
  have i0 : (i : Int) < 6 := by omega
  clear h
  go_enter Try.func27, Try.ntmps27
  go_wp2_with (go_at_call 32; refine (WaitingL_c _ _ _ _ _ _ HL.out).mono ?_; rintro e w' ⟨rfl, rfl⟩)
  go_ret
  refine ⟨?_, rfl⟩
  unfold Nw.busy
  have e : decide (32 < ((Nw.ln S i).L.length : Int)) = decide (32 < (Nw.ln S i).L.length) := by
    rw [Bool.eq_iff_iff, decide_eq_true_eq, decide_eq_true_eq]
    omega
  exact congrArg (fun b => Ending.returned (.bool b)) e
set_option maxRecDepth 100000 in
set_option maxHeartbeats 2000000 in
theorem at_c {w : World} {B n base : Nat} {col : Nat → Nat} {D : Dl} {M : Mem} {S : St} (h : NetAt w B n col base D M S) (ph : Int) (x : Nt) :
    Calls Try.prog 89 #[.pointer (some ⟨n, 0, none⟩), .int .i64 ph, .agg #[.int .i64 x.k, .int .i64 x.s, .int .i64 x.a, .int .i64 x.b, .int .i64 x.c]] w fun e w' => e = .returned (.bool (Nw.atB S ph x)) ∧ Below w.heap.size w w' := by
  have al := (Below.refl w.heap.size w).alloc (Nat.le_refl _) (.cells #[.int .i64 x.k, .int .i64 x.s, .int .i64 x.a, .int .i64 x.b, .int .i64 x.c] 91)
  have HX := Lib.hid (Blk.new' w #[.int .i64 x.k, .int .i64 x.s, .int .i64 x.a, .int .i64 x.b, .int .i64 x.c] 91)
  have H1 := Lib.hid (h.below al)
  have HA := Lib.hid al
  clear h al
  have e0 : Nw.atB S ph x = ((S.sph == ph) && (S.sss == x.s)) := by
    unfold Nw.atB
    rw [Bool.eq_iff_iff]
    simp
  rw [e0]
  clear e0
  go_enter Try.func89, Try.ntmps89
  go_wp2_with fail
  generalize w.alloc (.cells #[.int .i64 x.k, .int .i64 x.s, .int .i64 x.a, .int .i64 x.b, .int .i64 x.c] 91) = w1 at *
  obtain ⟨gb, hgb⟩ : ∃ gb, gb = w.heap.size := ⟨_, rfl⟩
  rw [← hgb] at HX ⊢
  have q1 : Blk w1 n 81 (netC M D S) := H1.out.blk
  have c43 := q1.cell 43 rfl
  have c44 := q1.cell 44 rfl
  have nl := q1.lt
  have gl := HX.out.lt
  have x1 := HX.out.cell 1 rfl
  clear q1
  have HA1 := Lib.hid HA.out
  clear hgb HX
  by_cases k0 : S.sph = ph
  all_goals
    first
      | have k1 : (S.sph == ph) = true := by simpa using k0
      | have k1 : (S.sph == ph) = false := by simpa using k0
    refine wp_region_past (by kernel_rfl) (by kernel_rfl) ?_
    repeat (go_big_quiet_step (fail))
    refine wpQuiet_nil ?_
    intro xx
    have HX2 := Lib.hid (HA.out.trans (xx.far.mono HA.out.size))
    generalize xx.w = w4 at HX2 ⊢
    go_wp2_with fail
    go_ret
    exact ⟨by simp [k1], HX2.out⟩
end Go.Proofs.Ytlklnaebdnahcaa
namespace Go.Proofs.Ytlklnaebdnahcaa
open Go.RowKit Nw
theorem elI64 (d : Nat) (w : World) (a b : Int) : (Op.equalIn (d + 1) 2 (.int .i64 a) (.int .i64 b)).run Try.prog w = .ok (a == b) w := run_equalIn_int w d 2 .i64 .i64 a b Try.underlying2
theorem sizeI64 (w : World) : (sizeOf 2).run Try.prog w = .ok 1 w := by kernel_rfl
theorem partI64 (w : World) (cs : Array Value) (i : Nat) (v : Value) (h : cs[i]? = some v) : (part 2 cs i).run Try.prog w = .ok v w := by
  have hag : (isAgg 2).run Try.prog w = .ok false w := by kernel_rfl
  simp [part, Sem.run_bind, hag, h]
theorem eqArr2' (d : Nat) (w : World) (a b a' b' : Int) : (Op.equalIn (d + 2) 62 (.agg #[.int .i64 a, .int .i64 b]) (.agg #[.int .i64 a', .int .i64 b'])).run Try.prog w = .ok (a == a' && b == b') w := by
  rw [Op.equalIn]
  simp only [Sem.run_bind, run_underlying Try.underlying62, Result.andThen_ok, sizeI64]
  simp [Std.Legacy.Range.forIn_eq_forIn_range', Std.Legacy.Range.size, List.range', Sem.run_bind]
  simp [partI64, elI64]
  by_cases h1 : a = a' <;> by_cases h2 : b = b' <;> simp [h1, h2]
@[go_sem] theorem eqArr2 (w : World) (a b a' b' : Int) : (Op.equalIn 10000 62 (.agg #[.int .i64 a, .int .i64 b]) (.agg #[.int .i64 a', .int .i64 b'])).run Try.prog w = .ok (a == a' && b == b') w :=
  eqArr2' 9998 w a b a' b'
set_option maxRecDepth 100000 in
set_option maxHeartbeats 2000000 in
theorem mine_c {w : World} {B n base : Nat} {col : Nat → Nat} {D : Dl} {M : Mem} {S : St} (h : NetAt w B n col base D M S) (x : Nt) :
    Calls Try.prog 87 #[.pointer (some ⟨n, 0, none⟩), .agg #[.int .i64 x.k, .int .i64 x.s, .int .i64 x.a, .int .i64 x.b, .int .i64 x.c]] w fun e w' => e = .returned (.bool (Nw.mine S x)) ∧ Below w.heap.size w w' := by
  have al := (Below.refl w.heap.size w).alloc (Nat.le_refl _) (.cells #[.int .i64 x.k, .int .i64 x.s, .int .i64 x.a, .int .i64 x.b, .int .i64 x.c] 91)
  have HX := Lib.hid (Blk.new' w #[.int .i64 x.k, .int .i64 x.s, .int .i64 x.a, .int .i64 x.b, .int .i64 x.c] 91)
  have H1 := Lib.hid (h.below al)
  have HA := Lib.hid al
  have HW := Lib.hid h
  clear h al
  have e0 : Nw.mine S x = ((S.vph == 1) && (S.vp0 == x.b && S.vp1 == x.a)) := by
    unfold Nw.mine
    rw [Bool.eq_iff_iff]
    simp
  rw [e0]
  clear e0
  go_enter Try.func87, Try.ntmps87
  go_wp2_with fail
  generalize w.alloc (.cells #[.int .i64 x.k, .int .i64 x.s, .int .i64 x.a, .int .i64 x.b, .int .i64 x.c] 91) = w1 at *
  obtain ⟨gb, hgb⟩ : ∃ gb, gb = w.heap.size := ⟨_, rfl⟩
  rw [← hgb] at HX ⊢
  have HG := Lib.hid hgb
  clear hgb
  have q0 : Blk _ n 81 (netC M D S) := (H1.out).blk
  have c37 := q0.cell 37 rfl
  have c38 := q0.cell 38 rfl
  have c39 := q0.cell 39 rfl
  have nl := q0.lt
  clear q0
  have r0 := HX.out
  have x2 := r0.cell 2 rfl
  have x3 := r0.cell 3 rfl
  have gl := r0.lt
  clear r0
  clear HX H1
  by_cases k0 : S.vph = 1
  all_goals
    first
      | have k1 : (S.vph == 1) = true := by simpa using k0
      | have k1 : (S.vph == 1) = false := by simpa using k0
    clear k0
    refine wp_region_past (by kernel_rfl) (by kernel_rfl) ?_
    repeat (go_big_quiet_step (fail))
    refine wpQuiet_nil ?_
    intro xx
    have HX2 := Lib.hid (HA.out.trans (xx.far.mono HA.out.size))
    generalize xx.w = w4 at HX2 ⊢
    go_wp2_with fail
    go_ret
    exact ⟨by simp [k1], HX2.out⟩
set_option maxRecDepth 100000 in
set_option maxHeartbeats 2000000 in
theorem reply_c {w : World} {B n base : Nat} {col : Nat → Nat} {D : Dl} {M : Mem} {S : St} (h : NetAt w B n col base D M S) (hB : B ≤ w.heap.size) (k : Int) :
    Calls Try.prog 90 #[.pointer (some ⟨n, 0, none⟩), .int .i64 k] w fun e w' => e = .returned (.tuple #[]) ∧ NetTo w B n col base D (Nw.reply S k) w' := by
  have H1 := Lib.hid h
  have HBB := Lib.hid hB
  clear h hB
  go_enter Try.func90, Try.ntmps90
  go_wp2_with fail
  refine wp_region_then 17 _ ?af rfl (by kernel_rfl) (by kernel_rfl) ?walk ?tail
  case walk =>
    intro V hV
    have q0 : Blk _ n 81 (netC M D S) := (H1.out.below hV).blk
    have c44 := q0.cell 44 rfl
    have c45 := q0.cell 45 rfl
    have c46 := q0.cell 46 rfl
    have nl := q0.lt
    clear q0
    clear hV
    simp only [List.take_succ_cons, List.take_zero]
    repeat (go_big_quiet_step (fail))
    refine wpQuiet_nil ?_
    rfl
  intro w8 hb8
  have H8 := Lib.hid (H1.out.below hb8)
  have HB8 := Lib.hid (Nat.le_trans HBB.out hb8.size)
  have HT := Lib.hid (Touch.of_below (S := NetOwn col base) hb8)
  clear hb8
  go_simp
  refine (tell_c H8.out HB8.out 1 (by omega) ⟨k, S.sss, S.sp1, S.sp0, 0⟩).mono ?_
  rintro e w9 ⟨rfl, hn⟩
  have HN := Lib.hid (NetTo.before HT.out hn)
  clear hn
  dsimp only
  refine wpQuiet_nil ?_
  intro xx
  have HN2 := Lib.hid (HN.out.below xx.far)
  go_wp2_with fail
  exact bodyPost_end (v := .tuple #[]) (by simp [results, Try.results90, go_sem]) rfl ⟨rfl, HN2.out⟩
set_option maxRecDepth 100000 in
set_option maxHeartbeats 2000000 in
theorem record_c {w : World} {B n base : Nat} {col : Nat → Nat} {D : Dl} {M : Mem} {S : St} (h : NetAt w B n col base D M S) (hB : B ≤ w.heap.size) (k : Int) :
    Calls Try.prog 45 #[.pointer (some ⟨n, 0, none⟩), .int .i64 k] w fun e w' => e = .returned (.tuple #[]) ∧ NetTo w B n col base D (Nw.record S k) w' := by
  have H1 := Lib.hid h
  have HBB := Lib.hid hB
  clear h hB
  go_enter Try.func45, Try.ntmps45
  go_wp2_with fail
  refine wp_region_then 21 _ ?af rfl (by kernel_rfl) (by kernel_rfl) ?walk ?tail
  case walk =>
    intro V hV
    have q0 : Blk _ n 81 (netC M D S) := (H1.out.below hV).blk
    have c44 := q0.cell 44 rfl
    have c48 := q0.cell 48 rfl
    have c49 := q0.cell 49 rfl
    have c10 := q0.cell 10 rfl
    have nl := q0.lt
    clear q0
    clear hV
    simp only [List.take_succ_cons, List.take_zero]
    repeat (go_big_quiet_step (fail))
    refine wpQuiet_nil ?_
    rfl
  intro w8 hb8
  have H8 := Lib.hid (H1.out.below hb8)
  have HB8 := Lib.hid (Nat.le_trans HBB.out hb8.size)
  have HT := Lib.hid (Touch.of_below (S := NetOwn col base) hb8)
  clear hb8
  go_simp
  refine (tell_c H8.out HB8.out 2 (by omega) ⟨k, S.sss, S.si, S.sk, S.now⟩).mono ?_
  rintro e w9 ⟨rfl, hn⟩
  have HN := Lib.hid (NetTo.before HT.out hn)
  clear hn
  dsimp only
  refine wpQuiet_nil ?_
  intro xx
  have HN2 := Lib.hid (HN.out.below xx.far)
  generalize xx.w = w10 at HN2 ⊢
  clear HN
  obtain ⟨col1, M1, hc1, hn1, ht1⟩ := HN2.out
  have HC1 := Lib.hid hc1
  have HN1 := Lib.hid hn1
  have HT1 := Lib.hid ht1
  clear hc1 ht1 HN2
  have f48 := hn1.blk.free 48
  have f49 := hn1.blk.free 49
  have c48 := hn1.blk.cell 48 rfl
  have c49 := hn1.blk.cell 49 rfl
  have nl := hn1.lt
  clear hn1
  go_wp2_with fail
  refine bodyPost_end (v := .tuple #[]) (by simp [results, Try.results45, go_sem]) rfl ⟨rfl, ?_⟩
  exact ⟨col1, M1, HC1.out, HN1.out.put (fun _ _ => rfl) rfl rfl rfl rfl rfl rfl rfl rfl rfl rfl rfl rfl rfl rfl ((((Touch.refl _ _).put 48 _).put 49 _).mono (fun k e => .inl (by rw [e]; exact HN1.out.c0))) ((HN1.out.blk.setCell 48 _).setCell 49 _), (HT1.out.then (((Touch.refl _ _).put 48 _).put 49 _) (fun k e => own_or HC1.out HT1.out.size HN1.out e))⟩
set_option maxRecDepth 100000 in
set_option maxHeartbeats 2000000 in
theorem fin_c {w : World} {B n base : Nat} {col : Nat → Nat} {D : Dl} {M : Mem} {S : St} (h : NetAt w B n col base D M S) (hB : B ≤ w.heap.size) :
    Calls Try.prog 42 #[.pointer (some ⟨n, 0, none⟩)] w fun e w' => e = .returned (.tuple #[]) ∧ NetTo w B n col base D (Nw.fin S) w' := by
  have H1 := Lib.hid h
  have HBB := Lib.hid hB
  clear h hB
  go_enter Try.func42, Try.ntmps42
  go_wp2_with fail
  refine (record_c H1.out HBB.out 11).mono ?_
  rintro e w9 ⟨rfl, hn⟩
  obtain ⟨col1, M1, hc1, hn1, ht1⟩ := hn
  have HC1 := Lib.hid hc1
  have HN1 := Lib.hid hn1
  have HT1 := Lib.hid ht1
  clear hc1 ht1
  have f43 := hn1.blk.free 43
  have c43 := hn1.blk.cell 43 rfl
  have nl := hn1.lt
  clear hn1
  go_wp2_with fail
  refine bodyPost_end (v := .tuple #[]) (by simp [results, Try.results42, go_sem]) rfl ⟨rfl, ?_⟩
  exact ⟨col1, M1, HC1.out, HN1.out.put (fun _ _ => rfl) rfl rfl rfl rfl rfl rfl rfl rfl rfl rfl rfl rfl rfl rfl (((Touch.refl _ _).put 43 _).mono (fun k e => .inl (by rw [e]; exact HN1.out.c0))) (HN1.out.blk.setCell 43 _), (HT1.out.then ((Touch.refl _ _).put 43 _) (fun k e => own_or HC1.out HT1.out.size HN1.out e))⟩
end Go.Proofs.Ytlklnaebdnahcaa
namespace Go.Proofs.Ytlklnaebdnahcaa
open Go.RowKit Nw
theorem wpO_mput {α β : Type} [DecidableEq α] {P : Program} {kt : TypeId} {K : α → Value} {V : β → Value} {b : Nat} {l : List (α × β)} {w : World} {o : Oper} {a : Act} {N : Act → World → Prop} {Q : Exit → Act → World → Prop}
    (hg : o.guard = none) (m x v : Operand) (mt : TypeId) (hop : o.op = Op.mapUpdate mt m x v) (C : KeyC P kt K) {et : TypeId} (ht : P.underlying mt = some (.map kt et))
    (h : MpAt K V w b l) (hm : a.eval m = .map (some b)) (k : α) (hx : a.eval x = K k) (u : β) (hv : a.eval v = V u)
    (hK : ∀ w', MpAt K V w' b (mput k u l) → Touch (fun k => k = b) w w' → w'.heap.size = w.heap.size → N (a.put o.dst undef) w') : o.wp P a w N Q := by
  obtain ⟨w', hrun, r1, r2, r3⟩ := h.update C ht k u
  unfold Oper.wp
  simp [execOp, hop, hm, hx, hv, hrun, Result.andThen]
  exact hK w' r1 r2 r3
@[go_sem] theorem eqlMapN (w : World) : (binOp .eql 58 (.map none) (.map none)).run Try.prog w = .ok (.bool true) w := by kernel_rfl
@[go_sem] theorem eqlMapS (w : World) (b : Nat) : (binOp .eql 58 (.map (some b)) (.map none)).run Try.prog w = .ok (.bool false) w := by kernel_rfl
theorem keyI : KeyC Try.prog 3 kI := keyc_int Try.underlying3
set_option maxRecDepth 100000 in
set_option maxHeartbeats 2000000 in
theorem enter_c {w : World} {n o : Nat} {cs : List Value} {b : Option Nat} {l : List (Int × Nw.Bl)} (h : Blk w n 81 cs) (hc : cs[o]? = some (.map b)) (hk : BookAt w b l) (hne : ∀ k, b = some k → k ≠ n) (x : Nt) :
    Calls Try.prog 88 #[.pointer (some ⟨n, o, none⟩), .agg #[.int .i64 x.k, .int .i64 x.s, .int .i64 x.a, .int .i64 x.b, .int .i64 x.c]] w fun e w' => e = .returned (.tuple #[]) ∧
      ∃ b', Blk w' n 81 (cs.set o (.map b')) ∧ BookAt w' b' (mput x.s (billOf x) l) ∧ Touch (fun k => k = n ∨ b = some k) w w' ∧ ∀ k, b' = some k → b = some k ∨ w.heap.size ≤ k := by
  have al := (Below.refl w.heap.size w).alloc (Nat.le_refl _) (.cells #[.int .i64 x.k, .int .i64 x.s, .int .i64 x.a, .int .i64 x.b, .int .i64 x.c] 91)
  have HX := Lib.hid (Blk.new' w #[.int .i64 x.k, .int .i64 x.s, .int .i64 x.a, .int .i64 x.b, .int .i64 x.c] 91)
  have H1 := Lib.hid (h.below al h.lt)
  have HK := Lib.hid (BookAt.touch (T := fun _ => False) hk (Touch.of_below al) (fun _ _ e => e))
  have HA := Lib.hid al
  have HW := Lib.hid h
  have HNE := Lib.hid hne
  have HC := Lib.hid hc
  clear h al hk hne
  clear hc
  cases b with
  | none =>
    have c0 := H1.out.cell o HC.out
    have f0 := H1.out.free o
    have n0 := HW.out.lt
    have hk := HK.out
    have HLO := Lib.hid (List.getElem?_eq_some_iff.1 HC.out).1
    have qm : ∀ w : World, (Instr.makeMap 58 none).run Try.prog w = .ok (.map (some w.heap.size)) (w.alloc (.map #[] 0)) := fun w => by kernel_rfl
    simp only [BookAt] at hk
    subst hk
    go_enter Try.func88, Try.ntmps88
    go_upto_region 2 with fail
    generalize w.alloc (.cells #[.int .i64 x.k, .int .i64 x.s, .int .i64 x.a, .int .i64 x.b, .int .i64 x.c] 91) = w1 at *
    obtain ⟨gb, hgb⟩ : ∃ gb, gb = w.heap.size := ⟨_, rfl⟩
    rw [← hgb] at HX ⊢
    have HG := Lib.hid hgb
    clear hgb
    have n1 := H1.out.lt
    go_upto_region 3 with fail
    clear c0 f0 n0 n1 qm HK
    have hx := (MpAt.made (K := kI) (V := Nw.Bl.v) (w1.setCell ⟨n, o, none⟩ (.map (some w1.heap.size))))
    simp only [World.size_setCell] at hx
    have HM3 := Lib.hid hx
    clear hx
    have HB3 := Lib.hid ((H1.out.setCell o (.map (some w1.heap.size))).alloc (.map #[] 0))
    have HX3 := Lib.hid ((Blk.setCell_ne (p := ⟨n, o, none⟩) HX.out (by have := HW.out.lt; have := HG.out; show gb ≠ n; omega) (.map (some w1.heap.size))).alloc (.map #[] 0))
    have HT3 := Lib.hid (show Touch (fun k => k = n ∨ (none : Option Nat) = some k) w _ from (((Touch.of_below HA.out).setCell (p := ⟨n, o, none⟩) (.inl (.inl rfl)) (.map (some w1.heap.size)))).alloc (.map #[] 0))
    have HNB := Lib.hid (show w1.heap.size ≠ n from by have := H1.out.lt; omega)
    have HN3 := Lib.hid (show (none : Option Nat) = some w1.heap.size ∨ w.heap.size ≤ w1.heap.size from .inr HA.out.size)
    have HT0 := Lib.hid (show (w1.heap.size = n ∨ (none : Option Nat) = some w1.heap.size) ∨ w.heap.size ≤ w1.heap.size from .inr HA.out.size)
    generalize (w1.setCell ⟨n, o, none⟩ (.map (some w1.heap.size))).alloc (.map #[] 0) = w3 at HM3 HB3 HX3 HT3 ⊢
    generalize w1.heap.size = b1 at HM3 HB3 HNB HN3 HT0 ⊢
    clear HX H1 HA
    have gl := HX3.out.lt
    have x1 := HX3.out.cell 1 rfl
    clear gl x1
    refine wp_region_then 15 _ ?af1 rfl (by kernel_rfl) (by kernel_rfl) ?walk1 ?tail1
    case walk1 =>
      intro V hV
      have c0 := (HB3.out.below hV HB3.out.lt).cell o (by rw [List.getElem?_set_self HLO.out])
      have nl := (HB3.out.below hV HB3.out.lt).lt
      have r0 := HX3.out.below hV HX3.out.lt
      have x1 := r0.cell 1 rfl
      have x2 := r0.cell 2 rfl
      have x3 := r0.cell 3 rfl
      have x4 := r0.cell 4 rfl
      have gl := r0.lt
      clear r0
      clear hV
      simp only [List.take_succ_cons, List.take_zero]
      repeat (go_big_quiet_step (fail))
      refine wpQuiet_nil ?_
      rfl
    intro w8 hb8
    have HB8 := Lib.hid (HB3.out.below hb8 HB3.out.lt)
    have HM8 := Lib.hid (HM3.out.below hb8)
    have HT8 := Lib.hid (HT3.out.then (Touch.of_below (S := fun _ => False) hb8) (fun _ e => e.elim))
    clear hb8
    refine wpO_mput rfl _ _ _ 58 rfl keyI Try.underlying58 HM8.out rfl x.s rfl (billOf x) rfl ?_
    intro w9 hm9 ht9 hs9
    have HB9 := Lib.hid (HB8.out.touch ht9 (fun e => HNB.out e.symm))
    have HM9 := Lib.hid hm9
    have HT9 := Lib.hid (HT8.out.then ht9 (fun k e => by rw [e]; exact HT0.out))
    clear hm9 ht9 hs9
    refine wpQuiet_nil ?_
    intro xx
    have HB10 := Lib.hid (HB9.out.below xx.far HB9.out.lt)
    have HM10 := Lib.hid (HM9.out.below xx.far)
    have HT10 := Lib.hid (HT9.out.then (Touch.of_below (S := fun _ => False) xx.far) (fun _ e => e.elim))
    go_wp2_with fail
    exact bodyPost_end (v := .tuple #[]) (by simp [results, Try.results88, go_sem]) rfl ⟨rfl, some b1, HB10.out, HM10.out, by simpa using HT10.out, fun k e => by cases e; simpa using HN3.out⟩
  | some b1 =>
    have c0 := H1.out.cell o HC.out
    have HLO := Lib.hid (List.getElem?_eq_some_iff.1 HC.out).1
    go_enter Try.func88, Try.ntmps88
    go_upto_region 3 with fail
    generalize w.alloc (.cells #[.int .i64 x.k, .int .i64 x.s, .int .i64 x.a, .int .i64 x.b, .int .i64 x.c] 91) = w3 at *
    obtain ⟨gb, hgb⟩ : ∃ gb, gb = w.heap.size := ⟨_, rfl⟩
    rw [← hgb] at HX ⊢
    have HG := Lib.hid hgb
    clear hgb
    clear c0
    have HM3 := Lib.hid (show MpAt kI Nw.Bl.v w3 b1 l from HK.out)
    have HX3 := Lib.hid HX.out
    have HB3 := Lib.hid (show Blk w3 n 81 (cs.set o (.map (some b1))) from by
      have e : cs.set o (.map (some b1)) = cs := by
        obtain ⟨h1, h2⟩ := List.getElem?_eq_some_iff.1 HC.out
        rw [← h2]
        exact List.set_getElem_self h1
      rw [e]
      exact H1.out)
    have HT3 := Lib.hid (show Touch (fun k => k = n ∨ some b1 = some k) w w3 from Touch.of_below HA.out)
    have HNB := Lib.hid (HNE.out b1 rfl)
    have HN3 := Lib.hid (show some b1 = some b1 ∨ w.heap.size ≤ b1 from .inl rfl)
    have HT0 := Lib.hid (show (b1 = n ∨ some b1 = some b1) ∨ w.heap.size ≤ b1 from .inl (.inr rfl))
    clear HX HK H1 HA
    have gl := HX3.out.lt
    have x1 := HX3.out.cell 1 rfl
    clear gl x1
    refine wp_region_then 15 _ ?af2 rfl (by kernel_rfl) (by kernel_rfl) ?walk2 ?tail2
    case walk2 =>
      intro V hV
      have c0 := (HB3.out.below hV HB3.out.lt).cell o (by rw [List.getElem?_set_self HLO.out])
      have nl := (HB3.out.below hV HB3.out.lt).lt
      have r0 := HX3.out.below hV HX3.out.lt
      have x1 := r0.cell 1 rfl
      have x2 := r0.cell 2 rfl
      have x3 := r0.cell 3 rfl
      have x4 := r0.cell 4 rfl
      have gl := r0.lt
      clear r0
      clear hV
      simp only [List.take_succ_cons, List.take_zero]
      repeat (go_big_quiet_step (fail))
      refine wpQuiet_nil ?_
      rfl
    intro w8 hb8
    have HB8 := Lib.hid (HB3.out.below hb8 HB3.out.lt)
    have HM8 := Lib.hid (HM3.out.below hb8)
    have HT8 := Lib.hid (HT3.out.then (Touch.of_below (S := fun _ => False) hb8) (fun _ e => e.elim))
    clear hb8
    refine wpO_mput rfl _ _ _ 58 rfl keyI Try.underlying58 HM8.out rfl x.s rfl (billOf x) rfl ?_
    intro w9 hm9 ht9 hs9
    have HB9 := Lib.hid (HB8.out.touch ht9 (fun e => HNB.out e.symm))
    have HM9 := Lib.hid hm9
    have HT9 := Lib.hid (HT8.out.then ht9 (fun k e => by rw [e]; exact HT0.out))
    clear hm9 ht9 hs9
    refine wpQuiet_nil ?_
    intro xx
    have HB10 := Lib.hid (HB9.out.below xx.far HB9.out.lt)
    have HM10 := Lib.hid (HM9.out.below xx.far)
    have HT10 := Lib.hid (HT9.out.then (Touch.of_below (S := fun _ => False) xx.far) (fun _ e => e.elim))
    go_wp2_with fail
    exact bodyPost_end (v := .tuple #[]) (by simp [results, Try.results88, go_sem]) rfl ⟨rfl, some b1, HB10.out, HM10.out, by simpa using HT10.out, fun k e => by cases e; simpa using HN3.out⟩
def ncol (w : World) (col : Nat → Nat) (x k : Nat) : Nat := if k < w.heap.size then col k else x
theorem ncol_old {w : World} {col : Nat → Nat} {x k : Nat} (h : k < w.heap.size) : ncol w col x k = col k := if_pos h
theorem ncol_new {w : World} {col : Nat → Nat} {x k : Nat} (h : w.heap.size ≤ k) : ncol w col x k = x := if_neg (by omega)
theorem NetAt.toVb {w w' : World} {B n base : Nat} {col : Nat → Nat} {D : Dl} {M : Mem} {S : St} (h : NetAt w B n col base D M S) {b' : Option Nat} {l' : List (Int × Nw.Bl)} (hb : Blk w' n 81 ((netC M D S).set 36 (.map b'))) (hk : BookAt w' b' l')
    (ht : Touch (fun k => k = n ∨ M.vb = some k) w w') (hn : ∀ k, b' = some k → M.vb = some k ∨ w.heap.size ≤ k) : NetTo w B n col base D { S with vb := l' } w' := by
  have hT : ∀ k, (k = n ∨ M.vb = some k) → col k = base ∨ col k = base + 8 := fun k e => by
    rcases e with rfl | e
    · exact .inl h.c0
    · exact .inr (h.vbc k e)
  refine ⟨ncol w col (base + 8), { M with vb := b' }, fun k hk => ncol_old hk, h.setVb (fun k hk => ncol_old hk) hk (fun k e => ?_) (ht.mono hT) hb, ht.mono (fun k e => by have := hT k e; unfold NetOwn; omega)⟩
  by_cases hlt : k < w.heap.size
  · rw [ncol_old hlt]
    rcases hn k e with e | e
    · exact h.vbc k e
    · omega
  · exact ncol_new (by omega)
theorem NetAt.toSb {w w' : World} {B n base : Nat} {col : Nat → Nat} {D : Dl} {M : Mem} {S : St} (h : NetAt w B n col base D M S) {b' : Option Nat} {l' : List (Int × Nw.Bl)} (hb : Blk w' n 81 ((netC M D S).set 42 (.map b'))) (hk : BookAt w' b' l')
    (ht : Touch (fun k => k = n ∨ M.sb = some k) w w') (hn : ∀ k, b' = some k → M.sb = some k ∨ w.heap.size ≤ k) : NetTo w B n col base D { S with sb := l' } w' := by
  have hT : ∀ k, (k = n ∨ M.sb = some k) → col k = base ∨ col k = base + 10 := fun k e => by
    rcases e with rfl | e
    · exact .inl h.c0
    · exact .inr (h.sbc k e)
  refine ⟨ncol w col (base + 10), { M with sb := b' }, fun k hk => ncol_old hk, h.setSb (fun k hk => ncol_old hk) hk (fun k e => ?_) (ht.mono hT) hb, ht.mono (fun k e => by have := hT k e; unfold NetOwn; omega)⟩
  by_cases hlt : k < w.heap.size
  · rw [ncol_old hlt]
    rcases hn k e with e | e
    · exact h.sbc k e
    · omega
  · exact ncol_new (by omega)
theorem NetAt.toPb {w w' : World} {B n base : Nat} {col : Nat → Nat} {D : Dl} {M : Mem} {S : St} (h : NetAt w B n col base D M S) {b' : Option Nat} {l' : List (Int × Nw.Bl)} (hb : Blk w' n 81 ((netC M D S).set 56 (.map b'))) (hk : BookAt w' b' l')
    (ht : Touch (fun k => k = n ∨ M.pb = some k) w w') (hn : ∀ k, b' = some k → M.pb = some k ∨ w.heap.size ≤ k) : NetTo w B n col base D { S with pb := l' } w' := by
  have hT : ∀ k, (k = n ∨ M.pb = some k) → col k = base ∨ col k = base + 15 := fun k e => by
    rcases e with rfl | e
    · exact .inl h.c0
    · exact .inr (h.pbc k e)
  refine ⟨ncol w col (base + 15), { M with pb := b' }, fun k hk => ncol_old hk, h.setPb (fun k hk => ncol_old hk) hk (fun k e => ?_) (ht.mono hT) hb, ht.mono (fun k e => by have := hT k e; unfold NetOwn; omega)⟩
  by_cases hlt : k < w.heap.size
  · rw [ncol_old hlt]
    rcases hn k e with e | e
    · exact h.pbc k e
    · omega
  · exact ncol_new (by omega)
set_option maxRecDepth 100000 in
set_option maxHeartbeats 2000000 in
theorem billed_c {w : World} {B n base : Nat} {col : Nat → Nat} {D : Dl} {M : Mem} {S : St} (h : NetAt w B n col base D M S) (hB : B ≤ w.heap.size) (x : Nt) :
    Calls Try.prog 62 #[.pointer (some ⟨n, 0, none⟩), .agg #[.int .i64 x.k, .int .i64 x.s, .int .i64 x.a, .int .i64 x.b, .int .i64 x.c]] w fun e w' => e = .returned (.tuple #[]) ∧ NetTo w B n col base D (Nw.billed S x) w' := by
  have al := (Below.refl w.heap.size w).alloc (Nat.le_refl _) (.cells #[.int .i64 x.k, .int .i64 x.s, .int .i64 x.a, .int .i64 x.b, .int .i64 x.c] 91)
  have HX := Lib.hid (Blk.new' w #[.int .i64 x.k, .int .i64 x.s, .int .i64 x.a, .int .i64 x.b, .int .i64 x.c] 91)
  have H1 := Lib.hid (h.below al)
  have HA := Lib.hid al
  have HW := Lib.hid h
  have HBB := Lib.hid (Nat.le_trans hB al.size)
  clear h al hB
  go_enter Try.func62, Try.ntmps62
  go_wp2_with fail
  generalize w.alloc (.cells #[.int .i64 x.k, .int .i64 x.s, .int .i64 x.a, .int .i64 x.b, .int .i64 x.c] 91) = w1 at *
  obtain ⟨gb, hgb⟩ : ∃ gb, gb = w.heap.size := ⟨_, rfl⟩
  rw [← hgb] at HX ⊢
  have HG := Lib.hid hgb
  clear hgb
  refine wp_region_then 5 _ ?af rfl (by kernel_rfl) (by kernel_rfl) ?walk ?tail
  case walk =>
    intro V hV
    have q0 : Blk _ n 81 (netC M D S) := (H1.out.below hV).blk
    have nl := q0.lt
    clear q0
    have r0 := HX.out.below hV HX.out.lt
    have x0 := r0.cell 0 rfl
    have x1 := r0.cell 1 rfl
    have x2 := r0.cell 2 rfl
    have x3 := r0.cell 3 rfl
    have x4 := r0.cell 4 rfl
    have gl := r0.lt
    clear r0
    clear hV
    simp only [List.take_succ_cons, List.take_zero]
    repeat (go_big_quiet_step (fail))
    refine wpQuiet_nil ?_
    rfl
  intro w8 hb8
  have H8 := Lib.hid (H1.out.below hb8)
  have HT := Lib.hid (Touch.of_below (S := NetOwn col base) (HA.out.trans (hb8.mono HA.out.size)))
  clear hb8
  go_simp
  refine (enter_c (o := 36) H8.out.blk rfl H8.out.vb (fun k hk e => by have h1 := H8.out.vbc k hk; rw [e, H8.out.c0] at h1; omega) x).mono ?_
  rintro e w9 ⟨rfl, b', hb9, hk9, ht9, hn9⟩
  have HN := Lib.hid (NetTo.before HT.out (H8.out.toVb hb9 hk9 ht9 hn9))
  clear hb9 hk9 ht9 hn9
  dsimp only
  refine wpQuiet_nil ?_
  intro xx
  have HN2 := Lib.hid (HN.out.below xx.far)
  go_wp2_with fail
  exact bodyPost_end (v := .tuple #[]) (by simp [results, Try.results62, go_sem]) rfl ⟨rfl, HN2.out⟩
end Go.Proofs.Ytlklnaebdnahcaa
namespace Go.Proofs.Ytlklnaebdnahcaa
open Go Go.RowKit
theorem stepV_append {P : Program} {o : Oper} {a : Act} {w : World} {N : Value → World → Prop} (s x : Operand) (t : TypeId)
    (ho : o.op = .call { callee := .builtin .append, args := #[s, x], argTypes := #[t, t] })
    (base : Nat) (e : TypeId) (i : TypeInfo) (z : Value) (size bytes : Nat) (ht : P.underlying t = some (.slice e)) (hi : P.info? e = some i) (hz : i.zero = some z)
    (hsize : i.size = size) (hby : i.bytes = bytes) (hzs : z.cells.size = size) (hsz : 0 < size)
    (A : Option Addr) (n cap : Nat) (xs : List Value) (hs : a.eval s = .slice A n cap) (hown : w.ownsRow base e size (.slice A n cap) n xs)
    (Bo : Option Addr) (m c : Nat) (news : List Value) (hx : a.eval x = .slice Bo m c) (hl : news.length = m * size) (hnews : SrcRow w Bo m news) (h1 : ∀ u ∈ news, u.oneCell' = true)
    (h63 : n + m ≤ maxLen) (hbytes : (n + m) * bytes ≤ 140737488355328) (hbase : base ≤ w.heap.size)
    (h : ∀ A' cap' w', w'.ownsRow base e size (.slice A' (n + m) cap') (n + m) (xs ++ news) → w.grownBy w' (Value.slice A n cap).ownBlock → (∀ k, OwnB A' k → OwnB A k ∨ k = w.heap.size) → N (.slice A' (n + m) cap') w') : StepV P o a w N := by
  obtain ⟨A', cap', w', hr, h2, h3, h4⟩ := run_append_any (P := P) t o.type base e i z size bytes ht hi hz hsize hby hzs hsz A n cap xs hown Bo m c news hl hnews h1 h63 hbytes hbase
  unfold StepV execOp
  simp only [ho, resolve, invoke, builtin, Sem.run_bind, Sem.run_pure, Result.andThen_ok, List.map_toArray, List.map_cons, List.map_nil, hs, hx, hr]
  exact h A' cap' w' h2 h3 h4
theorem spineV_cons {P : Program} {C : World → Prop} {T : Act → World → Prop} {o : Oper} {f : Bool} {r : List (Oper × Bool)} {a : Act} {w : World} (h : StepV P o a w fun v w' => (f = true → C w') ∧ SpineV P C T r (a.put o.dst v) w') : SpineV P C T ((o, f) :: r) a w := h
theorem spineV_nil {P : Program} {C : World → Prop} {T : Act → World → Prop} {a : Act} {w : World} (h : T a w) : SpineV P C T [] a w := h
theorem stepV_new {P : Program} {o : Oper} {a : Act} {w : World} {N : Value → World → Prop} (O : Obj) (vf : Nat → Value) (h : ∀ w : World, (execOp a.eval o).run P w = .ok (.value (vf w.heap.size)) (w.alloc O)) (k : N (vf w.heap.size) (w.alloc O)) : StepV P o a w N := by
  unfold StepV; rw [h]; exact k
theorem stepV_call {P : Program} {o : Oper} {a : Act} {w : World} {N : Value → World → Prop} {f : FuncId} {args : Array Value} (h : ∀ w : World, (execOp a.eval o).run P w = .ok (.enter f args) w) (k : Calls P f args w fun e w' => ∃ v, e = .returned v ∧ N v w') : StepV P o a w N := by
  unfold StepV; rw [h]; exact k
end Go.Proofs.Ytlklnaebdnahcaa
namespace Go.Proofs.Ytlklnaebdnahcaa
open Go.RowKit Nw
theorem NetTo.same {w w2 : World} {B n base : Nat} {col : Nat → Nat} {D : Dl} {M : Mem} {S : St} (h : NetAt w B n col base D M S) (hb : Below w.heap.size w w2) : NetTo w B n col base D S w2 :=
  ⟨col, M, fun _ _ => rfl, h.below hb, Touch.of_below hb⟩
theorem NetAt.toPut {w w2 w' : World} {B n base : Nat} {col : Nat → Nat} {D : Dl} {M : Mem} {S S' : St} (h : NetAt w B n col base D M S) (hA : Below w.heap.size w w2) (ht : Touch (fun k => k = n) w2 w') (hb : Blk w' n 81 (netC M D S'))
    (e1 : S'.L = S.L) (e2 : S'.fl = S.fl) (e3 : S'.pg.length = S.pg.length) (e4 : S'.vb = S.vb) (e5 : S'.vc = S.vc) (e6 : S'.sb = S.sb) (e7 : S'.po = S.po) (e8 : S'.us = S.us) (e9 : S'.ac = S.ac) (e10 : S'.cs = S.cs) (e11 : S'.sN = S.sN) (e12 : S'.pb = S.pb) (e13 : S'.pc = S.pc) (e14 : S'.pd = S.pd) :
    NetTo w B n col base D S' w' :=
  ⟨col, M, fun _ _ => rfl, (h.below hA).put (fun _ _ => rfl) e1 e2 e3 e4 e5 e6 e7 e8 e9 e10 e11 e12 e13 e14 (ht.mono (fun k e => .inl (by rw [e]; exact h.c0))) hb,
    (Touch.of_below (S := NetOwn col base) hA).then ht (fun k e => .inl (by rw [e]; exact h.own))⟩
theorem NetTo.next {w w1 w2 : World} {B n base : Nat} {col col1 : Nat → Nat} {D : Dl} {S2 : St} (hc : ∀ k, k < w.heap.size → col1 k = col k) (ht : Touch (NetOwn col base) w w1) (h : NetTo w1 B n col1 base D S2 w2) : NetTo w B n col base D S2 w2 := by
  obtain ⟨col2, M2, hc2, hN2, ht2⟩ := h
  refine ⟨col2, M2, fun k hk => (hc2 k (Nat.lt_of_lt_of_le hk ht.size)).trans (hc k hk), hN2, ht.then ht2 (fun k hk => ?_)⟩
  by_cases hlt : k < w.heap.size
  · left
    unfold NetOwn at hk ⊢
    rw [hc k hlt] at hk
    exact hk
  · right; omega
set_option maxRecDepth 100000 in
set_option maxHeartbeats 4000000 in
theorem rejected_c {w : World} {B n base : Nat} {col : Nat → Nat} {D : Dl} {M : Mem} {S : St} (h : NetAt w B n col base D M S) (hB : B ≤ w.heap.size) (x : Nt) :
    Calls Try.prog 61 #[.pointer (some ⟨n, 0, none⟩), .agg #[.int .i64 x.k, .int .i64 x.s, .int .i64 x.a, .int .i64 x.b, .int .i64 x.c]] w fun e w' => e = .returned (.tuple #[]) ∧ NetTo w B n col base D (Nw.rejected S x) w' := by
  have al := (Below.refl w.heap.size w).alloc (Nat.le_refl _) (.cells #[.int .i64 x.k, .int .i64 x.s, .int .i64 x.a, .int .i64 x.b, .int .i64 x.c] 91)
  have HX := Lib.hid (Blk.new' w #[.int .i64 x.k, .int .i64 x.s, .int .i64 x.a, .int .i64 x.b, .int .i64 x.c] 91)
  have H1 := Lib.hid (h.below al)
  have HA := Lib.hid al
  have HW := Lib.hid h
  have HBB := Lib.hid (Nat.le_trans hB al.size)
  clear h al hB
  have PC0 := Lib.hid (mine_c H1.out x)
  cases hm : Nw.mine S x with
  | false =>
    have e0 : Nw.rejected S x = S := by unfold Nw.rejected; rw [hm]; rfl
    rw [e0]
    clear e0
    have PC := Lib.hid (PC0.out)
    rw [hm] at PC
    clear PC0
    go_enter Try.func61, Try.ntmps61
    go_upto_region 1 with fail
    generalize w.alloc (.cells #[.int .i64 x.k, .int .i64 x.s, .int .i64 x.a, .int .i64 x.b, .int .i64 x.c] 91) = w1 at *
    obtain ⟨gb, hgb⟩ : ∃ gb, gb = w.heap.size := ⟨_, rfl⟩
    rw [← hgb] at HX ⊢
    have HG := Lib.hid hgb
    clear hgb
    have r0 := HX.out
    have x0 := r0.cell 0 rfl
    have x1 := r0.cell 1 rfl
    have x2 := r0.cell 2 rfl
    have x3 := r0.cell 3 rfl
    have x4 := r0.cell 4 rfl
    have gl := r0.lt
    clear r0
    go_wp2_with (go_at_call 87; refine (PC.out).mono ?_; rintro e w2 ⟨rfl, hb2⟩; have HBB2 := Lib.hid hb2; clear hb2)
    have HE := Lib.hid (NetTo.same HW.out (HA.out.trans (HBB2.out.mono HA.out.size)))
    exact bodyPost_end (v := .tuple #[]) (by simp [results, Try.results61, go_sem]) rfl ⟨rfl, HE.out⟩
  | true =>
    have e0 : Nw.rejected S x = { S with vph := 4 } := by unfold Nw.rejected; rw [hm]; rfl
    rw [e0]
    clear e0
    have PC := Lib.hid (PC0.out)
    rw [hm] at PC
    clear PC0
    go_enter Try.func61, Try.ntmps61
    go_upto_region 1 with fail
    generalize w.alloc (.cells #[.int .i64 x.k, .int .i64 x.s, .int .i64 x.a, .int .i64 x.b, .int .i64 x.c] 91) = w1 at *
    obtain ⟨gb, hgb⟩ : ∃ gb, gb = w.heap.size := ⟨_, rfl⟩
    rw [← hgb] at HX ⊢
    have HG := Lib.hid hgb
    clear hgb
    have r0 := HX.out
    have x0 := r0.cell 0 rfl
    have x1 := r0.cell 1 rfl
    have x2 := r0.cell 2 rfl
    have x3 := r0.cell 3 rfl
    have x4 := r0.cell 4 rfl
    have gl := r0.lt
    clear r0
    go_upto_region 2 with (go_at_call 87; refine (PC.out).mono ?_; rintro e w2 ⟨rfl, hb2⟩; have HBB2 := Lib.hid hb2; clear hb2)
    have H2 := Lib.hid (H1.out.below HBB2.out)
    have HX2 := Lib.hid (HX.out.below HBB2.out HX.out.lt)
    have HA2 := Lib.hid (HA.out.trans (HBB2.out.mono HA.out.size))
    have HB2 := Lib.hid (Nat.le_trans HBB.out HBB2.out.size)
    clear PC x0 x1 x2 x3 x4 gl HX H1 HA HBB HBB2
    have q0 : Blk _ n 81 (netC M D S) := (H2.out).blk
    have c37 := q0.cell 37 rfl
    have f37 := q0.free 37
    have nl := q0.lt
    clear q0
    go_wp2_with fail
    exact bodyPost_end (v := .tuple #[]) (by simp [results, Try.results61, go_sem]) rfl ⟨rfl, HW.out.toPut HA2.out ((Touch.refl _ _).put 37 _) ((H2.out.blk).setCell 37 _) rfl rfl rfl rfl rfl rfl rfl rfl rfl rfl rfl rfl rfl rfl⟩
set_option maxRecDepth 100000 in
set_option maxHeartbeats 4000000 in
theorem offered_c {w : World} {B n base : Nat} {col : Nat → Nat} {D : Dl} {M : Mem} {S : St} (h : NetAt w B n col base D M S) (hB : B ≤ w.heap.size) (x : Nt) :
    Calls Try.prog 60 #[.pointer (some ⟨n, 0, none⟩), .agg #[.int .i64 x.k, .int .i64 x.s, .int .i64 x.a, .int .i64 x.b, .int .i64 x.c]] w fun e w' => e = .returned (.tuple #[]) ∧ NetTo w B n col base D (Nw.offered S x) w' := by
  have al := (Below.refl w.heap.size w).alloc (Nat.le_refl _) (.cells #[.int .i64 x.k, .int .i64 x.s, .int .i64 x.a, .int .i64 x.b, .int .i64 x.c] 91)
  have HX := Lib.hid (Blk.new' w #[.int .i64 x.k, .int .i64 x.s, .int .i64 x.a, .int .i64 x.b, .int .i64 x.c] 91)
  have H1 := Lib.hid (h.below al)
  have HA := Lib.hid al
  have HW := Lib.hid h
  have HBB := Lib.hid (Nat.le_trans hB al.size)
  clear h al hB
  have PC0 := Lib.hid (mine_c H1.out x)
  cases hm : Nw.mine S x with
  | false =>
    have e0 : Nw.offered S x = S := by unfold Nw.offered; rw [hm]; rfl
    rw [e0]
    clear e0
    have PC := Lib.hid (PC0.out)
    rw [hm] at PC
    clear PC0
    go_enter Try.func60, Try.ntmps60
    go_upto_region 1 with fail
    generalize w.alloc (.cells #[.int .i64 x.k, .int .i64 x.s, .int .i64 x.a, .int .i64 x.b, .int .i64 x.c] 91) = w1 at *
    obtain ⟨gb, hgb⟩ : ∃ gb, gb = w.heap.size := ⟨_, rfl⟩
    rw [← hgb] at HX ⊢
    have HG := Lib.hid hgb
    clear hgb
    have r0 := HX.out
    have x0 := r0.cell 0 rfl
    have x1 := r0.cell 1 rfl
    have x2 := r0.cell 2 rfl
    have x3 := r0.cell 3 rfl
    have x4 := r0.cell 4 rfl
    have gl := r0.lt
    clear r0
    go_wp2_with (go_at_call 87; refine (PC.out).mono ?_; rintro e w2 ⟨rfl, hb2⟩; have HBB2 := Lib.hid hb2; clear hb2)
    have HE := Lib.hid (NetTo.same HW.out (HA.out.trans (HBB2.out.mono HA.out.size)))
    exact bodyPost_end (v := .tuple #[]) (by simp [results, Try.results60, go_sem]) rfl ⟨rfl, HE.out⟩
  | true =>
    have e0 : Nw.offered S x = { S with vph := 2, vss := x.s } := by unfold Nw.offered; rw [hm]; rfl
    rw [e0]
    clear e0
    have PC := Lib.hid (PC0.out)
    rw [hm] at PC
    clear PC0
    go_enter Try.func60, Try.ntmps60
    go_upto_region 1 with fail
    generalize w.alloc (.cells #[.int .i64 x.k, .int .i64 x.s, .int .i64 x.a, .int .i64 x.b, .int .i64 x.c] 91) = w1 at *
    obtain ⟨gb, hgb⟩ : ∃ gb, gb = w.heap.size := ⟨_, rfl⟩
    rw [← hgb] at HX ⊢
    have HG := Lib.hid hgb
    clear hgb
    have r0 := HX.out
    have x0 := r0.cell 0 rfl
    have x1 := r0.cell 1 rfl
    have x2 := r0.cell 2 rfl
    have x3 := r0.cell 3 rfl
    have x4 := r0.cell 4 rfl
    have gl := r0.lt
    clear r0
    go_upto_region 2 with (go_at_call 87; refine (PC.out).mono ?_; rintro e w2 ⟨rfl, hb2⟩; have HBB2 := Lib.hid hb2; clear hb2)
    have H2 := Lib.hid (H1.out.below HBB2.out)
    have HX2 := Lib.hid (HX.out.below HBB2.out HX.out.lt)
    have HA2 := Lib.hid (HA.out.trans (HBB2.out.mono HA.out.size))
    have HGL := Lib.hid (show n ≠ gb from by have := HW.out.lt; have := HG.out; omega)
    clear PC x0 x1 x2 x3 x4 gl HX H1 HA HBB HBB2
    refine wp_region_spine 7 [true] [] ?af (fun V => (∃ v, Blk V n 81 ((netC M D S).set 37 v)) ∧ Touch (fun k => k = n) w2 V ∧ Blk V gb 91 [.int .i64 x.k, .int .i64 x.s, .int .i64 x.a, .int .i64 x.b, .int .i64 x.c]) (by kernel_rfl) (by kernel_rfl) ⟨⟨.int .i64 S.vph, H2.out.blk.drew⟩, (Touch.refl _ _).drew, HX2.out.drew⟩ ?walk ?spine
    case walk =>
      rintro V ⟨⟨v, h1⟩, _, h3⟩
      have nl := h1.lt
      have gl := h3.lt
      have x1 := h3.cell 1 rfl
      clear h1 h3
      simp only [List.take_succ_cons, List.take_zero]
      repeat (go_big_quiet_step (fail))
      refine wpQuiet_nil ?_
      rfl
    case spine =>
      rintro V ⟨⟨v, h1⟩, h2, h3⟩
      have nl := h1.lt
      have c37 := h1.cell 37 rfl
      have f37 := h1.free 37
      have HB3 := Lib.hid (show Blk (V.setCell ⟨n, 37, none⟩ (.int .i64 2)) n 81 ((netC M D S).set 37 (.int .i64 2)) from by have h5 := h1.setCell 37 (.int .i64 2); rwa [List.set_set] at h5)
      have HT3 := Lib.hid (h2.put 37 (.int .i64 2))
      have HX3 := Lib.hid (h3.setCell_ne (p := ⟨n, 37, none⟩) (fun e => HGL.out e.symm) (.int .i64 2))
      clear h1 h2 h3
      refine spineV_cons ?_
      unfold StepV
      go_simp
      generalize V.setCell ⟨n, 37, none⟩ (.int .i64 2) = V1 at HB3 HT3 HX3 ⊢
      clear nl c37 f37
      refine ⟨⟨⟨_, HB3.out⟩, HT3.out, HX3.out⟩, ?_⟩
      refine spineV_nil ?_
      have nl := HB3.out.lt
      have c40 := HB3.out.cell 40 rfl
      have f40 := HB3.out.free 40
      go_wp2_with fail
      exact bodyPost_end (v := .tuple #[]) (by simp [results, Try.results60, go_sem]) rfl ⟨rfl, HW.out.toPut HA2.out (HT3.out.put 40 _) (HB3.out.setCell 40 _) rfl rfl rfl rfl rfl rfl rfl rfl rfl rfl rfl rfl rfl rfl⟩
end Go.Proofs.Ytlklnaebdnahcaa
namespace Go.Proofs.Ytlklnaebdnahcaa
open Go.RowKit Nw
theorem NetAt.stored {w w' : World} {B n base : Nat} {col : Nat → Nat} {D : Dl} {M : Mem} {S S' : St} (h : NetAt w B n col base D M S) (ht : Touch (fun k => k = n) w w') (hb : Blk w' n 81 (netC M D S'))
    (e1 : S'.L = S.L) (e2 : S'.fl = S.fl) (e3 : S'.pg.length = S.pg.length) (e4 : S'.vb = S.vb) (e5 : S'.vc = S.vc) (e6 : S'.sb = S.sb) (e7 : S'.po = S.po) (e8 : S'.us = S.us) (e9 : S'.ac = S.ac) (e10 : S'.cs = S.cs) (e11 : S'.sN = S.sN) (e12 : S'.pb = S.pb) (e13 : S'.pc = S.pc) (e14 : S'.pd = S.pd) :
    NetAt w' B n col base D M S' :=
  h.put (fun _ _ => rfl) e1 e2 e3 e4 e5 e6 e7 e8 e9 e10 e11 e12 e13 e14 (ht.mono (fun k e => .inl (by rw [e]; exact h.c0))) hb
theorem NetAt.tch {w w2 w' : World} {B n base : Nat} {col : Nat → Nat} {D : Dl} {M : Mem} {S : St} (h : NetAt w B n col base D M S) (hA : Below w.heap.size w w2) (ht : Touch (fun k => k = n) w2 w') : Touch (NetOwn col base) w w' :=
  (Touch.of_below (S := NetOwn col base) hA).then ht (fun k e => .inl (by rw [e]; exact h.own))
set_option maxRecDepth 100000 in
set_option maxHeartbeats 4000000 in
theorem refused_c {w : World} {B n base : Nat} {col : Nat → Nat} {D : Dl} {M : Mem} {S : St} (h : NetAt w B n col base D M S) (hB : B ≤ w.heap.size) (x : Nt) :
    Calls Try.prog 64 #[.pointer (some ⟨n, 0, none⟩), .agg #[.int .i64 x.k, .int .i64 x.s, .int .i64 x.a, .int .i64 x.b, .int .i64 x.c]] w fun e w' => e = .returned (.tuple #[]) ∧ NetTo w B n col base D (Nw.refused S x) w' := by
  have al := (Below.refl w.heap.size w).alloc (Nat.le_refl _) (.cells #[.int .i64 x.k, .int .i64 x.s, .int .i64 x.a, .int .i64 x.b, .int .i64 x.c] 91)
  have HX := Lib.hid (Blk.new' w #[.int .i64 x.k, .int .i64 x.s, .int .i64 x.a, .int .i64 x.b, .int .i64 x.c] 91)
  have H1 := Lib.hid (h.below al)
  have HA := Lib.hid al
  have HW := Lib.hid h
  have HBB := Lib.hid (Nat.le_trans hB al.size)
  clear h al hB
  have PC0 := Lib.hid (at_c H1.out 1 x)
  cases hm : Nw.atB S 1 x with
  | false =>
    have e0 : Nw.refused S x = S := by unfold Nw.refused; rw [hm]; rfl
    rw [e0]
    clear e0
    have PC := Lib.hid (PC0.out)
    rw [hm] at PC
    clear PC0
    go_enter Try.func64, Try.ntmps64
    go_upto_region 1 with fail
    generalize w.alloc (.cells #[.int .i64 x.k, .int .i64 x.s, .int .i64 x.a, .int .i64 x.b, .int .i64 x.c] 91) = w1 at *
    obtain ⟨gb, hgb⟩ : ∃ gb, gb = w.heap.size := ⟨_, rfl⟩
    rw [← hgb] at HX ⊢
    have HG := Lib.hid hgb
    clear hgb
    have r0 := HX.out
    have x0 := r0.cell 0 rfl
    have x1 := r0.cell 1 rfl
    have x2 := r0.cell 2 rfl
    have x3 := r0.cell 3 rfl
    have x4 := r0.cell 4 rfl
    have gl := r0.lt
    clear r0
    go_wp2_with (go_at_call 89; refine (PC.out).mono ?_; rintro e w2 ⟨rfl, hb2⟩; have HBB2 := Lib.hid hb2; clear hb2)
    have HE := Lib.hid (NetTo.same HW.out (HA.out.trans (HBB2.out.mono HA.out.size)))
    exact bodyPost_end (v := .tuple #[]) (by simp [results, Try.results64, go_sem]) rfl ⟨rfl, HE.out⟩
  | true =>
    have e0 : Nw.refused S x = Nw.reply { S with sph := 0 } 7 := by unfold Nw.refused; rw [hm]; rfl
    rw [e0]
    clear e0
    have PC := Lib.hid (PC0.out)
    rw [hm] at PC
    clear PC0
    go_enter Try.func64, Try.ntmps64
    go_upto_region 1 with fail
    generalize w.alloc (.cells #[.int .i64 x.k, .int .i64 x.s, .int .i64 x.a, .int .i64 x.b, .int .i64 x.c] 91) = w1 at *
    obtain ⟨gb, hgb⟩ : ∃ gb, gb = w.heap.size := ⟨_, rfl⟩
    rw [← hgb] at HX ⊢
    have HG := Lib.hid hgb
    clear hgb
    have r0 := HX.out
    have x0 := r0.cell 0 rfl
    have x1 := r0.cell 1 rfl
    have x2 := r0.cell 2 rfl
    have x3 := r0.cell 3 rfl
    have x4 := r0.cell 4 rfl
    have gl := r0.lt
    clear r0
    go_upto_region 2 with (go_at_call 89; refine (PC.out).mono ?_; rintro e w2 ⟨rfl, hb2⟩; have HBB2 := Lib.hid hb2; clear hb2)
    have HGL := Lib.hid (show n ≠ gb from by have := HW.out.lt; have := HG.out; omega)
    have H2 := Lib.hid (H1.out.below HBB2.out)
    have HX2 := Lib.hid (HX.out.below HBB2.out HX.out.lt)
    have HA2 := Lib.hid (HA.out.trans (HBB2.out.mono HA.out.size))
    have HB2 := Lib.hid (Nat.le_trans HBB.out HBB2.out.size)
    clear PC x0 x1 x2 x3 x4 gl HX H1 HA HBB HBB2
    have q0 : Blk _ n 81 (netC M D S) := (H2.out).blk
    have c43 := q0.cell 43 rfl
    have f43 := q0.free 43
    have nl := q0.lt
    clear q0
    go_upto_region 3 with fail
    have H3 := Lib.hid (show NetAt _ B n col base D M ({ S with sph := 0 }) from H2.out.stored ((Touch.refl _ _).put 43 (.int .i64 0)) ((H2.out.blk).setCell 43 (.int .i64 0)) rfl rfl rfl rfl rfl rfl rfl rfl rfl rfl rfl rfl rfl rfl)
    have HT3 := Lib.hid (HW.out.tch HA2.out ((Touch.refl _ _).put 43 (.int .i64 0)))
    have HX3 := Lib.hid (Blk.touch HX2.out ((Touch.refl _ _).put 43 (.int .i64 0)) (fun e => HGL.out e.symm))
    have HB3 := Lib.hid (Nat.le_trans HB2.out (show Touch (fun k => k = n) w2 _ from (Touch.refl _ _).put 43 (.int .i64 0)).size)
    generalize w2.setCell ⟨n, 43, none⟩ (.int .i64 0) = w3 at H3 HT3 HX3 HB3 ⊢
    clear c43 f43 nl H2 HX2 HA2 HB2
    go_wp2_with (go_at_call 90; refine (reply_c H3.out HB3.out 7).mono ?_; rintro e w4 ⟨rfl, hn⟩; have HN := Lib.hid (NetTo.before HT3.out hn); clear hn)
    exact bodyPost_end (v := .tuple #[]) (by simp [results, Try.results64, go_sem]) rfl ⟨rfl, HN.out⟩
set_option maxRecDepth 100000 in
set_option maxHeartbeats 4000000 in
theorem halted_c {w : World} {B n base : Nat} {col : Nat → Nat} {D : Dl} {M : Mem} {S : St} (h : NetAt w B n col base D M S) (hB : B ≤ w.heap.size) (x : Nt) :
    Calls Try.prog 67 #[.pointer (some ⟨n, 0, none⟩), .agg #[.int .i64 x.k, .int .i64 x.s, .int .i64 x.a, .int .i64 x.b, .int .i64 x.c]] w fun e w' => e = .returned (.tuple #[]) ∧ NetTo w B n col base D (Nw.halted S x) w' := by
  have al := (Below.refl w.heap.size w).alloc (Nat.le_refl _) (.cells #[.int .i64 x.k, .int .i64 x.s, .int .i64 x.a, .int .i64 x.b, .int .i64 x.c] 91)
  have HX := Lib.hid (Blk.new' w #[.int .i64 x.k, .int .i64 x.s, .int .i64 x.a, .int .i64 x.b, .int .i64 x.c] 91)
  have H1 := Lib.hid (h.below al)
  have HA := Lib.hid al
  have HW := Lib.hid h
  have HBB := Lib.hid (Nat.le_trans hB al.size)
  clear h al hB
  have PC0 := Lib.hid (at_c H1.out 2 x)
  cases hm : Nw.atB S 2 x with
  | false =>
    have e0 : Nw.halted S x = S := by unfold Nw.halted; rw [hm]; rfl
    rw [e0]
    clear e0
    have PC := Lib.hid (PC0.out)
    rw [hm] at PC
    clear PC0
    go_enter Try.func67, Try.ntmps67
    go_upto_region 1 with fail
    generalize w.alloc (.cells #[.int .i64 x.k, .int .i64 x.s, .int .i64 x.a, .int .i64 x.b, .int .i64 x.c] 91) = w1 at *
    obtain ⟨gb, hgb⟩ : ∃ gb, gb = w.heap.size := ⟨_, rfl⟩
    rw [← hgb] at HX ⊢
    have HG := Lib.hid hgb
    clear hgb
    have r0 := HX.out
    have x0 := r0.cell 0 rfl
    have x1 := r0.cell 1 rfl
    have x2 := r0.cell 2 rfl
    have x3 := r0.cell 3 rfl
    have x4 := r0.cell 4 rfl
    have gl := r0.lt
    clear r0
    go_wp2_with (go_at_call 89; refine (PC.out).mono ?_; rintro e w2 ⟨rfl, hb2⟩; have HBB2 := Lib.hid hb2; clear hb2)
    have HE := Lib.hid (NetTo.same HW.out (HA.out.trans (HBB2.out.mono HA.out.size)))
    exact bodyPost_end (v := .tuple #[]) (by simp [results, Try.results67, go_sem]) rfl ⟨rfl, HE.out⟩
  | true =>
    have e0 : Nw.halted S x = Nw.fin S := by unfold Nw.halted; rw [hm]; rfl
    rw [e0]
    clear e0
    have PC := Lib.hid (PC0.out)
    rw [hm] at PC
    clear PC0
    go_enter Try.func67, Try.ntmps67
    go_upto_region 1 with fail
    generalize w.alloc (.cells #[.int .i64 x.k, .int .i64 x.s, .int .i64 x.a, .int .i64 x.b, .int .i64 x.c] 91) = w1 at *
    obtain ⟨gb, hgb⟩ : ∃ gb, gb = w.heap.size := ⟨_, rfl⟩
    rw [← hgb] at HX ⊢
    have HG := Lib.hid hgb
    clear hgb
    have r0 := HX.out
    have x0 := r0.cell 0 rfl
    have x1 := r0.cell 1 rfl
    have x2 := r0.cell 2 rfl
    have x3 := r0.cell 3 rfl
    have x4 := r0.cell 4 rfl
    have gl := r0.lt
    clear r0
    go_upto_region 2 with (go_at_call 89; refine (PC.out).mono ?_; rintro e w2 ⟨rfl, hb2⟩; have HBB2 := Lib.hid hb2; clear hb2)
    have HGL := Lib.hid (show n ≠ gb from by have := HW.out.lt; have := HG.out; omega)
    have H2 := Lib.hid (H1.out.below HBB2.out)
    have HX2 := Lib.hid (HX.out.below HBB2.out HX.out.lt)
    have HA2 := Lib.hid (HA.out.trans (HBB2.out.mono HA.out.size))
    have HB2 := Lib.hid (Nat.le_trans HBB.out HBB2.out.size)
    clear PC x0 x1 x2 x3 x4 gl HX H1 HA HBB HBB2
    have q0 : Blk _ n 81 (netC M D S) := (H2.out).blk
    have c43 := q0.cell 43 rfl
    have f43 := q0.free 43
    have nl := q0.lt
    clear q0
    go_wp2_with (go_at_call 42; refine (fin_c H2.out HB2.out).mono ?_; rintro e w4 ⟨rfl, hn⟩; have HN := Lib.hid (NetTo.before (Touch.of_below HA2.out) hn); clear hn)
    exact bodyPost_end (v := .tuple #[]) (by simp [results, Try.results67, go_sem]) rfl ⟨rfl, HN.out⟩
set_option maxRecDepth 100000 in
set_option maxHeartbeats 4000000 in
theorem acked_c {w : World} {B n base : Nat} {col : Nat → Nat} {D : Dl} {M : Mem} {S : St} (h : NetAt w B n col base D M S) (hB : B ≤ w.heap.size) (x : Nt) :
    Calls Try.prog 66 #[.pointer (some ⟨n, 0, none⟩), .agg #[.int .i64 x.k, .int .i64 x.s, .int .i64 x.a, .int .i64 x.b, .int .i64 x.c]] w fun e w' => e = .returned (.tuple #[]) ∧ NetTo w B n col base D (Nw.acked S x) w' := by
  have al := (Below.refl w.heap.size w).alloc (Nat.le_refl _) (.cells #[.int .i64 x.k, .int .i64 x.s, .int .i64 x.a, .int .i64 x.b, .int .i64 x.c] 91)
  have HX := Lib.hid (Blk.new' w #[.int .i64 x.k, .int .i64 x.s, .int .i64 x.a, .int .i64 x.b, .int .i64 x.c] 91)
  have H1 := Lib.hid (h.below al)
  have HA := Lib.hid al
  have HW := Lib.hid h
  have HBB := Lib.hid (Nat.le_trans hB al.size)
  clear h al hB
  have PC0 := Lib.hid (at_c H1.out 2 x)
  cases hm : Nw.atB S 2 x with
  | false =>
    have e0 : Nw.acked S x = S := by unfold Nw.acked; rw [hm]; rfl
    rw [e0]
    clear e0
    have PC := Lib.hid (PC0.out)
    rw [hm] at PC
    clear PC0
    go_enter Try.func66, Try.ntmps66
    go_upto_region 1 with fail
    generalize w.alloc (.cells #[.int .i64 x.k, .int .i64 x.s, .int .i64 x.a, .int .i64 x.b, .int .i64 x.c] 91) = w1 at *
    obtain ⟨gb, hgb⟩ : ∃ gb, gb = w.heap.size := ⟨_, rfl⟩
    rw [← hgb] at HX ⊢
    have HG := Lib.hid hgb
    clear hgb
    have r0 := HX.out
    have x0 := r0.cell 0 rfl
    have x1 := r0.cell 1 rfl
    have x2 := r0.cell 2 rfl
    have x3 := r0.cell 3 rfl
    have x4 := r0.cell 4 rfl
    have gl := r0.lt
    clear r0
    go_wp2_with (go_at_call 89; refine (PC.out).mono ?_; rintro e w2 ⟨rfl, hb2⟩; have HBB2 := Lib.hid hb2; clear hb2)
    have HE := Lib.hid (NetTo.same HW.out (HA.out.trans (HBB2.out.mono HA.out.size)))
    exact bodyPost_end (v := .tuple #[]) (by simp [results, Try.results66, go_sem]) rfl ⟨rfl, HE.out⟩
  | true =>
    have e0 : Nw.acked S x = { S with opn := max 0 (Nw.wr (S.opn - 1)) } := by unfold Nw.acked; rw [hm]; rfl
    rw [e0]
    clear e0
    have PC := Lib.hid (PC0.out)
    rw [hm] at PC
    clear PC0
    go_enter Try.func66, Try.ntmps66
    go_upto_region 1 with fail
    generalize w.alloc (.cells #[.int .i64 x.k, .int .i64 x.s, .int .i64 x.a, .int .i64 x.b, .int .i64 x.c] 91) = w1 at *
    obtain ⟨gb, hgb⟩ : ∃ gb, gb = w.heap.size := ⟨_, rfl⟩
    rw [← hgb] at HX ⊢
    have HG := Lib.hid hgb
    clear hgb
    have r0 := HX.out
    have x0 := r0.cell 0 rfl
    have x1 := r0.cell 1 rfl
    have x2 := r0.cell 2 rfl
    have x3 := r0.cell 3 rfl
    have x4 := r0.cell 4 rfl
    have gl := r0.lt
    clear r0
    go_upto_region 2 with (go_at_call 89; refine (PC.out).mono ?_; rintro e w2 ⟨rfl, hb2⟩; have HBB2 := Lib.hid hb2; clear hb2)
    have HGL := Lib.hid (show n ≠ gb from by have := HW.out.lt; have := HG.out; omega)
    have H2 := Lib.hid (H1.out.below HBB2.out)
    have HX2 := Lib.hid (HX.out.below HBB2.out HX.out.lt)
    have HA2 := Lib.hid (HA.out.trans (HBB2.out.mono HA.out.size))
    have HB2 := Lib.hid (Nat.le_trans HBB.out HBB2.out.size)
    clear PC x0 x1 x2 x3 x4 gl HX H1 HA HBB HBB2
    have q0 : Blk _ n 81 (netC M D S) := (H2.out).blk
    have c50 := q0.cell 50 rfl
    have f50 := q0.free 50
    have nl := q0.lt
    clear q0
    go_wp2_with fail
    all_goals
      first
      | have em : max 0 (Nw.wr (S.opn - 1)) = wrap64 (S.opn - 1) := by
          unfold Nw.wr
          skip
          omega
        rw [em]
        exact bodyPost_end (v := .tuple #[]) (by simp [results, Try.results66, go_sem]) rfl ⟨rfl, HW.out.toPut HA2.out ((Touch.refl _ _).put 50 (.int .i64 (wrap64 (S.opn - 1)))) (H2.out.blk.setCell 50 (.int .i64 (wrap64 (S.opn - 1)))) rfl rfl rfl rfl rfl rfl rfl rfl rfl rfl rfl rfl rfl rfl⟩
      | have em : max 0 (Nw.wr (S.opn - 1)) = 0 := by
          unfold Nw.wr
          skip
          omega
        rw [em]
        exact bodyPost_end (v := .tuple #[]) (by simp [results, Try.results66, go_sem]) rfl ⟨rfl, HW.out.toPut HA2.out ((Touch.refl _ _).put 50 (.int .i64 (0))) (H2.out.blk.setCell 50 (.int .i64 (0))) rfl rfl rfl rfl rfl rfl rfl rfl rfl rfl rfl rfl rfl rfl⟩
set_option maxRecDepth 100000 in
set_option maxHeartbeats 4000000 in
theorem started_c {w : World} {B n base : Nat} {col : Nat → Nat} {D : Dl} {M : Mem} {S : St} (h : NetAt w B n col base D M S) (hB : B ≤ w.heap.size) (x : Nt) :
    Calls Try.prog 65 #[.pointer (some ⟨n, 0, none⟩), .agg #[.int .i64 x.k, .int .i64 x.s, .int .i64 x.a, .int .i64 x.b, .int .i64 x.c]] w fun e w' => e = .returned (.tuple #[]) ∧ NetTo w B n col base D (Nw.started S x) w' := by
  have al := (Below.refl w.heap.size w).alloc (Nat.le_refl _) (.cells #[.int .i64 x.k, .int .i64 x.s, .int .i64 x.a, .int .i64 x.b, .int .i64 x.c] 91)
  have HX := Lib.hid (Blk.new' w #[.int .i64 x.k, .int .i64 x.s, .int .i64 x.a, .int .i64 x.b, .int .i64 x.c] 91)
  have H1 := Lib.hid (h.below al)
  have HA := Lib.hid al
  have HW := Lib.hid h
  have HBB := Lib.hid (Nat.le_trans hB al.size)
  clear h al hB
  have PC0 := Lib.hid (at_c H1.out 1 x)
  cases hm : Nw.atB S 1 x with
  | false =>
    have e0 : Nw.started S x = S := by unfold Nw.started; rw [hm]; rfl
    rw [e0]
    clear e0
    have PC := Lib.hid (PC0.out)
    rw [hm] at PC
    clear PC0
    go_enter Try.func65, Try.ntmps65
    go_upto_region 1 with fail
    generalize w.alloc (.cells #[.int .i64 x.k, .int .i64 x.s, .int .i64 x.a, .int .i64 x.b, .int .i64 x.c] 91) = w1 at *
    obtain ⟨gb, hgb⟩ : ∃ gb, gb = w.heap.size := ⟨_, rfl⟩
    rw [← hgb] at HX ⊢
    have HG := Lib.hid hgb
    clear hgb
    have r0 := HX.out
    have x0 := r0.cell 0 rfl
    have x1 := r0.cell 1 rfl
    have x2 := r0.cell 2 rfl
    have x3 := r0.cell 3 rfl
    have x4 := r0.cell 4 rfl
    have gl := r0.lt
    clear r0
    go_wp2_with (go_at_call 89; refine (PC.out).mono ?_; rintro e w2 ⟨rfl, hb2⟩; have HBB2 := Lib.hid hb2; clear hb2)
    have HE := Lib.hid (NetTo.same HW.out (HA.out.trans (HBB2.out.mono HA.out.size)))
    exact bodyPost_ret (v := .tuple #[]) (by simp [results, Try.results65, go_sem]) rfl ⟨rfl, HE.out⟩
  | true =>
    have PC := Lib.hid (PC0.out)
    rw [hm] at PC
    clear PC0
    cases hgo : S.gone with
    | true =>
      have e0 : Nw.started S x = Nw.fin S := by unfold Nw.started; rw [hm, hgo]; rfl
      rw [e0]
      clear e0
      go_enter Try.func65, Try.ntmps65
      go_upto_region 1 with fail
      generalize w.alloc (.cells #[.int .i64 x.k, .int .i64 x.s, .int .i64 x.a, .int .i64 x.b, .int .i64 x.c] 91) = w1 at *
      obtain ⟨gb, hgb⟩ : ∃ gb, gb = w.heap.size := ⟨_, rfl⟩
      rw [← hgb] at HX ⊢
      have HG := Lib.hid hgb
      clear hgb
      have r0 := HX.out
      have x0 := r0.cell 0 rfl
      have x1 := r0.cell 1 rfl
      have x2 := r0.cell 2 rfl
      have x3 := r0.cell 3 rfl
      have x4 := r0.cell 4 rfl
      have gl := r0.lt
      clear r0
      go_upto_region 2 with (go_at_call 89; refine (PC.out).mono ?_; rintro e w2 ⟨rfl, hb2⟩; have HBB2 := Lib.hid hb2; clear hb2)
      have HGL := Lib.hid (show n ≠ gb from by have := HW.out.lt; have := HG.out; omega)
      have H2 := Lib.hid (H1.out.below HBB2.out)
      have HX2 := Lib.hid (HX.out.below HBB2.out HX.out.lt)
      have HA2 := Lib.hid (HA.out.trans (HBB2.out.mono HA.out.size))
      have HB2 := Lib.hid (Nat.le_trans HBB.out HBB2.out.size)
      clear PC x0 x1 x2 x3 x4 gl HX H1 HA HBB HBB2
      have q0 : Blk _ n 81 (netC M D S) := (H2.out).blk
      have c47 := q0.cell 47 rfl
      have c43 := q0.cell 43 rfl
      have c51 := q0.cell 51 rfl
      have f43 := q0.free 43
      have f51 := q0.free 51
      have nl := q0.lt
      clear q0
      rw [hgo] at c47
      go_wp2_with (go_at_call 42; refine (fin_c H2.out HB2.out).mono ?_; rintro e w4 ⟨rfl, hn⟩; have HN := Lib.hid (NetTo.before (Touch.of_below HA2.out) hn); clear hn)
      exact bodyPost_ret (v := .tuple #[]) (by simp [results, Try.results65, go_sem]) rfl ⟨rfl, HN.out⟩
    | false =>
      have e0 : Nw.started S x = Nw.reply { S with sph := 2, tks := 0 } 8 := by unfold Nw.started; rw [hm, hgo]; rfl
      rw [e0]
      clear e0
      go_enter Try.func65, Try.ntmps65
      go_upto_region 1 with fail
      generalize w.alloc (.cells #[.int .i64 x.k, .int .i64 x.s, .int .i64 x.a, .int .i64 x.b, .int .i64 x.c] 91) = w1 at *
      obtain ⟨gb, hgb⟩ : ∃ gb, gb = w.heap.size := ⟨_, rfl⟩
      rw [← hgb] at HX ⊢
      have HG := Lib.hid hgb
      clear hgb
      have r0 := HX.out
      have x0 := r0.cell 0 rfl
      have x1 := r0.cell 1 rfl
      have x2 := r0.cell 2 rfl
      have x3 := r0.cell 3 rfl
      have x4 := r0.cell 4 rfl
      have gl := r0.lt
      clear r0
      go_upto_region 2 with (go_at_call 89; refine (PC.out).mono ?_; rintro e w2 ⟨rfl, hb2⟩; have HBB2 := Lib.hid hb2; clear hb2)
      have HGL := Lib.hid (show n ≠ gb from by have := HW.out.lt; have := HG.out; omega)
      have H2 := Lib.hid (H1.out.below HBB2.out)
      have HX2 := Lib.hid (HX.out.below HBB2.out HX.out.lt)
      have HA2 := Lib.hid (HA.out.trans (HBB2.out.mono HA.out.size))
      have HB2 := Lib.hid (Nat.le_trans HBB.out HBB2.out.size)
      clear PC x0 x1 x2 x3 x4 gl HX H1 HA HBB HBB2
      have q0 : Blk _ n 81 (netC M D S) := (H2.out).blk
      have c47 := q0.cell 47 rfl
      have c43 := q0.cell 43 rfl
      have c51 := q0.cell 51 rfl
      have f43 := q0.free 43
      have f51 := q0.free 51
      have nl := q0.lt
      clear q0
      rw [hgo] at c47
      go_upto_region 5 with fail
      clear c47
      have H3 := Lib.hid (show NetAt _ B n col base D M ({ S with sph := 2, tks := 0 }) from H2.out.stored (((Touch.refl _ _).put 43 (.int .i64 2)).put 51 (.int .i64 0)) (((H2.out.blk).setCell 43 (.int .i64 2)).setCell 51 (.int .i64 0)) rfl rfl rfl rfl rfl rfl rfl rfl rfl rfl rfl rfl rfl rfl)
      have HT3 := Lib.hid (HW.out.tch HA2.out (((Touch.refl _ _).put 43 (.int .i64 2)).put 51 (.int .i64 0)))
      have HX3 := Lib.hid (Blk.touch HX2.out (((Touch.refl _ _).put 43 (.int .i64 2)).put 51 (.int .i64 0)) (fun e => HGL.out e.symm))
      have HB3 := Lib.hid (Nat.le_trans HB2.out (show Touch (fun k => k = n) w2 _ from ((Touch.refl _ _).put 43 (.int .i64 2)).put 51 (.int .i64 0)).size)
      generalize (w2.setCell ⟨n, 43, none⟩ (.int .i64 2)).setCell ⟨n, 51, none⟩ (.int .i64 0) = w3 at H3 HT3 HX3 HB3 ⊢
      clear c43 f43 c51 f51 nl H2 HX2 HA2 HB2
      go_wp2_with (go_at_call 90; refine (reply_c H3.out HB3.out 8).mono ?_; rintro e w4 ⟨rfl, hn⟩; have HN := Lib.hid (NetTo.before HT3.out hn); clear hn)
      exact bodyPost_end (v := .tuple #[]) (by simp [results, Try.results65, go_sem]) rfl ⟨rfl, HN.out⟩
end Go.Proofs.Ytlklnaebdnahcaa
