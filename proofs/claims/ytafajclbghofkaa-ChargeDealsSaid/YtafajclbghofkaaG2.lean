/- Contracts of CheckDeal of charge and of coulombref09. -/
import Derived.Test.YtafajclbghofkaaG1
import Derived.Test.YtafajclbghofkaaA3
namespace Go.Proofs.Ytafajclbghofkaa
open Go.RowKit
set_option linter.unusedVariables false

/-- a contract -/
structure Ct where
  pt : Int
  A : Option Addr
  cap : Nat
  ps : List Int
instance : Inhabited Ct := ⟨⟨0, none, 0, []⟩⟩
namespace Ct
def v (c : Ct) : Value := .agg #[.int .u64 c.pt, .slice c.A c.ps.length c.cap]
def At (w : World) (c : Ct) : Prop := PadsAt w c.A c.ps ∧ c.ps.length ≤ c.cap ∧ c.cap ≤ 9223372036854775807
theorem At.below {w w1 : World} {c : Ct} (h : At w c) (hb : Below w.heap.size w w1) : At w1 c := ⟨h.1.below hb, h.2⟩
end Ct
/-- a slice's contracts -/
def CtsAt (w : World) (C : Option Addr) (cs : List Ct) : Prop := ∀ i, i < cs.length → ∃ ad, C = some ad ∧ ad.block < w.heap.size ∧ w.cell? (ad.add (i * 2)) = some (.int .u64 (cs.getD i default).pt) ∧
  w.cell? ⟨(ad.add (i * 2)).block, (ad.add (i * 2)).off + 1, none⟩ = some (.slice (cs.getD i default).A (cs.getD i default).ps.length (cs.getD i default).cap) ∧ Ct.At w (cs.getD i default)
theorem CtsAt.below {w w1 : World} {C : Option Addr} {cs : List Ct} (h : CtsAt w C cs) (hb : Below w.heap.size w w1) : CtsAt w1 C cs := by
  intro i hi
  obtain ⟨ad, e, hlt, c0, c1, ha⟩ := h i hi
  have hbl : (ad.add (i * 2)).block < w.heap.size := by rw [block_of_add]; exact hlt
  exact ⟨ad, e, Nat.lt_of_lt_of_le hlt hb.size, (hb.cell hbl).trans c0, (hb.cell (p := ⟨_, _, none⟩) hbl).trans c1, ha.below hb⟩
namespace Cv
def ctsOk (cs : List Ct) : Bool := cs.all (fun c => ctOk c.pt c.ps)
theorem ctsOk_iff {cs : List Ct} : ctsOk cs = true ↔ ∀ i, i < cs.length → ctOk (cs.getD i default).pt (cs.getD i default).ps = true := by
  unfold ctsOk
  rw [List.all_eq_true]
  constructor
  · intro h i hi
    exact h (cs.getD i default) (by rw [List.getD_eq_getElem?_getD, List.getElem?_eq_getElem hi]; exact List.getElem_mem hi)
  · intro h x hx
    obtain ⟨i, hi, rfl⟩ := List.getElem_of_mem hx
    have := h i hi
    rw [List.getD_eq_getElem?_getD, List.getElem?_eq_getElem hi] at this
    exact this
theorem ctsOk_no {cs : List Ct} {k : Nat} (hk : k < cs.length) (h : ctOk (cs.getD k default).pt (cs.getD k default).ps = false) : ctsOk cs = false := by
  cases hp : ctsOk cs
  · rfl
  · have := ctsOk_iff.1 hp k hk; rw [h] at this; cases this
/-- what CheckDeal says -/
def deE (te : Int) (n : Nat) (ok : Bool) (cr ev sl dr bk : Int) : Int := if te = 0 ∧ 1 ≤ n ∧ n ≤ 16 ∧ ok = true ∧ inB cr 0 1099511627776 = true ∧ 1 ≤ ev ∧ ev ≤ 1000 ∧ 1 ≤ sl ∧ sl ≤ 20 ∧ inB dr 0 1073741824 = true ∧ inB bk 0 1073741824 = true then 0 else 2
theorem deE_no {te : Int} {n : Nat} {ok : Bool} {cr ev sl dr bk : Int} (h : ¬ (te = 0 ∧ 1 ≤ n ∧ n ≤ 16 ∧ ok = true ∧ inB cr 0 1099511627776 = true ∧ 1 ≤ ev ∧ ev ≤ 1000 ∧ 1 ≤ sl ∧ sl ≤ 20 ∧ inB dr 0 1073741824 = true ∧ inB bk 0 1073741824 = true)) : deE te n ok cr ev sl dr bk = 2 := if_neg h
theorem deE_yes {te : Int} {n : Nat} {ok : Bool} {cr ev sl dr bk : Int} (h : te = 0 ∧ 1 ≤ n ∧ n ≤ 16 ∧ ok = true ∧ inB cr 0 1099511627776 = true ∧ 1 ≤ ev ∧ ev ≤ 1000 ∧ 1 ≤ sl ∧ sl ≤ 20 ∧ inB dr 0 1073741824 = true ∧ inB bk 0 1073741824 = true) : deE te n ok cr ev sl dr bk = 0 := if_pos h
end Cv

theorem badContract_c (c : Ct) (w : World) (h : c.At w) : Calls Try.prog 68 #[c.v] w fun e w' => e = .returned (.bool (!Cv.ctOk c.pt c.ps)) ∧ Below w.heap.size w w' := by
  have hc := checkContract_c c.pt c.A c.ps c.cap _ h.2.1 h.2.2 (h.1.below ((Below.refl w.heap.size w).alloc (Nat.le_refl _) (.cells #[.int .u64 c.pt, .slice c.A c.ps.length c.cap] 86)))
  clear h
  unfold Ct.v
  generalize Cv.ctOk c.pt c.ps = b at *
  go_enter Try.func68, Try.ntmps68
  go_wp2_with (go_at_call 62; refine hc.mono ?_; rintro e w' ⟨rfl, hb⟩; have HB := Lib.hid (((Below.refl w.heap.size w).alloc (Nat.le_refl _) _).trans (hb.mono (by simp))); clear hb)
  go_ret
  exact ⟨rfl, HB.out⟩

set_option maxHeartbeats 1000000 in
theorem idxCts_c (C : Option Addr) (cs : List Ct) (cap : Nat) (w : World) (hcap : cs.length ≤ cap) (hl : cap ≤ 9223372036854775807) (hw : CtsAt w C cs) :
    Calls Try.prog 87 #[.slice C cs.length cap, .func (.func 68) #[] #[]] w (IdxR (!Cv.ctsOk cs) (fun w' => Below w.heap.size w w')) := by
  have HW := Lib.hid hw
  clear hw
  go_enter Try.func87, Try.ntmps87
  go_wp2
  go_loopw [8] (fun i wr => ∃ k : Nat, k ≤ cs.length ∧ i = .int .i64 k ∧ Hid (∀ j, j < k → Cv.ctOk (cs.getD j default).pt (cs.getD j default).ps = true) ∧ Hid (Below w.heap.size w wr)) (fun i _ => cs.length - (intOf i).toNat)
  case atStart => exact ⟨0, Nat.zero_le _, rfl, Lib.hid (fun j hj => absurd hj (Nat.not_lt_zero _)), Lib.hid (Below.refl _ _)⟩
  case round =>
    obtain ⟨k, hk, rfl, HA, HB⟩ := hrel
    by_cases hlt : k < cs.length
    · obtain ⟨ad, rfl, hlb, c0, c1, ha⟩ := HW.out.below HB.out k hlt
      have hc := badContract_c _ _ ha
      have HNo := Lib.hid (Cv.ctsOk_no hlt)
      have HYes := Lib.hid (fun (h : Cv.ctOk (cs.getD k default).pt (cs.getD k default).ps = true) j (hj : j < k + 1) => (by
        by_cases e : j = k
        · subst e; exact h
        · exact HA.out j (by omega) : Cv.ctOk (cs.getD j default).pt (cs.getD j default).ps = true))
      clear ha
      generalize cs.getD k default = c at *
      unfold Ct.v at hc
      cases hb : Cv.ctOk c.pt c.ps
      · have HN := Lib.hid (HNo.out hb)
        rw [hb] at hc
        clear hb
        go_wp2_with (go_at_call 68; refine hc.mono ?_; rintro e w' ⟨rfl, hb⟩; have HB2 := Lib.hid (HB.out.trans (hb.mono HB.out.size)); clear hb)
        go_ret
        exact ⟨_, rfl, by rw [HN.out]; simp, HB2.out⟩
      · have HN := Lib.hid (HYes.out hb)
        rw [hb] at hc
        clear hb
        go_wp2_with (go_at_call 68; refine hc.mono ?_; rintro e w' ⟨rfl, hb⟩; have HB2 := Lib.hid (HB.out.trans (hb.mono HB.out.size)); clear hb)
        go_roundw
        case rel => exact ⟨k + 1, by omega, by go_num, HN, HB2⟩
        case measure => simp [intOf]; omega
    · have e : k = cs.length := by omega
      subst e
      have HN := Lib.hid (Cv.ctsOk_iff.2 HA.out)
      go_wp2
      go_ret
      exact ⟨_, rfl, by rw [HN.out]; rfl, HB.out⟩
theorem anyCts_c (C : Option Addr) (cs : List Ct) (cap : Nat) (w : World) (hcap : cs.length ≤ cap) (hl : cap ≤ 9223372036854775807) (hw : CtsAt w C cs) :
    Calls Try.prog 67 #[.slice C cs.length cap, .func (.func 68) #[] #[]] w fun e w' => e = .returned (.bool (!Cv.ctsOk cs)) ∧ Below w.heap.size w w' := by
  have hc := idxCts_c C cs cap w hcap hl hw
  clear hw
  go_enter Try.func67, Try.ntmps67
  go_wp2_with (go_at_call 87; refine hc.mono ?_; rintro e w' ⟨r, rfl, hr, hb⟩; have HR := Lib.hid hr; have HB := Lib.hid hb; clear hr hb)
  go_ret
  exact ⟨ret_bool HR.out, HB.out⟩

/-- a deal's value -/
abbrev dealV (day fee : Int) (A : Option Addr) (bs : List Bd) (cap : Nat) (C : Option Addr) (cs : List Ct) (cc : Nat) (cr ev sl dr bk : Int) : Value :=
  .agg #[.int .i64 day, .slice A bs.length cap, .int .i64 fee, .slice C cs.length cc, .int .i64 cr, .int .i64 ev, .int .i64 sl, .int .i64 dr, .int .i64 bk]

set_option maxRecDepth 100000 in
set_option maxHeartbeats 4000000 in
theorem CheckDeal_c (day fee : Int) (A : Option Addr) (bs : List Bd) (cap : Nat) (C : Option Addr) (cs : List Ct) (cc : Nat) (cr ev sl dr bk : Int) (w : World) (hcap : bs.length ≤ cap) (hl : cap ≤ 9223372036854775807) (hw : BandsAt w A bs) (hcc : cs.length ≤ cc) (hl2 : cc ≤ 9223372036854775807) (hw2 : CtsAt w C cs) :
    Calls Try.prog 39 #[dealV day fee A bs cap C cs cc cr ev sl dr bk] w fun e w' => e = .returned (.int .i64 (Cv.deE (Cv.tarE day fee bs) cs.length (Cv.ctsOk cs) cr ev sl dr bk)) ∧ Below w.heap.size w w' := by
  have h17 := fun w0 hw0 => CheckTariff_c day fee A bs cap w0 hcap hl hw0
  have h67 := fun w0 hw0 => anyCts_c C cs cc w0 hcc hl2 hw0
  have HBW := fun w0 => Lib.hid (BandsAt.below (w1 := w0) hw)
  have HCW := fun w0 => Lib.hid (CtsAt.below (w1 := w0) hw2)
  have h51a := fun w0 => within_c cr 0 1099511627776 w0
  have h51b := fun w0 => within_c dr 0 1073741824 w0
  have h51c := fun w0 => within_c bk 0 1073741824 w0
  have hn63 : bs.length ≤ 9223372036854775807 := by omega
  have hm63 : cs.length ≤ 9223372036854775807 := by omega
  clear hw hw2
  generalize hte : Cv.tarE day fee bs = te at *
  generalize hok : Cv.ctsOk cs = ok at *
  clear hte hok
  have HE0 := Lib.hid (@Cv.deE_no te cs.length ok cr ev sl dr bk)
  have HE1 := Lib.hid (@Cv.deE_yes te cs.length ok cr ev sl dr bk)
  generalize Cv.deE te cs.length ok cr ev sl dr bk = de at *
  by_cases hq0 : te = 0
  rotate_left 1
  · have q0 : (te == 0) = false := by simpa using hq0
    have HN := Lib.hid (HE0.out (fun h => hq0 (by omega)))
    clear hq0 HE0 HE1
    go_enter Try.func39, Try.ntmps39
    go_wp2_with (first | (go_at_call 17; refine (h17 _ ((HBW _).out ((Below.refl _ _).alloc (Nat.le_refl _) _))).mono ?_; rintro e w1 ⟨rfl, hb⟩; have B1 := Lib.hid (((Below.refl w.heap.size w).alloc (Nat.le_refl _) _).trans (hb.mono (by simp))); have t3 : w1.cell? ⟨w.heap.size, 3, none⟩ = some (.slice C cs.length cc) := below_cell hb (by simp) (by go_simp); have t4 : w1.cell? ⟨w.heap.size, 4, none⟩ = some (.int .i64 cr) := below_cell hb (by simp) (by go_simp); have t5 : w1.cell? ⟨w.heap.size, 5, none⟩ = some (.int .i64 ev) := below_cell hb (by simp) (by go_simp); have t6 : w1.cell? ⟨w.heap.size, 6, none⟩ = some (.int .i64 sl) := below_cell hb (by simp) (by go_simp); have t7 : w1.cell? ⟨w.heap.size, 7, none⟩ = some (.int .i64 dr) := below_cell hb (by simp) (by go_simp); have t8 : w1.cell? ⟨w.heap.size, 8, none⟩ = some (.int .i64 bk) := below_cell hb (by simp) (by go_simp); have z1 : w.heap.size < w1.heap.size := (by have := hb.size; simp at this; omega); clear hb) | (go_at_call 67; refine (h67 _ ((HCW _).out B1.out)).mono ?_; rintro e w2 ⟨rfl, hb⟩; have B2 := Lib.hid (B1.out.trans (hb.mono B1.out.size)); have u4 : w2.cell? ⟨w.heap.size, 4, none⟩ = some (.int .i64 cr) := below_cell hb z1 t4; have u5 : w2.cell? ⟨w.heap.size, 5, none⟩ = some (.int .i64 ev) := below_cell hb z1 t5; have u6 : w2.cell? ⟨w.heap.size, 6, none⟩ = some (.int .i64 sl) := below_cell hb z1 t6; have u7 : w2.cell? ⟨w.heap.size, 7, none⟩ = some (.int .i64 dr) := below_cell hb z1 t7; have u8 : w2.cell? ⟨w.heap.size, 8, none⟩ = some (.int .i64 bk) := below_cell hb z1 t8; clear hb) | (go_at_call 51; first | ((with_reducible refine (h51a _).mono ?_); rintro e w3 ⟨rfl, rfl⟩) | ((with_reducible refine (h51b _).mono ?_); rintro e w3 ⟨rfl, rfl⟩) | ((with_reducible refine (h51c _).mono ?_); rintro e w3 ⟨rfl, rfl⟩)))
    go_ret
    exact ⟨ret_int HN.out.symm, B1.out⟩
  have q0 : (te == 0) = true := by simpa using hq0
  by_cases hq1 : 1 ≤ cs.length
  rotate_left 1
  · have q1 : decide (1 ≤ (cs.length : Int)) = false := decide_eq_false (by omega)
    have HN := Lib.hid (HE0.out (fun h => hq1 (by omega)))
    clear hq0 hq1 HE0 HE1
    go_enter Try.func39, Try.ntmps39
    go_wp2_with (first | (go_at_call 17; refine (h17 _ ((HBW _).out ((Below.refl _ _).alloc (Nat.le_refl _) _))).mono ?_; rintro e w1 ⟨rfl, hb⟩; have B1 := Lib.hid (((Below.refl w.heap.size w).alloc (Nat.le_refl _) _).trans (hb.mono (by simp))); have t3 : w1.cell? ⟨w.heap.size, 3, none⟩ = some (.slice C cs.length cc) := below_cell hb (by simp) (by go_simp); have t4 : w1.cell? ⟨w.heap.size, 4, none⟩ = some (.int .i64 cr) := below_cell hb (by simp) (by go_simp); have t5 : w1.cell? ⟨w.heap.size, 5, none⟩ = some (.int .i64 ev) := below_cell hb (by simp) (by go_simp); have t6 : w1.cell? ⟨w.heap.size, 6, none⟩ = some (.int .i64 sl) := below_cell hb (by simp) (by go_simp); have t7 : w1.cell? ⟨w.heap.size, 7, none⟩ = some (.int .i64 dr) := below_cell hb (by simp) (by go_simp); have t8 : w1.cell? ⟨w.heap.size, 8, none⟩ = some (.int .i64 bk) := below_cell hb (by simp) (by go_simp); have z1 : w.heap.size < w1.heap.size := (by have := hb.size; simp at this; omega); clear hb) | (go_at_call 67; refine (h67 _ ((HCW _).out B1.out)).mono ?_; rintro e w2 ⟨rfl, hb⟩; have B2 := Lib.hid (B1.out.trans (hb.mono B1.out.size)); have u4 : w2.cell? ⟨w.heap.size, 4, none⟩ = some (.int .i64 cr) := below_cell hb z1 t4; have u5 : w2.cell? ⟨w.heap.size, 5, none⟩ = some (.int .i64 ev) := below_cell hb z1 t5; have u6 : w2.cell? ⟨w.heap.size, 6, none⟩ = some (.int .i64 sl) := below_cell hb z1 t6; have u7 : w2.cell? ⟨w.heap.size, 7, none⟩ = some (.int .i64 dr) := below_cell hb z1 t7; have u8 : w2.cell? ⟨w.heap.size, 8, none⟩ = some (.int .i64 bk) := below_cell hb z1 t8; clear hb) | (go_at_call 51; first | ((with_reducible refine (h51a _).mono ?_); rintro e w3 ⟨rfl, rfl⟩) | ((with_reducible refine (h51b _).mono ?_); rintro e w3 ⟨rfl, rfl⟩) | ((with_reducible refine (h51c _).mono ?_); rintro e w3 ⟨rfl, rfl⟩)))
    go_ret
    exact ⟨ret_int HN.out.symm, B1.out⟩
  have q1 : decide (1 ≤ (cs.length : Int)) = true := decide_eq_true (by omega)
  by_cases hq2 : cs.length ≤ 16
  rotate_left 1
  · have q2 : decide ((cs.length : Int) ≤ 16) = false := decide_eq_false (by omega)
    have HN := Lib.hid (HE0.out (fun h => hq2 (by omega)))
    clear hq0 hq1 hq2 HE0 HE1
    go_enter Try.func39, Try.ntmps39
    go_wp2_with (first | (go_at_call 17; refine (h17 _ ((HBW _).out ((Below.refl _ _).alloc (Nat.le_refl _) _))).mono ?_; rintro e w1 ⟨rfl, hb⟩; have B1 := Lib.hid (((Below.refl w.heap.size w).alloc (Nat.le_refl _) _).trans (hb.mono (by simp))); have t3 : w1.cell? ⟨w.heap.size, 3, none⟩ = some (.slice C cs.length cc) := below_cell hb (by simp) (by go_simp); have t4 : w1.cell? ⟨w.heap.size, 4, none⟩ = some (.int .i64 cr) := below_cell hb (by simp) (by go_simp); have t5 : w1.cell? ⟨w.heap.size, 5, none⟩ = some (.int .i64 ev) := below_cell hb (by simp) (by go_simp); have t6 : w1.cell? ⟨w.heap.size, 6, none⟩ = some (.int .i64 sl) := below_cell hb (by simp) (by go_simp); have t7 : w1.cell? ⟨w.heap.size, 7, none⟩ = some (.int .i64 dr) := below_cell hb (by simp) (by go_simp); have t8 : w1.cell? ⟨w.heap.size, 8, none⟩ = some (.int .i64 bk) := below_cell hb (by simp) (by go_simp); have z1 : w.heap.size < w1.heap.size := (by have := hb.size; simp at this; omega); clear hb) | (go_at_call 67; refine (h67 _ ((HCW _).out B1.out)).mono ?_; rintro e w2 ⟨rfl, hb⟩; have B2 := Lib.hid (B1.out.trans (hb.mono B1.out.size)); have u4 : w2.cell? ⟨w.heap.size, 4, none⟩ = some (.int .i64 cr) := below_cell hb z1 t4; have u5 : w2.cell? ⟨w.heap.size, 5, none⟩ = some (.int .i64 ev) := below_cell hb z1 t5; have u6 : w2.cell? ⟨w.heap.size, 6, none⟩ = some (.int .i64 sl) := below_cell hb z1 t6; have u7 : w2.cell? ⟨w.heap.size, 7, none⟩ = some (.int .i64 dr) := below_cell hb z1 t7; have u8 : w2.cell? ⟨w.heap.size, 8, none⟩ = some (.int .i64 bk) := below_cell hb z1 t8; clear hb) | (go_at_call 51; first | ((with_reducible refine (h51a _).mono ?_); rintro e w3 ⟨rfl, rfl⟩) | ((with_reducible refine (h51b _).mono ?_); rintro e w3 ⟨rfl, rfl⟩) | ((with_reducible refine (h51c _).mono ?_); rintro e w3 ⟨rfl, rfl⟩)))
    go_ret
    exact ⟨ret_int HN.out.symm, B1.out⟩
  have q2 : decide ((cs.length : Int) ≤ 16) = true := decide_eq_true (by omega)
  cases hq3 : ok
  · rw [hq3] at h67
    have HN := Lib.hid (HE0.out (fun h => by simp [hq3] at h))
    clear hq0 hq1 hq2 hq3 HE0 HE1
    go_enter Try.func39, Try.ntmps39
    go_wp2_with (first | (go_at_call 17; refine (h17 _ ((HBW _).out ((Below.refl _ _).alloc (Nat.le_refl _) _))).mono ?_; rintro e w1 ⟨rfl, hb⟩; have B1 := Lib.hid (((Below.refl w.heap.size w).alloc (Nat.le_refl _) _).trans (hb.mono (by simp))); have t3 : w1.cell? ⟨w.heap.size, 3, none⟩ = some (.slice C cs.length cc) := below_cell hb (by simp) (by go_simp); have t4 : w1.cell? ⟨w.heap.size, 4, none⟩ = some (.int .i64 cr) := below_cell hb (by simp) (by go_simp); have t5 : w1.cell? ⟨w.heap.size, 5, none⟩ = some (.int .i64 ev) := below_cell hb (by simp) (by go_simp); have t6 : w1.cell? ⟨w.heap.size, 6, none⟩ = some (.int .i64 sl) := below_cell hb (by simp) (by go_simp); have t7 : w1.cell? ⟨w.heap.size, 7, none⟩ = some (.int .i64 dr) := below_cell hb (by simp) (by go_simp); have t8 : w1.cell? ⟨w.heap.size, 8, none⟩ = some (.int .i64 bk) := below_cell hb (by simp) (by go_simp); have z1 : w.heap.size < w1.heap.size := (by have := hb.size; simp at this; omega); clear hb) | (go_at_call 67; refine (h67 _ ((HCW _).out B1.out)).mono ?_; rintro e w2 ⟨rfl, hb⟩; have B2 := Lib.hid (B1.out.trans (hb.mono B1.out.size)); have u4 : w2.cell? ⟨w.heap.size, 4, none⟩ = some (.int .i64 cr) := below_cell hb z1 t4; have u5 : w2.cell? ⟨w.heap.size, 5, none⟩ = some (.int .i64 ev) := below_cell hb z1 t5; have u6 : w2.cell? ⟨w.heap.size, 6, none⟩ = some (.int .i64 sl) := below_cell hb z1 t6; have u7 : w2.cell? ⟨w.heap.size, 7, none⟩ = some (.int .i64 dr) := below_cell hb z1 t7; have u8 : w2.cell? ⟨w.heap.size, 8, none⟩ = some (.int .i64 bk) := below_cell hb z1 t8; clear hb) | (go_at_call 51; first | ((with_reducible refine (h51a _).mono ?_); rintro e w3 ⟨rfl, rfl⟩) | ((with_reducible refine (h51b _).mono ?_); rintro e w3 ⟨rfl, rfl⟩) | ((with_reducible refine (h51c _).mono ?_); rintro e w3 ⟨rfl, rfl⟩)))
    go_ret
    exact ⟨ret_int HN.out.symm, B2.out⟩
  rw [hq3] at h67
  cases hq4 : Cv.inB cr 0 1099511627776
  · simp only [hq4] at h51a
    have HN := Lib.hid (HE0.out (fun h => by simp [hq4] at h))
    clear hq0 hq1 hq2 hq3 hq4 HE0 HE1
    go_enter Try.func39, Try.ntmps39
    go_wp2_with (first | (go_at_call 17; refine (h17 _ ((HBW _).out ((Below.refl _ _).alloc (Nat.le_refl _) _))).mono ?_; rintro e w1 ⟨rfl, hb⟩; have B1 := Lib.hid (((Below.refl w.heap.size w).alloc (Nat.le_refl _) _).trans (hb.mono (by simp))); have t3 : w1.cell? ⟨w.heap.size, 3, none⟩ = some (.slice C cs.length cc) := below_cell hb (by simp) (by go_simp); have t4 : w1.cell? ⟨w.heap.size, 4, none⟩ = some (.int .i64 cr) := below_cell hb (by simp) (by go_simp); have t5 : w1.cell? ⟨w.heap.size, 5, none⟩ = some (.int .i64 ev) := below_cell hb (by simp) (by go_simp); have t6 : w1.cell? ⟨w.heap.size, 6, none⟩ = some (.int .i64 sl) := below_cell hb (by simp) (by go_simp); have t7 : w1.cell? ⟨w.heap.size, 7, none⟩ = some (.int .i64 dr) := below_cell hb (by simp) (by go_simp); have t8 : w1.cell? ⟨w.heap.size, 8, none⟩ = some (.int .i64 bk) := below_cell hb (by simp) (by go_simp); have z1 : w.heap.size < w1.heap.size := (by have := hb.size; simp at this; omega); clear hb) | (go_at_call 67; refine (h67 _ ((HCW _).out B1.out)).mono ?_; rintro e w2 ⟨rfl, hb⟩; have B2 := Lib.hid (B1.out.trans (hb.mono B1.out.size)); have u4 : w2.cell? ⟨w.heap.size, 4, none⟩ = some (.int .i64 cr) := below_cell hb z1 t4; have u5 : w2.cell? ⟨w.heap.size, 5, none⟩ = some (.int .i64 ev) := below_cell hb z1 t5; have u6 : w2.cell? ⟨w.heap.size, 6, none⟩ = some (.int .i64 sl) := below_cell hb z1 t6; have u7 : w2.cell? ⟨w.heap.size, 7, none⟩ = some (.int .i64 dr) := below_cell hb z1 t7; have u8 : w2.cell? ⟨w.heap.size, 8, none⟩ = some (.int .i64 bk) := below_cell hb z1 t8; clear hb) | (go_at_call 51; first | ((with_reducible refine (h51a _).mono ?_); rintro e w3 ⟨rfl, rfl⟩) | ((with_reducible refine (h51b _).mono ?_); rintro e w3 ⟨rfl, rfl⟩) | ((with_reducible refine (h51c _).mono ?_); rintro e w3 ⟨rfl, rfl⟩)))
    go_ret
    exact ⟨ret_int HN.out.symm, B2.out⟩
  simp only [hq4] at h51a
  by_cases hq5 : 1 ≤ ev
  rotate_left 1
  · have q5 : decide (1 ≤ ev) = false := decide_eq_false (by omega)
    have HN := Lib.hid (HE0.out (fun h => hq5 (by omega)))
    clear hq0 hq1 hq2 hq3 hq4 hq5 HE0 HE1
    go_enter Try.func39, Try.ntmps39
    go_wp2_with (first | (go_at_call 17; refine (h17 _ ((HBW _).out ((Below.refl _ _).alloc (Nat.le_refl _) _))).mono ?_; rintro e w1 ⟨rfl, hb⟩; have B1 := Lib.hid (((Below.refl w.heap.size w).alloc (Nat.le_refl _) _).trans (hb.mono (by simp))); have t3 : w1.cell? ⟨w.heap.size, 3, none⟩ = some (.slice C cs.length cc) := below_cell hb (by simp) (by go_simp); have t4 : w1.cell? ⟨w.heap.size, 4, none⟩ = some (.int .i64 cr) := below_cell hb (by simp) (by go_simp); have t5 : w1.cell? ⟨w.heap.size, 5, none⟩ = some (.int .i64 ev) := below_cell hb (by simp) (by go_simp); have t6 : w1.cell? ⟨w.heap.size, 6, none⟩ = some (.int .i64 sl) := below_cell hb (by simp) (by go_simp); have t7 : w1.cell? ⟨w.heap.size, 7, none⟩ = some (.int .i64 dr) := below_cell hb (by simp) (by go_simp); have t8 : w1.cell? ⟨w.heap.size, 8, none⟩ = some (.int .i64 bk) := below_cell hb (by simp) (by go_simp); have z1 : w.heap.size < w1.heap.size := (by have := hb.size; simp at this; omega); clear hb) | (go_at_call 67; refine (h67 _ ((HCW _).out B1.out)).mono ?_; rintro e w2 ⟨rfl, hb⟩; have B2 := Lib.hid (B1.out.trans (hb.mono B1.out.size)); have u4 : w2.cell? ⟨w.heap.size, 4, none⟩ = some (.int .i64 cr) := below_cell hb z1 t4; have u5 : w2.cell? ⟨w.heap.size, 5, none⟩ = some (.int .i64 ev) := below_cell hb z1 t5; have u6 : w2.cell? ⟨w.heap.size, 6, none⟩ = some (.int .i64 sl) := below_cell hb z1 t6; have u7 : w2.cell? ⟨w.heap.size, 7, none⟩ = some (.int .i64 dr) := below_cell hb z1 t7; have u8 : w2.cell? ⟨w.heap.size, 8, none⟩ = some (.int .i64 bk) := below_cell hb z1 t8; clear hb) | (go_at_call 51; first | ((with_reducible refine (h51a _).mono ?_); rintro e w3 ⟨rfl, rfl⟩) | ((with_reducible refine (h51b _).mono ?_); rintro e w3 ⟨rfl, rfl⟩) | ((with_reducible refine (h51c _).mono ?_); rintro e w3 ⟨rfl, rfl⟩)))
    go_ret
    exact ⟨ret_int HN.out.symm, B2.out⟩
  have q5 : decide (1 ≤ ev) = true := decide_eq_true (by omega)
  by_cases hq6 : ev ≤ 1000
  rotate_left 1
  · have q6 : decide (ev ≤ 1000) = false := decide_eq_false (by omega)
    have HN := Lib.hid (HE0.out (fun h => hq6 (by omega)))
    clear hq0 hq1 hq2 hq3 hq4 hq5 hq6 HE0 HE1
    go_enter Try.func39, Try.ntmps39
    go_wp2_with (first | (go_at_call 17; refine (h17 _ ((HBW _).out ((Below.refl _ _).alloc (Nat.le_refl _) _))).mono ?_; rintro e w1 ⟨rfl, hb⟩; have B1 := Lib.hid (((Below.refl w.heap.size w).alloc (Nat.le_refl _) _).trans (hb.mono (by simp))); have t3 : w1.cell? ⟨w.heap.size, 3, none⟩ = some (.slice C cs.length cc) := below_cell hb (by simp) (by go_simp); have t4 : w1.cell? ⟨w.heap.size, 4, none⟩ = some (.int .i64 cr) := below_cell hb (by simp) (by go_simp); have t5 : w1.cell? ⟨w.heap.size, 5, none⟩ = some (.int .i64 ev) := below_cell hb (by simp) (by go_simp); have t6 : w1.cell? ⟨w.heap.size, 6, none⟩ = some (.int .i64 sl) := below_cell hb (by simp) (by go_simp); have t7 : w1.cell? ⟨w.heap.size, 7, none⟩ = some (.int .i64 dr) := below_cell hb (by simp) (by go_simp); have t8 : w1.cell? ⟨w.heap.size, 8, none⟩ = some (.int .i64 bk) := below_cell hb (by simp) (by go_simp); have z1 : w.heap.size < w1.heap.size := (by have := hb.size; simp at this; omega); clear hb) | (go_at_call 67; refine (h67 _ ((HCW _).out B1.out)).mono ?_; rintro e w2 ⟨rfl, hb⟩; have B2 := Lib.hid (B1.out.trans (hb.mono B1.out.size)); have u4 : w2.cell? ⟨w.heap.size, 4, none⟩ = some (.int .i64 cr) := below_cell hb z1 t4; have u5 : w2.cell? ⟨w.heap.size, 5, none⟩ = some (.int .i64 ev) := below_cell hb z1 t5; have u6 : w2.cell? ⟨w.heap.size, 6, none⟩ = some (.int .i64 sl) := below_cell hb z1 t6; have u7 : w2.cell? ⟨w.heap.size, 7, none⟩ = some (.int .i64 dr) := below_cell hb z1 t7; have u8 : w2.cell? ⟨w.heap.size, 8, none⟩ = some (.int .i64 bk) := below_cell hb z1 t8; clear hb) | (go_at_call 51; first | ((with_reducible refine (h51a _).mono ?_); rintro e w3 ⟨rfl, rfl⟩) | ((with_reducible refine (h51b _).mono ?_); rintro e w3 ⟨rfl, rfl⟩) | ((with_reducible refine (h51c _).mono ?_); rintro e w3 ⟨rfl, rfl⟩)))
    go_ret
    exact ⟨ret_int HN.out.symm, B2.out⟩
  have q6 : decide (ev ≤ 1000) = true := decide_eq_true (by omega)
  by_cases hq7 : 1 ≤ sl
  rotate_left 1
  · have q7 : decide (1 ≤ sl) = false := decide_eq_false (by omega)
    have HN := Lib.hid (HE0.out (fun h => hq7 (by omega)))
    clear hq0 hq1 hq2 hq3 hq4 hq5 hq6 hq7 HE0 HE1
    go_enter Try.func39, Try.ntmps39
    go_wp2_with (first | (go_at_call 17; refine (h17 _ ((HBW _).out ((Below.refl _ _).alloc (Nat.le_refl _) _))).mono ?_; rintro e w1 ⟨rfl, hb⟩; have B1 := Lib.hid (((Below.refl w.heap.size w).alloc (Nat.le_refl _) _).trans (hb.mono (by simp))); have t3 : w1.cell? ⟨w.heap.size, 3, none⟩ = some (.slice C cs.length cc) := below_cell hb (by simp) (by go_simp); have t4 : w1.cell? ⟨w.heap.size, 4, none⟩ = some (.int .i64 cr) := below_cell hb (by simp) (by go_simp); have t5 : w1.cell? ⟨w.heap.size, 5, none⟩ = some (.int .i64 ev) := below_cell hb (by simp) (by go_simp); have t6 : w1.cell? ⟨w.heap.size, 6, none⟩ = some (.int .i64 sl) := below_cell hb (by simp) (by go_simp); have t7 : w1.cell? ⟨w.heap.size, 7, none⟩ = some (.int .i64 dr) := below_cell hb (by simp) (by go_simp); have t8 : w1.cell? ⟨w.heap.size, 8, none⟩ = some (.int .i64 bk) := below_cell hb (by simp) (by go_simp); have z1 : w.heap.size < w1.heap.size := (by have := hb.size; simp at this; omega); clear hb) | (go_at_call 67; refine (h67 _ ((HCW _).out B1.out)).mono ?_; rintro e w2 ⟨rfl, hb⟩; have B2 := Lib.hid (B1.out.trans (hb.mono B1.out.size)); have u4 : w2.cell? ⟨w.heap.size, 4, none⟩ = some (.int .i64 cr) := below_cell hb z1 t4; have u5 : w2.cell? ⟨w.heap.size, 5, none⟩ = some (.int .i64 ev) := below_cell hb z1 t5; have u6 : w2.cell? ⟨w.heap.size, 6, none⟩ = some (.int .i64 sl) := below_cell hb z1 t6; have u7 : w2.cell? ⟨w.heap.size, 7, none⟩ = some (.int .i64 dr) := below_cell hb z1 t7; have u8 : w2.cell? ⟨w.heap.size, 8, none⟩ = some (.int .i64 bk) := below_cell hb z1 t8; clear hb) | (go_at_call 51; first | ((with_reducible refine (h51a _).mono ?_); rintro e w3 ⟨rfl, rfl⟩) | ((with_reducible refine (h51b _).mono ?_); rintro e w3 ⟨rfl, rfl⟩) | ((with_reducible refine (h51c _).mono ?_); rintro e w3 ⟨rfl, rfl⟩)))
    go_ret
    exact ⟨ret_int HN.out.symm, B2.out⟩
  have q7 : decide (1 ≤ sl) = true := decide_eq_true (by omega)
  by_cases hq8 : sl ≤ 20
  rotate_left 1
  · have q8 : decide (sl ≤ 20) = false := decide_eq_false (by omega)
    have HN := Lib.hid (HE0.out (fun h => hq8 (by omega)))
    clear hq0 hq1 hq2 hq3 hq4 hq5 hq6 hq7 hq8 HE0 HE1
    go_enter Try.func39, Try.ntmps39
    go_wp2_with (first | (go_at_call 17; refine (h17 _ ((HBW _).out ((Below.refl _ _).alloc (Nat.le_refl _) _))).mono ?_; rintro e w1 ⟨rfl, hb⟩; have B1 := Lib.hid (((Below.refl w.heap.size w).alloc (Nat.le_refl _) _).trans (hb.mono (by simp))); have t3 : w1.cell? ⟨w.heap.size, 3, none⟩ = some (.slice C cs.length cc) := below_cell hb (by simp) (by go_simp); have t4 : w1.cell? ⟨w.heap.size, 4, none⟩ = some (.int .i64 cr) := below_cell hb (by simp) (by go_simp); have t5 : w1.cell? ⟨w.heap.size, 5, none⟩ = some (.int .i64 ev) := below_cell hb (by simp) (by go_simp); have t6 : w1.cell? ⟨w.heap.size, 6, none⟩ = some (.int .i64 sl) := below_cell hb (by simp) (by go_simp); have t7 : w1.cell? ⟨w.heap.size, 7, none⟩ = some (.int .i64 dr) := below_cell hb (by simp) (by go_simp); have t8 : w1.cell? ⟨w.heap.size, 8, none⟩ = some (.int .i64 bk) := below_cell hb (by simp) (by go_simp); have z1 : w.heap.size < w1.heap.size := (by have := hb.size; simp at this; omega); clear hb) | (go_at_call 67; refine (h67 _ ((HCW _).out B1.out)).mono ?_; rintro e w2 ⟨rfl, hb⟩; have B2 := Lib.hid (B1.out.trans (hb.mono B1.out.size)); have u4 : w2.cell? ⟨w.heap.size, 4, none⟩ = some (.int .i64 cr) := below_cell hb z1 t4; have u5 : w2.cell? ⟨w.heap.size, 5, none⟩ = some (.int .i64 ev) := below_cell hb z1 t5; have u6 : w2.cell? ⟨w.heap.size, 6, none⟩ = some (.int .i64 sl) := below_cell hb z1 t6; have u7 : w2.cell? ⟨w.heap.size, 7, none⟩ = some (.int .i64 dr) := below_cell hb z1 t7; have u8 : w2.cell? ⟨w.heap.size, 8, none⟩ = some (.int .i64 bk) := below_cell hb z1 t8; clear hb) | (go_at_call 51; first | ((with_reducible refine (h51a _).mono ?_); rintro e w3 ⟨rfl, rfl⟩) | ((with_reducible refine (h51b _).mono ?_); rintro e w3 ⟨rfl, rfl⟩) | ((with_reducible refine (h51c _).mono ?_); rintro e w3 ⟨rfl, rfl⟩)))
    go_ret
    exact ⟨ret_int HN.out.symm, B2.out⟩
  have q8 : decide (sl ≤ 20) = true := decide_eq_true (by omega)
  cases hq9 : Cv.inB dr 0 1073741824
  · simp only [hq9] at h51b
    have HN := Lib.hid (HE0.out (fun h => by simp [hq9] at h))
    clear hq0 hq1 hq2 hq3 hq4 hq5 hq6 hq7 hq8 hq9 HE0 HE1
    go_enter Try.func39, Try.ntmps39
    go_wp2_with (first | (go_at_call 17; refine (h17 _ ((HBW _).out ((Below.refl _ _).alloc (Nat.le_refl _) _))).mono ?_; rintro e w1 ⟨rfl, hb⟩; have B1 := Lib.hid (((Below.refl w.heap.size w).alloc (Nat.le_refl _) _).trans (hb.mono (by simp))); have t3 : w1.cell? ⟨w.heap.size, 3, none⟩ = some (.slice C cs.length cc) := below_cell hb (by simp) (by go_simp); have t4 : w1.cell? ⟨w.heap.size, 4, none⟩ = some (.int .i64 cr) := below_cell hb (by simp) (by go_simp); have t5 : w1.cell? ⟨w.heap.size, 5, none⟩ = some (.int .i64 ev) := below_cell hb (by simp) (by go_simp); have t6 : w1.cell? ⟨w.heap.size, 6, none⟩ = some (.int .i64 sl) := below_cell hb (by simp) (by go_simp); have t7 : w1.cell? ⟨w.heap.size, 7, none⟩ = some (.int .i64 dr) := below_cell hb (by simp) (by go_simp); have t8 : w1.cell? ⟨w.heap.size, 8, none⟩ = some (.int .i64 bk) := below_cell hb (by simp) (by go_simp); have z1 : w.heap.size < w1.heap.size := (by have := hb.size; simp at this; omega); clear hb) | (go_at_call 67; refine (h67 _ ((HCW _).out B1.out)).mono ?_; rintro e w2 ⟨rfl, hb⟩; have B2 := Lib.hid (B1.out.trans (hb.mono B1.out.size)); have u4 : w2.cell? ⟨w.heap.size, 4, none⟩ = some (.int .i64 cr) := below_cell hb z1 t4; have u5 : w2.cell? ⟨w.heap.size, 5, none⟩ = some (.int .i64 ev) := below_cell hb z1 t5; have u6 : w2.cell? ⟨w.heap.size, 6, none⟩ = some (.int .i64 sl) := below_cell hb z1 t6; have u7 : w2.cell? ⟨w.heap.size, 7, none⟩ = some (.int .i64 dr) := below_cell hb z1 t7; have u8 : w2.cell? ⟨w.heap.size, 8, none⟩ = some (.int .i64 bk) := below_cell hb z1 t8; clear hb) | (go_at_call 51; first | ((with_reducible refine (h51a _).mono ?_); rintro e w3 ⟨rfl, rfl⟩) | ((with_reducible refine (h51b _).mono ?_); rintro e w3 ⟨rfl, rfl⟩) | ((with_reducible refine (h51c _).mono ?_); rintro e w3 ⟨rfl, rfl⟩)))
    go_ret
    exact ⟨ret_int HN.out.symm, B2.out⟩
  simp only [hq9] at h51b
  cases hq10 : Cv.inB bk 0 1073741824
  · simp only [hq10] at h51c
    have HN := Lib.hid (HE0.out (fun h => by simp [hq10] at h))
    clear hq0 hq1 hq2 hq3 hq4 hq5 hq6 hq7 hq8 hq9 hq10 HE0 HE1
    go_enter Try.func39, Try.ntmps39
    go_wp2_with (first | (go_at_call 17; refine (h17 _ ((HBW _).out ((Below.refl _ _).alloc (Nat.le_refl _) _))).mono ?_; rintro e w1 ⟨rfl, hb⟩; have B1 := Lib.hid (((Below.refl w.heap.size w).alloc (Nat.le_refl _) _).trans (hb.mono (by simp))); have t3 : w1.cell? ⟨w.heap.size, 3, none⟩ = some (.slice C cs.length cc) := below_cell hb (by simp) (by go_simp); have t4 : w1.cell? ⟨w.heap.size, 4, none⟩ = some (.int .i64 cr) := below_cell hb (by simp) (by go_simp); have t5 : w1.cell? ⟨w.heap.size, 5, none⟩ = some (.int .i64 ev) := below_cell hb (by simp) (by go_simp); have t6 : w1.cell? ⟨w.heap.size, 6, none⟩ = some (.int .i64 sl) := below_cell hb (by simp) (by go_simp); have t7 : w1.cell? ⟨w.heap.size, 7, none⟩ = some (.int .i64 dr) := below_cell hb (by simp) (by go_simp); have t8 : w1.cell? ⟨w.heap.size, 8, none⟩ = some (.int .i64 bk) := below_cell hb (by simp) (by go_simp); have z1 : w.heap.size < w1.heap.size := (by have := hb.size; simp at this; omega); clear hb) | (go_at_call 67; refine (h67 _ ((HCW _).out B1.out)).mono ?_; rintro e w2 ⟨rfl, hb⟩; have B2 := Lib.hid (B1.out.trans (hb.mono B1.out.size)); have u4 : w2.cell? ⟨w.heap.size, 4, none⟩ = some (.int .i64 cr) := below_cell hb z1 t4; have u5 : w2.cell? ⟨w.heap.size, 5, none⟩ = some (.int .i64 ev) := below_cell hb z1 t5; have u6 : w2.cell? ⟨w.heap.size, 6, none⟩ = some (.int .i64 sl) := below_cell hb z1 t6; have u7 : w2.cell? ⟨w.heap.size, 7, none⟩ = some (.int .i64 dr) := below_cell hb z1 t7; have u8 : w2.cell? ⟨w.heap.size, 8, none⟩ = some (.int .i64 bk) := below_cell hb z1 t8; clear hb) | (go_at_call 51; first | ((with_reducible refine (h51a _).mono ?_); rintro e w3 ⟨rfl, rfl⟩) | ((with_reducible refine (h51b _).mono ?_); rintro e w3 ⟨rfl, rfl⟩) | ((with_reducible refine (h51c _).mono ?_); rintro e w3 ⟨rfl, rfl⟩)))
    go_ret
    exact ⟨ret_int HN.out.symm, B2.out⟩
  simp only [hq10] at h51c
  have HN := Lib.hid (HE1.out ⟨hq0, hq1, hq2, hq3, hq4, hq5, hq6, hq7, hq8, hq9, hq10⟩)
  clear hq0 hq1 hq2 hq3 hq4 hq5 hq6 hq7 hq8 hq9 hq10 HE0 HE1
  go_enter Try.func39, Try.ntmps39
  go_wp2_with (first | (go_at_call 17; refine (h17 _ ((HBW _).out ((Below.refl _ _).alloc (Nat.le_refl _) _))).mono ?_; rintro e w1 ⟨rfl, hb⟩; have B1 := Lib.hid (((Below.refl w.heap.size w).alloc (Nat.le_refl _) _).trans (hb.mono (by simp))); have t3 : w1.cell? ⟨w.heap.size, 3, none⟩ = some (.slice C cs.length cc) := below_cell hb (by simp) (by go_simp); have t4 : w1.cell? ⟨w.heap.size, 4, none⟩ = some (.int .i64 cr) := below_cell hb (by simp) (by go_simp); have t5 : w1.cell? ⟨w.heap.size, 5, none⟩ = some (.int .i64 ev) := below_cell hb (by simp) (by go_simp); have t6 : w1.cell? ⟨w.heap.size, 6, none⟩ = some (.int .i64 sl) := below_cell hb (by simp) (by go_simp); have t7 : w1.cell? ⟨w.heap.size, 7, none⟩ = some (.int .i64 dr) := below_cell hb (by simp) (by go_simp); have t8 : w1.cell? ⟨w.heap.size, 8, none⟩ = some (.int .i64 bk) := below_cell hb (by simp) (by go_simp); have z1 : w.heap.size < w1.heap.size := (by have := hb.size; simp at this; omega); clear hb) | (go_at_call 67; refine (h67 _ ((HCW _).out B1.out)).mono ?_; rintro e w2 ⟨rfl, hb⟩; have B2 := Lib.hid (B1.out.trans (hb.mono B1.out.size)); have u4 : w2.cell? ⟨w.heap.size, 4, none⟩ = some (.int .i64 cr) := below_cell hb z1 t4; have u5 : w2.cell? ⟨w.heap.size, 5, none⟩ = some (.int .i64 ev) := below_cell hb z1 t5; have u6 : w2.cell? ⟨w.heap.size, 6, none⟩ = some (.int .i64 sl) := below_cell hb z1 t6; have u7 : w2.cell? ⟨w.heap.size, 7, none⟩ = some (.int .i64 dr) := below_cell hb z1 t7; have u8 : w2.cell? ⟨w.heap.size, 8, none⟩ = some (.int .i64 bk) := below_cell hb z1 t8; clear hb) | (go_at_call 51; first | ((with_reducible refine (h51a _).mono ?_); rintro e w3 ⟨rfl, rfl⟩) | ((with_reducible refine (h51b _).mono ?_); rintro e w3 ⟨rfl, rfl⟩) | ((with_reducible refine (h51c _).mono ?_); rintro e w3 ⟨rfl, rfl⟩)))
  go_ret
  exact ⟨ret_int HN.out.symm, B2.out⟩
end Go.Proofs.Ytafajclbghofkaa
