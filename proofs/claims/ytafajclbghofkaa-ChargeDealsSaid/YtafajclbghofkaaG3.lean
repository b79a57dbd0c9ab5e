/- Contracts of CheckDeal of coulombref09, and of brief. -/
import Derived.Test.YtafajclbghofkaaG2
namespace Go.Proofs.Ytafajclbghofkaa
open Go.RowKit
set_option linter.unusedVariables false

/-- the deal's own variable, and what was there before -/
def DeS (g : Nat) (C : Option Addr) (n cc : Nat) (cr ev sl dr bk : Int) (w w' : World) : Prop := Below g w w' ∧ g < w'.heap.size ∧ w'.cell? ⟨g, 3, none⟩ = some (.slice C n cc) ∧ w'.cell? ⟨g, 4, none⟩ = some (.int .i64 cr) ∧ w'.cell? ⟨g, 5, none⟩ = some (.int .i64 ev) ∧ w'.cell? ⟨g, 6, none⟩ = some (.int .i64 sl) ∧ w'.cell? ⟨g, 7, none⟩ = some (.int .i64 dr) ∧ w'.cell? ⟨g, 8, none⟩ = some (.int .i64 bk)
theorem DeS.keep {g : Nat} {C : Option Addr} {n cc : Nat} {cr ev sl dr bk : Int} {w w' w1 : World} (h : DeS g C n cc cr ev sl dr bk w w') (hb : Below w'.heap.size w' w1) : DeS g C n cc cr ev sl dr bk w w1 :=
  ⟨h.1.trans (hb.mono (Nat.le_of_lt h.2.1)), Nat.lt_of_lt_of_le h.2.1 hb.size, below_cell hb h.2.1 h.2.2.1, below_cell hb h.2.1 h.2.2.2.1, below_cell hb h.2.1 h.2.2.2.2.1, below_cell hb h.2.1 h.2.2.2.2.2.1, below_cell hb h.2.1 h.2.2.2.2.2.2.1, below_cell hb h.2.1 h.2.2.2.2.2.2.2⟩
set_option maxRecDepth 100000 in
set_option maxHeartbeats 8000000 in
theorem CheckDealR_c (day fee : Int) (A : Option Addr) (bs : List Bd) (cap : Nat) (C : Option Addr) (cs : List Ct) (cc : Nat) (cr ev sl dr bk : Int) (w : World) (hcap : bs.length ≤ cap) (hl : cap ≤ 9223372036854775807) (hw : BandsAt w A bs) (hcc : cs.length ≤ cc) (hl2 : cc ≤ 9223372036854775807) (hw2 : CtsAt w C cs) :
    Calls Try.prog 40 #[dealV day fee A bs cap C cs cc cr ev sl dr bk] w fun e w' => e = .returned (.int .i64 (Cv.deE (Cv.tarE day fee bs) cs.length (Cv.ctsOk cs) cr ev sl dr bk)) ∧ Below w.heap.size w w' := by
  have h18 := fun w0 hw0 => CheckTariffR_c day fee A bs cap w0 hcap hl hw0
  have HBW := fun w0 => Lib.hid (BandsAt.below (w1 := w0) hw)
  have HCW := fun w0 => Lib.hid (CtsAt.below (w1 := w0) hw2)
  have h54a := fun w0 => in_c cr 0 1099511627776 w0
  have h54b := fun w0 => in_c dr 0 1073741824 w0
  have h54c := fun w0 => in_c bk 0 1073741824 w0
  have hn63 : bs.length ≤ 9223372036854775807 := by omega
  have hm63 : cs.length ≤ 9223372036854775807 := by omega
  clear hw hw2
  generalize hte : Cv.tarE day fee bs = te at *
  obtain ⟨ok, hok⟩ : ∃ ok, ok = Cv.ctsOk cs := ⟨_, rfl⟩
  rw [← hok]
  have HOK := Lib.hid hok
  clear hte hok
  have HE0 := Lib.hid (@Cv.deE_no te cs.length ok cr ev sl dr bk)
  have HE1 := Lib.hid (@Cv.deE_yes te cs.length ok cr ev sl dr bk)
  generalize Cv.deE te cs.length ok cr ev sl dr bk = de at *
  by_cases hq0 : te = 0
  rotate_left 1
  · have q0 : (te != 0) = true := by simpa using hq0
    have HN := Lib.hid (HE0.out (fun h => hq0 (by omega)))
    clear hq0 HE0 HE1
    go_enter Try.func40, Try.ntmps40
    go_wp2_with (first | (go_at_call 18; refine (h18 _ ((HBW _).out ((Below.refl _ _).alloc (Nat.le_refl _) _))).mono ?_; rintro e w1 ⟨rfl, hb⟩; have B1 := Lib.hid (((Below.refl w.heap.size w).alloc (Nat.le_refl _) _).trans (hb.mono (by simp))); have t3 : w1.cell? ⟨w.heap.size, 3, none⟩ = some (.slice C cs.length cc) := below_cell hb (by simp) (by go_simp); have t4 : w1.cell? ⟨w.heap.size, 4, none⟩ = some (.int .i64 cr) := below_cell hb (by simp) (by go_simp); have t5 : w1.cell? ⟨w.heap.size, 5, none⟩ = some (.int .i64 ev) := below_cell hb (by simp) (by go_simp); have t6 : w1.cell? ⟨w.heap.size, 6, none⟩ = some (.int .i64 sl) := below_cell hb (by simp) (by go_simp); have t7 : w1.cell? ⟨w.heap.size, 7, none⟩ = some (.int .i64 dr) := below_cell hb (by simp) (by go_simp); have t8 : w1.cell? ⟨w.heap.size, 8, none⟩ = some (.int .i64 bk) := below_cell hb (by simp) (by go_simp); have z1 : w.heap.size < w1.heap.size := (by have := hb.size; simp at this; omega); clear hb))
    go_ret
    exact ⟨ret_int HN.out.symm, B1.out⟩
  have q0 : (te != 0) = false := by simpa using hq0
  by_cases hq1 : 1 ≤ cs.length
  rotate_left 1
  · have q1 : decide ((cs.length : Int) < 1) = true := decide_eq_true (by omega)
    have HN := Lib.hid (HE0.out (fun h => hq1 (by omega)))
    clear hq0 hq1 HE0 HE1
    go_enter Try.func40, Try.ntmps40
    go_wp2_with (first | (go_at_call 18; refine (h18 _ ((HBW _).out ((Below.refl _ _).alloc (Nat.le_refl _) _))).mono ?_; rintro e w1 ⟨rfl, hb⟩; have B1 := Lib.hid (((Below.refl w.heap.size w).alloc (Nat.le_refl _) _).trans (hb.mono (by simp))); have t3 : w1.cell? ⟨w.heap.size, 3, none⟩ = some (.slice C cs.length cc) := below_cell hb (by simp) (by go_simp); have t4 : w1.cell? ⟨w.heap.size, 4, none⟩ = some (.int .i64 cr) := below_cell hb (by simp) (by go_simp); have t5 : w1.cell? ⟨w.heap.size, 5, none⟩ = some (.int .i64 ev) := below_cell hb (by simp) (by go_simp); have t6 : w1.cell? ⟨w.heap.size, 6, none⟩ = some (.int .i64 sl) := below_cell hb (by simp) (by go_simp); have t7 : w1.cell? ⟨w.heap.size, 7, none⟩ = some (.int .i64 dr) := below_cell hb (by simp) (by go_simp); have t8 : w1.cell? ⟨w.heap.size, 8, none⟩ = some (.int .i64 bk) := below_cell hb (by simp) (by go_simp); have z1 : w.heap.size < w1.heap.size := (by have := hb.size; simp at this; omega); clear hb))
    go_ret
    exact ⟨ret_int HN.out.symm, B1.out⟩
  have q1 : decide ((cs.length : Int) < 1) = false := decide_eq_false (by omega)
  by_cases hq2 : cs.length ≤ 16
  rotate_left 1
  · have q2 : decide (16 < (cs.length : Int)) = true := decide_eq_true (by omega)
    have HN := Lib.hid (HE0.out (fun h => hq2 (by omega)))
    clear hq0 hq1 hq2 HE0 HE1
    go_enter Try.func40, Try.ntmps40
    go_wp2_with (first | (go_at_call 18; refine (h18 _ ((HBW _).out ((Below.refl _ _).alloc (Nat.le_refl _) _))).mono ?_; rintro e w1 ⟨rfl, hb⟩; have B1 := Lib.hid (((Below.refl w.heap.size w).alloc (Nat.le_refl _) _).trans (hb.mono (by simp))); have t3 : w1.cell? ⟨w.heap.size, 3, none⟩ = some (.slice C cs.length cc) := below_cell hb (by simp) (by go_simp); have t4 : w1.cell? ⟨w.heap.size, 4, none⟩ = some (.int .i64 cr) := below_cell hb (by simp) (by go_simp); have t5 : w1.cell? ⟨w.heap.size, 5, none⟩ = some (.int .i64 ev) := below_cell hb (by simp) (by go_simp); have t6 : w1.cell? ⟨w.heap.size, 6, none⟩ = some (.int .i64 sl) := below_cell hb (by simp) (by go_simp); have t7 : w1.cell? ⟨w.heap.size, 7, none⟩ = some (.int .i64 dr) := below_cell hb (by simp) (by go_simp); have t8 : w1.cell? ⟨w.heap.size, 8, none⟩ = some (.int .i64 bk) := below_cell hb (by simp) (by go_simp); have z1 : w.heap.size < w1.heap.size := (by have := hb.size; simp at this; omega); clear hb))
    go_ret
    exact ⟨ret_int HN.out.symm, B1.out⟩
  have q2 : decide (16 < (cs.length : Int)) = false := decide_eq_false (by omega)
  have HQ := Lib.hid (And.intro hq0 (And.intro hq1 hq2))
  clear hq0 hq1 hq2
  go_enter Try.func40, Try.ntmps40
  go_wp2_with (first | (go_at_call 18; refine (h18 _ ((HBW _).out ((Below.refl _ _).alloc (Nat.le_refl _) _))).mono ?_; rintro e w1 ⟨rfl, hb⟩; have B1 := Lib.hid (((Below.refl w.heap.size w).alloc (Nat.le_refl _) _).trans (hb.mono (by simp))); have t3 : w1.cell? ⟨w.heap.size, 3, none⟩ = some (.slice C cs.length cc) := below_cell hb (by simp) (by go_simp); have t4 : w1.cell? ⟨w.heap.size, 4, none⟩ = some (.int .i64 cr) := below_cell hb (by simp) (by go_simp); have t5 : w1.cell? ⟨w.heap.size, 5, none⟩ = some (.int .i64 ev) := below_cell hb (by simp) (by go_simp); have t6 : w1.cell? ⟨w.heap.size, 6, none⟩ = some (.int .i64 sl) := below_cell hb (by simp) (by go_simp); have t7 : w1.cell? ⟨w.heap.size, 7, none⟩ = some (.int .i64 dr) := below_cell hb (by simp) (by go_simp); have t8 : w1.cell? ⟨w.heap.size, 8, none⟩ = some (.int .i64 bk) := below_cell hb (by simp) (by go_simp); have z1 : w.heap.size < w1.heap.size := (by have := hb.size; simp at this; omega); clear hb))
  clear q0 q1 q2
  have HS0 := Lib.hid (show DeS w.heap.size C cs.length cc cr ev sl dr bk w w1 from ⟨B1.out, z1, t3, t4, t5, t6, t7, t8⟩)
  clear B1 z1 t3 t4 t5 t6 t7 t8
  go_loopw [3] (fun i wr => ∃ k : Nat, k ≤ cs.length ∧ i = .int .i64 k ∧ Hid (∀ j, j < k → Cv.ctOk (cs.getD j default).pt (cs.getD j default).ps = true) ∧ Hid (DeS w.heap.size C cs.length cc cr ev sl dr bk w wr)) (fun i _ => cs.length - (intOf i).toNat)
  case atStart => exact ⟨0, Nat.zero_le _, rfl, Lib.hid (fun j hj => absurd hj (Nat.not_lt_zero _)), HS0⟩
  case round =>
    clear HS0
    obtain ⟨k, hk, rfl, HA, HS⟩ := hrel
    obtain ⟨_, z1, t3, t4, t5, t6, t7, t8⟩ := HS.out
    by_cases hlt : k < cs.length
    · obtain ⟨ad, rfl, hlb, c0, c1, ha⟩ := (HCW _).out HS.out.1 k hlt
      have hc := contract_c (cs.getD k default).pt (cs.getD k default).A (cs.getD k default).ps (cs.getD k default).cap wr ha.2.1 ha.2.2 ha.1
      have HNo := Lib.hid (Cv.ctsOk_no hlt)
      have HYes := Lib.hid (fun (h : Cv.ctOk (cs.getD k default).pt (cs.getD k default).ps = true) j (hj : j < k + 1) => (by
        by_cases e : j = k
        · subst e; exact h
        · exact HA.out j (by omega) : Cv.ctOk (cs.getD j default).pt (cs.getD j default).ps = true))
      clear ha
      generalize cs.getD k default = c at *
      cases hb : Cv.ctOk c.pt c.ps
      · have hno := HNo.out hb
        rw [hb] at hc
        have HN := Lib.hid (HE0.out (fun h => by rw [HOK.out, hno] at h; simp at h))
        clear hb hno
        go_wp2_with (go_at_call 64; refine hc.mono ?_; rintro e w' ⟨rfl, hb⟩; have HS2 := Lib.hid (HS.out.keep hb); clear hb)
        go_ret
        exact ⟨ret_int HN.out.symm, HS2.out.1⟩
      · have HN := Lib.hid (HYes.out hb)
        rw [hb] at hc
        clear hb
        go_wp2_with (go_at_call 64; refine hc.mono ?_; rintro e w' ⟨rfl, hb⟩; have HS2 := Lib.hid (HS.out.keep hb); clear hb)
        go_roundw
        case rel => exact ⟨k + 1, by omega, by go_num, HN, HS2⟩
        case measure => simp [intOf]; omega
    · have e : k = cs.length := by omega
      subst e
      have hq3 := HOK.out.trans (Cv.ctsOk_iff.2 HA.out)
      have HQ3 := Lib.hid hq3
      clear hq3
      cases hq4 : Cv.inB cr 0 1099511627776
      · simp only [hq4] at h54a
        have HN := Lib.hid (HE0.out (fun h => by simp [hq4] at h))
        clear hq4
        clear HE0 HE1
        go_wp2_with (go_at_call 54; first | ((with_reducible refine (h54a _).mono ?_); rintro e w3 ⟨rfl, rfl⟩) | ((with_reducible refine (h54b _).mono ?_); rintro e w3 ⟨rfl, rfl⟩) | ((with_reducible refine (h54c _).mono ?_); rintro e w3 ⟨rfl, rfl⟩))
        go_ret
        exact ⟨ret_int HN.out.symm, HS.out.1⟩
      simp only [hq4] at h54a
      by_cases hq5 : 1 ≤ ev
      rotate_left 1
      · have q5 : decide (ev < 1) = true := decide_eq_true (by omega)
        have HN := Lib.hid (HE0.out (fun h => hq5 (by omega)))
        clear hq4 hq5
        clear HE0 HE1
        go_wp2_with (go_at_call 54; first | ((with_reducible refine (h54a _).mono ?_); rintro e w3 ⟨rfl, rfl⟩) | ((with_reducible refine (h54b _).mono ?_); rintro e w3 ⟨rfl, rfl⟩) | ((with_reducible refine (h54c _).mono ?_); rintro e w3 ⟨rfl, rfl⟩))
        go_ret
        exact ⟨ret_int HN.out.symm, HS.out.1⟩
      have q5 : decide (ev < 1) = false := decide_eq_false (by omega)
      by_cases hq6 : ev ≤ 1000
      rotate_left 1
      · have q6 : decide (1000 < ev) = true := decide_eq_true (by omega)
        have HN := Lib.hid (HE0.out (fun h => hq6 (by omega)))
        clear hq4 hq5 hq6
        clear HE0 HE1
        go_wp2_with (go_at_call 54; first | ((with_reducible refine (h54a _).mono ?_); rintro e w3 ⟨rfl, rfl⟩) | ((with_reducible refine (h54b _).mono ?_); rintro e w3 ⟨rfl, rfl⟩) | ((with_reducible refine (h54c _).mono ?_); rintro e w3 ⟨rfl, rfl⟩))
        go_ret
        exact ⟨ret_int HN.out.symm, HS.out.1⟩
      have q6 : decide (1000 < ev) = false := decide_eq_false (by omega)
      by_cases hq7 : 1 ≤ sl
      rotate_left 1
      · have q7 : decide (sl < 1) = true := decide_eq_true (by omega)
        have HN := Lib.hid (HE0.out (fun h => hq7 (by omega)))
        clear hq4 hq5 hq6 hq7
        clear HE0 HE1
        go_wp2_with (go_at_call 54; first | ((with_reducible refine (h54a _).mono ?_); rintro e w3 ⟨rfl, rfl⟩) | ((with_reducible refine (h54b _).mono ?_); rintro e w3 ⟨rfl, rfl⟩) | ((with_reducible refine (h54c _).mono ?_); rintro e w3 ⟨rfl, rfl⟩))
        go_ret
        exact ⟨ret_int HN.out.symm, HS.out.1⟩
      have q7 : decide (sl < 1) = false := decide_eq_false (by omega)
      by_cases hq8 : sl ≤ 20
      rotate_left 1
      · have q8 : decide (20 < sl) = true := decide_eq_true (by omega)
        have HN := Lib.hid (HE0.out (fun h => hq8 (by omega)))
        clear hq4 hq5 hq6 hq7 hq8
        clear HE0 HE1
        go_wp2_with (go_at_call 54; first | ((with_reducible refine (h54a _).mono ?_); rintro e w3 ⟨rfl, rfl⟩) | ((with_reducible refine (h54b _).mono ?_); rintro e w3 ⟨rfl, rfl⟩) | ((with_reducible refine (h54c _).mono ?_); rintro e w3 ⟨rfl, rfl⟩))
        go_ret
        exact ⟨ret_int HN.out.symm, HS.out.1⟩
      have q8 : decide (20 < sl) = false := decide_eq_false (by omega)
      cases hq9 : Cv.inB dr 0 1073741824
      · simp only [hq9] at h54b
        have HN := Lib.hid (HE0.out (fun h => by simp [hq9] at h))
        clear hq4 hq5 hq6 hq7 hq8 hq9
        clear HE0 HE1
        go_wp2_with (go_at_call 54; first | ((with_reducible refine (h54a _).mono ?_); rintro e w3 ⟨rfl, rfl⟩) | ((with_reducible refine (h54b _).mono ?_); rintro e w3 ⟨rfl, rfl⟩) | ((with_reducible refine (h54c _).mono ?_); rintro e w3 ⟨rfl, rfl⟩))
        go_ret
        exact ⟨ret_int HN.out.symm, HS.out.1⟩
      simp only [hq9] at h54b
      cases hq10 : Cv.inB bk 0 1073741824
      · simp only [hq10] at h54c
        have HN := Lib.hid (HE0.out (fun h => by simp [hq10] at h))
        clear hq4 hq5 hq6 hq7 hq8 hq9 hq10
        clear HE0 HE1
        go_wp2_with (go_at_call 54; first | ((with_reducible refine (h54a _).mono ?_); rintro e w3 ⟨rfl, rfl⟩) | ((with_reducible refine (h54b _).mono ?_); rintro e w3 ⟨rfl, rfl⟩) | ((with_reducible refine (h54c _).mono ?_); rintro e w3 ⟨rfl, rfl⟩))
        go_ret
        exact ⟨ret_int HN.out.symm, HS.out.1⟩
      simp only [hq10] at h54c
      have HN := Lib.hid (HE1.out ⟨HQ.out.1, HQ.out.2.1, HQ.out.2.2, HQ3.out, hq4, hq5, hq6, hq7, hq8, hq9, hq10⟩)
      clear hq4 hq5 hq6 hq7 hq8 hq9 hq10
      clear HE0 HE1
      go_wp2_with (go_at_call 54; first | ((with_reducible refine (h54a _).mono ?_); rintro e w3 ⟨rfl, rfl⟩) | ((with_reducible refine (h54b _).mono ?_); rintro e w3 ⟨rfl, rfl⟩) | ((with_reducible refine (h54c _).mono ?_); rintro e w3 ⟨rfl, rfl⟩))
      go_ret
      exact ⟨ret_int HN.out.symm, HS.out.1⟩

theorem short_x (day fee : Int) (A : Option Addr) (n cap : Nat) (w : World) : Calls Try.prog 11 #[.agg #[.int .i64 day, .slice A n cap, .int .i64 fee]] w fun e w' => e = .returned (.bool (decide ((n : Int) ≤ 100))) ∧ Below w.heap.size w w' := by
  go_enter Try.func11, Try.ntmps11
  go_wp2
  go_ret
  exact ⟨rfl, (Below.refl _ _).alloc (Nat.le_refl _) _⟩
def SomeB (P : World → Prop) (e : Ending) (w' : World) : Prop := ∃ b : Bool, e = .returned (.bool b) ∧ P w'
set_option maxHeartbeats 2000000 in
theorem brief_c (day fee : Int) (A : Option Addr) (bs : List Bd) (cap : Nat) (C : Option Addr) (cs : List Ct) (cc : Nat) (cr ev sl dr bk : Int) (w : World) (hcap : bs.length ≤ cap) (hl : cap ≤ 9223372036854775807) (hw : BandsAt w A bs) (hcc : cs.length ≤ cc) (hl2 : cc ≤ 9223372036854775807) (hw2 : CtsAt w C cs) :
    Calls Try.prog 36 #[dealV day fee A bs cap C cs cc cr ev sl dr bk] w (SomeB (fun w' => Below w.heap.size w w')) := by
  have h11 := fun w0 => short_x day fee A bs.length cap w0
  have HCW := fun w0 => Lib.hid (CtsAt.below (w1 := w0) hw2)
  have hn63 : bs.length ≤ 9223372036854775807 := by omega
  have hm63 : cs.length ≤ 9223372036854775807 := by omega
  clear hw hw2
  cases hs : decide ((bs.length : Int) ≤ 100)
  · simp only [hs] at h11
    clear hs
    go_enter Try.func36, Try.ntmps36
    go_wp2_with (go_at_call 11; refine (h11 _).mono ?_; rintro e w1 ⟨rfl, hb⟩; have B1 := Lib.hid (((Below.refl w.heap.size w).alloc (Nat.le_refl _) _).trans (hb.mono (by simp))); have t3 : w1.cell? ⟨w.heap.size, 3, none⟩ = some (.slice C cs.length cc) := below_cell hb (by simp) (by go_simp); have t4 : w1.cell? ⟨w.heap.size, 4, none⟩ = some (.int .i64 cr) := below_cell hb (by simp) (by go_simp); have t5 : w1.cell? ⟨w.heap.size, 5, none⟩ = some (.int .i64 ev) := below_cell hb (by simp) (by go_simp); have t6 : w1.cell? ⟨w.heap.size, 6, none⟩ = some (.int .i64 sl) := below_cell hb (by simp) (by go_simp); have t7 : w1.cell? ⟨w.heap.size, 7, none⟩ = some (.int .i64 dr) := below_cell hb (by simp) (by go_simp); have t8 : w1.cell? ⟨w.heap.size, 8, none⟩ = some (.int .i64 bk) := below_cell hb (by simp) (by go_simp); have z1 : w.heap.size < w1.heap.size := (by have := hb.size; simp at this; omega); clear hb)
    go_ret
    exact ⟨_, rfl, B1.out⟩
  simp only [hs] at h11
  clear hs
  by_cases hn : cs.length ≤ 40
  rotate_left 1
  · have q1 : decide (40 < (cs.length : Int)) = true := decide_eq_true (by omega)
    clear hn
    go_enter Try.func36, Try.ntmps36
    go_wp2_with (go_at_call 11; refine (h11 _).mono ?_; rintro e w1 ⟨rfl, hb⟩; have B1 := Lib.hid (((Below.refl w.heap.size w).alloc (Nat.le_refl _) _).trans (hb.mono (by simp))); have t3 : w1.cell? ⟨w.heap.size, 3, none⟩ = some (.slice C cs.length cc) := below_cell hb (by simp) (by go_simp); have t4 : w1.cell? ⟨w.heap.size, 4, none⟩ = some (.int .i64 cr) := below_cell hb (by simp) (by go_simp); have t5 : w1.cell? ⟨w.heap.size, 5, none⟩ = some (.int .i64 ev) := below_cell hb (by simp) (by go_simp); have t6 : w1.cell? ⟨w.heap.size, 6, none⟩ = some (.int .i64 sl) := below_cell hb (by simp) (by go_simp); have t7 : w1.cell? ⟨w.heap.size, 7, none⟩ = some (.int .i64 dr) := below_cell hb (by simp) (by go_simp); have t8 : w1.cell? ⟨w.heap.size, 8, none⟩ = some (.int .i64 bk) := below_cell hb (by simp) (by go_simp); have z1 : w.heap.size < w1.heap.size := (by have := hb.size; simp at this; omega); clear hb)
    go_ret
    exact ⟨_, rfl, B1.out⟩
  have q1 : decide (40 < (cs.length : Int)) = false := decide_eq_false (by omega)
  clear hn
  go_enter Try.func36, Try.ntmps36
  go_wp2_with (go_at_call 11; refine (h11 _).mono ?_; rintro e w1 ⟨rfl, hb⟩; have B1 := Lib.hid (((Below.refl w.heap.size w).alloc (Nat.le_refl _) _).trans (hb.mono (by simp))); have t3 : w1.cell? ⟨w.heap.size, 3, none⟩ = some (.slice C cs.length cc) := below_cell hb (by simp) (by go_simp); have t4 : w1.cell? ⟨w.heap.size, 4, none⟩ = some (.int .i64 cr) := below_cell hb (by simp) (by go_simp); have t5 : w1.cell? ⟨w.heap.size, 5, none⟩ = some (.int .i64 ev) := below_cell hb (by simp) (by go_simp); have t6 : w1.cell? ⟨w.heap.size, 6, none⟩ = some (.int .i64 sl) := below_cell hb (by simp) (by go_simp); have t7 : w1.cell? ⟨w.heap.size, 7, none⟩ = some (.int .i64 dr) := below_cell hb (by simp) (by go_simp); have t8 : w1.cell? ⟨w.heap.size, 8, none⟩ = some (.int .i64 bk) := below_cell hb (by simp) (by go_simp); have z1 : w.heap.size < w1.heap.size := (by have := hb.size; simp at this; omega); clear hb)
  clear q1
  go_loop [3] (fun i => ∃ k : Nat, k ≤ cs.length ∧ i = .int .i64 k) (fun i => cs.length - (intOf i).toNat)
  case atStart => exact ⟨0, Nat.zero_le _, rfl⟩
  case round =>
    obtain ⟨k, hk, rfl⟩ := hrel
    by_cases hlt : k < cs.length
    · obtain ⟨ad, rfl, hlb, c0, c1, ha⟩ := (HCW _).out B1.out k hlt
      have hcn := ha.2.1
      have hcm := ha.2.2
      clear ha c0
      generalize cs.getD k default = c at *
      generalize c.ps.length = m at *
      by_cases hm : (m : Int) ≤ 200
      · have q2 : decide (200 < (m : Int)) = false := decide_eq_false (by omega)
        clear hm
        go_wp2
        go_round
        case rel => exact ⟨k + 1, by omega, by go_num⟩
        case measure => simp [intOf]; omega
      · have q2 : decide (200 < (m : Int)) = true := decide_eq_true (by omega)
        clear hm
        go_wp2
        go_ret
        exact ⟨_, rfl, B1.out⟩
    · go_wp2
      go_ret
      exact ⟨_, rfl, B1.out⟩
end Go.Proofs.Ytafajclbghofkaa
