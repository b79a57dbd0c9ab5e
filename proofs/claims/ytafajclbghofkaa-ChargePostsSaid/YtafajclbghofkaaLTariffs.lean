/- The law of tariffs. -/
import Derived.Test.YtafajclbghofkaaB1
import Derived.Deep.RegionHeld3
import Derived.Deep.DrawnRows
namespace Go.Proofs.Ytafajclbghofkaa
open Go.RowKit
set_option linter.unusedVariables false

theorem short_c (day fee : Int) (A : Option Addr) (n cap : Nat) (w : World) : Calls Try.prog 11 #[.agg #[.int .i64 day, .slice A n cap, .int .i64 fee]] w fun e w' => e = .returned (.bool (decide ((n : Int) ≤ 100))) ∧ Below w.heap.size w w' := by
  go_enter Try.func11, Try.ntmps11
  go_wp2
  go_ret
  exact ⟨rfl, (Below.refl _ _).alloc (Nat.le_refl _) _⟩

/-- the tariff's own variable, and what was there before -/
abbrev TarS (g : Nat) (day : Int) (A : Option Addr) (n cap : Nat) (fee : Int) (w w' : World) : Prop := (w'.cell? ⟨g, 0, none⟩ = some (.int .i64 day) ∧ w'.cell? ⟨g, 1, none⟩ = some (.slice A n cap) ∧ w'.cell? ⟨g, 2, none⟩ = some (.int .i64 fee)) ∧ Hid (Below g w w')
theorem tarS_below {g : Nat} {day : Int} {A : Option Addr} {n cap : Nat} {fee : Int} {w w' : World} (h : TarS g day A n cap fee w w') : Below g w w' := h.2.out
theorem tarS_keep {g : Nat} {day : Int} {A : Option Addr} {n cap : Nat} {fee : Int} {w w' w1 : World} (h : TarS g day A n cap fee w w') (hb : Below w'.heap.size w' w1) : TarS g day A n cap fee w w1 := by
  have hg : g < w'.heap.size := World.block_lt_of_cell? _ ⟨g, 0, none⟩ h.1.1
  exact ⟨⟨below_cell hb hg h.1.1, below_cell hb hg h.1.2.1, below_cell hb hg h.1.2.2⟩, h.2.out.trans (hb.mono (Nat.le_of_lt hg))⟩

set_option maxHeartbeats 8000000 in
theorem Tariffs_walk (day fee a x y : Int) (A : Option Addr) (bs : List Bd) (cap : Nat) (w : World) (hcap : bs.length ≤ cap) (hl : cap ≤ 9223372036854775807) (hw : BandsAt w A bs) :
    Calls Try.prog 3 #[.agg #[.int .i64 day, .slice A bs.length cap, .int .i64 fee], .int .i64 a, .int .i64 x, .int .i64 y] w fun e w' => e = .returned (.bool true) ∧ Below w.heap.size w w' := by
  have HBW := fun w0 => Lib.hid (BandsAt.below (w1 := w0) hw)
  have h17 := fun w0 hw0 => CheckTariff_c day fee A bs cap w0 hcap hl hw0
  have h18 := fun w0 hw0 => CheckTariffR_c day fee A bs cap w0 hcap hl hw0
  have h13 := fun w0 hw0 => Price_c day fee A bs cap a w0 hcap hl hw0
  have h14 := fun w0 hw0 => PriceR_c day fee A bs cap a w0 hcap hl hw0
  have h15 := fun w0 hw0 => Cost_c day fee A bs cap a x y w0 hcap hl hw0
  have h16 := fun w0 hw0 => CostR_c day fee A bs cap a x y w0 hcap hl hw0
  have h11 := fun w0 => short_c day fee A bs.length cap w0
  clear hw
  generalize Cv.tarE day fee bs = te at *
  generalize Cv.prE day fee bs a = pe at *
  generalize Cv.pr1 day fee bs a = p1 at *
  generalize Cv.pr2 day fee bs a = p2 at *
  generalize Cv.coV day fee bs a x y = cv at *
  generalize Cv.coE day fee bs a x y = ce at *
  by_cases hs : (bs.length : Int) ≤ 100
  · have hs' : decide ((bs.length : Int) ≤ 100) = true := decide_eq_true hs
    simp only [hs'] at h11
    clear hs hs'
    go_enter Try.func3, Try.ntmps3
    go_wp2_with (first
      | (go_at_call 11; refine (h11 _).mono ?_; rintro e w1 ⟨rfl, hb⟩; have B1 := Lib.hid (((Below.refl w.heap.size w).alloc (Nat.le_refl _) _).trans (hb.mono (by simp))); have t0 : w1.cell? ⟨w.heap.size, 0, none⟩ = some (.int .i64 day) := below_cell hb (by simp) (by go_simp); have t1 : w1.cell? ⟨w.heap.size, 1, none⟩ = some (.slice A bs.length cap) := below_cell hb (by simp) (by go_simp); have t2 : w1.cell? ⟨w.heap.size, 2, none⟩ = some (.int .i64 fee) := below_cell hb (by simp) (by go_simp); have z1 : w.heap.size < w1.heap.size := (by have := hb.size; simp at this; omega); clear hb)
      | (go_at_call 13; refine (h13 _ ((HBW _).out B1.out)).mono ?_; rintro e w2 ⟨rfl, hb⟩; have B2 := Lib.hid (B1.out.trans (hb.mono (by omega))); have u0 : w2.cell? ⟨w.heap.size, 0, none⟩ = some (.int .i64 day) := below_cell hb (by omega) t0; have u1 : w2.cell? ⟨w.heap.size, 1, none⟩ = some (.slice A bs.length cap) := below_cell hb (by omega) t1; have u2 : w2.cell? ⟨w.heap.size, 2, none⟩ = some (.int .i64 fee) := below_cell hb (by omega) t2; have z2 : w.heap.size < w2.heap.size := Nat.lt_of_lt_of_le z1 hb.size; clear hb)
      | (go_at_call 14; refine (h14 _ ((HBW _).out B2.out)).mono ?_; rintro e w3 ⟨rfl, hb⟩; have B3 := Lib.hid (B2.out.trans (hb.mono (by omega))); have v0 : w3.cell? ⟨w.heap.size, 0, none⟩ = some (.int .i64 day) := below_cell hb (by omega) u0; have v1 : w3.cell? ⟨w.heap.size, 1, none⟩ = some (.slice A bs.length cap) := below_cell hb (by omega) u1; have v2 : w3.cell? ⟨w.heap.size, 2, none⟩ = some (.int .i64 fee) := below_cell hb (by omega) u2; have z3 : w.heap.size < w3.heap.size := Nat.lt_of_lt_of_le z2 hb.size; clear hb)
      | (go_at_call 15; refine (h15 _ ((HBW _).out B3.out)).mono ?_; rintro e w4 ⟨rfl, hb⟩; have B4 := Lib.hid (B3.out.trans (hb.mono (by omega))); have x0 : w4.cell? ⟨w.heap.size, 0, none⟩ = some (.int .i64 day) := below_cell hb (by omega) v0; have x1 : w4.cell? ⟨w.heap.size, 1, none⟩ = some (.slice A bs.length cap) := below_cell hb (by omega) v1; have x2 : w4.cell? ⟨w.heap.size, 2, none⟩ = some (.int .i64 fee) := below_cell hb (by omega) v2; have z4 : w.heap.size < w4.heap.size := Nat.lt_of_lt_of_le z3 hb.size; clear hb)
      | (go_at_call 16; refine (h16 _ ((HBW _).out B4.out)).mono ?_; rintro e w5 ⟨rfl, hb⟩; have B5 := Lib.hid (B4.out.trans (hb.mono (by omega))); have y0 : w5.cell? ⟨w.heap.size, 0, none⟩ = some (.int .i64 day) := below_cell hb (by omega) x0; have y1 : w5.cell? ⟨w.heap.size, 1, none⟩ = some (.slice A bs.length cap) := below_cell hb (by omega) x1; have y2 : w5.cell? ⟨w.heap.size, 2, none⟩ = some (.int .i64 fee) := below_cell hb (by omega) x2; have z5 : w.heap.size < w5.heap.size := Nat.lt_of_lt_of_le z4 hb.size; clear hb))
    have HS := Lib.hid (show TarS w.heap.size day A bs.length cap fee w w5.drew from ⟨⟨y0, y1, y2⟩, B5.out.drew⟩)
    clear B1 B2 B3 B4 B5 t0 t1 t2 u0 u1 u2 v0 v1 v2 x0 x1 x2 y0 y1 y2 z1 z2 z3 z4 z5
    go_region_held3 (fun w' => (w'.cell? ⟨w.heap.size, 0, none⟩ = some (.int .i64 day) ∧ w'.cell? ⟨w.heap.size, 1, none⟩ = some (.slice A bs.length cap) ∧ w'.cell? ⟨w.heap.size, 2, none⟩ = some (.int .i64 fee)) ∧ Hid (Below w.heap.size w w')) (first | assumption | exact HS.out | exact tarS_keep (by assumption) (by assumption)) (first
      | (go_at_call 17; refine (h17 _ ((HBW _).out (tarS_below (by assumption)))).mono ?_; rintro e w6 ⟨rfl, hb⟩)
      | (go_at_call 18; refine (h18 _ ((HBW _).out (tarS_below (by assumption)))).mono ?_; rintro e w6 ⟨rfl, hb⟩)
      | (go_at_call 12; refine (works_c _).mono ?_; rintro e w6 ⟨rfl, hb⟩))
    all_goals
      go_wp2_with fail
      go_ret
      exact ⟨rfl, tarS_below (by assumption)⟩
  · have hs' : decide ((bs.length : Int) ≤ 100) = false := decide_eq_false hs
    simp only [hs'] at h11
    clear hs hs'
    go_enter Try.func3, Try.ntmps3
    go_wp2_with (first
      | (go_at_call 11; refine (h11 _).mono ?_; rintro e w1 ⟨rfl, hb⟩; have B1 := Lib.hid (((Below.refl w.heap.size w).alloc (Nat.le_refl _) _).trans (hb.mono (by simp))); clear hb)
      | (go_at_call 12; refine (works_c _).mono ?_; rintro e w2 ⟨rfl, hb⟩; have B2 := Lib.hid (B1.out.trans (hb.mono B1.out.size)); clear hb))
    go_ret
    exact ⟨rfl, B2.out⟩
end Go.Proofs.Ytafajclbghofkaa
