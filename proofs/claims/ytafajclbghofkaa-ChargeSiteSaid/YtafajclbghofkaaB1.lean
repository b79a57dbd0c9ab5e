/- Example of the law: a tariff of two bands. -/
import Derived.Test.YtafajclbghofkaaB2
namespace Go.Proofs.Ytafajclbghofkaa
open Go.RowKit
set_option linter.unusedVariables false

def exBs : List Bd := [⟨0, 36, 18⟩, ⟨50, 72, 0⟩]

set_option maxHeartbeats 1000000 in
theorem Example_c (w : World) : Calls Try.prog 50 #[] w fun e w' => (∃ g, e = .returned (.agg #[.int .i64 100, .slice (some ⟨g, 0, none⟩) 2 2, .int .i64 10]) ∧ BandsAt w' (some ⟨g, 0, none⟩) exBs) ∧ Below w.heap.size w w' := by
  go_enter Try.func50, Try.ntmps50
  go_wp2
  refine bodyPost_ret (v := .agg #[.int .i64 100, .slice (some ⟨w.heap.size + 1, 0, none⟩) 2 2, .int .i64 10]) (by simp [results, Try.results50, go_sem]) rfl ⟨⟨w.heap.size + 1, rfl, ?_⟩, ((Below.refl _ _).alloc (Nat.le_refl _) _).alloc (by simp) _⟩
  intro i hi
  have hi2 : i < 2 := hi
  have h01 : i = 0 ∨ i = 1 := by omega
  rcases h01 with rfl | rfl
  · exact ⟨_, rfl, by simp, by simp [Addr.add, go_sem, Cv.fr, exBs], by simp [Addr.add, go_sem, Cv.inn, exBs], by simp [Addr.add, go_sem, Cv.bk, exBs]⟩
  · exact ⟨_, rfl, by simp, by simp [Addr.add, go_sem, Cv.fr, exBs], by simp [Addr.add, go_sem, Cv.inn, exBs], by simp [Addr.add, go_sem, Cv.bk, exBs]⟩

theorem exOk : Cv.TarOk 100 10 exBs := by
  refine ⟨by omega, ⟨by decide, by decide⟩, by omega, fun i hi => ?_⟩
  have hi2 : i < 2 := hi
  have h01 : i = 0 ∨ i = 1 := by omega
  rcases h01 with rfl | rfl <;> simp [Cv.okAt, Cv.fr, Cv.inn, Cv.bk, exBs]
theorem exPrice : Cv.prE 100 10 exBs 50 = 0 ∧ Cv.pr1 100 10 exBs 50 = 72 ∧ Cv.pr2 100 10 exBs 50 = 0 := by
  have hK : Cv.prK 100 exBs 50 = 1 := by simp [Cv.prK, Cv.bandK, Cv.fr, exBs]
  have h := price_0 (a := 50) (Cv.tarE_ok exOk) (by decide)
  rw [hK] at h
  exact ⟨h.1, h.2.1.trans rfl, h.2.2.trans rfl⟩
theorem exCost : Cv.coV 100 10 exBs 50 3600000 0 = 72 ∧ Cv.coE 100 10 exBs 50 3600000 0 = 0 := by
  have h := co_yes (x := 3600000) (y := 0) exPrice.1 (by decide)
  rw [exPrice.2.1, exPrice.2.2] at h
  exact ⟨h.1.trans (by decide), h.2⟩

theorem NewLine_c (w : World) : Calls Try.prog 27 #[] w fun e w' => e = .returned (.pointer (some ⟨w.heap.size, 0, none⟩)) ∧ w' = w.alloc (.cells #[.bool true, .slice none 0 0, .int .i64 0, .int .i64 0, .bool false] 130) := by
  go_enter Try.func27, Try.ntmps27
  go_wp2
  go_ret
  exact ⟨rfl, rfl⟩
set_option maxHeartbeats 1000000 in
theorem Waiting_c (g n cap : Nat) (A : Option Addr) (w : World) (c0 : w.cell? ⟨g, 0, none⟩ = some (.bool true)) (c1 : w.cell? ⟨g, 1, none⟩ = some (.slice A n cap)) : Calls Try.prog 29 #[.pointer (some ⟨g, 0, none⟩)] w fun e w' => e = .returned (.int .i64 n) ∧ w' = w := by
  go_enter Try.func29, Try.ntmps29
  go_wp2
  go_ret
  exact ⟨rfl, rfl⟩
set_option maxHeartbeats 4000000 in
theorem works_c (w : World) : Calls Try.prog 12 #[] w fun e w' => e = .returned (.bool true) ∧ Below w.heap.size w w' := by
  have hc := fun g w0 hw => Cost_c 100 10 (some ⟨g, 0, none⟩) exBs 2 50 3600000 0 w0 (by decide) (by omega) hw
  simp only [exCost.1, exCost.2] at hc
  go_enter Try.func12, Try.ntmps12
  go_wp2_with (first
    | (go_at_call 50; refine (Example_c _).mono ?_; rintro e w1 ⟨⟨g, rfl, hbs⟩, hb⟩; have HB := Lib.hid hb; have HS := Lib.hid hbs; clear hb hbs)
    | (go_at_call 15; refine (hc _ _ HS.out).mono ?_; rintro e w2 ⟨rfl, hb⟩; have HB2 := Lib.hid (HB.out.trans (hb.mono HB.out.size)); clear hb)
    | (go_at_call 27; refine (NewLine_c _).mono ?_; rintro e w3 ⟨rfl, rfl⟩)
    | (go_at_call 28; refine (Send_x _ _ _ _ _ _ _ (by go_simp) (by go_simp) (by go_simp) (by simp)).mono ?_; rintro e w4 ⟨rfl, hb, d0, g', cap, d1⟩; have HB4 := Lib.hid ((HB2.out.alloc HB2.out.size _).trans (hb.mono HB2.out.size)); clear hb)
    | (go_at_call 29; refine (Waiting_c _ 1 _ _ _ d0 d1).mono ?_; rintro e w5 ⟨rfl, rfl⟩))
  all_goals
    go_ret
    exact ⟨rfl, HB4.out⟩
end Go.Proofs.Ytafajclbghofkaa
