/- The walk of coulomblaw06.DriveShares. -/
import Derived.Test.YtcneohhfnnelgaaW39
import Derived.Test.YtcneohhfnnelgaaM7
import Derived.Test.YtcneohhfnnelgaaW7
namespace Go.Proofs.Ytcneohhfnnelgaa
open Go.RowKit
set_option linter.unusedVariables false

namespace Dv
/-- what a case of DriveShares rests on -/
structure ShF (T : Int) (xs ys : List Int) : Prop where
  len : ys.length = xs.length
  l8 : xs.length ≤ 8
  x : ∀ k, k < xs.length → 0 ≤ xs.getD k 0 ∧ xs.getD k 0 ≤ 68719476736
  y : ∀ k, k < xs.length → 0 ≤ ys.getD k 0 ∧ ys.getD k 0 ≤ xs.getD k 0
  sum : sm ys = min T (sm xs)
  less : ∀ l, 0 ≤ l → l < mx ys → pour l xs < sm ys
theorem shF {T L : Int} {xs ys : List Int} (h8 : xs.length ≤ 8) (hok : okS xs) (hL : Lev T xs L) (e : ys = shR L (T - pour L xs) xs) : ShF T xs ys := by
  subst e
  exact ⟨shR_length _ _ _, h8, fun k hk => okS_get hok k hk, fun k hk => ⟨(shares_each hok hL k hk).1, (shares_each hok hL k hk).2.1⟩, shares_sum hok hL, fun l h0 hl => shares_less hok hL h0 hl⟩
end Dv

set_option maxHeartbeats 2000000 in
theorem DShares_no (T : Int) (A : Option Addr) (xs : List Int) (cap : Nat) (l : Int) (w : World) (er : Int) (he : er = 6 ∨ er = 3) (hc : Calls Try.prog 37 #[.int .i64 T, .slice A xs.length cap] w fun e w' => Below w.heap.size w w' ∧ ∃ (A' : Option Addr) (cap' : Nat) (ys : List Int), e = .returned (.tuple #[.slice A' ys.length cap', .int .i64 er])) :
    Calls Try.prog 9 #[.int .i64 T, .slice A xs.length cap, .int .i64 l] w fun e w' => e = .returned (.bool true) ∧ Below w.heap.size w w' := by
  have HC := Lib.hid hc
  clear hc
  rcases he with rfl | rfl
  all_goals
    go_enter Try.func9, Try.ntmps9
    go_wp2_with fail
    refine HC.out.mono ?_
    rintro e w1 ⟨hb1, A', cap', ys, rfl⟩
    have HB := Lib.hid hb1
    clear hb1
    go_wp2_with fail
    refine (known_c _).mono ?_
    rintro e w2 ⟨rfl, hb2⟩
    have HB2 := Lib.hid (HB.out.trans (hb2.mono HB.out.size))
    clear hb2
    go_wp2
    go_ret
    exact ⟨rfl, HB2.out⟩

set_option maxHeartbeats 4000000 in
set_option maxRecDepth 100000 in
theorem DShares_go (T : Int) (A : Option Addr) (xs ys : List Int) (cap : Nat) (l : Int) (w : World) (hx : IntsAt w A xs) (hf : Dv.ShF T xs ys) (hc : Calls Try.prog 37 #[.int .i64 T, .slice A xs.length cap] w fun e w' => Below w.heap.size w w' ∧ ∃ (A' : Option Addr) (cap' : Nat), e = .returned (.tuple #[.slice A' xs.length cap', .int .i64 0]) ∧ IntsAt w' A' ys) :
    Calls Try.prog 9 #[.int .i64 T, .slice A xs.length cap, .int .i64 l] w fun e w' => e = .returned (.bool true) ∧ Below w.heap.size w w' := by
  have HC := Lib.hid hc
  have HX := Lib.hid hx
  have HF := Lib.hid hf
  have h8 := hf.l8
  have h8l : ys.length = xs.length := hf.len
  have GM := gmin_eq
  have GX := gmax_eq
  clear hc hx hf
  go_enter Try.func9, Try.ntmps9
  go_wp2_with fail
  refine HC.out.mono ?_
  rintro e w1 ⟨hb1, A', cap', rfl, hy1⟩
  have HB := Lib.hid hb1
  have HY := Lib.hid hy1
  have HX1 := Lib.hid (HX.out.below hb1)
  clear hb1 hy1
  go_wp2_with fail
  go_loopw [9, 10, 11, 12] (fun s a g i wr => ∃ k : Nat, k ≤ xs.length ∧ i = .int .i64 k ∧ s = .int .i64 (Dv.sm (ys.take k)) ∧ a = .int .i64 (Dv.sm (xs.take k)) ∧ g = .int .i64 (Dv.mx (ys.take k)) ∧ Hid (IntsAt wr A xs ∧ IntsAt wr A' ys ∧ Below w.heap.size w wr)) (fun _ _ _ i _ => xs.length - (intOf i).toNat)
  case atStart => exact ⟨0, Nat.zero_le _, rfl, rfl, rfl, rfl, Lib.hid ⟨HX1.out, HY.out, HB.out⟩⟩
  case round =>
    obtain ⟨k, hk, rfl, rfl, rfl, rfl, HR⟩ := hrel
    by_cases hlt : k < xs.length
    · obtain ⟨ad, rfl, hcx⟩ := HR.out.1 k hlt
      obtain ⟨bd, rfl, hcy⟩ := HR.out.2.1 k (by omega)
      have bx := HF.out.x k hlt
      have bY := HF.out.y k hlt
      have bs := Dv.sm_bd (ys := ys) (fun j hj => by have h1 := HF.out.y j (by omega); have h2 := HF.out.x j (by omega); omega) k (by omega)
      have bs2 := Dv.sm_bd (ys := xs) (fun j hj => HF.out.x j hj) k (by omega)
      have bm := Dv.mx_nonneg (ys.take k)
      have T1 := Lib.hid (Dv.sm_take ys k (by omega))
      have T2 := Lib.hid (Dv.sm_take xs k hlt)
      have T3 := Lib.hid (Dv.mx_take ys k (by omega) bY.1)
      have zx := World.block_lt_of_cell? _ _ hcx
      have zy := World.block_lt_of_cell? _ _ hcy
      generalize xs.getD k 0 = x at hcx bx bY T2
      generalize ys.getD k 0 = y at hcy bY T1 T3
      generalize Dv.sm (ys.take k) = s at bs T1 ⊢
      generalize Dv.sm (xs.take k) = a at bs2 T2 ⊢
      generalize Dv.mx (ys.take k) = g at bm T3 ⊢
      have hkb : (k : Int) ≤ 8 := by omega
      have hpx : ∀ z : Past wr, z.w.cell? (ad.add k) = some (.int .i64 x) := fun z => (z.far.cell zx).trans hcx
      have hpy : ∀ z : Past wr, z.w.cell? (bd.add k) = some (.int .i64 y) := fun z => (z.far.cell zy).trans hcy
      have hcx' := hcx
      have hcy' := hcy
      have d1 : decide (y < 0) = false := by simp; omega
      have d2 : decide (x < y) = false := by simp; omega
      go_wp2_with fail
      refine wp_region_past (by kernel_rfl) (by kernel_rfl) ?_
      repeat (go_big_quiet_step (fail))
      refine wpQuiet_nil ?_
      intro z
      have HR2 := Lib.hid (And.intro (HR.out.1.below z.far) (And.intro (HR.out.2.1.below z.far) (HR.out.2.2.trans (z.far.mono HR.out.2.2.size))))
      have cx := hpx z
      have cy := hpy z
      clear hpx hpy hcx hcy hcx' hcy' zx zy
      generalize z.w = w4 at HR2 cx cy ⊢
      go_wp2
      go_roundw
      case rel => exact ⟨k + 1, by omega, by go_num, by rw [T1.out], by rw [T2.out], by rw [T3.out], HR2⟩
      case measure => simp [intOf]; omega
    · have e : k = xs.length := by omega
      subst e
      rw [show ys.take xs.length = ys from by rw [← h8l, List.take_length], List.take_length]
      have HE := HF.out.sum
      have HXE := Lib.hid (HR.out.1)
      have HW := Lib.hid HR.out.2.2
      have HS := Lib.hid (HF.out.less l)
      have bs := (Dv.sm_bd (ys := ys) (fun j hj => by have h1 := HF.out.y j (by omega); have h2 := HF.out.x j (by omega); omega) ys.length (Nat.le_refl _))
      rw [List.take_length] at bs
      clear HR
      generalize Dv.sm ys = s at HE HS bs ⊢
      generalize Dv.sm xs = a at HE ⊢
      generalize Dv.mx ys = g at HS ⊢
      have hne : (s != min T a) = false := by simp [HE]
      clear HE
      by_cases g1 : l < 0
      · go_wp2_with fail
        refine (known_c _).mono ?_
        rintro e w7 ⟨rfl, hb7⟩
        have HB7 := Lib.hid (HW.out.trans (hb7.mono HW.out.size))
        clear hb7
        go_wp2
        go_ret
        exact ⟨rfl, HB7.out⟩
      · by_cases g2 : g ≤ l
        · go_wp2_with fail
          refine (known_c _).mono ?_
          rintro e w7 ⟨rfl, hb7⟩
          have HB7 := Lib.hid (HW.out.trans (hb7.mono HW.out.size))
          clear hb7
          go_wp2
          go_ret
          exact ⟨rfl, HB7.out⟩
        · have HL := Lib.hid (HS.out (by omega) (by omega))
          go_wp2_with fail
          go_loopw [13, 14] (fun q i wr => ∃ k : Nat, k ≤ xs.length ∧ i = .int .i64 k ∧ q = .int .i64 (Dv.pour l (xs.take k)) ∧ Hid (IntsAt wr A xs ∧ Below w.heap.size w wr)) (fun _ i _ => xs.length - (intOf i).toNat)
          case atStart => exact ⟨0, Nat.zero_le _, rfl, rfl, Lib.hid ⟨HXE.out, HW.out⟩⟩
          case round =>
            obtain ⟨k, hk, rfl, rfl, HR⟩ := hrel
            by_cases hlt : k < xs.length
            · obtain ⟨ad, rfl, hcx⟩ := HR.out.1 k hlt
              have bx := HF.out.x k hlt
              have bp := Dv.pour_bd (Dv.okS_take (Dv.okS_of HF.out.x) k) (show 0 ≤ l by omega)
              have hkb : ((xs.take k).length : Int) ≤ 8 := by rw [List.length_take]; omega
              have T1 := Lib.hid (Dv.pour_take l xs k hlt)
              generalize xs.getD k 0 = x at hcx bx T1
              generalize Dv.pour l (xs.take k) = q at bp T1 ⊢
              have hmb : 0 ≤ min x l ∧ min x l ≤ 68719476736 := by omega
              have hmc := Lib.hid (Int.min_comm x l)
              go_wp2
              go_roundw
              case rel => exact ⟨k + 1, by omega, by go_num, by rw [T1.out, ← hmc.out], HR⟩
              case measure => simp [intOf]; omega
            · have e : k = xs.length := by omega
              subst e
              rw [List.take_length]
              have hll := HL.out
              have HW2 := Lib.hid HR.out.2
              clear HR
              go_wp2_with fail
              refine (known_c _).mono ?_
              rintro e w7 ⟨rfl, hb7⟩
              have HB7 := Lib.hid (HW2.out.trans (hb7.mono HW2.out.size))
              clear hb7
              go_wp2
              go_ret
              exact ⟨rfl, HB7.out⟩

theorem DriveShares_any (T : Int) (A : Option Addr) (xs : List Int) (cap : Nat) (l : Int) (w : World) (hx : IntsAt w A xs) :
    Calls Try.prog 9 #[.int .i64 T, .slice A xs.length cap, .int .i64 l] w fun e w' => e = .returned (.bool true) ∧ Below w.heap.size w w' := by
  by_cases hok : (1 ≤ xs.length ∧ xs.length ≤ 8) ∧ (0 ≤ T ∧ T ≤ 68719476736) ∧ Dv.okS xs
  · obtain ⟨⟨h1, h8⟩, hT, ho⟩ := hok
    obtain ⟨L, hL⟩ := Dv.lev_exists (T := T) ho hT.1
    refine DShares_go T A xs (Dv.shR L (T - Dv.pour L xs) xs) cap l w hx (Dv.shF h8 ho hL rfl) ((Shares_go T A xs cap w hx h1 h8 hT ho).mono ?_)
    rintro e w' ⟨L', g, hL', rfl, hb, hg⟩
    obtain rfl := Dv.lev_unique hL hL'
    exact ⟨hb, _, _, rfl, intsAt_blk hg⟩
  · have hno : ∃ er, (er = 6 ∨ er = 3) ∧ ∀ ys er', Dv.ShOut T xs ys er' → er' = er := by
      by_cases h1 : 1 ≤ xs.length ∧ xs.length ≤ 8
      · exact ⟨3, .inr rfl, fun ys er' h => by
          rcases h with ⟨h, _⟩ | ⟨_, _, h, _⟩ | ⟨h, _⟩
          · exact absurd h1 h
          · exact h
          · exact absurd h hok⟩
      · exact ⟨6, .inl rfl, fun ys er' h => by
          rcases h with ⟨_, h, _⟩ | ⟨h, _⟩ | ⟨h, _⟩
          · exact h
          · exact absurd h h1
          · exact absurd h.1 h1⟩
    obtain ⟨er, he, hu⟩ := hno
    refine DShares_no T A xs cap l w er he ((Shares_c T A xs cap w hx).mono ?_)
    rintro e w' ⟨hb, A', cap', ys, er', rfl, _, ho⟩
    exact ⟨hb, A', cap', ys, by rw [hu _ _ ho]⟩
end Go.Proofs.Ytcneohhfnnelgaa
