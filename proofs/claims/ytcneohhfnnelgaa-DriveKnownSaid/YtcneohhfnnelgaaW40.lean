/- The contract of Shares of coulombref06, where it shares. -/
import Derived.Test.YtcneohhfnnelgaaW39
import Derived.OwnWalk
namespace Go.Proofs.Ytcneohhfnnelgaa
open Go.RowKit
set_option linter.unusedVariables false
namespace Dv
def pw (m : Nat) : Int := 2 ^ m
def hf : Nat → Int
  | 0 => 0
  | m + 1 => pw m
theorem pw_succ (m : Nat) : pw (m + 1) = 2 * pw m := by unfold pw; rw [Int.pow_succ]; omega
theorem pw_pos (m : Nat) : 1 ≤ pw m := by
  induction m with
  | zero => decide
  | succ m ih => rw [pw_succ]; omega
theorem pw_bd (m : Nat) (h : m ≤ 36) : pw m ≤ 68719476736 := by
  have : ∀ k, k ≤ 36 → pw (36 - k) ≤ 68719476736 := by
    intro k
    induction k with
    | zero => intro _; decide
    | succ k ih =>
      intro hk
      have h1 := ih (by omega)
      have h2 := pw_succ (36 - (k + 1))
      rw [show 36 - (k + 1) + 1 = 36 - k from by omega] at h2
      have := pw_pos (36 - (k + 1))
      omega
  have := this (36 - m) (by omega)
  rwa [show 36 - (36 - m) = m from by omega] at this
theorem pw_half (m : Nat) : pw m / 2 = hf m := by
  cases m with
  | zero => decide
  | succ m => rw [pw_succ]; show 2 * pw m / 2 = pw m; omega
end Dv
theorem own_on {P : World} {w w' : World} {B n cap : Nat} {A : Option Addr} {xs : List Value} (h : w.ownsRow B 2 1 (.slice A n cap) n xs) (hb : Below w.heap.size w w') : w'.ownsRow B 2 1 (.slice A n cap) n xs := by
  refine ⟨h.1, ?_⟩
  rcases h.2 with h2 | ⟨k, c, cur, hv, hb', hg, r⟩
  · exact .inl h2
  · cases hv
    exact .inr ⟨k, cap, cur, rfl, hb', by rw [hb.block k (Array.getElem?_eq_some_iff.1 hg).1]; exact hg, r⟩
theorem own_intsAt {w : World} {B n cap : Nat} {A : Option Addr} {ys : List Int} (h : w.ownsRow B 2 1 (.slice A n cap) n (ys.map (Value.int .i64))) : IntsAt w A ys := by
  intro i hi
  rcases h.2 with ⟨h2, hn⟩ | ⟨g, c, cur, hv, hb, hg, r⟩
  · have := h.1
    simp at this
    omega
  · cases hv
    have hc := World.ownsRow.cells (g := g) h rfl i (.int .i64 (ys.getD i 0)) (by simp [List.getD, hi])
    exact ⟨_, rfl, hc⟩

theorem own_ge {w : World} {B n cap : Nat} {A : Option Addr} {xs : List Value} (h : w.ownsRow B 2 1 (.slice A n cap) n xs) {k : Nat} (hk : (Value.slice A n cap).ownBlock = some k) : B ≤ k := by
  rcases h.2 with ⟨h2, _⟩ | ⟨g, c, cur, hv, hb, _⟩
  · cases h2; cases hk
  · cases hv; cases hk; exact hb
theorem Blk.cell1 {W : World} {g : Nat} {t : TypeId} {v : Value} (h : Blk W g t [v]) (j : Nat) (u : Value) (hu : [v][j]? = some u) : W.cell? ((⟨g, 0, none⟩ : Addr).add j) = some u := by
  cases j with
  | zero => cases hu; exact h.cell 0 rfl
  | succ j => cases hu

set_option maxHeartbeats 4000000 in
set_option maxRecDepth 100000 in
theorem SharesR_go (T : Int) (A : Option Addr) (xs : List Int) (cap : Nat) (w : World) (hx : IntsAt w A xs) (h1 : 1 ≤ xs.length) (h8 : xs.length ≤ 8) (hT : 0 ≤ T ∧ T ≤ 68719476736) (hok : Dv.okS xs) :
    Calls Try.prog 38 #[.int .i64 T, .slice A xs.length cap] w (ShRes T xs w) := by
  have HO := Lib.hid hok
  have HX := Lib.hid hx
  clear hx hok
  have hu : upB 68719476736 [T] = true := upB1.2 (by omega)
  obtain ⟨i0, hi, hz0, hz1, hz2⟩ := info_parts info2
  go_enter Try.func38, Try.ntmps38
  go_wp2_with (go_at_call 89; refine (great_c T _).mono ?_; rintro e w' ⟨rfl, rfl⟩; rw [hu])
  go_loop [6] (fun i => ∃ k : Nat, k ≤ xs.length ∧ i = .int .i64 k) (fun i => xs.length - (intOf i).toNat)
  case atStart => exact ⟨0, Nat.zero_le _, rfl⟩
  case round =>
    obtain ⟨k, hk, rfl⟩ := hrel
    by_cases hlt : k < xs.length
    · obtain ⟨ad, rfl, hcell⟩ := HX.out k hlt
      have hxk := Dv.okS_get HO.out k hlt
      generalize hxx : xs.getD k 0 = x at hcell hxk
      clear hxx
      have hux : upB 68719476736 [x] = true := upB1.2 (by omega)
      go_wp2_with (go_at_call 89; refine (great_c x _).mono ?_; rintro e w' ⟨rfl, rfl⟩; rw [hux])
      go_round
      case rel => exact ⟨k + 1, by omega, by go_num⟩
      case measure => simp [intOf]; omega
    · go_wp2
      go_loop [7, 8] (fun l s => ∃ (L : Int) (m : Nat), m ≤ 37 ∧ l = .int .i64 L ∧ s = .int .i64 (Dv.hf m) ∧ (0 ≤ L ∧ L ≤ 68719476736) ∧ Hid (Dv.pour L xs ≤ T ∧ (68719476736 < L + Dv.pw m ∨ T < Dv.pour (L + Dv.pw m) xs))) (fun _ s => (intOf s).toNat)
      case atStart => exact ⟨0, 37, by omega, rfl, by rfl, by omega, Lib.hid ⟨by rw [Dv.pour_zero HO.out]; exact hT.1, .inl (by decide)⟩⟩
      case round =>
        obtain ⟨L, m, hm, rfl, rfl, hL, HI⟩ := hrel
        cases m with
        | zero =>
          have HL : Hid (Dv.Lev T xs L) := Lib.hid ⟨hL.1, hL.2, HI.out.1, HI.out.2.imp (fun h => by have e : Dv.pw 0 = 1 := rfl; omega) (fun h => h)⟩
          have e0 : Dv.hf 0 = 0 := rfl
          rw [e0]
          clear e0
          have PB := Dv.pour_bd HO.out hL.1
          have PL := HL.out.2.2.1
          have GM := gmin_eq
          go_wp2_with (go_at_call 94; refine (poured_c L A xs cap _ (by omega) HO.out h8 HX.out).mono ?_; rintro e w' ⟨rfl, rfl⟩)
          generalize hQ : T - Dv.pour L xs = Q
          have hQ2 : 0 ≤ Q ∧ Q ≤ 68719476736 := by omega
          have HQ := Lib.hid hQ
          clear hQ PB PL
          go_loopw [9, 10, 11] (fun q o i wr => ∃ (k : Nat) (A' : Option Addr) (cap' : Nat), k ≤ xs.length ∧ i = .int .i64 k ∧ q = .int .i64 (Dv.leftR L Q (xs.take k)) ∧ o = .slice A' k cap' ∧ Hid (wr.ownsRow w.heap.size 2 1 (.slice A' k cap') k ((Dv.shR L Q (xs.take k)).map (Value.int .i64)) ∧ Below w.heap.size w wr)) (fun _ _ i _ => xs.length - (intOf i).toNat)
          case atStart => exact ⟨0, none, 0, Nat.zero_le _, rfl, rfl, rfl, Lib.hid ⟨World.ownsRow_nil _ _ _ _, Below.refl _ _⟩⟩
          case round =>
            obtain ⟨k, A', cap', hk, rfl, rfl, rfl, HW⟩ := hrel
            by_cases hlt : k < xs.length
            · obtain ⟨ad, rfl, hcell0⟩ := HX.out k hlt
              have hcell : wr.cell? (ad.add k) = some (.int .i64 (xs.getD k 0)) := (HW.out.2.cell (World.block_lt_of_cell? w _ hcell0)).trans hcell0
              have hxk := Dv.okS_get HO.out k hlt
              have HT1 := Lib.hid (Dv.shR_take L Q xs k hlt)
              have HT2 := Lib.hid (Dv.leftR_take L Q xs k hlt)
              have hlb := Dv.leftR_bd L Q (xs.take k) hQ2.1
              clear hcell0
              generalize xs.getD k 0 = x at hcell hxk HT1 HT2
              generalize Dv.leftR L Q (xs.take k) = q at hlb HT1 HT2 ⊢
              have hmb : 0 ≤ min L x ∧ min L x ≤ 68719476736 := by omega
              by_cases g1 : 0 < q
              · by_cases g2 : min L x < x
                · have hv : Dv.shR L Q (xs.take (k + 1)) = Dv.shR L Q (xs.take k) ++ [L + 1] := by rw [HT1.out, if_pos ⟨g1, g2⟩, show min L x = L from by omega]
                  have hq : Dv.leftR L Q (xs.take (k + 1)) = q - 1 := by rw [HT2.out, if_pos ⟨g1, g2⟩]
                  have HV := Lib.hid (And.intro hv hq)
                  clear hv hq
                  go_wp2_with (at_builtin; refine wpList_append_any (.tmp 96) (.tmp 98) 45 rfl rfl w.heap.size 2 i0 (.int .i64 0) 1 8 Try.underlying45 hi hz0 hz1 hz2 rfl (by decide) A' k cap' ((Dv.shR L Q (xs.take k)).map (Value.int .i64)) (by rfl) (own_on (P := wr) HW.out.1 ((Below.refl _ _).alloc (Nat.le_refl _) _)) (some ⟨wr.heap.size, 0, none⟩) 1 1 [.int .i64 (L + 1)] (by rfl) rfl (.inr ⟨_, rfl, fun j u hu => (Blk.new' wr #[.int .i64 (L + 1)] 2).cell1 j u hu⟩) (by simp [Value.oneCell']) (by unfold maxLen; omega) (by omega) (by have := HW.out.2.size; simp; omega) ?_; intro A2 cap2 w2 hown2 hgrow2 hat2; have HO2 := Lib.hid hown2; have HG2 := Lib.hid hgrow2; have HAT := Lib.hid hat2; clear hown2 hgrow2 hat2)
                  go_roundw
                  case rel => exact ⟨k + 1, A2, cap2, by omega, by go_num, by rw [HV.out.2], rfl, Lib.hid ⟨by rw [HV.out.1, List.map_append]; exact HO2.out, Below.grown (HW.out.2.alloc HW.out.2.size _) HG2.out (by have := HW.out.2.size; simp; omega) (fun j hj => own_ge HW.out.1 hj)⟩⟩
                  case measure => simp [intOf]; omega
                · have hv : Dv.shR L Q (xs.take (k + 1)) = Dv.shR L Q (xs.take k) ++ [min L x] := by rw [HT1.out, if_neg (fun h => g2 h.2)]
                  have hq : Dv.leftR L Q (xs.take (k + 1)) = q := by rw [HT2.out, if_neg (fun h => g2 h.2)]
                  have HV := Lib.hid (And.intro hv hq)
                  clear hv hq
                  go_wp2_with (at_builtin; refine wpList_append_any (.tmp 96) (.tmp 98) 45 rfl rfl w.heap.size 2 i0 (.int .i64 0) 1 8 Try.underlying45 hi hz0 hz1 hz2 rfl (by decide) A' k cap' ((Dv.shR L Q (xs.take k)).map (Value.int .i64)) (by rfl) (own_on (P := wr) HW.out.1 ((Below.refl _ _).alloc (Nat.le_refl _) _)) (some ⟨wr.heap.size, 0, none⟩) 1 1 [.int .i64 (min L x)] (by rfl) rfl (.inr ⟨_, rfl, fun j u hu => (Blk.new' wr #[.int .i64 (min L x)] 2).cell1 j u hu⟩) (by simp [Value.oneCell']) (by unfold maxLen; omega) (by omega) (by have := HW.out.2.size; simp; omega) ?_; intro A2 cap2 w2 hown2 hgrow2 hat2; have HO2 := Lib.hid hown2; have HG2 := Lib.hid hgrow2; have HAT := Lib.hid hat2; clear hown2 hgrow2 hat2)
                  go_roundw
                  case rel => exact ⟨k + 1, A2, cap2, by omega, by go_num, by rw [HV.out.2], rfl, Lib.hid ⟨by rw [HV.out.1, List.map_append]; exact HO2.out, Below.grown (HW.out.2.alloc HW.out.2.size _) HG2.out (by have := HW.out.2.size; simp; omega) (fun j hj => own_ge HW.out.1 hj)⟩⟩
                  case measure => simp [intOf]; omega
              · have hv : Dv.shR L Q (xs.take (k + 1)) = Dv.shR L Q (xs.take k) ++ [min L x] := by rw [HT1.out, if_neg (fun h => g1 h.1)]
                have hq : Dv.leftR L Q (xs.take (k + 1)) = q := by rw [HT2.out, if_neg (fun h => g1 h.1)]
                have HV := Lib.hid (And.intro hv hq)
                clear hv hq
                go_wp2_with (at_builtin; refine wpList_append_any (.tmp 96) (.tmp 98) 45 rfl rfl w.heap.size 2 i0 (.int .i64 0) 1 8 Try.underlying45 hi hz0 hz1 hz2 rfl (by decide) A' k cap' ((Dv.shR L Q (xs.take k)).map (Value.int .i64)) (by rfl) (own_on (P := wr) HW.out.1 ((Below.refl _ _).alloc (Nat.le_refl _) _)) (some ⟨wr.heap.size, 0, none⟩) 1 1 [.int .i64 (min L x)] (by rfl) rfl (.inr ⟨_, rfl, fun j u hu => (Blk.new' wr #[.int .i64 (min L x)] 2).cell1 j u hu⟩) (by simp [Value.oneCell']) (by unfold maxLen; omega) (by omega) (by have := HW.out.2.size; simp; omega) ?_; intro A2 cap2 w2 hown2 hgrow2 hat2; have HO2 := Lib.hid hown2; have HG2 := Lib.hid hgrow2; have HAT := Lib.hid hat2; clear hown2 hgrow2 hat2)
                go_roundw
                case rel => exact ⟨k + 1, A2, cap2, by omega, by go_num, by rw [HV.out.2], rfl, Lib.hid ⟨by rw [HV.out.1, List.map_append]; exact HO2.out, Below.grown (HW.out.2.alloc HW.out.2.size _) HG2.out (by have := HW.out.2.size; simp; omega) (fun j hj => own_ge HW.out.1 hj)⟩⟩
                case measure => simp [intOf]; omega
            · have e : k = xs.length := by omega
              subst e
              go_wp2
              go_ret2
              refine ⟨HW.out.2, A', cap', Dv.shR L Q xs, 0, by rw [Dv.shR_length]; rfl, own_intsAt (n := xs.length) (cap := cap') (by have := HW.out.1; rwa [List.take_length] at this), .inr (.inr ⟨⟨⟨h1, h8⟩, hT, HO.out⟩, rfl, L, HL.out, by rw [HQ.out]⟩)⟩
        | succ m =>
          have e1 : Dv.hf (m + 1) = Dv.pw m := rfl
          have hs1 := Dv.pw_pos m
          have hs2 := Dv.pw_bd m (by omega)
          have hsh := Dv.pw_half m
          have hss := Lib.hid (Dv.pw_succ m)
          rw [e1]
          generalize hpw : Dv.pw m = s at hs1 hs2 hsh hss ⊢
          have HPW := Lib.hid hpw
          clear e1 hpw
          by_cases g1 : L + s ≤ 68719476736
          · by_cases g2 : Dv.pour (L + s) xs ≤ T
            · have HI2 : Hid (Dv.pour (L + s) xs ≤ T ∧ (68719476736 < L + s + s ∨ T < Dv.pour (L + s + s) xs)) := Lib.hid ⟨g2, by
                have h := HI.out.2
                rw [hss.out, show L + 2 * s = L + s + s from by omega] at h
                exact h⟩
              go_wp2_with (go_at_call 94; refine (poured_c (L + s) A xs cap _ (by omega) HO.out h8 HX.out).mono ?_; rintro e w' ⟨rfl, rfl⟩)
              go_round
              case rel => exact ⟨L + s, m, by omega, rfl, by go_num, by omega, by rw [HPW.out]; exact HI2⟩
              case measure => simp [intOf]; omega
            · have HI2 : Hid (Dv.pour L xs ≤ T ∧ (68719476736 < L + s ∨ T < Dv.pour (L + s) xs)) := Lib.hid ⟨HI.out.1, .inr (by omega)⟩
              go_wp2_with (go_at_call 94; refine (poured_c (L + s) A xs cap _ (by omega) HO.out h8 HX.out).mono ?_; rintro e w' ⟨rfl, rfl⟩)
              go_round
              case rel => exact ⟨L, m, by omega, rfl, by go_num, by omega, by rw [HPW.out]; exact HI2⟩
              case measure => simp [intOf]; omega
          · have HI2 : Hid (Dv.pour L xs ≤ T ∧ (68719476736 < L + s ∨ T < Dv.pour (L + s) xs)) := Lib.hid ⟨HI.out.1, .inl (by omega)⟩
            go_wp2
            go_round
            case rel => exact ⟨L, m, by omega, rfl, by go_num, by omega, by rw [HPW.out]; exact HI2⟩
            case measure => simp [intOf]; omega
end Go.Proofs.Ytcneohhfnnelgaa
