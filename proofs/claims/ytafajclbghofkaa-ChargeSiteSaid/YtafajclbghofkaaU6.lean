/- ChargeSite: the law's walk. -/
import Derived.Test.YtafajclbghofkaaU5a
import Derived.Test.YtafajclbghofkaaU5b
import Derived.Test.YtafajclbghofkaaU5c
namespace Go.Proofs.Ytafajclbghofkaa
open Go.RowKit
set_option linter.unusedVariables false
theorem lp_start (w : World) (dr bk : Int) (h : Sx.nsE 4 dr bk = 0) : LpI w (w.heap.size + 1) w.heap.size (w.heap.size + 1 + 1) dr bk 0 none 0 (fun _ => 0) (((w.alloc (.cells (zCl 4) 147)).alloc (.cells #[.int .i64 dr, .int .i64 bk, .int .i64 0, .slice (some ⟨w.heap.size, 0, none⟩) 4 4] 141)).alloc (.cells #[.slice none 0 0, .slice none 0 0, .slice none 0 0, .slice none 0 0] 108)) := by
  have h1 := site_new (W := w) (n := 4) (D := dr) (Bk := bk) w.heap.size (Nat.le_refl _) (by decide)
  have hg := Blk.new' ((w.alloc (.cells (zCl 4) 147)).alloc (.cells #[.int .i64 dr, .int .i64 bk, .int .i64 0, .slice (some ⟨w.heap.size, 0, none⟩) 4 4] 141)) #[.slice none 0 0, .slice none 0 0, .slice none 0 0, .slice none 0 0] 108
  simp only [World.size_alloc] at hg
  exact ⟨(((Below.refl _ _).alloc (Nat.le_refl _) _).alloc (by simp) _).alloc (by simp; omega) _, h1.below ((Below.refl _ _).alloc (Nat.le_refl _) _), hg, World.ownsRow_nil _ _ _ _, fun i hi => absurd hi (Nat.not_lt_zero _), fun i j hi => absurd hi (Nat.not_lt_zero _), fun i hi => absurd hi (Nat.not_lt_zero _)⟩
set_option maxRecDepth 100000 in
set_option maxHeartbeats 80000000 in
theorem Site_walk (dr bk : Int) (A : Option Addr) (us : List Us) (cap : Nat) (w : World) (hdr : U8 dr) (hbk : U8 bk) (hcap : us.length ≤ cap) (hl : cap ≤ 9223372036854775807) (hw : UsesAt w A us) :
    Calls Try.prog 10 #[.int .u8 dr, .int .u8 bk, .slice A us.length cap] w fun e w' => e = .returned (.bool true) ∧ Below w.heap.size w w' := by
  have HW := Lib.hid hw
  have HD := Lib.hid (And.intro hdr hbk)
  have he : Sx.nsE 4 dr bk = 0 := by unfold Sx.nsE; unfold U8 at hdr hbk; rw [if_neg (by omega), if_pos (by omega)]
  have P41 := NewSite_c 4 dr bk w he
  have HL0 := Lib.hid (lp_start w dr bk he)
  obtain ⟨d0, d1⟩ := hdr
  obtain ⟨b0, b1⟩ := hbk
  obtain ⟨i0, hi, z0, z1, z2⟩ := info_parts info37
  clear hw he
  go_enter Try.func10, Try.ntmps10
  go_wp2_with (go_at_call 41; refine P41.mono ?_; rintro e w1 ⟨rfl, rfl⟩)
  clear P41
  refine gen_world' (fun W => LpI w (w.heap.size + 1) w.heap.size (w.heap.size + 1 + 1) dr bk 0 none 0 (fun _ => 0) W) HL0.out ?_
  rintro w0 hl0
  have HL1 := Lib.hid hl0
  clear hl0 HL0
  go_loopw [9, 11] (fun s9 i wr => ∃ (k : Nat) (A' : Option Addr) (c' : Nat) (pb : Nat → Nat), k ≤ 4 ∧ i = .int .i64 k ∧ s9 = .slice A' k c' ∧ Hid (LpI w (w.heap.size + 1) w.heap.size (w.heap.size + 1 + 1) dr bk k A' c' pb wr)) (fun _ i _ => 4 - (intOf i).toNat)
  case atStart => exact ⟨0, none, 0, _, by omega, rfl, rfl, HL1⟩
  case round =>
    obtain ⟨k, A', c', pb, hk, rfl, rfl, HL⟩ := hrel
    by_cases hlt : k < 4
    · have hd4 : decide ((k : Int) < 4) = true := decide_eq_true (by omega)
      go_wp2_with (first
        | (go_at_call 19; refine (NewPost_c _).mono ?_; rintro e w5 ⟨rfl, rfl⟩)
        | (at_builtin; refine wpList_append_any (.tmp 42) (.tmp 44) 107 rfl rfl w.heap.size 37 i0 (.pointer none) 1 8 Try.underlying107 hi z0 z1 z2 rfl (by decide) A' k c' (ptrL pb k) (by rfl) (rowE_below (rowE_below HL.out.row ((Below.refl _ _).alloc (Nat.le_refl _) _)) ((Below.refl _ _).alloc (Nat.le_refl _) _)) (some ⟨wr.heap.size + 1, 0, none⟩) 1 1 [.pointer (some ⟨wr.heap.size, 0, none⟩)] (by rfl) rfl (src_blk (by have := Blk.new' (wr.alloc (.cells #[.bool true, .int .i64 0, .int .i64 0, .int .i64 0, .int .i64 0] 124)) #[.pointer (some ⟨wr.heap.size, 0, none⟩)] 37; simpa using this) 1) (by simp [Value.oneCell']) (by unfold maxLen; omega) (by omega) (by have := HL.out.b.size; simp; omega) ?_; intro A2 c2 w6 hown hgrow hat; have HN := Lib.hid (HL.out.next (((Below.refl _ _).alloc (Nat.le_refl _) _).alloc (by simp) _) (show PostAt _ wr.heap.size ⟨0, 0, 0, 0⟩ from (Blk.new' wr #[.bool true, .int .i64 0, .int .i64 0, .int .i64 0, .int .i64 0] 124).alloc _) (Nat.le_refl _) (grown_touch hgrow) hown); clear hown hgrow hat))
      exact ⟨⟨k + 1, A2, c2, _, by omega, by go_num, rfl, HN⟩, by simp [intOf]; omega⟩
    · have e : k = 4 := by omega
      subst e
      obtain ⟨gp, rfl, hu⟩ := HL.out.done (by omega)
      have HU := Lib.hid hu
      clear hu HL HL1
      have hD := HD.out
      unfold U8 at hD
      have HS0 := Lib.hid (show StU w (w.heap.size + 1) w.heap.size gp c' (w.heap.size + 1 + 1) pb dr bk 0 0 wr from ⟨_, _, _, _, _, _, _, _, HU.out, Sx.SI.start (by omega) (by omega)⟩)
      clear HU
      rw [show ((4 : Nat) : Int) = 4 from rfl]
      go_wp2_with fail
      go_loopw [12, 13] (fun nw i wr => ∃ (k : Nat) (now : Int), k ≤ us.length ∧ k ≤ 150 ∧ i = .int .i64 k ∧ nw = .int .i64 now ∧ (0 ≤ now ∧ now ≤ 4 * (k : Int)) ∧ Hid (StU w (w.heap.size + 1) w.heap.size gp c' (w.heap.size + 1 + 1) pb dr bk k now wr)) (fun _ i _ => us.length - (intOf i).toNat)
      case atStart => exact ⟨0, 0, Nat.zero_le _, by omega, rfl, rfl, by omega, HS0⟩
      case round =>
        obtain ⟨k, now, hk, hk150, rfl, rfl, hnow, HS⟩ := hrel
        by_cases hlt : k < us.length
        rotate_left 1
        · go_wp2_with (go_at_call 12; refine (works_c _).mono ?_; rintro e w1 ⟨rfl, hb⟩; have HB := Lib.hid hb; clear hb)
          go_ret
          obtain ⟨_, _, _, _, _, _, _, _, h1, _⟩ := HS.out
          exact ⟨rfl, bel_bel h1.u.b HB.out⟩
        by_cases h150 : k < 150
        rotate_left 1
        · go_wp2_with (go_at_call 12; refine (works_c _).mono ?_; rintro e w1 ⟨rfl, hb⟩; have HB := Lib.hid hb; clear hb)
          go_ret
          obtain ⟨_, _, _, _, _, _, _, _, h1, _⟩ := HS.out
          exact ⟨rfl, bel_bel h1.u.b HB.out⟩
        obtain ⟨ad, hA, hc, hok⟩ := HW.out k hlt
        subst hA
        have HU := Lib.hid hc
        have HO := Lib.hid hok
        clear hc hok
        generalize us.getD k default = u at *
        have k0 : (0 : Int) ≤ (k : Int) := by omega
        have k1 : (k : Int) < (us.length : Int) := by omega
        obtain ⟨A1, q1, cs, N, P, Ga, gq, G, hus, hsi⟩ := HS.out
        have HUS := Lib.hid hus
        have HSI := Lib.hid hsi
        clear hus hsi HS
        obtain ⟨x0, x1, x2, x3, x4, x5⟩ := HU.out.below HUS.out.u.b
        obtain ⟨m, hm, hm4⟩ : ∃ m : Nat, u.s.tmod 4 = (m : Int) ∧ m < 4 := by
          have h0 := HO.out.s.1
          have h1 := Int.emod_nonneg u.s (show (4 : Int) ≠ 0 by decide)
          have h2 := Int.emod_lt_of_pos u.s (show (0 : Int) < 4 by decide)
          have h3 : u.s.tmod 4 = u.s % 4 := Int.tmod_eq_emod_of_nonneg h0
          exact ⟨(u.s % 4).toNat, by omega, by omega⟩
        obtain ⟨s, hs, hs8⟩ : ∃ s : Nat, u.d.tmod 8 = (s : Int) ∧ s < 8 := by
          have h0 := HO.out.d.1
          have h1 := Int.emod_nonneg u.d (show (8 : Int) ≠ 0 by decide)
          have h2 := Int.emod_lt_of_pos u.d (show (0 : Int) < 8 by decide)
          have h3 : u.d.tmod 8 = u.d % 8 := Int.tmod_eq_emod_of_nonneg h0
          exact ⟨(u.d % 8).toNat, by omega, by omega⟩
        obtain ⟨us0, us1⟩ := HO.out.s
        obtain ⟨ud0, ud1⟩ := HO.out.d
        have hd150 : decide ((k : Int) < 150) = true := decide_eq_true (by omega)
        go_upto_block 4 with fail
        refine gen_world' (fun W => UsI w (w.heap.size + 1) w.heap.size gp c' (w.heap.size + 1 + 1) pb A1 q1 cs dr bk N P Ga gq G W ∧ Blk W wr.heap.size 110 [.int .u8 u.d, .int .u8 u.s, .int .u8 u.dr, .int .u8 u.bk, .int .u8 u.fo, .int .u8 u.at_]) ⟨HUS.out.bel ((Below.refl _ _).alloc (Nat.le_refl _) _), Blk.new' _ _ _⟩ ?_
        clear HUS x0 x1 x2 x3 x4 x5 hm us0 us1 ud0 ud1 hd150
        generalize wr.heap.size = bu
        rintro w7 ⟨hus, hbu⟩
        have HUS := Lib.hid hus
        have HBU := Lib.hid hbu
        clear hus hbu
        go_cut [12, 16, 17, 18] from 67 to 158 (fun s12 s16 s17 s18 wx => ∃ now' : Int, s12 = .int .i64 now' ∧ (now ≤ now' ∧ now' ≤ now + 4) ∧ StU w (w.heap.size + 1) w.heap.size gp c' (w.heap.size + 1 + 1) pb dr bk ((k : Int) + 1) now' wx)
        case first =>
          rename_i J1 KJ a1 a0
          refine wp_codeS (c' := Code.block 4 siBody) (by kernel_rfl) ?_
          have h8 : s = 0 ∨ s = 1 ∨ s = 2 ∨ s = 3 ∨ s = 4 ∨ s = 5 ∨ s = 6 ∨ s = 7 := by omega
          rcases h8 with h8 | h8 | h8 | h8 | h8 | h8 | h8 | h8
          · exact SiC0 dr bk us cap w w7 gp c' bu k m s pb ad u now N A1 q1 cs P Ga gq G _ _ _ _ _ _ _ _ _ _ _ _ _ _ _ _ _ _ _ _ _ _ _ _ _ _ _ _ _ _ _ _ _ _ _ _ _ _ _ _ _ _ _ _ _ _ _ _ _ _ _ _ _ _ _ _ _ _ _ _ _ _ _ _ _ _ _ _ _ _ _ _ _ _ _ _ _ _ _ _ _ _ _ _ _ _ _ _ _ _ _ _ _ _ _ _ _ _ _ _ _ _ _ _ _ _ _ _ _ _ _ _ _ _ _ _ _ _ _ _ _ _ _ _ _ _ _ _ _ _ _ _ _ _ _ _ _ _ _ _ _ _ _ _ _ _ _ _ _ _ _ _ _ _ _ _ _ _ _ _ _ _ _ _ _ _ _ _ _ _ _ _ _ _ _ _ h150 hnow HO hm4 HUS HSI HBU h8 a1 a0
          · exact SiC1 dr bk us cap w w7 gp c' bu k m s pb ad u now N A1 q1 cs P Ga gq G _ _ _ _ _ _ _ _ _ _ _ _ _ _ _ _ _ _ _ _ _ _ _ _ _ _ _ _ _ _ _ _ _ _ _ _ _ _ _ _ _ _ _ _ _ _ _ _ _ _ _ _ _ _ _ _ _ _ _ _ _ _ _ _ _ _ _ _ _ _ _ _ _ _ _ _ _ _ _ _ _ _ _ _ _ _ _ _ _ _ _ _ _ _ _ _ _ _ _ _ _ _ _ _ _ _ _ _ _ _ _ _ _ _ _ _ _ _ _ _ _ _ _ _ _ _ _ _ _ _ _ _ _ _ _ _ _ _ _ _ _ _ _ _ _ _ _ _ _ _ _ _ _ _ _ _ _ _ _ _ _ _ _ _ _ _ _ _ _ _ _ _ _ _ _ _ h150 hnow HO hm4 HUS HSI HBU h8 a1 a0
          · exact SiC2 dr bk us cap w w7 gp c' bu k m s pb ad u now N A1 q1 cs P Ga gq G _ _ _ _ _ _ _ _ _ _ _ _ _ _ _ _ _ _ _ _ _ _ _ _ _ _ _ _ _ _ _ _ _ _ _ _ _ _ _ _ _ _ _ _ _ _ _ _ _ _ _ _ _ _ _ _ _ _ _ _ _ _ _ _ _ _ _ _ _ _ _ _ _ _ _ _ _ _ _ _ _ _ _ _ _ _ _ _ _ _ _ _ _ _ _ _ _ _ _ _ _ _ _ _ _ _ _ _ _ _ _ _ _ _ _ _ _ _ _ _ _ _ _ _ _ _ _ _ _ _ _ _ _ _ _ _ _ _ _ _ _ _ _ _ _ _ _ _ _ _ _ _ _ _ _ _ _ _ _ _ _ _ _ _ _ _ _ _ _ _ _ _ _ _ _ _ h150 hnow HO hm4 HUS HSI HBU h8 a1 a0
          · exact SiC3 dr bk us cap w w7 gp c' bu k m s pb ad u now N A1 q1 cs P Ga gq G _ _ _ _ _ _ _ _ _ _ _ _ _ _ _ _ _ _ _ _ _ _ _ _ _ _ _ _ _ _ _ _ _ _ _ _ _ _ _ _ _ _ _ _ _ _ _ _ _ _ _ _ _ _ _ _ _ _ _ _ _ _ _ _ _ _ _ _ _ _ _ _ _ _ _ _ _ _ _ _ _ _ _ _ _ _ _ _ _ _ _ _ _ _ _ _ _ _ _ _ _ _ _ _ _ _ _ _ _ _ _ _ _ _ _ _ _ _ _ _ _ _ _ _ _ _ _ _ _ _ _ _ _ _ _ _ _ _ _ _ _ _ _ _ _ _ _ _ _ _ _ _ _ _ _ _ _ _ _ _ _ _ _ _ _ _ _ _ _ _ _ _ _ _ _ _ h150 hnow HO hm4 HUS HSI HBU h8 a1 a0
          · exact SiC4 dr bk us cap w w7 gp c' bu k m s pb ad u now N A1 q1 cs P Ga gq G _ _ _ _ _ _ _ _ _ _ _ _ _ _ _ _ _ _ _ _ _ _ _ _ _ _ _ _ _ _ _ _ _ _ _ _ _ _ _ _ _ _ _ _ _ _ _ _ _ _ _ _ _ _ _ _ _ _ _ _ _ _ _ _ _ _ _ _ _ _ _ _ _ _ _ _ _ _ _ _ _ _ _ _ _ _ _ _ _ _ _ _ _ _ _ _ _ _ _ _ _ _ _ _ _ _ _ _ _ _ _ _ _ _ _ _ _ _ _ _ _ _ _ _ _ _ _ _ _ _ _ _ _ _ _ _ _ _ _ _ _ _ _ _ _ _ _ _ _ _ _ _ _ _ _ _ _ _ _ _ _ _ _ _ _ _ _ _ _ _ _ _ _ _ _ _ h150 hnow HO hm4 HUS HSI HBU h8 a1 a0
          · exact SiC5 dr bk us cap w w7 gp c' bu k m s pb ad u now N A1 q1 cs P Ga gq G _ _ _ _ _ _ _ _ _ _ _ _ _ _ _ _ _ _ _ _ _ _ _ _ _ _ _ _ _ _ _ _ _ _ _ _ _ _ _ _ _ _ _ _ _ _ _ _ _ _ _ _ _ _ _ _ _ _ _ _ _ _ _ _ _ _ _ _ _ _ _ _ _ _ _ _ _ _ _ _ _ _ _ _ _ _ _ _ _ _ _ _ _ _ _ _ _ _ _ _ _ _ _ _ _ _ _ _ _ _ _ _ _ _ _ _ _ _ _ _ _ _ _ _ _ _ _ _ _ _ _ _ _ _ _ _ _ _ _ _ _ _ _ _ _ _ _ _ _ _ _ _ _ _ _ _ _ _ _ _ _ _ _ _ _ _ _ _ _ _ _ _ _ _ _ _ h150 hnow HO hm4 HUS HSI HBU h8 a1 a0
          · exact SiC6 dr bk us cap w w7 gp c' bu k m s pb ad u now N A1 q1 cs P Ga gq G _ _ _ _ _ _ _ _ _ _ _ _ _ _ _ _ _ _ _ _ _ _ _ _ _ _ _ _ _ _ _ _ _ _ _ _ _ _ _ _ _ _ _ _ _ _ _ _ _ _ _ _ _ _ _ _ _ _ _ _ _ _ _ _ _ _ _ _ _ _ _ _ _ _ _ _ _ _ _ _ _ _ _ _ _ _ _ _ _ _ _ _ _ _ _ _ _ _ _ _ _ _ _ _ _ _ _ _ _ _ _ _ _ _ _ _ _ _ _ _ _ _ _ _ _ _ _ _ _ _ _ _ _ _ _ _ _ _ _ _ _ _ _ _ _ _ _ _ _ _ _ _ _ _ _ _ _ _ _ _ _ _ _ _ _ _ _ _ _ _ _ _ _ _ _ _ h150 hnow HO hm4 HUS HSI HBU h8 a1 a0
          · exact SiC7 dr bk us cap w w7 gp c' bu k m s pb ad u now N A1 q1 cs P Ga gq G _ _ _ _ _ _ _ _ _ _ _ _ _ _ _ _ _ _ _ _ _ _ _ _ _ _ _ _ _ _ _ _ _ _ _ _ _ _ _ _ _ _ _ _ _ _ _ _ _ _ _ _ _ _ _ _ _ _ _ _ _ _ _ _ _ _ _ _ _ _ _ _ _ _ _ _ _ _ _ _ _ _ _ _ _ _ _ _ _ _ _ _ _ _ _ _ _ _ _ _ _ _ _ _ _ _ _ _ _ _ _ _ _ _ _ _ _ _ _ _ _ _ _ _ _ _ _ _ _ _ _ _ _ _ _ _ _ _ _ _ _ _ _ _ _ _ _ _ _ _ _ _ _ _ _ _ _ _ _ _ _ _ _ _ _ _ _ _ _ _ _ _ _ _ _ _ h150 hnow HO hm4 HUS HSI HBU h8 a1 a0
        case rest =>
          obtain ⟨now', rfl, hn', hst⟩ := hcut
          clear HUS HBU HSI
          obtain ⟨A2, q2, cs2, N2, P2, Ga2, gq2, G2, hus2, hsi2⟩ := hst
          have HSI := Lib.hid hsi2
          have HUS := Lib.hid hus2
          clear hus2 hsi2
          have w45 : IntKind.i64.wrap (now' + 45) = now' + 45 := IntWalk.i64_in _ (by omega)
          have HW45 := Lib.hid w45
          clear w45
          go_wp2_with fail
          go_loopw [19] (fun t wx => ∃ i : Nat, i ≤ 12 ∧ t = .int .i64 (now' + 4 * (i : Int)) ∧ Hid (UsI w (w.heap.size + 1) w.heap.size gp c' (w.heap.size + 1 + 1) pb A2 q2 cs2 dr bk N2 P2 Ga2 gq2 G2 wx)) (fun t _ => (now' + 48 - intOf t).toNat)
          case atStart => exact ⟨0, by omega, by simp, HUS⟩
          case round =>
            obtain ⟨i, hi12, rfl, HUi⟩ := hrel
            have w45 := HW45.out
            by_cases hlt3 : i < 12
            rotate_left 1
            · have hd : decide (now' + 4 * (i : Int) < now' + 45) = false := decide_eq_false (by omega)
              go_wp2_with fail
              exact ⟨⟨k + 1, now', by omega, by omega, by go_num, rfl, by omega, Lib.hid (StU.mk HUi.out (by have h := HSI.out; exact h))⟩, by simp [intOf]; omega⟩
            have hd : decide (now' + 4 * (i : Int) < now' + 45) = true := decide_eq_true (by omega)
            obtain ⟨t, ht⟩ : ∃ t, t = now' + 4 * (i : Int) := ⟨_, rfl⟩
            have wt : IntKind.i64.wrap (t + 4) = t + 4 := IntWalk.i64_in _ (by omega)
            have HTe := Lib.hid ht
            have HM := Lib.hid (HSI.out.most (show now' ≤ t by omega) (by omega))
            have HMi := Lib.hid (fun j (hj : j < 4) => Sx.m_le (HSI.out.st j hj) (show 0 ≤ t by omega))
            rw [← ht] at hd ⊢
            clear ht
            go_wp2_with fail
            go_loopw [20, 21, 22] (fun a b jv wy => ∃ j : Nat, j ≤ 4 ∧ jv = .int .i64 j ∧ a = .int .i64 (Sx.sumN (fun i => Po.m1 (P2 i) t) j) ∧ b = .int .i64 (Sx.sumN (fun i => Po.m2 (P2 i) t) j) ∧ Hid (UsI w (w.heap.size + 1) w.heap.size gp c' (w.heap.size + 1 + 1) pb A2 q2 cs2 dr bk N2 P2 Ga2 gq2 G2 wy)) (fun _ _ jv _ => 4 - (intOf jv).toNat)
            case atStart => exact ⟨0, by omega, rfl, rfl, rfl, HUi⟩
            case round =>
              obtain ⟨j, hj, rfl, rfl, rfl, HUj⟩ := hrel
              by_cases hlt4 : j < 4
              rotate_left 1
              · have e : j = 4 := by omega
                subst e
                have h1 : decide (dr < Sx.sumN (fun i => Po.m1 (P2 i) t) 4) = false := decide_eq_false (by have := HM.out.1; omega)
                have h2 : decide (bk < Sx.sumN (fun i => Po.m2 (P2 i) t) 4) = false := decide_eq_false (by have := HM.out.2; omega)
                generalize Sx.sumN (fun i => Po.m1 (P2 i) t) 4 = s1 at *
                generalize Sx.sumN (fun i => Po.m2 (P2 i) t) 4 = s2 at *
                go_wp2_with fail
                exact ⟨⟨i + 1, by omega, by rw [HTe.out]; congr 1; push_cast; omega, HUj⟩, by simp [intOf]; have := HTe.out; omega⟩
              have hj4 : decide ((j : Int) < 4) = true := decide_eq_true (by omega)
              have j0 : (0 : Int) ≤ (j : Int) := by omega
              have j1 : (j : Int) < 4 := by omega
              have p0 := HUj.out.ptr hlt4
              have hm := HMi.out j hlt4
              have hb1 := sumN_bd (f := fun i => Po.m1 (P2 i) t) j (fun i hi => by have := HMi.out i (by omega); omega) hj
              have hb2 := sumN_bd (f := fun i => Po.m2 (P2 i) t) j (fun i hi => by have := HMi.out i (by omega); omega) hj
              have HS1 := Lib.hid (show Sx.sumN (fun i => Po.m1 (P2 i) t) (j + 1) = Sx.sumN (fun i => Po.m1 (P2 i) t) j + Po.m1 (P2 j) t from rfl)
              have HS2 := Lib.hid (show Sx.sumN (fun i => Po.m2 (P2 i) t) (j + 1) = Sx.sumN (fun i => Po.m2 (P2 i) t) j + Po.m2 (P2 j) t from rfl)
              have P23 := Lib.hid (Most_c (pb j) (P2 j) t wr (HUj.out.u.p j hlt4))
              have P46 := Lib.hid (fun W (hW : Below wr.heap.size wr W) => Reserved_c (HUj.out.bel hW).s (K := (k : Int) + 1) (by omega) HSI.out.oks (j : Int) t)
              have hrs : RsV cs2 (j : Int) t = .tuple #[.int .i64 (Sx.rD (cs2.getD j default) t), .int .i64 (Sx.rB (cs2.getD j default) t), .int .i64 0] := by unfold RsV; rw [if_pos (by rw [HUj.out.n]; omega), Int.toNat_natCast]
              rw [hrs] at P46
              clear hrs
              generalize Sx.rD (cs2.getD j default) t = r1 at *
              generalize Sx.rB (cs2.getD j default) t = r2 at *
              generalize Po.m1 (P2 j) t = x1 at *
              generalize Po.m2 (P2 j) t = x2 at *
              generalize Sx.sumN (fun i => Po.m1 (P2 i) t) j = s1 at *
              generalize Sx.sumN (fun i => Po.m2 (P2 i) t) j = s2 at *
              have w1 : IntKind.i64.wrap (s1 + x1) = s1 + x1 := IntWalk.i64_in _ (by omega)
              have w2 : IntKind.i64.wrap (s2 + x2) = s2 + x2 := IntWalk.i64_in _ (by omega)
              have e1 : decide (r1 < x1) = false := decide_eq_false (by omega)
              have e2 : decide (r2 < x2) = false := decide_eq_false (by omega)
              clear hm hb1 hb2
              go_wp2_with (first
                | (go_at_call 23; refine P23.out.mono ?_; rintro e w8 ⟨rfl, hb8⟩; have HB8 := Lib.hid hb8; clear hb8)
                | (go_at_call 46; refine (P46.out _ HB8.out).mono ?_; rintro e w9 ⟨rfl, hb9⟩; have HB9 := Lib.hid (bel_bel HB8.out hb9); clear hb9))
              exact ⟨⟨j + 1, by omega, by go_num, by rw [HS1.out], by rw [HS2.out], Lib.hid (HUj.out.bel HB9.out)⟩, by simp [intOf]; omega⟩
end Go.Proofs.Ytafajclbghofkaa
