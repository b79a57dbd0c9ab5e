/- The law of sites of charge. -/
import Derived.Test.YtafajclbghofkaaT8
import Derived.Test.YtafajclbghofkaaT6
import Derived.Test.YtafajclbghofkaaB1
namespace Go.Proofs.Ytafajclbghofkaa
open Go.RowKit
set_option linter.unusedVariables false
/-- the claims in a slice -/
def CmAt (w : World) (ad : Addr) (c : Cm) : Prop := w.cell? ad = some (.int .u8 c.d) ∧ w.cell? ⟨ad.block, ad.off + 1, none⟩ = some (.int .i64 c.s) ∧ w.cell? ⟨ad.block, ad.off + 2, none⟩ = some (.int .i64 c.nu) ∧ w.cell? ⟨ad.block, ad.off + 3, none⟩ = some (.int .i64 c.dr) ∧ w.cell? ⟨ad.block, ad.off + 4, none⟩ = some (.int .i64 c.bk) ∧ w.cell? ⟨ad.block, ad.off + 5, none⟩ = some (.int .i64 c.un) ∧ w.cell? ⟨ad.block, ad.off + 6, none⟩ = some (.int .i64 c.now)
theorem CmAt.below {w w1 : World} {ad : Addr} {c : Cm} (h : CmAt w ad c) (hb : Below w.heap.size w w1) : CmAt w1 ad c := by
  have hl := World.block_lt_of_cell? _ _ h.1
  exact ⟨(hb.cell hl).trans h.1, (hb.cell (p := ⟨_, _, none⟩) hl).trans h.2.1, (hb.cell (p := ⟨_, _, none⟩) hl).trans h.2.2.1, (hb.cell (p := ⟨_, _, none⟩) hl).trans h.2.2.2.1, (hb.cell (p := ⟨_, _, none⟩) hl).trans h.2.2.2.2.1, (hb.cell (p := ⟨_, _, none⟩) hl).trans h.2.2.2.2.2.1, (hb.cell (p := ⟨_, _, none⟩) hl).trans h.2.2.2.2.2.2⟩
def ClaimsAt (w : World) (A : Option Addr) (cs : List Cm) : Prop := ∀ i, i < cs.length → ∃ ad, A = some ad ∧ CmAt w (ad.add (i * 7)) (cs.getD i default) ∧ 0 ≤ (cs.getD i default).d ∧ (cs.getD i default).d ≤ 255
/-- both sites are copied, and the claim is made with the copies -/
theorem cls_copy {W : World} {B gs gc cc rs n : Nat} {D Bk K : Int} (h : ClS B gs gc cc rs n D Bk K W) : ∃ A q cs rc rcc A' q' cs' N, TwP W B gs gc cc A q cs N rs rc rcc A' q' cs' N D Bk n ∧ Sx.Rels cs cs' ∧ (∀ c ∈ cs, Sx.OkC K c) ∧ (∀ c ∈ cs', Sx.OkC K c) := h
theorem cls_new (w : World) (n : Nat) (dr bk : Int) (hn : n ≤ 32) : ClS w.heap.size (w.heap.size + 1) w.heap.size n (w.heap.size + 1 + 1 + 1) n dr bk 0 ((((w.alloc (.cells (zCl n) 147)).alloc (.cells #[.int .i64 dr, .int .i64 bk, .int .i64 0, .slice (some ⟨w.heap.size, 0, none⟩) n n] 141)).alloc (.cells (zCl n) 156)).alloc (.cells #[.int .i64 dr, .int .i64 bk, .int .i64 0, .slice (some ⟨w.heap.size + 1 + 1, 0, none⟩) n n] 144)) := by
  have h1 := site_new (W := w) (n := n) (D := dr) (Bk := bk) w.heap.size (Nat.le_refl _) hn
  have h2 := ref_new (W := (w.alloc (.cells (zCl n) 147)).alloc (.cells #[.int .i64 dr, .int .i64 bk, .int .i64 0, .slice (some ⟨w.heap.size, 0, none⟩) n n] 141)) (n := n) (D := dr) (Bk := bk) hn
  simp only [World.size_alloc] at h2
  have h3 := (h1.below ((Below.refl _ _).alloc (Nat.le_refl _) (.cells (zCl n) 156))).below ((Below.refl _ _).alloc (Nat.le_refl _) (.cells #[.int .i64 dr, .int .i64 bk, .int .i64 0, .slice (some ⟨w.heap.size + 1 + 1, 0, none⟩) n n] 144))
  refine ⟨_, _, _, _, _, _, _, _, 0, ⟨h3, h2, Sx.cs0_len n, Sx.cs0_len n, fun k hk hk2 => ?_⟩, Sx.rels_cs0 n, Sx.oks_cs0 n, Sx.oks_cs0 n⟩
  have hno : ∀ j : Nat, ¬ OwnB none j := fun j ⟨a, e, _⟩ => by cases e
  rcases hk with hk | hk | ⟨i, hi, hk⟩
  · rcases hk2 with hk2 | hk2 | ⟨i, hi, hk2⟩
    · omega
    · omega
    · exact hno _ hk2
  · rcases hk2 with hk2 | hk2 | ⟨i, hi, hk2⟩
    · omega
    · omega
    · exact hno _ hk2
  · exact hno _ hk
set_option maxRecDepth 100000 in
set_option maxHeartbeats 8000000 in
theorem Sites_walk (st dr bk : Int) (A : Option Addr) (ls : List Cm) (cap : Nat) (at_ : Int) (w : World) (hcap : ls.length ≤ cap) (hl : cap ≤ 9223372036854775807) (hw : ClaimsAt w A ls) (ha : 0 ≤ at_ ∧ at_ ≤ 255) :
    Calls Try.prog 9 #[.int .i64 st, .int .i64 dr, .int .i64 bk, .slice A ls.length cap, .int .u8 at_] w fun e w' => e = .returned (.bool true) ∧ Below w.heap.size w w' := by
  have HW := Lib.hid hw
  clear hw
  by_cases he : Sx.nsE st dr bk = 0
  rotate_left 1
  · have P41 := Lib.hid (NewSite_no st dr bk w he)
    have P42 := Lib.hid (NewSiteR_no st dr bk w he)
    have hne : (Sx.nsE st dr bk == 0) = false := by simpa using he
    have hne2 : (Sx.nsE st dr bk != 0) = true := by simpa using he
    generalize Sx.nsE st dr bk = er at *
    clear he
    go_enter Try.func9, Try.ntmps9
    go_wp2_with (first | (go_at_call 41; refine P41.out.mono ?_; rintro e w' ⟨rfl, rfl⟩) | (go_at_call 42; refine P42.out.mono ?_; rintro e w' ⟨rfl, rfl⟩) | (go_at_call 12; refine (works_c _).mono ?_; rintro e w1 ⟨rfl, hb⟩; have HB := Lib.hid hb; clear hb))
    go_ret
    exact ⟨rfl, HB.out⟩
  obtain ⟨n, rfl⟩ := Int.eq_ofNat_of_zero_le (show 0 ≤ st by have := nsE_ok he; omega)
  have hn := nsE_ok he
  have hn0 : 0 < n := by omega
  have hn32 : n ≤ 32 := by omega
  have P41 := Lib.hid (fun w => NewSite_c n dr bk w he)
  have P42 := Lib.hid (fun w => NewSiteR_c n dr bk w he)
  clear he hn
  go_enter Try.func9, Try.ntmps9
  go_wp2_with (first | (go_at_call 41; refine (P41.out _).mono ?_; rintro e w1 ⟨rfl, rfl⟩) | (go_at_call 42; refine (P42.out _).mono ?_; rintro e w2 ⟨rfl, rfl⟩))
  refine gen_world' (fun W => ClS w.heap.size (w.heap.size + 1) w.heap.size n (w.heap.size + 1 + 1 + 1) n dr bk 0 W ∧ Below w.heap.size w W) ⟨cls_new w n dr bk hn32, by exact ((((Below.refl _ _).alloc (Nat.le_refl _) _).alloc (by simp) _).alloc (by simp; omega) _).alloc (by simp; omega) _⟩ ?_
  rintro w0 ⟨hc0, hb0⟩
  have HC0 := Lib.hid (And.intro hc0 hb0)
  clear hc0 hb0 P41 P42
  go_loopw [15] (fun i wr => ∃ k : Nat, k ≤ ls.length ∧ k ≤ 100 ∧ i = .int .i64 k ∧ Hid (ClS w.heap.size (w.heap.size + 1) w.heap.size n (w.heap.size + 1 + 1 + 1) n dr bk k wr ∧ Below w.heap.size w wr)) (fun i _ => ls.length - (intOf i).toNat)
  case atStart => exact ⟨0, Nat.zero_le _, by omega, rfl, HC0⟩
  case round =>
    obtain ⟨k, hk, hk100, rfl, HC⟩ := hrel
    by_cases hlt : k < ls.length
    rotate_left 1
    · go_wp2_with (go_at_call 12; refine (works_c _).mono ?_; rintro e w1 ⟨rfl, hb⟩; have HB := Lib.hid hb; clear hb)
      go_ret
      exact ⟨rfl, bel_bel HC.out.2 HB.out⟩
    by_cases h100 : k < 100
    rotate_left 1
    · go_wp2_with (go_at_call 12; refine (works_c _).mono ?_; rintro e w1 ⟨rfl, hb⟩; have HB := Lib.hid hb; clear hb)
      go_ret
      exact ⟨rfl, bel_bel HC.out.2 HB.out⟩
    obtain ⟨ad, hA, hc, hd⟩ := HW.out k hlt
    subst hA
    have HCm := Lib.hid hc
    have HD := Lib.hid hd
    clear hc hd
    generalize ls.getD k default = c at *
    have k0 : (0 : Int) ≤ (k : Int) := by omega
    have k1 : (k : Int) < (ls.length : Int) := by omega
    obtain ⟨r, hr⟩ : ∃ r : Nat, at_.tmod 100 = (r : Int) := by
      have h1 := Int.emod_nonneg at_ (show (100 : Int) ≠ 0 by decide)
      have h3 : at_.tmod 100 = at_ % 100 := Int.tmod_eq_emod_of_nonneg ha.1
      exact ⟨(at_ % 100).toNat, by omega⟩
    obtain ⟨x0, x1, x2, x3, x4, x5, x6⟩ := HCm.out.below HC.out.2
    have zk := World.block_lt_of_cell? _ _ x0
    by_cases hkr : k = r
    · have hkr' : ((k : Int) == (r : Int)) = true := by simp [hkr]
      clear hkr
      obtain ⟨A1, q1, cs, rc, rcc, A', q', cs', N, ht, hrel, ho1, ho2⟩ := HC.out.1
      have HT := Lib.hid ht
      have HO := Lib.hid (And.intro hrel (And.intro ho1 ho2))
      have P43 := Lib.hid (CopyS_c ht.s (by rw [ht.n1]; exact hn0) (by rw [ht.n1]; exact hn32) (fun c hc => by have := (ho1 c hc).ln; omega))
      clear ht hrel ho1 ho2
      go_upto_region 12 with (go_at_call 43; refine P43.out.mono ?_; rintro e w1 ⟨gs2, gc2, cc2, A2, q2, rfl, hs2, hb2⟩; have HS2 := Lib.hid hs2; have HB2 := Lib.hid hb2; clear hs2 hb2)
      have HSd := Lib.hid (show ∀ k, SOwn gs2 gc2 A2 n k → wr.heap.size ≤ k ∧ k < w1.heap.size from fun k hk => ⟨HS2.out.own_ge (by rw [HT.out.n1]; exact hk), HS2.out.lt (by rw [HT.out.n1]; exact hk)⟩)
      have HCmr := Lib.hid (HCm.out.below HC.out.2)
      have HBd := Lib.hid (bel_bel HB2.out ((Below.refl _ _).drew))
      refine lBegin (S := fun _ W => (W.cell? (ad.add (k * 7)) = some (.int .u8 c.d) ∧ W.cell? ⟨(ad.add (k * 7)).block, (ad.add (k * 7)).off + 1, none⟩ = some (.int .i64 c.s) ∧ W.cell? ⟨(ad.add (k * 7)).block, (ad.add (k * 7)).off + 2, none⟩ = some (.int .i64 c.nu) ∧ W.cell? ⟨(ad.add (k * 7)).block, (ad.add (k * 7)).off + 3, none⟩ = some (.int .i64 c.dr) ∧ W.cell? ⟨(ad.add (k * 7)).block, (ad.add (k * 7)).off + 4, none⟩ = some (.int .i64 c.bk) ∧ W.cell? ⟨(ad.add (k * 7)).block, (ad.add (k * 7)).off + 5, none⟩ = some (.int .i64 c.un) ∧ W.cell? ⟨(ad.add (k * 7)).block, (ad.add (k * 7)).off + 6, none⟩ = some (.int .i64 c.now))) (by kernel_rfl) ?_ (fun hHeld => ?_)
      · (try dsimp only); (exact HCmr.out.below HBd.out)
      refine lTake (i := 0) (v := ?_) rfl (by kernel_rfl) (by kernel_rfl) (by kernel_rfl) (fun _ _ _ h => h) (by rfl) (fun _ _ h => h) (fun _ _ h => h) ?_ (by assumption) (fun hHeld2 => ?_)
      rotate_left 1
      · (intro _ _ _ _ _; first | (go_simp; done) | (go_simp; with_reducible rfl))
      clear hHeld; have hHeld := hHeld2; clear hHeld2
      (try simp only [Act.put, List.setIfInBounds_toArray, List.set_cons_zero, List.set_cons_succ])
      refine lTake (i := 1) (v := ?_) rfl (by kernel_rfl) (by kernel_rfl) (by kernel_rfl) (fun _ _ _ h => h) (by rfl) (fun _ _ h => h) (fun _ _ h => h) ?_ (by assumption) (fun hHeld2 => ?_)
      rotate_left 1
      · (intro _ _ _ _ _; first | (go_simp; done) | (go_simp; with_reducible rfl))
      clear hHeld; have hHeld := hHeld2; clear hHeld2
      (try simp only [Act.put, List.setIfInBounds_toArray, List.set_cons_zero, List.set_cons_succ])
      refine lTake (i := 2) (v := ?_) rfl (by kernel_rfl) (by kernel_rfl) (by kernel_rfl) (fun _ _ _ h => h) (by rfl) (fun _ _ h => h) (fun _ _ h => h) ?_ (by assumption) (fun hHeld2 => ?_)
      rotate_left 1
      · (intro _ _ _ _ _; first | (go_simp; done) | (go_simp; with_reducible rfl))
      clear hHeld; have hHeld := hHeld2; clear hHeld2
      (try simp only [Act.put, List.setIfInBounds_toArray, List.set_cons_zero, List.set_cons_succ])
      refine lTake (i := 3) (v := ?_) rfl (by kernel_rfl) (by kernel_rfl) (by kernel_rfl) (fun _ _ _ h => h) (by rfl) (fun _ _ h => h) (fun _ _ h => h) ?_ (by assumption) (fun hHeld2 => ?_)
      rotate_left 1
      · (intro _ _ _ _ _; first | (go_simp; done) | (go_simp; with_reducible rfl))
      clear hHeld; have hHeld := hHeld2; clear hHeld2
      (try simp only [Act.put, List.setIfInBounds_toArray, List.set_cons_zero, List.set_cons_succ])
      refine lTake (i := 4) (v := ?_) rfl (by kernel_rfl) (by kernel_rfl) (by kernel_rfl) (fun _ _ _ h => h) (by rfl) (fun _ _ h => h) (fun _ _ h => h) ?_ (by assumption) (fun hHeld2 => ?_)
      rotate_left 1
      · (intro _ _ _ _ _; first | (go_simp; done) | (go_simp; with_reducible rfl))
      clear hHeld; have hHeld := hHeld2; clear hHeld2
      (try simp only [Act.put, List.setIfInBounds_toArray, List.set_cons_zero, List.set_cons_succ])
      refine lTake (i := 6) (v := ?_) rfl (by kernel_rfl) (by kernel_rfl) (by kernel_rfl) (fun _ _ _ h => h) (by rfl) (fun _ _ h => h) (fun _ _ h => h) ?_ (by assumption) (fun hHeld2 => ?_)
      rotate_left 1
      · (intro _ _ _ _ _; first | (go_simp; done) | (go_simp; with_reducible rfl))
      clear hHeld; have hHeld := hHeld2; clear hHeld2
      (try simp only [Act.put, List.setIfInBounds_toArray, List.set_cons_zero, List.set_cons_succ])
      refine lTake (i := 7) (v := ?_) rfl (by kernel_rfl) (by kernel_rfl) (by kernel_rfl) (fun _ _ _ h => h) (by rfl) (fun _ _ h => h) (fun _ _ h => h) ?_ (by assumption) (fun hHeld2 => ?_)
      rotate_left 1
      · (intro _ _ _ _ _; first | (go_simp; done) | (go_simp; with_reducible rfl))
      clear hHeld; have hHeld := hHeld2; clear hHeld2
      (try simp only [Act.put, List.setIfInBounds_toArray, List.set_cons_zero, List.set_cons_succ])
      refine lTake (i := 8) (v := ?_) rfl (by kernel_rfl) (by kernel_rfl) (by kernel_rfl) (fun _ _ _ h => h) (by rfl) (fun _ _ h => h) (fun _ _ h => h) ?_ (by assumption) (fun hHeld2 => ?_)
      rotate_left 1
      · (intro _ _ _ _ _; first | (go_simp; done) | (go_simp; with_reducible rfl))
      clear hHeld; have hHeld := hHeld2; clear hHeld2
      (try simp only [Act.put, List.setIfInBounds_toArray, List.set_cons_zero, List.set_cons_succ])
      refine lTake (i := 9) (v := ?_) rfl (by kernel_rfl) (by kernel_rfl) (by kernel_rfl) (fun _ _ _ h => h) (by rfl) (fun _ _ h => h) (fun _ _ h => h) ?_ (by assumption) (fun hHeld2 => ?_)
      rotate_left 1
      · (intro L W _ _ hSw; (try dsimp only at hSw); first | (go_simp; done) | (go_simp; with_reducible rfl))
      clear hHeld; have hHeld := hHeld2; clear hHeld2
      (try simp only [Act.put, List.setIfInBounds_toArray, List.set_cons_zero, List.set_cons_succ])
      refine lReady (rs := [5]) (by kernel_rfl) (by simp) ?_
      refine AllL.cons (i := 5) rfl (fun K hK => ?_) ?_
      · go_simp; (refine (CopyRS_c (HT.out.r.below HBd.out) (by rw [HT.out.n2]; exact hn0) (by rw [HT.out.n2]; exact hn32)).mono ?_; rintro e w5 ⟨rs2, rc2, rcc2, rfl, hr1, hr2, hrr, hb5⟩; have HLr := Lib.hid (And.intro hr1 hr2); have HBo := HBd; have HBs := Lib.hid hb5; have HBd := Lib.hid (bel_bel HBd.out hb5); have HC5 := Lib.hid (show ClS wr.heap.size gs2 gc2 cc2 rs2 n dr bk k w5 from ⟨A2, q2, cs, rc2, rcc2, A', q', cs', N, ⟨HS2.out.below (bel_bel ((Below.refl w1.heap.size w1).drew) hb5), hrr, HT.out.n1, HT.out.n2, fun k hk hk2 => by have h1 := HSd.out k hk; simp only [World.drew] at hr1 hr2; rcases hk2 with e | e | ⟨i, hi, e⟩; (have : w1.heap.size ≤ rs2 := hr1; omega); (have : w1.heap.size ≤ rc2 := hr2; omega); (have := HT.out.r.lt (.inr (.inr ⟨i, by rw [HT.out.n2]; exact hi, e⟩)); omega)⟩, HO.out⟩); clear hr1 hr2 hrr hb5)
        (try go_wp2_with fail)
        refine hK.out _ _ ?_ (fun hHeld2 => ?_)
        · (try dsimp only); (exact HCmr.out.below HBd.out)
        clear hK K
        clear hHeld; have hHeld := hHeld2; clear hHeld2
        (try simp only [Act.put, List.setIfInBounds_toArray, List.set_cons_zero, List.set_cons_succ])
        refine lReady (rs := [10]) (by kernel_rfl) (by simp) ?_
        refine AllL.cons (i := 10) rfl (fun K hK => ?_) ?_
        · go_simp; (refine (claim_c HC5.out HBd.out.size (by have h1 := HLr.out.1; have h2 := HB2.out.size; have h3 : w1.heap.size ≤ rs2 := h1; omega) hn32 (by omega) (by omega) c HD.out).mono ?_; rintro e w6 ⟨rfl, _, ht6⟩; have HBd := Lib.hid (Below.touch HBd.out HBd.out.size ht6 (fun k hk => hk)); clear ht6)
          (try go_wp2_with fail)
          refine hK.out _ _ ?_ (fun hHeld2 => ?_)
          · (try dsimp only); (exact HCmr.out.below HBd.out)
          clear hK K
          clear hHeld; have hHeld := hHeld2; clear hHeld2
          (try simp only [Act.put, List.setIfInBounds_toArray, List.set_cons_zero, List.set_cons_succ])
          refine lTake (i := 11) (v := ?_) rfl (by kernel_rfl) (by kernel_rfl) (by kernel_rfl) (fun _ _ _ h => h) (by rfl) (fun _ _ h => h) (fun _ _ h => h) ?_ (by assumption) (fun hHeld2 => ?_)
          rotate_left 1
          · (intro _ _ _ _ _; first | (go_simp; done) | (go_simp; with_reducible rfl))
          clear hHeld; have hHeld := hHeld2; clear hHeld2
          (try simp only [Act.put, List.setIfInBounds_toArray, List.set_cons_zero, List.set_cons_succ])
          refine lTake (i := 12) (v := ?_) rfl (by kernel_rfl) (by kernel_rfl) (by kernel_rfl) (fun _ _ _ h => h) (by rfl) (fun _ _ h => h) (fun _ _ h => h) ?_ (by assumption) (fun hHeld2 => ?_)
          rotate_left 1
          · (intro _ _ _ _ _; first | (go_simp; done) | (go_simp; with_reducible rfl))
          clear hHeld; have hHeld := hHeld2; clear hHeld2
          (try simp only [Act.put, List.setIfInBounds_toArray, List.set_cons_zero, List.set_cons_succ])
          refine lDone (by kernel_rfl) ?_ _
          clear hHeld
          go_upto_region 14 with fail
          have HCx := Lib.hid (And.intro (HC.out.1.bel HBd.out) (bel_bel HC.out.2 HBd.out))
          clear HC HCmr HBd HSd HS2 HB2 HT HO P43
          obtain ⟨x0, x1, x2, x3, x4, x5, x6⟩ := HCm.out.below HCx.out.2
          have P44 := Lib.hid (claim_c HCx.out.1 HCx.out.2.size (by omega) hn32 (by omega) (by omega) c HD.out)
          go_upto_region 16 with (go_at_call 44; refine P44.out.mono ?_; rintro e w8 ⟨rfl, hc8, ht8⟩; have HC8 := Lib.hid (And.intro hc8 (show Below w.heap.size w w8 from Below.touch HCx.out.2 HCx.out.2.size ht8 (fun k hk => hk))); clear hc8 ht8)
          clear x0 x1 x2 x3 x4 x5 x6 P44
          go_wp2_with fail
          go_loopw [17] (fun j wz => ∃ m : Nat, m ≤ 5 ∧ j = .int .i64 ((m : Int) - 1) ∧ Hid (ClS w.heap.size (w.heap.size + 1) w.heap.size n (w.heap.size + 1 + 1 + 1) n dr bk ((k : Int) + 1) wz ∧ Below w.heap.size w wz)) (fun j _ => (4 - intOf j).toNat)
          case atStart => exact ⟨0, by omega, rfl, HC8⟩
          case round =>
            obtain ⟨m, hm, rfl, HZ⟩ := hrel
            by_cases h5 : m < 5
            · have hd5 : decide ((m : Int) - 1 < 4) = true := decide_eq_true (by omega)
              obtain ⟨_, _, _, _, _, _, x6⟩ := HCm.out.below HZ.out.2
              have z6 := World.block_lt_of_cell? _ _ x6
              obtain ⟨A9, q9, cs9, rc9, rcc9, A9', q9', cs9', N9, ht9, hrel9, ho9, ho9'⟩ := HZ.out.1
              obtain ⟨x, y, z, hv⟩ := rsV_form cs9 ((m : Int) - 1) c.now
              have hv2 := (rsV_rel hrel9 ((m : Int) - 1) c.now).symm.trans hv
              have P46 := Lib.hid (Reserved_c ht9.s (K := (k : Int) + 1) (by omega) ho9 ((m : Int) - 1) c.now)
              have P47 := Lib.hid (fun W (hW : Below wr.heap.size wr W) => ReservedRS_c (ht9.r.below hW) (K := (k : Int) + 1) (by omega) ho9' ((m : Int) - 1) c.now)
              rw [hv] at P46
              rw [hv2] at P47
              have w5 : IntKind.i64.wrap ((m : Int) - 1 + 1) = (m : Int) := by rw [show (m : Int) - 1 + 1 = (m : Int) by omega]; exact IntWalk.i64_in _ (by omega)
              clear hv hv2 ht9 hrel9 ho9 ho9'
              go_wp2_with (first
                | (go_at_call 46; refine P46.out.mono ?_; rintro e w9 ⟨rfl, hb9⟩; have HB9 := Lib.hid hb9; have x6b := ((hb9.cell (p := ⟨(ad.add (k * 7)).block, (ad.add (k * 7)).off + 6, none⟩) z6).trans x6); clear hb9)
                | (go_at_call 47; refine (P47.out _ HB9.out).mono ?_; rintro e w10 ⟨rfl, hb10⟩; have HB10 := Lib.hid (bel_bel HB9.out hb10); clear hb10))
              exact ⟨⟨m + 1, by omega, by go_num, Lib.hid ⟨HZ.out.1.bel HB10.out, bel_bel HZ.out.2 HB10.out⟩⟩, by simp [intOf]; omega⟩
            · obtain rfl : m = 5 := by omega
              go_wp2_with fail
              exact ⟨⟨k + 1, by omega, by omega, by go_num, Lib.hid ⟨by have := HZ.out.1; push_cast; exact this, HZ.out.2⟩⟩, by simp [intOf]; omega⟩
        exact AllL.nil
      exact AllL.nil
    · have hkr' : ((k : Int) == (r : Int)) = false := by simp; omega
      clear hkr
      go_upto_region 14 with fail
      have HCx := HC
      clear HC x0 x1 x2 x3 x4 x5 x6
      obtain ⟨x0, x1, x2, x3, x4, x5, x6⟩ := HCm.out.below HCx.out.2
      have P44 := Lib.hid (claim_c HCx.out.1 HCx.out.2.size (by omega) hn32 (by omega) (by omega) c HD.out)
      go_upto_region 16 with (go_at_call 44; refine P44.out.mono ?_; rintro e w8 ⟨rfl, hc8, ht8⟩; have HC8 := Lib.hid (And.intro hc8 (show Below w.heap.size w w8 from Below.touch HCx.out.2 HCx.out.2.size ht8 (fun k hk => hk))); clear hc8 ht8)
      clear x0 x1 x2 x3 x4 x5 x6 P44
      go_wp2_with fail
      go_loopw [17] (fun j wz => ∃ m : Nat, m ≤ 5 ∧ j = .int .i64 ((m : Int) - 1) ∧ Hid (ClS w.heap.size (w.heap.size + 1) w.heap.size n (w.heap.size + 1 + 1 + 1) n dr bk ((k : Int) + 1) wz ∧ Below w.heap.size w wz)) (fun j _ => (4 - intOf j).toNat)
      case atStart => exact ⟨0, by omega, rfl, HC8⟩
      case round =>
        obtain ⟨m, hm, rfl, HZ⟩ := hrel
        by_cases h5 : m < 5
        · have hd5 : decide ((m : Int) - 1 < 4) = true := decide_eq_true (by omega)
          obtain ⟨_, _, _, _, _, _, x6⟩ := HCm.out.below HZ.out.2
          have z6 := World.block_lt_of_cell? _ _ x6
          obtain ⟨A9, q9, cs9, rc9, rcc9, A9', q9', cs9', N9, ht9, hrel9, ho9, ho9'⟩ := HZ.out.1
          obtain ⟨x, y, z, hv⟩ := rsV_form cs9 ((m : Int) - 1) c.now
          have hv2 := (rsV_rel hrel9 ((m : Int) - 1) c.now).symm.trans hv
          have P46 := Lib.hid (Reserved_c ht9.s (K := (k : Int) + 1) (by omega) ho9 ((m : Int) - 1) c.now)
          have P47 := Lib.hid (fun W (hW : Below wr.heap.size wr W) => ReservedRS_c (ht9.r.below hW) (K := (k : Int) + 1) (by omega) ho9' ((m : Int) - 1) c.now)
          rw [hv] at P46
          rw [hv2] at P47
          have w5 : IntKind.i64.wrap ((m : Int) - 1 + 1) = (m : Int) := by rw [show (m : Int) - 1 + 1 = (m : Int) by omega]; exact IntWalk.i64_in _ (by omega)
          clear hv hv2 ht9 hrel9 ho9 ho9'
          go_wp2_with (first
            | (go_at_call 46; refine P46.out.mono ?_; rintro e w9 ⟨rfl, hb9⟩; have HB9 := Lib.hid hb9; have x6b := ((hb9.cell (p := ⟨(ad.add (k * 7)).block, (ad.add (k * 7)).off + 6, none⟩) z6).trans x6); clear hb9)
            | (go_at_call 47; refine (P47.out _ HB9.out).mono ?_; rintro e w10 ⟨rfl, hb10⟩; have HB10 := Lib.hid (bel_bel HB9.out hb10); clear hb10))
          exact ⟨⟨m + 1, by omega, by go_num, Lib.hid ⟨HZ.out.1.bel HB10.out, bel_bel HZ.out.2 HB10.out⟩⟩, by simp [intOf]; omega⟩
        · obtain rfl : m = 5 := by omega
          go_wp2_with fail
          exact ⟨⟨k + 1, by omega, by omega, by go_num, Lib.hid ⟨by have := HZ.out.1; push_cast; exact this, HZ.out.2⟩⟩, by simp [intOf]; omega⟩
end Go.Proofs.Ytafajclbghofkaa
