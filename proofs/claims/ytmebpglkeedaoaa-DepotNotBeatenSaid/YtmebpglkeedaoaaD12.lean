/- The contract of Least of depot. -/
import Derived.Test.YtmebpglkeedaoaaD11
import Derived.Test.YtmebpglkeedaoaaC2
namespace Go.Proofs.Ytmebpglkeedaoaa
open Go.RowKit Dp
set_option linter.unusedVariables false

/-- what Least answers -/
def LeastP (N : Net) (w : World) (e : Ending) (w' : World) : Prop :=
  (chE N ≠ 0 ∧ e = .returned (.tuple #[.slice none 0 0, .slice none 0 0, .int .i64 (chE N)])) ∨
  (chE N = 0 ∧ ∃ gf gp fl p, e = .returned (.tuple #[.slice (some ⟨gf, 0, none⟩) N.arcs.length N.arcs.length, .slice (some ⟨gp, 0, none⟩) N.sup.length N.sup.length, .int .i64 0]) ∧ Fl 2 w' gf fl ∧ Fl 2 w' gp p ∧ w.heap.size ≤ gf ∧ w.heap.size ≤ gp ∧ fl.length = N.arcs.length ∧ isFlow N fl = true ∧ p.length = N.sup.length ∧ (∀ v, v < p.length → potOk (p.getD v 0) = true) ∧ costK N fl N.arcs.length = prA N p N.arcs.length) ∨
  (chE N = 0 ∧ e = .returned (.tuple #[.slice none 0 0, .slice none 0 0, .int .i64 18]) ∧ ∃ c : List Int, (∀ k, k < c.length → cutAt N.sup.length c k = true) ∧ 0 < lkA N c N.arcs.length ∧ ∀ fl, isFlow N fl = false)

set_option maxHeartbeats 2000000 in
set_option maxRecDepth 100000 in
theorem Least_c (A B : Option Addr) (N : Net) (n m cA cB : Nat) (w : World) (hn : n = N.sup.length) (hm : m = N.arcs.length) (hA : n ≤ cA ∧ cA ≤ 9223372036854775807) (hB : m ≤ cB ∧ cB ≤ 9223372036854775807) (hN : NetAt w A B N) :
    Calls Try.prog 25 #[.agg #[.slice A n cA, .slice B m cB]] w fun e w' => LeastP N w e w' ∧ Below w.heap.size w w' := by
  have HN := Lib.hid hn
  have HM := Lib.hid hm
  have HNA := Lib.hid hN
  clear hn hm hN
  have B1 := Lib.hid (Blk.new' w #[.slice A n cA, .slice B m cB] 25)
  have HB1 := Lib.hid ((Below.refl w.heap.size w).alloc (Nat.le_refl _) (.cells #[.slice A n cA, .slice B m cB] 25))
  go_enter Try.func25, Try.ntmps25
  go_wp2_with fail
  generalize w.alloc (.cells #[.slice A n cA, .slice B m cB] 25) = w1 at B1 HB1 ⊢
  refine (Check_c A B N n m cA cB w1 HN.out HM.out hA hB (HNA.out.below HB1.out (Nat.le_refl _))).mono ?_
  rintro e w2 ⟨rfl, hb2⟩
  have B2 := Lib.hid (B1.out.below hb2 B1.out.lt)
  have HB2 := Lib.hid (HB1.out.trans (hb2.mono HB1.out.size))
  clear hb2 B1 HB1
  have cA0 := B2.out.cell 0 rfl
  have cB0 := B2.out.cell 1 rfl
  by_cases hch : chE N = 0
  · have HCH := Lib.hid hch
    have n2 : n ≤ 1024 := by rw [HN.out]; exact (net_len hch).2.1
    rw [hch]
    clear hch
    go_wp2_with fail
    refine (newGraph_c A B N n m cA cB w2 HN.out HM.out HCH.out hA hB (HNA.out.below HB2.out (Nat.le_refl _))).mono ?_
    rintro e w3 ⟨b, gl, cl, E, ce, bo, rfl, hb3, hg3⟩
    have HB3 := Lib.hid (HB2.out.trans (hb3.mono HB2.out.size))
    have G3 := Lib.hid hg3
    have hsz := HB2.out.size
    have S3 : Hid (∀ k, k = gl ∨ OwnB E k → w.heap.size ≤ k) := Lib.hid (fun k hk => by
      rcases hk with h | h
      · have := hg3.base.2; omega
      · have := (ownLt hg3.es h).2; omega)
    clear hb3 hg3 cA0 cB0
    go_wp2_with fail
    refine (least_c b gl cl ce bo w2.heap.size n E (gr0 N) N w3 HN.out.symm HCH.out (by rw [HN.out]; exact gr0_ok HCH.out) gr0_fits (fun i hi => by show ((esK N N.arcs.length).getD (2 * i + 1) default).room = 0; rw [(esK_get N _ i hi).2]) G3.out).mono ?_
    rintro e w4 ⟨gp, G', p, fa, vi, D, rfl, hp4, hg4, hok, hft, hpd, hnr, ht4, hgp⟩
    have HB4 := Lib.hid (Below.touch HB3.out HB3.out.size ht4 S3.out)
    have G4 := Lib.hid hg4
    have OK := Lib.hid hok
    have FT := Lib.hid hft
    have PD := Lib.hid hpd
    have NRR := Lib.hid hnr
    have P4 := Lib.hid hp4
    have hgpw : w.heap.size ≤ gp := by have := HB3.out.size; omega
    clear hp4 hg4 hok hft hpd hnr ht4
    have RN := rest_nn G'.left
    go_wp2_with fail
    refine (rest_c b gl cl ce bo w2.heap.size n E G' w4 OK.out G4.out).mono ?_
    rintro e w5 ⟨rfl, rfl⟩
    have OKN : Hid (G'.Ok N.sup.length) := Lib.hid (by rw [← HN.out]; exact OK.out)
    have CUT : Hid (lkA N (cutL N.sup.length (fun v => decide (fa.getD v 0 < never))) N.arcs.length = restV G'.left) := Lib.hid (by
      have h := NRR.out
      rw [HN.out] at h
      exact end_cut HCH.out OKN.out FT.out h)
    have FLO := Lib.hid (fun h => end_flow HCH.out OKN.out FT.out PD.out.rc h)
    generalize restV G'.left = R at *
    by_cases hr : 0 < R
    · have d1 : decide (0 < R) = true := decide_eq_true hr
      have C1 : Hid (∃ c : List Int, (∀ k, k < c.length → cutAt N.sup.length c k = true) ∧ 0 < lkA N c N.arcs.length ∧ ∀ fl, isFlow N fl = false) := Lib.hid ⟨_, cutL_ok, by rw [CUT.out]; exact hr, cut_none HCH.out cutL_ok (by rw [CUT.out]; exact hr)⟩
      go_wp2_with fail
      exact bodyPost_ret (v := .tuple #[.slice none 0 0, .slice none 0 0, .int .i64 18]) (by simp [results, Try.results25, go_sem]) rfl ⟨.inr (.inr ⟨HCH.out, rfl, C1.out⟩), HB4.out⟩
    · have d1 : decide (0 < R) = false := decide_eq_false hr
      have FL := Lib.hid (FLO.out (by omega))
      go_wp2_with fail
      refine (flow_c b gl cl ce bo w2.heap.size n E G' w4 OK.out G4.out).mono ?_
      rintro e w5 ⟨gf, rfl, hb5, hf5, hgf⟩
      have HB5 := Lib.hid (HB4.out.trans (hb5.mono HB4.out.size))
      have P5 := Lib.hid (P4.out.below hb5)
      rw [flowE_flow FT.out] at hf5
      have F5 := Lib.hid hf5
      have hgfw : w.heap.size ≤ gf := by have := HB4.out.size; omega
      have e1 : G'.es.length / 2 = N.arcs.length := by rw [FT.out.es]; omega
      rw [e1]
      have POK : Hid (∀ v, v < p.length → potOk (p.getD v 0) = true) := Lib.hid (fun v hv => by
        rw [PD.out.len] at hv
        have := PD.out.lo v hv
        have := PD.out.d
        rw [potOk_iff]
        omega)
      clear hb5 hf5
      go_wp2_with fail
      exact bodyPost_ret (v := .tuple #[.slice (some ⟨gf, 0, none⟩) N.arcs.length N.arcs.length, .slice (some ⟨gp, 0, none⟩) n n, .int .i64 0]) (by simp [results, Try.results25, go_sem]) rfl ⟨.inr (.inl ⟨HCH.out, gf, gp, flowL N G', p, by rw [HN.out], F5.out, P5.out, hgfw, hgpw, flowL_len N G', FL.out.1, by rw [PD.out.len, HN.out], POK.out, FL.out.2⟩), HB5.out⟩
  · have hne : (chE N == 0) = false := by simpa using hch
    have HCH := Lib.hid hch
    generalize hq : chE N = q at *
    have HQ := Lib.hid hq
    clear hq
    go_wp2_with fail
    exact bodyPost_ret (v := .tuple #[.slice none 0 0, .slice none 0 0, .int .i64 q]) (by simp [results, Try.results25, go_sem]) rfl ⟨.inl ⟨by rw [HQ.out]; exact HCH.out, by rw [HQ.out]⟩, HB2.out⟩
end Go.Proofs.Ytmebpglkeedaoaa
