/- The contract of the reference's Cost of depot. -/
import Derived.Test.YtmebpglkeedaoaaC8
namespace Go.Proofs.Ytmebpglkeedaoaa
open Go.RowKit Dp
set_option linter.unusedVariables false
theorem isFlow_caps {N : Net} {fl : List Int} (h : isFlow N fl = true) : ∀ k, k < N.arcs.length → 0 ≤ fl.getD k 0 ∧ fl.getD k 0 ≤ (N.arcs.getD k default).cap := by
  simp only [isFlow, Bool.and_eq_true] at h
  exact capB_iff.1 h.2.1

set_option maxHeartbeats 2000000 in
set_option maxRecDepth 100000 in
theorem CostR_c (A B C : Option Addr) (N : Net) (fl : List Int) (n m p cA cB cC : Nat) (w : World) (hn : n = N.sup.length) (hm : m = N.arcs.length) (hp : p = fl.length) (hA : n ≤ cA ∧ cA ≤ 9223372036854775807) (hB : m ≤ cB ∧ cB ≤ 9223372036854775807) (hC : p ≤ cC ∧ cC ≤ 9223372036854775807) (hN : NetAt w A B N) (hF : IntsAt w C fl) :
    Calls Try.prog 15 #[.agg #[.slice A n cA, .slice B m cB], .slice C p cC] w fun e w' => e = .returned (.tuple #[.int .i64 (coV N fl), .int .i64 (coE N fl)]) ∧ Below w.heap.size w w' := by
  have HN := Lib.hid hn
  have HM := Lib.hid hm
  have HP := Lib.hid hp
  have HNA := Lib.hid hN
  have HFA := Lib.hid hF
  clear hn hm hp hN hF
  have B1 := Lib.hid (Blk.new' w #[.slice A n cA, .slice B m cB] 25)
  have HB1 := Lib.hid ((Below.refl w.heap.size w).alloc (Nat.le_refl _) (.cells #[.slice A n cA, .slice B m cB] 25))
  go_enter Try.func15, Try.ntmps15
  go_wp2_with fail
  generalize w.alloc (.cells #[.slice A n cA, .slice B m cB] 25) = w1 at B1 HB1 ⊢
  refine (CheckR_c A B N n m cA cB w1 HN.out HM.out hA hB (HNA.out.below HB1.out (Nat.le_refl _))).mono ?_
  rintro e w2 ⟨rfl, hb2⟩
  have B2 := Lib.hid (B1.out.below hb2 B1.out.lt)
  have HB2 := Lib.hid (HB1.out.trans (hb2.mono HB1.out.size))
  clear hb2 B1 HB1
  have cA0 := B2.out.cell 0 rfl
  have cB0 := B2.out.cell 1 rfl
  by_cases hch : chE N = 0
  · rw [hch]
    have HCH := Lib.hid hch
    clear hch
    by_cases hpm : p = m
    · have HLEN := Lib.hid (show fl.length = N.arcs.length from by rw [← HP.out, ← HM.out]; exact hpm)
      subst hpm
      go_wp2_with fail
      refine (IsFlow_c A B C N fl n p p cA cB cC w2 HN.out HM.out HP.out HCH.out hA hB hC (HNA.out.below HB2.out (Nat.le_refl _)) (HFA.out.below HB2.out (Nat.le_refl _))).mono ?_
      rintro e w3 ⟨rfl, hb3⟩
      have B3 := Lib.hid (B2.out.below hb3 B2.out.lt)
      have HB3 := Lib.hid (HB2.out.trans (hb3.mono HB2.out.size))
      clear hb3 B2 HB2 cA0 cB0
      have cA0 := B3.out.cell 0 rfl
      have cB0 := B3.out.cell 1 rfl
      cases hf : isFlow N fl
      · have E := Lib.hid (co_no HCH.out HLEN.out hf)
        go_wp2
        go_ret2
        exact ⟨ret2 E.out.2.symm E.out.1.symm, HB3.out⟩
      · have E := Lib.hid (co_yes HCH.out HLEN.out hf)
        have HCAP := Lib.hid (isFlow_caps hf)
        go_wp2_with fail
        refine (costR_c A B C N fl n p p cA cB cC w3 HM.out HP.out rfl HCH.out hB hC (HNA.out.below HB3.out (Nat.le_refl _)) (HFA.out.below HB3.out (Nat.le_refl _)) (fun x hx => HCAP.out x (by rw [← HM.out]; omega))).mono ?_
        rintro e w4 ⟨rfl, hb4⟩
        go_wp2
        go_ret2
        exact ⟨ret2 (by rw [E.out.2, HM.out]) E.out.1.symm, HB3.out.trans (hb4.mono HB3.out.size)⟩
    · have E := Lib.hid (co_len (fl := fl) HCH.out (by rw [← HP.out, ← HM.out]; exact hpm))
      have hmm : ¬ (p : Int) = (m : Int) := by omega
      have hmm' : ((p : Int) == (m : Int)) = false := by simpa using hmm
      go_wp2
      go_ret2
      exact ⟨ret2 E.out.2.symm E.out.1.symm, HB2.out⟩
  · have E := Lib.hid (co_ch (fl := fl) hch)
    have hne : (chE N == 0) = false := by simpa using hch
    have CC := Lib.hid (CheckR_c A B N n m cA cB w2 HN.out HM.out hA hB (HNA.out.below HB2.out (Nat.le_refl _)))
    generalize chE N = q at *
    go_wp2_with fail
    refine CC.out.mono ?_
    rintro e w3 ⟨rfl, hb3⟩
    go_wp2
    go_ret2
    exact ⟨ret2 E.out.2.symm E.out.1.symm, HB2.out.trans (hb3.mono HB2.out.size)⟩
end Go.Proofs.Ytmebpglkeedaoaa
