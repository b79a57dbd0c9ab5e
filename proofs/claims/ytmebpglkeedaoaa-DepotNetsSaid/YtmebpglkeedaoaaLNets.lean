/- The walk of the law DepotNets. -/
import Derived.Test.YtmebpglkeedaoaaA5
import Derived.Test.YtmebpglkeedaoaaC3
import Derived.Test.YtmebpglkeedaoaaC9
import Derived.Test.YtmebpglkeedaoaaC11
import Derived.Test.YtmebpglkeedaoaaC14
namespace Go.Proofs.Ytmebpglkeedaoaa
open Go.RowKit Dp
set_option linter.unusedVariables false
set_option linter.unusedSimpArgs false

set_option maxHeartbeats 2000000 in
set_option maxRecDepth 100000 in
theorem wide_c (A B : Option Addr) (n m cA cB : Nat) (w : World) : Calls Try.prog 12 #[.agg #[.slice A n cA, .slice B m cB]] w fun e w' => e = .returned (.bool (decide (1100 < n) || decide (2100 < m))) ∧ Below w.heap.size w w' := by
  have B1 := Lib.hid (Blk.new' w #[.slice A n cA, .slice B m cB] 25)
  have HB1 := Lib.hid ((Below.refl w.heap.size w).alloc (Nat.le_refl _) (.cells #[.slice A n cA, .slice B m cB] 25))
  go_enter Try.func12, Try.ntmps12
  go_upto_region 1 with fail
  generalize w.alloc (.cells #[.slice A n cA, .slice B m cB] 25) = w1 at B1 HB1 ⊢
  have c0 := B1.out.cell 0 rfl
  have c1 := B1.out.cell 1 rfl
  by_cases h1 : 1100 < n
  · have h2 : (1100 : Int) < (n : Int) := by omega
    go_wp2_with fail
    exact bodyPost_ret (v := .bool true) (by simp [results, Try.results12, go_sem]) rfl ⟨by simp [h1], HB1.out⟩
  · have h2 : ¬ (1100 : Int) < (n : Int) := by omega
    by_cases h3 : 2100 < m
    · have h4 : (2100 : Int) < (m : Int) := by omega
      go_wp2_with fail
      exact bodyPost_ret (v := .bool true) (by simp [results, Try.results12, go_sem]) rfl ⟨by simp [h3], HB1.out⟩
    · have h4 : ¬ (2100 : Int) < (m : Int) := by omega
      go_wp2_with fail
      exact bodyPost_ret (v := .bool false) (by simp [results, Try.results12, go_sem]) rfl ⟨by simp [h1, h3], HB1.out⟩

set_option maxHeartbeats 4000000 in
set_option maxRecDepth 100000 in
theorem Nets_walk (A B C D E : Option Addr) (N : Net) (fl ps ct : List Int) (n m p q r cA cB cC cD cE : Nat) (w : World) (hn : n = N.sup.length) (hm : m = N.arcs.length) (hp : p = fl.length) (hq : q = ps.length) (hr : r = ct.length)
    (hA : n ≤ cA ∧ cA ≤ 9223372036854775807) (hB : m ≤ cB ∧ cB ≤ 9223372036854775807) (hC : p ≤ cC ∧ cC ≤ 9223372036854775807) (hD : q ≤ cD ∧ cD ≤ 9223372036854775807) (hE : r ≤ cE ∧ cE ≤ 9223372036854775807)
    (hN : NetAt w A B N) (hF : IntsAt w C fl) (hP : IntsAt w D ps) (hK : IntsAt w E ct) :
    Calls Try.prog 3 #[.agg #[.slice A n cA, .slice B m cB], .slice C p cC, .slice D q cD, .slice E r cE] w fun e w' => e = .returned (.bool true) ∧ Below w.heap.size w w' := by
  have HN := Lib.hid hn
  have HM := Lib.hid hm
  have HP := Lib.hid hp
  have HQ := Lib.hid hq
  have HR := Lib.hid hr
  have H0 := Lib.hid (show NetAt w A B N ∧ IntsAt w C fl ∧ IntsAt w D ps ∧ IntsAt w E ct from ⟨hN, hF, hP, hK⟩)
  clear hn hm hp hq hr hN hF hP hK
  have HW : Hid (∀ W, Below w.heap.size w W → NetAt W A B N ∧ IntsAt W C fl ∧ IntsAt W D ps ∧ IntsAt W E ct) := Lib.hid (fun W h => ⟨H0.out.1.below h (Nat.le_refl _), H0.out.2.1.below h (Nat.le_refl _), H0.out.2.2.1.below h (Nat.le_refl _), H0.out.2.2.2.below h (Nat.le_refl _)⟩)
  clear H0
  have X := Lib.hid (Blk.new' w #[.slice A n cA, .slice B m cB] 25)
  have HB := Lib.hid ((Below.refl w.heap.size w).alloc (Nat.le_refl _) (.cells #[.slice A n cA, .slice B m cB] 25))
  go_enter Try.func3, Try.ntmps3
  go_upto_region 1 with fail
  generalize w.alloc (.cells #[.slice A n cA, .slice B m cB] 25) = w1 at X HB ⊢
  have c0 := X.out.cell 0 rfl
  have c1 := X.out.cell 1 rfl
  go_wp2_with fail
  refine (wide_c A B n m cA cB w1).mono ?_
  rintro e w2 ⟨rfl, hb⟩
  have X2 := Lib.hid (X.out.below hb X.out.lt)
  have HB2 := Lib.hid (HB.out.trans (hb.mono HB.out.size))
  clear hb X HB c0 c1
  generalize (decide (1100 < n) || decide (2100 < m)) = b
  cases b
  case true =>
    go_wp2_with fail
    refine (known_c _).mono ?_
    rintro e w3 ⟨rfl, hb⟩
    have HB3 := Lib.hid (HB2.out.trans (hb.mono HB2.out.size))
    clear hb
    go_wp2_with fail
    exact bodyPost_ret (v := .bool true) (by simp [results, Try.results3, go_sem]) rfl ⟨rfl, HB3.out⟩
  case false =>
    by_cases h1 : 2100 < p
    · have h2 : (2100 : Int) < (p : Int) := by omega
      go_wp2_with fail
      refine (known_c _).mono ?_
      rintro e w3 ⟨rfl, hb⟩
      have HB3 := Lib.hid (HB2.out.trans (hb.mono HB2.out.size))
      clear hb
      go_wp2_with fail
      exact bodyPost_ret (v := .bool true) (by simp [results, Try.results3, go_sem]) rfl ⟨rfl, HB3.out⟩
    have h2 : ¬ (2100 : Int) < (p : Int) := by omega
    by_cases h3 : 1100 < q
    · have h4 : (1100 : Int) < (q : Int) := by omega
      go_wp2_with fail
      refine (known_c _).mono ?_
      rintro e w3 ⟨rfl, hb⟩
      have HB3 := Lib.hid (HB2.out.trans (hb.mono HB2.out.size))
      clear hb
      go_wp2_with fail
      exact bodyPost_ret (v := .bool true) (by simp [results, Try.results3, go_sem]) rfl ⟨rfl, HB3.out⟩
    have h4 : ¬ (1100 : Int) < (q : Int) := by omega
    by_cases h5 : 1100 < r
    · have h6 : (1100 : Int) < (r : Int) := by omega
      go_wp2_with fail
      refine (known_c _).mono ?_
      rintro e w3 ⟨rfl, hb⟩
      have HB3 := Lib.hid (HB2.out.trans (hb.mono HB2.out.size))
      clear hb
      go_wp2_with fail
      exact bodyPost_ret (v := .bool true) (by simp [results, Try.results3, go_sem]) rfl ⟨rfl, HB3.out⟩
    have h6 : ¬ (1100 : Int) < (r : Int) := by omega
    have HB := HB2
    have X := X2
    have c0 := X2.out.cell 0 rfl
    have c1 := X2.out.cell 1 rfl
    go_wp2_with fail
    refine (Cost_c A B C N fl n m p cA cB cC w2 HN.out HM.out HP.out hA hB hC (HW.out _ HB2.out).1 (HW.out _ HB2.out).2.1).mono ?_
    rintro e w3 ⟨rfl, hb⟩
    have X3 := Lib.hid (X2.out.below hb X2.out.lt)
    have HB3 := Lib.hid (HB2.out.trans (hb.mono HB2.out.size))
    clear hb c0 c1
    have c0 := X3.out.cell 0 rfl
    have c1 := X3.out.cell 1 rfl
    go_wp2_with fail
    refine (CostR_c A B C N fl n m p cA cB cC w3 HN.out HM.out HP.out hA hB hC (HW.out _ HB3.out).1 (HW.out _ HB3.out).2.1).mono ?_
    rintro e w4 ⟨rfl, hb⟩
    have X4 := Lib.hid (X3.out.below hb X3.out.lt)
    have HB4 := Lib.hid (HB3.out.trans (hb.mono HB3.out.size))
    clear hb c0 c1
    have c0 := X4.out.cell 0 rfl
    have c1 := X4.out.cell 1 rfl
    go_wp2_with fail
    refine (Proves_c A B D N ps n m q cA cB cD w4 HN.out HM.out HQ.out hA hB hD (HW.out _ HB4.out).1 (HW.out _ HB4.out).2.2.1).mono ?_
    rintro e w5 ⟨rfl, hb⟩
    have X5 := Lib.hid (X4.out.below hb X4.out.lt)
    have HB5 := Lib.hid (HB4.out.trans (hb.mono HB4.out.size))
    clear hb c0 c1
    have c0 := X5.out.cell 0 rfl
    have c1 := X5.out.cell 1 rfl
    go_wp2_with fail
    refine (ProvesR_c A B D N ps n m q cA cB cD w5 HN.out HM.out HQ.out hA hB hD (HW.out _ HB5.out).1 (HW.out _ HB5.out).2.2.1).mono ?_
    rintro e w6 ⟨rfl, hb⟩
    have X6 := Lib.hid (X5.out.below hb X5.out.lt)
    have HB6 := Lib.hid (HB5.out.trans (hb.mono HB5.out.size))
    clear hb c0 c1
    have c0 := X6.out.cell 0 rfl
    have c1 := X6.out.cell 1 rfl
    go_wp2_with fail
    refine (Lacks_c A B E N ct n m r cA cB cE w6 HN.out HM.out HR.out hA hB hE (HW.out _ HB6.out).1 (HW.out _ HB6.out).2.2.2).mono ?_
    rintro e w7 ⟨rfl, hb⟩
    have X7 := Lib.hid (X6.out.below hb X6.out.lt)
    have HB7 := Lib.hid (HB6.out.trans (hb.mono HB6.out.size))
    clear hb c0 c1
    have c0 := X7.out.cell 0 rfl
    have c1 := X7.out.cell 1 rfl
    go_wp2_with fail
    refine (LacksR_c A B E N ct n m r cA cB cE w7 HN.out HM.out HR.out hA hB hE (HW.out _ HB7.out).1 (HW.out _ HB7.out).2.2.2).mono ?_
    rintro e w8 ⟨rfl, hb⟩
    have X8 := Lib.hid (X7.out.below hb X7.out.lt)
    have HB8 := Lib.hid (HB7.out.trans (hb.mono HB7.out.size))
    clear hb c0 c1
    have c0 := X8.out.cell 0 rfl
    have c1 := X8.out.cell 1 rfl
    have K20 : Hid (∀ x : Past w8, Calls Try.prog 20 #[.agg #[.slice A n cA, .slice B m cB]] x.w fun e w' => e = .returned (.int .i64 (chE N)) ∧ Below x.w.heap.size x.w w') := Lib.hid (fun x => Check_c A B N n m cA cB x.w HN.out HM.out hA hB (HW.out _ (HB8.out.trans (x.far.mono HB8.out.size))).1)
    have K21 : Hid (∀ x : Past w8, Calls Try.prog 21 #[.agg #[.slice A n cA, .slice B m cB]] x.w fun e w' => e = .returned (.int .i64 (chE N)) ∧ Below x.w.heap.size x.w w') := Lib.hid (fun x => CheckR_c A B N n m cA cB x.w HN.out HM.out hA hB (HW.out _ (HB8.out.trans (x.far.mono HB8.out.size))).1)
    have K22 : Hid (∀ x : Past w8, Calls Try.prog 22 #[.agg #[.slice A n cA, .slice B m cB], .slice C p cC, .slice D q cD] x.w fun e w' => e = .returned (.int .i64 (clE N fl ps)) ∧ Below x.w.heap.size x.w w') := Lib.hid (fun x => CheckLeast_c A B C D N fl ps n m p q cA cB cC cD x.w HN.out HM.out HP.out HQ.out hA hB hC hD (HW.out _ (HB8.out.trans (x.far.mono HB8.out.size))).1 (HW.out _ (HB8.out.trans (x.far.mono HB8.out.size))).2.1 (HW.out _ (HB8.out.trans (x.far.mono HB8.out.size))).2.2.1)
    have K23 : Hid (∀ x : Past w8, Calls Try.prog 23 #[.agg #[.slice A n cA, .slice B m cB], .slice C p cC, .slice D q cD] x.w fun e w' => e = .returned (.int .i64 (clE N fl ps)) ∧ Below x.w.heap.size x.w w') := Lib.hid (fun x => CheckLeastR_c A B C D N fl ps n m p q cA cB cC cD x.w HN.out HM.out HP.out HQ.out hA hB hC hD (HW.out _ (HB8.out.trans (x.far.mono HB8.out.size))).1 (HW.out _ (HB8.out.trans (x.far.mono HB8.out.size))).2.1 (HW.out _ (HB8.out.trans (x.far.mono HB8.out.size))).2.2.1)
    have xl := X8.out.lt
    go_wp2_with fail
    generalize chE N = y0 at *
    generalize coV N fl = y1 at *
    generalize coE N fl = y2 at *
    generalize prV N ps = y3 at *
    generalize prE N ps = y4 at *
    generalize lkV N ct = y5 at *
    generalize lkE N ct = y6 at *
    generalize clE N fl ps = y7 at *
    refine wp_region_past (by kernel_rfl) (by kernel_rfl) ?_
    repeat (go_big_quiet_step (first | (go_at_call 20; exact past_below (K20.out _)) | (go_at_call 21; exact past_below (K21.out _)) | (go_at_call 22; exact past_below (K22.out _)) | (go_at_call 23; exact past_below (K23.out _)) | (go_at_call 13; exact past_below (known_c _))))
    refine wpQuiet_nil ?_
    intro xx
    have HF := Lib.hid (HB8.out.trans (xx.far.mono HB8.out.size))
    go_wp2_with fail
    exact bodyPost_ret (v := .bool true) (by simp [results, Try.results3, go_sem]) rfl ⟨rfl, HF.out⟩
end Go.Proofs.Ytmebpglkeedaoaa
