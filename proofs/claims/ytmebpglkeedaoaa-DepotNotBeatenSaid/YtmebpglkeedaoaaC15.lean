/- The contracts of CheckLeast of depot, and of the reference. -/
import Derived.Test.YtmebpglkeedaoaaC14
namespace Go.Proofs.Ytmebpglkeedaoaa
open Go.RowKit Dp
set_option linter.unusedVariables false
namespace Dp
def clE (N : Net) (fl ps : List Int) : Int := if coE N fl = 0 then (if prE N ps = 0 then (if coV N fl = prV N ps then 0 else 19) else prE N ps) else coE N fl
theorem cl_co {N : Net} {fl ps : List Int} (h : coE N fl ≠ 0) : clE N fl ps = coE N fl := by simp [clE, h]
theorem cl_pr {N : Net} {fl ps : List Int} (h : coE N fl = 0) (h2 : prE N ps ≠ 0) : clE N fl ps = prE N ps := by simp [clE, h, h2]
theorem cl_ne {N : Net} {fl ps : List Int} (h : coE N fl = 0) (h2 : prE N ps = 0) (h3 : coV N fl ≠ prV N ps) : clE N fl ps = 19 := by simp [clE, h, h2, h3]
theorem cl_ok {N : Net} {fl ps : List Int} (h : coE N fl = 0) (h2 : prE N ps = 0) (h3 : coV N fl = prV N ps) : clE N fl ps = 0 := by simp [clE, h, h2, h3]
end Dp
set_option maxHeartbeats 2000000 in
set_option maxRecDepth 100000 in
theorem CheckLeast_c (A B C D : Option Addr) (N : Net) (fl ps : List Int) (n m p q cA cB cC cD : Nat) (w : World) (hn : n = N.sup.length) (hm : m = N.arcs.length) (hp : p = fl.length) (hq : q = ps.length) (hA : n ≤ cA ∧ cA ≤ 9223372036854775807) (hB : m ≤ cB ∧ cB ≤ 9223372036854775807) (hC : p ≤ cC ∧ cC ≤ 9223372036854775807) (hD : q ≤ cD ∧ cD ≤ 9223372036854775807) (hN : NetAt w A B N) (hF : IntsAt w C fl) (hP : IntsAt w D ps) :
    Calls Try.prog 22 #[.agg #[.slice A n cA, .slice B m cB], .slice C p cC, .slice D q cD] w fun e w' => e = .returned (.int .i64 (clE N fl ps)) ∧ Below w.heap.size w w' := by
  have HN := Lib.hid hn
  have HM := Lib.hid hm
  have HP := Lib.hid hp
  have HQ := Lib.hid hq
  have HNA := Lib.hid hN
  have HFA := Lib.hid hF
  have HPA := Lib.hid hP
  clear hn hm hp hq hN hF hP
  have B1 := Lib.hid (Blk.new' w #[.slice A n cA, .slice B m cB] 25)
  have HB1 := Lib.hid ((Below.refl w.heap.size w).alloc (Nat.le_refl _) (.cells #[.slice A n cA, .slice B m cB] 25))
  go_enter Try.func22, Try.ntmps22
  go_wp2_with fail
  generalize w.alloc (.cells #[.slice A n cA, .slice B m cB] 25) = w1 at B1 HB1 ⊢
  refine (Cost_c A B C N fl n m p cA cB cC w1 HN.out HM.out HP.out hA hB hC (HNA.out.below HB1.out (Nat.le_refl _)) (HFA.out.below HB1.out (Nat.le_refl _))).mono ?_
  rintro e w2 ⟨rfl, hb2⟩
  have B2 := Lib.hid (B1.out.below hb2 B1.out.lt)
  have HB2 := Lib.hid (HB1.out.trans (hb2.mono HB1.out.size))
  clear hb2 B1 HB1
  have cA0 := B2.out.cell 0 rfl
  have cB0 := B2.out.cell 1 rfl
  have E1 := Lib.hid (cl_co (N := N) (fl := fl) (ps := ps))
  have E2 := Lib.hid (cl_pr (N := N) (fl := fl) (ps := ps))
  have E3 := Lib.hid (cl_ne (N := N) (fl := fl) (ps := ps))
  have E4 := Lib.hid (cl_ok (N := N) (fl := fl) (ps := ps))
  have PC := Lib.hid (Proves_c A B D N ps n m q cA cB cD w2 HN.out HM.out HQ.out hA hB hD (HNA.out.below HB2.out (Nat.le_refl _)) (HPA.out.below HB2.out (Nat.le_refl _)))
  generalize coE N fl = x at *
  generalize prE N ps = y at *
  generalize coV N fl = u at *
  generalize prV N ps = v at *
  by_cases hx : x = 0
  · subst hx
    go_wp2_with fail
    refine PC.out.mono ?_
    rintro e w3 ⟨rfl, hb3⟩
    by_cases hy : y = 0
    · subst hy
      by_cases hu : u = v
      · have E := Lib.hid (E4.out (by trivial) (by trivial) hu)
        subst hu
        go_wp2
        go_ret
        exact ⟨ret_int E.out.symm, HB2.out.trans (hb3.mono HB2.out.size)⟩
      · have E := Lib.hid (E3.out (by trivial) (by trivial) hu)
        have hne : (u == v) = false := by simpa using hu
        go_wp2
        go_ret
        exact ⟨ret_int E.out.symm, HB2.out.trans (hb3.mono HB2.out.size)⟩
    · have E := Lib.hid (E2.out (by trivial) hy)
      have hne : (y == 0) = false := by simpa using hy
      go_wp2
      go_ret
      exact ⟨ret_int E.out.symm, HB2.out.trans (hb3.mono HB2.out.size)⟩
  · have E := Lib.hid (E1.out hx)
    have hne : (x == 0) = false := by simpa using hx
    go_wp2
    go_ret
    exact ⟨ret_int E.out.symm, HB2.out⟩
set_option maxHeartbeats 2000000 in
set_option maxRecDepth 100000 in
theorem CheckLeastR_c (A B C D : Option Addr) (N : Net) (fl ps : List Int) (n m p q cA cB cC cD : Nat) (w : World) (hn : n = N.sup.length) (hm : m = N.arcs.length) (hp : p = fl.length) (hq : q = ps.length) (hA : n ≤ cA ∧ cA ≤ 9223372036854775807) (hB : m ≤ cB ∧ cB ≤ 9223372036854775807) (hC : p ≤ cC ∧ cC ≤ 9223372036854775807) (hD : q ≤ cD ∧ cD ≤ 9223372036854775807) (hN : NetAt w A B N) (hF : IntsAt w C fl) (hP : IntsAt w D ps) :
    Calls Try.prog 23 #[.agg #[.slice A n cA, .slice B m cB], .slice C p cC, .slice D q cD] w fun e w' => e = .returned (.int .i64 (clE N fl ps)) ∧ Below w.heap.size w w' := by
  have HN := Lib.hid hn
  have HM := Lib.hid hm
  have HP := Lib.hid hp
  have HQ := Lib.hid hq
  have HNA := Lib.hid hN
  have HFA := Lib.hid hF
  have HPA := Lib.hid hP
  clear hn hm hp hq hN hF hP
  have B1 := Lib.hid (Blk.new' w #[.slice A n cA, .slice B m cB] 25)
  have HB1 := Lib.hid ((Below.refl w.heap.size w).alloc (Nat.le_refl _) (.cells #[.slice A n cA, .slice B m cB] 25))
  go_enter Try.func23, Try.ntmps23
  go_wp2_with fail
  generalize w.alloc (.cells #[.slice A n cA, .slice B m cB] 25) = w1 at B1 HB1 ⊢
  refine (CostR_c A B C N fl n m p cA cB cC w1 HN.out HM.out HP.out hA hB hC (HNA.out.below HB1.out (Nat.le_refl _)) (HFA.out.below HB1.out (Nat.le_refl _))).mono ?_
  rintro e w2 ⟨rfl, hb2⟩
  have B2 := Lib.hid (B1.out.below hb2 B1.out.lt)
  have HB2 := Lib.hid (HB1.out.trans (hb2.mono HB1.out.size))
  clear hb2 B1 HB1
  have cA0 := B2.out.cell 0 rfl
  have cB0 := B2.out.cell 1 rfl
  have E1 := Lib.hid (cl_co (N := N) (fl := fl) (ps := ps))
  have E2 := Lib.hid (cl_pr (N := N) (fl := fl) (ps := ps))
  have E3 := Lib.hid (cl_ne (N := N) (fl := fl) (ps := ps))
  have E4 := Lib.hid (cl_ok (N := N) (fl := fl) (ps := ps))
  have PC := Lib.hid (ProvesR_c A B D N ps n m q cA cB cD w2 HN.out HM.out HQ.out hA hB hD (HNA.out.below HB2.out (Nat.le_refl _)) (HPA.out.below HB2.out (Nat.le_refl _)))
  generalize coE N fl = x at *
  generalize prE N ps = y at *
  generalize coV N fl = u at *
  generalize prV N ps = v at *
  by_cases hx : x = 0
  · subst hx
    go_wp2_with fail
    refine PC.out.mono ?_
    rintro e w3 ⟨rfl, hb3⟩
    by_cases hy : y = 0
    · subst hy
      by_cases hu : u = v
      · have E := Lib.hid (E4.out (by trivial) (by trivial) hu)
        subst hu
        go_wp2
        go_ret
        exact ⟨ret_int E.out.symm, HB2.out.trans (hb3.mono HB2.out.size)⟩
      · have E := Lib.hid (E3.out (by trivial) (by trivial) hu)
        have hne : (u == v) = false := by simpa using hu
        go_wp2
        go_ret
        exact ⟨ret_int E.out.symm, HB2.out.trans (hb3.mono HB2.out.size)⟩
    · have E := Lib.hid (E2.out (by trivial) hy)
      have hne : (y == 0) = false := by simpa using hy
      go_wp2
      go_ret
      exact ⟨ret_int E.out.symm, HB2.out.trans (hb3.mono HB2.out.size)⟩
  · have E := Lib.hid (E1.out hx)
    have hne : (x == 0) = false := by simpa using hx
    go_wp2
    go_ret
    exact ⟨ret_int E.out.symm, HB2.out⟩
end Go.Proofs.Ytmebpglkeedaoaa
