/- The contract of small of the depot laws. What Least says, for the law DepotNotBeaten; a slice of 16-bit numbers. The walk of the law DepotNotBeaten. -/
import Derived.Test.YtmebpglkeedaoaaY1
import Derived.Deep.Cut
import Derived.Test.YtmebpglkeedaoaaA5
import Derived.Test.YtmebpglkeedaoaaC9
namespace Go.Proofs.Ytmebpglkeedaoaa
open Go.RowKit Dp
set_option linter.unusedVariables false
set_option linter.unusedSimpArgs false

theorem tmod4 (x : Int) : -3 ≤ Int.tmod x 4 ∧ Int.tmod x 4 ≤ 3 := by
  rcases Int.le_total 0 x with h | h
  · rw [Int.tmod_eq_emod_of_nonneg h]; omega
  · obtain ⟨z, rfl⟩ : ∃ z, x = -z := ⟨-x, by omega⟩
    rw [Int.neg_tmod, Int.tmod_eq_emod_of_nonneg (by omega)]; omega
/-- what small answers -/
def SmallP (w : World) (e : Ending) (w' : World) : Prop :=
  ∃ gs A m cap N, e = .returned (.agg #[.slice (some ⟨gs, 0, none⟩) N.sup.length N.sup.length, .slice A m cap]) ∧ NetAt w' (some ⟨gs, 0, none⟩) A N ∧ m = N.arcs.length ∧ m ≤ cap ∧ cap ≤ 9223372036854775807 ∧ chE N = 0 ∧ (2 ≤ N.sup.length ∧ N.sup.length ≤ 4) ∧ ArP N.sup.length N.arcs ∧ Below w.heap.size w w'

set_option maxHeartbeats 4000000 in
set_option maxRecDepth 100000 in
theorem small_c (v : Int) (A B : Option Addr) (ls : List Lnk4) (ss : List Int) (p q cA cB : Nat) (w : World) (hv : 0 ≤ v ∧ v ≤ 255) (hp : p = ls.length) (hq : q = ss.length) (hA : p ≤ cA ∧ cA ≤ 9223372036854775807) (hB : q ≤ cB ∧ cB ≤ 9223372036854775807)
    (hL : LinksAt w A ls) (hS : I8At w B ss) :
    Calls Try.prog 24 #[.int .u8 v, .slice A p cA, .slice B q cB] w fun e w' => SmallP w e w' := by
  have HP := Lib.hid hp
  have HQ := Lib.hid hq
  have HLA := Lib.hid hL
  have HSA := Lib.hid hS
  clear hp hq hL hS
  obtain ⟨i4, h4i, h4z, h4s, h4b⟩ := info_parts info46
  obtain ⟨n, hn⟩ : ∃ n : Nat, (n : Int) = v % 3 + 2 := ⟨(v % 3 + 2).toNat, by omega⟩
  have n1 : 2 ≤ n ∧ n ≤ 4 := by omega
  have S0 := Lib.hid (SmW.start w n)
  have e0 : IntKind.i64.wrap v = v := IntWalk.i64_in _ (by omega)
  have hm1 := make_64 n (by omega)
  go_enter Try.func24, Try.ntmps24
  go_upto_region 2 with fail
  rw [← hn]
  clear hn
  go_upto_region 3 with fail
  generalize hW : ((w.alloc (.cells #[.slice none 0 0, .slice none 0 0] 25)).alloc (.cells (Array.replicate n (.int .i64 0)) 2)).alloc (.cells #[.slice (some ⟨w.heap.size + 1, 0, none⟩) n n, .slice none 0 0] 25) = w1 at S0 ⊢
  clear hW hm1
  obtain ⟨r6, hr6⟩ : ∃ g, g = w.heap.size := ⟨_, rfl⟩
  rw [← hr6] at S0 ⊢
  clear hr6
  obtain ⟨gs, hgs⟩ : ∃ g, g = r6 + 1 := ⟨_, rfl⟩
  rw [← hgs] at S0 ⊢
  clear hgs
  obtain ⟨r8, hr8⟩ : ∃ g, g = gs + 1 := ⟨_, rfl⟩
  rw [← hr8] at S0 ⊢
  clear hr8
  have I0 := Lib.hid (SmI.start n)
  have E1 : Hid (IntKind.i64.wrap ((n : Int) - 1) = (n : Int) - 1) := Lib.hid (IntWalk.i64_in _ (by omega))
  clear e0 hv
  go_upto_region 4 with fail
  go_loopw [9] (fun iv wr => ∃ (i : Nat) (s : List Int), iv = .int .i64 i ∧ i + 1 ≤ n ∧ Hid (SmI n i s) ∧ Hid (SmW w r6 gs r8 n none 0 0 s [] wr)) (fun iv _ => n - (intOf iv).toNat)
  case atStart => exact ⟨0, _, rfl, by omega, I0, S0⟩
  case round =>
    obtain ⟨i, s, rfl, hi, I1, S1⟩ := hrel
    have e1 := E1.out
    by_cases h1 : i + 1 < n ∧ i < q
    · have h2 : (i : Int) < (n : Int) - 1 := by omega
      have h3 : (i : Int) < (q : Int) := by omega
      have hql : i < ss.length := by rw [← HQ.out]; exact h1.2
      obtain ⟨ad, rfl, adb, hc, hb⟩ := HSA.out i hql
      have HI1 := Lib.hid h1
      generalize ss.getD i 0 = x at *
      go_upto_region 6 with fail
      obtain ⟨y, hy⟩ : ∃ y : Int, y = Int.tmod x 4 := ⟨_, rfl⟩
      have hyb := tmod4 x
      rw [← hy] at hyb
      have t1 := hy.symm
      have t2 : IntKind.i8.wrap y = y := IntWalk.i8_in _ (by omega)
      have t3 : IntKind.i64.wrap y = y := IntWalk.i64_in _ (by omega)
      have HX : Hid (∀ V, Below w.heap.size w V → V.cell? (ad.add i) = some (.int .i8 x)) := Lib.hid (fun V hV => (hV.cell (by rw [block_add]; exact adb)).trans hc)
      clear hc adb hy hb
      have HI := Lib.hid hyb
      refine wp_region_spine 10 [false] [] ?af6 (fun V => SmW w r6 gs r8 n none 0 0 s [] V) (by kernel_rfl) (by kernel_rfl) S1.out.drew ?walk6 ?_
      case walk6 =>
        intro V hV
        have c0 := hV.b8.cell 0 rfl
        have x0 := HX.out V hV.bel
        clear hV
        simp only [List.take_succ_cons, List.take_zero]
        repeat (go_big_quiet_step (fail))
        refine wpQuiet_nil ?_
        rfl
      intro V hV
      have PV := Lib.hid hV
      clear hV
      have SL := Lib.hid I1.out.len
      have g0 := PV.out.s.cell i (by rw [SL.out]; omega)
      have z0 := PV.out.s.free i
      have P2 := Lib.hid (PV.out.set i y)
      refine spineV_cons ?_
      unfold StepV
      go_simp
      generalize V.setCell ⟨gs, i, none⟩ (.int .i64 y) = V2 at P2 ⊢
      clear g0 z0 PV
      refine spineV_nil ?_
      go_wp2_with fail
      have LB := Lib.hid (I1.out.bd (n - 1) (by omega))
      have I2 := Lib.hid (I1.out.step h1.1 HI.out)
      have gl : Hid ((s.set i y).getD (n - 1) 0 = s.getD (n - 1) 0) := Lib.hid (by rw [getD_setI _ _ _ _ (by rw [SL.out]; omega), if_neg (by omega)])
      have gy : Hid ((s.set i y).getD i 0 = y) := Lib.hid (by rw [getD_setI _ _ _ _ (by rw [SL.out]; omega), if_pos rfl])
      have SL2 : Hid ((s.set i y).length = n) := Lib.hid (by rw [List.length_set]; exact SL.out)
      generalize s.getD (n - 1) 0 = l at *
      generalize s.set i y = s2 at *
      have hw : IntKind.i64.wrap (l - y) = l - y := IntWalk.i64_in _ (by have := LB.out; have := HI.out; omega)
      have k1 : ((n : Int) - 1).toNat = n - 1 := by omega
      have k2 : (1 : Int) ≤ (n : Int) := by omega
      have k3 : (n : Int) - 1 < (n : Int) := by omega
      have hin : (i : Int) < (n : Int) := by omega
      refine wp_region_spine 13 [false] [] ?af7 (fun V => SmW w r6 gs r8 n none 0 0 s2 [] V) (by kernel_rfl) (by kernel_rfl) P2.out.drew ?walk7 ?_
      case walk7 =>
        intro V hV
        have c0 := hV.b8.cell 0 rfl
        have x0 := hV.s.cell (n - 1) (by rw [SL2.out]; omega)
        have x1 := hV.s.cell i (by rw [SL2.out]; omega)
        rw [gl.out] at x0
        rw [gy.out] at x1
        clear hV
        simp only [List.take_succ_cons, List.take_zero]
        repeat (go_big_quiet_step (fail))
        refine wpQuiet_nil ?_
        rfl
      intro V hV
      have PV := Lib.hid hV
      clear hV
      have g0 := PV.out.s.cell (n - 1) (by rw [SL2.out]; omega)
      have z0 := PV.out.s.free (n - 1)
      have P3 := Lib.hid (PV.out.set (n - 1) (l - y))
      refine spineV_cons ?_
      unfold StepV
      go_simp
      generalize V.setCell ⟨gs, n - 1, none⟩ (.int .i64 (l - y)) = V3 at P3 ⊢
      clear g0 z0 PV hw k1 k2 k3
      refine spineV_nil ?_
      go_wp2_with fail
      exact ⟨⟨i + 1, _, rfl, h1.1, I2, P3⟩, by simp [intOf]; omega⟩
    · clear e1
      have e1 := E1.out
      by_cases h2 : i + 1 < n
      · have h3 : (i : Int) < (n : Int) - 1 := by omega
        have h4 : ¬ (i : Int) < (q : Int) := by omega
        go_upto_region 9 with fail
        go_loopw [10] (fun jv wr2 => ∃ (j : Nat) (A2 : Option Addr) (m cap : Nat) (arcs : List Arc), jv = .int .i64 j ∧ j ≤ p ∧ Hid (ArP n arcs) ∧ Hid (m = arcs.length) ∧ Hid (SmW w r6 gs r8 n A2 m cap s arcs wr2)) (fun jv _ => p - (intOf jv).toNat)
        case atStart => exact ⟨0, none, 0, 0, [], rfl, Nat.zero_le _, Lib.hid (ArP.nil n), Lib.hid rfl, S1⟩
        case round =>
          obtain ⟨j, A2, m, cap, arcs, rfl, hj, R2, M2, S2⟩ := hrel
          have c0 := S2.out.b8.cell 0 rfl
          have c1 := S2.out.b8.cell 1 rfl
          have hm6 : m ≤ 6 := by rw [M2.out]; exact R2.out.1
          by_cases hj1 : j < p
          · have hji : (j : Int) < (p : Int) := by omega
            by_cases hj2 : m < 6
            · have hji2 : (m : Int) < 6 := by omega
              go_upto_region 11 with fail
              have jl : j < ls.length := by rw [← HP.out]; exact hj1
              obtain ⟨al, rfl, alb, f0, t0, q0, k0, fb, tb, qb, kb⟩ := HLA.out j jl
              have HV : Hid (∀ V, Below w.heap.size w V → V.cell? (al.add (j * 4)) = some (.int .u8 (ls.getD j default).f) ∧ V.cell? ⟨(al.add (j * 4)).block, (al.add (j * 4)).off + 1, none⟩ = some (.int .u8 (ls.getD j default).t) ∧ V.cell? ⟨(al.add (j * 4)).block, (al.add (j * 4)).off + 2, none⟩ = some (.int .u8 (ls.getD j default).c) ∧ V.cell? ⟨(al.add (j * 4)).block, (al.add (j * 4)).off + 3, none⟩ = some (.int .i8 (ls.getD j default).k) ∧ (al.add (j * 4)).block < V.heap.size) := Lib.hid (fun V hV => by
                have hbl : (al.add (j * 4)).block < w.heap.size := by rw [block_add]; exact alb
                exact ⟨(hV.cell hbl).trans f0, (hV.cell (p := ⟨_, _, none⟩) hbl).trans t0, (hV.cell (p := ⟨_, _, none⟩) hbl).trans q0, (hV.cell (p := ⟨_, _, none⟩) hbl).trans k0, Nat.lt_of_lt_of_le hbl hV.size⟩)
              clear f0 t0 q0 k0
              generalize ls.getD j default = L at *
              obtain ⟨f, t, cc, kk⟩ := L
              simp only at HV fb tb qb kb
              obtain ⟨f0, t0, q0, k0, ab⟩ := HV.out _ S2.out.bel
              have wf : IntKind.i64.wrap f = f := IntWalk.i64_in _ (by omega)
              have wt : IntKind.i64.wrap t = t := IntWalk.i64_in _ (by omega)
              have f9 := fb.1
              have t9 := tb.1
              have n9 : (0 : Int) < (n : Int) := by omega
              refine wp_region_past (by kernel_rfl) (by kernel_rfl) ?_
              repeat (go_big_quiet_step (fail))
              refine wpQuiet_nil ?_
              intro xx
              go_upto_region 12 with fail
              have S3 := Lib.hid (S2.out.below xx.far)
              generalize xx.w = w4 at S3 ⊢
              clear f0 t0 q0 k0 ab wf wt f9 t9 c0 c1
              have aB : 0 ≤ f % (n : Int) ∧ f % (n : Int) < n := ⟨Int.emod_nonneg _ (by omega), Int.emod_lt_of_pos _ n9⟩
              have bB : 0 ≤ t % (n : Int) ∧ t % (n : Int) < n := ⟨Int.emod_nonneg _ (by omega), Int.emod_lt_of_pos _ n9⟩
              generalize f % (n : Int) = a at *
              generalize t % (n : Int) = b at *
              by_cases hab : a = b
              · subst hab
                go_wp2_with fail
                exact ⟨⟨j + 1, A2, m, cap, arcs, rfl, by omega, R2, M2, S3⟩, by simp [intOf]; omega⟩
              · have hne : (a == b) = false := by simpa using hab
                have HAB := Lib.hid (And.intro hab (And.intro aB bB))
                clear hab
                go_upto_region 13 with fail
                have d0 : IntKind.i64.wrap (cc % 3) = cc % 3 := IntWalk.i64_in _ (by omega)
                have d1 : IntKind.i64.wrap kk = kk := IntWalk.i64_in _ (by omega)
                have d2 := qb.1
                have DB : Hid (0 ≤ cc % 3 ∧ cc % 3 ≤ 2) := Lib.hid (by omega)
                have KB := Lib.hid kb
                refine wp_region_spine 18 [true, false] [] ?af13 (fun V => SmW w r6 gs r8 n A2 m cap s arcs V) (by kernel_rfl) (by kernel_rfl) S3.out.drew ?walk13 ?_
                case walk13 =>
                  intro V hV
                  have c1 := hV.b8.cell 1 rfl
                  obtain ⟨f0, t0, q0, k0, ab⟩ := HV.out _ hV.bel
                  clear hV
                  simp only [List.take_succ_cons, List.take_zero]
                  repeat (go_big_quiet_step (fail))
                  refine wpQuiet_nil ?_
                  rfl
                generalize cc % 3 = dd at *
                clear d0 d1 d2
                intro V hV
                have PV := Lib.hid hV
                clear hV
                refine spineV_cons ?_
                unfold StepV
                go_simp
                refine ⟨PV.out.alloc _, ?_⟩
                have PA := Lib.hid (PV.out.alloc (.cells #[.int .i64 a, .int .i64 b, .int .i64 dd, .int .i64 kk] 46))
                have X := Lib.hid (Blk.new' V #[.int .i64 a, .int .i64 b, .int .i64 dd, .int .i64 kk] 46)
                generalize V.alloc (.cells #[.int .i64 a, .int .i64 b, .int .i64 dd, .int .i64 kk] 46) = V2 at PA X ⊢
                generalize V.heap.size = gu at *
                refine spineV_cons ?_
                refine stepV_append (.tmp 87) (.tmp 104) 23 rfl (r8 + 1) 46 i4 (.agg #[.int .i64 0, .int .i64 0, .int .i64 0, .int .i64 0]) 4 32 Try.underlying23 h4i h4z h4s h4b rfl (by decide) A2 m cap (flat arcV arcs) (by rfl) PA.out.own (some ⟨gu, 0, none⟩) 1 1 (arcV ⟨a, b, dd, kk⟩) (by rfl) (by rfl) (.inr ⟨_, rfl, fun k u hk => by rw [show ((⟨gu, 0, none⟩ : Addr).add k) = ⟨gu, k, none⟩ from (by unfold Addr.add; split <;> simp_all)]; exact X.out.cell k hk⟩) (by simp [arcV, Value.oneCell']) (by unfold maxLen; omega) (by omega) (by have := PA.out.b8.lt; omega) ?_
                intro A3 cap3 V3 ho hg hk
                refine ⟨fun h => (by cases h), ?_⟩
                have MM := PA.out.mid hg
                have P3 := Lib.hid (show SmW w r6 gs r8 n A3 (m + 1) cap3 s (arcs ++ [⟨a, b, dd, kk⟩]) (V3.setCell ⟨r8, 1, none⟩ (.slice A3 (m + 1) cap3)) from PA.out.push hg (by rw [flat_append]; simpa [flat] using ho))
                have xx0 := MM.cell 1 rfl
                have xz0 := MM.free 1
                clear MM ho hg hk PA X PV
                refine spineV_nil ?_
                go_wp2_with fail
                have R3 := Lib.hid (R2.out.push (by rw [← M2.out]; exact hj2) (a := ⟨a, b, dd, kk⟩) ⟨HAB.out.2.1, HAB.out.2.2, HAB.out.1, DB.out, KB.out⟩)
                have M3 : Hid (m + 1 = (arcs ++ [(⟨a, b, dd, kk⟩ : Arc)]).length) := Lib.hid (by rw [List.length_append, ← M2.out]; rfl)
                exact ⟨⟨j + 1, A3, m + 1, cap3, _, rfl, by omega, R3, M3, P3⟩, by simp [intOf]; omega⟩
            · have hji2 : ¬ (m : Int) < 6 := by omega
              have xb0 := S2.out.b6.cell 0 rfl
              have xb1 := S2.out.b6.cell 1 rfl
              have xz0 := S2.out.b6.free 0
              have xz1 := S2.out.b6.free 1
              have F := Lib.hid (S2.out.fin M2.out _ rfl)
              go_wp2_with fail
              generalize (wr.setCell ⟨r6, 0, none⟩ (.slice (some ⟨gs, 0, none⟩) n n)).setCell ⟨r6, 1, none⟩ (.slice A2 m cap) = z at F ⊢
              clear xb0 xb1 xz0 xz1 c0 c1
              have xb0 := F.out.1.cell 0 rfl
              have xb1 := F.out.1.cell 1 rfl
              exact bodyPost_ret (v := .agg #[.slice (some ⟨gs, 0, none⟩) n n, .slice A2 m cap]) (by simp [results, Try.results24, go_sem, xb0, xb1]) rfl ⟨gs, A2, m, cap, ⟨s, arcs⟩, by rw [I1.out.len], F.out.2.1, M2.out, F.out.2.2.2.1, F.out.2.2.2.2, sm_ch n1 (by omega) I1.out R2.out, by rw [I1.out.len]; exact n1, by rw [I1.out.len]; exact R2.out, F.out.2.2.1⟩
          · have hji : ¬ (j : Int) < (p : Int) := by omega
            have xb0 := S2.out.b6.cell 0 rfl
            have xb1 := S2.out.b6.cell 1 rfl
            have xz0 := S2.out.b6.free 0
            have xz1 := S2.out.b6.free 1
            have F := Lib.hid (S2.out.fin M2.out _ rfl)
            go_wp2_with fail
            generalize (wr.setCell ⟨r6, 0, none⟩ (.slice (some ⟨gs, 0, none⟩) n n)).setCell ⟨r6, 1, none⟩ (.slice A2 m cap) = z at F ⊢
            clear xb0 xb1 xz0 xz1 c0 c1
            have xb0 := F.out.1.cell 0 rfl
            have xb1 := F.out.1.cell 1 rfl
            exact bodyPost_ret (v := .agg #[.slice (some ⟨gs, 0, none⟩) n n, .slice A2 m cap]) (by simp [results, Try.results24, go_sem, xb0, xb1]) rfl ⟨gs, A2, m, cap, ⟨s, arcs⟩, by rw [I1.out.len], F.out.2.1, M2.out, F.out.2.2.2.1, F.out.2.2.2.2, sm_ch n1 (by omega) I1.out R2.out, by rw [I1.out.len]; exact n1, by rw [I1.out.len]; exact R2.out, F.out.2.2.1⟩
      · have h3 : ¬ (i : Int) < (n : Int) - 1 := by omega
        go_upto_region 9 with fail
        go_loopw [10] (fun jv wr2 => ∃ (j : Nat) (A2 : Option Addr) (m cap : Nat) (arcs : List Arc), jv = .int .i64 j ∧ j ≤ p ∧ Hid (ArP n arcs) ∧ Hid (m = arcs.length) ∧ Hid (SmW w r6 gs r8 n A2 m cap s arcs wr2)) (fun jv _ => p - (intOf jv).toNat)
        case atStart => exact ⟨0, none, 0, 0, [], rfl, Nat.zero_le _, Lib.hid (ArP.nil n), Lib.hid rfl, S1⟩
        case round =>
          obtain ⟨j, A2, m, cap, arcs, rfl, hj, R2, M2, S2⟩ := hrel
          have c0 := S2.out.b8.cell 0 rfl
          have c1 := S2.out.b8.cell 1 rfl
          have hm6 : m ≤ 6 := by rw [M2.out]; exact R2.out.1
          by_cases hj1 : j < p
          · have hji : (j : Int) < (p : Int) := by omega
            by_cases hj2 : m < 6
            · have hji2 : (m : Int) < 6 := by omega
              go_upto_region 11 with fail
              have jl : j < ls.length := by rw [← HP.out]; exact hj1
              obtain ⟨al, rfl, alb, f0, t0, q0, k0, fb, tb, qb, kb⟩ := HLA.out j jl
              have HV : Hid (∀ V, Below w.heap.size w V → V.cell? (al.add (j * 4)) = some (.int .u8 (ls.getD j default).f) ∧ V.cell? ⟨(al.add (j * 4)).block, (al.add (j * 4)).off + 1, none⟩ = some (.int .u8 (ls.getD j default).t) ∧ V.cell? ⟨(al.add (j * 4)).block, (al.add (j * 4)).off + 2, none⟩ = some (.int .u8 (ls.getD j default).c) ∧ V.cell? ⟨(al.add (j * 4)).block, (al.add (j * 4)).off + 3, none⟩ = some (.int .i8 (ls.getD j default).k) ∧ (al.add (j * 4)).block < V.heap.size) := Lib.hid (fun V hV => by
                have hbl : (al.add (j * 4)).block < w.heap.size := by rw [block_add]; exact alb
                exact ⟨(hV.cell hbl).trans f0, (hV.cell (p := ⟨_, _, none⟩) hbl).trans t0, (hV.cell (p := ⟨_, _, none⟩) hbl).trans q0, (hV.cell (p := ⟨_, _, none⟩) hbl).trans k0, Nat.lt_of_lt_of_le hbl hV.size⟩)
              clear f0 t0 q0 k0
              generalize ls.getD j default = L at *
              obtain ⟨f, t, cc, kk⟩ := L
              simp only at HV fb tb qb kb
              obtain ⟨f0, t0, q0, k0, ab⟩ := HV.out _ S2.out.bel
              have wf : IntKind.i64.wrap f = f := IntWalk.i64_in _ (by omega)
              have wt : IntKind.i64.wrap t = t := IntWalk.i64_in _ (by omega)
              have f9 := fb.1
              have t9 := tb.1
              have n9 : (0 : Int) < (n : Int) := by omega
              refine wp_region_past (by kernel_rfl) (by kernel_rfl) ?_
              repeat (go_big_quiet_step (fail))
              refine wpQuiet_nil ?_
              intro xx
              go_upto_region 12 with fail
              have S3 := Lib.hid (S2.out.below xx.far)
              generalize xx.w = w4 at S3 ⊢
              clear f0 t0 q0 k0 ab wf wt f9 t9 c0 c1
              have aB : 0 ≤ f % (n : Int) ∧ f % (n : Int) < n := ⟨Int.emod_nonneg _ (by omega), Int.emod_lt_of_pos _ n9⟩
              have bB : 0 ≤ t % (n : Int) ∧ t % (n : Int) < n := ⟨Int.emod_nonneg _ (by omega), Int.emod_lt_of_pos _ n9⟩
              generalize f % (n : Int) = a at *
              generalize t % (n : Int) = b at *
              by_cases hab : a = b
              · subst hab
                go_wp2_with fail
                exact ⟨⟨j + 1, A2, m, cap, arcs, rfl, by omega, R2, M2, S3⟩, by simp [intOf]; omega⟩
              · have hne : (a == b) = false := by simpa using hab
                have HAB := Lib.hid (And.intro hab (And.intro aB bB))
                clear hab
                go_upto_region 13 with fail
                have d0 : IntKind.i64.wrap (cc % 3) = cc % 3 := IntWalk.i64_in _ (by omega)
                have d1 : IntKind.i64.wrap kk = kk := IntWalk.i64_in _ (by omega)
                have d2 := qb.1
                have DB : Hid (0 ≤ cc % 3 ∧ cc % 3 ≤ 2) := Lib.hid (by omega)
                have KB := Lib.hid kb
                refine wp_region_spine 18 [true, false] [] ?af13b (fun V => SmW w r6 gs r8 n A2 m cap s arcs V) (by kernel_rfl) (by kernel_rfl) S3.out.drew ?walk13b ?_
                case walk13b =>
                  intro V hV
                  have c1 := hV.b8.cell 1 rfl
                  obtain ⟨f0, t0, q0, k0, ab⟩ := HV.out _ hV.bel
                  clear hV
                  simp only [List.take_succ_cons, List.take_zero]
                  repeat (go_big_quiet_step (fail))
                  refine wpQuiet_nil ?_
                  rfl
                generalize cc % 3 = dd at *
                clear d0 d1 d2
                intro V hV
                have PV := Lib.hid hV
                clear hV
                refine spineV_cons ?_
                unfold StepV
                go_simp
                refine ⟨PV.out.alloc _, ?_⟩
                have PA := Lib.hid (PV.out.alloc (.cells #[.int .i64 a, .int .i64 b, .int .i64 dd, .int .i64 kk] 46))
                have X := Lib.hid (Blk.new' V #[.int .i64 a, .int .i64 b, .int .i64 dd, .int .i64 kk] 46)
                generalize V.alloc (.cells #[.int .i64 a, .int .i64 b, .int .i64 dd, .int .i64 kk] 46) = V2 at PA X ⊢
                generalize V.heap.size = gu at *
                refine spineV_cons ?_
                refine stepV_append (.tmp 87) (.tmp 104) 23 rfl (r8 + 1) 46 i4 (.agg #[.int .i64 0, .int .i64 0, .int .i64 0, .int .i64 0]) 4 32 Try.underlying23 h4i h4z h4s h4b rfl (by decide) A2 m cap (flat arcV arcs) (by rfl) PA.out.own (some ⟨gu, 0, none⟩) 1 1 (arcV ⟨a, b, dd, kk⟩) (by rfl) (by rfl) (.inr ⟨_, rfl, fun k u hk => by rw [show ((⟨gu, 0, none⟩ : Addr).add k) = ⟨gu, k, none⟩ from (by unfold Addr.add; split <;> simp_all)]; exact X.out.cell k hk⟩) (by simp [arcV, Value.oneCell']) (by unfold maxLen; omega) (by omega) (by have := PA.out.b8.lt; omega) ?_
                intro A3 cap3 V3 ho hg hk
                refine ⟨fun h => (by cases h), ?_⟩
                have MM := PA.out.mid hg
                have P3 := Lib.hid (show SmW w r6 gs r8 n A3 (m + 1) cap3 s (arcs ++ [⟨a, b, dd, kk⟩]) (V3.setCell ⟨r8, 1, none⟩ (.slice A3 (m + 1) cap3)) from PA.out.push hg (by rw [flat_append]; simpa [flat] using ho))
                have xx0 := MM.cell 1 rfl
                have xz0 := MM.free 1
                clear MM ho hg hk PA X PV
                refine spineV_nil ?_
                go_wp2_with fail
                have R3 := Lib.hid (R2.out.push (by rw [← M2.out]; exact hj2) (a := ⟨a, b, dd, kk⟩) ⟨HAB.out.2.1, HAB.out.2.2, HAB.out.1, DB.out, KB.out⟩)
                have M3 : Hid (m + 1 = (arcs ++ [(⟨a, b, dd, kk⟩ : Arc)]).length) := Lib.hid (by rw [List.length_append, ← M2.out]; rfl)
                exact ⟨⟨j + 1, A3, m + 1, cap3, _, rfl, by omega, R3, M3, P3⟩, by simp [intOf]; omega⟩
            · have hji2 : ¬ (m : Int) < 6 := by omega
              have xb0 := S2.out.b6.cell 0 rfl
              have xb1 := S2.out.b6.cell 1 rfl
              have xz0 := S2.out.b6.free 0
              have xz1 := S2.out.b6.free 1
              have F := Lib.hid (S2.out.fin M2.out _ rfl)
              go_wp2_with fail
              generalize (wr.setCell ⟨r6, 0, none⟩ (.slice (some ⟨gs, 0, none⟩) n n)).setCell ⟨r6, 1, none⟩ (.slice A2 m cap) = z at F ⊢
              clear xb0 xb1 xz0 xz1 c0 c1
              have xb0 := F.out.1.cell 0 rfl
              have xb1 := F.out.1.cell 1 rfl
              exact bodyPost_ret (v := .agg #[.slice (some ⟨gs, 0, none⟩) n n, .slice A2 m cap]) (by simp [results, Try.results24, go_sem, xb0, xb1]) rfl ⟨gs, A2, m, cap, ⟨s, arcs⟩, by rw [I1.out.len], F.out.2.1, M2.out, F.out.2.2.2.1, F.out.2.2.2.2, sm_ch n1 (by omega) I1.out R2.out, by rw [I1.out.len]; exact n1, by rw [I1.out.len]; exact R2.out, F.out.2.2.1⟩
          · have hji : ¬ (j : Int) < (p : Int) := by omega
            have xb0 := S2.out.b6.cell 0 rfl
            have xb1 := S2.out.b6.cell 1 rfl
            have xz0 := S2.out.b6.free 0
            have xz1 := S2.out.b6.free 1
            have F := Lib.hid (S2.out.fin M2.out _ rfl)
            go_wp2_with fail
            generalize (wr.setCell ⟨r6, 0, none⟩ (.slice (some ⟨gs, 0, none⟩) n n)).setCell ⟨r6, 1, none⟩ (.slice A2 m cap) = z at F ⊢
            clear xb0 xb1 xz0 xz1 c0 c1
            have xb0 := F.out.1.cell 0 rfl
            have xb1 := F.out.1.cell 1 rfl
            exact bodyPost_ret (v := .agg #[.slice (some ⟨gs, 0, none⟩) n n, .slice A2 m cap]) (by simp [results, Try.results24, go_sem, xb0, xb1]) rfl ⟨gs, A2, m, cap, ⟨s, arcs⟩, by rw [I1.out.len], F.out.2.1, M2.out, F.out.2.2.2.1, F.out.2.2.2.2, sm_ch n1 (by omega) I1.out R2.out, by rw [I1.out.len]; exact n1, by rw [I1.out.len]; exact R2.out, F.out.2.2.1⟩
end Go.Proofs.Ytmebpglkeedaoaa
namespace Go.Proofs.Ytmebpglkeedaoaa
open Go.RowKit Dp
set_option linter.unusedVariables false
theorem ls_of {N : Net} {w w' : World} {e : Ending} (h : LeastP N w e w') (hch : chE N = 0) (hm : N.arcs.length ≤ 6) (hn : N.sup.length ≤ 4) : ∃ C fl pf D p pp ee, e = .returned (.tuple #[.slice C pf pf, .slice D pp pp, .int .i64 ee]) ∧ pf = fl.length ∧ pp = p.length ∧ (pf ≤ 6 ∧ pp ≤ 6) ∧ IntsAt w' C fl ∧ IntsAt w' D p ∧ LS N fl p ee := by
  rcases h with ⟨h, _⟩ | ⟨_, gf, gp, fl, p, rfl, hf, hp, _, hg, hlf, hfl, hl, hb, he⟩ | ⟨_, rfl, c, hc, hl, hno⟩
  · exact absurd hch h
  · have c1 := co_yes hch hlf hfl
    have c3 := pr_yes hch hl hb
    refine ⟨_, fl, N.arcs.length, _, p, N.sup.length, 0, rfl, hlf.symm, hl.symm, ⟨hm, by omega⟩, hf.ints, hp.ints, .inl ⟨rfl, hfl, cl_ok c1.1 c3.1 (by rw [c1.2, c3.2, he]), fun g hg => ?_⟩⟩
    have hlg : g.length = N.arcs.length := by
      by_cases e : g.length = N.arcs.length
      · exact e
      · rw [isFlow_len e] at hg; cases hg
    rw [c1.2, (co_yes hch hlg hg).2, he]
    exact weak hch hg
  · exact ⟨none, [], 0, none, [], 0, 18, rfl, rfl, rfl, ⟨by omega, by omega⟩, fun i hi => by simp at hi, fun i hi => by simp at hi, .inr ⟨rfl, ⟨c, hc, hl⟩, hno⟩⟩
/-- a slice of 16-bit numbers -/
def I16At (w : World) (A : Option Addr) (l : List Int) : Prop :=
  ∀ i, i < l.length → ∃ ad, A = some ad ∧ ad.block < w.heap.size ∧ w.cell? (ad.add i) = some (.int .i16 (l.getD i 0)) ∧ -32768 ≤ l.getD i 0 ∧ l.getD i 0 ≤ 32767
theorem any_step {l : List Int} {n i : Nat} {x : Int} (hl : l.length = n) (hi : i < n) (h : ∀ k, k < n → -32768 ≤ l.getD k 0 ∧ l.getD k 0 ≤ 32767) (hx : -32768 ≤ x ∧ x ≤ 32767) : ∀ k, k < n → -32768 ≤ (l.set i x).getD k 0 ∧ (l.set i x).getD k 0 ≤ 32767 := fun k hk => by
  rw [getD_setI _ _ _ _ (by omega)]
  split
  · exact hx
  · exact h k hk
end Go.Proofs.Ytmebpglkeedaoaa
namespace Go.Proofs.Ytmebpglkeedaoaa
open Go.RowKit Dp
set_option linter.unusedVariables false
set_option linter.unusedSimpArgs false

theorem own_ints {W : World} {b c cp : Nat} {A : Option Addr} {l : List Int} (h : W.ownsRow b 3 1 (.slice A c cp) c (l.map (Value.int .i64))) (hc : c = l.length) : IntsAt W A l := fun i hi => by
  obtain ⟨g, cap, hv, hb, hlt⟩ := h.form (by omega)
  cases hv
  refine ⟨⟨g, 0, none⟩, rfl, hlt, ?_⟩
  rw [show (⟨g, 0, none⟩ : Addr).add i = ⟨g, i, none⟩ from (by unfold Addr.add; split <;> simp_all), World.ownsRow.cellAt h i (by omega), List.getElem?_map, List.getElem?_eq_getElem hi, List.getD_eq_getElem?_getD, List.getElem?_eq_getElem hi]
  rfl
theorem own_cap {W : World} {b c cp : Nat} {A : Option Addr} {l : List Value} (h : W.ownsRow b 3 1 (.slice A c cp) c l) : c ≤ cp ∧ cp ≤ 9223372036854775807 := by
  rcases h.2 with ⟨h0, h1⟩ | ⟨g', c', cur, hv, _, _, hc1, hc2, _⟩
  · cases h0
    omega
  · cases hv
    unfold maxLen at hc2
    omega
theorem bit_all : ∀ s : Fin 16, ∀ i : Fin 4, (bits BinOp.and IntKind.i64 ((s.val : Int) / 2 ^ min i.val 64) 1 == 1) = s.val.testBit i.val := by decide +kernel
theorem bit_eq {s i : Nat} (hs : s < 16) (hi : i < 4) : (bits BinOp.and IntKind.i64 ((s : Int) / 2 ^ min i 64) 1 == 1) = s.testBit i := bit_all ⟨s, hs⟩ ⟨i, hi⟩
theorem pow4 {n : Nat} (h : 2 ≤ n ∧ n ≤ 4) : ∃ T : Nat, Hid (T = 2 ^ n ∧ T ≤ 16) ∧ Hid (wrap64 ((2 : Int) ^ min n 64) = (T : Int)) := by
  have : n = 2 ∨ n = 3 ∨ n = 4 := by omega
  rcases this with rfl | rfl | rfl
  · exact ⟨4, Lib.hid ⟨rfl, by omega⟩, Lib.hid (by kernel_rfl)⟩
  · exact ⟨8, Lib.hid ⟨rfl, by omega⟩, Lib.hid (by kernel_rfl)⟩
  · exact ⟨16, Lib.hid ⟨rfl, by omega⟩, Lib.hid (by kernel_rfl)⟩

set_option maxHeartbeats 8000000 in
set_option maxRecDepth 100000 in
theorem Beat_walk (v : Int) (A B C0 : Option Addr) (ls : List Lnk4) (ss ps : List Int) (p q r cA cB cC : Nat) (w : World) (hv : 0 ≤ v ∧ v ≤ 255) (hp : p = ls.length) (hq : q = ss.length) (hr : r = ps.length) (hA : p ≤ cA ∧ cA ≤ 9223372036854775807) (hB : q ≤ cB ∧ cB ≤ 9223372036854775807) (hC : r ≤ cC ∧ cC ≤ 9223372036854775807)
    (hL : LinksAt w A ls) (hS : I8At w B ss) (hP : I16At w C0 ps) :
    Calls Try.prog 4 #[.int .u8 v, .slice A p cA, .slice B q cB, .slice C0 r cC] w fun e w' => e = .returned (.bool true) ∧ Below w.heap.size w w' := by
  have HR := Lib.hid hr
  have HP0 := Lib.hid hP
  have HC := Lib.hid hC
  have HSM := Lib.hid (fun W (h1 : LinksAt W A ls) (h2 : I8At W B ss) => small_c v A B ls ss p q cA cB W hv hp hq hA hB h1 h2)
  have HLS := Lib.hid (And.intro hL hS)
  obtain ⟨i3, h3i, h3z, h3s, h3b⟩ := info_parts info3
  clear hp hq hr hA hB hC hL hS hP hv
  go_enter Try.func4, Try.ntmps4
  go_wp2_with fail
  refine (HSM.out w HLS.out.1 HLS.out.2).mono ?_
  rintro e w1 ⟨gs, Ar, m, cap, N, rfl, hN, hm, hcap, hcap2, hch, hn4, hap, hb⟩
  clear HSM HLS
  have HM := Lib.hid hm
  have CAP := Lib.hid (And.intro hcap hcap2)
  have CH := Lib.hid hch
  have AP := Lib.hid hap
  have N4 := Lib.hid hn4
  generalize hnn : N.sup.length = n at *
  have HN := Lib.hid hnn
  have M6 : Hid (N.arcs.length ≤ 6) := Lib.hid hap.1
  have T : Hid (∀ V, Below w1.heap.size w1 V → NetAt V (some ⟨gs, 0, none⟩) Ar N ∧ Below w.heap.size w V) := Lib.hid (fun V h => ⟨hN.below h (Nat.le_refl _), hb.trans (h.mono hb.size)⟩)
  clear hm hcap hcap2 hch hap hn4 hnn hN hb
  have X1 := Lib.hid (Blk.new' w1 #[.slice (some ⟨gs, 0, none⟩) n n, .slice Ar m cap] 25)
  have K1 := Lib.hid ((Below.refl w1.heap.size w1).alloc (Nat.le_refl _) (.cells #[.slice (some ⟨gs, 0, none⟩) n n, .slice Ar m cap] 25))
  go_upto_region 2 with fail
  generalize w1.alloc (.cells #[.slice (some ⟨gs, 0, none⟩) n n, .slice Ar m cap] 25) = w2 at X1 K1 ⊢
  obtain ⟨g9, hg9⟩ : ∃ g, g = w1.heap.size := ⟨_, rfl⟩
  rw [← hg9] at X1 ⊢
  clear hg9
  have c0 := X1.out.cell 0 rfl
  have c1 := X1.out.cell 1 rfl
  go_wp2_with fail
  refine (Least_c _ _ N n m n cap w2 HN.out.symm HM.out (by have := N4.out; omega) CAP.out (T.out _ K1.out).1).mono ?_
  rintro e w3 ⟨hL, hb⟩
  obtain ⟨C, fl, pf, D, pt, pp, ee, rfl, e1, e2, e3, hf, hpt, hls⟩ := ls_of hL CH.out M6.out (by rw [HN.out]; exact N4.out.2)
  have X3 := Lib.hid (X1.out.below hb X1.out.lt)
  have K3 := Lib.hid (K1.out.trans (hb.mono K1.out.size))
  have F3 := Lib.hid (And.intro hf hpt)
  have PL := Lib.hid (And.intro e1 (And.intro e2 e3))
  have LSS := Lib.hid hls
  clear hL hb e1 e2 e3 hf hpt hls c0 c1 X1 K1
  have c0 := X3.out.cell 0 rfl
  have c1 := X3.out.cell 1 rfl
  go_wp2_with fail
  refine (CostR_c _ _ _ N fl n m pf n cap pf w3 HN.out.symm HM.out PL.out.1 (by have := N4.out; omega) CAP.out (by have := PL.out.2.2; omega) (T.out _ K3.out).1 F3.out.1).mono ?_
  rintro e w4 ⟨rfl, hb⟩
  have HW : Hid (∀ V, Below w4.heap.size w4 V → Blk V g9 25 [.slice (some ⟨gs, 0, none⟩) n n, .slice Ar m cap] ∧ NetAt V (some ⟨gs, 0, none⟩) Ar N ∧ (IntsAt V C fl ∧ IntsAt V D pt) ∧ Below w.heap.size w V) := Lib.hid (fun V h => by
    have h0 := hb.trans (h.mono hb.size)
    have h1 := K3.out.trans (h0.mono K3.out.size)
    exact ⟨X3.out.below h0 X3.out.lt, (T.out V h1).1, ⟨F3.out.1.below h0 (Nat.le_refl _), F3.out.2.below h0 (Nat.le_refl _)⟩, (T.out V h1).2⟩)
  clear hb c0 c1 X3 K3 F3 T
  have c0 := (HW.out w4 (Below.refl _ _)).1.cell 0 rfl
  have hm1 := make_64 n (by have := N4.out; omega)
  have Z0 := Lib.hid (fl_new 2 n w4)
  have Q0 := Lib.hid ((Below.refl w4.heap.size w4).alloc (Nat.le_refl _) (.cells (Array.replicate n (.int .i64 0)) 2))
  go_upto_region 6 with fail
  clear hm1 c0
  generalize w4.alloc (.cells (Array.replicate n (.int .i64 0)) 2) = w5 at Z0 Q0 ⊢
  obtain ⟨ga, hga⟩ : ∃ g, g = w4.heap.size := ⟨_, rfl⟩
  have GA := Lib.hid (Nat.le_of_eq hga.symm)
  rw [← hga] at Z0 ⊢
  clear hga
  generalize hlst : coV N fl = least at *
  have LEQ := Lib.hid hlst
  clear hlst
  go_loopw [16] (fun iv wr => ∃ (i : Nat) (l : List Int), iv = .int .i64 i ∧ i ≤ n ∧ Hid (l.length = n) ∧ Hid (∀ k, k < n → -32768 ≤ l.getD k 0 ∧ l.getD k 0 ≤ 32767) ∧ Hid (Fl 2 wr ga l) ∧ Hid (Below w4.heap.size w4 wr)) (fun iv _ => n - (intOf iv).toNat)
  case atStart => exact ⟨0, _, rfl, Nat.zero_le _, Lib.hid (by simp), Lib.hid (fun k _ => by rw [List.getD_eq_getElem?_getD, List.getElem?_replicate]; split <;> simp), Z0, Q0⟩
  case round =>
    obtain ⟨i, l, rfl, hi, L1, L2, Z1, Q1⟩ := hrel
    go_upto_region 6 with fail
    go_cut [58] from 49 to 68 (fun s58 wc => s58 = .bool (decide (i < n ∧ i < r)) ∧ Hid (Fl 2 wc ga l) ∧ Hid (Below w4.heap.size w4 wc))
    case first =>
      by_cases h1 : i < n
      · have h2 : (i : Int) < (n : Int) := by omega
        by_cases h3 : i < r
        · have h4 : (i : Int) < (r : Int) := by omega
          go_wp2_with fail
          go_meet
          case rel => exact ⟨by rw [decide_eq_true (show i < n ∧ i < r from ⟨h1, h3⟩)], Z1, Q1⟩
        · have h4 : ¬ (i : Int) < (r : Int) := by omega
          go_wp2_with fail
          go_meet
          case rel => exact ⟨by rw [decide_eq_false (show ¬ (i < n ∧ i < r) from fun h => h3 h.2)], Z1, Q1⟩
      · have h2 : ¬ (i : Int) < (n : Int) := by omega
        go_wp2_with fail
        go_meet
        case rel => exact ⟨by rw [decide_eq_false (show ¬ (i < n ∧ i < r) from fun h => h1 h.1)], Z1, Q1⟩
    case rest =>
      clear Z1 Q1
      obtain ⟨rfl, Z2, Q2⟩ := hcut
      by_cases h1 : i < n ∧ i < r
      · have d1 : decide (i < n ∧ i < r) = true := decide_eq_true h1
        simp only [d1]
        have h2 : (i : Int) < (n : Int) := by omega
        have h3 : (i : Int) < (r : Int) := by omega
        obtain ⟨ad, rfl, adb, hc, hx⟩ := HP0.out i (by rw [← HR.out]; exact h1.2)
        have x0 := ((HW.out _ Q2.out).2.2.2.cell (p := ad.add i) (by rw [block_add]; exact adb)).trans hc
        generalize ps.getD i 0 = x at *
        have wx : IntKind.i64.wrap x = x := IntWalk.i64_in _ (by omega)
        have z0 := Z2.out.free i
        have g0 := Z2.out.cell i (by rw [L1.out]; exact h1.1)
        have Z3 := Lib.hid (Z2.out.put i x)
        have Q3 := Lib.hid (Q2.out.setCell (p := ⟨ga, i, none⟩) GA.out (.int .i64 x))
        have L4 := Lib.hid (any_step L1.out h1.1 L2.out hx)
        have ei : IntKind.i64.wrap ((i : Int) + 1) = (i : Int) + 1 := IntWalk.i64_in _ (by have := N4.out; omega)
        clear hc hx adb
        go_wp2_with fail
        go_roundw
        case measure => simp [intOf]; omega
        case rel => exact ⟨i + 1, _, by go_num, h1.1, Lib.hid (by rw [List.length_set]; exact L1.out), L4, Z3, Q3⟩
      · have d1 : decide (i < n ∧ i < r) = false := decide_eq_false h1
        simp only [d1]
        have c0 := (HW.out _ Q2.out).1.cell 0 rfl
        have c1 := (HW.out _ Q2.out).1.cell 1 rfl
        have PY := Lib.hid (pr_yes (N := N) (ps := l) CH.out (by rw [L1.out, HN.out]) (fun k hk => by
          have := L2.out k (by rw [← L1.out]; exact hk)
          rw [potOk_iff]
          omega))
        clear d1 h1
        go_wp2_with fail
        refine (Proves_c _ _ _ N l n m n n cap n wc HN.out.symm HM.out L1.out.symm (by have := N4.out; omega) CAP.out (by have := N4.out; omega) (HW.out _ Q2.out).2.1 Z2.out.ints).mono ?_
        rintro e w6 ⟨rfl, hb⟩
        rw [PY.out.1, PY.out.2]
        have HV : Hid (∀ V, Below w6.heap.size w6 V → Blk V g9 25 [.slice (some ⟨gs, 0, none⟩) n n, .slice Ar m cap] ∧ NetAt V (some ⟨gs, 0, none⟩) Ar N ∧ (IntsAt V C fl ∧ IntsAt V D pt) ∧ Below w.heap.size w V) := Lib.hid (fun V h => HW.out V (Q2.out.trans ((hb.trans (h.mono hb.size)).mono Q2.out.size)))
        clear hb HW Z2 Q2 L1 L2 PY GA Z0 Q0 c0 c1
        have PW : Hid (∀ g, isFlow N g = true → prA N l N.arcs.length ≤ coV N g) := Lib.hid (fun g hg => by
          have hlg : g.length = N.arcs.length := by
            by_cases e : g.length = N.arcs.length
            · exact e
            · rw [isFlow_len e] at hg; cases hg
          rw [(co_yes CH.out hlg hg).2]
          exact weak CH.out hg)
        generalize prA N l N.arcs.length = proved at *
        have c0 := (HV.out w6 (Below.refl _ _)).1.cell 0 rfl
        have c1 := (HV.out w6 (Below.refl _ _)).1.cell 1 rfl
        have m6 : m ≤ 6 := by rw [HM.out]; exact M6.out
        have hm2 := make_64 m (by omega)
        have Z0 := Lib.hid (fl_new 2 m w6)
        have Q0 := Lib.hid ((Below.refl w6.heap.size w6).alloc (Nat.le_refl _) (.cells (Array.replicate m (.int .i64 0)) 2))
        go_upto_region 14 with fail
        clear hm2 c0 c1
        generalize w6.alloc (.cells (Array.replicate m (.int .i64 0)) 2) = w7 at Z0 Q0 ⊢
        obtain ⟨gf, hgf⟩ : ∃ g, g = w6.heap.size := ⟨_, rfl⟩
        have GF := Lib.hid (Nat.le_of_eq hgf.symm)
        rw [← hgf] at Z0 ⊢
        clear hgf
        have LK0 := Lib.hid (LK.start CH.out)
        rw [← HM.out] at LK0
        go_loopg [20] (tot (capsN N)).toNat (fun k bv wr => ∃ (f : List Int) (fd : Bool), bv = .bool fd ∧ Hid ((k : Int) + ix (capsN N) f ≤ tot (capsN N) ∧ tot (capsN N) ≤ (k : Int) + ix (capsN N) f) ∧ Hid (LK N f fd) ∧ Hid (f.length = m) ∧ Hid (Fl 2 wr gf f) ∧ Hid (Below w6.heap.size w6 wr))
        case atStart =>
          refine ⟨_, false, rfl, Lib.hid ?_, LK0, Lib.hid (by simp), Z0, Q0⟩
          have h1 := (inC_zero (capsN N) (fun c hc => by
            obtain ⟨a, ha, rfl⟩ := List.mem_map.1 hc
            obtain ⟨i, hi, rfl⟩ := List.getElem_of_mem ha
            have := (net_arc CH.out i hi).2.2.2.1.1
            rwa [List.getD_eq_getElem?_getD, List.getElem?_eq_getElem hi] at this))
          rw [show (capsN N).length = m by rw [HM.out]; simp [capsN]] at h1
          have h2 := ix_lt _ _ h1.1
          rw [h1.2] at h2 ⊢
          omega
        case round =>
          obtain ⟨f, fd, rfl, MS, LK1, FL1, Z1, Q1⟩ := hrel
          have c0 := (HV.out _ Q1.out).1.cell 0 rfl
          have c1 := (HV.out _ Q1.out).1.cell 1 rfl
          go_wp2_with fail
          refine (CostR_c _ _ _ N f n m m n cap m wr HN.out.symm HM.out FL1.out.symm (by have := N4.out; omega) CAP.out (by omega) (HV.out _ Q1.out).2.1 Z1.out.ints).mono ?_
          rintro e w8 ⟨rfl, hb⟩
          have Q2 := Lib.hid (Q1.out.trans (hb.mono Q1.out.size))
          have Z2 := Lib.hid (Z1.out.below hb)
          clear hb Q1 Z1 c0 c1
          go_upto_if 88 with fail
          go_cut [20] from 87 to 100 (fun s20 wc => s20 = .bool (fd || isFlow N f) ∧ Hid (Fl 2 wc gf f) ∧ Hid (Below w6.heap.size w6 wc))
          case first =>
            by_cases hfl : isFlow N f = true
            · have E1 := co_yes CH.out (by rw [FL1.out, HM.out]) hfl
              have d1 : (coE N f == 0) = true := by rw [E1.1]; rfl
              have d2 : decide (coE N f = 0) = true := by rw [E1.1]; rfl
              have h1 : ¬ coV N f < least := by
                rcases LSS.out with ⟨_, _, _, h⟩ | ⟨_, _, h⟩
                · have := h f hfl; rw [LEQ.out] at this; omega
                · rw [h f] at hfl; cases hfl
              have h2 : ¬ coV N f < proved := by have := PW.out f hfl; omega
              clear E1
              have h0 : ee = 0 := by
                rcases LSS.out with ⟨h, _⟩ | ⟨_, _, h⟩
                · exact h
                · rw [h f] at hfl; cases hfl
              have HFL := Lib.hid hfl
              clear hfl
              subst h0
              first | simp only [d1] | simp only [d2]
              clear d1 d2
              go_wp2_with fail
              go_meet
              case rel => exact ⟨by rw [HFL.out, Bool.or_true], Z2, Q2⟩
            · have hfl' : isFlow N f = false := by simpa using hfl
              have E1 := co_no CH.out (by rw [FL1.out, HM.out]) hfl'
              have d1 : (coE N f == 0) = false := by rw [E1.1]; rfl
              have d2 : decide (coE N f = 0) = false := by rw [E1.1]; rfl
              have HFL := Lib.hid hfl'
              clear E1 hfl hfl'
              first | simp only [d1] | simp only [d2]
              clear d1 d2
              go_wp2_with fail
              go_meet
              case rel => exact ⟨by rw [HFL.out, Bool.or_false], Z2, Q2⟩
          case rest =>
            clear Z2 Q2
            obtain ⟨rfl, Z2, Q2⟩ := hcut
            have c0 := (HV.out _ Q2.out).1.cell 0 rfl
            have c1 := (HV.out _ Q2.out).1.cell 1 rfl
            go_wp2_with fail
            refine (next_c _ _ N f gf n m n cap wc HM.out (by omega) (by have := N4.out; omega) CAP.out (fun W hW => (HV.out W (Below.touch Q2.out Q2.out.size hW (fun k hk => by rw [hk]; exact GF.out))).2.1.2) Z2.out FL1.out (fun i hi => by
              have h1 := inC_get _ _ LK1.out.1 i (by rw [FL1.out]; exact hi)
              rw [caps_get (by rw [← HM.out]; exact hi)] at h1
              have h2 := (net_arc CH.out i (by rw [← HM.out]; exact hi)).2.2.2.1
              omega)).mono ?_
            rintro e w9 ⟨rfl, hz, ht⟩
            have Z3 := Lib.hid hz
            have Q3 := Lib.hid (Below.touch Q2.out Q2.out.size ht (fun k hk => by rw [hk]; exact GF.out))
            clear hz ht Z2 Q2 c0 c1
            cases hb : (nx (capsN N) f).1
            · have DN := Lib.hid (LK1.out.done hb)
              clear hb
              generalize (fd || isFlow N f) = fo at *
              have c0 := (HV.out _ Q3.out).1.cell 0 rfl
              go_wp2_with fail
              clear c0 Z3 FL1 LK1 MS
              obtain ⟨T, HT, SH⟩ : ∃ T : Nat, Hid (T = 2 ^ n ∧ T ≤ 16) ∧ Hid (wrap64 ((2 : Int) ^ min n 64) = (T : Int)) := pow4 N4.out
              go_loopw [23, 24] (fun lv sv wr => ∃ (s : Nat) (lk : Bool), sv = .int .i64 s ∧ lv = .bool lk ∧ s ≤ T ∧ Hid (LC N s lk) ∧ Hid (Below w6.heap.size w6 wr)) (fun _ sv _ => T - (intOf sv).toNat)
              case atStart => exact ⟨0, false, rfl, rfl, Nat.zero_le _, Lib.hid (LC.start N), Q3⟩
              case round =>
                obtain ⟨s, lk, rfl, rfl, hs, L1, Q4⟩ := hrel
                have c0 := (HV.out _ Q4.out).1.cell 0 rfl
                have c1 := (HV.out _ Q4.out).1.cell 1 rfl
                have sh := SH.out
                by_cases hlt : s < T
                · have hsi : (s : Int) < (T : Int) := by omega
                  go_upto_region 26 with fail
                  clear sh c0 c1
                  go_loopw [25, 26] (fun cv iv wr => ∃ (i : Nat) (A2 : Option Addr) (c cp : Nat), iv = .int .i64 i ∧ cv = .slice A2 c cp ∧ i ≤ n ∧ Hid (c = (bitC s i).length ∧ c ≤ i) ∧ Hid (wr.ownsRow w6.heap.size 3 1 (.slice A2 c cp) c ((bitC s i).map (Value.int .i64))) ∧ Hid (Below w6.heap.size w6 wr)) (fun _ iv _ => n - (intOf iv).toNat)
                  case atStart => exact ⟨0, none, 0, 0, rfl, rfl, Nat.zero_le _, Lib.hid ⟨rfl, Nat.le_refl _⟩, Lib.hid (World.ownsRow_nil _ _ _ _), Q4⟩
                  case round =>
                    obtain ⟨i, A2, c, cp, rfl, rfl, hi, CL, OW, Q5⟩ := hrel
                    have c0 := (HV.out _ Q5.out).1.cell 0 rfl
                    have c1 := (HV.out _ Q5.out).1.cell 1 rfl
                    by_cases hin : i < n
                    · have hii : (i : Int) < (n : Int) := by omega
                      go_upto_if 124 with fail
                      rw [bit_eq (s := s) (i := i) (by have := HT.out; omega) (by have := N4.out; omega)]
                      have BS := Lib.hid (bitC_succ s i)
                      have ei : IntKind.i64.wrap ((i : Int) + 1) = (i : Int) + 1 := IntWalk.i64_in _ (by have := N4.out; omega)
                      generalize s.testBit i = tb at *
                      cases tb
                      · have BS2 : Hid (bitC s (i + 1) = bitC s i) := Lib.hid (by rw [BS.out]; rfl)
                        clear BS
                        go_wp2_with fail
                        go_roundw
                        case measure => simp [intOf]; omega
                        case rel => exact ⟨i + 1, A2, c, cp, by go_num, rfl, hin, Lib.hid (by rw [BS2.out]; exact ⟨CL.out.1, by have := CL.out.2; omega⟩), Lib.hid (by rw [BS2.out]; exact OW.out), Q5⟩
                      · have BS2 : Hid (bitC s (i + 1) = bitC s i ++ [(i : Int)]) := Lib.hid (by rw [BS.out]; rfl)
                        clear BS c0 c1
                        have QA := Lib.hid (Q5.out.alloc Q5.out.size (.cells #[.int .i64 i] 3))
                        have OA := Lib.hid (ownBelow OW.out ((Below.refl _ _).alloc (Nat.le_refl _) (.cells #[.int .i64 i] 3)))
                        have X := Lib.hid (Blk.new' wr #[.int .i64 i] 3)
                        have cl := CL.out.2
                        have n4 := N4.out.2
                        go_wp2_with (at_builtin; refine wpList_append_any (.tmp 125) (.tmp 127) 26 rfl rfl w6.heap.size 3 i3 (.int .i64 0) 1 8 Try.underlying26 h3i h3z h3s h3b rfl (by decide) A2 c cp ((bitC s i).map (Value.int .i64)) (by rfl) OA.out (some ⟨wr.heap.size, 0, none⟩) 1 1 [.int .i64 i] (by rfl) (by rfl) (.inr ⟨_, rfl, fun k u hk => by rcases k with _ | k <;> simp at hk; subst hk; exact X.out.cell 0 rfl⟩) (by simp [Value.oneCell']) (by unfold maxLen; omega) (by omega) (by have := QA.out.size; omega) ?_; intro A3 cp3 w10 hown hgrow hat; have OW3 : Hid (w10.ownsRow w6.heap.size 3 1 (.slice A3 (c + 1) cp3) (c + 1) ((bitC s (i + 1)).map (Value.int .i64))) := Lib.hid (by rw [BS2.out, List.map_append]; exact hown); have Q6 := Lib.hid (QA.out.grown hgrow QA.out.size (fun k e => (World.ownsRow.lt OA.out k e).1)); clear hown hgrow hat)
                        go_roundw
                        case measure => simp [intOf]; omega
                        case rel => exact ⟨i + 1, A3, c + 1, cp3, by go_num, rfl, hin, Lib.hid (by rw [BS2.out, List.length_append, ← CL.out.1]; exact ⟨rfl, by omega⟩), OW3, Q6⟩
                    · obtain rfl : i = n := by omega
                      have BN := Lib.hid HN.out.symm
                      have CI : Hid (IntsAt wr A2 (bitC s i)) := Lib.hid (own_ints OW.out CL.out.1)
                      have CB : Hid (c ≤ cp ∧ cp ≤ 9223372036854775807) := Lib.hid (own_cap OW.out)
                      go_wp2_with fail
                      refine (Lacks_c _ _ _ N (bitC s i) i m c i cap cp wr HN.out.symm HM.out CL.out.1 (by have := N4.out; omega) CAP.out CB.out (HV.out _ Q5.out).2.1 CI.out).mono ?_
                      rintro e w10 ⟨rfl, hb⟩
                      have Q6 := Lib.hid (Q5.out.trans (hb.mono Q5.out.size))
                      clear hb c0 c1
                      have B0 : Hid (lkE N (bitC s i) = 0) := Lib.hid (by have := bit_ok CH.out s; rw [HN.out] at this; exact this)
                      rw [B0.out]
                      have L2 := Lib.hid L1.out.next
                      rw [HN.out] at L2
                      generalize lkV N (bitC s i) = x at *
                      have es : IntKind.i64.wrap ((s : Int) + 1) = (s : Int) + 1 := IntWalk.i64_in _ (by have := HT.out; omega)
                      clear CI OW Q5
                      cases lk
                      · by_cases hx : 0 < x
                        · have L3 : Hid (LC N (s + 1) true) := Lib.hid (by have := L2.out; rwa [decide_eq_true hx, Bool.false_or] at this)
                          clear L2 L1
                          go_wp2_with fail
                          go_roundw
                          case measure => simp [intOf]; omega
                          case rel => exact ⟨s + 1, _, by go_num, rfl, hlt, L3, Q6⟩
                        · have L3 : Hid (LC N (s + 1) (decide (0 < x))) := Lib.hid (by have := L2.out; rwa [Bool.false_or] at this)
                          clear L2 L1
                          go_wp2_with fail
                          go_roundw
                          case measure => simp [intOf]; omega
                          case rel => exact ⟨s + 1, _, by go_num, rfl, hlt, L3, Q6⟩
                      · have L3 : Hid (LC N (s + 1) true) := Lib.hid (by have := L2.out; rwa [Bool.true_or] at this)
                        clear L2 L1
                        go_wp2_with fail
                        go_roundw
                        case measure => simp [intOf]; omega
                        case rel => exact ⟨s + 1, _, by go_num, rfl, hlt, L3, Q6⟩
                · have hT : Hid (s = T) := Lib.hid (by omega)
                  have hsi : ¬ (s : Int) < (T : Int) := by omega
                  cases fo
                  · have NO : Hid (∀ g, isFlow N g = false) := Lib.hid (fun g => by
                      cases hg : isFlow N g
                      · rfl
                      · have := DN.out.2 ⟨g, hg⟩; cases this)
                    have ALT : Hid (ee = 18 ∧ lk = true) := Lib.hid (by
                      rcases LSS.out with ⟨_, h, _⟩ | ⟨h, ⟨c, hc, hl⟩, _⟩
                      · rw [NO.out fl] at h; cases h
                      · refine ⟨h, LC.cut (N := N) ?_ CH.out hc hl⟩
                        have h1 := L1.out
                        rw [hT.out, HT.out.1, ← HN.out] at h1
                        exact h1)
                    obtain ⟨he, hk⟩ := ALT.out
                    subst he
                    subst hk
                    go_wp2_with fail
                    refine (known_c _).mono ?_
                    rintro e w10 ⟨rfl, hb⟩
                    have Q6 := Lib.hid (Q4.out.trans (hb.mono Q4.out.size))
                    have FIN := Lib.hid (HV.out _ Q6.out).2.2.2
                    clear hb
                    go_wp2_with fail
                    exact bodyPost_ret (v := .bool true) (by simp [results, Try.results4, go_sem]) rfl ⟨rfl, FIN.out⟩
                  · have ALT : Hid (clE N fl pt = 0 ∧ lk = false) := Lib.hid (by
                      obtain ⟨g, hg⟩ := DN.out.1 rfl
                      refine ⟨?_, L1.out.flow CH.out hg⟩
                      rcases LSS.out with ⟨_, _, h, _⟩ | ⟨_, _, h⟩
                      · exact h
                      · rw [h g] at hg; cases hg)
                    obtain ⟨_, hk⟩ := ALT.out
                    subst hk
                    go_wp2_with fail
                    refine (CheckLeastR_c _ _ _ _ N fl pt n m pf pp n cap pf pp wr HN.out.symm HM.out PL.out.1 PL.out.2.1 (by have := N4.out; omega) CAP.out (by have := PL.out.2.2; omega) (by have := PL.out.2.2; omega) (HV.out _ Q4.out).2.1 (HV.out _ Q4.out).2.2.1.1 (HV.out _ Q4.out).2.2.1.2).mono ?_
                    rintro e w10 ⟨rfl, hb⟩
                    rw [ALT.out.1]
                    have Q6 := Lib.hid (Q4.out.trans (hb.mono Q4.out.size))
                    clear hb
                    go_wp2_with fail
                    refine (known_c _).mono ?_
                    rintro e w11 ⟨rfl, hb⟩
                    have Q7 := Lib.hid (Q6.out.trans (hb.mono Q6.out.size))
                    have FIN := Lib.hid (HV.out _ Q7.out).2.2.2
                    clear hb
                    go_wp2_with fail
                    exact bodyPost_ret (v := .bool true) (by simp [results, Try.results4, go_sem]) rfl ⟨rfl, FIN.out⟩
            · have NX := Lib.hid (LK1.out.next hb)
              have FL2 : Hid ((nx (capsN N) f).2.length = m) := Lib.hid (by rw [nx_len]; exact FL1.out)
              have LT := Lib.hid (ix_lt _ _ NX.out.1.1)
              clear hb
              go_wp2_with fail
              go_roundg (tot (capsN N) - ix (capsN N) (nx (capsN N) f).2).toNat
              case measure => have := MS.out; have := NX.out.2; have := LT.out; omega
              case rel => exact ⟨_, _, rfl, Lib.hid (by have := MS.out; have := NX.out.2; have := LT.out; omega), Lib.hid NX.out.1, FL2, Z3, Q3⟩
end Go.Proofs.Ytmebpglkeedaoaa
