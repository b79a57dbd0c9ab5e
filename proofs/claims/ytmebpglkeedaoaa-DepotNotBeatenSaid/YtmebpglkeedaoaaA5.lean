/- The contract of known of the depot laws. -/
import Derived.Test.YtmebpglkeedaoaaA4
import Derived.Test.YtmebpglkeedaoaaC15
namespace Go.Proofs.Ytmebpglkeedaoaa
open Go.RowKit Dp
set_option linter.unusedVariables false

def knN : Net := ⟨[3, 0, -3], [⟨0, 1, 2, 1⟩, ⟨1, 2, 2, 1⟩, ⟨0, 2, 2, 5⟩]⟩
theorem knN_ch : chE knN = 0 := by decide
theorem knN_flow : isFlow knN [2, 2, 1] = true := by decide
theorem knN_cost : costK knN [2, 2, 1] 3 = 9 := by decide
theorem knN_pr : prA knN [0, 1, 5] 3 = 9 := by decide
theorem all_pot {p : List Int} (h : ∀ v, v < p.length → potOk (p.getD v 0) = true) : p.all potOk = true := by
  rw [List.all_eq_true]
  intro x hx
  obtain ⟨i, hi, rfl⟩ := List.getElem_of_mem hx
  have := h i hi
  rwa [List.getD_eq_getElem?_getD, List.getElem?_eq_getElem hi] at this
theorem kn_least {w w' : World} {e : Ending} (h : LeastP knN w e w') : ∃ gf gp fl p, e = .returned (.tuple #[.slice (some ⟨gf, 0, none⟩) 3 3, .slice (some ⟨gp, 0, none⟩) 3 3, .int .i64 0]) ∧
    IntsAt w' (some ⟨gf, 0, none⟩) fl ∧ IntsAt w' (some ⟨gp, 0, none⟩) p ∧ fl.length = 3 ∧ p.length = 3 ∧ coE knN fl = 0 ∧ coV knN fl = 9 ∧ clE knN fl p = 0 := by
  rcases h with ⟨h, _⟩ | ⟨_, gf, gp, fl, p, rfl, hf, hp, _, hg, hlf, hfl, hl, hb, he⟩ | ⟨_, _, _, _, _, h⟩
  · exact absurd knN_ch h
  · have h1 := weak (N := knN) (fl := [2, 2, 1]) (ps := p) knN_ch knN_flow
    have h2 := weak (N := knN) (fl := fl) (ps := [0, 1, 5]) knN_ch hfl
    have h3 : knN.arcs.length = 3 := rfl
    rw [h3] at h1 h2 he
    rw [knN_cost] at h1
    rw [knN_pr] at h2
    have h9 : costK knN fl 3 = 9 := by omega
    have c1 : coE knN fl = 0 := by simp [coE, knN_ch, hlf, hfl]
    have c2 : coV knN fl = 9 := by simp [coV, knN_ch, hfl, h3, h9]
    have c3 : prE knN p = 0 := by simp only [prE, knN_ch, hl, all_pot hb, if_true]
    have c4 : prV knN p = 9 := by simp only [prV, c3, if_true]; rw [h3]; omega
    exact ⟨gf, gp, fl, p, rfl, hf.ints, hp.ints, hlf, hl, c1, c2, cl_ok c1 c3 (by rw [c2, c4])⟩
  · have := h [2, 2, 1]
    rw [knN_flow] at this
    cases this

/-- the example's net in memory -/
structure KnJ (w : World) (g1 g2 g3 : Nat) (W : World) : Prop where
  s : Fl 2 W g1 [3, 0, -3]
  a : Blk W g2 46 (flat arcV knN.arcs)
  n : Blk W g3 25 [.slice (some ⟨g1, 0, none⟩) 3 3, .slice (some ⟨g2, 0, none⟩) 3 3]
  bel : Below w.heap.size w W
theorem KnJ.below {w W V : World} {g1 g2 g3 : Nat} (h : KnJ w g1 g2 g3 W) (hb : Below W.heap.size W V) : KnJ w g1 g2 g3 V :=
  ⟨h.s.below hb, h.a.below hb h.a.lt, h.n.below hb h.n.lt, h.bel.trans (hb.mono h.bel.size)⟩
theorem KnJ.net {w W : World} {g1 g2 g3 : Nat} (h : KnJ w g1 g2 g3 W) : NetAt W (some ⟨g1, 0, none⟩) (some ⟨g2, 0, none⟩) knN := by
  refine ⟨h.s.ints, fun i hi => ?_⟩
  have hc : ∀ j, j < 4 → W.cell? ⟨g2, i * 4 + j, none⟩ = (arcV (knN.arcs.getD i default))[j]? := fun j hj => by
    have e := flat_get (f := arcV) (s := 4) (fun _ => rfl) _ _ _ _ (getElem_D knN.arcs i default hi) hj
    rw [← e]
    obtain ⟨v, hv⟩ : ∃ v, (flat arcV knN.arcs)[i * 4 + j]? = some v := by
      rw [e]
      match j, hj with
      | 0, _ => exact ⟨_, rfl⟩
      | 1, _ => exact ⟨_, rfl⟩
      | 2, _ => exact ⟨_, rfl⟩
      | 3, _ => exact ⟨_, rfl⟩
    rw [hv]
    exact h.a.cell _ hv
  have had : (⟨g2, 0, none⟩ : Addr).add (i * 4) = ⟨g2, i * 4, none⟩ := by unfold Addr.add; split <;> simp_all
  exact ⟨⟨g2, 0, none⟩, rfl, h.a.lt, by rw [had]; exact hc 0 (by omega), by rw [had]; exact hc 1 (by omega), by rw [had]; exact hc 2 (by omega), by rw [had]; exact hc 3 (by omega)⟩
theorem KnJ.start (w : World) : KnJ w w.heap.size (w.heap.size + 1) (w.heap.size + 1 + 1) (((w.alloc (.cells #[.int .i64 3, .int .i64 0, .int .i64 (-3)] 2)).alloc (.cells #[.int .i64 0, .int .i64 1, .int .i64 2, .int .i64 1, .int .i64 1, .int .i64 2, .int .i64 2, .int .i64 1, .int .i64 0, .int .i64 2, .int .i64 2, .int .i64 5] 46)).alloc (.cells #[.slice (some ⟨w.heap.size, 0, none⟩) 3 3, .slice (some ⟨w.heap.size + 1, 0, none⟩) 3 3] 25)) := by
  have b1 := (Below.refl w.heap.size w).alloc (Nat.le_refl _) (.cells #[.int .i64 3, .int .i64 0, .int .i64 (-3)] 2)
  have b2 := b1.alloc b1.size (.cells #[.int .i64 0, .int .i64 1, .int .i64 2, .int .i64 1, .int .i64 1, .int .i64 2, .int .i64 2, .int .i64 1, .int .i64 0, .int .i64 2, .int .i64 2, .int .i64 5] 46)
  have b3 := b2.alloc b2.size (.cells #[.slice (some ⟨w.heap.size, 0, none⟩) 3 3, .slice (some ⟨w.heap.size + 1, 0, none⟩) 3 3] 25)
  have x1 := Blk.new' w #[.int .i64 3, .int .i64 0, .int .i64 (-3)] 2
  have x2 := Blk.new' (w.alloc (.cells #[.int .i64 3, .int .i64 0, .int .i64 (-3)] 2)) #[.int .i64 0, .int .i64 1, .int .i64 2, .int .i64 1, .int .i64 1, .int .i64 2, .int .i64 2, .int .i64 1, .int .i64 0, .int .i64 2, .int .i64 2, .int .i64 5] 46
  have x3 := Blk.new' ((w.alloc (.cells #[.int .i64 3, .int .i64 0, .int .i64 (-3)] 2)).alloc (.cells #[.int .i64 0, .int .i64 1, .int .i64 2, .int .i64 1, .int .i64 1, .int .i64 2, .int .i64 2, .int .i64 1, .int .i64 0, .int .i64 2, .int .i64 2, .int .i64 5] 46)) #[.slice (some ⟨w.heap.size, 0, none⟩) 3 3, .slice (some ⟨w.heap.size + 1, 0, none⟩) 3 3] 25
  refine ⟨(x1.alloc _).alloc _, ?_, ?_, b3⟩
  · have := x2.alloc (.cells #[.slice (some ⟨w.heap.size, 0, none⟩) 3 3, .slice (some ⟨w.heap.size + 1, 0, none⟩) 3 3] 25)
    simpa [flat, arcV, knN] using this
  · simpa using x3
theorem CO.start (V : World) : CO (((V.alloc (.cells #[.int .i64 4, .int .i64 1] 2)).alloc (.cells #[.int .i64 2, .int .i64 3] 2)).alloc (.cells #[.slice (some ⟨V.heap.size, 0, none⟩) 2 2, .slice (some ⟨V.heap.size + 1, 0, none⟩) 2 2] 22)) (V.heap.size + 1 + 1) V.heap.size (V.heap.size + 1) := by
  have x1 := Blk.new' V #[.int .i64 4, .int .i64 1] 2
  have x2 := Blk.new' (V.alloc (.cells #[.int .i64 4, .int .i64 1] 2)) #[.int .i64 2, .int .i64 3] 2
  have x3 := Blk.new' ((V.alloc (.cells #[.int .i64 4, .int .i64 1] 2)).alloc (.cells #[.int .i64 2, .int .i64 3] 2)) #[.slice (some ⟨V.heap.size, 0, none⟩) 2 2, .slice (some ⟨V.heap.size + 1, 0, none⟩) 2 2] 22
  refine ⟨?_, (x1.alloc _).alloc _, ?_⟩
  · simpa using x3
  · simpa using x2.alloc (.cells #[.slice (some ⟨V.heap.size, 0, none⟩) 2 2, .slice (some ⟨V.heap.size + 1, 0, none⟩) 2 2] 22)

set_option maxHeartbeats 4000000 in
set_option maxRecDepth 100000 in
theorem known_c (w : World) : Calls Try.prog 13 #[] w fun e w' => e = .returned (.bool true) ∧ Below w.heap.size w w' := by
  have K0 := Lib.hid (KnJ.start w)
  go_enter Try.func13, Try.ntmps13
  go_upto_region 2 with fail
  generalize hW : ((w.alloc (.cells #[.int .i64 3, .int .i64 0, .int .i64 (-3)] 2)).alloc (.cells #[.int .i64 0, .int .i64 1, .int .i64 2, .int .i64 1, .int .i64 1, .int .i64 2, .int .i64 2, .int .i64 1, .int .i64 0, .int .i64 2, .int .i64 2, .int .i64 5] 46)).alloc (.cells #[.slice (some ⟨w.heap.size, 0, none⟩) 3 3, .slice (some ⟨w.heap.size + 1, 0, none⟩) 3 3] 25) = w1 at K0 ⊢
  clear hW
  obtain ⟨g1, hg1⟩ : ∃ g, g = w.heap.size := ⟨_, rfl⟩
  rw [← hg1] at K0 ⊢
  clear hg1
  obtain ⟨g2, hg2⟩ : ∃ g, g = g1 + 1 := ⟨_, rfl⟩
  rw [← hg2] at K0 ⊢
  clear hg2
  obtain ⟨g3, hg3⟩ : ∃ g, g = g2 + 1 := ⟨_, rfl⟩
  rw [← hg3] at K0 ⊢
  clear hg3
  trace_state
  have n0 := K0.out.n.cell 0 rfl
  have n1 := K0.out.n.cell 1 rfl
  go_wp2_with fail
  refine (Least_c _ _ knN 3 3 3 3 _ rfl rfl (by omega) (by omega) K0.out.net).mono ?_
  rintro e w2 ⟨hL, hb⟩
  obtain ⟨gf, gp, fl, p, rfl, hf, hp, lf, lp, c1, c2, c3⟩ := kn_least hL
  have K2 := Lib.hid (K0.out.below hb)
  have F2 := Lib.hid hf
  have P2 := Lib.hid hp
  have LF := Lib.hid lf
  have LP := Lib.hid lp
  have C1 := Lib.hid c1
  have C2 := Lib.hid c2
  have C3 := Lib.hid c3
  clear hL hb hf hp lf lp c1 c2 c3 K0 n0 n1
  have n0 := K2.out.n.cell 0 rfl
  have n1 := K2.out.n.cell 1 rfl
  go_wp2_with fail
  refine (Cost_c _ _ _ knN fl 3 3 3 3 3 3 _ rfl rfl LF.out.symm (by omega) (by omega) (by omega) K2.out.net F2.out).mono ?_
  rintro e w3 ⟨rfl, hb⟩
  rw [C1.out, C2.out]
  have K3 := Lib.hid (K2.out.below hb)
  have F3 := Lib.hid (F2.out.below hb (Nat.le_refl _))
  have P3 := Lib.hid (P2.out.below hb (Nat.le_refl _))
  clear hb K2 F2 P2 n0 n1
  have CC := Lib.hid (CO.start w3)
  have B4 := Lib.hid ((((Below.refl w3.heap.size w3).alloc (Nat.le_refl _) (.cells #[.int .i64 4, .int .i64 1] 2)).alloc (by simp) (.cells #[.int .i64 2, .int .i64 3] 2)).alloc (by simp; omega) (.cells #[.slice (some ⟨w3.heap.size, 0, none⟩) 2 2, .slice (some ⟨w3.heap.size + 1, 0, none⟩) 2 2] 22))
  go_wp2_with fail
  generalize ((w3.alloc (.cells #[.int .i64 4, .int .i64 1] 2)).alloc (.cells #[.int .i64 2, .int .i64 3] 2)).alloc (.cells #[.slice (some ⟨w3.heap.size, 0, none⟩) 2 2, .slice (some ⟨w3.heap.size + 1, 0, none⟩) 2 2] 22) = w4 at CC B4 ⊢
  refine (Assign_c duals_c _ _ _ _ CC.out).mono ?_
  rintro e w5 ⟨A, c, R, rn, rc, Q, qn, qc, rfl, ho, hb⟩
  obtain ⟨g, cg, hv, hbg, hlt⟩ := ho.form (by omega)
  cases hv
  have B5 := Lib.hid ((Below.refl w5.heap.size w5).alloc (Nat.le_refl _) (.cells #[.slice (some ⟨g, 0, none⟩) 2 c, .int .i64 3, .slice R rn rc, .slice Q qn qc] 87))
  have X := Lib.hid (Blk.new' w5 #[.slice (some ⟨g, 0, none⟩) 2 c, .int .i64 3, .slice R rn rc, .slice Q qn qc] 87)
  have OW := Lib.hid (ownBelow ho B5.out)
  have K5 := Lib.hid (((K3.out.below B4.out).below hb).below B5.out)
  have F5 := Lib.hid (((F3.out.below B4.out (Nat.le_refl _)).below hb (Nat.le_refl _)).below B5.out (Nat.le_refl _))
  have P5 := Lib.hid (((P3.out.below B4.out (Nat.le_refl _)).below hb (Nat.le_refl _)).below B5.out (Nat.le_refl _))
  clear ho hb hbg hlt K3 F3 P3 CC B4 B5
  go_upto_region 5 with fail
  generalize w5.alloc (.cells #[.slice (some ⟨g, 0, none⟩) 2 c, .int .i64 3, .slice R rn rc, .slice Q qn qc] 87) = w6 at X OW K5 F5 P5 ⊢
  generalize w5.heap.size = gm at *
  have n0 := K5.out.n.cell 0 rfl
  have n1 := K5.out.n.cell 1 rfl
  go_wp2_with fail
  refine (CheckLeast_c _ _ _ _ knN fl p 3 3 3 3 3 3 3 3 _ rfl rfl LF.out.symm LP.out.symm (by omega) (by omega) (by omega) (by omega) K5.out.net F5.out P5.out).mono ?_
  rintro e w7 ⟨rfl, hb⟩
  rw [C3.out]
  have X7 := Lib.hid (X.out.below hb X.out.lt)
  have O7 := Lib.hid (ownBelow OW.out hb)
  have BW := Lib.hid ((K5.out.below hb).bel)
  clear hb n0 n1 X OW K5 F5 P5
  have x0 := X7.out.cell 0 rfl
  have x1 := X7.out.cell 1 rfl
  have y0 : w7.cell? ⟨g, 0, none⟩ = some (.int .i64 1) := World.ownsRow.cellAt O7.out 0 (by omega)
  go_wp2_with fail
  exact bodyPost_ret (v := .bool true) (by simp [results, Try.results13, go_sem]) rfl ⟨rfl, BW.out⟩
end Go.Proofs.Ytmebpglkeedaoaa
