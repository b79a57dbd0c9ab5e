/- Contracts that the claim leans on, part 6: M31 M16 M32 X5 T20 T27 T21 T22 T23 T26 T17 T24 T25 LKnown -/
import Derived.Test.YtmebpglkeedaoaaDK5
set_option linter.unusedVariables false
set_option linter.unusedSimpArgs false
set_option linter.unnecessarySimpa false
namespace Go.Proofs.Ytmebpglkeedaoaa
namespace Dp
theorem cpS_id {S : Site} {most : Int} (h : ∀ t, t < S.lim.length → S.lim.getD t 0 ≤ most) : cpS S most = S := by
  have e : cpL S most S.lim.length = S.lim := by
    apply List.ext_getElem
    · rw [cpL_len]
    · intro i h1 h2
      have := h i h2
      have e2 := cpL_get (S := S) (most := most) (k := S.lim.length) h2
      rw [List.getD_eq_getElem?_getD, List.getElem?_eq_getElem h1] at e2
      rw [List.getD_eq_getElem?_getD, List.getElem?_eq_getElem h2] at e2 this
      simp only [Option.getD_some] at e2 this
      omega
  unfold cpS
  rw [e]
theorem cpS_max {S : Site} {cs : List Car} (h : stE S cs = 0) : cpS S 1048576 = S := cpS_id fun t ht => (slotOk_iff.1 ((stE_0 h).2.2.1 t ht)).1.2
theorem mx_le (xs : List Int) : ∀ k t, t < k → xs.getD t 0 ≤ mxP xs k
  | k + 1, t, ht => by
    unfold mxP
    by_cases e : t = k
    · subst e; omega
    · have := mx_le xs k t (by omega); omega
theorem mx_bd {xs : List Int} {a b : Int} : ∀ k, (∀ t, t ≤ k - 1 → a ≤ xs.getD t 0 ∧ xs.getD t 0 ≤ b) → a ≤ mxP xs k ∧ mxP xs k ≤ b
  | 0, h => h 0 (by omega)
  | k + 1, h => by
    have h1 := mx_bd (xs := xs) k (fun t ht => h t (by omega))
    have h2 := h k (by omega)
    unfold mxP
    omega
structure PkOk (S : Site) (cs : List Car) (peak : Int) (T : Tab) (cut : List Int) : Prop where
  bd : 0 ≤ peak ∧ peak ≤ 1048576
  ok : plE (cpS S peak) cs T = 0
  z : peak = 0 → cut = []
  no : 0 < peak → (∀ k, k < cut.length → cutAt (netN (cpS S (peak - 1)) cs).sup.length cut k = true) ∧ 0 < lkA (netN (cpS S (peak - 1)) cs) cut (netN (cpS S (peak - 1)) cs).arcs.length ∧ ∀ fl, isFlow (netN (cpS S (peak - 1)) cs) fl = false
end Dp
end Go.Proofs.Ytmebpglkeedaoaa
namespace Go.Proofs.Ytmebpglkeedaoaa
namespace Dp
def noC (a : Arc) : Arc := ⟨a.fr, a.to, a.cap, 0⟩
def zcN (N : Net) : Net := ⟨N.sup, N.arcs.map noC⟩
theorem fr_get {N : Net} {j : Nat} (hj : j < N.arcs.length) : (zcN N).arcs.getD j default = noC (N.arcs.getD j default) := by
  simp [zcN, List.getD_eq_getElem?_getD, hj]
theorem fr_len (N : Net) : (zcN N).arcs.length = N.arcs.length := by simp [zcN]
theorem fr_ch {N : Net} (h : chE N = 0) : chE (zcN N) = 0 := by
  have h2 := chE_zero h
  have h3 : manyB (zcN N) = manyB N := by simp [manyB, zcN]
  have h4 : okB (zcN N) = true := by
    have h5 := h2.2
    simp only [okB, Bool.and_eq_true, List.all_eq_true, zcN, List.mem_map] at h5 ⊢
    refine ⟨h5.1, fun a ⟨b, hb, e⟩ => ?_, h5.2.2⟩
    have := h5.2.1 b hb
    subst e
    have t := of_decide_eq_true this
    exact decide_eq_true ⟨t.1, t.2.1, t.2.2.1, t.2.2.2.1, by show (-1048576 : Int) ≤ 0 ∧ (0 : Int) ≤ 1048576; omega⟩
  have h5 : manyB N = false := h2.1
  simp only [chE, h3, h5, h4, if_true]
  rfl
theorem fr_lkA {N : Net} {c : List Int} : ∀ k, k ≤ N.arcs.length → lkA (zcN N) c k = lkA N c k
  | 0, _ => by
    simp only [lkA]
    have : ∀ k, lkS (zcN N) c k = lkS N c k := fun k => by
      induction k with
      | zero => rfl
      | succ k ih => simp only [lkS, ih]; rfl
    exact this _
  | k + 1, hk => by
    simp only [lkA]
    rw [fr_lkA k (by omega), fr_get (by omega)]
    rfl
theorem fr_left {N : Net} {fl : List Int} : ∀ k, k ≤ N.arcs.length → leftK (zcN N) fl k = leftK N fl k
  | 0, _ => rfl
  | k + 1, hk => by
    simp only [leftK]
    rw [fr_left k (by omega), fr_get (by omega)]
    rfl
theorem fr_flow {N : Net} {fl : List Int} : isFlow (zcN N) fl = isFlow N fl := by
  have h1 : capB (zcN N) fl = capB N fl := by
    unfold capB
    rw [fr_len]
    refine Bool.eq_iff_iff.2 ?_
    simp only [List.all_eq_true, List.mem_range, decide_eq_true_eq]
    exact ⟨fun h k hk => by have := h k hk; rw [fr_get hk] at this; exact this, fun h k hk => by rw [fr_get hk]; exact h k hk⟩
  simp only [isFlow, fr_len, h1]
  rw [fr_left _ (Nat.le_refl _)]
end Dp
end Go.Proofs.Ytmebpglkeedaoaa
namespace Go.Proofs.Ytmebpglkeedaoaa
namespace Dp
def ksS : Site := ⟨[2, 2, 2], [0, 0, 0], [5, 1, 3], [0, 0, 0]⟩
def ksC : List Car := [⟨10, 2, 0, 0, 3, []⟩]
def ksM : Net := ⟨[3, -3], [⟨0, 1, 2, 1⟩]⟩
set_option maxRecDepth 100000 in
theorem ks_st : stE ksS ksC = 0 := by decide
set_option maxRecDepth 100000 in
theorem ks_T0 : plE ksS ksC ⟨[[0, 2, 1]], [[0, 0, 0]]⟩ = 0 := by decide
set_option maxRecDepth 100000 in
theorem ks_p0 : prc ksS ⟨[[0, 2, 1]], [[0, 0, 0]]⟩ 1 3 = 5 := by decide
set_option maxRecDepth 100000 in
theorem ks_lo : prA (netN ksS ksC) [0, 3, 3, 3, 3, 3, 3, 3, 3, 3, 3, 3] (netN ksS ksC).arcs.length = 5 := by decide
theorem ks_cost {T : Tab} {p : List Int} (h : Best ksS ksC T p) : prc ksS T 1 3 = 5 := by
  have h1 := h.le _ ks_T0
  have h2 := keeps_flow (plE_0 h.ok)
  have h3 := weak (ps := [0, 3, 3, 3, 3, 3, 3, 3, 3, 3, 3, 3]) (net_ok ks_st) h2.1
  rw [ks_lo] at h3
  have h4 := h2.2
  have e : (carsA ksS ksC ksC.length).length = (netN ksS ksC).arcs.length := rfl
  rw [e] at h4
  have e2 : prc ksS T ksC.length ksS.lim.length = prc ksS T 1 3 := rfl
  have e3 : prc ksS ⟨[[0, 2, 1]], [[0, 0, 0]]⟩ ksC.length ksS.lim.length = prc ksS ⟨[[0, 2, 1]], [[0, 0, 0]]⟩ 1 3 := rfl
  rw [e3, ks_p0, e2] at h1
  rw [e2] at h4
  omega
set_option maxRecDepth 100000 in
theorem ks_eg : egE ksS ksC = 0 := by decide
set_option maxRecDepth 100000 in
theorem ks_egT : (egT ksS ksC).inn = [[2, 2, 2]] ∧ (egT ksS ksC).out = [[0, 0, 0]] := by decide
set_option maxRecDepth 100000 in
theorem ks_eg18 : prcV ksS ksC ⟨[[2, 2, 2]], [[0, 0, 0]]⟩ = 18 ∧ plE ksS ksC ⟨[[2, 2, 2]], [[0, 0, 0]]⟩ = 0 := by decide
set_option maxRecDepth 100000 in
theorem ks_T1 : plE ksS ksC ⟨[[1, 1, 1]], [[0, 0, 0]]⟩ = 0 ∧ plE (cpS ksS 1) ksC ⟨[[1, 1, 1]], [[0, 0, 0]]⟩ = 0 := by decide
set_option maxRecDepth 100000 in
theorem ks_cut : 0 < lkA (netN (cpS ksS 0) ksC) [0] (netN (cpS ksS 0) ksC).arcs.length := by decide
theorem ks_peak {pk : Int} {T : Tab} {cut : List Int} (h : PkOk ksS ksC pk T cut) : pk = 1 := by
  have hb := h.bd
  by_cases h0 : pk = 0
  · subst h0
    obtain ⟨fl, hfl⟩ := plan_some h.ok
    have h1 := cut_none (c := [0]) (net_ok (cpS_ok ks_st (by omega))) (fun k hk => by
      have : k = 0 := by simpa using hk
      subst this
      decide) ks_cut fl
    rw [hfl] at h1
    cases h1
  · by_cases h1 : pk = 1
    · exact h1
    · have h2 := (h.no (by omega)).2.2
      by_cases h3 : pk = 2
      · subst h3
        obtain ⟨fl, hfl⟩ := plan_some ks_T1.2
        have := h2 fl
        rw [show (2 : Int) - 1 = 1 from rfl, hfl] at this
        cases this
      · have e : cpS ksS (pk - 1) = ksS := cpS_id (fun t ht => by
          have ht' : t < 3 := ht
          have : ∀ t, t < 3 → ksS.lim.getD t 0 = 2 := by decide
          rw [this t ht']; omega)
        rw [e] at h2
        obtain ⟨fl, hfl⟩ := plan_some ks_T1.1
        rw [h2 fl] at hfl
        cases hfl
set_option maxRecDepth 100000 in
theorem kn_cl : clE ⟨[3, 0, -3], [⟨0, 1, 2, 1⟩, ⟨1, 2, 2, 1⟩, ⟨0, 2, 2, 5⟩]⟩ [2, 2, 1] [0, 1, 5] = 0 ∧ clE ⟨[3, 0, -3], [⟨0, 1, 2, 1⟩, ⟨1, 2, 2, 1⟩, ⟨0, 2, 2, 5⟩]⟩ [1, 1, 2] [0, 1, 5] = 19 := by decide
theorem km_ch : chE ksM = 0 := by decide
theorem km_cut : 0 < lkA ksM [0] ksM.arcs.length ∧ lkA ksM [0] ksM.arcs.length = 1 := by decide
theorem km_one {cut : List Int} (h : ∀ k, k < cut.length → cutAt ksM.sup.length cut k = true) (hl : 0 < lkA ksM cut ksM.arcs.length) : cut = [0] := by
  have hr : ∀ k, k < cut.length → 0 ≤ cut.getD k 0 ∧ cut.getD k 0 < 2 ∧ (0 < k → cut.getD (k - 1) 0 < cut.getD k 0) := fun k hk => cutAt_iff.1 (h k hk)
  match cut, hr, hl with
  | [], _, hl => exact absurd hl (by decide)
  | [a], hr, hl =>
    have h1 := hr 0 (by simp)
    simp at h1
    rcases (show a = 0 ∨ a = 1 by omega) with rfl | rfl
    · rfl
    · exact absurd hl (by decide)
  | [a, b], hr, hl =>
    have h1 := hr 0 (by simp)
    have h2 := hr 1 (by simp)
    simp at h1 h2
    obtain rfl : a = 0 := by omega
    obtain rfl : b = 1 := by omega
    exact absurd hl (by decide)
  | a :: b :: c :: l, hr, _ =>
    have h1 := hr 0 (by simp)
    have h2 := hr 1 (by simp)
    have h3 := hr 2 (by simp)
    simp at h1 h2 h3
    omega
theorem km_flow {fl : List Int} (h : isFlow ksM fl = true) : False := by
  have := cut_none (c := [0]) km_ch (fun k hk => by
    have : k = 0 := by simpa using hk
    subst this
    decide) km_cut.1 fl
  rw [h] at this
  cases this
end Dp
end Go.Proofs.Ytmebpglkeedaoaa
namespace Go.Proofs.Ytmebpglkeedaoaa
open Go.RowKit Dp
theorem add_add' (a : Addr) (m k : Nat) : (a.add m).add k = a.add (m + k) := by
  unfold Addr.add
  split <;> split <;> (try split) <;> simp_all [Nat.add_assoc]
set_option maxHeartbeats 1000000 in
set_option maxRecDepth 100000 in
theorem cloneA_some (ad : Addr) (l : List Arc) (n cap : Nat) (w : World) (hn : n = l.length) (h2 : n ≤ 4096) (hA : ArcsAt w (some ad) l) :
    Calls Try.prog 70 #[.slice (some ad) n cap] w fun e w' => ∃ A c, e = .returned (.slice A n c) ∧ Below w.heap.size w w' ∧ w'.ownsRow w.heap.size 46 4 (.slice A n c) n (flat arcV l) := by
  have HA := Lib.hid hA
  have HN := Lib.hid hn
  have hsrc : SrcRow (w.alloc (.cells #[] 46)) (some ad) n (flat arcV l) := .inr ⟨ad, rfl, fun j u hu => by
    have hj : j < l.length * 4 := by
      rcases Nat.lt_or_ge j (l.length * 4) with h | h
      · exact h
      · rw [List.getElem?_eq_none (by rw [flat_length (s := 4) (fun _ => rfl)]; exact h)] at hu; cases hu
    have hq : j / 4 < l.length := by omega
    obtain ⟨ad', e, hb, c0, c1, c2, c3⟩ := HA.out (j / 4) hq
    cases e
    have e1 := flat_get (f := arcV) (s := 4) (fun _ => rfl) l (j / 4) (j % 4) _ (getElem_D _ _ default hq) (by omega)
    rw [show j / 4 * 4 + j % 4 = j by omega, hu] at e1
    have hadd : ad.add j = (ad.add (j / 4 * 4)).add (j % 4) := by rw [add_add', show j / 4 * 4 + j % 4 = j by omega]
    refine (((Below.refl w.heap.size w).alloc (Nat.le_refl _) (.cells #[] 46)).cell (by rw [block_add]; exact hb)).trans ?_
    rw [hadd]
    have h4 : j % 4 = 0 ∨ j % 4 = 1 ∨ j % 4 = 2 ∨ j % 4 = 3 := by omega
    rcases h4 with h | h | h | h <;> rw [h] at e1 ⊢ <;> simp [arcV] at e1 <;> subst e1
    · rw [add_zero']; exact c0
    · exact c1
    · exact c2
    · exact c3⟩
  have HS := Lib.hid hsrc
  have FL := Lib.hid (flat_length (f := arcV) (s := 4) (fun _ => rfl) l)
  clear hsrc hA hn
  obtain ⟨i0, hi, hz0, hz1, hz2⟩ := info_parts info46
  have qT : ∀ w : World, (binOp .eql 23 (.slice (some ad) n cap) (.slice none 0 0)).run Try.prog w = .ok (.bool false) w := fun w => Lib.run_eql_slice_nil w 23 46 (some ad) n cap 0 0 Try.underlying23
  go_enter Try.func70, Try.ntmps70
  go_wp2_with (at_builtin; refine wpList_append_any (.tmp 5) (.tmp 6) 23 rfl rfl w.heap.size 46 i0 (.agg #[.int .i64 0, .int .i64 0, .int .i64 0, .int .i64 0]) 4 32 Try.underlying23 hi hz0 hz1 hz2 rfl (by decide) (some ⟨w.heap.size, 0, none⟩) 0 0 [] (by rfl) (World.ownsRow_lit w #[] 0 (Nat.le_refl _) (Nat.zero_le _) rfl) (some ad) n cap (flat arcV l) (by rfl) (by rw [FL.out, HN.out]) HS.out (by intro u hu; obtain ⟨a, _, ha⟩ := List.mem_flatMap.1 hu; simp [arcV] at ha; rcases ha with rfl | rfl | rfl | rfl <;> rfl) (by unfold maxLen; omega) (by omega) (by simp) ?_; intro A3 c3 w2 hown2 hgrow2 hat2; have HO2 := Lib.hid hown2; have HG2 := Lib.hid hgrow2; clear hown2 hgrow2 hat2)
  have BB : Hid (Below w.heap.size w w2) := Lib.hid (((Below.refl w.heap.size w).alloc (Nat.le_refl _) (.cells #[] 46)).grown HG2.out (by simp) (fun k hk => by cases hk; exact Nat.le_refl _))
  have OO : Hid (w2.ownsRow w.heap.size 46 4 (.slice A3 n c3) n (flat arcV l)) := Lib.hid (by simpa using HO2.out)
  go_ret
  exact ⟨A3, c3, rfl, BB.out, OO.out⟩
set_option maxRecDepth 100000 in
theorem cloneA_c (A0 : Option Addr) (l : List Arc) (n cap : Nat) (w : World) (hn : n = l.length) (h2 : n ≤ 4096) (hA : ArcsAt w A0 l) :
    Calls Try.prog 70 #[.slice A0 n cap] w fun e w' => ∃ A c, e = .returned (.slice A n c) ∧ Below w.heap.size w w' ∧ w'.ownsRow w.heap.size 46 4 (.slice A n c) n (flat arcV l) := by
  cases A0 with
  | some ad => exact cloneA_some ad l n cap w hn h2 hA
  | none =>
    have hl : l = [] := by
      cases l with
      | nil => rfl
      | cons a t => obtain ⟨ad, h, _⟩ := hA 0 (by simp); cases h
    subst hl
    simp only [List.length_nil] at hn
    subst hn
    clear hA h2
    have qT : ∀ w : World, (binOp .eql 23 (.slice none 0 cap) (.slice none 0 0)).run Try.prog w = .ok (.bool true) w := fun w => Lib.run_eql_slice_nil w 23 46 none 0 cap 0 0 Try.underlying23
    go_enter Try.func70, Try.ntmps70
    go_wp2_with fail
    exact bodyPost_ret (v := .slice none 0 0) (by simp [results, Try.results70, go_sem]) rfl ⟨none, 0, rfl, Below.refl _ _, World.ownsRow_nil _ _ _ _⟩
end Go.Proofs.Ytmebpglkeedaoaa
namespace Go.Proofs.Ytmebpglkeedaoaa
open Go.RowKit Dp
theorem own_arcs2 {W : World} {D n cap : Nat} {A : Option Addr} {l : List Arc} (hA : W.ownsRow D 46 4 (.slice A n cap) n (flat arcV l)) (hn : n = l.length) : ArcsAt W A l ∧ n ≤ cap ∧ cap ≤ 9223372036854775807 := by
  refine ⟨fun i hi => ?_, ?_⟩
  · obtain ⟨g, c, hv, hb, hlt⟩ := hA.form (by omega)
    cases hv
    have hc : ∀ j, j < 4 → W.cell? ⟨g, i * 4 + j, none⟩ = (arcV (l.getD i default))[j]? := fun j hj => by
      rw [World.ownsRow.cellAt hA (i * 4 + j) (by omega)]
      exact flat_get (f := arcV) (s := 4) (fun _ => rfl) _ _ _ _ (getElem_D _ _ _ hi) hj
    have had : (⟨g, 0, none⟩ : Addr).add (i * 4) = ⟨g, i * 4, none⟩ := by unfold Addr.add; split <;> simp_all
    exact ⟨⟨g, 0, none⟩, rfl, hlt, by rw [had]; exact hc 0 (by omega), by rw [had]; exact hc 1 (by omega), by rw [had]; exact hc 2 (by omega), by rw [had]; exact hc 3 (by omega)⟩
  · rcases hA.2 with ⟨h0, h1⟩ | ⟨g', c', cur, hv, _, _, hc1, hc2, _⟩
    · cases h0
      simp
    · cases hv
      unfold maxLen at hc2
      omega
theorem own_cap2 {W : World} {b c cp : Nat} {A : Option Addr} {l : List Value} (h : W.ownsRow b 3 1 (.slice A c cp) c l) : c ≤ cp ∧ cp ≤ 9223372036854775807 := by
  rcases h.2 with ⟨h0, h1⟩ | ⟨g', c', cur, hv, _, _, hc1, hc2, _⟩
  · cases h0
    omega
  · cases hv
    unfold maxLen at hc2
    omega
theorem lkA_nil (N : Net) : ∀ k, lkA N [] k = 0
  | 0 => rfl
  | k + 1 => by simp only [lkA]; rw [lkA_nil N k]; simp [inK]
theorem blk_own_ne2 {W : World} {g t B e z n cap : Nat} {cs xs : List Value} {A : Option Addr} (hb : Blk W g t cs) (h : W.ownsRow B e z (.slice A n cap) n xs) (hne : t ≠ e) : some g ≠ (Value.slice A n cap).ownBlock := by
  intro hk
  rcases h.2 with ⟨h0, _⟩ | ⟨g', cap', cur, hv, _, hg, _⟩
  · rw [h0] at hk; cases hk
  · rw [hv] at hk
    simp only [Value.ownBlock, Option.some.injEq] at hk
    subst hk
    unfold Blk at hb
    rw [hg] at hb
    simp only [Option.some.injEq, Obj.cells.injEq] at hb
    exact hne hb.2.1.symm
theorem own_blk_no2 {W : World} {g t B e z n cap : Nat} {cs xs : List Value} {A : Option Addr} (hb : Blk W g t cs) (h : W.ownsRow B e z (.slice A n cap) n xs) (hne : t ≠ e) : ¬ OwnB A g := fun hk => blk_own_ne2 hb h hne (ownB_iff.1 hk).symm
theorem ownV_mono2 {w : World} {B B' e z n : Nat} {v : Value} {xs : List Value} (h : w.ownsRow B e z v n xs) (hb : B' ≤ B) : w.ownsRow B' e z v n xs := ⟨h.1, h.2.imp id (fun ⟨k, c, cur, hv, hb', r⟩ => ⟨k, c, cur, hv, Nat.le_trans hb hb', r⟩)⟩
theorem own_ints2 {W : World} {b c cp : Nat} {A : Option Addr} {l : List Int} (h : W.ownsRow b 3 1 (.slice A c cp) c (l.map (Value.int .i64))) (hc : c = l.length) : IntsAt W A l := fun i hi => by
  obtain ⟨g, cap, hv, hb, hlt⟩ := h.form (by omega)
  cases hv
  refine ⟨⟨g, 0, none⟩, rfl, hlt, ?_⟩
  rw [show (⟨g, 0, none⟩ : Addr).add i = ⟨g, i, none⟩ from (by unfold Addr.add; split <;> simp_all), World.ownsRow.cellAt h i (by omega), List.getElem?_map, List.getElem?_eq_getElem hi, List.getD_eq_getElem?_getD, List.getElem?_eq_getElem hi]
  rfl
def MissP (N : Net) (w : World) (e : Ending) (w' : World) : Prop :=
  (chE N ≠ 0 ∧ e = .returned (.tuple #[.slice none 0 0, .int .i64 0, .int .i64 (chE N)])) ∨
  (chE N = 0 ∧ e = .returned (.tuple #[.slice none 0 0, .int .i64 0, .int .i64 18]) ∧ ∃ fl, isFlow N fl = true) ∨
  (chE N = 0 ∧ ∃ (g c : Nat) (cut : List Int), e = .returned (.tuple #[.slice (some ⟨g, 0, none⟩) cut.length c, .int .i64 (lkA N cut N.arcs.length), .int .i64 0]) ∧ w'.ownsRow w.heap.size 3 1 (.slice (some ⟨g, 0, none⟩) cut.length c) cut.length (cut.map (.int .i64)) ∧ cut.length ≤ 1024 ∧ (∀ k, k < cut.length → cutAt N.sup.length cut k = true) ∧ 0 < lkA N cut N.arcs.length ∧ ∀ fl, isFlow N fl = false)
def zcL (l : List Arc) (k : Nat) : List Arc := (l.take k).map noC ++ l.drop k
theorem zcL_len (l : List Arc) (k : Nat) : (zcL l k).length = l.length := by simp [zcL]; omega
theorem zcL_0 (l : List Arc) : zcL l 0 = l := by simp [zcL]
theorem zcL_all (l : List Arc) : zcL l l.length = l.map noC := by simp [zcL]
theorem zcL_get {l : List Arc} {k : Nat} (hk : k < l.length) : (zcL l k)[k]? = some (l.getD k default) := by
  unfold zcL
  rw [List.getElem?_append_right (by simp; omega)]
  simp only [List.length_map, List.length_take, Nat.min_eq_left (Nat.le_of_lt hk), Nat.sub_self, List.getElem?_drop, Nat.add_zero]
  exact getElem_D l k default hk
theorem zcL_set {l : List Arc} {k : Nat} (hk : k < l.length) : (zcL l k).set k (noC (l.getD k default)) = zcL l (k + 1) := by
  have h1 : l.drop k = l.getD k default :: l.drop (k + 1) := by
    rw [List.drop_eq_getElem_cons hk, List.getD_eq_getElem?_getD, List.getElem?_eq_getElem hk]; rfl
  have h2 : l.take (k + 1) = l.take k ++ [l.getD k default] := by
    rw [List.take_add_one, getElem_D l k default hk]; rfl
  unfold zcL
  rw [List.set_append_right _ _ (by simp; omega), h2, h1]
  simp only [List.length_map, List.length_take, Nat.min_eq_left (Nat.le_of_lt hk), Nat.sub_self, List.set_cons_zero, List.map_append, List.append_assoc, List.map_cons, List.map_nil, List.cons_append, List.nil_append]
theorem zero_pot {N : Net} {G : Gr} {n : Nat} (hf : Fits (zcN N) G) : G.Pot n (List.replicate n 0) := by
  have hz : ∀ v, (List.replicate n (0 : Int)).getD v 0 = 0 := fun v => by simp [List.getD_eq_getElem?_getD, List.getElem?_replicate]; split <;> rfl
  refine ⟨by simp, fun v _ => by rw [hz]; omega, fun k hk _ => ?_, fun v _ _ => hz v⟩
  have hc : G.cost k = 0 := by
    have hl := hf.es
    have hm : k / 2 < (zcN N).arcs.length := by omega
    have h := hf.c0 (k / 2) hm
    rw [fr_get (by rw [← fr_len N]; exact hm)] at h
    have h0 : (noC (N.arcs.getD (k / 2) default)).cost = 0 := rfl
    rw [h0] at h
    rcases Nat.mod_two_eq_zero_or_one k with e | e
    · have : k = 2 * (k / 2) := by omega
      rw [this]; exact h.1
    · have : k = 2 * (k / 2) + 1 := by omega
      rw [this, h.2]; rfl
  unfold Gr.rc
  rw [hc, hz, hz]
  omega
theorem cutP_yes {C : Nat → Bool} {k : Nat} (h : C k = true) : cutL (k + 1) C = cutL k C ++ [(k : Int)] := by simp [cutL, List.range_succ, h]
theorem cutP_no {C : Nat → Bool} {k : Nat} (h : C k = false) : cutL (k + 1) C = cutL k C := by simp [cutL, List.range_succ, h]
theorem cutP_len (C : Nat → Bool) (k : Nat) : (cutL k C).length ≤ k := by
  unfold cutL
  rw [List.length_map]
  exact Nat.le_trans (List.length_filter_le _ _) (by simp)
set_option maxHeartbeats 4000000 in
set_option maxRecDepth 100000 in
theorem Missing_c (A B : Option Addr) (N : Net) (n m cA cB : Nat) (w : World) (hn : n = N.sup.length) (hm : m = N.arcs.length) (hA : n ≤ cA ∧ cA ≤ 9223372036854775807) (hB : m ≤ cB ∧ cB ≤ 9223372036854775807) (hN : NetAt w A B N) :
    Calls Try.prog 28 #[.agg #[.slice A n cA, .slice B m cB]] w fun e w' => MissP N w e w' ∧ Below w.heap.size w w' := by
  have HN := Lib.hid hn
  have HM := Lib.hid hm
  have HNA := Lib.hid hN
  clear hn hm hN
  have B1 := Lib.hid (Blk.new' w #[.slice A n cA, .slice B m cB] 25)
  have HB1 := Lib.hid ((Below.refl w.heap.size w).alloc (Nat.le_refl _) (.cells #[.slice A n cA, .slice B m cB] 25))
  go_enter Try.func28, Try.ntmps28
  go_wp2_with fail
  generalize w.alloc (.cells #[.slice A n cA, .slice B m cB] 25) = w1 at B1 HB1 ⊢
  refine (Check_c A B N n m cA cB w1 HN.out HM.out hA hB (HNA.out.below HB1.out (Nat.le_refl _))).mono ?_
  rintro e w2 ⟨rfl, hb2⟩
  have B2 := Lib.hid (B1.out.below hb2 B1.out.lt)
  have HB2 := Lib.hid (HB1.out.trans (hb2.mono HB1.out.size))
  clear hb2 B1 HB1
  by_cases hch : chE N = 0
  rotate_left
  · have hb0 : (chE N == 0) = false := by simpa using hch
    have HNE := Lib.hid hch
    clear hch
    go_wp2_with fail
    exact bodyPost_ret (v := .tuple #[.slice none 0 0, .int .i64 0, .int .i64 (chE N)]) (by simp [results, Try.results28, go_sem]) rfl ⟨.inl ⟨HNE.out, rfl⟩, HB2.out⟩
  have HCH := Lib.hid hch
  have n1 : 1 ≤ n := by rw [HN.out]; exact (net_len hch).1
  have n2 : n ≤ 1024 := by rw [HN.out]; exact (net_len hch).2.1
  have m2 : m ≤ 2048 := by rw [HM.out]; exact (net_len hch).2.2
  rw [hch]
  clear hch
  have hmk := make_64 n (by omega)
  go_upto_region 4 with fail
  have RD : Hid (∀ W, Below w2.heap.size w2 W → (W.cell? ⟨w.heap.size, 0, none⟩ = some (.slice A n cA) ∧ W.cell? ⟨w.heap.size, 1, none⟩ = some (.slice B m cB)) ∧ Below w.heap.size w W ∧ NetAt W A B N) := Lib.hid (fun W h => by
    have hb := HB2.out.trans (h.mono HB2.out.size)
    have hx := B2.out.below h B2.out.lt
    exact ⟨⟨hx.cell 0 rfl, hx.cell 1 rfl⟩, hb, HNA.out.below hb (Nat.le_refl _)⟩)
  have HT := Lib.hid (Below.refl w2.heap.size w2).drew
  have HS2 := Lib.hid HB2.out.size
  go_cut [6] from 7 (fun s6 wc => ∃ b Ac cc, s6 = .pointer (some ⟨b, 0, none⟩) ∧ Hid (Blk wc b 25 [.slice A n cA, .slice Ac m cc] ∧ OwnR arcV 46 4 w.heap.size wc Ac cc N.arcs ∧ Below w.heap.size w wc ∧ w.heap.size ≤ b))
  case first =>
    refine lBegin (S := fun _ W => (W.cell? ⟨w.heap.size, 0, none⟩ = some (.slice A n cA) ∧ W.cell? ⟨w.heap.size, 1, none⟩ = some (.slice B m cB))) (by kernel_rfl) ?_ (fun hHeld => ?_)
    · (try dsimp only); (first | with_reducible exact (RD.out _ HT.out).1 | with_reducible assumption)
    refine lTake (i := 0) (v := ?_) rfl (by kernel_rfl) (by kernel_rfl) (by kernel_rfl) (fun _ _ _ h => h) (by rfl) (fun _ _ h => h) (fun _ _ h => h) ?_ (by assumption) (fun hHeld2 => ?_)
    rotate_left 1
    · (intro _ _ _ _ _; first | (go_simp; done) | (go_simp; with_reducible rfl))
    clear hHeld; have hHeld := hHeld2; clear hHeld2
    (try simp only [Act.put, List.setIfInBounds_toArray, List.set_cons_zero, List.set_cons_succ])
    refine lTake (i := 1) (v := ?_) rfl (by kernel_rfl) (by kernel_rfl) (by kernel_rfl) (fun _ _ _ h => h) (by rfl) (fun _ _ h => h) (fun _ _ h => h) ?_ (by assumption) (fun hHeld2 => ?_)
    rotate_left 1
    · (intro L W _ _ hSw; (try dsimp only at hSw); first | (go_simp; done) | (go_simp; with_reducible rfl))
    clear hHeld; have hHeld := hHeld2; clear hHeld2
    (try simp only [Act.put, List.setIfInBounds_toArray, List.set_cons_zero, List.set_cons_succ])
    refine lTake (i := 2) (v := ?_) rfl (by kernel_rfl) (by kernel_rfl) (by kernel_rfl) (fun _ _ _ h => h) (by rfl) (fun _ _ h => h) (fun _ _ h => h) ?_ (by assumption) (fun hHeld2 => ?_)
    rotate_left 1
    · (intro _ _ _ _ _; first | (go_simp; done) | (go_simp; with_reducible rfl))
    clear hHeld; have hHeld := hHeld2; clear hHeld2
    (try simp only [Act.put, List.setIfInBounds_toArray, List.set_cons_zero, List.set_cons_succ])
    refine lTake (i := 3) (v := ?_) rfl (by kernel_rfl) (by kernel_rfl) (by kernel_rfl) (fun _ _ _ h => h) (by rfl) (fun _ _ h => h) (fun _ _ h => h) ?_ (by assumption) (fun hHeld2 => ?_)
    rotate_left 1
    · (intro L W _ _ hSw; (try dsimp only at hSw); first | (go_simp; done) | (go_simp; with_reducible rfl))
    clear hHeld; have hHeld := hHeld2; clear hHeld2
    (try simp only [Act.put, List.setIfInBounds_toArray, List.set_cons_zero, List.set_cons_succ])
    refine lReady (rs := [4, 6]) (by kernel_rfl) (by simp) ?_
    refine AllL.cons (i := 4) rfl (fun K hK => ?_) ?_
    · go_simp; (refine (cloneA_c B N.arcs m cB _ HM.out (by omega) (RD.out _ HT.out).2.2.2).mono ?_; rintro e w5 ⟨Ac, cc, rfl, hb5, ho5⟩; (try have HMK := Lib.hid (Blk.below HMK.out hb5 (Blk.lt HMK.out))); have HCL := Lib.hid (show OwnR arcV 46 4 w.heap.size w5 Ac cc N.arcs from (by unfold OwnR; rw [← HM.out]; exact ownV_mono2 ho5 (RD.out _ HT.out).2.1.size)); have HT := Lib.hid (HT.out.trans (hb5.mono HT.out.size)); clear hb5 ho5)
      (try go_wp2_with fail)
      refine hK.out _ _ ?_ (fun hHeld2 => ?_)
      · (try dsimp only); (first | with_reducible exact (RD.out _ HT.out).1 | with_reducible assumption)
      clear hK K
      clear hHeld; have hHeld := hHeld2; clear hHeld2
      (try simp only [Act.put, List.setIfInBounds_toArray, List.set_cons_zero, List.set_cons_succ])
      refine lTake (i := 5) (v := ?_) rfl (by kernel_rfl) (by kernel_rfl) (by kernel_rfl) (fun _ _ _ h => h) (by rfl) (fun _ _ h => h) (fun _ _ h => h) ?_ (by assumption) (fun hHeld2 => ?_)
      rotate_left 1
      · (intro _ _ _ _ _; first | (go_simp; done) | (go_simp; with_reducible rfl))
      clear hHeld; have hHeld := hHeld2; clear hHeld2
      (try simp only [Act.put, List.setIfInBounds_toArray, List.set_cons_zero, List.set_cons_succ])
      refine lReady (rs := [6]) (by kernel_rfl) (by simp) ?_
      refine AllL.cons (i := 6) rfl (fun K hK => ?_) ?_
      · refine step_new (.cells #[.slice none 0 0, .slice none 0 0] 25) (fun g => .pointer (some ⟨g, 0, none⟩)) rfl (by kernel_rfl) ?_; intro b w6 z6 hc6 hb6; (try have HCL := Lib.hid (OwnR.below HCL.out hb6)); have HMK := Lib.hid (show Blk w6 b 25 [.slice none 0 0, .slice none 0 0] from hc6); have HMS := Lib.hid (Nat.le_trans (RD.out _ HT.out).2.1.size z6); have HMT := Lib.hid (Nat.le_trans HT.out.size z6); have HT := Lib.hid (HT.out.trans (hb6.mono HT.out.size)); clear hb6 hc6 z6
        (try go_wp2_with fail)
        refine hK.out _ _ ?_ (fun hHeld2 => ?_)
        · (try dsimp only); (first | with_reducible exact (RD.out _ HT.out).1 | with_reducible assumption)
        clear hK K
        clear hHeld; have hHeld := hHeld2; clear hHeld2
        (try simp only [Act.put, List.setIfInBounds_toArray, List.set_cons_zero, List.set_cons_succ])
        refine lReady (rs := [7]) (by kernel_rfl) (by simp) ?_
        refine AllL.cons (i := 7) rfl (fun K hK => ?_) ?_
        · (have q0 := HMK.out.cell 0 rfl; have q1 := HMK.out.cell 1 rfl; have z0 := HMK.out.free 0; have z1 := HMK.out.free 1; have zl := HMK.out.lt; have HE1 := Lib.hid ((HMK.out.setCell 0 (.slice A n cA)).setCell 1 (.slice Ac m cc)); have HE2 := Lib.hid ((HCL.out.set_ne (p := ⟨b, 0, none⟩) (own_blk_no2 HMK.out HCL.out (by decide)) (.slice A n cA)).set_ne (p := ⟨b, 1, none⟩) (own_blk_no2 (HMK.out.setCell 0 (.slice A n cA)) (HCL.out.set_ne (p := ⟨b, 0, none⟩) (own_blk_no2 HMK.out HCL.out (by decide)) (.slice A n cA)) (by decide)) (.slice Ac m cc)); have HT := Lib.hid ((HT.out.setCell (p := ⟨b, 0, none⟩) HMT.out (.slice A n cA)).setCell (p := ⟨b, 1, none⟩) HMT.out (.slice Ac m cc)); go_simp)
          (try go_wp2_with fail)
          refine hK.out _ _ ?_ (fun hHeld2 => ?_)
          · (try dsimp only); (first | with_reducible exact (RD.out _ HT.out).1 | with_reducible assumption)
          clear hK K
          clear hHeld; have hHeld := hHeld2; clear hHeld2
          (try simp only [Act.put, List.setIfInBounds_toArray, List.set_cons_zero, List.set_cons_succ])
          refine lDone (by kernel_rfl) ?_ _
          go_wp2_with fail
          go_meet
          case rel => exact ⟨b, Ac, cc, rfl, Lib.hid ⟨HE1.out, HE2.out, (RD.out _ HT.out).2.1, HMS.out⟩⟩
        exact AllL.nil
      exact AllL.nil
    refine AllL.cons (i := 6) rfl (fun K hK => ?_) ?_
    · refine step_new (.cells #[.slice none 0 0, .slice none 0 0] 25) (fun g => .pointer (some ⟨g, 0, none⟩)) rfl (by kernel_rfl) ?_; intro b w6 z6 hc6 hb6; (try have HCL := Lib.hid (OwnR.below HCL.out hb6)); have HMK := Lib.hid (show Blk w6 b 25 [.slice none 0 0, .slice none 0 0] from hc6); have HMS := Lib.hid (Nat.le_trans (RD.out _ HT.out).2.1.size z6); have HMT := Lib.hid (Nat.le_trans HT.out.size z6); have HT := Lib.hid (HT.out.trans (hb6.mono HT.out.size)); clear hb6 hc6 z6
      (try go_wp2_with fail)
      refine hK.out _ _ ?_ (fun hHeld2 => ?_)
      · (try dsimp only); (first | with_reducible exact (RD.out _ HT.out).1 | with_reducible assumption)
      clear hK K
      clear hHeld; have hHeld := hHeld2; clear hHeld2
      (try simp only [Act.put, List.setIfInBounds_toArray, List.set_cons_zero, List.set_cons_succ])
      refine lReady (rs := [4]) (by kernel_rfl) (by simp) ?_
      refine AllL.cons (i := 4) rfl (fun K hK => ?_) ?_
      · go_simp; (refine (cloneA_c B N.arcs m cB _ HM.out (by omega) (RD.out _ HT.out).2.2.2).mono ?_; rintro e w5 ⟨Ac, cc, rfl, hb5, ho5⟩; (try have HMK := Lib.hid (Blk.below HMK.out hb5 (Blk.lt HMK.out))); have HCL := Lib.hid (show OwnR arcV 46 4 w.heap.size w5 Ac cc N.arcs from (by unfold OwnR; rw [← HM.out]; exact ownV_mono2 ho5 (RD.out _ HT.out).2.1.size)); have HT := Lib.hid (HT.out.trans (hb5.mono HT.out.size)); clear hb5 ho5)
        (try go_wp2_with fail)
        refine hK.out _ _ ?_ (fun hHeld2 => ?_)
        · (try dsimp only); (first | with_reducible exact (RD.out _ HT.out).1 | with_reducible assumption)
        clear hK K
        clear hHeld; have hHeld := hHeld2; clear hHeld2
        (try simp only [Act.put, List.setIfInBounds_toArray, List.set_cons_zero, List.set_cons_succ])
        refine lTake (i := 5) (v := ?_) rfl (by kernel_rfl) (by kernel_rfl) (by kernel_rfl) (fun _ _ _ h => h) (by rfl) (fun _ _ h => h) (fun _ _ h => h) ?_ (by assumption) (fun hHeld2 => ?_)
        rotate_left 1
        · (intro _ _ _ _ _; first | (go_simp; done) | (go_simp; with_reducible rfl))
        clear hHeld; have hHeld := hHeld2; clear hHeld2
        (try simp only [Act.put, List.setIfInBounds_toArray, List.set_cons_zero, List.set_cons_succ])
        refine lReady (rs := [7]) (by kernel_rfl) (by simp) ?_
        refine AllL.cons (i := 7) rfl (fun K hK => ?_) ?_
        · (have q0 := HMK.out.cell 0 rfl; have q1 := HMK.out.cell 1 rfl; have z0 := HMK.out.free 0; have z1 := HMK.out.free 1; have zl := HMK.out.lt; have HE1 := Lib.hid ((HMK.out.setCell 0 (.slice A n cA)).setCell 1 (.slice Ac m cc)); have HE2 := Lib.hid ((HCL.out.set_ne (p := ⟨b, 0, none⟩) (own_blk_no2 HMK.out HCL.out (by decide)) (.slice A n cA)).set_ne (p := ⟨b, 1, none⟩) (own_blk_no2 (HMK.out.setCell 0 (.slice A n cA)) (HCL.out.set_ne (p := ⟨b, 0, none⟩) (own_blk_no2 HMK.out HCL.out (by decide)) (.slice A n cA)) (by decide)) (.slice Ac m cc)); have HT := Lib.hid ((HT.out.setCell (p := ⟨b, 0, none⟩) HMT.out (.slice A n cA)).setCell (p := ⟨b, 1, none⟩) HMT.out (.slice Ac m cc)); go_simp)
          (try go_wp2_with fail)
          refine hK.out _ _ ?_ (fun hHeld2 => ?_)
          · (try dsimp only); (first | with_reducible exact (RD.out _ HT.out).1 | with_reducible assumption)
          clear hK K
          clear hHeld; have hHeld := hHeld2; clear hHeld2
          (try simp only [Act.put, List.setIfInBounds_toArray, List.set_cons_zero, List.set_cons_succ])
          refine lDone (by kernel_rfl) ?_ _
          go_wp2_with fail
          go_meet
          case rel => exact ⟨b, Ac, cc, rfl, Lib.hid ⟨HE1.out, HE2.out, (RD.out _ HT.out).2.1, HMS.out⟩⟩
        exact AllL.nil
      exact AllL.nil
    exact AllL.nil
  case rest =>
    clear HT RD B2 HB2
    obtain ⟨b, Ac, cc, rfl, HJ⟩ := hcut
    have j1 := HJ.out.1.cell 1 rfl
    have jl := HJ.out.1.lt
    have HJ0 : Hid (Blk wc b 25 [.slice A n cA, .slice Ac m cc] ∧ OwnR arcV 46 4 w.heap.size wc Ac cc (zcL N.arcs 0) ∧ Below w.heap.size w wc) := Lib.hid ⟨HJ.out.1, by rw [zcL_0]; exact HJ.out.2.1, HJ.out.2.2.1⟩
    have hbw := HJ.out.2.2.2
    clear HJ
    go_upto_region 6 with fail
    go_wp2_with fail
    clear j1 jl
    go_loopg [30] m (fun q iv wr => ∃ k : Nat, iv = .int .i64 k ∧ k + q = m ∧ Hid (Blk wr b 25 [.slice A n cA, .slice Ac m cc] ∧ OwnR arcV 46 4 w.heap.size wr Ac cc (zcL N.arcs k) ∧ Below w.heap.size w wr))
    case atStart => exact ⟨0, rfl, by omega, HJ0⟩
    case round =>
      clear HJ0
      obtain ⟨k, rfl, hkq, HJ⟩ := hrel
      have j0 := HJ.out.1.cell 0 rfl
      have j1 := HJ.out.1.cell 1 rfl
      have jl := HJ.out.1.lt
      by_cases hlt : k < m
      · have hki : (k : Int) < (m : Int) := by omega
        have kA : k < N.arcs.length := by rw [← HM.out]; exact hlt
        obtain ⟨g, rfl, hg1, hg2, _⟩ := HJ.out.2.1.form (by rw [zcL_len]; omega)
        have c3 := HJ.out.2.1.cell (s := 4) (f := arcV) (fun _ => rfl) k 3 _ (zcL_get kA) (by decide)
        have z3 := HJ.out.2.1.free (k * 4 + 3)
        have HE : Hid (Blk (wr.setCell ⟨g, k * 4 + 3, none⟩ (.int .i64 0)) b 25 [.slice A n cA, .slice (some ⟨g, 0, none⟩) m cc] ∧ OwnR arcV 46 4 w.heap.size (wr.setCell ⟨g, k * 4 + 3, none⟩ (.int .i64 0)) (some ⟨g, 0, none⟩) cc (zcL N.arcs (k + 1)) ∧ Below w.heap.size w (wr.setCell ⟨g, k * 4 + 3, none⟩ (.int .i64 0))) := Lib.hid ⟨HJ.out.1.setCell_ne (p := ⟨g, k * 4 + 3, none⟩) (fun e => own_blk_no2 HJ.out.1 HJ.out.2.1 (by decide) (ownB_some.2 e)) _, by
          have h := HJ.out.2.1.put (s := 4) (f := arcV) (fun _ => rfl) k 3 (noC (N.arcs.getD k default)) (N.arcs.getD k default) (.int .i64 0) (zcL_get kA) (by decide) rfl
          rw [zcL_set kA] at h
          exact h, HJ.out.2.2.setCell (p := ⟨g, k * 4 + 3, none⟩) hg1 _⟩
        generalize N.arcs.getD k default = ar at *
        obtain ⟨x1, x2, x3, x4⟩ := ar
        have c3 : wr.cell? ⟨g, k * 4 + 3, none⟩ = some (.int .i64 x4) := c3
        go_wp2_with fail
        go_roundg (gk - 1)
        case measure => omega
        case rel => exact ⟨k + 1, by go_num, by omega, HE⟩
      · obtain rfl : m = k := by omega
        have HZ : Hid (OwnR arcV 46 4 w.heap.size wr Ac cc (zcN N).arcs) := Lib.hid (by have h := HJ.out.2.1; rw [HM.out, zcL_all] at h; exact h)
        have HF := Lib.hid (fr_ch HCH.out)
        have HZL : Hid (m = (zcN N).arcs.length) := Lib.hid (by rw [fr_len]; exact HM.out)
        have HBW := Lib.hid HJ.out.2.2
        obtain ⟨ha, hc1, hc2⟩ := own_arcs2 (by have h := HZ.out; unfold OwnR at h; rw [← HZL.out] at h; exact h) HZL.out
        have HNZ : Hid (NetAt wr A Ac (zcN N)) := Lib.hid ⟨(HNA.out.below HBW.out (Nat.le_refl _)).1, ha⟩
        clear ha HJ HZ
        go_wp2_with fail
        refine (newGraph_c A Ac (zcN N) n m cA cc wr HN.out HZL.out HF.out hA ⟨hc1, hc2⟩ HNZ.out).mono ?_
        obtain ⟨BB, hBB⟩ : ∃ BB, BB = wr.heap.size := ⟨_, rfl⟩
        rw [← hBB]
        rintro e w3 ⟨b3, gl, cl, E, ce, bo, rfl, hb3, hg3⟩
        rw [hBB] at hb3
        clear j0 j1 jl HNZ
        have HB3 := Lib.hid (HBW.out.trans (hb3.mono HBW.out.size))
        have c2 := hg3.blk.cell 2 rfl
        have c2l := hg3.blk.lt
        have OK0 : Hid ((gr0 (zcN N)).Ok n) := Lib.hid (by have h := gr0_ok HF.out; rw [show (zcN N).sup.length = n from HN.out.symm] at h; exact h)
        rw [OK0.out.lo] at c2
        have FT0 := Lib.hid (gr0_fits (N := zcN N))
        have S3 : Hid (∀ k, k = gl ∨ OwnB E k → w.heap.size ≤ k) := Lib.hid (fun k hk => by
          rcases hk with h | h
          · have := hg3.base.2; have := HBW.out.size; omega
          · have := (ownLt hg3.es h).2; have := HBW.out.size; omega)
        have F0 := Lib.hid (fl_new 2 n w3)
        have al := (Below.refl w3.heap.size w3).alloc (Nat.le_refl _) (.cells (Array.replicate n (.int .i64 0)) 2)
        have G3 := Lib.hid (hg3.below al)
        have HB4 := Lib.hid (HB3.out.trans (al.mono HB3.out.size))
        have EB2 := Lib.hid (fun k (h : OwnB E k) => (ownLt hg3.es h).1)
        have hgl : gl < w3.heap.size := hg3.left.lt.2
        have hglp : gl ≠ w3.heap.size := by omega
        have hegp : ¬ OwnB E w3.heap.size := fun h => by have := EB2.out _ h; omega
        clear hb3 hg3 al
        go_wp2_with fail
        clear c2 c2l
        generalize w3.alloc (.cells (Array.replicate n (.int .i64 0)) 2) = w4 at F0 G3 HB4 ⊢
        generalize w3.heap.size = gp at *
        go_loopg [12] (restV (gr0 (zcN N)).left).toNat (fun q ev wr => Hid (∃ G2, G2.Ok n ∧ Fits (zcN N) G2 ∧ GrAt wr BB b3 gl cl E ce bo G2 ∧ Fl 2 wr gp (List.replicate n 0) ∧ (restV G2.left).toNat = q ∧ Touch (fun k => k = gl ∨ OwnB E k) w4 wr))
        case atStart => exact Lib.hid ⟨gr0 (zcN N), OK0.out, FT0.out, G3.out, F0.out, rfl, Touch.refl _ _⟩
        case round =>
          clear OK0 FT0 G3 F0
          obtain ⟨G2, q1, q2, q3, q4, q5, q6⟩ := hrel.out
          have OK := Lib.hid q1
          have FT := Lib.hid q2
          have GA := Lib.hid q3
          have FP := Lib.hid q4
          have HR := Lib.hid q5
          have TA := Lib.hid q6
          have PO := Lib.hid (zero_pot (n := n) q2)
          clear hrel q1 q2 q3 q4 q5 q6
          go_wp2_with fail
          refine (nearest_c b3 gl cl ce bo BB n n E (some ⟨gp, 0, none⟩) G2 (List.replicate n 0) _ OK.out PO.out GA.out FP.out.ints ⟨Nat.le_refl _, by omega⟩).mono ?_
          rintro e w5 ⟨gf, gb, fa, vi, en, rfl, hb5, hf5, hv5, z1, z2, nr⟩
          have G5 := Lib.hid (GA.out.below hb5)
          have T5 := Lib.hid (TA.out.below hb5)
          have P5 := Lib.hid (FP.out.below hb5)
          have F5 := Lib.hid hf5
          have V5 := Lib.hid hv5
          have NRR := Lib.hid nr
          have hpb : gb ≠ gl ∧ ¬ OwnB E gb := by
            have h1 := GA.out.left.lt.2
            refine ⟨by omega, fun h => ?_⟩
            have := (ownLt GA.out.es h).1
            omega
          clear hb5 hf5 hv5 nr
          by_cases hen : en < 0
          · have hem : en = -1 := by
              rcases NRR.out.fin with ⟨e, _⟩ | ⟨t, e, _⟩
              · exact e
              · omega
            subst hem
            have OKN : Hid (G2.Ok (zcN N).sup.length) := Lib.hid (by rw [show (zcN N).sup.length = n from HN.out.symm]; exact OK.out)
            have CUT : Hid (lkA N (cutL n (fun v => decide (fa.getD v 0 < never))) m = restV G2.left) := Lib.hid (by
              have h := NRR.out
              rw [show n = (zcN N).sup.length from HN.out] at h
              have h2 := end_cut HF.out OKN.out FT.out h
              rw [fr_len, fr_lkA _ (Nat.le_refl _), ← HM.out] at h2
              rw [HN.out]; exact h2)
            have FLO : Hid (restV G2.left = 0 → ∃ fl, isFlow N fl = true) := Lib.hid (fun h => ⟨_, by have h2 := (end_flow HF.out OKN.out FT.out PO.out.rc h).1; rw [fr_flow] at h2; exact h2⟩)
            have RN := rest_nn G2.left
            have HB5 := Lib.hid (Below.touch HB4.out HB4.out.size T5.out S3.out)
            have RC := Lib.hid (fun W (h : GrAt W BB b3 gl cl E ce bo G2) => rest_c b3 gl cl ce bo BB n E G2 W OK.out h)
            go_wp2_with fail
            refine (RC.out _ G5.out).mono ?_
            rintro e w6 ⟨rfl, rfl⟩
            generalize restV G2.left = R at *
            by_cases hr : R = 0
            · have hr0 : (R == 0) = true := by simpa using hr
              have C1 := Lib.hid (FLO.out hr)
              clear hr
              go_wp2_with fail
              exact bodyPost_ret (v := .tuple #[.slice none 0 0, .int .i64 0, .int .i64 18]) (by simp [results, Try.results28, go_sem]) rfl ⟨.inr (.inl ⟨HCH.out, rfl, C1.out⟩), HB5.out⟩
            have hr0 : (R == 0) = false := by simpa using hr
            have hrp : 0 < R := by omega
            have L1 := Lib.hid NRR.out.l1
            obtain ⟨i3, h3i, h3z, h3s, h3b⟩ := info_parts info3
            have HO0 : Hid (w5.ownsRow w5.heap.size 3 1 (.slice none 0 0) 0 ((cutL 0 (fun v => decide (fa.getD v 0 < never))).map (.int .i64))) := Lib.hid (World.ownsRow_nil _ _ _ _)
            go_upto_region 17 with fail
            go_wp2_with fail
            go_loopw [13, 65] (fun sv iv wr => ∃ (k c : Nat) (Ax : Option Addr) (cx : Nat), k ≤ n ∧ c = (cutL k (fun v => decide (fa.getD v 0 < never))).length ∧ iv = .int .i64 k ∧ sv = .slice Ax c cx ∧ Hid (Below w5.heap.size w5 wr ∧ wr.ownsRow w5.heap.size 3 1 (.slice Ax c cx) c ((cutL k (fun v => decide (fa.getD v 0 < never))).map (.int .i64)))) (fun _ iv _ => n - (intOf iv).toNat)
            case atStart => exact ⟨0, 0, none, 0, Nat.zero_le _, rfl, rfl, rfl, Lib.hid ⟨Below.refl _ _, HO0.out⟩⟩
            case round =>
              clear HO0
              obtain ⟨k, c, Ax, cx, hk, hc, rfl, rfl, HW⟩ := hrel
              have hck := cutP_len (fun v => decide (fa.getD v 0 < never)) k
              rw [← hc] at hck
              have hcx : c ≤ cx ∧ cx ≤ 9223372036854775807 := own_cap2 HW.out.2
              by_cases hlt : k < n
              · have hki : (k : Int) < (n : Int) := by omega
                have f5 := (F5.out.below HW.out.1).cell k (by rw [L1.out]; exact hlt)
                have f5l := (F5.out.below HW.out.1).lt
                have CY := Lib.hid (fun h => cutP_yes (C := fun v => decide (fa.getD v 0 < never)) (k := k) h)
                have CN := Lib.hid (fun h => cutP_no (C := fun v => decide (fa.getD v 0 < never)) (k := k) h)
                have htop := NRR.out.top k hlt
                have HC := Lib.hid hc
                clear hc
                have hun : never = 1152921504606846976 := rfl
                rw [hun] at htop
                by_cases hfk : fa.getD k 0 < never
                · have CY2 := Lib.hid (CY.out (decide_eq_true hfk))
                  rw [hun] at hfk
                  clear CN CY
                  generalize fa.getD k 0 = fk at *
                  have d1 : decide (fk < 1152921504606846976) = true := decide_eq_true hfk
                  have hb := (Below.refl wr.heap.size wr).alloc (Nat.le_refl _) (.cells #[.int .i64 k] 3)
                  have HO := Lib.hid (ownBelow HW.out.2 hb)
                  have HBA := Lib.hid (HW.out.1.trans (hb.mono HW.out.1.size))
                  have X := Lib.hid (Blk.new' wr #[.int .i64 k] 3)
                  clear hb
                  go_wp2_with (at_builtin; refine wpList_append_any (.tmp 72) (.tmp 74) 26 rfl rfl w5.heap.size 3 i3 (.int .i64 0) 1 8 Try.underlying26 h3i h3z h3s h3b rfl (by decide) Ax c cx _ (by rfl) HO.out (some ⟨wr.heap.size, 0, none⟩) 1 1 [.int .i64 k] (by rfl) (by rfl) (.inr ⟨_, rfl, fun j u hj => by rcases j with _ | j <;> simp at hj; subst hj; exact X.out.cell 0 rfl⟩) (by simp [Value.oneCell']) (by unfold maxLen; omega) (by omega) (HBA.out.size) ?_; intro A3 c3 w7 hown hgrow hat; have HE : Hid (Below w5.heap.size w5 w7 ∧ w7.ownsRow w5.heap.size 3 1 (.slice A3 (c + 1) c3) (c + 1) ((cutL (k + 1) (fun v => decide (fa.getD v 0 < never))).map (.int .i64))) := Lib.hid ⟨HBA.out.grown hgrow HBA.out.size (fun j e => (World.ownsRow.lt HO.out j e).1), by rw [CY2.out, List.map_append]; exact hown⟩; clear hown hgrow hat)
                  exact ⟨⟨k + 1, c + 1, A3, c3, by omega, by rw [CY2.out, List.length_append, ← HC.out]; rfl, by go_num, rfl, HE⟩, by simp [intOf]; omega⟩
                · have CN2 := Lib.hid (CN.out (decide_eq_false hfk))
                  rw [hun] at hfk
                  clear CY CN
                  generalize fa.getD k 0 = fk at *
                  have d1 : decide (fk < 1152921504606846976) = false := decide_eq_false hfk
                  have HE : Hid (Below w5.heap.size w5 wr ∧ wr.ownsRow w5.heap.size 3 1 (.slice Ax c cx) c ((cutL (k + 1) (fun v => decide (fa.getD v 0 < never))).map (.int .i64))) := Lib.hid (by rw [CN2.out]; exact HW.out)
                  go_wp2_with fail
                  exact ⟨⟨k + 1, c, Ax, cx, by omega, by rw [CN2.out]; exact HC.out, by go_num, rfl, HE⟩, by simp [intOf]; omega⟩
              · obtain rfl : n = k := by omega
                have G6 := Lib.hid (G5.out.below HW.out.1)
                have HB6 := Lib.hid (HB5.out.trans (HW.out.1.mono HB5.out.size))
                have HO6 := Lib.hid (ownV_mono2 HW.out.2 HB5.out.size)
                have HC := Lib.hid hc
                clear hc HW
                go_wp2_with fail
                refine (RC.out _ G6.out).mono ?_
                rintro e w6 ⟨rfl, rfl⟩
                have CK := Lib.hid (cutL_ok (n := N.sup.length) (C := fun v => decide (fa.getD v 0 < never)))
                rw [← HN.out] at CK
                have CK3 : Hid (∀ k, k < (cutL n (fun v => decide (fa.getD v 0 < never))).length → cutAt N.sup.length (cutL n (fun v => decide (fa.getD v 0 < never))) k = true) := Lib.hid (by rw [← HN.out]; exact CK.out)
                have hc0 : c ≠ 0 := fun h => by
                  have h1 := HC.out
                  rw [h] at h1
                  have h2 := CUT.out
                  rw [List.length_eq_zero_iff.1 h1.symm, lkA_nil] at h2
                  omega
                obtain ⟨g, cap, hv, hgb, hlt2⟩ := HO6.out.form (by omega)
                cases hv
                go_wp2_with fail
                exact bodyPost_ret (v := .tuple #[.slice (some ⟨g, 0, none⟩) c cx, .int .i64 R, .int .i64 0]) (by simp [results, Try.results28, go_sem]) rfl ⟨.inr (.inr ⟨HCH.out, g, cx, cutL n (fun v => decide (fa.getD v 0 < never)), by rw [← HC.out, ← HM.out, CUT.out], by rw [← HC.out]; exact HO6.out, by rw [← HC.out]; omega, CK3.out, by rw [← HM.out, CUT.out]; exact hrp, cut_none (c := cutL n (fun v => decide (fa.getD v 0 < never))) HCH.out CK3.out (by rw [← HM.out, CUT.out]; exact hrp)⟩), HB6.out⟩
          · obtain ⟨t, rfl⟩ : ∃ t : Nat, en = t := ⟨en.toNat, by omega⟩
            have TF : Hid (t < n ∧ G2.lf t < 0 ∧ fa.getD t 0 < never) := Lib.hid (by
              rcases NRR.out.fin with ⟨e, _⟩ | ⟨t', e, h1, h2, h3, h4⟩
              · omega
              · obtain rfl : t' = t := by omega
                exact ⟨h1, h2, h3⟩)
            have htn : t < n := TF.out.1
            have hti : (t : Int) < (n : Int) := by omega
            have d0 : decide ((0 : Int) ≤ (t : Int)) = true := decide_eq_true (by omega)
            obtain ⟨S, s1, s2, s3, s4⟩ := NRR.out.ch
            obtain ⟨ks, s, y1, y2, y3, y4, y5⟩ := chn_way s1 s4 t ((s2 t htn).2 TF.out.2.2)
            have hsn : s < n := s3 s (y5 s (y1.last))
            have SE := Lib.hid (send_c b3 gl cl ce bo BB n n s t E (some ⟨gb, 0, none⟩) G2 vi ks w5 OK.out y1 y4 hsn htn y2 TF.out.2.1 (fun j hj => (y3 j hj).1) NRR.out.l2 ⟨Nat.le_refl _, by omega⟩ G5.out V5.out.ints (fun q hq => by rw [ownB_some.1 hq]; exact hpb))
            clear s1 s2 s3 s4 y1 y2 y3 y4 y5
            go_wp2_with fail
            refine SE.out.mono ?_
            rintro e w6 ⟨rfl, x, hse, hga, hto⟩
            have SX := Lib.hid hse
            have G6 := Lib.hid hga
            have T6 := Lib.hid (T5.out.trans hto)
            have P6 := Lib.hid (P5.out.touch hto (fun h => by
              rcases h with h | h
              · exact hglp h.symm
              · exact hegp h))
            have ok := hse.ok OK.out
            have F6 := Lib.hid (FT.out.pushL OK.out.fine (ks := ks) (x := x) (fun j hj => (ok.1 j hj).1))
            have M6 := Lib.hid (rest_push hse OK.out)
            have MN := Lib.hid (rest_nn (G2.pushL ks x).left)
            have OK6 := Lib.hid ok.2.2
            clear hse hga hto ok SE
            go_wp2_with fail
            go_roundg (restV (G2.pushL ks x).left).toNat
            case measure => have h1 := M6.out; have h2 := MN.out; have h3 := SX.out.x0; have h4 := HR.out; omega
            case rel => exact Lib.hid ⟨_, OK6.out, F6.out, G6.out, P6.out, rfl, T6.out⟩
end Go.Proofs.Ytmebpglkeedaoaa
namespace Go.Proofs.Ytmebpglkeedaoaa
open Go.RowKit Dp
theorem km_start (V : World) : NetAt ((V.alloc (.cells #[.int .i64 3, .int .i64 (-3)] 2)).alloc (.cells #[.int .i64 0, .int .i64 1, .int .i64 2, .int .i64 1] 46)) (some ⟨V.heap.size, 0, none⟩) (some ⟨V.heap.size + 1, 0, none⟩) ksM := by
  have x1 : Fl 2 ((V.alloc (.cells #[.int .i64 3, .int .i64 (-3)] 2)).alloc (.cells #[.int .i64 0, .int .i64 1, .int .i64 2, .int .i64 1] 46)) V.heap.size [3, -3] := (Blk.new' V #[.int .i64 3, .int .i64 (-3)] 2).alloc _
  have x2 := Blk.new' (V.alloc (.cells #[.int .i64 3, .int .i64 (-3)] 2)) #[.int .i64 0, .int .i64 1, .int .i64 2, .int .i64 1] 46
  have x3 : Blk ((V.alloc (.cells #[.int .i64 3, .int .i64 (-3)] 2)).alloc (.cells #[.int .i64 0, .int .i64 1, .int .i64 2, .int .i64 1] 46)) (V.heap.size + 1) 46 [.int .i64 0, .int .i64 1, .int .i64 2, .int .i64 1] := by simpa using x2
  refine ⟨x1.ints, fun i hi => ?_⟩
  have hi' : i < 1 := hi
  obtain rfl : i = 0 := by omega
  have had : (⟨V.heap.size + 1, 0, none⟩ : Addr).add (0 * 4) = ⟨V.heap.size + 1, 0, none⟩ := by simp [Addr.add]
  exact ⟨⟨V.heap.size + 1, 0, none⟩, rfl, x3.lt, by rw [had]; exact x3.cell 0 rfl, by rw [had]; exact x3.cell 1 rfl, by rw [had]; exact x3.cell 2 rfl, by rw [had]; exact x3.cell 3 rfl⟩
theorem CX.start (V : World) : CX (((V.alloc (.cells #[.int .i64 1, .int .i64 1] 2)).alloc (.cells #[.int .i64 (-1), .int .i64 (-1)] 2)).alloc (.cells #[.slice (some ⟨V.heap.size, 0, none⟩) 2 2, .slice (some ⟨V.heap.size + 1, 0, none⟩) 2 2] 22)) (V.heap.size + 1 + 1) V.heap.size (V.heap.size + 1) := by
  have x1 := Blk.new' V #[.int .i64 1, .int .i64 1] 2
  have x2 := Blk.new' (V.alloc (.cells #[.int .i64 1, .int .i64 1] 2)) #[.int .i64 (-1), .int .i64 (-1)] 2
  have x3 := Blk.new' ((V.alloc (.cells #[.int .i64 1, .int .i64 1] 2)).alloc (.cells #[.int .i64 (-1), .int .i64 (-1)] 2)) #[.slice (some ⟨V.heap.size, 0, none⟩) 2 2, .slice (some ⟨V.heap.size + 1, 0, none⟩) 2 2] 22
  refine ⟨?_, (x1.alloc _).alloc _, ?_⟩
  · simpa using x3
  · simpa using x2.alloc (.cells #[.slice (some ⟨V.heap.size, 0, none⟩) 2 2, .slice (some ⟨V.heap.size + 1, 0, none⟩) 2 2] 22)
structure KsJ (k : Nat) (W : World) : Prop where
  b : Blk W (k + 1 + 1 + 1 + 1) 51 [.slice (some ⟨k, 0, none⟩) 3 3, .slice (some ⟨k + 1, 0, none⟩) 3 3, .slice (some ⟨k + 1 + 1, 0, none⟩) 3 3, .slice (some ⟨k + 1 + 1 + 1, 0, none⟩) 3 3]
  s : SiteAt W (some ⟨k, 0, none⟩) (some ⟨k + 1, 0, none⟩) (some ⟨k + 1 + 1, 0, none⟩) (some ⟨k + 1 + 1 + 1, 0, none⟩) ksS
theorem KsJ.below {k : Nat} {W V : World} (h : KsJ k W) (hb : Below W.heap.size W V) : KsJ k V := ⟨h.b.below hb h.b.lt, h.s.below hb (Nat.le_refl _)⟩
theorem KsJ.start (V : World) : KsJ V.heap.size (((((V.alloc (.cells #[.int .i64 2, .int .i64 2, .int .i64 2] 2)).alloc (.cells #[.int .i64 0, .int .i64 0, .int .i64 0] 2)).alloc (.cells #[.int .i64 5, .int .i64 1, .int .i64 3] 2)).alloc (.cells #[.int .i64 0, .int .i64 0, .int .i64 0] 2)).alloc (.cells #[.slice (some ⟨V.heap.size, 0, none⟩) 3 3, .slice (some ⟨V.heap.size + 1, 0, none⟩) 3 3, .slice (some ⟨V.heap.size + 1 + 1, 0, none⟩) 3 3, .slice (some ⟨V.heap.size + 1 + 1 + 1, 0, none⟩) 3 3] 51)) := by
  have x1 : Fl 2 _ V.heap.size [2, 2, 2] := Blk.new' V #[.int .i64 2, .int .i64 2, .int .i64 2] 2
  generalize hW1 : V.alloc (.cells #[.int .i64 2, .int .i64 2, .int .i64 2] 2) = W1 at x1 ⊢
  have e1 : W1.heap.size = V.heap.size + 1 := by rw [← hW1]; simp
  have x2 : Fl 2 _ W1.heap.size [0, 0, 0] := Blk.new' W1 #[.int .i64 0, .int .i64 0, .int .i64 0] 2
  have x1 := Blk.alloc x1 (.cells #[.int .i64 0, .int .i64 0, .int .i64 0] 2)
  generalize hW2 : W1.alloc (.cells #[.int .i64 0, .int .i64 0, .int .i64 0] 2) = W2 at x1 x2 ⊢
  have e2 : W2.heap.size = V.heap.size + 1 + 1 := by rw [← hW2]; simp [e1]
  have x3 : Fl 2 _ W2.heap.size [5, 1, 3] := Blk.new' W2 #[.int .i64 5, .int .i64 1, .int .i64 3] 2
  have x1 := Blk.alloc x1 (.cells #[.int .i64 5, .int .i64 1, .int .i64 3] 2)
  have x2 := Blk.alloc x2 (.cells #[.int .i64 5, .int .i64 1, .int .i64 3] 2)
  generalize hW3 : W2.alloc (.cells #[.int .i64 5, .int .i64 1, .int .i64 3] 2) = W3 at x1 x2 x3 ⊢
  have e3 : W3.heap.size = V.heap.size + 1 + 1 + 1 := by rw [← hW3]; simp [e2]
  have x4 : Fl 2 _ W3.heap.size [0, 0, 0] := Blk.new' W3 #[.int .i64 0, .int .i64 0, .int .i64 0] 2
  have x1 := Blk.alloc x1 (.cells #[.int .i64 0, .int .i64 0, .int .i64 0] 2)
  have x2 := Blk.alloc x2 (.cells #[.int .i64 0, .int .i64 0, .int .i64 0] 2)
  have x3 := Blk.alloc x3 (.cells #[.int .i64 0, .int .i64 0, .int .i64 0] 2)
  generalize hW4 : W3.alloc (.cells #[.int .i64 0, .int .i64 0, .int .i64 0] 2) = W4 at x1 x2 x3 x4 ⊢
  have e4 : W4.heap.size = V.heap.size + 1 + 1 + 1 + 1 := by rw [← hW4]; simp [e3]
  have x5 := Blk.new' W4 #[.slice (some ⟨V.heap.size, 0, none⟩) 3 3, .slice (some ⟨V.heap.size + 1, 0, none⟩) 3 3, .slice (some ⟨V.heap.size + 1 + 1, 0, none⟩) 3 3, .slice (some ⟨V.heap.size + 1 + 1 + 1, 0, none⟩) 3 3] 51
  rw [e1] at x2
  rw [e2] at x3
  rw [e3] at x4
  rw [e4] at x5
  generalize (Obj.cells #[.slice (some ⟨V.heap.size, 0, none⟩) 3 3, .slice (some ⟨V.heap.size + 1, 0, none⟩) 3 3, .slice (some ⟨V.heap.size + 1 + 1, 0, none⟩) 3 3, .slice (some ⟨V.heap.size + 1 + 1 + 1, 0, none⟩) 3 3] 51) = O at x5 ⊢
  have f1 : Fl 2 (W4.alloc O) V.heap.size [2, 2, 2] := Blk.alloc x1 O
  have f2 : Fl 2 (W4.alloc O) (V.heap.size + 1) [0, 0, 0] := Blk.alloc x2 O
  have f3 : Fl 2 (W4.alloc O) (V.heap.size + 1 + 1) [5, 1, 3] := Blk.alloc x3 O
  have f4 : Fl 2 (W4.alloc O) (V.heap.size + 1 + 1 + 1) [0, 0, 0] := Blk.alloc x4 O
  exact ⟨x5, f1.ints, f2.ints, f3.ints, f4.ints⟩
theorem kc_start (V : World) : CarsAt (V.alloc (.cells #[.int .i64 10, .int .i64 2, .int .i64 0, .int .i64 0, .int .i64 3, .slice none 0 0] 63)) (some ⟨V.heap.size, 0, none⟩) ksC := fun i hi => by
  have x := Blk.new' V #[.int .i64 10, .int .i64 2, .int .i64 0, .int .i64 0, .int .i64 3, .slice none 0 0] 63
  have hi' : i < 1 := hi
  obtain rfl : i = 0 := by omega
  have had : (⟨V.heap.size, 0, none⟩ : Addr).add (0 * 6) = ⟨V.heap.size, 0, none⟩ := by simp [Addr.add]
  refine ⟨⟨V.heap.size, 0, none⟩, rfl, x.lt, by rw [had]; exact x.cell 0 rfl, by rw [had]; exact x.cell 1 rfl, by rw [had]; exact x.cell 2 rfl, by rw [had]; exact x.cell 3 rfl, by rw [had]; exact x.cell 4 rfl, none, 0, by rw [had]; exact x.cell 5 rfl, ⟨Nat.le_refl _, by omega⟩, fun j hj => absurd hj (Nat.not_lt_zero _)⟩
theorem kr_start (V : World) : RowsAt ((V.alloc (.cells #[.int .i64 2, .int .i64 2, .int .i64 2] 2)).alloc (.cells #[.slice (some ⟨V.heap.size, 0, none⟩) 3 3] 22)) (some ⟨V.heap.size + 1, 0, none⟩) [[2, 2, 2]] := fun i hi => by
  have x1 : Fl 2 ((V.alloc (.cells #[.int .i64 2, .int .i64 2, .int .i64 2] 2)).alloc (.cells #[.slice (some ⟨V.heap.size, 0, none⟩) 3 3] 22)) V.heap.size [2, 2, 2] := (Blk.new' V #[.int .i64 2, .int .i64 2, .int .i64 2] 2).alloc _
  have x2 := Blk.new' (V.alloc (.cells #[.int .i64 2, .int .i64 2, .int .i64 2] 2)) #[.slice (some ⟨V.heap.size, 0, none⟩) 3 3] 22
  have x3 : Blk ((V.alloc (.cells #[.int .i64 2, .int .i64 2, .int .i64 2] 2)).alloc (.cells #[.slice (some ⟨V.heap.size, 0, none⟩) 3 3] 22)) (V.heap.size + 1) 22 [.slice (some ⟨V.heap.size, 0, none⟩) 3 3] := by simpa using x2
  have hi' : i < 1 := hi
  obtain rfl : i = 0 := by omega
  have had : (⟨V.heap.size + 1, 0, none⟩ : Addr).add 0 = ⟨V.heap.size + 1, 0, none⟩ := by simp [Addr.add]
  exact ⟨⟨V.heap.size + 1, 0, none⟩, rfl, x3.lt, some ⟨V.heap.size, 0, none⟩, 3, by rw [had]; exact x3.cell 0 rfl, ⟨Nat.le_refl _, by omega⟩, x1.ints⟩
theorem km_miss {w w' : World} {e : Ending} (h : MissP ksM w e w') : ∃ g c : Nat, e = .returned (.tuple #[.slice (some ⟨g, 0, none⟩) 1 c, .int .i64 1, .int .i64 0]) ∧ (w'.cell? ⟨g, 0, none⟩ = some (.int .i64 0)) ∧ g < w'.heap.size := by
  rcases h with ⟨h1, _⟩ | ⟨_, _, fl, hfl⟩ | ⟨_, g, c, cut, rfl, h2, _, h4, h5, _⟩
  · exact absurd km_ch h1
  · exact (km_flow hfl).elim
  · obtain rfl := km_one h4 h5
    rw [km_cut.2]
    obtain ⟨ad, e, hl, hc⟩ := own_ints2 h2 rfl 0 (by simp)
    cases e
    have had : (⟨g, 0, none⟩ : Addr).add 0 = ⟨g, 0, none⟩ := by simp [Addr.add]
    rw [had] at hc
    exact ⟨g, c, rfl, hc, hl⟩
end Go.Proofs.Ytmebpglkeedaoaa
namespace Go.Proofs.Ytmebpglkeedaoaa
open Go.RowKit Dp
def rdC (f : Nat → Nat → Int) (n i k : Nat) (x : Nat) : List Int := if x < i then rowK (f x) n n else rowK (f x) n k
theorem rdC_at (f : Nat → Nat → Int) (n i k : Nat) : rdC f n i k i = rowK (f i) n k := by unfold rdC; rw [if_neg (Nat.lt_irrefl i)]
theorem rdC_end {f : Nat → Nat → Int} {n i x : Nat} : rowK (f x) n n = rdC f n i n x := by unfold rdC; split <;> rfl
theorem rdC_up {f : Nat → Nat → Int} {n i k x : Nat} (hx : x < i + 1) (hk : k < n) : rdC f n i (k + 1) x = upd (rdC f n i k) i ((rdC f n i k i).set k (f i k)) x := by
  unfold upd
  by_cases e : x = i
  · subst e
    rw [if_pos rfl, rdC_at, rdC_at, rowK_set _ _ _ hk]
  · rw [if_neg e]
    unfold rdC
    rw [if_pos (by omega), if_pos (by omega)]
theorem rdC_no {f : Nat → Nat → Int} {n i k x : Nat} (hx : x < i + 1) (hk : k < n) (h : f i k = 0) : rdC f n i (k + 1) x = rdC f n i k x := by
  by_cases e : x = i
  · subst e
    rw [rdC_at, rdC_at, rowK_none _ _ _ h hk]
  · unfold rdC
    rw [if_pos (by omega), if_pos (by omega)]
set_option maxHeartbeats 4000000 in
set_option maxRecDepth 100000 in
theorem read_c (A F : Option Addr) (L : List (List Int)) (fl : List Int) (m c n nf cf b : Nat) (w : World) (hm : m = L.length) (hm8 : m ≤ 64) (hn : n ≤ 64) (hc : m ≤ c ∧ c ≤ 9223372036854775807) (hL : RowsAt w A L) (hr : ∀ i, i < m → (L.getD i []).length = n)
    (hb : w.cell? ⟨b, 0, none⟩ = some (.slice F nf cf)) (hbl : b < w.heap.size) (hnf : nf = fl.length) (hnf2 : nf ≤ 4096) (hcf : nf ≤ cf ∧ cf ≤ 9223372036854775807) (hF : IntsAt w F fl) (hx : ∀ i k, i < m → k < n → (L.getD i []).getD k 0 < fl.length) :
    Calls Try.prog 110 #[.slice A m c, .pointer (some ⟨b, 0, none⟩)] w fun e w' => ∃ g gI, e = .returned (.slice (some ⟨g, 0, none⟩) m m) ∧ RwJ n m g gI (fun i => rowK (fun k => rdF fl ((L.getD i []).getD k 0)) n n) w' ∧ Below w.heap.size w w' ∧ w.heap.size ≤ g ∧ ∀ i, i < m → w.heap.size ≤ gI i := by
  obtain ⟨f, hf⟩ : ∃ f : Nat → Nat → Int, f = fun i k => rdF fl ((L.getD i []).getD k 0) := ⟨_, rfl⟩
  have HF : Hid (∀ i k, f i k = rdF fl ((L.getD i []).getD k 0)) := Lib.hid (fun i k => by rw [hf])
  have e0 : (fun i => rowK (fun k => rdF fl ((L.getD i []).getD k 0)) n n) = fun i => rowK (f i) n n := by rw [hf]
  rw [e0]
  have HL : Hid (∀ V, Below w.heap.size w V → RowsAt V A L) := Lib.hid (fun V hV => hL.below hV (Nat.le_refl _))
  have HFL : Hid (∀ V, Below w.heap.size w V → IntsAt V F fl ∧ V.cell? ⟨b, 0, none⟩ = some (.slice F nf cf)) := Lib.hid (fun V hV => ⟨hF.below hV (Nat.le_refl _), (hV.cell hbl).trans hb⟩)
  have HM := Lib.hid hm
  have HR := Lib.hid hr
  have HX := Lib.hid hx
  have HNF := Lib.hid hnf
  clear hf e0 hL hF hm hr hx hb hnf
  have hmk := make_53 m (by omega)
  have hmk2 := make_64 n (by omega)
  have HB1 := Lib.hid ((Below.refl w.heap.size w).alloc (Nat.le_refl _) (.cells (Array.replicate m (.slice none 0 0)) 22))
  have X1 := Lib.hid (show Blk (w.alloc (.cells (Array.replicate m (.slice none 0 0)) 22)) w.heap.size 22 (List.replicate m (.slice none 0 0)) from by simpa using Blk.new' w (Array.replicate m (.slice none 0 0)) 22)
  go_enter Try.func110, Try.ntmps110
  go_upto_region 2 with fail
  generalize w.alloc (.cells (Array.replicate m (.slice none 0 0)) 22) = w1 at HB1 X1 ⊢
  obtain ⟨g, hg⟩ : ∃ g, g = w.heap.size := ⟨_, rfl⟩
  have HG : Hid (w.heap.size ≤ g) := Lib.hid (by omega)
  rw [← hg] at X1
  rw [← hg]
  clear hg
  go_wp2_with fail
  go_loopw [14] (fun iv wr => ∃ i : Nat, i ≤ m ∧ iv = .int .i64 i ∧ Hid (∃ gI cs, RwJ n i g gI (fun x => rowK (f x) n n) wr ∧ Blk wr g 22 cs ∧ cs.length = m ∧ Below w.heap.size w wr ∧ ∀ x, x < i → w.heap.size ≤ gI x)) (fun iv _ => m - (intOf iv).toNat)
  case atStart => exact ⟨0, Nat.zero_le _, rfl, Lib.hid ⟨fun _ => 0, _, ⟨⟨_, X1.out, fun i hi => absurd hi (Nat.not_lt_zero _)⟩, fun i hi => absurd hi (Nat.not_lt_zero _), fun i _ hi => absurd hi (Nat.not_lt_zero _)⟩, X1.out, by simp, HB1.out, fun i hi => absurd hi (Nat.not_lt_zero _)⟩⟩
  case round =>
    clear X1 HB1
    obtain ⟨i, hi, rfl, HJ⟩ := hrel
    obtain ⟨gI, cs, q1, q2, q3, q4, q5⟩ := HJ.out
    have RW := Lib.hid q1
    have BK := Lib.hid q2
    have CL := Lib.hid q3
    have HB := Lib.hid q4
    have GE := Lib.hid q5
    clear HJ q1 q2 q3 q4 q5
    by_cases hlt : i < m
    · have hii : (i : Int) < (m : Int) := by omega
      obtain ⟨ad, rfl, adl, Tr, cTr, c0, hcT, hti⟩ := HL.out wr HB.out i (by rw [← HM.out]; exact hlt)
      rw [HR.out i hlt] at c0 hcT
      have ab := adl
      rw [← block_add ad i] at ab
      have HTI : Hid (∀ V, Below w.heap.size w V → n = (L.getD i []).length → IntsAt V Tr (L.getD i [])) := Lib.hid (fun V hV _ => by
        obtain ⟨ad', e1, _, Tr', cTr', c0', _, ht'⟩ := HL.out V hV i (by rw [← HM.out]; exact hlt)
        obtain ⟨ad0, e2, l2, Tr2, cTr2, c2, _, ht2⟩ := HL.out w (Below.refl _ _) i (by rw [← HM.out]; exact hlt)
        cases e1
        cases e2
        have k1 := (hV.cell (by rw [block_add]; exact l2)).trans c2
        have k2 := (HB.out.cell (by rw [block_add]; exact l2)).trans c2
        rw [k1] at c0'
        rw [k2] at c0
        cases c0'
        cases c0
        exact ht')
      clear hti adl
      obtain ⟨v0, hv0⟩ : ∃ v0, wr.cell? ⟨g, i, none⟩ = some v0 := ⟨_, BK.out.cell i (List.getElem?_eq_getElem (by rw [CL.out]; exact hlt))⟩
      have z0 := BK.out.free i
      have gl := BK.out.lt
      have al := (Below.refl wr.heap.size wr).alloc (Nat.le_refl _) (.cells (Array.replicate n (.int .i64 0)) 2)
      have R0 := RW.out.below al
      have F0 := fl_new 2 n wr
      have BK0 := BK.out.below al BK.out.lt
      have hfresh : ∀ x, x < i → gI x ≠ wr.heap.size := fun x hx e => by have := (RW.out.f x hx).1.lt; omega
      have R1 : RwJ n i g gI (rdC f n i 0) (wr.alloc (.cells (Array.replicate n (.int .i64 0)) 2)) := R0.of (fun x hx => by unfold rdC; rw [if_pos hx])
      have HE0 : (RwJ n (i + 1) g (upd gI i wr.heap.size) (rdC f n i 0) ((wr.alloc (.cells (Array.replicate n (.int .i64 0)) 2)).setCell ⟨g, i, none⟩ (.slice (some ⟨wr.heap.size, 0, none⟩) n n)) ∧ (∃ cs, Blk ((wr.alloc (.cells (Array.replicate n (.int .i64 0)) 2)).setCell ⟨g, i, none⟩ (.slice (some ⟨wr.heap.size, 0, none⟩) n n)) g 22 cs ∧ cs.length = m) ∧ Below w.heap.size w ((wr.alloc (.cells (Array.replicate n (.int .i64 0)) 2)).setCell ⟨g, i, none⟩ (.slice (some ⟨wr.heap.size, 0, none⟩) n n))) := ⟨R1.add BK0 (by rw [CL.out]; exact hlt) (by rw [rdC_at, rowK_zero]; exact F0) (by rw [rdC_at, rowK_len]) hfresh, ⟨_, BK0.setCell i _, by rw [List.length_set]; exact CL.out⟩, (HB.out.trans (al.mono HB.out.size)).setCell (p := ⟨g, i, none⟩) HG.out _⟩
      rw [World.setCell_alloc_past _ _ _ _ gl] at HE0
      have HE := Lib.hid HE0
      clear HE0
      have GE2 : Hid (∀ x, x < i + 1 → w.heap.size ≤ upd gI i wr.heap.size x) := Lib.hid (fun x hx => by
        unfold upd
        by_cases e : x = i
        · rw [if_pos e]; exact HB.out.size
        · rw [if_neg e]; exact GE.out x (by omega))
      clear al R0 F0 BK0 hfresh R1
      go_upto_region 6 with fail
      clear c0 ab hv0 z0 gl RW BK CL HB GE
      generalize (wr.setCell ⟨g, i, none⟩ (.slice (some ⟨wr.heap.size, 0, none⟩) n n)).alloc (.cells (Array.replicate n (.int .i64 0)) 2) = w3 at HE ⊢
      generalize upd gI i wr.heap.size = gJ at *
      go_wp2_with fail
      go_loopw [27] (fun iv wr => ∃ k : Nat, k ≤ n ∧ iv = .int .i64 k ∧ Hid (RwJ n (i + 1) g gJ (rdC f n i k) wr ∧ (∃ cs, Blk wr g 22 cs ∧ cs.length = m) ∧ Below w.heap.size w wr)) (fun iv _ => n - (intOf iv).toNat)
      case atStart => exact ⟨0, Nat.zero_le _, rfl, HE⟩
      case round =>
        clear HE
        obtain ⟨k, hk, rfl, HJ⟩ := hrel
        by_cases hkn : k < n
        · have hki : (k : Int) < (n : Int) := by omega
          have hln : n = (L.getD i []).length := (HR.out i hlt).symm
          obtain ⟨p, rfl, pl, px⟩ := HTI.out _ HJ.out.2.2 hln k (by omega)
          have pb := pl
          rw [← block_add p k] at pb
          have hxl := HX.out i k hlt hkn
          have hfk := HF.out i k
          have UP := Lib.hid (fun x (hx : x < i + 1) => rdC_up (f := f) (n := n) (k := k) hx hkn)
          have NO := Lib.hid (fun h0 x (hx : x < i + 1) => rdC_no (f := f) (n := n) (k := k) hx hkn h0)
          have HLN := Lib.hid hln
          clear hln pl
          generalize (L.getD i []).getD k 0 = x at *
          by_cases hx0 : 0 ≤ x
          · obtain ⟨j, rfl⟩ : ∃ j : Nat, x = j := ⟨x.toNat, by omega⟩
            have hjl : j < fl.length := by omega
            have hjn : j < nf := by rw [HNF.out]; exact hjl
            have hji : (j : Int) < (nf : Int) := by omega
            obtain ⟨pf, hpf, _, _⟩ := (HFL.out wr HJ.out.2.2).1 j hjl
            subst hpf
            have hfv : f i k = fl.getD j 0 := by rw [hfk]; unfold rdF; rw [if_pos (by omega), Int.toNat_natCast]
            have CW : Hid (∀ V, (RwJ n (i + 1) g gJ (rdC f n i k) V ∧ (∃ cs, Blk V g 22 cs ∧ cs.length = m) ∧ Below w.heap.size w V) → (V.cell? ⟨g, i, none⟩ = some (.slice (some ⟨gJ i, 0, none⟩) n n) ∧ g < V.heap.size) ∧ V.cell? ⟨b, 0, none⟩ = some (.slice (some pf) nf cf) ∧ V.cell? (pf.add j) = some (.int .i64 (f i k)) ∧ (pf.add j).block < V.heap.size ∧ V.cell? ⟨gJ i, k, none⟩ = some (.int .i64 ((rowK (f i) n k).getD k 0)) ∧ gJ i < V.heap.size) := Lib.hid (fun V h => by
              obtain ⟨a1, a2⟩ := HFL.out V h.2.2
              obtain ⟨pf', e, l1, l2⟩ := a1 j hjl
              cases e
              have F1 := (h.1.f i (by omega)).1
              rw [rdC_at] at F1
              exact ⟨⟨h.1.cell i (by omega), h.1.lt⟩, a2, by rw [hfv]; exact l2, by rw [block_add]; exact l1, F1.cell k (by rw [rowK_len]; exact hkn), F1.lt⟩)
            have HFV := Lib.hid hfv
            clear hfv hfk hjl
            generalize f i k = y at *
            have d1 : decide ((0 : Int) ≤ (j : Int)) = true := decide_eq_true (by omega)
            have HJ1 := HJ
            go_upto_region 10 with fail
            clear pb px
            refine wp_region_spine 10 [false] [] ?af10 (fun V => RwJ n (i + 1) g gJ (rdC f n i k) V ∧ (∃ cs, Blk V g 22 cs ∧ cs.length = m) ∧ Below w.heap.size w V) (by kernel_rfl) (by kernel_rfl) ⟨HJ.out.1.below (Below.refl _ _).drew, by obtain ⟨cs, c1, c2⟩ := HJ.out.2.1; exact ⟨cs, Blk.drew c1, c2⟩, HJ.out.2.2.drew⟩ ?walk10 ?spine10
            case walk10 =>
              rintro V hV
              obtain ⟨⟨q0, q0l⟩, q1, q2, q3, q4, q5⟩ := CW.out V hV
              clear hV
              simp only [List.take_succ_cons, List.take_zero]
              repeat (go_big_quiet_step (fail))
              refine wpQuiet_nil ?_
              rfl
            case spine10 =>
              rintro V hV
              obtain ⟨⟨q0, q0l⟩, q1, q2, q3, q4, q5⟩ := CW.out V hV
              have z4 : V.frozen? ⟨gJ i, k, none⟩ = false := (hV.1.f i (by omega)).1.free k
              have HK := Lib.hid (show RwJ n (i + 1) g gJ (rdC f n i (k + 1)) (V.setCell ⟨gJ i, k, none⟩ (.int .i64 y)) ∧ (∃ cs, Blk (V.setCell ⟨gJ i, k, none⟩ (.int .i64 y)) g 22 cs ∧ cs.length = m) ∧ Below w.heap.size w (V.setCell ⟨gJ i, k, none⟩ (.int .i64 y)) from by
                obtain ⟨cs, c1, c2⟩ := hV.2.1
                refine ⟨(hV.1.set i (by omega) k y).of (fun x hx => UP.out x hx), ⟨cs, c1.setCell_ne (fun e => blk_type_ne c1 (hV.1.f i (by omega)).1 (by decide) e.symm) _, c2⟩, hV.2.2.setCell (p := ⟨gJ i, k, none⟩) (GE2.out i (by omega)) _⟩)
              clear hV
              refine spineV_cons ?_
              unfold StepV
              go_simp
              generalize V.setCell ⟨gJ i, k, none⟩ (.int .i64 y) = V1 at HK ⊢
              clear q0 q0l q1 q2 q3 q4 q5 z4
              refine spineV_nil ?_
              go_wp2_with fail
              go_roundw
              case rel => exact ⟨k + 1, by omega, by go_num, HK⟩
              case measure => simp [intOf]; omega
          · have d1 : decide ((0 : Int) ≤ x) = false := decide_eq_false hx0
            have hfv : f i k = 0 := by rw [hfk]; unfold rdF; rw [if_neg hx0]
            have HK := Lib.hid (show RwJ n (i + 1) g gJ (rdC f n i (k + 1)) wr ∧ (∃ cs, Blk wr g 22 cs ∧ cs.length = m) ∧ Below w.heap.size w wr from ⟨HJ.out.1.of (fun x hx => NO.out hfv x hx), HJ.out.2⟩)
            clear hfv hfk
            go_wp2_with fail
            go_roundw
            case rel => exact ⟨k + 1, by omega, by go_num, HK⟩
            case measure => simp [intOf]; omega
        · obtain rfl : n = k := by omega
          have HK := Lib.hid (show ∃ gI cs, RwJ n (i + 1) g gI (fun x => rowK (f x) n n) wr ∧ Blk wr g 22 cs ∧ cs.length = m ∧ Below w.heap.size w wr ∧ ∀ x, x < i + 1 → w.heap.size ≤ gI x from by
            obtain ⟨cs, c1, c2⟩ := HJ.out.2.1
            exact ⟨gJ, cs, HJ.out.1.of (fun x hx => rdC_end), c1, c2, HJ.out.2.2, GE2.out⟩)
          go_wp2_with fail
          go_roundw
          case rel => exact ⟨i + 1, by omega, by go_num, HK⟩
          case measure => simp [intOf]; omega
    · obtain rfl : m = i := by omega
      go_wp2_with fail
      go_ret
      exact ⟨g, gI, rfl, RW.out, HB.out, HG.out, GE.out⟩
end Go.Proofs.Ytmebpglkeedaoaa
namespace Go.Proofs.Ytmebpglkeedaoaa
open Go.RowKit Dp
set_option maxHeartbeats 4000000 in
set_option maxRecDepth 100000 in
theorem table_c (AI AO F : Option Addr) (LI LO : List (List Int)) (fl : List Int) (m ci co n nf cf b : Nat) (v0 v1 : Value) (w : World) (hm : m = LI.length) (hmo : m = LO.length) (hm8 : m ≤ 64) (hn : n ≤ 64) (hci : m ≤ ci ∧ ci ≤ 9223372036854775807) (hco : m ≤ co ∧ co ≤ 9223372036854775807) (hLI : RowsAt w AI LI) (hLO : RowsAt w AO LO) (hrI : ∀ i, i < m → (LI.getD i []).length = n) (hrO : ∀ i, i < m → (LO.getD i []).length = n)
    (hb : Blk w b 125 [v0, v1, .slice AI m ci, .slice AO m co]) (hnf : nf = fl.length) (hnf2 : nf ≤ 4096) (hcf : nf ≤ cf ∧ cf ≤ 9223372036854775807) (hF : IntsAt w F fl) (hxI : ∀ i k, i < m → k < n → (LI.getD i []).getD k 0 < fl.length) (hxO : ∀ i k, i < m → k < n → (LO.getD i []).getD k 0 < fl.length) :
    Calls Try.prog 91 #[.pointer (some ⟨b, 0, none⟩), .slice F nf cf] w fun e w' => ∃ g1 g2 gI gO, e = .returned (.agg #[.slice (some ⟨g1, 0, none⟩) m m, .slice (some ⟨g2, 0, none⟩) m m]) ∧ RwJ n m g1 gI (fun i => rowK (fun k => rdF fl ((LI.getD i []).getD k 0)) n n) w' ∧ RwJ n m g2 gO (fun i => rowK (fun k => rdF fl ((LO.getD i []).getD k 0)) n n) w' ∧ Below w.heap.size w w' := by
  obtain ⟨RI, hRI⟩ : ∃ R : Nat → List Int, R = fun i => rowK (fun k => rdF fl ((LI.getD i []).getD k 0)) n n := ⟨_, rfl⟩
  obtain ⟨RO, hRO⟩ : ∃ R : Nat → List Int, R = fun i => rowK (fun k => rdF fl ((LO.getD i []).getD k 0)) n n := ⟨_, rfl⟩
  have HB1 := Lib.hid (((Below.refl w.heap.size w).alloc (Nat.le_refl _) (.cells #[.slice F nf cf] 22)).alloc (by simp) (.cells #[.slice none 0 0, .slice none 0 0] 55))
  have XF := Lib.hid ((Blk.new' w #[.slice F nf cf] 22).alloc (.cells #[.slice none 0 0, .slice none 0 0] 55))
  have XR := Lib.hid (show Blk ((w.alloc (.cells #[.slice F nf cf] 22)).alloc (.cells #[.slice none 0 0, .slice none 0 0] 55)) (w.heap.size + 1) 55 [.slice none 0 0, .slice none 0 0] from by simpa using Blk.new' (w.alloc (.cells #[.slice F nf cf] 22)) #[.slice none 0 0, .slice none 0 0] 55)
  have FR : Hid (∀ W1, Below w.heap.size w W1 → Blk W1 w.heap.size 22 [.slice F nf cf] → (∀ V, Below W1.heap.size W1 V → Calls Try.prog 110 #[.slice AI m ci, .pointer (some ⟨w.heap.size, 0, none⟩)] V (fun e w' => ∃ g gI, e = .returned (.slice (some ⟨g, 0, none⟩) m m) ∧ RwJ n m g gI RI w' ∧ Below V.heap.size V w' ∧ V.heap.size ≤ g ∧ ∀ i, i < m → V.heap.size ≤ gI i)) ∧ ∀ V, Below W1.heap.size W1 V → Calls Try.prog 110 #[.slice AO m co, .pointer (some ⟨w.heap.size, 0, none⟩)] V (fun e w' => ∃ g gI, e = .returned (.slice (some ⟨g, 0, none⟩) m m) ∧ RwJ n m g gI RO w' ∧ Below V.heap.size V w' ∧ V.heap.size ≤ g ∧ ∀ i, i < m → V.heap.size ≤ gI i)) := Lib.hid (fun W1 h1 h2 => by
    refine ⟨fun V hV => ?_, fun V hV => ?_⟩
    · have hw := h1.trans (hV.mono h1.size)
      have hx := h2.below hV h2.lt
      rw [hRI]
      exact read_c AI F LI fl m ci n nf cf w.heap.size V hm hm8 hn hci (hLI.below hw (Nat.le_refl _)) hrI (hx.cell 0 rfl) hx.lt hnf hnf2 hcf (hF.below hw (Nat.le_refl _)) hxI
    · have hw := h1.trans (hV.mono h1.size)
      have hx := h2.below hV h2.lt
      rw [hRO]
      exact read_c AO F LO fl m co n nf cf w.heap.size V hmo hm8 hn hco (hLO.below hw (Nat.le_refl _)) hrO (hx.cell 0 rfl) hx.lt hnf hnf2 hcf (hF.below hw (Nat.le_refl _)) hxO)
  have HX := Lib.hid hb
  rw [← hRI, ← hRO]
  clear hRI hRO hm hmo hLI hLO hrI hrO hb hnf hF hxI hxO
  go_enter Try.func91, Try.ntmps91
  go_upto_region 2 with fail
  generalize (w.alloc (.cells #[.slice F nf cf] 22)).alloc (.cells #[.slice none 0 0, .slice none 0 0] 55) = w1 at HB1 XF XR ⊢
  have FI := Lib.hid (FR.out w1 HB1.out XF.out).1
  have FO := Lib.hid (FR.out w1 HB1.out XF.out).2
  have RD : Hid (∀ W, Below w1.heap.size w1 W → (W.cell? ⟨b, 2, none⟩ = some (.slice AI m ci) ∧ W.cell? ⟨b, 3, none⟩ = some (.slice AO m co)) ∧ Blk W (w.heap.size + 1) 55 [.slice none 0 0, .slice none 0 0] ∧ Below w.heap.size w W) := Lib.hid (fun W h => by
    have hb := HB1.out.trans (h.mono HB1.out.size)
    have hx := HX.out.below hb HX.out.lt
    exact ⟨⟨hx.cell 2 rfl, hx.cell 3 rfl⟩, XR.out.below h XR.out.lt, hb⟩)
  have HS := Lib.hid XR.out.lt
  have HT := Lib.hid (Below.refl w1.heap.size w1).drew
  clear FR
  refine lBegin (S := fun L W => (True) ∧ (L.getD 13 false = true ∨ (W.cell? ⟨b, 2, none⟩ = some (.slice AI m ci) ∧ W.cell? ⟨b, 3, none⟩ = some (.slice AO m co)))) (by kernel_rfl) ?_ (fun hHeld => ?_)
  · (try dsimp only); refine ⟨?_, Or.inr ?_⟩
    · (first | trivial | with_reducible assumption)
    · (first | with_reducible exact (RD.out _ HT.out).1 | with_reducible assumption)
  refine lTake (i := 0) (v := ?_) rfl (by kernel_rfl) (by kernel_rfl) (by kernel_rfl) (fun _ _ _ h => h) (by rfl) (fun _ _ h => by simpa only [getD_set_ne false (show 0 ≠ 13 by decide)] using h) (fun _ _ h => by simpa only [getD_set_ne false (show 0 ≠ 13 by decide)] using h) ?_ (by assumption) (fun hHeld2 => ?_)
  rotate_left 1
  · (intro _ _ _ _ _; first | (go_simp; done) | (go_simp; with_reducible rfl))
  clear hHeld; have hHeld := hHeld2; clear hHeld2
  (try simp only [Act.put, List.setIfInBounds_toArray, List.set_cons_zero, List.set_cons_succ])
  refine lTake (i := 1) (v := ?_) rfl (by kernel_rfl) (by kernel_rfl) (by kernel_rfl) (fun _ _ _ h => h) (by rfl) (fun _ _ h => by simpa only [getD_set_ne false (show 1 ≠ 13 by decide)] using h) (fun _ _ h => by simpa only [getD_set_ne false (show 1 ≠ 13 by decide)] using h) ?_ (by assumption) (fun hHeld2 => ?_)
  rotate_left 1
  · (intro _ _ _ _ _; first | (go_simp; done) | (go_simp; with_reducible rfl))
  clear hHeld; have hHeld := hHeld2; clear hHeld2
  (try simp only [Act.put, List.setIfInBounds_toArray, List.set_cons_zero, List.set_cons_succ])
  refine lTake (i := 2) (v := ?_) rfl (by kernel_rfl) (by kernel_rfl) (by kernel_rfl) (fun _ _ _ h => h) (by rfl) (fun _ _ h => by simpa only [getD_set_ne false (show 2 ≠ 13 by decide)] using h) (fun _ _ h => by simpa only [getD_set_ne false (show 2 ≠ 13 by decide)] using h) ?_ (by assumption) (fun hHeld2 => ?_)
  rotate_left 1
  · (intro _ _ _ _ _; first | (go_simp; done) | (go_simp; with_reducible rfl))
  clear hHeld; have hHeld := hHeld2; clear hHeld2
  (try simp only [Act.put, List.setIfInBounds_toArray, List.set_cons_zero, List.set_cons_succ])
  refine lTake (i := 3) (v := ?_) rfl (by kernel_rfl) (by kernel_rfl) (by kernel_rfl) (fun _ _ _ h => h) (by rfl) (fun _ _ h => by simpa only [getD_set_ne false (show 3 ≠ 13 by decide)] using h) (fun _ _ h => by simpa only [getD_set_ne false (show 3 ≠ 13 by decide)] using h) ?_ (by assumption) (fun hHeld2 => ?_)
  rotate_left 1
  · (intro _ _ _ _ _; first | (go_simp; done) | (go_simp; with_reducible rfl))
  clear hHeld; have hHeld := hHeld2; clear hHeld2
  (try simp only [Act.put, List.setIfInBounds_toArray, List.set_cons_zero, List.set_cons_succ])
  refine lTake (i := 4) (v := ?_) rfl (by kernel_rfl) (by kernel_rfl) (by kernel_rfl) (fun _ _ _ h => h) (by rfl) (fun _ _ h => by simpa only [getD_set_ne false (show 4 ≠ 13 by decide)] using h) (fun _ _ h => by simpa only [getD_set_ne false (show 4 ≠ 13 by decide)] using h) ?_ (by assumption) (fun hHeld2 => ?_)
  rotate_left 1
  · (intro L W hL hK hSw; (try dsimp only at hSw); obtain ⟨h0, h1⟩ := hSw; replace h1 := still [] hK hL (by kernel_rfl) h1; clear hL hK; first | (go_simp; done) | (go_simp; with_reducible rfl))
  clear hHeld; have hHeld := hHeld2; clear hHeld2
  (try simp only [Act.put, List.setIfInBounds_toArray, List.set_cons_zero, List.set_cons_succ])
  refine lTake (i := 6) (v := ?_) rfl (by kernel_rfl) (by kernel_rfl) (by kernel_rfl) (fun _ _ _ h => h) (by rfl) (fun _ _ h => by simpa only [getD_set_ne false (show 6 ≠ 13 by decide)] using h) (fun _ _ h => by simpa only [getD_set_ne false (show 6 ≠ 13 by decide)] using h) ?_ (by assumption) (fun hHeld2 => ?_)
  rotate_left 1
  · (intro _ _ _ _ _; first | (go_simp; done) | (go_simp; with_reducible rfl))
  clear hHeld; have hHeld := hHeld2; clear hHeld2
  (try simp only [Act.put, List.setIfInBounds_toArray, List.set_cons_zero, List.set_cons_succ])
  refine lTake (i := 7) (v := ?_) rfl (by kernel_rfl) (by kernel_rfl) (by kernel_rfl) (fun _ _ _ h => h) (by rfl) (fun _ _ h => by simpa only [getD_set_ne false (show 7 ≠ 13 by decide)] using h) (fun _ _ h => by simpa only [getD_set_ne false (show 7 ≠ 13 by decide)] using h) ?_ (by assumption) (fun hHeld2 => ?_)
  rotate_left 1
  · (intro _ _ _ _ _; first | (go_simp; done) | (go_simp; with_reducible rfl))
  clear hHeld; have hHeld := hHeld2; clear hHeld2
  (try simp only [Act.put, List.setIfInBounds_toArray, List.set_cons_zero, List.set_cons_succ])
  refine lTake (i := 8) (v := ?_) rfl (by kernel_rfl) (by kernel_rfl) (by kernel_rfl) (fun _ _ _ h => h) (by rfl) (fun _ _ h => by simpa only [getD_set_ne false (show 8 ≠ 13 by decide)] using h) (fun _ _ h => by simpa only [getD_set_ne false (show 8 ≠ 13 by decide)] using h) ?_ (by assumption) (fun hHeld2 => ?_)
  rotate_left 1
  · (intro _ _ _ _ _; first | (go_simp; done) | (go_simp; with_reducible rfl))
  clear hHeld; have hHeld := hHeld2; clear hHeld2
  (try simp only [Act.put, List.setIfInBounds_toArray, List.set_cons_zero, List.set_cons_succ])
  refine lTake (i := 9) (v := ?_) rfl (by kernel_rfl) (by kernel_rfl) (by kernel_rfl) (fun _ _ _ h => h) (by rfl) (fun _ _ h => by simpa only [getD_set_ne false (show 9 ≠ 13 by decide)] using h) (fun _ _ h => by simpa only [getD_set_ne false (show 9 ≠ 13 by decide)] using h) ?_ (by assumption) (fun hHeld2 => ?_)
  rotate_left 1
  · (intro _ _ _ _ _; first | (go_simp; done) | (go_simp; with_reducible rfl))
  clear hHeld; have hHeld := hHeld2; clear hHeld2
  (try simp only [Act.put, List.setIfInBounds_toArray, List.set_cons_zero, List.set_cons_succ])
  refine lTake (i := 10) (v := ?_) rfl (by kernel_rfl) (by kernel_rfl) (by kernel_rfl) (fun _ _ _ h => h) (by rfl) (fun _ _ h => by simpa only [getD_set_ne false (show 10 ≠ 13 by decide)] using h) (fun _ _ h => by simpa only [getD_set_ne false (show 10 ≠ 13 by decide)] using h) ?_ (by assumption) (fun hHeld2 => ?_)
  rotate_left 1
  · (intro L W hL hK hSw; (try dsimp only at hSw); obtain ⟨h0, h1⟩ := hSw; replace h1 := still [] hK hL (by kernel_rfl) h1; clear hL hK; first | (go_simp; done) | (go_simp; with_reducible rfl))
  clear hHeld; have hHeld := hHeld2; clear hHeld2
  (try simp only [Act.put, List.setIfInBounds_toArray, List.set_cons_zero, List.set_cons_succ])
  refine lReady (rs := [5]) (by kernel_rfl) (by simp) ?_
  refine AllL.cons (i := 5) rfl (fun K hK => ?_) ?_
  · go_simp; refine (FI.out _ HT.out).mono ?_; rintro e w5 ⟨g1, gI, rfl, hr5, hb5, hg5, hi5⟩; (try have H2 := Lib.hid (RwJ.below H2.out hb5)); have H1 := Lib.hid hr5; have G1 := Lib.hid (Nat.le_trans HT.out.size hg5); have I1 := Lib.hid (fun i (h : i < m) => Nat.le_trans HT.out.size (hi5 i h)); have HT := Lib.hid (HT.out.trans (hb5.mono HT.out.size)); clear hr5 hb5 hg5 hi5
    (try go_wp2_with fail)
    refine hK.out _ _ ?_ (fun hHeld2 => ?_)
    · (try dsimp only); refine ⟨?_, Or.inr ?_⟩
      · (first | trivial | with_reducible assumption)
      · (first | with_reducible exact (RD.out _ HT.out).1 | with_reducible assumption)
    clear hK K
    clear hHeld; have hHeld := hHeld2; clear hHeld2
    (try simp only [Act.put, List.setIfInBounds_toArray, List.set_cons_zero, List.set_cons_succ])
    refine lReady (rs := [11]) (by kernel_rfl) (by simp) ?_
    refine AllL.cons (i := 11) rfl (fun K hK => ?_) ?_
    · go_simp; refine (FO.out _ HT.out).mono ?_; rintro e w6 ⟨g2, gO, rfl, hr5, hb5, hg5, hi5⟩; (try have H1 := Lib.hid (RwJ.below H1.out hb5)); have H2 := Lib.hid hr5; have G2 := Lib.hid (Nat.le_trans HT.out.size hg5); have I2 := Lib.hid (fun i (h : i < m) => Nat.le_trans HT.out.size (hi5 i h)); have HT := Lib.hid (HT.out.trans (hb5.mono HT.out.size)); clear hr5 hb5 hg5 hi5
      (try go_wp2_with fail)
      refine hK.out _ _ ?_ (fun hHeld2 => ?_)
      · (try dsimp only); refine ⟨?_, Or.inr ?_⟩
        · (first | trivial | with_reducible assumption)
        · (first | with_reducible exact (RD.out _ HT.out).1 | with_reducible assumption)
      clear hK K
      clear hHeld; have hHeld := hHeld2; clear hHeld2
      (try simp only [Act.put, List.setIfInBounds_toArray, List.set_cons_zero, List.set_cons_succ])
      refine lTake (i := 12) (v := ?_) rfl (by kernel_rfl) (by kernel_rfl) (by kernel_rfl) (fun _ _ _ h => h) (by rfl) (fun _ _ h => by simpa only [getD_set_ne false (show 12 ≠ 13 by decide)] using h) (fun _ _ h => by simpa only [getD_set_ne false (show 12 ≠ 13 by decide)] using h) ?_ (by assumption) (fun hHeld2 => ?_)
      rotate_left 1
      · (intro _ _ _ _ _; first | (go_simp; done) | (go_simp; with_reducible rfl))
      clear hHeld; have hHeld := hHeld2; clear hHeld2
      (try simp only [Act.put, List.setIfInBounds_toArray, List.set_cons_zero, List.set_cons_succ])
      refine lReady (rs := [13]) (by kernel_rfl) (by simp) ?_
      refine AllL.cons (i := 13) rfl (fun K hK => ?_) ?_
      · (have XR2 := (RD.out _ HT.out).2.1; have q0 := XR2.cell 0 rfl; have q1 := XR2.cell 1 rfl; have z0 := XR2.free 0; have z1 := XR2.free 1; have zl := XR2.lt; have HE1 := Lib.hid ((XR2.setCell 0 (.slice (some ⟨g1, 0, none⟩) m m)).setCell 1 (.slice (some ⟨g2, 0, none⟩) m m)); have HE2 := Lib.hid ((H1.out.other (p := ⟨w.heap.size + 1, 0, none⟩) (by have := G1.out; have := HS.out; simp only; omega) (fun i h => by have := I1.out i h; have := HS.out; simp only; omega) (.slice (some ⟨g1, 0, none⟩) m m)).other (p := ⟨w.heap.size + 1, 1, none⟩) (by have := G1.out; have := HS.out; simp only; omega) (fun i h => by have := I1.out i h; have := HS.out; simp only; omega) (.slice (some ⟨g2, 0, none⟩) m m)); have HE3 := Lib.hid ((H2.out.other (p := ⟨w.heap.size + 1, 0, none⟩) (by have := G2.out; have := HS.out; simp only; omega) (fun i h => by have := I2.out i h; have := HS.out; simp only; omega) (.slice (some ⟨g1, 0, none⟩) m m)).other (p := ⟨w.heap.size + 1, 1, none⟩) (by have := G2.out; have := HS.out; simp only; omega) (fun i h => by have := I2.out i h; have := HS.out; simp only; omega) (.slice (some ⟨g2, 0, none⟩) m m)); have HE4 := Lib.hid (((RD.out _ HT.out).2.2.setCell (p := ⟨w.heap.size + 1, 0, none⟩) (by simp) (.slice (some ⟨g1, 0, none⟩) m m)).setCell (p := ⟨w.heap.size + 1, 1, none⟩) (by simp) (.slice (some ⟨g2, 0, none⟩) m m)); go_simp)
        (try go_wp2_with fail)
        refine hK.out _ _ ?_ (fun hHeld2 => ?_)
        · (try dsimp only); refine ⟨?_, Or.inl (by rfl)⟩
          · (first | trivial | with_reducible assumption)
        clear hK K
        clear hHeld; have hHeld := hHeld2; clear hHeld2
        (try simp only [Act.put, List.setIfInBounds_toArray, List.set_cons_zero, List.set_cons_succ])
        refine lDone (by kernel_rfl) ?_ _
        clear hHeld
        go_wp2_with fail
        have q0 := HE1.out.cell 0 rfl
        have q1 := HE1.out.cell 1 rfl
        exact bodyPost_ret (v := .agg #[.slice (some ⟨g1, 0, none⟩) m m, .slice (some ⟨g2, 0, none⟩) m m]) (by simp [results, Try.results91, go_sem, q0, q1]) rfl ⟨g1, g2, gI, gO, rfl, HE2.out, HE3.out, HE4.out⟩
      exact AllL.nil
    exact AllL.nil
  exact AllL.nil
end Go.Proofs.Ytmebpglkeedaoaa
namespace Go.Proofs.Ytmebpglkeedaoaa
open Go.RowKit Dp
theorem rowsF_at {W : World} {B n G m c : Nat} {A : Option Addr} {vs : List Value} {R : Nat → List Int} (ho : W.ownsRow B 26 1 (.slice A m c) m vs) (h : RowsF W n G vs R m) (hn : n ≤ 9223372036854775807) : RowsAt W A ((List.range m).map R) ∧ m ≤ c ∧ c ≤ 9223372036854775807 := by
  refine ⟨fun i hi => ?_, ?_⟩
  · have hi' : i < m := by simpa using hi
    have e : ((List.range m).map R).getD i [] = R i := by simp [List.getD_eq_getElem?_getD, hi']
    obtain ⟨g, cap, hv, hb, hlt⟩ := ho.form (by omega)
    cases hv
    obtain ⟨v, h1, gi, rfl, h3, h4, h5⟩ := h i hi'
    refine ⟨_, rfl, hlt, some ⟨gi, 0, none⟩, n, ?_, ?_, ?_⟩
    · rw [add_row, e, h5, World.ownsRow.cellAt ho i (by omega)]; exact h1
    · rw [e, h5]; exact ⟨Nat.le_refl _, hn⟩
    · rw [e]; exact h4.ints
  · rcases ho.2 with ⟨h0, h1⟩ | ⟨g', c', cur, hv, _, _, hc1, hc2, _⟩
    · cases h0
      omega
    · cases hv
      unfold maxLen at hc2
      omega
def BlpV (N : Net) (LI LO : List (List Int)) (m k l : Nat) (w : World) : Ending → World → Prop := fun e w' => ∃ (b gs : Nat) (A AI AO : Option Addr) (c ci co : Nat), e = .returned (.pointer (some ⟨b, 0, none⟩)) ∧ Blk w' b 125 [.slice (some ⟨gs, 0, none⟩) k k, .slice A l c, .slice AI m ci, .slice AO m co] ∧ NetAt w' (some ⟨gs, 0, none⟩) A N ∧ (l ≤ c ∧ c ≤ 9223372036854775807) ∧ (RowsAt w' AI LI ∧ m ≤ ci ∧ ci ≤ 9223372036854775807) ∧ (RowsAt w' AO LO ∧ m ≤ co ∧ co ≤ 9223372036854775807) ∧ Below w.heap.size w w'
theorem R76.p {S : Site} {cs : List Car} {w w' : World} {e : Ending} {m k l : Nat} (hn : S.lim.length ≤ 48) (hm : m = cs.length) (hk : k = nodesN S cs) (hl : l = (carsA S cs cs.length).length) (h : R76 S cs w e w') : BlpV (netN S cs) ((List.range m).map (inR S cs)) ((List.range m).map (outR S cs)) m k l w e w' := by
  subst hk hl hm
  obtain ⟨b, rfl, gs, A, cap, AI, AO, ci, co, vi, vo, hJ, hRI, hRO⟩ := h
  obtain ⟨ha, hc⟩ := own_arcs2 hJ.own rfl
  have hb := hJ.b
  rw [supN_len] at hb
  exact ⟨b, gs, A, AI, AO, cap, ci, co, rfl, hb, ⟨hJ.s.ints, ha⟩, hc, rowsF_at hJ.oi hRI (by omega), rowsF_at hJ.oo hRO (by omega), hJ.bel⟩
theorem RwJ.typ {n m g : Nat} {gI : Nat → Nat} {R : Nat → List Int} {W : World} (h : RwJ n m g gI R W) {p : Addr} {t : TypeId} {cs : List Value} (hb : Blk W p.block t cs) (h1 : t ≠ 22) (h2 : t ≠ 2) (u : Value) : RwJ n m g gI R (W.setCell p u) := by
  obtain ⟨cs', c1, _⟩ := h.b
  exact h.other (fun e => blk_type_ne hb c1 h1 e) (fun i hi e => blk_type_ne hb (h.f i hi).1 h2 e) u
def PlanP (S : Site) (cs : List Car) (w : World) (e : Ending) (w' : World) : Prop :=
  (stE S cs ≠ 0 ∧ e = .returned (.tuple #[.agg #[.slice none 0 0, .slice none 0 0], .slice none 0 0, .int .i64 (stE S cs)])) ∨
  (stE S cs = 0 ∧ e = .returned (.tuple #[.agg #[.slice none 0 0, .slice none 0 0], .slice none 0 0, .int .i64 18]) ∧ ∀ T, plE S cs T ≠ 0) ∨
  (stE S cs = 0 ∧ ∃ (g1 g2 gp : Nat) (gI gO : Nat → Nat) (RI RO : Nat → List Int) (p : List Int), e = .returned (.tuple #[.agg #[.slice (some ⟨g1, 0, none⟩) cs.length cs.length, .slice (some ⟨g2, 0, none⟩) cs.length cs.length], .slice (some ⟨gp, 0, none⟩) (nodesN S cs) (nodesN S cs), .int .i64 0]) ∧ RwJ S.lim.length cs.length g1 gI RI w' ∧ RwJ S.lim.length cs.length g2 gO RO w' ∧ Fl 2 w' gp p ∧ p.length = nodesN S cs ∧ Best S cs ⟨(List.range cs.length).map RI, (List.range cs.length).map RO⟩ p)
set_option maxHeartbeats 8000000 in
set_option maxRecDepth 100000 in
theorem Plan_c (A B C D E : Option Addr) (S : Site) (cs : List Car) (n nB nC nD m cA cB cC cD cE : Nat) (w : World) (hn : n = S.lim.length) (hnB : nB = S.exp.length) (hnC : nC = S.buy.length) (hnD : nD = S.sell.length) (hm : m = cs.length)
    (hA : n ≤ cA ∧ cA ≤ 9223372036854775807) (hB : nB ≤ cB ∧ cB ≤ 9223372036854775807) (hC : nC ≤ cC ∧ cC ≤ 9223372036854775807) (hD : nD ≤ cD ∧ cD ≤ 9223372036854775807) (hE : m ≤ cE ∧ cE ≤ 9223372036854775807)
    (hS : SiteAt w A B C D S) (hcs : CarsAt w E cs) :
    Calls Try.prog 50 #[.agg #[.slice A n cA, .slice B nB cB, .slice C nC cC, .slice D nD cD], .slice E m cE] w fun e w' => PlanP S cs w e w' ∧ Below w.heap.size w w' := by
  obtain ⟨u, hu⟩ : ∃ u, u = stE S cs := ⟨_, rfl⟩
  obtain ⟨k, hk⟩ : ∃ k, k = nodesN S cs := ⟨_, rfl⟩
  obtain ⟨l, hl⟩ : ∃ l, l = (carsA S cs cs.length).length := ⟨_, rfl⟩
  have F36 : Hid (∀ V, Below w.heap.size w V → Calls Try.prog 36 #[.agg #[.slice A n cA, .slice B nB cB, .slice C nC cC, .slice D nD cD], .slice E m cE] V (fun e w' => e = .returned (.int .i64 u) ∧ Below V.heap.size V w')) := Lib.hid (fun V hV => by rw [hu]; exact CheckSite_c A B C D E S cs n nB nC nD m cA cB cC cD cE V hn hnB hnC hnD hm hA hB hC hD hE (hS.below hV (Nat.le_refl _)) (hcs.below hV (Nat.le_refl _)))
  have F76 : Hid (u = 0 → ∀ V, Below w.heap.size w V → Calls Try.prog 76 #[.agg #[.slice A n cA, .slice B nB cB, .slice C nC cC, .slice D nD cD], .slice E m cE] V (BlpV (netN S cs) ((List.range m).map (inR S cs)) ((List.range m).map (outR S cs)) m k l V)) := Lib.hid (fun h V hV => by
    have h0 := hu.symm.trans h
    have h2 := siteHead_iff.1 (stE_0 h0).2.1
    obtain rfl : nB = n := by omega
    obtain rfl : nC = nB := by omega
    obtain rfl : nD = nC := by omega
    exact (build_c A B C D E S cs _ m cA cB cC cD cE V h0 hn hm hA hB hC hD hE (hS.below hV (Nat.le_refl _)) (hcs.below hV (Nat.le_refl _))).mono (fun _ _ h => R76.p (by omega) hm hk hl h))
  have HP1 : Hid (u ≠ 0 → ∀ w', PlanP S cs w (.returned (.tuple #[.agg #[.slice none 0 0, .slice none 0 0], .slice none 0 0, .int .i64 u])) w') := Lib.hid (fun h w' => .inl ⟨by rw [← hu]; exact h, by rw [hu]⟩)
  have HP2 : Hid (u = 0 → (∀ fl, isFlow (netN S cs) fl = false) → ∀ w', PlanP S cs w (.returned (.tuple #[.agg #[.slice none 0 0, .slice none 0 0], .slice none 0 0, .int .i64 18])) w') := Lib.hid (fun h h2 w' => .inr (.inl ⟨hu.symm.trans h, rfl, plan_none h2⟩))
  have HP3 : Hid (u = 0 → ∀ (g1 g2 gp : Nat) (fl p : List Int) gI gO w', isFlow (netN S cs) fl = true → p.length = (netN S cs).sup.length → (∀ v, v < p.length → potOk (p.getD v 0) = true) → costK (netN S cs) fl (netN S cs).arcs.length = prA (netN S cs) p (netN S cs).arcs.length → RwJ n m g1 gI (fun i => rowK (fun k => rdF fl ((((List.range m).map (inR S cs)).getD i []).getD k 0)) n n) w' → RwJ n m g2 gO (fun i => rowK (fun k => rdF fl ((((List.range m).map (outR S cs)).getD i []).getD k 0)) n n) w' → Fl 2 w' gp p → PlanP S cs w (.returned (.tuple #[.agg #[.slice (some ⟨g1, 0, none⟩) m m, .slice (some ⟨g2, 0, none⟩) m m], .slice (some ⟨gp, 0, none⟩) k k, .int .i64 0])) w') := Lib.hid (fun h g1 g2 gp fl p gI gO w' h1 h2 h3 h4 h5 h6 h7 => by
    have h0 := hu.symm.trans h
    have hh := (siteHead_iff.1 (stE_0 h0).2.1).1
    subst hm hn hk
    refine .inr (.inr ⟨h0, g1, g2, gp, gI, gO, fun i => (inR S cs i).map (rdF fl), fun i => (outR S cs i).map (rdF fl), p, rfl, ?_, ?_, h7, ?_, plan_good h0 h1 h2 h3 h4⟩)
    · exact h5.of (fun i hi => by rw [getD_mapI _ _ _ _ hi]; exact (rd_row (S := S) (cs := cs) (i := i) _ rfl).symm)
    · exact h6.of (fun i hi => by rw [getD_mapI _ _ _ _ hi]; exact (rd_row (S := S) (cs := cs) (i := i) _ rfl).symm)
    · rw [h2]; exact supN_len S cs)
  have F25 : Hid (u = 0 → ∀ (gs : Nat) (M : Option Addr) (c : Nat) V, NetAt V (some ⟨gs, 0, none⟩) M (netN S cs) → (l ≤ c ∧ c ≤ 9223372036854775807) → Calls Try.prog 25 #[.agg #[.slice (some ⟨gs, 0, none⟩) k k, .slice M l c]] V (fun e w' => ((∃ gf gp fl p, e = .returned (.tuple #[.slice (some ⟨gf, 0, none⟩) l l, .slice (some ⟨gp, 0, none⟩) k k, .int .i64 0]) ∧ Fl 2 w' gf fl ∧ Fl 2 w' gp p ∧ fl.length = l ∧ isFlow (netN S cs) fl = true ∧ p.length = (netN S cs).sup.length ∧ (∀ v, v < p.length → potOk (p.getD v 0) = true) ∧ costK (netN S cs) fl (netN S cs).arcs.length = prA (netN S cs) p (netN S cs).arcs.length) ∨ (e = .returned (.tuple #[.slice none 0 0, .slice none 0 0, .int .i64 18]) ∧ ∀ fl, isFlow (netN S cs) fl = false)) ∧ Below V.heap.size V w')) := Lib.hid (fun h gs M c V hV hc => by
    have h0 := hu.symm.trans h
    have hb := nodes_bd h0
    have ek : k = (netN S cs).sup.length := by rw [hk]; exact (supN_len S cs).symm
    have el : l = (netN S cs).arcs.length := hl
    refine (Least_c (some ⟨gs, 0, none⟩) M (netN S cs) k l k c V ek el ⟨Nat.le_refl _, by omega⟩ hc hV).mono ?_
    rintro e w' ⟨hP, hbl⟩
    refine ⟨?_, hbl⟩
    rcases hP with ⟨hne, _⟩ | ⟨_, gf, gp, fl, p, rfl, z1, z2, _, _, z3, z4, z5, z6, z7⟩ | ⟨_, rfl, _, _, _, hno⟩
    · exact absurd (net_ok h0) hne
    · rw [← ek, ← el]
      exact .inl ⟨gf, gp, fl, p, rfl, z1, z2, by rw [el]; exact z3, z4, by rw [ek]; exact z5, z6, by rw [el]; exact z7⟩
    · exact .inr ⟨rfl, hno⟩)
  have HKB : Hid (u = 0 → (1 ≤ n ∧ n ≤ 48) ∧ m ≤ 8 ∧ l ≤ 1648) := Lib.hid (fun h => by
    have h0 := hu.symm.trans h
    have hh := (siteHead_iff.1 (stE_0 h0).2.1).1
    have h8 := (stE_0 h0).1
    have hlb := carsA_bd h0 cs.length (Nat.le_refl _)
    omega)
  have HIX : Hid (∀ i k, i < m → k < n → (((List.range m).map (inR S cs)).getD i []).getD k 0 < l ∧ (((List.range m).map (outR S cs)).getD i []).getD k 0 < l) := Lib.hid (fun i k hi hk => by
    rw [getD_mapI _ _ _ _ hi, getD_mapI _ _ _ _ hi]
    unfold inR outR
    rw [rowK_full (by omega), rowK_full (by omega)]
    have := ix_in (S := S) (cs := cs) (i := i) (k := k) (by omega) (by omega)
    omega)
  have HRL : Hid (∀ i, i < m → (((List.range m).map (inR S cs)).getD i []).length = n ∧ (((List.range m).map (outR S cs)).getD i []).length = n) := Lib.hid (fun i hi => by
    rw [getD_mapI _ _ _ _ hi, getD_mapI _ _ _ _ hi]
    unfold inR outR
    rw [rowK_len, rowK_len]
    omega)
  clear hn hnB hnC hnD hm hS hcs hu hk hl
  generalize hPP : PlanP S cs w = PP at *
  clear hPP
  have HLL0 : Hid (((List.range m).map (inR S cs)).length = m ∧ ((List.range m).map (outR S cs)).length = m) := Lib.hid (by simp)
  generalize (List.range m).map (inR S cs) = LI at *
  generalize (List.range m).map (outR S cs) = LO at *
  have HLL : Hid (LI.length = m ∧ LO.length = m) := HLL0
  have HB := Lib.hid (((Below.refl w.heap.size w).alloc (Nat.le_refl _) (.cells #[.slice A n cA, .slice B nB cB, .slice C nC cC, .slice D nD cD] 51)).alloc (by simp) (.cells #[.slice none 0 0, .slice none 0 0] 55))
  have XS := Lib.hid ((Blk.new' w #[.slice A n cA, .slice B nB cB, .slice C nC cC, .slice D nD cD] 51).alloc (.cells #[.slice none 0 0, .slice none 0 0] 55))
  have XR := Lib.hid (show Blk ((w.alloc (.cells #[.slice A n cA, .slice B nB cB, .slice C nC cC, .slice D nD cD] 51)).alloc (.cells #[.slice none 0 0, .slice none 0 0] 55)) (w.heap.size + 1) 55 [.slice none 0 0, .slice none 0 0] from by simpa using Blk.new' (w.alloc (.cells #[.slice A n cA, .slice B nB cB, .slice C nC cC, .slice D nD cD] 51)) #[.slice none 0 0, .slice none 0 0] 55)
  go_enter Try.func50, Try.ntmps50
  go_upto_region 1 with fail
  generalize (w.alloc (.cells #[.slice A n cA, .slice B nB cB, .slice C nC cC, .slice D nD cD] 51)).alloc (.cells #[.slice none 0 0, .slice none 0 0] 55) = w1 at HB XS XR ⊢
  have s0 := XS.out.cell 0 rfl
  have s1 := XS.out.cell 1 rfl
  have s2 := XS.out.cell 2 rfl
  have s3 := XS.out.cell 3 rfl
  have sl := XS.out.lt
  go_wp2_with fail
  refine (F36.out w1 HB.out).mono ?_
  rintro e w2 ⟨rfl, hb⟩
  clear s0 s1 s2 s3 sl
  have XS := Lib.hid (XS.out.below hb XS.out.lt)
  have XR := Lib.hid (XR.out.below hb XR.out.lt)
  have HB := Lib.hid (HB.out.trans (hb.mono HB.out.size))
  clear hb
  by_cases h0 : u = 0
  rotate_left
  · have hb0 : (u == 0) = false := by simpa using h0
    have HPX := Lib.hid (HP1.out h0)
    clear h0
    have r0 := XR.out.cell 0 rfl
    have r1 := XR.out.cell 1 rfl
    have rz := XR.out.free 0
    have rz1 := XR.out.free 1
    have rl := XR.out.lt
    have R2 := Lib.hid ((XR.out.setCell 0 (.slice none 0 0)).setCell 1 (.slice none 0 0))
    have B2 := Lib.hid ((HB.out.setCell (p := ⟨w.heap.size + 1, 0, none⟩) (by simp) (.slice none 0 0)).setCell (p := ⟨w.heap.size + 1, 1, none⟩) (by simp) (.slice none 0 0))
    go_wp2_with fail
    have q0 := R2.out.cell 0 rfl
    have q1 := R2.out.cell 1 rfl
    exact bodyPost_ret (v := .tuple #[.agg #[.slice none 0 0, .slice none 0 0], .slice none 0 0, .int .i64 u]) (by simp [results, Try.results50, go_sem, q0, q1]) rfl ⟨HPX.out _, B2.out⟩
  have HP2b := Lib.hid (HP2.out h0)
  have HP3b := Lib.hid (HP3.out h0)
  have F76b := Lib.hid (F76.out h0)
  have F25b := Lib.hid (F25.out h0)
  have HKBb := Lib.hid (HKB.out h0)
  clear HP1 HP2 HP3 F76 F25 HKB
  subst h0
  have s0 := XS.out.cell 0 rfl
  have s1 := XS.out.cell 1 rfl
  have s2 := XS.out.cell 2 rfl
  have s3 := XS.out.cell 3 rfl
  have sl := XS.out.lt
  go_wp2_with fail
  refine (F76b.out w2 HB.out).mono ?_
  rintro e w3 ⟨b, gs, M, AI, AO, c, ci, co, rfl, hX, hNA, hc, hRI, hRO, hb⟩
  clear s0 s1 s2 s3 sl XS
  have XR := Lib.hid (XR.out.below hb XR.out.lt)
  have HB := Lib.hid (HB.out.trans (hb.mono HB.out.size))
  clear hb
  have XB := Lib.hid hX
  have HNA := Lib.hid hNA
  have HC := Lib.hid hc
  have HRI := Lib.hid hRI
  have HRO := Lib.hid hRO
  clear hX hNA hc hRI hRO
  have b0 := XB.out.cell 0 rfl
  have b1 := XB.out.cell 1 rfl
  have bl := XB.out.lt
  go_wp2_with fail
  refine (F25b.out gs M c w3 HNA.out HC.out).mono ?_
  rintro e w4 ⟨hP, hb⟩
  clear b0 b1 bl
  have HRI4 := Lib.hid (HRI.out.1.below hb (Nat.le_refl _))
  have HRO4 := Lib.hid (HRO.out.1.below hb (Nat.le_refl _))
  have XR := Lib.hid (XR.out.below hb XR.out.lt)
  have XB := Lib.hid (XB.out.below hb XB.out.lt)
  have HB := Lib.hid (HB.out.trans (hb.mono HB.out.size))
  clear hb
  rcases hP with ⟨gf, gp, fl, p, rfl, z1, z2, z3, z4, z5, z6, z7⟩ | ⟨rfl, hno⟩
  rotate_left
  · have HPX := Lib.hid (HP2b.out hno)
    clear hno
    have r0 := XR.out.cell 0 rfl
    have r1 := XR.out.cell 1 rfl
    have rz := XR.out.free 0
    have rz1 := XR.out.free 1
    have rl := XR.out.lt
    have R2 := Lib.hid ((XR.out.setCell 0 (.slice none 0 0)).setCell 1 (.slice none 0 0))
    have B2 := Lib.hid ((HB.out.setCell (p := ⟨w.heap.size + 1, 0, none⟩) (by simp) (.slice none 0 0)).setCell (p := ⟨w.heap.size + 1, 1, none⟩) (by simp) (.slice none 0 0))
    go_wp2_with fail
    have q0 := R2.out.cell 0 rfl
    have q1 := R2.out.cell 1 rfl
    exact bodyPost_ret (v := .tuple #[.agg #[.slice none 0 0, .slice none 0 0], .slice none 0 0, .int .i64 18]) (by simp [results, Try.results50, go_sem, q0, q1]) rfl ⟨HPX.out _, B2.out⟩
  have HPX := Lib.hid (fun g1 g2 gI gO w' h5 h6 h7 => HP3b.out g1 g2 gp fl p gI gO w' z4 z5 z6 z7 h5 h6 h7)
  have HZ1 := Lib.hid z1
  have HZ2 := Lib.hid z2
  have HZ3 := Lib.hid z3
  have hkb := HKBb.out
  clear z1 z2 z3 z4 z5 z6 z7
  go_wp2_with fail
  refine (table_c AI AO (some ⟨gf, 0, none⟩) LI LO fl m ci co n l l b _ _ w4 HLL.out.1.symm HLL.out.2.symm (by omega) (by omega) HRI.out.2 HRO.out.2 HRI4.out HRO4.out (fun i hi => (HRL.out i hi).1) (fun i hi => (HRL.out i hi).2) XB.out HZ3.out.symm (by omega) ⟨Nat.le_refl _, by omega⟩ HZ1.out.ints (fun i k hi hk => by rw [HZ3.out]; exact (HIX.out i k hi hk).1) (fun i k hi hk => by rw [HZ3.out]; exact (HIX.out i k hi hk).2)).mono ?_
  rintro e w5 ⟨g1, g2, gI, gO, rfl, hr1, hr2, hb⟩
  have HZ5 := Lib.hid (HZ2.out.below hb)
  have XR := Lib.hid (XR.out.below hb XR.out.lt)
  have HB := Lib.hid (HB.out.trans (hb.mono HB.out.size))
  clear hb
  have NE : ∀ {t : TypeId} {g : Nat} {xs : List Value}, Blk w5 g t xs → t ≠ 55 → g ≠ w.heap.size + 1 := fun h1 h2 e => by subst e; exact blk_type_ne h1 XR.out h2 rfl
  have NR : ∀ {g : Nat} {gI : Nat → Nat} {R : Nat → List Int}, RwJ n m g gI R w5 → RwJ n m g gI R ((w5.setCell ⟨w.heap.size + 1, 0, none⟩ (.slice (some ⟨g1, 0, none⟩) m m)).setCell ⟨w.heap.size + 1, 1, none⟩ (.slice (some ⟨g2, 0, none⟩) m m)) := fun h => by
    obtain ⟨cs, c1, c2⟩ := h.b
    have n1 := NE c1 (by decide)
    have n2 := fun i hi => NE (h.f i hi).1 (by decide)
    exact (h.other (p := ⟨w.heap.size + 1, 0, none⟩) n1 n2 _).other (p := ⟨w.heap.size + 1, 1, none⟩) n1 n2 _
  have HPY := Lib.hid (HPX.out g1 g2 gI gO _ (NR hr1) (NR hr2) ((HZ5.out.set_ne (p := ⟨w.heap.size + 1, 0, none⟩) (NE HZ5.out (by decide)) (.slice (some ⟨g1, 0, none⟩) m m)).set_ne (p := ⟨w.heap.size + 1, 1, none⟩) (NE HZ5.out (by decide)) (.slice (some ⟨g2, 0, none⟩) m m)))
  clear NE NR hr1 hr2
  have r0 := XR.out.cell 0 rfl
  have r1 := XR.out.cell 1 rfl
  have rz := XR.out.free 0
  have rz1 := XR.out.free 1
  have rl := XR.out.lt
  have R2 := Lib.hid ((XR.out.setCell 0 (.slice (some ⟨g1, 0, none⟩) m m)).setCell 1 (.slice (some ⟨g2, 0, none⟩) m m))
  have B2 := Lib.hid ((HB.out.setCell (p := ⟨w.heap.size + 1, 0, none⟩) (by simp) (.slice (some ⟨g1, 0, none⟩) m m)).setCell (p := ⟨w.heap.size + 1, 1, none⟩) (by simp) (.slice (some ⟨g2, 0, none⟩) m m))
  go_wp2_with fail
  have q0 := R2.out.cell 0 rfl
  have q1 := R2.out.cell 1 rfl
  exact bodyPost_ret (v := .tuple #[.agg #[.slice (some ⟨g1, 0, none⟩) m m, .slice (some ⟨g2, 0, none⟩) m m], .slice (some ⟨gp, 0, none⟩) k k, .int .i64 0]) (by simp [results, Try.results50, go_sem, q0, q1]) rfl ⟨HPY.out, B2.out⟩
end Go.Proofs.Ytmebpglkeedaoaa
namespace Go.Proofs.Ytmebpglkeedaoaa
open Go.RowKit Dp
def CostV (S : Site) (cs : List Car) (e : Ending) : Prop :=
  (∃ T p, Best S cs T p ∧ e = .returned (.tuple #[.int .i64 (prc S T cs.length S.lim.length), .bool true])) ∨
  (e = .returned (.tuple #[.int .i64 0, .bool false]) ∧ (stE S cs ≠ 0 ∨ ∀ T, plE S cs T ≠ 0))
theorem RwJ.tab2 {n m g1 g2 : Nat} {gI gO : Nat → Nat} {RI RO : Nat → List Int} {W : World} (h1 : RwJ n m g1 gI RI W) (h2 : RwJ n m g2 gO RO W) (hn : n ≤ 9223372036854775807) : TabAt W (some ⟨g1, 0, none⟩) (some ⟨g2, 0, none⟩) ⟨(List.range m).map RI, (List.range m).map RO⟩ := ⟨h1.rows hn, h2.rows hn⟩
set_option maxHeartbeats 4000000 in
set_option maxRecDepth 100000 in
theorem cost_c (A B C D E : Option Addr) (S : Site) (cs : List Car) (n nB nC nD m cA cB cC cD cE : Nat) (w : World) (hn : n = S.lim.length) (hnB : nB = S.exp.length) (hnC : nC = S.buy.length) (hnD : nD = S.sell.length) (hm : m = cs.length)
    (hA : n ≤ cA ∧ cA ≤ 9223372036854775807) (hB : nB ≤ cB ∧ cB ≤ 9223372036854775807) (hC : nC ≤ cC ∧ cC ≤ 9223372036854775807) (hD : nD ≤ cD ∧ cD ≤ 9223372036854775807) (hE : m ≤ cE ∧ cE ≤ 9223372036854775807)
    (hS : SiteAt w A B C D S) (hcs : CarsAt w E cs) :
    Calls Try.prog 51 #[.agg #[.slice A n cA, .slice B nB cB, .slice C nC cC, .slice D nD cD], .slice E m cE] w fun e w' => CostV S cs e ∧ Below w.heap.size w w' := by
  have F50 : Hid (∀ V, Below w.heap.size w V → Calls Try.prog 50 #[.agg #[.slice A n cA, .slice B nB cB, .slice C nC cC, .slice D nD cD], .slice E m cE] V (fun e w' => PlanP S cs V e w' ∧ Below V.heap.size V w')) := Lib.hid (fun V hV => Plan_c A B C D E S cs n nB nC nD m cA cB cC cD cE V hn hnB hnC hnD hm hA hB hC hD hE (hS.below hV (Nat.le_refl _)) (hcs.below hV (Nat.le_refl _)))
  have F38 : Hid (∀ (T : Tab) (g1 g2 : Nat) V, Below w.heap.size w V → T.inn.length = m → T.out.length = m → TabAt V (some ⟨g1, 0, none⟩) (some ⟨g2, 0, none⟩) T → plE S cs T = 0 → m ≤ 8 → Calls Try.prog 38 #[.agg #[.slice A n cA, .slice B nB cB, .slice C nC cC, .slice D nD cD], .slice E m cE, .agg #[.slice (some ⟨g1, 0, none⟩) m m, .slice (some ⟨g2, 0, none⟩) m m]] V (fun e w' => e = .returned (.tuple #[.int .i64 (prc S T cs.length S.lim.length), .int .i64 0]) ∧ Below V.heap.size V w')) := Lib.hid (fun T g1 g2 V hV h1 h2 hT h0 h8 => by
    have := Price_c A B C D E (some ⟨g1, 0, none⟩) (some ⟨g2, 0, none⟩) S cs T n nB nC nD m m m cA cB cC cD cE m m V hn hnB hnC hnD hm h1.symm h2.symm hA hB hC hD hE ⟨Nat.le_refl _, by omega⟩ ⟨Nat.le_refl _, by omega⟩ (hS.below hV (Nat.le_refl _)) (hcs.below hV (Nat.le_refl _)) hT
    rw [h0, show prcV S cs T = prc S T cs.length S.lim.length from if_pos h0] at this
    exact this)
  have HQ1 : Hid (∀ T q, Best S cs T q → CostV S cs (.returned (.tuple #[.int .i64 (prc S T cs.length S.lim.length), .bool true]))) := Lib.hid (fun T q h => .inl ⟨T, q, h, rfl⟩)
  have HQ2 : Hid ((stE S cs ≠ 0 ∨ ∀ T, plE S cs T ≠ 0) → CostV S cs (.returned (.tuple #[.int .i64 0, .bool false]))) := Lib.hid (fun h => .inr ⟨rfl, h⟩)
  have HBD : Hid (stE S cs = 0 → m ≤ 8 ∧ S.lim.length ≤ 48) := Lib.hid (fun h => by have := (stE_0 h).1; have := (siteHead_iff.1 (stE_0 h).2.1).1; omega)
  have HM := Lib.hid hm
  clear hn hnB hnC hnD hm hS hcs
  generalize hCV : CostV S cs = CV at *
  clear hCV
  have HB := Lib.hid ((Below.refl w.heap.size w).alloc (Nat.le_refl _) (.cells #[.slice A n cA, .slice B nB cB, .slice C nC cC, .slice D nD cD] 51))
  have XS := Lib.hid (Blk.new' w #[.slice A n cA, .slice B nB cB, .slice C nC cC, .slice D nD cD] 51)
  go_enter Try.func51, Try.ntmps51
  go_upto_region 1 with fail
  generalize w.alloc (.cells #[.slice A n cA, .slice B nB cB, .slice C nC cC, .slice D nD cD] 51) = w1 at HB XS ⊢
  have s0 := XS.out.cell 0 rfl
  have s1 := XS.out.cell 1 rfl
  have s2 := XS.out.cell 2 rfl
  have s3 := XS.out.cell 3 rfl
  have sl := XS.out.lt
  go_wp2_with fail
  refine (F50.out w1 HB.out).mono ?_
  rintro e w2 ⟨hP, hb⟩
  clear s0 s1 s2 s3 sl
  have XS := Lib.hid (XS.out.below hb XS.out.lt)
  have HB := Lib.hid (HB.out.trans (hb.mono HB.out.size))
  clear hb
  rcases hP with ⟨h0, rfl⟩ | ⟨h0, rfl, hno⟩ | ⟨h0, g1, g2, gp, gI, gO, RI, RO, ps, rfl, z1, z2, _, _, z5⟩
  · have HC := Lib.hid (HQ2.out (.inl h0))
    have hb0 : (stE S cs == 0) = false := by simpa using h0
    have HB3 := Lib.hid (HB.out.alloc HB.out.size (.cells #[.slice none 0 0, .slice none 0 0] 55))
    clear h0
    go_wp2_with fail
    exact bodyPost_ret (v := .tuple #[.int .i64 0, .bool false]) (by simp [results, Try.results51, go_sem]) rfl ⟨HC.out, HB3.out⟩
  · have HC := Lib.hid (HQ2.out (.inr hno))
    have HB3 := Lib.hid (HB.out.alloc HB.out.size (.cells #[.slice none 0 0, .slice none 0 0] 55))
    clear h0 hno
    go_wp2_with fail
    exact bodyPost_ret (v := .tuple #[.int .i64 0, .bool false]) (by simp [results, Try.results51, go_sem]) rfl ⟨HC.out, HB3.out⟩
  · have hbd := HBD.out h0
    rw [← HM.out] at z1 z2 z5 ⊢
    have hb := (Below.refl w2.heap.size w2).alloc (Nat.le_refl _) (.cells #[.slice (some ⟨g1, 0, none⟩) m m, .slice (some ⟨g2, 0, none⟩) m m] 55)
    have HT := Lib.hid ((z1.below hb).tab2 (z2.below hb) (by omega))
    have HC := Lib.hid (HQ1.out _ _ z5)
    have HK := Lib.hid z5.ok
    have X2 := Lib.hid (Blk.new' w2 #[.slice (some ⟨g1, 0, none⟩) m m, .slice (some ⟨g2, 0, none⟩) m m] 55)
    have XS := Lib.hid (XS.out.below hb XS.out.lt)
    have HB := Lib.hid (HB.out.trans (hb.mono HB.out.size))
    clear z1 z2 z5 hb h0
    go_upto_region 4 with fail
    generalize w2.alloc (.cells #[.slice (some ⟨g1, 0, none⟩) m m, .slice (some ⟨g2, 0, none⟩) m m] 55) = w3 at *
    generalize w2.heap.size = gt at *
    have s0 := XS.out.cell 0 rfl
    have s1 := XS.out.cell 1 rfl
    have s2 := XS.out.cell 2 rfl
    have s3 := XS.out.cell 3 rfl
    have sl := XS.out.lt
    have t0 := X2.out.cell 0 rfl
    have t1 := X2.out.cell 1 rfl
    have tl := X2.out.lt
    go_wp2_with fail
    refine (F38.out _ g1 g2 w3 HB.out (by simp) (by simp) HT.out HK.out hbd.1).mono ?_
    rintro e w4 ⟨rfl, hb⟩
    have HB := Lib.hid (HB.out.trans (hb.mono HB.out.size))
    clear s0 s1 s2 s3 sl t0 t1 tl hb
    go_wp2_with fail
    exact bodyPost_ret (v := .tuple #[.int .i64 _, .bool true]) (by simp [results, Try.results51, go_sem]) rfl ⟨HC.out, HB.out⟩
end Go.Proofs.Ytmebpglkeedaoaa
namespace Go.Proofs.Ytmebpglkeedaoaa
open Go.RowKit Dp
def cpK (S : Site) (most : Int) (k : Nat) : List Int := (List.range S.lim.length).map fun i => if i < k then min (S.lim.getD i 0) most else S.lim.getD i 0
theorem cpK_len (S : Site) (most : Int) (k : Nat) : (cpK S most k).length = S.lim.length := by simp [cpK]
theorem cpK_0 (S : Site) (most : Int) : cpK S most 0 = S.lim := by
  apply List.ext_getElem
  · simp [cpK]
  · intro i h1 h2
    simp [cpK, List.getD_eq_getElem?_getD, h2]
theorem cpK_get {S : Site} {most : Int} {k i : Nat} (hi : i < S.lim.length) : (cpK S most k).getD i 0 = if i < k then min (S.lim.getD i 0) most else S.lim.getD i 0 := by
  simp [cpK, List.getD_eq_getElem?_getD, hi]
theorem cpK_set {S : Site} {most : Int} {k : Nat} (hk : k < S.lim.length) : (cpK S most k).set k (min (S.lim.getD k 0) most) = cpK S most (k + 1) := by
  apply List.ext_getElem
  · simp [cpK]
  · intro i h1 h2
    rw [List.getElem_set]
    simp only [cpK, List.getElem_map, List.getElem_range]
    by_cases e : k = i
    · subst e; simp
    · rw [if_neg e]
      by_cases h : i < k
      · rw [if_pos h, if_pos (by omega)]
      · rw [if_neg h, if_neg (by omega)]
theorem cpK_all (S : Site) (most : Int) : cpK S most S.lim.length = cpL S most S.lim.length := by
  unfold cpK cpL
  exact List.map_congr_left fun x hx => by rw [if_pos (by simpa using hx)]
set_option maxHeartbeats 8000000 in
set_option maxRecDepth 100000 in
theorem capped_c (A B C D : Option Addr) (S : Site) (most : Int) (n nB nC nD cA cB cC cD : Nat) (w : World) (hn : n = S.lim.length) (h60 : n ≤ 1024) (h1 : 1 ≤ n)
    (hA : n ≤ cA ∧ cA ≤ 9223372036854775807) (hS : IntsAt w A S.lim) :
    Calls Try.prog 90 #[.agg #[.slice A n cA, .slice B nB cB, .slice C nC cC, .slice D nD cD], .int .i64 most] w fun e w' => ∃ (G : Option Addr) (c : Nat), e = .returned (.agg #[.slice G n c, .slice B nB cB, .slice C nC cC, .slice D nD cD]) ∧ (n ≤ c ∧ c ≤ 9223372036854775807) ∧ w'.ownsRow w.heap.size 2 1 (.slice G n c) n ((cpL S most n).map (.int .i64)) ∧ Below w.heap.size w w' := by
  have HN := Lib.hid hn
  have HS := Lib.hid hS
  clear hn hS
  obtain ⟨i2, h2i, h2z, h2s, h2b⟩ := info_parts info2
  have HB := Lib.hid (((Below.refl w.heap.size w).alloc (Nat.le_refl _) (.cells #[.slice A n cA, .slice B nB cB, .slice C nC cC, .slice D nD cD] 51)).alloc (by simp) (.cells #[.slice none 0 0, .slice none 0 0, .slice none 0 0, .slice none 0 0] 51))
  have XS := Lib.hid ((Blk.new' w #[.slice A n cA, .slice B nB cB, .slice C nC cC, .slice D nD cD] 51).alloc (.cells #[.slice none 0 0, .slice none 0 0, .slice none 0 0, .slice none 0 0] 51))
  have XR := Lib.hid (show Blk ((w.alloc (.cells #[.slice A n cA, .slice B nB cB, .slice C nC cC, .slice D nD cD] 51)).alloc (.cells #[.slice none 0 0, .slice none 0 0, .slice none 0 0, .slice none 0 0] 51)) (w.heap.size + 1) 51 [.slice none 0 0, .slice none 0 0, .slice none 0 0, .slice none 0 0] from by simpa using Blk.new' (w.alloc (.cells #[.slice A n cA, .slice B nB cB, .slice C nC cC, .slice D nD cD] 51)) #[.slice none 0 0, .slice none 0 0, .slice none 0 0, .slice none 0 0] 51)
  go_enter Try.func90, Try.ntmps90
  go_upto_region 1 with fail
  generalize (w.alloc (.cells #[.slice A n cA, .slice B nB cB, .slice C nC cC, .slice D nD cD] 51)).alloc (.cells #[.slice none 0 0, .slice none 0 0, .slice none 0 0, .slice none 0 0] 51) = w1 at HB XS XR ⊢
  have s0 := XS.out.cell 0 rfl
  have sz := XS.out.free 0
  have sl := XS.out.lt
  go_wp2_with fail
  refine (clone_c A S.lim n cA w1 HN.out h1 (by omega) (HS.out.below HB.out (Nat.le_refl _))).mono ?_
  rintro e w2 ⟨g, c, rfl, hb, hg1, hg2, hO⟩
  have HLT : Hid (w.heap.size + 1 < w1.heap.size) := Lib.hid XR.out.lt
  have HG : Hid (w1.heap.size ≤ g) := Lib.hid hg1
  have hc : n ≤ c ∧ c ≤ 9223372036854775807 := by
    have hO2 := hO
    unfold OwnI at hO2
    rcases hO2.2 with ⟨h0, _⟩ | ⟨g', c', cur, hv, _, _, hc1, hc2, _⟩
    · cases h0
    · cases hv
      unfold maxLen at hc2
      rw [HN.out]
      omega
  have HC := Lib.hid hc
  have X0 := XS.out.below hb XS.out.lt
  have HJ0 : Hid (Below w.heap.size w (w2.setCell ⟨w.heap.size, 0, none⟩ (.slice (some ⟨g, 0, none⟩) n c)) ∧ Blk (w2.setCell ⟨w.heap.size, 0, none⟩ (.slice (some ⟨g, 0, none⟩) n c)) w.heap.size 51 [.slice (some ⟨g, 0, none⟩) n c, .slice B nB cB, .slice C nC cC, .slice D nD cD] ∧ Blk (w2.setCell ⟨w.heap.size, 0, none⟩ (.slice (some ⟨g, 0, none⟩) n c)) (w.heap.size + 1) 51 [.slice none 0 0, .slice none 0 0, .slice none 0 0, .slice none 0 0] ∧ OwnI w1.heap.size (w2.setCell ⟨w.heap.size, 0, none⟩ (.slice (some ⟨g, 0, none⟩) n c)) g c (cpK S most 0)) := Lib.hid ⟨(HB.out.trans (hb.mono HB.out.size)).setCell (p := ⟨w.heap.size, 0, none⟩) (Nat.le_refl _) _, X0.setCell 0 _, (XR.out.below hb XR.out.lt).setCell_ne (p := ⟨w.heap.size, 0, none⟩) (by simp) _, by rw [cpK_0]; exact ownSet (p := ⟨w.heap.size, 0, none⟩) hO (own_blk_no (g := w.heap.size) X0 hO (by decide)) _⟩
  have HX0 := Lib.hid X0
  clear s0 sz sl hc hO hb hg1 hg2 X0 XR XS HB
  have s0 := HX0.out.cell 0 rfl
  have sz := HX0.out.free 0
  have sl := HX0.out.lt
  go_upto_region 2 with fail
  clear s0 sz sl HX0
  generalize w2.setCell ⟨w.heap.size, 0, none⟩ (.slice (some ⟨g, 0, none⟩) n c) = w3 at HJ0 ⊢
  have s0 := HJ0.out.2.1.cell 0 rfl
  have sl := HJ0.out.2.1.lt
  go_wp2_with fail
  clear s0 sl
  go_loopw [14] (fun iv wr => ∃ k : Nat, k ≤ n ∧ iv = .int .i64 k ∧ Hid (Below w.heap.size w wr ∧ Blk wr w.heap.size 51 [.slice (some ⟨g, 0, none⟩) n c, .slice B nB cB, .slice C nC cC, .slice D nD cD] ∧ Blk wr (w.heap.size + 1) 51 [.slice none 0 0, .slice none 0 0, .slice none 0 0, .slice none 0 0] ∧ OwnI w1.heap.size wr g c (cpK S most k))) (fun iv _ => n - (intOf iv).toNat)
  case atStart => exact ⟨0, Nat.zero_le _, rfl, HJ0⟩
  case round =>
    clear HJ0
    obtain ⟨k, hk, rfl, HJ⟩ := hrel
    have s0 := HJ.out.2.1.cell 0 rfl
    have sl := HJ.out.2.1.lt
    have hcc := HC.out
    by_cases hlt : k < n
    · have hki : (k : Int) < (n : Int) := by omega
      have kS : k < S.lim.length := by rw [← HN.out]; exact hlt
      have HX := Lib.hid (cpK_set (most := most) kS)
      have g0 := HJ.out.2.2.2.cell k (by rw [cpK_len]; exact kS)
      have gz := HJ.out.2.2.2.free k
      have gl := HJ.out.2.2.2.lt.2
      rw [cpK_get kS, if_neg (Nat.lt_irrefl k)] at g0
      generalize S.lim.getD k 0 = x at *
      obtain ⟨mv, hmv⟩ : ∃ mv, mv = min x most := ⟨_, rfl⟩
      have gm : (if most < x then most else x) = mv := by rw [gmin_eq, hmv]
      rw [← hmv] at HX
      clear hmv
      have hg1 := HG.out
      have hl1 := HLT.out
      have HE : Hid (Below w.heap.size w (wr.setCell ⟨g, k, none⟩ (.int .i64 mv)) ∧ Blk (wr.setCell ⟨g, k, none⟩ (.int .i64 mv)) w.heap.size 51 [.slice (some ⟨g, 0, none⟩) n c, .slice B nB cB, .slice C nC cC, .slice D nD cD] ∧ Blk (wr.setCell ⟨g, k, none⟩ (.int .i64 mv)) (w.heap.size + 1) 51 [.slice none 0 0, .slice none 0 0, .slice none 0 0, .slice none 0 0] ∧ OwnI w1.heap.size (wr.setCell ⟨g, k, none⟩ (.int .i64 mv)) g c (cpK S most (k + 1))) := Lib.hid ⟨HJ.out.1.setCell (p := ⟨g, k, none⟩) (by simp; omega) _, HJ.out.2.1.setCell_ne (p := ⟨g, k, none⟩) (by simp; omega) _, HJ.out.2.2.1.setCell_ne (p := ⟨g, k, none⟩) (by simp; omega) _, by rw [← HX.out]; exact HJ.out.2.2.2.put k mv⟩
      clear hg1 hl1
      go_wp2_with fail
      exact ⟨⟨k + 1, by omega, by go_num, HE⟩, by simp [intOf]; omega⟩
    · obtain rfl : n = k := by omega
      have s1 := HJ.out.2.1.cell 1 rfl
      have s2 := HJ.out.2.1.cell 2 rfl
      have s3 := HJ.out.2.1.cell 3 rfl
      have r0 := HJ.out.2.2.1.cell 0 rfl
      have r1 := HJ.out.2.2.1.cell 1 rfl
      have r2 := HJ.out.2.2.1.cell 2 rfl
      have r3 := HJ.out.2.2.1.cell 3 rfl
      have rz := HJ.out.2.2.1.free 0
      have rz1 := HJ.out.2.2.1.free 1
      have rz2 := HJ.out.2.2.1.free 2
      have rz3 := HJ.out.2.2.1.free 3
      have rl := HJ.out.2.2.1.lt
      have O1 := HJ.out.2.2.2
      have R0 := HJ.out.2.2.1
      have O2 := ownSet (p := ⟨w.heap.size + 1, 0, none⟩) O1 (own_blk_no (g := w.heap.size + 1) R0 O1 (by decide)) (.slice (some ⟨g, 0, none⟩) n c)
      have R1 := R0.setCell 0 (.slice (some ⟨g, 0, none⟩) n c)
      have O3 := ownSet (p := ⟨w.heap.size + 1, 1, none⟩) O2 (own_blk_no (g := w.heap.size + 1) R1 O2 (by decide)) (.slice B nB cB)
      have R2 := R1.setCell 1 (.slice B nB cB)
      have O4 := ownSet (p := ⟨w.heap.size + 1, 2, none⟩) O3 (own_blk_no (g := w.heap.size + 1) R2 O3 (by decide)) (.slice C nC cC)
      have R3 := R2.setCell 2 (.slice C nC cC)
      have O5 := ownV_mono (ownSet (p := ⟨w.heap.size + 1, 3, none⟩) O4 (own_blk_no (g := w.heap.size + 1) R3 O4 (by decide)) (.slice D nD cD)) (show w.heap.size ≤ w1.heap.size by have := HLT.out; omega)
      have R4 := Lib.hid (R3.setCell 3 (.slice D nD cD))
      have B5 := Lib.hid ((((HJ.out.1.setCell (p := ⟨w.heap.size + 1, 0, none⟩) (Nat.le_succ _) (.slice (some ⟨g, 0, none⟩) n c)).setCell (p := ⟨w.heap.size + 1, 1, none⟩) (Nat.le_succ _) (.slice B nB cB)).setCell (p := ⟨w.heap.size + 1, 2, none⟩) (Nat.le_succ _) (.slice C nC cC)).setCell (p := ⟨w.heap.size + 1, 3, none⟩) (Nat.le_succ _) (.slice D nD cD))
      rw [show cpK S most n = cpL S most n by rw [HN.out]; exact cpK_all S most, cpL_len] at O5
      have O6 := Lib.hid O5
      clear O1 R0 O2 R1 O3 R2 O4 R3 O5
      go_wp2_with fail
      have q0 := R4.out.cell 0 rfl
      have q1 := R4.out.cell 1 rfl
      have q2 := R4.out.cell 2 rfl
      have q3 := R4.out.cell 3 rfl
      exact bodyPost_ret (v := .agg #[.slice (some ⟨g, 0, none⟩) n c, .slice B nB cB, .slice C nC cC, .slice D nD cD]) (by simp [results, Try.results90, go_sem, q0, q1, q2, q3]) rfl ⟨some ⟨g, 0, none⟩, c, rfl, hcc, O6.out, B5.out⟩
end Go.Proofs.Ytmebpglkeedaoaa
namespace Go.Proofs.Ytmebpglkeedaoaa
open Go.RowKit Dp
def MsV (N : Net) (w : World) (e : Ending) (w' : World) : Prop :=
  (e = .returned (.slice none 0 0) ∧ ∃ fl, isFlow N fl = true) ∨
  ∃ (g c k : Nat) (cut : List Int), k = cut.length ∧ e = .returned (.slice (some ⟨g, 0, none⟩) k c) ∧ w'.ownsRow w.heap.size 3 1 (.slice (some ⟨g, 0, none⟩) k c) k (cut.map (.int .i64)) ∧ (k ≤ c ∧ c ≤ 9223372036854775807) ∧ k ≤ 1024 ∧ (∀ j, j < cut.length → cutAt N.sup.length cut j = true) ∧ 0 < lkA N cut N.arcs.length ∧ ∀ fl, isFlow N fl = false
theorem MsV.mono {N : Net} {w V w' : World} {e : Ending} (h : MsV N V e w') (hb : w.heap.size ≤ V.heap.size) : MsV N w e w' := by
  rcases h with h | ⟨g, c, k, cut, h1, h2, h3, h4⟩
  · exact .inl h
  · exact .inr ⟨g, c, k, cut, h1, h2, ownV_mono2 h3 hb, h4⟩
def MsU (N : Net) (w : World) (e : Ending) (w' : World) : Prop := (∃ v x y, e = .returned (.tuple #[v, .int .i64 x, .int .i64 y]) ∧ MsV N w (.returned v) w') ∧ Below w.heap.size w w'
theorem MissP.u {N : Net} {w w' : World} {e : Ending} (h : MissP N w e w') (h0 : chE N = 0) (hb : Below w.heap.size w w') : MsU N w e w' := by
  refine ⟨?_, hb⟩
  rcases h with ⟨h1, _⟩ | ⟨_, rfl, h2⟩ | ⟨_, g, c, cut, rfl, h1, h2, h3, h4, h5⟩
  · exact absurd h0 h1
  · exact ⟨_, _, _, rfl, .inl ⟨rfl, h2⟩⟩
  · exact ⟨_, _, _, rfl, .inr ⟨g, c, cut.length, cut, rfl, rfl, h1, own_cap2 h1, h2, h3, h4, h5⟩⟩
set_option maxHeartbeats 4000000 in
set_option maxRecDepth 100000 in
theorem missing_c (A B C D E : Option Addr) (S : Site) (cs : List Car) (n m cA cB cC cD cE b1 b2 : Nat) (most : Int) (w : World) (h0 : stE S cs = 0) (hp : 0 ≤ most) (hn : n = S.lim.length) (hm : m = cs.length)
    (hA : n ≤ cA ∧ cA ≤ 9223372036854775807) (hB : n ≤ cB ∧ cB ≤ 9223372036854775807) (hC : n ≤ cC ∧ cC ≤ 9223372036854775807) (hD : n ≤ cD ∧ cD ≤ 9223372036854775807) (hE : m ≤ cE ∧ cE ≤ 9223372036854775807)
    (hS : SiteAt w A B C D S) (hcs : CarsAt w E cs) (hb1 : Blk w b1 51 [.slice A n cA, .slice B n cB, .slice C n cC, .slice D n cD]) (hb2 : Blk w b2 52 [.slice E m cE]) :
    Calls Try.prog 92 #[.int .i64 most, .pointer (some ⟨b1, 0, none⟩), .pointer (some ⟨b2, 0, none⟩)] w fun e w' => MsV (netN (cpS S most) cs) w e w' ∧ Below w.heap.size w w' := by
  have h48 := (siteHead_iff.1 (stE_0 h0).2.1).1
  have hok := cpS_ok (most := most) h0 hp
  obtain ⟨N, hN⟩ : ∃ N, N = netN (cpS S most) cs := ⟨_, rfl⟩
  obtain ⟨k, hk⟩ : ∃ k, k = N.sup.length := ⟨_, rfl⟩
  obtain ⟨l, hl⟩ : ∃ l, l = N.arcs.length := ⟨_, rfl⟩
  have FX : Hid (∀ V, Below w.heap.size w V → Calls Try.prog 90 #[.agg #[.slice A n cA, .slice B n cB, .slice C n cC, .slice D n cD], .int .i64 most] V (fun e w' => ∃ (G : Option Addr) (c : Nat), e = .returned (.agg #[.slice G n c, .slice B n cB, .slice C n cC, .slice D n cD]) ∧ (n ≤ c ∧ c ≤ 9223372036854775807) ∧ SiteAt w' G B C D (cpS S most) ∧ Below V.heap.size V w')) := Lib.hid (fun V hV => by
    refine (capped_c A B C D S most n n n n cA cB cC cD V hn (by omega) (by omega) hA (hS.below hV (Nat.le_refl _)).1).mono ?_
    rintro e w' ⟨G, c, rfl, hc, hO, hb⟩
    exact ⟨G, c, rfl, hc, ((hS.below hV (Nat.le_refl _)).below hb (Nat.le_refl _)).capped hn hO, hb⟩)
  have FB : Hid (∀ (G : Option Addr) (c : Nat) V, Below w.heap.size w V → (n ≤ c ∧ c ≤ 9223372036854775807) → SiteAt V G B C D (cpS S most) → Calls Try.prog 76 #[.agg #[.slice G n c, .slice B n cB, .slice C n cC, .slice D n cD], .slice E m cE] V (BltV N k l V)) := Lib.hid (fun G c V hV hc hSV => (build_c G B C D E (cpS S most) cs _ m c cB cC cD cE V hok (by rw [cpS_len]; exact hn) hm hc hB hC hD hE hSV (hcs.below hV (Nat.le_refl _))).mono (fun _ _ h => R76.v hN hk hl h))
  have FM : Hid (∀ (gs : Nat) (M : Option Addr) (c : Nat) V, NetAt V (some ⟨gs, 0, none⟩) M N → (l ≤ c ∧ c ≤ 9223372036854775807) → Calls Try.prog 28 #[.agg #[.slice (some ⟨gs, 0, none⟩) k k, .slice M l c]] V (MsU N V)) := Lib.hid (fun gs M c V hV hc => by
    have hch : chE N = 0 := by rw [hN]; exact net_ok hok
    refine (Missing_c (some ⟨gs, 0, none⟩) M N k l k c V hk hl ⟨Nat.le_refl _, ?_⟩ hc hV).mono (fun _ _ h => h.1.u hch h.2)
    have := (net_len hch).2.1
    omega)
  have RD : Hid (∀ W, Below w.heap.size w W → (W.cell? ⟨b1, 0, none⟩ = some (.slice A n cA) ∧ W.cell? ⟨b1, 1, none⟩ = some (.slice B n cB) ∧ W.cell? ⟨b1, 2, none⟩ = some (.slice C n cC) ∧ W.cell? ⟨b1, 3, none⟩ = some (.slice D n cD)) ∧ W.cell? ⟨b2, 0, none⟩ = some (.slice E m cE) ∧ b1 < W.heap.size) := Lib.hid (fun W h => by
    have x1 := hb1.below h hb1.lt
    have x2 := hb2.below h hb2.lt
    exact ⟨⟨x1.cell 0 rfl, x1.cell 1 rfl, x1.cell 2 rfl, x1.cell 3 rfl⟩, x2.cell 0 rfl, x1.lt⟩)
  have HT := Lib.hid (Below.refl w.heap.size w)
  have HT := Lib.hid (HT.out.drew)
  rw [← hN]
  clear hb1 hb2 hS hcs hn hm hok hN hk hl h0 hp
  go_enter Try.func92, Try.ntmps92
  go_upto_region 1 with fail
  refine lBegin (S := fun _ W => ((W.cell? ⟨b1, 0, none⟩ = some (.slice A n cA) ∧ W.cell? ⟨b1, 1, none⟩ = some (.slice B n cB) ∧ W.cell? ⟨b1, 2, none⟩ = some (.slice C n cC) ∧ W.cell? ⟨b1, 3, none⟩ = some (.slice D n cD)) ∧ W.cell? ⟨b2, 0, none⟩ = some (.slice E m cE) ∧ b1 < W.heap.size)) (by kernel_rfl) ?_ (fun hHeld => ?_)
  · (try dsimp only); (first | with_reducible exact RD.out _ HT.out | with_reducible assumption)
  refine lTake (i := 0) (v := ?_) rfl (by kernel_rfl) (by kernel_rfl) (by kernel_rfl) (fun _ _ _ h => h) (by rfl) (fun _ _ h => h) (fun _ _ h => h) ?_ (by assumption) (fun hHeld2 => ?_)
  rotate_left 1
  · (intro L W _ _ hSw; (try dsimp only at hSw); first | (go_simp; done) | (go_simp; with_reducible rfl))
  clear hHeld; have hHeld := hHeld2; clear hHeld2
  (try simp only [Act.put, List.setIfInBounds_toArray, List.set_cons_zero, List.set_cons_succ])
  refine lTake (i := 1) (v := ?_) rfl (by kernel_rfl) (by kernel_rfl) (by kernel_rfl) (fun _ _ _ h => h) (by rfl) (fun _ _ h => h) (fun _ _ h => h) ?_ (by assumption) (fun hHeld2 => ?_)
  rotate_left 1
  · (intro _ _ _ _ _; first | (go_simp; done) | (go_simp; with_reducible rfl))
  clear hHeld; have hHeld := hHeld2; clear hHeld2
  (try simp only [Act.put, List.setIfInBounds_toArray, List.set_cons_zero, List.set_cons_succ])
  refine lTake (i := 3) (v := ?_) rfl (by kernel_rfl) (by kernel_rfl) (by kernel_rfl) (fun _ _ _ h => h) (by rfl) (fun _ _ h => h) (fun _ _ h => h) ?_ (by assumption) (fun hHeld2 => ?_)
  rotate_left 1
  · (intro L W _ _ hSw; (try dsimp only at hSw); first | (go_simp; done) | (go_simp; with_reducible rfl))
  clear hHeld; have hHeld := hHeld2; clear hHeld2
  (try simp only [Act.put, List.setIfInBounds_toArray, List.set_cons_zero, List.set_cons_succ])
  refine lReady (rs := [2]) (by kernel_rfl) (by simp) ?_
  refine AllL.cons (i := 2) rfl (fun K hK => ?_) ?_
  · go_simp; (refine (FX.out _ HT.out).mono ?_; rintro e w2 ⟨G, c, rfl, hc, hSA, hb⟩; have HT := Lib.hid (HT.out.trans (hb.mono HT.out.size)); have HC := Lib.hid hc; have HSA := Lib.hid hSA; clear hb hc hSA)
    (try go_wp2_with fail)
    refine hK.out _ _ ?_ (fun hHeld2 => ?_)
    · (try dsimp only); (first | with_reducible exact RD.out _ HT.out | with_reducible assumption)
    clear hK K
    clear hHeld; have hHeld := hHeld2; clear hHeld2
    (try simp only [Act.put, List.setIfInBounds_toArray, List.set_cons_zero, List.set_cons_succ])
    refine lReady (rs := [4]) (by kernel_rfl) (by simp) ?_
    refine AllL.cons (i := 4) rfl (fun K hK => ?_) ?_
    · go_simp; (refine (FB.out G c _ HT.out HC.out HSA.out).mono ?_; rintro e w3 ⟨b, gs, M, c4, v2, v3, rfl, hX, hNA, hc4, hb⟩; have HT := Lib.hid (HT.out.trans (hb.mono HT.out.size)); have XB := Lib.hid hX; have HNA := Lib.hid hNA; have HC4 := Lib.hid hc4; clear hb hX hNA hc4)
      (try go_wp2_with fail)
      refine hK.out _ _ ?_ (fun hHeld2 => ?_)
      · (try dsimp only); (first | with_reducible exact RD.out _ HT.out | with_reducible assumption)
      clear hK K
      clear hHeld; have hHeld := hHeld2; clear hHeld2
      (try simp only [Act.put, List.setIfInBounds_toArray, List.set_cons_zero, List.set_cons_succ])
      refine lTake (i := 5) (v := ?_) rfl (by kernel_rfl) (by kernel_rfl) (by kernel_rfl) (fun _ _ _ h => h) (by rfl) (fun _ _ h => h) (fun _ _ h => h) ?_ (by assumption) (fun hHeld2 => ?_)
      rotate_left 1
      · (intro _ _ _ _ _; first | (go_simp; done) | (go_simp; with_reducible rfl))
      clear hHeld; have hHeld := hHeld2; clear hHeld2
      (try simp only [Act.put, List.setIfInBounds_toArray, List.set_cons_zero, List.set_cons_succ])
      refine lTake (i := 6) (v := ?_) rfl (by kernel_rfl) (by kernel_rfl) (by kernel_rfl) (fun _ _ _ h => h) (by rfl) (fun _ _ h => h) (fun _ _ h => h) ?_ (by assumption) (fun hHeld2 => ?_)
      rotate_left 1
      · (intro _ _ _ _ _; first | (go_simp; done) | (go_simp; with_reducible rfl))
      clear hHeld; have hHeld := hHeld2; clear hHeld2
      (try simp only [Act.put, List.setIfInBounds_toArray, List.set_cons_zero, List.set_cons_succ])
      refine lReady (rs := [7]) (by kernel_rfl) (by simp) ?_
      refine AllL.cons (i := 7) rfl (fun K hK => ?_) ?_
      · (have y0 := XB.out.cell 0 rfl; have y1 := XB.out.cell 1 rfl; have yl := XB.out.lt; go_simp)
        (try go_wp2_with fail)
        refine hK.out _ _ ?_ (fun hHeld2 => ?_)
        · (try dsimp only); (first | with_reducible exact RD.out _ HT.out | with_reducible assumption)
        clear hK K
        clear hHeld; have hHeld := hHeld2; clear hHeld2
        (try simp only [Act.put, List.setIfInBounds_toArray, List.set_cons_zero, List.set_cons_succ])
        refine lReady (rs := [8]) (by kernel_rfl) (by simp) ?_
        refine AllL.cons (i := 8) rfl (fun K hK => ?_) ?_
        · go_simp; (refine (FM.out gs M c4 _ HNA.out HC4.out).mono ?_; rintro e w4 ⟨⟨v, x, y, rfl, hV⟩, hb⟩; have HV := Lib.hid (hV.mono HT.out.size); have HT := Lib.hid (HT.out.trans (hb.mono HT.out.size)); clear hb hV)
          (try go_wp2_with fail)
          refine hK.out _ _ ?_ (fun hHeld2 => ?_)
          · (try dsimp only); (first | with_reducible exact RD.out _ HT.out | with_reducible assumption)
          clear hK K
          clear hHeld; have hHeld := hHeld2; clear hHeld2
          (try simp only [Act.put, List.setIfInBounds_toArray, List.set_cons_zero, List.set_cons_succ])
          refine lTake (i := 9) (v := ?_) rfl (by kernel_rfl) (by kernel_rfl) (by kernel_rfl) (fun _ _ _ h => h) (by rfl) (fun _ _ h => h) (fun _ _ h => h) ?_ (by assumption) (fun hHeld2 => ?_)
          rotate_left 1
          · (intro _ _ _ _ _; first | (go_simp; done) | (go_simp; with_reducible rfl))
          clear hHeld; have hHeld := hHeld2; clear hHeld2
          (try simp only [Act.put, List.setIfInBounds_toArray, List.set_cons_zero, List.set_cons_succ])
          refine lTake (i := 10) (v := ?_) rfl (by kernel_rfl) (by kernel_rfl) (by kernel_rfl) (fun _ _ _ h => h) (by rfl) (fun _ _ h => h) (fun _ _ h => h) ?_ (by assumption) (fun hHeld2 => ?_)
          rotate_left 1
          · (intro _ _ _ _ _; first | (go_simp; done) | (go_simp; with_reducible rfl))
          clear hHeld; have hHeld := hHeld2; clear hHeld2
          (try simp only [Act.put, List.setIfInBounds_toArray, List.set_cons_zero, List.set_cons_succ])
          refine lTake (i := 11) (v := ?_) rfl (by kernel_rfl) (by kernel_rfl) (by kernel_rfl) (fun _ _ _ h => h) (by rfl) (fun _ _ h => h) (fun _ _ h => h) ?_ (by assumption) (fun hHeld2 => ?_)
          rotate_left 1
          · (intro _ _ _ _ _; first | (go_simp; done) | (go_simp; with_reducible rfl))
          clear hHeld; have hHeld := hHeld2; clear hHeld2
          (try simp only [Act.put, List.setIfInBounds_toArray, List.set_cons_zero, List.set_cons_succ])
          refine lTake (i := 12) (v := ?_) rfl (by kernel_rfl) (by kernel_rfl) (by kernel_rfl) (fun _ _ _ h => h) (by rfl) (fun _ _ h => h) (fun _ _ h => h) ?_ (by assumption) (fun hHeld2 => ?_)
          rotate_left 1
          · (intro _ _ _ _ _; first | (go_simp; done) | (go_simp; with_reducible rfl))
          clear hHeld; have hHeld := hHeld2; clear hHeld2
          (try simp only [Act.put, List.setIfInBounds_toArray, List.set_cons_zero, List.set_cons_succ])
          refine lTake (i := 13) (v := ?_) rfl (by kernel_rfl) (by kernel_rfl) (by kernel_rfl) (fun _ _ _ h => h) (by rfl) (fun _ _ h => h) (fun _ _ h => h) ?_ (by assumption) (fun hHeld2 => ?_)
          rotate_left 1
          · (intro _ _ _ _ _; first | (go_simp; done) | (go_simp; with_reducible rfl))
          clear hHeld; have hHeld := hHeld2; clear hHeld2
          (try simp only [Act.put, List.setIfInBounds_toArray, List.set_cons_zero, List.set_cons_succ])
          refine lTake (i := 14) (v := ?_) rfl (by kernel_rfl) (by kernel_rfl) (by kernel_rfl) (fun _ _ _ h => h) (by rfl) (fun _ _ h => h) (fun _ _ h => h) ?_ (by assumption) (fun hHeld2 => ?_)
          rotate_left 1
          · (intro _ _ _ _ _; first | (go_simp; done) | (go_simp; with_reducible rfl))
          clear hHeld; have hHeld := hHeld2; clear hHeld2
          (try simp only [Act.put, List.setIfInBounds_toArray, List.set_cons_zero, List.set_cons_succ])
          refine lTake (i := 15) (v := ?_) rfl (by kernel_rfl) (by kernel_rfl) (by kernel_rfl) (fun _ _ _ h => h) (by rfl) (fun _ _ h => h) (fun _ _ h => h) ?_ (by assumption) (fun hHeld2 => ?_)
          rotate_left 1
          · (intro _ _ _ _ _; first | (go_simp; done) | (go_simp; with_reducible rfl))
          clear hHeld; have hHeld := hHeld2; clear hHeld2
          (try simp only [Act.put, List.setIfInBounds_toArray, List.set_cons_zero, List.set_cons_succ])
          refine lDone (by kernel_rfl) ?_ _
          clear hHeld
          go_wp2_with fail
          go_ret
          exact ⟨HV.out, HT.out⟩
        exact AllL.nil
      exact AllL.nil
    exact AllL.nil
  exact AllL.nil
end Go.Proofs.Ytmebpglkeedaoaa
namespace Go.Proofs.Ytmebpglkeedaoaa
open Go.RowKit Dp
def PeakP (S : Site) (cs : List Car) (w : World) (e : Ending) (w' : World) : Prop :=
  (stE S cs ≠ 0 ∧ e = .returned (.tuple #[.int .i64 0, .agg #[.slice none 0 0, .slice none 0 0], .slice none 0 0, .int .i64 (stE S cs)])) ∨
  (stE S cs = 0 ∧ e = .returned (.tuple #[.int .i64 0, .agg #[.slice none 0 0, .slice none 0 0], .slice none 0 0, .int .i64 18]) ∧ ∀ T, plE S cs T ≠ 0) ∨
  (stE S cs = 0 ∧ ∃ (pk : Int) (g1 g2 : Nat) (gI gO : Nat → Nat) (RI RO : Nat → List Int) (Y : Option Addr) (y cY : Nat) (cut : List Int), e = .returned (.tuple #[.int .i64 pk, .agg #[.slice (some ⟨g1, 0, none⟩) cs.length cs.length, .slice (some ⟨g2, 0, none⟩) cs.length cs.length], .slice Y y cY, .int .i64 0]) ∧ RwJ S.lim.length cs.length g1 gI RI w' ∧ RwJ S.lim.length cs.length g2 gO RO w' ∧ y = cut.length ∧ IntsAt w' Y cut ∧ (y ≤ cY ∧ cY ≤ 9223372036854775807) ∧ PkOk S cs pk ⟨(List.range cs.length).map RI, (List.range cs.length).map RO⟩ cut)
def CtOk (S : Site) (cs : List Car) (l : Int) (cut : List Int) : Prop := (l = 0 → cut = []) ∧ (0 < l → (∀ k, k < cut.length → cutAt (netN (cpS S (l - 1)) cs).sup.length cut k = true) ∧ 0 < lkA (netN (cpS S (l - 1)) cs) cut (netN (cpS S (l - 1)) cs).arcs.length ∧ ∀ fl, isFlow (netN (cpS S (l - 1)) cs) fl = false)
def FlW (S : Site) (cs : List Car) (x : Int) : Prop := ∃ fl, isFlow (netN (cpS S x) cs) fl = true
set_option maxHeartbeats 8000000 in
set_option maxRecDepth 100000 in
theorem Peak_c (A B C D E : Option Addr) (S : Site) (cs : List Car) (n nB nC nD m cA cB cC cD cE : Nat) (w : World) (hn : n = S.lim.length) (hnB : nB = S.exp.length) (hnC : nC = S.buy.length) (hnD : nD = S.sell.length) (hm : m = cs.length)
    (hA : n ≤ cA ∧ cA ≤ 9223372036854775807) (hB : nB ≤ cB ∧ cB ≤ 9223372036854775807) (hC : nC ≤ cC ∧ cC ≤ 9223372036854775807) (hD : nD ≤ cD ∧ cD ≤ 9223372036854775807) (hE : m ≤ cE ∧ cE ≤ 9223372036854775807)
    (hS : SiteAt w A B C D S) (hcs : CarsAt w E cs) :
    Calls Try.prog 52 #[.agg #[.slice A n cA, .slice B nB cB, .slice C nC cC, .slice D nD cD], .slice E m cE] w fun e w' => PeakP S cs w e w' ∧ Below w.heap.size w w' := by
  obtain ⟨u, hu⟩ : ∃ u, u = stE S cs := ⟨_, rfl⟩
  obtain ⟨mx, hmx⟩ : ∃ mx, mx = mxP S.lim n := ⟨_, rfl⟩
  have HKB : u = 0 → stE S cs = 0 ∧ nB = n ∧ nC = n ∧ nD = n ∧ (1 ≤ n ∧ n ≤ 48) ∧ m ≤ 8 ∧ (0 ≤ mx ∧ mx ≤ 1048576) ∧ cpS S mx = S := fun h => by
    have h0 := hu.symm.trans h
    have h2 := siteHead_iff.1 (stE_0 h0).2.1
    have h3 := (stE_0 h0).1
    have hs := (stE_0 h0).2.2.1
    have hb := mx_bd (xs := S.lim) (a := 0) (b := 1048576) n (fun t ht => (slotOk_iff.1 (hs t (by omega))).1)
    rw [← hmx] at hb
    refine ⟨h0, by omega, by omega, by omega, by omega, by omega, hb, cpS_id (fun t ht => ?_)⟩
    rw [hmx]; exact mx_le S.lim n t (by omega)
  have F36 : Hid (∀ V, Below w.heap.size w V → Calls Try.prog 36 #[.agg #[.slice A n cA, .slice B nB cB, .slice C nC cC, .slice D nD cD], .slice E m cE] V (fun e w' => e = .returned (.int .i64 u) ∧ Below V.heap.size V w')) := Lib.hid (fun V hV => by rw [hu]; exact CheckSite_c A B C D E S cs n nB nC nD m cA cB cC cD cE V hn hnB hnC hnD hm hA hB hC hD hE (hS.below hV (Nat.le_refl _)) (hcs.below hV (Nat.le_refl _)))
  have FMS : Hid (u = 0 → ∀ V (b1 b2 : Nat) (most : Int), Below w.heap.size w V → Blk V b1 51 [.slice A n cA, .slice B nB cB, .slice C nC cC, .slice D nD cD] → Blk V b2 52 [.slice E m cE] → 0 ≤ most → Calls Try.prog 92 #[.int .i64 most, .pointer (some ⟨b1, 0, none⟩), .pointer (some ⟨b2, 0, none⟩)] V (fun e w' => MsV (netN (cpS S most) cs) V e w' ∧ Below V.heap.size V w')) := Lib.hid (fun h V b1 b2 most hV h1 h2 hp => by
    obtain ⟨h0, rfl, rfl, rfl, _⟩ := HKB h
    exact missing_c A B C D E S cs _ m cA cB cC cD cE b1 b2 most V h0 hp hn hm hA hB hC hD hE (hS.below hV (Nat.le_refl _)) (hcs.below hV (Nat.le_refl _)) h1 h2)
  have F80 : Hid (u = 0 → ∀ V, Below w.heap.size w V → Calls Try.prog 80 #[.slice A n cA] V (fun e w' => e = .returned (.int .i64 mx) ∧ V = w')) := Lib.hid (fun h V hV => by rw [hmx]; exact Max_c A S.lim n cA V hn (HKB h).2.2.2.2.1.1 hA ((hS.below hV (Nat.le_refl _)).1))
  have F90 : Hid (u = 0 → ∀ V (most : Int), Below w.heap.size w V → Calls Try.prog 90 #[.agg #[.slice A n cA, .slice B nB cB, .slice C nC cC, .slice D nD cD], .int .i64 most] V (fun e w' => ∃ (G : Option Addr) (c : Nat), e = .returned (.agg #[.slice G n c, .slice B nB cB, .slice C nC cC, .slice D nD cD]) ∧ (n ≤ c ∧ c ≤ 9223372036854775807) ∧ SiteAt w' G B C D (cpS S most) ∧ Below V.heap.size V w')) := Lib.hid (fun h V most hV => by
    obtain ⟨_, _, _, _, h48, _⟩ := HKB h
    refine (capped_c A B C D S most n nB nC nD cA cB cC cD V hn (by omega) (by omega) hA (hS.below hV (Nat.le_refl _)).1).mono ?_
    rintro e w' ⟨G, c, rfl, hc, hO, hb⟩
    exact ⟨G, c, rfl, hc, ((hS.below hV (Nat.le_refl _)).below hb (Nat.le_refl _)).capped hn hO, hb⟩)
  have F50 : Hid (u = 0 → ∀ (most : Int) (G : Option Addr) (c : Nat) V, Below w.heap.size w V → 0 ≤ most → FlW S cs most → (n ≤ c ∧ c ≤ 9223372036854775807) → SiteAt V G B C D (cpS S most) → Calls Try.prog 50 #[.agg #[.slice G n c, .slice B nB cB, .slice C nC cC, .slice D nD cD], .slice E m cE] V (fun e w' => (∃ (g1 g2 gp k : Nat) (gI gO : Nat → Nat) (RI RO : Nat → List Int), e = .returned (.tuple #[.agg #[.slice (some ⟨g1, 0, none⟩) m m, .slice (some ⟨g2, 0, none⟩) m m], .slice (some ⟨gp, 0, none⟩) k k, .int .i64 0]) ∧ RwJ n m g1 gI RI w' ∧ RwJ n m g2 gO RO w' ∧ plE (cpS S most) cs ⟨(List.range m).map RI, (List.range m).map RO⟩ = 0) ∧ Below V.heap.size V w')) := Lib.hid (fun h most G c V hV hp hf hc hSV => by
    obtain ⟨h0, hb1, hb2, hb3, _⟩ := HKB h
    have h1 := cpS_ok (most := most) h0 hp
    have hl := cpS_len S most
    refine (Plan_c G B C D E (cpS S most) cs n nB nC nD m c cB cC cD cE V (by rw [hl]; exact hn) hnB hnC hnD hm hc hB hC hD hE hSV (hcs.below hV (Nat.le_refl _))).mono ?_
    rintro e w' ⟨hP, hb⟩
    refine ⟨?_, hb⟩
    rcases hP with ⟨h2, _⟩ | ⟨_, _, h3⟩ | ⟨_, g1, g2, gp, gI, gO, RI, RO, pp, rfl, z1, z2, _, _, z5⟩
    · exact absurd h1 h2
    · obtain ⟨fl, hfl⟩ := hf
      exact absurd (flow_keeps h1 hfl) (h3 _)
    · rw [hl, ← hn, ← hm] at z1 z2
      rw [← hm] at z5 ⊢
      exact ⟨g1, g2, gp, _, gI, gO, RI, RO, rfl, z1, z2, z5.ok⟩)
  have HP1 : Hid (u ≠ 0 → ∀ w', PeakP S cs w (.returned (.tuple #[.int .i64 0, .agg #[.slice none 0 0, .slice none 0 0], .slice none 0 0, .int .i64 u])) w') := Lib.hid (fun h w' => .inl ⟨by rw [← hu]; exact h, by rw [hu]⟩)
  have HP2 : Hid (u = 0 → (∀ fl, isFlow (netN (cpS S 1048576) cs) fl = false) → ∀ w', PeakP S cs w (.returned (.tuple #[.int .i64 0, .agg #[.slice none 0 0, .slice none 0 0], .slice none 0 0, .int .i64 18])) w') := Lib.hid (fun h h2 w' => by
    have h0 := hu.symm.trans h
    rw [cpS_max h0] at h2
    exact .inr (.inl ⟨h0, rfl, plan_none h2⟩))
  have HP3 : Hid (u = 0 → ∀ (pk : Int) (g1 g2 : Nat) (gI gO : Nat → Nat) (RI RO : Nat → List Int) (Y : Option Addr) (y cY : Nat) (cut : List Int) w', (0 ≤ pk ∧ pk ≤ 1048576) → RwJ n m g1 gI RI w' → RwJ n m g2 gO RO w' → plE (cpS S pk) cs ⟨(List.range m).map RI, (List.range m).map RO⟩ = 0 → y = cut.length → IntsAt w' Y cut → (y ≤ cY ∧ cY ≤ 9223372036854775807) → CtOk S cs pk cut → PeakP S cs w (.returned (.tuple #[.int .i64 pk, .agg #[.slice (some ⟨g1, 0, none⟩) m m, .slice (some ⟨g2, 0, none⟩) m m], .slice Y y cY, .int .i64 0])) w') := Lib.hid (fun h pk g1 g2 gI gO RI RO Y y cY cut w' h1 h2 h3 h4 h5 h6 h7 h8 => by
    subst hn hm
    exact .inr (.inr ⟨hu.symm.trans h, pk, g1, g2, gI, gO, RI, RO, Y, y, cY, cut, rfl, h2, h3, h5, h6, h7, ⟨h1, h4, h8.1, h8.2⟩⟩))
  have HF0 : Hid (u = 0 → (∃ fl, isFlow (netN (cpS S 1048576) cs) fl = true) → FlW S cs mx) := Lib.hid (fun h hf => by
    obtain ⟨h0, _, _, _, _, _, _, e⟩ := HKB h
    rw [cpS_max h0] at hf
    unfold FlW; rw [e]; exact hf)
  have HC0 : Hid (CtOk S cs 0 []) := Lib.hid ⟨fun _ => rfl, fun h => absurd h (by omega)⟩
  have HC1 : Hid (∀ (md : Int) (ct : List Int), 0 ≤ md → (∀ j, j < ct.length → cutAt (netN (cpS S md) cs).sup.length ct j = true) → 0 < lkA (netN (cpS S md) cs) ct (netN (cpS S md) cs).arcs.length → (∀ fl, isFlow (netN (cpS S md) cs) fl = false) → CtOk S cs (md + 1) ct) := Lib.hid (fun md ct h0 h1 h2 h3 => by
    refine ⟨fun h => absurd h (by omega), fun _ => ?_⟩
    rw [show md + 1 - 1 = md by omega]
    exact ⟨h1, h2, h3⟩)
  have HBD : Hid (u = 0 → (1 ≤ n ∧ n ≤ 48) ∧ m ≤ 8 ∧ 0 ≤ mx ∧ mx ≤ 1048576) := Lib.hid (fun h => by obtain ⟨_, _, _, _, a, b, c, _⟩ := HKB h; exact ⟨a, b, c.1, c.2⟩)
  clear HKB hn hnB hnC hnD hm hS hcs hu hmx
  generalize hPP : PeakP S cs w = PP at *
  clear hPP
  generalize hFW : FlW S cs = FW at *
  have HFW := Lib.hid hFW
  clear hFW
  generalize hCT : CtOk S cs = CT at *
  clear hCT
  have qN : ∀ w : World, (binOp .neq 26 (.slice none 0 0) (.slice none 0 0)).run Try.prog w = .ok (.bool false) w := fun w => run_neq_slice_nil w 26 3 none 0 0 Try.underlying26
  have qS : ∀ (g k c : Nat) (w : World), (binOp .neq 26 (.slice (some ⟨g, 0, none⟩) k c) (.slice none 0 0)).run Try.prog w = .ok (.bool true) w := fun g k c w => run_neq_slice_nil w 26 3 (some ⟨g, 0, none⟩) k c Try.underlying26
  have HB := Lib.hid ((((Below.refl w.heap.size w).alloc (Nat.le_refl _) (.cells #[.slice A n cA, .slice B nB cB, .slice C nC cC, .slice D nD cD] 51)).alloc (by simp) (.cells #[.slice E m cE] 52)).alloc (by simp; omega) (.cells #[.slice none 0 0, .slice none 0 0] 55))
  have XS := Lib.hid (((Blk.new' w #[.slice A n cA, .slice B nB cB, .slice C nC cC, .slice D nD cD] 51).alloc (.cells #[.slice E m cE] 52)).alloc (.cells #[.slice none 0 0, .slice none 0 0] 55))
  have XE := Lib.hid (show Blk (((w.alloc (.cells #[.slice A n cA, .slice B nB cB, .slice C nC cC, .slice D nD cD] 51)).alloc (.cells #[.slice E m cE] 52)).alloc (.cells #[.slice none 0 0, .slice none 0 0] 55)) (w.heap.size + 1) 52 [.slice E m cE] from by simpa using (Blk.new' (w.alloc (.cells #[.slice A n cA, .slice B nB cB, .slice C nC cC, .slice D nD cD] 51)) #[.slice E m cE] 52).alloc (.cells #[.slice none 0 0, .slice none 0 0] 55))
  have XR := Lib.hid (show Blk (((w.alloc (.cells #[.slice A n cA, .slice B nB cB, .slice C nC cC, .slice D nD cD] 51)).alloc (.cells #[.slice E m cE] 52)).alloc (.cells #[.slice none 0 0, .slice none 0 0] 55)) (w.heap.size + 1 + 1) 55 [.slice none 0 0, .slice none 0 0] from by simpa using Blk.new' ((w.alloc (.cells #[.slice A n cA, .slice B nB cB, .slice C nC cC, .slice D nD cD] 51)).alloc (.cells #[.slice E m cE] 52)) #[.slice none 0 0, .slice none 0 0] 55)
  go_enter Try.func52, Try.ntmps52
  go_upto_region 1 with fail
  generalize ((w.alloc (.cells #[.slice A n cA, .slice B nB cB, .slice C nC cC, .slice D nD cD] 51)).alloc (.cells #[.slice E m cE] 52)).alloc (.cells #[.slice none 0 0, .slice none 0 0] 55) = w1 at HB XS XE XR ⊢
  have s0 := XS.out.cell 0 rfl
  have s1 := XS.out.cell 1 rfl
  have s2 := XS.out.cell 2 rfl
  have s3 := XS.out.cell 3 rfl
  have sl := XS.out.lt
  have e0 := XE.out.cell 0 rfl
  have el := XE.out.lt
  go_wp2_with fail
  refine (F36.out w1 HB.out).mono ?_
  rintro e w2 ⟨rfl, hb⟩
  clear s0 s1 s2 s3 sl e0 el
  have XS := Lib.hid (XS.out.below hb XS.out.lt)
  have XE := Lib.hid (XE.out.below hb XE.out.lt)
  have XR := Lib.hid (XR.out.below hb XR.out.lt)
  have HB := Lib.hid (HB.out.trans (hb.mono HB.out.size))
  clear hb
  by_cases h0 : u = 0
  rotate_left
  · have hb0 : (u == 0) = false := by simpa using h0
    have HPX := Lib.hid (HP1.out h0)
    clear h0
    have r0 := XR.out.cell 0 rfl
    have r1 := XR.out.cell 1 rfl
    have rz := XR.out.free 0
    have rz1 := XR.out.free 1
    have rl := XR.out.lt
    have R2 := Lib.hid ((XR.out.setCell 0 (.slice none 0 0)).setCell 1 (.slice none 0 0))
    have B2 := Lib.hid ((HB.out.setCell (p := ⟨w.heap.size + 1 + 1, 0, none⟩) (by simp only; omega) (.slice none 0 0)).setCell (p := ⟨w.heap.size + 1 + 1, 1, none⟩) (by simp only; omega) (.slice none 0 0))
    go_wp2_with fail
    have q0 := R2.out.cell 0 rfl
    have q1 := R2.out.cell 1 rfl
    exact bodyPost_ret (v := .tuple #[.int .i64 0, .agg #[.slice none 0 0, .slice none 0 0], .slice none 0 0, .int .i64 u]) (by simp [results, Try.results52, go_sem, q0, q1]) rfl ⟨HPX.out _, B2.out⟩
  have FMSb := Lib.hid (FMS.out h0)
  have F80b := Lib.hid (F80.out h0)
  have F90b := Lib.hid (F90.out h0)
  have F50b := Lib.hid (F50.out h0)
  have HP2b := Lib.hid (HP2.out h0)
  have HP3b := Lib.hid (HP3.out h0)
  have HF0b := Lib.hid (HF0.out h0)
  have HBDb := Lib.hid (HBD.out h0)
  clear FMS F80 F90 F50 HP1 HP2 HP3 HF0 HBD F36
  subst h0
  have hbd := HBDb.out
  go_wp2_with fail
  refine (FMSb.out w2 _ _ 1048576 HB.out XS.out XE.out (by omega)).mono ?_
  rintro e w3 ⟨hV, hb⟩
  have XS := Lib.hid (XS.out.below hb XS.out.lt)
  have XE := Lib.hid (XE.out.below hb XE.out.lt)
  have XR := Lib.hid (XR.out.below hb XR.out.lt)
  have HB := Lib.hid (HB.out.trans (hb.mono HB.out.size))
  clear hb
  rcases hV with ⟨rfl, hfl⟩ | ⟨g, c, k, ct, _, rfl, _, _, _, _, _, hno⟩
  rotate_left
  · have HPX := Lib.hid (HP2b.out hno)
    have qS2 := qS g k c
    clear hno
    have r0 := XR.out.cell 0 rfl
    have r1 := XR.out.cell 1 rfl
    have rz := XR.out.free 0
    have rz1 := XR.out.free 1
    have rl := XR.out.lt
    have R2 := Lib.hid ((XR.out.setCell 0 (.slice none 0 0)).setCell 1 (.slice none 0 0))
    have B2 := Lib.hid ((HB.out.setCell (p := ⟨w.heap.size + 1 + 1, 0, none⟩) (by simp only; omega) (.slice none 0 0)).setCell (p := ⟨w.heap.size + 1 + 1, 1, none⟩) (by simp only; omega) (.slice none 0 0))
    go_wp2_with fail
    have q0 := R2.out.cell 0 rfl
    have q1 := R2.out.cell 1 rfl
    exact bodyPost_ret (v := .tuple #[.int .i64 0, .agg #[.slice none 0 0, .slice none 0 0], .slice none 0 0, .int .i64 18]) (by simp [results, Try.results52, go_sem, q0, q1]) rfl ⟨HPX.out _, B2.out⟩
  have HFX := Lib.hid (HF0b.out hfl)
  clear hfl HP2b HF0b
  have s0 := XS.out.cell 0 rfl
  have s1 := XS.out.cell 1 rfl
  have s2 := XS.out.cell 2 rfl
  have s3 := XS.out.cell 3 rfl
  have sl := XS.out.lt
  go_wp2_with fail
  refine (F80b.out w3 HB.out).mono ?_
  rintro e w4 ⟨rfl, rfl⟩
  clear s0 s1 s2 s3 sl
  go_upto_region 8 with fail
  go_wp2_with fail
  go_loopw [10, 11, 12] (fun lo hi cv wr => ∃ (l h : Int) (Y : Option Addr) (y cY : Nat) (cut : List Int), lo = .int .i64 l ∧ hi = .int .i64 h ∧ cv = .slice Y y cY ∧ (0 ≤ l ∧ l ≤ h ∧ h ≤ 1048576) ∧ Hid (Below w3.heap.size w3 wr ∧ FW h ∧ y = cut.length ∧ wr.ownsRow w3.heap.size 3 1 (.slice Y y cY) y (cut.map (.int .i64)) ∧ (y ≤ cY ∧ cY ≤ 9223372036854775807) ∧ CT l cut)) (fun lo hi _ _ => (intOf hi - intOf lo).toNat)
  case atStart => exact ⟨0, mx, none, 0, 0, [], rfl, rfl, rfl, ⟨Int.le_refl _, by omega, by omega⟩, Lib.hid ⟨Below.refl _ _, HFX.out, rfl, World.ownsRow_nil _ _ _ _, by omega, HC0.out⟩⟩
  case round =>
    obtain ⟨l, h, Y, y, cY, cut, rfl, rfl, rfl, hlh, HW⟩ := hrel
    clear HFX HC0
    have hb := HW.out.1
    have XS := Lib.hid (XS.out.below hb XS.out.lt)
    have XE := Lib.hid (XE.out.below hb XE.out.lt)
    have XR := Lib.hid (XR.out.below hb XR.out.lt)
    have HB := Lib.hid (HB.out.trans (hb.mono HB.out.size))
    clear hb
    by_cases hlt : l < h
    · have d1 : decide (l < h) = true := decide_eq_true hlt
      obtain ⟨md, hmd⟩ : ∃ md, md = (l + h).tdiv 2 := ⟨_, rfl⟩
      have hmb : l ≤ md ∧ md < h := by rw [hmd, Int.tdiv_eq_ediv_of_nonneg (by omega)]; omega
      have s1 : IntKind.i64.wrap (l + h) = l + h := IntWalk.i64_in _ (by omega)
      have s2 : IntKind.i64.wrap md = md := IntWalk.i64_in _ (by omega)
      have s3 : IntKind.i64.wrap (md + 1) = md + 1 := IntWalk.i64_in _ (by omega)
      have hmd2 := hmd.symm
      clear hmd
      go_wp2_with fail
      refine (FMSb.out wr _ _ md HB.out XS.out XE.out (by omega)).mono ?_
      rintro e w5 ⟨hV, hb⟩
      rcases hV with ⟨rfl, hfl⟩ | ⟨g, c, k, ct, hk, rfl, hI, hc, hk4, hv1, hv2, hno⟩
      · have HE : Hid (Below w3.heap.size w3 w5 ∧ FW md ∧ y = cut.length ∧ w5.ownsRow w3.heap.size 3 1 (.slice Y y cY) y (cut.map (.int .i64)) ∧ (y ≤ cY ∧ cY ≤ 9223372036854775807) ∧ CT l cut) := Lib.hid ⟨HW.out.1.trans (hb.mono HW.out.1.size), by rw [← HFW.out]; exact hfl, HW.out.2.2.1, ownBelow HW.out.2.2.2.1 hb, HW.out.2.2.2.2⟩
        clear hb hfl
        go_wp2_with fail
        exact ⟨⟨l, md, Y, y, cY, cut, rfl, rfl, rfl, by omega, HE⟩, by simp [intOf]; omega⟩
      · have HE : Hid (Below w3.heap.size w3 w5 ∧ FW h ∧ k = ct.length ∧ w5.ownsRow w3.heap.size 3 1 (.slice (some ⟨g, 0, none⟩) k c) k (ct.map (.int .i64)) ∧ (k ≤ c ∧ c ≤ 9223372036854775807) ∧ CT (md + 1) ct) := Lib.hid ⟨HW.out.1.trans (hb.mono HW.out.1.size), HW.out.2.1, hk, ownV_mono2 hI HW.out.1.size, hc, HC1.out md ct (by omega) hv1 hv2 hno⟩
        have qS2 := qS g k c
        clear hb hk hI hc hv1 hv2 hno
        go_wp2_with fail
        exact ⟨⟨md + 1, h, some ⟨g, 0, none⟩, k, c, ct, rfl, rfl, rfl, by omega, HE⟩, by simp [intOf]; omega⟩
    · obtain rfl : l = h := by omega
      have d1 : decide (l < l) = false := decide_eq_false hlt
      have HFV := Lib.hid HW.out.2.1
      have HIY := Lib.hid HW.out.2.2.2.1
      have HYY := Lib.hid HW.out.2.2
      clear HW
      have RD : Hid (∀ W, Below wr.heap.size wr W → ((W.cell? ⟨w.heap.size, 0, none⟩ = some (.slice A n cA) ∧ W.cell? ⟨w.heap.size, 1, none⟩ = some (.slice B nB cB) ∧ W.cell? ⟨w.heap.size, 2, none⟩ = some (.slice C nC cC) ∧ W.cell? ⟨w.heap.size, 3, none⟩ = some (.slice D nD cD)) ∧ W.cell? ⟨w.heap.size + 1, 0, none⟩ = some (.slice E m cE) ∧ w.heap.size < W.heap.size) ∧ Below w.heap.size w W ∧ W.ownsRow w3.heap.size 3 1 (.slice Y y cY) y (cut.map (.int .i64)) ∧ Blk W (w.heap.size + 1 + 1) 55 [.slice none 0 0, .slice none 0 0]) := Lib.hid (fun W hW => by
        have x1 := XS.out.below hW XS.out.lt
        exact ⟨⟨⟨x1.cell 0 rfl, x1.cell 1 rfl, x1.cell 2 rfl, x1.cell 3 rfl⟩, (XE.out.below hW XE.out.lt).cell 0 rfl, x1.lt⟩, HB.out.trans (hW.mono HB.out.size), ownBelow HIY.out hW, XR.out.below hW XR.out.lt⟩)
      have HT := Lib.hid (Below.refl wr.heap.size wr).drew
      have HWS := Lib.hid HB.out.size
      have HRL := Lib.hid XR.out.lt
      go_upto_region 15 with fail
      clear XS XE XR HB HIY
      go_cut [15, 17] from 18 (fun sp se wc => ∃ (b g1 g2 : Nat) (gI gO : Nat → Nat) (RI RO : Nat → List Int), sp = .pointer (some ⟨b, 0, none⟩) ∧ se = .int .i64 0 ∧ Hid (Blk wc b 55 [.slice (some ⟨g1, 0, none⟩) m m, .slice (some ⟨g2, 0, none⟩) m m] ∧ RwJ n m g1 gI RI wc ∧ RwJ n m g2 gO RO wc ∧ plE (cpS S l) cs ⟨(List.range m).map RI, (List.range m).map RO⟩ = 0 ∧ Below wr.heap.size wr wc ∧ wr.heap.size ≤ b))
      case first =>
        refine lBegin (S := fun _ W => ((W.cell? ⟨w.heap.size, 0, none⟩ = some (.slice A n cA) ∧ W.cell? ⟨w.heap.size, 1, none⟩ = some (.slice B nB cB) ∧ W.cell? ⟨w.heap.size, 2, none⟩ = some (.slice C nC cC) ∧ W.cell? ⟨w.heap.size, 3, none⟩ = some (.slice D nD cD)) ∧ W.cell? ⟨w.heap.size + 1, 0, none⟩ = some (.slice E m cE) ∧ w.heap.size < W.heap.size)) (by kernel_rfl) ?_ (fun hHeld => ?_)
        · (try dsimp only); (first | with_reducible exact (RD.out _ HT.out).1 | with_reducible assumption)
        refine lTake (i := 0) (v := ?_) rfl (by kernel_rfl) (by kernel_rfl) (by kernel_rfl) (fun _ _ _ h => h) (by rfl) (fun _ _ h => h) (fun _ _ h => h) ?_ (by assumption) (fun hHeld2 => ?_)
        rotate_left 1
        · (intro L W _ _ hSw; (try dsimp only at hSw); first | (go_simp; done) | (go_simp; with_reducible rfl))
        clear hHeld; have hHeld := hHeld2; clear hHeld2
        (try simp only [Act.put, List.setIfInBounds_toArray, List.set_cons_zero, List.set_cons_succ])
        refine lTake (i := 1) (v := ?_) rfl (by kernel_rfl) (by kernel_rfl) (by kernel_rfl) (fun _ _ _ h => h) (by rfl) (fun _ _ h => h) (fun _ _ h => h) ?_ (by assumption) (fun hHeld2 => ?_)
        rotate_left 1
        · (intro _ _ _ _ _; first | (go_simp; done) | (go_simp; with_reducible rfl))
        clear hHeld; have hHeld := hHeld2; clear hHeld2
        (try simp only [Act.put, List.setIfInBounds_toArray, List.set_cons_zero, List.set_cons_succ])
        refine lTake (i := 3) (v := ?_) rfl (by kernel_rfl) (by kernel_rfl) (by kernel_rfl) (fun _ _ _ h => h) (by rfl) (fun _ _ h => h) (fun _ _ h => h) ?_ (by assumption) (fun hHeld2 => ?_)
        rotate_left 1
        · (intro L W _ _ hSw; (try dsimp only at hSw); first | (go_simp; done) | (go_simp; with_reducible rfl))
        clear hHeld; have hHeld := hHeld2; clear hHeld2
        (try simp only [Act.put, List.setIfInBounds_toArray, List.set_cons_zero, List.set_cons_succ])
        refine lReady (rs := [2, 9]) (by kernel_rfl) (by simp) ?_
        refine AllL.cons (i := 2) rfl (fun K hK => ?_) ?_
        · go_simp; (refine (F90b.out _ l (RD.out _ HT.out).2.1).mono ?_; rintro e w6 ⟨G, c, rfl, hc, hSA, hb⟩; (try have HMK := Lib.hid (Blk.below HMK.out hb (Blk.lt HMK.out))); have HT := Lib.hid (HT.out.trans (hb.mono HT.out.size)); have HC := Lib.hid hc; have HSA := Lib.hid hSA; clear hb hc hSA)
          (try go_wp2_with fail)
          refine hK.out _ _ ?_ (fun hHeld2 => ?_)
          · (try dsimp only); (first | with_reducible exact (RD.out _ HT.out).1 | with_reducible assumption)
          clear hK K
          clear hHeld; have hHeld := hHeld2; clear hHeld2
          (try simp only [Act.put, List.setIfInBounds_toArray, List.set_cons_zero, List.set_cons_succ])
          refine lReady (rs := [4, 9]) (by kernel_rfl) (by simp) ?_
          refine AllL.cons (i := 4) rfl (fun K hK => ?_) ?_
          · go_simp; (refine (F50b.out l G c _ (RD.out _ HT.out).2.1 (by omega) HFV.out HC.out HSA.out).mono ?_; rintro e w7 ⟨⟨g1, g2, gp, k, gI, gO, RI, RO, rfl, z1, z2, z3⟩, hb⟩; (try have HMK := Lib.hid (Blk.below HMK.out hb (Blk.lt HMK.out))); have HT := Lib.hid (HT.out.trans (hb.mono HT.out.size)); have H1 := Lib.hid z1; have H2 := Lib.hid z2; have H3 := Lib.hid z3; clear hb z1 z2 z3 HSA)
            (try go_wp2_with fail)
            refine hK.out _ _ ?_ (fun hHeld2 => ?_)
            · (try dsimp only); (first | with_reducible exact (RD.out _ HT.out).1 | with_reducible assumption)
            clear hK K
            clear hHeld; have hHeld := hHeld2; clear hHeld2
            (try simp only [Act.put, List.setIfInBounds_toArray, List.set_cons_zero, List.set_cons_succ])
            refine lTake (i := 5) (v := ?_) rfl (by kernel_rfl) (by kernel_rfl) (by kernel_rfl) (fun _ _ _ h => h) (by rfl) (fun _ _ h => h) (fun _ _ h => h) ?_ (by assumption) (fun hHeld2 => ?_)
            rotate_left 1
            · (intro _ _ _ _ _; first | (go_simp; done) | (go_simp; with_reducible rfl))
            clear hHeld; have hHeld := hHeld2; clear hHeld2
            (try simp only [Act.put, List.setIfInBounds_toArray, List.set_cons_zero, List.set_cons_succ])
            refine lTake (i := 6) (v := ?_) rfl (by kernel_rfl) (by kernel_rfl) (by kernel_rfl) (fun _ _ _ h => h) (by rfl) (fun _ _ h => h) (fun _ _ h => h) ?_ (by assumption) (fun hHeld2 => ?_)
            rotate_left 1
            · (intro _ _ _ _ _; first | (go_simp; done) | (go_simp; with_reducible rfl))
            clear hHeld; have hHeld := hHeld2; clear hHeld2
            (try simp only [Act.put, List.setIfInBounds_toArray, List.set_cons_zero, List.set_cons_succ])
            refine lTake (i := 7) (v := ?_) rfl (by kernel_rfl) (by kernel_rfl) (by kernel_rfl) (fun _ _ _ h => h) (by rfl) (fun _ _ h => h) (fun _ _ h => h) ?_ (by assumption) (fun hHeld2 => ?_)
            rotate_left 1
            · (intro _ _ _ _ _; first | (go_simp; done) | (go_simp; with_reducible rfl))
            clear hHeld; have hHeld := hHeld2; clear hHeld2
            (try simp only [Act.put, List.setIfInBounds_toArray, List.set_cons_zero, List.set_cons_succ])
            refine lTake (i := 8) (v := ?_) rfl (by kernel_rfl) (by kernel_rfl) (by kernel_rfl) (fun _ _ _ h => h) (by rfl) (fun _ _ h => h) (fun _ _ h => h) ?_ (by assumption) (fun hHeld2 => ?_)
            rotate_left 1
            · (intro _ _ _ _ _; first | (go_simp; done) | (go_simp; with_reducible rfl))
            clear hHeld; have hHeld := hHeld2; clear hHeld2
            (try simp only [Act.put, List.setIfInBounds_toArray, List.set_cons_zero, List.set_cons_succ])
            refine lReady (rs := [9]) (by kernel_rfl) (by simp) ?_
            refine AllL.cons (i := 9) rfl (fun K hK => ?_) ?_
            · refine step_new (.cells #[.slice none 0 0, .slice none 0 0] 55) (fun g => .pointer (some ⟨g, 0, none⟩)) rfl (by kernel_rfl) ?_; intro b w8 y8 hc8 hb8; (try have H1 := Lib.hid (RwJ.below H1.out hb8)); (try have H2 := Lib.hid (RwJ.below H2.out hb8)); (try have HSA := Lib.hid (SiteAt.below HSA.out hb8 (Nat.le_refl _))); have HMK := Lib.hid (show Blk w8 b 55 [.slice none 0 0, .slice none 0 0] from hc8); have HMT := Lib.hid (Nat.le_trans HT.out.size y8); have HT := Lib.hid (HT.out.trans (hb8.mono HT.out.size)); clear hb8 hc8 y8
              (try go_wp2_with fail)
              refine hK.out _ _ ?_ (fun hHeld2 => ?_)
              · (try dsimp only); (first | with_reducible exact (RD.out _ HT.out).1 | with_reducible assumption)
              clear hK K
              clear hHeld; have hHeld := hHeld2; clear hHeld2
              (try simp only [Act.put, List.setIfInBounds_toArray, List.set_cons_zero, List.set_cons_succ])
              refine lReady (rs := [10]) (by kernel_rfl) (by simp) ?_
              refine AllL.cons (i := 10) rfl (fun K hK => ?_) ?_
              · (have q0 := HMK.out.cell 0 rfl; have q1 := HMK.out.cell 1 rfl; have z0 := HMK.out.free 0; have z1 := HMK.out.free 1; have zl := HMK.out.lt; have HE1 := Lib.hid ((HMK.out.setCell 0 (.slice (some ⟨g1, 0, none⟩) m m)).setCell 1 (.slice (some ⟨g2, 0, none⟩) m m)); have HE2 := Lib.hid ((H1.out.typ (p := ⟨b, 0, none⟩) HMK.out (by decide) (by decide) (.slice (some ⟨g1, 0, none⟩) m m)).typ (p := ⟨b, 1, none⟩) (HMK.out.setCell 0 (.slice (some ⟨g1, 0, none⟩) m m)) (by decide) (by decide) (.slice (some ⟨g2, 0, none⟩) m m)); have HE3 := Lib.hid ((H2.out.typ (p := ⟨b, 0, none⟩) HMK.out (by decide) (by decide) (.slice (some ⟨g1, 0, none⟩) m m)).typ (p := ⟨b, 1, none⟩) (HMK.out.setCell 0 (.slice (some ⟨g1, 0, none⟩) m m)) (by decide) (by decide) (.slice (some ⟨g2, 0, none⟩) m m)); have HT := Lib.hid ((HT.out.setCell (p := ⟨b, 0, none⟩) HMT.out (.slice (some ⟨g1, 0, none⟩) m m)).setCell (p := ⟨b, 1, none⟩) HMT.out (.slice (some ⟨g2, 0, none⟩) m m)); go_simp)
                (try go_wp2_with fail)
                refine hK.out _ _ ?_ (fun hHeld2 => ?_)
                · (try dsimp only); (first | with_reducible exact (RD.out _ HT.out).1 | with_reducible assumption)
                clear hK K
                clear hHeld; have hHeld := hHeld2; clear hHeld2
                (try simp only [Act.put, List.setIfInBounds_toArray, List.set_cons_zero, List.set_cons_succ])
                refine lTake (i := 11) (v := ?_) rfl (by kernel_rfl) (by kernel_rfl) (by kernel_rfl) (fun _ _ _ h => h) (by rfl) (fun _ _ h => h) (fun _ _ h => h) ?_ (by assumption) (fun hHeld2 => ?_)
                rotate_left 1
                · (intro _ _ _ _ _; first | (go_simp; done) | (go_simp; with_reducible rfl))
                clear hHeld; have hHeld := hHeld2; clear hHeld2
                (try simp only [Act.put, List.setIfInBounds_toArray, List.set_cons_zero, List.set_cons_succ])
                refine lTake (i := 12) (v := ?_) rfl (by kernel_rfl) (by kernel_rfl) (by kernel_rfl) (fun _ _ _ h => h) (by rfl) (fun _ _ h => h) (fun _ _ h => h) ?_ (by assumption) (fun hHeld2 => ?_)
                rotate_left 1
                · (intro _ _ _ _ _; first | (go_simp; done) | (go_simp; with_reducible rfl))
                clear hHeld; have hHeld := hHeld2; clear hHeld2
                (try simp only [Act.put, List.setIfInBounds_toArray, List.set_cons_zero, List.set_cons_succ])
                refine lDone (by kernel_rfl) ?_ _
                clear hHeld
                go_wp2_with fail
                go_meet
                case rel => exact ⟨b, g1, g2, gI, gO, RI, RO, rfl, rfl, Lib.hid ⟨HE1.out, HE2.out, HE3.out, H3.out, HT.out, HMT.out⟩⟩
              exact AllL.nil
            exact AllL.nil
          refine AllL.cons (i := 9) rfl (fun K hK => ?_) ?_
          · refine step_new (.cells #[.slice none 0 0, .slice none 0 0] 55) (fun g => .pointer (some ⟨g, 0, none⟩)) rfl (by kernel_rfl) ?_; intro b w8 y8 hc8 hb8; (try have H1 := Lib.hid (RwJ.below H1.out hb8)); (try have H2 := Lib.hid (RwJ.below H2.out hb8)); (try have HSA := Lib.hid (SiteAt.below HSA.out hb8 (Nat.le_refl _))); have HMK := Lib.hid (show Blk w8 b 55 [.slice none 0 0, .slice none 0 0] from hc8); have HMT := Lib.hid (Nat.le_trans HT.out.size y8); have HT := Lib.hid (HT.out.trans (hb8.mono HT.out.size)); clear hb8 hc8 y8
            (try go_wp2_with fail)
            refine hK.out _ _ ?_ (fun hHeld2 => ?_)
            · (try dsimp only); (first | with_reducible exact (RD.out _ HT.out).1 | with_reducible assumption)
            clear hK K
            clear hHeld; have hHeld := hHeld2; clear hHeld2
            (try simp only [Act.put, List.setIfInBounds_toArray, List.set_cons_zero, List.set_cons_succ])
            refine lReady (rs := [4]) (by kernel_rfl) (by simp) ?_
            refine AllL.cons (i := 4) rfl (fun K hK => ?_) ?_
            · go_simp; (refine (F50b.out l G c _ (RD.out _ HT.out).2.1 (by omega) HFV.out HC.out HSA.out).mono ?_; rintro e w7 ⟨⟨g1, g2, gp, k, gI, gO, RI, RO, rfl, z1, z2, z3⟩, hb⟩; (try have HMK := Lib.hid (Blk.below HMK.out hb (Blk.lt HMK.out))); have HT := Lib.hid (HT.out.trans (hb.mono HT.out.size)); have H1 := Lib.hid z1; have H2 := Lib.hid z2; have H3 := Lib.hid z3; clear hb z1 z2 z3 HSA)
              (try go_wp2_with fail)
              refine hK.out _ _ ?_ (fun hHeld2 => ?_)
              · (try dsimp only); (first | with_reducible exact (RD.out _ HT.out).1 | with_reducible assumption)
              clear hK K
              clear hHeld; have hHeld := hHeld2; clear hHeld2
              (try simp only [Act.put, List.setIfInBounds_toArray, List.set_cons_zero, List.set_cons_succ])
              refine lTake (i := 5) (v := ?_) rfl (by kernel_rfl) (by kernel_rfl) (by kernel_rfl) (fun _ _ _ h => h) (by rfl) (fun _ _ h => h) (fun _ _ h => h) ?_ (by assumption) (fun hHeld2 => ?_)
              rotate_left 1
              · (intro _ _ _ _ _; first | (go_simp; done) | (go_simp; with_reducible rfl))
              clear hHeld; have hHeld := hHeld2; clear hHeld2
              (try simp only [Act.put, List.setIfInBounds_toArray, List.set_cons_zero, List.set_cons_succ])
              refine lTake (i := 6) (v := ?_) rfl (by kernel_rfl) (by kernel_rfl) (by kernel_rfl) (fun _ _ _ h => h) (by rfl) (fun _ _ h => h) (fun _ _ h => h) ?_ (by assumption) (fun hHeld2 => ?_)
              rotate_left 1
              · (intro _ _ _ _ _; first | (go_simp; done) | (go_simp; with_reducible rfl))
              clear hHeld; have hHeld := hHeld2; clear hHeld2
              (try simp only [Act.put, List.setIfInBounds_toArray, List.set_cons_zero, List.set_cons_succ])
              refine lTake (i := 7) (v := ?_) rfl (by kernel_rfl) (by kernel_rfl) (by kernel_rfl) (fun _ _ _ h => h) (by rfl) (fun _ _ h => h) (fun _ _ h => h) ?_ (by assumption) (fun hHeld2 => ?_)
              rotate_left 1
              · (intro _ _ _ _ _; first | (go_simp; done) | (go_simp; with_reducible rfl))
              clear hHeld; have hHeld := hHeld2; clear hHeld2
              (try simp only [Act.put, List.setIfInBounds_toArray, List.set_cons_zero, List.set_cons_succ])
              refine lTake (i := 8) (v := ?_) rfl (by kernel_rfl) (by kernel_rfl) (by kernel_rfl) (fun _ _ _ h => h) (by rfl) (fun _ _ h => h) (fun _ _ h => h) ?_ (by assumption) (fun hHeld2 => ?_)
              rotate_left 1
              · (intro _ _ _ _ _; first | (go_simp; done) | (go_simp; with_reducible rfl))
              clear hHeld; have hHeld := hHeld2; clear hHeld2
              (try simp only [Act.put, List.setIfInBounds_toArray, List.set_cons_zero, List.set_cons_succ])
              refine lReady (rs := [10]) (by kernel_rfl) (by simp) ?_
              refine AllL.cons (i := 10) rfl (fun K hK => ?_) ?_
              · (have q0 := HMK.out.cell 0 rfl; have q1 := HMK.out.cell 1 rfl; have z0 := HMK.out.free 0; have z1 := HMK.out.free 1; have zl := HMK.out.lt; have HE1 := Lib.hid ((HMK.out.setCell 0 (.slice (some ⟨g1, 0, none⟩) m m)).setCell 1 (.slice (some ⟨g2, 0, none⟩) m m)); have HE2 := Lib.hid ((H1.out.typ (p := ⟨b, 0, none⟩) HMK.out (by decide) (by decide) (.slice (some ⟨g1, 0, none⟩) m m)).typ (p := ⟨b, 1, none⟩) (HMK.out.setCell 0 (.slice (some ⟨g1, 0, none⟩) m m)) (by decide) (by decide) (.slice (some ⟨g2, 0, none⟩) m m)); have HE3 := Lib.hid ((H2.out.typ (p := ⟨b, 0, none⟩) HMK.out (by decide) (by decide) (.slice (some ⟨g1, 0, none⟩) m m)).typ (p := ⟨b, 1, none⟩) (HMK.out.setCell 0 (.slice (some ⟨g1, 0, none⟩) m m)) (by decide) (by decide) (.slice (some ⟨g2, 0, none⟩) m m)); have HT := Lib.hid ((HT.out.setCell (p := ⟨b, 0, none⟩) HMT.out (.slice (some ⟨g1, 0, none⟩) m m)).setCell (p := ⟨b, 1, none⟩) HMT.out (.slice (some ⟨g2, 0, none⟩) m m)); go_simp)
                (try go_wp2_with fail)
                refine hK.out _ _ ?_ (fun hHeld2 => ?_)
                · (try dsimp only); (first | with_reducible exact (RD.out _ HT.out).1 | with_reducible assumption)
                clear hK K
                clear hHeld; have hHeld := hHeld2; clear hHeld2
                (try simp only [Act.put, List.setIfInBounds_toArray, List.set_cons_zero, List.set_cons_succ])
                refine lTake (i := 11) (v := ?_) rfl (by kernel_rfl) (by kernel_rfl) (by kernel_rfl) (fun _ _ _ h => h) (by rfl) (fun _ _ h => h) (fun _ _ h => h) ?_ (by assumption) (fun hHeld2 => ?_)
                rotate_left 1
                · (intro _ _ _ _ _; first | (go_simp; done) | (go_simp; with_reducible rfl))
                clear hHeld; have hHeld := hHeld2; clear hHeld2
                (try simp only [Act.put, List.setIfInBounds_toArray, List.set_cons_zero, List.set_cons_succ])
                refine lTake (i := 12) (v := ?_) rfl (by kernel_rfl) (by kernel_rfl) (by kernel_rfl) (fun _ _ _ h => h) (by rfl) (fun _ _ h => h) (fun _ _ h => h) ?_ (by assumption) (fun hHeld2 => ?_)
                rotate_left 1
                · (intro _ _ _ _ _; first | (go_simp; done) | (go_simp; with_reducible rfl))
                clear hHeld; have hHeld := hHeld2; clear hHeld2
                (try simp only [Act.put, List.setIfInBounds_toArray, List.set_cons_zero, List.set_cons_succ])
                refine lDone (by kernel_rfl) ?_ _
                clear hHeld
                go_wp2_with fail
                go_meet
                case rel => exact ⟨b, g1, g2, gI, gO, RI, RO, rfl, rfl, Lib.hid ⟨HE1.out, HE2.out, HE3.out, H3.out, HT.out, HMT.out⟩⟩
              exact AllL.nil
            exact AllL.nil
          exact AllL.nil
        refine AllL.cons (i := 9) rfl (fun K hK => ?_) ?_
        · refine step_new (.cells #[.slice none 0 0, .slice none 0 0] 55) (fun g => .pointer (some ⟨g, 0, none⟩)) rfl (by kernel_rfl) ?_; intro b w8 y8 hc8 hb8; (try have H1 := Lib.hid (RwJ.below H1.out hb8)); (try have H2 := Lib.hid (RwJ.below H2.out hb8)); (try have HSA := Lib.hid (SiteAt.below HSA.out hb8 (Nat.le_refl _))); have HMK := Lib.hid (show Blk w8 b 55 [.slice none 0 0, .slice none 0 0] from hc8); have HMT := Lib.hid (Nat.le_trans HT.out.size y8); have HT := Lib.hid (HT.out.trans (hb8.mono HT.out.size)); clear hb8 hc8 y8
          (try go_wp2_with fail)
          refine hK.out _ _ ?_ (fun hHeld2 => ?_)
          · (try dsimp only); (first | with_reducible exact (RD.out _ HT.out).1 | with_reducible assumption)
          clear hK K
          clear hHeld; have hHeld := hHeld2; clear hHeld2
          (try simp only [Act.put, List.setIfInBounds_toArray, List.set_cons_zero, List.set_cons_succ])
          refine lReady (rs := [2]) (by kernel_rfl) (by simp) ?_
          refine AllL.cons (i := 2) rfl (fun K hK => ?_) ?_
          · go_simp; (refine (F90b.out _ l (RD.out _ HT.out).2.1).mono ?_; rintro e w6 ⟨G, c, rfl, hc, hSA, hb⟩; (try have HMK := Lib.hid (Blk.below HMK.out hb (Blk.lt HMK.out))); have HT := Lib.hid (HT.out.trans (hb.mono HT.out.size)); have HC := Lib.hid hc; have HSA := Lib.hid hSA; clear hb hc hSA)
            (try go_wp2_with fail)
            refine hK.out _ _ ?_ (fun hHeld2 => ?_)
            · (try dsimp only); (first | with_reducible exact (RD.out _ HT.out).1 | with_reducible assumption)
            clear hK K
            clear hHeld; have hHeld := hHeld2; clear hHeld2
            (try simp only [Act.put, List.setIfInBounds_toArray, List.set_cons_zero, List.set_cons_succ])
            refine lReady (rs := [4]) (by kernel_rfl) (by simp) ?_
            refine AllL.cons (i := 4) rfl (fun K hK => ?_) ?_
            · go_simp; (refine (F50b.out l G c _ (RD.out _ HT.out).2.1 (by omega) HFV.out HC.out HSA.out).mono ?_; rintro e w7 ⟨⟨g1, g2, gp, k, gI, gO, RI, RO, rfl, z1, z2, z3⟩, hb⟩; (try have HMK := Lib.hid (Blk.below HMK.out hb (Blk.lt HMK.out))); have HT := Lib.hid (HT.out.trans (hb.mono HT.out.size)); have H1 := Lib.hid z1; have H2 := Lib.hid z2; have H3 := Lib.hid z3; clear hb z1 z2 z3 HSA)
              (try go_wp2_with fail)
              refine hK.out _ _ ?_ (fun hHeld2 => ?_)
              · (try dsimp only); (first | with_reducible exact (RD.out _ HT.out).1 | with_reducible assumption)
              clear hK K
              clear hHeld; have hHeld := hHeld2; clear hHeld2
              (try simp only [Act.put, List.setIfInBounds_toArray, List.set_cons_zero, List.set_cons_succ])
              refine lTake (i := 5) (v := ?_) rfl (by kernel_rfl) (by kernel_rfl) (by kernel_rfl) (fun _ _ _ h => h) (by rfl) (fun _ _ h => h) (fun _ _ h => h) ?_ (by assumption) (fun hHeld2 => ?_)
              rotate_left 1
              · (intro _ _ _ _ _; first | (go_simp; done) | (go_simp; with_reducible rfl))
              clear hHeld; have hHeld := hHeld2; clear hHeld2
              (try simp only [Act.put, List.setIfInBounds_toArray, List.set_cons_zero, List.set_cons_succ])
              refine lTake (i := 6) (v := ?_) rfl (by kernel_rfl) (by kernel_rfl) (by kernel_rfl) (fun _ _ _ h => h) (by rfl) (fun _ _ h => h) (fun _ _ h => h) ?_ (by assumption) (fun hHeld2 => ?_)
              rotate_left 1
              · (intro _ _ _ _ _; first | (go_simp; done) | (go_simp; with_reducible rfl))
              clear hHeld; have hHeld := hHeld2; clear hHeld2
              (try simp only [Act.put, List.setIfInBounds_toArray, List.set_cons_zero, List.set_cons_succ])
              refine lTake (i := 7) (v := ?_) rfl (by kernel_rfl) (by kernel_rfl) (by kernel_rfl) (fun _ _ _ h => h) (by rfl) (fun _ _ h => h) (fun _ _ h => h) ?_ (by assumption) (fun hHeld2 => ?_)
              rotate_left 1
              · (intro _ _ _ _ _; first | (go_simp; done) | (go_simp; with_reducible rfl))
              clear hHeld; have hHeld := hHeld2; clear hHeld2
              (try simp only [Act.put, List.setIfInBounds_toArray, List.set_cons_zero, List.set_cons_succ])
              refine lTake (i := 8) (v := ?_) rfl (by kernel_rfl) (by kernel_rfl) (by kernel_rfl) (fun _ _ _ h => h) (by rfl) (fun _ _ h => h) (fun _ _ h => h) ?_ (by assumption) (fun hHeld2 => ?_)
              rotate_left 1
              · (intro _ _ _ _ _; first | (go_simp; done) | (go_simp; with_reducible rfl))
              clear hHeld; have hHeld := hHeld2; clear hHeld2
              (try simp only [Act.put, List.setIfInBounds_toArray, List.set_cons_zero, List.set_cons_succ])
              refine lReady (rs := [10]) (by kernel_rfl) (by simp) ?_
              refine AllL.cons (i := 10) rfl (fun K hK => ?_) ?_
              · (have q0 := HMK.out.cell 0 rfl; have q1 := HMK.out.cell 1 rfl; have z0 := HMK.out.free 0; have z1 := HMK.out.free 1; have zl := HMK.out.lt; have HE1 := Lib.hid ((HMK.out.setCell 0 (.slice (some ⟨g1, 0, none⟩) m m)).setCell 1 (.slice (some ⟨g2, 0, none⟩) m m)); have HE2 := Lib.hid ((H1.out.typ (p := ⟨b, 0, none⟩) HMK.out (by decide) (by decide) (.slice (some ⟨g1, 0, none⟩) m m)).typ (p := ⟨b, 1, none⟩) (HMK.out.setCell 0 (.slice (some ⟨g1, 0, none⟩) m m)) (by decide) (by decide) (.slice (some ⟨g2, 0, none⟩) m m)); have HE3 := Lib.hid ((H2.out.typ (p := ⟨b, 0, none⟩) HMK.out (by decide) (by decide) (.slice (some ⟨g1, 0, none⟩) m m)).typ (p := ⟨b, 1, none⟩) (HMK.out.setCell 0 (.slice (some ⟨g1, 0, none⟩) m m)) (by decide) (by decide) (.slice (some ⟨g2, 0, none⟩) m m)); have HT := Lib.hid ((HT.out.setCell (p := ⟨b, 0, none⟩) HMT.out (.slice (some ⟨g1, 0, none⟩) m m)).setCell (p := ⟨b, 1, none⟩) HMT.out (.slice (some ⟨g2, 0, none⟩) m m)); go_simp)
                (try go_wp2_with fail)
                refine hK.out _ _ ?_ (fun hHeld2 => ?_)
                · (try dsimp only); (first | with_reducible exact (RD.out _ HT.out).1 | with_reducible assumption)
                clear hK K
                clear hHeld; have hHeld := hHeld2; clear hHeld2
                (try simp only [Act.put, List.setIfInBounds_toArray, List.set_cons_zero, List.set_cons_succ])
                refine lTake (i := 11) (v := ?_) rfl (by kernel_rfl) (by kernel_rfl) (by kernel_rfl) (fun _ _ _ h => h) (by rfl) (fun _ _ h => h) (fun _ _ h => h) ?_ (by assumption) (fun hHeld2 => ?_)
                rotate_left 1
                · (intro _ _ _ _ _; first | (go_simp; done) | (go_simp; with_reducible rfl))
                clear hHeld; have hHeld := hHeld2; clear hHeld2
                (try simp only [Act.put, List.setIfInBounds_toArray, List.set_cons_zero, List.set_cons_succ])
                refine lTake (i := 12) (v := ?_) rfl (by kernel_rfl) (by kernel_rfl) (by kernel_rfl) (fun _ _ _ h => h) (by rfl) (fun _ _ h => h) (fun _ _ h => h) ?_ (by assumption) (fun hHeld2 => ?_)
                rotate_left 1
                · (intro _ _ _ _ _; first | (go_simp; done) | (go_simp; with_reducible rfl))
                clear hHeld; have hHeld := hHeld2; clear hHeld2
                (try simp only [Act.put, List.setIfInBounds_toArray, List.set_cons_zero, List.set_cons_succ])
                refine lDone (by kernel_rfl) ?_ _
                clear hHeld
                go_wp2_with fail
                go_meet
                case rel => exact ⟨b, g1, g2, gI, gO, RI, RO, rfl, rfl, Lib.hid ⟨HE1.out, HE2.out, HE3.out, H3.out, HT.out, HMT.out⟩⟩
              exact AllL.nil
            exact AllL.nil
          exact AllL.nil
        exact AllL.nil
      case rest =>
        clear HT F90b F50b
        obtain ⟨b, g1, g2, gI, gO, RI, RO, rfl, rfl, HJ⟩ := hcut
        have HT := Lib.hid HJ.out.2.2.2.2.1.drew
        have HD := Lib.hid (HJ.out.2.2.2.2.1)
        have XB := Lib.hid (Blk.drew HJ.out.1)
        have hbn : b ≠ w.heap.size + 1 + 1 := by have := HJ.out.2.2.2.2.2; have := HRL.out; omega
        have RJ : Hid (∀ W, Below wc.heap.size wc W → RwJ n m g1 gI RI W ∧ RwJ n m g2 gO RO W ∧ (W.cell? ⟨b, 0, none⟩ = some (.slice (some ⟨g1, 0, none⟩) m m) ∧ W.cell? ⟨b, 1, none⟩ = some (.slice (some ⟨g2, 0, none⟩) m m) ∧ b < W.heap.size)) := Lib.hid (fun W hW => by have x := HJ.out.1.below hW HJ.out.1.lt; exact ⟨HJ.out.2.1.below hW, HJ.out.2.2.1.below hW, x.cell 0 rfl, x.cell 1 rfl, x.lt⟩)
        have HPL := Lib.hid HJ.out.2.2.2.1
        have HT := Lib.hid (Below.refl wc.heap.size wc).drew
        clear HJ
        go_upto_region 16 with fail
        refine lBegin (S := fun L W => (True) ∧ (L.getD 5 false = true ∨ (W.cell? ⟨b, 0, none⟩ = some (.slice (some ⟨g1, 0, none⟩) m m) ∧ W.cell? ⟨b, 1, none⟩ = some (.slice (some ⟨g2, 0, none⟩) m m) ∧ b < W.heap.size))) (by kernel_rfl) ?_ (fun hHeld => ?_)
        · (try dsimp only); refine ⟨?_, Or.inr ?_⟩
          · (first | trivial | with_reducible assumption)
          · (first | with_reducible exact (RJ.out _ HT.out).2.2 | with_reducible assumption)
        refine lTake (i := 0) (v := ?_) rfl (by kernel_rfl) (by kernel_rfl) (by kernel_rfl) (fun _ _ _ h => h) (by rfl) (fun _ _ h => by simpa only [getD_set_ne false (show 0 ≠ 5 by decide)] using h) (fun _ _ h => by simpa only [getD_set_ne false (show 0 ≠ 5 by decide)] using h) ?_ (by assumption) (fun hHeld2 => ?_)
        rotate_left 1
        · (intro _ _ _ _ _; first | (go_simp; done) | (go_simp; with_reducible rfl))
        clear hHeld; have hHeld := hHeld2; clear hHeld2
        (try simp only [Act.put, List.setIfInBounds_toArray, List.set_cons_zero, List.set_cons_succ])
        refine lTake (i := 1) (v := ?_) rfl (by kernel_rfl) (by kernel_rfl) (by kernel_rfl) (fun _ _ _ h => h) (by rfl) (fun _ _ h => by simpa only [getD_set_ne false (show 1 ≠ 5 by decide)] using h) (fun _ _ h => by simpa only [getD_set_ne false (show 1 ≠ 5 by decide)] using h) ?_ (by assumption) (fun hHeld2 => ?_)
        rotate_left 1
        · (intro L W hL hK hSw; (try dsimp only at hSw); obtain ⟨h0, h1⟩ := hSw; replace h1 := still [] hK hL (by kernel_rfl) h1; clear hL hK; first | (go_simp; done) | (go_simp; with_reducible rfl))
        clear hHeld; have hHeld := hHeld2; clear hHeld2
        (try simp only [Act.put, List.setIfInBounds_toArray, List.set_cons_zero, List.set_cons_succ])
        refine lTake (i := 2) (v := ?_) rfl (by kernel_rfl) (by kernel_rfl) (by kernel_rfl) (fun _ _ _ h => h) (by rfl) (fun _ _ h => by simpa only [getD_set_ne false (show 2 ≠ 5 by decide)] using h) (fun _ _ h => by simpa only [getD_set_ne false (show 2 ≠ 5 by decide)] using h) ?_ (by assumption) (fun hHeld2 => ?_)
        rotate_left 1
        · (intro _ _ _ _ _; first | (go_simp; done) | (go_simp; with_reducible rfl))
        clear hHeld; have hHeld := hHeld2; clear hHeld2
        (try simp only [Act.put, List.setIfInBounds_toArray, List.set_cons_zero, List.set_cons_succ])
        refine lTake (i := 3) (v := ?_) rfl (by kernel_rfl) (by kernel_rfl) (by kernel_rfl) (fun _ _ _ h => h) (by rfl) (fun _ _ h => by simpa only [getD_set_ne false (show 3 ≠ 5 by decide)] using h) (fun _ _ h => by simpa only [getD_set_ne false (show 3 ≠ 5 by decide)] using h) ?_ (by assumption) (fun hHeld2 => ?_)
        rotate_left 1
        · (intro _ _ _ _ _; first | (go_simp; done) | (go_simp; with_reducible rfl))
        clear hHeld; have hHeld := hHeld2; clear hHeld2
        (try simp only [Act.put, List.setIfInBounds_toArray, List.set_cons_zero, List.set_cons_succ])
        refine lTake (i := 4) (v := ?_) rfl (by kernel_rfl) (by kernel_rfl) (by kernel_rfl) (fun _ _ _ h => h) (by rfl) (fun _ _ h => by simpa only [getD_set_ne false (show 4 ≠ 5 by decide)] using h) (fun _ _ h => by simpa only [getD_set_ne false (show 4 ≠ 5 by decide)] using h) ?_ (by assumption) (fun hHeld2 => ?_)
        rotate_left 1
        · (intro _ _ _ _ _; first | (go_simp; done) | (go_simp; with_reducible rfl))
        clear hHeld; have hHeld := hHeld2; clear hHeld2
        (try simp only [Act.put, List.setIfInBounds_toArray, List.set_cons_zero, List.set_cons_succ])
        refine lReady (rs := [5]) (by kernel_rfl) (by simp) ?_
        refine AllL.cons (i := 5) rfl (fun K hK => ?_) ?_
        · (have HX := RD.out _ (HD.out.trans (HT.out.mono HD.out.size)); have XR := HX.2.2.2; have q0 := XR.cell 0 rfl; have q1 := XR.cell 1 rfl; have z0 := XR.free 0; have z1 := XR.free 1; have zl := XR.lt; have XR0 := (RD.out _ HD.out).2.2.2; have y0 := XR0.cell 0 rfl; have y1 := XR0.cell 1 rfl; have y2 := XR0.free 0; have y3 := XR0.free 1; have y4 := XR0.lt; have HE0 := Lib.hid ((XR0.setCell 0 (.slice (some ⟨g1, 0, none⟩) m m)).setCell 1 (.slice (some ⟨g2, 0, none⟩) m m)); clear XR0; have HE1 := Lib.hid ((XR.setCell 0 (.slice (some ⟨g1, 0, none⟩) m m)).setCell 1 (.slice (some ⟨g2, 0, none⟩) m m)); have HE2 := Lib.hid (((RJ.out _ HT.out).1.typ (p := ⟨w.heap.size + 1 + 1, 0, none⟩) XR (by decide) (by decide) (.slice (some ⟨g1, 0, none⟩) m m)).typ (p := ⟨w.heap.size + 1 + 1, 1, none⟩) (XR.setCell 0 (.slice (some ⟨g1, 0, none⟩) m m)) (by decide) (by decide) (.slice (some ⟨g2, 0, none⟩) m m)); have HE3 := Lib.hid (((RJ.out _ HT.out).2.1.typ (p := ⟨w.heap.size + 1 + 1, 0, none⟩) XR (by decide) (by decide) (.slice (some ⟨g1, 0, none⟩) m m)).typ (p := ⟨w.heap.size + 1 + 1, 1, none⟩) (XR.setCell 0 (.slice (some ⟨g1, 0, none⟩) m m)) (by decide) (by decide) (.slice (some ⟨g2, 0, none⟩) m m)); have HE4 := Lib.hid ((HX.2.1.setCell (p := ⟨w.heap.size + 1 + 1, 0, none⟩) (by simp only; omega) (.slice (some ⟨g1, 0, none⟩) m m)).setCell (p := ⟨w.heap.size + 1 + 1, 1, none⟩) (by simp only; omega) (.slice (some ⟨g2, 0, none⟩) m m)); have HE5 := Lib.hid (ownSet (p := ⟨w.heap.size + 1 + 1, 1, none⟩) (ownSet (p := ⟨w.heap.size + 1 + 1, 0, none⟩) HX.2.2.1 (own_blk_no2 XR HX.2.2.1 (by decide)) (.slice (some ⟨g1, 0, none⟩) m m)) (own_blk_no2 (XR.setCell 0 (.slice (some ⟨g1, 0, none⟩) m m)) (ownSet (p := ⟨w.heap.size + 1 + 1, 0, none⟩) HX.2.2.1 (own_blk_no2 XR HX.2.2.1 (by decide)) (.slice (some ⟨g1, 0, none⟩) m m)) (by decide)) (.slice (some ⟨g2, 0, none⟩) m m)); clear HX XR; go_simp)
          (try go_wp2_with fail)
          refine hK.out _ _ ?_ (fun hHeld2 => ?_)
          · (try dsimp only); refine ⟨?_, Or.inl (by rfl)⟩
            · (first | trivial | with_reducible assumption)
          clear hK K
          clear hHeld; have hHeld := hHeld2; clear hHeld2
          (try simp only [Act.put, List.setIfInBounds_toArray, List.set_cons_zero, List.set_cons_succ])
          refine lTake (i := 6) (v := ?_) rfl (by kernel_rfl) (by kernel_rfl) (by kernel_rfl) (fun _ _ _ h => h) (by rfl) (fun _ _ h => by simpa only [getD_set_ne false (show 6 ≠ 5 by decide)] using h) (fun _ _ h => by simpa only [getD_set_ne false (show 6 ≠ 5 by decide)] using h) ?_ (by assumption) (fun hHeld2 => ?_)
          rotate_left 1
          · (intro _ _ _ _ _; first | (go_simp; done) | (go_simp; with_reducible rfl))
          clear hHeld; have hHeld := hHeld2; clear hHeld2
          (try simp only [Act.put, List.setIfInBounds_toArray, List.set_cons_zero, List.set_cons_succ])
          refine lTake (i := 7) (v := ?_) rfl (by kernel_rfl) (by kernel_rfl) (by kernel_rfl) (fun _ _ _ h => h) (by rfl) (fun _ _ h => by simpa only [getD_set_ne false (show 7 ≠ 5 by decide)] using h) (fun _ _ h => by simpa only [getD_set_ne false (show 7 ≠ 5 by decide)] using h) ?_ (by assumption) (fun hHeld2 => ?_)
          rotate_left 1
          · (intro _ _ _ _ _; first | (go_simp; done) | (go_simp; with_reducible rfl))
          clear hHeld; have hHeld := hHeld2; clear hHeld2
          (try simp only [Act.put, List.setIfInBounds_toArray, List.set_cons_zero, List.set_cons_succ])
          refine lDone (by kernel_rfl) ?_ _
          clear hHeld
          go_wp2_with fail
          have q0 := HE1.out.cell 0 rfl
          have q1 := HE1.out.cell 1 rfl
          have q2 := HE0.out.cell 0 rfl
          have q3 := HE0.out.cell 1 rfl
          exact bodyPost_ret (v := .tuple #[.int .i64 l, .agg #[.slice (some ⟨g1, 0, none⟩) m m, .slice (some ⟨g2, 0, none⟩) m m], .slice Y y cY, .int .i64 0]) (by simp [results, Try.results52, go_sem, q0, q1, q2, q3]) rfl ⟨HP3b.out l g1 g2 gI gO RI RO Y y cY cut _ ⟨by omega, by omega⟩ HE2.out HE3.out HPL.out HYY.out.1 (own_ints2 HE5.out HYY.out.1) HYY.out.2.2.1 HYY.out.2.2.2, HE4.out⟩
        exact AllL.nil
end Go.Proofs.Ytmebpglkeedaoaa
namespace Go.Proofs.Ytmebpglkeedaoaa
open Go.RowKit Dp
theorem ks_cv {e : Ending} (h : CostV ksS ksC e) : e = .returned (.tuple #[.int .i64 5, .bool true]) := by
  rcases h with ⟨T, p, hB, rfl⟩ | ⟨_, h | h⟩
  · have := ks_cost hB
    have e : prc ksS T ksC.length ksS.lim.length = prc ksS T 1 3 := rfl
    rw [e, this]
  · exact absurd ks_st h
  · exact absurd ks_T0 (h _)
theorem ks_ev {w w' : World} {e : Ending} (h : EgP ksS ksC w e w') : ∃ (A B : Option Addr) (c d : Nat), e = .returned (.tuple #[.agg #[.slice A 1 c, .slice B 1 d], .int .i64 0]) ∧ (1 ≤ c ∧ c ≤ 9223372036854775807) ∧ (1 ≤ d ∧ d ≤ 9223372036854775807) ∧ TabAt w' A B ⟨[[2, 2, 2]], [[0, 0, 0]]⟩ ∧ Below w.heap.size w w' := by
  rcases h with ⟨_, A, B, c, d, rfl, h1, h2, h3, h4⟩ | ⟨h0, _⟩
  · refine ⟨A, B, c, d, rfl, h2, h3, ?_, h4⟩
    have e1 : egT ksS ksC = ⟨[[2, 2, 2]], [[0, 0, 0]]⟩ := by
      cases hT : egT ksS ksC with
      | mk a b =>
        have := ks_egT
        rw [hT] at this
        simp only at this
        rw [this.1, this.2]
    rw [e1] at h1
    exact h1
  · exact absurd ks_eg h0
theorem ks_pv {w w' : World} {e : Ending} (h : PeakP ksS ksC w e w') : ∃ (g1 g2 : Nat) (Y : Option Addr) (y cY : Nat), e = .returned (.tuple #[.int .i64 1, .agg #[.slice (some ⟨g1, 0, none⟩) 1 1, .slice (some ⟨g2, 0, none⟩) 1 1], .slice Y y cY, .int .i64 0]) := by
  rcases h with ⟨h0, _⟩ | ⟨_, _, h2⟩ | ⟨_, pk, g1, g2, _, _, _, _, Y, y, cY, _, rfl, _, _, _, _, _, hP⟩
  · exact absurd ks_st h0
  · exact absurd ks_T0 (h2 _)
  · obtain rfl := ks_peak hP
    exact ⟨g1, g2, Y, y, cY, rfl⟩
set_option maxHeartbeats 8000000 in
set_option maxRecDepth 100000 in
theorem Known_walk (w : World) : Calls Try.prog 11 #[] w fun e w' => e = .returned (.bool true) ∧ Below w.heap.size w w' := by
  have K0 := Lib.hid (KnJ.start w)
  go_enter Try.func11, Try.ntmps11
  go_upto_region 2 with fail
  generalize ((w.alloc (.cells #[.int .i64 3, .int .i64 0, .int .i64 (-3)] 2)).alloc (.cells #[.int .i64 0, .int .i64 1, .int .i64 2, .int .i64 1, .int .i64 1, .int .i64 2, .int .i64 2, .int .i64 1, .int .i64 0, .int .i64 2, .int .i64 2, .int .i64 5] 46)).alloc (.cells #[.slice (some ⟨w.heap.size, 0, none⟩) 3 3, .slice (some ⟨w.heap.size + 1, 0, none⟩) 3 3] 25) = w1 at K0 ⊢
  obtain ⟨g1, hg1⟩ : ∃ g, g = w.heap.size := ⟨_, rfl⟩
  rw [← hg1] at K0 ⊢
  clear hg1
  obtain ⟨g2, hg2⟩ : ∃ g, g = g1 + 1 := ⟨_, rfl⟩
  rw [← hg2] at K0 ⊢
  clear hg2
  obtain ⟨g3, hg3⟩ : ∃ g, g = g2 + 1 := ⟨_, rfl⟩
  rw [← hg3] at K0 ⊢
  clear hg3
  have n0 := K0.out.n.cell 0 rfl
  have n1 := K0.out.n.cell 1 rfl
  have nl := K0.out.n.lt
  have al := ((Below.refl w1.heap.size w1).alloc (Nat.le_refl _) (.cells #[.int .i64 2, .int .i64 2, .int .i64 1] 2)).alloc (by simp) (.cells #[.int .i64 0, .int .i64 1, .int .i64 5] 2)
  have KA := Lib.hid (K0.out.below al)
  have FA := Lib.hid (show Fl 2 ((w1.alloc (.cells #[.int .i64 2, .int .i64 2, .int .i64 1] 2)).alloc (.cells #[.int .i64 0, .int .i64 1, .int .i64 5] 2)) w1.heap.size [2, 2, 1] from (Blk.new' w1 #[.int .i64 2, .int .i64 2, .int .i64 1] 2).alloc _)
  have PA := Lib.hid (show Fl 2 ((w1.alloc (.cells #[.int .i64 2, .int .i64 2, .int .i64 1] 2)).alloc (.cells #[.int .i64 0, .int .i64 1, .int .i64 5] 2)) (w1.heap.size + 1) [0, 1, 5] from by unfold Fl; simpa using Blk.new' (w1.alloc (.cells #[.int .i64 2, .int .i64 2, .int .i64 1] 2)) #[.int .i64 0, .int .i64 1, .int .i64 5] 2)
  go_wp2_with fail
  clear n0 n1 nl al K0
  generalize (w1.alloc (.cells #[.int .i64 2, .int .i64 2, .int .i64 1] 2)).alloc (.cells #[.int .i64 0, .int .i64 1, .int .i64 5] 2) = w2x at KA FA PA ⊢
  have CL := CheckLeast_c (some ⟨g1, 0, none⟩) (some ⟨g2, 0, none⟩) (some ⟨w1.heap.size, 0, none⟩) (some ⟨w1.heap.size + 1, 0, none⟩) knN [2, 2, 1] [0, 1, 5] 3 3 3 3 3 3 3 3 w2x rfl rfl rfl rfl (by omega) (by omega) (by omega) (by omega) KA.out.net FA.out.ints PA.out.ints
  rw [show clE knN [2, 2, 1] [0, 1, 5] = 0 from kn_cl.1] at CL
  refine CL.mono ?_
  rintro e w2 ⟨rfl, hb⟩
  have K2 := Lib.hid (KA.out.below hb)
  clear CL KA FA PA hb
  have n0 := K2.out.n.cell 0 rfl
  have n1 := K2.out.n.cell 1 rfl
  have nl := K2.out.n.lt
  have al := ((Below.refl w2.heap.size w2).alloc (Nat.le_refl _) (.cells #[.int .i64 1, .int .i64 1, .int .i64 2] 2)).alloc (by simp) (.cells #[.int .i64 0, .int .i64 1, .int .i64 5] 2)
  have KA := Lib.hid (K2.out.below al)
  have FA := Lib.hid (show Fl 2 ((w2.alloc (.cells #[.int .i64 1, .int .i64 1, .int .i64 2] 2)).alloc (.cells #[.int .i64 0, .int .i64 1, .int .i64 5] 2)) w2.heap.size [1, 1, 2] from (Blk.new' w2 #[.int .i64 1, .int .i64 1, .int .i64 2] 2).alloc _)
  have PA := Lib.hid (show Fl 2 ((w2.alloc (.cells #[.int .i64 1, .int .i64 1, .int .i64 2] 2)).alloc (.cells #[.int .i64 0, .int .i64 1, .int .i64 5] 2)) (w2.heap.size + 1) [0, 1, 5] from by unfold Fl; simpa using Blk.new' (w2.alloc (.cells #[.int .i64 1, .int .i64 1, .int .i64 2] 2)) #[.int .i64 0, .int .i64 1, .int .i64 5] 2)
  go_wp2_with fail
  clear n0 n1 nl al K2
  generalize (w2.alloc (.cells #[.int .i64 1, .int .i64 1, .int .i64 2] 2)).alloc (.cells #[.int .i64 0, .int .i64 1, .int .i64 5] 2) = w3x at KA FA PA ⊢
  have CL := CheckLeast_c (some ⟨g1, 0, none⟩) (some ⟨g2, 0, none⟩) (some ⟨w2.heap.size, 0, none⟩) (some ⟨w2.heap.size + 1, 0, none⟩) knN [1, 1, 2] [0, 1, 5] 3 3 3 3 3 3 3 3 w3x rfl rfl rfl rfl (by omega) (by omega) (by omega) (by omega) KA.out.net FA.out.ints PA.out.ints
  rw [show clE knN [1, 1, 2] [0, 1, 5] = 19 from kn_cl.2] at CL
  refine CL.mono ?_
  rintro e w3 ⟨rfl, hb⟩
  have K3 := Lib.hid (KA.out.below hb)
  clear CL KA FA PA hb
  have HB := Lib.hid K3.out.bel
  clear K3
  have KM := Lib.hid (km_start w3)
  have HB4 := Lib.hid ((HB.out.alloc HB.out.size (.cells #[.int .i64 3, .int .i64 (-3)] 2)).alloc (by have := HB.out.size; simp; omega) (.cells #[.int .i64 0, .int .i64 1, .int .i64 2, .int .i64 1] 46))
  go_wp2_with fail
  generalize (w3.alloc (.cells #[.int .i64 3, .int .i64 (-3)] 2)).alloc (.cells #[.int .i64 0, .int .i64 1, .int .i64 2, .int .i64 1] 46) = w4 at KM HB4 ⊢
  refine (Missing_c _ _ ksM 2 1 2 1 w4 rfl rfl (by omega) (by omega) KM.out).mono ?_
  rintro e w5 ⟨hM, hb⟩
  obtain ⟨g, c, rfl, m0, ml⟩ := km_miss hM
  have HB := Lib.hid (HB4.out.trans (hb.mono HB4.out.size))
  clear hM hb KM HB4
  have CXX := Lib.hid (CX.start w5)
  have HB4 := Lib.hid (((HB.out.alloc HB.out.size (.cells #[.int .i64 1, .int .i64 1] 2)).alloc (by have := HB.out.size; simp; omega) (.cells #[.int .i64 (-1), .int .i64 (-1)] 2)).alloc (by have := HB.out.size; simp; omega) (.cells #[.slice (some ⟨w5.heap.size, 0, none⟩) 2 2, .slice (some ⟨w5.heap.size + 1, 0, none⟩) 2 2] 22))
  go_wp2_with fail
  clear m0 ml
  generalize ((w5.alloc (.cells #[.int .i64 1, .int .i64 1] 2)).alloc (.cells #[.int .i64 (-1), .int .i64 (-1)] 2)).alloc (.cells #[.slice (some ⟨w5.heap.size, 0, none⟩) 2 2, .slice (some ⟨w5.heap.size + 1, 0, none⟩) 2 2] 22) = w6 at CXX HB4 ⊢
  refine (AssignX_c _ _ _ w6 CXX.out).mono ?_
  rintro e w7 ⟨rfl, hb⟩
  have HB := Lib.hid (HB4.out.trans (hb.mono HB4.out.size))
  clear hb CXX HB4
  have KS := Lib.hid (KsJ.start w7)
  have HB4 := Lib.hid (((((HB.out.alloc HB.out.size (.cells #[.int .i64 2, .int .i64 2, .int .i64 2] 2)).alloc (by have := HB.out.size; simp; omega) (.cells #[.int .i64 0, .int .i64 0, .int .i64 0] 2)).alloc (by have := HB.out.size; simp; omega) (.cells #[.int .i64 5, .int .i64 1, .int .i64 3] 2)).alloc (by have := HB.out.size; simp; omega) (.cells #[.int .i64 0, .int .i64 0, .int .i64 0] 2)).alloc (by have := HB.out.size; simp; omega) (.cells #[.slice (some ⟨w7.heap.size, 0, none⟩) 3 3, .slice (some ⟨w7.heap.size + 1, 0, none⟩) 3 3, .slice (some ⟨w7.heap.size + 1 + 1, 0, none⟩) 3 3, .slice (some ⟨w7.heap.size + 1 + 1 + 1, 0, none⟩) 3 3] 51))
  go_upto_region 11 with fail
  generalize ((((w7.alloc (.cells #[.int .i64 2, .int .i64 2, .int .i64 2] 2)).alloc (.cells #[.int .i64 0, .int .i64 0, .int .i64 0] 2)).alloc (.cells #[.int .i64 5, .int .i64 1, .int .i64 3] 2)).alloc (.cells #[.int .i64 0, .int .i64 0, .int .i64 0] 2)).alloc (.cells #[.slice (some ⟨w7.heap.size, 0, none⟩) 3 3, .slice (some ⟨w7.heap.size + 1, 0, none⟩) 3 3, .slice (some ⟨w7.heap.size + 1 + 1, 0, none⟩) 3 3, .slice (some ⟨w7.heap.size + 1 + 1 + 1, 0, none⟩) 3 3] 51) = w8 at KS HB4 ⊢
  obtain ⟨k, hk⟩ : ∃ k, k = w7.heap.size := ⟨_, rfl⟩
  rw [← hk] at KS ⊢
  clear hk HB
  have KC := Lib.hid (kc_start w8)
  have al := (Below.refl w8.heap.size w8).alloc (Nat.le_refl _) (.cells #[.int .i64 10, .int .i64 2, .int .i64 0, .int .i64 0, .int .i64 3, .slice none 0 0] 63)
  have KS := Lib.hid (KS.out.below al)
  have HB := Lib.hid (HB4.out.trans (al.mono HB4.out.size))
  clear al HB4
  go_upto_region 12 with fail
  generalize w8.alloc (.cells #[.int .i64 10, .int .i64 2, .int .i64 0, .int .i64 0, .int .i64 3, .slice none 0 0] 63) = w9 at KS KC HB ⊢
  generalize w8.heap.size = gc at *
  have s0 := KS.out.b.cell 0 rfl
  have s1 := KS.out.b.cell 1 rfl
  have s2 := KS.out.b.cell 2 rfl
  have s3 := KS.out.b.cell 3 rfl
  have sl := KS.out.b.lt
  go_wp2_with fail
  refine (cost_c (some ⟨k, 0, none⟩) (some ⟨k + 1, 0, none⟩) (some ⟨k + 1 + 1, 0, none⟩) (some ⟨k + 1 + 1 + 1, 0, none⟩) (some ⟨gc, 0, none⟩) ksS ksC 3 3 3 3 1 3 3 3 3 1 w9 rfl rfl rfl rfl rfl (by omega) (by omega) (by omega) (by omega) (by omega) KS.out.s KC.out).mono ?_
  rintro e w10 ⟨hC, hb⟩
  obtain rfl := ks_cv hC
  clear s0 s1 s2 s3 sl hC
  have KS := Lib.hid (KS.out.below hb)
  have KC := Lib.hid (KC.out.below hb (Nat.le_refl _))
  have HB := Lib.hid (HB.out.trans (hb.mono HB.out.size))
  clear hb
  have s0 := KS.out.b.cell 0 rfl
  have s1 := KS.out.b.cell 1 rfl
  have s2 := KS.out.b.cell 2 rfl
  have s3 := KS.out.b.cell 3 rfl
  have sl := KS.out.b.lt
  go_wp2_with fail
  refine (Eager_c (some ⟨k, 0, none⟩) (some ⟨k + 1, 0, none⟩) (some ⟨k + 1 + 1, 0, none⟩) (some ⟨k + 1 + 1 + 1, 0, none⟩) (some ⟨gc, 0, none⟩) ksS ksC 3 3 3 3 1 3 3 3 3 1 w10 rfl rfl rfl rfl rfl (by omega) (by omega) (by omega) (by omega) (by omega) KS.out.s KC.out).mono ?_
  rintro e w11 hE
  obtain ⟨A, B, c1, c2, rfl, hc1, hc2, hT, hb⟩ := ks_ev hE
  clear s0 s1 s2 s3 sl hE
  have KS := Lib.hid (KS.out.below hb)
  have KC := Lib.hid (KC.out.below hb (Nat.le_refl _))
  have HB := Lib.hid (HB.out.trans (hb.mono HB.out.size))
  clear hb
  have al := (Below.refl w11.heap.size w11).alloc (Nat.le_refl _) (.cells #[.slice A 1 c1, .slice B 1 c2] 55)
  have HT := Lib.hid (hT.below al (Nat.le_refl _))
  have XT := Lib.hid (Blk.new' w11 #[.slice A 1 c1, .slice B 1 c2] 55)
  have hb := al
  clear al hT
  have KS := Lib.hid (KS.out.below hb)
  have KC := Lib.hid (KC.out.below hb (Nat.le_refl _))
  have HB := Lib.hid (HB.out.trans (hb.mono HB.out.size))
  clear hb
  go_upto_region 14 with fail
  generalize w11.alloc (.cells #[.slice A 1 c1, .slice B 1 c2] 55) = w12 at *
  generalize w11.heap.size = gt at *
  have s0 := KS.out.b.cell 0 rfl
  have s1 := KS.out.b.cell 1 rfl
  have s2 := KS.out.b.cell 2 rfl
  have s3 := KS.out.b.cell 3 rfl
  have sl := KS.out.b.lt
  have t0 := XT.out.cell 0 rfl
  have t1 := XT.out.cell 1 rfl
  have tl := XT.out.lt
  have PR := Price_c (some ⟨k, 0, none⟩) (some ⟨k + 1, 0, none⟩) (some ⟨k + 1 + 1, 0, none⟩) (some ⟨k + 1 + 1 + 1, 0, none⟩) (some ⟨gc, 0, none⟩) A B ksS ksC ⟨[[2, 2, 2]], [[0, 0, 0]]⟩ 3 3 3 3 1 1 1 3 3 3 3 1 c1 c2 w12 rfl rfl rfl rfl rfl rfl rfl (by omega) (by omega) (by omega) (by omega) (by omega) hc1 hc2 KS.out.s KC.out HT.out
  rw [ks_eg18.1, ks_eg18.2] at PR
  have PR := Lib.hid PR
  go_wp2_with fail
  refine PR.out.mono ?_
  rintro e w13 ⟨rfl, hb⟩
  clear s0 s1 s2 s3 sl t0 t1 tl PR
  have HT := Lib.hid (HT.out.below hb (Nat.le_refl _))
  have KS := Lib.hid (KS.out.below hb)
  have KC := Lib.hid (KC.out.below hb (Nat.le_refl _))
  have XT := Lib.hid (XT.out.below hb XT.out.lt)
  have HB := Lib.hid (HB.out.trans (hb.mono HB.out.size))
  clear hb
  have s0 := KS.out.b.cell 0 rfl
  have s1 := KS.out.b.cell 1 rfl
  have s2 := KS.out.b.cell 2 rfl
  have s3 := KS.out.b.cell 3 rfl
  have sl := KS.out.b.lt
  go_wp2_with fail
  refine (Peak_c (some ⟨k, 0, none⟩) (some ⟨k + 1, 0, none⟩) (some ⟨k + 1 + 1, 0, none⟩) (some ⟨k + 1 + 1 + 1, 0, none⟩) (some ⟨gc, 0, none⟩) ksS ksC 3 3 3 3 1 3 3 3 3 1 w13 rfl rfl rfl rfl rfl (by omega) (by omega) (by omega) (by omega) (by omega) KS.out.s KC.out).mono ?_
  rintro e w14 ⟨hP, hb⟩
  obtain ⟨h1, h2, Y, y, cY, rfl⟩ := ks_pv hP
  clear s0 s1 s2 s3 sl hP
  have HT := Lib.hid (HT.out.below hb (Nat.le_refl _))
  have KS := Lib.hid (KS.out.below hb)
  have KC := Lib.hid (KC.out.below hb (Nat.le_refl _))
  have XT := Lib.hid (XT.out.below hb XT.out.lt)
  have HB := Lib.hid (HB.out.trans (hb.mono HB.out.size))
  clear hb
  have hb := (Below.refl w14.heap.size w14).alloc (Nat.le_refl _) (.cells #[.slice (some ⟨h1, 0, none⟩) 1 1, .slice (some ⟨h2, 0, none⟩) 1 1] 55)
  have HT := Lib.hid (HT.out.below hb (Nat.le_refl _))
  have KS := Lib.hid (KS.out.below hb)
  have KC := Lib.hid (KC.out.below hb (Nat.le_refl _))
  have XT := Lib.hid (XT.out.below hb XT.out.lt)
  have HB := Lib.hid (HB.out.trans (hb.mono HB.out.size))
  clear hb
  go_upto_region 16 with fail
  generalize w14.alloc (.cells #[.slice (some ⟨h1, 0, none⟩) 1 1, .slice (some ⟨h2, 0, none⟩) 1 1] 55) = w15 at *
  clear KS KC
  have t0 := XT.out.cell 0 rfl
  have t1 := XT.out.cell 1 rfl
  have tl := XT.out.lt
  have hb := ((Below.refl w15.heap.size w15).alloc (Nat.le_refl _) (.cells #[.int .i64 2, .int .i64 2, .int .i64 2] 2)).alloc (by simp) (.cells #[.slice (some ⟨w15.heap.size, 0, none⟩) 3 3] 22)
  have KR := Lib.hid (kr_start w15)
  have HT := Lib.hid (HT.out.below hb (Nat.le_refl _))
  have HB := Lib.hid (HB.out.trans (hb.mono HB.out.size))
  clear hb XT
  go_wp2_with fail
  clear t0 t1 tl
  generalize (w15.alloc (.cells #[.int .i64 2, .int .i64 2, .int .i64 2] 2)).alloc (.cells #[.slice (some ⟨w15.heap.size, 0, none⟩) 3 3] 22) = w16 at *
  refine (sameRows_c A _ [[2, 2, 2]] 1 c1 1 w16 rfl hc1 (by omega) HT.out.1 KR.out).mono ?_
  rintro e w17 ⟨rfl, hb⟩
  have HB := Lib.hid (HB.out.trans (hb.mono HB.out.size))
  clear hb HT KR
  go_wp2_with fail
  refine (known_c _).mono ?_
  rintro e w18 ⟨rfl, hb⟩
  have HB := Lib.hid (HB.out.trans (hb.mono HB.out.size))
  clear hb
  go_wp2_with fail
  go_ret
  exact ⟨rfl, HB.out⟩
end Go.Proofs.Ytmebpglkeedaoaa
