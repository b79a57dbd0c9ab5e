/- Contracts that the claim leans on, part 5: T7d T7 T22 M30 X5 M16 T20 T23 T8c T8 T9 T10 T11 N12 N13 C6 C7 C8 C9 C10 T14 C11 T15 T16 T17 M24 M31 T24 T25 T26 S13 T28 -/
import Derived.Test.YtmebpglkeedaoaaDM4
import Derived.Deep.Cut
import Derived.Laws.StructEq
set_option linter.unusedVariables false
set_option linter.unusedSimpArgs false
set_option linter.unnecessarySimpa false
namespace Go.Proofs.Ytmebpglkeedaoaa
open Go.RowKit Dp
def BldP (S : Site) (cs : List Car) (w : World) (gb : Nat) (W : World) : Prop := ∃ gs A cap AI AO ci co vi vo, BdJ w gs gb A cap AI AO ci co cs.length vi vo (supN S cs) (carsA S cs cs.length) W ∧ RowsF W S.lim.length W.heap.size vi (inR S cs) cs.length ∧ RowsF W S.lim.length W.heap.size vo (outR S cs) cs.length
def R76 (S : Site) (cs : List Car) (w : World) : Ending → World → Prop := fun e w' => ∃ b, e = .returned (.pointer (some ⟨b, 0, none⟩)) ∧ BldP S cs w b w'
set_option maxHeartbeats 8000000 in
set_option maxRecDepth 100000 in
theorem bld8 (S : Site) (cs : List Car) (gs gb M : Nat) (w W0 : World) (h0 : stE S cs = 0) (hM : M = nodesN S cs) (hJ : BuiJ S cs w gs gb M cs.length W0) {y0 y1 y2 y3 y4 y5 y7 y8 y9 y10 y11 y12 y13 y14 y15 y16 y17 y18 y19 y20 y21 y22 y23 y24 y25 y26 y27 y28 y29 y30 y31 y32 y33 y34 y35 y36 y37 y38 y39 y40 y41 y42 y43 y44 y45 y46 y47 y48 y49 y50 y51 y52 y53 y54 y55 y56 y57 y58 y59 y60 y61 y62 y63 y64 y65 y66 y67 y68 y69 y70 y71 y72 y73 y74 y75 y76 y77 y78 y79 y80 y81 y82 y83 y84 y85 y86 y87 y88 y89 y90 y91 y92 y93 y94 y95 y96 y97 y98 y99 y100 y101 y102 y103 y104 y105 y106 y107 y108 y109 y110 y111 y112 y113 y114 y115 y116 y117 y118 y119 y120 y121 y122 y123 y124 y125 y126 y127 y128 y129 y130 y131 y132 y133 y134 y135 y136 y137 y138 y139 y140 y141 y142 y143 y144 y145 y146 y147 y148 y149 y150 y151 y152 y153 y154 y155 y156 y157 y158 y159 y160 y161 y162 y163 y164 y165 y166 y167 y168 y169 y170 y171 y172 y173 y174 y175 y176 y177 y178 y179 y180 y181 y182 y183 y184 y185 y186 y187 y188 y189 y190 y191 y192 y193 y194 y195 y196 y197 y198 y199 y200 y201 y202 y203 y204 y205 y206 y207 y208 y209 y210 y211 y212 y213 y214 y215 y216 y217 y218 y219 y220 y221 y222 y223 y224 y225 y226 y227 y228 y229 y230 y231 y232 y233 y234 y235 y236 y237 y238 y239 y240 y241 y242 y243 y244 y245 y246 y247 y248 y249 y250 y251 y252 : Value} :
    Code.wp Try.prog end76 (bodyPost Try.prog Try.f76 (R76 S cs w)) { tmps := List.toArray (y0 :: y1 :: y2 :: y3 :: y4 :: y5 :: (.pointer (some ⟨gb, 0, none⟩) : Value) :: y7 :: y8 :: y9 :: y10 :: y11 :: y12 :: y13 :: y14 :: y15 :: y16 :: y17 :: y18 :: y19 :: y20 :: y21 :: y22 :: y23 :: y24 :: y25 :: y26 :: y27 :: y28 :: y29 :: y30 :: y31 :: y32 :: y33 :: y34 :: y35 :: y36 :: y37 :: y38 :: y39 :: y40 :: y41 :: y42 :: y43 :: y44 :: y45 :: y46 :: y47 :: y48 :: y49 :: y50 :: y51 :: y52 :: y53 :: y54 :: y55 :: y56 :: y57 :: y58 :: y59 :: y60 :: y61 :: y62 :: y63 :: y64 :: y65 :: y66 :: y67 :: y68 :: y69 :: y70 :: y71 :: y72 :: y73 :: y74 :: y75 :: y76 :: y77 :: y78 :: y79 :: y80 :: y81 :: y82 :: y83 :: y84 :: y85 :: y86 :: y87 :: y88 :: y89 :: y90 :: y91 :: y92 :: y93 :: y94 :: y95 :: y96 :: y97 :: y98 :: y99 :: y100 :: y101 :: y102 :: y103 :: y104 :: y105 :: y106 :: y107 :: y108 :: y109 :: y110 :: y111 :: y112 :: y113 :: y114 :: y115 :: y116 :: y117 :: y118 :: y119 :: y120 :: y121 :: y122 :: y123 :: y124 :: y125 :: y126 :: y127 :: y128 :: y129 :: y130 :: y131 :: y132 :: y133 :: y134 :: y135 :: y136 :: y137 :: y138 :: y139 :: y140 :: y141 :: y142 :: y143 :: y144 :: y145 :: y146 :: y147 :: y148 :: y149 :: y150 :: y151 :: y152 :: y153 :: y154 :: y155 :: y156 :: y157 :: y158 :: y159 :: y160 :: y161 :: y162 :: y163 :: y164 :: y165 :: y166 :: y167 :: y168 :: y169 :: y170 :: y171 :: y172 :: y173 :: y174 :: y175 :: y176 :: y177 :: y178 :: y179 :: y180 :: y181 :: y182 :: y183 :: y184 :: y185 :: y186 :: y187 :: y188 :: y189 :: y190 :: y191 :: y192 :: y193 :: y194 :: y195 :: y196 :: y197 :: y198 :: y199 :: y200 :: y201 :: y202 :: y203 :: y204 :: y205 :: y206 :: y207 :: y208 :: y209 :: y210 :: y211 :: y212 :: y213 :: y214 :: y215 :: y216 :: y217 :: y218 :: y219 :: y220 :: y221 :: y222 :: y223 :: y224 :: y225 :: y226 :: y227 :: y228 :: y229 :: y230 :: y231 :: y232 :: y233 :: y234 :: y235 :: y236 :: y237 :: y238 :: y239 :: y240 :: y241 :: y242 :: y243 :: y244 :: y245 :: y246 :: y247 :: y248 :: y249 :: y250 :: y251 :: y252 :: []), defers := [] } W0 := by
  obtain ⟨A, cap, AI, AO, ci, co, vi, vo, hj1, hj2, hj3⟩ := hJ
  obtain ⟨l, hl⟩ : ∃ l, l = carsS S cs cs.length := ⟨_, rfl⟩
  have hlen : l.length = M := by rw [hl, carsS_len, hM]; rfl
  have hM1 : 2 ≤ M ∧ M ≤ 833 := by have := nodes_bd h0; have := (siteHead_iff.1 (stE_0 h0).2.1).1; omega
  rw [show supC S cs M cs.length = l from by rw [hM, supC_all, hl]] at hj1
  have HBD := Lib.hid (fun j (hj : j ≤ 1024) => sumT_bd (l := l) (by rw [hl]; exact carsS_bd h0 _ (Nat.le_refl _)) j hj)
  have HEB := Lib.hid (fun j (hj : j < M) => (show -1048576 ≤ l.getD j 0 ∧ l.getD j 0 ≤ 1048576 from by
    have : l.getD j 0 ∈ l := by rw [List.getD_eq_getElem?_getD, List.getElem?_eq_getElem (by omega)]; exact List.getElem_mem _
    rw [hl] at this
    exact carsS_bd h0 _ (Nat.le_refl _) _ (by rw [← hl] at this ⊢; exact this)))
  have HSU := Lib.hid (fun j (hj : j + 1 < M) => sumT_succ l j (by omega))
  have h00 : l.getD 0 0 = 0 := by rw [hl]; exact carsS_head _ _ _
  have HALL := Lib.hid (sumT_all l h00 (by omega))
  have HST : Hid (l.set 0 (-(sumT l 0)) = l) := Lib.hid (by
    rw [sumT_zero]
    cases l with
    | nil => rfl
    | cons a t => have : a = 0 := h00; subst this; rfl)
  have HSN : Hid (supN S cs = l.set 0 (-(sum l))) := Lib.hid (by rw [hl]; rfl)
  have HLEN := Lib.hid hlen
  have HGT := Lib.hid (fun (j : Nat) (v : Int) (hj : 0 < j) => (show (l.set 0 v).getD j 0 = l.getD j 0 from by rw [List.getD_eq_getElem?_getD, List.getElem?_set_ne (by omega), ← List.getD_eq_getElem?_getD]))
  have HG0 := Lib.hid (fun (v : Int) => (show (l.set 0 v).getD 0 0 = v from by rw [List.getD_eq_getElem?_getD, List.getElem?_set_self (by omega)]; rfl))
  have HSS := Lib.hid (fun (u v : Int) => (List.set_set (a := u) (b := v) (l := l) (i := 0)))
  have HBJ : Hid (BdJ w gs gb A cap AI AO ci co cs.length vi vo (l.set 0 (-(sumT l 0))) (carsA S cs cs.length) W0) := Lib.hid (by rw [HST.out]; exact hj1)
  have HR1 := Lib.hid hj2
  have HR2 := Lib.hid hj3
  clear hj1 hj2 hj3 h00 hl hlen h0 hM HST
  obtain ⟨p, hp⟩ : ∃ p, M = p + 1 := ⟨M - 1, by omega⟩
  subst hp
  generalize hGW : W0.heap.size = G at *
  have HGW : Hid (G ≤ W0.heap.size) := Lib.hid (by omega)
  clear hGW
  conv => arg 2; whnf
  have b0 := HBJ.out.b.cell 0 rfl
  rw [List.length_set, HLEN.out] at b0
  have bl := HBJ.out.b.lt
  have m1 : (1 : Int) ≤ (p : Int) + 1 := by omega
  go_wp2_with fail
  clear b0 bl
  go_loopw [18, 237] (fun _ iv wr => ∃ j : Nat, j ≤ p ∧ iv = .int .i64 j ∧ Hid (BdJ w gs gb A cap AI AO ci co cs.length vi vo (l.set 0 (-(sumT l j))) (carsA S cs cs.length) wr ∧ RowsF wr S.lim.length G vi (inR S cs) cs.length ∧ RowsF wr S.lim.length G vo (outR S cs) cs.length ∧ G ≤ wr.heap.size)) (fun _ iv _ => p - (intOf iv).toNat)
  case atStart => exact ⟨0, Nat.zero_le _, rfl, Lib.hid ⟨HBJ.out, HR1.out, HR2.out, HGW.out⟩⟩
  case round =>
    clear HBJ HR1 HR2 HGW
    obtain ⟨j, hj, rfl, HJ⟩ := hrel
    have HB := Lib.hid HJ.out.1
    have HR1 := Lib.hid HJ.out.2.1
    have HR2 := Lib.hid HJ.out.2.2.1
    have HGW := Lib.hid HJ.out.2.2.2
    clear HJ
    by_cases hlt : j < p
    · have hji : (j : Int) < (p : Int) := by omega
      have b0 := HB.out.b.cell 0 rfl
      rw [List.length_set, HLEN.out] at b0
      have bl := HB.out.b.lt
      have s0 := HB.out.s.cell 0 (by rw [List.length_set, HLEN.out]; omega)
      rw [HG0.out] at s0
      have sx := HB.out.s.cell (1 + j) (by rw [List.length_set, HLEN.out]; omega)
      rw [HGT.out (1 + j) _ (by omega), Nat.add_comm 1 j] at sx
      have sz := HB.out.s.free 0
      have sl := HB.out.s.lt
      have x1 := HBD.out j (by omega)
      have x2 := HEB.out (j + 1) (by omega)
      have HN := Lib.hid (HSU.out j (by omega))
      have HB2 := Lib.hid (fun v => HB.out.set 0 v)
      have HQ1 := Lib.hid (fun v => HR1.out.set (p := ⟨gs, 0, none⟩) HB.out.s (.inl (by decide)) v)
      have HQ2 := Lib.hid (fun v => HR2.out.set (p := ⟨gs, 0, none⟩) HB.out.s (.inl (by decide)) v)
      generalize l.getD (j + 1) 0 = x at *
      generalize sumT l j = sj at *
      have sx2 : wr.cell? ⟨gs, 1 + j, none⟩ = some (.int .i64 x) := by rw [Nat.add_comm 1 j]; exact sx
      have we : IntKind.i64.wrap (-sj - x) = -sj - x := IntWalk.i64_in _ (by omega)
      have pz : (0 : Int) < (p : Int) + 1 := by omega
      have HE : Hid (BdJ w gs gb A cap AI AO ci co cs.length vi vo (l.set 0 (-(sumT l (j + 1)))) (carsA S cs cs.length) (wr.setCell ⟨gs, 0, none⟩ (.int .i64 (-sj - x))) ∧ RowsF (wr.setCell ⟨gs, 0, none⟩ (.int .i64 (-sj - x))) S.lim.length G vi (inR S cs) cs.length ∧ RowsF (wr.setCell ⟨gs, 0, none⟩ (.int .i64 (-sj - x))) S.lim.length G vo (outR S cs) cs.length ∧ G ≤ (wr.setCell ⟨gs, 0, none⟩ (.int .i64 (-sj - x))).heap.size) := Lib.hid (by
        have h1 := HB2.out (-sj - x)
        rw [HSS.out] at h1
        refine ⟨?_, HQ1.out _, HQ2.out _, by simpa using HGW.out⟩
        rw [HN.out, show -(sj + x) = -sj - x by omega]
        exact h1)
      clear x1 x2 HB2 HQ1 HQ2 HN HB HR1 HR2 HGW
      go_upto_region 40 with fail
      clear b0 bl s0 sx sx2 sz sl
      generalize wr.setCell ⟨gs, 0, none⟩ (.int .i64 (-sj - x)) = w2 at HE ⊢
      go_wp2_with fail
      exact ⟨⟨j + 1, by omega, by go_num, HE⟩, by simp [intOf]; omega⟩
    · obtain rfl : p = j := by omega
      have HE := Lib.hid HB.out
      rw [show sumT l p = sum l from by have := HALL.out; rw [HLEN.out] at this; exact this, ← HSN.out] at HE
      go_wp2_with fail
      conv => arg 2; whnf
      go_wp2_with fail
      exact bodyPost_ret (v := .pointer (some ⟨gb, 0, none⟩)) (by simp [results, Try.results76, go_sem]) rfl ⟨gb, rfl, gs, A, cap, AI, AO, ci, co, vi, vo, HE.out, HR1.out.up HGW.out, HR2.out.up HGW.out⟩
end Go.Proofs.Ytmebpglkeedaoaa
namespace Go.Proofs.Ytmebpglkeedaoaa
open Go.RowKit Dp
def BuA (w : World) (gs gb : Nat) (cv : List Value) (M : Nat) (arcs : List Arc) (W : World) : Prop := ∃ A cap, BdJ w gs gb A cap none none 0 0 0 [] [] (List.replicate M 0) arcs W ∧ Blk W w.heap.size 51 cv
theorem BuA.push {w wa Va w5 : World} {gs gb M cap cap2 m : Nat} {cv : List Value} {A A2 : Option Addr} {arcs news : List Arc} (h : BdJ w gs gb A cap none none 0 0 0 [] [] (List.replicate M 0) arcs wa) (hs : Blk wa w.heap.size 51 cv) (hm : m = news.length) (hV : w5 = Va.setCell ⟨gb, 1, none⟩ (.slice A2 (arcs.length + m) cap2)) (hg : wa.grownBy Va (Value.slice A arcs.length cap).ownBlock) (ho : Va.ownsRow w.heap.size 46 4 (.slice A2 (arcs.length + m) cap2) (arcs.length + m) (flat arcV (arcs ++ news))) : BuA w gs gb cv M (arcs ++ news) w5 := by
  have el : (arcs ++ news).length = arcs.length + m := by simp [hm]
  rw [← el] at hV ho
  subst hV
  have s1 := hs.grown hg (blk_own_ne hs h.own (by decide))
  have b1 := h.b.grown hg (blk_own_ne h.b h.own (by decide))
  exact ⟨A2, cap2, h.push hg ho, s1.setCell_ne (fun e => blk_type_ne s1 b1 (by decide) e.symm) _⟩
set_option maxHeartbeats 8000000 in
set_option maxRecDepth 100000 in
theorem build_c (X1 X2 X3 X4 E : Option Addr) (S : Site) (cs : List Car) (n m cA cB cC cD cE : Nat) (w : World) (h0 : stE S cs = 0) (hn : n = S.lim.length) (hm : m = cs.length)
    (hA : n ≤ cA ∧ cA ≤ 9223372036854775807) (hB : n ≤ cB ∧ cB ≤ 9223372036854775807) (hC : n ≤ cC ∧ cC ≤ 9223372036854775807) (hD : n ≤ cD ∧ cD ≤ 9223372036854775807) (hE : m ≤ cE ∧ cE ≤ 9223372036854775807)
    (hS : SiteAt w X1 X2 X3 X4 S) (hcs : CarsAt w E cs) :
    Calls Try.prog 76 #[.agg #[.slice X1 n cA, .slice X2 n cB, .slice X3 n cC, .slice X4 n cD], .slice E m cE] w (R76 S cs w) := by
  have H0 := Lib.hid h0
  have HN := Lib.hid hn
  have HM := Lib.hid hm
  have HCS := Lib.hid hcs
  have hsh := (siteHead_iff.1 (stE_0 h0).2.1)
  have h48 : n ≤ 48 := by omega
  have h1n : 1 ≤ n := by omega
  have h8 : m ≤ 8 := by have := (stE_0 h0).1; omega
  obtain ⟨M, hM⟩ : ∃ M, M = nodesN S cs := ⟨_, rfl⟩
  have HMM := Lib.hid hM
  have hM2 : M ≤ 833 ∧ n + 1 ≤ M := by have := nodes_bd h0; omega
  have hMv : 1 + (n : Int) + 2 * (m : Int) * ((n : Int) + 1) = (M : Int) := by
    have e : (2 * (m : Int)) * ((n : Int) + 1) = ((2 * (m * (n + 1)) : Nat) : Int) := by
      rw [Int.mul_assoc, show (m : Int) * ((n : Int) + 1) = ((m * (n + 1) : Nat) : Int) from by rw [Int.natCast_mul]; rfl]; rfl
    rw [e, hM]; unfold nodesN nodeF; rw [← hn, ← hm]; omega
  have HSB := Lib.hid (fun t (ht : t < n) => slotOk_iff.1 ((stE_0 h0).2.2.1 t (by omega)))
  have HSV : Hid (∀ t, t < n → ∀ V, Below w.heap.size w V → (∃ a, X1 = some a ∧ V.cell? (a.add t) = some (.int .i64 (S.lim.getD t 0)) ∧ (a.add t).block < V.heap.size) ∧ (∃ a, X2 = some a ∧ V.cell? (a.add t) = some (.int .i64 (S.exp.getD t 0)) ∧ (a.add t).block < V.heap.size) ∧ (∃ a, X3 = some a ∧ V.cell? (a.add t) = some (.int .i64 (S.buy.getD t 0)) ∧ (a.add t).block < V.heap.size) ∧ (∃ a, X4 = some a ∧ V.cell? (a.add t) = some (.int .i64 (S.sell.getD t 0)) ∧ (a.add t).block < V.heap.size)) := Lib.hid (fun t ht V hV => by
    have h := hS.below hV (Nat.le_refl _)
    obtain ⟨a1, e1, l1, c1⟩ := h.1 t (by omega)
    obtain ⟨a2, e2, l2, c2⟩ := h.2.1 t (by omega)
    obtain ⟨a3, e3, l3, c3⟩ := h.2.2.1 t (by omega)
    obtain ⟨a4, e4, l4, c4⟩ := h.2.2.2 t (by omega)
    exact ⟨⟨a1, e1, c1, by rw [block_add]; exact l1⟩, ⟨a2, e2, c2, by rw [block_add]; exact l2⟩, ⟨a3, e3, c3, by rw [block_add]; exact l3⟩, ⟨a4, e4, c4, by rw [block_add]; exact l4⟩⟩)
  have hmk := make_64 M (by omega)
  have HSC : Hid (supC S cs M 0 = List.replicate M 0) := Lib.hid (by rw [hM]; exact supC_none S cs (nodes_bd h0).2)
  have HAR : Hid (limA S n ++ expA S n = carsA S cs 0) := Lib.hid (by rw [hn]; rfl)
  have HNF : Hid (nodeF n 0 0 = 1 + n) := Lib.hid (by unfold nodeF; omega)
  have HLL := Lib.hid (fun t => And.intro (limA_len S t) (expA_len S t))
  clear h0 hn hm hcs hsh hM hS
  have w1e : IntKind.i64.wrap (1 + (n : Int)) = 1 + (n : Int) := IntWalk.i64_in _ (by omega)
  have w2e : IntKind.i64.wrap (2 * (m : Int)) = 2 * (m : Int) := IntWalk.i64_in _ (by omega)
  have w3e : IntKind.i64.wrap ((n : Int) + 1) = (n : Int) + 1 := IntWalk.i64_in _ (by omega)
  obtain ⟨pr, hpr⟩ : ∃ pr, pr = 2 * (m : Int) * ((n : Int) + 1) := ⟨_, rfl⟩
  rw [← hpr] at hMv
  have w4e : IntKind.i64.wrap (2 * (m : Int) * ((n : Int) + 1)) = pr := by rw [← hpr]; exact IntWalk.i64_in _ (by omega)
  have w5e : IntKind.i64.wrap (1 + (n : Int) + pr) = (M : Int) := by rw [hMv]; exact IntWalk.i64_in _ (by omega)
  clear hpr hMv
  have HB := Lib.hid ((((Below.refl w.heap.size w).alloc (Nat.le_refl _) (.cells #[.slice X1 n cA, .slice X2 n cB, .slice X3 n cC, .slice X4 n cD] 51)).alloc (by simp) (.cells (Array.replicate M (.int .i64 0)) 2)).alloc (by simp; omega) (.cells #[.slice (some ⟨w.heap.size + 1, 0, none⟩) M M, .slice none 0 0, .slice none 0 0, .slice none 0 0] 125))
  have XS := Lib.hid (((Blk.new' w #[.slice X1 n cA, .slice X2 n cB, .slice X3 n cC, .slice X4 n cD] 51).alloc (.cells (Array.replicate M (.int .i64 0)) 2)).alloc (.cells #[.slice (some ⟨w.heap.size + 1, 0, none⟩) M M, .slice none 0 0, .slice none 0 0, .slice none 0 0] 125))
  have XF : Hid (Fl 2 (((w.alloc (.cells #[.slice X1 n cA, .slice X2 n cB, .slice X3 n cC, .slice X4 n cD] 51)).alloc (.cells (Array.replicate M (.int .i64 0)) 2)).alloc (.cells #[.slice (some ⟨w.heap.size + 1, 0, none⟩) M M, .slice none 0 0, .slice none 0 0, .slice none 0 0] 125)) (w.heap.size + 1) (List.replicate M 0)) := Lib.hid (by have := (fl_new 2 M (w.alloc (.cells #[.slice X1 n cA, .slice X2 n cB, .slice X3 n cC, .slice X4 n cD] 51))); have := Blk.alloc this (.cells #[.slice (some ⟨w.heap.size + 1, 0, none⟩) M M, .slice none 0 0, .slice none 0 0, .slice none 0 0] 125); unfold Fl; simpa using this)
  have XB : Hid (Blk (((w.alloc (.cells #[.slice X1 n cA, .slice X2 n cB, .slice X3 n cC, .slice X4 n cD] 51)).alloc (.cells (Array.replicate M (.int .i64 0)) 2)).alloc (.cells #[.slice (some ⟨w.heap.size + 1, 0, none⟩) M M, .slice none 0 0, .slice none 0 0, .slice none 0 0] 125)) (w.heap.size + 1 + 1) 125 [.slice (some ⟨w.heap.size + 1, 0, none⟩) M M, .slice none 0 0, .slice none 0 0, .slice none 0 0]) := Lib.hid (by have := Blk.new' ((w.alloc (.cells #[.slice X1 n cA, .slice X2 n cB, .slice X3 n cC, .slice X4 n cD] 51)).alloc (.cells (Array.replicate M (.int .i64 0)) 2)) #[.slice (some ⟨w.heap.size + 1, 0, none⟩) M M, .slice none 0 0, .slice none 0 0, .slice none 0 0] 125; simpa using this)
  go_enter Try.func76, Try.ntmps76
  go_upto_region 3 with fail
  (try simp only [World.size_alloc, Nat.add_assoc, Nat.reduceAdd])
  (try simp only [Nat.add_assoc, Nat.reduceAdd] at HB XS XF XB)
  generalize (((w.alloc (.cells #[.slice X1 n cA, .slice X2 n cB, .slice X3 n cC, .slice X4 n cD] 51)).alloc (.cells (Array.replicate M (.int .i64 0)) 2)).alloc (.cells #[.slice (some ⟨w.heap.size + 1, 0, none⟩) M M, .slice none 0 0, .slice none 0 0, .slice none 0 0] 125)) = w1 at HB XS XF XB ⊢
  have HJ0 : Hid (BuA w (w.heap.size + 1) (w.heap.size + 2) [.slice X1 n cA, .slice X2 n cB, .slice X3 n cC, .slice X4 n cD] M (limA S 0) w1) := Lib.hid ⟨none, 0, ⟨by rw [List.length_replicate]; exact XB.out, XF.out, World.ownsRow_nil _ _ _ _, World.ownsRow_nil _ _ _ _, World.ownsRow_nil _ _ _ _, (fun k h => by obtain ⟨_, e, _⟩ := h; cases e), ⟨by omega, by omega⟩, HB.out⟩, XS.out⟩
  clear HB XS XF XB
  generalize w.heap.size + 2 = gb at *
  generalize w.heap.size + 1 = gs at *
  go_wp2_with fail
  go_loopw [7, 36] (fun _ iv wr => ∃ t : Nat, t ≤ n ∧ iv = .int .i64 t ∧ Hid (BuA w gs gb [.slice X1 n cA, .slice X2 n cB, .slice X3 n cC, .slice X4 n cD] M (limA S t) wr)) (fun _ iv _ => n - (intOf iv).toNat)
  case atStart => exact ⟨0, Nat.zero_le _, rfl, HJ0⟩
  case round =>
    clear HJ0
    obtain ⟨t, ht, rfl, HJ⟩ := hrel
    by_cases hlt : t < n
    · have hti : (t : Int) < (n : Int) := by omega
      obtain ⟨A, cap, hj1, hj2⟩ := HJ.out
      have HBD := Lib.hid hj1
      have XS := Lib.hid hj2
      clear hj1 hj2 HJ
      obtain ⟨⟨a1, e1, l1, q1⟩, ⟨a2, e2, l2, q2⟩, ⟨a3, e3, l3, q3⟩, ⟨a4, e4, l4, q4⟩⟩ := HSV.out t hlt wr HBD.out.bel
      subst e1
      subst e2
      subst e3
      subst e4
      have hb := HSB.out t hlt
      have HLN := Lib.hid (HLL.out t)
      have HLN2 := Lib.hid (HLL.out n)
      have HNX : Hid ((limA S (t + 1)) = (limA S t) ++ [Dp.Arc.mk 0 (1 + (t : Int)) (S.lim.getD t 0) (S.buy.getD t 0)]) := Lib.hid (by rfl)
      generalize S.lim.getD t 0 = lm at *
      generalize S.exp.getD t 0 = ex at *
      generalize S.buy.getD t 0 = bu at *
      generalize S.sell.getD t 0 = se at *
      have t1e : IntKind.i64.wrap (1 + (t : Int)) = 1 + (t : Int) := IntWalk.i64_in _ (by omega)
      have sne : IntKind.i64.wrap (-se) = -se := IntWalk.i64_in _ (by omega)
      have s0 := XS.out.cell 0 rfl
      have s1 := XS.out.cell 1 rfl
      have s2 := XS.out.cell 2 rfl
      have s3 := XS.out.cell 3 rfl
      have sl := XS.out.lt
      go_upto_region 6 with fail
      refine wp_region_priv 15 [.q, .q, .q, .q, .q, .q, .q, .q, .q, .q, .q, .q, .q, .q, .p] (fun _ => (.cells #[.int .i64 0, .int .i64 (1 + (t : Int)), .int .i64 lm, .int .i64 bu] 46, fun b => .slice (some ⟨b, 0, none⟩) 1 1)) ?af6 (by kernel_rfl) (by kernel_rfl) ?walk6 ?tail6
      case walk6 =>
        intro V hV
        have XSV := XS.out.below hV XS.out.lt
        have s0 := XSV.cell 0 rfl
        have s1 := XSV.cell 1 rfl
        have s2 := XSV.cell 2 rfl
        have s3 := XSV.cell 3 rfl
        have sl := XSV.lt
        have l1 := (hV.cell q1).trans l1
        have q1 := Nat.lt_of_lt_of_le q1 hV.size
        have l2 := (hV.cell q2).trans l2
        have q2 := Nat.lt_of_lt_of_le q2 hV.size
        have l3 := (hV.cell q3).trans l3
        have q3 := Nat.lt_of_lt_of_le q3 hV.size
        have l4 := (hV.cell q4).trans l4
        have q4 := Nat.lt_of_lt_of_le q4 hV.size
        clear hV XSV
        simp only [List.take_succ_cons, List.take_zero]
        repeat (with_reducible refine wpP_q ?_; go_big_quiet_step (fail); with_reducible refine wpQuiet_nil ?_)
        refine wpP_p (by kernel_rfl) (fun _ => by kernel_rfl) ?_
        (try simp only [Act.put, List.setIfInBounds_toArray, List.set_cons_zero, List.set_cons_succ])
        with_reducible refine wpP_nil ?_
        rfl
      case tail6 =>
        intro gs1 w3 hb3 hgs _
        have HBD3 := Lib.hid (HBD.out.below hb3)
        have XS3 := Lib.hid (XS.out.below hb3 XS.out.lt)
        obtain ⟨_, hgb⟩ := hgs 14 rfl
        have GB : Hid (Blk w3 (gs1 14) 46 (flat arcV [Dp.Arc.mk 0 (1 + (t : Int)) lm bu])) := Lib.hid hgb
        clear hb3 hgs hgb HBD XS s0 s1 s2 s3 sl l1 l2 l3 l4 q1 q2 q3 q4
        simp only [List.drop_succ_cons, List.drop_zero, List.take_succ_cons, List.take_zero, fillP]
        (try simp only [Act.put, List.setIfInBounds_toArray, List.set_cons_zero, List.set_cons_succ])
        generalize gs1 14 = ga at *
        go_wp2_with fail
        refine (addG_c w3 gb ((limA S t)).length cap w.heap.size 1 1 A (some ⟨ga, 0, none⟩) _ _ _ (limA S t) [Dp.Arc.mk 0 (1 + (t : Int)) lm bu] rfl rfl (by rw [HLN.out.1]; omega) HBD3.out.b HBD3.out.own (.inr ⟨_, rfl, fun j u hj => by rw [add_row]; exact GB.out.cell j hj⟩) HBD3.out.bel.size).mono ?_
        rintro e w5 ⟨A2, cap2, Va, rfl, hV, hg, ho⟩
        have HE := Lib.hid (BuA.push HBD3.out XS3.out rfl hV hg ho)
        rw [← HNX.out] at HE
        clear hV hg ho HBD3 XS3 GB Va
        go_wp2_with fail
        exact ⟨⟨t + 1, by omega, by go_num, HE⟩, by simp [intOf]; omega⟩
    · obtain rfl : n = t := by omega
      have HJ0 : Hid (BuA w gs gb [.slice X1 n cA, .slice X2 n cB, .slice X3 n cC, .slice X4 n cD] M (limA S n ++ expA S 0) wr) := Lib.hid (by simpa [expA] using HJ.out)
      clear HJ
      go_wp2_with fail
      go_loopw [8, 57] (fun _ iv wr => ∃ t : Nat, t ≤ n ∧ iv = .int .i64 t ∧ Hid (BuA w gs gb [.slice X1 n cA, .slice X2 n cB, .slice X3 n cC, .slice X4 n cD] M (limA S n ++ expA S t) wr)) (fun _ iv _ => n - (intOf iv).toNat)
      case atStart => exact ⟨0, Nat.zero_le _, rfl, HJ0⟩
      case round =>
        clear HJ0
        obtain ⟨t, ht, rfl, HJ⟩ := hrel
        by_cases hlt : t < n
        · have hti : (t : Int) < (n : Int) := by omega
          obtain ⟨A, cap, hj1, hj2⟩ := HJ.out
          have HBD := Lib.hid hj1
          have XS := Lib.hid hj2
          clear hj1 hj2 HJ
          obtain ⟨⟨a1, e1, l1, q1⟩, ⟨a2, e2, l2, q2⟩, ⟨a3, e3, l3, q3⟩, ⟨a4, e4, l4, q4⟩⟩ := HSV.out t hlt wr HBD.out.bel
          subst e1
          subst e2
          subst e3
          subst e4
          have hb := HSB.out t hlt
          have HLN := Lib.hid (HLL.out t)
          have HLN2 := Lib.hid (HLL.out n)
          have HNX : Hid ((limA S n ++ expA S (t + 1)) = (limA S n ++ expA S t) ++ [Dp.Arc.mk (1 + (t : Int)) 0 (S.exp.getD t 0) (-(S.sell.getD t 0))]) := Lib.hid (by rw [List.append_assoc]; rfl)
          generalize S.lim.getD t 0 = lm at *
          generalize S.exp.getD t 0 = ex at *
          generalize S.buy.getD t 0 = bu at *
          generalize S.sell.getD t 0 = se at *
          have t1e : IntKind.i64.wrap (1 + (t : Int)) = 1 + (t : Int) := IntWalk.i64_in _ (by omega)
          have sne : IntKind.i64.wrap (-se) = -se := IntWalk.i64_in _ (by omega)
          have s0 := XS.out.cell 0 rfl
          have s1 := XS.out.cell 1 rfl
          have s2 := XS.out.cell 2 rfl
          have s3 := XS.out.cell 3 rfl
          have sl := XS.out.lt
          go_upto_region 11 with fail
          refine wp_region_priv 16 [.q, .q, .q, .q, .q, .q, .q, .q, .q, .q, .q, .q, .q, .q, .q, .p] (fun _ => (.cells #[.int .i64 (1 + (t : Int)), .int .i64 0, .int .i64 ex, .int .i64 (-se)] 46, fun b => .slice (some ⟨b, 0, none⟩) 1 1)) ?af11 (by kernel_rfl) (by kernel_rfl) ?walk11 ?tail11
          case walk11 =>
            intro V hV
            have XSV := XS.out.below hV XS.out.lt
            have s0 := XSV.cell 0 rfl
            have s1 := XSV.cell 1 rfl
            have s2 := XSV.cell 2 rfl
            have s3 := XSV.cell 3 rfl
            have sl := XSV.lt
            have l1 := (hV.cell q1).trans l1
            have q1 := Nat.lt_of_lt_of_le q1 hV.size
            have l2 := (hV.cell q2).trans l2
            have q2 := Nat.lt_of_lt_of_le q2 hV.size
            have l3 := (hV.cell q3).trans l3
            have q3 := Nat.lt_of_lt_of_le q3 hV.size
            have l4 := (hV.cell q4).trans l4
            have q4 := Nat.lt_of_lt_of_le q4 hV.size
            clear hV XSV
            simp only [List.take_succ_cons, List.take_zero]
            repeat (with_reducible refine wpP_q ?_; go_big_quiet_step (fail); with_reducible refine wpQuiet_nil ?_)
            refine wpP_p (by kernel_rfl) (fun _ => by kernel_rfl) ?_
            (try simp only [Act.put, List.setIfInBounds_toArray, List.set_cons_zero, List.set_cons_succ])
            with_reducible refine wpP_nil ?_
            rfl
          case tail11 =>
            intro gs1 w3 hb3 hgs _
            have HBD3 := Lib.hid (HBD.out.below hb3)
            have XS3 := Lib.hid (XS.out.below hb3 XS.out.lt)
            obtain ⟨_, hgb⟩ := hgs 15 rfl
            have GB : Hid (Blk w3 (gs1 15) 46 (flat arcV [Dp.Arc.mk (1 + (t : Int)) 0 ex (-se)])) := Lib.hid hgb
            clear hb3 hgs hgb HBD XS s0 s1 s2 s3 sl l1 l2 l3 l4 q1 q2 q3 q4
            simp only [List.drop_succ_cons, List.drop_zero, List.take_succ_cons, List.take_zero, fillP]
            (try simp only [Act.put, List.setIfInBounds_toArray, List.set_cons_zero, List.set_cons_succ])
            generalize gs1 15 = ga at *
            go_wp2_with fail
            refine (addG_c w3 gb ((limA S n ++ expA S t)).length cap w.heap.size 1 1 A (some ⟨ga, 0, none⟩) _ _ _ (limA S n ++ expA S t) [Dp.Arc.mk (1 + (t : Int)) 0 ex (-se)] rfl rfl (by rw [List.length_append, HLN2.out.1, HLN.out.2]; omega) HBD3.out.b HBD3.out.own (.inr ⟨_, rfl, fun j u hj => by rw [add_row]; exact GB.out.cell j hj⟩) HBD3.out.bel.size).mono ?_
            rintro e w5 ⟨A2, cap2, Va, rfl, hV, hg, ho⟩
            have HE := Lib.hid (BuA.push HBD3.out XS3.out rfl hV hg ho)
            rw [← HNX.out] at HE
            clear hV hg ho HBD3 XS3 GB Va
            go_wp2_with fail
            exact ⟨⟨t + 1, by omega, by go_num, HE⟩, by simp [intOf]; omega⟩
        · obtain rfl : n = t := by omega
          obtain ⟨A, cap, hj1, hj2⟩ := HJ.out
          have HE : Hid (BuiJ S cs w gs gb M 0 wr) := Lib.hid ⟨A, cap, none, none, 0, 0, [], [], by rw [HSC.out, ← HAR.out]; exact hj1, fun x hx => absurd hx (Nat.not_lt_zero _), fun x hx => absurd hx (Nat.not_lt_zero _)⟩
          clear HJ hj1 hj2
          have h1n2 : (1 : Int) + (n : Int) = ((nodeF n 0 0 : Nat) : Int) := by rw [HNF.out]; omega
          have HHN := Lib.hid h1n2
          clear h1n2
          go_wp2_with fail
          rw [HHN.out]
          rename_i KK hKK
          refine wp_codeP (c' := loop76) (by kernel_rfl) ?_
          refine bld4 S cs E n m cE gs gb M w wr H0.out HN.out HM.out HMM.out hE HCS.out HE.out ?_
          intro y0 y1 y2 y3 y4 y5 y7 y8 y9 y10 y11 y12 y13 y14 y15 y16 y17 y18 y19 y20 y21 y22 y23 y24 y25 y26 y27 y28 y29 y30 y31 y32 y33 y34 y35 y36 y37 y38 y39 y40 y41 y42 y43 y44 y45 y46 y47 y48 y49 y50 y51 y52 y53 y54 y55 y56 y57 y58 y59 y60 y61 y62 y63 y64 y65 y66 y67 y68 y69 y70 y71 y72 y73 y74 y75 y76 y77 y78 y79 y80 y81 y82 y83 y84 y85 y86 y87 y88 y89 y90 y91 y92 y93 y94 y95 y96 y97 y98 y99 y100 y101 y102 y103 y104 y105 y106 y107 y108 y109 y110 y111 y112 y113 y114 y115 y116 y117 y118 y119 y120 y121 y122 y123 y124 y125 y126 y127 y128 y129 y130 y131 y132 y133 y134 y135 y136 y137 y138 y139 y140 y141 y142 y143 y144 y145 y146 y147 y148 y149 y150 y151 y152 y153 y154 y155 y156 y157 y158 y159 y160 y161 y162 y163 y164 y165 y166 y167 y168 y169 y170 y171 y172 y173 y174 y175 y176 y177 y178 y179 y180 y181 y182 y183 y184 y185 y186 y187 y188 y189 y190 y191 y192 y193 y194 y195 y196 y197 y198 y199 y200 y201 y202 y203 y204 y205 y206 y207 y208 y209 y210 y211 y212 y213 y214 y215 y216 y217 y218 y219 y220 y221 y222 y223 y224 y225 y226 y227 y228 y229 y230 y231 y232 y233 y234 y235 y236 y237 y238 y239 y240 y241 y242 y243 y244 y245 y246 y247 y248 y249 y250 y251 y252 w' h
          exact hKK _ _ (wp_codeP (by kernel_rfl) (bld8 S cs gs gb M w w' H0.out HMM.out (by rw [← HM.out]; exact h)))
end Go.Proofs.Ytmebpglkeedaoaa
namespace Go.Proofs.Ytmebpglkeedaoaa
open Go.RowKit Dp
set_option maxHeartbeats 4000000 in
set_option maxRecDepth 100000 in
theorem table_c (AI AO F : Option Addr) (LI LO : List (List Int)) (fl : List Int) (m ci co n nf cf b : Nat) (v0 v1 : Value) (w : World) (hm : m = LI.length) (hmo : m = LO.length) (hm8 : m ≤ 64) (hn : n ≤ 64) (hci : m ≤ ci ∧ ci ≤ 9223372036854775807) (hco : m ≤ co ∧ co ≤ 9223372036854775807) (hLI : RowsAt w AI LI) (hLO : RowsAt w AO LO) (hrI : ∀ i, i < m → (LI.getD i []).length = n) (hrO : ∀ i, i < m → (LO.getD i []).length = n)
    (hb : Blk w b 125 [v0, v1, .slice AI m ci, .slice AO m co]) (hnf : nf = fl.length) (hnf2 : nf ≤ 4096) (hcf : nf ≤ cf ∧ cf ≤ 9223372036854775807) (hF : IntsAt w F fl) (hxI : ∀ i k, i < m → k < n → (LI.getD i []).getD k 0 < fl.length) (hxO : ∀ i k, i < m → k < n → (LO.getD i []).getD k 0 < fl.length) :
    Calls Try.prog 91 #[.pointer (some ⟨b, 0, none⟩), .slice F nf cf] w fun e w' => ∃ g1 g2 gI gO, e = .returned (.agg #[.slice (some ⟨g1, 0, none⟩) m m, .slice (some ⟨g2, 0, none⟩) m m]) ∧ RwJ n m g1 gI (fun i => rowK (fun k => rdF fl ((LI.getD i []).getD k 0)) n n) w' ∧ RwJ n m g2 gO (fun i => rowK (fun k => rdF fl ((LO.getD i []).getD k 0)) n n) w' ∧ Below w.heap.size w w' := by
  obtain ⟨RI, hRI⟩ : ∃ R : Nat → List Int, R = fun i => rowK (fun k => rdF fl ((LI.getD i []).getD k 0)) n n := ⟨_, rfl⟩
  obtain ⟨RO, hRO⟩ : ∃ R : Nat → List Int, R = fun i => rowK (fun k => rdF fl ((LO.getD i []).getD k 0)) n n := ⟨_, rfl⟩
  have HB1 := Lib.hid (((Below.refl w.heap.size w).alloc (Nat.le_refl _) (.cells #[.slice F nf cf] 22)).alloc (by simp) (.cells #[.slice none 0 0, .slice none 0 0] 55))
  have XF := Lib.hid ((Blk.new' w #[.slice F nf cf] 22).alloc (.cells #[.slice none 0 0, .slice none 0 0] 55))
  have XR := Lib.hid (show Blk ((w.alloc (.cells #[.slice F nf cf] 22)).alloc (.cells #[.slice none 0 0, .slice none 0 0] 55)) (w.heap.size + 1) 55 [.slice none 0 0, .slice none 0 0] from by simpa using Blk.new' (w.alloc (.cells #[.slice F nf cf] 22)) #[.slice none 0 0, .slice none 0 0] 55)
  have FR : Hid (∀ W1, Below w.heap.size w W1 → Blk W1 w.heap.size 22 [.slice F nf cf] → (∀ V, Below W1.heap.size W1 V → Calls Try.prog 110 #[.slice AI m ci, .pointer (some ⟨w.heap.size, 0, none⟩)] V (fun e w' => ∃ g gI, e = .returned (.slice (some ⟨g, 0, none⟩) m m) ∧ RwJ n m g gI RI w' ∧ Below V.heap.size V w' ∧ V.heap.size ≤ g ∧ ∀ i, i < m → V.heap.size ≤ gI i)) ∧ ∀ V, Below W1.heap.size W1 V → Calls Try.prog 110 #[.slice AO m co, .pointer (some ⟨w.heap.size, 0, none⟩)] V (fun e w' => ∃ g gI, e = .returned (.slice (some ⟨g, 0, none⟩) m m) ∧ RwJ n m g gI RO w' ∧ Below V.heap.size V w' ∧ V.heap.size ≤ g ∧ ∀ i, i < m → V.heap.size ≤ gI i)) := Lib.hid (fun W1 h1 h2 => by
    refine ⟨fun V hV => ?_, fun V hV => ?_⟩
    · have hw := h1.trans (hV.mono h1.size)
      have hx := h2.below hV h2.lt
      rw [hRI]
      exact read_c AI F LI fl m ci n nf cf w.heap.size V hm hm8 hn hci (hLI.below hw (Nat.le_refl _)) hrI (hx.cell 0 rfl) hx.lt hnf hnf2 hcf (hF.below hw (Nat.le_refl _)) hxI
    · have hw := h1.trans (hV.mono h1.size)
      have hx := h2.below hV h2.lt
      rw [hRO]
      exact read_c AO F LO fl m co n nf cf w.heap.size V hmo hm8 hn hco (hLO.below hw (Nat.le_refl _)) hrO (hx.cell 0 rfl) hx.lt hnf hnf2 hcf (hF.below hw (Nat.le_refl _)) hxO)
  have HX := Lib.hid hb
  rw [← hRI, ← hRO]
  clear hRI hRO hm hmo hLI hLO hrI hrO hb hnf hF hxI hxO
  go_enter Try.func91, Try.ntmps91
  go_upto_region 2 with fail
  generalize (w.alloc (.cells #[.slice F nf cf] 22)).alloc (.cells #[.slice none 0 0, .slice none 0 0] 55) = w1 at HB1 XF XR ⊢
  have FI := Lib.hid (FR.out w1 HB1.out XF.out).1
  have FO := Lib.hid (FR.out w1 HB1.out XF.out).2
  have RD : Hid (∀ W, Below w1.heap.size w1 W → (W.cell? ⟨b, 2, none⟩ = some (.slice AI m ci) ∧ W.cell? ⟨b, 3, none⟩ = some (.slice AO m co)) ∧ Blk W (w.heap.size + 1) 55 [.slice none 0 0, .slice none 0 0] ∧ Below w.heap.size w W) := Lib.hid (fun W h => by
    have hb := HB1.out.trans (h.mono HB1.out.size)
    have hx := HX.out.below hb HX.out.lt
    exact ⟨⟨hx.cell 2 rfl, hx.cell 3 rfl⟩, XR.out.below h XR.out.lt, hb⟩)
  have HS := Lib.hid XR.out.lt
  have HT := Lib.hid (Below.refl w1.heap.size w1).drew
  clear FR
  refine lBegin (S := fun L W => (True) ∧ (L.getD 13 false = true ∨ (W.cell? ⟨b, 2, none⟩ = some (.slice AI m ci) ∧ W.cell? ⟨b, 3, none⟩ = some (.slice AO m co)))) (by kernel_rfl) ?_ (fun hHeld => ?_)
  · (try dsimp only); refine ⟨?_, Or.inr ?_⟩
    · (first | trivial | with_reducible assumption)
    · (first | with_reducible exact (RD.out _ HT.out).1 | with_reducible assumption)
  refine lTake (i := 0) (v := ?_) rfl (by kernel_rfl) (by kernel_rfl) (by kernel_rfl) (fun _ _ _ h => h) (by rfl) (fun _ _ h => by simpa only [getD_set_ne false (show 0 ≠ 13 by decide)] using h) (fun _ _ h => by simpa only [getD_set_ne false (show 0 ≠ 13 by decide)] using h) ?_ (by assumption) (fun hHeld2 => ?_)
  rotate_left 1
  · (intro _ _ _ _ _; first | (go_simp; done) | (go_simp; with_reducible rfl))
  clear hHeld; have hHeld := hHeld2; clear hHeld2
  (try simp only [Act.put, List.setIfInBounds_toArray, List.set_cons_zero, List.set_cons_succ])
  refine lTake (i := 1) (v := ?_) rfl (by kernel_rfl) (by kernel_rfl) (by kernel_rfl) (fun _ _ _ h => h) (by rfl) (fun _ _ h => by simpa only [getD_set_ne false (show 1 ≠ 13 by decide)] using h) (fun _ _ h => by simpa only [getD_set_ne false (show 1 ≠ 13 by decide)] using h) ?_ (by assumption) (fun hHeld2 => ?_)
  rotate_left 1
  · (intro _ _ _ _ _; first | (go_simp; done) | (go_simp; with_reducible rfl))
  clear hHeld; have hHeld := hHeld2; clear hHeld2
  (try simp only [Act.put, List.setIfInBounds_toArray, List.set_cons_zero, List.set_cons_succ])
  refine lTake (i := 2) (v := ?_) rfl (by kernel_rfl) (by kernel_rfl) (by kernel_rfl) (fun _ _ _ h => h) (by rfl) (fun _ _ h => by simpa only [getD_set_ne false (show 2 ≠ 13 by decide)] using h) (fun _ _ h => by simpa only [getD_set_ne false (show 2 ≠ 13 by decide)] using h) ?_ (by assumption) (fun hHeld2 => ?_)
  rotate_left 1
  · (intro _ _ _ _ _; first | (go_simp; done) | (go_simp; with_reducible rfl))
  clear hHeld; have hHeld := hHeld2; clear hHeld2
  (try simp only [Act.put, List.setIfInBounds_toArray, List.set_cons_zero, List.set_cons_succ])
  refine lTake (i := 3) (v := ?_) rfl (by kernel_rfl) (by kernel_rfl) (by kernel_rfl) (fun _ _ _ h => h) (by rfl) (fun _ _ h => by simpa only [getD_set_ne false (show 3 ≠ 13 by decide)] using h) (fun _ _ h => by simpa only [getD_set_ne false (show 3 ≠ 13 by decide)] using h) ?_ (by assumption) (fun hHeld2 => ?_)
  rotate_left 1
  · (intro _ _ _ _ _; first | (go_simp; done) | (go_simp; with_reducible rfl))
  clear hHeld; have hHeld := hHeld2; clear hHeld2
  (try simp only [Act.put, List.setIfInBounds_toArray, List.set_cons_zero, List.set_cons_succ])
  refine lTake (i := 4) (v := ?_) rfl (by kernel_rfl) (by kernel_rfl) (by kernel_rfl) (fun _ _ _ h => h) (by rfl) (fun _ _ h => by simpa only [getD_set_ne false (show 4 ≠ 13 by decide)] using h) (fun _ _ h => by simpa only [getD_set_ne false (show 4 ≠ 13 by decide)] using h) ?_ (by assumption) (fun hHeld2 => ?_)
  rotate_left 1
  · (intro L W hL hK hSw; (try dsimp only at hSw); obtain ⟨h0, h1⟩ := hSw; replace h1 := still [] hK hL (by kernel_rfl) h1; clear hL hK; first | (go_simp; done) | (go_simp; with_reducible rfl))
  clear hHeld; have hHeld := hHeld2; clear hHeld2
  (try simp only [Act.put, List.setIfInBounds_toArray, List.set_cons_zero, List.set_cons_succ])
  refine lTake (i := 6) (v := ?_) rfl (by kernel_rfl) (by kernel_rfl) (by kernel_rfl) (fun _ _ _ h => h) (by rfl) (fun _ _ h => by simpa only [getD_set_ne false (show 6 ≠ 13 by decide)] using h) (fun _ _ h => by simpa only [getD_set_ne false (show 6 ≠ 13 by decide)] using h) ?_ (by assumption) (fun hHeld2 => ?_)
  rotate_left 1
  · (intro _ _ _ _ _; first | (go_simp; done) | (go_simp; with_reducible rfl))
  clear hHeld; have hHeld := hHeld2; clear hHeld2
  (try simp only [Act.put, List.setIfInBounds_toArray, List.set_cons_zero, List.set_cons_succ])
  refine lTake (i := 7) (v := ?_) rfl (by kernel_rfl) (by kernel_rfl) (by kernel_rfl) (fun _ _ _ h => h) (by rfl) (fun _ _ h => by simpa only [getD_set_ne false (show 7 ≠ 13 by decide)] using h) (fun _ _ h => by simpa only [getD_set_ne false (show 7 ≠ 13 by decide)] using h) ?_ (by assumption) (fun hHeld2 => ?_)
  rotate_left 1
  · (intro _ _ _ _ _; first | (go_simp; done) | (go_simp; with_reducible rfl))
  clear hHeld; have hHeld := hHeld2; clear hHeld2
  (try simp only [Act.put, List.setIfInBounds_toArray, List.set_cons_zero, List.set_cons_succ])
  refine lTake (i := 8) (v := ?_) rfl (by kernel_rfl) (by kernel_rfl) (by kernel_rfl) (fun _ _ _ h => h) (by rfl) (fun _ _ h => by simpa only [getD_set_ne false (show 8 ≠ 13 by decide)] using h) (fun _ _ h => by simpa only [getD_set_ne false (show 8 ≠ 13 by decide)] using h) ?_ (by assumption) (fun hHeld2 => ?_)
  rotate_left 1
  · (intro _ _ _ _ _; first | (go_simp; done) | (go_simp; with_reducible rfl))
  clear hHeld; have hHeld := hHeld2; clear hHeld2
  (try simp only [Act.put, List.setIfInBounds_toArray, List.set_cons_zero, List.set_cons_succ])
  refine lTake (i := 9) (v := ?_) rfl (by kernel_rfl) (by kernel_rfl) (by kernel_rfl) (fun _ _ _ h => h) (by rfl) (fun _ _ h => by simpa only [getD_set_ne false (show 9 ≠ 13 by decide)] using h) (fun _ _ h => by simpa only [getD_set_ne false (show 9 ≠ 13 by decide)] using h) ?_ (by assumption) (fun hHeld2 => ?_)
  rotate_left 1
  · (intro _ _ _ _ _; first | (go_simp; done) | (go_simp; with_reducible rfl))
  clear hHeld; have hHeld := hHeld2; clear hHeld2
  (try simp only [Act.put, List.setIfInBounds_toArray, List.set_cons_zero, List.set_cons_succ])
  refine lTake (i := 10) (v := ?_) rfl (by kernel_rfl) (by kernel_rfl) (by kernel_rfl) (fun _ _ _ h => h) (by rfl) (fun _ _ h => by simpa only [getD_set_ne false (show 10 ≠ 13 by decide)] using h) (fun _ _ h => by simpa only [getD_set_ne false (show 10 ≠ 13 by decide)] using h) ?_ (by assumption) (fun hHeld2 => ?_)
  rotate_left 1
  · (intro L W hL hK hSw; (try dsimp only at hSw); obtain ⟨h0, h1⟩ := hSw; replace h1 := still [] hK hL (by kernel_rfl) h1; clear hL hK; first | (go_simp; done) | (go_simp; with_reducible rfl))
  clear hHeld; have hHeld := hHeld2; clear hHeld2
  (try simp only [Act.put, List.setIfInBounds_toArray, List.set_cons_zero, List.set_cons_succ])
  refine lReady (rs := [5]) (by kernel_rfl) (by simp) ?_
  refine AllL.cons (i := 5) rfl (fun K hK => ?_) ?_
  · go_simp; refine (FI.out _ HT.out).mono ?_; rintro e w5 ⟨g1, gI, rfl, hr5, hb5, hg5, hi5⟩; (try have H2 := Lib.hid (RwJ.below H2.out hb5)); have H1 := Lib.hid hr5; have G1 := Lib.hid (Nat.le_trans HT.out.size hg5); have I1 := Lib.hid (fun i (h : i < m) => Nat.le_trans HT.out.size (hi5 i h)); have HT := Lib.hid (HT.out.trans (hb5.mono HT.out.size)); clear hr5 hb5 hg5 hi5
    (try go_wp2_with fail)
    refine hK.out _ _ ?_ (fun hHeld2 => ?_)
    · (try dsimp only); refine ⟨?_, Or.inr ?_⟩
      · (first | trivial | with_reducible assumption)
      · (first | with_reducible exact (RD.out _ HT.out).1 | with_reducible assumption)
    clear hK K
    clear hHeld; have hHeld := hHeld2; clear hHeld2
    (try simp only [Act.put, List.setIfInBounds_toArray, List.set_cons_zero, List.set_cons_succ])
    refine lReady (rs := [11]) (by kernel_rfl) (by simp) ?_
    refine AllL.cons (i := 11) rfl (fun K hK => ?_) ?_
    · go_simp; refine (FO.out _ HT.out).mono ?_; rintro e w6 ⟨g2, gO, rfl, hr5, hb5, hg5, hi5⟩; (try have H1 := Lib.hid (RwJ.below H1.out hb5)); have H2 := Lib.hid hr5; have G2 := Lib.hid (Nat.le_trans HT.out.size hg5); have I2 := Lib.hid (fun i (h : i < m) => Nat.le_trans HT.out.size (hi5 i h)); have HT := Lib.hid (HT.out.trans (hb5.mono HT.out.size)); clear hr5 hb5 hg5 hi5
      (try go_wp2_with fail)
      refine hK.out _ _ ?_ (fun hHeld2 => ?_)
      · (try dsimp only); refine ⟨?_, Or.inr ?_⟩
        · (first | trivial | with_reducible assumption)
        · (first | with_reducible exact (RD.out _ HT.out).1 | with_reducible assumption)
      clear hK K
      clear hHeld; have hHeld := hHeld2; clear hHeld2
      (try simp only [Act.put, List.setIfInBounds_toArray, List.set_cons_zero, List.set_cons_succ])
      refine lTake (i := 12) (v := ?_) rfl (by kernel_rfl) (by kernel_rfl) (by kernel_rfl) (fun _ _ _ h => h) (by rfl) (fun _ _ h => by simpa only [getD_set_ne false (show 12 ≠ 13 by decide)] using h) (fun _ _ h => by simpa only [getD_set_ne false (show 12 ≠ 13 by decide)] using h) ?_ (by assumption) (fun hHeld2 => ?_)
      rotate_left 1
      · (intro _ _ _ _ _; first | (go_simp; done) | (go_simp; with_reducible rfl))
      clear hHeld; have hHeld := hHeld2; clear hHeld2
      (try simp only [Act.put, List.setIfInBounds_toArray, List.set_cons_zero, List.set_cons_succ])
      refine lReady (rs := [13]) (by kernel_rfl) (by simp) ?_
      refine AllL.cons (i := 13) rfl (fun K hK => ?_) ?_
      · (have XR2 := (RD.out _ HT.out).2.1; have q0 := XR2.cell 0 rfl; have q1 := XR2.cell 1 rfl; have z0 := XR2.free 0; have z1 := XR2.free 1; have zl := XR2.lt; have HE1 := Lib.hid ((XR2.setCell 0 (.slice (some ⟨g1, 0, none⟩) m m)).setCell 1 (.slice (some ⟨g2, 0, none⟩) m m)); have HE2 := Lib.hid ((H1.out.other (p := ⟨w.heap.size + 1, 0, none⟩) (by have := G1.out; have := HS.out; simp only; omega) (fun i h => by have := I1.out i h; have := HS.out; simp only; omega) (.slice (some ⟨g1, 0, none⟩) m m)).other (p := ⟨w.heap.size + 1, 1, none⟩) (by have := G1.out; have := HS.out; simp only; omega) (fun i h => by have := I1.out i h; have := HS.out; simp only; omega) (.slice (some ⟨g2, 0, none⟩) m m)); have HE3 := Lib.hid ((H2.out.other (p := ⟨w.heap.size + 1, 0, none⟩) (by have := G2.out; have := HS.out; simp only; omega) (fun i h => by have := I2.out i h; have := HS.out; simp only; omega) (.slice (some ⟨g1, 0, none⟩) m m)).other (p := ⟨w.heap.size + 1, 1, none⟩) (by have := G2.out; have := HS.out; simp only; omega) (fun i h => by have := I2.out i h; have := HS.out; simp only; omega) (.slice (some ⟨g2, 0, none⟩) m m)); have HE4 := Lib.hid (((RD.out _ HT.out).2.2.setCell (p := ⟨w.heap.size + 1, 0, none⟩) (by simp) (.slice (some ⟨g1, 0, none⟩) m m)).setCell (p := ⟨w.heap.size + 1, 1, none⟩) (by simp) (.slice (some ⟨g2, 0, none⟩) m m)); go_simp)
        (try go_wp2_with fail)
        refine hK.out _ _ ?_ (fun hHeld2 => ?_)
        · (try dsimp only); refine ⟨?_, Or.inl (by rfl)⟩
          · (first | trivial | with_reducible assumption)
        clear hK K
        clear hHeld; have hHeld := hHeld2; clear hHeld2
        (try simp only [Act.put, List.setIfInBounds_toArray, List.set_cons_zero, List.set_cons_succ])
        refine lDone (by kernel_rfl) ?_ _
        clear hHeld
        go_wp2_with fail
        have q0 := HE1.out.cell 0 rfl
        have q1 := HE1.out.cell 1 rfl
        exact bodyPost_ret (v := .agg #[.slice (some ⟨g1, 0, none⟩) m m, .slice (some ⟨g2, 0, none⟩) m m]) (by simp [results, Try.results91, go_sem, q0, q1]) rfl ⟨g1, g2, gI, gO, rfl, HE2.out, HE3.out, HE4.out⟩
      exact AllL.nil
    exact AllL.nil
  exact AllL.nil
end Go.Proofs.Ytmebpglkeedaoaa
namespace Go.Proofs.Ytmebpglkeedaoaa
namespace Dp
structure Best (S : Site) (cs : List Car) (T : Tab) (p : List Int) : Prop where
  ok : plE S cs T = 0
  le : ∀ U, plE S cs U = 0 → prc S T cs.length S.lim.length ≤ prc S U cs.length S.lim.length
  pe : prE (netN S cs) p = 0
  pv : prV (netN S cs) p = prc S T cs.length S.lim.length
theorem plan_good {S : Site} {cs : List Car} {fl p : List Int} (h : stE S cs = 0) (hf : isFlow (netN S cs) fl = true) (hl : p.length = (netN S cs).sup.length) (hb : ∀ v, v < p.length → potOk (p.getD v 0) = true) (he : costK (netN S cs) fl (netN S cs).arcs.length = prA (netN S cs) p (netN S cs).arcs.length) : Best S cs (tbF S cs fl) p := by
  have hk := flow_keeps h hf
  have hp := flow_price h hf
  have hn := net_ok h
  have hy := pr_yes hn hl hb
  have hle : ∀ U, plE S cs U = 0 → costK (netN S cs) fl (netN S cs).arcs.length ≤ prc S U cs.length S.lim.length := fun U hU => by
    have h1 := keeps_flow (plE_0 hU)
    have h2 := weak (ps := p) hn h1.1
    rw [he]
    have h3 := h1.2
    have e : (netN S cs).arcs.length = (carsA S cs cs.length).length := rfl
    rw [e] at h2 ⊢
    omega
  refine ⟨hk, fun U hU => ?_, hy.1, ?_⟩
  · have := hle U hU
    have e : (netN S cs).arcs.length = (carsA S cs cs.length).length := rfl
    rw [e] at this
    omega
  · have := hle _ hk
    rw [hy.2, ← he]
    have e : (netN S cs).arcs.length = (carsA S cs cs.length).length := rfl
    rw [e] at this ⊢
    omega
theorem plan_none {S : Site} {cs : List Car} (h : ∀ fl, isFlow (netN S cs) fl = false) (T : Tab) : plE S cs T ≠ 0 := fun hT => by
  have := (keeps_flow (plE_0 hT)).1
  rw [h] at this
  cases this
theorem rd_row {S : Site} {cs : List Car} {fl : List Int} {i : Nat} {f : Nat → Int} (R : List Int) (hR : R = rowK f S.lim.length S.lim.length) : rowK (fun k => rdF fl (R.getD k 0)) S.lim.length S.lim.length = R.map (rdF fl) := by
  subst hR
  unfold rowK
  rw [List.map_map]
  refine List.map_congr_left (fun k hk => ?_)
  have hk : k < S.lim.length := by simpa using hk
  simp [hk, List.getD_eq_getElem?_getD]
theorem ix_in {S : Site} {cs : List Car} {i k : Nat} (hi : i < cs.length) (hk : k < S.lim.length) : inX S cs i k < (carsA S cs cs.length).length ∧ outX S cs i k < (carsA S cs cs.length).length := by
  obtain ⟨r, hr⟩ := slot_pre (S := S) hi hk
  unfold inX outX
  by_cases ha : awayC (cs.getD i default) k = true
  · rw [if_pos ha, if_pos ha]; omega
  · rw [if_neg ha, if_neg ha, hr]
    have : (slA (cs.getD i default) (nodeF S.lim.length i k) k).length = 4 := by unfold slA; rw [if_neg ha]; rfl
    rw [List.length_append, List.length_append, this]
    omega
end Dp
end Go.Proofs.Ytmebpglkeedaoaa
namespace Go.Proofs.Ytmebpglkeedaoaa
open Go.RowKit Dp
theorem add_add' (a : Addr) (m k : Nat) : (a.add m).add k = a.add (m + k) := by
  unfold Addr.add
  split <;> split <;> (try split) <;> simp_all [Nat.add_assoc]
set_option maxHeartbeats 1000000 in
set_option maxRecDepth 100000 in
theorem cloneA_some (ad : Addr) (l : List Arc) (n cap : Nat) (w : World) (hn : n = l.length) (h2 : n ≤ 4096) (hA : ArcsAt w (some ad) l) :
    Calls Try.prog 70 #[.slice (some ad) n cap] w fun e w' => ∃ A c, e = .returned (.slice A n c) ∧ Below w.heap.size w w' ∧ w'.ownsRow w.heap.size 46 4 (.slice A n c) n (flat arcV l) := by
  have HA := Lib.hid hA
  have HN := Lib.hid hn
  have hsrc : SrcRow (w.alloc (.cells #[] 46)) (some ad) n (flat arcV l) := .inr ⟨ad, rfl, fun j u hu => by
    have hj : j < l.length * 4 := by
      rcases Nat.lt_or_ge j (l.length * 4) with h | h
      · exact h
      · rw [List.getElem?_eq_none (by rw [flat_length (s := 4) (fun _ => rfl)]; exact h)] at hu; cases hu
    have hq : j / 4 < l.length := by omega
    obtain ⟨ad', e, hb, c0, c1, c2, c3⟩ := HA.out (j / 4) hq
    cases e
    have e1 := flat_get (f := arcV) (s := 4) (fun _ => rfl) l (j / 4) (j % 4) _ (getElem_D _ _ default hq) (by omega)
    rw [show j / 4 * 4 + j % 4 = j by omega, hu] at e1
    have hadd : ad.add j = (ad.add (j / 4 * 4)).add (j % 4) := by rw [add_add', show j / 4 * 4 + j % 4 = j by omega]
    refine (((Below.refl w.heap.size w).alloc (Nat.le_refl _) (.cells #[] 46)).cell (by rw [block_add]; exact hb)).trans ?_
    rw [hadd]
    have h4 : j % 4 = 0 ∨ j % 4 = 1 ∨ j % 4 = 2 ∨ j % 4 = 3 := by omega
    rcases h4 with h | h | h | h <;> rw [h] at e1 ⊢ <;> simp [arcV] at e1 <;> subst e1
    · rw [add_zero']; exact c0
    · exact c1
    · exact c2
    · exact c3⟩
  have HS := Lib.hid hsrc
  have FL := Lib.hid (flat_length (f := arcV) (s := 4) (fun _ => rfl) l)
  clear hsrc hA hn
  obtain ⟨i0, hi, hz0, hz1, hz2⟩ := info_parts info46
  have qT : ∀ w : World, (binOp .eql 23 (.slice (some ad) n cap) (.slice none 0 0)).run Try.prog w = .ok (.bool false) w := fun w => Lib.run_eql_slice_nil w 23 46 (some ad) n cap 0 0 Try.underlying23
  go_enter Try.func70, Try.ntmps70
  go_wp2_with (at_builtin; refine wpList_append_any (.tmp 5) (.tmp 6) 23 rfl rfl w.heap.size 46 i0 (.agg #[.int .i64 0, .int .i64 0, .int .i64 0, .int .i64 0]) 4 32 Try.underlying23 hi hz0 hz1 hz2 rfl (by decide) (some ⟨w.heap.size, 0, none⟩) 0 0 [] (by rfl) (World.ownsRow_lit w #[] 0 (Nat.le_refl _) (Nat.zero_le _) rfl) (some ad) n cap (flat arcV l) (by rfl) (by rw [FL.out, HN.out]) HS.out (by intro u hu; obtain ⟨a, _, ha⟩ := List.mem_flatMap.1 hu; simp [arcV] at ha; rcases ha with rfl | rfl | rfl | rfl <;> rfl) (by unfold maxLen; omega) (by omega) (by simp) ?_; intro A3 c3 w2 hown2 hgrow2 hat2; have HO2 := Lib.hid hown2; have HG2 := Lib.hid hgrow2; clear hown2 hgrow2 hat2)
  have BB : Hid (Below w.heap.size w w2) := Lib.hid (((Below.refl w.heap.size w).alloc (Nat.le_refl _) (.cells #[] 46)).grown HG2.out (by simp) (fun k hk => by cases hk; exact Nat.le_refl _))
  have OO : Hid (w2.ownsRow w.heap.size 46 4 (.slice A3 n c3) n (flat arcV l)) := Lib.hid (by simpa using HO2.out)
  go_ret
  exact ⟨A3, c3, rfl, BB.out, OO.out⟩
set_option maxRecDepth 100000 in
theorem cloneA_c (A0 : Option Addr) (l : List Arc) (n cap : Nat) (w : World) (hn : n = l.length) (h2 : n ≤ 4096) (hA : ArcsAt w A0 l) :
    Calls Try.prog 70 #[.slice A0 n cap] w fun e w' => ∃ A c, e = .returned (.slice A n c) ∧ Below w.heap.size w w' ∧ w'.ownsRow w.heap.size 46 4 (.slice A n c) n (flat arcV l) := by
  cases A0 with
  | some ad => exact cloneA_some ad l n cap w hn h2 hA
  | none =>
    have hl : l = [] := by
      cases l with
      | nil => rfl
      | cons a t => obtain ⟨ad, h, _⟩ := hA 0 (by simp); cases h
    subst hl
    simp only [List.length_nil] at hn
    subst hn
    clear hA h2
    have qT : ∀ w : World, (binOp .eql 23 (.slice none 0 cap) (.slice none 0 0)).run Try.prog w = .ok (.bool true) w := fun w => Lib.run_eql_slice_nil w 23 46 none 0 cap 0 0 Try.underlying23
    go_enter Try.func70, Try.ntmps70
    go_wp2_with fail
    exact bodyPost_ret (v := .slice none 0 0) (by simp [results, Try.results70, go_sem]) rfl ⟨none, 0, rfl, Below.refl _ _, World.ownsRow_nil _ _ _ _⟩
end Go.Proofs.Ytmebpglkeedaoaa
namespace Go.Proofs.Ytmebpglkeedaoaa
namespace Dp
def noC (a : Arc) : Arc := ⟨a.fr, a.to, a.cap, 0⟩
def zcN (N : Net) : Net := ⟨N.sup, N.arcs.map noC⟩
theorem fr_get {N : Net} {j : Nat} (hj : j < N.arcs.length) : (zcN N).arcs.getD j default = noC (N.arcs.getD j default) := by
  simp [zcN, List.getD_eq_getElem?_getD, hj]
theorem fr_len (N : Net) : (zcN N).arcs.length = N.arcs.length := by simp [zcN]
theorem fr_ch {N : Net} (h : chE N = 0) : chE (zcN N) = 0 := by
  have h2 := chE_zero h
  have h3 : manyB (zcN N) = manyB N := by simp [manyB, zcN]
  have h4 : okB (zcN N) = true := by
    have h5 := h2.2
    simp only [okB, Bool.and_eq_true, List.all_eq_true, zcN, List.mem_map] at h5 ⊢
    refine ⟨h5.1, fun a ⟨b, hb, e⟩ => ?_, h5.2.2⟩
    have := h5.2.1 b hb
    subst e
    have t := of_decide_eq_true this
    exact decide_eq_true ⟨t.1, t.2.1, t.2.2.1, t.2.2.2.1, by show (-1048576 : Int) ≤ 0 ∧ (0 : Int) ≤ 1048576; omega⟩
  have h5 : manyB N = false := h2.1
  simp only [chE, h3, h5, h4, if_true]
  rfl
theorem fr_lkA {N : Net} {c : List Int} : ∀ k, k ≤ N.arcs.length → lkA (zcN N) c k = lkA N c k
  | 0, _ => by
    simp only [lkA]
    have : ∀ k, lkS (zcN N) c k = lkS N c k := fun k => by
      induction k with
      | zero => rfl
      | succ k ih => simp only [lkS, ih]; rfl
    exact this _
  | k + 1, hk => by
    simp only [lkA]
    rw [fr_lkA k (by omega), fr_get (by omega)]
    rfl
theorem fr_left {N : Net} {fl : List Int} : ∀ k, k ≤ N.arcs.length → leftK (zcN N) fl k = leftK N fl k
  | 0, _ => rfl
  | k + 1, hk => by
    simp only [leftK]
    rw [fr_left k (by omega), fr_get (by omega)]
    rfl
theorem fr_flow {N : Net} {fl : List Int} : isFlow (zcN N) fl = isFlow N fl := by
  have h1 : capB (zcN N) fl = capB N fl := by
    unfold capB
    rw [fr_len]
    refine Bool.eq_iff_iff.2 ?_
    simp only [List.all_eq_true, List.mem_range, decide_eq_true_eq]
    exact ⟨fun h k hk => by have := h k hk; rw [fr_get hk] at this; exact this, fun h k hk => by rw [fr_get hk]; exact h k hk⟩
  simp only [isFlow, fr_len, h1]
  rw [fr_left _ (Nat.le_refl _)]
end Dp
end Go.Proofs.Ytmebpglkeedaoaa
namespace Go.Proofs.Ytmebpglkeedaoaa
open Go.RowKit Dp
theorem own_arcs2 {W : World} {D n cap : Nat} {A : Option Addr} {l : List Arc} (hA : W.ownsRow D 46 4 (.slice A n cap) n (flat arcV l)) (hn : n = l.length) : ArcsAt W A l ∧ n ≤ cap ∧ cap ≤ 9223372036854775807 := by
  refine ⟨fun i hi => ?_, ?_⟩
  · obtain ⟨g, c, hv, hb, hlt⟩ := hA.form (by omega)
    cases hv
    have hc : ∀ j, j < 4 → W.cell? ⟨g, i * 4 + j, none⟩ = (arcV (l.getD i default))[j]? := fun j hj => by
      rw [World.ownsRow.cellAt hA (i * 4 + j) (by omega)]
      exact flat_get (f := arcV) (s := 4) (fun _ => rfl) _ _ _ _ (getElem_D _ _ _ hi) hj
    have had : (⟨g, 0, none⟩ : Addr).add (i * 4) = ⟨g, i * 4, none⟩ := by unfold Addr.add; split <;> simp_all
    exact ⟨⟨g, 0, none⟩, rfl, hlt, by rw [had]; exact hc 0 (by omega), by rw [had]; exact hc 1 (by omega), by rw [had]; exact hc 2 (by omega), by rw [had]; exact hc 3 (by omega)⟩
  · rcases hA.2 with ⟨h0, h1⟩ | ⟨g', c', cur, hv, _, _, hc1, hc2, _⟩
    · cases h0
      simp
    · cases hv
      unfold maxLen at hc2
      omega
theorem own_cap2 {W : World} {b c cp : Nat} {A : Option Addr} {l : List Value} (h : W.ownsRow b 3 1 (.slice A c cp) c l) : c ≤ cp ∧ cp ≤ 9223372036854775807 := by
  rcases h.2 with ⟨h0, h1⟩ | ⟨g', c', cur, hv, _, _, hc1, hc2, _⟩
  · cases h0
    omega
  · cases hv
    unfold maxLen at hc2
    omega
theorem lkA_nil (N : Net) : ∀ k, lkA N [] k = 0
  | 0 => rfl
  | k + 1 => by simp only [lkA]; rw [lkA_nil N k]; simp [inK]
theorem blk_own_ne2 {W : World} {g t B e z n cap : Nat} {cs xs : List Value} {A : Option Addr} (hb : Blk W g t cs) (h : W.ownsRow B e z (.slice A n cap) n xs) (hne : t ≠ e) : some g ≠ (Value.slice A n cap).ownBlock := by
  intro hk
  rcases h.2 with ⟨h0, _⟩ | ⟨g', cap', cur, hv, _, hg, _⟩
  · rw [h0] at hk; cases hk
  · rw [hv] at hk
    simp only [Value.ownBlock, Option.some.injEq] at hk
    subst hk
    unfold Blk at hb
    rw [hg] at hb
    simp only [Option.some.injEq, Obj.cells.injEq] at hb
    exact hne hb.2.1.symm
theorem own_blk_no2 {W : World} {g t B e z n cap : Nat} {cs xs : List Value} {A : Option Addr} (hb : Blk W g t cs) (h : W.ownsRow B e z (.slice A n cap) n xs) (hne : t ≠ e) : ¬ OwnB A g := fun hk => blk_own_ne2 hb h hne (ownB_iff.1 hk).symm
theorem ownV_mono2 {w : World} {B B' e z n : Nat} {v : Value} {xs : List Value} (h : w.ownsRow B e z v n xs) (hb : B' ≤ B) : w.ownsRow B' e z v n xs := ⟨h.1, h.2.imp id (fun ⟨k, c, cur, hv, hb', r⟩ => ⟨k, c, cur, hv, Nat.le_trans hb hb', r⟩)⟩
theorem own_ints2 {W : World} {b c cp : Nat} {A : Option Addr} {l : List Int} (h : W.ownsRow b 3 1 (.slice A c cp) c (l.map (Value.int .i64))) (hc : c = l.length) : IntsAt W A l := fun i hi => by
  obtain ⟨g, cap, hv, hb, hlt⟩ := h.form (by omega)
  cases hv
  refine ⟨⟨g, 0, none⟩, rfl, hlt, ?_⟩
  rw [show (⟨g, 0, none⟩ : Addr).add i = ⟨g, i, none⟩ from (by unfold Addr.add; split <;> simp_all), World.ownsRow.cellAt h i (by omega), List.getElem?_map, List.getElem?_eq_getElem hi, List.getD_eq_getElem?_getD, List.getElem?_eq_getElem hi]
  rfl
def MissP (N : Net) (w : World) (e : Ending) (w' : World) : Prop :=
  (chE N ≠ 0 ∧ e = .returned (.tuple #[.slice none 0 0, .int .i64 0, .int .i64 (chE N)])) ∨
  (chE N = 0 ∧ e = .returned (.tuple #[.slice none 0 0, .int .i64 0, .int .i64 18]) ∧ ∃ fl, isFlow N fl = true) ∨
  (chE N = 0 ∧ ∃ (g c : Nat) (cut : List Int), e = .returned (.tuple #[.slice (some ⟨g, 0, none⟩) cut.length c, .int .i64 (lkA N cut N.arcs.length), .int .i64 0]) ∧ w'.ownsRow w.heap.size 3 1 (.slice (some ⟨g, 0, none⟩) cut.length c) cut.length (cut.map (.int .i64)) ∧ cut.length ≤ 1024 ∧ (∀ k, k < cut.length → cutAt N.sup.length cut k = true) ∧ 0 < lkA N cut N.arcs.length ∧ ∀ fl, isFlow N fl = false)
def zcL (l : List Arc) (k : Nat) : List Arc := (l.take k).map noC ++ l.drop k
theorem zcL_len (l : List Arc) (k : Nat) : (zcL l k).length = l.length := by simp [zcL]; omega
theorem zcL_0 (l : List Arc) : zcL l 0 = l := by simp [zcL]
theorem zcL_all (l : List Arc) : zcL l l.length = l.map noC := by simp [zcL]
theorem zcL_get {l : List Arc} {k : Nat} (hk : k < l.length) : (zcL l k)[k]? = some (l.getD k default) := by
  unfold zcL
  rw [List.getElem?_append_right (by simp; omega)]
  simp only [List.length_map, List.length_take, Nat.min_eq_left (Nat.le_of_lt hk), Nat.sub_self, List.getElem?_drop, Nat.add_zero]
  exact getElem_D l k default hk
theorem zcL_set {l : List Arc} {k : Nat} (hk : k < l.length) : (zcL l k).set k (noC (l.getD k default)) = zcL l (k + 1) := by
  have h1 : l.drop k = l.getD k default :: l.drop (k + 1) := by
    rw [List.drop_eq_getElem_cons hk, List.getD_eq_getElem?_getD, List.getElem?_eq_getElem hk]; rfl
  have h2 : l.take (k + 1) = l.take k ++ [l.getD k default] := by
    rw [List.take_add_one, getElem_D l k default hk]; rfl
  unfold zcL
  rw [List.set_append_right _ _ (by simp; omega), h2, h1]
  simp only [List.length_map, List.length_take, Nat.min_eq_left (Nat.le_of_lt hk), Nat.sub_self, List.set_cons_zero, List.map_append, List.append_assoc, List.map_cons, List.map_nil, List.cons_append, List.nil_append]
theorem zero_pot {N : Net} {G : Gr} {n : Nat} (hf : Fits (zcN N) G) : G.Pot n (List.replicate n 0) := by
  have hz : ∀ v, (List.replicate n (0 : Int)).getD v 0 = 0 := fun v => by simp [List.getD_eq_getElem?_getD, List.getElem?_replicate]; split <;> rfl
  refine ⟨by simp, fun v _ => by rw [hz]; omega, fun k hk _ => ?_, fun v _ _ => hz v⟩
  have hc : G.cost k = 0 := by
    have hl := hf.es
    have hm : k / 2 < (zcN N).arcs.length := by omega
    have h := hf.c0 (k / 2) hm
    rw [fr_get (by rw [← fr_len N]; exact hm)] at h
    have h0 : (noC (N.arcs.getD (k / 2) default)).cost = 0 := rfl
    rw [h0] at h
    rcases Nat.mod_two_eq_zero_or_one k with e | e
    · have : k = 2 * (k / 2) := by omega
      rw [this]; exact h.1
    · have : k = 2 * (k / 2) + 1 := by omega
      rw [this, h.2]; rfl
  unfold Gr.rc
  rw [hc, hz, hz]
  omega
theorem cutP_yes {C : Nat → Bool} {k : Nat} (h : C k = true) : cutL (k + 1) C = cutL k C ++ [(k : Int)] := by simp [cutL, List.range_succ, h]
theorem cutP_no {C : Nat → Bool} {k : Nat} (h : C k = false) : cutL (k + 1) C = cutL k C := by simp [cutL, List.range_succ, h]
theorem cutP_len (C : Nat → Bool) (k : Nat) : (cutL k C).length ≤ k := by
  unfold cutL
  rw [List.length_map]
  exact Nat.le_trans (List.length_filter_le _ _) (by simp)
set_option maxHeartbeats 4000000 in
set_option maxRecDepth 100000 in
theorem Missing_c (A B : Option Addr) (N : Net) (n m cA cB : Nat) (w : World) (hn : n = N.sup.length) (hm : m = N.arcs.length) (hA : n ≤ cA ∧ cA ≤ 9223372036854775807) (hB : m ≤ cB ∧ cB ≤ 9223372036854775807) (hN : NetAt w A B N) :
    Calls Try.prog 28 #[.agg #[.slice A n cA, .slice B m cB]] w fun e w' => MissP N w e w' ∧ Below w.heap.size w w' := by
  have HN := Lib.hid hn
  have HM := Lib.hid hm
  have HNA := Lib.hid hN
  clear hn hm hN
  have B1 := Lib.hid (Blk.new' w #[.slice A n cA, .slice B m cB] 25)
  have HB1 := Lib.hid ((Below.refl w.heap.size w).alloc (Nat.le_refl _) (.cells #[.slice A n cA, .slice B m cB] 25))
  go_enter Try.func28, Try.ntmps28
  go_wp2_with fail
  generalize w.alloc (.cells #[.slice A n cA, .slice B m cB] 25) = w1 at B1 HB1 ⊢
  refine (Check_c A B N n m cA cB w1 HN.out HM.out hA hB (HNA.out.below HB1.out (Nat.le_refl _))).mono ?_
  rintro e w2 ⟨rfl, hb2⟩
  have B2 := Lib.hid (B1.out.below hb2 B1.out.lt)
  have HB2 := Lib.hid (HB1.out.trans (hb2.mono HB1.out.size))
  clear hb2 B1 HB1
  by_cases hch : chE N = 0
  rotate_left
  · have hb0 : (chE N == 0) = false := by simpa using hch
    have HNE := Lib.hid hch
    clear hch
    go_wp2_with fail
    exact bodyPost_ret (v := .tuple #[.slice none 0 0, .int .i64 0, .int .i64 (chE N)]) (by simp [results, Try.results28, go_sem]) rfl ⟨.inl ⟨HNE.out, rfl⟩, HB2.out⟩
  have HCH := Lib.hid hch
  have n1 : 1 ≤ n := by rw [HN.out]; exact (net_len hch).1
  have n2 : n ≤ 1024 := by rw [HN.out]; exact (net_len hch).2.1
  have m2 : m ≤ 2048 := by rw [HM.out]; exact (net_len hch).2.2
  rw [hch]
  clear hch
  have hmk := make_64 n (by omega)
  go_upto_region 4 with fail
  have RD : Hid (∀ W, Below w2.heap.size w2 W → (W.cell? ⟨w.heap.size, 0, none⟩ = some (.slice A n cA) ∧ W.cell? ⟨w.heap.size, 1, none⟩ = some (.slice B m cB)) ∧ Below w.heap.size w W ∧ NetAt W A B N) := Lib.hid (fun W h => by
    have hb := HB2.out.trans (h.mono HB2.out.size)
    have hx := B2.out.below h B2.out.lt
    exact ⟨⟨hx.cell 0 rfl, hx.cell 1 rfl⟩, hb, HNA.out.below hb (Nat.le_refl _)⟩)
  have HT := Lib.hid (Below.refl w2.heap.size w2).drew
  have HS2 := Lib.hid HB2.out.size
  go_cut [6] from 7 (fun s6 wc => ∃ b Ac cc, s6 = .pointer (some ⟨b, 0, none⟩) ∧ Hid (Blk wc b 25 [.slice A n cA, .slice Ac m cc] ∧ OwnR arcV 46 4 w.heap.size wc Ac cc N.arcs ∧ Below w.heap.size w wc ∧ w.heap.size ≤ b))
  case first =>
    refine lBegin (S := fun _ W => (W.cell? ⟨w.heap.size, 0, none⟩ = some (.slice A n cA) ∧ W.cell? ⟨w.heap.size, 1, none⟩ = some (.slice B m cB))) (by kernel_rfl) ?_ (fun hHeld => ?_)
    · (try dsimp only); (first | with_reducible exact (RD.out _ HT.out).1 | with_reducible assumption)
    refine lTake (i := 0) (v := ?_) rfl (by kernel_rfl) (by kernel_rfl) (by kernel_rfl) (fun _ _ _ h => h) (by rfl) (fun _ _ h => h) (fun _ _ h => h) ?_ (by assumption) (fun hHeld2 => ?_)
    rotate_left 1
    · (intro _ _ _ _ _; first | (go_simp; done) | (go_simp; with_reducible rfl))
    clear hHeld; have hHeld := hHeld2; clear hHeld2
    (try simp only [Act.put, List.setIfInBounds_toArray, List.set_cons_zero, List.set_cons_succ])
    refine lTake (i := 1) (v := ?_) rfl (by kernel_rfl) (by kernel_rfl) (by kernel_rfl) (fun _ _ _ h => h) (by rfl) (fun _ _ h => h) (fun _ _ h => h) ?_ (by assumption) (fun hHeld2 => ?_)
    rotate_left 1
    · (intro L W _ _ hSw; (try dsimp only at hSw); first | (go_simp; done) | (go_simp; with_reducible rfl))
    clear hHeld; have hHeld := hHeld2; clear hHeld2
    (try simp only [Act.put, List.setIfInBounds_toArray, List.set_cons_zero, List.set_cons_succ])
    refine lTake (i := 2) (v := ?_) rfl (by kernel_rfl) (by kernel_rfl) (by kernel_rfl) (fun _ _ _ h => h) (by rfl) (fun _ _ h => h) (fun _ _ h => h) ?_ (by assumption) (fun hHeld2 => ?_)
    rotate_left 1
    · (intro _ _ _ _ _; first | (go_simp; done) | (go_simp; with_reducible rfl))
    clear hHeld; have hHeld := hHeld2; clear hHeld2
    (try simp only [Act.put, List.setIfInBounds_toArray, List.set_cons_zero, List.set_cons_succ])
    refine lTake (i := 3) (v := ?_) rfl (by kernel_rfl) (by kernel_rfl) (by kernel_rfl) (fun _ _ _ h => h) (by rfl) (fun _ _ h => h) (fun _ _ h => h) ?_ (by assumption) (fun hHeld2 => ?_)
    rotate_left 1
    · (intro L W _ _ hSw; (try dsimp only at hSw); first | (go_simp; done) | (go_simp; with_reducible rfl))
    clear hHeld; have hHeld := hHeld2; clear hHeld2
    (try simp only [Act.put, List.setIfInBounds_toArray, List.set_cons_zero, List.set_cons_succ])
    refine lReady (rs := [4, 6]) (by kernel_rfl) (by simp) ?_
    refine AllL.cons (i := 4) rfl (fun K hK => ?_) ?_
    · go_simp; (refine (cloneA_c B N.arcs m cB _ HM.out (by omega) (RD.out _ HT.out).2.2.2).mono ?_; rintro e w5 ⟨Ac, cc, rfl, hb5, ho5⟩; (try have HMK := Lib.hid (Blk.below HMK.out hb5 (Blk.lt HMK.out))); have HCL := Lib.hid (show OwnR arcV 46 4 w.heap.size w5 Ac cc N.arcs from (by unfold OwnR; rw [← HM.out]; exact ownV_mono2 ho5 (RD.out _ HT.out).2.1.size)); have HT := Lib.hid (HT.out.trans (hb5.mono HT.out.size)); clear hb5 ho5)
      (try go_wp2_with fail)
      refine hK.out _ _ ?_ (fun hHeld2 => ?_)
      · (try dsimp only); (first | with_reducible exact (RD.out _ HT.out).1 | with_reducible assumption)
      clear hK K
      clear hHeld; have hHeld := hHeld2; clear hHeld2
      (try simp only [Act.put, List.setIfInBounds_toArray, List.set_cons_zero, List.set_cons_succ])
      refine lTake (i := 5) (v := ?_) rfl (by kernel_rfl) (by kernel_rfl) (by kernel_rfl) (fun _ _ _ h => h) (by rfl) (fun _ _ h => h) (fun _ _ h => h) ?_ (by assumption) (fun hHeld2 => ?_)
      rotate_left 1
      · (intro _ _ _ _ _; first | (go_simp; done) | (go_simp; with_reducible rfl))
      clear hHeld; have hHeld := hHeld2; clear hHeld2
      (try simp only [Act.put, List.setIfInBounds_toArray, List.set_cons_zero, List.set_cons_succ])
      refine lReady (rs := [6]) (by kernel_rfl) (by simp) ?_
      refine AllL.cons (i := 6) rfl (fun K hK => ?_) ?_
      · refine step_new (.cells #[.slice none 0 0, .slice none 0 0] 25) (fun g => .pointer (some ⟨g, 0, none⟩)) rfl (by kernel_rfl) ?_; intro b w6 z6 hc6 hb6; (try have HCL := Lib.hid (OwnR.below HCL.out hb6)); have HMK := Lib.hid (show Blk w6 b 25 [.slice none 0 0, .slice none 0 0] from hc6); have HMS := Lib.hid (Nat.le_trans (RD.out _ HT.out).2.1.size z6); have HMT := Lib.hid (Nat.le_trans HT.out.size z6); have HT := Lib.hid (HT.out.trans (hb6.mono HT.out.size)); clear hb6 hc6 z6
        (try go_wp2_with fail)
        refine hK.out _ _ ?_ (fun hHeld2 => ?_)
        · (try dsimp only); (first | with_reducible exact (RD.out _ HT.out).1 | with_reducible assumption)
        clear hK K
        clear hHeld; have hHeld := hHeld2; clear hHeld2
        (try simp only [Act.put, List.setIfInBounds_toArray, List.set_cons_zero, List.set_cons_succ])
        refine lReady (rs := [7]) (by kernel_rfl) (by simp) ?_
        refine AllL.cons (i := 7) rfl (fun K hK => ?_) ?_
        · (have q0 := HMK.out.cell 0 rfl; have q1 := HMK.out.cell 1 rfl; have z0 := HMK.out.free 0; have z1 := HMK.out.free 1; have zl := HMK.out.lt; have HE1 := Lib.hid ((HMK.out.setCell 0 (.slice A n cA)).setCell 1 (.slice Ac m cc)); have HE2 := Lib.hid ((HCL.out.set_ne (p := ⟨b, 0, none⟩) (own_blk_no2 HMK.out HCL.out (by decide)) (.slice A n cA)).set_ne (p := ⟨b, 1, none⟩) (own_blk_no2 (HMK.out.setCell 0 (.slice A n cA)) (HCL.out.set_ne (p := ⟨b, 0, none⟩) (own_blk_no2 HMK.out HCL.out (by decide)) (.slice A n cA)) (by decide)) (.slice Ac m cc)); have HT := Lib.hid ((HT.out.setCell (p := ⟨b, 0, none⟩) HMT.out (.slice A n cA)).setCell (p := ⟨b, 1, none⟩) HMT.out (.slice Ac m cc)); go_simp)
          (try go_wp2_with fail)
          refine hK.out _ _ ?_ (fun hHeld2 => ?_)
          · (try dsimp only); (first | with_reducible exact (RD.out _ HT.out).1 | with_reducible assumption)
          clear hK K
          clear hHeld; have hHeld := hHeld2; clear hHeld2
          (try simp only [Act.put, List.setIfInBounds_toArray, List.set_cons_zero, List.set_cons_succ])
          refine lDone (by kernel_rfl) ?_ _
          go_wp2_with fail
          go_meet
          case rel => exact ⟨b, Ac, cc, rfl, Lib.hid ⟨HE1.out, HE2.out, (RD.out _ HT.out).2.1, HMS.out⟩⟩
        exact AllL.nil
      exact AllL.nil
    refine AllL.cons (i := 6) rfl (fun K hK => ?_) ?_
    · refine step_new (.cells #[.slice none 0 0, .slice none 0 0] 25) (fun g => .pointer (some ⟨g, 0, none⟩)) rfl (by kernel_rfl) ?_; intro b w6 z6 hc6 hb6; (try have HCL := Lib.hid (OwnR.below HCL.out hb6)); have HMK := Lib.hid (show Blk w6 b 25 [.slice none 0 0, .slice none 0 0] from hc6); have HMS := Lib.hid (Nat.le_trans (RD.out _ HT.out).2.1.size z6); have HMT := Lib.hid (Nat.le_trans HT.out.size z6); have HT := Lib.hid (HT.out.trans (hb6.mono HT.out.size)); clear hb6 hc6 z6
      (try go_wp2_with fail)
      refine hK.out _ _ ?_ (fun hHeld2 => ?_)
      · (try dsimp only); (first | with_reducible exact (RD.out _ HT.out).1 | with_reducible assumption)
      clear hK K
      clear hHeld; have hHeld := hHeld2; clear hHeld2
      (try simp only [Act.put, List.setIfInBounds_toArray, List.set_cons_zero, List.set_cons_succ])
      refine lReady (rs := [4]) (by kernel_rfl) (by simp) ?_
      refine AllL.cons (i := 4) rfl (fun K hK => ?_) ?_
      · go_simp; (refine (cloneA_c B N.arcs m cB _ HM.out (by omega) (RD.out _ HT.out).2.2.2).mono ?_; rintro e w5 ⟨Ac, cc, rfl, hb5, ho5⟩; (try have HMK := Lib.hid (Blk.below HMK.out hb5 (Blk.lt HMK.out))); have HCL := Lib.hid (show OwnR arcV 46 4 w.heap.size w5 Ac cc N.arcs from (by unfold OwnR; rw [← HM.out]; exact ownV_mono2 ho5 (RD.out _ HT.out).2.1.size)); have HT := Lib.hid (HT.out.trans (hb5.mono HT.out.size)); clear hb5 ho5)
        (try go_wp2_with fail)
        refine hK.out _ _ ?_ (fun hHeld2 => ?_)
        · (try dsimp only); (first | with_reducible exact (RD.out _ HT.out).1 | with_reducible assumption)
        clear hK K
        clear hHeld; have hHeld := hHeld2; clear hHeld2
        (try simp only [Act.put, List.setIfInBounds_toArray, List.set_cons_zero, List.set_cons_succ])
        refine lTake (i := 5) (v := ?_) rfl (by kernel_rfl) (by kernel_rfl) (by kernel_rfl) (fun _ _ _ h => h) (by rfl) (fun _ _ h => h) (fun _ _ h => h) ?_ (by assumption) (fun hHeld2 => ?_)
        rotate_left 1
        · (intro _ _ _ _ _; first | (go_simp; done) | (go_simp; with_reducible rfl))
        clear hHeld; have hHeld := hHeld2; clear hHeld2
        (try simp only [Act.put, List.setIfInBounds_toArray, List.set_cons_zero, List.set_cons_succ])
        refine lReady (rs := [7]) (by kernel_rfl) (by simp) ?_
        refine AllL.cons (i := 7) rfl (fun K hK => ?_) ?_
        · (have q0 := HMK.out.cell 0 rfl; have q1 := HMK.out.cell 1 rfl; have z0 := HMK.out.free 0; have z1 := HMK.out.free 1; have zl := HMK.out.lt; have HE1 := Lib.hid ((HMK.out.setCell 0 (.slice A n cA)).setCell 1 (.slice Ac m cc)); have HE2 := Lib.hid ((HCL.out.set_ne (p := ⟨b, 0, none⟩) (own_blk_no2 HMK.out HCL.out (by decide)) (.slice A n cA)).set_ne (p := ⟨b, 1, none⟩) (own_blk_no2 (HMK.out.setCell 0 (.slice A n cA)) (HCL.out.set_ne (p := ⟨b, 0, none⟩) (own_blk_no2 HMK.out HCL.out (by decide)) (.slice A n cA)) (by decide)) (.slice Ac m cc)); have HT := Lib.hid ((HT.out.setCell (p := ⟨b, 0, none⟩) HMT.out (.slice A n cA)).setCell (p := ⟨b, 1, none⟩) HMT.out (.slice Ac m cc)); go_simp)
          (try go_wp2_with fail)
          refine hK.out _ _ ?_ (fun hHeld2 => ?_)
          · (try dsimp only); (first | with_reducible exact (RD.out _ HT.out).1 | with_reducible assumption)
          clear hK K
          clear hHeld; have hHeld := hHeld2; clear hHeld2
          (try simp only [Act.put, List.setIfInBounds_toArray, List.set_cons_zero, List.set_cons_succ])
          refine lDone (by kernel_rfl) ?_ _
          go_wp2_with fail
          go_meet
          case rel => exact ⟨b, Ac, cc, rfl, Lib.hid ⟨HE1.out, HE2.out, (RD.out _ HT.out).2.1, HMS.out⟩⟩
        exact AllL.nil
      exact AllL.nil
    exact AllL.nil
  case rest =>
    clear HT RD B2 HB2
    obtain ⟨b, Ac, cc, rfl, HJ⟩ := hcut
    have j1 := HJ.out.1.cell 1 rfl
    have jl := HJ.out.1.lt
    have HJ0 : Hid (Blk wc b 25 [.slice A n cA, .slice Ac m cc] ∧ OwnR arcV 46 4 w.heap.size wc Ac cc (zcL N.arcs 0) ∧ Below w.heap.size w wc) := Lib.hid ⟨HJ.out.1, by rw [zcL_0]; exact HJ.out.2.1, HJ.out.2.2.1⟩
    have hbw := HJ.out.2.2.2
    clear HJ
    go_upto_region 6 with fail
    go_wp2_with fail
    clear j1 jl
    go_loopg [30] m (fun q iv wr => ∃ k : Nat, iv = .int .i64 k ∧ k + q = m ∧ Hid (Blk wr b 25 [.slice A n cA, .slice Ac m cc] ∧ OwnR arcV 46 4 w.heap.size wr Ac cc (zcL N.arcs k) ∧ Below w.heap.size w wr))
    case atStart => exact ⟨0, rfl, by omega, HJ0⟩
    case round =>
      clear HJ0
      obtain ⟨k, rfl, hkq, HJ⟩ := hrel
      have j0 := HJ.out.1.cell 0 rfl
      have j1 := HJ.out.1.cell 1 rfl
      have jl := HJ.out.1.lt
      by_cases hlt : k < m
      · have hki : (k : Int) < (m : Int) := by omega
        have kA : k < N.arcs.length := by rw [← HM.out]; exact hlt
        obtain ⟨g, rfl, hg1, hg2, _⟩ := HJ.out.2.1.form (by rw [zcL_len]; omega)
        have c3 := HJ.out.2.1.cell (s := 4) (f := arcV) (fun _ => rfl) k 3 _ (zcL_get kA) (by decide)
        have z3 := HJ.out.2.1.free (k * 4 + 3)
        have HE : Hid (Blk (wr.setCell ⟨g, k * 4 + 3, none⟩ (.int .i64 0)) b 25 [.slice A n cA, .slice (some ⟨g, 0, none⟩) m cc] ∧ OwnR arcV 46 4 w.heap.size (wr.setCell ⟨g, k * 4 + 3, none⟩ (.int .i64 0)) (some ⟨g, 0, none⟩) cc (zcL N.arcs (k + 1)) ∧ Below w.heap.size w (wr.setCell ⟨g, k * 4 + 3, none⟩ (.int .i64 0))) := Lib.hid ⟨HJ.out.1.setCell_ne (p := ⟨g, k * 4 + 3, none⟩) (fun e => own_blk_no2 HJ.out.1 HJ.out.2.1 (by decide) (ownB_some.2 e)) _, by
          have h := HJ.out.2.1.put (s := 4) (f := arcV) (fun _ => rfl) k 3 (noC (N.arcs.getD k default)) (N.arcs.getD k default) (.int .i64 0) (zcL_get kA) (by decide) rfl
          rw [zcL_set kA] at h
          exact h, HJ.out.2.2.setCell (p := ⟨g, k * 4 + 3, none⟩) hg1 _⟩
        generalize N.arcs.getD k default = ar at *
        obtain ⟨x1, x2, x3, x4⟩ := ar
        have c3 : wr.cell? ⟨g, k * 4 + 3, none⟩ = some (.int .i64 x4) := c3
        go_wp2_with fail
        go_roundg (gk - 1)
        case measure => omega
        case rel => exact ⟨k + 1, by go_num, by omega, HE⟩
      · obtain rfl : m = k := by omega
        have HZ : Hid (OwnR arcV 46 4 w.heap.size wr Ac cc (zcN N).arcs) := Lib.hid (by have h := HJ.out.2.1; rw [HM.out, zcL_all] at h; exact h)
        have HF := Lib.hid (fr_ch HCH.out)
        have HZL : Hid (m = (zcN N).arcs.length) := Lib.hid (by rw [fr_len]; exact HM.out)
        have HBW := Lib.hid HJ.out.2.2
        obtain ⟨ha, hc1, hc2⟩ := own_arcs2 (by have h := HZ.out; unfold OwnR at h; rw [← HZL.out] at h; exact h) HZL.out
        have HNZ : Hid (NetAt wr A Ac (zcN N)) := Lib.hid ⟨(HNA.out.below HBW.out (Nat.le_refl _)).1, ha⟩
        clear ha HJ HZ
        go_wp2_with fail
        refine (newGraph_c A Ac (zcN N) n m cA cc wr HN.out HZL.out HF.out hA ⟨hc1, hc2⟩ HNZ.out).mono ?_
        obtain ⟨BB, hBB⟩ : ∃ BB, BB = wr.heap.size := ⟨_, rfl⟩
        rw [← hBB]
        rintro e w3 ⟨b3, gl, cl, E, ce, bo, rfl, hb3, hg3⟩
        rw [hBB] at hb3
        clear j0 j1 jl HNZ
        have HB3 := Lib.hid (HBW.out.trans (hb3.mono HBW.out.size))
        have c2 := hg3.blk.cell 2 rfl
        have c2l := hg3.blk.lt
        have OK0 : Hid ((gr0 (zcN N)).Ok n) := Lib.hid (by have h := gr0_ok HF.out; rw [show (zcN N).sup.length = n from HN.out.symm] at h; exact h)
        rw [OK0.out.lo] at c2
        have FT0 := Lib.hid (gr0_fits (N := zcN N))
        have S3 : Hid (∀ k, k = gl ∨ OwnB E k → w.heap.size ≤ k) := Lib.hid (fun k hk => by
          rcases hk with h | h
          · have := hg3.base.2; have := HBW.out.size; omega
          · have := (ownLt hg3.es h).2; have := HBW.out.size; omega)
        have F0 := Lib.hid (fl_new 2 n w3)
        have al := (Below.refl w3.heap.size w3).alloc (Nat.le_refl _) (.cells (Array.replicate n (.int .i64 0)) 2)
        have G3 := Lib.hid (hg3.below al)
        have HB4 := Lib.hid (HB3.out.trans (al.mono HB3.out.size))
        have EB2 := Lib.hid (fun k (h : OwnB E k) => (ownLt hg3.es h).1)
        have hgl : gl < w3.heap.size := hg3.left.lt.2
        have hglp : gl ≠ w3.heap.size := by omega
        have hegp : ¬ OwnB E w3.heap.size := fun h => by have := EB2.out _ h; omega
        clear hb3 hg3 al
        go_wp2_with fail
        clear c2 c2l
        generalize w3.alloc (.cells (Array.replicate n (.int .i64 0)) 2) = w4 at F0 G3 HB4 ⊢
        generalize w3.heap.size = gp at *
        go_loopg [12] (restV (gr0 (zcN N)).left).toNat (fun q ev wr => Hid (∃ G2, G2.Ok n ∧ Fits (zcN N) G2 ∧ GrAt wr BB b3 gl cl E ce bo G2 ∧ Fl 2 wr gp (List.replicate n 0) ∧ (restV G2.left).toNat = q ∧ Touch (fun k => k = gl ∨ OwnB E k) w4 wr))
        case atStart => exact Lib.hid ⟨gr0 (zcN N), OK0.out, FT0.out, G3.out, F0.out, rfl, Touch.refl _ _⟩
        case round =>
          clear OK0 FT0 G3 F0
          obtain ⟨G2, q1, q2, q3, q4, q5, q6⟩ := hrel.out
          have OK := Lib.hid q1
          have FT := Lib.hid q2
          have GA := Lib.hid q3
          have FP := Lib.hid q4
          have HR := Lib.hid q5
          have TA := Lib.hid q6
          have PO := Lib.hid (zero_pot (n := n) q2)
          clear hrel q1 q2 q3 q4 q5 q6
          go_wp2_with fail
          refine (nearest_c b3 gl cl ce bo BB n n E (some ⟨gp, 0, none⟩) G2 (List.replicate n 0) _ OK.out PO.out GA.out FP.out.ints ⟨Nat.le_refl _, by omega⟩).mono ?_
          rintro e w5 ⟨gf, gb, fa, vi, en, rfl, hb5, hf5, hv5, z1, z2, nr⟩
          have G5 := Lib.hid (GA.out.below hb5)
          have T5 := Lib.hid (TA.out.below hb5)
          have P5 := Lib.hid (FP.out.below hb5)
          have F5 := Lib.hid hf5
          have V5 := Lib.hid hv5
          have NRR := Lib.hid nr
          have hpb : gb ≠ gl ∧ ¬ OwnB E gb := by
            have h1 := GA.out.left.lt.2
            refine ⟨by omega, fun h => ?_⟩
            have := (ownLt GA.out.es h).1
            omega
          clear hb5 hf5 hv5 nr
          by_cases hen : en < 0
          · have hem : en = -1 := by
              rcases NRR.out.fin with ⟨e, _⟩ | ⟨t, e, _⟩
              · exact e
              · omega
            subst hem
            have OKN : Hid (G2.Ok (zcN N).sup.length) := Lib.hid (by rw [show (zcN N).sup.length = n from HN.out.symm]; exact OK.out)
            have CUT : Hid (lkA N (cutL n (fun v => decide (fa.getD v 0 < never))) m = restV G2.left) := Lib.hid (by
              have h := NRR.out
              rw [show n = (zcN N).sup.length from HN.out] at h
              have h2 := end_cut HF.out OKN.out FT.out h
              rw [fr_len, fr_lkA _ (Nat.le_refl _), ← HM.out] at h2
              rw [HN.out]; exact h2)
            have FLO : Hid (restV G2.left = 0 → ∃ fl, isFlow N fl = true) := Lib.hid (fun h => ⟨_, by have h2 := (end_flow HF.out OKN.out FT.out PO.out.rc h).1; rw [fr_flow] at h2; exact h2⟩)
            have RN := rest_nn G2.left
            have HB5 := Lib.hid (Below.touch HB4.out HB4.out.size T5.out S3.out)
            have RC := Lib.hid (fun W (h : GrAt W BB b3 gl cl E ce bo G2) => rest_c b3 gl cl ce bo BB n E G2 W OK.out h)
            go_wp2_with fail
            refine (RC.out _ G5.out).mono ?_
            rintro e w6 ⟨rfl, rfl⟩
            generalize restV G2.left = R at *
            by_cases hr : R = 0
            · have hr0 : (R == 0) = true := by simpa using hr
              have C1 := Lib.hid (FLO.out hr)
              clear hr
              go_wp2_with fail
              exact bodyPost_ret (v := .tuple #[.slice none 0 0, .int .i64 0, .int .i64 18]) (by simp [results, Try.results28, go_sem]) rfl ⟨.inr (.inl ⟨HCH.out, rfl, C1.out⟩), HB5.out⟩
            have hr0 : (R == 0) = false := by simpa using hr
            have hrp : 0 < R := by omega
            have L1 := Lib.hid NRR.out.l1
            obtain ⟨i3, h3i, h3z, h3s, h3b⟩ := info_parts info3
            have HO0 : Hid (w5.ownsRow w5.heap.size 3 1 (.slice none 0 0) 0 ((cutL 0 (fun v => decide (fa.getD v 0 < never))).map (.int .i64))) := Lib.hid (World.ownsRow_nil _ _ _ _)
            go_upto_region 17 with fail
            go_wp2_with fail
            go_loopw [13, 65] (fun sv iv wr => ∃ (k c : Nat) (Ax : Option Addr) (cx : Nat), k ≤ n ∧ c = (cutL k (fun v => decide (fa.getD v 0 < never))).length ∧ iv = .int .i64 k ∧ sv = .slice Ax c cx ∧ Hid (Below w5.heap.size w5 wr ∧ wr.ownsRow w5.heap.size 3 1 (.slice Ax c cx) c ((cutL k (fun v => decide (fa.getD v 0 < never))).map (.int .i64)))) (fun _ iv _ => n - (intOf iv).toNat)
            case atStart => exact ⟨0, 0, none, 0, Nat.zero_le _, rfl, rfl, rfl, Lib.hid ⟨Below.refl _ _, HO0.out⟩⟩
            case round =>
              clear HO0
              obtain ⟨k, c, Ax, cx, hk, hc, rfl, rfl, HW⟩ := hrel
              have hck := cutP_len (fun v => decide (fa.getD v 0 < never)) k
              rw [← hc] at hck
              have hcx : c ≤ cx ∧ cx ≤ 9223372036854775807 := own_cap2 HW.out.2
              by_cases hlt : k < n
              · have hki : (k : Int) < (n : Int) := by omega
                have f5 := (F5.out.below HW.out.1).cell k (by rw [L1.out]; exact hlt)
                have f5l := (F5.out.below HW.out.1).lt
                have CY := Lib.hid (fun h => cutP_yes (C := fun v => decide (fa.getD v 0 < never)) (k := k) h)
                have CN := Lib.hid (fun h => cutP_no (C := fun v => decide (fa.getD v 0 < never)) (k := k) h)
                have htop := NRR.out.top k hlt
                have HC := Lib.hid hc
                clear hc
                have hun : never = 1152921504606846976 := rfl
                rw [hun] at htop
                by_cases hfk : fa.getD k 0 < never
                · have CY2 := Lib.hid (CY.out (decide_eq_true hfk))
                  rw [hun] at hfk
                  clear CN CY
                  generalize fa.getD k 0 = fk at *
                  have d1 : decide (fk < 1152921504606846976) = true := decide_eq_true hfk
                  have hb := (Below.refl wr.heap.size wr).alloc (Nat.le_refl _) (.cells #[.int .i64 k] 3)
                  have HO := Lib.hid (ownBelow HW.out.2 hb)
                  have HBA := Lib.hid (HW.out.1.trans (hb.mono HW.out.1.size))
                  have X := Lib.hid (Blk.new' wr #[.int .i64 k] 3)
                  clear hb
                  go_wp2_with (at_builtin; refine wpList_append_any (.tmp 72) (.tmp 74) 26 rfl rfl w5.heap.size 3 i3 (.int .i64 0) 1 8 Try.underlying26 h3i h3z h3s h3b rfl (by decide) Ax c cx _ (by rfl) HO.out (some ⟨wr.heap.size, 0, none⟩) 1 1 [.int .i64 k] (by rfl) (by rfl) (.inr ⟨_, rfl, fun j u hj => by rcases j with _ | j <;> simp at hj; subst hj; exact X.out.cell 0 rfl⟩) (by simp [Value.oneCell']) (by unfold maxLen; omega) (by omega) (HBA.out.size) ?_; intro A3 c3 w7 hown hgrow hat; have HE : Hid (Below w5.heap.size w5 w7 ∧ w7.ownsRow w5.heap.size 3 1 (.slice A3 (c + 1) c3) (c + 1) ((cutL (k + 1) (fun v => decide (fa.getD v 0 < never))).map (.int .i64))) := Lib.hid ⟨HBA.out.grown hgrow HBA.out.size (fun j e => (World.ownsRow.lt HO.out j e).1), by rw [CY2.out, List.map_append]; exact hown⟩; clear hown hgrow hat)
                  exact ⟨⟨k + 1, c + 1, A3, c3, by omega, by rw [CY2.out, List.length_append, ← HC.out]; rfl, by go_num, rfl, HE⟩, by simp [intOf]; omega⟩
                · have CN2 := Lib.hid (CN.out (decide_eq_false hfk))
                  rw [hun] at hfk
                  clear CY CN
                  generalize fa.getD k 0 = fk at *
                  have d1 : decide (fk < 1152921504606846976) = false := decide_eq_false hfk
                  have HE : Hid (Below w5.heap.size w5 wr ∧ wr.ownsRow w5.heap.size 3 1 (.slice Ax c cx) c ((cutL (k + 1) (fun v => decide (fa.getD v 0 < never))).map (.int .i64))) := Lib.hid (by rw [CN2.out]; exact HW.out)
                  go_wp2_with fail
                  exact ⟨⟨k + 1, c, Ax, cx, by omega, by rw [CN2.out]; exact HC.out, by go_num, rfl, HE⟩, by simp [intOf]; omega⟩
              · obtain rfl : n = k := by omega
                have G6 := Lib.hid (G5.out.below HW.out.1)
                have HB6 := Lib.hid (HB5.out.trans (HW.out.1.mono HB5.out.size))
                have HO6 := Lib.hid (ownV_mono2 HW.out.2 HB5.out.size)
                have HC := Lib.hid hc
                clear hc HW
                go_wp2_with fail
                refine (RC.out _ G6.out).mono ?_
                rintro e w6 ⟨rfl, rfl⟩
                have CK := Lib.hid (cutL_ok (n := N.sup.length) (C := fun v => decide (fa.getD v 0 < never)))
                rw [← HN.out] at CK
                have CK3 : Hid (∀ k, k < (cutL n (fun v => decide (fa.getD v 0 < never))).length → cutAt N.sup.length (cutL n (fun v => decide (fa.getD v 0 < never))) k = true) := Lib.hid (by rw [← HN.out]; exact CK.out)
                have hc0 : c ≠ 0 := fun h => by
                  have h1 := HC.out
                  rw [h] at h1
                  have h2 := CUT.out
                  rw [List.length_eq_zero_iff.1 h1.symm, lkA_nil] at h2
                  omega
                obtain ⟨g, cap, hv, hgb, hlt2⟩ := HO6.out.form (by omega)
                cases hv
                go_wp2_with fail
                exact bodyPost_ret (v := .tuple #[.slice (some ⟨g, 0, none⟩) c cx, .int .i64 R, .int .i64 0]) (by simp [results, Try.results28, go_sem]) rfl ⟨.inr (.inr ⟨HCH.out, g, cx, cutL n (fun v => decide (fa.getD v 0 < never)), by rw [← HC.out, ← HM.out, CUT.out], by rw [← HC.out]; exact HO6.out, by rw [← HC.out]; omega, CK3.out, by rw [← HM.out, CUT.out]; exact hrp, cut_none (c := cutL n (fun v => decide (fa.getD v 0 < never))) HCH.out CK3.out (by rw [← HM.out, CUT.out]; exact hrp)⟩), HB6.out⟩
          · obtain ⟨t, rfl⟩ : ∃ t : Nat, en = t := ⟨en.toNat, by omega⟩
            have TF : Hid (t < n ∧ G2.lf t < 0 ∧ fa.getD t 0 < never) := Lib.hid (by
              rcases NRR.out.fin with ⟨e, _⟩ | ⟨t', e, h1, h2, h3, h4⟩
              · omega
              · obtain rfl : t' = t := by omega
                exact ⟨h1, h2, h3⟩)
            have htn : t < n := TF.out.1
            have hti : (t : Int) < (n : Int) := by omega
            have d0 : decide ((0 : Int) ≤ (t : Int)) = true := decide_eq_true (by omega)
            obtain ⟨S, s1, s2, s3, s4⟩ := NRR.out.ch
            obtain ⟨ks, s, y1, y2, y3, y4, y5⟩ := chn_way s1 s4 t ((s2 t htn).2 TF.out.2.2)
            have hsn : s < n := s3 s (y5 s (y1.last))
            have SE := Lib.hid (send_c b3 gl cl ce bo BB n n s t E (some ⟨gb, 0, none⟩) G2 vi ks w5 OK.out y1 y4 hsn htn y2 TF.out.2.1 (fun j hj => (y3 j hj).1) NRR.out.l2 ⟨Nat.le_refl _, by omega⟩ G5.out V5.out.ints (fun q hq => by rw [ownB_some.1 hq]; exact hpb))
            clear s1 s2 s3 s4 y1 y2 y3 y4 y5
            go_wp2_with fail
            refine SE.out.mono ?_
            rintro e w6 ⟨rfl, x, hse, hga, hto⟩
            have SX := Lib.hid hse
            have G6 := Lib.hid hga
            have T6 := Lib.hid (T5.out.trans hto)
            have P6 := Lib.hid (P5.out.touch hto (fun h => by
              rcases h with h | h
              · exact hglp h.symm
              · exact hegp h))
            have ok := hse.ok OK.out
            have F6 := Lib.hid (FT.out.pushL OK.out.fine (ks := ks) (x := x) (fun j hj => (ok.1 j hj).1))
            have M6 := Lib.hid (rest_push hse OK.out)
            have MN := Lib.hid (rest_nn (G2.pushL ks x).left)
            have OK6 := Lib.hid ok.2.2
            clear hse hga hto ok SE
            go_wp2_with fail
            go_roundg (restV (G2.pushL ks x).left).toNat
            case measure => have h1 := M6.out; have h2 := MN.out; have h3 := SX.out.x0; have h4 := HR.out; omega
            case rel => exact Lib.hid ⟨_, OK6.out, F6.out, G6.out, P6.out, rfl, T6.out⟩
end Go.Proofs.Ytmebpglkeedaoaa
namespace Go.Proofs.Ytmebpglkeedaoaa
open Go.RowKit Dp
theorem rowsF_at {W : World} {B n G m c : Nat} {A : Option Addr} {vs : List Value} {R : Nat → List Int} (ho : W.ownsRow B 26 1 (.slice A m c) m vs) (h : RowsF W n G vs R m) (hn : n ≤ 9223372036854775807) : RowsAt W A ((List.range m).map R) ∧ m ≤ c ∧ c ≤ 9223372036854775807 := by
  refine ⟨fun i hi => ?_, ?_⟩
  · have hi' : i < m := by simpa using hi
    have e : ((List.range m).map R).getD i [] = R i := by simp [List.getD_eq_getElem?_getD, hi']
    obtain ⟨g, cap, hv, hb, hlt⟩ := ho.form (by omega)
    cases hv
    obtain ⟨v, h1, gi, rfl, h3, h4, h5⟩ := h i hi'
    refine ⟨_, rfl, hlt, some ⟨gi, 0, none⟩, n, ?_, ?_, ?_⟩
    · rw [add_row, e, h5, World.ownsRow.cellAt ho i (by omega)]; exact h1
    · rw [e, h5]; exact ⟨Nat.le_refl _, hn⟩
    · rw [e]; exact h4.ints
  · rcases ho.2 with ⟨h0, h1⟩ | ⟨g', c', cur, hv, _, _, hc1, hc2, _⟩
    · cases h0
      omega
    · cases hv
      unfold maxLen at hc2
      omega
def BlpV (N : Net) (LI LO : List (List Int)) (m k l : Nat) (w : World) : Ending → World → Prop := fun e w' => ∃ (b gs : Nat) (A AI AO : Option Addr) (c ci co : Nat), e = .returned (.pointer (some ⟨b, 0, none⟩)) ∧ Blk w' b 125 [.slice (some ⟨gs, 0, none⟩) k k, .slice A l c, .slice AI m ci, .slice AO m co] ∧ NetAt w' (some ⟨gs, 0, none⟩) A N ∧ (l ≤ c ∧ c ≤ 9223372036854775807) ∧ (RowsAt w' AI LI ∧ m ≤ ci ∧ ci ≤ 9223372036854775807) ∧ (RowsAt w' AO LO ∧ m ≤ co ∧ co ≤ 9223372036854775807) ∧ Below w.heap.size w w'
theorem R76.p {S : Site} {cs : List Car} {w w' : World} {e : Ending} {m k l : Nat} (hn : S.lim.length ≤ 48) (hm : m = cs.length) (hk : k = nodesN S cs) (hl : l = (carsA S cs cs.length).length) (h : R76 S cs w e w') : BlpV (netN S cs) ((List.range m).map (inR S cs)) ((List.range m).map (outR S cs)) m k l w e w' := by
  subst hk hl hm
  obtain ⟨b, rfl, gs, A, cap, AI, AO, ci, co, vi, vo, hJ, hRI, hRO⟩ := h
  obtain ⟨ha, hc⟩ := own_arcs2 hJ.own rfl
  have hb := hJ.b
  rw [supN_len] at hb
  exact ⟨b, gs, A, AI, AO, cap, ci, co, rfl, hb, ⟨hJ.s.ints, ha⟩, hc, rowsF_at hJ.oi hRI (by omega), rowsF_at hJ.oo hRO (by omega), hJ.bel⟩
theorem RwJ.typ {n m g : Nat} {gI : Nat → Nat} {R : Nat → List Int} {W : World} (h : RwJ n m g gI R W) {p : Addr} {t : TypeId} {cs : List Value} (hb : Blk W p.block t cs) (h1 : t ≠ 22) (h2 : t ≠ 2) (u : Value) : RwJ n m g gI R (W.setCell p u) := by
  obtain ⟨cs', c1, _⟩ := h.b
  exact h.other (fun e => blk_type_ne hb c1 h1 e) (fun i hi e => blk_type_ne hb (h.f i hi).1 h2 e) u
def PlanP (S : Site) (cs : List Car) (w : World) (e : Ending) (w' : World) : Prop :=
  (stE S cs ≠ 0 ∧ e = .returned (.tuple #[.agg #[.slice none 0 0, .slice none 0 0], .slice none 0 0, .int .i64 (stE S cs)])) ∨
  (stE S cs = 0 ∧ e = .returned (.tuple #[.agg #[.slice none 0 0, .slice none 0 0], .slice none 0 0, .int .i64 18]) ∧ ∀ T, plE S cs T ≠ 0) ∨
  (stE S cs = 0 ∧ ∃ (g1 g2 gp : Nat) (gI gO : Nat → Nat) (RI RO : Nat → List Int) (p : List Int), e = .returned (.tuple #[.agg #[.slice (some ⟨g1, 0, none⟩) cs.length cs.length, .slice (some ⟨g2, 0, none⟩) cs.length cs.length], .slice (some ⟨gp, 0, none⟩) (nodesN S cs) (nodesN S cs), .int .i64 0]) ∧ RwJ S.lim.length cs.length g1 gI RI w' ∧ RwJ S.lim.length cs.length g2 gO RO w' ∧ Fl 2 w' gp p ∧ p.length = nodesN S cs ∧ Best S cs ⟨(List.range cs.length).map RI, (List.range cs.length).map RO⟩ p)
set_option maxHeartbeats 8000000 in
set_option maxRecDepth 100000 in
theorem Plan_c (A B C D E : Option Addr) (S : Site) (cs : List Car) (n nB nC nD m cA cB cC cD cE : Nat) (w : World) (hn : n = S.lim.length) (hnB : nB = S.exp.length) (hnC : nC = S.buy.length) (hnD : nD = S.sell.length) (hm : m = cs.length)
    (hA : n ≤ cA ∧ cA ≤ 9223372036854775807) (hB : nB ≤ cB ∧ cB ≤ 9223372036854775807) (hC : nC ≤ cC ∧ cC ≤ 9223372036854775807) (hD : nD ≤ cD ∧ cD ≤ 9223372036854775807) (hE : m ≤ cE ∧ cE ≤ 9223372036854775807)
    (hS : SiteAt w A B C D S) (hcs : CarsAt w E cs) :
    Calls Try.prog 50 #[.agg #[.slice A n cA, .slice B nB cB, .slice C nC cC, .slice D nD cD], .slice E m cE] w fun e w' => PlanP S cs w e w' ∧ Below w.heap.size w w' := by
  obtain ⟨u, hu⟩ : ∃ u, u = stE S cs := ⟨_, rfl⟩
  obtain ⟨k, hk⟩ : ∃ k, k = nodesN S cs := ⟨_, rfl⟩
  obtain ⟨l, hl⟩ : ∃ l, l = (carsA S cs cs.length).length := ⟨_, rfl⟩
  have F36 : Hid (∀ V, Below w.heap.size w V → Calls Try.prog 36 #[.agg #[.slice A n cA, .slice B nB cB, .slice C nC cC, .slice D nD cD], .slice E m cE] V (fun e w' => e = .returned (.int .i64 u) ∧ Below V.heap.size V w')) := Lib.hid (fun V hV => by rw [hu]; exact CheckSite_c A B C D E S cs n nB nC nD m cA cB cC cD cE V hn hnB hnC hnD hm hA hB hC hD hE (hS.below hV (Nat.le_refl _)) (hcs.below hV (Nat.le_refl _)))
  have F76 : Hid (u = 0 → ∀ V, Below w.heap.size w V → Calls Try.prog 76 #[.agg #[.slice A n cA, .slice B nB cB, .slice C nC cC, .slice D nD cD], .slice E m cE] V (BlpV (netN S cs) ((List.range m).map (inR S cs)) ((List.range m).map (outR S cs)) m k l V)) := Lib.hid (fun h V hV => by
    have h0 := hu.symm.trans h
    have h2 := siteHead_iff.1 (stE_0 h0).2.1
    obtain rfl : nB = n := by omega
    obtain rfl : nC = nB := by omega
    obtain rfl : nD = nC := by omega
    exact (build_c A B C D E S cs _ m cA cB cC cD cE V h0 hn hm hA hB hC hD hE (hS.below hV (Nat.le_refl _)) (hcs.below hV (Nat.le_refl _))).mono (fun _ _ h => R76.p (by omega) hm hk hl h))
  have HP1 : Hid (u ≠ 0 → ∀ w', PlanP S cs w (.returned (.tuple #[.agg #[.slice none 0 0, .slice none 0 0], .slice none 0 0, .int .i64 u])) w') := Lib.hid (fun h w' => .inl ⟨by rw [← hu]; exact h, by rw [hu]⟩)
  have HP2 : Hid (u = 0 → (∀ fl, isFlow (netN S cs) fl = false) → ∀ w', PlanP S cs w (.returned (.tuple #[.agg #[.slice none 0 0, .slice none 0 0], .slice none 0 0, .int .i64 18])) w') := Lib.hid (fun h h2 w' => .inr (.inl ⟨hu.symm.trans h, rfl, plan_none h2⟩))
  have HP3 : Hid (u = 0 → ∀ (g1 g2 gp : Nat) (fl p : List Int) gI gO w', isFlow (netN S cs) fl = true → p.length = (netN S cs).sup.length → (∀ v, v < p.length → potOk (p.getD v 0) = true) → costK (netN S cs) fl (netN S cs).arcs.length = prA (netN S cs) p (netN S cs).arcs.length → RwJ n m g1 gI (fun i => rowK (fun k => rdF fl ((((List.range m).map (inR S cs)).getD i []).getD k 0)) n n) w' → RwJ n m g2 gO (fun i => rowK (fun k => rdF fl ((((List.range m).map (outR S cs)).getD i []).getD k 0)) n n) w' → Fl 2 w' gp p → PlanP S cs w (.returned (.tuple #[.agg #[.slice (some ⟨g1, 0, none⟩) m m, .slice (some ⟨g2, 0, none⟩) m m], .slice (some ⟨gp, 0, none⟩) k k, .int .i64 0])) w') := Lib.hid (fun h g1 g2 gp fl p gI gO w' h1 h2 h3 h4 h5 h6 h7 => by
    have h0 := hu.symm.trans h
    have hh := (siteHead_iff.1 (stE_0 h0).2.1).1
    subst hm hn hk
    refine .inr (.inr ⟨h0, g1, g2, gp, gI, gO, fun i => (inR S cs i).map (rdF fl), fun i => (outR S cs i).map (rdF fl), p, rfl, ?_, ?_, h7, ?_, plan_good h0 h1 h2 h3 h4⟩)
    · exact h5.of (fun i hi => by rw [getD_mapI _ _ _ _ hi]; exact (rd_row (S := S) (cs := cs) (i := i) _ rfl).symm)
    · exact h6.of (fun i hi => by rw [getD_mapI _ _ _ _ hi]; exact (rd_row (S := S) (cs := cs) (i := i) _ rfl).symm)
    · rw [h2]; exact supN_len S cs)
  have F25 : Hid (u = 0 → ∀ (gs : Nat) (M : Option Addr) (c : Nat) V, NetAt V (some ⟨gs, 0, none⟩) M (netN S cs) → (l ≤ c ∧ c ≤ 9223372036854775807) → Calls Try.prog 25 #[.agg #[.slice (some ⟨gs, 0, none⟩) k k, .slice M l c]] V (fun e w' => ((∃ gf gp fl p, e = .returned (.tuple #[.slice (some ⟨gf, 0, none⟩) l l, .slice (some ⟨gp, 0, none⟩) k k, .int .i64 0]) ∧ Fl 2 w' gf fl ∧ Fl 2 w' gp p ∧ fl.length = l ∧ isFlow (netN S cs) fl = true ∧ p.length = (netN S cs).sup.length ∧ (∀ v, v < p.length → potOk (p.getD v 0) = true) ∧ costK (netN S cs) fl (netN S cs).arcs.length = prA (netN S cs) p (netN S cs).arcs.length) ∨ (e = .returned (.tuple #[.slice none 0 0, .slice none 0 0, .int .i64 18]) ∧ ∀ fl, isFlow (netN S cs) fl = false)) ∧ Below V.heap.size V w')) := Lib.hid (fun h gs M c V hV hc => by
    have h0 := hu.symm.trans h
    have hb := nodes_bd h0
    have ek : k = (netN S cs).sup.length := by rw [hk]; exact (supN_len S cs).symm
    have el : l = (netN S cs).arcs.length := hl
    refine (Least_c (some ⟨gs, 0, none⟩) M (netN S cs) k l k c V ek el ⟨Nat.le_refl _, by omega⟩ hc hV).mono ?_
    rintro e w' ⟨hP, hbl⟩
    refine ⟨?_, hbl⟩
    rcases hP with ⟨hne, _⟩ | ⟨_, gf, gp, fl, p, rfl, z1, z2, _, _, z3, z4, z5, z6, z7⟩ | ⟨_, rfl, _, _, _, hno⟩
    · exact absurd (net_ok h0) hne
    · rw [← ek, ← el]
      exact .inl ⟨gf, gp, fl, p, rfl, z1, z2, by rw [el]; exact z3, z4, by rw [ek]; exact z5, z6, by rw [el]; exact z7⟩
    · exact .inr ⟨rfl, hno⟩)
  have HKB : Hid (u = 0 → (1 ≤ n ∧ n ≤ 48) ∧ m ≤ 8 ∧ l ≤ 1648) := Lib.hid (fun h => by
    have h0 := hu.symm.trans h
    have hh := (siteHead_iff.1 (stE_0 h0).2.1).1
    have h8 := (stE_0 h0).1
    have hlb := carsA_bd h0 cs.length (Nat.le_refl _)
    omega)
  have HIX : Hid (∀ i k, i < m → k < n → (((List.range m).map (inR S cs)).getD i []).getD k 0 < l ∧ (((List.range m).map (outR S cs)).getD i []).getD k 0 < l) := Lib.hid (fun i k hi hk => by
    rw [getD_mapI _ _ _ _ hi, getD_mapI _ _ _ _ hi]
    unfold inR outR
    rw [rowK_full (by omega), rowK_full (by omega)]
    have := ix_in (S := S) (cs := cs) (i := i) (k := k) (by omega) (by omega)
    omega)
  have HRL : Hid (∀ i, i < m → (((List.range m).map (inR S cs)).getD i []).length = n ∧ (((List.range m).map (outR S cs)).getD i []).length = n) := Lib.hid (fun i hi => by
    rw [getD_mapI _ _ _ _ hi, getD_mapI _ _ _ _ hi]
    unfold inR outR
    rw [rowK_len, rowK_len]
    omega)
  clear hn hnB hnC hnD hm hS hcs hu hk hl
  generalize hPP : PlanP S cs w = PP at *
  clear hPP
  have HLL0 : Hid (((List.range m).map (inR S cs)).length = m ∧ ((List.range m).map (outR S cs)).length = m) := Lib.hid (by simp)
  generalize (List.range m).map (inR S cs) = LI at *
  generalize (List.range m).map (outR S cs) = LO at *
  have HLL : Hid (LI.length = m ∧ LO.length = m) := HLL0
  have HB := Lib.hid (((Below.refl w.heap.size w).alloc (Nat.le_refl _) (.cells #[.slice A n cA, .slice B nB cB, .slice C nC cC, .slice D nD cD] 51)).alloc (by simp) (.cells #[.slice none 0 0, .slice none 0 0] 55))
  have XS := Lib.hid ((Blk.new' w #[.slice A n cA, .slice B nB cB, .slice C nC cC, .slice D nD cD] 51).alloc (.cells #[.slice none 0 0, .slice none 0 0] 55))
  have XR := Lib.hid (show Blk ((w.alloc (.cells #[.slice A n cA, .slice B nB cB, .slice C nC cC, .slice D nD cD] 51)).alloc (.cells #[.slice none 0 0, .slice none 0 0] 55)) (w.heap.size + 1) 55 [.slice none 0 0, .slice none 0 0] from by simpa using Blk.new' (w.alloc (.cells #[.slice A n cA, .slice B nB cB, .slice C nC cC, .slice D nD cD] 51)) #[.slice none 0 0, .slice none 0 0] 55)
  go_enter Try.func50, Try.ntmps50
  go_upto_region 1 with fail
  generalize (w.alloc (.cells #[.slice A n cA, .slice B nB cB, .slice C nC cC, .slice D nD cD] 51)).alloc (.cells #[.slice none 0 0, .slice none 0 0] 55) = w1 at HB XS XR ⊢
  have s0 := XS.out.cell 0 rfl
  have s1 := XS.out.cell 1 rfl
  have s2 := XS.out.cell 2 rfl
  have s3 := XS.out.cell 3 rfl
  have sl := XS.out.lt
  go_wp2_with fail
  refine (F36.out w1 HB.out).mono ?_
  rintro e w2 ⟨rfl, hb⟩
  clear s0 s1 s2 s3 sl
  have XS := Lib.hid (XS.out.below hb XS.out.lt)
  have XR := Lib.hid (XR.out.below hb XR.out.lt)
  have HB := Lib.hid (HB.out.trans (hb.mono HB.out.size))
  clear hb
  by_cases h0 : u = 0
  rotate_left
  · have hb0 : (u == 0) = false := by simpa using h0
    have HPX := Lib.hid (HP1.out h0)
    clear h0
    have r0 := XR.out.cell 0 rfl
    have r1 := XR.out.cell 1 rfl
    have rz := XR.out.free 0
    have rz1 := XR.out.free 1
    have rl := XR.out.lt
    have R2 := Lib.hid ((XR.out.setCell 0 (.slice none 0 0)).setCell 1 (.slice none 0 0))
    have B2 := Lib.hid ((HB.out.setCell (p := ⟨w.heap.size + 1, 0, none⟩) (by simp) (.slice none 0 0)).setCell (p := ⟨w.heap.size + 1, 1, none⟩) (by simp) (.slice none 0 0))
    go_wp2_with fail
    have q0 := R2.out.cell 0 rfl
    have q1 := R2.out.cell 1 rfl
    exact bodyPost_ret (v := .tuple #[.agg #[.slice none 0 0, .slice none 0 0], .slice none 0 0, .int .i64 u]) (by simp [results, Try.results50, go_sem, q0, q1]) rfl ⟨HPX.out _, B2.out⟩
  have HP2b := Lib.hid (HP2.out h0)
  have HP3b := Lib.hid (HP3.out h0)
  have F76b := Lib.hid (F76.out h0)
  have F25b := Lib.hid (F25.out h0)
  have HKBb := Lib.hid (HKB.out h0)
  clear HP1 HP2 HP3 F76 F25 HKB
  subst h0
  have s0 := XS.out.cell 0 rfl
  have s1 := XS.out.cell 1 rfl
  have s2 := XS.out.cell 2 rfl
  have s3 := XS.out.cell 3 rfl
  have sl := XS.out.lt
  go_wp2_with fail
  refine (F76b.out w2 HB.out).mono ?_
  rintro e w3 ⟨b, gs, M, AI, AO, c, ci, co, rfl, hX, hNA, hc, hRI, hRO, hb⟩
  clear s0 s1 s2 s3 sl XS
  have XR := Lib.hid (XR.out.below hb XR.out.lt)
  have HB := Lib.hid (HB.out.trans (hb.mono HB.out.size))
  clear hb
  have XB := Lib.hid hX
  have HNA := Lib.hid hNA
  have HC := Lib.hid hc
  have HRI := Lib.hid hRI
  have HRO := Lib.hid hRO
  clear hX hNA hc hRI hRO
  have b0 := XB.out.cell 0 rfl
  have b1 := XB.out.cell 1 rfl
  have bl := XB.out.lt
  go_wp2_with fail
  refine (F25b.out gs M c w3 HNA.out HC.out).mono ?_
  rintro e w4 ⟨hP, hb⟩
  clear b0 b1 bl
  have HRI4 := Lib.hid (HRI.out.1.below hb (Nat.le_refl _))
  have HRO4 := Lib.hid (HRO.out.1.below hb (Nat.le_refl _))
  have XR := Lib.hid (XR.out.below hb XR.out.lt)
  have XB := Lib.hid (XB.out.below hb XB.out.lt)
  have HB := Lib.hid (HB.out.trans (hb.mono HB.out.size))
  clear hb
  rcases hP with ⟨gf, gp, fl, p, rfl, z1, z2, z3, z4, z5, z6, z7⟩ | ⟨rfl, hno⟩
  rotate_left
  · have HPX := Lib.hid (HP2b.out hno)
    clear hno
    have r0 := XR.out.cell 0 rfl
    have r1 := XR.out.cell 1 rfl
    have rz := XR.out.free 0
    have rz1 := XR.out.free 1
    have rl := XR.out.lt
    have R2 := Lib.hid ((XR.out.setCell 0 (.slice none 0 0)).setCell 1 (.slice none 0 0))
    have B2 := Lib.hid ((HB.out.setCell (p := ⟨w.heap.size + 1, 0, none⟩) (by simp) (.slice none 0 0)).setCell (p := ⟨w.heap.size + 1, 1, none⟩) (by simp) (.slice none 0 0))
    go_wp2_with fail
    have q0 := R2.out.cell 0 rfl
    have q1 := R2.out.cell 1 rfl
    exact bodyPost_ret (v := .tuple #[.agg #[.slice none 0 0, .slice none 0 0], .slice none 0 0, .int .i64 18]) (by simp [results, Try.results50, go_sem, q0, q1]) rfl ⟨HPX.out _, B2.out⟩
  have HPX := Lib.hid (fun g1 g2 gI gO w' h5 h6 h7 => HP3b.out g1 g2 gp fl p gI gO w' z4 z5 z6 z7 h5 h6 h7)
  have HZ1 := Lib.hid z1
  have HZ2 := Lib.hid z2
  have HZ3 := Lib.hid z3
  have hkb := HKBb.out
  clear z1 z2 z3 z4 z5 z6 z7
  go_wp2_with fail
  refine (table_c AI AO (some ⟨gf, 0, none⟩) LI LO fl m ci co n l l b _ _ w4 HLL.out.1.symm HLL.out.2.symm (by omega) (by omega) HRI.out.2 HRO.out.2 HRI4.out HRO4.out (fun i hi => (HRL.out i hi).1) (fun i hi => (HRL.out i hi).2) XB.out HZ3.out.symm (by omega) ⟨Nat.le_refl _, by omega⟩ HZ1.out.ints (fun i k hi hk => by rw [HZ3.out]; exact (HIX.out i k hi hk).1) (fun i k hi hk => by rw [HZ3.out]; exact (HIX.out i k hi hk).2)).mono ?_
  rintro e w5 ⟨g1, g2, gI, gO, rfl, hr1, hr2, hb⟩
  have HZ5 := Lib.hid (HZ2.out.below hb)
  have XR := Lib.hid (XR.out.below hb XR.out.lt)
  have HB := Lib.hid (HB.out.trans (hb.mono HB.out.size))
  clear hb
  have NE : ∀ {t : TypeId} {g : Nat} {xs : List Value}, Blk w5 g t xs → t ≠ 55 → g ≠ w.heap.size + 1 := fun h1 h2 e => by subst e; exact blk_type_ne h1 XR.out h2 rfl
  have NR : ∀ {g : Nat} {gI : Nat → Nat} {R : Nat → List Int}, RwJ n m g gI R w5 → RwJ n m g gI R ((w5.setCell ⟨w.heap.size + 1, 0, none⟩ (.slice (some ⟨g1, 0, none⟩) m m)).setCell ⟨w.heap.size + 1, 1, none⟩ (.slice (some ⟨g2, 0, none⟩) m m)) := fun h => by
    obtain ⟨cs, c1, c2⟩ := h.b
    have n1 := NE c1 (by decide)
    have n2 := fun i hi => NE (h.f i hi).1 (by decide)
    exact (h.other (p := ⟨w.heap.size + 1, 0, none⟩) n1 n2 _).other (p := ⟨w.heap.size + 1, 1, none⟩) n1 n2 _
  have HPY := Lib.hid (HPX.out g1 g2 gI gO _ (NR hr1) (NR hr2) ((HZ5.out.set_ne (p := ⟨w.heap.size + 1, 0, none⟩) (NE HZ5.out (by decide)) (.slice (some ⟨g1, 0, none⟩) m m)).set_ne (p := ⟨w.heap.size + 1, 1, none⟩) (NE HZ5.out (by decide)) (.slice (some ⟨g2, 0, none⟩) m m)))
  clear NE NR hr1 hr2
  have r0 := XR.out.cell 0 rfl
  have r1 := XR.out.cell 1 rfl
  have rz := XR.out.free 0
  have rz1 := XR.out.free 1
  have rl := XR.out.lt
  have R2 := Lib.hid ((XR.out.setCell 0 (.slice (some ⟨g1, 0, none⟩) m m)).setCell 1 (.slice (some ⟨g2, 0, none⟩) m m))
  have B2 := Lib.hid ((HB.out.setCell (p := ⟨w.heap.size + 1, 0, none⟩) (by simp) (.slice (some ⟨g1, 0, none⟩) m m)).setCell (p := ⟨w.heap.size + 1, 1, none⟩) (by simp) (.slice (some ⟨g2, 0, none⟩) m m))
  go_wp2_with fail
  have q0 := R2.out.cell 0 rfl
  have q1 := R2.out.cell 1 rfl
  exact bodyPost_ret (v := .tuple #[.agg #[.slice (some ⟨g1, 0, none⟩) m m, .slice (some ⟨g2, 0, none⟩) m m], .slice (some ⟨gp, 0, none⟩) k k, .int .i64 0]) (by simp [results, Try.results50, go_sem, q0, q1]) rfl ⟨HPY.out, B2.out⟩
end Go.Proofs.Ytmebpglkeedaoaa
namespace Go.Proofs.Ytmebpglkeedaoaa
open Go.RowKit Dp
end Go.Proofs.Ytmebpglkeedaoaa
namespace Go.Proofs.Ytmebpglkeedaoaa
open Go.RowKit Dp
def R77 (S : Site) (cs : List Car) (w : World) : Ending → World → Prop := fun e w' => ∃ gs A cap, e = .returned (.agg #[.slice (some ⟨gs, 0, none⟩) (nodesN S cs) (nodesN S cs), .slice A (carsA S cs cs.length).length cap]) ∧ Fl 2 w' gs (supN S cs) ∧ w'.ownsRow w.heap.size 46 4 (.slice A (carsA S cs cs.length).length cap) (carsA S cs cs.length).length (flat arcV (carsA S cs cs.length)) ∧ w.heap.size ≤ gs ∧ Below w.heap.size w w'
end Go.Proofs.Ytmebpglkeedaoaa
namespace Go.Proofs.Ytmebpglkeedaoaa
open Go.RowKit Dp
def NetIn (S : Site) (cs : List Car) (w : World) (gs : Nat) (A : Option Addr) (cap : Nat) (W : World) : Prop := Fl 2 W gs (supN S cs) ∧ W.ownsRow w.heap.size 46 4 (.slice A (carsA S cs cs.length).length cap) (carsA S cs cs.length).length (flat arcV (carsA S cs cs.length)) ∧ w.heap.size ≤ gs ∧ Below w.heap.size w W
def NetP (S : Site) (cs : List Car) (w : World) : Ending → World → Prop := fun e w' =>
  (stE S cs = 0 ∧ ∃ gs A cap, e = .returned (.tuple #[.agg #[.slice (some ⟨gs, 0, none⟩) (nodesN S cs) (nodesN S cs), .slice A (carsA S cs cs.length).length cap], .int .i64 0]) ∧ NetIn S cs w gs A cap w') ∨
  (stE S cs ≠ 0 ∧ e = .returned (.tuple #[.agg #[.slice none 0 0, .slice none 0 0], .int .i64 (stE S cs)]) ∧ Below w.heap.size w w')
theorem NetIn.of_bld {S : Site} {cs : List Car} {w W w0 : World} {b : Nat} (h : BldP S cs W b w0) (hb : Below w.heap.size w W) : ∃ gs A cap v2 v3, NetIn S cs w gs A cap w0 ∧ Blk w0 b 125 [.slice (some ⟨gs, 0, none⟩) (nodesN S cs) (nodesN S cs), .slice A (carsA S cs cs.length).length cap, v2, v3] ∧ Below W.heap.size W w0 := by
  obtain ⟨gs, A, cap, AI, AO, ci, co, vi, vo, h1, _, _⟩ := h
  have hz := hb.size
  refine ⟨gs, A, cap, .slice AI cs.length ci, .slice AO cs.length co, ⟨h1.s, ownV_mono h1.own hz, Nat.le_trans hz h1.lt.1, hb.trans (h1.bel.mono hz)⟩, ?_, h1.bel⟩
  have := h1.b
  rw [supN_len] at this
  exact this
end Go.Proofs.Ytmebpglkeedaoaa
namespace Go.Proofs.Ytmebpglkeedaoaa
open Go.RowKit Dp
end Go.Proofs.Ytmebpglkeedaoaa
namespace Go.Proofs.Ytmebpglkeedaoaa
open Go.RowKit Dp
def EgP (S : Site) (cs : List Car) (w : World) : Ending → World → Prop := fun e w' =>
  (egE S cs = 0 ∧ ∃ A1 A2 c1 c2, e = .returned (.tuple #[.agg #[.slice A1 cs.length c1, .slice A2 cs.length c2], .int .i64 0]) ∧ TabAt w' A1 A2 (egT S cs) ∧ (cs.length ≤ c1 ∧ c1 ≤ 9223372036854775807) ∧ (cs.length ≤ c2 ∧ c2 ≤ 9223372036854775807) ∧ Below w.heap.size w w') ∨
  (egE S cs ≠ 0 ∧ e = .returned (.tuple #[.agg #[.slice none 0 0, .slice none 0 0], .int .i64 (egE S cs)]) ∧ Below w.heap.size w w')
end Go.Proofs.Ytmebpglkeedaoaa
namespace Go.Proofs.Ytmebpglkeedaoaa
open Go.RowKit Dp
theorem own_arcs {W : World} {D n cap : Nat} {A : Option Addr} {l : List Arc} (hA : W.ownsRow D 46 4 (.slice A n cap) n (flat arcV l)) (hn : n = l.length) : ArcsAt W A l ∧ n ≤ cap ∧ cap ≤ 9223372036854775807 := by
  refine ⟨fun i hi => ?_, ?_⟩
  · obtain ⟨g, c, hv, hb, hlt⟩ := hA.form (by omega)
    cases hv
    have hc : ∀ j, j < 4 → W.cell? ⟨g, i * 4 + j, none⟩ = (arcV (l.getD i default))[j]? := fun j hj => by
      rw [World.ownsRow.cellAt hA (i * 4 + j) (by omega)]
      exact flat_get (f := arcV) (s := 4) (fun _ => rfl) _ _ _ _ (getElem_D _ _ _ hi) hj
    have had : (⟨g, 0, none⟩ : Addr).add (i * 4) = ⟨g, i * 4, none⟩ := by unfold Addr.add; split <;> simp_all
    exact ⟨⟨g, 0, none⟩, rfl, hlt, by rw [had]; exact hc 0 (by omega), by rw [had]; exact hc 1 (by omega), by rw [had]; exact hc 2 (by omega), by rw [had]; exact hc 3 (by omega)⟩
  · rcases hA.2 with ⟨h0, h1⟩ | ⟨g', c', cur, hv, _, _, hc1, hc2, _⟩
    · cases h0
      simp
    · cases hv
      unfold maxLen at hc2
      omega
def nuN (S : Site) (cs : List Car) : Net := if stE S cs = 0 then ⟨supN S cs, carsA S cs cs.length⟩ else ⟨[], []⟩
def NetU (S : Site) (cs : List Car) (w : World) : Ending → World → Prop := fun e w' => ∃ (G A : Option Addr) (cG cA : Nat), e = .returned (.tuple #[.agg #[.slice G (nuN S cs).sup.length cG, .slice A (nuN S cs).arcs.length cA], .int .i64 (stE S cs)]) ∧ ((nuN S cs).sup.length ≤ cG ∧ cG ≤ 9223372036854775807) ∧ ((nuN S cs).arcs.length ≤ cA ∧ cA ≤ 9223372036854775807) ∧ NetAt w' G A (nuN S cs) ∧ Below w.heap.size w w'
theorem NetP.u {S : Site} {cs : List Car} {w w' : World} {e : Ending} (h : NetP S cs w e w') : NetU S cs w e w' := by
  rcases h with ⟨h0, gs, A, cap, rfl, h1, h2, _, h3⟩ | ⟨h0, rfl, h3⟩
  · have hb := nodes_bd h0
    obtain ⟨ha, hc1, hc2⟩ := own_arcs h2 rfl
    have hN : nuN S cs = ⟨supN S cs, carsA S cs cs.length⟩ := by unfold nuN; rw [if_pos h0]
    unfold NetU
    rw [hN, h0]
    simp only [supN_len]
    exact ⟨_, A, _, cap, rfl, ⟨Nat.le_refl _, by omega⟩, ⟨hc1, hc2⟩, ⟨h1.ints, ha⟩, h3⟩
  · have hN : nuN S cs = ⟨[], []⟩ := by unfold nuN; rw [if_neg h0]
    unfold NetU
    rw [hN]
    exact ⟨none, none, 0, 0, rfl, by simp, by simp, ⟨fun i hi => by simp at hi, fun i hi => by simp at hi⟩, h3⟩
def lvU (S : Site) (cs : List Car) (T : Tab) : List (List Int) := if plE S cs T = 0 then lvR cs T S.lim.length cs.length else []
def LevU (S : Site) (cs : List Car) (T : Tab) (w : World) : Ending → World → Prop := fun e w' => ∃ (A : Option Addr) (c : Nat), e = .returned (.tuple #[.slice A (lvU S cs T).length c, .int .i64 (plE S cs T)]) ∧ ((lvU S cs T).length ≤ c ∧ c ≤ 9223372036854775807) ∧ RowsAt w' A (lvU S cs T) ∧ Below w.heap.size w w'
theorem LevP.u {S : Site} {cs : List Car} {T : Tab} {w w' : World} {e : Ending} (h : LevP S cs T S.lim.length cs.length w e w') : LevU S cs T w e w' := by
  rcases h with ⟨hb, ⟨h0, v, vs, rfl, h1, h2⟩ | ⟨h0, rfl⟩⟩
  · obtain ⟨A, c, rfl, c1, c2, hr⟩ := rows_at h1 h2
    have hN : lvU S cs T = lvR cs T S.lim.length cs.length := by unfold lvU; rw [if_pos h0]
    unfold LevU
    rw [hN, h0, lvR_len]
    exact ⟨A, c, rfl, ⟨c1, c2⟩, hr, hb⟩
  · have hN : lvU S cs T = [] := by unfold lvU; rw [if_neg h0]
    unfold LevU
    rw [hN]
    exact ⟨none, 0, rfl, by simp, fun i hi => by simp at hi, hb⟩
def egU (S : Site) (cs : List Car) : Tab := if egE S cs = 0 then egT S cs else ⟨[], []⟩
def EgU (S : Site) (cs : List Car) (w : World) : Ending → World → Prop := fun e w' => ∃ (A B : Option Addr) (c d : Nat), e = .returned (.tuple #[.agg #[.slice A (egU S cs).inn.length c, .slice B (egU S cs).out.length d], .int .i64 (egE S cs)]) ∧ ((egU S cs).inn.length ≤ c ∧ c ≤ 9223372036854775807) ∧ ((egU S cs).out.length ≤ d ∧ d ≤ 9223372036854775807) ∧ TabAt w' A B (egU S cs) ∧ Below w.heap.size w w'
theorem EgP.u {S : Site} {cs : List Car} {w w' : World} {e : Ending} (h : EgP S cs w e w') : EgU S cs w e w' := by
  rcases h with ⟨h0, A, B, c, d, rfl, h1, h2, h3, h4⟩ | ⟨h0, rfl, h3⟩
  · have hN : egU S cs = egT S cs := by unfold egU; rw [if_pos h0]
    have l1 : (egT S cs).inn.length = cs.length := by simp [egT]
    have l2 : (egT S cs).out.length = cs.length := by simp [egT]
    unfold EgU
    rw [hN, h0, l1, l2]
    exact ⟨A, B, c, d, rfl, h2, h3, h1, h4⟩
  · have hN : egU S cs = ⟨[], []⟩ := by unfold egU; rw [if_neg h0]
    unfold EgU
    rw [hN]
    exact ⟨none, none, 0, 0, rfl, by simp, by simp, ⟨fun i hi => by simp at hi, fun i hi => by simp at hi⟩, h3⟩
end Go.Proofs.Ytmebpglkeedaoaa
namespace Go.Proofs.Ytmebpglkeedaoaa
open Go.RowKit Dp
def NetV (N : Net) (k l : Nat) (v : Int) (w : World) : Ending → World → Prop := fun e w' => ∃ (G A : Option Addr) (cG cA : Nat), e = .returned (.tuple #[.agg #[.slice G k cG, .slice A l cA], .int .i64 v]) ∧ (k ≤ cG ∧ cG ≤ 9223372036854775807) ∧ (l ≤ cA ∧ cA ≤ 9223372036854775807) ∧ NetAt w' G A N ∧ Below w.heap.size w w'
theorem NetP.v {S : Site} {cs : List Car} {w w' : World} {e : Ending} {N : Net} {k l : Nat} {v : Int} (hN : N = nuN S cs) (hk : k = N.sup.length) (hl : l = N.arcs.length) (hv : v = stE S cs) (h : NetP S cs w e w') : NetV N k l v w e w' := by
  subst hk hl hN hv
  exact NetP.u h
def LevV (R : List (List Int)) (k : Nat) (v : Int) (w : World) : Ending → World → Prop := fun e w' => ∃ (A : Option Addr) (c : Nat), e = .returned (.tuple #[.slice A k c, .int .i64 v]) ∧ (k ≤ c ∧ c ≤ 9223372036854775807) ∧ RowsAt w' A R ∧ Below w.heap.size w w'
theorem LevP.v {S : Site} {cs : List Car} {T : Tab} {n m : Nat} {w w' : World} {e : Ending} {R : List (List Int)} {k : Nat} {v : Int} (hn : n = S.lim.length) (hm : m = cs.length) (hR : R = lvU S cs T) (hk : k = R.length) (hv : v = plE S cs T) (h : LevP S cs T n m w e w') : LevV R k v w e w' := by
  subst hn hm hk hR hv
  exact LevP.u h
def EgV (T : Tab) (k l : Nat) (v : Int) (w : World) : Ending → World → Prop := fun e w' => ∃ (A B : Option Addr) (c d : Nat), e = .returned (.tuple #[.agg #[.slice A k c, .slice B l d], .int .i64 v]) ∧ (k ≤ c ∧ c ≤ 9223372036854775807) ∧ (l ≤ d ∧ d ≤ 9223372036854775807) ∧ TabAt w' A B T ∧ Below w.heap.size w w'
theorem EgP.v {S : Site} {cs : List Car} {w w' : World} {e : Ending} {T : Tab} {k l : Nat} {v : Int} (hT : T = egU S cs) (hk : k = T.inn.length) (hl : l = T.out.length) (hv : v = egE S cs) (h : EgP S cs w e w') : EgV T k l v w e w' := by
  subst hk hl hT hv
  exact EgP.u h
end Go.Proofs.Ytmebpglkeedaoaa
namespace Go.Proofs.Ytmebpglkeedaoaa
open Go.RowKit Dp
theorem mv_nat (l : List Int) (a : Nat) (d v : Int) (h : v = l.getD a 0 + d) : mv l (a : Int) d = l.set a v := by subst h; simp [mv]
theorem ret2 {a b c d : Int} (h1 : a = b) (h2 : c = d) : Ending.returned (.tuple #[.int .i64 a, .int .i64 c]) = .returned (.tuple #[.int .i64 b, .int .i64 d]) := by rw [h1, h2]
def CoJ (w : World) (A B : Option Addr) (n cA m cB g c : Nat) (l : List Int) (W : World) : Prop := Below w.heap.size w W ∧ Blk W w.heap.size 25 [.slice A n cA, .slice B m cB] ∧ OwnI w.heap.size W g c l
theorem CoJ.put {w : World} {A B : Option Addr} {n cA m cB g c : Nat} {l : List Int} {W : World} (h : CoJ w A B n cA m cB g c l W) (hg : w.heap.size < g) (j : Nat) (v : Int) : CoJ w A B n cA m cB g c (l.set j v) (W.setCell ⟨g, j, none⟩ (.int .i64 v)) :=
  ⟨h.1.setCell (by simp; omega) _, h.2.1.setCell_ne (by simp; omega) _, h.2.2.put j v⟩
theorem CoJ.alloc {w : World} {A B : Option Addr} {n cA m cB g c : Nat} {l : List Int} {W : World} (h : CoJ w A B n cA m cB g c l W) (o : Obj) : CoJ w A B n cA m cB g c l (W.alloc o) :=
  ⟨h.1.alloc h.1.size _, h.2.1.alloc _, h.2.2.below ((Below.refl _ _).alloc (Nat.le_refl _) _)⟩
set_option maxHeartbeats 2000000 in
set_option maxRecDepth 100000 in
theorem Cost_c (A B C : Option Addr) (N : Net) (fl : List Int) (n m p cA cB cC : Nat) (w : World) (hn : n = N.sup.length) (hm : m = N.arcs.length) (hp : p = fl.length) (hA : n ≤ cA ∧ cA ≤ 9223372036854775807) (hB : m ≤ cB ∧ cB ≤ 9223372036854775807) (hC : p ≤ cC ∧ cC ≤ 9223372036854775807) (hN : NetAt w A B N) (hF : IntsAt w C fl) :
    Calls Try.prog 14 #[.agg #[.slice A n cA, .slice B m cB], .slice C p cC] w fun e w' => e = .returned (.tuple #[.int .i64 (coV N fl), .int .i64 (coE N fl)]) ∧ Below w.heap.size w w' := by
  have HN := Lib.hid hn
  have HM := Lib.hid hm
  have HP := Lib.hid hp
  have HNA := Lib.hid hN
  have HFA := Lib.hid hF
  clear hn hm hp hN hF
  have B1 := Lib.hid (Blk.new' w #[.slice A n cA, .slice B m cB] 25)
  have HB1 := Lib.hid ((Below.refl w.heap.size w).alloc (Nat.le_refl _) (.cells #[.slice A n cA, .slice B m cB] 25))
  go_enter Try.func14, Try.ntmps14
  go_wp2_with fail
  generalize w.alloc (.cells #[.slice A n cA, .slice B m cB] 25) = w1 at B1 HB1 ⊢
  refine (Check_c A B N n m cA cB w1 HN.out HM.out hA hB (HNA.out.below HB1.out (Nat.le_refl _))).mono ?_
  rintro e w2 ⟨rfl, hb2⟩
  have B2 := Lib.hid (B1.out.below hb2 B1.out.lt)
  have HB2 := Lib.hid (HB1.out.trans (hb2.mono HB1.out.size))
  clear hb2 B1 HB1
  have cA0 := B2.out.cell 0 rfl
  have cB0 := B2.out.cell 1 rfl
  by_cases hch : chE N = 0
  · have hce := net_len hch
    rw [hch]
    by_cases hpm : p = m
    · have hmm : (p : Int) = (m : Int) := by omega
      have n1 : 1 ≤ n := by rw [HN.out]; exact hce.1
      have n2 : n ≤ 1024 := by rw [HN.out]; exact hce.2.1
      have m2 : m ≤ 2048 := by rw [HM.out]; exact hce.2.2
      have HCH := Lib.hid hch
      clear hch hce
      go_wp2_with fail
      trace "clone"
      refine (clone_c A N.sup n cA w2 HN.out n1 (by omega) (HNA.out.1.below HB2.out (Nat.le_refl _))).mono ?_
      rintro e w3 ⟨g, c, rfl, hb3, z1, z2, ho3⟩
      have B3 := Lib.hid (B2.out.below hb3 B2.out.lt)
      have HB3 := Lib.hid (HB2.out.trans (hb3.mono HB2.out.size))
      have zg : w.heap.size < g := Nat.lt_of_lt_of_le B2.out.lt z1
      have HO3 : Hid (OwnI w.heap.size w3 g c N.sup) := Lib.hid (ho3.mono HB2.out.size)
      clear hb3 ho3 B2 HB2 cA0 cB0 z1
      have cA0 := B3.out.cell 0 rfl
      have cB0 := B3.out.cell 1 rfl
      go_wp2_with fail
      have J3 := Lib.hid (show CoJ w A B n cA m cB g c N.sup w3 from ⟨HB3.out, B3.out, HO3.out⟩)
      clear B3 HB3 HO3 cA0 cB0
      go_loopw [8, 31] (fun v i wr => ∃ k : Nat, k ≤ m ∧ i = .int .i64 k ∧ v = .int .i64 (costK N fl k) ∧ Hid (CoJ w A B n cA m cB g c (leftK N fl k) wr ∧ ∀ x, x < k → 0 ≤ fl.getD x 0 ∧ fl.getD x 0 ≤ (N.arcs.getD x default).cap)) (fun _ i _ => m - (intOf i).toNat)
      case atStart => exact ⟨0, Nat.zero_le _, rfl, rfl, Lib.hid ⟨J3.out, fun x hx => absurd hx (Nat.not_lt_zero _)⟩⟩
      case round =>
        obtain ⟨k, hk, rfl, rfl, HJ⟩ := hrel
        have bc := costK_bd HCH.out k (by rw [← HM.out]; exact hk) HJ.out.2
        have BL := Lib.hid (leftK_bd HCH.out k (by rw [← HM.out]; exact hk) HJ.out.2)
        have cA0 := HJ.out.1.2.1.cell 0 rfl
        have cB0 := HJ.out.1.2.1.cell 1 rfl
        by_cases hlt : k < m
        · obtain ⟨ad, rfl, hbl, d0, d1, d2, d3⟩ := (HNA.out.2.below HJ.out.1.1 (Nat.le_refl _)) k (by rw [← HM.out]; exact hlt)
          obtain ⟨af, rfl, hbf, hf0⟩ := HFA.out k (by rw [← HP.out, hpm]; exact hlt)
          have HFC := Lib.hid (fun (W : World) (h : Below w.heap.size w W) => (h.cell (p := af.add k) (by rw [block_add]; exact hbf)).trans hf0)
          clear hf0 hbf
          obtain ⟨a1, a2, a3, a4, a5⟩ := net_arc HCH.out k (by rw [← HM.out]; exact hlt)
          rw [← HN.out] at a1 a2
          have HL1 := Lib.hid (show leftK N fl (k + 1) = mv (mv (leftK N fl k) (N.arcs.getD k default).fr (-(fl.getD k 0))) (N.arcs.getD k default).to (fl.getD k 0) from rfl)
          have HK1 := Lib.hid (show costK N fl (k + 1) = costK N fl k + fl.getD k 0 * (N.arcs.getD k default).cost from rfl)
          have HCAP := Lib.hid (fun h => isFlow_cap (N := N) (fl := fl) k (by rw [← HM.out]; exact hlt) h)
          have HLL := Lib.hid (leftK_length N fl k)
          generalize har : N.arcs.getD k default = ar at *
          obtain ⟨fr, «to», ca, co⟩ := ar
          have HAR := Lib.hid (show (N.arcs.getD k default).cap = ca from by rw [har])
          clear har
          simp only at d0 d1 d2 d3 a1 a2 a3 a4 a5 HCAP HL1 HK1
          obtain ⟨a, rfl⟩ : ∃ a : Nat, fr = a := ⟨fr.toNat, by omega⟩
          obtain ⟨b, rfl⟩ : ∃ b : Nat, «to» = b := ⟨«to».toNat, by omega⟩
          generalize hfk : fl.getD k 0 = f at *
          have HFK := Lib.hid hfk
          clear hfk
          have HJ2 := Lib.hid HJ.out.2
          have J0 := Lib.hid HJ.out.1
          clear HJ
          generalize leftK N fl k = l at *
          generalize hS : costK N fl k = S at *
          clear hS
          have gne : wr.heap.size ≠ g := by have := J0.out.2.2.lt; omega
          go_upto_region 10 with fail
          have J4 := Lib.hid (J0.out.alloc (.cells #[.int .i64 a, .int .i64 b, .int .i64 ca, .int .i64 co] 46))
          have BX := Lib.hid (Blk.new' wr #[.int .i64 a, .int .i64 b, .int .i64 ca, .int .i64 co] 46)
          generalize wr.alloc (.cells #[.int .i64 a, .int .i64 b, .int .i64 ca, .int .i64 co] 46) = wx at J4 BX ⊢
          generalize wr.heap.size = ga at *
          have e0 := BX.out.cell 0 rfl
          have e1 := BX.out.cell 1 rfl
          have e2 := BX.out.cell 2 rfl
          have e3 := BX.out.cell 3 rfl
          have fc := HFC.out _ J4.out.1
          clear d0 d1 d2 d3 cA0 cB0
          have hlen : fl.length = N.arcs.length := by rw [← HP.out, ← HM.out]; exact hpm
          have HLEN := Lib.hid hlen
          clear hlen
          by_cases f1 : f < 0
          · have E := Lib.hid (co_no HCH.out HLEN.out (HCAP.out (by omega)))
            go_wp2
            go_ret2
            exact ⟨ret2 E.out.2.symm E.out.1.symm, J4.out.1⟩
          by_cases f2 : ca < f
          · have E := Lib.hid (co_no HCH.out HLEN.out (HCAP.out (by omega)))
            go_wp2
            go_ret2
            exact ⟨ret2 E.out.2.symm E.out.1.symm, J4.out.1⟩
          have la0 := J4.out.2.2.cell a (by rw [HLL.out, ← HN.out]; omega)
          have fr0 := J4.out.2.2.free a
          have lb0 := BL.out a (by rw [← HN.out]; omega)
          have M1 := Lib.hid (mv_nat l a (-f) (l.getD a 0 - f) (by omega))
          have M1B := Lib.hid (mv_bd (l := l) (i := (a : Int)) (d := -f) (B := 268435456 + 2097152 * k) (D := 1048576) (by omega) (by rw [HLL.out, ← HN.out]; omega) (fun j hj => BL.out j (by rw [← HLL.out]; exact hj)))
          have M1L := Lib.hid (mv_length l (a : Int) (-f))
          generalize l.getD a 0 = la at *
          go_upto_region 14 with fail
          refine gen_world (fun W => CoJ w A (some ad) n cA m cB g c (mv l a (-f)) W ∧ Blk W ga 46 [.int .i64 a, .int .i64 b, .int .i64 ca, .int .i64 co]) ⟨by rw [M1.out]; exact J4.out.put zg a _, BX.out.setCell_ne gne _⟩ ?_
          rintro w5 ⟨j5, bx5⟩
          have J5 := Lib.hid j5
          have BX5 := Lib.hid bx5
          clear j5 bx5 e0 e1 e2 e3 fc la0 fr0 lb0 J4 BX
          generalize mv l (a : Int) (-f) = l5 at *
          have e0 := BX5.out.cell 0 rfl
          have e1 := BX5.out.cell 1 rfl
          have e2 := BX5.out.cell 2 rfl
          have e3 := BX5.out.cell 3 rfl
          have la0 := J5.out.2.2.cell b (by rw [M1L.out, HLL.out, ← HN.out]; omega)
          have fr0 := J5.out.2.2.free b
          have lb0 := M1B.out b (by rw [M1L.out, HLL.out, ← HN.out]; omega)
          have M2 := Lib.hid (mv_nat l5 b f (l5.getD b 0 + f) (by omega))
          generalize l5.getD b 0 = lb at *
          go_upto_region 15 with fail
          refine gen_world (fun W => CoJ w A (some ad) n cA m cB g c (mv l5 b f) W ∧ Blk W ga 46 [.int .i64 a, .int .i64 b, .int .i64 ca, .int .i64 co]) ⟨by rw [M2.out]; exact J5.out.put zg b _, BX5.out.setCell_ne gne _⟩ ?_
          rintro w6 ⟨j6, bx6⟩
          have J6 := Lib.hid j6
          have BX6 := Lib.hid bx6
          clear j6 bx6 e0 e1 e2 e3 la0 fr0 lb0 J5 BX5
          have e0 := BX6.out.cell 0 rfl
          have e3 := BX6.out.cell 3 rfl
          have p1 : f * co ≤ 1099511627776 ∧ -1099511627776 ≤ f * co := by
            have q1 := Int.mul_le_mul_of_nonneg_left a5.2 (show (0:Int) ≤ f by omega)
            have q2 := Int.mul_le_mul_of_nonneg_left a5.1 (show (0:Int) ≤ f by omega)
            omega
          go_wp2
          go_roundw
          case rel =>
            refine ⟨k + 1, by omega, by go_num, by rw [HK1.out], Lib.hid ⟨?_, fun x hx => ?_⟩⟩
            · rw [HL1.out]; exact J6.out
            · by_cases hjk : x < k
              · exact HJ2.out x hjk
              · obtain rfl : x = k := by omega
                rw [HFK.out, HAR.out]; omega
          case measure => simp [intOf]; omega
        · obtain rfl : k = m := by omega
          have hlen : fl.length = N.arcs.length := by rw [← HP.out, ← HM.out]; exact hpm
          have HLEN := Lib.hid hlen
          clear hlen
          have J7 := Lib.hid HJ.out.1
          have HLL := Lib.hid (leftK_length N fl k)
          have EL := Lib.hid (fun j hj h => co_no HCH.out HLEN.out (isFlow_left (N := N) (fl := fl) j hj (by rw [← HM.out]; exact h)))
          have EY := Lib.hid (fun h2 => co_yes HCH.out HLEN.out (isFlow_yes HLEN.out (fun x hx => HJ.out.2 x (by rw [HM.out]; exact hx)) (by rw [← HM.out]; exact h2)))
          have EC := Lib.hid (show costK N fl k = costK N fl N.arcs.length from by rw [HM.out])
          clear HJ
          generalize leftK N fl k = l at *
          generalize costK N fl k = S at *
          go_wp2_with fail
          go_loop [73] (fun i => ∃ j : Nat, j ≤ n ∧ i = .int .i64 j ∧ Hid (∀ x, x < j → l.getD x 0 = 0)) (fun i => n - (intOf i).toNat)
          case atStart => exact ⟨0, Nat.zero_le _, rfl, Lib.hid (fun x hx => absurd hx (Nat.not_lt_zero _))⟩
          case round =>
            obtain ⟨j, hj, rfl, HZ⟩ := hrel
            by_cases hlt2 : j < n
            · have hc0 := J7.out.2.2.cell j (by rw [HLL.out, ← HN.out]; exact hlt2)
              have EJ := Lib.hid (EL.out j (by rw [← HN.out]; exact hlt2))
              generalize hx : l.getD j 0 = x at *
              have HX := Lib.hid hx
              clear hx
              by_cases x0 : x = 0
              · subst x0
                go_wp2
                go_round
                case rel =>
                  refine ⟨j + 1, by omega, by go_num, Lib.hid (fun y hy => ?_)⟩
                  by_cases hjk : y < j
                  · exact HZ.out y hjk
                  · obtain rfl : y = j := by omega
                    exact HX.out
                case measure => simp [intOf]; omega
              · have E := Lib.hid (EJ.out x0)
                have hx0 : (x == 0) = false := by simpa using x0
                clear x0
                go_wp2
                go_ret2
                exact ⟨ret2 E.out.2.symm E.out.1.symm, J7.out.1⟩
            · have E := Lib.hid (EY.out (fun x hx => HZ.out x (by rw [← HN.out] at hx; omega)))
              go_wp2
              go_ret2
              exact ⟨ret2 (by rw [E.out.2, EC.out]) E.out.1.symm, J7.out.1⟩
    · have E := Lib.hid (co_len (fl := fl) hch (by rw [← HP.out, ← HM.out]; exact hpm))
      have hmm : ¬ (p : Int) = (m : Int) := by omega
      have hmm' : ((p : Int) == (m : Int)) = false := by simpa using hmm
      go_wp2
      go_ret2
      exact ⟨ret2 E.out.2.symm E.out.1.symm, HB2.out⟩
  · have E := Lib.hid (co_ch (fl := fl) hch)
    have hne : (chE N == 0) = false := by simpa using hch
    generalize chE N = q at *
    go_wp2
    go_ret2
    exact ⟨ret2 E.out.2.symm E.out.1.symm, HB2.out⟩
end Go.Proofs.Ytmebpglkeedaoaa
namespace Go.Proofs.Ytmebpglkeedaoaa
open Go.RowKit Dp
end Go.Proofs.Ytmebpglkeedaoaa
namespace Go.Proofs.Ytmebpglkeedaoaa
open Go.RowKit Dp
theorem CoJ.below {w : World} {A B : Option Addr} {n cA m cB g c : Nat} {l : List Int} {W W' : World} (h : CoJ w A B n cA m cB g c l W) (hb : Below W.heap.size W W') : CoJ w A B n cA m cB g c l W' :=
  ⟨h.1.trans (hb.mono h.1.size), h.2.1.below hb h.2.1.lt, h.2.2.below hb⟩
end Go.Proofs.Ytmebpglkeedaoaa
namespace Go.Proofs.Ytmebpglkeedaoaa
open Go.RowKit Dp
end Go.Proofs.Ytmebpglkeedaoaa
namespace Go.Proofs.Ytmebpglkeedaoaa
open Go.RowKit Dp
set_option maxHeartbeats 2000000 in
set_option maxRecDepth 100000 in
theorem Proves_c (A B C : Option Addr) (N : Net) (ps : List Int) (n m p cA cB cC : Nat) (w : World) (hn : n = N.sup.length) (hm : m = N.arcs.length) (hp : p = ps.length) (hA : n ≤ cA ∧ cA ≤ 9223372036854775807) (hB : m ≤ cB ∧ cB ≤ 9223372036854775807) (hC : p ≤ cC ∧ cC ≤ 9223372036854775807) (hN : NetAt w A B N) (hF : IntsAt w C ps) :
    Calls Try.prog 16 #[.agg #[.slice A n cA, .slice B m cB], .slice C p cC] w fun e w' => e = .returned (.tuple #[.int .i64 (prV N ps), .int .i64 (prE N ps)]) ∧ Below w.heap.size w w' := by
  have HN := Lib.hid hn
  have HM := Lib.hid hm
  have HP := Lib.hid hp
  have HNA := Lib.hid hN
  have HFA := Lib.hid hF
  clear hn hm hp hN hF
  have B1 := Lib.hid (Blk.new' w #[.slice A n cA, .slice B m cB] 25)
  have HB1 := Lib.hid ((Below.refl w.heap.size w).alloc (Nat.le_refl _) (.cells #[.slice A n cA, .slice B m cB] 25))
  go_enter Try.func16, Try.ntmps16
  go_wp2_with fail
  generalize w.alloc (.cells #[.slice A n cA, .slice B m cB] 25) = w1 at B1 HB1 ⊢
  refine (Check_c A B N n m cA cB w1 HN.out HM.out hA hB (HNA.out.below HB1.out (Nat.le_refl _))).mono ?_
  rintro e w2 ⟨rfl, hb2⟩
  have B2 := Lib.hid (B1.out.below hb2 B1.out.lt)
  have HB2 := Lib.hid (HB1.out.trans (hb2.mono HB1.out.size))
  clear hb2 B1 HB1
  have cA0 := B2.out.cell 0 rfl
  have cB0 := B2.out.cell 1 rfl
  by_cases hch : chE N = 0
  · have hce := net_len hch
    rw [hch]
    by_cases hpn : p = n
    · have HLEN := Lib.hid (show ps.length = N.sup.length from by rw [← HP.out, ← HN.out]; exact hpn)
      subst hpn
      have n1 : 1 ≤ p := by rw [HN.out]; exact hce.1
      have n2 : p ≤ 1024 := by rw [HN.out]; exact hce.2.1
      have m2 : m ≤ 2048 := by rw [HM.out]; exact hce.2.2
      have HCH := Lib.hid hch
      clear hch hce
      obtain ⟨aS, rfl, hbS, _⟩ := HNA.out.1 0 (by rw [← HN.out]; omega)
      obtain ⟨aP, rfl, hbP, _⟩ := HFA.out 0 (by rw [← HP.out]; omega)
      have SC : Hid (∀ W, Below w.heap.size w W → ∀ k, k < p → W.cell? (aS.add k) = some (.int .i64 (N.sup.getD k 0))) := Lib.hid (fun W h k hk => by
        obtain ⟨a', e, hb, hc⟩ := HNA.out.1 k (by rw [← HN.out]; exact hk)
        cases e
        exact (h.cell (by rw [block_add]; exact hb)).trans hc)
      have PC : Hid (∀ W, Below w.heap.size w W → ∀ k, k < p → W.cell? (aP.add k) = some (.int .i64 (ps.getD k 0)) ∧ (aP.add k).block < W.heap.size) := Lib.hid (fun W h k hk => by
        obtain ⟨a', e, hb, hc⟩ := HFA.out k (by rw [← HP.out]; exact hk)
        cases e
        exact ⟨(h.cell (by rw [block_add]; exact hb)).trans hc, by rw [block_add]; have := h.size; omega⟩)
      go_wp2_with fail
      go_loop [7, 25] (fun v i => ∃ k : Nat, k ≤ p ∧ i = .int .i64 k ∧ v = .int .i64 (prS N ps k) ∧ Hid (∀ x, x < k → potOk (ps.getD x 0) = true)) (fun _ i => p - (intOf i).toNat)
      case atStart => exact ⟨0, Nat.zero_le _, rfl, rfl, Lib.hid (fun x hx => absurd hx (Nat.not_lt_zero _))⟩
      case round =>
        obtain ⟨k, hk, rfl, rfl, HK⟩ := hrel
        have bs := prS_bd2 HCH.out k (by rw [← HN.out]; exact hk) HK.out
        by_cases hlt : k < p
        · have sc := SC.out _ HB2.out k hlt
          have pc := (PC.out _ HB2.out k hlt).1
          have hsu := net_sup HCH.out k (by rw [← HN.out]; exact hlt)
          have ENO := Lib.hid (fun h => pr_no HCH.out HLEN.out k (by rw [← HP.out]; exact hlt) h)
          have HS1 := Lib.hid (show prS N ps (k + 1) = prS N ps k - ps.getD k 0 * N.sup.getD k 0 from rfl)
          generalize N.sup.getD k 0 = s at *
          generalize hx : ps.getD k 0 = x at *
          have HX := Lib.hid hx
          clear hx
          generalize prS N ps k = S at *
          by_cases h1 : x < -1073741824
          · have E := Lib.hid (ENO.out (by simp [potOk]; omega))
            go_wp2
            go_ret2
            exact ⟨ret2 E.out.2.symm E.out.1.symm, HB2.out⟩
          by_cases h2 : 1073741824 < x
          · have E := Lib.hid (ENO.out (by simp [potOk]; omega))
            go_wp2
            go_ret2
            exact ⟨ret2 E.out.2.symm E.out.1.symm, HB2.out⟩
          have p1 : x * s ≤ 288230376151711744 ∧ -288230376151711744 ≤ x * s := by
            have := mul_abs (p := x) (s := s) (P := 1073741824) (by omega)
            have : abs s ≤ 268435456 := by unfold abs; omega
            omega
          go_wp2
          go_round
          case rel =>
            refine ⟨k + 1, by omega, by go_num, by rw [HS1.out], Lib.hid (fun y hy => ?_)⟩
            by_cases hjk : y < k
            · exact HK.out y hjk
            · obtain rfl : y = k := by omega
              rw [HX.out]; simp [potOk]; omega
          case measure => simp [intOf]; omega
        · obtain rfl : k = p := by omega
          have HPO : Hid (∀ x, x < ps.length → potOk (ps.getD x 0) = true) := Lib.hid (fun x hx => HK.out x (by rw [HP.out]; exact hx))
          have E := Lib.hid (pr_yes HCH.out HLEN.out HPO.out)
          have E0 := Lib.hid (show prS N ps k = prA N ps 0 from by rw [HN.out]; rfl)
          rw [E0.out]
          rw [E0.out] at bs
          clear HK
          go_wp2_with fail
          trace "loop 2"
          go_loopw [7, 49] (fun v i wr => ∃ j : Nat, j ≤ m ∧ i = .int .i64 j ∧ v = .int .i64 (prA N ps j) ∧ Hid (Below w2.heap.size w2 wr)) (fun _ i _ => m - (intOf i).toNat)
          case atStart => exact ⟨0, Nat.zero_le _, rfl, rfl, Lib.hid (Below.refl _ _)⟩
          case round =>
            obtain ⟨j, hj, rfl, rfl, HB⟩ := hrel
            have ba := prA_bd HCH.out HLEN.out HPO.out j (by rw [← HM.out]; exact hj)
            have HBR := Lib.hid (HB2.out.trans (HB.out.mono HB2.out.size))
            by_cases hlt2 : j < m
            · obtain ⟨ad, rfl, hbl, d0, d1, d2, d3⟩ := (HNA.out.2.below HBR.out (Nat.le_refl _)) j (by rw [← HM.out]; exact hlt2)
              obtain ⟨a1, a2, a3, a4, a5⟩ := net_arc HCH.out j (by rw [← HM.out]; exact hlt2)
              rw [← HN.out] at a1 a2
              have HA1 := Lib.hid (show prA N ps (j + 1) = prA N ps j + prW (N.arcs.getD j default) ps from rfl)
              generalize N.arcs.getD j default = ar at *
              obtain ⟨fr, «to», ca, co⟩ := ar
              simp only at d0 d1 d2 d3 a1 a2 a3 a4 a5
              obtain ⟨a, rfl⟩ : ∃ a : Nat, fr = a := ⟨fr.toNat, by omega⟩
              obtain ⟨b, rfl⟩ : ∃ b : Nat, «to» = b := ⟨«to».toNat, by omega⟩
              have pa := potOk_iff.1 (HPO.out a (by rw [← HP.out]; omega))
              have pb := potOk_iff.1 (HPO.out b (by rw [← HP.out]; omega))
              have HW := Lib.hid (show prW ⟨a, b, ca, co⟩ ps = ca * min 0 (co + ps.getD a 0 - ps.getD b 0) from rfl)
              have PA := Lib.hid (fun W h => PC.out W h a (by omega))
              have PB := Lib.hid (fun W h => PC.out W h b (by omega))
              generalize ps.getD a 0 = x at *
              generalize ps.getD b 0 = y at *
              generalize prA N ps j = S at *
              have hx1 := fun ts t W => minTwo 0 (co + x - y) ts t W
              generalize hz : min 0 (co + x - y) = z at *
              have hzb : -2148532224 ≤ z ∧ z ≤ 0 := by omega
              clear hz
              have p1 : ca * z ≤ 0 ∧ -2252899325313024 ≤ ca * z := by
                have q1 := Int.mul_le_mul_of_nonneg_left hzb.1 a4.1
                have q2 := Int.mul_le_mul_of_nonneg_left hzb.2 a4.1
                omega
              go_upto_region 17 with fail
              have HBX := Lib.hid (HBR.out.alloc HBR.out.size (.cells #[.int .i64 a, .int .i64 b, .int .i64 ca, .int .i64 co] 46))
              have HBJ := Lib.hid (HB.out.alloc HB.out.size (.cells #[.int .i64 a, .int .i64 b, .int .i64 ca, .int .i64 co] 46))
              have BX := Lib.hid (Blk.new' wr #[.int .i64 a, .int .i64 b, .int .i64 ca, .int .i64 co] 46)
              generalize wr.alloc (.cells #[.int .i64 a, .int .i64 b, .int .i64 ca, .int .i64 co] 46) = wx at HBX HBJ BX ⊢
              generalize wr.heap.size = ga at *
              have e0 := BX.out.cell 0 rfl
              have e1 := BX.out.cell 1 rfl
              have e2 := BX.out.cell 2 rfl
              have e3 := BX.out.cell 3 rfl
              have zga := BX.out.lt
              obtain ⟨fa, fab⟩ := PA.out _ HBX.out
              obtain ⟨fb, fbb⟩ := PB.out _ HBX.out
              clear d0 d1 d2 d3
              refine wp_region_past (by kernel_rfl) (by kernel_rfl) ?_
              repeat (go_big_quiet_step (fail))
              refine wpQuiet_nil ?_
              intro xx
              have HXX := Lib.hid xx.far
              generalize xx.w = w4 at HXX ⊢
              go_wp2
              go_roundw
              case rel => exact ⟨j + 1, by omega, by go_num, by rw [HA1.out, HW.out], Lib.hid (HBJ.out.trans (HXX.out.mono HBJ.out.size))⟩
              case measure => simp [intOf]; omega
            · obtain rfl : j = m := by omega
              go_wp2
              go_ret2
              exact ⟨ret2 (by rw [E.out.2, HM.out]) E.out.1.symm, HBR.out⟩
    · have E := Lib.hid (pr_len (ps := ps) hch (by rw [← HP.out, ← HN.out]; exact hpn))
      have hmm : ¬ (p : Int) = (n : Int) := by omega
      have hmm' : ((p : Int) == (n : Int)) = false := by simpa using hmm
      go_wp2
      go_ret2
      exact ⟨ret2 E.out.2.symm E.out.1.symm, HB2.out⟩
  · have E := Lib.hid (pr_ch (ps := ps) hch)
    have hne : (chE N == 0) = false := by simpa using hch
    generalize chE N = q at *
    go_wp2
    go_ret2
    exact ⟨ret2 E.out.2.symm E.out.1.symm, HB2.out⟩
end Go.Proofs.Ytmebpglkeedaoaa
namespace Go.Proofs.Ytmebpglkeedaoaa
open Go.RowKit Dp
def BltV (N : Net) (k l : Nat) (w : World) : Ending → World → Prop := fun e w' => ∃ (b gs : Nat) (A : Option Addr) (c : Nat) (v2 v3 : Value), e = .returned (.pointer (some ⟨b, 0, none⟩)) ∧ Blk w' b 125 [.slice (some ⟨gs, 0, none⟩) k k, .slice A l c, v2, v3] ∧ NetAt w' (some ⟨gs, 0, none⟩) A N ∧ (l ≤ c ∧ c ≤ 9223372036854775807) ∧ Below w.heap.size w w'
theorem R76.v {S : Site} {cs : List Car} {w w' : World} {e : Ending} {N : Net} {k l : Nat} (hN : N = netN S cs) (hk : k = N.sup.length) (hl : l = N.arcs.length) (h : R76 S cs w e w') : BltV N k l w e w' := by
  subst hk hl hN
  obtain ⟨b, rfl, hb⟩ := h
  obtain ⟨gs, A, c, v2, v3, h1, h2, h3⟩ := NetIn.of_bld hb (Below.refl _ _)
  obtain ⟨ha, hc⟩ := own_arcs h1.2.1 rfl
  unfold BltV netN
  simp only [supN_len]
  exact ⟨b, gs, A, c, v2, v3, rfl, h2, ⟨h1.1.ints, ha⟩, hc, h3⟩
end Go.Proofs.Ytmebpglkeedaoaa
namespace Go.Proofs.Ytmebpglkeedaoaa
open Go.RowKit Dp
end Go.Proofs.Ytmebpglkeedaoaa
namespace Go.Proofs.Ytmebpglkeedaoaa
open Go.RowKit Dp
def NtV (N : Net) (k l : Nat) (w : World) : Ending → World → Prop := fun e w' => ∃ (gs : Nat) (A : Option Addr) (c : Nat), e = .returned (.agg #[.slice (some ⟨gs, 0, none⟩) k k, .slice A l c]) ∧ NetAt w' (some ⟨gs, 0, none⟩) A N ∧ (l ≤ c ∧ c ≤ 9223372036854775807) ∧ Below w.heap.size w w'
theorem R77.v {S : Site} {cs : List Car} {w w' : World} {e : Ending} {N : Net} {k l : Nat} (hN : N = netN S cs) (hk : k = N.sup.length) (hl : l = N.arcs.length) (h : R77 S cs w e w') : NtV N k l w e w' := by
  subst hk hl hN
  obtain ⟨gs, A, c, rfl, h1, h2, _, h3⟩ := h
  obtain ⟨ha, hc⟩ := own_arcs h2 rfl
  unfold NtV netN
  simp only [supN_len]
  exact ⟨gs, A, c, rfl, ⟨h1.ints, ha⟩, hc, h3⟩
end Go.Proofs.Ytmebpglkeedaoaa
namespace Go.Proofs.Ytmebpglkeedaoaa
open Go.RowKit Dp
def cpL (S : Site) (most : Int) (k : Nat) : List Int := (List.range k).map fun i => min (S.lim.getD i 0) most
theorem cpL_succ (S : Site) (most : Int) (k : Nat) : cpL S most (k + 1) = cpL S most k ++ [min (S.lim.getD k 0) most] := by simp [cpL, List.range_succ]
theorem cpL_len (S : Site) (most : Int) (k : Nat) : (cpL S most k).length = k := by simp [cpL]
def cpS (S : Site) (most : Int) : Site := { S with lim := cpL S most S.lim.length }
set_option maxHeartbeats 8000000 in
set_option maxRecDepth 100000 in
theorem Capped_c (A B C D : Option Addr) (S : Site) (most : Int) (n nB nC nD cA cB cC cD : Nat) (w : World) (hn : n = S.lim.length) (h60 : n ≤ 1024)
    (hA : n ≤ cA ∧ cA ≤ 9223372036854775807) (hS : IntsAt w A S.lim) :
    Calls Try.prog 53 #[.agg #[.slice A n cA, .slice B nB cB, .slice C nC cC, .slice D nD cD], .int .i64 most] w fun e w' => ∃ (G : Option Addr) (c : Nat), e = .returned (.agg #[.slice G n c, .slice B nB cB, .slice C nC cC, .slice D nD cD]) ∧ (n ≤ c ∧ c ≤ 9223372036854775807) ∧ w'.ownsRow w.heap.size 2 1 (.slice G n c) n ((cpL S most n).map (.int .i64)) ∧ Below w.heap.size w w' := by
  have HN := Lib.hid hn
  have HS := Lib.hid hS
  clear hn hS
  obtain ⟨i2, h2i, h2z, h2s, h2b⟩ := info_parts info2
  have HB := Lib.hid (((Below.refl w.heap.size w).alloc (Nat.le_refl _) (.cells #[.slice A n cA, .slice B nB cB, .slice C nC cC, .slice D nD cD] 51)).alloc (by simp) (.cells #[.slice none 0 0, .slice none 0 0, .slice none 0 0, .slice none 0 0] 51))
  have XS := Lib.hid ((Blk.new' w #[.slice A n cA, .slice B nB cB, .slice C nC cC, .slice D nD cD] 51).alloc (.cells #[.slice none 0 0, .slice none 0 0, .slice none 0 0, .slice none 0 0] 51))
  have XR := Lib.hid (show Blk ((w.alloc (.cells #[.slice A n cA, .slice B nB cB, .slice C nC cC, .slice D nD cD] 51)).alloc (.cells #[.slice none 0 0, .slice none 0 0, .slice none 0 0, .slice none 0 0] 51)) (w.heap.size + 1) 51 [.slice none 0 0, .slice none 0 0, .slice none 0 0, .slice none 0 0] from by simpa using Blk.new' (w.alloc (.cells #[.slice A n cA, .slice B nB cB, .slice C nC cC, .slice D nD cD] 51)) #[.slice none 0 0, .slice none 0 0, .slice none 0 0, .slice none 0 0] 51)
  go_enter Try.func53, Try.ntmps53
  go_upto_region 1 with fail
  generalize (w.alloc (.cells #[.slice A n cA, .slice B nB cB, .slice C nC cC, .slice D nD cD] 51)).alloc (.cells #[.slice none 0 0, .slice none 0 0, .slice none 0 0, .slice none 0 0] 51) = w1 at HB XS XR ⊢
  have HO := Lib.hid (show w1.ownsRow w1.heap.size 2 1 (.slice none 0 0) 0 ((cpL S most 0).map (.int .i64)) from World.ownsRow_nil _ _ _ _)
  go_upto_region 2 with fail
  go_wp2_with fail
  go_loopw [5, 6] (fun sv iv wr => ∃ (k : Nat) (G : Option Addr) (c : Nat), k ≤ n ∧ iv = .int .i64 k ∧ sv = .slice G k c ∧ Hid (Below w1.heap.size w1 wr ∧ wr.ownsRow w1.heap.size 2 1 (.slice G k c) k ((cpL S most k).map (.int .i64)))) (fun _ iv _ => n - (intOf iv).toNat)
  case atStart => exact ⟨0, none, 0, Nat.zero_le _, rfl, rfl, Lib.hid ⟨Below.refl _ _, HO.out⟩⟩
  case round =>
    clear HO
    obtain ⟨k, G, c, hk, rfl, rfl, HW⟩ := hrel
    have HB2 := Lib.hid (HB.out.trans (HW.out.1.mono HB.out.size))
    have XS2 := Lib.hid (XS.out.below HW.out.1 XS.out.lt)
    have XR2 := Lib.hid (XR.out.below HW.out.1 XR.out.lt)
    have s0 := XS2.out.cell 0 rfl
    have sl := XS2.out.lt
    by_cases hlt : k < n
    · have hki : (k : Int) < (n : Int) := by omega
      obtain ⟨pa, hpa, pal, px⟩ := (HS.out.below HB2.out (Nat.le_refl _)) k (by rw [← HN.out]; exact hlt)
      rw [hpa] at s0
      have HX := Lib.hid (cpL_succ S most k)
      generalize S.lim.getD k 0 = x at *
      obtain ⟨mv, hmv⟩ : ∃ mv, mv = min x most := ⟨_, rfl⟩
      have gm : (if most < x then most else x) = mv := by rw [gmin_eq, hmv]
      rw [← hmv] at HX
      clear hmv
      have ab2 : (pa.add k).block < wr.heap.size := by rw [block_add]; exact pal
      have hz1 := HW.out.1.size
      have hb := (Below.refl wr.heap.size wr).alloc (Nat.le_refl _) (.cells #[.int .i64 mv] 2)
      have HO := Lib.hid (ownBelow HW.out.2 hb)
      have HBA := Lib.hid (HW.out.1.trans (hb.mono HW.out.1.size))
      have X := Lib.hid (Blk.new' wr #[.int .i64 mv] 2)
      clear hb
      go_wp2_with (at_builtin; refine wpList_append_any (.tmp 14) (.tmp 22) 22 rfl rfl w1.heap.size 2 i2 (.int .i64 0) 1 8 Try.underlying22 h2i h2z h2s h2b rfl (by decide) G k c ((cpL S most k).map (.int .i64)) (by rfl) HO.out (some ⟨wr.heap.size, 0, none⟩) 1 1 [.int .i64 mv] (by rfl) (by rfl) (.inr ⟨_, rfl, fun j u hj => by rcases j with _ | j <;> simp at hj; subst hj; exact X.out.cell 0 rfl⟩) (by simp [Value.oneCell']) (by unfold maxLen; omega) (by omega) (HBA.out.size) ?_; intro A3 c3 w4 hown hgrow hat; have HE : Hid (Below w1.heap.size w1 w4 ∧ w4.ownsRow w1.heap.size 2 1 (.slice A3 (k + 1) c3) (k + 1) ((cpL S most (k + 1)).map (.int .i64))) := Lib.hid ⟨HBA.out.grown hgrow HBA.out.size (fun j e => (World.ownsRow.lt HO.out j e).1), by rw [HX.out, List.map_append]; exact hown⟩; clear hown hgrow hat)
      exact ⟨⟨k + 1, by omega, by go_num, A3, c3, ⟨rfl, rfl, rfl⟩, HE⟩, by simp [intOf]; omega⟩
    · obtain rfl : n = k := by omega
      have s1 := XS2.out.cell 1 rfl
      have s2 := XS2.out.cell 2 rfl
      have s3 := XS2.out.cell 3 rfl
      have sz := XS2.out.free 0
      have r0 := XR2.out.cell 0 rfl
      have r1 := XR2.out.cell 1 rfl
      have r2 := XR2.out.cell 2 rfl
      have r3 := XR2.out.cell 3 rfl
      have rz := XR2.out.free 0
      have rz1 := XR2.out.free 1
      have rz2 := XR2.out.free 2
      have rz3 := XR2.out.free 3
      have rl := XR2.out.lt
      have hz1 := HB.out.size
      have O0 := HW.out.2
      have hc : n ≤ c ∧ c ≤ 9223372036854775807 := by
        rcases O0.2 with ⟨h0, h1⟩ | ⟨g', c', cur, hv, _, _, hc1, hc2, _⟩
        · cases h0
          exact ⟨by omega, by omega⟩
        · cases hv
          unfold maxLen at hc2
          omega
      have O1 := ownSet (p := ⟨w.heap.size, 0, none⟩) O0 (own_blk_no (g := w.heap.size) XS2.out O0 (by decide)) (.slice G n c)
      have R0 := XR2.out.setCell_ne (p := ⟨w.heap.size, 0, none⟩) (by simp) (.slice G n c)
      have O2 := ownSet (p := ⟨w.heap.size + 1, 0, none⟩) O1 (own_blk_no (g := w.heap.size + 1) R0 O1 (by decide)) (.slice G n c)
      have R1 := R0.setCell 0 (.slice G n c)
      have O3 := ownSet (p := ⟨w.heap.size + 1, 1, none⟩) O2 (own_blk_no (g := w.heap.size + 1) R1 O2 (by decide)) (.slice B nB cB)
      have R2 := R1.setCell 1 (.slice B nB cB)
      have O4 := ownSet (p := ⟨w.heap.size + 1, 2, none⟩) O3 (own_blk_no (g := w.heap.size + 1) R2 O3 (by decide)) (.slice C nC cC)
      have R3 := R2.setCell 2 (.slice C nC cC)
      have O5 := Lib.hid (ownV_mono (ownSet (p := ⟨w.heap.size + 1, 3, none⟩) O4 (own_blk_no (g := w.heap.size + 1) R3 O4 (by decide)) (.slice D nD cD)) hz1)
      have R4 := Lib.hid (R3.setCell 3 (.slice D nD cD))
      have B5 := Lib.hid (((((HB2.out.setCell (p := ⟨w.heap.size, 0, none⟩) (Nat.le_refl _) (.slice G n c)).setCell (p := ⟨w.heap.size + 1, 0, none⟩) (Nat.le_succ _) (.slice G n c)).setCell (p := ⟨w.heap.size + 1, 1, none⟩) (Nat.le_succ _) (.slice B nB cB)).setCell (p := ⟨w.heap.size + 1, 2, none⟩) (Nat.le_succ _) (.slice C nC cC)).setCell (p := ⟨w.heap.size + 1, 3, none⟩) (Nat.le_succ _) (.slice D nD cD))
      clear O0 O1 R0 O2 R1 O3 R2 O4 R3
      go_wp2_with fail
      have q0 := R4.out.cell 0 rfl
      have q1 := R4.out.cell 1 rfl
      have q2 := R4.out.cell 2 rfl
      have q3 := R4.out.cell 3 rfl
      exact bodyPost_ret (v := .agg #[.slice G n c, .slice B nB cB, .slice C nC cC, .slice D nD cD]) (by simp [results, Try.results53, go_sem, q0, q1, q2, q3]) rfl ⟨G, c, rfl, hc, O5.out, B5.out⟩
end Go.Proofs.Ytmebpglkeedaoaa
namespace Go.Proofs.Ytmebpglkeedaoaa
open Go.RowKit Dp
def cpK (S : Site) (most : Int) (k : Nat) : List Int := (List.range S.lim.length).map fun i => if i < k then min (S.lim.getD i 0) most else S.lim.getD i 0
theorem cpK_len (S : Site) (most : Int) (k : Nat) : (cpK S most k).length = S.lim.length := by simp [cpK]
theorem cpK_0 (S : Site) (most : Int) : cpK S most 0 = S.lim := by
  apply List.ext_getElem
  · simp [cpK]
  · intro i h1 h2
    simp [cpK, List.getD_eq_getElem?_getD, h2]
theorem cpK_get {S : Site} {most : Int} {k i : Nat} (hi : i < S.lim.length) : (cpK S most k).getD i 0 = if i < k then min (S.lim.getD i 0) most else S.lim.getD i 0 := by
  simp [cpK, List.getD_eq_getElem?_getD, hi]
theorem cpK_set {S : Site} {most : Int} {k : Nat} (hk : k < S.lim.length) : (cpK S most k).set k (min (S.lim.getD k 0) most) = cpK S most (k + 1) := by
  apply List.ext_getElem
  · simp [cpK]
  · intro i h1 h2
    rw [List.getElem_set]
    simp only [cpK, List.getElem_map, List.getElem_range]
    by_cases e : k = i
    · subst e; simp
    · rw [if_neg e]
      by_cases h : i < k
      · rw [if_pos h, if_pos (by omega)]
      · rw [if_neg h, if_neg (by omega)]
theorem cpK_all (S : Site) (most : Int) : cpK S most S.lim.length = cpL S most S.lim.length := by
  unfold cpK cpL
  exact List.map_congr_left fun x hx => by rw [if_pos (by simpa using hx)]
set_option maxHeartbeats 8000000 in
set_option maxRecDepth 100000 in
theorem capped_c (A B C D : Option Addr) (S : Site) (most : Int) (n nB nC nD cA cB cC cD : Nat) (w : World) (hn : n = S.lim.length) (h60 : n ≤ 1024) (h1 : 1 ≤ n)
    (hA : n ≤ cA ∧ cA ≤ 9223372036854775807) (hS : IntsAt w A S.lim) :
    Calls Try.prog 90 #[.agg #[.slice A n cA, .slice B nB cB, .slice C nC cC, .slice D nD cD], .int .i64 most] w fun e w' => ∃ (G : Option Addr) (c : Nat), e = .returned (.agg #[.slice G n c, .slice B nB cB, .slice C nC cC, .slice D nD cD]) ∧ (n ≤ c ∧ c ≤ 9223372036854775807) ∧ w'.ownsRow w.heap.size 2 1 (.slice G n c) n ((cpL S most n).map (.int .i64)) ∧ Below w.heap.size w w' := by
  have HN := Lib.hid hn
  have HS := Lib.hid hS
  clear hn hS
  obtain ⟨i2, h2i, h2z, h2s, h2b⟩ := info_parts info2
  have HB := Lib.hid (((Below.refl w.heap.size w).alloc (Nat.le_refl _) (.cells #[.slice A n cA, .slice B nB cB, .slice C nC cC, .slice D nD cD] 51)).alloc (by simp) (.cells #[.slice none 0 0, .slice none 0 0, .slice none 0 0, .slice none 0 0] 51))
  have XS := Lib.hid ((Blk.new' w #[.slice A n cA, .slice B nB cB, .slice C nC cC, .slice D nD cD] 51).alloc (.cells #[.slice none 0 0, .slice none 0 0, .slice none 0 0, .slice none 0 0] 51))
  have XR := Lib.hid (show Blk ((w.alloc (.cells #[.slice A n cA, .slice B nB cB, .slice C nC cC, .slice D nD cD] 51)).alloc (.cells #[.slice none 0 0, .slice none 0 0, .slice none 0 0, .slice none 0 0] 51)) (w.heap.size + 1) 51 [.slice none 0 0, .slice none 0 0, .slice none 0 0, .slice none 0 0] from by simpa using Blk.new' (w.alloc (.cells #[.slice A n cA, .slice B nB cB, .slice C nC cC, .slice D nD cD] 51)) #[.slice none 0 0, .slice none 0 0, .slice none 0 0, .slice none 0 0] 51)
  go_enter Try.func90, Try.ntmps90
  go_upto_region 1 with fail
  generalize (w.alloc (.cells #[.slice A n cA, .slice B nB cB, .slice C nC cC, .slice D nD cD] 51)).alloc (.cells #[.slice none 0 0, .slice none 0 0, .slice none 0 0, .slice none 0 0] 51) = w1 at HB XS XR ⊢
  have s0 := XS.out.cell 0 rfl
  have sz := XS.out.free 0
  have sl := XS.out.lt
  go_wp2_with fail
  refine (clone_c A S.lim n cA w1 HN.out h1 (by omega) (HS.out.below HB.out (Nat.le_refl _))).mono ?_
  rintro e w2 ⟨g, c, rfl, hb, hg1, hg2, hO⟩
  have HLT : Hid (w.heap.size + 1 < w1.heap.size) := Lib.hid XR.out.lt
  have HG : Hid (w1.heap.size ≤ g) := Lib.hid hg1
  have hc : n ≤ c ∧ c ≤ 9223372036854775807 := by
    have hO2 := hO
    unfold OwnI at hO2
    rcases hO2.2 with ⟨h0, _⟩ | ⟨g', c', cur, hv, _, _, hc1, hc2, _⟩
    · cases h0
    · cases hv
      unfold maxLen at hc2
      rw [HN.out]
      omega
  have HC := Lib.hid hc
  have X0 := XS.out.below hb XS.out.lt
  have HJ0 : Hid (Below w.heap.size w (w2.setCell ⟨w.heap.size, 0, none⟩ (.slice (some ⟨g, 0, none⟩) n c)) ∧ Blk (w2.setCell ⟨w.heap.size, 0, none⟩ (.slice (some ⟨g, 0, none⟩) n c)) w.heap.size 51 [.slice (some ⟨g, 0, none⟩) n c, .slice B nB cB, .slice C nC cC, .slice D nD cD] ∧ Blk (w2.setCell ⟨w.heap.size, 0, none⟩ (.slice (some ⟨g, 0, none⟩) n c)) (w.heap.size + 1) 51 [.slice none 0 0, .slice none 0 0, .slice none 0 0, .slice none 0 0] ∧ OwnI w1.heap.size (w2.setCell ⟨w.heap.size, 0, none⟩ (.slice (some ⟨g, 0, none⟩) n c)) g c (cpK S most 0)) := Lib.hid ⟨(HB.out.trans (hb.mono HB.out.size)).setCell (p := ⟨w.heap.size, 0, none⟩) (Nat.le_refl _) _, X0.setCell 0 _, (XR.out.below hb XR.out.lt).setCell_ne (p := ⟨w.heap.size, 0, none⟩) (by simp) _, by rw [cpK_0]; exact ownSet (p := ⟨w.heap.size, 0, none⟩) hO (own_blk_no (g := w.heap.size) X0 hO (by decide)) _⟩
  have HX0 := Lib.hid X0
  clear s0 sz sl hc hO hb hg1 hg2 X0 XR XS HB
  have s0 := HX0.out.cell 0 rfl
  have sz := HX0.out.free 0
  have sl := HX0.out.lt
  go_upto_region 2 with fail
  clear s0 sz sl HX0
  generalize w2.setCell ⟨w.heap.size, 0, none⟩ (.slice (some ⟨g, 0, none⟩) n c) = w3 at HJ0 ⊢
  have s0 := HJ0.out.2.1.cell 0 rfl
  have sl := HJ0.out.2.1.lt
  go_wp2_with fail
  clear s0 sl
  go_loopw [14] (fun iv wr => ∃ k : Nat, k ≤ n ∧ iv = .int .i64 k ∧ Hid (Below w.heap.size w wr ∧ Blk wr w.heap.size 51 [.slice (some ⟨g, 0, none⟩) n c, .slice B nB cB, .slice C nC cC, .slice D nD cD] ∧ Blk wr (w.heap.size + 1) 51 [.slice none 0 0, .slice none 0 0, .slice none 0 0, .slice none 0 0] ∧ OwnI w1.heap.size wr g c (cpK S most k))) (fun iv _ => n - (intOf iv).toNat)
  case atStart => exact ⟨0, Nat.zero_le _, rfl, HJ0⟩
  case round =>
    clear HJ0
    obtain ⟨k, hk, rfl, HJ⟩ := hrel
    have s0 := HJ.out.2.1.cell 0 rfl
    have sl := HJ.out.2.1.lt
    have hcc := HC.out
    by_cases hlt : k < n
    · have hki : (k : Int) < (n : Int) := by omega
      have kS : k < S.lim.length := by rw [← HN.out]; exact hlt
      have HX := Lib.hid (cpK_set (most := most) kS)
      have g0 := HJ.out.2.2.2.cell k (by rw [cpK_len]; exact kS)
      have gz := HJ.out.2.2.2.free k
      have gl := HJ.out.2.2.2.lt.2
      rw [cpK_get kS, if_neg (Nat.lt_irrefl k)] at g0
      generalize S.lim.getD k 0 = x at *
      obtain ⟨mv, hmv⟩ : ∃ mv, mv = min x most := ⟨_, rfl⟩
      have gm : (if most < x then most else x) = mv := by rw [gmin_eq, hmv]
      rw [← hmv] at HX
      clear hmv
      have hg1 := HG.out
      have hl1 := HLT.out
      have HE : Hid (Below w.heap.size w (wr.setCell ⟨g, k, none⟩ (.int .i64 mv)) ∧ Blk (wr.setCell ⟨g, k, none⟩ (.int .i64 mv)) w.heap.size 51 [.slice (some ⟨g, 0, none⟩) n c, .slice B nB cB, .slice C nC cC, .slice D nD cD] ∧ Blk (wr.setCell ⟨g, k, none⟩ (.int .i64 mv)) (w.heap.size + 1) 51 [.slice none 0 0, .slice none 0 0, .slice none 0 0, .slice none 0 0] ∧ OwnI w1.heap.size (wr.setCell ⟨g, k, none⟩ (.int .i64 mv)) g c (cpK S most (k + 1))) := Lib.hid ⟨HJ.out.1.setCell (p := ⟨g, k, none⟩) (by simp; omega) _, HJ.out.2.1.setCell_ne (p := ⟨g, k, none⟩) (by simp; omega) _, HJ.out.2.2.1.setCell_ne (p := ⟨g, k, none⟩) (by simp; omega) _, by rw [← HX.out]; exact HJ.out.2.2.2.put k mv⟩
      clear hg1 hl1
      go_wp2_with fail
      exact ⟨⟨k + 1, by omega, by go_num, HE⟩, by simp [intOf]; omega⟩
    · obtain rfl : n = k := by omega
      have s1 := HJ.out.2.1.cell 1 rfl
      have s2 := HJ.out.2.1.cell 2 rfl
      have s3 := HJ.out.2.1.cell 3 rfl
      have r0 := HJ.out.2.2.1.cell 0 rfl
      have r1 := HJ.out.2.2.1.cell 1 rfl
      have r2 := HJ.out.2.2.1.cell 2 rfl
      have r3 := HJ.out.2.2.1.cell 3 rfl
      have rz := HJ.out.2.2.1.free 0
      have rz1 := HJ.out.2.2.1.free 1
      have rz2 := HJ.out.2.2.1.free 2
      have rz3 := HJ.out.2.2.1.free 3
      have rl := HJ.out.2.2.1.lt
      have O1 := HJ.out.2.2.2
      have R0 := HJ.out.2.2.1
      have O2 := ownSet (p := ⟨w.heap.size + 1, 0, none⟩) O1 (own_blk_no (g := w.heap.size + 1) R0 O1 (by decide)) (.slice (some ⟨g, 0, none⟩) n c)
      have R1 := R0.setCell 0 (.slice (some ⟨g, 0, none⟩) n c)
      have O3 := ownSet (p := ⟨w.heap.size + 1, 1, none⟩) O2 (own_blk_no (g := w.heap.size + 1) R1 O2 (by decide)) (.slice B nB cB)
      have R2 := R1.setCell 1 (.slice B nB cB)
      have O4 := ownSet (p := ⟨w.heap.size + 1, 2, none⟩) O3 (own_blk_no (g := w.heap.size + 1) R2 O3 (by decide)) (.slice C nC cC)
      have R3 := R2.setCell 2 (.slice C nC cC)
      have O5 := ownV_mono (ownSet (p := ⟨w.heap.size + 1, 3, none⟩) O4 (own_blk_no (g := w.heap.size + 1) R3 O4 (by decide)) (.slice D nD cD)) (show w.heap.size ≤ w1.heap.size by have := HLT.out; omega)
      have R4 := Lib.hid (R3.setCell 3 (.slice D nD cD))
      have B5 := Lib.hid ((((HJ.out.1.setCell (p := ⟨w.heap.size + 1, 0, none⟩) (Nat.le_succ _) (.slice (some ⟨g, 0, none⟩) n c)).setCell (p := ⟨w.heap.size + 1, 1, none⟩) (Nat.le_succ _) (.slice B nB cB)).setCell (p := ⟨w.heap.size + 1, 2, none⟩) (Nat.le_succ _) (.slice C nC cC)).setCell (p := ⟨w.heap.size + 1, 3, none⟩) (Nat.le_succ _) (.slice D nD cD))
      rw [show cpK S most n = cpL S most n by rw [HN.out]; exact cpK_all S most, cpL_len] at O5
      have O6 := Lib.hid O5
      clear O1 R0 O2 R1 O3 R2 O4 R3 O5
      go_wp2_with fail
      have q0 := R4.out.cell 0 rfl
      have q1 := R4.out.cell 1 rfl
      have q2 := R4.out.cell 2 rfl
      have q3 := R4.out.cell 3 rfl
      exact bodyPost_ret (v := .agg #[.slice (some ⟨g, 0, none⟩) n c, .slice B nB cB, .slice C nC cC, .slice D nD cD]) (by simp [results, Try.results90, go_sem, q0, q1, q2, q3]) rfl ⟨some ⟨g, 0, none⟩, c, rfl, hcc, O6.out, B5.out⟩
end Go.Proofs.Ytmebpglkeedaoaa
namespace Go.Proofs.Ytmebpglkeedaoaa
open Go.RowKit Dp
theorem cpS_len (S : Site) (most : Int) : (cpS S most).lim.length = S.lim.length := by simp [cpS, cpL_len]
theorem cpL_get {S : Site} {most : Int} {k i : Nat} (hi : i < k) : (cpL S most k).getD i 0 = min (S.lim.getD i 0) most := by
  simp [cpL, List.getD_eq_getElem?_getD, hi]
theorem cpS_ok {S : Site} {cs : List Car} {most : Int} (h : stE S cs = 0) (h0 : 0 ≤ most) : stE (cpS S most) cs = 0 := by
  obtain ⟨a, b, c, d⟩ := stE_0 h
  have hl := cpS_len S most
  refine stE_ok (by omega) (siteHead_iff.2 ?_) ?_ ?_
  · have := siteHead_iff.1 b
    rw [hl]
    exact this
  · intro t ht
    rw [hl] at ht
    have h1 := slotOk_iff.1 (c t ht)
    refine slotOk_iff.2 ?_
    show (0 ≤ (cpL S most S.lim.length).getD t 0 ∧ (cpL S most S.lim.length).getD t 0 ≤ 1048576) ∧ _
    rw [cpL_get ht]
    exact ⟨by omega, h1.2⟩
  · intro i hi
    rw [hl]
    exact d i hi
theorem SiteAt.capped {w : World} {A B C D G : Option Addr} {S : Site} {most : Int} {n c lo : Nat} (h : SiteAt w A B C D S) (hn : n = S.lim.length) (hO : w.ownsRow lo 2 1 (.slice G n c) n ((cpL S most n).map (.int .i64))) : SiteAt w G B C D (cpS S most) := by
  refine ⟨fun i hi => ?_, h.2.1, h.2.2.1, h.2.2.2⟩
  have hl : i < n := by have : (cpL S most S.lim.length).length = S.lim.length := cpL_len _ _ _; have h2 : i < (cpL S most S.lim.length).length := hi; omega
  obtain ⟨g, cap, hv, hb, hlt⟩ := hO.form (by omega)
  cases hv
  refine ⟨⟨g, 0, none⟩, rfl, hlt, ?_⟩
  rw [show (⟨g, 0, none⟩ : Addr).add i = ⟨g, i, none⟩ from (by unfold Addr.add; split <;> simp_all), World.ownsRow.cellAt hO i (by omega)]
  subst hn
  have h2 : i < (cpL S most S.lim.length).length := hi
  show ((cpL S most S.lim.length).map (Value.int .i64))[i]? = some (.int .i64 ((cpL S most S.lim.length).getD i 0))
  rw [List.getElem?_map, List.getElem?_eq_getElem h2, List.getD_eq_getElem?_getD, List.getElem?_eq_getElem h2]
  rfl
end Go.Proofs.Ytmebpglkeedaoaa
namespace Go.Proofs.Ytmebpglkeedaoaa
namespace Dp
theorem cpS_id {S : Site} {most : Int} (h : ∀ t, t < S.lim.length → S.lim.getD t 0 ≤ most) : cpS S most = S := by
  have e : cpL S most S.lim.length = S.lim := by
    apply List.ext_getElem
    · rw [cpL_len]
    · intro i h1 h2
      have := h i h2
      have e2 := cpL_get (S := S) (most := most) (k := S.lim.length) h2
      rw [List.getD_eq_getElem?_getD, List.getElem?_eq_getElem h1] at e2
      rw [List.getD_eq_getElem?_getD, List.getElem?_eq_getElem h2] at e2 this
      simp only [Option.getD_some] at e2 this
      omega
  unfold cpS
  rw [e]
theorem cpS_max {S : Site} {cs : List Car} (h : stE S cs = 0) : cpS S 1048576 = S := cpS_id fun t ht => (slotOk_iff.1 ((stE_0 h).2.2.1 t ht)).1.2
theorem mx_le (xs : List Int) : ∀ k t, t < k → xs.getD t 0 ≤ mxP xs k
  | k + 1, t, ht => by
    unfold mxP
    by_cases e : t = k
    · subst e; omega
    · have := mx_le xs k t (by omega); omega
theorem mx_bd {xs : List Int} {a b : Int} : ∀ k, (∀ t, t ≤ k - 1 → a ≤ xs.getD t 0 ∧ xs.getD t 0 ≤ b) → a ≤ mxP xs k ∧ mxP xs k ≤ b
  | 0, h => h 0 (by omega)
  | k + 1, h => by
    have h1 := mx_bd (xs := xs) k (fun t ht => h t (by omega))
    have h2 := h k (by omega)
    unfold mxP
    omega
structure PkOk (S : Site) (cs : List Car) (peak : Int) (T : Tab) (cut : List Int) : Prop where
  bd : 0 ≤ peak ∧ peak ≤ 1048576
  ok : plE (cpS S peak) cs T = 0
  z : peak = 0 → cut = []
  no : 0 < peak → (∀ k, k < cut.length → cutAt (netN (cpS S (peak - 1)) cs).sup.length cut k = true) ∧ 0 < lkA (netN (cpS S (peak - 1)) cs) cut (netN (cpS S (peak - 1)) cs).arcs.length ∧ ∀ fl, isFlow (netN (cpS S (peak - 1)) cs) fl = false
end Dp
end Go.Proofs.Ytmebpglkeedaoaa
namespace Go.Proofs.Ytmebpglkeedaoaa
open Go.RowKit Dp
def MsV (N : Net) (w : World) (e : Ending) (w' : World) : Prop :=
  (e = .returned (.slice none 0 0) ∧ ∃ fl, isFlow N fl = true) ∨
  ∃ (g c k : Nat) (cut : List Int), k = cut.length ∧ e = .returned (.slice (some ⟨g, 0, none⟩) k c) ∧ w'.ownsRow w.heap.size 3 1 (.slice (some ⟨g, 0, none⟩) k c) k (cut.map (.int .i64)) ∧ (k ≤ c ∧ c ≤ 9223372036854775807) ∧ k ≤ 1024 ∧ (∀ j, j < cut.length → cutAt N.sup.length cut j = true) ∧ 0 < lkA N cut N.arcs.length ∧ ∀ fl, isFlow N fl = false
theorem MsV.mono {N : Net} {w V w' : World} {e : Ending} (h : MsV N V e w') (hb : w.heap.size ≤ V.heap.size) : MsV N w e w' := by
  rcases h with h | ⟨g, c, k, cut, h1, h2, h3, h4⟩
  · exact .inl h
  · exact .inr ⟨g, c, k, cut, h1, h2, ownV_mono2 h3 hb, h4⟩
def MsU (N : Net) (w : World) (e : Ending) (w' : World) : Prop := (∃ v x y, e = .returned (.tuple #[v, .int .i64 x, .int .i64 y]) ∧ MsV N w (.returned v) w') ∧ Below w.heap.size w w'
theorem MissP.u {N : Net} {w w' : World} {e : Ending} (h : MissP N w e w') (h0 : chE N = 0) (hb : Below w.heap.size w w') : MsU N w e w' := by
  refine ⟨?_, hb⟩
  rcases h with ⟨h1, _⟩ | ⟨_, rfl, h2⟩ | ⟨_, g, c, cut, rfl, h1, h2, h3, h4, h5⟩
  · exact absurd h0 h1
  · exact ⟨_, _, _, rfl, .inl ⟨rfl, h2⟩⟩
  · exact ⟨_, _, _, rfl, .inr ⟨g, c, cut.length, cut, rfl, rfl, h1, own_cap2 h1, h2, h3, h4, h5⟩⟩
set_option maxHeartbeats 4000000 in
set_option maxRecDepth 100000 in
theorem missing_c (A B C D E : Option Addr) (S : Site) (cs : List Car) (n m cA cB cC cD cE b1 b2 : Nat) (most : Int) (w : World) (h0 : stE S cs = 0) (hp : 0 ≤ most) (hn : n = S.lim.length) (hm : m = cs.length)
    (hA : n ≤ cA ∧ cA ≤ 9223372036854775807) (hB : n ≤ cB ∧ cB ≤ 9223372036854775807) (hC : n ≤ cC ∧ cC ≤ 9223372036854775807) (hD : n ≤ cD ∧ cD ≤ 9223372036854775807) (hE : m ≤ cE ∧ cE ≤ 9223372036854775807)
    (hS : SiteAt w A B C D S) (hcs : CarsAt w E cs) (hb1 : Blk w b1 51 [.slice A n cA, .slice B n cB, .slice C n cC, .slice D n cD]) (hb2 : Blk w b2 52 [.slice E m cE]) :
    Calls Try.prog 92 #[.int .i64 most, .pointer (some ⟨b1, 0, none⟩), .pointer (some ⟨b2, 0, none⟩)] w fun e w' => MsV (netN (cpS S most) cs) w e w' ∧ Below w.heap.size w w' := by
  have h48 := (siteHead_iff.1 (stE_0 h0).2.1).1
  have hok := cpS_ok (most := most) h0 hp
  obtain ⟨N, hN⟩ : ∃ N, N = netN (cpS S most) cs := ⟨_, rfl⟩
  obtain ⟨k, hk⟩ : ∃ k, k = N.sup.length := ⟨_, rfl⟩
  obtain ⟨l, hl⟩ : ∃ l, l = N.arcs.length := ⟨_, rfl⟩
  have FX : Hid (∀ V, Below w.heap.size w V → Calls Try.prog 90 #[.agg #[.slice A n cA, .slice B n cB, .slice C n cC, .slice D n cD], .int .i64 most] V (fun e w' => ∃ (G : Option Addr) (c : Nat), e = .returned (.agg #[.slice G n c, .slice B n cB, .slice C n cC, .slice D n cD]) ∧ (n ≤ c ∧ c ≤ 9223372036854775807) ∧ SiteAt w' G B C D (cpS S most) ∧ Below V.heap.size V w')) := Lib.hid (fun V hV => by
    refine (capped_c A B C D S most n n n n cA cB cC cD V hn (by omega) (by omega) hA (hS.below hV (Nat.le_refl _)).1).mono ?_
    rintro e w' ⟨G, c, rfl, hc, hO, hb⟩
    exact ⟨G, c, rfl, hc, ((hS.below hV (Nat.le_refl _)).below hb (Nat.le_refl _)).capped hn hO, hb⟩)
  have FB : Hid (∀ (G : Option Addr) (c : Nat) V, Below w.heap.size w V → (n ≤ c ∧ c ≤ 9223372036854775807) → SiteAt V G B C D (cpS S most) → Calls Try.prog 76 #[.agg #[.slice G n c, .slice B n cB, .slice C n cC, .slice D n cD], .slice E m cE] V (BltV N k l V)) := Lib.hid (fun G c V hV hc hSV => (build_c G B C D E (cpS S most) cs _ m c cB cC cD cE V hok (by rw [cpS_len]; exact hn) hm hc hB hC hD hE hSV (hcs.below hV (Nat.le_refl _))).mono (fun _ _ h => R76.v hN hk hl h))
  have FM : Hid (∀ (gs : Nat) (M : Option Addr) (c : Nat) V, NetAt V (some ⟨gs, 0, none⟩) M N → (l ≤ c ∧ c ≤ 9223372036854775807) → Calls Try.prog 28 #[.agg #[.slice (some ⟨gs, 0, none⟩) k k, .slice M l c]] V (MsU N V)) := Lib.hid (fun gs M c V hV hc => by
    have hch : chE N = 0 := by rw [hN]; exact net_ok hok
    refine (Missing_c (some ⟨gs, 0, none⟩) M N k l k c V hk hl ⟨Nat.le_refl _, ?_⟩ hc hV).mono (fun _ _ h => h.1.u hch h.2)
    have := (net_len hch).2.1
    omega)
  have RD : Hid (∀ W, Below w.heap.size w W → (W.cell? ⟨b1, 0, none⟩ = some (.slice A n cA) ∧ W.cell? ⟨b1, 1, none⟩ = some (.slice B n cB) ∧ W.cell? ⟨b1, 2, none⟩ = some (.slice C n cC) ∧ W.cell? ⟨b1, 3, none⟩ = some (.slice D n cD)) ∧ W.cell? ⟨b2, 0, none⟩ = some (.slice E m cE) ∧ b1 < W.heap.size) := Lib.hid (fun W h => by
    have x1 := hb1.below h hb1.lt
    have x2 := hb2.below h hb2.lt
    exact ⟨⟨x1.cell 0 rfl, x1.cell 1 rfl, x1.cell 2 rfl, x1.cell 3 rfl⟩, x2.cell 0 rfl, x1.lt⟩)
  have HT := Lib.hid (Below.refl w.heap.size w)
  have HT := Lib.hid (HT.out.drew)
  rw [← hN]
  clear hb1 hb2 hS hcs hn hm hok hN hk hl h0 hp
  go_enter Try.func92, Try.ntmps92
  go_upto_region 1 with fail
  refine lBegin (S := fun _ W => ((W.cell? ⟨b1, 0, none⟩ = some (.slice A n cA) ∧ W.cell? ⟨b1, 1, none⟩ = some (.slice B n cB) ∧ W.cell? ⟨b1, 2, none⟩ = some (.slice C n cC) ∧ W.cell? ⟨b1, 3, none⟩ = some (.slice D n cD)) ∧ W.cell? ⟨b2, 0, none⟩ = some (.slice E m cE) ∧ b1 < W.heap.size)) (by kernel_rfl) ?_ (fun hHeld => ?_)
  · (try dsimp only); (first | with_reducible exact RD.out _ HT.out | with_reducible assumption)
  refine lTake (i := 0) (v := ?_) rfl (by kernel_rfl) (by kernel_rfl) (by kernel_rfl) (fun _ _ _ h => h) (by rfl) (fun _ _ h => h) (fun _ _ h => h) ?_ (by assumption) (fun hHeld2 => ?_)
  rotate_left 1
  · (intro L W _ _ hSw; (try dsimp only at hSw); first | (go_simp; done) | (go_simp; with_reducible rfl))
  clear hHeld; have hHeld := hHeld2; clear hHeld2
  (try simp only [Act.put, List.setIfInBounds_toArray, List.set_cons_zero, List.set_cons_succ])
  refine lTake (i := 1) (v := ?_) rfl (by kernel_rfl) (by kernel_rfl) (by kernel_rfl) (fun _ _ _ h => h) (by rfl) (fun _ _ h => h) (fun _ _ h => h) ?_ (by assumption) (fun hHeld2 => ?_)
  rotate_left 1
  · (intro _ _ _ _ _; first | (go_simp; done) | (go_simp; with_reducible rfl))
  clear hHeld; have hHeld := hHeld2; clear hHeld2
  (try simp only [Act.put, List.setIfInBounds_toArray, List.set_cons_zero, List.set_cons_succ])
  refine lTake (i := 3) (v := ?_) rfl (by kernel_rfl) (by kernel_rfl) (by kernel_rfl) (fun _ _ _ h => h) (by rfl) (fun _ _ h => h) (fun _ _ h => h) ?_ (by assumption) (fun hHeld2 => ?_)
  rotate_left 1
  · (intro L W _ _ hSw; (try dsimp only at hSw); first | (go_simp; done) | (go_simp; with_reducible rfl))
  clear hHeld; have hHeld := hHeld2; clear hHeld2
  (try simp only [Act.put, List.setIfInBounds_toArray, List.set_cons_zero, List.set_cons_succ])
  refine lReady (rs := [2]) (by kernel_rfl) (by simp) ?_
  refine AllL.cons (i := 2) rfl (fun K hK => ?_) ?_
  · go_simp; (refine (FX.out _ HT.out).mono ?_; rintro e w2 ⟨G, c, rfl, hc, hSA, hb⟩; have HT := Lib.hid (HT.out.trans (hb.mono HT.out.size)); have HC := Lib.hid hc; have HSA := Lib.hid hSA; clear hb hc hSA)
    (try go_wp2_with fail)
    refine hK.out _ _ ?_ (fun hHeld2 => ?_)
    · (try dsimp only); (first | with_reducible exact RD.out _ HT.out | with_reducible assumption)
    clear hK K
    clear hHeld; have hHeld := hHeld2; clear hHeld2
    (try simp only [Act.put, List.setIfInBounds_toArray, List.set_cons_zero, List.set_cons_succ])
    refine lReady (rs := [4]) (by kernel_rfl) (by simp) ?_
    refine AllL.cons (i := 4) rfl (fun K hK => ?_) ?_
    · go_simp; (refine (FB.out G c _ HT.out HC.out HSA.out).mono ?_; rintro e w3 ⟨b, gs, M, c4, v2, v3, rfl, hX, hNA, hc4, hb⟩; have HT := Lib.hid (HT.out.trans (hb.mono HT.out.size)); have XB := Lib.hid hX; have HNA := Lib.hid hNA; have HC4 := Lib.hid hc4; clear hb hX hNA hc4)
      (try go_wp2_with fail)
      refine hK.out _ _ ?_ (fun hHeld2 => ?_)
      · (try dsimp only); (first | with_reducible exact RD.out _ HT.out | with_reducible assumption)
      clear hK K
      clear hHeld; have hHeld := hHeld2; clear hHeld2
      (try simp only [Act.put, List.setIfInBounds_toArray, List.set_cons_zero, List.set_cons_succ])
      refine lTake (i := 5) (v := ?_) rfl (by kernel_rfl) (by kernel_rfl) (by kernel_rfl) (fun _ _ _ h => h) (by rfl) (fun _ _ h => h) (fun _ _ h => h) ?_ (by assumption) (fun hHeld2 => ?_)
      rotate_left 1
      · (intro _ _ _ _ _; first | (go_simp; done) | (go_simp; with_reducible rfl))
      clear hHeld; have hHeld := hHeld2; clear hHeld2
      (try simp only [Act.put, List.setIfInBounds_toArray, List.set_cons_zero, List.set_cons_succ])
      refine lTake (i := 6) (v := ?_) rfl (by kernel_rfl) (by kernel_rfl) (by kernel_rfl) (fun _ _ _ h => h) (by rfl) (fun _ _ h => h) (fun _ _ h => h) ?_ (by assumption) (fun hHeld2 => ?_)
      rotate_left 1
      · (intro _ _ _ _ _; first | (go_simp; done) | (go_simp; with_reducible rfl))
      clear hHeld; have hHeld := hHeld2; clear hHeld2
      (try simp only [Act.put, List.setIfInBounds_toArray, List.set_cons_zero, List.set_cons_succ])
      refine lReady (rs := [7]) (by kernel_rfl) (by simp) ?_
      refine AllL.cons (i := 7) rfl (fun K hK => ?_) ?_
      · (have y0 := XB.out.cell 0 rfl; have y1 := XB.out.cell 1 rfl; have yl := XB.out.lt; go_simp)
        (try go_wp2_with fail)
        refine hK.out _ _ ?_ (fun hHeld2 => ?_)
        · (try dsimp only); (first | with_reducible exact RD.out _ HT.out | with_reducible assumption)
        clear hK K
        clear hHeld; have hHeld := hHeld2; clear hHeld2
        (try simp only [Act.put, List.setIfInBounds_toArray, List.set_cons_zero, List.set_cons_succ])
        refine lReady (rs := [8]) (by kernel_rfl) (by simp) ?_
        refine AllL.cons (i := 8) rfl (fun K hK => ?_) ?_
        · go_simp; (refine (FM.out gs M c4 _ HNA.out HC4.out).mono ?_; rintro e w4 ⟨⟨v, x, y, rfl, hV⟩, hb⟩; have HV := Lib.hid (hV.mono HT.out.size); have HT := Lib.hid (HT.out.trans (hb.mono HT.out.size)); clear hb hV)
          (try go_wp2_with fail)
          refine hK.out _ _ ?_ (fun hHeld2 => ?_)
          · (try dsimp only); (first | with_reducible exact RD.out _ HT.out | with_reducible assumption)
          clear hK K
          clear hHeld; have hHeld := hHeld2; clear hHeld2
          (try simp only [Act.put, List.setIfInBounds_toArray, List.set_cons_zero, List.set_cons_succ])
          refine lTake (i := 9) (v := ?_) rfl (by kernel_rfl) (by kernel_rfl) (by kernel_rfl) (fun _ _ _ h => h) (by rfl) (fun _ _ h => h) (fun _ _ h => h) ?_ (by assumption) (fun hHeld2 => ?_)
          rotate_left 1
          · (intro _ _ _ _ _; first | (go_simp; done) | (go_simp; with_reducible rfl))
          clear hHeld; have hHeld := hHeld2; clear hHeld2
          (try simp only [Act.put, List.setIfInBounds_toArray, List.set_cons_zero, List.set_cons_succ])
          refine lTake (i := 10) (v := ?_) rfl (by kernel_rfl) (by kernel_rfl) (by kernel_rfl) (fun _ _ _ h => h) (by rfl) (fun _ _ h => h) (fun _ _ h => h) ?_ (by assumption) (fun hHeld2 => ?_)
          rotate_left 1
          · (intro _ _ _ _ _; first | (go_simp; done) | (go_simp; with_reducible rfl))
          clear hHeld; have hHeld := hHeld2; clear hHeld2
          (try simp only [Act.put, List.setIfInBounds_toArray, List.set_cons_zero, List.set_cons_succ])
          refine lTake (i := 11) (v := ?_) rfl (by kernel_rfl) (by kernel_rfl) (by kernel_rfl) (fun _ _ _ h => h) (by rfl) (fun _ _ h => h) (fun _ _ h => h) ?_ (by assumption) (fun hHeld2 => ?_)
          rotate_left 1
          · (intro _ _ _ _ _; first | (go_simp; done) | (go_simp; with_reducible rfl))
          clear hHeld; have hHeld := hHeld2; clear hHeld2
          (try simp only [Act.put, List.setIfInBounds_toArray, List.set_cons_zero, List.set_cons_succ])
          refine lTake (i := 12) (v := ?_) rfl (by kernel_rfl) (by kernel_rfl) (by kernel_rfl) (fun _ _ _ h => h) (by rfl) (fun _ _ h => h) (fun _ _ h => h) ?_ (by assumption) (fun hHeld2 => ?_)
          rotate_left 1
          · (intro _ _ _ _ _; first | (go_simp; done) | (go_simp; with_reducible rfl))
          clear hHeld; have hHeld := hHeld2; clear hHeld2
          (try simp only [Act.put, List.setIfInBounds_toArray, List.set_cons_zero, List.set_cons_succ])
          refine lTake (i := 13) (v := ?_) rfl (by kernel_rfl) (by kernel_rfl) (by kernel_rfl) (fun _ _ _ h => h) (by rfl) (fun _ _ h => h) (fun _ _ h => h) ?_ (by assumption) (fun hHeld2 => ?_)
          rotate_left 1
          · (intro _ _ _ _ _; first | (go_simp; done) | (go_simp; with_reducible rfl))
          clear hHeld; have hHeld := hHeld2; clear hHeld2
          (try simp only [Act.put, List.setIfInBounds_toArray, List.set_cons_zero, List.set_cons_succ])
          refine lTake (i := 14) (v := ?_) rfl (by kernel_rfl) (by kernel_rfl) (by kernel_rfl) (fun _ _ _ h => h) (by rfl) (fun _ _ h => h) (fun _ _ h => h) ?_ (by assumption) (fun hHeld2 => ?_)
          rotate_left 1
          · (intro _ _ _ _ _; first | (go_simp; done) | (go_simp; with_reducible rfl))
          clear hHeld; have hHeld := hHeld2; clear hHeld2
          (try simp only [Act.put, List.setIfInBounds_toArray, List.set_cons_zero, List.set_cons_succ])
          refine lTake (i := 15) (v := ?_) rfl (by kernel_rfl) (by kernel_rfl) (by kernel_rfl) (fun _ _ _ h => h) (by rfl) (fun _ _ h => h) (fun _ _ h => h) ?_ (by assumption) (fun hHeld2 => ?_)
          rotate_left 1
          · (intro _ _ _ _ _; first | (go_simp; done) | (go_simp; with_reducible rfl))
          clear hHeld; have hHeld := hHeld2; clear hHeld2
          (try simp only [Act.put, List.setIfInBounds_toArray, List.set_cons_zero, List.set_cons_succ])
          refine lDone (by kernel_rfl) ?_ _
          clear hHeld
          go_wp2_with fail
          go_ret
          exact ⟨HV.out, HT.out⟩
        exact AllL.nil
      exact AllL.nil
    exact AllL.nil
  exact AllL.nil
end Go.Proofs.Ytmebpglkeedaoaa
namespace Go.Proofs.Ytmebpglkeedaoaa
open Go.RowKit Dp
def PeakP (S : Site) (cs : List Car) (w : World) (e : Ending) (w' : World) : Prop :=
  (stE S cs ≠ 0 ∧ e = .returned (.tuple #[.int .i64 0, .agg #[.slice none 0 0, .slice none 0 0], .slice none 0 0, .int .i64 (stE S cs)])) ∨
  (stE S cs = 0 ∧ e = .returned (.tuple #[.int .i64 0, .agg #[.slice none 0 0, .slice none 0 0], .slice none 0 0, .int .i64 18]) ∧ ∀ T, plE S cs T ≠ 0) ∨
  (stE S cs = 0 ∧ ∃ (pk : Int) (g1 g2 : Nat) (gI gO : Nat → Nat) (RI RO : Nat → List Int) (Y : Option Addr) (y cY : Nat) (cut : List Int), e = .returned (.tuple #[.int .i64 pk, .agg #[.slice (some ⟨g1, 0, none⟩) cs.length cs.length, .slice (some ⟨g2, 0, none⟩) cs.length cs.length], .slice Y y cY, .int .i64 0]) ∧ RwJ S.lim.length cs.length g1 gI RI w' ∧ RwJ S.lim.length cs.length g2 gO RO w' ∧ y = cut.length ∧ IntsAt w' Y cut ∧ (y ≤ cY ∧ cY ≤ 9223372036854775807) ∧ PkOk S cs pk ⟨(List.range cs.length).map RI, (List.range cs.length).map RO⟩ cut)
def CtOk (S : Site) (cs : List Car) (l : Int) (cut : List Int) : Prop := (l = 0 → cut = []) ∧ (0 < l → (∀ k, k < cut.length → cutAt (netN (cpS S (l - 1)) cs).sup.length cut k = true) ∧ 0 < lkA (netN (cpS S (l - 1)) cs) cut (netN (cpS S (l - 1)) cs).arcs.length ∧ ∀ fl, isFlow (netN (cpS S (l - 1)) cs) fl = false)
def FlW (S : Site) (cs : List Car) (x : Int) : Prop := ∃ fl, isFlow (netN (cpS S x) cs) fl = true
set_option maxHeartbeats 8000000 in
set_option maxRecDepth 100000 in
theorem Peak_c (A B C D E : Option Addr) (S : Site) (cs : List Car) (n nB nC nD m cA cB cC cD cE : Nat) (w : World) (hn : n = S.lim.length) (hnB : nB = S.exp.length) (hnC : nC = S.buy.length) (hnD : nD = S.sell.length) (hm : m = cs.length)
    (hA : n ≤ cA ∧ cA ≤ 9223372036854775807) (hB : nB ≤ cB ∧ cB ≤ 9223372036854775807) (hC : nC ≤ cC ∧ cC ≤ 9223372036854775807) (hD : nD ≤ cD ∧ cD ≤ 9223372036854775807) (hE : m ≤ cE ∧ cE ≤ 9223372036854775807)
    (hS : SiteAt w A B C D S) (hcs : CarsAt w E cs) :
    Calls Try.prog 52 #[.agg #[.slice A n cA, .slice B nB cB, .slice C nC cC, .slice D nD cD], .slice E m cE] w fun e w' => PeakP S cs w e w' ∧ Below w.heap.size w w' := by
  obtain ⟨u, hu⟩ : ∃ u, u = stE S cs := ⟨_, rfl⟩
  obtain ⟨mx, hmx⟩ : ∃ mx, mx = mxP S.lim n := ⟨_, rfl⟩
  have HKB : u = 0 → stE S cs = 0 ∧ nB = n ∧ nC = n ∧ nD = n ∧ (1 ≤ n ∧ n ≤ 48) ∧ m ≤ 8 ∧ (0 ≤ mx ∧ mx ≤ 1048576) ∧ cpS S mx = S := fun h => by
    have h0 := hu.symm.trans h
    have h2 := siteHead_iff.1 (stE_0 h0).2.1
    have h3 := (stE_0 h0).1
    have hs := (stE_0 h0).2.2.1
    have hb := mx_bd (xs := S.lim) (a := 0) (b := 1048576) n (fun t ht => (slotOk_iff.1 (hs t (by omega))).1)
    rw [← hmx] at hb
    refine ⟨h0, by omega, by omega, by omega, by omega, by omega, hb, cpS_id (fun t ht => ?_)⟩
    rw [hmx]; exact mx_le S.lim n t (by omega)
  have F36 : Hid (∀ V, Below w.heap.size w V → Calls Try.prog 36 #[.agg #[.slice A n cA, .slice B nB cB, .slice C nC cC, .slice D nD cD], .slice E m cE] V (fun e w' => e = .returned (.int .i64 u) ∧ Below V.heap.size V w')) := Lib.hid (fun V hV => by rw [hu]; exact CheckSite_c A B C D E S cs n nB nC nD m cA cB cC cD cE V hn hnB hnC hnD hm hA hB hC hD hE (hS.below hV (Nat.le_refl _)) (hcs.below hV (Nat.le_refl _)))
  have FMS : Hid (u = 0 → ∀ V (b1 b2 : Nat) (most : Int), Below w.heap.size w V → Blk V b1 51 [.slice A n cA, .slice B nB cB, .slice C nC cC, .slice D nD cD] → Blk V b2 52 [.slice E m cE] → 0 ≤ most → Calls Try.prog 92 #[.int .i64 most, .pointer (some ⟨b1, 0, none⟩), .pointer (some ⟨b2, 0, none⟩)] V (fun e w' => MsV (netN (cpS S most) cs) V e w' ∧ Below V.heap.size V w')) := Lib.hid (fun h V b1 b2 most hV h1 h2 hp => by
    obtain ⟨h0, rfl, rfl, rfl, _⟩ := HKB h
    exact missing_c A B C D E S cs _ m cA cB cC cD cE b1 b2 most V h0 hp hn hm hA hB hC hD hE (hS.below hV (Nat.le_refl _)) (hcs.below hV (Nat.le_refl _)) h1 h2)
  have F80 : Hid (u = 0 → ∀ V, Below w.heap.size w V → Calls Try.prog 80 #[.slice A n cA] V (fun e w' => e = .returned (.int .i64 mx) ∧ V = w')) := Lib.hid (fun h V hV => by rw [hmx]; exact Max_c A S.lim n cA V hn (HKB h).2.2.2.2.1.1 hA ((hS.below hV (Nat.le_refl _)).1))
  have F90 : Hid (u = 0 → ∀ V (most : Int), Below w.heap.size w V → Calls Try.prog 90 #[.agg #[.slice A n cA, .slice B nB cB, .slice C nC cC, .slice D nD cD], .int .i64 most] V (fun e w' => ∃ (G : Option Addr) (c : Nat), e = .returned (.agg #[.slice G n c, .slice B nB cB, .slice C nC cC, .slice D nD cD]) ∧ (n ≤ c ∧ c ≤ 9223372036854775807) ∧ SiteAt w' G B C D (cpS S most) ∧ Below V.heap.size V w')) := Lib.hid (fun h V most hV => by
    obtain ⟨_, _, _, _, h48, _⟩ := HKB h
    refine (capped_c A B C D S most n nB nC nD cA cB cC cD V hn (by omega) (by omega) hA (hS.below hV (Nat.le_refl _)).1).mono ?_
    rintro e w' ⟨G, c, rfl, hc, hO, hb⟩
    exact ⟨G, c, rfl, hc, ((hS.below hV (Nat.le_refl _)).below hb (Nat.le_refl _)).capped hn hO, hb⟩)
  have F50 : Hid (u = 0 → ∀ (most : Int) (G : Option Addr) (c : Nat) V, Below w.heap.size w V → 0 ≤ most → FlW S cs most → (n ≤ c ∧ c ≤ 9223372036854775807) → SiteAt V G B C D (cpS S most) → Calls Try.prog 50 #[.agg #[.slice G n c, .slice B nB cB, .slice C nC cC, .slice D nD cD], .slice E m cE] V (fun e w' => (∃ (g1 g2 gp k : Nat) (gI gO : Nat → Nat) (RI RO : Nat → List Int), e = .returned (.tuple #[.agg #[.slice (some ⟨g1, 0, none⟩) m m, .slice (some ⟨g2, 0, none⟩) m m], .slice (some ⟨gp, 0, none⟩) k k, .int .i64 0]) ∧ RwJ n m g1 gI RI w' ∧ RwJ n m g2 gO RO w' ∧ plE (cpS S most) cs ⟨(List.range m).map RI, (List.range m).map RO⟩ = 0) ∧ Below V.heap.size V w')) := Lib.hid (fun h most G c V hV hp hf hc hSV => by
    obtain ⟨h0, hb1, hb2, hb3, _⟩ := HKB h
    have h1 := cpS_ok (most := most) h0 hp
    have hl := cpS_len S most
    refine (Plan_c G B C D E (cpS S most) cs n nB nC nD m c cB cC cD cE V (by rw [hl]; exact hn) hnB hnC hnD hm hc hB hC hD hE hSV (hcs.below hV (Nat.le_refl _))).mono ?_
    rintro e w' ⟨hP, hb⟩
    refine ⟨?_, hb⟩
    rcases hP with ⟨h2, _⟩ | ⟨_, _, h3⟩ | ⟨_, g1, g2, gp, gI, gO, RI, RO, pp, rfl, z1, z2, _, _, z5⟩
    · exact absurd h1 h2
    · obtain ⟨fl, hfl⟩ := hf
      exact absurd (flow_keeps h1 hfl) (h3 _)
    · rw [hl, ← hn, ← hm] at z1 z2
      rw [← hm] at z5 ⊢
      exact ⟨g1, g2, gp, _, gI, gO, RI, RO, rfl, z1, z2, z5.ok⟩)
  have HP1 : Hid (u ≠ 0 → ∀ w', PeakP S cs w (.returned (.tuple #[.int .i64 0, .agg #[.slice none 0 0, .slice none 0 0], .slice none 0 0, .int .i64 u])) w') := Lib.hid (fun h w' => .inl ⟨by rw [← hu]; exact h, by rw [hu]⟩)
  have HP2 : Hid (u = 0 → (∀ fl, isFlow (netN (cpS S 1048576) cs) fl = false) → ∀ w', PeakP S cs w (.returned (.tuple #[.int .i64 0, .agg #[.slice none 0 0, .slice none 0 0], .slice none 0 0, .int .i64 18])) w') := Lib.hid (fun h h2 w' => by
    have h0 := hu.symm.trans h
    rw [cpS_max h0] at h2
    exact .inr (.inl ⟨h0, rfl, plan_none h2⟩))
  have HP3 : Hid (u = 0 → ∀ (pk : Int) (g1 g2 : Nat) (gI gO : Nat → Nat) (RI RO : Nat → List Int) (Y : Option Addr) (y cY : Nat) (cut : List Int) w', (0 ≤ pk ∧ pk ≤ 1048576) → RwJ n m g1 gI RI w' → RwJ n m g2 gO RO w' → plE (cpS S pk) cs ⟨(List.range m).map RI, (List.range m).map RO⟩ = 0 → y = cut.length → IntsAt w' Y cut → (y ≤ cY ∧ cY ≤ 9223372036854775807) → CtOk S cs pk cut → PeakP S cs w (.returned (.tuple #[.int .i64 pk, .agg #[.slice (some ⟨g1, 0, none⟩) m m, .slice (some ⟨g2, 0, none⟩) m m], .slice Y y cY, .int .i64 0])) w') := Lib.hid (fun h pk g1 g2 gI gO RI RO Y y cY cut w' h1 h2 h3 h4 h5 h6 h7 h8 => by
    subst hn hm
    exact .inr (.inr ⟨hu.symm.trans h, pk, g1, g2, gI, gO, RI, RO, Y, y, cY, cut, rfl, h2, h3, h5, h6, h7, ⟨h1, h4, h8.1, h8.2⟩⟩))
  have HF0 : Hid (u = 0 → (∃ fl, isFlow (netN (cpS S 1048576) cs) fl = true) → FlW S cs mx) := Lib.hid (fun h hf => by
    obtain ⟨h0, _, _, _, _, _, _, e⟩ := HKB h
    rw [cpS_max h0] at hf
    unfold FlW; rw [e]; exact hf)
  have HC0 : Hid (CtOk S cs 0 []) := Lib.hid ⟨fun _ => rfl, fun h => absurd h (by omega)⟩
  have HC1 : Hid (∀ (md : Int) (ct : List Int), 0 ≤ md → (∀ j, j < ct.length → cutAt (netN (cpS S md) cs).sup.length ct j = true) → 0 < lkA (netN (cpS S md) cs) ct (netN (cpS S md) cs).arcs.length → (∀ fl, isFlow (netN (cpS S md) cs) fl = false) → CtOk S cs (md + 1) ct) := Lib.hid (fun md ct h0 h1 h2 h3 => by
    refine ⟨fun h => absurd h (by omega), fun _ => ?_⟩
    rw [show md + 1 - 1 = md by omega]
    exact ⟨h1, h2, h3⟩)
  have HBD : Hid (u = 0 → (1 ≤ n ∧ n ≤ 48) ∧ m ≤ 8 ∧ 0 ≤ mx ∧ mx ≤ 1048576) := Lib.hid (fun h => by obtain ⟨_, _, _, _, a, b, c, _⟩ := HKB h; exact ⟨a, b, c.1, c.2⟩)
  clear HKB hn hnB hnC hnD hm hS hcs hu hmx
  generalize hPP : PeakP S cs w = PP at *
  clear hPP
  generalize hFW : FlW S cs = FW at *
  have HFW := Lib.hid hFW
  clear hFW
  generalize hCT : CtOk S cs = CT at *
  clear hCT
  have qN : ∀ w : World, (binOp .neq 26 (.slice none 0 0) (.slice none 0 0)).run Try.prog w = .ok (.bool false) w := fun w => run_neq_slice_nil w 26 3 none 0 0 Try.underlying26
  have qS : ∀ (g k c : Nat) (w : World), (binOp .neq 26 (.slice (some ⟨g, 0, none⟩) k c) (.slice none 0 0)).run Try.prog w = .ok (.bool true) w := fun g k c w => run_neq_slice_nil w 26 3 (some ⟨g, 0, none⟩) k c Try.underlying26
  have HB := Lib.hid ((((Below.refl w.heap.size w).alloc (Nat.le_refl _) (.cells #[.slice A n cA, .slice B nB cB, .slice C nC cC, .slice D nD cD] 51)).alloc (by simp) (.cells #[.slice E m cE] 52)).alloc (by simp; omega) (.cells #[.slice none 0 0, .slice none 0 0] 55))
  have XS := Lib.hid (((Blk.new' w #[.slice A n cA, .slice B nB cB, .slice C nC cC, .slice D nD cD] 51).alloc (.cells #[.slice E m cE] 52)).alloc (.cells #[.slice none 0 0, .slice none 0 0] 55))
  have XE := Lib.hid (show Blk (((w.alloc (.cells #[.slice A n cA, .slice B nB cB, .slice C nC cC, .slice D nD cD] 51)).alloc (.cells #[.slice E m cE] 52)).alloc (.cells #[.slice none 0 0, .slice none 0 0] 55)) (w.heap.size + 1) 52 [.slice E m cE] from by simpa using (Blk.new' (w.alloc (.cells #[.slice A n cA, .slice B nB cB, .slice C nC cC, .slice D nD cD] 51)) #[.slice E m cE] 52).alloc (.cells #[.slice none 0 0, .slice none 0 0] 55))
  have XR := Lib.hid (show Blk (((w.alloc (.cells #[.slice A n cA, .slice B nB cB, .slice C nC cC, .slice D nD cD] 51)).alloc (.cells #[.slice E m cE] 52)).alloc (.cells #[.slice none 0 0, .slice none 0 0] 55)) (w.heap.size + 1 + 1) 55 [.slice none 0 0, .slice none 0 0] from by simpa using Blk.new' ((w.alloc (.cells #[.slice A n cA, .slice B nB cB, .slice C nC cC, .slice D nD cD] 51)).alloc (.cells #[.slice E m cE] 52)) #[.slice none 0 0, .slice none 0 0] 55)
  go_enter Try.func52, Try.ntmps52
  go_upto_region 1 with fail
  generalize ((w.alloc (.cells #[.slice A n cA, .slice B nB cB, .slice C nC cC, .slice D nD cD] 51)).alloc (.cells #[.slice E m cE] 52)).alloc (.cells #[.slice none 0 0, .slice none 0 0] 55) = w1 at HB XS XE XR ⊢
  have s0 := XS.out.cell 0 rfl
  have s1 := XS.out.cell 1 rfl
  have s2 := XS.out.cell 2 rfl
  have s3 := XS.out.cell 3 rfl
  have sl := XS.out.lt
  have e0 := XE.out.cell 0 rfl
  have el := XE.out.lt
  go_wp2_with fail
  refine (F36.out w1 HB.out).mono ?_
  rintro e w2 ⟨rfl, hb⟩
  clear s0 s1 s2 s3 sl e0 el
  have XS := Lib.hid (XS.out.below hb XS.out.lt)
  have XE := Lib.hid (XE.out.below hb XE.out.lt)
  have XR := Lib.hid (XR.out.below hb XR.out.lt)
  have HB := Lib.hid (HB.out.trans (hb.mono HB.out.size))
  clear hb
  by_cases h0 : u = 0
  rotate_left
  · have hb0 : (u == 0) = false := by simpa using h0
    have HPX := Lib.hid (HP1.out h0)
    clear h0
    have r0 := XR.out.cell 0 rfl
    have r1 := XR.out.cell 1 rfl
    have rz := XR.out.free 0
    have rz1 := XR.out.free 1
    have rl := XR.out.lt
    have R2 := Lib.hid ((XR.out.setCell 0 (.slice none 0 0)).setCell 1 (.slice none 0 0))
    have B2 := Lib.hid ((HB.out.setCell (p := ⟨w.heap.size + 1 + 1, 0, none⟩) (by simp only; omega) (.slice none 0 0)).setCell (p := ⟨w.heap.size + 1 + 1, 1, none⟩) (by simp only; omega) (.slice none 0 0))
    go_wp2_with fail
    have q0 := R2.out.cell 0 rfl
    have q1 := R2.out.cell 1 rfl
    exact bodyPost_ret (v := .tuple #[.int .i64 0, .agg #[.slice none 0 0, .slice none 0 0], .slice none 0 0, .int .i64 u]) (by simp [results, Try.results52, go_sem, q0, q1]) rfl ⟨HPX.out _, B2.out⟩
  have FMSb := Lib.hid (FMS.out h0)
  have F80b := Lib.hid (F80.out h0)
  have F90b := Lib.hid (F90.out h0)
  have F50b := Lib.hid (F50.out h0)
  have HP2b := Lib.hid (HP2.out h0)
  have HP3b := Lib.hid (HP3.out h0)
  have HF0b := Lib.hid (HF0.out h0)
  have HBDb := Lib.hid (HBD.out h0)
  clear FMS F80 F90 F50 HP1 HP2 HP3 HF0 HBD F36
  subst h0
  have hbd := HBDb.out
  go_wp2_with fail
  refine (FMSb.out w2 _ _ 1048576 HB.out XS.out XE.out (by omega)).mono ?_
  rintro e w3 ⟨hV, hb⟩
  have XS := Lib.hid (XS.out.below hb XS.out.lt)
  have XE := Lib.hid (XE.out.below hb XE.out.lt)
  have XR := Lib.hid (XR.out.below hb XR.out.lt)
  have HB := Lib.hid (HB.out.trans (hb.mono HB.out.size))
  clear hb
  rcases hV with ⟨rfl, hfl⟩ | ⟨g, c, k, ct, _, rfl, _, _, _, _, _, hno⟩
  rotate_left
  · have HPX := Lib.hid (HP2b.out hno)
    have qS2 := qS g k c
    clear hno
    have r0 := XR.out.cell 0 rfl
    have r1 := XR.out.cell 1 rfl
    have rz := XR.out.free 0
    have rz1 := XR.out.free 1
    have rl := XR.out.lt
    have R2 := Lib.hid ((XR.out.setCell 0 (.slice none 0 0)).setCell 1 (.slice none 0 0))
    have B2 := Lib.hid ((HB.out.setCell (p := ⟨w.heap.size + 1 + 1, 0, none⟩) (by simp only; omega) (.slice none 0 0)).setCell (p := ⟨w.heap.size + 1 + 1, 1, none⟩) (by simp only; omega) (.slice none 0 0))
    go_wp2_with fail
    have q0 := R2.out.cell 0 rfl
    have q1 := R2.out.cell 1 rfl
    exact bodyPost_ret (v := .tuple #[.int .i64 0, .agg #[.slice none 0 0, .slice none 0 0], .slice none 0 0, .int .i64 18]) (by simp [results, Try.results52, go_sem, q0, q1]) rfl ⟨HPX.out _, B2.out⟩
  have HFX := Lib.hid (HF0b.out hfl)
  clear hfl HP2b HF0b
  have s0 := XS.out.cell 0 rfl
  have s1 := XS.out.cell 1 rfl
  have s2 := XS.out.cell 2 rfl
  have s3 := XS.out.cell 3 rfl
  have sl := XS.out.lt
  go_wp2_with fail
  refine (F80b.out w3 HB.out).mono ?_
  rintro e w4 ⟨rfl, rfl⟩
  clear s0 s1 s2 s3 sl
  go_upto_region 8 with fail
  go_wp2_with fail
  go_loopw [10, 11, 12] (fun lo hi cv wr => ∃ (l h : Int) (Y : Option Addr) (y cY : Nat) (cut : List Int), lo = .int .i64 l ∧ hi = .int .i64 h ∧ cv = .slice Y y cY ∧ (0 ≤ l ∧ l ≤ h ∧ h ≤ 1048576) ∧ Hid (Below w3.heap.size w3 wr ∧ FW h ∧ y = cut.length ∧ wr.ownsRow w3.heap.size 3 1 (.slice Y y cY) y (cut.map (.int .i64)) ∧ (y ≤ cY ∧ cY ≤ 9223372036854775807) ∧ CT l cut)) (fun lo hi _ _ => (intOf hi - intOf lo).toNat)
  case atStart => exact ⟨0, mx, none, 0, 0, [], rfl, rfl, rfl, ⟨Int.le_refl _, by omega, by omega⟩, Lib.hid ⟨Below.refl _ _, HFX.out, rfl, World.ownsRow_nil _ _ _ _, by omega, HC0.out⟩⟩
  case round =>
    obtain ⟨l, h, Y, y, cY, cut, rfl, rfl, rfl, hlh, HW⟩ := hrel
    clear HFX HC0
    have hb := HW.out.1
    have XS := Lib.hid (XS.out.below hb XS.out.lt)
    have XE := Lib.hid (XE.out.below hb XE.out.lt)
    have XR := Lib.hid (XR.out.below hb XR.out.lt)
    have HB := Lib.hid (HB.out.trans (hb.mono HB.out.size))
    clear hb
    by_cases hlt : l < h
    · have d1 : decide (l < h) = true := decide_eq_true hlt
      obtain ⟨md, hmd⟩ : ∃ md, md = (l + h).tdiv 2 := ⟨_, rfl⟩
      have hmb : l ≤ md ∧ md < h := by rw [hmd, Int.tdiv_eq_ediv_of_nonneg (by omega)]; omega
      have s1 : IntKind.i64.wrap (l + h) = l + h := IntWalk.i64_in _ (by omega)
      have s2 : IntKind.i64.wrap md = md := IntWalk.i64_in _ (by omega)
      have s3 : IntKind.i64.wrap (md + 1) = md + 1 := IntWalk.i64_in _ (by omega)
      have hmd2 := hmd.symm
      clear hmd
      go_wp2_with fail
      refine (FMSb.out wr _ _ md HB.out XS.out XE.out (by omega)).mono ?_
      rintro e w5 ⟨hV, hb⟩
      rcases hV with ⟨rfl, hfl⟩ | ⟨g, c, k, ct, hk, rfl, hI, hc, hk4, hv1, hv2, hno⟩
      · have HE : Hid (Below w3.heap.size w3 w5 ∧ FW md ∧ y = cut.length ∧ w5.ownsRow w3.heap.size 3 1 (.slice Y y cY) y (cut.map (.int .i64)) ∧ (y ≤ cY ∧ cY ≤ 9223372036854775807) ∧ CT l cut) := Lib.hid ⟨HW.out.1.trans (hb.mono HW.out.1.size), by rw [← HFW.out]; exact hfl, HW.out.2.2.1, ownBelow HW.out.2.2.2.1 hb, HW.out.2.2.2.2⟩
        clear hb hfl
        go_wp2_with fail
        exact ⟨⟨l, md, Y, y, cY, cut, rfl, rfl, rfl, by omega, HE⟩, by simp [intOf]; omega⟩
      · have HE : Hid (Below w3.heap.size w3 w5 ∧ FW h ∧ k = ct.length ∧ w5.ownsRow w3.heap.size 3 1 (.slice (some ⟨g, 0, none⟩) k c) k (ct.map (.int .i64)) ∧ (k ≤ c ∧ c ≤ 9223372036854775807) ∧ CT (md + 1) ct) := Lib.hid ⟨HW.out.1.trans (hb.mono HW.out.1.size), HW.out.2.1, hk, ownV_mono2 hI HW.out.1.size, hc, HC1.out md ct (by omega) hv1 hv2 hno⟩
        have qS2 := qS g k c
        clear hb hk hI hc hv1 hv2 hno
        go_wp2_with fail
        exact ⟨⟨md + 1, h, some ⟨g, 0, none⟩, k, c, ct, rfl, rfl, rfl, by omega, HE⟩, by simp [intOf]; omega⟩
    · obtain rfl : l = h := by omega
      have d1 : decide (l < l) = false := decide_eq_false hlt
      have HFV := Lib.hid HW.out.2.1
      have HIY := Lib.hid HW.out.2.2.2.1
      have HYY := Lib.hid HW.out.2.2
      clear HW
      have RD : Hid (∀ W, Below wr.heap.size wr W → ((W.cell? ⟨w.heap.size, 0, none⟩ = some (.slice A n cA) ∧ W.cell? ⟨w.heap.size, 1, none⟩ = some (.slice B nB cB) ∧ W.cell? ⟨w.heap.size, 2, none⟩ = some (.slice C nC cC) ∧ W.cell? ⟨w.heap.size, 3, none⟩ = some (.slice D nD cD)) ∧ W.cell? ⟨w.heap.size + 1, 0, none⟩ = some (.slice E m cE) ∧ w.heap.size < W.heap.size) ∧ Below w.heap.size w W ∧ W.ownsRow w3.heap.size 3 1 (.slice Y y cY) y (cut.map (.int .i64)) ∧ Blk W (w.heap.size + 1 + 1) 55 [.slice none 0 0, .slice none 0 0]) := Lib.hid (fun W hW => by
        have x1 := XS.out.below hW XS.out.lt
        exact ⟨⟨⟨x1.cell 0 rfl, x1.cell 1 rfl, x1.cell 2 rfl, x1.cell 3 rfl⟩, (XE.out.below hW XE.out.lt).cell 0 rfl, x1.lt⟩, HB.out.trans (hW.mono HB.out.size), ownBelow HIY.out hW, XR.out.below hW XR.out.lt⟩)
      have HT := Lib.hid (Below.refl wr.heap.size wr).drew
      have HWS := Lib.hid HB.out.size
      have HRL := Lib.hid XR.out.lt
      go_upto_region 15 with fail
      clear XS XE XR HB HIY
      go_cut [15, 17] from 18 (fun sp se wc => ∃ (b g1 g2 : Nat) (gI gO : Nat → Nat) (RI RO : Nat → List Int), sp = .pointer (some ⟨b, 0, none⟩) ∧ se = .int .i64 0 ∧ Hid (Blk wc b 55 [.slice (some ⟨g1, 0, none⟩) m m, .slice (some ⟨g2, 0, none⟩) m m] ∧ RwJ n m g1 gI RI wc ∧ RwJ n m g2 gO RO wc ∧ plE (cpS S l) cs ⟨(List.range m).map RI, (List.range m).map RO⟩ = 0 ∧ Below wr.heap.size wr wc ∧ wr.heap.size ≤ b))
      case first =>
        refine lBegin (S := fun _ W => ((W.cell? ⟨w.heap.size, 0, none⟩ = some (.slice A n cA) ∧ W.cell? ⟨w.heap.size, 1, none⟩ = some (.slice B nB cB) ∧ W.cell? ⟨w.heap.size, 2, none⟩ = some (.slice C nC cC) ∧ W.cell? ⟨w.heap.size, 3, none⟩ = some (.slice D nD cD)) ∧ W.cell? ⟨w.heap.size + 1, 0, none⟩ = some (.slice E m cE) ∧ w.heap.size < W.heap.size)) (by kernel_rfl) ?_ (fun hHeld => ?_)
        · (try dsimp only); (first | with_reducible exact (RD.out _ HT.out).1 | with_reducible assumption)
        refine lTake (i := 0) (v := ?_) rfl (by kernel_rfl) (by kernel_rfl) (by kernel_rfl) (fun _ _ _ h => h) (by rfl) (fun _ _ h => h) (fun _ _ h => h) ?_ (by assumption) (fun hHeld2 => ?_)
        rotate_left 1
        · (intro L W _ _ hSw; (try dsimp only at hSw); first | (go_simp; done) | (go_simp; with_reducible rfl))
        clear hHeld; have hHeld := hHeld2; clear hHeld2
        (try simp only [Act.put, List.setIfInBounds_toArray, List.set_cons_zero, List.set_cons_succ])
        refine lTake (i := 1) (v := ?_) rfl (by kernel_rfl) (by kernel_rfl) (by kernel_rfl) (fun _ _ _ h => h) (by rfl) (fun _ _ h => h) (fun _ _ h => h) ?_ (by assumption) (fun hHeld2 => ?_)
        rotate_left 1
        · (intro _ _ _ _ _; first | (go_simp; done) | (go_simp; with_reducible rfl))
        clear hHeld; have hHeld := hHeld2; clear hHeld2
        (try simp only [Act.put, List.setIfInBounds_toArray, List.set_cons_zero, List.set_cons_succ])
        refine lTake (i := 3) (v := ?_) rfl (by kernel_rfl) (by kernel_rfl) (by kernel_rfl) (fun _ _ _ h => h) (by rfl) (fun _ _ h => h) (fun _ _ h => h) ?_ (by assumption) (fun hHeld2 => ?_)
        rotate_left 1
        · (intro L W _ _ hSw; (try dsimp only at hSw); first | (go_simp; done) | (go_simp; with_reducible rfl))
        clear hHeld; have hHeld := hHeld2; clear hHeld2
        (try simp only [Act.put, List.setIfInBounds_toArray, List.set_cons_zero, List.set_cons_succ])
        refine lReady (rs := [2, 9]) (by kernel_rfl) (by simp) ?_
        refine AllL.cons (i := 2) rfl (fun K hK => ?_) ?_
        · go_simp; (refine (F90b.out _ l (RD.out _ HT.out).2.1).mono ?_; rintro e w6 ⟨G, c, rfl, hc, hSA, hb⟩; (try have HMK := Lib.hid (Blk.below HMK.out hb (Blk.lt HMK.out))); have HT := Lib.hid (HT.out.trans (hb.mono HT.out.size)); have HC := Lib.hid hc; have HSA := Lib.hid hSA; clear hb hc hSA)
          (try go_wp2_with fail)
          refine hK.out _ _ ?_ (fun hHeld2 => ?_)
          · (try dsimp only); (first | with_reducible exact (RD.out _ HT.out).1 | with_reducible assumption)
          clear hK K
          clear hHeld; have hHeld := hHeld2; clear hHeld2
          (try simp only [Act.put, List.setIfInBounds_toArray, List.set_cons_zero, List.set_cons_succ])
          refine lReady (rs := [4, 9]) (by kernel_rfl) (by simp) ?_
          refine AllL.cons (i := 4) rfl (fun K hK => ?_) ?_
          · go_simp; (refine (F50b.out l G c _ (RD.out _ HT.out).2.1 (by omega) HFV.out HC.out HSA.out).mono ?_; rintro e w7 ⟨⟨g1, g2, gp, k, gI, gO, RI, RO, rfl, z1, z2, z3⟩, hb⟩; (try have HMK := Lib.hid (Blk.below HMK.out hb (Blk.lt HMK.out))); have HT := Lib.hid (HT.out.trans (hb.mono HT.out.size)); have H1 := Lib.hid z1; have H2 := Lib.hid z2; have H3 := Lib.hid z3; clear hb z1 z2 z3 HSA)
            (try go_wp2_with fail)
            refine hK.out _ _ ?_ (fun hHeld2 => ?_)
            · (try dsimp only); (first | with_reducible exact (RD.out _ HT.out).1 | with_reducible assumption)
            clear hK K
            clear hHeld; have hHeld := hHeld2; clear hHeld2
            (try simp only [Act.put, List.setIfInBounds_toArray, List.set_cons_zero, List.set_cons_succ])
            refine lTake (i := 5) (v := ?_) rfl (by kernel_rfl) (by kernel_rfl) (by kernel_rfl) (fun _ _ _ h => h) (by rfl) (fun _ _ h => h) (fun _ _ h => h) ?_ (by assumption) (fun hHeld2 => ?_)
            rotate_left 1
            · (intro _ _ _ _ _; first | (go_simp; done) | (go_simp; with_reducible rfl))
            clear hHeld; have hHeld := hHeld2; clear hHeld2
            (try simp only [Act.put, List.setIfInBounds_toArray, List.set_cons_zero, List.set_cons_succ])
            refine lTake (i := 6) (v := ?_) rfl (by kernel_rfl) (by kernel_rfl) (by kernel_rfl) (fun _ _ _ h => h) (by rfl) (fun _ _ h => h) (fun _ _ h => h) ?_ (by assumption) (fun hHeld2 => ?_)
            rotate_left 1
            · (intro _ _ _ _ _; first | (go_simp; done) | (go_simp; with_reducible rfl))
            clear hHeld; have hHeld := hHeld2; clear hHeld2
            (try simp only [Act.put, List.setIfInBounds_toArray, List.set_cons_zero, List.set_cons_succ])
            refine lTake (i := 7) (v := ?_) rfl (by kernel_rfl) (by kernel_rfl) (by kernel_rfl) (fun _ _ _ h => h) (by rfl) (fun _ _ h => h) (fun _ _ h => h) ?_ (by assumption) (fun hHeld2 => ?_)
            rotate_left 1
            · (intro _ _ _ _ _; first | (go_simp; done) | (go_simp; with_reducible rfl))
            clear hHeld; have hHeld := hHeld2; clear hHeld2
            (try simp only [Act.put, List.setIfInBounds_toArray, List.set_cons_zero, List.set_cons_succ])
            refine lTake (i := 8) (v := ?_) rfl (by kernel_rfl) (by kernel_rfl) (by kernel_rfl) (fun _ _ _ h => h) (by rfl) (fun _ _ h => h) (fun _ _ h => h) ?_ (by assumption) (fun hHeld2 => ?_)
            rotate_left 1
            · (intro _ _ _ _ _; first | (go_simp; done) | (go_simp; with_reducible rfl))
            clear hHeld; have hHeld := hHeld2; clear hHeld2
            (try simp only [Act.put, List.setIfInBounds_toArray, List.set_cons_zero, List.set_cons_succ])
            refine lReady (rs := [9]) (by kernel_rfl) (by simp) ?_
            refine AllL.cons (i := 9) rfl (fun K hK => ?_) ?_
            · refine step_new (.cells #[.slice none 0 0, .slice none 0 0] 55) (fun g => .pointer (some ⟨g, 0, none⟩)) rfl (by kernel_rfl) ?_; intro b w8 y8 hc8 hb8; (try have H1 := Lib.hid (RwJ.below H1.out hb8)); (try have H2 := Lib.hid (RwJ.below H2.out hb8)); (try have HSA := Lib.hid (SiteAt.below HSA.out hb8 (Nat.le_refl _))); have HMK := Lib.hid (show Blk w8 b 55 [.slice none 0 0, .slice none 0 0] from hc8); have HMT := Lib.hid (Nat.le_trans HT.out.size y8); have HT := Lib.hid (HT.out.trans (hb8.mono HT.out.size)); clear hb8 hc8 y8
              (try go_wp2_with fail)
              refine hK.out _ _ ?_ (fun hHeld2 => ?_)
              · (try dsimp only); (first | with_reducible exact (RD.out _ HT.out).1 | with_reducible assumption)
              clear hK K
              clear hHeld; have hHeld := hHeld2; clear hHeld2
              (try simp only [Act.put, List.setIfInBounds_toArray, List.set_cons_zero, List.set_cons_succ])
              refine lReady (rs := [10]) (by kernel_rfl) (by simp) ?_
              refine AllL.cons (i := 10) rfl (fun K hK => ?_) ?_
              · (have q0 := HMK.out.cell 0 rfl; have q1 := HMK.out.cell 1 rfl; have z0 := HMK.out.free 0; have z1 := HMK.out.free 1; have zl := HMK.out.lt; have HE1 := Lib.hid ((HMK.out.setCell 0 (.slice (some ⟨g1, 0, none⟩) m m)).setCell 1 (.slice (some ⟨g2, 0, none⟩) m m)); have HE2 := Lib.hid ((H1.out.typ (p := ⟨b, 0, none⟩) HMK.out (by decide) (by decide) (.slice (some ⟨g1, 0, none⟩) m m)).typ (p := ⟨b, 1, none⟩) (HMK.out.setCell 0 (.slice (some ⟨g1, 0, none⟩) m m)) (by decide) (by decide) (.slice (some ⟨g2, 0, none⟩) m m)); have HE3 := Lib.hid ((H2.out.typ (p := ⟨b, 0, none⟩) HMK.out (by decide) (by decide) (.slice (some ⟨g1, 0, none⟩) m m)).typ (p := ⟨b, 1, none⟩) (HMK.out.setCell 0 (.slice (some ⟨g1, 0, none⟩) m m)) (by decide) (by decide) (.slice (some ⟨g2, 0, none⟩) m m)); have HT := Lib.hid ((HT.out.setCell (p := ⟨b, 0, none⟩) HMT.out (.slice (some ⟨g1, 0, none⟩) m m)).setCell (p := ⟨b, 1, none⟩) HMT.out (.slice (some ⟨g2, 0, none⟩) m m)); go_simp)
                (try go_wp2_with fail)
                refine hK.out _ _ ?_ (fun hHeld2 => ?_)
                · (try dsimp only); (first | with_reducible exact (RD.out _ HT.out).1 | with_reducible assumption)
                clear hK K
                clear hHeld; have hHeld := hHeld2; clear hHeld2
                (try simp only [Act.put, List.setIfInBounds_toArray, List.set_cons_zero, List.set_cons_succ])
                refine lTake (i := 11) (v := ?_) rfl (by kernel_rfl) (by kernel_rfl) (by kernel_rfl) (fun _ _ _ h => h) (by rfl) (fun _ _ h => h) (fun _ _ h => h) ?_ (by assumption) (fun hHeld2 => ?_)
                rotate_left 1
                · (intro _ _ _ _ _; first | (go_simp; done) | (go_simp; with_reducible rfl))
                clear hHeld; have hHeld := hHeld2; clear hHeld2
                (try simp only [Act.put, List.setIfInBounds_toArray, List.set_cons_zero, List.set_cons_succ])
                refine lTake (i := 12) (v := ?_) rfl (by kernel_rfl) (by kernel_rfl) (by kernel_rfl) (fun _ _ _ h => h) (by rfl) (fun _ _ h => h) (fun _ _ h => h) ?_ (by assumption) (fun hHeld2 => ?_)
                rotate_left 1
                · (intro _ _ _ _ _; first | (go_simp; done) | (go_simp; with_reducible rfl))
                clear hHeld; have hHeld := hHeld2; clear hHeld2
                (try simp only [Act.put, List.setIfInBounds_toArray, List.set_cons_zero, List.set_cons_succ])
                refine lDone (by kernel_rfl) ?_ _
                clear hHeld
                go_wp2_with fail
                go_meet
                case rel => exact ⟨b, g1, g2, gI, gO, RI, RO, rfl, rfl, Lib.hid ⟨HE1.out, HE2.out, HE3.out, H3.out, HT.out, HMT.out⟩⟩
              exact AllL.nil
            exact AllL.nil
          refine AllL.cons (i := 9) rfl (fun K hK => ?_) ?_
          · refine step_new (.cells #[.slice none 0 0, .slice none 0 0] 55) (fun g => .pointer (some ⟨g, 0, none⟩)) rfl (by kernel_rfl) ?_; intro b w8 y8 hc8 hb8; (try have H1 := Lib.hid (RwJ.below H1.out hb8)); (try have H2 := Lib.hid (RwJ.below H2.out hb8)); (try have HSA := Lib.hid (SiteAt.below HSA.out hb8 (Nat.le_refl _))); have HMK := Lib.hid (show Blk w8 b 55 [.slice none 0 0, .slice none 0 0] from hc8); have HMT := Lib.hid (Nat.le_trans HT.out.size y8); have HT := Lib.hid (HT.out.trans (hb8.mono HT.out.size)); clear hb8 hc8 y8
            (try go_wp2_with fail)
            refine hK.out _ _ ?_ (fun hHeld2 => ?_)
            · (try dsimp only); (first | with_reducible exact (RD.out _ HT.out).1 | with_reducible assumption)
            clear hK K
            clear hHeld; have hHeld := hHeld2; clear hHeld2
            (try simp only [Act.put, List.setIfInBounds_toArray, List.set_cons_zero, List.set_cons_succ])
            refine lReady (rs := [4]) (by kernel_rfl) (by simp) ?_
            refine AllL.cons (i := 4) rfl (fun K hK => ?_) ?_
            · go_simp; (refine (F50b.out l G c _ (RD.out _ HT.out).2.1 (by omega) HFV.out HC.out HSA.out).mono ?_; rintro e w7 ⟨⟨g1, g2, gp, k, gI, gO, RI, RO, rfl, z1, z2, z3⟩, hb⟩; (try have HMK := Lib.hid (Blk.below HMK.out hb (Blk.lt HMK.out))); have HT := Lib.hid (HT.out.trans (hb.mono HT.out.size)); have H1 := Lib.hid z1; have H2 := Lib.hid z2; have H3 := Lib.hid z3; clear hb z1 z2 z3 HSA)
              (try go_wp2_with fail)
              refine hK.out _ _ ?_ (fun hHeld2 => ?_)
              · (try dsimp only); (first | with_reducible exact (RD.out _ HT.out).1 | with_reducible assumption)
              clear hK K
              clear hHeld; have hHeld := hHeld2; clear hHeld2
              (try simp only [Act.put, List.setIfInBounds_toArray, List.set_cons_zero, List.set_cons_succ])
              refine lTake (i := 5) (v := ?_) rfl (by kernel_rfl) (by kernel_rfl) (by kernel_rfl) (fun _ _ _ h => h) (by rfl) (fun _ _ h => h) (fun _ _ h => h) ?_ (by assumption) (fun hHeld2 => ?_)
              rotate_left 1
              · (intro _ _ _ _ _; first | (go_simp; done) | (go_simp; with_reducible rfl))
              clear hHeld; have hHeld := hHeld2; clear hHeld2
              (try simp only [Act.put, List.setIfInBounds_toArray, List.set_cons_zero, List.set_cons_succ])
              refine lTake (i := 6) (v := ?_) rfl (by kernel_rfl) (by kernel_rfl) (by kernel_rfl) (fun _ _ _ h => h) (by rfl) (fun _ _ h => h) (fun _ _ h => h) ?_ (by assumption) (fun hHeld2 => ?_)
              rotate_left 1
              · (intro _ _ _ _ _; first | (go_simp; done) | (go_simp; with_reducible rfl))
              clear hHeld; have hHeld := hHeld2; clear hHeld2
              (try simp only [Act.put, List.setIfInBounds_toArray, List.set_cons_zero, List.set_cons_succ])
              refine lTake (i := 7) (v := ?_) rfl (by kernel_rfl) (by kernel_rfl) (by kernel_rfl) (fun _ _ _ h => h) (by rfl) (fun _ _ h => h) (fun _ _ h => h) ?_ (by assumption) (fun hHeld2 => ?_)
              rotate_left 1
              · (intro _ _ _ _ _; first | (go_simp; done) | (go_simp; with_reducible rfl))
              clear hHeld; have hHeld := hHeld2; clear hHeld2
              (try simp only [Act.put, List.setIfInBounds_toArray, List.set_cons_zero, List.set_cons_succ])
              refine lTake (i := 8) (v := ?_) rfl (by kernel_rfl) (by kernel_rfl) (by kernel_rfl) (fun _ _ _ h => h) (by rfl) (fun _ _ h => h) (fun _ _ h => h) ?_ (by assumption) (fun hHeld2 => ?_)
              rotate_left 1
              · (intro _ _ _ _ _; first | (go_simp; done) | (go_simp; with_reducible rfl))
              clear hHeld; have hHeld := hHeld2; clear hHeld2
              (try simp only [Act.put, List.setIfInBounds_toArray, List.set_cons_zero, List.set_cons_succ])
              refine lReady (rs := [10]) (by kernel_rfl) (by simp) ?_
              refine AllL.cons (i := 10) rfl (fun K hK => ?_) ?_
              · (have q0 := HMK.out.cell 0 rfl; have q1 := HMK.out.cell 1 rfl; have z0 := HMK.out.free 0; have z1 := HMK.out.free 1; have zl := HMK.out.lt; have HE1 := Lib.hid ((HMK.out.setCell 0 (.slice (some ⟨g1, 0, none⟩) m m)).setCell 1 (.slice (some ⟨g2, 0, none⟩) m m)); have HE2 := Lib.hid ((H1.out.typ (p := ⟨b, 0, none⟩) HMK.out (by decide) (by decide) (.slice (some ⟨g1, 0, none⟩) m m)).typ (p := ⟨b, 1, none⟩) (HMK.out.setCell 0 (.slice (some ⟨g1, 0, none⟩) m m)) (by decide) (by decide) (.slice (some ⟨g2, 0, none⟩) m m)); have HE3 := Lib.hid ((H2.out.typ (p := ⟨b, 0, none⟩) HMK.out (by decide) (by decide) (.slice (some ⟨g1, 0, none⟩) m m)).typ (p := ⟨b, 1, none⟩) (HMK.out.setCell 0 (.slice (some ⟨g1, 0, none⟩) m m)) (by decide) (by decide) (.slice (some ⟨g2, 0, none⟩) m m)); have HT := Lib.hid ((HT.out.setCell (p := ⟨b, 0, none⟩) HMT.out (.slice (some ⟨g1, 0, none⟩) m m)).setCell (p := ⟨b, 1, none⟩) HMT.out (.slice (some ⟨g2, 0, none⟩) m m)); go_simp)
                (try go_wp2_with fail)
                refine hK.out _ _ ?_ (fun hHeld2 => ?_)
                · (try dsimp only); (first | with_reducible exact (RD.out _ HT.out).1 | with_reducible assumption)
                clear hK K
                clear hHeld; have hHeld := hHeld2; clear hHeld2
                (try simp only [Act.put, List.setIfInBounds_toArray, List.set_cons_zero, List.set_cons_succ])
                refine lTake (i := 11) (v := ?_) rfl (by kernel_rfl) (by kernel_rfl) (by kernel_rfl) (fun _ _ _ h => h) (by rfl) (fun _ _ h => h) (fun _ _ h => h) ?_ (by assumption) (fun hHeld2 => ?_)
                rotate_left 1
                · (intro _ _ _ _ _; first | (go_simp; done) | (go_simp; with_reducible rfl))
                clear hHeld; have hHeld := hHeld2; clear hHeld2
                (try simp only [Act.put, List.setIfInBounds_toArray, List.set_cons_zero, List.set_cons_succ])
                refine lTake (i := 12) (v := ?_) rfl (by kernel_rfl) (by kernel_rfl) (by kernel_rfl) (fun _ _ _ h => h) (by rfl) (fun _ _ h => h) (fun _ _ h => h) ?_ (by assumption) (fun hHeld2 => ?_)
                rotate_left 1
                · (intro _ _ _ _ _; first | (go_simp; done) | (go_simp; with_reducible rfl))
                clear hHeld; have hHeld := hHeld2; clear hHeld2
                (try simp only [Act.put, List.setIfInBounds_toArray, List.set_cons_zero, List.set_cons_succ])
                refine lDone (by kernel_rfl) ?_ _
                clear hHeld
                go_wp2_with fail
                go_meet
                case rel => exact ⟨b, g1, g2, gI, gO, RI, RO, rfl, rfl, Lib.hid ⟨HE1.out, HE2.out, HE3.out, H3.out, HT.out, HMT.out⟩⟩
              exact AllL.nil
            exact AllL.nil
          exact AllL.nil
        refine AllL.cons (i := 9) rfl (fun K hK => ?_) ?_
        · refine step_new (.cells #[.slice none 0 0, .slice none 0 0] 55) (fun g => .pointer (some ⟨g, 0, none⟩)) rfl (by kernel_rfl) ?_; intro b w8 y8 hc8 hb8; (try have H1 := Lib.hid (RwJ.below H1.out hb8)); (try have H2 := Lib.hid (RwJ.below H2.out hb8)); (try have HSA := Lib.hid (SiteAt.below HSA.out hb8 (Nat.le_refl _))); have HMK := Lib.hid (show Blk w8 b 55 [.slice none 0 0, .slice none 0 0] from hc8); have HMT := Lib.hid (Nat.le_trans HT.out.size y8); have HT := Lib.hid (HT.out.trans (hb8.mono HT.out.size)); clear hb8 hc8 y8
          (try go_wp2_with fail)
          refine hK.out _ _ ?_ (fun hHeld2 => ?_)
          · (try dsimp only); (first | with_reducible exact (RD.out _ HT.out).1 | with_reducible assumption)
          clear hK K
          clear hHeld; have hHeld := hHeld2; clear hHeld2
          (try simp only [Act.put, List.setIfInBounds_toArray, List.set_cons_zero, List.set_cons_succ])
          refine lReady (rs := [2]) (by kernel_rfl) (by simp) ?_
          refine AllL.cons (i := 2) rfl (fun K hK => ?_) ?_
          · go_simp; (refine (F90b.out _ l (RD.out _ HT.out).2.1).mono ?_; rintro e w6 ⟨G, c, rfl, hc, hSA, hb⟩; (try have HMK := Lib.hid (Blk.below HMK.out hb (Blk.lt HMK.out))); have HT := Lib.hid (HT.out.trans (hb.mono HT.out.size)); have HC := Lib.hid hc; have HSA := Lib.hid hSA; clear hb hc hSA)
            (try go_wp2_with fail)
            refine hK.out _ _ ?_ (fun hHeld2 => ?_)
            · (try dsimp only); (first | with_reducible exact (RD.out _ HT.out).1 | with_reducible assumption)
            clear hK K
            clear hHeld; have hHeld := hHeld2; clear hHeld2
            (try simp only [Act.put, List.setIfInBounds_toArray, List.set_cons_zero, List.set_cons_succ])
            refine lReady (rs := [4]) (by kernel_rfl) (by simp) ?_
            refine AllL.cons (i := 4) rfl (fun K hK => ?_) ?_
            · go_simp; (refine (F50b.out l G c _ (RD.out _ HT.out).2.1 (by omega) HFV.out HC.out HSA.out).mono ?_; rintro e w7 ⟨⟨g1, g2, gp, k, gI, gO, RI, RO, rfl, z1, z2, z3⟩, hb⟩; (try have HMK := Lib.hid (Blk.below HMK.out hb (Blk.lt HMK.out))); have HT := Lib.hid (HT.out.trans (hb.mono HT.out.size)); have H1 := Lib.hid z1; have H2 := Lib.hid z2; have H3 := Lib.hid z3; clear hb z1 z2 z3 HSA)
              (try go_wp2_with fail)
              refine hK.out _ _ ?_ (fun hHeld2 => ?_)
              · (try dsimp only); (first | with_reducible exact (RD.out _ HT.out).1 | with_reducible assumption)
              clear hK K
              clear hHeld; have hHeld := hHeld2; clear hHeld2
              (try simp only [Act.put, List.setIfInBounds_toArray, List.set_cons_zero, List.set_cons_succ])
              refine lTake (i := 5) (v := ?_) rfl (by kernel_rfl) (by kernel_rfl) (by kernel_rfl) (fun _ _ _ h => h) (by rfl) (fun _ _ h => h) (fun _ _ h => h) ?_ (by assumption) (fun hHeld2 => ?_)
              rotate_left 1
              · (intro _ _ _ _ _; first | (go_simp; done) | (go_simp; with_reducible rfl))
              clear hHeld; have hHeld := hHeld2; clear hHeld2
              (try simp only [Act.put, List.setIfInBounds_toArray, List.set_cons_zero, List.set_cons_succ])
              refine lTake (i := 6) (v := ?_) rfl (by kernel_rfl) (by kernel_rfl) (by kernel_rfl) (fun _ _ _ h => h) (by rfl) (fun _ _ h => h) (fun _ _ h => h) ?_ (by assumption) (fun hHeld2 => ?_)
              rotate_left 1
              · (intro _ _ _ _ _; first | (go_simp; done) | (go_simp; with_reducible rfl))
              clear hHeld; have hHeld := hHeld2; clear hHeld2
              (try simp only [Act.put, List.setIfInBounds_toArray, List.set_cons_zero, List.set_cons_succ])
              refine lTake (i := 7) (v := ?_) rfl (by kernel_rfl) (by kernel_rfl) (by kernel_rfl) (fun _ _ _ h => h) (by rfl) (fun _ _ h => h) (fun _ _ h => h) ?_ (by assumption) (fun hHeld2 => ?_)
              rotate_left 1
              · (intro _ _ _ _ _; first | (go_simp; done) | (go_simp; with_reducible rfl))
              clear hHeld; have hHeld := hHeld2; clear hHeld2
              (try simp only [Act.put, List.setIfInBounds_toArray, List.set_cons_zero, List.set_cons_succ])
              refine lTake (i := 8) (v := ?_) rfl (by kernel_rfl) (by kernel_rfl) (by kernel_rfl) (fun _ _ _ h => h) (by rfl) (fun _ _ h => h) (fun _ _ h => h) ?_ (by assumption) (fun hHeld2 => ?_)
              rotate_left 1
              · (intro _ _ _ _ _; first | (go_simp; done) | (go_simp; with_reducible rfl))
              clear hHeld; have hHeld := hHeld2; clear hHeld2
              (try simp only [Act.put, List.setIfInBounds_toArray, List.set_cons_zero, List.set_cons_succ])
              refine lReady (rs := [10]) (by kernel_rfl) (by simp) ?_
              refine AllL.cons (i := 10) rfl (fun K hK => ?_) ?_
              · (have q0 := HMK.out.cell 0 rfl; have q1 := HMK.out.cell 1 rfl; have z0 := HMK.out.free 0; have z1 := HMK.out.free 1; have zl := HMK.out.lt; have HE1 := Lib.hid ((HMK.out.setCell 0 (.slice (some ⟨g1, 0, none⟩) m m)).setCell 1 (.slice (some ⟨g2, 0, none⟩) m m)); have HE2 := Lib.hid ((H1.out.typ (p := ⟨b, 0, none⟩) HMK.out (by decide) (by decide) (.slice (some ⟨g1, 0, none⟩) m m)).typ (p := ⟨b, 1, none⟩) (HMK.out.setCell 0 (.slice (some ⟨g1, 0, none⟩) m m)) (by decide) (by decide) (.slice (some ⟨g2, 0, none⟩) m m)); have HE3 := Lib.hid ((H2.out.typ (p := ⟨b, 0, none⟩) HMK.out (by decide) (by decide) (.slice (some ⟨g1, 0, none⟩) m m)).typ (p := ⟨b, 1, none⟩) (HMK.out.setCell 0 (.slice (some ⟨g1, 0, none⟩) m m)) (by decide) (by decide) (.slice (some ⟨g2, 0, none⟩) m m)); have HT := Lib.hid ((HT.out.setCell (p := ⟨b, 0, none⟩) HMT.out (.slice (some ⟨g1, 0, none⟩) m m)).setCell (p := ⟨b, 1, none⟩) HMT.out (.slice (some ⟨g2, 0, none⟩) m m)); go_simp)
                (try go_wp2_with fail)
                refine hK.out _ _ ?_ (fun hHeld2 => ?_)
                · (try dsimp only); (first | with_reducible exact (RD.out _ HT.out).1 | with_reducible assumption)
                clear hK K
                clear hHeld; have hHeld := hHeld2; clear hHeld2
                (try simp only [Act.put, List.setIfInBounds_toArray, List.set_cons_zero, List.set_cons_succ])
                refine lTake (i := 11) (v := ?_) rfl (by kernel_rfl) (by kernel_rfl) (by kernel_rfl) (fun _ _ _ h => h) (by rfl) (fun _ _ h => h) (fun _ _ h => h) ?_ (by assumption) (fun hHeld2 => ?_)
                rotate_left 1
                · (intro _ _ _ _ _; first | (go_simp; done) | (go_simp; with_reducible rfl))
                clear hHeld; have hHeld := hHeld2; clear hHeld2
                (try simp only [Act.put, List.setIfInBounds_toArray, List.set_cons_zero, List.set_cons_succ])
                refine lTake (i := 12) (v := ?_) rfl (by kernel_rfl) (by kernel_rfl) (by kernel_rfl) (fun _ _ _ h => h) (by rfl) (fun _ _ h => h) (fun _ _ h => h) ?_ (by assumption) (fun hHeld2 => ?_)
                rotate_left 1
                · (intro _ _ _ _ _; first | (go_simp; done) | (go_simp; with_reducible rfl))
                clear hHeld; have hHeld := hHeld2; clear hHeld2
                (try simp only [Act.put, List.setIfInBounds_toArray, List.set_cons_zero, List.set_cons_succ])
                refine lDone (by kernel_rfl) ?_ _
                clear hHeld
                go_wp2_with fail
                go_meet
                case rel => exact ⟨b, g1, g2, gI, gO, RI, RO, rfl, rfl, Lib.hid ⟨HE1.out, HE2.out, HE3.out, H3.out, HT.out, HMT.out⟩⟩
              exact AllL.nil
            exact AllL.nil
          exact AllL.nil
        exact AllL.nil
      case rest =>
        clear HT F90b F50b
        obtain ⟨b, g1, g2, gI, gO, RI, RO, rfl, rfl, HJ⟩ := hcut
        have HT := Lib.hid HJ.out.2.2.2.2.1.drew
        have HD := Lib.hid (HJ.out.2.2.2.2.1)
        have XB := Lib.hid (Blk.drew HJ.out.1)
        have hbn : b ≠ w.heap.size + 1 + 1 := by have := HJ.out.2.2.2.2.2; have := HRL.out; omega
        have RJ : Hid (∀ W, Below wc.heap.size wc W → RwJ n m g1 gI RI W ∧ RwJ n m g2 gO RO W ∧ (W.cell? ⟨b, 0, none⟩ = some (.slice (some ⟨g1, 0, none⟩) m m) ∧ W.cell? ⟨b, 1, none⟩ = some (.slice (some ⟨g2, 0, none⟩) m m) ∧ b < W.heap.size)) := Lib.hid (fun W hW => by have x := HJ.out.1.below hW HJ.out.1.lt; exact ⟨HJ.out.2.1.below hW, HJ.out.2.2.1.below hW, x.cell 0 rfl, x.cell 1 rfl, x.lt⟩)
        have HPL := Lib.hid HJ.out.2.2.2.1
        have HT := Lib.hid (Below.refl wc.heap.size wc).drew
        clear HJ
        go_upto_region 16 with fail
        refine lBegin (S := fun L W => (True) ∧ (L.getD 5 false = true ∨ (W.cell? ⟨b, 0, none⟩ = some (.slice (some ⟨g1, 0, none⟩) m m) ∧ W.cell? ⟨b, 1, none⟩ = some (.slice (some ⟨g2, 0, none⟩) m m) ∧ b < W.heap.size))) (by kernel_rfl) ?_ (fun hHeld => ?_)
        · (try dsimp only); refine ⟨?_, Or.inr ?_⟩
          · (first | trivial | with_reducible assumption)
          · (first | with_reducible exact (RJ.out _ HT.out).2.2 | with_reducible assumption)
        refine lTake (i := 0) (v := ?_) rfl (by kernel_rfl) (by kernel_rfl) (by kernel_rfl) (fun _ _ _ h => h) (by rfl) (fun _ _ h => by simpa only [getD_set_ne false (show 0 ≠ 5 by decide)] using h) (fun _ _ h => by simpa only [getD_set_ne false (show 0 ≠ 5 by decide)] using h) ?_ (by assumption) (fun hHeld2 => ?_)
        rotate_left 1
        · (intro _ _ _ _ _; first | (go_simp; done) | (go_simp; with_reducible rfl))
        clear hHeld; have hHeld := hHeld2; clear hHeld2
        (try simp only [Act.put, List.setIfInBounds_toArray, List.set_cons_zero, List.set_cons_succ])
        refine lTake (i := 1) (v := ?_) rfl (by kernel_rfl) (by kernel_rfl) (by kernel_rfl) (fun _ _ _ h => h) (by rfl) (fun _ _ h => by simpa only [getD_set_ne false (show 1 ≠ 5 by decide)] using h) (fun _ _ h => by simpa only [getD_set_ne false (show 1 ≠ 5 by decide)] using h) ?_ (by assumption) (fun hHeld2 => ?_)
        rotate_left 1
        · (intro L W hL hK hSw; (try dsimp only at hSw); obtain ⟨h0, h1⟩ := hSw; replace h1 := still [] hK hL (by kernel_rfl) h1; clear hL hK; first | (go_simp; done) | (go_simp; with_reducible rfl))
        clear hHeld; have hHeld := hHeld2; clear hHeld2
        (try simp only [Act.put, List.setIfInBounds_toArray, List.set_cons_zero, List.set_cons_succ])
        refine lTake (i := 2) (v := ?_) rfl (by kernel_rfl) (by kernel_rfl) (by kernel_rfl) (fun _ _ _ h => h) (by rfl) (fun _ _ h => by simpa only [getD_set_ne false (show 2 ≠ 5 by decide)] using h) (fun _ _ h => by simpa only [getD_set_ne false (show 2 ≠ 5 by decide)] using h) ?_ (by assumption) (fun hHeld2 => ?_)
        rotate_left 1
        · (intro _ _ _ _ _; first | (go_simp; done) | (go_simp; with_reducible rfl))
        clear hHeld; have hHeld := hHeld2; clear hHeld2
        (try simp only [Act.put, List.setIfInBounds_toArray, List.set_cons_zero, List.set_cons_succ])
        refine lTake (i := 3) (v := ?_) rfl (by kernel_rfl) (by kernel_rfl) (by kernel_rfl) (fun _ _ _ h => h) (by rfl) (fun _ _ h => by simpa only [getD_set_ne false (show 3 ≠ 5 by decide)] using h) (fun _ _ h => by simpa only [getD_set_ne false (show 3 ≠ 5 by decide)] using h) ?_ (by assumption) (fun hHeld2 => ?_)
        rotate_left 1
        · (intro _ _ _ _ _; first | (go_simp; done) | (go_simp; with_reducible rfl))
        clear hHeld; have hHeld := hHeld2; clear hHeld2
        (try simp only [Act.put, List.setIfInBounds_toArray, List.set_cons_zero, List.set_cons_succ])
        refine lTake (i := 4) (v := ?_) rfl (by kernel_rfl) (by kernel_rfl) (by kernel_rfl) (fun _ _ _ h => h) (by rfl) (fun _ _ h => by simpa only [getD_set_ne false (show 4 ≠ 5 by decide)] using h) (fun _ _ h => by simpa only [getD_set_ne false (show 4 ≠ 5 by decide)] using h) ?_ (by assumption) (fun hHeld2 => ?_)
        rotate_left 1
        · (intro _ _ _ _ _; first | (go_simp; done) | (go_simp; with_reducible rfl))
        clear hHeld; have hHeld := hHeld2; clear hHeld2
        (try simp only [Act.put, List.setIfInBounds_toArray, List.set_cons_zero, List.set_cons_succ])
        refine lReady (rs := [5]) (by kernel_rfl) (by simp) ?_
        refine AllL.cons (i := 5) rfl (fun K hK => ?_) ?_
        · (have HX := RD.out _ (HD.out.trans (HT.out.mono HD.out.size)); have XR := HX.2.2.2; have q0 := XR.cell 0 rfl; have q1 := XR.cell 1 rfl; have z0 := XR.free 0; have z1 := XR.free 1; have zl := XR.lt; have XR0 := (RD.out _ HD.out).2.2.2; have y0 := XR0.cell 0 rfl; have y1 := XR0.cell 1 rfl; have y2 := XR0.free 0; have y3 := XR0.free 1; have y4 := XR0.lt; have HE0 := Lib.hid ((XR0.setCell 0 (.slice (some ⟨g1, 0, none⟩) m m)).setCell 1 (.slice (some ⟨g2, 0, none⟩) m m)); clear XR0; have HE1 := Lib.hid ((XR.setCell 0 (.slice (some ⟨g1, 0, none⟩) m m)).setCell 1 (.slice (some ⟨g2, 0, none⟩) m m)); have HE2 := Lib.hid (((RJ.out _ HT.out).1.typ (p := ⟨w.heap.size + 1 + 1, 0, none⟩) XR (by decide) (by decide) (.slice (some ⟨g1, 0, none⟩) m m)).typ (p := ⟨w.heap.size + 1 + 1, 1, none⟩) (XR.setCell 0 (.slice (some ⟨g1, 0, none⟩) m m)) (by decide) (by decide) (.slice (some ⟨g2, 0, none⟩) m m)); have HE3 := Lib.hid (((RJ.out _ HT.out).2.1.typ (p := ⟨w.heap.size + 1 + 1, 0, none⟩) XR (by decide) (by decide) (.slice (some ⟨g1, 0, none⟩) m m)).typ (p := ⟨w.heap.size + 1 + 1, 1, none⟩) (XR.setCell 0 (.slice (some ⟨g1, 0, none⟩) m m)) (by decide) (by decide) (.slice (some ⟨g2, 0, none⟩) m m)); have HE4 := Lib.hid ((HX.2.1.setCell (p := ⟨w.heap.size + 1 + 1, 0, none⟩) (by simp only; omega) (.slice (some ⟨g1, 0, none⟩) m m)).setCell (p := ⟨w.heap.size + 1 + 1, 1, none⟩) (by simp only; omega) (.slice (some ⟨g2, 0, none⟩) m m)); have HE5 := Lib.hid (ownSet (p := ⟨w.heap.size + 1 + 1, 1, none⟩) (ownSet (p := ⟨w.heap.size + 1 + 1, 0, none⟩) HX.2.2.1 (own_blk_no2 XR HX.2.2.1 (by decide)) (.slice (some ⟨g1, 0, none⟩) m m)) (own_blk_no2 (XR.setCell 0 (.slice (some ⟨g1, 0, none⟩) m m)) (ownSet (p := ⟨w.heap.size + 1 + 1, 0, none⟩) HX.2.2.1 (own_blk_no2 XR HX.2.2.1 (by decide)) (.slice (some ⟨g1, 0, none⟩) m m)) (by decide)) (.slice (some ⟨g2, 0, none⟩) m m)); clear HX XR; go_simp)
          (try go_wp2_with fail)
          refine hK.out _ _ ?_ (fun hHeld2 => ?_)
          · (try dsimp only); refine ⟨?_, Or.inl (by rfl)⟩
            · (first | trivial | with_reducible assumption)
          clear hK K
          clear hHeld; have hHeld := hHeld2; clear hHeld2
          (try simp only [Act.put, List.setIfInBounds_toArray, List.set_cons_zero, List.set_cons_succ])
          refine lTake (i := 6) (v := ?_) rfl (by kernel_rfl) (by kernel_rfl) (by kernel_rfl) (fun _ _ _ h => h) (by rfl) (fun _ _ h => by simpa only [getD_set_ne false (show 6 ≠ 5 by decide)] using h) (fun _ _ h => by simpa only [getD_set_ne false (show 6 ≠ 5 by decide)] using h) ?_ (by assumption) (fun hHeld2 => ?_)
          rotate_left 1
          · (intro _ _ _ _ _; first | (go_simp; done) | (go_simp; with_reducible rfl))
          clear hHeld; have hHeld := hHeld2; clear hHeld2
          (try simp only [Act.put, List.setIfInBounds_toArray, List.set_cons_zero, List.set_cons_succ])
          refine lTake (i := 7) (v := ?_) rfl (by kernel_rfl) (by kernel_rfl) (by kernel_rfl) (fun _ _ _ h => h) (by rfl) (fun _ _ h => by simpa only [getD_set_ne false (show 7 ≠ 5 by decide)] using h) (fun _ _ h => by simpa only [getD_set_ne false (show 7 ≠ 5 by decide)] using h) ?_ (by assumption) (fun hHeld2 => ?_)
          rotate_left 1
          · (intro _ _ _ _ _; first | (go_simp; done) | (go_simp; with_reducible rfl))
          clear hHeld; have hHeld := hHeld2; clear hHeld2
          (try simp only [Act.put, List.setIfInBounds_toArray, List.set_cons_zero, List.set_cons_succ])
          refine lDone (by kernel_rfl) ?_ _
          clear hHeld
          go_wp2_with fail
          have q0 := HE1.out.cell 0 rfl
          have q1 := HE1.out.cell 1 rfl
          have q2 := HE0.out.cell 0 rfl
          have q3 := HE0.out.cell 1 rfl
          exact bodyPost_ret (v := .tuple #[.int .i64 l, .agg #[.slice (some ⟨g1, 0, none⟩) m m, .slice (some ⟨g2, 0, none⟩) m m], .slice Y y cY, .int .i64 0]) (by simp [results, Try.results52, go_sem, q0, q1, q2, q3]) rfl ⟨HP3b.out l g1 g2 gI gO RI RO Y y cY cut _ ⟨by omega, by omega⟩ HE2.out HE3.out HPL.out HYY.out.1 (own_ints2 HE5.out HYY.out.1) HYY.out.2.2.1 HYY.out.2.2.2, HE4.out⟩
        exact AllL.nil
end Go.Proofs.Ytmebpglkeedaoaa
namespace Go.Proofs.Ytmebpglkeedaoaa
open Go.RowKit Dp
def CostV (S : Site) (cs : List Car) (e : Ending) : Prop :=
  (∃ T p, Best S cs T p ∧ e = .returned (.tuple #[.int .i64 (prc S T cs.length S.lim.length), .bool true])) ∨
  (e = .returned (.tuple #[.int .i64 0, .bool false]) ∧ (stE S cs ≠ 0 ∨ ∀ T, plE S cs T ≠ 0))
theorem RwJ.tab2 {n m g1 g2 : Nat} {gI gO : Nat → Nat} {RI RO : Nat → List Int} {W : World} (h1 : RwJ n m g1 gI RI W) (h2 : RwJ n m g2 gO RO W) (hn : n ≤ 9223372036854775807) : TabAt W (some ⟨g1, 0, none⟩) (some ⟨g2, 0, none⟩) ⟨(List.range m).map RI, (List.range m).map RO⟩ := ⟨h1.rows hn, h2.rows hn⟩
set_option maxHeartbeats 4000000 in
set_option maxRecDepth 100000 in
theorem cost_c (A B C D E : Option Addr) (S : Site) (cs : List Car) (n nB nC nD m cA cB cC cD cE : Nat) (w : World) (hn : n = S.lim.length) (hnB : nB = S.exp.length) (hnC : nC = S.buy.length) (hnD : nD = S.sell.length) (hm : m = cs.length)
    (hA : n ≤ cA ∧ cA ≤ 9223372036854775807) (hB : nB ≤ cB ∧ cB ≤ 9223372036854775807) (hC : nC ≤ cC ∧ cC ≤ 9223372036854775807) (hD : nD ≤ cD ∧ cD ≤ 9223372036854775807) (hE : m ≤ cE ∧ cE ≤ 9223372036854775807)
    (hS : SiteAt w A B C D S) (hcs : CarsAt w E cs) :
    Calls Try.prog 51 #[.agg #[.slice A n cA, .slice B nB cB, .slice C nC cC, .slice D nD cD], .slice E m cE] w fun e w' => CostV S cs e ∧ Below w.heap.size w w' := by
  have F50 : Hid (∀ V, Below w.heap.size w V → Calls Try.prog 50 #[.agg #[.slice A n cA, .slice B nB cB, .slice C nC cC, .slice D nD cD], .slice E m cE] V (fun e w' => PlanP S cs V e w' ∧ Below V.heap.size V w')) := Lib.hid (fun V hV => Plan_c A B C D E S cs n nB nC nD m cA cB cC cD cE V hn hnB hnC hnD hm hA hB hC hD hE (hS.below hV (Nat.le_refl _)) (hcs.below hV (Nat.le_refl _)))
  have F38 : Hid (∀ (T : Tab) (g1 g2 : Nat) V, Below w.heap.size w V → T.inn.length = m → T.out.length = m → TabAt V (some ⟨g1, 0, none⟩) (some ⟨g2, 0, none⟩) T → plE S cs T = 0 → m ≤ 8 → Calls Try.prog 38 #[.agg #[.slice A n cA, .slice B nB cB, .slice C nC cC, .slice D nD cD], .slice E m cE, .agg #[.slice (some ⟨g1, 0, none⟩) m m, .slice (some ⟨g2, 0, none⟩) m m]] V (fun e w' => e = .returned (.tuple #[.int .i64 (prc S T cs.length S.lim.length), .int .i64 0]) ∧ Below V.heap.size V w')) := Lib.hid (fun T g1 g2 V hV h1 h2 hT h0 h8 => by
    have := Price_c A B C D E (some ⟨g1, 0, none⟩) (some ⟨g2, 0, none⟩) S cs T n nB nC nD m m m cA cB cC cD cE m m V hn hnB hnC hnD hm h1.symm h2.symm hA hB hC hD hE ⟨Nat.le_refl _, by omega⟩ ⟨Nat.le_refl _, by omega⟩ (hS.below hV (Nat.le_refl _)) (hcs.below hV (Nat.le_refl _)) hT
    rw [h0, show prcV S cs T = prc S T cs.length S.lim.length from if_pos h0] at this
    exact this)
  have HQ1 : Hid (∀ T q, Best S cs T q → CostV S cs (.returned (.tuple #[.int .i64 (prc S T cs.length S.lim.length), .bool true]))) := Lib.hid (fun T q h => .inl ⟨T, q, h, rfl⟩)
  have HQ2 : Hid ((stE S cs ≠ 0 ∨ ∀ T, plE S cs T ≠ 0) → CostV S cs (.returned (.tuple #[.int .i64 0, .bool false]))) := Lib.hid (fun h => .inr ⟨rfl, h⟩)
  have HBD : Hid (stE S cs = 0 → m ≤ 8 ∧ S.lim.length ≤ 48) := Lib.hid (fun h => by have := (stE_0 h).1; have := (siteHead_iff.1 (stE_0 h).2.1).1; omega)
  have HM := Lib.hid hm
  clear hn hnB hnC hnD hm hS hcs
  generalize hCV : CostV S cs = CV at *
  clear hCV
  have HB := Lib.hid ((Below.refl w.heap.size w).alloc (Nat.le_refl _) (.cells #[.slice A n cA, .slice B nB cB, .slice C nC cC, .slice D nD cD] 51))
  have XS := Lib.hid (Blk.new' w #[.slice A n cA, .slice B nB cB, .slice C nC cC, .slice D nD cD] 51)
  go_enter Try.func51, Try.ntmps51
  go_upto_region 1 with fail
  generalize w.alloc (.cells #[.slice A n cA, .slice B nB cB, .slice C nC cC, .slice D nD cD] 51) = w1 at HB XS ⊢
  have s0 := XS.out.cell 0 rfl
  have s1 := XS.out.cell 1 rfl
  have s2 := XS.out.cell 2 rfl
  have s3 := XS.out.cell 3 rfl
  have sl := XS.out.lt
  go_wp2_with fail
  refine (F50.out w1 HB.out).mono ?_
  rintro e w2 ⟨hP, hb⟩
  clear s0 s1 s2 s3 sl
  have XS := Lib.hid (XS.out.below hb XS.out.lt)
  have HB := Lib.hid (HB.out.trans (hb.mono HB.out.size))
  clear hb
  rcases hP with ⟨h0, rfl⟩ | ⟨h0, rfl, hno⟩ | ⟨h0, g1, g2, gp, gI, gO, RI, RO, ps, rfl, z1, z2, _, _, z5⟩
  · have HC := Lib.hid (HQ2.out (.inl h0))
    have hb0 : (stE S cs == 0) = false := by simpa using h0
    have HB3 := Lib.hid (HB.out.alloc HB.out.size (.cells #[.slice none 0 0, .slice none 0 0] 55))
    clear h0
    go_wp2_with fail
    exact bodyPost_ret (v := .tuple #[.int .i64 0, .bool false]) (by simp [results, Try.results51, go_sem]) rfl ⟨HC.out, HB3.out⟩
  · have HC := Lib.hid (HQ2.out (.inr hno))
    have HB3 := Lib.hid (HB.out.alloc HB.out.size (.cells #[.slice none 0 0, .slice none 0 0] 55))
    clear h0 hno
    go_wp2_with fail
    exact bodyPost_ret (v := .tuple #[.int .i64 0, .bool false]) (by simp [results, Try.results51, go_sem]) rfl ⟨HC.out, HB3.out⟩
  · have hbd := HBD.out h0
    rw [← HM.out] at z1 z2 z5 ⊢
    have hb := (Below.refl w2.heap.size w2).alloc (Nat.le_refl _) (.cells #[.slice (some ⟨g1, 0, none⟩) m m, .slice (some ⟨g2, 0, none⟩) m m] 55)
    have HT := Lib.hid ((z1.below hb).tab2 (z2.below hb) (by omega))
    have HC := Lib.hid (HQ1.out _ _ z5)
    have HK := Lib.hid z5.ok
    have X2 := Lib.hid (Blk.new' w2 #[.slice (some ⟨g1, 0, none⟩) m m, .slice (some ⟨g2, 0, none⟩) m m] 55)
    have XS := Lib.hid (XS.out.below hb XS.out.lt)
    have HB := Lib.hid (HB.out.trans (hb.mono HB.out.size))
    clear z1 z2 z5 hb h0
    go_upto_region 4 with fail
    generalize w2.alloc (.cells #[.slice (some ⟨g1, 0, none⟩) m m, .slice (some ⟨g2, 0, none⟩) m m] 55) = w3 at *
    generalize w2.heap.size = gt at *
    have s0 := XS.out.cell 0 rfl
    have s1 := XS.out.cell 1 rfl
    have s2 := XS.out.cell 2 rfl
    have s3 := XS.out.cell 3 rfl
    have sl := XS.out.lt
    have t0 := X2.out.cell 0 rfl
    have t1 := X2.out.cell 1 rfl
    have tl := X2.out.lt
    go_wp2_with fail
    refine (F38.out _ g1 g2 w3 HB.out (by simp) (by simp) HT.out HK.out hbd.1).mono ?_
    rintro e w4 ⟨rfl, hb⟩
    have HB := Lib.hid (HB.out.trans (hb.mono HB.out.size))
    clear s0 s1 s2 s3 sl t0 t1 tl hb
    go_wp2_with fail
    exact bodyPost_ret (v := .tuple #[.int .i64 _, .bool true]) (by simp [results, Try.results51, go_sem]) rfl ⟨HC.out, HB.out⟩
end Go.Proofs.Ytmebpglkeedaoaa
namespace Go.Proofs.Ytmebpglkeedaoaa
open Go.RowKit Dp
def LongP (w : World) (e : Ending) (w' : World) : Prop := (∃ b, e = .returned (.bool b)) ∧ Below w.heap.size w w'
set_option maxHeartbeats 4000000 in
set_option maxRecDepth 100000 in
theorem long_c (A B C D E P Q : Option Addr) (cs : List Car) (T : Tab) (n nB nC nD m p q cA cB cC cD cE cP cQ : Nat) (w : World) (hm : m = cs.length) (hp : p = T.inn.length) (hq : q = T.out.length)
    (hE : m ≤ cE ∧ cE ≤ 9223372036854775807) (hP : p ≤ cP ∧ cP ≤ 9223372036854775807) (hQ : q ≤ cQ ∧ cQ ≤ 9223372036854775807) (hcs : CarsAt w E cs) (hT : TabAt w P Q T) :
    Calls Try.prog 30 #[.agg #[.slice A n cA, .slice B nB cB, .slice C nC cC, .slice D nD cD], .slice E m cE, .agg #[.slice P p cP, .slice Q q cQ]] w fun e w' => LongP w e w' := by
  have HM := Lib.hid hm
  have HP := Lib.hid hp
  have HQ := Lib.hid hq
  have HCS := Lib.hid hcs
  have HT := Lib.hid hT
  clear hm hp hq hcs hT
  have HB := Lib.hid (((Below.refl w.heap.size w).alloc (Nat.le_refl _) (.cells #[.slice A n cA, .slice B nB cB, .slice C nC cC, .slice D nD cD] 51)).alloc (by simp) (.cells #[.slice P p cP, .slice Q q cQ] 55))
  have XS := Lib.hid ((Blk.new' w #[.slice A n cA, .slice B nB cB, .slice C nC cC, .slice D nD cD] 51).alloc (.cells #[.slice P p cP, .slice Q q cQ] 55))
  have XT := Lib.hid (show Blk ((w.alloc (.cells #[.slice A n cA, .slice B nB cB, .slice C nC cC, .slice D nD cD] 51)).alloc (.cells #[.slice P p cP, .slice Q q cQ] 55)) (w.heap.size + 1) 55 [.slice P p cP, .slice Q q cQ] from by simpa using Blk.new' (w.alloc (.cells #[.slice A n cA, .slice B nB cB, .slice C nC cC, .slice D nD cD] 51)) #[.slice P p cP, .slice Q q cQ] 55)
  go_enter Try.func30, Try.ntmps30
  go_upto_region 1 with fail
  generalize (w.alloc (.cells #[.slice A n cA, .slice B nB cB, .slice C nC cC, .slice D nD cD] 51)).alloc (.cells #[.slice P p cP, .slice Q q cQ] 55) = w1 at HB XS XT ⊢
  have s0 := XS.out.cell 0 rfl
  have s1 := XS.out.cell 1 rfl
  have s2 := XS.out.cell 2 rfl
  have s3 := XS.out.cell 3 rfl
  have t0 := XT.out.cell 0 rfl
  have t1 := XT.out.cell 1 rfl
  have HC1 := Lib.hid (HCS.out.below HB.out (Nat.le_refl _))
  have HT1 := Lib.hid (HT.out.below HB.out (Nat.le_refl _))
  by_cases a0 : 60 < n
  · have a0i : (60 : Int) < (n : Int) := by omega
    go_wp2_with fail
    exact bodyPost_ret (v := .bool true) (by simp [results, Try.results30, go_sem]) rfl (show LongP w _ _ from ⟨⟨_, rfl⟩, HB.out⟩)
  have a0i : ¬ (60 : Int) < (n : Int) := by omega
  by_cases a1 : 60 < nB
  · have a1i : (60 : Int) < (nB : Int) := by omega
    go_wp2_with fail
    exact bodyPost_ret (v := .bool true) (by simp [results, Try.results30, go_sem]) rfl (show LongP w _ _ from ⟨⟨_, rfl⟩, HB.out⟩)
  have a1i : ¬ (60 : Int) < (nB : Int) := by omega
  by_cases a2 : 60 < nC
  · have a2i : (60 : Int) < (nC : Int) := by omega
    go_wp2_with fail
    exact bodyPost_ret (v := .bool true) (by simp [results, Try.results30, go_sem]) rfl (show LongP w _ _ from ⟨⟨_, rfl⟩, HB.out⟩)
  have a2i : ¬ (60 : Int) < (nC : Int) := by omega
  by_cases a3 : 60 < nD
  · have a3i : (60 : Int) < (nD : Int) := by omega
    go_wp2_with fail
    exact bodyPost_ret (v := .bool true) (by simp [results, Try.results30, go_sem]) rfl (show LongP w _ _ from ⟨⟨_, rfl⟩, HB.out⟩)
  have a3i : ¬ (60 : Int) < (nD : Int) := by omega
  by_cases a4 : 12 < m
  · have a4i : (12 : Int) < (m : Int) := by omega
    go_wp2_with fail
    exact bodyPost_ret (v := .bool true) (by simp [results, Try.results30, go_sem]) rfl (show LongP w _ _ from ⟨⟨_, rfl⟩, HB.out⟩)
  have a4i : ¬ (12 : Int) < (m : Int) := by omega
  by_cases a5 : 12 < p
  · have a5i : (12 : Int) < (p : Int) := by omega
    go_wp2_with fail
    exact bodyPost_ret (v := .bool true) (by simp [results, Try.results30, go_sem]) rfl (show LongP w _ _ from ⟨⟨_, rfl⟩, HB.out⟩)
  have a5i : ¬ (12 : Int) < (p : Int) := by omega
  by_cases a6 : 12 < q
  · have a6i : (12 : Int) < (q : Int) := by omega
    go_wp2_with fail
    exact bodyPost_ret (v := .bool true) (by simp [results, Try.results30, go_sem]) rfl (show LongP w _ _ from ⟨⟨_, rfl⟩, HB.out⟩)
  have a6i : ¬ (12 : Int) < (q : Int) := by omega
  go_upto_region 3 with fail
  clear s0 s1 s2 s3 a0i a1i a2i a3i a4i a5i a6i
  go_wp2_with fail
  go_loop [7] (fun iv => ∃ k : Nat, k ≤ m ∧ iv = .int .i64 k) (fun iv => m - (intOf iv).toNat)
  case atStart => exact ⟨0, Nat.zero_le _, rfl⟩
  case round =>
    obtain ⟨k, hk, rfl⟩ := hrel
    by_cases hlt : k < m
    · have hki : (k : Int) < (m : Int) := by omega
      obtain ⟨ad, rfl, abl, c0, c1, c2, c3, c4, TT, cT, c5, hcT, HTT⟩ := HC1.out k (by rw [← HM.out]; exact hlt)
      clear c0 c1 c2 c3 c4 HTT
      generalize (cs.getD k default).trips.length = tl at *
      by_cases h8 : 8 < tl
      · have h8i : (8 : Int) < (tl : Int) := by omega
        go_wp2_with fail
        exact bodyPost_ret (v := .bool true) (by simp [results, Try.results30, go_sem]) rfl (show LongP w _ _ from ⟨⟨_, rfl⟩, HB.out⟩)
      · have h8i : ¬ (8 : Int) < (tl : Int) := by omega
        go_wp2_with fail
        go_round
        case rel => exact ⟨k + 1, by omega, by go_num⟩
        case measure => simp [intOf]; omega
    · obtain rfl : m = k := by omega
      go_wp2_with fail
      go_loop [8] (fun iv => ∃ k : Nat, k ≤ p ∧ iv = .int .i64 k) (fun iv => p - (intOf iv).toNat)
      case atStart => exact ⟨0, Nat.zero_le _, rfl⟩
      case round =>
        obtain ⟨k, hk, rfl⟩ := hrel
        by_cases hlt : k < p
        · have hki : (k : Int) < (p : Int) := by omega
          obtain ⟨ad, rfl, abl, TT, cT, c5, hcT, HTT⟩ := HT1.out.1 k (by rw [← HP.out]; exact hlt)
          clear HTT
          generalize (T.inn.getD k []).length = tl at *
          by_cases h8 : 60 < tl
          · have h8i : (60 : Int) < (tl : Int) := by omega
            go_wp2_with fail
            exact bodyPost_ret (v := .bool true) (by simp [results, Try.results30, go_sem]) rfl (show LongP w _ _ from ⟨⟨_, rfl⟩, HB.out⟩)
          · have h8i : ¬ (60 : Int) < (tl : Int) := by omega
            go_wp2_with fail
            go_round
            case rel => exact ⟨k + 1, by omega, by go_num⟩
            case measure => simp [intOf]; omega
        · obtain rfl : p = k := by omega
          go_wp2_with fail
          go_loop [9] (fun iv => ∃ k : Nat, k ≤ q ∧ iv = .int .i64 k) (fun iv => q - (intOf iv).toNat)
          case atStart => exact ⟨0, Nat.zero_le _, rfl⟩
          case round =>
            obtain ⟨k, hk, rfl⟩ := hrel
            by_cases hlt : k < q
            · have hki : (k : Int) < (q : Int) := by omega
              obtain ⟨ad, rfl, abl, TT, cT, c5, hcT, HTT⟩ := HT1.out.2 k (by rw [← HQ.out]; exact hlt)
              clear HTT
              generalize (T.out.getD k []).length = tl at *
              by_cases h8 : 60 < tl
              · have h8i : (60 : Int) < (tl : Int) := by omega
                go_wp2_with fail
                exact bodyPost_ret (v := .bool true) (by simp [results, Try.results30, go_sem]) rfl (show LongP w _ _ from ⟨⟨_, rfl⟩, HB.out⟩)
              · have h8i : ¬ (60 : Int) < (tl : Int) := by omega
                go_wp2_with fail
                go_round
                case rel => exact ⟨k + 1, by omega, by go_num⟩
                case measure => simp [intOf]; omega
            · obtain rfl : q = k := by omega
              go_wp2_with fail
              exact bodyPost_ret (v := .bool false) (by simp [results, Try.results30, go_sem]) rfl (show LongP w _ _ from ⟨⟨_, rfl⟩, HB.out⟩)
end Go.Proofs.Ytmebpglkeedaoaa
namespace Go.Proofs.Ytmebpglkeedaoaa
open Go.RowKit Dp
set_option maxHeartbeats 4000000 in
set_option maxRecDepth 100000 in
theorem few_c (A B C D E : Option Addr) (S : Site) (cs : List Car) (n nB nC nD m cA cB cC cD cE : Nat) (w : World) (hn : n = S.lim.length) (hnB : nB = S.exp.length) (hnC : nC = S.buy.length) (hnD : nD = S.sell.length) (hm : m = cs.length)
    (hA : n ≤ cA ∧ cA ≤ 9223372036854775807) (hB : nB ≤ cB ∧ cB ≤ 9223372036854775807) (hC : nC ≤ cC ∧ cC ≤ 9223372036854775807) (hD : nD ≤ cD ∧ cD ≤ 9223372036854775807) (hE : m ≤ cE ∧ cE ≤ 9223372036854775807)
    (hS : SiteAt w A B C D S) (hcs : CarsAt w E cs) :
    Calls Try.prog 49 #[.agg #[.slice A n cA, .slice B nB cB, .slice C nC cC, .slice D nD cD], .slice E m cE] w fun e w' => LongP w e w' := by
  obtain ⟨u, hu⟩ : ∃ u, u = stE S cs := ⟨_, rfl⟩
  have F31 : Hid (∀ V, Below w.heap.size w V → Calls Try.prog 31 #[.agg #[.slice A n cA, .slice B nB cB, .slice C nC cC, .slice D nD cD], .slice E m cE] V (fun e w' => e = .returned (.int .i64 u) ∧ Below V.heap.size V w')) := Lib.hid (fun V hV => by rw [hu]; exact CheckSiteR_c A B C D E S cs n nB nC nD m cA cB cC cD cE V hn hnB hnC hnD hm hA hB hC hD hE (hS.below hV (Nat.le_refl _)) (hcs.below hV (Nat.le_refl _)))
  have HKB : Hid (u = 0 → nB = n ∧ n ≤ 48 ∧ m ≤ 8) := Lib.hid (fun h => by have h0 := hu.symm.trans h; have h1 := siteHead_iff.1 (stE_0 h0).2.1; have h2 := (stE_0 h0).1; omega)
  have HN := Lib.hid hn
  have HNB := Lib.hid hnB
  have HM := Lib.hid hm
  have HS := Lib.hid hS
  have HCS := Lib.hid hcs
  clear hn hnB hnC hnD hm hS hcs hu
  have HB := Lib.hid ((Below.refl w.heap.size w).alloc (Nat.le_refl _) (.cells #[.slice A n cA, .slice B nB cB, .slice C nC cC, .slice D nD cD] 51))
  have XS := Lib.hid (Blk.new' w #[.slice A n cA, .slice B nB cB, .slice C nC cC, .slice D nD cD] 51)
  go_enter Try.func49, Try.ntmps49
  go_upto_region 1 with fail
  generalize w.alloc (.cells #[.slice A n cA, .slice B nB cB, .slice C nC cC, .slice D nD cD] 51) = w1 at HB XS ⊢
  have s0 := XS.out.cell 0 rfl
  have s1 := XS.out.cell 1 rfl
  have s2 := XS.out.cell 2 rfl
  have s3 := XS.out.cell 3 rfl
  have sl := XS.out.lt
  go_wp2_with fail
  refine (F31.out w1 HB.out).mono ?_
  rintro e w2 ⟨rfl, hb⟩
  clear s0 s1 s2 s3 sl
  have XS := Lib.hid (XS.out.below hb XS.out.lt)
  have HB := Lib.hid (HB.out.trans (hb.mono HB.out.size))
  clear hb
  by_cases h0 : u = 0
  rotate_left
  · have hb0 : (u == 0) = false := by simpa using h0
    go_wp2_with fail
    go_ret
    exact ⟨⟨_, rfl⟩, HB.out⟩
  have hk := HKB.out h0
  have HX : Hid (nB = n) := Lib.hid hk.1
  have hk1 := hk.2
  clear hk HKB
  subst h0
  have s0 := XS.out.cell 0 rfl
  have s1 := XS.out.cell 1 rfl
  have s2 := XS.out.cell 2 rfl
  have s3 := XS.out.cell 3 rfl
  have sl := XS.out.lt
  by_cases h6 : 6 < n
  · have d1 : decide ((6 : Int) < (n : Int)) = true := decide_eq_true (by omega)
    go_wp2_with fail
    go_ret
    exact ⟨⟨_, rfl⟩, HB.out⟩
  have d1 : decide ((6 : Int) < (n : Int)) = false := decide_eq_false (by omega)
  by_cases h3 : 3 < m
  · have d2 : decide ((3 : Int) < (m : Int)) = true := decide_eq_true (by omega)
    go_wp2_with fail
    go_ret
    exact ⟨⟨_, rfl⟩, HB.out⟩
  have d2 : decide ((3 : Int) < (m : Int)) = false := decide_eq_false (by omega)
  go_upto_region 5 with fail
  go_wp2_with fail
  clear s0 s1 s2 s3 sl d1 d2
  go_loopw [5] (fun iv wr => ∃ i : Nat, i ≤ m ∧ iv = .int .i64 i ∧ Hid (Below w2.heap.size w2 wr)) (fun iv _ => m - (intOf iv).toNat)
  case atStart => exact ⟨0, Nat.zero_le _, rfl, Lib.hid (Below.refl _ _)⟩
  case round =>
    obtain ⟨i, hi, rfl, HW⟩ := hrel
    have HBR := Lib.hid (HB.out.trans (HW.out.mono HB.out.size))
    have XR := Lib.hid (XS.out.below HW.out XS.out.lt)
    by_cases hlt : i < m
    · have hii : (i : Int) < (m : Int) := by omega
      obtain ⟨pa, rfl, pal, p0, p1, p2, p3, p4, Tr, cTr, p5, _, _⟩ := (HCS.out.below HBR.out (Nat.le_refl _)) i (by rw [← HM.out]; exact hlt)
      have ab2 : (pa.add (i * 6)).block < wr.heap.size := by rw [block_add]; exact pal
      generalize (cs.getD i default).cap = x0 at *
      generalize (cs.getD i default).inn = x1 at *
      generalize (cs.getD i default).out = x2 at *
      generalize (cs.getD i default).start = x3 at *
      generalize (cs.getD i default).fin = x4 at *
      generalize (cs.getD i default).trips.length = x5 at *
      by_cases e0 : 60 < x0
      · have d0 : decide (60 < x0) = true := decide_eq_true e0
        go_wp2_with fail
        go_ret
        exact ⟨⟨_, rfl⟩, HBR.out⟩
      have d0 : decide (60 < x0) = false := decide_eq_false e0
      by_cases e1 : 60 < x1
      · have d1 : decide (60 < x1) = true := decide_eq_true e1
        go_wp2_with fail
        go_ret
        exact ⟨⟨_, rfl⟩, HBR.out⟩
      have d1 : decide (60 < x1) = false := decide_eq_false e1
      by_cases e2 : 60 < x2
      · have d2 : decide (60 < x2) = true := decide_eq_true e2
        go_wp2_with fail
        go_ret
        exact ⟨⟨_, rfl⟩, HBR.out⟩
      have d2 : decide (60 < x2) = false := decide_eq_false e2
      go_wp2_with fail
      exact ⟨⟨i + 1, by omega, by go_num, HW⟩, by simp [intOf]; omega⟩
    · obtain rfl : m = i := by omega
      go_upto_region 10 with fail
      have s0 := XR.out.cell 0 rfl
      have s1 := XR.out.cell 1 rfl
      have s2 := XR.out.cell 2 rfl
      have s3 := XR.out.cell 3 rfl
      have sl := XR.out.lt
      go_wp2_with fail
      clear s0 s1 s2 s3 sl
      go_loopw [6] (fun iv wq => ∃ k : Nat, k ≤ n ∧ iv = .int .i64 k ∧ Hid (Below wr.heap.size wr wq)) (fun iv _ => n - (intOf iv).toNat)
      case atStart => exact ⟨0, Nat.zero_le _, rfl, Lib.hid (Below.refl _ _)⟩
      case round =>
        obtain ⟨k, hk, rfl, HV⟩ := hrel
        have HBQ := Lib.hid (HBR.out.trans (HV.out.mono HBR.out.size))
        have XQ := Lib.hid (XR.out.below HV.out XR.out.lt)
        have s0 := XQ.out.cell 0 rfl
        have s1 := XQ.out.cell 1 rfl
        have s2 := XQ.out.cell 2 rfl
        have s3 := XQ.out.cell 3 rfl
        have sl := XQ.out.lt
        by_cases hkt : k < n
        · have hki : (k : Int) < (n : Int) := by omega
          have hSV := HS.out.below HBQ.out (Nat.le_refl _)
          obtain ⟨pa, hpa, pal, px⟩ := hSV.1 k (by rw [← HN.out]; exact hkt)
          obtain ⟨pb, hpb, pbl, py⟩ := hSV.2.1 k (by rw [← HNB.out, HX.out]; exact hkt)
          rw [hpa] at s0
          rw [hpb] at s1
          have hkb : (k : Int) < (nB : Int) := by have := HX.out; omega
          clear hSV hpa hpb
          have ab2 : (pa.add k).block < wr.heap.size := by rw [block_add]; exact pal
          have bb2 : (pb.add k).block < wr.heap.size := by rw [block_add]; exact pbl
          generalize S.lim.getD k 0 = y0 at *
          generalize S.exp.getD k 0 = y1 at *
          by_cases e0 : 60 < y0
          · have d0 : decide (60 < y0) = true := decide_eq_true e0
            go_wp2_with fail
            go_ret
            exact ⟨⟨_, rfl⟩, HBQ.out⟩
          have d0 : decide (60 < y0) = false := decide_eq_false e0
          by_cases e1 : 60 < y1
          · have d1 : decide (60 < y1) = true := decide_eq_true e1
            go_wp2_with fail
            go_ret
            exact ⟨⟨_, rfl⟩, HBQ.out⟩
          have d1 : decide (60 < y1) = false := decide_eq_false e1
          go_wp2_with fail
          exact ⟨⟨k + 1, by omega, by go_num, HV⟩, by simp [intOf]; omega⟩
        · obtain rfl : n = k := by omega
          go_wp2_with fail
          go_ret
          exact ⟨⟨_, rfl⟩, HBQ.out⟩
end Go.Proofs.Ytmebpglkeedaoaa
