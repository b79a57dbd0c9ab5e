/- The contract of graph.send of depot. -/
import Derived.Test.YtmebpglkeedaoaaD5
namespace Go.Proofs.Ytmebpglkeedaoaa
open Go.RowKit Dp
set_option linter.unusedVariables false

theorem pushL_app (G : Gr) (a b : List Nat) (x : Int) : G.pushL (a ++ b) x = (G.pushL a x).pushL b x := by simp [Gr.pushL, List.foldl_append]
theorem min_i64 (x y : Int) (ts : Array TypeId) (t : TypeId) (w : World) : (Builtin.min_ ts t #[.int .i64 x, .int .i64 y]).run Try.prog w = .ok (.int .i64 (min x y)) w := minTwo x y ts t w
theorem ok_to {G : Gr} {n : Nat} (h : G.Ok n) {k : Nat} (hk : k < G.es.length) : (G.es.getD k default).to = (G.toA k : Int) := by have := h.to k hk; unfold Gr.toA; omega

theorem intsAt_touch {S : Nat → Prop} {w W : World} {V : Option Addr} {xs : List Int} (h : IntsAt w V xs) (k : Touch S w W) (hn : ∀ b, OwnB V b → ¬ S b) : IntsAt W V xs := fun i hi => by
  obtain ⟨ad, e, hlt, c⟩ := h i hi
  exact ⟨ad, e, Nat.lt_of_lt_of_le hlt k.size, (k.cell (p := ad.add i) (by rw [block_add]; exact hlt) (by rw [block_add]; exact hn _ ⟨ad, e, rfl⟩)).trans c⟩
theorem left_end {G : Gr} {n : Nat} {vi : List Int} {ks : List Nat} {s t : Nat} {x : Int} (h : Sent G n vi ks s t x) (hG : G.Ok n) (hst : s ≠ t) : ({ left := (G.left.set s (G.lf s - x)).set t (G.lf t + x), es := (G.pushL ks x).es, outs := G.outs } : Gr) = G.pushL ks x := by
  have h1 := h.ok hG
  have ha := pushL_alike (x := x) h1.1
  have hl := pushL_lf (x := x) h.way hG.fine
  have e1 : (G.left.set s (G.lf s - x)).set t (G.lf t + x) = (G.pushL ks x).left := list_eq (by simp [ha.ll]) (fun v hv => by
    have hs : s < G.left.length := by rw [hG.ll]; exact h.sn
    have ht : t < (G.left.set s (G.lf s - x)).length := by rw [List.length_set, hG.ll]; exact h.tn
    rw [getD_setI _ _ _ _ ht, getD_setI _ _ _ _ hs]
    have := hl v
    unfold Gr.lf at this ⊢
    rw [this]
    by_cases e1 : v = t
    · subst e1; rw [if_pos rfl, if_pos rfl, if_neg (fun e => hst e.symm)]; omega
    · rw [if_neg e1, if_neg e1]
      by_cases e2 : v = s
      · subst e2; rw [if_pos rfl, if_pos rfl]; omega
      · rw [if_neg e2, if_neg e2]; omega)
  rw [e1]
  have e2 := ha.outs
  generalize G.pushL ks x = G' at *
  obtain ⟨a, b, c⟩ := G'
  simp only at e2 ⊢
  rw [e2]

set_option maxHeartbeats 2000000 in
set_option maxRecDepth 100000 in
theorem send_c (b gl cl ce bo B cv n s t : Nat) (E V : Option Addr) (G : Gr) (vi : List Int) (ks : List Nat) (w : World) (hG : G.Ok n) (hw : Dp.Way G vi t ks s) (hnd : (t :: ks.map G.frA).Nodup) (hsn : s < n) (htn : t < n) (hsl : 0 < G.lf s) (htl : G.lf t < 0)
    (hks : ∀ k, k ∈ ks → 0 < G.room k) (hvl : vi.length = n) (hcv : n ≤ cv ∧ cv ≤ 9223372036854775807) (hg : GrAt w B b gl cl E ce bo G) (hV : IntsAt w V vi) (hVn : ∀ k, OwnB V k → k ≠ gl ∧ ¬ OwnB E k) :
    Calls Try.prog 72 #[.pointer (some ⟨b, 0, none⟩), .slice V n cv, .int .i64 t] w fun e w' => e = .returned (.tuple #[]) ∧ ∃ x, Sent G n vi ks s t x ∧ GrAt w' B b gl cl E ce bo (G.pushL ks x) ∧ Touch (fun k => k = gl ∨ OwnB E k) w w' := by
  have HG := Lib.hid hG
  have HA := Lib.hid hg
  have HVA := Lib.hid hV
  have HW := Lib.hid hw
  have HKS := Lib.hid hks
  have HSN := Lib.hid hsn
  have HVL := Lib.hid hvl
  have LL := Lib.hid hG.ll
  have LE := Lib.hid hG.le
  have n2 : n ≤ 1024 := hG.n1.2
  have c0 := hg.blk.cell 0 rfl
  rw [hG.ll] at c0
  have l0 := hg.left.cell t (by rw [hG.ll]; exact htn)
  have hlb := hG.lb t htn
  have hlbs := hG.lb s hsn
  have HT : Hid (G.lf t = G.left.getD t 0) := Lib.hid rfl
  rw [HT.out] at htl hlb
  generalize G.left.getD t 0 = lt at *
  have hti : (t : Int) < (n : Int) := by omega
  have GC : Hid (∀ W, Below w.heap.size w W → GrAt W B b gl cl E ce bo G ∧ IntsAt W V vi) := Lib.hid (fun W h => ⟨HA.out.below h, HVA.out.below h (Nat.le_refl _)⟩)
  have SIM := Lib.hid (way_simple hw hnd)
  clear hG hg hV hw hks hsn hvl
  go_enter Try.func72, Try.ntmps72
  go_wp2_with fail
  go_loopg [6, 7] ks.length (fun m xv av wr => ∃ (x : Int) (u : Nat) (dn rs : List Nat), xv = .int .i64 x ∧ av = .int .i64 u ∧ m = rs.length ∧ (0 < x ∧ x ≤ -lt) ∧ u < n ∧ Hid (ks = dn ++ rs ∧ Dp.Way G vi u rs s ∧ Below w.heap.size w wr ∧ ∀ k, k ∈ dn → x ≤ G.room k))
  case atStart => exact ⟨-lt, t, [], ks, rfl, rfl, rfl, ⟨by omega, by omega⟩, htn, Lib.hid ⟨rfl, HW.out, Below.refl _ _, fun k hk => by simp at hk⟩⟩
  case round =>
    obtain ⟨x, u, dn, rs, rfl, rfl, hm, hx, hun, HJ⟩ := hrel
    obtain ⟨q1, q2, q3, q4⟩ := HJ.out
    have HS := Lib.hid q1
    have HWR := Lib.hid q2
    have HB := Lib.hid q3
    have HD := Lib.hid q4
    clear HJ q1 q2 q3 q4 c0 l0
    have hui : (u : Int) < (n : Int) := by omega
    obtain ⟨av, rfl, avl, av0⟩ := (GC.out _ HB.out).2 u (by rw [HVL.out]; exact hun)
    have avb : (av.add u).block < wr.heap.size := by rw [block_add]; exact avl
    cases rs with
    | nil =>
      have hv : vi.getD u 0 = -1 := HWR.out.1
      have hus : u = s := HWR.out.2
      subst hus
      rw [hv] at av0
      have hdn : dn = ks := by have := HS.out; rw [List.append_nil] at this; exact this.symm
      subst hdn
      have hsn' : u < n := hun
      have hA1 := (GC.out _ HB.out).1
      have c0 := hA1.blk.cell 0 rfl
      rw [LL.out] at c0
      have l0 := hA1.left.cell u (by rw [LL.out]; exact hun)
      have z0 := hA1.left.free u
      have HA1 := Lib.hid hA1
      have T1 : Hid (Touch (fun k => k = gl ∨ OwnB E k) w wr) := Lib.hid (Touch.of_below HB.out)
      have HLS : Hid (G.lf u = G.left.getD u 0) := Lib.hid rfl
      clear hA1
      rw [HLS.out] at hsl hlbs
      have PL := Lib.hid (fun y => HA1.out.putL u y)
      generalize G.left.getD u 0 = ls at *
      have hne : u ≠ t := fun e => by subst e; have h1 := HLS.out; have h2 := HT.out; omega
      have hmn := fun ts t W => min_i64 x ls ts t W
      generalize hy : min x ls = y at *
      have hy1 : 0 < y ∧ y ≤ -lt := by omega
      have HY : Hid (y ≤ x ∧ y ≤ ls) := Lib.hid (by omega)
      clear hy
      have SX : Hid (Sent G n vi dn u t y) := Lib.hid ⟨HW.out, hnd, hun, htn, hy1.1, by rw [HLS.out]; exact HY.out.2, by rw [HT.out]; omega, fun k hk => by have := HD.out k hk; have := HY.out.1; omega⟩
      have hys : y ≤ ls := HY.out.2
      go_upto_region 7 with fail
      have A2 := Lib.hid (PL.out (ls - y))
      have T2 := Lib.hid (T1.out.setCell (p := ⟨gl, u, none⟩) (.inl (.inl rfl)) (.int .i64 (ls - y)))
      generalize wr.setCell ⟨gl, u, none⟩ (.int .i64 (ls - y)) = w2 at A2 T2 ⊢
      clear c0 l0 z0 PL
      have c0 := A2.out.blk.cell 0 rfl
      simp only [List.length_set, LL.out] at c0
      have l0 := A2.out.left.cell t (by simp only [List.length_set, LL.out]; exact htn)
      have z0 := A2.out.left.free t
      have hlt2 : (G.left.set u (ls - y)).getD t 0 = lt := by
        rw [getD_setI _ _ _ _ (by rw [LL.out]; exact hun), if_neg (fun e => hne e.symm)]
        exact HT.out
      simp only [hlt2] at l0
      clear hlt2
      have PL := Lib.hid (A2.out.putL t (lt + y))
      have T3 := Lib.hid (T2.out.setCell (p := ⟨gl, t, none⟩) (.inl (.inl rfl)) (.int .i64 (lt + y)))
      go_wp2_with fail
      generalize w2.setCell ⟨gl, t, none⟩ (.int .i64 (lt + y)) = w3 at PL T3 ⊢
      clear c0 l0 z0 T1 T2 A2 HA1 av0 avl avb HB HD HWR
      have VI : Hid (∀ W, Touch (fun k => k = gl ∨ OwnB E k) w W → IntsAt W (some av) vi) := Lib.hid (fun W h => intsAt_touch HVA.out h (fun q hq hs => by
        have := hVn q hq
        rcases hs with hs | hs
        · exact this.1 hs
        · exact this.2 hs))
      go_loopg [7] dn.length (fun m av wr => ∃ (v : Nat) (d2 r2 : List Nat), av = .int .i64 v ∧ m = r2.length ∧ v < n ∧ Hid (dn = d2 ++ r2 ∧ Dp.Way G vi v r2 u ∧ GrAt wr B b gl cl E ce bo { left := (G.left.set u (ls - y)).set t (lt + y), es := (G.pushL d2 y).es, outs := G.outs } ∧ Touch (fun k => k = gl ∨ OwnB E k) w wr))
      case atStart => exact ⟨t, [], dn, rfl, rfl, htn, Lib.hid ⟨rfl, HW.out, PL.out, T3.out⟩⟩
      case round =>
        obtain ⟨v, d2, r2, rfl, hm2, hvn, HJ⟩ := hrel
        obtain ⟨q1, q2, q3, q4⟩ := HJ.out
        have HS2 := Lib.hid q1
        have HW2 := Lib.hid q2
        have HA2 := Lib.hid q3
        have HT2 := Lib.hid q4
        clear HJ q1 q2 q3 q4 PL T3
        have hvi : (v : Int) < (n : Int) := by omega
        obtain ⟨av', hav, avl, av0⟩ := (VI.out _ HT2.out) v (by rw [HVL.out]; exact hvn)
        cases hav
        have avb : (av.add v).block < wr.heap.size := by rw [block_add]; exact avl
        cases r2 with
        | nil =>
          have hv : vi.getD v 0 = -1 := HW2.out.1
          rw [hv] at av0
          have hd2 : d2 = dn := by have := HS2.out; rw [List.append_nil] at this; exact this.symm
          subst hd2
          have LE2 := left_end SX.out HG.out hne
          rw [HLS.out, HT.out] at LE2
          have HA3 := HA2.out
          rw [LE2] at HA3
          have HA3 := Lib.hid HA3
          clear LE2 HA2
          go_wp2_with fail
          exact bodyPost_end (v := .tuple #[]) (by simp [results, Try.results72, go_sem]) rfl ⟨rfl, y, SX.out, HA3.out, HT2.out⟩
        | cons k rs =>
          have hv : vi.getD v 0 = (k : Int) := HW2.out.1
          have hkl : k < G.es.length := HW2.out.2.1
          have hkm : k ∈ dn := by rw [HS2.out]; simp
          have hal  : Dp.Alike G (G.pushL d2 y) := pushL_alike (fun j hj => SX.out.ok HG.out |>.1 j (by rw [HS2.out]; simp [hj]))
          have hroom := pushL_room (x := y) (ks := d2) (G := G) (fun j hj => SX.out.ok HG.out |>.1 j (by rw [HS2.out]; simp [hj]))
          have hk2 : k ∉ d2 := fun hm => by
            have h1 := SIM.out.1
            rw [HS2.out] at h1
            exact (List.nodup_append.1 h1).2.2 k hm k (by simp) rfl
          have ht2 : tw k ∉ d2 := fun hm => SIM.out.2 k ⟨hkm, by rw [HS2.out]; simp [hm]⟩
          have hr1 : (G.pushL d2 y).room k = G.room k := by rw [hroom, List.count_eq_zero.2 hk2, List.count_eq_zero.2 ht2]; simp
          have hr2 : (G.pushL d2 y).room (tw k) = G.room (tw k) := by rw [hroom, tw_tw, List.count_eq_zero.2 hk2, List.count_eq_zero.2 ht2]; simp
          have hrm := HG.out.rm k hkl
          have hrm2 := HG.out.rm (tw k) (HG.out.tl hkl)
          rw [tw_tw] at hrm2
          have PU := Lib.hid (push_c b gl cl ce bo B E { left := (G.left.set u (ls - y)).set t (lt + y), es := (G.pushL d2 y).es, outs := G.outs } k y wr (by show k < (G.pushL d2 y).es.length; rw [hal.le]; exact hkl) (by show tw k < (G.pushL d2 y).es.length; rw [hal.le]; exact HG.out.tl hkl) (by show (G.pushL d2 y).es.length ≤ 4096; rw [hal.le]; exact LE.out)
            (by show -8589934592 ≤ (G.pushL d2 y).room k ∧ (G.pushL d2 y).room k ≤ 8589934592; rw [hr1]; omega) (by show -8589934592 ≤ (G.pushL d2 y).room (tw k) ∧ (G.pushL d2 y).room (tw k) ≤ 8589934592; rw [hr2]; omega) (by omega) HA2.out)
          have PE : Hid (({ left := (G.left.set u (ls - y)).set t (lt + y), es := pushE (G.pushL d2 y).es k y, outs := G.outs } : Gr) = { left := (G.left.set u (ls - y)).set t (lt + y), es := (G.pushL (d2 ++ [k]) y).es, outs := G.outs }) := Lib.hid (by rw [pushL_app]; rfl)
          have hal2  : Dp.Alike G (G.pushL (d2 ++ [k]) y) := pushL_alike (fun j hj => SX.out.ok HG.out |>.1 j (by
            rw [HS2.out]
            rcases List.mem_append.1 hj with h | h
            · simp [h]
            · simp at h; simp [h]))
          have HAL2 := Lib.hid hal2
          have HFR : Hid (G.toA (tw k) = G.frA k) := Lib.hid rfl
          have hfn := HG.out.frL hkl
          clear hroom hal hk2 ht2 hr1 hr2 hrm hrm2 hal2
          rw [hv] at av0
          clear hv
          go_wp2_with fail
          refine PU.out.mono ?_
          rintro e w5 ⟨rfl, h5, t5⟩
          rw [PE.out] at h5
          have T5 := Lib.hid (HT2.out.trans (t5.mono (fun q hq => .inr hq)))
          obtain ⟨ge, rfl, gel, f0, f1, f2⟩ := h5.edge (tw k) (by show tw k < (G.pushL (d2 ++ [k]) y).es.length; rw [HAL2.out.le]; exact HG.out.tl hkl)
          simp only [HAL2.out.to] at f0
          rw [ok_to HG.out (HG.out.tl hkl), HFR.out] at f0
          have c1 := h5.blk.cell 1 rfl
          simp only [HAL2.out.le] at c1
          have bl := h5.blk.lt
          obtain ⟨av', hav, avl2, av2⟩ := (VI.out _ T5.out) v (by rw [HVL.out]; exact hvn)
          cases hav
          have hv : vi.getD v 0 = (k : Int) := HW2.out.1
          rw [hv] at av2
          have avb2 : (av.add v).block < w5.heap.size := by rw [block_add]; exact avl2
          have H5 := Lib.hid h5
          have hle := LE.out
          have htl2 := HG.out.tl hkl
          clear h5 t5 PU PE av0 avl avb hv f1 f2
          generalize hml : G.es.length = ml at *
          have hxo : bits .xor .i64 (k : Int) 1 = (tw k : Int) := xor_tw k (by omega)
          generalize htk : tw k = tk at *
          have HTK := Lib.hid htk
          have HML := Lib.hid hml
          clear htk hml
          have hki : (k : Int) < (ml : Int) := by omega
          have htki : (tk : Int) < (ml : Int) := by omega
          go_upto_region 10 with fail
          refine wp_region_past (by kernel_rfl) (by kernel_rfl) ?_
          repeat (go_big_quiet_step (fail))
          refine wpQuiet_nil ?_
          intro xx
          have A6 := Lib.hid (H5.out.below xx.far)
          have T6 := Lib.hid (T5.out.below xx.far)
          generalize xx.w = w6 at A6 T6 ⊢
          clear f0 c1 bl av2 avb2 avl2
          go_wp2_with fail
          go_roundg rs.length
          case measure => rw [hm2]; simp
          case rel => exact ⟨G.frA k, d2 ++ [k], rs, rfl, rfl, hfn, Lib.hid ⟨by rw [HS2.out]; simp, HW2.out.2.2.2, A6.out, T6.out⟩⟩
    | cons k rs =>
      have hv : vi.getD u 0 = (k : Int) := HWR.out.1
      have hkl : k < G.es.length := HWR.out.2.1
      rw [hv] at av0
      obtain ⟨ge, rfl, gel, e0, e1, e2⟩ := (GC.out _ HB.out).1.edge k hkl
      obtain ⟨ge', hge, _, f0, _, _⟩ := (GC.out _ HB.out).1.edge (tw k) (HG.out.tl hkl)
      cases hge
      have hro := HKS.out k (by rw [HS.out]; simp)
      have hrb := HG.out.rm k hkl
      have hrb2 := HG.out.rm (tw k) (HG.out.tl hkl)
      have HRO : Hid (G.room k = (G.es.getD k default).room) := Lib.hid rfl
      rw [HRO.out] at hro hrb
      rw [ok_to HG.out (HG.out.tl hkl)] at f0
      have hfn := HG.out.frL hkl
      have HFR : Hid (G.frA k = G.toA (tw k)) := Lib.hid rfl
      rw [HFR.out] at hfn
      have hle := LE.out
      have htl2 := HG.out.tl hkl
      have c1 := (GC.out _ HB.out).1.blk.cell 1 rfl
      have bl := (GC.out _ HB.out).1.blk.lt
      generalize hml : G.es.length = ml at *
      have HML := Lib.hid hml
      clear hml
      generalize (G.es.getD k default).room = ro at *
      generalize G.room (tw k) = r2 at *
      have hxo : bits .xor .i64 (k : Int) 1 = (tw k : Int) := xor_tw k (by omega)
      generalize G.toA (tw k) = v at *
      generalize tw k = tk at *
      have hki : (k : Int) < (ml : Int) := by omega
      have htk : (tk : Int) < (ml : Int) := by omega
      have hmn := fun ts t W => min_i64 x ro ts t W
      generalize hy : min x ro = y at *
      have hy1 : 0 < y ∧ y ≤ -lt := by omega
      have HY : Hid (y ≤ x ∧ y ≤ ro) := Lib.hid (by omega)
      clear hy
      go_upto_region 3 with fail
      refine wp_region_past (by kernel_rfl) (by kernel_rfl) ?_
      repeat (go_big_quiet_step (fail))
      refine wpQuiet_nil ?_
      intro xx
      have HB4 := Lib.hid (HB.out.trans (xx.far.mono HB.out.size))
      have av1 := (xx.far.cell (p := av.add u) avb).trans av0
      have f1 := (xx.far.cell (p := ⟨ge, tk * 3, none⟩) gel).trans f0
      have c2 := (xx.far.cell (p := ⟨b, 1, none⟩) bl).trans c1
      have hsz := xx.far.size
      generalize xx.w = w4 at HB4 av1 f1 c2 hsz ⊢
      have avb4 : (av.add u).block < w4.heap.size := by omega
      have gel4 : ge < w4.heap.size := by omega
      have bl4 : b < w4.heap.size := by omega
      clear av0 f0 c1 e0 e1 e2 hmn
      go_upto_region 4 with fail
      refine wp_region_past (by kernel_rfl) (by kernel_rfl) ?_
      repeat (go_big_quiet_step (fail))
      refine wpQuiet_nil ?_
      intro xx
      have HB5 := Lib.hid (HB4.out.trans (xx.far.mono HB4.out.size))
      generalize xx.w = w5 at HB5 ⊢
      clear av1 f1 c2 avb4 gel4 bl4
      go_wp2_with fail
      go_roundg rs.length
      case measure => rw [hm]; simp
      case rel => exact ⟨y, v, dn ++ [k], rs, rfl, rfl, rfl, hy1, hfn, Lib.hid ⟨by rw [HS.out]; simp, by have := HWR.out.2.2.2; rw [HFR.out] at this; exact this, HB5.out, fun j hj => by
        rcases List.mem_append.1 hj with h | h
        · have := HD.out j h; have := HY.out.1; omega
        · simp at h; subst h; rw [HRO.out]; exact HY.out.2⟩⟩
end Go.Proofs.Ytmebpglkeedaoaa
