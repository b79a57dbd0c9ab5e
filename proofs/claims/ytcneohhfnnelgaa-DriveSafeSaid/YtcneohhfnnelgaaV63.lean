/- Plain: DriveSafe: voltages that are allowed keep the currents within the limits. Contracts of pick and inside of coulomblaw06. inside by its number; a block of the list written anew. Opening a slice of uint64 that came in. -/
import Derived.Test.YtcneohhfnnelgaaV55
import Derived.Test.YtcneohhfnnelgaaW27
import Derived.IntWalk
import Derived.Test.YtcneohhfnnelgaaR9
import Derived.Test.YtcneohhfnnelgaaK3
import Derived.Test.YtcneohhfnnelgaaK2
namespace Go.Proofs.Ytcneohhfnnelgaa
open Go.RowKit
set_option linter.unusedVariables false
namespace Dv
theorem mul_span1 {a b x c : Int} (h1 : a ≤ x) (h2 : x ≤ b) : min (a * c) (b * c) ≤ x * c ∧ x * c ≤ max (a * c) (b * c) := by
  rcases Int.le_total 0 c with hc | hc
  · have e1 := Int.mul_le_mul_of_nonneg_right h1 hc
    have e2 := Int.mul_le_mul_of_nonneg_right h2 hc
    omega
  · have e1 := Int.mul_le_mul_of_nonpos_right h1 hc
    have e2 := Int.mul_le_mul_of_nonpos_right h2 hc
    omega
/-- a product of numbers of two spans lies in the span of the products -/
theorem mul_span {a b c d x y : Int} (h1 : a ≤ x) (h2 : x ≤ b) (h3 : c ≤ y) (h4 : y ≤ d) : tmLo a b c d ≤ x * y ∧ x * y ≤ tmHi a b c d := by
  have k1 := mul_span1 (c := c) h1 h2
  have k2 := mul_span1 (c := d) h1 h2
  have k3 := mul_span1 (c := x) h3 h4
  rw [Int.mul_comm c x, Int.mul_comm d x, Int.mul_comm y x] at k3
  unfold tmLo tmHi mn4 mx4
  omega
theorem ediv_mono {a b d : Int} (hd : 0 < d) (h : a ≤ b) : a / d ≤ b / d := Int.ediv_le_ediv hd h
/-- real is between lo and hi -/
def btw (lo hi real : Mot) : Prop := (lo.r ≤ real.r ∧ real.r ≤ hi.r) ∧ (lo.ld ≤ real.ld ∧ real.ld ≤ hi.ld) ∧ (lo.lq ≤ real.lq ∧ real.lq ≤ hi.lq) ∧ (lo.fx ≤ real.fx ∧ real.fx ≤ hi.fx)
theorem ibd_span {lo hi real : Mot} {d q w al ah : Int} (h : btw lo hi real) (h1 : al ≤ w) (h2 : w ≤ ah) : bdLo lo hi d q al ah ≤ ibd real d q w ∧ ibd real d q w ≤ bdHi lo hi d q al ah := by
  obtain ⟨⟨r1, r2⟩, _, ⟨l1, l2⟩, _⟩ := h
  have a := mul_span h1 h2 l1 l2
  have b := mul_span a.1 a.2 (Int.le_refl q) (Int.le_refl q)
  have c := mul_span r1 r2 (Int.le_refl d) (Int.le_refl d)
  have e1 := ediv_mono (d := 1000000) (by omega) b.1
  have e2 := ediv_mono (d := 1000000) (by omega) b.2
  have e3 := ediv_mono (d := 1000) (by omega) c.1
  have e4 := ediv_mono (d := 1000) (by omega) c.2
  unfold bdLo bdHi ibd
  omega
theorem ibq_span {lo hi real : Mot} {d q w al ah : Int} (h : btw lo hi real) (h1 : al ≤ w) (h2 : w ≤ ah) : bqLo lo hi d q al ah ≤ ibq real d q w ∧ ibq real d q w ≤ bqHi lo hi d q al ah := by
  obtain ⟨⟨r1, r2⟩, ⟨l1, l2⟩, _, ⟨f1, f2⟩⟩ := h
  have a := mul_span h1 h2 l1 l2
  have b := mul_span a.1 a.2 (Int.le_refl d) (Int.le_refl d)
  have c := mul_span r1 r2 (Int.le_refl q) (Int.le_refl q)
  have f := mul_span h1 h2 f1 f2
  have e1 := ediv_mono (d := 1000000) (by omega) b.1
  have e2 := ediv_mono (d := 1000000) (by omega) b.2
  have e3 := ediv_mono (d := 1000) (by omega) c.1
  have e4 := ediv_mono (d := 1000) (by omega) c.2
  unfold bqLo bqHi ibq
  omega
/-- the next current -/
theorem next_in {cu i l0 l mi v b blo bhi : Int} (hl : 1 ≤ l0) (hll : l0 ≤ l) (hm : 1 ≤ mi) (hi1 : -cu ≤ i) (hi2 : i ≤ cu) (hb1 : blo ≤ b) (hb2 : b ≤ bhi) (hv1 : alLo cu i l0 mi blo ≤ v) (hv2 : v ≤ alHi cu i l0 mi bhi) :
    -cu ≤ i + (v + b) * mi / l ∧ i + (v + b) * mi / l ≤ cu := by
  unfold alLo at hv1
  unfold alHi at hv2
  have hlp : 0 < l := by omega
  constructor
  · have h1 : -((cu + i) * l0 / mi) ≤ v + b := by omega
    have h2 := Int.mul_le_mul_of_nonneg_right h1 (show 0 ≤ mi by omega)
    have h3 : (cu + i) * l0 / mi * mi ≤ (cu + i) * l0 := Int.ediv_mul_le _ (by omega)
    have h4 : (cu + i) * l0 ≤ (cu + i) * l := Int.mul_le_mul_of_nonneg_left hll (by omega)
    rw [Int.neg_mul] at h2
    have h5 : -(cu + i) * l ≤ (v + b) * mi := by rw [Int.neg_mul]; omega
    have h6 := (Int.le_ediv_iff_mul_le hlp).2 h5
    omega
  · have h1 : v + b ≤ ((cu - i + 1) * l0 - 1) / mi := by omega
    have h2 := Int.mul_le_mul_of_nonneg_right h1 (show 0 ≤ mi by omega)
    have h3 : ((cu - i + 1) * l0 - 1) / mi * mi ≤ (cu - i + 1) * l0 - 1 := Int.ediv_mul_le _ (by omega)
    have h4 : (cu - i + 1) * l0 ≤ (cu - i + 1) * l := Int.mul_le_mul_of_nonneg_left hll (by omega)
    have h5 : (v + b) * mi < (cu - i + 1) * l := by omega
    have h6 := (Int.ediv_lt_iff_lt_mul hlp).2 h5
    omega
/-- the real motor is between the ends of the tolerances -/
theorem plus_btw {m : Mot} {l : List Sp} {o0 o1 o2 o3 : Int} (h0 : (l.getD 0 default).lo ≤ o0 ∧ o0 ≤ (l.getD 0 default).hi) (h1 : (l.getD 1 default).lo ≤ o1 ∧ o1 ≤ (l.getD 1 default).hi) (h2 : (l.getD 2 default).lo ≤ o2 ∧ o2 ≤ (l.getD 2 default).hi) (h3 : (l.getD 3 default).lo ≤ o3 ∧ o3 ≤ (l.getD 3 default).hi) : btw (lmLo m l) (lmHi m l) (m.plus o0 o1 o2 o3) := by
  unfold btw lmLo lmHi Mot.plus
  simp only
  omega
theorem chk_btw {m : Mot} {l : List Sp} {o0 o1 o2 o3 : Int} (h : lmE m l = 0) (hb : btw (lmLo m l) (lmHi m l) (m.plus o0 o1 o2 o3)) : chk (m.plus o0 o1 o2 o3) := by
  obtain ⟨hm, _, hlo, hhi, _⟩ := lm_parts h
  unfold btw at hb
  unfold chk at hm hlo hhi ⊢
  unfold lmLo lmHi Mot.plus at *
  simp only at *
  omega
/-- both next currents -/
theorem safe_next {m : Mot} {l : List Sp} {d q s w vd vq ld o0 o1 o2 o3 : Int} (h : lmE m l = 0) (hd : -m.cu ≤ d ∧ d ≤ m.cu) (hq : -m.cu ≤ q ∧ q ≤ m.cu) (hw : s + (lmS l).lo ≤ w ∧ w ≤ s + (lmS l).hi) (hb : btw (lmLo m l) (lmHi m l) (m.plus o0 o1 o2 o3))
    (hvd : aLo m l d q s ≤ vd ∧ vd ≤ aHi m l d q s) (hvq : bLo m l d q s ≤ vq ∧ vq ≤ bHi m l d q s) :
    (-m.cu ≤ (stN (m.plus o0 o1 o2 o3) ⟨d, q, 1000 * w, 0⟩ vd vq ld).d ∧ (stN (m.plus o0 o1 o2 o3) ⟨d, q, 1000 * w, 0⟩ vd vq ld).d ≤ m.cu) ∧ (-m.cu ≤ (stN (m.plus o0 o1 o2 o3) ⟨d, q, 1000 * w, 0⟩ vd vq ld).q ∧ (stN (m.plus o0 o1 o2 o3) ⟨d, q, 1000 * w, 0⟩ vd vq ld).q ≤ m.cu) := by
  obtain ⟨hm, _, hlo, hhi, _⟩ := lm_parts h
  have e2 : stW ⟨d, q, 1000 * w, 0⟩ = w := by unfold stW; simp only; omega
  have k1 := ibd_span (d := d) (q := q) hb hw.1 hw.2
  have k2 := ibq_span (d := d) (q := q) hb hw.1 hw.2
  have hb' := hb
  unfold btw at hb'
  unfold chk at hm hlo
  unfold aLo aHi at hvd
  unfold bLo bHi at hvq
  have mi1 : 1 ≤ m.mi := by omega
  have f1 := next_in (cu := m.cu) (i := d) (l0 := (lmLo m l).ld) (l := (m.plus o0 o1 o2 o3).ld) (mi := m.mi) (by omega) (by omega) mi1 hd.1 hd.2 k1.1 k1.2 hvd.1 hvd.2
  have f2 := next_in (cu := m.cu) (i := q) (l0 := (lmLo m l).lq) (l := (m.plus o0 o1 o2 o3).lq) (mi := m.mi) (by omega) (by omega) mi1 hq.1 hq.2 k2.1 k2.2 hvq.1 hvq.2
  unfold stN
  simp only [e2]
  exact ⟨f1, f2⟩
end Dv
end Go.Proofs.Ytcneohhfnnelgaa
namespace Go.Proofs.Ytcneohhfnnelgaa
open Go.RowKit
set_option linter.unusedVariables false

/-- a slice of uint64 that came in -/
def U64At (w : World) (A : Option Addr) (us : List Int) : Prop := ∀ i, i < us.length → (0 ≤ us.getD i 0 ∧ us.getD i 0 < 18446744073709551616) ∧ ∃ ad, A = some ad ∧ w.cell? (ad.add i) = some (.int .u64 (us.getD i 0))
theorem U64At.below {w w1 : World} {A : Option Addr} {xs : List Int} (h : U64At w A xs) (hb : Below w.heap.size w w1) : U64At w1 A xs := by
  intro i hi
  obtain ⟨hr, ad, e, hc⟩ := h i hi
  exact ⟨hr, ad, e, (hb.cell (World.block_lt_of_cell? w _ hc)).trans hc⟩
theorem U64At.bd {w : World} {A : Option Addr} {us : List Int} (h : U64At w A us) (k : Nat) : 0 ≤ us.getD k 0 ∧ us.getD k 0 < 18446744073709551616 := by
  by_cases hk : k < us.length
  · exact (h k hk).1
  · rw [List.getD_eq_getElem?_getD, List.getElem?_eq_none (by omega)]
    simp
theorem pick_c (A : Option Addr) (us : List Int) (cap k : Nat) (w : World) (h : U64At w A us) :
    Calls Try.prog 63 #[.slice A us.length cap, .int .i64 (k : Int)] w fun e w' => e = .returned (.int .u64 (us.getD k 0)) ∧ w = w' := by
  by_cases hk : k < us.length
  · obtain ⟨_, ad, rfl, hc⟩ := h k hk
    have HC := Lib.hid h
    clear h HC
    generalize us.getD k 0 = x at hc ⊢
    go_enter Try.func63, Try.ntmps63
    go_wp2
    go_ret
    exact ⟨rfl, rfl⟩
  · have E : Hid (us.getD k 0 = 0) := Lib.hid (by rw [List.getD_eq_getElem?_getD, List.getElem?_eq_none (by omega)]; rfl)
    clear h
    go_enter Try.func63, Try.ntmps63
    go_wp2
    go_ret
    exact ⟨by rw [E.out]; rfl, rfl⟩

/-- a number of a span -/
def InP (lo hi : Int) (w : World) (e : Ending) (w' : World) : Prop := ∃ x : Int, e = .returned (.int .i64 x) ∧ lo ≤ x ∧ x ≤ hi ∧ Below w.heap.size w w'
theorem inside_one (lo hi : Int) (w : World) :
    Calls Try.prog 62 #[.agg #[.int .i64 lo, .int .i64 hi], .int .u64 1] w fun e w' => e = .returned (.int .i64 hi) ∧ Below w.heap.size w w' := by
  go_enter Try.func62, Try.ntmps62
  go_wp2
  go_ret
  exact ⟨rfl, (Below.refl _ _).alloc (Nat.le_refl _) _⟩
set_option maxHeartbeats 1000000 in
theorem inside_n (lo hi p : Int) (w : World) (h : lo ≤ hi) (h1 : -2305843009213693952 ≤ lo) (h2 : hi ≤ 2305843009213693952) (hp0 : 0 ≤ p) (hp1 : p < 18446744073709551616) (hp : (p == 1) = false) :
    Calls Try.prog 62 #[.agg #[.int .i64 lo, .int .i64 hi], .int .u64 p] w fun e w' => e = .returned (.int .i64 (lo + p % (hi - lo + 1))) ∧ Below w.heap.size w w' := by
  have hn : 0 < hi - lo + 1 := by omega
  have hm0 := Int.emod_nonneg p (show hi - lo + 1 ≠ 0 by omega)
  have hm1 := Int.emod_lt_of_pos p hn
  have hd : decide (hi < lo) = false := decide_eq_false (by omega)
  have hz : (hi - lo + 1 == 0) = false := by simp; omega
  have B1 := Blk.new' w #[.int .i64 lo, .int .i64 hi] 29
  have HB := Lib.hid (show Below w.heap.size w (w.alloc (.cells #[.int .i64 lo, .int .i64 hi] 29)) from (Below.refl _ _).alloc (Nat.le_refl _) _)
  have B2 := Lib.hid B1
  clear B1
  go_enter Try.func62, Try.ntmps62
  go_wp2_with fail
  have c0 := B2.out.cell 0 rfl
  have z0 := B2.out.lt
  refine wp_region_past (by kernel_rfl) (by kernel_rfl) ?_
  repeat (go_big_quiet_step (fail))
  refine wpQuiet_nil ?_
  intro y
  have HB2 := Lib.hid (HB.out.trans (y.far.mono HB.out.size))
  clear c0 z0
  generalize y.w = w4 at HB2 ⊢
  go_wp2
  go_ret
  exact ⟨rfl, HB2.out⟩
theorem inside_c (lo hi p : Int) (w : World) (h : lo ≤ hi) (h1 : -2305843009213693952 ≤ lo) (h2 : hi ≤ 2305843009213693952) (hp : 0 ≤ p ∧ p < 18446744073709551616) :
    Calls Try.prog 62 #[.agg #[.int .i64 lo, .int .i64 hi], .int .u64 p] w (InP lo hi w) := by
  by_cases e : p = 1
  · subst e
    exact (inside_one lo hi w).mono fun _ _ ⟨k1, k2⟩ => ⟨hi, k1, h, Int.le_refl _, k2⟩
  · have hm0 := Int.emod_nonneg p (show hi - lo + 1 ≠ 0 by omega)
    have hm1 := Int.emod_lt_of_pos p (show 0 < hi - lo + 1 by omega)
    exact (inside_n lo hi p w h h1 h2 hp.1 hp.2 (by simpa using e)).mono fun _ _ ⟨k1, k2⟩ => ⟨_, k1, by omega, by omega, k2⟩
end Go.Proofs.Ytcneohhfnnelgaa
namespace Go.Proofs.Ytcneohhfnnelgaa
open Go.RowKit
set_option linter.unusedVariables false
namespace Dv
def ins (lo hi p : Int) : Int := if p = 1 then hi else lo + p % (hi - lo + 1)
theorem ins_in {lo hi p : Int} (h : lo ≤ hi) : lo ≤ ins lo hi p ∧ ins lo hi p ≤ hi := by
  unfold ins
  split
  · omega
  · have hm0 := Int.emod_nonneg p (show hi - lo + 1 ≠ 0 by omega)
    have hm1 := Int.emod_lt_of_pos p (show 0 < hi - lo + 1 by omega)
    omega
end Dv
theorem inside_e (lo hi p : Int) (w : World) (h : lo ≤ hi) (h1 : -2305843009213693952 ≤ lo) (h2 : hi ≤ 2305843009213693952) (hp : 0 ≤ p ∧ p < 18446744073709551616) :
    Calls Try.prog 62 #[.agg #[.int .i64 lo, .int .i64 hi], .int .u64 p] w fun e w' => e = .returned (.int .i64 (Dv.ins lo hi p)) ∧ Below w.heap.size w w' := by
  by_cases e : p = 1
  · subst e
    exact (inside_one lo hi w).mono fun _ _ ⟨k1, k2⟩ => ⟨by rw [k1]; simp [Dv.ins], k2⟩
  · exact (inside_n lo hi p w h h1 h2 hp.1 hp.2 (by simpa using e)).mono fun _ _ ⟨k1, k2⟩ => ⟨by rw [k1]; simp [Dv.ins, e], k2⟩
/-- the voltages that are allowed are no great numbers -/
theorem al_num {x l mi b : Int} (hm : 1 ≤ mi) (hx : -2097153 ≤ x ∧ x ≤ 2097153) (hl : -4194304 ≤ l ∧ l ≤ 4194304) (hb : -1152921504606846976 ≤ b ∧ b ≤ 1152921504606846976) :
    (-2305843009213693952 ≤ -(x * l / mi) - b) ∧ ((x * l - 1) / mi - b ≤ 2305843009213693952) := by
  have h := Dv.mul_bd 2097153 4194304 hx hl
  have e1 := Dv.ediv_bd (x * l) mi hm 1000000000000000 (by omega) (by omega) (by omega)
  have e2 := Dv.ediv_bd (x * l - 1) mi hm 1000000000000000 (by omega) (by omega) (by omega)
  omega
theorem safe_bd {m : Mot} {l : List Sp} {d q s : Int} (h : Dv.lmE m l = 0) (hd : -m.cu ≤ d ∧ d ≤ m.cu) (hq : -m.cu ≤ q ∧ q ≤ m.cu) (hs1 : -m.fa ≤ s) (hs2 : s ≤ m.fa) :
    (-2305843009213693952 ≤ Dv.aLo m l d q s) ∧ (Dv.aHi m l d q s ≤ 2305843009213693952) ∧ (-2305843009213693952 ≤ Dv.bLo m l d q s) ∧ (Dv.bHi m l d q s ≤ 2305843009213693952) := by
  obtain ⟨hm, _, hlo, hhi, h1, h2, _⟩ := Dv.lm_parts h
  have hm' := hm
  have hlo' := hlo
  unfold Dv.chk at hm hlo
  obtain ⟨b1, b2, b3, b4⟩ := Dv.inn_bd (Dv.lmLo m l) (Dv.lmHi m l) d q (s + (Dv.lmS l).lo) (s + (Dv.lmS l).hi) hlo' hhi (by omega) (by omega) (by omega) (by omega)
  have a1 := al_num (x := m.cu + d) (l := (Dv.lmLo m l).ld) (mi := m.mi) (by omega) (by omega) (by omega) b1
  have a2 := al_num (x := m.cu - d + 1) (l := (Dv.lmLo m l).ld) (mi := m.mi) (by omega) (by omega) (by omega) b2
  have a3 := al_num (x := m.cu + q) (l := (Dv.lmLo m l).lq) (mi := m.mi) (by omega) (by omega) (by omega) b3
  have a4 := al_num (x := m.cu - q + 1) (l := (Dv.lmLo m l).lq) (mi := m.mi) (by omega) (by omega) (by omega) b4
  unfold Dv.aLo Dv.aHi Dv.bLo Dv.bHi Dv.alLo Dv.alHi
  exact ⟨a1.1, a2.2, a3.1, a4.2⟩
theorem St.upd {w W : World} {l : List BlkRow} (h : St w l W) (i : Nat) {g : Nat} {t : TypeId} {cs : List Value} (hx : l[i]? = some (g, t, cs)) (hg : w.heap.size ≤ g) (vs : List Value) (hl : cs.length = vs.length) : St w (l.set i (g, t, vs)) (setAll W g 0 vs) := by
  have hil := (List.getElem?_eq_some_iff.1 hx).1
  refine ⟨setAll_below hg vs 0 _ h.1, ?_, ?_⟩
  · intro x hx'
    obtain ⟨j, hj⟩ := List.getElem?_of_mem hx'
    by_cases hij : i = j
    · subst hij
      rw [List.getElem?_set_self hil] at hj
      cases hj
      exact setAll_blk vs cs [] W (h.get i hx) hl
    · rw [List.getElem?_set_ne hij] at hj
      obtain ⟨gx, tx, cx⟩ := x
      exact setAll_ne (h.ne j i hj hx (fun e => hij e.symm)) vs 0 W (h.get j hj)
  · have : (l.set i (g, t, vs)).map Prod.fst = l.map Prod.fst := by
      rw [List.map_set]
      apply List.ext_getElem?
      intro k
      by_cases hik : i = k
      · subst hik
        rw [List.getElem?_set_self (by simpa using hil), List.getElem?_map, hx]
        rfl
      · rw [List.getElem?_set_ne hik]
    rw [this]
    exact h.2.2
end Go.Proofs.Ytcneohhfnnelgaa
namespace Go.Proofs.Ytcneohhfnnelgaa
open Go.RowKit
set_option linter.unusedVariables false
theorem u64_bd {n : Int} (h : (Lit.int .u64 n).wf = true) : 0 ≤ n ∧ n < 18446744073709551616 := by
  have h1 : IntKind.u64.min = 0 := rfl
  have h2 : IntKind.u64.max = 18446744073709551615 := rfl
  simp only [Lit.wf, Bool.and_eq_true, decide_eq_true_eq] at h
  omega
theorem u64s_of {w : World} {v : Value} (h : v = .slice none 0 0 ∨ ∃ a len cap, v = .slice (some a) len cap ∧ len ≤ cap ∧ cap ≤ maxLen ∧
      ∀ i, i < len → ∃ cs, cs.length = 1 ∧ (∀ j u, cs[j]? = some u → w.cell? ((a.add (i * 1)).add j) = some u) ∧ Rd w (.i .u64 .nil) cs) :
    ∃ (A : Option Addr) (xs : List Int) (cap : Nat), v = .slice A xs.length cap ∧ xs.length ≤ cap ∧ cap ≤ 9223372036854775807 ∧ U64At w A xs := by
  rcases h with rfl | ⟨a, len, cap, rfl, hl, hm, hi⟩
  · exact ⟨none, [], 0, rfl, Nat.le_refl _, by omega, fun i hi => by simp at hi⟩
  · obtain ⟨xs, hbl, hbs⟩ := choose_list (α := Int) (n := len) (Q := fun i x => (0 ≤ x ∧ x < 18446744073709551616) ∧ w.cell? ((a.add (i * 1)).add 0) = some (.int .u64 x)) (fun i hil => by
      obtain ⟨cs, _, hc, n0, _, rfl, hw, rfl⟩ := hi i hil
      exact ⟨n0, u64_bd hw, hc 0 _ rfl⟩)
    refine ⟨some a, xs, cap, by rw [hbl], by omega, by unfold maxLen at hm; omega, fun i hi => ?_⟩
    have hg : xs[i]? = some (xs.getD i 0) := by rw [List.getD_eq_getElem?_getD, List.getElem?_eq_getElem hi]; rfl
    obtain ⟨h1, h0⟩ := hbs i _ hg
    rw [add_zero', Nat.mul_one] at h0
    exact ⟨h1, a, rfl, h0⟩
end Go.Proofs.Ytcneohhfnnelgaa
