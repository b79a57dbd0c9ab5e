/- Plain: DriveSafe: voltages that are allowed keep the currents within the limits. Plain: DriveHolds: a motor that holds has allowed voltages within the room. Plain: DriveHolds: a play of a motor that holds keeps the currents within the limits. Plain: DriveHolds: what a play of a motor that holds leaves, whole and cut short. The law of motors that hold: its last loop. The law of motors that hold: the speed at which a play ended is too great. Contracts of pick and inside of coulomblaw06. inside by its number; a block of the list written anew. General: a region that draws its order: operations that read and callees that read or make memory; then one operation of any kind that all others wait for, or that waits for them; then operations that only compute. The law of motors that hold: coulomblaw06.DriveHolds returns true. Opening a slice of uint64 that came in. -/
import Derived.Test.YtcneohhfnnelgaaPl5
import Derived.IntWalk
import Derived.Orders
namespace Go.Proofs.Ytcneohhfnnelgaa
open Go.RowKit
set_option linter.unusedVariables false
namespace Dv
theorem mul_span1 {a b x c : Int} (h1 : a ≤ x) (h2 : x ≤ b) : min (a * c) (b * c) ≤ x * c ∧ x * c ≤ max (a * c) (b * c) := by
  rcases Int.le_total 0 c with hc | hc
  · have e1 := Int.mul_le_mul_of_nonneg_right h1 hc
    have e2 := Int.mul_le_mul_of_nonneg_right h2 hc
    omega
  · have e1 := Int.mul_le_mul_of_nonpos_right h1 hc
    have e2 := Int.mul_le_mul_of_nonpos_right h2 hc
    omega
/-- a product of numbers of two spans lies in the span of the products -/
theorem mul_span {a b c d x y : Int} (h1 : a ≤ x) (h2 : x ≤ b) (h3 : c ≤ y) (h4 : y ≤ d) : tmLo a b c d ≤ x * y ∧ x * y ≤ tmHi a b c d := by
  have k1 := mul_span1 (c := c) h1 h2
  have k2 := mul_span1 (c := d) h1 h2
  have k3 := mul_span1 (c := x) h3 h4
  rw [Int.mul_comm c x, Int.mul_comm d x, Int.mul_comm y x] at k3
  unfold tmLo tmHi mn4 mx4
  omega
theorem ediv_mono {a b d : Int} (hd : 0 < d) (h : a ≤ b) : a / d ≤ b / d := Int.ediv_le_ediv hd h
/-- real is between lo and hi -/
def btw (lo hi real : Mot) : Prop := (lo.r ≤ real.r ∧ real.r ≤ hi.r) ∧ (lo.ld ≤ real.ld ∧ real.ld ≤ hi.ld) ∧ (lo.lq ≤ real.lq ∧ real.lq ≤ hi.lq) ∧ (lo.fx ≤ real.fx ∧ real.fx ≤ hi.fx)
theorem ibd_span {lo hi real : Mot} {d q w al ah : Int} (h : btw lo hi real) (h1 : al ≤ w) (h2 : w ≤ ah) : bdLo lo hi d q al ah ≤ ibd real d q w ∧ ibd real d q w ≤ bdHi lo hi d q al ah := by
  obtain ⟨⟨r1, r2⟩, _, ⟨l1, l2⟩, _⟩ := h
  have a := mul_span h1 h2 l1 l2
  have b := mul_span a.1 a.2 (Int.le_refl q) (Int.le_refl q)
  have c := mul_span r1 r2 (Int.le_refl d) (Int.le_refl d)
  have e1 := ediv_mono (d := 1000000) (by omega) b.1
  have e2 := ediv_mono (d := 1000000) (by omega) b.2
  have e3 := ediv_mono (d := 1000) (by omega) c.1
  have e4 := ediv_mono (d := 1000) (by omega) c.2
  unfold bdLo bdHi ibd
  omega
theorem ibq_span {lo hi real : Mot} {d q w al ah : Int} (h : btw lo hi real) (h1 : al ≤ w) (h2 : w ≤ ah) : bqLo lo hi d q al ah ≤ ibq real d q w ∧ ibq real d q w ≤ bqHi lo hi d q al ah := by
  obtain ⟨⟨r1, r2⟩, ⟨l1, l2⟩, _, ⟨f1, f2⟩⟩ := h
  have a := mul_span h1 h2 l1 l2
  have b := mul_span a.1 a.2 (Int.le_refl d) (Int.le_refl d)
  have c := mul_span r1 r2 (Int.le_refl q) (Int.le_refl q)
  have f := mul_span h1 h2 f1 f2
  have e1 := ediv_mono (d := 1000000) (by omega) b.1
  have e2 := ediv_mono (d := 1000000) (by omega) b.2
  have e3 := ediv_mono (d := 1000) (by omega) c.1
  have e4 := ediv_mono (d := 1000) (by omega) c.2
  unfold bqLo bqHi ibq
  omega
/-- the next current -/
theorem next_in {cu i l0 l mi v b blo bhi : Int} (hl : 1 ≤ l0) (hll : l0 ≤ l) (hm : 1 ≤ mi) (hi1 : -cu ≤ i) (hi2 : i ≤ cu) (hb1 : blo ≤ b) (hb2 : b ≤ bhi) (hv1 : alLo cu i l0 mi blo ≤ v) (hv2 : v ≤ alHi cu i l0 mi bhi) :
    -cu ≤ i + (v + b) * mi / l ∧ i + (v + b) * mi / l ≤ cu := by
  unfold alLo at hv1
  unfold alHi at hv2
  have hlp : 0 < l := by omega
  constructor
  · have h1 : -((cu + i) * l0 / mi) ≤ v + b := by omega
    have h2 := Int.mul_le_mul_of_nonneg_right h1 (show 0 ≤ mi by omega)
    have h3 : (cu + i) * l0 / mi * mi ≤ (cu + i) * l0 := Int.ediv_mul_le _ (by omega)
    have h4 : (cu + i) * l0 ≤ (cu + i) * l := Int.mul_le_mul_of_nonneg_left hll (by omega)
    rw [Int.neg_mul] at h2
    have h5 : -(cu + i) * l ≤ (v + b) * mi := by rw [Int.neg_mul]; omega
    have h6 := (Int.le_ediv_iff_mul_le hlp).2 h5
    omega
  · have h1 : v + b ≤ ((cu - i + 1) * l0 - 1) / mi := by omega
    have h2 := Int.mul_le_mul_of_nonneg_right h1 (show 0 ≤ mi by omega)
    have h3 : ((cu - i + 1) * l0 - 1) / mi * mi ≤ (cu - i + 1) * l0 - 1 := Int.ediv_mul_le _ (by omega)
    have h4 : (cu - i + 1) * l0 ≤ (cu - i + 1) * l := Int.mul_le_mul_of_nonneg_left hll (by omega)
    have h5 : (v + b) * mi < (cu - i + 1) * l := by omega
    have h6 := (Int.ediv_lt_iff_lt_mul hlp).2 h5
    omega
/-- the real motor is between the ends of the tolerances -/
theorem plus_btw {m : Mot} {l : List Sp} {o0 o1 o2 o3 : Int} (h0 : (l.getD 0 default).lo ≤ o0 ∧ o0 ≤ (l.getD 0 default).hi) (h1 : (l.getD 1 default).lo ≤ o1 ∧ o1 ≤ (l.getD 1 default).hi) (h2 : (l.getD 2 default).lo ≤ o2 ∧ o2 ≤ (l.getD 2 default).hi) (h3 : (l.getD 3 default).lo ≤ o3 ∧ o3 ≤ (l.getD 3 default).hi) : btw (lmLo m l) (lmHi m l) (m.plus o0 o1 o2 o3) := by
  unfold btw lmLo lmHi Mot.plus
  simp only
  omega
theorem chk_btw {m : Mot} {l : List Sp} {o0 o1 o2 o3 : Int} (h : lmE m l = 0) (hb : btw (lmLo m l) (lmHi m l) (m.plus o0 o1 o2 o3)) : chk (m.plus o0 o1 o2 o3) := by
  obtain ⟨hm, _, hlo, hhi, _⟩ := lm_parts h
  unfold btw at hb
  unfold chk at hm hlo hhi ⊢
  unfold lmLo lmHi Mot.plus at *
  simp only at *
  omega
/-- both next currents -/
theorem safe_next {m : Mot} {l : List Sp} {d q s w vd vq ld o0 o1 o2 o3 : Int} (h : lmE m l = 0) (hd : -m.cu ≤ d ∧ d ≤ m.cu) (hq : -m.cu ≤ q ∧ q ≤ m.cu) (hw : s + (lmS l).lo ≤ w ∧ w ≤ s + (lmS l).hi) (hb : btw (lmLo m l) (lmHi m l) (m.plus o0 o1 o2 o3))
    (hvd : aLo m l d q s ≤ vd ∧ vd ≤ aHi m l d q s) (hvq : bLo m l d q s ≤ vq ∧ vq ≤ bHi m l d q s) :
    (-m.cu ≤ (stN (m.plus o0 o1 o2 o3) ⟨d, q, 1000 * w, 0⟩ vd vq ld).d ∧ (stN (m.plus o0 o1 o2 o3) ⟨d, q, 1000 * w, 0⟩ vd vq ld).d ≤ m.cu) ∧ (-m.cu ≤ (stN (m.plus o0 o1 o2 o3) ⟨d, q, 1000 * w, 0⟩ vd vq ld).q ∧ (stN (m.plus o0 o1 o2 o3) ⟨d, q, 1000 * w, 0⟩ vd vq ld).q ≤ m.cu) := by
  obtain ⟨hm, _, hlo, hhi, _⟩ := lm_parts h
  have e2 : stW ⟨d, q, 1000 * w, 0⟩ = w := by unfold stW; simp only; omega
  have k1 := ibd_span (d := d) (q := q) hb hw.1 hw.2
  have k2 := ibq_span (d := d) (q := q) hb hw.1 hw.2
  have hb' := hb
  unfold btw at hb'
  unfold chk at hm hlo
  unfold aLo aHi at hvd
  unfold bLo bHi at hvq
  have mi1 : 1 ≤ m.mi := by omega
  have f1 := next_in (cu := m.cu) (i := d) (l0 := (lmLo m l).ld) (l := (m.plus o0 o1 o2 o3).ld) (mi := m.mi) (by omega) (by omega) mi1 hd.1 hd.2 k1.1 k1.2 hvd.1 hvd.2
  have f2 := next_in (cu := m.cu) (i := q) (l0 := (lmLo m l).lq) (l := (m.plus o0 o1 o2 o3).lq) (mi := m.mi) (by omega) (by omega) mi1 hq.1 hq.2 k2.1 k2.2 hvq.1 hvq.2
  unfold stN
  simp only [e2]
  exact ⟨f1, f2⟩
end Dv
end Go.Proofs.Ytcneohhfnnelgaa
namespace Go.Proofs.Ytcneohhfnnelgaa
open Go.RowKit
set_option linter.unusedVariables false
namespace Dv
theorem abs_mul {x y a b : Int} (hx : -a ≤ x ∧ x ≤ a) (hy : -b ≤ y ∧ y ≤ b) : -(a * b) ≤ x * y ∧ x * y ≤ a * b := by
  have ha : 0 ≤ a := by omega
  have hb : 0 ≤ b := by omega
  have k1 := mul_span1 (c := y) hx.1 hx.2
  have e1 : a * y ≤ a * b := Int.mul_le_mul_of_nonneg_left hy.2 ha
  have e2 : a * (-b) ≤ a * y := Int.mul_le_mul_of_nonneg_left hy.1 ha
  rw [Int.mul_neg] at e2
  rw [Int.neg_mul] at k1
  omega
/-- the ends of a span times a number -/
theorem tm_pt {a b q c : Int} (hab : a ≤ b) (hq : -c ≤ q ∧ q ≤ c) : tmHi a b q q - tmLo a b q q ≤ (b - a) * c := by
  have k := abs_mul (x := b - a) (a := b - a) ⟨by omega, Int.le_refl _⟩ hq
  rw [Int.sub_mul b a q] at k
  unfold tmHi tmLo mn4 mx4
  omega
theorem tm_pt_bd {a b q c B : Int} (ha : -B ≤ a ∧ a ≤ B) (hb : -B ≤ b ∧ b ≤ B) (hq : -c ≤ q ∧ q ≤ c) : -(B * c) ≤ tmLo a b q q ∧ tmHi a b q q ≤ B * c := by
  have k1 := abs_mul ha hq
  have k2 := abs_mul hb hq
  unfold tmHi tmLo mn4 mx4
  omega
theorem pair_le {x1 x2 y1 y2 S W lo hi : Int} (hx : x1 - x2 ≤ S ∧ x2 - x1 ≤ S) (hw : -W ≤ x2 ∧ x2 ≤ W) (h1 : 0 ≤ y1 ∧ y1 ≤ hi) (hy : y1 - y2 ≤ hi - lo ∧ y2 - y1 ≤ hi - lo) : x1 * y1 - x2 * y2 ≤ S * hi + W * (hi - lo) := by
  have k1 := abs_mul (x := x1 - x2) (a := S) (y := y1) (b := hi) (by omega) (by omega)
  have k2 := abs_mul (x := x2) (a := W) (y := y1 - y2) (b := hi - lo) hw (by omega)
  have e1 : x1 * y1 - x2 * y2 = (x1 - x2) * y1 + x2 * (y1 - y2) := by rw [Int.sub_mul, Int.mul_sub]; omega
  omega
theorem tm_two {al ah lo hi W S : Int} (hS : ah - al ≤ S) (hal : al ≤ ah) (hW1 : -W ≤ al) (hW2 : ah ≤ W) (hlo : 0 ≤ lo) (hhi : lo ≤ hi) : tmHi al ah lo hi - tmLo al ah lo hi ≤ S * hi + W * (hi - lo) := by
  have k : ∀ x1 x2 y1 y2 : Int, (x1 = al ∨ x1 = ah) → (x2 = al ∨ x2 = ah) → (y1 = lo ∨ y1 = hi) → (y2 = lo ∨ y2 = hi) → x1 * y1 - x2 * y2 ≤ S * hi + W * (hi - lo) := by
    intro x1 x2 y1 y2 h1 h2 h3 h4
    exact pair_le (by omega) (by omega) (by omega) (by omega)
  have a1 := k al al lo lo (.inl rfl) (.inl rfl) (.inl rfl) (.inl rfl)
  have a2 := k al al lo hi (.inl rfl) (.inl rfl) (.inl rfl) (.inr rfl)
  have a3 := k al ah lo lo (.inl rfl) (.inr rfl) (.inl rfl) (.inl rfl)
  have a4 := k al ah lo hi (.inl rfl) (.inr rfl) (.inl rfl) (.inr rfl)
  have b1 := k al al hi lo (.inl rfl) (.inl rfl) (.inr rfl) (.inl rfl)
  have b3 := k al ah hi lo (.inl rfl) (.inr rfl) (.inr rfl) (.inl rfl)
  have b4 := k al ah hi hi (.inl rfl) (.inr rfl) (.inr rfl) (.inr rfl)
  have c1 := k ah al lo lo (.inr rfl) (.inl rfl) (.inl rfl) (.inl rfl)
  have c2 := k ah al lo hi (.inr rfl) (.inl rfl) (.inl rfl) (.inr rfl)
  have c4 := k ah ah lo hi (.inr rfl) (.inr rfl) (.inl rfl) (.inr rfl)
  have d1 := k ah al hi lo (.inr rfl) (.inl rfl) (.inr rfl) (.inl rfl)
  have d2 := k ah al hi hi (.inr rfl) (.inl rfl) (.inr rfl) (.inr rfl)
  have d3 := k ah ah hi lo (.inr rfl) (.inr rfl) (.inr rfl) (.inl rfl)
  unfold tmHi tmLo mn4 mx4
  omega
theorem tm_two_bd {al ah lo hi W : Int} (hal : al ≤ ah) (hW1 : -W ≤ al) (hW2 : ah ≤ W) (hlo : 0 ≤ lo) (hhi : lo ≤ hi) : (-(W * hi) ≤ tmLo al ah lo hi ∧ tmLo al ah lo hi ≤ W * hi) ∧ (-(W * hi) ≤ tmHi al ah lo hi ∧ tmHi al ah lo hi ≤ W * hi) ∧ tmLo al ah lo hi ≤ tmHi al ah lo hi := by
  have a1 := abs_mul (x := al) (a := W) (y := lo) (b := hi) (by omega) (by omega)
  have a2 := abs_mul (x := al) (a := W) (y := hi) (b := hi) (by omega) (by omega)
  have a3 := abs_mul (x := ah) (a := W) (y := lo) (b := hi) (by omega) (by omega)
  have a4 := abs_mul (x := ah) (a := W) (y := hi) (b := hi) (by omega) (by omega)
  unfold tmHi tmLo mn4 mx4
  omega
theorem up_ge (x d : Int) (hd : 0 < d) : x / d ≤ up x d := by
  unfold up
  have h1 : x / d * d ≤ x := Int.ediv_mul_le _ (by omega)
  have h2 : -x / d * d ≤ -x := Int.ediv_mul_le _ (by omega)
  have h3 : (x / d + -x / d) * d ≤ 0 := by rw [Int.add_mul]; omega
  have h4 : x / d + -x / d ≤ 0 := by
    rcases (show 0 < x / d + -x / d ∨ x / d + -x / d ≤ 0 by omega) with h | h
    · have := Int.mul_pos h hd
      omega
    · exact h
  omega
theorem fl_diff {a b c d : Int} (hd : 0 < d) (h : b - a ≤ c) : b / d - a / d ≤ up c d := by
  unfold up
  have h1 : b / d * d ≤ b := Int.ediv_mul_le _ (by omega)
  have h2 : a < (a / d + 1) * d := Int.lt_ediv_add_one_mul_self a hd
  have h3 : -c / d * d ≤ -c := Int.ediv_mul_le _ (by omega)
  have h4 : (b / d - a / d - 1 + -c / d) * d < 0 := by
    rw [Int.add_mul, Int.sub_mul, Int.sub_mul]
    rw [Int.add_mul] at h2
    omega
  have h5 : b / d - a / d - 1 + -c / d < 0 := by
    rcases (show b / d - a / d - 1 + -c / d < 0 ∨ 0 ≤ b / d - a / d - 1 + -c / d by omega) with h | h
    · exact h
    · have := Int.mul_nonneg h (show 0 ≤ d by omega)
      omega
  omega
theorem fl_ge {a c d : Int} (hd : 0 < d) (h : -c ≤ a) : -(up c d) ≤ a / d := by
  unfold up
  have := Int.ediv_le_ediv hd h
  omega
theorem fl_le {a c d : Int} (hd : 0 < d) (h : a ≤ c) : a / d ≤ up c d := Int.le_trans (Int.ediv_le_ediv hd h) (up_ge c d hd)
/-- the voltages between which the limit allows are far enough apart -/
theorem al_wide {cu i ld mi D : Int} (hl : 1 ≤ ld) (hm : 1 ≤ mi) (h : (D + 2) * mi ≤ 2 * cu * ld) : D ≤ (cu + i) * ld / mi + ((cu - i + 1) * ld - 1) / mi := by
  have hmp : 0 < mi := by omega
  have h1 : (cu + i) * ld < ((cu + i) * ld / mi + 1) * mi := Int.lt_ediv_add_one_mul_self _ hmp
  have h2 : (cu - i + 1) * ld - 1 < (((cu - i + 1) * ld - 1) / mi + 1) * mi := Int.lt_ediv_add_one_mul_self _ hmp
  generalize (cu + i) * ld / mi = x at *
  generalize ((cu - i + 1) * ld - 1) / mi = y at *
  have e1 : (cu + i) * ld + (cu - i + 1) * ld = 2 * cu * ld + ld := by
    rw [← Int.add_mul, show cu + i + (cu - i + 1) = 2 * cu + 1 by omega, Int.add_mul]
    omega
  have q1 : (x + 1) * mi = x * mi + mi := by rw [Int.add_mul, Int.one_mul]
  have q2 : (y + 1) * mi = y * mi + mi := by rw [Int.add_mul, Int.one_mul]
  have q3 : (D + 2) * mi = D * mi + 2 * mi := by rw [Int.add_mul]
  rw [q1] at h1
  rw [q2] at h2
  rw [q3] at h
  rcases (show x + y < D ∨ D ≤ x + y by omega) with hlt | hge
  · have h3 := Int.mul_le_mul_of_nonneg_right (show x + y + 1 ≤ D by omega) (show 0 ≤ mi by omega)
    have q4 : (x + y + 1) * mi = x * mi + y * mi + mi := by rw [Int.add_mul, Int.add_mul, Int.one_mul]
    rw [q4] at h3
    omega
  · exact hge
/-- what a span of allowed voltages needs -/
theorem al_room {cu i ld mi blo bhi D U : Int} (hl : 1 ≤ ld) (hm : 1 ≤ mi) (hi1 : -cu ≤ i) (hi2 : i ≤ cu) (hD : bhi - blo ≤ D) (h : (D + 2) * mi ≤ 2 * cu * ld) (hU0 : 0 ≤ U) (h1 : -U ≤ blo) (h2 : bhi ≤ U) :
    alLo cu i ld mi blo ≤ alHi cu i ld mi bhi ∧ mtLo (alLo cu i ld mi blo) U ≤ mtHi (alHi cu i ld mi bhi) U := by
  have w := al_wide (i := i) hl hm h
  have p1 : 0 ≤ (cu + i) * ld / mi := Int.ediv_nonneg (Int.mul_nonneg (by omega) (by omega)) (by omega)
  have p2 : 0 ≤ ((cu - i + 1) * ld - 1) / mi := by
    refine Int.ediv_nonneg ?_ (by omega)
    have := Int.mul_le_mul_of_nonneg_right (show 1 ≤ cu - i + 1 by omega) (show 0 ≤ ld by omega)
    omega
  unfold alLo alHi mtLo mtHi
  omega
theorem holds_span {m : Mot} {l : List Sp} {u d q s : Int} (hE : lmE m l = 0) (hu : 0 ≤ roomV u) (h : hoB m l u = true) (hd : -m.cu ≤ d ∧ d ≤ m.cu) (hq : -m.cu ≤ q ∧ q ≤ m.cu) (hs : -m.fa ≤ s ∧ s ≤ m.fa) :
    (aLo m l d q s ≤ aHi m l d q s ∧ bLo m l d q s ≤ bHi m l d q s) ∧ mtLo (aLo m l d q s) (roomV u) ≤ mtHi (aHi m l d q s) (roomV u) ∧ mtLo (bLo m l d q s) (roomV u) ≤ mtHi (bHi m l d q s) (roomV u) := by
  obtain ⟨hm, hl5, hlo, hhi, hsl, hsh, hv⟩ := lm_parts hE
  have hv4 : (l.getD 0 default).lo ≤ (l.getD 0 default).hi ∧ (l.getD 1 default).lo ≤ (l.getD 1 default).hi ∧ (l.getD 2 default).lo ≤ (l.getD 2 default).hi ∧ (l.getD 3 default).lo ≤ (l.getD 3 default).hi ∧ (lmS l).lo ≤ (lmS l).hi := by
    match l, hl5 with
    | [s0, s1, s2, s3, s4], _ =>
      exact ⟨(spV_bd (hv s0 (by simp))).2.2, (spV_bd (hv s1 (by simp))).2.2, (spV_bd (hv s2 (by simp))).2.2, (spV_bd (hv s3 (by simp))).2.2, (spV_bd (hv s4 (by simp))).2.2⟩
  unfold hoB hoG at h
  split at h
  · cases h
  · rename_i hC
    simp only [Bool.and_eq_true, decide_eq_true_eq] at h
    obtain ⟨gD, gQ⟩ := h
    have hle : (lmLo m l).r ≤ (lmHi m l).r ∧ (lmLo m l).ld ≤ (lmHi m l).ld ∧ (lmLo m l).lq ≤ (lmHi m l).lq ∧ (lmLo m l).fx ≤ (lmHi m l).fx := by
      unfold lmLo lmHi Mot.plus
      simp only
      omega
    unfold chk at hm hlo hhi
    have hW1 : -(hoW m l) ≤ s + (lmS l).lo := by unfold hoW; omega
    have hW2 : s + (lmS l).hi ≤ hoW m l := by unfold hoW; omega
    have hW0 : 0 ≤ hoW m l := by unfold hoW; omega
    have hS : s + (lmS l).hi - (s + (lmS l).lo) ≤ hoS l := by unfold hoS; omega
    have hal : s + (lmS l).lo ≤ s + (lmS l).hi := by omega
    unfold aLo aHi bLo bHi
    generalize lmLo m l = lo at *
    generalize lmHi m l = hi at *
    generalize s + (lmS l).lo = al at *
    generalize s + (lmS l).hi = ah at *
    generalize hoW m l = W at *
    generalize hoS l = S at *
    generalize roomV u = U at *
    have t1 := tm_two hS hal hW1 hW2 (show 0 ≤ lo.lq by omega) hle.2.2.1
    have t2 := tm_two hS hal hW1 hW2 (show 0 ≤ lo.ld by omega) hle.2.1
    have t3 := tm_two hS hal hW1 hW2 (show 0 ≤ lo.fx by omega) hle.2.2.2
    have v1 := tm_two_bd hal hW1 hW2 (show 0 ≤ lo.lq by omega) hle.2.2.1
    have v2 := tm_two_bd hal hW1 hW2 (show 0 ≤ lo.ld by omega) hle.2.1
    have v3 := tm_two_bd hal hW1 hW2 (show 0 ≤ lo.fx by omega) hle.2.2.2
    have p1 := tm_pt (c := m.cu) v1.2.2 hq
    have p2 := tm_pt (c := m.cu) v2.2.2 hd
    have b1 := tm_pt_bd (c := m.cu) v1.1 v1.2.1 hq
    have b2 := tm_pt_bd (c := m.cu) v2.1 v2.2.1 hd
    have r1 := tm_pt (c := m.cu) hle.1 hd
    have r2 := tm_pt (c := m.cu) hle.1 hq
    have rb1 := tm_pt_bd (B := hi.r) (c := m.cu) (a := lo.r) (b := hi.r) (by omega) (by omega) hd
    have rb2 := tm_pt_bd (B := hi.r) (c := m.cu) (a := lo.r) (b := hi.r) (by omega) (by omega) hq
    have m1 := Int.mul_le_mul_of_nonneg_right t1 (show 0 ≤ m.cu by omega)
    have m2 := Int.mul_le_mul_of_nonneg_right t2 (show 0 ≤ m.cu by omega)
    have f1 := fl_diff (d := 1000000) (by omega) (Int.le_trans p1 m1)
    have f2 := fl_diff (d := 1000000) (by omega) (Int.le_trans p2 m2)
    have f3 := fl_diff (d := 1000) (by omega) r1
    have f4 := fl_diff (d := 1000) (by omega) r2
    have q1 := fl_ge (d := 1000000) (by omega) b1.1
    have q2 := fl_le (d := 1000000) (by omega) b1.2
    have q3 := fl_ge (d := 1000000) (by omega) b2.1
    have q4 := fl_le (d := 1000000) (by omega) b2.2
    have s1 := fl_ge (d := 1000) (by omega) rb1.1
    have s2 := fl_le (d := 1000) (by omega) rb1.2
    have s3 := fl_ge (d := 1000) (by omega) rb2.1
    have s4 := fl_le (d := 1000) (by omega) rb2.2
    unfold hoC1 hoC2 at hC
    have A := al_room (cu := m.cu) (i := d) (ld := lo.ld) (mi := m.mi) (blo := bdLo lo hi d q al ah) (bhi := bdHi lo hi d q al ah) (D := hoD m lo hi W S) (U := U) (by omega) (by omega) hd.1 hd.2 (by unfold bdLo bdHi hoD; omega) gD hu (by unfold bdLo; omega) (by unfold bdHi; omega)
    have B := al_room (cu := m.cu) (i := q) (ld := lo.lq) (mi := m.mi) (blo := bqLo lo hi d q al ah) (bhi := bqHi lo hi d q al ah) (D := hoQ m lo hi W S) (U := U) (by omega) (by omega) hq.1 hq.2 (by unfold bqLo bqHi hoQ; omega) gQ hu (by unfold bqLo; omega) (by unfold bqHi; omega)
    exact ⟨⟨A.1, B.1⟩, A.2, B.2⟩
end Dv
end Go.Proofs.Ytcneohhfnnelgaa
namespace Go.Proofs.Ytcneohhfnnelgaa
open Go.RowKit
set_option linter.unusedVariables false
namespace Dv
theorem stR_yes {m : Mot} {s : Rot} {vd vq ld : Int} (h : (stR m s vd vq ld).2 = 0) : (stR m s vd vq ld).1 = stN m s vd vq ld := by
  unfold stR at h ⊢
  by_cases h1 : chkB m = true
  · by_cases h2 : stB s vd vq ld = true
    · by_cases h3 : upB 68719476736 [tq m s.d s.q] = true ∧ rotB (stN m s vd vq ld) = true
      · simp [h1, h2, h3]
      · simp [h1, h2, h3] at h
    · simp [h1, h2] at h
  · simp [h1] at h
theorem stR_code (m : Mot) (s : Rot) (vd vq ld : Int) : (stR m s vd vq ld).2 ≠ 17 := by
  unfold stR
  split
  · split
    · split
      · show (0 : Int) ≠ 17; decide
      · show (4 : Int) ≠ 17; decide
    · show (3 : Int) ≠ 17; decide
  · show (2 : Int) ≠ 17; decide
theorem stN_dq (m : Mot) (s : Rot) (vd vq ld : Int) : (stN m s vd vq ld).d = (stN m ⟨s.d, s.q, 1000 * (s.w / 1000), 0⟩ vd vq ld).d ∧ (stN m s vd vq ld).q = (stN m ⟨s.d, s.q, 1000 * (s.w / 1000), 0⟩ vd vq ld).q := by
  have e : stW ⟨s.d, s.q, 1000 * (s.w / 1000), 0⟩ = stW s := by unfold stW; simp only; omega
  unfold stN
  simp only [e, and_self]
theorem clip_mt {x lo hi r : Int} (h : mtLo lo r ≤ mtHi hi r) : lo ≤ clip x (mtLo lo r) (mtHi hi r) ∧ clip x (mtLo lo r) (mtHi hi r) ≤ hi := by
  have := clip_in (x := x) h
  unfold mtLo mtHi at *
  omega
theorem ap_plus {m : Mot} {xs : List Int} (h : (apR m xs).2 = 0) : (apR m xs).1 = m.plus (xs.getD 0 0) (xs.getD 1 0) (xs.getD 2 0) (xs.getD 3 0) := by
  unfold apR at h ⊢
  by_cases h1 : apB m xs = true
  · by_cases h2 : chkB (apM m xs) = true
    · simp only [if_pos h1, if_pos h2]; rfl
    · simp only [if_pos h1, if_neg h2] at h; cases h
  · simp only [if_neg h1] at h; cases h
theorem ap_btw {m : Mot} {xs : List Int} {tol : List Sp} (hE : lmE m tol = 0) (h : (apR m xs).2 = 0) (ho : ofB xs tol = true) : btw (lmLo m tol) (lmHi m tol) (m.plus (xs.getD 0 0) (xs.getD 1 0) (xs.getD 2 0) (xs.getD 3 0)) := by
  have h4 := (ap_parts h).1
  have k := (ofB_iff xs tol).1 ho
  have k0 := (k 0 (by omega)).2
  have k1 := (k 1 (by omega)).2
  have k2 := (k 2 (by omega)).2
  have k3 := (k 3 (by omega)).2
  simp only [inB, decide_eq_true_eq] at k0 k1 k2 k3
  exact plus_btw k0 k1 k2 k3
section
variable {m : Mot} {xs : List Int} {tol : List Sp} {p0 i0 p1 i1 u : Int}
/-- a state is within the limits -/
def lim (m : Mot) (s : Rot) : Prop := (-m.cu ≤ s.d ∧ s.d ≤ m.cu) ∧ (-m.cu ≤ s.q ∧ s.q ≤ m.cu)
/-- a round keeps the currents within the limits -/
theorem pl_safe {s : Rot} {sd sq e : Int} {o : Od} (hE : lmE m tol = 0) (ha : (apR m xs).2 = 0) (ho : ofB xs tol = true) (hs : lim m s) (he : odB (lmS tol) o e = true) (h : plE (plP m xs tol p0 i0 p1 i1 u) s sd sq o e = 0) : lim m (plR (plP m xs tol p0 i0 p1 i1 u) s sd sq o e).1 := by
  obtain ⟨h1, h2, h3, h4⟩ := plE_parts h
  unfold plR at h4 ⊢
  rw [stR_yes h4]
  have hb := ap_btw hE ha ho
  have hw : plW s e + (lmS tol).lo ≤ s.w / 1000 ∧ s.w / 1000 ≤ plW s e + (lmS tol).hi := by
    unfold odB at he
    rw [Bool.and_eq_true] at he
    have := he.1
    simp only [inB, decide_eq_true_eq] at this
    unfold plW
    omega
  have hvd := clip_mt (x := raw p0 sd (o.d - s.d)) h2
  have hvq := clip_mt (x := raw p1 sq (o.q - s.q)) h3
  have k := safe_next (ld := o.ld) hE hs.1 hs.2 hw hb hvd hvq
  have hrl : (plP m xs tol p0 i0 p1 i1 u).rl = m.plus (xs.getD 0 0) (xs.getD 1 0) (xs.getD 2 0) (xs.getD 3 0) := ap_plus ha
  obtain ⟨e1, e2⟩ := stN_dq (plP m xs tol p0 i0 p1 i1 u).rl s (plVd (plP m xs tol p0 i0 p1 i1 u) s sd o e) (plVq (plP m xs tol p0 i0 p1 i1 u) s sq o e) o.ld
  unfold lim
  rw [e1, e2, hrl]
  exact k
theorem pl_lims {s : Rot} {os : List Od} {es : List Int} (hE : lmE m tol = 0) (ha : (apR m xs).2 = 0) (ho : ofB xs tol = true) (hs : lim m s) (hod : odsB (lmS tol) os es = true) : ∀ n, n ≤ os.length → plC (plP m xs tol p0 i0 p1 i1 u) os es ⟨s, 0, 0⟩ n = 0 → lim m (plAt (plP m xs tol p0 i0 p1 i1 u) os es ⟨s, 0, 0⟩ n).s
  | 0, _, _ => hs
  | n + 1, hn, h => by
    by_cases h0 : plC (plP m xs tol p0 i0 p1 i1 u) os es ⟨s, 0, 0⟩ n = 0
    · rw [plC, if_pos h0] at h
      exact pl_safe hE ha ho (pl_lims hE ha ho hs hod n (by omega) h0) (odsB_at hod n (by omega)) h
    · rw [plC, if_neg h0] at h; exact absurd h h0
/-- a round of a motor that holds is only refused because of the measured speed, or by the step -/
theorem pl_fast {s : Rot} {sd sq e : Int} {o : Od} (hE : lmE m tol = 0) (hu : 0 ≤ roomV u) (hh : hoB m tol u = true) (hs : lim m s) (h : plE (plP m xs tol p0 i0 p1 i1 u) s sd sq o e = 17) : upB m.fa [plW s e] = false := by
  cases hf : upB m.fa [plW s e]
  · rfl
  · exfalso
    have hb := upB1.1 hf
    have k := holds_span (d := s.d) (q := s.q) (s := plW s e) hE hu hh hs.1 hs.2 hb
    unfold plE at h
    rw [if_pos (show upB (plP m xs tol p0 i0 p1 i1 u).m.fa [plW s e] = true from hf), if_pos (by
      simp only [Bool.and_eq_true, decide_eq_true_eq]
      exact k.2)] at h
    exact stR_code _ _ _ _ _ h
end
/-- prefixes -/
theorem plAt_take (P : Pl) (os : List Od) (es : List Int) (x : PS) (N : Nat) : ∀ n, n ≤ N → plAt P (os.take N) (es.take N) x n = plAt P os es x n
  | 0, _ => rfl
  | n + 1, h => by
    have e1 : (os.take N).getD n default = os.getD n default := by simp [List.getD_eq_getElem?_getD, show n < N by omega]
    have e2 : (es.take N).getD n 0 = es.getD n 0 := by simp [List.getD_eq_getElem?_getD, show n < N by omega]
    rw [plAt, plAt, plAt_take P os es x N n (by omega), e1, e2]
theorem plC_take (P : Pl) (os : List Od) (es : List Int) (x : PS) (N : Nat) : ∀ n, n ≤ N → plC P (os.take N) (es.take N) x n = plC P os es x n
  | 0, _ => rfl
  | n + 1, h => by
    have e1 : (os.take N).getD n default = os.getD n default := by simp [List.getD_eq_getElem?_getD, show n < N by omega]
    have e2 : (es.take N).getD n 0 = es.getD n 0 := by simp [List.getD_eq_getElem?_getD, show n < N by omega]
    have e3 : plK P (os.take N) (es.take N) x n = plK P os es x n := by unfold plK; rw [plAt_take P os es x N n (by omega), e1, e2]
    rw [plC, plC, plC_take P os es x N n (by omega), e3]
end Dv
end Go.Proofs.Ytcneohhfnnelgaa
namespace Go.Proofs.Ytcneohhfnnelgaa
open Go.RowKit
set_option linter.unusedVariables false
namespace Dv
theorem apR_code (m : Mot) (xs : List Int) : (apR m xs).2 ≠ 17 := by
  unfold apR
  split
  · split
    · show (0 : Int) ≠ 17; decide
    · show (3 : Int) ≠ 17; decide
  · show (2 : Int) ≠ 17; decide
section
variable {m : Mot} {xs : List Int} {tol : List Sp} {p0 i0 p1 i1 u : Int} {s : Rot} {os : List Od} {es : List Int}
theorem plH_parts (h : plH m xs tol p0 i0 p1 i1 u s os es = 0) : lmE m tol = 0 ∧ (apR m xs).2 = 0 ∧ ofB xs tol = true ∧ (tunB p0 i0 && tunB p1 i1) = true ∧ busB u = true ∧ es.length = os.length ∧ odsB (lmS tol) os es = true ∧ (rotB s && upB m.cu [s.d, s.q]) = true := by
  unfold plH at h
  by_cases h0 : lmE m tol = 0
  · rw [if_neg (by simp [h0])] at h
    by_cases h1 : (apR m xs).2 = 0
    · rw [if_neg (by simp [h1])] at h
      cases h2 : ofB xs tol
      · rw [if_pos h2] at h; cases h
      · rw [if_neg (by simp [h2])] at h
        cases h3 : (tunB p0 i0 && tunB p1 i1)
        · rw [if_pos h3] at h; cases h
        · rw [if_neg (by simp [h3])] at h
          cases h4 : busB u
          · rw [if_pos h4] at h; cases h
          · rw [if_neg (by simp [h4])] at h
            by_cases h5 : 2000 < os.length
            · rw [if_pos h5] at h; cases h
            · rw [if_neg h5] at h
              by_cases h6 : es.length = os.length
              · rw [if_neg (by simp [h6])] at h
                cases h7 : odsB (lmS tol) os es
                · rw [if_pos h7] at h; cases h
                · rw [if_neg (by simp [h7])] at h
                  cases h8 : (rotB s && upB m.cu [s.d, s.q])
                  · rw [if_pos h8] at h; cases h
                  · exact ⟨h0, h1, rfl, rfl, rfl, h6, rfl, rfl⟩
              · rw [if_pos h6] at h; cases h
    · rw [if_pos h1] at h; exact absurd h h1
  · rw [if_pos h0] at h; exact absurd h h0
theorem plH_ne (hE : lmE m tol = 0) : plH m xs tol p0 i0 p1 i1 u s os es ≠ 17 := by
  unfold plH
  rw [if_neg (by simp [hE])]
  split
  · exact apR_code m xs
  repeat' split
  all_goals decide
theorem pl_17 (hE : lmE m tol = 0) (h : plErr m xs tol p0 i0 p1 i1 u s os es = 17) : plH m xs tol p0 i0 p1 i1 u s os es = 0 ∧ plC (plP m xs tol p0 i0 p1 i1 u) os es ⟨s, 0, 0⟩ os.length = 17 := by
  unfold plErr at h
  by_cases h0 : plH m xs tol p0 i0 p1 i1 u s os es = 0
  · rw [if_pos h0] at h; exact ⟨h0, h⟩
  · rw [if_neg h0] at h; exact absurd h (plH_ne hE)
theorem pl_0 (h : plErr m xs tol p0 i0 p1 i1 u s os es = 0) : plH m xs tol p0 i0 p1 i1 u s os es = 0 ∧ plC (plP m xs tol p0 i0 p1 i1 u) os es ⟨s, 0, 0⟩ os.length = 0 := by
  unfold plErr at h
  by_cases h0 : plH m xs tol p0 i0 p1 i1 u s os es = 0
  · rw [if_pos h0] at h; exact ⟨h0, h⟩
  · rw [if_neg h0] at h; exact absurd h h0
end
theorem plC_first {P : Pl} {os : List Od} {es : List Int} {x : PS} {E : Int} (hE : E ≠ 0) : ∀ N, plC P os es x N = E → ∃ r, r < N ∧ plC P os es x r = 0 ∧ plK P os es x r = E
  | 0, h => absurd h.symm hE
  | N + 1, h => by
    by_cases h0 : plC P os es x N = 0
    · rw [plC, if_pos h0] at h
      exact ⟨N, by omega, h0, h⟩
    · rw [plC, if_neg h0] at h
      obtain ⟨r, hr, h1, h2⟩ := plC_first hE N h
      exact ⟨r, by omega, h1, h2⟩
theorem plC_le {P : Pl} {os : List Od} {es : List Int} {x : PS} {n : Nat} (h : plC P os es x n = 0) (k : Nat) (hk : k ≤ n) : plC P os es x k = 0 := by
  by_cases h0 : plC P os es x k = 0
  · exact h0
  · have := plC_stop h0 (n - k)
    rw [show k + (n - k) = n by omega, h] at this
    exact absurd this.symm h0
theorem odsB_take (t : Sp) : ∀ (n : Nat) (os : List Od) (es : List Int), odsB t os es = true → odsB t (os.take n) (es.take n) = true
  | 0, os, es, _ => by simp [odsB]
  | n + 1, [], es, _ => by simp [odsB]
  | n + 1, o :: os, [], h => by simp [odsB] at h
  | n + 1, o :: os, e :: es, h => by
    simp only [odsB, Bool.and_eq_true, List.take_succ_cons] at h ⊢
    exact ⟨h.1, odsB_take t n os es h.2⟩
theorem plOut_take (P : Pl) (os : List Od) (es : List Int) (x : PS) (n : Nat) : plOut P (os.take n) (es.take n) x n = plOut P os es x n := by
  unfold plOut
  refine List.map_congr_left fun i hi => ?_
  rw [plAt_take P os es x n (i + 1) (by have := List.mem_range.1 hi; omega)]
theorem plOut_at (P : Pl) (os : List Od) (es : List Int) (x : PS) {n i : Nat} (h : i < n) (d : Rot) : (plOut P os es x n).getD i d = (plAt P os es x (i + 1)).s := by
  unfold plOut
  rw [List.getD_eq_getElem?_getD, List.getElem?_map, List.getElem?_range h]
  rfl
section
variable {m : Mot} {xs : List Int} {tol : List Sp} {p0 i0 p1 i1 u : Int} {s : Rot} {os : List Od} {es : List Int}
/-- a play cut short -/
theorem pl_cut (h : plH m xs tol p0 i0 p1 i1 u s os es = 0) (h100 : os.length ≤ 100) {n : Nat} (hn : n ≤ os.length) :
    plErr m xs tol p0 i0 p1 i1 u s (os.take n) (es.take n) = plC (plP m xs tol p0 i0 p1 i1 u) os es ⟨s, 0, 0⟩ n ∧
    (plC (plP m xs tol p0 i0 p1 i1 u) os es ⟨s, 0, 0⟩ n = 0 → plVal m xs tol p0 i0 p1 i1 u s (os.take n) (es.take n) = plOut (plP m xs tol p0 i0 p1 i1 u) os es ⟨s, 0, 0⟩ n) := by
  obtain ⟨h0, h1, h2, h3, h4, h6, h7, h8⟩ := plH_parts h
  have ht : (os.take n).length = n := by simp; omega
  have hH : plH m xs tol p0 i0 p1 i1 u s (os.take n) (es.take n) = 0 := plH_ok h0 h1 h2 h3 h4 (by rw [ht]; omega) (by simp; omega) (odsB_take _ n os es h7) h8
  have hC : plC (plP m xs tol p0 i0 p1 i1 u) (os.take n) (es.take n) ⟨s, 0, 0⟩ (os.take n).length = plC (plP m xs tol p0 i0 p1 i1 u) os es ⟨s, 0, 0⟩ n := by
    rw [ht, plC_take _ os es _ n n (Nat.le_refl _)]
  have hEr : plErr m xs tol p0 i0 p1 i1 u s (os.take n) (es.take n) = plC (plP m xs tol p0 i0 p1 i1 u) os es ⟨s, 0, 0⟩ n := by
    unfold plErr
    rw [if_pos hH, hC]
  refine ⟨hEr, fun hz => ?_⟩
  unfold plVal
  rw [hEr, if_pos hz, ht, plOut_take]
/-- the limits hold for all states of a list -/
def lims (m : Mot) (l : List Rot) : Prop := ∀ k, k < l.length → lim m (l.getD k ⟨0, 0, 0, 0⟩)
theorem out_lims (h : plH m xs tol p0 i0 p1 i1 u s os es = 0) {n : Nat} (hn : n ≤ os.length) (hC : plC (plP m xs tol p0 i0 p1 i1 u) os es ⟨s, 0, 0⟩ n = 0) : lims m (plOut (plP m xs tol p0 i0 p1 i1 u) os es ⟨s, 0, 0⟩ n) := by
  obtain ⟨h0, h1, h2, h3, h4, h6, h7, h8⟩ := plH_parts h
  rw [Bool.and_eq_true] at h8
  have hs : lim m s := upB2.1 h8.2
  intro k hk
  rw [plOut_len] at hk
  rw [plOut_at _ _ _ _ hk]
  exact pl_lims h0 h1 h2 hs h7 (k + 1) (by omega) (plC_le hC (k + 1) (by omega))
/-- the last state -/
def lastS (s : Rot) (l : List Rot) (r : Nat) : Rot := if r = 0 then s else l.getD (r - 1) ⟨0, 0, 0, 0⟩
theorem hold_0 (h : plErr m xs tol p0 i0 p1 i1 u s os es = 0) : lims m (plVal m xs tol p0 i0 p1 i1 u s os es) := by
  obtain ⟨hH, hC⟩ := pl_0 h
  unfold plVal
  rw [if_pos h]
  exact out_lims hH (Nat.le_refl _) hC
theorem hold_17 (hE : lmE m tol = 0) (hB : busB u = true) (hh : hoB m tol u = true) (h100 : os.length ≤ 100) (h : plErr m xs tol p0 i0 p1 i1 u s os es = 17) :
    ∃ r, r < os.length ∧ (∀ n, n < r → plErr m xs tol p0 i0 p1 i1 u s (os.take (n + 1)) (es.take (n + 1)) ≠ 17) ∧ plErr m xs tol p0 i0 p1 i1 u s (os.take (r + 1)) (es.take (r + 1)) = 17 ∧
      plErr m xs tol p0 i0 p1 i1 u s (os.take r) (es.take r) = 0 ∧ (plVal m xs tol p0 i0 p1 i1 u s (os.take r) (es.take r)).length = r ∧ lims m (plVal m xs tol p0 i0 p1 i1 u s (os.take r) (es.take r)) ∧
      upB m.fa [plW (lastS s (plVal m xs tol p0 i0 p1 i1 u s (os.take r) (es.take r)) r) (es.getD r 0)] = false ∧ rotB (lastS s (plVal m xs tol p0 i0 p1 i1 u s (os.take r) (es.take r)) r) = true ∧ (-16384 ≤ es.getD r 0 ∧ es.getD r 0 ≤ 16384) := by
  obtain ⟨hH, hC⟩ := pl_17 hE h
  obtain ⟨r, hr, hr0, hrK⟩ := plC_first (by decide) _ hC
  obtain ⟨h0, h1, h2, h3, h4, h6, h7, h8⟩ := plH_parts hH
  rw [Bool.and_eq_true] at h8
  have hs : lim m s := upB2.1 h8.2
  have hc0 := pl_cut hH h100 (n := r) (by omega)
  have hval := hc0.2 hr0
  have hlast : lastS s (plVal m xs tol p0 i0 p1 i1 u s (os.take r) (es.take r)) r = (plAt (plP m xs tol p0 i0 p1 i1 u) os es ⟨s, 0, 0⟩ r).s := by
    unfold lastS
    by_cases hz : r = 0
    · subst hz
      rw [if_pos rfl]
      rfl
    · rw [if_neg hz, hval, plOut_at _ _ _ _ (by omega), show r - 1 + 1 = r by omega]
  have hok := plAt_ok (P := plP m xs tol p0 i0 p1 i1 u) (os := os) (es := es) (x := ⟨s, 0, 0⟩) ⟨h8.1, (show (-1073741824 : Int) ≤ 0 ∧ (0 : Int) ≤ 1073741824 by decide), (show (-1073741824 : Int) ≤ 0 ∧ (0 : Int) ≤ 1073741824 by decide)⟩ r hr0
  refine ⟨r, hr, fun n hn => ?_, ?_, by rw [hc0.1, hr0], by rw [hval, plOut_len], by rw [hval]; exact out_lims hH (by omega) hr0, ?_, by rw [hlast]; exact hok.1, ?_⟩
  · rw [(pl_cut hH h100 (n := n + 1) (by omega)).1, plC_le hr0 (n + 1) (by omega)]
    decide
  · rw [(pl_cut hH h100 (n := r + 1) (by omega)).1, plC, if_pos hr0, hrK]
  · rw [hlast]
    exact pl_fast hE (roomV_bd (busB_iff.1 hB)).1 hh (pl_lims h0 h1 h2 hs h7 r (by omega) hr0) hrK
  · have := pl_bd h0 hok.1 (odsB_at h7 r hr)
    exact this.2.1
end
end Dv
end Go.Proofs.Ytcneohhfnnelgaa
namespace Go.Proofs.Ytcneohhfnnelgaa
open Go.RowKit
set_option linter.unusedVariables false
/-- the code's first region, and the code from a region on -/
def firstReg : Code → Option Nat
  | .region n _ _ => some n
  | .seq a _ => firstReg a
  | .block _ c => firstReg c
  | .loop c => firstReg c
  | .scope c => firstReg c
  | _ => none
def fromReg (n : Nat) : Code → Option Code
  | .seq a b => if firstReg a = some n then some (.seq a b) else match fromReg n a with
    | some c => some c
    | none => fromReg n b
  | .block _ c => fromReg n c
  | .loop c => fromReg n c
  | .scope c => fromReg n c
  | .cond _ a b => match fromReg n a with
    | some c => some c
    | none => fromReg n b
  | _ => none
noncomputable def loop17 : Code := ((Try.f17.body.bind (blockOf 2)).getD .skip)
noncomputable def end17 : Code := ((Try.f17.body.bind (behind 2)).getD .skip)
noncomputable def tail17 : Code := ((Try.f17.body.bind (fromReg 37)).getD .skip)
noncomputable def mid17 : Code := ((Try.f17.body.bind (fromReg 31)).getD .skip)
set_option maxHeartbeats 4000000 in
set_option maxRecDepth 1000000 in
theorem Holds_loop (m : Mot) (g9 : Nat) (A1 : Option Addr) (L : List Rot) (q1 : Nat) (w W : World) (c0 c1 c2 c3 c4 c5 c6 c7 c8 c10 c11 c12 c13 c14 c15 c16 c17 c19 c20 c21 c22 c23 c25 c26 c27 c28 c29 c30 c31 c32 c33 c34 c35 c36 c37 c38 c39 c40 c41 c42 c43 c44 c45 c46 c47 c48 c49 c50 c51 c52 c53 c54 c55 c56 c57 c58 c59 c60 c61 c62 c63 c64 c65 c66 c67 c68 c69 c70 c71 c72 c73 c74 c75 c76 c77 c78 c79 c80 c81 c82 c83 c84 c85 c86 c87 c88 c89 c90 c91 c92 c93 c94 c95 c96 c97 c98 c99 c100 c101 c102 c103 c104 c105 c106 c107 c108 c109 c110 c111 c112 c113 c114 c115 c116 c117 c118 c119 c120 c121 c122 c123 c124 c125 c126 c127 c128 c129 c130 c131 c132 c133 c134 c135 c136 c137 c138 c139 c140 c141 c142 c143 c144 c145 c146 c147 c148 c149 c150 c151 c152 c153 c154 c155 c156 c157 c158 c159 c160 c161 c162 c163 c164 c165 c166 c167 c168 c169 c170 c171 c172 c173 c174 c175 c176 c177 c178 c179 c180 c181 c182 c183 c184 c185 c186 c187 c188 c189 c190 c191 c192 c193 c194 c195 c196 c197 c198 c199 c200 c201 c202 c203 c204 c205 c206 c207 c208 c209 c210 c211 c212 c213 c214 c215 c216 c217 c218 c219 c220 c221 c222 c223 c224 c225 c226 c227 c228 c229 c230 c231 c232 c233 c234 c235 c236 c237 c238 c239 c240 c241 c242 c243 c244 c245 c246 c247 c248 c249 c250 c251 c252 c253 c254 c255 c256 c257 c258 c259 c260 c261 c262 c263 c264 c265 c266 c267 c268 c269 c270 c271 c272 c273 c274 c275 c276 c277 c278 c279 c280 c281 c282 c283 c284 c285 c286 c287 c288 c289 c290 c291 c292 c293 c294 c295 c296 c297 c298 c299 c300 c301 c302 c303 c304 c305 c306 : Value) (K : Act → World → Prop)
    (hS : St w [(g9, 52, [.int .i64 m.r, .int .i64 m.ld, .int .i64 m.lq, .int .i64 m.fx, .int .i64 m.po, .int .i64 m.mi, .int .i64 m.sp, .int .i64 m.dr, .int .i64 m.cu, .int .i64 m.fa])] W) (hR : RoAt W A1 L) (hL : L.length ≤ 100) (hl : Dv.lims m L) (hm : Dv.chk m)
    (hK : ∀ (a : Act) (w' : World), Code.wp Try.prog end17 (bodyPost Try.prog Try.f17 (fun e w' => e = .returned (.bool true) ∧ Below w.heap.size w w')) a w' → K a w') :
    Code.wp Try.prog loop17 (Exit.inBlock 2 (Exit.then K (bodyPost Try.prog Try.f17 (fun e w' => e = .returned (.bool true) ∧ Below w.heap.size w w')))) ⟨List.toArray ((c0 : Value) :: c1 :: c2 :: c3 :: c4 :: c5 :: c6 :: c7 :: c8 :: .pointer (some ⟨g9, 0, none⟩) :: c10 :: c11 :: c12 :: c13 :: c14 :: c15 :: c16 :: c17 :: .slice A1 L.length q1 :: c19 :: c20 :: c21 :: c22 :: c23 :: .int .i64 0 :: c25 :: c26 :: c27 :: c28 :: c29 :: c30 :: c31 :: c32 :: c33 :: c34 :: c35 :: c36 :: c37 :: c38 :: c39 :: c40 :: c41 :: c42 :: c43 :: c44 :: c45 :: c46 :: c47 :: c48 :: c49 :: c50 :: c51 :: c52 :: c53 :: c54 :: c55 :: c56 :: c57 :: c58 :: c59 :: c60 :: c61 :: c62 :: c63 :: c64 :: c65 :: c66 :: c67 :: c68 :: c69 :: c70 :: c71 :: c72 :: c73 :: c74 :: c75 :: c76 :: c77 :: c78 :: c79 :: c80 :: c81 :: c82 :: c83 :: c84 :: c85 :: c86 :: c87 :: c88 :: c89 :: c90 :: c91 :: c92 :: c93 :: c94 :: c95 :: c96 :: c97 :: c98 :: c99 :: c100 :: c101 :: c102 :: c103 :: c104 :: c105 :: c106 :: c107 :: c108 :: c109 :: c110 :: c111 :: c112 :: c113 :: c114 :: c115 :: c116 :: c117 :: c118 :: c119 :: c120 :: c121 :: c122 :: c123 :: c124 :: c125 :: c126 :: c127 :: c128 :: c129 :: c130 :: c131 :: c132 :: c133 :: c134 :: c135 :: c136 :: c137 :: c138 :: c139 :: c140 :: c141 :: c142 :: c143 :: c144 :: c145 :: c146 :: c147 :: c148 :: c149 :: c150 :: c151 :: c152 :: c153 :: c154 :: c155 :: c156 :: c157 :: c158 :: c159 :: c160 :: c161 :: c162 :: c163 :: c164 :: c165 :: c166 :: c167 :: c168 :: c169 :: c170 :: c171 :: c172 :: c173 :: c174 :: c175 :: c176 :: c177 :: c178 :: c179 :: c180 :: c181 :: c182 :: c183 :: c184 :: c185 :: c186 :: c187 :: c188 :: c189 :: c190 :: c191 :: c192 :: c193 :: c194 :: c195 :: c196 :: c197 :: c198 :: c199 :: c200 :: c201 :: c202 :: c203 :: c204 :: c205 :: c206 :: c207 :: c208 :: c209 :: c210 :: c211 :: c212 :: c213 :: c214 :: c215 :: c216 :: c217 :: c218 :: c219 :: c220 :: c221 :: c222 :: c223 :: c224 :: c225 :: c226 :: c227 :: c228 :: c229 :: c230 :: c231 :: c232 :: c233 :: c234 :: c235 :: c236 :: c237 :: c238 :: c239 :: c240 :: c241 :: c242 :: c243 :: c244 :: c245 :: c246 :: c247 :: c248 :: c249 :: c250 :: c251 :: c252 :: c253 :: c254 :: c255 :: c256 :: c257 :: c258 :: c259 :: c260 :: c261 :: c262 :: c263 :: c264 :: c265 :: c266 :: c267 :: c268 :: c269 :: c270 :: c271 :: c272 :: c273 :: c274 :: c275 :: c276 :: c277 :: c278 :: c279 :: c280 :: c281 :: c282 :: c283 :: c284 :: c285 :: c286 :: c287 :: c288 :: c289 :: c290 :: c291 :: c292 :: c293 :: c294 :: c295 :: c296 :: c297 :: c298 :: c299 :: c300 :: c301 :: c302 :: c303 :: c304 :: c305 :: c306 :: []), []⟩ W := by
  have HS := Lib.hid hS
  have HR := Lib.hid hR
  have HL := Lib.hid hl
  have hcu : 1 ≤ m.cu ∧ m.cu ≤ 1048576 := by unfold Dv.chk at hm; omega
  clear hS hR hl hm
  obtain ⟨nL, hnL⟩ : ∃ n, n = L.length := ⟨_, rfl⟩
  have HNL := Lib.hid hnL
  rw [← hnL] at hL ⊢
  clear hnL
  conv => arg 2; whnf
  go_loopw [24] (fun i wr => ∃ k : Nat, k ≤ nL ∧ i = .int .i64 k ∧ Hid (Below W.heap.size W wr)) (fun i _ => nL - (intOf i).toNat)
  case atStart => exact ⟨0, by omega, rfl, Lib.hid (Below.refl _ _)⟩
  case round =>
    obtain ⟨k, hk, rfl, HB⟩ := hrel
    by_cases hlt : k < nL
    · have S1 := Lib.hid (HS.out.below HB.out)
      obtain ⟨a1, rfl, z1, x0, x1, x2, x3⟩ := (HR.out.below HB.out) k (by rw [← HNL.out]; exact hlt)
      have hk' := HL.out k (by rw [← HNL.out]; exact hlt)
      unfold Dv.lim at hk'
      generalize L.getD k ⟨0, 0, 0, 0⟩ = r at *
      have k0 : (0 : Int) ≤ (k : Int) := by omega
      have kx : (k : Int) < (nL : Int) := by omega
      have kd : decide ((k : Int) < (nL : Int)) = true := decide_eq_true (by omega)
      have z1' : (a1.add (k * 4)).block < wr.heap.size := by rw [block_add]; exact z1
      have t1 : decide (m.cu < r.d) = false := decide_eq_false (by omega)
      have t2 : decide (r.d < -m.cu) = false := decide_eq_false (by omega)
      have t3 : decide (m.cu < r.q) = false := decide_eq_false (by omega)
      have t4 : decide (r.q < -m.cu) = false := decide_eq_false (by omega)
      have hw : IntKind.i64.wrap (-m.cu) = -m.cu := IntWalk.i64_in _ (by omega)
      have z_m := (S1.out.get 0 rfl).lt
      have c_m8 := (S1.out.get 0 rfl).cell 8 rfl
      go_wp2_with fail
      refine wp_region_past (by kernel_rfl) (by kernel_rfl) ?_
      repeat (go_big_quiet_step (fail))
      refine wpQuiet_nil ?_
      intro xx
      have HXX := Lib.hid xx.far
      generalize xx.w = w4 at HXX ⊢
      trace "cmp"
      go_wp2
      go_roundw
      case rel => exact ⟨k + 1, by omega, by go_num, Lib.hid (HB.out.trans (HXX.out.mono HB.out.size))⟩
      case measure => simp [intOf]; omega
    · go_wp2_with fail
      conv => arg 2; whnf
      go_wp2_with fail
      refine (known_c _).mono ?_
      rintro e w5 ⟨rfl, hb5⟩
      go_wp2
      go_ret
      exact ⟨rfl, (HS.out.below (HB.out.trans (hb5.mono HB.out.size))).1⟩
set_option maxHeartbeats 4000000 in
set_option maxRecDepth 1000000 in
theorem Holds_tail (m : Mot) (g9 : Nat) (A1 : Option Addr) (L : List Rot) (q1 : Nat) (w W : World) (c0 c1 c2 c3 c4 c5 c6 c7 c8 c10 c11 c12 c13 c14 c15 c16 c17 c19 c20 c21 c22 c23 c24 c25 c26 c27 c28 c29 c30 c31 c32 c33 c34 c35 c36 c37 c38 c39 c40 c41 c42 c43 c44 c45 c46 c47 c48 c49 c50 c51 c52 c53 c54 c55 c56 c57 c58 c59 c60 c61 c62 c63 c64 c65 c66 c67 c68 c69 c70 c71 c72 c73 c74 c75 c76 c77 c78 c79 c80 c81 c82 c83 c84 c85 c86 c87 c88 c89 c90 c91 c92 c93 c94 c95 c96 c97 c98 c99 c100 c101 c102 c103 c104 c105 c106 c107 c108 c109 c110 c111 c112 c113 c114 c115 c116 c117 c118 c119 c120 c121 c122 c123 c124 c125 c126 c127 c128 c129 c130 c131 c132 c133 c134 c135 c136 c137 c138 c139 c140 c141 c142 c143 c144 c145 c146 c147 c148 c149 c150 c151 c152 c153 c154 c155 c156 c157 c158 c159 c160 c161 c162 c163 c164 c165 c166 c167 c168 c169 c170 c171 c172 c173 c174 c175 c176 c177 c178 c179 c180 c181 c182 c183 c184 c185 c186 c187 c188 c189 c190 c191 c192 c193 c194 c195 c196 c197 c198 c199 c200 c201 c202 c203 c204 c205 c206 c207 c208 c209 c210 c211 c212 c213 c214 c215 c216 c217 c218 c219 c220 c221 c222 c223 c224 c225 c226 c227 c228 c229 c230 c231 c232 c233 c234 c235 c236 c237 c238 c239 c240 c241 c242 c243 c244 c245 c246 c247 c248 c249 c250 c251 c252 c253 c254 c255 c256 c257 c258 c259 c260 c261 c262 c263 c264 c265 c266 c267 c268 c269 c270 c271 c272 c273 c274 c275 c276 c277 c278 c279 c280 c281 c282 c283 c284 c285 c286 c287 c288 c289 c290 c291 c292 c293 c294 c295 c296 c297 c298 c299 c300 c301 c302 c303 c304 c305 c306 : Value)
    (hS : St w [(g9, 52, [.int .i64 m.r, .int .i64 m.ld, .int .i64 m.lq, .int .i64 m.fx, .int .i64 m.po, .int .i64 m.mi, .int .i64 m.sp, .int .i64 m.dr, .int .i64 m.cu, .int .i64 m.fa])] W) (hR : RoAt W A1 L) (hL : L.length ≤ 100) (hl : Dv.lims m L) (hm : Dv.chk m) :
    Code.wp Try.prog tail17 (bodyPost Try.prog Try.f17 (fun e w' => e = .returned (.bool true) ∧ Below w.heap.size w w')) ⟨List.toArray ((c0 : Value) :: c1 :: c2 :: c3 :: c4 :: c5 :: c6 :: c7 :: c8 :: .pointer (some ⟨g9, 0, none⟩) :: c10 :: c11 :: c12 :: c13 :: c14 :: c15 :: c16 :: c17 :: .slice A1 L.length q1 :: c19 :: c20 :: c21 :: c22 :: c23 :: c24 :: c25 :: c26 :: c27 :: c28 :: c29 :: c30 :: c31 :: c32 :: c33 :: c34 :: c35 :: c36 :: c37 :: c38 :: c39 :: c40 :: c41 :: c42 :: c43 :: c44 :: c45 :: c46 :: c47 :: c48 :: c49 :: c50 :: c51 :: c52 :: c53 :: c54 :: c55 :: c56 :: c57 :: c58 :: c59 :: c60 :: c61 :: c62 :: c63 :: c64 :: c65 :: c66 :: c67 :: c68 :: c69 :: c70 :: c71 :: c72 :: c73 :: c74 :: c75 :: c76 :: c77 :: c78 :: c79 :: c80 :: c81 :: c82 :: c83 :: c84 :: c85 :: c86 :: c87 :: c88 :: c89 :: c90 :: c91 :: c92 :: c93 :: c94 :: c95 :: c96 :: c97 :: c98 :: c99 :: c100 :: c101 :: c102 :: c103 :: c104 :: c105 :: c106 :: c107 :: c108 :: c109 :: c110 :: c111 :: c112 :: c113 :: c114 :: c115 :: c116 :: c117 :: c118 :: c119 :: c120 :: c121 :: c122 :: c123 :: c124 :: c125 :: c126 :: c127 :: c128 :: c129 :: c130 :: c131 :: c132 :: c133 :: c134 :: c135 :: c136 :: c137 :: c138 :: c139 :: c140 :: c141 :: c142 :: c143 :: c144 :: c145 :: c146 :: c147 :: c148 :: c149 :: c150 :: c151 :: c152 :: c153 :: c154 :: c155 :: c156 :: c157 :: c158 :: c159 :: c160 :: c161 :: c162 :: c163 :: c164 :: c165 :: c166 :: c167 :: c168 :: c169 :: c170 :: c171 :: c172 :: c173 :: c174 :: c175 :: c176 :: c177 :: c178 :: c179 :: c180 :: c181 :: c182 :: c183 :: c184 :: c185 :: c186 :: c187 :: c188 :: c189 :: c190 :: c191 :: c192 :: c193 :: c194 :: c195 :: c196 :: c197 :: c198 :: c199 :: c200 :: c201 :: c202 :: c203 :: c204 :: c205 :: c206 :: c207 :: c208 :: c209 :: c210 :: c211 :: c212 :: c213 :: c214 :: c215 :: c216 :: c217 :: c218 :: c219 :: c220 :: c221 :: c222 :: c223 :: c224 :: c225 :: c226 :: c227 :: c228 :: c229 :: c230 :: c231 :: c232 :: c233 :: c234 :: c235 :: c236 :: c237 :: c238 :: c239 :: c240 :: c241 :: c242 :: c243 :: c244 :: c245 :: c246 :: c247 :: c248 :: c249 :: c250 :: c251 :: c252 :: c253 :: c254 :: c255 :: c256 :: c257 :: c258 :: c259 :: c260 :: c261 :: c262 :: c263 :: c264 :: c265 :: c266 :: c267 :: c268 :: c269 :: c270 :: c271 :: c272 :: c273 :: c274 :: c275 :: c276 :: c277 :: c278 :: c279 :: c280 :: c281 :: c282 :: c283 :: c284 :: c285 :: c286 :: c287 :: c288 :: c289 :: c290 :: c291 :: c292 :: c293 :: c294 :: c295 :: c296 :: c297 :: c298 :: c299 :: c300 :: c301 :: c302 :: c303 :: c304 :: c305 :: c306 :: []), []⟩ W := by
  have HS := Lib.hid hS
  have HR := Lib.hid hR
  have HL := Lib.hid hl
  have HM := Lib.hid hm
  clear hS hR hl hm
  conv => arg 2; whnf
  go_wp2_with fail
  rename_i KK hKK
  refine wp_codeP (c' := loop17) (by kernel_rfl) ?_
  exact Holds_loop m g9 A1 L q1 w W _ _ _ _ _ _ _ _ _ _ _ _ _ _ _ _ _ _ _ _ _ _ _ _ _ _ _ _ _ _ _ _ _ _ _ _ _ _ _ _ _ _ _ _ _ _ _ _ _ _ _ _ _ _ _ _ _ _ _ _ _ _ _ _ _ _ _ _ _ _ _ _ _ _ _ _ _ _ _ _ _ _ _ _ _ _ _ _ _ _ _ _ _ _ _ _ _ _ _ _ _ _ _ _ _ _ _ _ _ _ _ _ _ _ _ _ _ _ _ _ _ _ _ _ _ _ _ _ _ _ _ _ _ _ _ _ _ _ _ _ _ _ _ _ _ _ _ _ _ _ _ _ _ _ _ _ _ _ _ _ _ _ _ _ _ _ _ _ _ _ _ _ _ _ _ _ _ _ _ _ _ _ _ _ _ _ _ _ _ _ _ _ _ _ _ _ _ _ _ _ _ _ _ _ _ _ _ _ _ _ _ _ _ _ _ _ _ _ _ _ _ _ _ _ _ _ _ _ _ _ _ _ _ _ _ _ _ _ _ _ _ _ _ _ _ _ _ _ _ _ _ _ _ _ _ _ _ _ _ _ _ _ _ _ _ _ _ _ _ _ _ _ _ _ _ _ _ _ _ _ _ _ _ _ _ _ _ _ _ _ _ _ _ _ _ _ _ _ _ _ _ _ _ _ KK HS.out HR.out hL HL.out HM.out (fun a w' h => hKK a w' (wp_codeP (by kernel_rfl) h))
end Go.Proofs.Ytcneohhfnnelgaa
namespace Go.Proofs.Ytcneohhfnnelgaa
open Go.RowKit
set_option linter.unusedVariables false
noncomputable def reg31 : Code := match mid17 with | .seq a _ => a | c => c
noncomputable def rest31 : Code := match mid17 with | .seq _ b => b | c => c
theorem floor_parts (x : Int) : (x.tmod 1000 < 0 → x.tdiv 1000 - 1 = x / 1000) ∧ (¬ x.tmod 1000 < 0 → x.tdiv 1000 = x / 1000) := by
  rcases Int.le_total 0 x with h | h
  · have h1 := Int.tmod_eq_emod_of_nonneg (b := 1000) h
    have h2 := Int.tdiv_eq_ediv_of_nonneg (b := 1000) h
    constructor
    · intro hl; omega
    · intro _; exact h2
  · obtain ⟨y, rfl⟩ : ∃ y, x = -y := ⟨-x, by omega⟩
    have e1 : (-y).tmod 1000 = -(y.tmod 1000) := Int.neg_tmod y 1000
    have e2 : (-y).tdiv 1000 = -(y.tdiv 1000) := Int.neg_tdiv y 1000
    have h1 := Int.tmod_eq_emod_of_nonneg (a := y) (b := 1000) (by omega)
    have h2 := Int.tdiv_eq_ediv_of_nonneg (a := y) (b := 1000) (by omega)
    rw [e1, e2, h1, h2]
    constructor <;> intro _ <;> omega
set_option maxHeartbeats 4000000 in
set_option maxRecDepth 1000000 in
theorem Holds_mid (m : Mot) (g3 g9 g22 r nF ck' : Nat) (aF : Addr) (er : Int) (t : Rot) (cs : List Value) (A1 : Option Addr) (L : List Rot) (nL q1 : Nat) (w W : World) (Ka K : Act → World → Prop) (c0 c1 c2 c4 c5 c6 c7 c8 c10 c11 c12 c13 c14 c15 c16 c17 c20 c21 c23 c24 c25 c26 c27 c28 c29 c30 c31 c32 c33 c34 c35 c36 c37 c38 c39 c40 c41 c42 c43 c44 c45 c46 c47 c48 c49 c50 c51 c52 c53 c54 c55 c56 c57 c58 c59 c60 c61 c62 c63 c64 c65 c66 c67 c68 c69 c70 c71 c72 c73 c74 c75 c76 c77 c78 c79 c80 c81 c82 c83 c84 c85 c86 c87 c88 c89 c90 c91 c92 c93 c94 c95 c96 c97 c98 c99 c100 c101 c102 c103 c104 c105 c106 c107 c108 c109 c110 c111 c112 c113 c114 c115 c116 c117 c118 c119 c120 c121 c122 c123 c124 c125 c126 c127 c128 c129 c130 c131 c132 c133 c134 c135 c136 c137 c138 c139 c140 c141 c142 c143 c144 c145 c146 c147 c148 c149 c150 c151 c152 c153 c154 c155 c156 c157 c158 c159 c160 c161 c162 c163 c164 c165 c166 c167 c168 c169 c170 c171 c172 c173 c174 c175 c176 c177 c178 c179 c180 c181 c182 c183 c184 c185 c186 c187 c188 c189 c190 c191 c192 c193 c194 c195 c196 c197 c198 c199 c200 c201 c202 c203 c204 c205 c206 c207 c208 c209 c210 c211 c212 c213 c214 c215 c216 c217 c218 c219 c220 c221 c222 c223 c224 c225 c226 c227 c228 c229 c230 c231 c232 c233 c234 c235 c236 c237 c238 c239 c240 c241 c242 c243 c244 c245 c246 c247 c248 c249 c250 c251 c252 c253 c254 c255 c256 c257 c258 c259 c260 c261 c262 c263 c264 c265 c266 c267 c268 c269 c270 c271 c272 c273 c274 c275 c276 c277 c278 c279 c280 c281 c282 c283 c284 c285 c286 c287 c288 c289 c290 c291 c292 c293 c294 c295 c296 c297 c298 c299 c300 c301 c302 c303 c304 c305 c306 : Value)
    (hS : St w [(g22, 57, [.int .i64 t.d, .int .i64 t.q, .int .i64 t.w, .int .i64 t.a]), (g9, 52, [.int .i64 m.r, .int .i64 m.ld, .int .i64 m.lq, .int .i64 m.fx, .int .i64 m.po, .int .i64 m.mi, .int .i64 m.sp, .int .i64 m.dr, .int .i64 m.cu, .int .i64 m.fa]), (g3, 81, cs)] W) (h22 : cs[22]? = some (.slice (some aF) nF ck')) (hr : r < nF) (hr2 : nF ≤ 100) (hf : W.cell? (aF.add r) = some (.int .i64 er)) (he : -16384 ≤ er ∧ er ≤ 16384) (ht : Dv.rotB t = true) (hm : Dv.chk m) (hup : upB m.fa [Dv.plW t er] = false)
    (hR : RoAt W A1 L) (hL : L.length ≤ 100) (hl : Dv.lims m L) (hnl : L.length = nL)
    (hK : ∀ (a : Act) (w' : World), Code.wp Try.prog tail17 (bodyPost Try.prog Try.f17 (fun e w' => e = .returned (.bool true) ∧ Below w.heap.size w w')) a w' → K a w')
    (hKa : ∀ (a : Act) (w' : World), Code.wp Try.prog rest31 (Exit.then K (bodyPost Try.prog Try.f17 (fun e w' => e = .returned (.bool true) ∧ Below w.heap.size w w'))) a w' → Ka a w') :
    Code.wp Try.prog reg31 (Exit.then Ka (Exit.then K (bodyPost Try.prog Try.f17 (fun e w' => e = .returned (.bool true) ∧ Below w.heap.size w w')))) ⟨List.toArray ((c0 : Value) :: c1 :: c2 :: .pointer (some ⟨g3, 0, none⟩) :: c4 :: c5 :: c6 :: c7 :: c8 :: .pointer (some ⟨g9, 0, none⟩) :: c10 :: c11 :: c12 :: c13 :: c14 :: c15 :: c16 :: c17 :: .slice A1 nL q1 :: .int .i64 r :: c20 :: c21 :: .pointer (some ⟨g22, 0, none⟩) :: c23 :: c24 :: c25 :: c26 :: c27 :: c28 :: c29 :: c30 :: c31 :: c32 :: c33 :: c34 :: c35 :: c36 :: c37 :: c38 :: c39 :: c40 :: c41 :: c42 :: c43 :: c44 :: c45 :: c46 :: c47 :: c48 :: c49 :: c50 :: c51 :: c52 :: c53 :: c54 :: c55 :: c56 :: c57 :: c58 :: c59 :: c60 :: c61 :: c62 :: c63 :: c64 :: c65 :: c66 :: c67 :: c68 :: c69 :: c70 :: c71 :: c72 :: c73 :: c74 :: c75 :: c76 :: c77 :: c78 :: c79 :: c80 :: c81 :: c82 :: c83 :: c84 :: c85 :: c86 :: c87 :: c88 :: c89 :: c90 :: c91 :: c92 :: c93 :: c94 :: c95 :: c96 :: c97 :: c98 :: c99 :: c100 :: c101 :: c102 :: c103 :: c104 :: c105 :: c106 :: c107 :: c108 :: c109 :: c110 :: c111 :: c112 :: c113 :: c114 :: c115 :: c116 :: c117 :: c118 :: c119 :: c120 :: c121 :: c122 :: c123 :: c124 :: c125 :: c126 :: c127 :: c128 :: c129 :: c130 :: c131 :: c132 :: c133 :: c134 :: c135 :: c136 :: c137 :: c138 :: c139 :: c140 :: c141 :: c142 :: c143 :: c144 :: c145 :: c146 :: c147 :: c148 :: c149 :: c150 :: c151 :: c152 :: c153 :: c154 :: c155 :: c156 :: c157 :: c158 :: c159 :: c160 :: c161 :: c162 :: c163 :: c164 :: c165 :: c166 :: c167 :: c168 :: c169 :: c170 :: c171 :: c172 :: c173 :: c174 :: c175 :: c176 :: c177 :: c178 :: c179 :: c180 :: c181 :: c182 :: c183 :: c184 :: c185 :: c186 :: c187 :: c188 :: c189 :: c190 :: c191 :: c192 :: c193 :: c194 :: c195 :: c196 :: c197 :: c198 :: c199 :: c200 :: c201 :: c202 :: c203 :: c204 :: c205 :: c206 :: c207 :: c208 :: c209 :: c210 :: c211 :: c212 :: c213 :: c214 :: c215 :: c216 :: c217 :: c218 :: c219 :: c220 :: c221 :: c222 :: c223 :: c224 :: c225 :: c226 :: c227 :: c228 :: c229 :: c230 :: c231 :: c232 :: c233 :: c234 :: c235 :: c236 :: c237 :: c238 :: c239 :: c240 :: c241 :: c242 :: c243 :: c244 :: c245 :: c246 :: c247 :: c248 :: c249 :: c250 :: c251 :: c252 :: c253 :: c254 :: c255 :: c256 :: c257 :: c258 :: c259 :: c260 :: c261 :: c262 :: c263 :: c264 :: c265 :: c266 :: c267 :: c268 :: c269 :: c270 :: c271 :: c272 :: c273 :: c274 :: c275 :: c276 :: c277 :: c278 :: c279 :: c280 :: c281 :: c282 :: c283 :: c284 :: c285 :: c286 :: c287 :: c288 :: c289 :: c290 :: c291 :: c292 :: c293 :: c294 :: c295 :: c296 :: c297 :: c298 :: c299 :: c300 :: c301 :: c302 :: c303 :: c304 :: c305 :: c306 :: []), []⟩ W := by
  subst hnl
  have HS := Lib.hid hS
  have HR := Lib.hid hR
  have HL := Lib.hid hl
  have HM := Lib.hid hm
  have c_t2 := (HS.out.get 0 rfl).cell 2 rfl
  have z_t := (HS.out.get 0 rfl).lt
  have c_m9 := (HS.out.get 1 rfl).cell 9 rfl
  have z_m := (HS.out.get 1 rfl).lt
  have c_a22 := (HS.out.get 2 rfl).cell 22 h22
  have z_a := (HS.out.get 2 rfl).lt
  have zf := World.block_lt_of_cell? _ _ hf
  have hrw := (Dv.rotB_iff.1 ht).2.2.1
  have hfl := floor_parts t.w
  have hfa : 0 ≤ m.fa ∧ m.fa ≤ 16384 := by unfold Dv.chk at hm; omega
  have hv : t.w / 1000 - er < -m.fa ∨ m.fa < t.w / 1000 - er := by
    have h : ¬ (-m.fa ≤ Dv.plW t er ∧ Dv.plW t er ≤ m.fa) := fun h => by rw [upB1.2 h] at hup; cases hup
    unfold Dv.plW at h
    omega
  have hqb : -16384 ≤ t.w / 1000 ∧ t.w / 1000 ≤ 16384 := by omega
  have hSt : St w [(g9, 52, [.int .i64 m.r, .int .i64 m.ld, .int .i64 m.lq, .int .i64 m.fx, .int .i64 m.po, .int .i64 m.mi, .int .i64 m.sp, .int .i64 m.dr, .int .i64 m.cu, .int .i64 m.fa])] W := HS.out.tail.pick _ (fun x hx => by simp only [List.mem_singleton] at hx; simp [hx]) (by simp)
  have HSt := Lib.hid hSt
  clear hS hR hl hm hup ht hSt
  have k0 : (0 : Int) ≤ (r : Int) := by omega
  have kx : (r : Int) < (nF : Int) := by omega
  have HQ := Lib.hid hqb
  by_cases hneg : t.w.tmod 1000 < 0
  · have e := hfl.1 hneg
    have dn : decide (t.w.tmod 1000 < 0) = true := decide_eq_true hneg
    have q0 : -16383 ≤ t.w.tdiv 1000 ∧ t.w.tdiv 1000 ≤ 16385 := by omega
    rcases hv with hv | hv
    · have v1 : t.w.tdiv 1000 - 1 - er < -m.fa := by omega
      have v2 : decide (t.w.tdiv 1000 - 1 - er ≤ m.fa) = true := decide_eq_true (by omega)
      have v3 : decide (-m.fa ≤ t.w.tdiv 1000 - 1 - er) = false := decide_eq_false (by omega)
      clear hv hfl e hqb
      conv => arg 2; whnf
      go_wp2
      conv => arg 2; whnf
      go_wp2
      exact Holds_tail m g9 A1 L q1 w _ _ _ _ _ _ _ _ _ _ _ _ _ _ _ _ _ _ _ _ _ _ _ _ _ _ _ _ _ _ _ _ _ _ _ _ _ _ _ _ _ _ _ _ _ _ _ _ _ _ _ _ _ _ _ _ _ _ _ _ _ _ _ _ _ _ _ _ _ _ _ _ _ _ _ _ _ _ _ _ _ _ _ _ _ _ _ _ _ _ _ _ _ _ _ _ _ _ _ _ _ _ _ _ _ _ _ _ _ _ _ _ _ _ _ _ _ _ _ _ _ _ _ _ _ _ _ _ _ _ _ _ _ _ _ _ _ _ _ _ _ _ _ _ _ _ _ _ _ _ _ _ _ _ _ _ _ _ _ _ _ _ _ _ _ _ _ _ _ _ _ _ _ _ _ _ _ _ _ _ _ _ _ _ _ _ _ _ _ _ _ _ _ _ _ _ _ _ _ _ _ _ _ _ _ _ _ _ _ _ _ _ _ _ _ _ _ _ _ _ _ _ _ _ _ _ _ _ _ _ _ _ _ _ _ _ _ _ _ _ _ _ _ _ _ _ _ _ _ _ _ _ _ _ _ _ _ _ _ _ _ _ _ _ _ _ _ _ _ _ _ _ _ _ _ _ _ _ _ _ _ _ _ _ _ _ _ _ _ _ _ _ _ _ _ _ _ _ _ _ _ _ _ _ _ _ HSt.out HR.out hL HL.out HM.out
    · have v1 : m.fa < t.w.tdiv 1000 - 1 - er := by omega
      have v2 : decide (t.w.tdiv 1000 - 1 - er ≤ m.fa) = false := decide_eq_false (by omega)
      clear hv hfl e hqb
      conv => arg 2; whnf
      go_wp2
      conv => arg 2; whnf
      go_wp2
      exact Holds_tail m g9 A1 L q1 w _ _ _ _ _ _ _ _ _ _ _ _ _ _ _ _ _ _ _ _ _ _ _ _ _ _ _ _ _ _ _ _ _ _ _ _ _ _ _ _ _ _ _ _ _ _ _ _ _ _ _ _ _ _ _ _ _ _ _ _ _ _ _ _ _ _ _ _ _ _ _ _ _ _ _ _ _ _ _ _ _ _ _ _ _ _ _ _ _ _ _ _ _ _ _ _ _ _ _ _ _ _ _ _ _ _ _ _ _ _ _ _ _ _ _ _ _ _ _ _ _ _ _ _ _ _ _ _ _ _ _ _ _ _ _ _ _ _ _ _ _ _ _ _ _ _ _ _ _ _ _ _ _ _ _ _ _ _ _ _ _ _ _ _ _ _ _ _ _ _ _ _ _ _ _ _ _ _ _ _ _ _ _ _ _ _ _ _ _ _ _ _ _ _ _ _ _ _ _ _ _ _ _ _ _ _ _ _ _ _ _ _ _ _ _ _ _ _ _ _ _ _ _ _ _ _ _ _ _ _ _ _ _ _ _ _ _ _ _ _ _ _ _ _ _ _ _ _ _ _ _ _ _ _ _ _ _ _ _ _ _ _ _ _ _ _ _ _ _ _ _ _ _ _ _ _ _ _ _ _ _ _ _ _ _ _ _ _ _ _ _ _ _ _ _ _ _ _ _ _ _ _ _ _ _ _ HSt.out HR.out hL HL.out HM.out
  · have e := hfl.2 hneg
    have dn : decide (t.w.tmod 1000 < 0) = false := decide_eq_false hneg
    have q0 : -16384 ≤ t.w.tdiv 1000 ∧ t.w.tdiv 1000 ≤ 16384 := by omega
    rcases hv with hv | hv
    · have v1 : t.w.tdiv 1000 - er < -m.fa := by omega
      have v2 : decide (t.w.tdiv 1000 - er ≤ m.fa) = true := decide_eq_true (by omega)
      have v3 : decide (-m.fa ≤ t.w.tdiv 1000 - er) = false := decide_eq_false (by omega)
      clear hv hfl e hqb
      conv => arg 2; whnf
      go_wp2
      conv => arg 2; whnf
      go_wp2
      exact Holds_tail m g9 A1 L q1 w _ _ _ _ _ _ _ _ _ _ _ _ _ _ _ _ _ _ _ _ _ _ _ _ _ _ _ _ _ _ _ _ _ _ _ _ _ _ _ _ _ _ _ _ _ _ _ _ _ _ _ _ _ _ _ _ _ _ _ _ _ _ _ _ _ _ _ _ _ _ _ _ _ _ _ _ _ _ _ _ _ _ _ _ _ _ _ _ _ _ _ _ _ _ _ _ _ _ _ _ _ _ _ _ _ _ _ _ _ _ _ _ _ _ _ _ _ _ _ _ _ _ _ _ _ _ _ _ _ _ _ _ _ _ _ _ _ _ _ _ _ _ _ _ _ _ _ _ _ _ _ _ _ _ _ _ _ _ _ _ _ _ _ _ _ _ _ _ _ _ _ _ _ _ _ _ _ _ _ _ _ _ _ _ _ _ _ _ _ _ _ _ _ _ _ _ _ _ _ _ _ _ _ _ _ _ _ _ _ _ _ _ _ _ _ _ _ _ _ _ _ _ _ _ _ _ _ _ _ _ _ _ _ _ _ _ _ _ _ _ _ _ _ _ _ _ _ _ _ _ _ _ _ _ _ _ _ _ _ _ _ _ _ _ _ _ _ _ _ _ _ _ _ _ _ _ _ _ _ _ _ _ _ _ _ _ _ _ _ _ _ _ _ _ _ _ _ _ _ _ _ _ _ _ _ _ HSt.out HR.out hL HL.out HM.out
    · have v1 : m.fa < t.w.tdiv 1000 - er := by omega
      have v2 : decide (t.w.tdiv 1000 - er ≤ m.fa) = false := decide_eq_false (by omega)
      clear hv hfl e hqb
      conv => arg 2; whnf
      go_wp2
      conv => arg 2; whnf
      go_wp2
      exact Holds_tail m g9 A1 L q1 w _ _ _ _ _ _ _ _ _ _ _ _ _ _ _ _ _ _ _ _ _ _ _ _ _ _ _ _ _ _ _ _ _ _ _ _ _ _ _ _ _ _ _ _ _ _ _ _ _ _ _ _ _ _ _ _ _ _ _ _ _ _ _ _ _ _ _ _ _ _ _ _ _ _ _ _ _ _ _ _ _ _ _ _ _ _ _ _ _ _ _ _ _ _ _ _ _ _ _ _ _ _ _ _ _ _ _ _ _ _ _ _ _ _ _ _ _ _ _ _ _ _ _ _ _ _ _ _ _ _ _ _ _ _ _ _ _ _ _ _ _ _ _ _ _ _ _ _ _ _ _ _ _ _ _ _ _ _ _ _ _ _ _ _ _ _ _ _ _ _ _ _ _ _ _ _ _ _ _ _ _ _ _ _ _ _ _ _ _ _ _ _ _ _ _ _ _ _ _ _ _ _ _ _ _ _ _ _ _ _ _ _ _ _ _ _ _ _ _ _ _ _ _ _ _ _ _ _ _ _ _ _ _ _ _ _ _ _ _ _ _ _ _ _ _ _ _ _ _ _ _ _ _ _ _ _ _ _ _ _ _ _ _ _ _ _ _ _ _ _ _ _ _ _ _ _ _ _ _ _ _ _ _ _ _ _ _ _ _ _ _ _ _ _ _ _ _ _ _ _ _ _ _ _ _ _ HSt.out HR.out hL HL.out HM.out
end Go.Proofs.Ytcneohhfnnelgaa
namespace Go.Proofs.Ytcneohhfnnelgaa
open Go.RowKit
set_option linter.unusedVariables false

/-- a slice of uint64 that came in -/
def U64At (w : World) (A : Option Addr) (us : List Int) : Prop := ∀ i, i < us.length → (0 ≤ us.getD i 0 ∧ us.getD i 0 < 18446744073709551616) ∧ ∃ ad, A = some ad ∧ w.cell? (ad.add i) = some (.int .u64 (us.getD i 0))
theorem U64At.below {w w1 : World} {A : Option Addr} {xs : List Int} (h : U64At w A xs) (hb : Below w.heap.size w w1) : U64At w1 A xs := by
  intro i hi
  obtain ⟨hr, ad, e, hc⟩ := h i hi
  exact ⟨hr, ad, e, (hb.cell (World.block_lt_of_cell? w _ hc)).trans hc⟩
theorem U64At.bd {w : World} {A : Option Addr} {us : List Int} (h : U64At w A us) (k : Nat) : 0 ≤ us.getD k 0 ∧ us.getD k 0 < 18446744073709551616 := by
  by_cases hk : k < us.length
  · exact (h k hk).1
  · rw [List.getD_eq_getElem?_getD, List.getElem?_eq_none (by omega)]
    simp
theorem pick_c (A : Option Addr) (us : List Int) (cap k : Nat) (w : World) (h : U64At w A us) :
    Calls Try.prog 63 #[.slice A us.length cap, .int .i64 (k : Int)] w fun e w' => e = .returned (.int .u64 (us.getD k 0)) ∧ w = w' := by
  by_cases hk : k < us.length
  · obtain ⟨_, ad, rfl, hc⟩ := h k hk
    have HC := Lib.hid h
    clear h HC
    generalize us.getD k 0 = x at hc ⊢
    go_enter Try.func63, Try.ntmps63
    go_wp2
    go_ret
    exact ⟨rfl, rfl⟩
  · have E : Hid (us.getD k 0 = 0) := Lib.hid (by rw [List.getD_eq_getElem?_getD, List.getElem?_eq_none (by omega)]; rfl)
    clear h
    go_enter Try.func63, Try.ntmps63
    go_wp2
    go_ret
    exact ⟨by rw [E.out]; rfl, rfl⟩

/-- a number of a span -/
def InP (lo hi : Int) (w : World) (e : Ending) (w' : World) : Prop := ∃ x : Int, e = .returned (.int .i64 x) ∧ lo ≤ x ∧ x ≤ hi ∧ Below w.heap.size w w'
theorem inside_one (lo hi : Int) (w : World) :
    Calls Try.prog 62 #[.agg #[.int .i64 lo, .int .i64 hi], .int .u64 1] w fun e w' => e = .returned (.int .i64 hi) ∧ Below w.heap.size w w' := by
  go_enter Try.func62, Try.ntmps62
  go_wp2
  go_ret
  exact ⟨rfl, (Below.refl _ _).alloc (Nat.le_refl _) _⟩
set_option maxHeartbeats 1000000 in
theorem inside_n (lo hi p : Int) (w : World) (h : lo ≤ hi) (h1 : -2305843009213693952 ≤ lo) (h2 : hi ≤ 2305843009213693952) (hp0 : 0 ≤ p) (hp1 : p < 18446744073709551616) (hp : (p == 1) = false) :
    Calls Try.prog 62 #[.agg #[.int .i64 lo, .int .i64 hi], .int .u64 p] w fun e w' => e = .returned (.int .i64 (lo + p % (hi - lo + 1))) ∧ Below w.heap.size w w' := by
  have hn : 0 < hi - lo + 1 := by omega
  have hm0 := Int.emod_nonneg p (show hi - lo + 1 ≠ 0 by omega)
  have hm1 := Int.emod_lt_of_pos p hn
  have hd : decide (hi < lo) = false := decide_eq_false (by omega)
  have hz : (hi - lo + 1 == 0) = false := by simp; omega
  have B1 := Blk.new' w #[.int .i64 lo, .int .i64 hi] 29
  have HB := Lib.hid (show Below w.heap.size w (w.alloc (.cells #[.int .i64 lo, .int .i64 hi] 29)) from (Below.refl _ _).alloc (Nat.le_refl _) _)
  have B2 := Lib.hid B1
  clear B1
  go_enter Try.func62, Try.ntmps62
  go_wp2_with fail
  have c0 := B2.out.cell 0 rfl
  have z0 := B2.out.lt
  refine wp_region_past (by kernel_rfl) (by kernel_rfl) ?_
  repeat (go_big_quiet_step (fail))
  refine wpQuiet_nil ?_
  intro y
  have HB2 := Lib.hid (HB.out.trans (y.far.mono HB.out.size))
  clear c0 z0
  generalize y.w = w4 at HB2 ⊢
  go_wp2
  go_ret
  exact ⟨rfl, HB2.out⟩
theorem inside_c (lo hi p : Int) (w : World) (h : lo ≤ hi) (h1 : -2305843009213693952 ≤ lo) (h2 : hi ≤ 2305843009213693952) (hp : 0 ≤ p ∧ p < 18446744073709551616) :
    Calls Try.prog 62 #[.agg #[.int .i64 lo, .int .i64 hi], .int .u64 p] w (InP lo hi w) := by
  by_cases e : p = 1
  · subst e
    exact (inside_one lo hi w).mono fun _ _ ⟨k1, k2⟩ => ⟨hi, k1, h, Int.le_refl _, k2⟩
  · have hm0 := Int.emod_nonneg p (show hi - lo + 1 ≠ 0 by omega)
    have hm1 := Int.emod_lt_of_pos p (show 0 < hi - lo + 1 by omega)
    exact (inside_n lo hi p w h h1 h2 hp.1 hp.2 (by simpa using e)).mono fun _ _ ⟨k1, k2⟩ => ⟨_, k1, by omega, by omega, k2⟩
end Go.Proofs.Ytcneohhfnnelgaa
namespace Go.Proofs.Ytcneohhfnnelgaa
open Go.RowKit
set_option linter.unusedVariables false
namespace Dv
def ins (lo hi p : Int) : Int := if p = 1 then hi else lo + p % (hi - lo + 1)
theorem ins_in {lo hi p : Int} (h : lo ≤ hi) : lo ≤ ins lo hi p ∧ ins lo hi p ≤ hi := by
  unfold ins
  split
  · omega
  · have hm0 := Int.emod_nonneg p (show hi - lo + 1 ≠ 0 by omega)
    have hm1 := Int.emod_lt_of_pos p (show 0 < hi - lo + 1 by omega)
    omega
end Dv
theorem inside_e (lo hi p : Int) (w : World) (h : lo ≤ hi) (h1 : -2305843009213693952 ≤ lo) (h2 : hi ≤ 2305843009213693952) (hp : 0 ≤ p ∧ p < 18446744073709551616) :
    Calls Try.prog 62 #[.agg #[.int .i64 lo, .int .i64 hi], .int .u64 p] w fun e w' => e = .returned (.int .i64 (Dv.ins lo hi p)) ∧ Below w.heap.size w w' := by
  by_cases e : p = 1
  · subst e
    exact (inside_one lo hi w).mono fun _ _ ⟨k1, k2⟩ => ⟨by rw [k1]; simp [Dv.ins], k2⟩
  · exact (inside_n lo hi p w h h1 h2 hp.1 hp.2 (by simpa using e)).mono fun _ _ ⟨k1, k2⟩ => ⟨by rw [k1]; simp [Dv.ins, e], k2⟩
/-- the voltages that are allowed are no great numbers -/
theorem al_num {x l mi b : Int} (hm : 1 ≤ mi) (hx : -2097153 ≤ x ∧ x ≤ 2097153) (hl : -4194304 ≤ l ∧ l ≤ 4194304) (hb : -1152921504606846976 ≤ b ∧ b ≤ 1152921504606846976) :
    (-2305843009213693952 ≤ -(x * l / mi) - b) ∧ ((x * l - 1) / mi - b ≤ 2305843009213693952) := by
  have h := Dv.mul_bd 2097153 4194304 hx hl
  have e1 := Dv.ediv_bd (x * l) mi hm 1000000000000000 (by omega) (by omega) (by omega)
  have e2 := Dv.ediv_bd (x * l - 1) mi hm 1000000000000000 (by omega) (by omega) (by omega)
  omega
theorem safe_bd {m : Mot} {l : List Sp} {d q s : Int} (h : Dv.lmE m l = 0) (hd : -m.cu ≤ d ∧ d ≤ m.cu) (hq : -m.cu ≤ q ∧ q ≤ m.cu) (hs1 : -m.fa ≤ s) (hs2 : s ≤ m.fa) :
    (-2305843009213693952 ≤ Dv.aLo m l d q s) ∧ (Dv.aHi m l d q s ≤ 2305843009213693952) ∧ (-2305843009213693952 ≤ Dv.bLo m l d q s) ∧ (Dv.bHi m l d q s ≤ 2305843009213693952) := by
  obtain ⟨hm, _, hlo, hhi, h1, h2, _⟩ := Dv.lm_parts h
  have hm' := hm
  have hlo' := hlo
  unfold Dv.chk at hm hlo
  obtain ⟨b1, b2, b3, b4⟩ := Dv.inn_bd (Dv.lmLo m l) (Dv.lmHi m l) d q (s + (Dv.lmS l).lo) (s + (Dv.lmS l).hi) hlo' hhi (by omega) (by omega) (by omega) (by omega)
  have a1 := al_num (x := m.cu + d) (l := (Dv.lmLo m l).ld) (mi := m.mi) (by omega) (by omega) (by omega) b1
  have a2 := al_num (x := m.cu - d + 1) (l := (Dv.lmLo m l).ld) (mi := m.mi) (by omega) (by omega) (by omega) b2
  have a3 := al_num (x := m.cu + q) (l := (Dv.lmLo m l).lq) (mi := m.mi) (by omega) (by omega) (by omega) b3
  have a4 := al_num (x := m.cu - q + 1) (l := (Dv.lmLo m l).lq) (mi := m.mi) (by omega) (by omega) (by omega) b4
  unfold Dv.aLo Dv.aHi Dv.bLo Dv.bHi Dv.alLo Dv.alHi
  exact ⟨a1.1, a2.2, a3.1, a4.2⟩
theorem St.upd {w W : World} {l : List BlkRow} (h : St w l W) (i : Nat) {g : Nat} {t : TypeId} {cs : List Value} (hx : l[i]? = some (g, t, cs)) (hg : w.heap.size ≤ g) (vs : List Value) (hl : cs.length = vs.length) : St w (l.set i (g, t, vs)) (setAll W g 0 vs) := by
  have hil := (List.getElem?_eq_some_iff.1 hx).1
  refine ⟨setAll_below hg vs 0 _ h.1, ?_, ?_⟩
  · intro x hx'
    obtain ⟨j, hj⟩ := List.getElem?_of_mem hx'
    by_cases hij : i = j
    · subst hij
      rw [List.getElem?_set_self hil] at hj
      cases hj
      exact setAll_blk vs cs [] W (h.get i hx) hl
    · rw [List.getElem?_set_ne hij] at hj
      obtain ⟨gx, tx, cx⟩ := x
      exact setAll_ne (h.ne j i hj hx (fun e => hij e.symm)) vs 0 W (h.get j hj)
  · have : (l.set i (g, t, vs)).map Prod.fst = l.map Prod.fst := by
      rw [List.map_set]
      apply List.ext_getElem?
      intro k
      by_cases hik : i = k
      · subst hik
        rw [List.getElem?_set_self (by simpa using hil), List.getElem?_map, hx]
        rfl
      · rw [List.getElem?_set_ne hik]
    rw [this]
    exact h.2.2
end Go.Proofs.Ytcneohhfnnelgaa
namespace Go.Proofs.Ytcneohhfnnelgaa
open Go Go.RowKit
set_option linter.unusedVariables false
def thenB (ops : Array Oper) (k n : Nat) : Bool :=
  Region.noSelect ops && decide (k < ops.size) && dstsOk n (ops.toList.take k) &&
  (List.range ops.size).all (fun i => match ops[i]? with | some o => o.after.all (fun e => !Region.binds .any e || decide (e.on < i)) | none => false) &&
  (List.range ops.size).all (fun t => decide (t < k) || ((coverB ops ops.size (depsB ops t (List.replicate ops.size false))).take k).all (fun b => b)) &&
  (List.range k).all (fun i => (List.range k).all fun j => match ops[i]?, ops[j]? with
    | some oi, some oj => (match oj.dst with | some d => !(oi.looksAt ops).contains d || (decide (j < i) && waitsB1 .any ops i j) | none => false)
    | _, _ => false) &&
  decide (Region.ready .any ops (Array.replicate k true ++ Array.replicate (ops.size - k) false) = [k]) &&
  Region.lexFrom .any ops (ops.size - (k + 1)) (k + 1) ((Array.replicate k true ++ Array.replicate (ops.size - k) false).setIfInBounds k true) &&
  (match ops[k]? with | some o => o.guard.isNone | none => false)
section
variable {P : Program} {Q : Exit → Act → World → Prop} {W : World} {a0 af : Act} {l : List Oper} {k : Nat}
theorem wp_region_then {id : Nat} (k : Nat) (ok : Oper) (af : Act) (hok : l[k]? = some ok) (hm : P.follows .mixedOrders = true)
    (hB : thenB l.toArray k a0.tmps.size = true)
    (hwalk : ∀ V : World, Below W.heap.size W V → wpQuiet P l.toArray (fun w' => ∃ x : Past V, w' = x.w) (fun a' => a' = af) (l.take k) a0)
    (htail : ∀ (w' : World), Below W.heap.size W w' → ok.wp P af w' (fun a w2 => wpQuiet P l.toArray (fun w3 => ∃ x : Past w2, w3 = x.w) (fun a' => ∀ x : Past w2, Q .normal a' x.w) (l.drop (k + 1)) a) Q) :
    (Code.region id l.toArray true).wp P Q a0 W := by
  unfold thenB at hB
  rw [Bool.and_eq_true, Bool.and_eq_true, Bool.and_eq_true, Bool.and_eq_true, Bool.and_eq_true, Bool.and_eq_true, Bool.and_eq_true, Bool.and_eq_true] at hB
  obtain ⟨⟨⟨⟨⟨⟨⟨⟨hsel, hks⟩, hdst⟩, hback⟩, htl⟩, hdep⟩, hrdy⟩, hlex⟩, hgk⟩ := hB
  simp only [decide_eq_true_eq, List.all_eq_true, List.mem_range, Bool.or_eq_true] at hks hback htl hdep hrdy
  have hokA : l.toArray[k]? = some ok := by simpa using hok
  rw [hokA] at hgk
  have hsz : l.toArray.size = l.length := by simp
  have hkl : k < l.length := by rw [← hsz]; exact hks
  have hdk : dstsOk a0.tmps.size (l.take k) = true := hdst
  have hall : ∀ V : World, Below W.heap.size W V → AllIn P l.toArray (fun w' => ∃ x : Past V, w' = x.w) af (l.take k) a0 := fun V hV => allIn_of hdk (hwalk V hV)
  have hA0 := hall W (Below.refl _ _)
  have hget : ∀ i, i < k → (l.take k)[i]? = l[i]? := fun i hi => by rw [List.getElem?_take]; simp [hi]
  have hafs : ∀ t, (∀ j o, j < k → l[j]? = some o → o.dst ≠ some t) → slotOf af t = slotOf a0 t := fun t ht => hA0.keep.2.2 t (fun o ho => by
    obtain ⟨j, hj⟩ := List.getElem?_of_mem ho
    rw [List.getElem?_take] at hj
    split at hj
    · exact ht j o (by assumption) hj
    · cases hj)
  have hback' : ∀ i o, l[i]? = some o → ∀ e ∈ o.after, Region.binds .any e = true → e.on < i := by
    intro i o hi e he hb
    have hil : i < l.length := (List.getElem?_eq_some_iff.1 hi).1
    have h1 := hback i (by rw [hsz]; exact hil)
    have hi' : l.toArray[i]? = some o := by simpa using hi
    rw [hi'] at h1
    have h2 := Array.all_eq_true_iff_forall_mem.1 h1 e he
    simpa [hb] using h2
  have hdep' : ∀ i o j oj d, i < k → l[i]? = some o → j < k → l[j]? = some oj → oj.dst = some d → d ∈ o.looksAt l.toArray → j < i ∧ waitsB1 .any l.toArray i j = true := by
    intro i o j oj d hi ho hj hoj hd hmem
    have h1 := hdep i hi j (by omega)
    have ho' : l.toArray[i]? = some o := by simpa using ho
    have hoj' : l.toArray[j]? = some oj := by simpa using hoj
    rw [ho', hoj'] at h1
    simp only [hd] at h1
    have hc : (o.looksAt l.toArray).contains d = true := by simpa using hmem
    rw [hc] at h1
    simpa using h1
  have dlt : ∀ i o, i < k → l[i]? = some o → ∃ d, o.dst = some d ∧ d < a0.tmps.size := fun i o hi ho => dsts_lt _ _ i o hdk (by rw [hget i (by omega)]; exact ho)
  have dne : ∀ i j o oj t, i < k → j < k → l[i]? = some o → l[j]? = some oj → i ≠ j → oj.dst = some t → o.dst ≠ some t := fun i j o oj t hi hj ho hoj hne hd => dsts_ne _ _ j i oj o t hdk (by rw [hget j (by omega)]; exact hoj) (by rw [hget i (by omega)]; exact ho) (Ne.symm hne) hd
  have fin : ∀ (listed : Array Bool) (a : Act) (w : World), Mid0 P l.toArray k a0 af W listed a w → (∀ i, i < k → listed.getD i false = true) → ∀ fuel, unl listed = fuel → wpAny P .any l.toArray Q fuel listed a w := by
    intro listed a w m hdone fuel hu
    have hLH : listed = Array.replicate k true ++ Array.replicate (l.toArray.size - k) false := by
      apply Array.ext
      · simp [m.size]; omega
      · intro i h1 h2
        rcases Nat.lt_or_ge i k with h' | h
        rotate_left 1
        · have := m.tail i h (by rw [← m.size]; exact h1)
          rw [Array.getElem_append_right (by simp; omega)]
          simpa [h1] using this
        · have := hdone i h'
          rw [Array.getElem_append_left (by simp; omega)]
          simpa [h1] using this
    have hae : a = af := by
      have hs0 := hA0.keep
      refine act_ext ?_ ?_ ?_
      · rw [m.tsize, hs0.1]
      · rw [m.defers, hs0.2.1]
      · intro t
        by_cases hex : ∃ j o, j < k ∧ l[j]? = some o ∧ o.dst = some t
        · obtain ⟨j, o, hj, ho, hd⟩ := hex
          exact m.put j o t hj (by simpa using ho) hd (hdone j hj)
        · rw [m.same t (fun j o hj ho _ hd => hex ⟨j, o, hj, by simpa using ho, hd⟩), hafs t (fun j o hj ho hd => hex ⟨j, o, hj, ho, hd⟩)]
    have hfu : fuel = (l.drop k).length := by
      rw [← hu, hLH, unl_done]
      simp
    rw [hfu, hae, show (l.drop k).length = (l.drop (k + 1)).length + 1 by simp; omega, hLH]
    refine ⟨fun h0 => (by rw [hrdy] at h0; cases h0), fun i hi => ?_⟩
    rw [hrdy] at hi
    obtain rfl : i = k := by simpa using hi
    unfold wpOp
    rw [hokA]
    simp only
    rw [if_pos (by unfold Region.wanted; rw [Option.isNone_iff_eq_none.1 hgk])]
    refine .inl (Oper.wp_mono (fun a' w' hq => ?_) (htail w m.ahd))
    refine wpAny_of_quiet (C := fun w3 => ∃ x : Past w', w3 = x.w) (Q := fun a' => ∀ x : Past w', Q .normal a' x.w) (fun a'' w'' hx h => by obtain ⟨x, rfl⟩ := hx; exact h x) _ _ _ _ ⟨⟨w', Below.refl _ _⟩, rfl⟩ ?_
    refine wpAnyQ_lex (md := .any) hsel (l.drop (i + 1)) (i + 1) _ a' (fun j => by simp [List.getElem?_drop]) ?_ hq
    have : (l.drop (i + 1)).length = l.toArray.size - (i + 1) := by simp
    rw [this]
    exact hlex
  have main : ∀ (fuel : Nat) (listed : Array Bool) (a : Act) (w : World), Mid0 P l.toArray k a0 af W listed a w → unl listed = fuel → wpAny P .any l.toArray Q fuel listed a w := by
    intro fuel
    induction fuel with
    | zero =>
      intro listed a w m hu
      by_cases hdone : ∀ i, i < k → listed.getD i false = true
      · exact fin listed a w m hdone _ hu
      · obtain ⟨i, hi, _, hun⟩ := first_no' listed k hdone
        have := unl_set (listed := listed) (i := i) (by rw [m.size]; omega) (by rw [getD_tf (by rw [m.size]; omega)]; exact hun)
        omega
    | succ fuel ih =>
      intro listed a w m hu
      by_cases hdone : ∀ i, i < k → listed.getD i false = true
      · exact fin listed a w m hdone _ hu
      · obtain ⟨i0, hi0, hpre, hun0⟩ := first_no' listed k hdone
        refine ⟨fun h0 => ?_, fun i hi => ?_⟩
        · have hr : i0 ∈ Region.ready .any l.toArray listed := by
            rw [mem_ready]
            refine ⟨by rw [getD_tf (by rw [m.size]; omega)]; exact hun0, l[i0]'(by omega), by simp, fun e he hb => hpre _ ?_⟩
            exact hback' i0 _ (by simp) e he hb
          rw [h0] at hr
          cases hr
        · have hi' := hi
          obtain ⟨hun, o, ho, hw⟩ := mem_ready.1 hi
          have hil : i < l.length := by
            have := (Array.getElem?_eq_some_iff.1 ho).1
            simpa using this
          have hol : l[i]? = some o := by simpa using ho
          have hun' : unl (listed.setIfInBounds i true) = fuel := by
            have := unl_set (listed := listed) (i := i) (by rw [m.size]; omega) hun
            omega
          have hik : i < k := by
            rcases Nat.lt_or_ge i k with h | h
            rotate_left 1
            · have h1 := (htl i (by omega)).resolve_left (by omega)
              have h2 : (coverB l.toArray l.toArray.size (depsB l.toArray i (List.replicate l.toArray.size false))).getD i0 false = true := by
                have hlen := cover_length (ops := l.toArray) l.toArray.size (depsB l.toArray i (List.replicate l.toArray.size false))
                rw [deps_length, List.length_replicate] at hlen
                have hm : (coverB l.toArray l.toArray.size (depsB l.toArray i (List.replicate l.toArray.size false)))[i0]'(by rw [hlen, hsz]; omega) ∈ (coverB l.toArray l.toArray.size (depsB l.toArray i (List.replicate l.toArray.size false))).take k :=
                  List.mem_take_iff_getElem.2 ⟨i0, by rw [hlen, hsz]; omega, rfl⟩
                have := h1 _ hm
                rw [List.getD_eq_getElem?_getD, List.getElem?_eq_getElem (by rw [hlen, hsz]; omega)]
                exact this
              have h3 := cover_listed (ops := l.toArray) m.closed l.toArray.size _ (fun j hj => ?_) i0 h2
              · rw [hun0] at h3
                cases h3
              · unfold depsB at hj
                rw [ho] at hj
                refine deps_listed _ _ (fun e he hb => hw e (by simpa using he) hb) (fun q hq => ?_) j hj
                rw [List.getD_eq_getElem?_getD, List.getElem?_replicate] at hq
                split at hq <;> cases hq
            · exact h
          have hclosed : ∀ j oj, l.toArray[j]? = some oj → (listed.setIfInBounds i true).getD j false = true → ∀ e ∈ oj.after, Region.binds .any e = true → (listed.setIfInBounds i true).getD e.on false = true := by
            intro j oj hj hl e he hb
            by_cases hji : i = j
            · subst hji
              rw [ho] at hj
              cases hj
              exact getD_set_true (hw e he hb)
            · rw [getD_set_ne false hji] at hl
              exact getD_set_true (m.closed j oj hj hl e he hb)
          have htail' : ∀ t, k ≤ t → t < l.toArray.size → (listed.setIfInBounds i true).getD t true = false := fun t ht ht' => by rw [getD_set_ne true (by omega)]; exact m.tail t ht ht'
          obtain ⟨d, hod, hdlt⟩ := dlt i o hik hol
          have hlook : ∀ t ∈ o.looksAt l.toArray, slotOf a t = slotOf (accum af ((l.take k).take i) a0) t := by
            intro t ht
            rw [accum_slot _ _ _ (dstsOk_take _ _ _ hdk)]
            by_cases hex : ∃ j oj, j < k ∧ l[j]? = some oj ∧ oj.dst = some t
            · obtain ⟨j, oj, hj, hoj, hdt⟩ := hex
              obtain ⟨hji, hwt⟩ := hdep' i o j oj t hik hol hj hoj hdt ht
              obtain ⟨e, he, hb, heo⟩ := waitsB1_spec ho hwt
              have hlj := hw e he hb
              rw [heo] at hlj
              rw [m.put j oj t (by omega) (by simpa using hoj) hdt hlj, if_pos]
              rw [List.any_eq_true]
              refine ⟨oj, ?_, by simp [hdt]⟩
              refine List.mem_of_getElem? (i := j) ?_
              rw [List.getElem?_take, List.getElem?_take]
              simp only [hji, show j < k by omega, if_true, hoj]
            · rw [m.same t (fun j oj hj hoj _ hdt => hex ⟨j, oj, by omega, by simpa using hoj, hdt⟩), if_neg]
              intro hany
              rw [List.any_eq_true] at hany
              obtain ⟨oj, hmem, hdt⟩ := hany
              obtain ⟨j, hj⟩ := List.getElem?_of_mem (List.mem_of_mem_take hmem)
              rw [List.getElem?_take] at hj
              split at hj
              · exact hex ⟨j, oj, by omega, hj, by simpa using hdt⟩
              · cases hj
          have hy := (hall w m.ahd).get (i := i) (o := o) (by rw [List.getElem?_take]; simp [hik, hol])
          have he : execOp a.eval o = execOp (accum af ((l.take k).take i) a0).eval o := execOp_congr o (fun cs b => Region.noSelect_spec hsel i o cs b ho) (fun x hx => by
            cases x with
            | tmp t => exact hlook t (List.mem_append_left _ (List.mem_filterMap.2 ⟨.tmp t, by simpa using hx, rfl⟩))
            | _ => rfl)
          have hy' := hy.of_same he (wanted_congr hlook)
          refine wpOp_of_qOp (C := fun w' => ∃ x : Past w, w' = x.w) ⟨⟨w, Below.refl _ _⟩, rfl⟩ (fun a' w' hx ha => ?_) (hy'.qOp ho (K := fun a' => a' = a.put o.dst (leftBy af o)) rfl)
          obtain ⟨x, rfl⟩ := hx
          subst ha
          refine ih _ _ _ ⟨by simp [m.size], hclosed, htail', m.ahd.trans (x.far.mono m.ahd.size), by rw [defers_put]; exact m.defers, by rw [size_put]; exact m.tsize, ?_, ?_⟩ hun'
          · intro j oj t hj hoj hdt hl
            by_cases hji : i = j
            · subst hji
              rw [ho] at hoj
              cases hoj
              have : leftBy af o = slotOf af t := by simp [leftBy, hdt]
              rw [hdt, this]
              rw [hod] at hdt
              cases hdt
              exact slot_put_same _ (by rw [m.tsize]; exact hdlt)
            · rw [getD_set_ne false hji] at hl
              rw [slot_put_ne _ (dne i j o oj t hik (by omega) hol (by simpa using hoj) hji hdt)]
              exact m.put j oj t hj hoj hdt hl
          · intro t hno
            have h1 : (listed.setIfInBounds i true).getD i false = true := by
              have : i < listed.size := by rw [m.size]; omega
              simp [this]
            rw [slot_put_ne _ (hno i o hik ho h1)]
            exact m.same t (fun j oj hj hoj hl => hno j oj hj hoj (getD_set_true hl))
  refine wp_region_any hm (main _ _ a0 _ ?_ (by rw [unl_rep]))
  refine ⟨by simp, ?_, ?_, (Below.refl _ _).drew, rfl, rfl, ?_, ?_⟩
  · intro j oj hj h
    rw [getD_replicate_false] at h
    cases h
  · intro t _ ht
    have : (Array.replicate l.toArray.size false).getD t true = false := by simp at ht; simp [ht]
    exact this
  · intro j o t _ _ _ h
    rw [getD_replicate_false] at h
    cases h
  · intro t _; rfl
end
end Go.Proofs.Ytcneohhfnnelgaa
namespace Go.Proofs.Ytcneohhfnnelgaa
open Go.RowKit
set_option linter.unusedVariables false
theorem u64_wrap_bd (x : Int) : 0 ≤ IntKind.u64.wrap x ∧ IntKind.u64.wrap x < 18446744073709551616 := by
  unfold IntKind.wrap
  simp [IntKind.bits, IntKind.signed]
  omega
theorem OdAt.take {w : World} {A : Option Addr} {l : List Od} (h : OdAt w A l) (n : Nat) : OdAt w A (l.take n) := fun i hi => by
  have hi' : i < l.length ∧ i < n := by simp at hi; omega
  obtain ⟨ad, e, hz, c0, c1, c2⟩ := h i hi'.1
  have e1 : (l.take n).getD i default = l.getD i default := by simp [List.getD_eq_getElem?_getD, hi'.2]
  exact ⟨ad, e, hz, by rw [e1]; exact c0, by rw [e1]; exact c1, by rw [e1]; exact c2⟩
theorem RoAt.set {W : World} {A : Option Addr} {l : List Rot} (h : RoAt W A l) {p : Addr} (hp : ∀ ad, A = some ad → ad.block ≠ p.block) (u : Value) : RoAt (W.setCell p u) A l := fun i hi => by
  obtain ⟨ad, e, hz, c0, c1, c2, c3⟩ := h i hi
  have hb : (W.setCell p u).heap[(ad.add (i * 4)).block]? = W.heap[(ad.add (i * 4)).block]? := Below.heap_setCell _ _ _ _ (by rw [block_add]; exact hp ad e)
  exact ⟨ad, e, by simpa [World.setCell] using hz, (World.cell?_of_block hb).trans c0, (World.cell?_of_block (a := ⟨_, _, none⟩) hb).trans c1, (World.cell?_of_block (a := ⟨_, _, none⟩) hb).trans c2, (World.cell?_of_block (a := ⟨_, _, none⟩) hb).trans c3⟩
theorem IntsAt.take {w : World} {A : Option Addr} {l : List Int} (h : IntsAt w A l) (n : Nat) : IntsAt w A (l.take n) := fun i hi => by
  have hi' : i < l.length ∧ i < n := by simp at hi; omega
  obtain ⟨ad, e, c0⟩ := h i hi'.1
  have e1 : (l.take n).getD i 0 = l.getD i 0 := by simp [List.getD_eq_getElem?_getD, hi'.2]
  exact ⟨ad, e, by rw [e1]; exact c0⟩
set_option maxHeartbeats 16000000 in
set_option maxRecDepth 1000000 in
theorem Holds_any (m : Mot) (X : Option Addr) (xs : List Int) (c : Nat) (A : Option Addr) (l : List Sp) (cap : Nat) (p0 i0 p1 i1 u : Int) (s : Rot) (D : Option Addr) (os : List Od) (ck : Nat) (F : Option Addr) (es : List Int) (ck' : Nat) (sp : Int) (B : Option Addr) (us : List Int) (cB : Nat) (w : World) (hx : SpAt w A l) (hxs : IntsAt w X xs) (ho : OdAt w D os) (he : IntsAt w F es) (hu : U64At w B us) (hck : os.length ≤ ck) (hck' : es.length ≤ ck') (hcm : ck ≤ 9223372036854775807) (hcm' : ck' ≤ 9223372036854775807) (hsp : -9223372036854775808 ≤ sp ∧ sp ≤ 9223372036854775807) :
    Calls Try.prog 17 #[.agg (caC m X xs.length c A l.length cap p0 i0 p1 i1 u s D os.length ck F es.length ck'), .int .i64 sp, .slice B us.length cB] w fun e w' => e = .returned (.bool true) ∧ Below w.heap.size w w' := by
  have HX := Lib.hid hx
  have HY := Lib.hid hxs
  have HO := Lib.hid ho
  have HF := Lib.hid he
  have HU := Lib.hid hu
  clear hx hxs ho he hu
  have KL := Lib.hid (fun W => long_c m X xs.length c A l.length cap p0 i0 p1 i1 u s D os.length ck F es.length ck' W)
  unfold caC at KL
  unfold caC
  obtain ⟨nx, hnx⟩ : ∃ n, n = xs.length := ⟨_, rfl⟩
  obtain ⟨nl, hnl⟩ : ∃ n, n = l.length := ⟨_, rfl⟩
  obtain ⟨no, hno⟩ : ∃ n, n = os.length := ⟨_, rfl⟩
  obtain ⟨ne, hne⟩ : ∃ n, n = es.length := ⟨_, rfl⟩
  obtain ⟨nu, hnu⟩ : ∃ n, n = us.length := ⟨_, rfl⟩
  rw [← hnx, ← hnl, ← hno, ← hne] at KL ⊢
  rw [← hnu]
  rw [← hno] at hck
  rw [← hne] at hck'
  have KP := Lib.hid (show ∀ (k : Nat) (V : World), Below w.heap.size w V → Calls Try.prog 63 #[.slice B nu cB, .int .i64 (k : Int)] V fun e w' => e = .returned (.int .u64 (us.getD k 0)) ∧ V = w' from fun k V hV => by rw [hnu]; exact pick_c B us cB k V (HU.out.below hV))
  have u0 := HU.out.bd 0
  have u1 := HU.out.bd 1
  have HN := Lib.hid (And.intro hnx (And.intro hnl (And.intro hno (And.intro hne hnu))))
  have S0 := Lib.hid (show St w [(w.heap.size, 81, [.int .i64 m.r, .int .i64 m.ld, .int .i64 m.lq, .int .i64 m.fx, .int .i64 m.po, .int .i64 m.mi, .int .i64 m.sp, .int .i64 m.dr, .int .i64 m.cu, .int .i64 m.fa, .slice X nx c, .slice A nl cap, .int .i64 p0, .int .i64 i0, .int .i64 p1, .int .i64 i1, .int .i64 u, .int .i64 s.d, .int .i64 s.q, .int .i64 s.w, .int .i64 s.a, .slice D no ck, .slice F ne ck'])] (w.alloc (.cells [.int .i64 m.r, .int .i64 m.ld, .int .i64 m.lq, .int .i64 m.fx, .int .i64 m.po, .int .i64 m.mi, .int .i64 m.sp, .int .i64 m.dr, .int .i64 m.cu, .int .i64 m.fa, .slice X nx c, .slice A nl cap, .int .i64 p0, .int .i64 i0, .int .i64 p1, .int .i64 i1, .int .i64 u, .int .i64 s.d, .int .i64 s.q, .int .i64 s.w, .int .i64 s.a, .slice D no ck, .slice F ne ck'].toArray 81)) from (St.start w).alloc [.int .i64 m.r, .int .i64 m.ld, .int .i64 m.lq, .int .i64 m.fx, .int .i64 m.po, .int .i64 m.mi, .int .i64 m.sp, .int .i64 m.dr, .int .i64 m.cu, .int .i64 m.fa, .slice X nx c, .slice A nl cap, .int .i64 p0, .int .i64 i0, .int .i64 p1, .int .i64 i1, .int .i64 u, .int .i64 s.d, .int .i64 s.q, .int .i64 s.w, .int .i64 s.a, .slice D no ck, .slice F ne ck'] 81)
  cases hb : Dv.longB nx nl no ne
  rotate_left 1
  · rw [hb] at KL
    clear hb hnx hnl hno hne hnu
    go_enter Try.func17, Try.ntmps17
    go_upto_region 1 with (fail)
    refine gen_world (fun W => St w [(w.heap.size, 81, [.int .i64 m.r, .int .i64 m.ld, .int .i64 m.lq, .int .i64 m.fx, .int .i64 m.po, .int .i64 m.mi, .int .i64 m.sp, .int .i64 m.dr, .int .i64 m.cu, .int .i64 m.fa, .slice X nx c, .slice A nl cap, .int .i64 p0, .int .i64 i0, .int .i64 p1, .int .i64 i1, .int .i64 u, .int .i64 s.d, .int .i64 s.q, .int .i64 s.w, .int .i64 s.a, .slice D no ck, .slice F ne ck'])] W) S0.out ?_
    clear S0
    rintro w0 i0_
    have S0 := Lib.hid i0_
    clear i0_
    have HBK := Lib.hid (S0.out.get 0 rfl)
    have zz := HBK.out.lt
    go_wp2_with (refine wpList_load_row rfl 81 _ rfl w.heap.size rfl 81 _ (0, 0) _ HBK.out Try.underlying81 rfl (by kernel_rfl) ?_)
    refine (KL.out _).mono ?_
    rintro e w1 ⟨rfl, hb1⟩
    have S1 := Lib.hid (S0.out.below hb1)
    clear hb1 S0 HBK zz
    go_wp2_with fail
    refine (known_c _).mono ?_
    rintro e w2 ⟨rfl, hb2⟩
    go_wp2
    go_ret
    exact ⟨rfl, (S1.out.below hb2).1⟩
  rw [hb] at KL
  unfold Dv.longB at hb
  simp only [Bool.or_eq_false_iff, decide_eq_false_iff_not] at hb
  have hno1 : no ≤ 100 := by omega
  have hne1 : ne ≤ 100 := by omega
  have KH := Lib.hid (show ∀ V : World, Below w.heap.size w V → Calls Try.prog 59 #[.agg #[.int .i64 m.r, .int .i64 m.ld, .int .i64 m.lq, .int .i64 m.fx, .int .i64 m.po, .int .i64 m.mi, .int .i64 m.sp, .int .i64 m.dr, .int .i64 m.cu, .int .i64 m.fa], .slice A nl cap, .int .i64 u] V (HoP m l u V) from fun V hV => by rw [hnl]; exact Holds_c m A l u cap V (HX.out.below hV) (by omega))
  have KA := Lib.hid (show ∀ (d q t : Int) (V : World), Below w.heap.size w V → Calls Try.prog 57 #[.agg #[.int .i64 m.r, .int .i64 m.ld, .int .i64 m.lq, .int .i64 m.fx, .int .i64 m.po, .int .i64 m.mi, .int .i64 m.sp, .int .i64 m.dr, .int .i64 m.cu, .int .i64 m.fa], .slice A nl cap, .int .i64 d, .int .i64 q, .int .i64 t] V (AlP m l d q t V) from fun d q t V hV => by rw [hnl]; exact Allowed_c m A l d q t cap V (HX.out.below hV) (by omega))
  have KPl := Lib.hid (show ∀ (n : Nat) (V : World), n ≤ no → no = ne → Below w.heap.size w V → Calls Try.prog 65 #[.agg #[.int .i64 m.r, .int .i64 m.ld, .int .i64 m.lq, .int .i64 m.fx, .int .i64 m.po, .int .i64 m.mi, .int .i64 m.sp, .int .i64 m.dr, .int .i64 m.cu, .int .i64 m.fa], .slice X nx c, .slice A nl cap, .agg #[.int .i64 p0, .int .i64 i0, .int .i64 p1, .int .i64 i1], .int .i64 u, .agg #[.int .i64 s.d, .int .i64 s.q, .int .i64 s.w, .int .i64 s.a], .slice D n ck, .slice F n ck'] V (PlP (Dv.plErr m xs l p0 i0 p1 i1 u s (os.take n) (es.take n)) (Dv.plVal m xs l p0 i0 p1 i1 u s (os.take n) (es.take n)) V) from fun n V hn hnn hV => by
    rw [hnx, hnl]
    exact Play_c m X xs c A l cap p0 i0 p1 i1 u s D (os.take n) n ck F (es.take n) n ck' V (HX.out.below hV) (HY.out.below hV) (by omega) ((HO.out.below hV).take n) ((HF.out.below hV).take n) (by simp; omega) (by simp; omega) (by omega) (by omega))
  clear hb hnx hnl hno hne hnu
  go_enter Try.func17, Try.ntmps17
  go_upto_region 1 with (fail)
  refine gen_world (fun W => St w [(w.heap.size, 81, [.int .i64 m.r, .int .i64 m.ld, .int .i64 m.lq, .int .i64 m.fx, .int .i64 m.po, .int .i64 m.mi, .int .i64 m.sp, .int .i64 m.dr, .int .i64 m.cu, .int .i64 m.fa, .slice X nx c, .slice A nl cap, .int .i64 p0, .int .i64 i0, .int .i64 p1, .int .i64 i1, .int .i64 u, .int .i64 s.d, .int .i64 s.q, .int .i64 s.w, .int .i64 s.a, .slice D no ck, .slice F ne ck'])] W) S0.out ?_
  clear S0
  rintro w0 i0_
  have S0 := Lib.hid i0_
  clear i0_
  have HBK := Lib.hid (S0.out.get 0 rfl)
  have zz := HBK.out.lt
  go_wp2_with (refine wpList_load_row rfl 81 _ rfl w.heap.size rfl 81 _ (0, 0) _ HBK.out Try.underlying81 rfl (by kernel_rfl) ?_)
  refine (KL.out _).mono ?_
  rintro e w1 ⟨rfl, hb1⟩
  have S1 := Lib.hid (S0.out.below hb1)
  clear hb1 S0 HBK zz KL
  have z_a := (S1.out.get 0 rfl).lt
  have c_a0 := (S1.out.get 0 rfl).cell 0 rfl
  have c_a1 := (S1.out.get 0 rfl).cell 1 rfl
  have c_a2 := (S1.out.get 0 rfl).cell 2 rfl
  have c_a3 := (S1.out.get 0 rfl).cell 3 rfl
  have c_a4 := (S1.out.get 0 rfl).cell 4 rfl
  have c_a5 := (S1.out.get 0 rfl).cell 5 rfl
  have c_a6 := (S1.out.get 0 rfl).cell 6 rfl
  have c_a7 := (S1.out.get 0 rfl).cell 7 rfl
  have c_a8 := (S1.out.get 0 rfl).cell 8 rfl
  have c_a9 := (S1.out.get 0 rfl).cell 9 rfl
  have c_a11 := (S1.out.get 0 rfl).cell 11 rfl
  have c_a16 := (S1.out.get 0 rfl).cell 16 rfl
  go_wp2_with fail
  refine (KH.out _ S1.out.1).mono ?_
  rintro e w2 ⟨rfl, hb2⟩
  have S2 := Lib.hid (S1.out.below hb2)
  clear hb2 S1 KH z_a c_a0 c_a1 c_a2 c_a3 c_a4 c_a5 c_a6 c_a7 c_a8 c_a9 c_a11 c_a16
  trace "holds"
  by_cases hE0 : Dv.hoE m l u = 0
  rotate_left 1
  · have hbt : (Dv.hoE m l u != 0) = true := by simpa using hE0
    clear hE0
    generalize Dv.hoE m l u = e0 at hbt ⊢
    generalize Dv.hoV m l u = v0
    go_wp2_with fail
    refine (known_c _).mono ?_
    rintro e w2 ⟨rfl, hb2⟩
    go_wp2
    go_ret
    exact ⟨rfl, (S2.out.below hb2).1⟩
  obtain ⟨hV, hHV⟩ : ∃ b, b = Dv.hoV m l u := ⟨_, rfl⟩
  rw [hE0, ← hHV]
  have HE0 := Lib.hid hE0
  have HHV := Lib.hid hHV
  clear hE0 hHV
  cases hV
  · skip
    go_wp2_with fail
    refine (known_c _).mono ?_
    rintro e w2 ⟨rfl, hb2⟩
    go_wp2
    go_ret
    exact ⟨rfl, (S2.out.below hb2).1⟩
  have z_a := (S2.out.get 0 rfl).lt
  have c_a21 := (S2.out.get 0 rfl).cell 21 rfl
  have c_a22 := (S2.out.get 0 rfl).cell 22 rfl
  by_cases hnn : no = ne
  rotate_left 1
  · have d1 : ((ne : Int) == (no : Int)) = false := by rw [beq_eq_false_iff_ne]; omega
    have d2 : ((ne : Int) != (no : Int)) = true := by rw [bne_iff_ne]; omega
    have d3 : (ne == no) = false := by rw [beq_eq_false_iff_ne]; omega
    have d4 : (ne != no) = true := by rw [bne_iff_ne]; omega
    clear hnn
    go_wp2_with fail
    refine (known_c _).mono ?_
    rintro e w2 ⟨rfl, hb2⟩
    go_wp2
    go_ret
    exact ⟨rfl, (S2.out.below hb2).1⟩
  subst hnn
  have HT : Hid (Dv.lmE m l = 0 ∧ Dv.busB u = true ∧ Dv.hoB m l u = true) := Lib.hid (by
    have h1 := HE0.out
    have h2 := HHV.out
    unfold Dv.hoE at h1
    by_cases h0 : Dv.lmE m l = 0
    · rw [if_pos h0] at h1
      by_cases hB : Dv.busB u = true
      · refine ⟨h0, hB, ?_⟩
        unfold Dv.hoV at h2
        rw [if_pos HE0.out] at h2
        exact h2.symm
      · rw [if_neg hB] at h1; cases h1
    · rw [if_neg h0] at h1; exact absurd h1 h0)
  clear HE0 HHV
  trace "bails"
  obtain ⟨hlm, hbus, hhold⟩ := HT.out
  have hm := (Dv.lm_parts hlm).1
  have HM := Lib.hid hm
  have hcu : 1 ≤ m.cu ∧ m.cu ≤ 1048576 := by unfold Dv.chk at hm; omega
  have hfa : 0 ≤ m.fa ∧ m.fa ≤ 16384 := by unfold Dv.chk at hm; omega
  have hU := Dv.roomV_bd (Dv.busB_iff.1 hbus)
  have KR := Lib.hid (show ∀ V, Calls Try.prog 54 #[.int .i64 u] V fun e w' => e = .returned (.tuple #[.int .i64 (Dv.roomV u), .int .i64 0]) ∧ V = w' from fun V => (Room_c u V).mono fun _ _ ⟨h1, h2⟩ => ⟨by rw [h1]; simp [Dv.RoomV, Dv.RoomE, hbus], h2⟩)
  have HU0 := Lib.hid hU
  have HP0 := Lib.hid (show ∀ V : World, Below w.heap.size w V → Calls Try.prog 63 #[.slice B nu cB, .int .i64 0] V fun e w' => e = .returned (.int .u64 (us.getD 0 0)) ∧ V = w' from fun V hV => KP.out 0 V hV)
  have HP1 := Lib.hid (show ∀ V : World, Below w.heap.size w V → Calls Try.prog 63 #[.slice B nu cB, .int .i64 1] V fun e w' => e = .returned (.int .u64 (us.getD 1 0)) ∧ V = w' from fun V hV => KP.out 1 V hV)
  generalize us.getD 0 0 = k0 at *
  generalize us.getD 1 0 = k1 at *
  have iD := Dv.ins_in (lo := -m.cu) (hi := m.cu) (p := k0) (by omega)
  have iQ := Dv.ins_in (lo := -m.cu) (hi := m.cu) (p := k1) (by omega)
  have KID := Lib.hid (fun V => inside_e (-m.cu) m.cu k0 V (by omega) (by omega) (by omega) u0)
  have KIQ := Lib.hid (fun V => inside_e (-m.cu) m.cu k1 V (by omega) (by omega) (by omega) u1)
  generalize Dv.ins (-m.cu) m.cu k0 = d at *
  generalize Dv.ins (-m.cu) m.cu k1 = q at *
  have KIW := Lib.hid (fun (p : Int) (hp : 0 ≤ p ∧ p < 18446744073709551616) V => inside_e (-m.fa) m.fa p V (by omega) (by omega) (by omega) hp)
  clear hlm hbus hhold hm KP u0 u1
  obtain ⟨U, hUe⟩ : ∃ U, U = Dv.roomV u := ⟨_, rfl⟩
  rw [← hUe] at KR hU
  have HUe := Lib.hid hUe
  clear hUe HU0
  clear z_a c_a21 c_a22
  have z_a := (S2.out.get 0 rfl).lt
  have c_a0 := (S2.out.get 0 rfl).cell 0 rfl
  have c_a1 := (S2.out.get 0 rfl).cell 1 rfl
  have c_a2 := (S2.out.get 0 rfl).cell 2 rfl
  have c_a3 := (S2.out.get 0 rfl).cell 3 rfl
  have c_a4 := (S2.out.get 0 rfl).cell 4 rfl
  have c_a5 := (S2.out.get 0 rfl).cell 5 rfl
  have c_a6 := (S2.out.get 0 rfl).cell 6 rfl
  have c_a7 := (S2.out.get 0 rfl).cell 7 rfl
  have c_a8 := (S2.out.get 0 rfl).cell 8 rfl
  have c_a9 := (S2.out.get 0 rfl).cell 9 rfl
  have c_a16 := (S2.out.get 0 rfl).cell 16 rfl
  have c_a21 := (S2.out.get 0 rfl).cell 21 rfl
  have c_a22 := (S2.out.get 0 rfl).cell 22 rfl
  have S3 := Lib.hid (S2.out.alloc [.int .i64 m.r, .int .i64 m.ld, .int .i64 m.lq, .int .i64 m.fx, .int .i64 m.po, .int .i64 m.mi, .int .i64 m.sp, .int .i64 m.dr, .int .i64 m.cu, .int .i64 m.fa] 52)
  go_upto_region 7 with (fail)
  refine gen_world (fun W => St w [(w2.heap.size, 52, [.int .i64 m.r, .int .i64 m.ld, .int .i64 m.lq, .int .i64 m.fx, .int .i64 m.po, .int .i64 m.mi, .int .i64 m.sp, .int .i64 m.dr, .int .i64 m.cu, .int .i64 m.fa]), (w.heap.size, 81, [.int .i64 m.r, .int .i64 m.ld, .int .i64 m.lq, .int .i64 m.fx, .int .i64 m.po, .int .i64 m.mi, .int .i64 m.sp, .int .i64 m.dr, .int .i64 m.cu, .int .i64 m.fa, .slice X nx c, .slice A nl cap, .int .i64 p0, .int .i64 i0, .int .i64 p1, .int .i64 i1, .int .i64 u, .int .i64 s.d, .int .i64 s.q, .int .i64 s.w, .int .i64 s.a, .slice D no ck, .slice F no ck'])] W) S3.out ?_
  clear S2 S3 z_a c_a0 c_a1 c_a2 c_a3 c_a4 c_a5 c_a6 c_a7 c_a8 c_a9 c_a16 c_a21 c_a22
  rintro w3 i_
  generalize w2.heap.size = g9 at i_ ⊢
  have S3 := Lib.hid i_
  clear i_
  have z_a := (S3.out.get 1 rfl).lt
  have c_a16 := (S3.out.get 1 rfl).cell 16 rfl
  go_wp2_with fail
  refine (KR.out _).mono ?_
  rintro e w' ⟨rfl, rfl⟩
  have z_m := (S3.out.get 0 rfl).lt
  have c_m8 := (S3.out.get 0 rfl).cell 8 rfl
  have S4 := Lib.hid (S3.out.alloc [.int .i64 (-m.cu), .int .i64 m.cu] 29)
  go_upto_region 9 with (fail)
  refine gen_world (fun W => St w [(w3.heap.size, 29, [.int .i64 (-m.cu), .int .i64 m.cu]), (g9, 52, [.int .i64 m.r, .int .i64 m.ld, .int .i64 m.lq, .int .i64 m.fx, .int .i64 m.po, .int .i64 m.mi, .int .i64 m.sp, .int .i64 m.dr, .int .i64 m.cu, .int .i64 m.fa]), (w.heap.size, 81, [.int .i64 m.r, .int .i64 m.ld, .int .i64 m.lq, .int .i64 m.fx, .int .i64 m.po, .int .i64 m.mi, .int .i64 m.sp, .int .i64 m.dr, .int .i64 m.cu, .int .i64 m.fa, .slice X nx c, .slice A nl cap, .int .i64 p0, .int .i64 i0, .int .i64 p1, .int .i64 i1, .int .i64 u, .int .i64 s.d, .int .i64 s.q, .int .i64 s.w, .int .i64 s.a, .slice D no ck, .slice F no ck'])] W) S4.out ?_
  clear S3 S4 z_a c_a16 z_m c_m8 KR
  rintro w4 i_
  generalize w3.heap.size = g11 at i_ ⊢
  have S4 := Lib.hid i_
  clear i_
  have HPV := Lib.hid (fun (x : Past w4) => S4.out.1.trans (x.far.mono S4.out.1.size))
  have z_i := (S4.out.get 0 rfl).lt
  have c_i0 := (S4.out.get 0 rfl).cell 0 rfl
  have c_i1 := (S4.out.get 0 rfl).cell 1 rfl
  refine wp_region_past (by kernel_rfl) (by kernel_rfl) ?_
  repeat (go_big_quiet_step (first | (go_at_call 63; with_reducible exact past_same (HP0.out _ (HPV.out _))) | (go_at_call 63; with_reducible exact past_same (HP1.out _ (HPV.out _))) | (go_at_call 62; with_reducible exact past_below (KID.out _)) | (go_at_call 62; with_reducible exact past_below (KIQ.out _))))
  refine wpQuiet_nil ?_
  intro xx
  have HXX := Lib.hid xx.far
  generalize xx.w = w5 at HXX ⊢
  have S5 := Lib.hid (S4.out.below HXX.out)
  clear S4 HXX HPV z_i c_i0 c_i1 HP0 HP1 KID KIQ
  trace "r9"
  have z_m := (S5.out.get 1 rfl).lt
  have c_m9 := (S5.out.get 1 rfl).cell 9 rfl
  go_wp2_with fail
  have hpw := u64_wrap_bd sp
  have iW := Dv.ins_in (lo := -m.fa) (hi := m.fa) (p := IntKind.u64.wrap sp) (by omega)
  refine (KIW.out _ hpw _).mono ?_
  generalize Dv.ins (-m.fa) m.fa (IntKind.u64.wrap sp) = wv at *
  rintro e w6 ⟨rfl, hb6⟩
  have S6 := Lib.hid (S5.out.below hb6)
  clear hb6 S5 z_m c_m9 KIW hpw
  trace "r10"
  have hAB := Dv.holds_span (d := d) (q := q) (s := wv) HT.out.1 (Dv.roomV_bd (Dv.busB_iff.1 HT.out.2.1)).1 HT.out.2.2 iD iQ iW
  have hAE : Dv.alE m l d q wv = 0 := by
    unfold Dv.alE
    rw [if_pos HT.out.1, if_pos (by unfold Dv.alIn; rw [Bool.and_eq_true]; exact ⟨upB2.2 ⟨iD, iQ⟩, upB1.2 iW⟩), if_pos (by unfold Dv.alOk; simp only [Bool.and_eq_true, decide_eq_true_eq]; exact hAB.1)]
  have KAl := Lib.hid (show ∀ V : World, Below w.heap.size w V → Calls Try.prog 57 #[.agg #[.int .i64 m.r, .int .i64 m.ld, .int .i64 m.lq, .int .i64 m.fx, .int .i64 m.po, .int .i64 m.mi, .int .i64 m.sp, .int .i64 m.dr, .int .i64 m.cu, .int .i64 m.fa], .slice A nl cap, .int .i64 d, .int .i64 q, .int .i64 wv] V fun e w' => e = .returned (.tuple #[.agg #[.int .i64 (Dv.aLo m l d q wv), .int .i64 (Dv.aHi m l d q wv)], .agg #[.int .i64 (Dv.bLo m l d q wv), .int .i64 (Dv.bHi m l d q wv)], .int .i64 0]) ∧ Below V.heap.size V w' from fun V hV => (KA.out d q wv V hV).mono fun _ _ ⟨h1, h2⟩ => ⟨by rw [h1]; simp [Dv.alV, hAE], h2⟩)
  have hsb := safe_bd (d := d) (q := q) (s := wv) HT.out.1 iD iQ iW.1 iW.2
  obtain ⟨_, hA2, hB2⟩ := hAB
  clear hAE KA
  rw [show Dv.roomV u = U from HUe.out.symm] at hA2 hB2
  generalize Dv.aLo m l d q wv = a1 at *
  generalize Dv.aHi m l d q wv = a2 at *
  generalize Dv.bLo m l d q wv = b1 at *
  generalize Dv.bHi m l d q wv = b2 at *
  unfold Dv.mtLo Dv.mtHi at hA2 hB2
  have z_m := (S6.out.get 1 rfl).lt
  have c_m0 := (S6.out.get 1 rfl).cell 0 rfl
  have c_m1 := (S6.out.get 1 rfl).cell 1 rfl
  have c_m2 := (S6.out.get 1 rfl).cell 2 rfl
  have c_m3 := (S6.out.get 1 rfl).cell 3 rfl
  have c_m4 := (S6.out.get 1 rfl).cell 4 rfl
  have c_m5 := (S6.out.get 1 rfl).cell 5 rfl
  have c_m6 := (S6.out.get 1 rfl).cell 6 rfl
  have c_m7 := (S6.out.get 1 rfl).cell 7 rfl
  have c_m8 := (S6.out.get 1 rfl).cell 8 rfl
  have c_m9 := (S6.out.get 1 rfl).cell 9 rfl
  have z_a := (S6.out.get 2 rfl).lt
  have c_a11 := (S6.out.get 2 rfl).cell 11 rfl
  go_wp2_with fail
  refine (KAl.out _ S6.out.1).mono ?_
  rintro e w7 ⟨rfl, hb7⟩
  have S7 := Lib.hid (show St w [(w7.heap.size + 1, 29, [.int .i64 b1, .int .i64 b2]), (w7.heap.size, 29, [.int .i64 a1, .int .i64 a2]), (g11, 29, [.int .i64 (-m.cu), .int .i64 m.cu]), (g9, 52, [.int .i64 m.r, .int .i64 m.ld, .int .i64 m.lq, .int .i64 m.fx, .int .i64 m.po, .int .i64 m.mi, .int .i64 m.sp, .int .i64 m.dr, .int .i64 m.cu, .int .i64 m.fa]), (w.heap.size, 81, [.int .i64 m.r, .int .i64 m.ld, .int .i64 m.lq, .int .i64 m.fx, .int .i64 m.po, .int .i64 m.mi, .int .i64 m.sp, .int .i64 m.dr, .int .i64 m.cu, .int .i64 m.fa, .slice X nx c, .slice A nl cap, .int .i64 p0, .int .i64 i0, .int .i64 p1, .int .i64 i1, .int .i64 u, .int .i64 s.d, .int .i64 s.q, .int .i64 s.w, .int .i64 s.a, .slice D no ck, .slice F no ck'])] ((w7.alloc (.cells #[.int .i64 a1, .int .i64 a2] 29)).alloc (.cells #[.int .i64 b1, .int .i64 b2] 29)) from by
    have h := ((S6.out.below hb7).alloc [.int .i64 a1, .int .i64 a2] 29).alloc [.int .i64 b1, .int .i64 b2] 29
    simp at h
    exact h)
  clear hb7 S6 KAl z_m c_m0 c_m1 c_m2 c_m3 c_m4 c_m5 c_m6 c_m7 c_m8 c_m9 z_a c_a11
  go_upto_region 12 with (fail)
  refine gen_world (fun W => St w [(w7.heap.size + 1, 29, [.int .i64 b1, .int .i64 b2]), (w7.heap.size, 29, [.int .i64 a1, .int .i64 a2]), (g11, 29, [.int .i64 (-m.cu), .int .i64 m.cu]), (g9, 52, [.int .i64 m.r, .int .i64 m.ld, .int .i64 m.lq, .int .i64 m.fx, .int .i64 m.po, .int .i64 m.mi, .int .i64 m.sp, .int .i64 m.dr, .int .i64 m.cu, .int .i64 m.fa]), (w.heap.size, 81, [.int .i64 m.r, .int .i64 m.ld, .int .i64 m.lq, .int .i64 m.fx, .int .i64 m.po, .int .i64 m.mi, .int .i64 m.sp, .int .i64 m.dr, .int .i64 m.cu, .int .i64 m.fa, .slice X nx c, .slice A nl cap, .int .i64 p0, .int .i64 i0, .int .i64 p1, .int .i64 i1, .int .i64 u, .int .i64 s.d, .int .i64 s.q, .int .i64 s.w, .int .i64 s.a, .slice D no ck, .slice F no ck'])] W) S7.out ?_
  clear S7
  rintro w8 i_
  generalize w7.heap.size = g15 at i_ ⊢
  have S8 := Lib.hid i_
  clear i_
  trace "r11"
  have z_x := (S8.out.get 1 rfl).lt
  have c_x0 := (S8.out.get 1 rfl).cell 0 rfl
  have c_x1 := (S8.out.get 1 rfl).cell 1 rfl
  have z_y := (S8.out.get 0 rfl).lt
  have c_y0 := (S8.out.get 0 rfl).cell 0 rfl
  have c_y1 := (S8.out.get 0 rfl).cell 1 rfl
  have hx1 := fun ts t W => maxTwo a1 (-U) ts t W
  have hx2 := fun ts t W => minTwo a2 U ts t W
  have hy1 := fun ts t W => maxTwo b1 (-U) ts t W
  have hy2 := fun ts t W => minTwo b2 U ts t W
  generalize max a1 (-U) = A1 at *
  generalize min a2 U = A2 at *
  generalize max b1 (-U) = B1 at *
  generalize min b2 U = B2 at *
  have tA : decide (A2 < A1) = false := decide_eq_false (by omega)
  have tB : decide (B2 < B1) = false := decide_eq_false (by omega)
  go_upto_region 14 with (fail)
  clear hx1 hx2 hy1 hy2 tA tB hA2 hB2 z_x c_x0 c_x1 z_y c_y0 c_y1 hsb
  trace "r12"
  have hS9 := S8.out.pick [(g9, 52, [.int .i64 m.r, .int .i64 m.ld, .int .i64 m.lq, .int .i64 m.fx, .int .i64 m.po, .int .i64 m.mi, .int .i64 m.sp, .int .i64 m.dr, .int .i64 m.cu, .int .i64 m.fa]), (w.heap.size, 81, [.int .i64 m.r, .int .i64 m.ld, .int .i64 m.lq, .int .i64 m.fx, .int .i64 m.po, .int .i64 m.mi, .int .i64 m.sp, .int .i64 m.dr, .int .i64 m.cu, .int .i64 m.fa, .slice X nx c, .slice A nl cap, .int .i64 p0, .int .i64 i0, .int .i64 p1, .int .i64 i1, .int .i64 u, .int .i64 s.d, .int .i64 s.q, .int .i64 s.w, .int .i64 s.a, .slice D no ck, .slice F no ck'])] (fun x hx => by
    simp only [List.mem_cons, List.not_mem_nil, or_false] at hx ⊢
    rcases hx with h | h <;> simp [h]) (by
    have := S8.out.ne 3 4 rfl rfl (by decide)
    simp only [List.map_cons, List.map_nil, List.nodup_cons, List.mem_cons, List.not_mem_nil, or_false, List.nodup_nil, not_false_eq_true, and_true]
    exact this)
  have S9 := Lib.hid hS9
  clear S8 hS9
  obtain ⟨E, hE⟩ : ∃ E, E = Dv.plErr m xs l p0 i0 p1 i1 u s os es := ⟨_, rfl⟩
  obtain ⟨L, hL⟩ : ∃ L, L = Dv.plVal m xs l p0 i0 p1 i1 u s os es := ⟨_, rfl⟩
  have htk : os.take no = os := List.take_of_length_le (by have := HN.out; omega)
  have htk2 : es.take no = es := List.take_of_length_le (by have := HN.out; omega)
  have KF := Lib.hid (show ∀ V : World, Below w.heap.size w V → Calls Try.prog 65 #[.agg #[.int .i64 m.r, .int .i64 m.ld, .int .i64 m.lq, .int .i64 m.fx, .int .i64 m.po, .int .i64 m.mi, .int .i64 m.sp, .int .i64 m.dr, .int .i64 m.cu, .int .i64 m.fa], .slice X nx c, .slice A nl cap, .agg #[.int .i64 p0, .int .i64 i0, .int .i64 p1, .int .i64 i1], .int .i64 u, .agg #[.int .i64 s.d, .int .i64 s.q, .int .i64 s.w, .int .i64 s.a], .slice D no ck, .slice F no ck'] V (PlP E L V) from fun V hV => by
    have h := KPl.out no V (Nat.le_refl _) (by first | rfl | trivial) hV
    rw [htk, htk2, ← hE, ← hL] at h
    exact h)
  have HL0 := Lib.hid (show L.length ≤ 100 ∧ (E = 0 → Dv.lims m L) from ⟨by rw [hL]; exact Nat.le_trans (plVal_len ..) (by have := HN.out; omega), fun h => by rw [hL]; exact Dv.hold_0 (by rw [← hE]; exact h)⟩)
  have H17 := Lib.hid (fun (h : E = 17) => Dv.hold_17 (m := m) (xs := xs) (tol := l) (p0 := p0) (i0 := i0) (p1 := p1) (i1 := i1) (u := u) (s := s) (os := os) (es := es) HT.out.1 HT.out.2.1 HT.out.2.2 (by have := HN.out; omega) (by rw [← hE]; exact h))
  clear hE hL htk htk2
  have z_m := (S9.out.get 0 rfl).lt
  have c_m0 := (S9.out.get 0 rfl).cell 0 rfl
  have c_m1 := (S9.out.get 0 rfl).cell 1 rfl
  have c_m2 := (S9.out.get 0 rfl).cell 2 rfl
  have c_m3 := (S9.out.get 0 rfl).cell 3 rfl
  have c_m4 := (S9.out.get 0 rfl).cell 4 rfl
  have c_m5 := (S9.out.get 0 rfl).cell 5 rfl
  have c_m6 := (S9.out.get 0 rfl).cell 6 rfl
  have c_m7 := (S9.out.get 0 rfl).cell 7 rfl
  have c_m8 := (S9.out.get 0 rfl).cell 8 rfl
  have c_m9 := (S9.out.get 0 rfl).cell 9 rfl
  have z_a := (S9.out.get 1 rfl).lt
  have c_a10 := (S9.out.get 1 rfl).cell 10 rfl
  have c_a11 := (S9.out.get 1 rfl).cell 11 rfl
  have c_a12 := (S9.out.get 1 rfl).cell 12 rfl
  have c_a13 := (S9.out.get 1 rfl).cell 13 rfl
  have c_a14 := (S9.out.get 1 rfl).cell 14 rfl
  have c_a15 := (S9.out.get 1 rfl).cell 15 rfl
  have c_a16 := (S9.out.get 1 rfl).cell 16 rfl
  have c_a17 := (S9.out.get 1 rfl).cell 17 rfl
  have c_a18 := (S9.out.get 1 rfl).cell 18 rfl
  have c_a19 := (S9.out.get 1 rfl).cell 19 rfl
  have c_a20 := (S9.out.get 1 rfl).cell 20 rfl
  have c_a21 := (S9.out.get 1 rfl).cell 21 rfl
  have c_a22 := (S9.out.get 1 rfl).cell 22 rfl
  go_wp2_with fail
  refine (KF.out _ S9.out.1).mono ?_
  rintro e w9 ⟨hb9, A1, q1, rfl, hR1⟩
  have S10 := Lib.hid (S9.out.below hb9)
  have HR1 := Lib.hid hR1
  clear hb9 hR1 S9 KF z_m c_m0 c_m1 c_m2 c_m3 c_m4 c_m5 c_m6 c_m7 c_m8 c_m9 z_a c_a10 c_a11 c_a12 c_a13 c_a14 c_a15 c_a16 c_a17 c_a18 c_a19 c_a20 c_a21 c_a22
  trace "play"
  by_cases hE0 : E = 0
  · subst hE0
    go_wp2_with fail
    rename_i KK hKK
    refine wp_codeP (c' := loop17) (by kernel_rfl) ?_
    exact Holds_loop m g9 A1 L q1 w w9 _ _ _ _ _ _ _ _ _ _ _ _ _ _ _ _ _ _ _ _ _ _ _ _ _ _ _ _ _ _ _ _ _ _ _ _ _ _ _ _ _ _ _ _ _ _ _ _ _ _ _ _ _ _ _ _ _ _ _ _ _ _ _ _ _ _ _ _ _ _ _ _ _ _ _ _ _ _ _ _ _ _ _ _ _ _ _ _ _ _ _ _ _ _ _ _ _ _ _ _ _ _ _ _ _ _ _ _ _ _ _ _ _ _ _ _ _ _ _ _ _ _ _ _ _ _ _ _ _ _ _ _ _ _ _ _ _ _ _ _ _ _ _ _ _ _ _ _ _ _ _ _ _ _ _ _ _ _ _ _ _ _ _ _ _ _ _ _ _ _ _ _ _ _ _ _ _ _ _ _ _ _ _ _ _ _ _ _ _ _ _ _ _ _ _ _ _ _ _ _ _ _ _ _ _ _ _ _ _ _ _ _ _ _ _ _ _ _ _ _ _ _ _ _ _ _ _ _ _ _ _ _ _ _ _ _ _ _ _ _ _ _ _ _ _ _ _ _ _ _ _ _ _ _ _ _ _ _ _ _ _ _ _ _ _ _ _ _ _ _ _ _ _ _ _ _ _ _ _ _ _ _ _ _ _ _ _ _ _ _ _ _ _ _ _ _ _ _ _ _ _ _ _ _ KK (S10.out.pick _ (fun x hx => by simp only [List.mem_singleton] at hx; simp [hx]) (by simp)) HR1.out HL0.out.1 (HL0.out.2 (by first | rfl | trivial)) HM.out (fun a w' h => hKK a w' (wp_codeP (by kernel_rfl) h))
  by_cases hE1 : E = 17
  rotate_left 1
  · have d1 : (E != 0) = true := by simpa using hE0
    have d2 : (E != 17) = true := by simpa using hE1
    clear hE0 hE1
    go_wp2_with fail
    refine (known_c _).mono ?_
    rintro e w2 ⟨rfl, hb2⟩
    go_wp2
    go_ret
    exact ⟨rfl, (S10.out.below hb2).1⟩
  obtain ⟨r, hrlt, hrn, hr17, hr0, hrlen, hrlim, hrup, hrrot, hreb⟩ := H17.out hE1
  subst hE1
  have hrno : r < no := by have := HN.out; omega
  have HRN := Lib.hid (And.intro hrn hr17)
  have HRZ := Lib.hid (And.intro hr0 hrlen)
  have HRL := Lib.hid hrlim
  have HRU := Lib.hid (And.intro hrup hrrot)
  obtain ⟨aD, hD, _⟩ := HO.out r hrlt
  obtain ⟨aF, hF, hfc⟩ := HF.out r (by have := HN.out; omega)
  subst hD hF
  have HFC := Lib.hid hfc
  clear hrn hr17 hr0 hrlen hrlim hrup hrrot hfc hE0 hrlt H17 HL0
  go_upto_region 18 with (fail)
  rename_i K3 hK3 _ _
  go_wp2_with fail
  go_loopw [19] (fun i wr => ∃ n : Nat, n ≤ r ∧ i = .int .i64 n ∧ Hid (St w [(g9, 52, [.int .i64 m.r, .int .i64 m.ld, .int .i64 m.lq, .int .i64 m.fx, .int .i64 m.po, .int .i64 m.mi, .int .i64 m.sp, .int .i64 m.dr, .int .i64 m.cu, .int .i64 m.fa]), (w.heap.size, 81, [.int .i64 m.r, .int .i64 m.ld, .int .i64 m.lq, .int .i64 m.fx, .int .i64 m.po, .int .i64 m.mi, .int .i64 m.sp, .int .i64 m.dr, .int .i64 m.cu, .int .i64 m.fa, .slice X nx c, .slice A nl cap, .int .i64 p0, .int .i64 i0, .int .i64 p1, .int .i64 i1, .int .i64 u, .int .i64 s.d, .int .i64 s.q, .int .i64 s.w, .int .i64 s.a, .slice (some aD) no ck, .slice (some aF) no ck'])] wr)) (fun i _ => r - (intOf i).toNat)
  case atStart => exact ⟨0, by omega, rfl, Lib.hid S10.out⟩
  case round =>
    clear S10
    obtain ⟨n, hn, rfl, HS⟩ := hrel
    have n0 : (0 : Int) ≤ (n : Int) := by omega
    have nlt : (n : Int) < (no : Int) := by omega
    have kd : decide ((n : Int) < (no : Int)) = true := decide_eq_true (by omega)
    have kw : IntKind.i64.wrap ((n : Int) + 1) = (n : Int) + 1 := IntWalk.i64_in _ (by omega)
    have kt : ((n : Int) + 1).toNat = n + 1 := by omega
    have k1 : (0 : Int) ≤ (n : Int) + 1 := by omega
    have k2 : (n : Int) + 1 ≤ (ck : Int) := by omega
    have k3 : (n : Int) + 1 ≤ (ck' : Int) := by omega
    have z_m := (HS.out.get 0 rfl).lt
    have c_m0 := (HS.out.get 0 rfl).cell 0 rfl
    have c_m1 := (HS.out.get 0 rfl).cell 1 rfl
    have c_m2 := (HS.out.get 0 rfl).cell 2 rfl
    have c_m3 := (HS.out.get 0 rfl).cell 3 rfl
    have c_m4 := (HS.out.get 0 rfl).cell 4 rfl
    have c_m5 := (HS.out.get 0 rfl).cell 5 rfl
    have c_m6 := (HS.out.get 0 rfl).cell 6 rfl
    have c_m7 := (HS.out.get 0 rfl).cell 7 rfl
    have c_m8 := (HS.out.get 0 rfl).cell 8 rfl
    have c_m9 := (HS.out.get 0 rfl).cell 9 rfl
    have z_a := (HS.out.get 1 rfl).lt
    have c_a10 := (HS.out.get 1 rfl).cell 10 rfl
    have c_a11 := (HS.out.get 1 rfl).cell 11 rfl
    have c_a12 := (HS.out.get 1 rfl).cell 12 rfl
    have c_a13 := (HS.out.get 1 rfl).cell 13 rfl
    have c_a14 := (HS.out.get 1 rfl).cell 14 rfl
    have c_a15 := (HS.out.get 1 rfl).cell 15 rfl
    have c_a16 := (HS.out.get 1 rfl).cell 16 rfl
    have c_a17 := (HS.out.get 1 rfl).cell 17 rfl
    have c_a18 := (HS.out.get 1 rfl).cell 18 rfl
    have c_a19 := (HS.out.get 1 rfl).cell 19 rfl
    have c_a20 := (HS.out.get 1 rfl).cell 20 rfl
    have c_a21 := (HS.out.get 1 rfl).cell 21 rfl
    have c_a22 := (HS.out.get 1 rfl).cell 22 rfl
    go_wp2_with fail
    trace "loop"
    have KN := Lib.hid (fun (V : World) (hV : Below w.heap.size w V) => KPl.out (n + 1) V (by omega) (by first | rfl | trivial) hV)
    obtain ⟨E, hE⟩ : ∃ E, E = Dv.plErr m xs l p0 i0 p1 i1 u s (os.take (n + 1)) (es.take (n + 1)) := ⟨_, rfl⟩
    rw [← hE] at KN
    have HE := Lib.hid hE
    clear hE
    generalize Dv.plVal m xs l p0 i0 p1 i1 u s (os.take (n + 1)) (es.take (n + 1)) = L2 at KN
    refine wp_region_then 21 _ ?af20 rfl (by kernel_rfl) (by kernel_rfl) ?walk20 ?tail20
    case walk20 =>
      intro V hV
      have SV := Lib.hid (HS.out.below hV)
      have z_m := (SV.out.get 0 rfl).lt
      have c_m0 := (SV.out.get 0 rfl).cell 0 rfl
      have c_m1 := (SV.out.get 0 rfl).cell 1 rfl
      have c_m2 := (SV.out.get 0 rfl).cell 2 rfl
      have c_m3 := (SV.out.get 0 rfl).cell 3 rfl
      have c_m4 := (SV.out.get 0 rfl).cell 4 rfl
      have c_m5 := (SV.out.get 0 rfl).cell 5 rfl
      have c_m6 := (SV.out.get 0 rfl).cell 6 rfl
      have c_m7 := (SV.out.get 0 rfl).cell 7 rfl
      have c_m8 := (SV.out.get 0 rfl).cell 8 rfl
      have c_m9 := (SV.out.get 0 rfl).cell 9 rfl
      have z_a := (SV.out.get 1 rfl).lt
      have c_a10 := (SV.out.get 1 rfl).cell 10 rfl
      have c_a11 := (SV.out.get 1 rfl).cell 11 rfl
      have c_a12 := (SV.out.get 1 rfl).cell 12 rfl
      have c_a13 := (SV.out.get 1 rfl).cell 13 rfl
      have c_a14 := (SV.out.get 1 rfl).cell 14 rfl
      have c_a15 := (SV.out.get 1 rfl).cell 15 rfl
      have c_a16 := (SV.out.get 1 rfl).cell 16 rfl
      have c_a17 := (SV.out.get 1 rfl).cell 17 rfl
      have c_a18 := (SV.out.get 1 rfl).cell 18 rfl
      have c_a19 := (SV.out.get 1 rfl).cell 19 rfl
      have c_a20 := (SV.out.get 1 rfl).cell 20 rfl
      have c_a21 := (SV.out.get 1 rfl).cell 21 rfl
      have c_a22 := (SV.out.get 1 rfl).cell 22 rfl
      simp only [List.take_succ_cons, List.take_zero]
      repeat (go_big_quiet_step (fail))
      refine wpQuiet_nil ?_
      rfl
    case tail20 =>
    intro w10 hb10
    have S10 := Lib.hid (HS.out.below hb10)
    clear hb10 HS z_m c_m0 c_m1 c_m2 c_m3 c_m4 c_m5 c_m6 c_m7 c_m8 c_m9 z_a c_a10 c_a11 c_a12 c_a13 c_a14 c_a15 c_a16 c_a17 c_a18 c_a19 c_a20 c_a21 c_a22
    go_simp
    refine (KN.out _ S10.out.1).mono ?_
    rintro e w11 ⟨hb11, A2, c2, rfl, _⟩
    have S11 := Lib.hid (S10.out.below hb11)
    clear hb11 S10 KN
    dsimp only
    (try simp only [Act.put, List.setIfInBounds_toArray, List.set_cons_zero, List.set_cons_succ])
    trace "call20"
    repeat (go_big_quiet_step (fail))
    refine wpQuiet_nil ?_
    intro xx
    have HXX := Lib.hid xx.far
    generalize xx.w = w12 at HXX ⊢
    have S12 := Lib.hid (S11.out.below HXX.out)
    clear S11 HXX
    by_cases hnr : n < r
    · have hE17 : E ≠ 17 := by rw [HE.out]; exact HRN.out.1 n hnr
      have d1 : (E == 17) = false := by simpa using hE17
      clear hE17 HE
      go_wp2
      go_roundw
      case rel => exact ⟨n + 1, by omega, by go_num, Lib.hid S12.out⟩
      case measure => simp [intOf]; omega
    obtain rfl : n = r := by omega
    have hE17 : E = 17 := by rw [HE.out]; exact HRN.out.2
    subst hE17
    clear HE HRN hnr
    have dne1 : ((n : Int) == (no : Int)) = false := by rw [beq_eq_false_iff_ne]; omega
    have dne2 : (n == no) = false := by rw [beq_eq_false_iff_ne]; omega
    have z_a := (S12.out.get 1 rfl).lt
    have c_a21 := (S12.out.get 1 rfl).cell 21 rfl
    go_upto_region 25 with (fail)
    trace "r25"
    clear z_a c_a21 kw kt k1 k2 k3
    have k2 : (n : Int) ≤ (ck : Int) := by omega
    have k3 : (n : Int) ≤ (ck' : Int) := by omega
    have KN := Lib.hid (fun (V : World) (hV : Below w.heap.size w V) => KPl.out n V (by omega) (by first | rfl | trivial) hV)
    obtain ⟨L2, hL2⟩ : ∃ L, L = Dv.plVal m xs l p0 i0 p1 i1 u s (os.take n) (es.take n) := ⟨_, rfl⟩
    have hrz := HRZ.out
    have hrl := HRL.out
    have hru := HRU.out
    rw [hrz.1, ← hL2] at KN
    rw [← hL2] at hrz hrl hru
    have HL2 := Lib.hid (And.intro hrz.2 hrl)
    have HRU2 := Lib.hid hru
    have KN2 := Lib.hid (show ∀ V : World, Below w.heap.size w V → Calls Try.prog 65 #[.agg #[.int .i64 m.r, .int .i64 m.ld, .int .i64 m.lq, .int .i64 m.fx, .int .i64 m.po, .int .i64 m.mi, .int .i64 m.sp, .int .i64 m.dr, .int .i64 m.cu, .int .i64 m.fa], .slice X nx c, .slice A nl cap, .agg #[.int .i64 p0, .int .i64 i0, .int .i64 p1, .int .i64 i1], .int .i64 u, .agg #[.int .i64 s.d, .int .i64 s.q, .int .i64 s.w, .int .i64 s.a], .slice (some aD) n ck, .slice (some aF) n ck'] V (fun e w' => Below V.heap.size V w' ∧ ∃ A cap, e = .returned (.tuple #[.slice A n cap, .int .i64 0]) ∧ RoAt w' A L2) from fun V hV => (KN.out V hV).mono fun _ _ ⟨h1, A, cap, h2, h3⟩ => ⟨h1, A, cap, by rw [h2, hrz.2], h3⟩)
    clear hL2 hrz hrl hru KN HRZ HRL HRU KPl
    refine wp_region_then 19 _ ?af25 rfl (by kernel_rfl) (by kernel_rfl) ?walk25 ?tail25
    case walk25 =>
      intro V hV
      have SV := Lib.hid (S12.out.below hV)
      have z_m := (SV.out.get 0 rfl).lt
      have c_m0 := (SV.out.get 0 rfl).cell 0 rfl
      have c_m1 := (SV.out.get 0 rfl).cell 1 rfl
      have c_m2 := (SV.out.get 0 rfl).cell 2 rfl
      have c_m3 := (SV.out.get 0 rfl).cell 3 rfl
      have c_m4 := (SV.out.get 0 rfl).cell 4 rfl
      have c_m5 := (SV.out.get 0 rfl).cell 5 rfl
      have c_m6 := (SV.out.get 0 rfl).cell 6 rfl
      have c_m7 := (SV.out.get 0 rfl).cell 7 rfl
      have c_m8 := (SV.out.get 0 rfl).cell 8 rfl
      have c_m9 := (SV.out.get 0 rfl).cell 9 rfl
      have z_a := (SV.out.get 1 rfl).lt
      have c_a10 := (SV.out.get 1 rfl).cell 10 rfl
      have c_a11 := (SV.out.get 1 rfl).cell 11 rfl
      have c_a12 := (SV.out.get 1 rfl).cell 12 rfl
      have c_a13 := (SV.out.get 1 rfl).cell 13 rfl
      have c_a14 := (SV.out.get 1 rfl).cell 14 rfl
      have c_a15 := (SV.out.get 1 rfl).cell 15 rfl
      have c_a16 := (SV.out.get 1 rfl).cell 16 rfl
      have c_a17 := (SV.out.get 1 rfl).cell 17 rfl
      have c_a18 := (SV.out.get 1 rfl).cell 18 rfl
      have c_a19 := (SV.out.get 1 rfl).cell 19 rfl
      have c_a20 := (SV.out.get 1 rfl).cell 20 rfl
      have c_a21 := (SV.out.get 1 rfl).cell 21 rfl
      have c_a22 := (SV.out.get 1 rfl).cell 22 rfl
      simp only [List.take_succ_cons, List.take_zero]
      repeat (go_big_quiet_step (fail))
      refine wpQuiet_nil ?_
      rfl
    case tail25 =>
    intro w13 hb13
    have S13 := Lib.hid (S12.out.below hb13)
    clear hb13 S12
    go_simp
    refine (KN2.out _ S13.out.1).mono ?_
    rintro e w14 ⟨hb14, A3, c3, rfl, hR3⟩
    have S14 := Lib.hid (S13.out.below hb14)
    have HR3 := Lib.hid hR3
    clear hb14 S13 KN2 hR3
    dsimp only
    (try simp only [Act.put, List.setIfInBounds_toArray, List.set_cons_zero, List.set_cons_succ])
    repeat (go_big_quiet_step (fail))
    refine wpQuiet_nil ?_
    intro xx
    have HXX := Lib.hid xx.far
    generalize xx.w = w15 at HXX ⊢
    have S15 := Lib.hid (S14.out.below HXX.out)
    have HR4 := Lib.hid (HR3.out.below HXX.out)
    clear S14 HXX HR3
    trace "call25"
    have z_a := (S15.out.get 1 rfl).lt
    have c_a17 := (S15.out.get 1 rfl).cell 17 rfl
    have c_a18 := (S15.out.get 1 rfl).cell 18 rfl
    have c_a19 := (S15.out.get 1 rfl).cell 19 rfl
    have c_a20 := (S15.out.get 1 rfl).cell 20 rfl
    have S16 := Lib.hid (S15.out.alloc [.int .i64 s.d, .int .i64 s.q, .int .i64 s.w, .int .i64 s.a] 57)
    have HR5 := Lib.hid (HR4.out.below ((Below.refl _ _).alloc (Nat.le_refl _) (.cells #[.int .i64 s.d, .int .i64 s.q, .int .i64 s.w, .int .i64 s.a] 57)))
    go_upto_region 29 with (fail)
    refine gen_own (fun W => St w [(w15.heap.size, 57, [.int .i64 s.d, .int .i64 s.q, .int .i64 s.w, .int .i64 s.a]), (g9, 52, [.int .i64 m.r, .int .i64 m.ld, .int .i64 m.lq, .int .i64 m.fx, .int .i64 m.po, .int .i64 m.mi, .int .i64 m.sp, .int .i64 m.dr, .int .i64 m.cu, .int .i64 m.fa]), (w.heap.size, 81, [.int .i64 m.r, .int .i64 m.ld, .int .i64 m.lq, .int .i64 m.fx, .int .i64 m.po, .int .i64 m.mi, .int .i64 m.sp, .int .i64 m.dr, .int .i64 m.cu, .int .i64 m.fa, .slice X nx c, .slice A nl cap, .int .i64 p0, .int .i64 i0, .int .i64 p1, .int .i64 i1, .int .i64 u, .int .i64 s.d, .int .i64 s.q, .int .i64 s.w, .int .i64 s.a, .slice (some aD) no ck, .slice (some aF) no ck'])] W) (fun W => RoAt W A3 L2) S16.out HR5.out ?_
    have hz15 : w.heap.size ≤ w15.heap.size := S15.out.1.size
    have HRB := Lib.hid (show ∀ i, i < L2.length → ∃ ad, A3 = some ad ∧ ad.block < w15.heap.size from fun i hi => by obtain ⟨ad, e, hz, _⟩ := HR4.out i hi; exact ⟨ad, e, hz⟩)
    clear S15 S16 HR4 HR5 z_a c_a17 c_a18 c_a19 c_a20
    rintro w16 i1_ i2_
    generalize w15.heap.size = g22 at i1_ hz15 HRB ⊢
    have S16 := Lib.hid i1_
    have HR5 := Lib.hid i2_
    clear i1_ i2_
    trace "r29"
    obtain ⟨zf, f0⟩ : (aF.add n).block < w16.heap.size ∧ w16.cell? (aF.add n) = some (.int .i64 (es.getD n 0)) := by
      have hb := S16.out.1
      exact ⟨Nat.lt_of_lt_of_le (World.block_lt_of_cell? _ _ HFC.out) hb.size, (hb.cell (World.block_lt_of_cell? _ _ HFC.out)).trans HFC.out⟩
    have HFC2 := Lib.hid f0
    clear f0 zf
    by_cases hn0 : n = 0
    · have hlast : Dv.lastS s L2 n = s := by unfold Dv.lastS; rw [if_pos hn0]
      have HLS := Lib.hid (show upB m.fa [Dv.plW s (es.getD n 0)] = false ∧ Dv.rotB s = true from by have := HRU2.out; rw [hlast] at this; exact this)
      have dz : decide ((0 : Int) < (n : Int)) = false := decide_eq_false (by omega)
      clear hlast
      go_upto_region 31 with (fail)
      rename_i KA hKA
      refine wp_codeP (c' := reg31) (by kernel_rfl) ?_
      exact Holds_mid m w.heap.size g9 g22 n no ck' aF (es.getD n 0) s [.int .i64 m.r, .int .i64 m.ld, .int .i64 m.lq, .int .i64 m.fx, .int .i64 m.po, .int .i64 m.mi, .int .i64 m.sp, .int .i64 m.dr, .int .i64 m.cu, .int .i64 m.fa, .slice X nx c, .slice A nl cap, .int .i64 p0, .int .i64 i0, .int .i64 p1, .int .i64 i1, .int .i64 u, .int .i64 s.d, .int .i64 s.q, .int .i64 s.w, .int .i64 s.a, .slice (some aD) no ck, .slice (some aF) no ck'] A3 L2 n c3 w w16 KA K3 _ _ _ _ _ _ _ _ _ _ _ _ _ _ _ _ _ _ _ _ _ _ _ _ _ _ _ _ _ _ _ _ _ _ _ _ _ _ _ _ _ _ _ _ _ _ _ _ _ _ _ _ _ _ _ _ _ _ _ _ _ _ _ _ _ _ _ _ _ _ _ _ _ _ _ _ _ _ _ _ _ _ _ _ _ _ _ _ _ _ _ _ _ _ _ _ _ _ _ _ _ _ _ _ _ _ _ _ _ _ _ _ _ _ _ _ _ _ _ _ _ _ _ _ _ _ _ _ _ _ _ _ _ _ _ _ _ _ _ _ _ _ _ _ _ _ _ _ _ _ _ _ _ _ _ _ _ _ _ _ _ _ _ _ _ _ _ _ _ _ _ _ _ _ _ _ _ _ _ _ _ _ _ _ _ _ _ _ _ _ _ _ _ _ _ _ _ _ _ _ _ _ _ _ _ _ _ _ _ _ _ _ _ _ _ _ _ _ _ _ _ _ _ _ _ _ _ _ _ _ _ _ _ _ _ _ _ _ _ _ _ _ _ _ _ _ _ _ _ _ _ _ _ _ _ _ _ _ _ _ _ _ _ _ _ _ _ _ _ _ _ _ _ _ _ _ _ _ _ _ _ _ _ _ _ _ _ _ _ _ _ _ _ _ _ _ _ _ _ _ _ _ S16.out rfl hrno hno1 HFC2.out hreb HLS.out.2 HM.out HLS.out.1 HR5.out (by have := HL2.out.1; omega) HL2.out.2 HL2.out.1 (fun a w' h => hK3 a w' (wp_codeP (by kernel_rfl) h)) (fun a w' h => hKA a w' (wp_codeP (by kernel_rfl) h))
    · have dz : decide ((0 : Int) < (n : Int)) = true := decide_eq_true (by omega)
      obtain ⟨a3, rfl, z3, x0, x1, x2, x3⟩ := HR5.out (n - 1) (by have := HL2.out.1; omega)
      have hlast : Dv.lastS s L2 n = L2.getD (n - 1) ⟨0, 0, 0, 0⟩ := by unfold Dv.lastS; rw [if_neg hn0]
      have HLS := Lib.hid (show upB m.fa [Dv.plW (L2.getD (n - 1) ⟨0, 0, 0, 0⟩) (es.getD n 0)] = false ∧ Dv.rotB (L2.getD (n - 1) ⟨0, 0, 0, 0⟩) = true from by have := HRU2.out; rw [hlast] at this; exact this)
      clear hlast
      generalize L2.getD (n - 1) ⟨0, 0, 0, 0⟩ = t at *
      have n1 : 1 ≤ n := by omega
      have kk1 : (1 : Int) ≤ (n : Int) := by omega
      have kk2 : (n : Int) - 1 < (n : Int) := by omega
      have z3' : (a3.add ((n - 1) * 4)).block < w16.heap.size := by rw [block_add]; exact z3
      have z_t := (S16.out.get 0 rfl).lt
      have c_t0 := (S16.out.get 0 rfl).cell 0 rfl
      have f_t0 := (S16.out.get 0 rfl).free 0
      have c_t1 := (S16.out.get 0 rfl).cell 1 rfl
      have f_t1 := (S16.out.get 0 rfl).free 1
      have c_t2 := (S16.out.get 0 rfl).cell 2 rfl
      have f_t2 := (S16.out.get 0 rfl).free 2
      have c_t3 := (S16.out.get 0 rfl).cell 3 rfl
      have f_t3 := (S16.out.get 0 rfl).free 3
      go_upto_region 31 with (fail)
      have hne3 : ∀ ad, some a3 = some ad → ad.block ≠ g22 := fun ad e => by
        obtain ⟨ad', e', hz⟩ := HRB.out (n - 1) (by have := HL2.out.1; omega)
        cases e; cases e'
        omega
      have hf := HFC2.out
      have zf := World.block_lt_of_cell? _ _ hf
      have hbF : (aF.add n).block ≠ g22 := by
        have := World.block_lt_of_cell? _ _ HFC.out
        omega
      rename_i KA hKA
      refine wp_codeP (c' := reg31) (by kernel_rfl) ?_
      exact Holds_mid m w.heap.size g9 g22 n no ck' aF (es.getD n 0) t [.int .i64 m.r, .int .i64 m.ld, .int .i64 m.lq, .int .i64 m.fx, .int .i64 m.po, .int .i64 m.mi, .int .i64 m.sp, .int .i64 m.dr, .int .i64 m.cu, .int .i64 m.fa, .slice X nx c, .slice A nl cap, .int .i64 p0, .int .i64 i0, .int .i64 p1, .int .i64 i1, .int .i64 u, .int .i64 s.d, .int .i64 s.q, .int .i64 s.w, .int .i64 s.a, .slice (some aD) no ck, .slice (some aF) no ck'] (some a3) L2 n c3 w _ KA K3 _ _ _ _ _ _ _ _ _ _ _ _ _ _ _ _ _ _ _ _ _ _ _ _ _ _ _ _ _ _ _ _ _ _ _ _ _ _ _ _ _ _ _ _ _ _ _ _ _ _ _ _ _ _ _ _ _ _ _ _ _ _ _ _ _ _ _ _ _ _ _ _ _ _ _ _ _ _ _ _ _ _ _ _ _ _ _ _ _ _ _ _ _ _ _ _ _ _ _ _ _ _ _ _ _ _ _ _ _ _ _ _ _ _ _ _ _ _ _ _ _ _ _ _ _ _ _ _ _ _ _ _ _ _ _ _ _ _ _ _ _ _ _ _ _ _ _ _ _ _ _ _ _ _ _ _ _ _ _ _ _ _ _ _ _ _ _ _ _ _ _ _ _ _ _ _ _ _ _ _ _ _ _ _ _ _ _ _ _ _ _ _ _ _ _ _ _ _ _ _ _ _ _ _ _ _ _ _ _ _ _ _ _ _ _ _ _ _ _ _ _ _ _ _ _ _ _ _ _ _ _ _ _ _ _ _ _ _ _ _ _ _ _ _ _ _ _ _ _ _ _ _ _ _ _ _ _ _ _ _ _ _ _ _ _ _ _ _ _ _ _ _ _ _ _ _ _ _ _ _ _ _ _ _ _ _ _ _ _ _ _ _ _ _ _ _ _ _ _ _ _ _ (S16.out.upd29 0 rfl hz15 [.int .i64 t.d, .int .i64 t.q, .int .i64 t.w, .int .i64 t.a] rfl) rfl hrno hno1 ((World.cell?_of_block (Below.heap_setCell _ _ _ _ hbF)).trans ((World.cell?_of_block (Below.heap_setCell _ _ _ _ hbF)).trans ((World.cell?_of_block (Below.heap_setCell _ _ _ _ hbF)).trans ((World.cell?_of_block (Below.heap_setCell _ _ _ _ hbF)).trans hf)))) hreb HLS.out.2 HM.out HLS.out.1 ((((HR5.out.set hne3 _).set hne3 _).set hne3 _).set hne3 _) (by have := HL2.out.1; omega) HL2.out.2 HL2.out.1 (fun a w' h => hK3 a w' (wp_codeP (by kernel_rfl) h)) (fun a w' h => hKA a w' (wp_codeP (by kernel_rfl) h))
end Go.Proofs.Ytcneohhfnnelgaa
namespace Go.Proofs.Ytcneohhfnnelgaa
open Go.RowKit
set_option linter.unusedVariables false
theorem u64_bd {n : Int} (h : (Lit.int .u64 n).wf = true) : 0 ≤ n ∧ n < 18446744073709551616 := by
  have h1 : IntKind.u64.min = 0 := rfl
  have h2 : IntKind.u64.max = 18446744073709551615 := rfl
  simp only [Lit.wf, Bool.and_eq_true, decide_eq_true_eq] at h
  omega
theorem u64s_of {w : World} {v : Value} (h : v = .slice none 0 0 ∨ ∃ a len cap, v = .slice (some a) len cap ∧ len ≤ cap ∧ cap ≤ maxLen ∧
      ∀ i, i < len → ∃ cs, cs.length = 1 ∧ (∀ j u, cs[j]? = some u → w.cell? ((a.add (i * 1)).add j) = some u) ∧ Rd w (.i .u64 .nil) cs) :
    ∃ (A : Option Addr) (xs : List Int) (cap : Nat), v = .slice A xs.length cap ∧ xs.length ≤ cap ∧ cap ≤ 9223372036854775807 ∧ U64At w A xs := by
  rcases h with rfl | ⟨a, len, cap, rfl, hl, hm, hi⟩
  · exact ⟨none, [], 0, rfl, Nat.le_refl _, by omega, fun i hi => by simp at hi⟩
  · obtain ⟨xs, hbl, hbs⟩ := choose_list (α := Int) (n := len) (Q := fun i x => (0 ≤ x ∧ x < 18446744073709551616) ∧ w.cell? ((a.add (i * 1)).add 0) = some (.int .u64 x)) (fun i hil => by
      obtain ⟨cs, _, hc, n0, _, rfl, hw, rfl⟩ := hi i hil
      exact ⟨n0, u64_bd hw, hc 0 _ rfl⟩)
    refine ⟨some a, xs, cap, by rw [hbl], by omega, by unfold maxLen at hm; omega, fun i hi => ?_⟩
    have hg : xs[i]? = some (xs.getD i 0) := by rw [List.getD_eq_getElem?_getD, List.getElem?_eq_getElem hi]; rfl
    obtain ⟨h1, h0⟩ := hbs i _ hg
    rw [add_zero', Nat.mul_one] at h0
    exact ⟨h1, a, rfl, h0⟩
end Go.Proofs.Ytcneohhfnnelgaa
