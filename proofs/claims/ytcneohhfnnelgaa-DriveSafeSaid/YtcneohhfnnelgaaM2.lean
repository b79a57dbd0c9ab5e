/- The plain law of duties: all are possible, the greatest and the least one have the sum Whole or one less, and uncut they differ as the phases do. -/
import Derived.Test.YtcneohhfnnelgaaW5
namespace Go.Proofs.Ytcneohhfnnelgaa
namespace Dv

/-- a duty without the clip -/
def duF (lo hi u x : Int) : Int := (2 * x - hi - lo + u) * 65536 / (2 * u)

theorem duF_bd {lo hi u x : Int} (hu : 1 ≤ u) (hw : hi - lo ≤ u) (h0 : lo ≤ x) (h1 : x ≤ hi) : 0 ≤ duF lo hi u x ∧ duF lo hi u x ≤ 65536 := by
  unfold duF
  refine ⟨Int.ediv_nonneg (by omega) (by omega), ?_⟩
  have h : (2 * x - hi - lo + u) * 65536 / (2 * u) < 65537 := Int.ediv_lt_of_lt_mul (by omega) (by omega)
  omega
theorem duD_eq {lo hi u x : Int} (hu : 1 ≤ u) (hw : hi - lo ≤ u) (h0 : lo ≤ x) (h1 : x ≤ hi) : duD lo hi u x = duF lo hi u x := by
  have := duF_bd hu hw h0 h1
  unfold duD clip
  unfold duF at *
  omega
/-- the remainder of a duty -/
theorem duF_rem (lo hi u x : Int) (hu : 1 ≤ u) : ∃ r, 0 ≤ r ∧ r < 2 * u ∧ duF lo hi u x * (2 * u) + r = (2 * x - hi - lo + u) * 65536 := by
  unfold duF
  refine ⟨(2 * x - hi - lo + u) * 65536 % (2 * u), Int.emod_nonneg _ (by omega), Int.emod_lt_of_pos _ (by omega), ?_⟩
  have := Int.mul_ediv_add_emod ((2 * x - hi - lo + u) * 65536) (2 * u)
  rw [Int.mul_comm] at this
  exact this
theorem duF_mono {lo hi u x y : Int} (hu : 1 ≤ u) (h : x ≤ y) : duF lo hi u x ≤ duF lo hi u y := by
  unfold duF
  exact Int.ediv_le_ediv (by omega) (by omega)
theorem duF_ends {lo hi u : Int} (hu : 1 ≤ u) : duF lo hi u lo + duF lo hi u hi = 65536 ∨ duF lo hi u lo + duF lo hi u hi = 65535 := by
  obtain ⟨r, r0, r1, hr⟩ := duF_rem lo hi u lo hu
  obtain ⟨s, s0, s1, hs⟩ := duF_rem lo hi u hi hu
  generalize duF lo hi u lo = A at *
  generalize duF lo hi u hi = B at *
  have e : (A + B) * (2 * u) + (r + s) = 65536 * (2 * u) := by rw [Int.add_mul]; omega
  have h1 : (A + B) * (2 * u) ≤ 65536 * (2 * u) := by omega
  have h2 : 65534 * (2 * u) < (A + B) * (2 * u) := by omega
  have h3 : A + B ≤ 65536 := Int.le_of_mul_le_mul_right h1 (by omega)
  have h4 : 65534 < A + B := Int.lt_of_mul_lt_mul_right h2 (by omega)
  omega
theorem duF_diff {lo hi u x y : Int} (hu : 1 ≤ u) : (duF lo hi u x - duF lo hi u y) * u - (x - y) * 65536 < u ∧ -u < (duF lo hi u x - duF lo hi u y) * u - (x - y) * 65536 := by
  obtain ⟨r, r0, r1, hr⟩ := duF_rem lo hi u x hu
  obtain ⟨s, s0, s1, hs⟩ := duF_rem lo hi u y hu
  generalize duF lo hi u x = A at *
  generalize duF lo hi u y = B at *
  have e1 : A * (2 * u) = 2 * (A * u) := by rw [Int.mul_left_comm]
  have e2 : B * (2 * u) = 2 * (B * u) := by rw [Int.mul_left_comm]
  rw [Int.sub_mul]
  omega
theorem cut_span {x y u : Int} (hw : x < y) : y * u / (y - x) = x * u / (y - x) + u := by
  have e : y * u = x * u + u * (y - x) := by
    have : y = x + (y - x) := by omega
    calc y * u = (x + (y - x)) * u := by rw [← this]
      _ = x * u + (y - x) * u := Int.add_mul _ _ _
      _ = x * u + u * (y - x) := by rw [Int.mul_comm (y - x) u]
  rw [e, Int.add_mul_ediv_right _ _ (by omega)]
theorem span_mono {x y u d : Int} (hu : 0 ≤ u) (hd : 0 < d) (h : x ≤ y) : x * u / d ≤ y * u / d :=
  Int.ediv_le_ediv hd (Int.mul_le_mul_of_nonneg_right h hu)

theorem mn3_eq {A B C L : Int} (h1 : L ≤ A) (h2 : L ≤ B) (h3 : L ≤ C) (h : L = A ∨ L = B ∨ L = C) : mn3 A B C = L := by unfold mn3; omega
theorem mx3_eq {A B C L : Int} (h1 : A ≤ L) (h2 : B ≤ L) (h3 : C ≤ L) (h : L = A ∨ L = B ∨ L = C) : mx3 A B C = L := by unfold mx3; omega
/-- what is said of duties -/
def DuGood (a b c u A B C : Int) (cut : Bool) : Prop :=
  0 ≤ mn3 A B C ∧ mx3 A B C ≤ 65536 ∧ (mx3 A B C + mn3 A B C = 65536 ∨ mx3 A B C + mn3 A B C = 65535) ∧
  (cut = false → ∀ x y X Y, (x = a ∧ X = A ∨ x = b ∧ X = B ∨ x = c ∧ X = C) → (y = a ∧ Y = A ∨ y = b ∧ Y = B ∨ y = c ∧ Y = C) → (X - Y) * u - (x - y) * 65536 < u ∧ -u < (X - Y) * u - (x - y) * 65536)

theorem good_of {a b c lo hi u : Int} (hu : 1 ≤ u) (hw : hi - lo ≤ u) (hlo : lo = mn3 a b c) (hhi : hi = mx3 a b c) :
    0 ≤ mn3 (duD lo hi u a) (duD lo hi u b) (duD lo hi u c) ∧ mx3 (duD lo hi u a) (duD lo hi u b) (duD lo hi u c) ≤ 65536 ∧
    (mx3 (duD lo hi u a) (duD lo hi u b) (duD lo hi u c) + mn3 (duD lo hi u a) (duD lo hi u b) (duD lo hi u c) = 65536 ∨ mx3 (duD lo hi u a) (duD lo hi u b) (duD lo hi u c) + mn3 (duD lo hi u a) (duD lo hi u b) (duD lo hi u c) = 65535) := by
  obtain ⟨n1, n2, n3, n4⟩ := mn3_bd a b c
  obtain ⟨m1, m2, m3, m4⟩ := mx3_bd a b c
  rw [← hlo] at n1 n2 n3 n4
  rw [← hhi] at m1 m2 m3 m4
  rw [duD_eq hu hw n1 m1, duD_eq hu hw n2 m2, duD_eq hu hw n3 m3]
  have ba := duF_bd hu hw n1 m1
  have bb := duF_bd hu hw n2 m2
  have bc := duF_bd hu hw n3 m3
  have la := duF_mono (lo := lo) (hi := hi) hu n1
  have lb := duF_mono (lo := lo) (hi := hi) hu n2
  have lc := duF_mono (lo := lo) (hi := hi) hu n3
  have ha := duF_mono (lo := lo) (hi := hi) hu m1
  have hb := duF_mono (lo := lo) (hi := hi) hu m2
  have hc := duF_mono (lo := lo) (hi := hi) hu m3
  have he := duF_ends (lo := lo) (hi := hi) hu
  have el : mn3 (duF lo hi u a) (duF lo hi u b) (duF lo hi u c) = duF lo hi u lo := by
    exact mn3_eq la lb lc (by rcases n4 with e | e | e <;> simp [e])
  have eh : mx3 (duF lo hi u a) (duF lo hi u b) (duF lo hi u c) = duF lo hi u hi := by
    exact mx3_eq ha hb hc (by rcases m4 with e | e | e <;> simp [e])
  rw [el, eh]
  have hlh : lo ≤ hi := by omega
  have b1 := duF_bd (x := lo) hu hw (Int.le_refl _) hlh
  have b2 := duF_bd (x := hi) hu hw hlh (Int.le_refl _)
  omega

theorem du_good {a b c u : Int} (hR : duR a b c u = true) : DuGood a b c u (duV a b c u a) (duV a b c u b) (duV a b c u c) (duC a b c u) := by
  have h : upB 1073741824 [a, b, c] = true ∧ (1 ≤ u ∧ u ≤ 1073741824) := by simpa [duR] using hR
  obtain ⟨_, hu, _⟩ := h
  have hV : ∀ x, duV a b c u x = duD (duLo a b c u) (duHi a b c u) u (duP a b c u x) := fun x => by simp [duV, hR]
  obtain ⟨n1, n2, n3, n4⟩ := mn3_bd a b c
  obtain ⟨m1, m2, m3, m4⟩ := mx3_bd a b c
  by_cases hc : u < mx3 a b c - mn3 a b c
  · have hC : duCut a b c u = true := by simpa [duCut] using hc
    have hP : ∀ x, duP a b c u x = x * u / (mx3 a b c - mn3 a b c) := by intro x; simp [duP, hC]
    have hlo : duLo a b c u = mn3 a b c * u / (mx3 a b c - mn3 a b c) := by
      unfold duLo
      rw [hP, hP, hP]
      have la := span_mono (u := u) (d := mx3 a b c - mn3 a b c) (by omega) (by omega) n1
      have lb := span_mono (u := u) (d := mx3 a b c - mn3 a b c) (by omega) (by omega) n2
      have lc := span_mono (u := u) (d := mx3 a b c - mn3 a b c) (by omega) (by omega) n3
      exact mn3_eq la lb lc (by rcases n4 with e | e | e <;> simp [e])
    have hhi : duHi a b c u = mx3 a b c * u / (mx3 a b c - mn3 a b c) := by
      unfold duHi
      rw [hP, hP, hP]
      have la := span_mono (u := u) (d := mx3 a b c - mn3 a b c) (by omega) (by omega) m1
      have lb := span_mono (u := u) (d := mx3 a b c - mn3 a b c) (by omega) (by omega) m2
      have lc := span_mono (u := u) (d := mx3 a b c - mn3 a b c) (by omega) (by omega) m3
      exact mx3_eq la lb lc (by rcases m4 with e | e | e <;> simp [e])
    have hw : duHi a b c u - duLo a b c u ≤ u := by
      rw [hlo, hhi, cut_span (by omega)]
      omega
    rw [hV, hV, hV]
    obtain ⟨g1, g2, g3⟩ := good_of (a := duP a b c u a) (b := duP a b c u b) (c := duP a b c u c) hu hw rfl rfl
    exact ⟨g1, g2, g3, fun h => by simp [duC, hR, hC] at h⟩
  · have hC : duCut a b c u = false := by simpa [duCut] using hc
    have hP : ∀ x, duP a b c u x = x := by intro x; simp [duP, hC]
    have hlo : duLo a b c u = mn3 a b c := by unfold duLo; rw [hP, hP, hP]
    have hhi : duHi a b c u = mx3 a b c := by unfold duHi; rw [hP, hP, hP]
    rw [hV, hV, hV, hP, hP, hP, hlo, hhi]
    have hw : mx3 a b c - mn3 a b c ≤ u := by omega
    obtain ⟨g1, g2, g3⟩ := good_of (a := a) (b := b) (c := c) hu hw rfl rfl
    refine ⟨g1, g2, g3, fun _ x y X Y hx hy => ?_⟩
    have hX : X = duF (mn3 a b c) (mx3 a b c) u x := by
      rcases hx with ⟨rfl, rfl⟩ | ⟨rfl, rfl⟩ | ⟨rfl, rfl⟩
      · exact duD_eq hu hw n1 m1
      · exact duD_eq hu hw n2 m2
      · exact duD_eq hu hw n3 m3
    have hY : Y = duF (mn3 a b c) (mx3 a b c) u y := by
      rcases hy with ⟨rfl, rfl⟩ | ⟨rfl, rfl⟩ | ⟨rfl, rfl⟩
      · exact duD_eq hu hw n1 m1
      · exact duD_eq hu hw n2 m2
      · exact duD_eq hu hw n3 m3
    rw [hX, hY]
    exact duF_diff hu
end Dv
end Go.Proofs.Ytcneohhfnnelgaa
