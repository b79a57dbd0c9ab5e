/- Contracts that the claim leans on, part 4: M28 M29 M30 N3 S2 T1 S1 S4b S4 S3 R16 S6 S7 R17 S8a S9 S8 S10 S11 S12 S14 T3 N4 T4c T2 T4b S5 T4 T5 T6 N5 -/
import Derived.Test.YtmebpglkeedaoaaDK3
import Derived.Deep.Cut
import Derived.RangeFuncNested
import Derived.RangeFuncLeaves
import Derived.RangeFuncWrites
import Derived.RangeFuncBound
import Derived.Shelf.Abstract
import Derived.OwnWalkIn
import Derived.TacticsInMore
import Derived.LoopNIn
import Derived.LoopIn
import Derived.Sort.CutIn
set_option linter.unusedVariables false
set_option linter.unusedSimpArgs false
set_option linter.unnecessarySimpa false
namespace Go.Proofs.Ytmebpglkeedaoaa
namespace Dp
section
variable {S : Site} {cs : List Car}
theorem carA_pre (c : Car) (a k : Nat) : ∀ d, ∃ r, carA c a (k + d) = carA c a k ++ r
  | 0 => ⟨[], by simp⟩
  | d + 1 => by
    obtain ⟨r, hr⟩ := carA_pre c a k d
    exact ⟨r ++ slA c (a + 2 * (k + d)) (k + d), by rw [← Nat.add_assoc, carA, hr, List.append_assoc]⟩
theorem carsA_pre (S : Site) (cs : List Car) (i : Nat) : ∀ d, ∃ r, carsA S cs (i + d) = carsA S cs i ++ r
  | 0 => ⟨[], by simp⟩
  | d + 1 => by
    obtain ⟨r, hr⟩ := carsA_pre S cs i d
    exact ⟨r ++ (carA (cs.getD (i + d) default) (nodeF S.lim.length (i + d) 0) S.lim.length ++ finA (cs.getD (i + d) default) (nodeF S.lim.length (i + d) S.lim.length)), by rw [← Nat.add_assoc, carsA, hr, List.append_assoc]⟩
theorem slot_pre {i k : Nat} (hi : i < cs.length) (hk : k < S.lim.length) : ∃ r, carsA S cs cs.length = arcsAt S cs i k ++ (slA (cs.getD i default) (nodeF S.lim.length i k) k ++ r) := by
  obtain ⟨r, hr⟩ := carsA_pre S cs (i + 1) (cs.length - (i + 1))
  obtain ⟨r2, hr2⟩ := carA_pre (cs.getD i default) (nodeF S.lim.length i 0) (k + 1) (S.lim.length - (k + 1))
  rw [show i + 1 + (cs.length - (i + 1)) = cs.length by omega] at hr
  rw [show k + 1 + (S.lim.length - (k + 1)) = S.lim.length by omega] at hr2
  refine ⟨r2 ++ finA (cs.getD i default) (nodeF S.lim.length i S.lim.length) ++ r, ?_⟩
  rw [hr, arcsAt_last, arcsAt, hr2, nodeF_k S.lim.length i k]
  simp [arcsAt, carA]
theorem last_pre {i : Nat} (hi : i < cs.length) : ∃ r, carsA S cs cs.length = arcsAt S cs i S.lim.length ++ (finA (cs.getD i default) (nodeF S.lim.length i S.lim.length) ++ r) := by
  obtain ⟨r, hr⟩ := carsA_pre S cs (i + 1) (cs.length - (i + 1))
  rw [show i + 1 + (cs.length - (i + 1)) = cs.length by omega] at hr
  exact ⟨r, by rw [hr, arcsAt_last, List.append_assoc]⟩
theorem mid_get {α : Type} [Inhabited α] {A X R : List α} {j : Nat} (hj : j < X.length) : (A ++ (X ++ R)).getD (A.length + j) default = X.getD j default ∧ A.length + j < (A ++ (X ++ R)).length := by
  constructor
  · rw [List.getD_eq_getElem?_getD, List.getElem?_append_right (by omega), show A.length + j - A.length = j by omega, List.getElem?_append_left hj, List.getD_eq_getElem?_getD]
  · simp; omega
theorem limA_get {t : Nat} : ∀ T, t < T → (limA S T).getD t default = ⟨0, 1 + t, S.lim.getD t 0, S.buy.getD t 0⟩
  | T + 1, h => by
    by_cases e : t = T
    · subst e
      have := mid_get (A := limA S t) (X := [(⟨0, 1 + t, S.lim.getD t 0, S.buy.getD t 0⟩ : Arc)]) (R := []) (j := 0) (by simp)
      rw [limA_len, Nat.add_zero, List.append_nil] at this
      exact this.1
    · have ih := limA_get (t := t) T (by omega)
      rw [limA, List.getD_eq_getElem?_getD, List.getElem?_append_left (by rw [limA_len]; omega), ← List.getD_eq_getElem?_getD]
      exact ih
theorem expA_get {t : Nat} : ∀ T, t < T → (expA S T).getD t default = ⟨1 + t, 0, S.exp.getD t 0, -(S.sell.getD t 0)⟩
  | T + 1, h => by
    by_cases e : t = T
    · subst e
      have := mid_get (A := expA S t) (X := [(⟨1 + t, 0, S.exp.getD t 0, -(S.sell.getD t 0)⟩ : Arc)]) (R := []) (j := 0) (by simp)
      rw [expA_len, Nat.add_zero, List.append_nil] at this
      exact this.1
    · have ih := expA_get (t := t) T (by omega)
      rw [expA, List.getD_eq_getElem?_getD, List.getElem?_append_left (by rw [expA_len]; omega), ← List.getD_eq_getElem?_getD]
      exact ih
theorem flow_in (h : stE S cs = 0) {fl : List Int} (hf : isFlow (netN S cs) fl = true) {A X R : List Arc} (he : carsA S cs cs.length = A ++ (X ++ R)) {j : Nat} (hj : j < X.length) : 0 ≤ fA fl (A.length + j) ∧ fA fl (A.length + j) ≤ (X.getD j default).cap := by
  have h1 := (flow_left (net_ok h) hf).2
  have h2 := mid_get (A := A) (R := R) hj
  have h3 := h1 (A.length + j) (by show _ < (carsA S cs cs.length).length; rw [he]; exact h2.2)
  have h4 : (netN S cs).arcs = A ++ (X ++ R) := he
  rw [h4, h2.1] at h3
  exact h3
theorem flow_slA (h : stE S cs = 0) {fl : List Int} (hf : isFlow (netN S cs) fl = true) {i k : Nat} (hi : i < cs.length) (hk : k < S.lim.length) :
    (0 ≤ fA fl (bA S cs i k) ∧ fA fl (bA S cs i k) ≤ (cs.getD i default).cap) ∧ (0 ≤ fA fl (bA S cs i k + 1) ∧ fA fl (bA S cs i k + 1) ≤ (cs.getD i default).cap) ∧
    (0 ≤ aIn S cs (fA fl) i k ∧ aIn S cs (fA fl) i k ≤ (cs.getD i default).inn) ∧ (0 ≤ aOut S cs (fA fl) i k ∧ aOut S cs (fA fl) i k ≤ (cs.getD i default).out) := by
  obtain ⟨r, hr⟩ := slot_pre hi hk
  have hc := (carOk_iff.1 (carok_of h hi)).1
  have hl := slA_len (cs.getD i default) (nodeF S.lim.length i k) k
  have f0 := flow_in h hf hr (j := 0) (by omega)
  have f1 := flow_in h hf hr (j := 1) (by omega)
  refine ⟨f0, f1, ?_, ?_⟩
  · unfold aIn
    by_cases ha : awayC (cs.getD i default) k = true
    · rw [if_pos ha]; omega
    · rw [if_neg ha]
      have e : slA (cs.getD i default) (nodeF S.lim.length i k) k = [⟨nodeF S.lim.length i k, nodeF S.lim.length i k + 1, (cs.getD i default).cap, 0⟩, ⟨nodeF S.lim.length i k + 1, nodeF S.lim.length i k + 2, (cs.getD i default).cap, 0⟩, ⟨1 + k, nodeF S.lim.length i k + 2, (cs.getD i default).inn, 0⟩, ⟨nodeF S.lim.length i k + 1, 1 + k, (cs.getD i default).out, 0⟩] := by unfold slA; rw [if_neg ha]
      rw [e] at hr
      exact flow_in h hf hr (j := 2) (by simp)
  · unfold aOut
    by_cases ha : awayC (cs.getD i default) k = true
    · rw [if_pos ha]; omega
    · rw [if_neg ha]
      have e : slA (cs.getD i default) (nodeF S.lim.length i k) k = [⟨nodeF S.lim.length i k, nodeF S.lim.length i k + 1, (cs.getD i default).cap, 0⟩, ⟨nodeF S.lim.length i k + 1, nodeF S.lim.length i k + 2, (cs.getD i default).cap, 0⟩, ⟨1 + k, nodeF S.lim.length i k + 2, (cs.getD i default).inn, 0⟩, ⟨nodeF S.lim.length i k + 1, 1 + k, (cs.getD i default).out, 0⟩] := by unfold slA; rw [if_neg ha]
      rw [e] at hr
      exact flow_in h hf hr (j := 3) (by simp)
theorem flow_last (h : stE S cs = 0) {fl : List Int} (hf : isFlow (netN S cs) fl = true) {i : Nat} (hi : i < cs.length) : (0 ≤ fA fl (bA S cs i S.lim.length) ∧ fA fl (bA S cs i S.lim.length) ≤ (cs.getD i default).cap) ∧ 0 ≤ fA fl (bA S cs i S.lim.length + 1) := by
  obtain ⟨r, hr⟩ := last_pre (S := S) hi
  have f0 := flow_in h hf hr (j := 0) (by simp [finA])
  have f1 := flow_in h hf hr (j := 1) (by simp [finA])
  exact ⟨f0, f1.1⟩
theorem flow_lim (h : stE S cs = 0) {fl : List Int} (hf : isFlow (netN S cs) fl = true) {k : Nat} (hk : k < S.lim.length) : (0 ≤ fA fl k ∧ fA fl k ≤ S.lim.getD k 0) ∧ (0 ≤ fA fl (S.lim.length + k) ∧ fA fl (S.lim.length + k) ≤ S.exp.getD k 0) := by
  obtain ⟨r, hr⟩ := carsA_pre S cs 0 cs.length
  rw [Nat.zero_add, carsA] at hr
  have h1 : carsA S cs cs.length = [] ++ (limA S S.lim.length ++ (expA S S.lim.length ++ r)) := by rw [hr]; simp
  have h2 : carsA S cs cs.length = limA S S.lim.length ++ (expA S S.lim.length ++ r) := by rw [hr]; simp
  have f1 := flow_in h hf h1 (j := k) (by rw [limA_len]; exact hk)
  have f2 := flow_in h hf h2 (j := k) (by rw [expA_len]; exact hk)
  rw [limA_get _ hk, List.length_nil, Nat.zero_add] at f1
  rw [expA_get _ hk, limA_len] at f2
  exact ⟨f1, f2⟩
theorem flow_lev (h : stE S cs = 0) {fl : List Int} (hf : isFlow (netN S cs) fl = true) {i : Nat} (hi : i < cs.length) : ∀ k, k ≤ S.lim.length → lev (cs.getD i default) ((tbF S cs fl).inn.getD i []) ((tbF S cs fl).out.getD i []) k = fA fl (bA S cs i k) ∧ incK S cs (fA fl) i k = fA fl (bA S cs i k) := by
  have hc := flow_car h hf i hi
  have hinc : ∀ k, k ≤ S.lim.length → incK S cs (fA fl) i k = fA fl (bA S cs i k) := fun k hk => by
    by_cases e : k < S.lim.length
    · have := (hc.1 k e).1
      unfold r0K at this
      omega
    · obtain rfl : k = S.lim.length := by omega
      have := hc.2.1
      omega
  intro k
  induction k with
  | zero => intro hk; exact ⟨hinc 0 hk, hinc 0 hk⟩
  | succ k ih =>
    intro hk
    refine ⟨?_, hinc (k + 1) hk⟩
    have h1 := ih (by omega)
    have h2 := (hc.1 k (by omega)).2
    have h3 := hinc (k + 1) hk
    unfold r1K at h2
    simp only [incK] at h3
    rw [lev, h1.1, tbF_in hi (by omega), tbF_out hi (by omega)]
    omega
theorem tb_len (S : Site) (cs : List Car) (fl : List Int) : (tbF S cs fl).inn.length = cs.length ∧ (tbF S cs fl).out.length = cs.length := by simp [tbF]
theorem tb_row (S : Site) {cs : List Car} (fl : List Int) {i : Nat} (hi : i < cs.length) : ((tbF S cs fl).inn.getD i []).length = S.lim.length ∧ ((tbF S cs fl).out.getD i []).length = S.lim.length := by
  unfold tbF
  simp only []
  rw [getD_mapI _ _ _ _ hi, getD_mapI _ _ _ _ hi]
  simp [inR, outR, rowK]
theorem tb_dr (h : stE S cs = 0) {fl : List Int} (hf : isFlow (netN S cs) fl = true) {k : Nat} (hk : k < S.lim.length) : drP (tbF S cs fl) k cs.length = leK S (fA fl) k := by
  rw [flow_slot h hf k hk]
  have : ∀ m, m ≤ cs.length → drP (tbF S cs fl) k m = su (fun i => aIn S cs (fA fl) i k - aOut S cs (fA fl) i k) m := fun m => by
    induction m with
    | zero => intro _; rfl
    | succ m ih => intro hm; rw [drP, su, ih (by omega), tbF_in (by omega) hk, tbF_out (by omega) hk]
  exact this _ (Nat.le_refl _)
theorem flow_keeps (h : stE S cs = 0) {fl : List Int} (hf : isFlow (netN S cs) fl = true) : plE S cs (tbF S cs fl) = 0 := by
  have hl := tb_len S cs fl
  have hg : (lenG cs.length S.lim.length (tbF S cs fl).inn && lenG cs.length S.lim.length (tbF S cs fl).out) = true := by
    rw [Bool.and_eq_true, lenG_iff, lenG_iff]
    exact ⟨⟨hl.1, fun i hi => (tb_row S fl hi).1⟩, ⟨hl.2, fun i hi => (tb_row S fl hi).2⟩⟩
  refine plE_good h hg (fun k hk => ?_) (fun i hi => ?_)
  · refine slotE_ok (fun i hi => ?_) ?_
    · unfold carAt
      rw [carG_iff, tbF_in hi hk, tbF_out hi hk]
      have := flow_slA h hf hi hk
      refine ⟨this.2.2.1, this.2.2.2, fun ha => ?_⟩
      unfold aIn aOut
      rw [if_pos ha, if_pos ha]; rfl
    · rw [hl.1, tb_dr h hf hk]
      have := flow_lim h hf hk
      unfold leK
      omega
  · intro k hk
    rw [levG_iff]
    have hv := (flow_lev h hf hi k (by omega)).1
    rw [hv]
    have hc := (carOk_iff.1 (carok_of h hi)).1
    unfold least
    by_cases e : k < S.lim.length
    · have h1 := flow_slA h hf hi e
      have h2 := ((flow_car h hf i hi).1 k e).2
      have h3 := useC_bd (carok_of h hi) k
      rw [if_pos e, tbF_out hi e]
      unfold r1K at h2
      omega
    · obtain rfl : k = S.lim.length := by omega
      have h1 := flow_last h hf hi
      have h2 := (flow_car h hf i hi).2.2
      rw [if_neg e]
      omega
def cA (f : Nat → Int) : List Arc → Nat → Int
  | [], _ => 0
  | a :: l, j => f j * a.cost + cA f l (j + 1)
theorem cA_append (f : Nat → Int) : ∀ (a b : List Arc) (j : Nat), cA f (a ++ b) j = cA f a j + cA f b (j + a.length)
  | [], b, j => by simp [cA]
  | x :: a, b, j => by
    simp only [List.cons_append, cA, cA_append f a b (j + 1), List.length_cons]
    rw [show j + 1 + a.length = j + (a.length + 1) by omega]; omega
theorem cost_cA (N : Net) (fl : List Int) : ∀ k, k ≤ N.arcs.length → costK N fl k = cA (fA fl) (N.arcs.take k) 0
  | 0, _ => by simp [costK, cA]
  | k + 1, hk => by
    rw [costK, cost_cA N fl k (by omega), List.take_succ_eq_append_getElem (by omega), cA_append]
    simp only [cA, List.length_take, Nat.min_eq_left (show k ≤ N.arcs.length by omega), Nat.zero_add, Int.add_zero]
    rw [List.getD_eq_getElem?_getD (l := N.arcs), List.getElem?_eq_getElem (by omega)]
    rfl
theorem cA_zero (f : Nat → Int) : ∀ (l : List Arc) (j : Nat), (∀ a, a ∈ l → a.cost = 0) → cA f l j = 0
  | [], _, _ => rfl
  | a :: l, j, h => by
    rw [cA, h a (by simp), cA_zero f l (j + 1) (fun b hb => h b (by simp [hb]))]; simp
theorem slA_free (c : Car) (a k : Nat) : ∀ x, x ∈ slA c a k → x.cost = 0 := by
  intro x hx
  simp only [slA, List.mem_cons] at hx
  rcases hx with rfl | rfl | hx
  · rfl
  · rfl
  · split at hx
    · cases hx
    · simp only [List.mem_cons, List.not_mem_nil, or_false] at hx
      rcases hx with rfl | rfl <;> rfl
theorem carA_free (c : Car) (a : Nat) : ∀ k x, x ∈ carA c a k → x.cost = 0
  | 0, x, hx => by cases hx
  | k + 1, x, hx => by
    simp only [carA, List.mem_append] at hx
    rcases hx with hx | hx
    · exact carA_free c a k x hx
    · exact slA_free c _ k x hx
theorem lim_cost (f : Nat → Int) : ∀ t, cA f (limA S t) 0 = su (fun k => f k * S.buy.getD k 0) t
  | 0 => rfl
  | t + 1 => by simp only [limA, cA_append, limA_len, su, lim_cost f t, cA, Nat.zero_add]; omega
theorem exp_cost (f : Nat → Int) (b : Nat) : ∀ t, cA f (expA S t) b = su (fun k => -(f (b + k) * S.sell.getD k 0)) t
  | 0 => rfl
  | t + 1 => by simp only [expA, cA_append, expA_len, su, exp_cost f b t, cA, Int.mul_neg]; omega
theorem cost_site (S : Site) (cs : List Car) (fl : List Int) : costK (netN S cs) fl (carsA S cs cs.length).length = su (fun k => fA fl k * S.buy.getD k 0 - fA fl (S.lim.length + k) * S.sell.getD k 0) S.lim.length := by
  have h1 := cost_cA (netN S cs) fl (carsA S cs cs.length).length (Nat.le_refl _)
  rw [show (netN S cs).arcs = carsA S cs cs.length from rfl, List.take_length] at h1
  have h2 : ∀ i, cA (fA fl) (carsA S cs i) 0 = su (fun k => fA fl k * S.buy.getD k 0) S.lim.length + su (fun k => -(fA fl (S.lim.length + k) * S.sell.getD k 0)) S.lim.length := fun i => by
    induction i with
    | zero => rw [carsA, cA_append, limA_len, lim_cost, Nat.zero_add, exp_cost]
    | succ i ih =>
      rw [carsA, cA_append, ih, cA_zero _ _ _ (fun a ha => ?_)]
      · omega
      · rw [List.mem_append] at ha
        rcases ha with ha | ha
        · exact carA_free _ _ _ a ha
        · simp only [finA, List.mem_cons, List.not_mem_nil, or_false] at ha
          rcases ha with rfl | rfl <;> rfl
  rw [h1, h2, ← su_add]
  exact su_congr _ (fun k _ => by omega)
theorem prc_su (T : Tab) (m : Nat) : ∀ n, prc S T m n = su (fun k => prQ S T m k) n
  | 0 => rfl
  | n + 1 => by simp only [prc, su, prc_su T m n]
theorem su_le {g h : Nat → Int} : ∀ n : Nat, (∀ k, k < n → g k ≤ h k) → su g n ≤ su h n
  | 0, _ => Int.le_refl _
  | n + 1, e => by have := su_le (g := g) (h := h) n (fun k hk => e k (by omega)); have := e n (by omega); simp only [su]; omega
theorem flow_price (h : stE S cs = 0) {fl : List Int} (hf : isFlow (netN S cs) fl = true) : prc S (tbF S cs fl) cs.length S.lim.length ≤ costK (netN S cs) fl (carsA S cs cs.length).length := by
  rw [cost_site, prc_su]
  refine su_le _ (fun k hk => ?_)
  have hd := tb_dr h hf hk
  have hb := flow_lim h hf hk
  have hs := slotOk_iff.1 ((stE_0 h).2.2.1 k hk)
  unfold leK at hd
  unfold prQ
  rw [hd]
  generalize fA fl k = l at *
  generalize fA fl (S.lim.length + k) = e at *
  generalize S.buy.getD k 0 = b at *
  generalize S.sell.getD k 0 = c at *
  have h1 : e * c ≤ e * b := Int.mul_le_mul_of_nonneg_left hs.2.2.2.2 hb.2.1
  have h2 : l * c ≤ l * b := Int.mul_le_mul_of_nonneg_left hs.2.2.2.2 hb.1.1
  by_cases hp : 0 ≤ l - e
  · rw [show max 0 (l - e) = l - e by omega, show min 0 (l - e) = 0 by omega, Int.sub_mul]; omega
  · rw [show max 0 (l - e) = 0 by omega, show min 0 (l - e) = l - e by omega, Int.sub_mul]; omega
end
end Dp
end Go.Proofs.Ytmebpglkeedaoaa
namespace Go.Proofs.Ytmebpglkeedaoaa
namespace Dp
def CapL : List Arc → List Int → Prop
  | [], [] => True
  | a :: l, x :: f => (0 ≤ x ∧ x ≤ a.cap) ∧ CapL l f
  | _, _ => False
theorem CapL.append : ∀ {a b : List Arc} {f g : List Int}, CapL a f → CapL b g → CapL (a ++ b) (f ++ g)
  | [], _, [], _, _, h => h
  | _ :: a, _, _ :: f, _, h1, h2 => ⟨h1.1, CapL.append h1.2 h2⟩
  | [], _, _ :: _, _, h, _ => False.elim h
  | _ :: _, _, [], _, h, _ => False.elim h
theorem CapL.len : ∀ {a : List Arc} {f : List Int}, CapL a f → f.length = a.length
  | [], [], _ => rfl
  | _ :: a, _ :: f, h => by simp [CapL.len h.2]
  | [], _ :: _, h => False.elim h
  | _ :: _, [], h => False.elim h
theorem CapL.get : ∀ {a : List Arc} {f : List Int}, CapL a f → ∀ j, j < a.length → 0 ≤ f.getD j 0 ∧ f.getD j 0 ≤ (a.getD j default).cap
  | [], [], _, j, hj => by simp at hj
  | _ :: a, _ :: f, h, 0, _ => h.1
  | _ :: a, _ :: f, h, j + 1, hj => by
    have := CapL.get h.2 j (by simpa using hj)
    simpa using this
  | [], _ :: _, h, _, _ => False.elim h
  | _ :: _, [], h, _, _ => False.elim h
theorem use_away {n : Nat} {c : Car} (h : carOk n c = true) {k : Nat} (ha : awayC c k = false) : useC c k = 0 := by
  have h2 := (carOk_iff.1 h).2
  unfold useC
  unfold awayC at ha
  have : ∀ m, m ≤ c.trips.length → awayP c.trips k m = false → useP c.trips k m = 0 := by
    intro m
    induction m with
    | zero => intro _ _; rfl
    | succ m ih =>
      intro hm hb
      simp only [awayP, Bool.or_eq_false_iff, decide_eq_false_iff_not] at hb
      have ht := tripOk_iff.1 (h2 m (by omega))
      simp only [useP]
      rw [if_neg (fun e => hb.2 ⟨by omega, by omega⟩)]
      exact ih (by omega) hb.1
  exact this _ (Nat.le_refl _) ha
def slF (c : Car) (x y : List Int) (k : Nat) : List Int := lev c x y k :: (lev c x y k - useC c k - y.getD k 0) :: (if awayC c k = true then [] else [x.getD k 0, y.getD k 0])
def flA (c : Car) (x y : List Int) : Nat → List Int
  | 0 => []
  | k + 1 => flA c x y k ++ slF c x y k
section
variable (S : Site) (cs : List Car) (T : Tab)
def flC : Nat → List Int
  | 0 => (List.range S.lim.length).map (fun k => max 0 (drP T k cs.length)) ++ (List.range S.lim.length).map (fun k => max 0 (-(drP T k cs.length)))
  | i + 1 => flC i ++ (flA (cs.getD i default) (T.inn.getD i []) (T.out.getD i []) S.lim.length ++ [lev (cs.getD i default) (T.inn.getD i []) (T.out.getD i []) S.lim.length, lev (cs.getD i default) (T.inn.getD i []) (T.out.getD i []) S.lim.length - (cs.getD i default).fin])
def flT : List Int := flC S cs T cs.length
end
section
variable {S : Site} {cs : List Car} {T : Tab}
theorem cap_slot (h : Keeps S cs T) {i k : Nat} (hi : i < cs.length) (hk : k < S.lim.length) (a : Nat) : CapL (slA (cs.getD i default) a k) (slF (cs.getD i default) (T.inn.getD i []) (T.out.getD i []) k) := by
  have hl := h.level hi (k := k) (by omega)
  have hc := carG_iff.1 (h.car k hk i hi)
  have hg := (levG_iff.1 (h.lv i hi k (by omega))).1
  have hu := useC_bd (h.carok hi) k
  unfold least at hg
  rw [if_pos hk] at hg
  unfold slA slF
  by_cases ha : awayC (cs.getD i default) k = true
  · have := hc.2.2 ha
    rw [if_pos ha, if_pos ha]
    exact ⟨hl, ⟨by omega, by simp only; omega⟩, trivial⟩
  · have h0 := use_away (h.carok hi) (by simpa using ha)
    rw [if_neg ha, if_neg ha]
    exact ⟨hl, ⟨by omega, by simp only; omega⟩, hc.1, hc.2.1, trivial⟩
theorem cap_car (h : Keeps S cs T) {i : Nat} (hi : i < cs.length) (a : Nat) : ∀ k, k ≤ S.lim.length → CapL (carA (cs.getD i default) a k) (flA (cs.getD i default) (T.inn.getD i []) (T.out.getD i []) k)
  | 0, _ => trivial
  | k + 1, hk => (cap_car h hi a k (by omega)).append (cap_slot h hi (by omega) _)
theorem cap_lim (g : Nat → Int) (hg : ∀ k, k < S.lim.length → 0 ≤ g k ∧ g k ≤ S.lim.getD k 0) : ∀ t, t ≤ S.lim.length → CapL (limA S t) ((List.range t).map g)
  | 0, _ => trivial
  | t + 1, ht => by
    rw [List.range_succ, List.map_append]
    exact (cap_lim g hg t (by omega)).append ⟨hg t (by omega), trivial⟩
theorem cap_exp (g : Nat → Int) (hg : ∀ k, k < S.lim.length → 0 ≤ g k ∧ g k ≤ S.exp.getD k 0) : ∀ t, t ≤ S.lim.length → CapL (expA S t) ((List.range t).map g)
  | 0, _ => trivial
  | t + 1, ht => by
    rw [List.range_succ, List.map_append]
    exact (cap_exp g hg t (by omega)).append ⟨hg t (by omega), trivial⟩
theorem cap_all (h : Keeps S cs T) : ∀ i, i ≤ cs.length → CapL (carsA S cs i) (flC S cs T i)
  | 0, _ => by
    have hs := (stE_0 h.ok).2.2.1
    refine (cap_lim _ (fun k hk => ?_) _ (Nat.le_refl _)).append (cap_exp _ (fun k hk => ?_) _ (Nat.le_refl _))
    · have := h.dr k hk
      rw [h.li] at this
      have := slotOk_iff.1 (hs k hk)
      omega
    · have := h.dr k hk
      rw [h.li] at this
      have := slotOk_iff.1 (hs k hk)
      omega
  | i + 1, hi => by
    have hl := h.level (i := i) (by omega) (Nat.le_refl S.lim.length)
    have hf := h.last (i := i) (by omega)
    have hc := (carOk_iff.1 (h.carok (i := i) (by omega))).1
    exact (cap_all h i (by omega)).append ((cap_car h (by omega) _ _ (Nat.le_refl _)).append ⟨hl, ⟨by omega, by simp only; omega⟩, trivial⟩)
theorem midI {A X R : List Int} {j : Nat} (hj : j < X.length) : (A ++ (X ++ R)).getD (A.length + j) 0 = X.getD j 0 := by
  rw [List.getD_eq_getElem?_getD, List.getElem?_append_right (by omega), show A.length + j - A.length = j by omega, List.getElem?_append_left hj, List.getD_eq_getElem?_getD]
theorem flA_pre (c : Car) (x y : List Int) (k : Nat) : ∀ d, ∃ r, flA c x y (k + d) = flA c x y k ++ r
  | 0 => ⟨[], by simp⟩
  | d + 1 => by
    obtain ⟨r, hr⟩ := flA_pre c x y k d
    exact ⟨r ++ slF c x y (k + d), by rw [← Nat.add_assoc, flA, hr, List.append_assoc]⟩
theorem flC_pre (S : Site) (cs : List Car) (T : Tab) (i : Nat) : ∀ d, ∃ r, flC S cs T (i + d) = flC S cs T i ++ r
  | 0 => ⟨[], by simp⟩
  | d + 1 => by
    obtain ⟨r, hr⟩ := flC_pre S cs T i d
    exact ⟨_, by rw [← Nat.add_assoc, flC, hr, List.append_assoc]⟩
theorem fl_slot (h : Keeps S cs T) {i k : Nat} (hi : i < cs.length) (hk : k < S.lim.length) {j : Nat} (hj : j < (slF (cs.getD i default) (T.inn.getD i []) (T.out.getD i []) k).length) : fA (flT S cs T) (bA S cs i k + j) = (slF (cs.getD i default) (T.inn.getD i []) (T.out.getD i []) k).getD j 0 := by
  obtain ⟨r, hr⟩ := flC_pre S cs T (i + 1) (cs.length - (i + 1))
  obtain ⟨r2, hr2⟩ := flA_pre (cs.getD i default) (T.inn.getD i []) (T.out.getD i []) (k + 1) (S.lim.length - (k + 1))
  rw [show i + 1 + (cs.length - (i + 1)) = cs.length by omega] at hr
  rw [show k + 1 + (S.lim.length - (k + 1)) = S.lim.length by omega] at hr2
  have hlen : bA S cs i k = (flC S cs T i ++ flA (cs.getD i default) (T.inn.getD i []) (T.out.getD i []) k).length := by
    unfold bA arcsAt
    rw [List.length_append, List.length_append, (cap_all h i (by omega)).len, (cap_car h hi (nodeF S.lim.length i 0) k (by omega)).len]
  unfold fA flT
  rw [hr, flC, hr2, flA, hlen]
  have := midI (A := flC S cs T i ++ flA (cs.getD i default) (T.inn.getD i []) (T.out.getD i []) k) (R := r2 ++ ([lev (cs.getD i default) (T.inn.getD i []) (T.out.getD i []) S.lim.length, lev (cs.getD i default) (T.inn.getD i []) (T.out.getD i []) S.lim.length - (cs.getD i default).fin] ++ r)) hj
  rw [← this]
  congr 1
  simp
theorem fl_last (h : Keeps S cs T) {i : Nat} (hi : i < cs.length) : fA (flT S cs T) (bA S cs i S.lim.length) = lev (cs.getD i default) (T.inn.getD i []) (T.out.getD i []) S.lim.length ∧ fA (flT S cs T) (bA S cs i S.lim.length + 1) = lev (cs.getD i default) (T.inn.getD i []) (T.out.getD i []) S.lim.length - (cs.getD i default).fin := by
  obtain ⟨r, hr⟩ := flC_pre S cs T (i + 1) (cs.length - (i + 1))
  rw [show i + 1 + (cs.length - (i + 1)) = cs.length by omega] at hr
  have hlen : bA S cs i S.lim.length = (flC S cs T i ++ flA (cs.getD i default) (T.inn.getD i []) (T.out.getD i []) S.lim.length).length := by
    unfold bA arcsAt
    rw [List.length_append, List.length_append, (cap_all h i (by omega)).len, (cap_car h hi (nodeF S.lim.length i 0) S.lim.length (Nat.le_refl _)).len]
  have he : flT S cs T = (flC S cs T i ++ flA (cs.getD i default) (T.inn.getD i []) (T.out.getD i []) S.lim.length) ++ ([lev (cs.getD i default) (T.inn.getD i []) (T.out.getD i []) S.lim.length, lev (cs.getD i default) (T.inn.getD i []) (T.out.getD i []) S.lim.length - (cs.getD i default).fin] ++ r) := by
    unfold flT
    rw [hr, flC]
    simp
  unfold fA
  rw [he, hlen]
  have e0 := midI (A := flC S cs T i ++ flA (cs.getD i default) (T.inn.getD i []) (T.out.getD i []) S.lim.length) (R := r) (X := [lev (cs.getD i default) (T.inn.getD i []) (T.out.getD i []) S.lim.length, lev (cs.getD i default) (T.inn.getD i []) (T.out.getD i []) S.lim.length - (cs.getD i default).fin]) (j := 0) (by simp)
  have e1 := midI (A := flC S cs T i ++ flA (cs.getD i default) (T.inn.getD i []) (T.out.getD i []) S.lim.length) (R := r) (X := [lev (cs.getD i default) (T.inn.getD i []) (T.out.getD i []) S.lim.length, lev (cs.getD i default) (T.inn.getD i []) (T.out.getD i []) S.lim.length - (cs.getD i default).fin]) (j := 1) (by simp)
  exact ⟨e0, e1⟩
theorem fl_site (S : Site) (cs : List Car) (T : Tab) {k : Nat} (hk : k < S.lim.length) : fA (flT S cs T) k = max 0 (drP T k cs.length) ∧ fA (flT S cs T) (S.lim.length + k) = max 0 (-(drP T k cs.length)) := by
  obtain ⟨r, hr⟩ := flC_pre S cs T 0 cs.length
  rw [Nat.zero_add, flC] at hr
  unfold fA flT
  constructor
  · have := midI (A := []) (X := (List.range S.lim.length).map (fun k => max 0 (drP T k cs.length))) (R := (List.range S.lim.length).map (fun k => max 0 (-(drP T k cs.length))) ++ r) (j := k) (by simp; exact hk)
    rw [List.nil_append, List.length_nil, Nat.zero_add, getD_mapI _ _ _ _ hk] at this
    rw [hr, List.append_assoc]
    exact this
  · have := midI (A := (List.range S.lim.length).map (fun k => max 0 (drP T k cs.length))) (X := (List.range S.lim.length).map (fun k => max 0 (-(drP T k cs.length)))) (R := r) (j := k) (by simp; exact hk)
    rw [List.length_map, List.length_range, getD_mapI _ _ _ _ hk] at this
    rw [hr, List.append_assoc]
    exact this
theorem slF_len (c : Car) (x y : List Int) (k : Nat) : 2 ≤ (slF c x y k).length := by unfold slF; simp
theorem fl_in (h : Keeps S cs T) {i k : Nat} (hi : i < cs.length) (hk : k < S.lim.length) : aIn S cs (fA (flT S cs T)) i k = (T.inn.getD i []).getD k 0 ∧ aOut S cs (fA (flT S cs T)) i k = (T.out.getD i []).getD k 0 := by
  have hc := carG_iff.1 (h.car k hk i hi)
  unfold aIn aOut
  by_cases ha : awayC (cs.getD i default) k = true
  · have := hc.2.2 ha
    rw [if_pos ha, if_pos ha]
    omega
  · have e : slF (cs.getD i default) (T.inn.getD i []) (T.out.getD i []) k = [lev (cs.getD i default) (T.inn.getD i []) (T.out.getD i []) k, lev (cs.getD i default) (T.inn.getD i []) (T.out.getD i []) k - useC (cs.getD i default) k - (T.out.getD i []).getD k 0, (T.inn.getD i []).getD k 0, (T.out.getD i []).getD k 0] := by unfold slF; rw [if_neg ha]
    rw [if_neg ha, if_neg ha, fl_slot h hi hk (j := 2) (by rw [e]; simp), fl_slot h hi hk (j := 3) (by rw [e]; simp), e]
    exact ⟨rfl, rfl⟩
theorem fl_res (h : Keeps S cs T) {i : Nat} (hi : i < cs.length) : (∀ k, k ≤ S.lim.length → incK S cs (fA (flT S cs T)) i k = lev (cs.getD i default) (T.inn.getD i []) (T.out.getD i []) k) ∧ ∀ k, k < S.lim.length → r0K S cs (fA (flT S cs T)) i k = 0 ∧ r1K S cs (fA (flT S cs T)) i k = 0 := by
  have h0 : ∀ k, k < S.lim.length → fA (flT S cs T) (bA S cs i k) = lev (cs.getD i default) (T.inn.getD i []) (T.out.getD i []) k := fun k hk =>
    fl_slot h hi hk (j := 0) (by have := slF_len (cs.getD i default) (T.inn.getD i []) (T.out.getD i []) k; omega)
  have h1 : ∀ k, k < S.lim.length → fA (flT S cs T) (bA S cs i k + 1) = lev (cs.getD i default) (T.inn.getD i []) (T.out.getD i []) k - useC (cs.getD i default) k - (T.out.getD i []).getD k 0 := fun k hk =>
    fl_slot h hi hk (j := 1) (by have := slF_len (cs.getD i default) (T.inn.getD i []) (T.out.getD i []) k; omega)
  have hi1 : ∀ k, k ≤ S.lim.length → incK S cs (fA (flT S cs T)) i k = lev (cs.getD i default) (T.inn.getD i []) (T.out.getD i []) k := fun k hk => by
    cases k with
    | zero => rfl
    | succ k =>
      have := (fl_in h hi (show k < S.lim.length by omega)).1
      rw [incK, h1 k (by omega), this, lev]; omega
  refine ⟨hi1, fun k hk => ⟨?_, ?_⟩⟩
  · unfold r0K
    rw [hi1 k (by omega), h0 k hk]; omega
  · unfold r1K
    rw [h0 k hk, h1 k hk, (fl_in h hi hk).2]; omega
theorem lev_su (c : Car) (x y : List Int) : ∀ k, lev c x y k = c.start + su (fun j => x.getD j 0 - y.getD j 0) k - usT c k
  | 0 => by simp [lev, su, usT]
  | k + 1 => by rw [lev, lev_su c x y k, su, usT]; omega
theorem sum_carS (c : Car) : ∀ k, sum (carS c k) = (if k = 0 then 0 else c.start) - usT c k
  | 0 => rfl
  | k + 1 => by
    rw [carS, sum_append, sum_carS c k, usT, if_neg (show ¬ (k + 1 = 0) by omega)]
    simp only [slS, sum]
    by_cases h : k = 0
    · rw [if_pos h, if_pos h]; omega
    · rw [if_neg h, if_neg h]; omega
theorem su_mul (g : Nat → Int) (c : Int) : ∀ n, su (fun k => g k * c) n = su g n * c
  | 0 => by simp [su]
  | n + 1 => by simp only [su]; rw [su_mul g c n, Int.add_mul]
theorem fl_tot (h : Keeps S cs T) (q : Nat → Int) : ∀ i, i ≤ cs.length → su (fun k => drP T k i * (q (1 + k) - q 0)) S.lim.length + su (caR S cs (fA (flT S cs T)) q) i = q 0 * sum (carsS S cs i)
  | 0, _ => by
    have e1 : su (fun k => drP T k 0 * (q (1 + k) - q 0)) S.lim.length = 0 := by rw [su_congr (h := fun _ => 0) _ (fun k _ => by simp [drP]), su_zero]
    have e2 : ∀ n, sum (List.replicate n 0) = 0 := fun n => by
      induction n with
      | zero => rfl
      | succ n ih => rw [List.replicate_succ, sum, ih]; rfl
    rw [e1]
    simp [su, carsS, sum, e2]
  | i + 1, hi => by
    have hn := (siteHead_iff.1 (stE_0 h.ok).2.1).1.1
    have ih := fl_tot h q i (by omega)
    have hr := fl_res h (i := i) (by omega)
    have hl := fl_last h (i := i) (by omega)
    have e1 : su (fun k => drP T k (i + 1) * (q (1 + k) - q 0)) S.lim.length = su (fun k => drP T k i * (q (1 + k) - q 0)) S.lim.length + su (fun k => ((T.inn.getD i []).getD k 0 - (T.out.getD i []).getD k 0) * q (1 + k)) S.lim.length - su (fun k => (T.inn.getD i []).getD k 0 - (T.out.getD i []).getD k 0) S.lim.length * q 0 := by
      rw [← su_mul, ← su_add]
      have : ∀ (a b c : Nat → Int) n, (∀ k, k < n → a k = b k - c k) → su a n = su b n - su c n := fun a b c n => by
        induction n with
        | zero => intro _; rfl
        | succ n ih => intro hh; simp only [su]; rw [ih (fun k hk => hh k (by omega)), hh n (by omega)]; omega
      refine this _ _ _ _ (fun k _ => ?_)
      simp only [drP]
      generalize drP T k i = a
      generalize (T.inn.getD i []).getD k 0 - (T.out.getD i []).getD k 0 = b
      generalize q (1 + k) = c
      generalize q 0 = d
      grind
    have e2 : su (slR S cs (fA (flT S cs T)) q i) S.lim.length = - su (fun k => ((T.inn.getD i []).getD k 0 - (T.out.getD i []).getD k 0) * q (1 + k)) S.lim.length := by
      have : ∀ (a b : Nat → Int) n, (∀ k, k < n → a k = - b k) → su a n = - su b n := fun a b n => by
        induction n with
        | zero => intro _; rfl
        | succ n ih => intro hh; simp only [su]; rw [ih (fun k hk => hh k (by omega)), hh n (by omega)]; omega
      refine this _ _ _ (fun k hk => ?_)
      unfold slR
      have h1 := hr.2 k hk
      have h2 := fl_in h (i := i) (by omega) hk
      rw [h1.1, h1.2, h2.1, h2.2]
      simp
    have e3 : caR S cs (fA (flT S cs T)) q i = - su (fun k => ((T.inn.getD i []).getD k 0 - (T.out.getD i []).getD k 0) * q (1 + k)) S.lim.length + (lev (cs.getD i default) (T.inn.getD i []) (T.out.getD i []) S.lim.length - (cs.getD i default).fin) * q 0 := by
      unfold caR
      rw [e2, hr.1 _ (Nat.le_refl _), hl.1, hl.2]
      rw [show lev (cs.getD i default) (T.inn.getD i []) (T.out.getD i []) S.lim.length - (lev (cs.getD i default) (T.inn.getD i []) (T.out.getD i []) S.lim.length - (cs.getD i default).fin) - (cs.getD i default).fin = 0 by omega]
      rw [Int.sub_self, Int.zero_mul, Int.zero_mul]
      omega
    have e4 : sum (carsS S cs (i + 1)) = sum (carsS S cs i) + (cs.getD i default).start - usT (cs.getD i default) S.lim.length - (cs.getD i default).fin := by
      rw [carsS, sum_append, sum_append, sum_carS, if_neg (by omega)]
      simp only [sum]; omega
    have e5 := lev_su (cs.getD i default) (T.inn.getD i []) (T.out.getD i []) S.lim.length
    rw [e1, su, e3, e4, e5]
    generalize su (fun k => (T.inn.getD i []).getD k 0 - (T.out.getD i []).getD k 0) S.lim.length = A at *
    generalize su (fun k => ((T.inn.getD i []).getD k 0 - (T.out.getD i []).getD k 0) * q (1 + k)) S.lim.length = B at *
    generalize su (fun k => drP T k i * (q (1 + k) - q 0)) S.lim.length = C at *
    generalize su (caR S cs (fA (flT S cs T)) q) i = D at *
    generalize q 0 = d at *
    generalize usT (cs.getD i default) S.lim.length = u at *
    generalize (cs.getD i default).start = st at *
    generalize (cs.getD i default).fin = fi at *
    generalize sum (carsS S cs i) = sm at *
    clear e1 e2 e3 e4 e5 hr hl
    grind
theorem dot_ind (g : Nat → Int) (v : Nat) : ∀ n : Nat, dotN (fun u => if u = v then 1 else 0) g n = if v < n then g v else 0
  | 0 => rfl
  | n + 1 => by
    simp only [dotN]
    rw [dot_ind g v n]
    by_cases h : n = v
    · subst h; rw [if_neg (Nat.lt_irrefl n), if_pos rfl, if_pos (by omega)]; omega
    · rw [if_neg h]
      by_cases h2 : v < n
      · rw [if_pos h2, if_pos (by omega)]; omega
      · rw [if_neg h2, if_neg (by omega)]; omega
theorem keeps_flow (h : Keeps S cs T) : isFlow (netN S cs) (flT S cs T) = true ∧ costK (netN S cs) (flT S cs T) (carsA S cs cs.length).length = prc S T cs.length S.lim.length := by
  have hc := cap_all h cs.length (Nat.le_refl _)
  have h0 := net_ok h.ok
  constructor
  · refine isFlow_yes hc.len hc.get (fun v hv => ?_)
    rw [leftK_lv h0 _ _ (Nat.le_refl _)]
    have hv' : v < nodesN S cs := by have : v < (supN S cs).length := hv; rwa [supN_len] at this
    have h1 := net_sum h.ok (fA (flT S cs T)) (fun u => if u = v then 1 else 0)
    rw [dot_ind, if_pos hv'] at h1
    have h2 := fl_tot h (fun u => if u = v then 1 else 0) cs.length (Nat.le_refl _)
    have h3 : su (fun k => leK S (fA (flT S cs T)) k * ((if 1 + k = v then (1 : Int) else 0) - (if 0 = v then 1 else 0))) S.lim.length = su (fun k => drP T k cs.length * ((if 1 + k = v then (1 : Int) else 0) - (if 0 = v then 1 else 0))) S.lim.length := su_congr _ (fun k hk => by
      have := fl_site S cs T hk
      unfold leK
      rw [this.1, this.2, show max 0 (drP T k cs.length) - max 0 (-(drP T k cs.length)) = drP T k cs.length by omega])
    show lv (netN S cs) (fA (flT S cs T)) (carsA S cs cs.length).length v = 0
    rw [h1, h3, h2, Int.mul_neg]
    omega
  · rw [cost_site, prc_su]
    refine su_congr _ (fun k hk => ?_)
    have := fl_site S cs T hk
    rw [this.1, this.2]
    unfold prQ
    rw [show min 0 (drP T k cs.length) = -(max 0 (-(drP T k cs.length))) by omega, Int.neg_mul]
    omega
end
end Dp
end Go.Proofs.Ytmebpglkeedaoaa
namespace Go.Proofs.Ytmebpglkeedaoaa
namespace Dp
structure Best (S : Site) (cs : List Car) (T : Tab) (p : List Int) : Prop where
  ok : plE S cs T = 0
  le : ∀ U, plE S cs U = 0 → prc S T cs.length S.lim.length ≤ prc S U cs.length S.lim.length
  pe : prE (netN S cs) p = 0
  pv : prV (netN S cs) p = prc S T cs.length S.lim.length
theorem plan_good {S : Site} {cs : List Car} {fl p : List Int} (h : stE S cs = 0) (hf : isFlow (netN S cs) fl = true) (hl : p.length = (netN S cs).sup.length) (hb : ∀ v, v < p.length → potOk (p.getD v 0) = true) (he : costK (netN S cs) fl (netN S cs).arcs.length = prA (netN S cs) p (netN S cs).arcs.length) : Best S cs (tbF S cs fl) p := by
  have hk := flow_keeps h hf
  have hp := flow_price h hf
  have hn := net_ok h
  have hy := pr_yes hn hl hb
  have hle : ∀ U, plE S cs U = 0 → costK (netN S cs) fl (netN S cs).arcs.length ≤ prc S U cs.length S.lim.length := fun U hU => by
    have h1 := keeps_flow (plE_0 hU)
    have h2 := weak (ps := p) hn h1.1
    rw [he]
    have h3 := h1.2
    have e : (netN S cs).arcs.length = (carsA S cs cs.length).length := rfl
    rw [e] at h2 ⊢
    omega
  refine ⟨hk, fun U hU => ?_, hy.1, ?_⟩
  · have := hle U hU
    have e : (netN S cs).arcs.length = (carsA S cs cs.length).length := rfl
    rw [e] at this
    omega
  · have := hle _ hk
    rw [hy.2, ← he]
    have e : (netN S cs).arcs.length = (carsA S cs cs.length).length := rfl
    rw [e] at this ⊢
    omega
theorem plan_none {S : Site} {cs : List Car} (h : ∀ fl, isFlow (netN S cs) fl = false) (T : Tab) : plE S cs T ≠ 0 := fun hT => by
  have := (keeps_flow (plE_0 hT)).1
  rw [h] at this
  cases this
theorem plan_some {S : Site} {cs : List Car} {T : Tab} (hT : plE S cs T = 0) : ∃ fl, isFlow (netN S cs) fl = true := ⟨_, (keeps_flow (plE_0 hT)).1⟩
theorem rd_row {S : Site} {cs : List Car} {fl : List Int} {i : Nat} {f : Nat → Int} (R : List Int) (hR : R = rowK f S.lim.length S.lim.length) : rowK (fun k => rdF fl (R.getD k 0)) S.lim.length S.lim.length = R.map (rdF fl) := by
  subst hR
  unfold rowK
  rw [List.map_map]
  refine List.map_congr_left (fun k hk => ?_)
  have hk : k < S.lim.length := by simpa using hk
  simp [hk, List.getD_eq_getElem?_getD]
theorem ix_in {S : Site} {cs : List Car} {i k : Nat} (hi : i < cs.length) (hk : k < S.lim.length) : inX S cs i k < (carsA S cs cs.length).length ∧ outX S cs i k < (carsA S cs cs.length).length := by
  obtain ⟨r, hr⟩ := slot_pre (S := S) hi hk
  unfold inX outX
  by_cases ha : awayC (cs.getD i default) k = true
  · rw [if_pos ha, if_pos ha]; omega
  · rw [if_neg ha, if_neg ha, hr]
    have : (slA (cs.getD i default) (nodeF S.lim.length i k) k).length = 4 := by unfold slA; rw [if_neg ha]; rfl
    rw [List.length_append, List.length_append, this]
    omega
end Dp
end Go.Proofs.Ytmebpglkeedaoaa
namespace Go.Proofs.Ytmebpglkeedaoaa
open Go.RowKit Dp
def TripsAt (w : World) (A : Option Addr) (l : List Trip) : Prop :=
  ∀ i, i < l.length → ∃ ad, A = some ad ∧ ad.block < w.heap.size ∧ w.cell? (ad.add (i * 3)) = some (.int .i64 (l.getD i default).fr) ∧ w.cell? ⟨(ad.add (i * 3)).block, (ad.add (i * 3)).off + 1, none⟩ = some (.int .i64 (l.getD i default).to) ∧ w.cell? ⟨(ad.add (i * 3)).block, (ad.add (i * 3)).off + 2, none⟩ = some (.int .i64 (l.getD i default).use)
theorem TripsAt.below {w w1 : World} {A : Option Addr} {l : List Trip} (h : TripsAt w A l) {B : Nat} (hb : Below B w w1) (hB : w.heap.size ≤ B) : TripsAt w1 A l := by
  intro i hi
  obtain ⟨ad, e, hlt, c0, c1, c2⟩ := h i hi
  have hbl : (ad.add (i * 3)).block < B := by rw [block_add]; omega
  exact ⟨ad, e, Nat.lt_of_lt_of_le hlt hb.size, (hb.cell hbl).trans c0, (hb.cell (p := ⟨_, _, none⟩) hbl).trans c1, (hb.cell (p := ⟨_, _, none⟩) hbl).trans c2⟩
def SlAt (w : World) (v : Value) (xs : List Int) : Prop := ∃ A cap, v = .slice A xs.length cap ∧ xs.length ≤ cap ∧ cap ≤ 9223372036854775807 ∧ IntsAt w A xs
def TrAt (w : World) (v : Value) (l : List Trip) : Prop := ∃ A cap, v = .slice A l.length cap ∧ l.length ≤ cap ∧ cap ≤ 9223372036854775807 ∧ TripsAt w A l
theorem SlAt.below {w w1 : World} {v : Value} {l : List Int} (h : SlAt w v l) {B : Nat} (hb : Below B w w1) (hB : w.heap.size ≤ B) : SlAt w1 v l := by
  obtain ⟨A, c, e, h1, h2, h3⟩ := h
  exact ⟨A, c, e, h1, h2, h3.below hb hB⟩
theorem TrAt.below {w w1 : World} {v : Value} {l : List Trip} (h : TrAt w v l) {B : Nat} (hb : Below B w w1) (hB : w.heap.size ≤ B) : TrAt w1 v l := by
  obtain ⟨A, c, e, h1, h2, h3⟩ := h
  exact ⟨A, c, e, h1, h2, h3.below hb hB⟩
def CarsAt (w : World) (A : Option Addr) (l : List Car) : Prop :=
  ∀ i, i < l.length → ∃ ad, A = some ad ∧ ad.block < w.heap.size ∧ w.cell? (ad.add (i * 6)) = some (.int .i64 (l.getD i default).cap) ∧ w.cell? ⟨(ad.add (i * 6)).block, (ad.add (i * 6)).off + 1, none⟩ = some (.int .i64 (l.getD i default).inn) ∧ w.cell? ⟨(ad.add (i * 6)).block, (ad.add (i * 6)).off + 2, none⟩ = some (.int .i64 (l.getD i default).out) ∧ w.cell? ⟨(ad.add (i * 6)).block, (ad.add (i * 6)).off + 3, none⟩ = some (.int .i64 (l.getD i default).start) ∧ w.cell? ⟨(ad.add (i * 6)).block, (ad.add (i * 6)).off + 4, none⟩ = some (.int .i64 (l.getD i default).fin) ∧
    ∃ T cT, w.cell? ⟨(ad.add (i * 6)).block, (ad.add (i * 6)).off + 5, none⟩ = some (.slice T (l.getD i default).trips.length cT) ∧ ((l.getD i default).trips.length ≤ cT ∧ cT ≤ 9223372036854775807) ∧ TripsAt w T (l.getD i default).trips
theorem CarsAt.below {w w1 : World} {A : Option Addr} {l : List Car} (h : CarsAt w A l) {B : Nat} (hb : Below B w w1) (hB : w.heap.size ≤ B) : CarsAt w1 A l := by
  intro i hi
  obtain ⟨ad, e, hlt, c0, c1, c2, c3, c4, T, cT, c5, r, ht⟩ := h i hi
  have hbl : (ad.add (i * 6)).block < B := by rw [block_add]; omega
  exact ⟨ad, e, Nat.lt_of_lt_of_le hlt hb.size, (hb.cell hbl).trans c0, (hb.cell (p := ⟨_, _, none⟩) hbl).trans c1, (hb.cell (p := ⟨_, _, none⟩) hbl).trans c2, (hb.cell (p := ⟨_, _, none⟩) hbl).trans c3, (hb.cell (p := ⟨_, _, none⟩) hbl).trans c4, T, cT, (hb.cell (p := ⟨_, _, none⟩) hbl).trans c5, r, ht.below hb hB⟩
def RowsAt (w : World) (A : Option Addr) (l : List (List Int)) : Prop :=
  ∀ i, i < l.length → ∃ ad, A = some ad ∧ ad.block < w.heap.size ∧ ∃ T cT, w.cell? (ad.add i) = some (.slice T (l.getD i []).length cT) ∧ ((l.getD i []).length ≤ cT ∧ cT ≤ 9223372036854775807) ∧ IntsAt w T (l.getD i [])
theorem RowsAt.below {w w1 : World} {A : Option Addr} {l : List (List Int)} (h : RowsAt w A l) {B : Nat} (hb : Below B w w1) (hB : w.heap.size ≤ B) : RowsAt w1 A l := by
  intro i hi
  obtain ⟨ad, e, hlt, T, cT, c0, r, ht⟩ := h i hi
  exact ⟨ad, e, Nat.lt_of_lt_of_le hlt hb.size, T, cT, (hb.cell (by rw [block_add]; omega)).trans c0, r, ht.below hb hB⟩
def SiteAt (w : World) (A B C D : Option Addr) (S : Site) : Prop := IntsAt w A S.lim ∧ IntsAt w B S.exp ∧ IntsAt w C S.buy ∧ IntsAt w D S.sell
theorem SiteAt.below {w w1 : World} {A B C D : Option Addr} {S : Site} (h : SiteAt w A B C D S) {b : Nat} (hb : Below b w w1) (hB : w.heap.size ≤ b) : SiteAt w1 A B C D S :=
  ⟨h.1.below hb hB, h.2.1.below hb hB, h.2.2.1.below hb hB, h.2.2.2.below hb hB⟩
def TabAt (w : World) (A B : Option Addr) (T : Tab) : Prop := RowsAt w A T.inn ∧ RowsAt w B T.out
theorem TabAt.below {w w1 : World} {A B : Option Addr} {T : Tab} (h : TabAt w A B T) {b : Nat} (hb : Below b w w1) (hB : w.heap.size ≤ b) : TabAt w1 A B T := ⟨h.1.below hb hB, h.2.below hb hB⟩
end Go.Proofs.Ytmebpglkeedaoaa
namespace Go.Proofs.Ytmebpglkeedaoaa
open Go.RowKit Dp
def carV (c : Car) (T : Option Addr) (n cT : Nat) : Array Value := #[.int .i64 c.cap, .int .i64 c.inn, .int .i64 c.out, .int .i64 c.start, .int .i64 c.fin, .slice T n cT]
set_option maxHeartbeats 1000000 in
set_option maxRecDepth 100000 in
theorem trip_c (v0 v1 v2 v3 v4 : Value) (k : Int) (T : Option Addr) (l : List Trip) (n cT : Nat) (w : World) (hn : n = l.length) (hc : n ≤ cT ∧ cT ≤ 9223372036854775807) (hT : TripsAt w T l) :
    Calls Try.prog 87 #[.agg #[v0, v1, v2, v3, v4, .slice T n cT], .int .i64 k] w fun e w' => e = .returned (.tuple #[.int .i64 (useP l k n), .bool (awayP l k n)]) ∧ Below w.heap.size w w' := by
  have HN := Lib.hid hn
  have HT := Lib.hid hT
  clear hn hT
  have X := Lib.hid (Blk.new' w #[v0, v1, v2, v3, v4, .slice T n cT] 63)
  have HB := Lib.hid ((Below.refl w.heap.size w).alloc (Nat.le_refl _) (.cells #[v0, v1, v2, v3, v4, .slice T n cT] 63))
  go_enter Try.func87, Try.ntmps87
  go_upto_region 1 with fail
  generalize w.alloc (.cells #[v0, v1, v2, v3, v4, .slice T n cT] 63) = w1 at X HB ⊢
  have c5 := X.out.cell 5 rfl
  go_wp2_with fail
  clear c5
  have HT1 := Lib.hid (HT.out.below HB.out (Nat.le_refl _))
  go_loopw [4, 5, 7, 11] (fun u a _ i wr => ∃ j : Nat, j ≤ n ∧ i = .int .i64 j ∧ u = .int .i64 (useP l k j) ∧ a = .bool (awayP l k j) ∧ Hid (Below w.heap.size w wr)) (fun _ _ _ i _ => n - (intOf i).toNat)
  case atStart => exact ⟨0, Nat.zero_le _, rfl, rfl, rfl, HB⟩
  case round =>
    obtain ⟨j, hj, rfl, rfl, rfl, HW⟩ := hrel
    by_cases hlt : j < n
    · have hji : (j : Int) < (n : Int) := by omega
      obtain ⟨ad, rfl, abl, t0, t1, t2⟩ := (HT.out.below HW.out (Nat.le_refl _)) j (by rw [← HN.out]; exact hlt)
      have HU := Lib.hid (show useP l k (j + 1) = if (l.getD j default).fr = k then (l.getD j default).use else useP l k j from rfl)
      have HA := Lib.hid (show awayP l k (j + 1) = (awayP l k j || decide ((l.getD j default).fr ≤ k ∧ k < (l.getD j default).to)) from rfl)
      generalize l.getD j default = t at *
      obtain ⟨fr, «to», us⟩ := t
      simp only at t0 t1 t2 HU HA
      go_upto_region 4 with fail
      have HX := Lib.hid (HW.out.alloc HW.out.size (.cells #[.int .i64 fr, .int .i64 «to», .int .i64 us] 65))
      have BX := Lib.hid (Blk.new' wr #[.int .i64 fr, .int .i64 «to», .int .i64 us] 65)
      generalize wr.alloc (.cells #[.int .i64 fr, .int .i64 «to», .int .i64 us] 65) = wx at HX BX ⊢
      clear t0 t1 t2 abl
      have e0 := BX.out.cell 0 rfl
      have e1 := BX.out.cell 1 rfl
      have e2 := BX.out.cell 2 rfl
      generalize useP l k j = U at *
      cases ha : awayP l k j
      · rw [ha] at HA
        by_cases h1 : fr = k
        · subst h1
          have h2 : fr ≤ fr := Int.le_refl _
          by_cases h3 : fr < «to»
          · go_wp2_with fail
            exact ⟨⟨j + 1, by omega, by go_num, by rw [HU.out, if_pos rfl], by rw [HA.out, (decide_eq_true (And.intro h2 h3))]; rfl, HX⟩, by simp [intOf]; omega⟩
          · go_wp2_with fail
            exact ⟨⟨j + 1, by omega, by go_num, by rw [HU.out, if_pos rfl], by rw [HA.out, (decide_eq_false (fun h => h3 h.2))]; rfl, HX⟩, by simp [intOf]; omega⟩
        · have h1b : (fr == k) = false := by simp [h1]
          by_cases h2 : fr ≤ k
          · by_cases h3 : k < «to»
            · go_wp2_with fail
              exact ⟨⟨j + 1, by omega, by go_num, by rw [HU.out, if_neg h1], by rw [HA.out, (decide_eq_true (And.intro h2 h3))]; rfl, HX⟩, by simp [intOf]; omega⟩
            · go_wp2_with fail
              exact ⟨⟨j + 1, by omega, by go_num, by rw [HU.out, if_neg h1], by rw [HA.out, (decide_eq_false (fun h => h3 h.2))]; rfl, HX⟩, by simp [intOf]; omega⟩
          · go_wp2_with fail
            exact ⟨⟨j + 1, by omega, by go_num, by rw [HU.out, if_neg h1], by rw [HA.out, (decide_eq_false (fun h => h2 h.1))]; rfl, HX⟩, by simp [intOf]; omega⟩
      · rw [ha] at HA
        by_cases h1 : fr = k
        · subst h1
          go_wp2_with fail
          exact ⟨⟨j + 1, by omega, by go_num, by rw [HU.out, if_pos rfl], by rw [HA.out]; rfl, HX⟩, by simp [intOf]; omega⟩
        · have h1b : (fr == k) = false := by simp [h1]
          go_wp2_with fail
          exact ⟨⟨j + 1, by omega, by go_num, by rw [HU.out, if_neg h1], by rw [HA.out]; rfl, HX⟩, by simp [intOf]; omega⟩
    · obtain rfl : j = n := by omega
      go_wp2_with fail
      exact bodyPost_ret (v := .tuple #[.int .i64 (useP l k j), .bool (awayP l k j)]) (by simp [results, Try.results87, go_sem]) rfl ⟨rfl, HW.out⟩
end Go.Proofs.Ytmebpglkeedaoaa
namespace Go.Proofs.Ytmebpglkeedaoaa
open Go.RowKit Dp
end Go.Proofs.Ytmebpglkeedaoaa
namespace Go.Proofs.Ytmebpglkeedaoaa
open Go.RowKit Dp
def mnP (xs : List Int) : Nat → Int
  | 0 => xs.getD 0 0
  | k + 1 => min (mnP xs k) (xs.getD k 0)
def mxP (xs : List Int) : Nat → Int
  | 0 => xs.getD 0 0
  | k + 1 => max (mxP xs k) (xs.getD k 0)
set_option maxHeartbeats 1000000 in
theorem Min_c (A : Option Addr) (xs : List Int) (n cap : Nat) (w : World) (hn : n = xs.length) (h1 : 1 ≤ n) (hcap : n ≤ cap ∧ cap ≤ 9223372036854775807) (hA : IntsAt w A xs) :
    Calls Try.prog 79 #[.slice A n cap] w fun e w' => e = .returned (.int .i64 (mnP xs n)) ∧ w = w' := by
  have HN := Lib.hid hn
  have HA := Lib.hid hA
  clear hn hA
  obtain ⟨ad, rfl, _, c0⟩ := HA.out 0 (by rw [← HN.out]; omega)
  rw [add_zero'] at c0
  have HX := Lib.hid (show mnP xs 1 = xs.getD 0 0 from by simp [mnP])
  generalize xs.getD 0 0 = x0 at *
  have h3 : (0 : Int) < (n : Int) := by omega
  have h4 : ¬ (n : Int) < 1 := by omega
  go_enter Try.func79, Try.ntmps79
  go_wp2_with fail
  clear c0
  go_loop [3, 4] (fun m i => ∃ k : Nat, 1 ≤ k ∧ k ≤ n ∧ i = .int .i64 k ∧ m = .int .i64 (mnP xs k)) (fun _ i => n - (intOf i).toNat)
  case atStart => exact ⟨1, Nat.le_refl _, h1, rfl, by rw [HX.out]⟩
  case round =>
    obtain ⟨k, hk1, hk, rfl, rfl⟩ := hrel
    by_cases hlt : k < n
    · obtain ⟨ad', e', _, hc⟩ := HA.out k (by rw [← HN.out]; exact hlt)
      cases e'
      have HS := Lib.hid (show mnP xs (k + 1) = min (mnP xs k) (xs.getD k 0) from rfl)
      generalize xs.getD k 0 = x at *
      generalize mnP xs k = y at *
      have hm := fun ts t W => minTwo y x ts t W
      generalize min y x = z at *
      have hki : (k : Int) < (n : Int) := by omega
      go_wp2_with fail
      go_round
      case rel => exact ⟨k + 1, by omega, by omega, by go_num, by rw [HS.out]⟩
      case measure => simp [intOf]; omega
    · obtain rfl : k = n := by omega
      go_wp2_with fail
      go_ret
      exact ⟨rfl, rfl⟩
set_option maxHeartbeats 1000000 in
theorem Max_c (A : Option Addr) (xs : List Int) (n cap : Nat) (w : World) (hn : n = xs.length) (h1 : 1 ≤ n) (hcap : n ≤ cap ∧ cap ≤ 9223372036854775807) (hA : IntsAt w A xs) :
    Calls Try.prog 80 #[.slice A n cap] w fun e w' => e = .returned (.int .i64 (mxP xs n)) ∧ w = w' := by
  have HN := Lib.hid hn
  have HA := Lib.hid hA
  clear hn hA
  obtain ⟨ad, rfl, _, c0⟩ := HA.out 0 (by rw [← HN.out]; omega)
  rw [add_zero'] at c0
  have HX := Lib.hid (show mxP xs 1 = xs.getD 0 0 from by simp [mxP])
  generalize xs.getD 0 0 = x0 at *
  have h3 : (0 : Int) < (n : Int) := by omega
  have h4 : ¬ (n : Int) < 1 := by omega
  go_enter Try.func80, Try.ntmps80
  go_wp2_with fail
  clear c0
  go_loop [3, 4] (fun m i => ∃ k : Nat, 1 ≤ k ∧ k ≤ n ∧ i = .int .i64 k ∧ m = .int .i64 (mxP xs k)) (fun _ i => n - (intOf i).toNat)
  case atStart => exact ⟨1, Nat.le_refl _, h1, rfl, by rw [HX.out]⟩
  case round =>
    obtain ⟨k, hk1, hk, rfl, rfl⟩ := hrel
    by_cases hlt : k < n
    · obtain ⟨ad', e', _, hc⟩ := HA.out k (by rw [← HN.out]; exact hlt)
      cases e'
      have HS := Lib.hid (show mxP xs (k + 1) = max (mxP xs k) (xs.getD k 0) from rfl)
      generalize xs.getD k 0 = x at *
      generalize mxP xs k = y at *
      have hm := fun ts t W => maxTwo y x ts t W
      generalize max y x = z at *
      have hki : (k : Int) < (n : Int) := by omega
      go_wp2_with fail
      go_round
      case rel => exact ⟨k + 1, by omega, by omega, by go_num, by rw [HS.out]⟩
      case measure => simp [intOf]; omega
    · obtain rfl : k = n := by omega
      go_wp2_with fail
      go_ret
      exact ⟨rfl, rfl⟩
set_option maxHeartbeats 1000000 in
theorem upTo_c (most : Int) (A : Option Addr) (xs : List Int) (n cap : Nat) (w : World) (hn : n = xs.length) (h1 : 1 ≤ n) (hcap : n ≤ cap ∧ cap ≤ 9223372036854775807) (hA : IntsAt w A xs) :
    Calls Try.prog 78 #[.int .i64 most, .slice A n cap] w fun e w' => e = .returned (.bool (decide (0 ≤ mnP xs n ∧ mxP xs n ≤ most))) ∧ w = w' := by
  have c1 := Min_c A xs n cap w hn h1 hcap hA
  have c2 := Max_c A xs n cap w hn h1 hcap hA
  clear hn hA hcap
  generalize mnP xs n = a at *
  generalize mxP xs n = b at *
  by_cases h0 : 0 ≤ a
  · by_cases h2 : b ≤ most
    · have e0 : decide (0 ≤ a ∧ b ≤ most) = true := by simp [h0, h2]
      rw [e0]
      go_enter Try.func78, Try.ntmps78
      go_wp2_with (first | (go_at_call 79; refine c1.mono ?_; rintro e w1 ⟨rfl, rfl⟩) | (go_at_call 80; refine c2.mono ?_; rintro e w1 ⟨rfl, rfl⟩))
      go_ret
      exact ⟨rfl, rfl⟩
    · have e0 : decide (0 ≤ a ∧ b ≤ most) = false := by simp [h2]
      rw [e0]
      go_enter Try.func78, Try.ntmps78
      go_wp2_with (first | (go_at_call 79; refine c1.mono ?_; rintro e w1 ⟨rfl, rfl⟩) | (go_at_call 80; refine c2.mono ?_; rintro e w1 ⟨rfl, rfl⟩))
      go_ret
      exact ⟨ret_bool (decide_eq_false (by omega)), rfl⟩
  · have e0 : decide (0 ≤ a ∧ b ≤ most) = false := by simp [h0]
    rw [e0]
    go_enter Try.func78, Try.ntmps78
    go_wp2_with (first | (go_at_call 79; refine c1.mono ?_; rintro e w1 ⟨rfl, rfl⟩) | (go_at_call 80; refine c2.mono ?_; rintro e w1 ⟨rfl, rfl⟩))
    go_ret
    exact ⟨rfl, rfl⟩
theorem blk_ints {w : World} {g : Nat} {t : TypeId} {xs : List Int} (h : Blk w g t (xs.map (.int .i64))) : IntsAt w (some ⟨g, 0, none⟩) xs := by
  intro i hi
  refine ⟨_, rfl, h.lt, ?_⟩
  have e : (⟨g, 0, none⟩ : Addr).add i = ⟨g, i, none⟩ := by unfold Addr.add; split <;> simp_all
  rw [e]
  refine h.cell i ?_
  rw [List.getElem?_map, List.getElem?_eq_getElem hi, List.getD_eq_getElem?_getD, List.getElem?_eq_getElem hi]
  rfl
theorem upTo1_c {most a : Int} {t : TypeId} (g : Nat) (w : World) (b : Bool) (hb : b = decide (0 ≤ a ∧ a ≤ most)) (h : Blk w g t [.int .i64 a]) :
    Calls Try.prog 78 #[.int .i64 most, .slice (some ⟨g, 0, none⟩) 1 1] w fun e w' => e = .returned (.bool b) ∧ w = w' := by
  refine (upTo_c most _ [a] 1 1 w rfl (by omega) ⟨by omega, by omega⟩ (blk_ints (xs := [a]) h)).mono ?_
  rintro e w' ⟨rfl, hw⟩
  refine ⟨ret_bool ?_, hw⟩
  rw [hb]
  simp [mnP, mxP]
theorem upTo2_c {most a b : Int} {t : TypeId} (g : Nat) (w : World) (v : Bool) (hb : v = decide ((0 ≤ a ∧ a ≤ most) ∧ (0 ≤ b ∧ b ≤ most))) (h : Blk w g t [.int .i64 a, .int .i64 b]) :
    Calls Try.prog 78 #[.int .i64 most, .slice (some ⟨g, 0, none⟩) 2 2] w fun e w' => e = .returned (.bool v) ∧ w = w' := by
  refine (upTo_c most _ [a, b] 2 2 w rfl (by omega) ⟨by omega, by omega⟩ (blk_ints (xs := [a, b]) h)).mono ?_
  rintro e w' ⟨rfl, hw⟩
  refine ⟨ret_bool ?_, hw⟩
  rw [hb]
  refine decide_eq_decide.2 ?_
  simp [mnP, mxP]
  omega
theorem upTo3_c {most a b c : Int} {t : TypeId} (g : Nat) (w : World) (v : Bool) (hb : v = decide ((0 ≤ a ∧ a ≤ most) ∧ (0 ≤ b ∧ b ≤ most) ∧ (0 ≤ c ∧ c ≤ most))) (h : Blk w g t [.int .i64 a, .int .i64 b, .int .i64 c]) :
    Calls Try.prog 78 #[.int .i64 most, .slice (some ⟨g, 0, none⟩) 3 3] w fun e w' => e = .returned (.bool v) ∧ w = w' := by
  refine (upTo_c most _ [a, b, c] 3 3 w rfl (by omega) ⟨by omega, by omega⟩ (blk_ints (xs := [a, b, c]) h)).mono ?_
  rintro e w' ⟨rfl, hw⟩
  refine ⟨ret_bool ?_, hw⟩
  rw [hb]
  refine decide_eq_decide.2 ?_
  simp [mnP, mxP]
  omega
end Go.Proofs.Ytmebpglkeedaoaa
namespace Go.Proofs.Ytmebpglkeedaoaa
open Go.RowKit Dp
noncomputable def loop36 : Code := ((Try.f36.body.bind (blockOf 2)).getD .skip)
noncomputable def end36 : Code := ((Try.f36.body.bind (behind 2)).getD .skip)
def R36 (S : Site) (cs : List Car) (w : World) : Ending → World → Prop := fun e w' => e = .returned (.int .i64 (stE S cs)) ∧ Below w.heap.size w w'
set_option maxHeartbeats 8000000 in
set_option maxRecDepth 100000 in
theorem site2 (E : Option Addr) (S : Site) (cs : List Car) (n m cE : Nat) (w W0 : World) (hn : n = S.lim.length) (hm : m = cs.length) (hE : m ≤ cE ∧ cE ≤ 9223372036854775807) (hQ1 : ¬ 8 < cs.length) (hH : siteHead S = true) (hsl : ∀ t, t < S.lim.length → slotOk S t = true)
    (hC : CarsAt w E cs) (hB : Below w.heap.size w W0) {K : Act → World → Prop} (hK : ∀ a w', Code.wp Try.prog end36 (bodyPost Try.prog Try.f36 (R36 S cs w)) a w' → K a w') {x0 x1 x2 x3 x4 x7 x8 x9 x10 x11 x12 x13 x14 x15 x16 x17 x18 x19 x20 x21 x22 x23 x24 x25 x26 x27 x28 x29 x30 x31 x32 x33 x34 x35 x36 x37 x38 x39 x40 x41 x42 x43 x44 x45 x46 x47 x48 x49 x50 x51 x52 x53 x54 x55 x56 x57 x58 x59 x60 x61 x62 x63 x64 x65 x66 x67 x68 x69 x70 x71 x72 x73 x74 x75 x76 x77 x78 x79 x80 x81 x82 x83 x84 x85 x86 x87 x88 x89 x90 x91 x95 x96 x97 x98 x99 x100 x101 x102 x103 x104 x105 x106 x107 x108 x109 x110 x111 x112 x113 x114 x115 x116 x117 x118 x119 x120 x121 x122 x123 x124 x125 x126 x127 x128 x129 x130 x131 x132 x133 x134 x135 x136 x137 x138 x139 x140 x141 x142 x143 x144 x145 x146 x147 x148 x149 x150 x151 x152 x153 x154 x155 x156 x157 x158 x159 x160 x161 x162 x163 x164 x165 x166 x167 x168 : Value} :
    Code.wp Try.prog loop36 (Exit.inBlock 2 (Exit.then K (bodyPost Try.prog Try.f36 (R36 S cs w)))) { tmps := List.toArray (x0 :: x1 :: x2 :: x3 :: x4 :: (.int .i64 n : Value) :: (.func (.func 78) #[] #[] : Value) :: x7 :: x8 :: x9 :: x10 :: x11 :: x12 :: x13 :: x14 :: x15 :: x16 :: x17 :: x18 :: x19 :: x20 :: x21 :: x22 :: x23 :: x24 :: x25 :: x26 :: x27 :: x28 :: x29 :: x30 :: x31 :: x32 :: x33 :: x34 :: x35 :: x36 :: x37 :: x38 :: x39 :: x40 :: x41 :: x42 :: x43 :: x44 :: x45 :: x46 :: x47 :: x48 :: x49 :: x50 :: x51 :: x52 :: x53 :: x54 :: x55 :: x56 :: x57 :: x58 :: x59 :: x60 :: x61 :: x62 :: x63 :: x64 :: x65 :: x66 :: x67 :: x68 :: x69 :: x70 :: x71 :: x72 :: x73 :: x74 :: x75 :: x76 :: x77 :: x78 :: x79 :: x80 :: x81 :: x82 :: x83 :: x84 :: x85 :: x86 :: x87 :: x88 :: x89 :: x90 :: x91 :: (.slice E m cE : Value) :: (.int .i64 m : Value) :: (.int .i64 0 : Value) :: x95 :: x96 :: x97 :: x98 :: x99 :: x100 :: x101 :: x102 :: x103 :: x104 :: x105 :: x106 :: x107 :: x108 :: x109 :: x110 :: x111 :: x112 :: x113 :: x114 :: x115 :: x116 :: x117 :: x118 :: x119 :: x120 :: x121 :: x122 :: x123 :: x124 :: x125 :: x126 :: x127 :: x128 :: x129 :: x130 :: x131 :: x132 :: x133 :: x134 :: x135 :: x136 :: x137 :: x138 :: x139 :: x140 :: x141 :: x142 :: x143 :: x144 :: x145 :: x146 :: x147 :: x148 :: x149 :: x150 :: x151 :: x152 :: x153 :: x154 :: x155 :: x156 :: x157 :: x158 :: x159 :: x160 :: x161 :: x162 :: x163 :: x164 :: x165 :: x166 :: x167 :: x168 :: []), defers := [] } W0 := by
  have HN := Lib.hid hn
  have HM := Lib.hid hm
  have HQ1 := Lib.hid hQ1
  have HH := Lib.hid hH
  have HSL := Lib.hid hsl
  have HCS := Lib.hid hC
  have HB := Lib.hid hB
  clear hn hm hQ1 hH hsl hC hB
  conv => arg 2; whnf
  go_loopw [9, 10, 12, 94] (fun _ _ _ i wr => ∃ j : Nat, j ≤ m ∧ i = .int .i64 j ∧ Hid (Below w.heap.size w wr ∧ ∀ x, x < j → carOk S.lim.length (cs.getD x default) = true)) (fun _ _ _ i _ => m - (intOf i).toNat)
  case atStart => exact ⟨0, Nat.zero_le _, rfl, Lib.hid ⟨HB.out, fun j hj => absurd hj (Nat.not_lt_zero _)⟩⟩
  case round =>
    obtain ⟨j, hj, rfl, HJ⟩ := hrel
    by_cases hlt2 : j < m
    · have hji : (j : Int) < (m : Int) := by omega
      have jl : j < cs.length := by rw [← HM.out]; exact hlt2
      obtain ⟨ad, rfl, abl, c0, c1, c2, c3, c4, T, cT, c5, hcT, HTT⟩ := (HCS.out.below HJ.out.1 (Nat.le_refl _)) j jl
      have HTR := Lib.hid HTT
      clear HTT
      have HBAD : Hid (carOk S.lim.length (cs.getD j default) = false → stE S cs = 2) := Lib.hid (fun h => stE_car HQ1.out j jl h)
      have HGO : Hid (carOk S.lim.length (cs.getD j default) = true → ∀ x, x < j + 1 → carOk S.lim.length (cs.getD x default) = true) := Lib.hid (fun h x hx => by
        by_cases hxj : x < j
        · exact HJ.out.2 x hxj
        · obtain rfl : x = j := by omega
          exact h)
      generalize cs.getD j default = c at *
      obtain ⟨cap, inn, out, start, fin, trips⟩ := c
      simp only at c0 c1 c2 c3 c4 c5 hcT HTR HBAD HGO
      have HQ : Hid (trips.length = trips.length) := Lib.hid rfl
      obtain ⟨q, hq⟩ : ∃ q, q = trips.length := ⟨_, rfl⟩
      rw [← hq] at c5 hcT
      have HQL := Lib.hid hq
      clear hq HQ
      go_upto_region 16 with fail
      have HX := Lib.hid (HJ.out.1.alloc HJ.out.1.size (.cells #[.int .i64 cap, .int .i64 inn, .int .i64 out, .int .i64 start, .int .i64 fin, .slice T q cT] 63))
      have XC := Lib.hid (Blk.new' wr #[.int .i64 cap, .int .i64 inn, .int .i64 out, .int .i64 start, .int .i64 fin, .slice T q cT] 63)
      have HTR2 := Lib.hid (HTR.out.below ((Below.refl wr.heap.size wr).alloc (Nat.le_refl _) (.cells #[.int .i64 cap, .int .i64 inn, .int .i64 out, .int .i64 start, .int .i64 fin, .slice T q cT] 63)) (Nat.le_refl _))
      generalize wr.alloc (.cells #[.int .i64 cap, .int .i64 inn, .int .i64 out, .int .i64 start, .int .i64 fin, .slice T q cT] 63) = wx at HX XC HTR2 ⊢
      generalize wr.heap.size = gc at *
      clear c0 c1 c2 c3 c4 c5 abl HTR
      have e0 := XC.out.cell 0 rfl
      have e1 := XC.out.cell 1 rfl
      have e2 := XC.out.cell 2 rfl
      have e3 := XC.out.cell 3 rfl
      have e4 := XC.out.cell 4 rfl
      have e5 := XC.out.cell 5 rfl
      have gcl := XC.out.lt
      by_cases r1 : cap < 1
      · have EE := Lib.hid (HBAD.out (carOk_head (by simp [carHead]; omega)))
        go_wp2_with fail
        go_ret
        exact ⟨ret_int EE.out.symm, HX.out⟩
      have HY1 := Lib.hid (HX.out.alloc HX.out.size (.cells #[.int .i64 cap, .int .i64 inn, .int .i64 out] 2))
      have HY2 := Lib.hid (HY1.out.alloc HY1.out.size (.cells #[.int .i64 start, .int .i64 fin] 2))
      by_cases r2 : (0 ≤ cap ∧ cap ≤ 1048576) ∧ (0 ≤ inn ∧ inn ≤ 1048576) ∧ (0 ≤ out ∧ out ≤ 1048576)
      · have U3 := upTo3_c wx.heap.size _ true (decide_eq_true r2).symm (Blk.new' wx #[.int .i64 cap, .int .i64 inn, .int .i64 out] 2)
        have RR2 := Lib.hid r2
        clear r2
        by_cases r3 : (0 ≤ start ∧ start ≤ cap) ∧ (0 ≤ fin ∧ fin ≤ cap)
        · have U2 := upTo2_c (wx.heap.size + 1) _ true (decide_eq_true r3).symm (by simpa using Blk.new' (wx.alloc (.cells #[.int .i64 cap, .int .i64 inn, .int .i64 out] 2)) #[.int .i64 start, .int .i64 fin] 2)
          have RR3 := Lib.hid r3
          clear r3
          by_cases r4 : 4 < q
          · have r4i : (4 : Int) < (q : Int) := by omega
            have EE := Lib.hid (HBAD.out (carOk_head (by simp [carHead]; have := HQL.out; omega)))
            go_wp2_with fail
            refine U3.mono ?_
            rintro e w3 ⟨rfl, rfl⟩
            go_wp2_with fail
            refine U2.mono ?_
            rintro e w3 ⟨rfl, rfl⟩
            go_wp2_with fail
            go_ret
            exact ⟨ret_int EE.out.symm, HY2.out⟩
          · have r4i : ¬ (4 : Int) < (q : Int) := by omega
            have HHD : Hid (carHead ⟨cap, inn, out, start, fin, trips⟩ = true) := Lib.hid (by simp [carHead]; have := RR2.out; have := RR3.out; have := HQL.out; omega)
            have XC2 := Lib.hid ((Blk.alloc (Blk.alloc XC.out (.cells #[.int .i64 cap, .int .i64 inn, .int .i64 out] 2)) (.cells #[.int .i64 start, .int .i64 fin] 2)))
            have BXX := (((Below.refl wx.heap.size wx).alloc (Nat.le_refl _) (.cells #[.int .i64 cap, .int .i64 inn, .int .i64 out] 2))).alloc (by simp) (.cells #[.int .i64 start, .int .i64 fin] 2)
            have HTR3 := Lib.hid (HTR2.out.below BXX (Nat.le_refl _))
            clear BXX
            go_wp2_with fail
            refine U3.mono ?_
            rintro e w3 ⟨rfl, rfl⟩
            go_wp2_with fail
            refine U2.mono ?_
            rintro e w3 ⟨rfl, rfl⟩
            go_upto_region 18 with fail
            generalize ((wx.alloc (.cells #[.int .i64 cap, .int .i64 inn, .int .i64 out] 2)).alloc (.cells #[.int .i64 start, .int .i64 fin] 2)) = wy at HY2 XC2 HTR3 ⊢
            clear U3 U2 e0 e1 e2 e3 e4 e5 gcl HY1 HX XC HTR2
            have e5 := XC2.out.cell 5 rfl
            go_wp2_with fail
            clear e5
            go_loopw [10, 12, 134] (fun bk _ i wr => ∃ k : Nat, k ≤ q ∧ i = .int .i64 k ∧ bk = .int .i64 (backAt trips k) ∧ Hid (Below w.heap.size w wr ∧ Blk wr gc 63 [.int .i64 cap, .int .i64 inn, .int .i64 out, .int .i64 start, .int .i64 fin, .slice T q cT] ∧ TripsAt wr T trips ∧ ∀ x, x < k → tripOk cap S.lim.length trips x = true)) (fun _ _ i _ => q - (intOf i).toNat)
            case atStart => exact ⟨0, Nat.zero_le _, rfl, rfl, Lib.hid ⟨HY2.out, XC2.out, HTR3.out, fun j hj => absurd hj (Nat.not_lt_zero _)⟩⟩
            case round =>
              obtain ⟨k, hk, rfl, rfl, HK⟩ := hrel
              by_cases hlt3 : k < q
              · have hki : (k : Int) < (q : Int) := by omega
                have kl : k < trips.length := by rw [← HQL.out]; exact hlt3
                obtain ⟨td, rfl, tbl, t0, t1, t2⟩ := HK.out.2.2.1 k kl
                have HOK := Lib.hid (show tripOk cap S.lim.length trips k = decide (backAt trips k ≤ (trips.getD k default).fr ∧ (trips.getD k default).fr < (trips.getD k default).to ∧ (trips.getD k default).to ≤ S.lim.length ∧ (0 ≤ (trips.getD k default).use ∧ (trips.getD k default).use ≤ cap)) from rfl)
                have HBK := Lib.hid (show backAt trips (k + 1) = (trips.getD k default).to from rfl)
                have HBD : Hid (tripOk cap S.lim.length trips k = false → stE S cs = 2) := Lib.hid (fun h => HBAD.out (carOk_trip (c := ⟨cap, inn, out, start, fin, trips⟩) k kl h))
                rw [← HN.out] at HOK
                generalize trips.getD k default = tr at *
                obtain ⟨fr, «to», us⟩ := tr
                simp only at t0 t1 t2 HOK HBK
                generalize hbk : backAt trips k = bk at *
                clear hbk
                go_upto_region 22 with fail
                have HZ := Lib.hid (HK.out.1.alloc HK.out.1.size (.cells #[.int .i64 fr, .int .i64 «to», .int .i64 us] 65))
                have ZC := Lib.hid (Blk.alloc HK.out.2.1 (.cells #[.int .i64 fr, .int .i64 «to», .int .i64 us] 65))
                have ZT := Lib.hid (Blk.new' wr #[.int .i64 fr, .int .i64 «to», .int .i64 us] 65)
                have ZTR := Lib.hid (HK.out.2.2.1.below ((Below.refl wr.heap.size wr).alloc (Nat.le_refl _) (.cells #[.int .i64 fr, .int .i64 «to», .int .i64 us] 65)) (Nat.le_refl _))
                generalize wr.alloc (.cells #[.int .i64 fr, .int .i64 «to», .int .i64 us] 65) = wz at HZ ZC ZT ZTR ⊢
                generalize wr.heap.size = gt at *
                clear t0 t1 t2 tbl
                have f0 := ZT.out.cell 0 rfl
                have f1 := ZT.out.cell 1 rfl
                have f2 := ZT.out.cell 2 rfl
                have e0 := ZC.out.cell 0 rfl
                have gtl := ZT.out.lt
                by_cases s1 : fr < bk
                · have EE := Lib.hid (HBD.out (by rw [← HN.out, HOK.out]; exact decide_eq_false (fun h => by omega)))
                  go_wp2_with fail
                  go_ret
                  exact ⟨ret_int EE.out.symm, HZ.out⟩
                by_cases s2 : «to» ≤ fr
                · have EE := Lib.hid (HBD.out (by rw [← HN.out, HOK.out]; exact decide_eq_false (fun h => by omega)))
                  go_wp2_with fail
                  go_ret
                  exact ⟨ret_int EE.out.symm, HZ.out⟩
                by_cases s3 : (n : Int) < «to»
                · have EE := Lib.hid (HBD.out (by rw [← HN.out, HOK.out]; exact decide_eq_false (fun h => by omega)))
                  go_wp2_with fail
                  go_ret
                  exact ⟨ret_int EE.out.symm, HZ.out⟩
                have HU1 := Lib.hid (HZ.out.alloc HZ.out.size (.cells #[.int .i64 us] 2))
                by_cases s4 : 0 ≤ us ∧ us ≤ cap
                · have U1 := upTo1_c wz.heap.size _ true (decide_eq_true s4).symm (Blk.new' wz #[.int .i64 us] 2)
                  have SS := Lib.hid (show tripOk cap S.lim.length trips k = true from by rw [← HN.out, HOK.out]; exact decide_eq_true (by omega))
                  clear s4
                  have BZ := (Below.refl wz.heap.size wz).alloc (Nat.le_refl _) (.cells #[.int .i64 us] 2)
                  have ZC2 := Lib.hid (ZC.out.alloc (.cells #[.int .i64 us] 2))
                  have ZTR2 := Lib.hid (ZTR.out.below BZ (Nat.le_refl _))
                  have f1b := (ZT.out.alloc (.cells #[.int .i64 us] 2)).cell 1 rfl
                  clear BZ
                  go_upto_region 24 with (go_at_call 78; refine U1.mono ?_; rintro e w3 ⟨rfl, rfl⟩)
                  generalize wz.alloc (.cells #[.int .i64 us] 2) = wq at HU1 ZC2 ZTR2 f1b ⊢
                  clear f0 f1 f2 e0 gtl U1 s1 s2 s3
                  go_wp2_with fail
                  refine ⟨⟨k + 1, by omega, by go_num, by rw [HBK.out], Lib.hid ⟨HU1.out, ZC2.out, ZTR2.out, fun x hx => ?_⟩⟩, by simp [intOf]; omega⟩
                  by_cases hxk : x < k
                  · exact HK.out.2.2.2 x hxk
                  · obtain rfl : x = k := by omega
                    exact SS.out
                · have U1 := upTo1_c wz.heap.size _ false (decide_eq_false s4).symm (Blk.new' wz #[.int .i64 us] 2)
                  have EE := Lib.hid (HBD.out (by rw [← HN.out, HOK.out]; exact decide_eq_false (fun h => by omega)))
                  clear s4
                  go_wp2_with (go_at_call 78; refine U1.mono ?_; rintro e w3 ⟨rfl, rfl⟩)
                  go_ret
                  exact ⟨ret_int EE.out.symm, HU1.out⟩
              · obtain rfl : k = q := by omega
                have HCK := Lib.hid (HGO.out (carOk_ok (c := ⟨cap, inn, out, start, fin, trips⟩) HHD.out (fun x hx => HK.out.2.2.2 x (by rw [HQL.out]; exact hx))))
                go_wp2_with fail
                exact ⟨⟨j + 1, by omega, by go_num, Lib.hid ⟨HK.out.1, HCK.out⟩⟩, by simp [intOf]; omega⟩
        · have U2 := upTo2_c (wx.heap.size + 1) _ false (decide_eq_false r3).symm (by simpa using Blk.new' (wx.alloc (.cells #[.int .i64 cap, .int .i64 inn, .int .i64 out] 2)) #[.int .i64 start, .int .i64 fin] 2)
          have EE := Lib.hid (HBAD.out (carOk_head (by simp [carHead]; omega)))
          clear r3
          go_wp2_with fail
          refine U3.mono ?_
          rintro e w3 ⟨rfl, rfl⟩
          go_wp2_with fail
          refine U2.mono ?_
          rintro e w3 ⟨rfl, rfl⟩
          go_wp2_with fail
          go_ret
          exact ⟨ret_int EE.out.symm, HY2.out⟩
      · have U3 := upTo3_c wx.heap.size _ false (decide_eq_false r2).symm (Blk.new' wx #[.int .i64 cap, .int .i64 inn, .int .i64 out] 2)
        have EE := Lib.hid (HBAD.out (carOk_head (by simp [carHead]; omega)))
        clear r2
        go_wp2_with (go_at_call 78; refine U3.mono ?_; rintro e w3 ⟨rfl, rfl⟩)
        go_ret
        exact ⟨ret_int EE.out.symm, HY1.out⟩
    · obtain rfl : j = m := by omega
      have EE := Lib.hid (stE_ok (S := S) (cs := cs) HQ1.out HH.out (fun t ht => HSL.out t ht) (fun i hi => HJ.out.2 i (by rw [HM.out]; exact hi)))
      go_wp2_with fail
      conv => arg 2; whnf
      go_wp2_with fail
      go_ret
      exact ⟨ret_int EE.out.symm, HJ.out.1⟩
end Go.Proofs.Ytmebpglkeedaoaa
namespace Go.Proofs.Ytmebpglkeedaoaa
open Go.RowKit Dp
set_option maxHeartbeats 8000000 in
set_option maxRecDepth 100000 in
theorem CheckSite_c (A B C D E : Option Addr) (S : Site) (cs : List Car) (n nB nC nD m cA cB cC cD cE : Nat) (w : World) (hn : n = S.lim.length) (hnB : nB = S.exp.length) (hnC : nC = S.buy.length) (hnD : nD = S.sell.length) (hm : m = cs.length)
    (hA : n ≤ cA ∧ cA ≤ 9223372036854775807) (hB : nB ≤ cB ∧ cB ≤ 9223372036854775807) (hC : nC ≤ cC ∧ cC ≤ 9223372036854775807) (hD : nD ≤ cD ∧ cD ≤ 9223372036854775807) (hE : m ≤ cE ∧ cE ≤ 9223372036854775807)
    (hS : SiteAt w A B C D S) (hcs : CarsAt w E cs) :
    Calls Try.prog 36 #[.agg #[.slice A n cA, .slice B nB cB, .slice C nC cC, .slice D nD cD], .slice E m cE] w fun e w' => e = .returned (.int .i64 (stE S cs)) ∧ Below w.heap.size w w' := by
  have HN := Lib.hid hn
  have HNB := Lib.hid hnB
  have HNC := Lib.hid hnC
  have HND := Lib.hid hnD
  have HM := Lib.hid hm
  have HS := Lib.hid hS
  have HCS := Lib.hid hcs
  clear hn hnB hnC hnD hm hS hcs
  have X := Lib.hid (Blk.new' w #[.slice A n cA, .slice B nB cB, .slice C nC cC, .slice D nD cD] 51)
  have HB := Lib.hid ((Below.refl w.heap.size w).alloc (Nat.le_refl _) (.cells #[.slice A n cA, .slice B nB cB, .slice C nC cC, .slice D nD cD] 51))
  go_enter Try.func36, Try.ntmps36
  go_upto_region 1 with fail
  generalize w.alloc (.cells #[.slice A n cA, .slice B nB cB, .slice C nC cC, .slice D nD cD] 51) = w1 at X HB ⊢
  by_cases q1 : 8 < m
  · have q1i : (8 : Int) < (m : Int) := by omega
    have EE := Lib.hid (stE_many (S := S) (cs := cs) (by rw [← HM.out]; exact q1))
    go_wp2_with fail
    go_ret
    exact ⟨ret_int EE.out.symm, HB.out⟩
  have q1i : ¬ (8 : Int) < (m : Int) := by omega
  have HQ1 : Hid (¬ 8 < cs.length) := Lib.hid (by rw [← HM.out]; exact q1)
  have x0 := X.out.cell 0 rfl
  have x1 := X.out.cell 1 rfl
  have x2 := X.out.cell 2 rfl
  have x3 := X.out.cell 3 rfl
  by_cases q2 : n < 1
  · have q2i : (n : Int) < 1 := by omega
    have EE := Lib.hid (stE_head (S := S) (cs := cs) HQ1.out (by simp [siteHead, ← HN.out, ← HNB.out, ← HNC.out, ← HND.out]; omega))
    go_wp2_with fail
    go_ret
    exact ⟨ret_int EE.out.symm, HB.out⟩
  have q2i : ¬ (n : Int) < 1 := by omega
  by_cases q3 : 48 < n
  · have q3i : (48 : Int) < (n : Int) := by omega
    have EE := Lib.hid (stE_head (S := S) (cs := cs) HQ1.out (by simp [siteHead, ← HN.out, ← HNB.out, ← HNC.out, ← HND.out]; omega))
    go_wp2_with fail
    go_ret
    exact ⟨ret_int EE.out.symm, HB.out⟩
  have q3i : ¬ (48 : Int) < (n : Int) := by omega
  by_cases q4 : nB ≠ n
  · have q4i : ¬ (nB : Int) = (n : Int) := by omega
    have q4b : ((nB : Int) == (n : Int)) = false := by simpa using q4i
    have EE := Lib.hid (stE_head (S := S) (cs := cs) HQ1.out (by simp [siteHead, ← HN.out, ← HNB.out, ← HNC.out, ← HND.out]; omega))
    go_wp2_with fail
    go_ret
    exact ⟨ret_int EE.out.symm, HB.out⟩
  obtain rfl : n = nB := by omega
  by_cases q5 : nC ≠ n
  · have q5i : ¬ (nC : Int) = (n : Int) := by omega
    have q5b : ((nC : Int) == (n : Int)) = false := by simpa using q5i
    have EE := Lib.hid (stE_head (S := S) (cs := cs) HQ1.out (by simp [siteHead, ← HN.out, ← HNB.out, ← HNC.out, ← HND.out]; omega))
    go_wp2_with fail
    go_ret
    exact ⟨ret_int EE.out.symm, HB.out⟩
  obtain rfl : n = nC := by omega
  by_cases q6 : nD ≠ n
  · have q6i : ¬ (nD : Int) = (n : Int) := by omega
    have q6b : ((nD : Int) == (n : Int)) = false := by simpa using q6i
    have EE := Lib.hid (stE_head (S := S) (cs := cs) HQ1.out (by simp [siteHead, ← HN.out, ← HNB.out, ← HNC.out, ← HND.out]; omega))
    go_wp2_with fail
    go_ret
    exact ⟨ret_int EE.out.symm, HB.out⟩
  obtain rfl : n = nD := by omega
  have HH : Hid (siteHead S = true) := Lib.hid (by simp [siteHead, ← HN.out, ← HNB.out, ← HNC.out, ← HND.out]; omega)
  go_wp2_with fail
  clear x0 x1 x2 x3
  go_loopw [7, 47] (fun _ i wr => ∃ t : Nat, t ≤ n ∧ i = .int .i64 t ∧ Hid (Below w.heap.size w wr ∧ Blk wr w.heap.size 51 [.slice A n cA, .slice B n cB, .slice C n cC, .slice D n cD] ∧ ∀ j, j < t → slotOk S j = true)) (fun _ i _ => n - (intOf i).toNat)
  case atStart => exact ⟨0, Nat.zero_le _, rfl, Lib.hid ⟨HB.out, X.out, fun j hj => absurd hj (Nat.not_lt_zero _)⟩⟩
  case round =>
    obtain ⟨t, ht, rfl, HW⟩ := hrel
    by_cases hlt : t < n
    · have hti : (t : Int) < (n : Int) := by omega
      have hcA := hA.1
      have tA : t < S.lim.length := by rw [← HN.out]; exact hlt
      obtain ⟨aL, rfl, aLb, aLc⟩ := HS.out.1 t tA
      obtain ⟨aE, rfl, aEb, aEc⟩ := HS.out.2.1 t (by rw [← HNB.out]; exact hlt)
      obtain ⟨aB, rfl, aBb, aBc⟩ := HS.out.2.2.1 t (by rw [← HNC.out]; exact hlt)
      obtain ⟨aS, rfl, aSb, aSc⟩ := HS.out.2.2.2 t (by rw [← HND.out]; exact hlt)
      have HV : Hid (∀ V, Below w.heap.size w V → (V.cell? (aL.add t) = some (.int .i64 (S.lim.getD t 0)) ∧ (aL.add t).block < V.heap.size) ∧ (V.cell? (aE.add t) = some (.int .i64 (S.exp.getD t 0)) ∧ (aE.add t).block < V.heap.size) ∧ (V.cell? (aB.add t) = some (.int .i64 (S.buy.getD t 0)) ∧ (aB.add t).block < V.heap.size) ∧ (V.cell? (aS.add t) = some (.int .i64 (S.sell.getD t 0)) ∧ (aS.add t).block < V.heap.size)) := Lib.hid (fun V hV => by
        have k := hV.size
        exact ⟨⟨(hV.cell (by rw [block_add]; exact aLb)).trans aLc, by rw [block_add]; omega⟩, ⟨(hV.cell (by rw [block_add]; exact aEb)).trans aEc, by rw [block_add]; omega⟩, ⟨(hV.cell (by rw [block_add]; exact aBb)).trans aBc, by rw [block_add]; omega⟩, ⟨(hV.cell (by rw [block_add]; exact aSb)).trans aSc, by rw [block_add]; omega⟩⟩)
      clear aLc aEc aBc aSc aLb aEb aBb aSb
      have HSO := Lib.hid (show slotOk S t = decide ((0 ≤ S.lim.getD t 0 ∧ S.lim.getD t 0 ≤ 1048576) ∧ (0 ≤ S.exp.getD t 0 ∧ S.exp.getD t 0 ≤ 1048576) ∧ (0 ≤ S.buy.getD t 0 ∧ S.buy.getD t 0 ≤ 1048576) ∧ (0 ≤ S.sell.getD t 0 ∧ S.sell.getD t 0 ≤ S.buy.getD t 0)) from rfl)
      generalize S.lim.getD t 0 = l at *
      generalize S.exp.getD t 0 = e at *
      generalize S.buy.getD t 0 = b at *
      generalize S.sell.getD t 0 = s at *
      go_upto_region 10 with fail
      by_cases k1 : (0 ≤ l ∧ l ≤ 1048576) ∧ (0 ≤ e ∧ e ≤ 1048576)
      · have HC1 : Hid (true = decide ((0 ≤ l ∧ l ≤ 1048576) ∧ (0 ≤ e ∧ e ≤ 1048576))) := Lib.hid (decide_eq_true k1).symm
        by_cases k2 : 0 ≤ b ∧ b ≤ 1048576
        · have HC2 : Hid (true = decide (0 ≤ b ∧ b ≤ 1048576)) := Lib.hid (decide_eq_true k2).symm
          by_cases k3 : 0 ≤ s ∧ s ≤ b
          · have HC3 : Hid (true = decide (0 ≤ s ∧ s ≤ b)) := Lib.hid (decide_eq_true k3).symm
            have HK := Lib.hid (And.intro k1 (And.intro k2 k3))
            clear k1 k2 k3
            refine wp_region_priv 41 [.q, .q, .q, .q, .q, .q, .q, .q, .q, .q, .q, .p, .c 11 61, .q, .q, .q, .q, .q, .q, .q, .q, .p, .c 21 71, .q, .q, .q, .q, .q, .q, .q, .q, .q, .q, .q, .q, .q, .q, .p, .c 37 87, .q, .q] (fun n => (if n = 37 then (.cells #[.int .i64 s] 2, fun b => .slice (some ⟨b, 0, none⟩) 1 1) else (if n = 21 then (.cells #[.int .i64 b] 2, fun b => .slice (some ⟨b, 0, none⟩) 1 1) else (if n = 11 then (.cells #[.int .i64 l, .int .i64 e] 2, fun b => .slice (some ⟨b, 0, none⟩) 2 2) else (.cells #[] 2, fun b => .slice (some ⟨b, 0, none⟩) 0 0))))) ?afA (by kernel_rfl) (by kernel_rfl) ?walkA ?tailA
            case walkA =>
              intro V hV
              have XV := HW.out.2.1.below hV HW.out.2.1.lt
              obtain ⟨⟨vl, vlb⟩, ⟨ve, veb⟩, ⟨vb, vbb⟩, ⟨vs, vsb⟩⟩ := HV.out V (HW.out.1.trans (hV.mono HW.out.1.size))
              have x0 := XV.cell 0 rfl
              have x1 := XV.cell 1 rfl
              have x2 := XV.cell 2 rfl
              have x3 := XV.cell 3 rfl
              have xlt := XV.lt
              clear XV hV
              simp only [List.take_succ_cons, List.take_zero]
              repeat (with_reducible refine wpP_q ?_; go_big_quiet_step (fail); with_reducible refine wpQuiet_nil ?_)
              refine wpP_p (by kernel_rfl) (fun _ => by kernel_rfl) ?_
              (try simp only [Act.put, List.setIfInBounds_toArray, List.set_cons_zero, List.set_cons_succ])
              refine wpP_c (.bool true) (fun V' g' hV' hg' => ?_) ?_
              · (try simp only [Act.put, List.setIfInBounds_toArray, List.set_cons_zero, List.set_cons_succ])
                have hbb : Blk V' g' 2 [.int .i64 l, .int .i64 e] := hg'
                have zz := hbb.lt
                go_big_quiet_step ((go_at_call 78; exact past_same (upTo2_c g' _ _ HC1.out (hbb.below (Past.far _) hbb.lt))))
                refine wpQuiet_nil ?_
                rfl
              (try simp only [Act.put, List.setIfInBounds_toArray, List.set_cons_zero, List.set_cons_succ])
              repeat (with_reducible refine wpP_q ?_; go_big_quiet_step (fail); with_reducible refine wpQuiet_nil ?_)
              refine wpP_p (by kernel_rfl) (fun _ => by kernel_rfl) ?_
              (try simp only [Act.put, List.setIfInBounds_toArray, List.set_cons_zero, List.set_cons_succ])
              refine wpP_c (.bool true) (fun V' g' hV' hg' => ?_) ?_
              · (try simp only [Act.put, List.setIfInBounds_toArray, List.set_cons_zero, List.set_cons_succ])
                have hbb : Blk V' g' 2 [.int .i64 b] := hg'
                have zz := hbb.lt
                go_big_quiet_step ((go_at_call 78; exact past_same (upTo1_c g' _ _ HC2.out (hbb.below (Past.far _) hbb.lt))))
                refine wpQuiet_nil ?_
                rfl
              (try simp only [Act.put, List.setIfInBounds_toArray, List.set_cons_zero, List.set_cons_succ])
              repeat (with_reducible refine wpP_q ?_; go_big_quiet_step (fail); with_reducible refine wpQuiet_nil ?_)
              refine wpP_p (by kernel_rfl) (fun _ => by kernel_rfl) ?_
              (try simp only [Act.put, List.setIfInBounds_toArray, List.set_cons_zero, List.set_cons_succ])
              refine wpP_c (.bool true) (fun V' g' hV' hg' => ?_) ?_
              · (try simp only [Act.put, List.setIfInBounds_toArray, List.set_cons_zero, List.set_cons_succ])
                have hbb : Blk V' g' 2 [.int .i64 s] := hg'
                have zz := hbb.lt
                go_big_quiet_step ((go_at_call 78; exact past_same (upTo1_c g' _ _ HC3.out (hbb.below (Past.far _) hbb.lt))))
                refine wpQuiet_nil ?_
                rfl
              (try simp only [Act.put, List.setIfInBounds_toArray, List.set_cons_zero, List.set_cons_succ])
              repeat (with_reducible refine wpP_q ?_; go_big_quiet_step (fail); with_reducible refine wpQuiet_nil ?_)
              with_reducible refine wpP_nil ?_
              rfl
            intro gs w3 hb3 _ _
            have HB3 := Lib.hid (HW.out.1.trans (hb3.mono HW.out.1.size))
            have XB3 := Lib.hid (HW.out.2.1.below hb3 HW.out.2.1.lt)
            clear hb3
            simp only [List.drop_succ_cons, List.drop_zero, List.take_succ_cons, List.take_zero, fillP]
            (try simp only [Act.put, List.setIfInBounds_toArray, List.set_cons_zero, List.set_cons_succ])
            go_wp2_with fail
            refine ⟨⟨t + 1, by omega, by go_num, Lib.hid ⟨HB3.out, XB3.out, fun j hj => ?_⟩⟩, by simp [intOf]; omega⟩
            by_cases hjt : j < t
            · exact HW.out.2.2 j hjt
            · obtain rfl : j = t := by omega
              rw [HSO.out]; exact decide_eq_true (by have := HK.out; omega)
          · have HC3 : Hid (false = decide (0 ≤ s ∧ s ≤ b)) := Lib.hid (decide_eq_false k3).symm
            have EE := Lib.hid (stE_slot (S := S) (cs := cs) HQ1.out t tA (by rw [HSO.out]; exact decide_eq_false (fun h => by omega)))
            clear k1 k2 k3
            refine wp_region_priv 41 [.q, .q, .q, .q, .q, .q, .q, .q, .q, .q, .q, .p, .c 11 61, .q, .q, .q, .q, .q, .q, .q, .q, .p, .c 21 71, .q, .q, .q, .q, .q, .q, .q, .q, .q, .q, .q, .q, .q, .q, .p, .c 37 87, .q, .q] (fun n => (if n = 37 then (.cells #[.int .i64 s] 2, fun b => .slice (some ⟨b, 0, none⟩) 1 1) else (if n = 21 then (.cells #[.int .i64 b] 2, fun b => .slice (some ⟨b, 0, none⟩) 1 1) else (if n = 11 then (.cells #[.int .i64 l, .int .i64 e] 2, fun b => .slice (some ⟨b, 0, none⟩) 2 2) else (.cells #[] 2, fun b => .slice (some ⟨b, 0, none⟩) 0 0))))) ?afB (by kernel_rfl) (by kernel_rfl) ?walkB ?tailB
            case walkB =>
              intro V hV
              have XV := HW.out.2.1.below hV HW.out.2.1.lt
              obtain ⟨⟨vl, vlb⟩, ⟨ve, veb⟩, ⟨vb, vbb⟩, ⟨vs, vsb⟩⟩ := HV.out V (HW.out.1.trans (hV.mono HW.out.1.size))
              have x0 := XV.cell 0 rfl
              have x1 := XV.cell 1 rfl
              have x2 := XV.cell 2 rfl
              have x3 := XV.cell 3 rfl
              have xlt := XV.lt
              clear XV hV
              simp only [List.take_succ_cons, List.take_zero]
              repeat (with_reducible refine wpP_q ?_; go_big_quiet_step (fail); with_reducible refine wpQuiet_nil ?_)
              refine wpP_p (by kernel_rfl) (fun _ => by kernel_rfl) ?_
              (try simp only [Act.put, List.setIfInBounds_toArray, List.set_cons_zero, List.set_cons_succ])
              refine wpP_c (.bool true) (fun V' g' hV' hg' => ?_) ?_
              · (try simp only [Act.put, List.setIfInBounds_toArray, List.set_cons_zero, List.set_cons_succ])
                have hbb : Blk V' g' 2 [.int .i64 l, .int .i64 e] := hg'
                have zz := hbb.lt
                go_big_quiet_step ((go_at_call 78; exact past_same (upTo2_c g' _ _ HC1.out (hbb.below (Past.far _) hbb.lt))))
                refine wpQuiet_nil ?_
                rfl
              (try simp only [Act.put, List.setIfInBounds_toArray, List.set_cons_zero, List.set_cons_succ])
              repeat (with_reducible refine wpP_q ?_; go_big_quiet_step (fail); with_reducible refine wpQuiet_nil ?_)
              refine wpP_p (by kernel_rfl) (fun _ => by kernel_rfl) ?_
              (try simp only [Act.put, List.setIfInBounds_toArray, List.set_cons_zero, List.set_cons_succ])
              refine wpP_c (.bool true) (fun V' g' hV' hg' => ?_) ?_
              · (try simp only [Act.put, List.setIfInBounds_toArray, List.set_cons_zero, List.set_cons_succ])
                have hbb : Blk V' g' 2 [.int .i64 b] := hg'
                have zz := hbb.lt
                go_big_quiet_step ((go_at_call 78; exact past_same (upTo1_c g' _ _ HC2.out (hbb.below (Past.far _) hbb.lt))))
                refine wpQuiet_nil ?_
                rfl
              (try simp only [Act.put, List.setIfInBounds_toArray, List.set_cons_zero, List.set_cons_succ])
              repeat (with_reducible refine wpP_q ?_; go_big_quiet_step (fail); with_reducible refine wpQuiet_nil ?_)
              refine wpP_p (by kernel_rfl) (fun _ => by kernel_rfl) ?_
              (try simp only [Act.put, List.setIfInBounds_toArray, List.set_cons_zero, List.set_cons_succ])
              refine wpP_c (.bool false) (fun V' g' hV' hg' => ?_) ?_
              · (try simp only [Act.put, List.setIfInBounds_toArray, List.set_cons_zero, List.set_cons_succ])
                have hbb : Blk V' g' 2 [.int .i64 s] := hg'
                have zz := hbb.lt
                go_big_quiet_step ((go_at_call 78; exact past_same (upTo1_c g' _ _ HC3.out (hbb.below (Past.far _) hbb.lt))))
                refine wpQuiet_nil ?_
                rfl
              (try simp only [Act.put, List.setIfInBounds_toArray, List.set_cons_zero, List.set_cons_succ])
              repeat (with_reducible refine wpP_q ?_; go_big_quiet_step (fail); with_reducible refine wpQuiet_nil ?_)
              with_reducible refine wpP_nil ?_
              rfl
            intro gs w3 hb3 _ _
            have HB3 := Lib.hid (HW.out.1.trans (hb3.mono HW.out.1.size))
            have XB3 := Lib.hid (HW.out.2.1.below hb3 HW.out.2.1.lt)
            clear hb3
            simp only [List.drop_succ_cons, List.drop_zero, List.take_succ_cons, List.take_zero, fillP]
            (try simp only [Act.put, List.setIfInBounds_toArray, List.set_cons_zero, List.set_cons_succ])
            go_wp2_with fail
            go_ret
            exact ⟨ret_int EE.out.symm, HB3.out⟩
        · have HC2 : Hid (false = decide (0 ≤ b ∧ b ≤ 1048576)) := Lib.hid (decide_eq_false k2).symm
          have EE := Lib.hid (stE_slot (S := S) (cs := cs) HQ1.out t tA (by rw [HSO.out]; exact decide_eq_false (fun h => by omega)))
          clear k1 k2
          refine wp_region_priv 41 [.q, .q, .q, .q, .q, .q, .q, .q, .q, .q, .q, .p, .c 11 61, .q, .q, .q, .q, .q, .q, .q, .q, .p, .c 21 71, .q, .q, .q, .q, .q, .q, .q, .q, .q, .q, .q, .q, .q, .q, .q, .q, .q, .q] (fun n => (if n = 21 then (.cells #[.int .i64 b] 2, fun b => .slice (some ⟨b, 0, none⟩) 1 1) else (if n = 11 then (.cells #[.int .i64 l, .int .i64 e] 2, fun b => .slice (some ⟨b, 0, none⟩) 2 2) else (.cells #[] 2, fun b => .slice (some ⟨b, 0, none⟩) 0 0)))) ?afC (by kernel_rfl) (by kernel_rfl) ?walkC ?tailC
          case walkC =>
            intro V hV
            have XV := HW.out.2.1.below hV HW.out.2.1.lt
            obtain ⟨⟨vl, vlb⟩, ⟨ve, veb⟩, ⟨vb, vbb⟩, ⟨vs, vsb⟩⟩ := HV.out V (HW.out.1.trans (hV.mono HW.out.1.size))
            have x0 := XV.cell 0 rfl
            have x1 := XV.cell 1 rfl
            have x2 := XV.cell 2 rfl
            have x3 := XV.cell 3 rfl
            have xlt := XV.lt
            clear XV hV
            simp only [List.take_succ_cons, List.take_zero]
            repeat (with_reducible refine wpP_q ?_; go_big_quiet_step (fail); with_reducible refine wpQuiet_nil ?_)
            refine wpP_p (by kernel_rfl) (fun _ => by kernel_rfl) ?_
            (try simp only [Act.put, List.setIfInBounds_toArray, List.set_cons_zero, List.set_cons_succ])
            refine wpP_c (.bool true) (fun V' g' hV' hg' => ?_) ?_
            · (try simp only [Act.put, List.setIfInBounds_toArray, List.set_cons_zero, List.set_cons_succ])
              have hbb : Blk V' g' 2 [.int .i64 l, .int .i64 e] := hg'
              have zz := hbb.lt
              go_big_quiet_step ((go_at_call 78; exact past_same (upTo2_c g' _ _ HC1.out (hbb.below (Past.far _) hbb.lt))))
              refine wpQuiet_nil ?_
              rfl
            (try simp only [Act.put, List.setIfInBounds_toArray, List.set_cons_zero, List.set_cons_succ])
            repeat (with_reducible refine wpP_q ?_; go_big_quiet_step (fail); with_reducible refine wpQuiet_nil ?_)
            refine wpP_p (by kernel_rfl) (fun _ => by kernel_rfl) ?_
            (try simp only [Act.put, List.setIfInBounds_toArray, List.set_cons_zero, List.set_cons_succ])
            refine wpP_c (.bool false) (fun V' g' hV' hg' => ?_) ?_
            · (try simp only [Act.put, List.setIfInBounds_toArray, List.set_cons_zero, List.set_cons_succ])
              have hbb : Blk V' g' 2 [.int .i64 b] := hg'
              have zz := hbb.lt
              go_big_quiet_step ((go_at_call 78; exact past_same (upTo1_c g' _ _ HC2.out (hbb.below (Past.far _) hbb.lt))))
              refine wpQuiet_nil ?_
              rfl
            (try simp only [Act.put, List.setIfInBounds_toArray, List.set_cons_zero, List.set_cons_succ])
            repeat (with_reducible refine wpP_q ?_; go_big_quiet_step (fail); with_reducible refine wpQuiet_nil ?_)
            with_reducible refine wpP_nil ?_
            rfl
          intro gs w3 hb3 _ _
          have HB3 := Lib.hid (HW.out.1.trans (hb3.mono HW.out.1.size))
          have XB3 := Lib.hid (HW.out.2.1.below hb3 HW.out.2.1.lt)
          clear hb3
          simp only [List.drop_succ_cons, List.drop_zero, List.take_succ_cons, List.take_zero, fillP]
          (try simp only [Act.put, List.setIfInBounds_toArray, List.set_cons_zero, List.set_cons_succ])
          go_wp2_with fail
          go_ret
          exact ⟨ret_int EE.out.symm, HB3.out⟩
      · have HC1 : Hid (false = decide ((0 ≤ l ∧ l ≤ 1048576) ∧ (0 ≤ e ∧ e ≤ 1048576))) := Lib.hid (decide_eq_false k1).symm
        have EE := Lib.hid (stE_slot (S := S) (cs := cs) HQ1.out t tA (by rw [HSO.out]; exact decide_eq_false (fun h => by omega)))
        clear k1
        refine wp_region_priv 41 [.q, .q, .q, .q, .q, .q, .q, .q, .q, .q, .q, .p, .c 11 61, .q, .q, .q, .q, .q, .q, .q, .q, .q, .q, .q, .q, .q, .q, .q, .q, .q, .q, .q, .q, .q, .q, .q, .q, .q, .q, .q, .q] (fun n => (if n = 11 then (.cells #[.int .i64 l, .int .i64 e] 2, fun b => .slice (some ⟨b, 0, none⟩) 2 2) else (.cells #[] 2, fun b => .slice (some ⟨b, 0, none⟩) 0 0))) ?afD (by kernel_rfl) (by kernel_rfl) ?walkD ?tailD
        case walkD =>
          intro V hV
          have XV := HW.out.2.1.below hV HW.out.2.1.lt
          obtain ⟨⟨vl, vlb⟩, ⟨ve, veb⟩, ⟨vb, vbb⟩, ⟨vs, vsb⟩⟩ := HV.out V (HW.out.1.trans (hV.mono HW.out.1.size))
          have x0 := XV.cell 0 rfl
          have x1 := XV.cell 1 rfl
          have x2 := XV.cell 2 rfl
          have x3 := XV.cell 3 rfl
          have xlt := XV.lt
          clear XV hV
          simp only [List.take_succ_cons, List.take_zero]
          repeat (with_reducible refine wpP_q ?_; go_big_quiet_step (fail); with_reducible refine wpQuiet_nil ?_)
          refine wpP_p (by kernel_rfl) (fun _ => by kernel_rfl) ?_
          (try simp only [Act.put, List.setIfInBounds_toArray, List.set_cons_zero, List.set_cons_succ])
          refine wpP_c (.bool false) (fun V' g' hV' hg' => ?_) ?_
          · (try simp only [Act.put, List.setIfInBounds_toArray, List.set_cons_zero, List.set_cons_succ])
            have hbb : Blk V' g' 2 [.int .i64 l, .int .i64 e] := hg'
            have zz := hbb.lt
            go_big_quiet_step ((go_at_call 78; exact past_same (upTo2_c g' _ _ HC1.out (hbb.below (Past.far _) hbb.lt))))
            refine wpQuiet_nil ?_
            rfl
          (try simp only [Act.put, List.setIfInBounds_toArray, List.set_cons_zero, List.set_cons_succ])
          repeat (with_reducible refine wpP_q ?_; go_big_quiet_step (fail); with_reducible refine wpQuiet_nil ?_)
          with_reducible refine wpP_nil ?_
          rfl
        intro gs w3 hb3 _ _
        have HB3 := Lib.hid (HW.out.1.trans (hb3.mono HW.out.1.size))
        have XB3 := Lib.hid (HW.out.2.1.below hb3 HW.out.2.1.lt)
        clear hb3
        simp only [List.drop_succ_cons, List.drop_zero, List.take_succ_cons, List.take_zero, fillP]
        (try simp only [Act.put, List.setIfInBounds_toArray, List.set_cons_zero, List.set_cons_succ])
        go_wp2_with fail
        go_ret
        exact ⟨ret_int EE.out.symm, HB3.out⟩
    · obtain rfl : n = t := by omega
      have HSL := HW
      go_wp2_with fail
      rename_i KK hKK
      refine wp_codeP (c' := loop36) (by kernel_rfl) ?_
      exact site2 E S cs n m cE w wr HN.out HM.out hE HQ1.out HH.out (fun t ht => HW.out.2.2 t (by rw [HN.out]; exact ht)) HCS.out HW.out.1 (fun a w' h => hKK a w' (wp_codeP (by kernel_rfl) h))
end Go.Proofs.Ytmebpglkeedaoaa
namespace Go.Proofs.Ytmebpglkeedaoaa
open Go.RowKit Dp
set_option maxHeartbeats 1000000 in
set_option maxRecDepth 100000 in
theorem drawn_c (A B : Option Addr) (T : Tab) (m mo cA cB k : Nat) (w : World) (hm : m = T.inn.length) (hmo : mo = T.out.length) (hmm : m ≤ mo) (h8 : m ≤ 8) (hA : m ≤ cA ∧ cA ≤ 9223372036854775807) (hB : mo ≤ cB ∧ cB ≤ 9223372036854775807) (hT : TabAt w A B T) (hS : SlotBd T k m) :
    Calls Try.prog 89 #[.agg #[.slice A m cA, .slice B mo cB], .int .i64 k] w fun e w' => e = .returned (.int .i64 (drP T k m)) ∧ Below w.heap.size w w' := by
  have HM := Lib.hid hm
  have HMO := Lib.hid hmo
  have HT := Lib.hid hT
  have HS := Lib.hid hS
  have HD := Lib.hid (drP_bd hS)
  clear hm hmo hT hS
  have X := Lib.hid (Blk.new' w #[.slice A m cA, .slice B mo cB] 55)
  have HB := Lib.hid ((Below.refl w.heap.size w).alloc (Nat.le_refl _) (.cells #[.slice A m cA, .slice B mo cB] 55))
  go_enter Try.func89, Try.ntmps89
  go_upto_region 1 with fail
  generalize w.alloc (.cells #[.slice A m cA, .slice B mo cB] 55) = w1 at X HB ⊢
  have c0 := X.out.cell 0 rfl
  go_wp2_with fail
  clear c0
  go_loopw [4, 5, 9] (fun s _ i wr => ∃ j : Nat, j ≤ m ∧ i = .int .i64 j ∧ s = .int .i64 (drP T k j) ∧ Hid (Below w.heap.size w wr ∧ Blk wr w.heap.size 55 [.slice A m cA, .slice B mo cB])) (fun _ _ i _ => m - (intOf i).toNat)
  case atStart => exact ⟨0, Nat.zero_le _, rfl, rfl, Lib.hid ⟨HB.out, X.out⟩⟩
  case round =>
    obtain ⟨j, hj, rfl, rfl, HW⟩ := hrel
    by_cases hlt : j < m
    · have hji : (j : Int) < (m : Int) := by omega
      have hjo : (j : Int) < (mo : Int) := by omega
      obtain ⟨ad, rfl, abl, P, cP, p0, pb, pi⟩ := (HT.out.1.below HW.out.1 (Nat.le_refl _)) j (by rw [← HM.out]; exact hlt)
      obtain ⟨bd, rfl, bbl, Q, cQ, q0, qb, qi⟩ := (HT.out.2.below HW.out.1 (Nat.le_refl _)) j (by rw [← HMO.out]; omega)
      have hs := HS.out j hlt
      obtain ⟨pd, rfl, pbl, px⟩ := pi k hs.1.1
      obtain ⟨qd, rfl, qbl, qx⟩ := qi k hs.1.2
      have hkp : (k : Int) < ((T.inn.getD j []).length : Int) := by omega
      have hkq : (k : Int) < ((T.out.getD j []).length : Int) := by omega
      have hb := HD.out j (by omega)
      have hb2 := hs.2
      have HST := Lib.hid (show drP T k (j + 1) = drP T k j + ((T.inn.getD j []).getD k 0 - (T.out.getD j []).getD k 0) from rfl)
      clear hs pi qi
      generalize (T.inn.getD j []).getD k 0 = x at *
      generalize (T.out.getD j []).getD k 0 = y at *
      generalize (T.inn.getD j []).length = np at *
      generalize (T.out.getD j []).length = nq at *
      generalize drP T k j = d at *
      go_upto_region 4 with fail
      have c0 := HW.out.2.cell 0 rfl
      have c1 := HW.out.2.cell 1 rfl
      have lt0 := HW.out.2.lt
      have w1e : IntKind.i64.wrap (x - y) = x - y := IntWalk.i64_in _ (by omega)
      have w2e : IntKind.i64.wrap (d + (x - y)) = d + (x - y) := IntWalk.i64_in _ (by omega)
      have ab2 : (ad.add j).block < wr.heap.size := by rw [block_add]; exact abl
      have bb2 : (bd.add j).block < wr.heap.size := by rw [block_add]; exact bbl
      have pb2 : (pd.add k).block < wr.heap.size := by rw [block_add]; exact pbl
      have qb2 : (qd.add k).block < wr.heap.size := by rw [block_add]; exact qbl
      clear hb hb2
      refine wp_region_past (by kernel_rfl) (by kernel_rfl) ?_
      repeat (go_big_quiet_step (fail))
      refine wpQuiet_nil ?_
      intro xx
      have HX := Lib.hid (HW.out.1.trans (xx.far.mono HW.out.1.size))
      have BX := Lib.hid (HW.out.2.below xx.far HW.out.2.lt)
      generalize xx.w = w3 at HX BX ⊢
      clear c0 c1 lt0 ab2 bb2 pb2 qb2 w1e w2e p0 q0 px qx
      go_wp2_with fail
      exact ⟨⟨j + 1, by omega, by go_num, by rw [HST.out], Lib.hid ⟨HX.out, BX.out⟩⟩, by simp [intOf]; omega⟩
    · obtain rfl : j = m := by omega
      go_wp2_with fail
      go_ret
      exact ⟨rfl, HW.out.1⟩
end Go.Proofs.Ytmebpglkeedaoaa
namespace Go.Proofs.Ytmebpglkeedaoaa
open Go Go.RowKit
def rgPost3 {α : Type} (B : Nat) (I : List α → World → Prop) (c : Code) (Ix : List α → World → Prop) (pre : List α) (x : α) (W : World) : Exit → Act → World → Prop
  | .normal, _, W' => KeepsFrom B W W' ∧ I (pre ++ [x]) W'
  | .exit id, _, W' => c = .exit id ∧ KeepsFrom B W W' ∧ Ix (pre ++ [x]) W'
  | .ret, _, W' => c = .ret ∧ KeepsFrom B W W' ∧ Ix (pre ++ [x]) W'
  | _, _, _ => False
theorem range_mine3 {α : Type} {F : Fence} {n : Nat} {P : Program} {g : Operand} {ps : Array Tmp} {assign body : Code} {Q : Exit → Act → World → Prop} {a : Act} {w : World}
    (hro : F.round = none) (h1 : 1 ≤ n) {gf : Nat} {lb : Array Value} (hg : a.eval g = .func (.func gf) #[] lb) (hFg : F.fn gf) (eg : ∀ args w, (callFunc gf args).run P w = .ok (.enter gf args) w)
    {encs : α → Array Value} (hps : ∀ x, (encs x).size = ps.size) (I Ix : List α → World → Prop) (c : Code) (S Sp : List α → Prop) (Ok : List α → α → Prop)
    (hI : OwnFrom w.heap.size I) (hIx : OwnFrom w.heap.size Ix) (h0 : I [] w)
    (hseq : ∀ (l : Nat) (J Jx : List α → World → Prop) (W : World), (∀ pre W, J pre W → I pre W) → OwnFrom W.heap.size J → OwnFrom W.heap.size Jx → w.heap.size ≤ W.heap.size →
      (∀ pre x W1, J pre W1 → Ok pre x → YieldAt F (n - 1 - 1) P l (encs x) W1 fun e W' => KeepsFrom W.heap.size W1 W' ∧ ((e = .returned (.bool true) ∧ J (pre ++ [x]) W') ∨ (e = .returned (.bool false) ∧ Jx (pre ++ [x]) W'))) →
      J [] W → CallsIn F (n - 1) P gf (#[.func (.yield l) #[] #[]] ++ lb) W fun e W' => (∃ v, e = .returned v) ∧ ((∃ xs, S xs ∧ J xs W') ∨ (∃ pre, Sp pre ∧ Jx pre W')))
    (a₁ : α → Act)
    (hassign : ∀ (l : Nat) (x : α) (W : World) (K : Act → World → Prop), K (a₁ x) W →
      assign.wpIn (F.inRound l) (n - 1 - 1) P (Exit.then K (fun _ _ _ => False)) { tmps := (ps.zip (encs x)).foldl (fun t (p, v) => t.setIfInBounds p v) a.tmps, defers := [] } W)
    (hbody : ∀ (l : Nat) (pre : List α) (x : α) (W : World), I pre W → Ok pre x → body.wpIn (F.inRound l) (n - 1 - 1) P (rgPost3 w.heap.size I c Ix pre x W) (a₁ x) W)
    (hdone : ∀ (D : Nat) (xs : List α) (W : World), w.heap.size ≤ D → S xs → I xs W → W.heap[D]? = some (.deferred (some [])) → Q .normal { a with defers := { target := .collected D, args := #[] } :: a.defers } W)
    (hstop : ∀ (D : Nat) (pre : List α) (W : World), w.heap.size ≤ D → Sp pre → Ix pre W → W.heap[D]? = some (.deferred (some [])) → c.wpIn F n P Q { a with defers := { target := .collected D, args := #[] } :: a.defers } W) :
    (Code.rangeFunc g ps assign body).wpIn F n P Q a w := by
  refine wpIn_rangeFunc fun fn hfn => ?_
  rw [hro]
  -- the two blocks of the loop
  generalize hd : w.heap.size = d at *
  obtain ⟨rec, hrec⟩ : ∃ rec : LoopState → Option Code → Loop, rec = fun st pe => { state := st, pending := pe, fn, tmps := a.tmps, params := ps, assign, body, defers := d } := ⟨_, rfl⟩
  obtain ⟨W1, hW1⟩ : ∃ W1, (w.alloc (.deferred (some []))).alloc (.loop (rec .ready none)) = W1 := ⟨_, rfl⟩
  have eL : W1.heap[d + 1]? = some (.loop (rec .ready none)) := by
    rw [← hW1, ← hd]
    have h := World.alloc_heap_new (w.alloc (.deferred (some []))) (.loop (rec .ready none))
    rwa [World.size_alloc] at h
  have eD : W1.heap[d]? = some (.deferred (some [])) := by
    rw [← hW1, ← hd]
    exact (Below.heap_alloc _ _ _ (by simp)).trans (World.alloc_heap_new w _)
  have hz1 : W1.heap.size = d + 2 := by rw [← hW1, ← hd]; simp
  have i1 : I [] W1 := by rw [← hW1]; exact hI.alloc _ (hI.alloc _ h0)
  -- a turn of the record keeps what is kept
  have turn : ∀ {W : World} {o : Obj} (o' : Obj), W.heap[d + 1]? = some o → (W.putObj (d + 1) o').heap[d + 1]? = some o' ∧ ((W.putObj (d + 1) o').heap[d]? = W.heap[d]?) :=
    fun {W o} o' h => ⟨World.putObj_heap_same (Array.getElem?_eq_some_iff.1 h).1, World.putObj_heap_other (by omega)⟩
  refine ⟨d + 1, [{ target := .collected d, args := #[] }], W1, { target := .fn (.func gf) lb, args := #[.func (.yield (d + 1)) #[] #[]] }, W1, gf, #[.func (.yield (d + 1)) #[] #[]] ++ lb, W1, ?_, ?_, ?_, ?_, fun _ => h1, ?_⟩
  · rw [← hW1, hrec, ← hd]; exact run_enterLoop_outer _ _ _ _ _
  · simp only [resolve, hg]; simp [go_sem]
  · intro f' hf'
    simp [Target.leads] at hf'
    subst hf'
    exact hFg
  · simp [invoke, go_sem, eg]
  · refine (hseq (d + 1) (fun pre W => I pre W ∧ W.heap[d + 1]? = some (.loop (rec .ready none)) ∧ W.heap[d]? = some (.deferred (some [])))
      (fun pre W => Ix pre W ∧ W.heap[d + 1]? = some (.loop (rec .done (some c))) ∧ W.heap[d]? = some (.deferred (some []))) W1 (fun pre W h => h.1) (fun pre W W' row h hg hr => ⟨hI pre W W' row h.1 hg (fun r e => ⟨Nat.le_trans (by omega) (hr r e).1, (hr r e).2⟩), (hg.block _ (Array.getElem?_eq_some_iff.1 h.2.1).1 (fun e => by have := (hr _ e.symm).1; omega)).trans h.2.1, (hg.block _ (Array.getElem?_eq_some_iff.1 h.2.2).1 (fun e => by have := (hr _ e.symm).1; omega)).trans h.2.2⟩) (fun pre W W' row h hg hr => ⟨hIx pre W W' row h.1 hg (fun r e => ⟨Nat.le_trans (by omega) (hr r e).1, (hr r e).2⟩), (hg.block _ (Array.getElem?_eq_some_iff.1 h.2.1).1 (fun e => by have := (hr _ e.symm).1; omega)).trans h.2.1, (hg.block _ (Array.getElem?_eq_some_iff.1 h.2.2).1 (fun e => by have := (hr _ e.symm).1; omega)).trans h.2.2⟩) (by omega) ?_ ⟨i1, eL, eD⟩).mono ?_
    · rintro pre x W ⟨hi, hl, hk⟩ hok
      have hy := run_yield (P := P) (args := encs x) hl (by rw [hrec]; exact hps x)
      rw [hrec] at hy
      obtain ⟨W2, hW2⟩ : ∃ W2, W.putObj (d + 1) (.loop { rec .ready none with state := .busy }) = W2 := ⟨_, rfl⟩
      have hb := run_beginRound (P := P) hl (by rw [hrec])
      rw [hW2] at hb
      have t := turn (.loop { rec .ready none with state := .busy }) hl
      rw [hW2] at t
      have i2 : I pre W2 := by rw [← hW2]; exact hI.putObj _ hi (by omega) hl rfl
      refine ⟨fn, _, assign, body, hy, roundIn_of_wpIn hfn (hassign _ x W _ ⟨W2, hb, wpIn_mono (hbody _ pre x _ i2 hok) ?_⟩)⟩
      -- the end of the round, by the way in which it is left
      have close : ∀ (j : Option Code) (W3 : World), KeepsFrom d W2 W3 → ∃ W4, (Instr.endRound (d + 1) j).run P W3 = .ok (.bool j.isNone) W4 ∧ W4 = W3.putObj (d + 1) (.loop (rec (if j.isNone then .ready else .done) j)) ∧
          W3.heap[d + 1]? = some (.loop { rec .ready none with state := .busy }) ∧ W4.heap[d + 1]? = some (.loop (rec (if j.isNone then .ready else .done) j)) ∧ W4.heap[d]? = some (.deferred (some [])) ∧ KeepsFrom W1.heap.size W W4 := fun j W3 hk3 => by
        have l3 := hk3.same _ _ (by omega) t.1 rfl
        have k3 := hk3.same _ _ (by omega) (t.2.trans hk) rfl
        have he := run_endRound (P := P) j l3
        have t3 := turn (.loop (rec (if j.isNone then .ready else .done) j)) l3
        refine ⟨_, he, ?_, l3, ?_, ?_, ?_⟩
        · rw [hrec]
        · have := t3.1; rw [hrec] at this ⊢; exact this
        · exact (World.putObj_heap_other (by omega)).trans k3
        · refine ⟨?_, fun k o hk4 ho hc => ?_⟩
          · have e1 : W2.heap.size = W.heap.size := by rw [← hW2]; simp [World.putObj]
            have e2 := hk3.size
            have e3 : ∀ o : Obj, (W3.putObj (d + 1) o).heap.size = W3.heap.size := fun o => by simp [World.putObj]
            rw [e3]; omega
          · refine (World.putObj_heap_other (by omega)).trans (hk3.same k o (by omega) ?_ hc)
            rw [← hW2]
            exact (World.putObj_heap_other (by omega)).trans ho
      rintro e a3 W3 hp
      cases e with
      | normal =>
        obtain ⟨hk3, hi3⟩ := hp
        obtain ⟨W4, he, hW4, l3, l4, k4, kk⟩ := close none W3 hk3
        refine ⟨_, _, he, kk, .inl ⟨rfl, ?_, l4, k4⟩⟩
        rw [hW4]
        exact hI.putObj _ hi3 (by omega) l3 rfl
      | exit id =>
        obtain ⟨hc, hk3, hi3⟩ := hp
        obtain ⟨W4, he, hW4, l3, l4, k4, kk⟩ := close (some (.exit id)) W3 hk3
        refine ⟨_, _, he, kk, .inr ⟨rfl, ?_, by rw [hc]; exact l4, k4⟩⟩
        rw [hW4]
        exact hIx.putObj _ hi3 (by omega) l3 rfl
      | ret =>
        obtain ⟨hc, hk3, hi3⟩ := hp
        obtain ⟨W4, he, hW4, l3, l4, k4, kk⟩ := close (some .ret) W3 hk3
        refine ⟨_, _, he, kk, .inr ⟨rfl, ?_, by rw [hc]; exact l4, k4⟩⟩
        rw [hW4]
        exact hIx.putObj _ hi3 (by omega) l3 rfl
      | goto t => exact hp.elim
      | panic ch => exact hp.elim
      | outgrown => exact hp.elim
    · rintro e W2 ⟨⟨v, rfl⟩, (⟨xs, hS, hi, hl, hk⟩ | ⟨pre, hSp, hi, hl, hk⟩)⟩
      · have he := run_endLoop (P := P) hl (by rw [hrec]; simp)
        rw [hrec] at he
        have t := turn (.loop { rec .ready none with state := .exhausted }) hl
        refine ⟨none, _, he, hdone d xs _ (by omega) hS (hI.putObj _ hi (by omega) hl rfl) ?_⟩
        have := t.2.trans hk
        rw [hrec] at this
        exact this
      · have he := run_endLoop (P := P) hl (by rw [hrec]; simp)
        rw [hrec] at he
        have t := turn (.loop { rec .done (some c) with state := .exhausted }) hl
        refine ⟨some c, _, he, hstop d pre _ (by omega) hSp (hIx.putObj _ hi (by omega) hl rfl) ?_⟩
        have := t.2.trans hk
        rw [hrec] at this
        exact this
end Go.Proofs.Ytmebpglkeedaoaa
namespace Go.Proofs.Ytmebpglkeedaoaa
open Go.RowKit Go.Shelf Dp
attribute [local go_sem] Oper.semAt_some
theorem round_any {m m' k l : Nat} {P : Program} {f : FuncId} {tmps : Array Value} {assign body : Code} {w : World} {R : Ending → World → Prop} (h : RoundIn Fence.wide m P l f tmps assign body w R) : RoundIn (Fence.wide.inRound k) m' P l f tmps assign body w R :=
  ⟨h.1, fun c cs _ => h.2 c cs (room_wide _)⟩
theorem grown_below {w w' : World} (h : Below w.heap.size w w') : w.grownBy w' none := ⟨h.os, h.tape, h.output, h.size, fun k hk _ => h.block k hk⟩
theorem levels_c (v : Array Value) (a b : Value) (w : World) (hv : ∃ v0 v1 v2 v3 v4 v5, v = #[v0, v1, v2, v3, v4, v5]) (ha : ∃ A n c, a = .slice A n c) (hb : ∃ A n c, b = .slice A n c) :
    Calls Try.prog 75 #[.agg v, a, b] w fun e w' => e = .returned (.func (.func 107) #[] #[.pointer (some ⟨w.heap.size, 0, none⟩), .pointer (some ⟨w.heap.size + 1, 0, none⟩), .pointer (some ⟨w.heap.size + 2, 0, none⟩)]) ∧ w' = ((w.alloc (.cells v 63)).alloc (.cells #[a] 22)).alloc (.cells #[b] 22) := by
  obtain ⟨v0, v1, v2, v3, v4, v5, rfl⟩ := hv
  obtain ⟨A, n, c, rfl⟩ := ha
  obtain ⟨B, m, d, rfl⟩ := hb
  go_enter Try.func75, Try.ntmps75
  go_wp2
  go_ret
  exact ⟨rfl, rfl⟩
def lvs (c : Car) (x y : List Int) (k : Nat) : List (Int × Int) := (List.range k).map fun (j : Nat) => ((j : Int), lev c x y j)
theorem lvs_succ (c : Car) (x y : List Int) (k : Nat) : lvs c x y (k + 1) = lvs c x y k ++ [((k : Int), lev c x y k)] := by simp [lvs, List.range_succ]
structure LvM (bc bi bo : Nat) (c : Car) (x y : List Int) (T A B : Option Addr) (q n m cT cA cB : Nat) (W : World) : Prop where
  kc : Blk W bc 63 (carV c T q cT).toList
  ki : Blk W bi 22 [.slice A n cA]
  ko : Blk W bo 22 [.slice B m cB]
  kt : TripsAt W T c.trips
  kx : IntsAt W A x
  ky : IntsAt W B y
theorem LvM.below {bc bi bo : Nat} {c : Car} {x y : List Int} {T A B : Option Addr} {q n m cT cA cB : Nat} {W V : World} (h : LvM bc bi bo c x y T A B q n m cT cA cB W) (hb : Below W.heap.size W V) : LvM bc bi bo c x y T A B q n m cT cA cB V :=
  ⟨h.kc.below hb h.kc.lt, h.ki.below hb h.ki.lt, h.ko.below hb h.ko.lt, h.kt.below hb (Nat.le_refl _), h.kx.below hb (Nat.le_refl _), h.ky.below hb (Nat.le_refl _)⟩
set_option maxHeartbeats 4000000 in
set_option maxRecDepth 100000 in
theorem levels1_c (bc bi bo : Nat) (c : Car) (x y : List Int) (T A B : Option Addr) (q n m cT cA cB l : Nat) (hq : q = c.trips.length) (hcT : q ≤ cT ∧ cT ≤ 9223372036854775807) (hn : n = x.length) (hm : n ≤ m) (hmy : m = y.length) (hcA : n ≤ cA ∧ cA ≤ 9223372036854775807) (hcB : m ≤ cB ∧ cB ≤ 9223372036854775807)
    (hbd : ∀ k, k < n → (-167772160 ≤ lev c x y k ∧ lev c x y k ≤ 167772160) ∧ (0 ≤ x.getD k 0 ∧ x.getD k 0 ≤ 1048576) ∧ (0 ≤ y.getD k 0 ∧ y.getD k 0 ≤ 1048576) ∧ (0 ≤ useC c k ∧ useC c k ≤ 1048576))
    (J Jx : List (Int × Int) → World → Prop) (hJ : ∀ pre W, J pre W → LvM bc bi bo c x y T A B q n m cT cA cB W) (hJo : ∀ pre W W', J pre W → Below W.heap.size W W' → J pre W')
    (hY : ∀ k, k ≤ n → ∀ W1, J (lvs c x y k) W1 → YieldAt Fence.wide 1 Try.prog l #[.int .i64 k, .int .i64 (lev c x y k)] W1 fun e W' => (e = .returned (.bool true) ∧ J (lvs c x y (k + 1)) W') ∨ (e = .returned (.bool false) ∧ Jx (lvs c x y (k + 1)) W'))
    (W : World) (hj : J (lvs c x y 0) W) :
    CallsIn Fence.wide 2 Try.prog 107 #[.func (.yield l) #[] #[], .pointer (some ⟨bc, 0, none⟩), .pointer (some ⟨bi, 0, none⟩), .pointer (some ⟨bo, 0, none⟩)] W fun e W' => (∃ v, e = .returned v) ∧ (J (lvs c x y (n + 1)) W' ∨ (∃ k, k ≤ n ∧ Jx (lvs c x y (k + 1)) W')) := by
  refine callsIn_of_wp Try.func107 rfl trivial ?_ rfl
  simp only [Try.ntmps107, List.size_toArray, List.length_cons, List.length_nil, Nat.reduceAdd, Nat.reduceSub, Array.replicate_succ, Array.replicate_zero, List.push_toArray, List.append_toArray, List.nil_append, List.cons_append]
  have HQ := Lib.hid hq
  have HN := Lib.hid hn
  have HMY := Lib.hid hmy
  have HBD := Lib.hid hbd
  have HJ := Lib.hid hJ
  have HJO := Lib.hid hJo
  have HY := Lib.hid hY
  have HJ0 := Lib.hid hj
  clear hq hn hmy hbd hJ hJo hY
  have s0 := (HJ.out _ _ hj).kc.cell 3 rfl
  have i0 := (HJ.out _ _ hj).ki.cell 0 rfl
  have L0 := Lib.hid (show lev c x y 0 = c.start from rfl)
  clear hj
  gi_wp2
  clear s0 i0
  gi_loopw [5, 6, 7, 8, 13] (fun lv _ _ _ i wr => ∃ k : Nat, k ≤ n ∧ i = .int .i64 k ∧ lv = .int .i64 (lev c x y k) ∧ Hid (J (lvs c x y k) wr)) (fun _ _ _ _ i _ => n - (intOf i).toNat)
  case atStart => exact ⟨0, Nat.zero_le _, rfl, by rw [L0.out], HJ0⟩
  case round =>
    obtain ⟨k, hk, rfl, rfl, HK⟩ := hrel
    by_cases hlt : k < n
    · have hki : (k : Int) < (n : Int) := by omega
      have hkm : (k : Int) < (m : Int) := by omega
      obtain ⟨fn, tmps, assign, body, hy, hR⟩ := HY.out k hk _ HK.out
      have HST := Lib.hid (show lev c x y (k + 1) = lev c x y k + (x.getD k 0 - y.getD k 0 - useC c k) from rfl)
      have hb := HBD.out k hlt
      have HBB := Lib.hid hb
      clear hb
      generalize lev c x y k = v at *
      gi_wp2
      refine hR.mono ?_
      rintro e W1 (⟨rfl, hJ1⟩ | ⟨rfl, hJx1⟩)
      · have HJ1 := Lib.hid hJ1
        clear hJ1 hy hR
        have M1 := HJ.out _ _ HJ1.out
        have c0 := M1.kc.cell 0 rfl
        have c1 := M1.kc.cell 1 rfl
        have c2 := M1.kc.cell 2 rfl
        have c3 := M1.kc.cell 3 rfl
        have c4 := M1.kc.cell 4 rfl
        have c5 := M1.kc.cell 5 rfl
        have TC := trip_c (.int .i64 c.cap) (.int .i64 c.inn) (.int .i64 c.out) (.int .i64 c.start) (.int .i64 c.fin) k T c.trips q cT W1 HQ.out hcT M1.kt
        rw [show useP c.trips k q = useC c k from by unfold useC; rw [HQ.out]] at TC
        clear M1
        gi_wp2
        refine ⟨trivial, callsIn_wide.2 (TC.mono ?_)⟩
        rintro e W2 ⟨rfl, hb2⟩
        clear c0 c1 c2 c3 c4 c5
        have HJ2 := Lib.hid (HJO.out _ _ _ HJ1.out hb2)
        clear hb2
        generalize awayP c.trips k q = aw
        have M2 := HJ.out _ _ HJ2.out
        have i0 := M2.ki.cell 0 rfl
        have o0 := M2.ko.cell 0 rfl
        have il := M2.ki.lt
        have ol := M2.ko.lt
        obtain ⟨pd, rfl, pbl, px⟩ := M2.kx k (by rw [← HN.out]; exact hlt)
        obtain ⟨qd, rfl, qbl, qx⟩ := M2.ky k (by rw [← HMY.out]; omega)
        have pb2 : (pd.add k).block < W2.heap.size := by rw [block_add]; exact pbl
        have qb2 : (qd.add k).block < W2.heap.size := by rw [block_add]; exact qbl
        clear M2
        gi_wp2
        generalize x.getD k 0 = a at *
        generalize y.getD k 0 = b at *
        generalize useC c k = u at *
        have w1e : IntKind.i64.wrap (a - b) = a - b := IntWalk.i64_in _ (by have := HBB.out; omega)
        have w2e : IntKind.i64.wrap (a - b - u) = a - b - u := IntWalk.i64_in _ (by have := HBB.out; omega)
        have w3e : IntKind.i64.wrap (v + (a - b - u)) = v + (a - b - u) := IntWalk.i64_in _ (by have := HBB.out; omega)
        refine wpIn_wide.2 ?_
        refine wp_region_past (by kernel_rfl) (by kernel_rfl) ?_
        repeat (go_big_quiet_step (fail))
        refine wpQuiet_nil ?_
        intro xx
        have HJ3 := Lib.hid (HJO.out _ _ _ HJ2.out xx.far)
        generalize xx.w = W3 at HJ3 ⊢
        clear i0 o0 il ol pb2 qb2 px qx pbl qbl w1e w2e w3e
        gi_wp2
        exact ⟨⟨k + 1, by omega, by go_num, by rw [HST.out], HJ3⟩, by simp [intOf]; omega⟩
      · have HJX := Lib.hid hJx1
        clear hJx1 hy hR
        gi_wp2
        refine bodyPost_ret (results_none rfl _ _ _) rfl ?_
        exact ⟨⟨_, rfl⟩, .inr ⟨k, hk, HJX.out⟩⟩
    · obtain rfl : n = k := by omega
      obtain ⟨fn, tmps, assign, body, hy, hR⟩ := HY.out n hk _ HK.out
      have i0 := (HJ.out _ _ HK.out).ki.cell 0 rfl
      gi_wp2
      refine hR.mono ?_
      rintro e W1 (⟨rfl, hJ1⟩ | ⟨rfl, hJx1⟩)
      · have HJ1 := Lib.hid hJ1
        clear hJ1 hy hR i0
        gi_wp2
        go_end0
        exact ⟨⟨_, rfl⟩, .inl HJ1.out⟩
      · have HJX := Lib.hid hJx1
        clear hJx1 hy hR i0
        gi_wp2
        go_end0
        exact ⟨⟨_, rfl⟩, .inr ⟨n, hk, HJX.out⟩⟩
end Go.Proofs.Ytmebpglkeedaoaa
namespace Go.Proofs.Ytmebpglkeedaoaa
open Go.RowKit Dp
theorem lenNe_c (T : Option Addr) (q cT n bn : Nat) (w : World) (hb : w.cell? ⟨bn, 0, none⟩ = some (.int .i64 n)) :
    Calls Try.prog 106 #[.slice T q cT, .pointer (some ⟨bn, 0, none⟩)] w fun e w' => e = .returned (.bool (!decide (q = n))) ∧ w = w' := by
  by_cases h : q = n
  · subst h
    go_enter Try.func106, Try.ntmps106
    go_wp2
    go_ret
    exact ⟨ret_bool (by simp), rfl⟩
  · have h1 : ¬ (q : Int) = (n : Int) := by omega
    have h2 : ((q : Int) == (n : Int)) = false := by simpa using h1
    go_enter Try.func106, Try.ntmps106
    go_wp2
    go_ret
    exact ⟨ret_bool (by simp [h]; exact h1), rfl⟩
set_option maxHeartbeats 1000000 in
theorem IndexFunc_c (A : Option Addr) (rows : List (List Int)) (m cap n bn : Nat) (w : World) (hm : m = rows.length) (hcap : m ≤ cap ∧ cap ≤ 9223372036854775807) (hR : RowsAt w A rows) (hb : w.cell? ⟨bn, 0, none⟩ = some (.int .i64 n)) :
    Calls Try.prog 113 #[.slice A m cap, .func (.func 106) #[] #[.pointer (some ⟨bn, 0, none⟩)]] w fun e w' => (∃ r : Int, e = .returned (.int .i64 r) ∧ (0 ≤ r ↔ allB m (fun i => decide ((rows.getD i []).length = n)) = false)) ∧ w = w' := by
  have HM := Lib.hid hm
  have HR := Lib.hid hR
  clear hm hR
  have LC := Lib.hid (fun T q cT => lenNe_c T q cT n bn w hb)
  clear hb
  go_enter Try.func113, Try.ntmps113
  go_wp2_with fail
  go_loop [4, 5, 8] (fun _ _ i => ∃ k : Nat, k ≤ m ∧ i = .int .i64 k ∧ Hid (∀ j, j < k → (rows.getD j []).length = n)) (fun _ _ i => m - (intOf i).toNat)
  case atStart => exact ⟨0, Nat.zero_le _, rfl, Lib.hid (fun j hj => by omega)⟩
  case round =>
    obtain ⟨k, hk, rfl, HK⟩ := hrel
    by_cases hlt : k < m
    · have hki : (k : Int) < (m : Int) := by omega
      obtain ⟨ad, rfl, abl, T, cT, c0, cb, _⟩ := HR.out k (by rw [← HM.out]; exact hlt)
      have HL := Lib.hid (show (rows.getD k []).length = (rows.getD k []).length from rfl)
      have LK := LC.out T (rows.getD k []).length cT
      by_cases hq : (rows.getD k []).length = n
      · have HQ := Lib.hid hq
        rw [hq] at c0 LK cb
        clear hq
        rw [show (!decide (n = n)) = false from by simp] at LK
        go_wp2_with (go_at_call 106; refine LK.mono ?_; rintro e w1 ⟨rfl, rfl⟩)
        go_round
        case rel =>
          refine ⟨k + 1, by omega, by go_num, Lib.hid (fun j hj => ?_)⟩
          by_cases hjk : j < k
          · exact HK.out j hjk
          · obtain rfl : j = k := by omega
            exact HQ.out
        case measure => simp [intOf]; omega
      · have HA := Lib.hid (allB_no (n := m) (p := fun i => decide ((rows.getD i []).length = n)) k hlt (decide_eq_false hq))
        rw [show (!decide ((rows.getD k []).length = n)) = true from by rw [decide_eq_false hq]; rfl] at LK
        generalize (rows.getD k []).length = q at *
        clear hq
        go_wp2_with (go_at_call 106; refine LK.mono ?_; rintro e w1 ⟨rfl, rfl⟩)
        go_ret
        exact ⟨⟨_, rfl, fun _ => HA.out, fun _ => by omega⟩, rfl⟩
    · obtain rfl : m = k := by omega
      have HA := Lib.hid (allB_iff (n := m) (p := fun i => decide ((rows.getD i []).length = n)) |>.2 (fun j hj => decide_eq_true (HK.out j hj)))
      go_wp2_with fail
      go_ret
      exact ⟨⟨_, rfl, fun h => by omega, fun h => by have h' := HA.out.symm.trans h; cases h'⟩, rfl⟩
theorem ContainsFunc_c (A : Option Addr) (rows : List (List Int)) (m cap n bn : Nat) (w : World) (hm : m = rows.length) (hcap : m ≤ cap ∧ cap ≤ 9223372036854775807) (hR : RowsAt w A rows) (hb : w.cell? ⟨bn, 0, none⟩ = some (.int .i64 n)) :
    Calls Try.prog 105 #[.slice A m cap, .func (.func 106) #[] #[.pointer (some ⟨bn, 0, none⟩)]] w fun e w' => e = .returned (.bool (!allB m (fun i => decide ((rows.getD i []).length = n)))) ∧ w = w' := by
  have IC := IndexFunc_c A rows m cap n bn w hm hcap hR hb
  clear hR hm hb
  generalize allB m (fun i => decide ((rows.getD i []).length = n)) = v at *
  go_enter Try.func105, Try.ntmps105
  go_wp2_with fail
  refine IC.mono ?_
  rintro e w1 ⟨⟨r, rfl, hr⟩, rfl⟩
  by_cases h0 : 0 ≤ r
  · have hv := hr.1 h0
    subst hv
    clear hr IC
    go_wp2_with fail
    go_ret
    exact ⟨ret_bool (by simp), rfl⟩
  · have hv : v = true := by cases v
                             · exact absurd (hr.2 rfl) h0
                             · rfl
    subst hv
    clear hr IC
    go_wp2_with fail
    go_ret
    exact ⟨ret_bool (by simpa using h0), rfl⟩
theorem faults_c (v : Array Value) (a : Value) (u : Array Value) (w : World) (hv : ∃ v0 v1 v2 v3, v = #[v0, v1, v2, v3]) (ha : ∃ A n c, a = .slice A n c) (hu : ∃ v0 v1, u = #[v0, v1]) :
    Calls Try.prog 74 #[.agg v, a, .agg u] w fun e w' => e = .returned (.func (.func 104) #[] #[.pointer (some ⟨w.heap.size, 0, none⟩), .pointer (some ⟨w.heap.size + 2, 0, none⟩), .pointer (some ⟨w.heap.size + 1, 0, none⟩)]) ∧ w' = ((w.alloc (.cells v 51)).alloc (.cells #[a] 52)).alloc (.cells u 55) := by
  obtain ⟨v0, v1, v2, v3, rfl⟩ := hv
  obtain ⟨A, n, c, rfl⟩ := ha
  obtain ⟨u0, u1, rfl⟩ := hu
  go_enter Try.func74, Try.ntmps74
  go_wp2
  go_ret
  exact ⟨rfl, rfl⟩
end Go.Proofs.Ytmebpglkeedaoaa
namespace Go.Proofs.Ytmebpglkeedaoaa
open Go Go.RowKit
def markOf (r : Nat) : Deferred := { target := .collected r, args := #[] }
def Marks (B : Nat) (ds : List Deferred) (W : World) : Prop := ∃ rs : List Nat, ds = rs.map markOf ∧ rs.Nodup ∧ ∀ r, r ∈ rs → B ≤ r ∧ W.heap[r]? = some (.deferred (some []))
theorem Marks.nil (B : Nat) (W : World) : Marks B [] W := ⟨[], rfl, List.nodup_nil, fun r h => by cases h⟩
theorem Marks.keep {B : Nat} {ds : List Deferred} {W W' : World} (h : Marks B ds W) (k : KeepsFrom B W W') : Marks B ds W' := by
  obtain ⟨rs, h1, h2, h3⟩ := h
  exact ⟨rs, h1, h2, fun r hr => ⟨(h3 r hr).1, k.same r _ (h3 r hr).1 (h3 r hr).2 rfl⟩⟩
theorem Marks.below {B : Nat} {ds : List Deferred} {W W' : World} (h : Marks B ds W) (k : Below W.heap.size W W') : Marks B ds W' := by
  obtain ⟨rs, h1, h2, h3⟩ := h
  exact ⟨rs, h1, h2, fun r hr => ⟨(h3 r hr).1, (k.block r (Array.getElem?_eq_some_iff.1 (h3 r hr).2).1).trans (h3 r hr).2⟩⟩
theorem Marks.cons {B D : Nat} {ds : List Deferred} {W0 W : World} (h0 : Marks B ds W0) (hz : W0.heap.size ≤ D) (hB : B ≤ D) (h : Marks B ds W) (hD : W.heap[D]? = some (.deferred (some []))) : Marks B (markOf D :: ds) W := by
  obtain ⟨rs, h1, h2, h3⟩ := h
  obtain ⟨rs0, h4, h5, h6⟩ := h0
  have e : rs0 = rs := by
    rw [h4] at h1
    have hinj : ∀ a b, markOf a = markOf b → a = b := fun a b e => by cases e; rfl
    clear h2 h3 h4 h5 h6
    induction rs0 generalizing rs with
    | nil => cases rs with
      | nil => rfl
      | cons a l => cases h1
    | cons a l ih => cases rs with
      | nil => cases h1
      | cons b m =>
        simp only [List.map_cons, List.cons.injEq] at h1
        rw [hinj _ _ h1.1, ih m h1.2]
  subst e
  refine ⟨D :: rs0, by rw [h1]; rfl, List.nodup_cons.2 ⟨fun hm => ?_, h2⟩, fun r hr => ?_⟩
  · have := (Array.getElem?_eq_some_iff.1 (h6 D hm).2).1
    omega
  · rcases List.mem_cons.1 hr with rfl | hr
    · exact ⟨hB, hD⟩
    · exact h3 r hr
theorem marks_own {B D : Nat} {ds : List Deferred} {W0 : World} (h0 : Marks B ds W0) (hz : W0.heap.size ≤ D) : OwnFrom D (fun (_ : Unit) W => Marks B ds W) := by
  rintro _ W W' row ⟨rs, h1, h2, h3⟩ hg hr
  obtain ⟨rs0, h4, h5, h6⟩ := h0
  have e : ∀ r, r ∈ rs → r < W0.heap.size := fun r hm => by
    have : markOf r ∈ rs0.map markOf := by rw [← h4, h1]; exact List.mem_map_of_mem hm
    obtain ⟨r', hr', e⟩ := List.mem_map.1 this
    cases e
    exact (Array.getElem?_eq_some_iff.1 (h6 _ hr').2).1
  refine ⟨rs, h1, h2, fun r hm => ⟨(h3 r hm).1, (hg.block r (Array.getElem?_eq_some_iff.1 (h3 r hm).2).1 (fun e' => ?_)).trans (h3 r hm).2⟩⟩
  have := (hr r e'.symm).1
  have := e r hm
  omega
theorem leaves_marks {F : Fence} {n : Nat} {P : Program} {fn : Func} {tmps : Array Value} {R : Ending → World → Prop} {B : Nat} {C : World → Prop} {u : FrameMode} (hu : u ≠ .run)
    (hC : OwnFrom B (fun (_ : Unit) W => C W)) (hend : ∀ W, C W → LeavesInM F n P fn tmps R [] u W) {ds : List Deferred} {W : World} (hm : Marks B ds W) (hc : C W) : LeavesInM F n P fn tmps R ds u W := by
  obtain ⟨rs, rfl, h2, h3⟩ := hm
  induction rs generalizing W with
  | nil => exact hend W hc
  | cons r rs ih =>
    have hr := h3 r (by simp)
    refine ⟨hu, .inl ⟨r, _, rfl, run_takeDeferred hr.2, ?_⟩⟩
    refine ih (hC.putObj (s := ()) _ hc hr.1 hr.2 rfl) (List.nodup_cons.1 h2).2 (fun r' hr' => ?_)
    have hne : r' ≠ r := fun e => (List.nodup_cons.1 h2).1 (e ▸ hr')
    have := h3 r' (by simp [hr'])
    exact ⟨this.1, (World.putObj_heap_other hne).trans this.2⟩
end Go.Proofs.Ytmebpglkeedaoaa
namespace Go.Proofs.Ytmebpglkeedaoaa
open Go.RowKit Go.Shelf Dp
attribute [local go_sem] Oper.semAt_some
structure FtH (S : Site) (cs : List Car) (T : Tab) (n m p q cA cB cC cD cE cP cQ : Nat) : Prop where
  hn : n = S.lim.length
  hm : m = cs.length
  hp : p = T.inn.length
  hq : q = T.out.length
  ok : stE S cs = 0
  ha : n ≤ cA ∧ cA ≤ 9223372036854775807
  hb : n ≤ cB ∧ cB ≤ 9223372036854775807
  hc : n ≤ cC ∧ cC ≤ 9223372036854775807
  hd : n ≤ cD ∧ cD ≤ 9223372036854775807
  he : m ≤ cE ∧ cE ≤ 9223372036854775807
  hx : p ≤ cP ∧ cP ≤ 9223372036854775807
  hy : q ≤ cQ ∧ cQ ≤ 9223372036854775807
structure FtM (bs bt bc : Nat) (S : Site) (cs : List Car) (T : Tab) (A B C D E P Q : Option Addr) (n m p q cA cB cC cD cE cP cQ : Nat) (W : World) : Prop where
  ks : Blk W bs 51 [.slice A n cA, .slice B n cB, .slice C n cC, .slice D n cD]
  kt : Blk W bt 55 [.slice P p cP, .slice Q q cQ]
  kc : Blk W bc 52 [.slice E m cE]
  hs : SiteAt W A B C D S
  ht : TabAt W P Q T
  hc : CarsAt W E cs
theorem FtM.below {bs bt bc : Nat} {S : Site} {cs : List Car} {T : Tab} {A B C D E P Q : Option Addr} {n m p q cA cB cC cD cE cP cQ : Nat} {W V : World} (h : FtM bs bt bc S cs T A B C D E P Q n m p q cA cB cC cD cE cP cQ W) (hb : Below W.heap.size W V) : FtM bs bt bc S cs T A B C D E P Q n m p q cA cB cC cD cE cP cQ V :=
  ⟨h.ks.below hb h.ks.lt, h.kt.below hb h.kt.lt, h.kc.below hb h.kc.lt, h.hs.below hb (Nat.le_refl _), h.ht.below hb (Nat.le_refl _), h.hc.below hb (Nat.le_refl _)⟩
theorem end104 {R : Ending → World → Prop} {tmps : Array Value} {n : Nat} : ∀ W : World, (∀ v, R (.returned v) W) → LeavesInM Fence.wide n Try.prog Try.f104 tmps R [] .returning W := fun W h => ⟨_, results_none rfl _ _ _, h _⟩
end Go.Proofs.Ytmebpglkeedaoaa
namespace Go.Proofs.Ytmebpglkeedaoaa
open Go.RowKit Go.Shelf Dp
attribute [local go_sem] Oper.semAt_some
noncomputable def loop104 : Code := ((Try.f104.body.bind (blockOf 6)).getD .skip)
def St8 (J : World → Prop) (b4 b5 l n D0 : Nat) (V : World) : Prop := J V ∧ Blk V b4 161 [.func (.yield l) #[] #[]] ∧ Blk V b5 3 [.int .i64 n] ∧ D0 ≤ V.heap.size
def R104 (S : Site) (cs : List Car) (T : Tab) (J : World → Prop) (Jx : Int → World → Prop) : Ending → World → Prop := fun e W' => (∃ v, e = .returned v) ∧ ((plE S cs T = 0 ∧ J W') ∨ (plE S cs T ≠ 0 ∧ Jx (plE S cs T) W'))
def Rel4 (S : Site) (cs : List Car) (T : Tab) (J : World → Prop) (b4 b5 l n m D0 : Nat) (v : Value) (ds : List Deferred) (w : World) : Prop :=
  ∃ i : Nat, v = .int .i64 i ∧ i ≤ m ∧ Marks D0 ds w ∧ St8 J b4 b5 l n D0 w ∧ ∀ x, x < i → ∀ k, k ≤ n → levG (cs.getD x default) (T.inn.getD x []) (T.out.getD x []) n k = true
theorem blk_kept {W W' : World} {row : Option Nat} {g D : Nat} {t : TypeId} {vs : List Value} (h : Blk W g t vs) (hg : W.grownBy W' row) (hr : ∀ r, row = some r → D ≤ r ∧ ∃ o : Obj, W.heap[r]? = some o ∧ o.isCells = false) : Blk W' g t vs :=
  h.of_eq (hg.block g h.lt (fun e => by
    obtain ⟨o, ho, hc⟩ := (hr g e.symm).2
    have h' : W.heap[g]? = some (.cells vs.toArray t (0, 0)) := h
    rw [h'] at ho
    cases ho
    cases hc))
set_option maxHeartbeats 8000000 in
set_option maxRecDepth 100000 in
theorem faults4_c (bs bt bc b4 b5 : Nat) (S : Site) (cs : List Car) (T : Tab) (A B C D E P Q : Option Addr) (n m p q cA cB cC cD cE cP cQ l D0 : Nat) (hH : FtH S cs T n m p q cA cB cC cD cE cP cQ) (hpm : p = m) (hqm : q = m)
    (hL : (lenG cs.length S.lim.length T.inn && lenG cs.length S.lim.length T.out) = true) (hSl : ∀ j, j < n → slotE S cs T j = 0)
    (J : World → Prop) (Jx : Int → World → Prop) (hJ : ∀ W, J W → FtM bs bt bc S cs T A B C D E P Q n m p q cA cB cC cD cE cP cQ W) (hJo : OwnFrom D0 (fun (_ : Unit) W => J W)) (hJxo : ∀ e, OwnFrom D0 (fun (_ : Unit) W => Jx e W))
    (hY : ∀ e W1, J W1 → YieldAt Fence.wide 1 Try.prog l #[.int .i64 e] W1 fun e' W' => KeepsFrom D0 W1 W' ∧ e' = .returned (.bool false) ∧ Jx e W')
    (W0 : World) (h0 : St8 J b4 b5 l n D0 W0) {x6 x7 x8 x9 x10 x11 x12 x13 x14 x15 x16 x17 x18 x19 x20 x21 x22 x23 x24 x25 x26 x27 x28 x29 x30 x31 x32 x33 x34 x35 x36 x37 x38 x39 x40 x41 x42 x43 x44 x45 x46 x47 x48 x49 x50 x51 x52 x53 x54 x55 x56 x57 x58 x59 x60 x61 x62 x63 x64 x65 x66 x67 x68 x69 x70 x71 x72 x73 x74 x75 x76 x77 x78 x79 x80 x81 x82 x83 x84 x85 x86 x87 x88 x89 x90 x91 x92 x93 x94 x95 x96 x97 x98 x99 x100 x101 x102 x103 x104 x105 x106 x107 x108 x109 x110 x111 x112 x113 x114 x115 x116 x117 x118 x119 x120 x121 x122 x123 x124 x125 x126 x127 x128 x129 x130 x131 x132 x136 x137 x138 x139 x140 x141 x142 x143 x144 x145 x146 x147 x148 x149 x150 x151 x152 x153 x154 x155 x156 x157 x158 x159 x160 x161 x162 x163 x164 x165 x166 x167 x168 x169 x170 x171 x172 x173 x174 x175 x176 x177 x178 x179 x180 x181 x182 x183 x184 x185 x186 x187 x188 x189 : Value} :
    Code.wpIn Fence.wide 2 Try.prog loop104 (Exit.inBlock 6 (bodyPostM Fence.wide 2 Try.prog Try.f104 (R104 S cs T J Jx))) { tmps := List.toArray ((.func (.yield l) #[] #[] : Value) :: (.pointer (some ⟨bs, 0, none⟩) : Value) :: (.pointer (some ⟨bt, 0, none⟩) : Value) :: (.pointer (some ⟨bc, 0, none⟩) : Value) :: (.pointer (some ⟨b4, 0, none⟩) : Value) :: (.pointer (some ⟨b5, 0, none⟩) : Value) :: x6 :: x7 :: x8 :: x9 :: x10 :: x11 :: x12 :: x13 :: x14 :: x15 :: x16 :: x17 :: x18 :: x19 :: x20 :: x21 :: x22 :: x23 :: x24 :: x25 :: x26 :: x27 :: x28 :: x29 :: x30 :: x31 :: x32 :: x33 :: x34 :: x35 :: x36 :: x37 :: x38 :: x39 :: x40 :: x41 :: x42 :: x43 :: x44 :: x45 :: x46 :: x47 :: x48 :: x49 :: x50 :: x51 :: x52 :: x53 :: x54 :: x55 :: x56 :: x57 :: x58 :: x59 :: x60 :: x61 :: x62 :: x63 :: x64 :: x65 :: x66 :: x67 :: x68 :: x69 :: x70 :: x71 :: x72 :: x73 :: x74 :: x75 :: x76 :: x77 :: x78 :: x79 :: x80 :: x81 :: x82 :: x83 :: x84 :: x85 :: x86 :: x87 :: x88 :: x89 :: x90 :: x91 :: x92 :: x93 :: x94 :: x95 :: x96 :: x97 :: x98 :: x99 :: x100 :: x101 :: x102 :: x103 :: x104 :: x105 :: x106 :: x107 :: x108 :: x109 :: x110 :: x111 :: x112 :: x113 :: x114 :: x115 :: x116 :: x117 :: x118 :: x119 :: x120 :: x121 :: x122 :: x123 :: x124 :: x125 :: x126 :: x127 :: x128 :: x129 :: x130 :: x131 :: x132 :: (.slice E m cE : Value) :: (.int .i64 m : Value) :: (.int .i64 0 : Value) :: x136 :: x137 :: x138 :: x139 :: x140 :: x141 :: x142 :: x143 :: x144 :: x145 :: x146 :: x147 :: x148 :: x149 :: x150 :: x151 :: x152 :: x153 :: x154 :: x155 :: x156 :: x157 :: x158 :: x159 :: x160 :: x161 :: x162 :: x163 :: x164 :: x165 :: x166 :: x167 :: x168 :: x169 :: x170 :: x171 :: x172 :: x173 :: x174 :: x175 :: x176 :: x177 :: x178 :: x179 :: x180 :: x181 :: x182 :: x183 :: x184 :: x185 :: x186 :: x187 :: x188 :: x189 :: []), defers := [] } W0 := by
  have HH := Lib.hid hH
  have HV1 := Lib.hid hpm
  have HV2 := Lib.hid hqm
  have HL := Lib.hid hL
  have HSL := Lib.hid hSl
  have HJ := Lib.hid hJ
  have HJO := Lib.hid hJo
  have HJXO := Lib.hid hJxo
  have HJB : Hid (∀ W W', J W → Below W.heap.size W W' → J W') := Lib.hid (fun W W' h hb => hJo () W W' none h (grown_below hb) (fun r e => by cases e))
  have HY := Lib.hid hY
  have H0 := Lib.hid h0
  have HS8 : Hid (∀ V V', St8 J b4 b5 l n D0 V → Below V.heap.size V V' → St8 J b4 b5 l n D0 V') := Lib.hid (fun V V' h hb => ⟨HJB.out _ _ h.1 hb, h.2.1.below hb h.2.1.lt, h.2.2.1.below hb h.2.2.1.lt, Nat.le_trans h.2.2.2 hb.size⟩)
  have ee := hH.he
  have ep := hH.hx
  have eq := hH.hy
  clear hH hpm hqm hL hSl hJ hJo hJxo hY h0
  conv => arg 4; whnf
  refine wpIn_loop (fun a w => ∃ u16 u17 u18 u19 u20 u135 u136 u137 u138 u139 u140 u141 u142 u143 u144 u145 u146 u147 u148 u149 u150 u151 u152 u153 u154 u155 u156 u157 u158 u159 u160 u161 u162 u163 u164 u165 u166 u167 u168 u169 u170 u171 u172 u173 u174 u175 u176 u177 u178 u179 u180 u181 u182 u183 u184 u185 u186 u187 u188 u189 ds, (Rel4 S cs T J b4 b5 l n m D0 u135 ds w) ∧ a = { tmps := List.toArray ((.func (.yield l) #[] #[] : Value) :: (.pointer (some ⟨bs, 0, none⟩) : Value) :: (.pointer (some ⟨bt, 0, none⟩) : Value) :: (.pointer (some ⟨bc, 0, none⟩) : Value) :: (.pointer (some ⟨b4, 0, none⟩) : Value) :: (.pointer (some ⟨b5, 0, none⟩) : Value) :: x6 :: x7 :: x8 :: x9 :: x10 :: x11 :: x12 :: x13 :: x14 :: x15 :: u16 :: u17 :: u18 :: u19 :: u20 :: x21 :: x22 :: x23 :: x24 :: x25 :: x26 :: x27 :: x28 :: x29 :: x30 :: x31 :: x32 :: x33 :: x34 :: x35 :: x36 :: x37 :: x38 :: x39 :: x40 :: x41 :: x42 :: x43 :: x44 :: x45 :: x46 :: x47 :: x48 :: x49 :: x50 :: x51 :: x52 :: x53 :: x54 :: x55 :: x56 :: x57 :: x58 :: x59 :: x60 :: x61 :: x62 :: x63 :: x64 :: x65 :: x66 :: x67 :: x68 :: x69 :: x70 :: x71 :: x72 :: x73 :: x74 :: x75 :: x76 :: x77 :: x78 :: x79 :: x80 :: x81 :: x82 :: x83 :: x84 :: x85 :: x86 :: x87 :: x88 :: x89 :: x90 :: x91 :: x92 :: x93 :: x94 :: x95 :: x96 :: x97 :: x98 :: x99 :: x100 :: x101 :: x102 :: x103 :: x104 :: x105 :: x106 :: x107 :: x108 :: x109 :: x110 :: x111 :: x112 :: x113 :: x114 :: x115 :: x116 :: x117 :: x118 :: x119 :: x120 :: x121 :: x122 :: x123 :: x124 :: x125 :: x126 :: x127 :: x128 :: x129 :: x130 :: x131 :: x132 :: (.slice E m cE : Value) :: (.int .i64 m : Value) :: u135 :: u136 :: u137 :: u138 :: u139 :: u140 :: u141 :: u142 :: u143 :: u144 :: u145 :: u146 :: u147 :: u148 :: u149 :: u150 :: u151 :: u152 :: u153 :: u154 :: u155 :: u156 :: u157 :: u158 :: u159 :: u160 :: u161 :: u162 :: u163 :: u164 :: u165 :: u166 :: u167 :: u168 :: u169 :: u170 :: u171 :: u172 :: u173 :: u174 :: u175 :: u176 :: u177 :: u178 :: u179 :: u180 :: u181 :: u182 :: u183 :: u184 :: u185 :: u186 :: u187 :: u188 :: u189 :: []), defers := ds }) (fun a w => m - (intOf (a.tmps.getD 135 undef)).toNat) ?start ?round
  case start =>
    (repeat apply Exists.intro)
    refine ⟨⟨0, rfl, Nat.zero_le _, Marks.nil _ _, H0.out, fun x hx => by omega⟩, rfl⟩
  intro a w hinv
  obtain ⟨u16, hinv⟩ := hinv
  obtain ⟨u17, hinv⟩ := hinv
  obtain ⟨u18, hinv⟩ := hinv
  obtain ⟨u19, hinv⟩ := hinv
  obtain ⟨u20, hinv⟩ := hinv
  obtain ⟨u135, hinv⟩ := hinv
  obtain ⟨u136, hinv⟩ := hinv
  obtain ⟨u137, hinv⟩ := hinv
  obtain ⟨u138, hinv⟩ := hinv
  obtain ⟨u139, hinv⟩ := hinv
  obtain ⟨u140, hinv⟩ := hinv
  obtain ⟨u141, hinv⟩ := hinv
  obtain ⟨u142, hinv⟩ := hinv
  obtain ⟨u143, hinv⟩ := hinv
  obtain ⟨u144, hinv⟩ := hinv
  obtain ⟨u145, hinv⟩ := hinv
  obtain ⟨u146, hinv⟩ := hinv
  obtain ⟨u147, hinv⟩ := hinv
  obtain ⟨u148, hinv⟩ := hinv
  obtain ⟨u149, hinv⟩ := hinv
  obtain ⟨u150, hinv⟩ := hinv
  obtain ⟨u151, hinv⟩ := hinv
  obtain ⟨u152, hinv⟩ := hinv
  obtain ⟨u153, hinv⟩ := hinv
  obtain ⟨u154, hinv⟩ := hinv
  obtain ⟨u155, hinv⟩ := hinv
  obtain ⟨u156, hinv⟩ := hinv
  obtain ⟨u157, hinv⟩ := hinv
  obtain ⟨u158, hinv⟩ := hinv
  obtain ⟨u159, hinv⟩ := hinv
  obtain ⟨u160, hinv⟩ := hinv
  obtain ⟨u161, hinv⟩ := hinv
  obtain ⟨u162, hinv⟩ := hinv
  obtain ⟨u163, hinv⟩ := hinv
  obtain ⟨u164, hinv⟩ := hinv
  obtain ⟨u165, hinv⟩ := hinv
  obtain ⟨u166, hinv⟩ := hinv
  obtain ⟨u167, hinv⟩ := hinv
  obtain ⟨u168, hinv⟩ := hinv
  obtain ⟨u169, hinv⟩ := hinv
  obtain ⟨u170, hinv⟩ := hinv
  obtain ⟨u171, hinv⟩ := hinv
  obtain ⟨u172, hinv⟩ := hinv
  obtain ⟨u173, hinv⟩ := hinv
  obtain ⟨u174, hinv⟩ := hinv
  obtain ⟨u175, hinv⟩ := hinv
  obtain ⟨u176, hinv⟩ := hinv
  obtain ⟨u177, hinv⟩ := hinv
  obtain ⟨u178, hinv⟩ := hinv
  obtain ⟨u179, hinv⟩ := hinv
  obtain ⟨u180, hinv⟩ := hinv
  obtain ⟨u181, hinv⟩ := hinv
  obtain ⟨u182, hinv⟩ := hinv
  obtain ⟨u183, hinv⟩ := hinv
  obtain ⟨u184, hinv⟩ := hinv
  obtain ⟨u185, hinv⟩ := hinv
  obtain ⟨u186, hinv⟩ := hinv
  obtain ⟨u187, hinv⟩ := hinv
  obtain ⟨u188, hinv⟩ := hinv
  obtain ⟨u189, hinv⟩ := hinv
  obtain ⟨ds, hinv⟩ := hinv
  obtain ⟨⟨i, rfl, hi, HMK, HST, HLV⟩, rfl⟩ := hinv
  have HW := Lib.hid (And.intro HMK (And.intro HST HLV))
  clear HMK HST HLV
  try dsimp only
  by_cases hlt : i < m
  · have hii : (i : Int) < (m : Int) := by omega
    have il : i < cs.length := by rw [← HH.out.hm]; exact hlt
    have M := HJ.out _ HW.out.2.1.1
    obtain ⟨ad, rfl, abl, c0, c1, c2, c3, c4, TT, cT, c5, hcT, HTT⟩ := M.hc i il
    have HTR := Lib.hid HTT
    have HCOK := Lib.hid ((stE_0 HH.out.ok).2.2.2 i il)
    clear HTT M
    generalize hcc : cs.getD i default = c at *
    have HCC := Lib.hid hcc
    clear hcc
    obtain ⟨cap, inn, out, start, fin, trips⟩ := c
    simp only at c0 c1 c2 c3 c4 c5 hcT HTR HCOK
    obtain ⟨qn, hqn⟩ : ∃ qn, qn = trips.length := ⟨_, rfl⟩
    rw [← hqn] at c5 hcT
    have HQN := Lib.hid hqn
    clear hqn
    gi_upto_region 26 with fail
    have HBB := Lib.hid (((Below.refl w.heap.size w).alloc (Nat.le_refl _) (.cells #[.int .i64 i] 3)).alloc (by simp) (.cells #[.int .i64 cap, .int .i64 inn, .int .i64 out, .int .i64 start, .int .i64 fin, .slice TT qn cT] 63))
    have XI := Lib.hid ((Blk.new' w #[.int .i64 i] 3).alloc (.cells #[.int .i64 cap, .int .i64 inn, .int .i64 out, .int .i64 start, .int .i64 fin, .slice TT qn cT] 63))
    have XC := Lib.hid (show Blk ((w.alloc (.cells #[.int .i64 i] 3)).alloc (.cells #[.int .i64 cap, .int .i64 inn, .int .i64 out, .int .i64 start, .int .i64 fin, .slice TT qn cT] 63)) (w.heap.size + 1) 63 [.int .i64 cap, .int .i64 inn, .int .i64 out, .int .i64 start, .int .i64 fin, .slice TT qn cT] from by simpa using Blk.new' (w.alloc (.cells #[.int .i64 i] 3)) #[.int .i64 cap, .int .i64 inn, .int .i64 out, .int .i64 start, .int .i64 fin, .slice TT qn cT] 63)
    have HX0 := Lib.hid (HS8.out _ _ HW.out.2.1 HBB.out)
    have HTR2 := Lib.hid (HTR.out.below HBB.out (Nat.le_refl _))
    have HMK2 := Lib.hid (HW.out.1.below HBB.out)
    have HLV := Lib.hid HW.out.2.2
    clear HBB HTR HW c0 c1 c2 c3 c4 c5 abl
    generalize (w.alloc (.cells #[.int .i64 i] 3)).alloc (.cells #[.int .i64 cap, .int .i64 inn, .int .i64 out, .int .i64 start, .int .i64 fin, .slice TT qn cT] 63) = w2 at XI XC HX0 HTR2 HMK2 ⊢
    generalize w.heap.size = bi at *
    have M := HJ.out _ HX0.out.1
    obtain ⟨pa, rfl, pal, PT, cPT, p0, pb, pi⟩ := M.ht.1 i (by rw [← HH.out.hp, HV1.out]; exact hlt)
    obtain ⟨qa, rfl, qal, QT, cQT, q0, qb, qi⟩ := M.ht.2 i (by rw [← HH.out.hq, HV2.out]; exact hlt)
    have LL := HL.out
    rw [Bool.and_eq_true] at LL
    have L1 := (lenG_iff.1 LL.1).2 i il
    have L2 := (lenG_iff.1 LL.2).2 i il
    rw [L1, ← HH.out.hn] at p0 pb
    rw [L2, ← HH.out.hn] at q0 qb
    have N8 : n ≤ 48 := by
      have h := siteHead_iff.1 (stE_0 HH.out.ok).2.1
      have h3 := HH.out.hn
      omega
    have RB := row_bd HH.out.ok HL.out (fun k hk x hx => slotE_cars (HSL.out k (by rw [HH.out.hn]; exact hk)) x hx) il
    rw [← HH.out.hn] at RB HCOK
    have HLA := Lib.hid (lev_all N8 HCOK.out RB.1 RB.2)
    have HPI := Lib.hid (And.intro pi qi)
    have HLX := Lib.hid (And.intro (L1.trans HH.out.hn.symm).symm (L2.trans HH.out.hn.symm).symm)
    clear pi qi LL L1 L2 M RB
    have hip : (i : Int) < (p : Int) := by have := HV1.out; omega
    have hiq : (i : Int) < (q : Int) := by have := HV2.out; omega
    have HPE : Hid (∀ k, k ≤ n → levG ⟨cap, inn, out, start, fin, trips⟩ (T.inn.getD i []) (T.out.getD i []) n k = false → plE S cs T = 19) := Lib.hid (fun k hk h => plE_lev HH.out.ok HL.out (fun j hj => HSL.out j (by rw [HH.out.hn]; exact hj)) il (k := k) (by rw [← HH.out.hn]; exact hk) (by rw [HCC.out, ← HH.out.hn]; exact h))
    have HNXT : Hid ((∀ k, k ≤ n → levG ⟨cap, inn, out, start, fin, trips⟩ (T.inn.getD i []) (T.out.getD i []) n k = true) → ∀ x, x < i + 1 → ∀ k, k ≤ n → levG (cs.getD x default) (T.inn.getD x []) (T.out.getD x []) n k = true) := Lib.hid (fun h x hx k hk => by
      by_cases hxi : x < i
      · exact HLV.out x hxi k hk
      · obtain rfl : x = i := by omega
        rw [HCC.out]; exact h k hk)
    generalize T.inn.getD i [] = xr at *
    generalize hyr : T.out.getD i [] = yr at *
    have HYR := Lib.hid hyr
    clear hyr
    have HP0 : Hid (∀ V, Below w2.heap.size w2 V → (V.cell? (pa.add i) = some (.slice PT n cPT) ∧ (pa.add i).block < V.heap.size) ∧ (V.cell? (qa.add i) = some (.slice QT n cQT) ∧ (qa.add i).block < V.heap.size)) := Lib.hid (fun V hV => by
      have k := hV.size
      exact ⟨⟨(hV.cell (by rw [block_add]; exact pal)).trans p0, by rw [block_add]; omega⟩, ⟨(hV.cell (by rw [block_add]; exact qal)).trans q0, by rw [block_add]; omega⟩⟩)
    clear p0 q0 pal qal
    refine wpIn_wide.2 ?_
    refine wp_region_then 11 _ ?af rfl (by kernel_rfl) (by kernel_rfl) ?walk ?tail
    case walk =>
      intro V hV
      have XIV := XI.out.below hV XI.out.lt
      have XCV := XC.out.below hV XC.out.lt
      have MV := HJ.out _ (HS8.out _ _ HX0.out hV).1
      obtain ⟨⟨p0, pab⟩, ⟨q0, qab⟩⟩ := HP0.out V hV
      have i0 := XIV.cell 0 rfl
      have ilt := XIV.lt
      have clt := XCV.lt
      have e0 := XCV.cell 0 rfl
      have e1 := XCV.cell 1 rfl
      have e2 := XCV.cell 2 rfl
      have e3 := XCV.cell 3 rfl
      have e4 := XCV.cell 4 rfl
      have e5 := XCV.cell 5 rfl
      have t0 := MV.kt.cell 0 rfl
      have t1 := MV.kt.cell 1 rfl
      have tl := MV.kt.lt
      clear XIV XCV MV hV
      simp only [List.take_succ_cons, List.take_zero]
      repeat (go_big_quiet_step (fail))
      refine wpQuiet_nil ?_
      rfl
    intro w8 hb8
    have XI3 := Lib.hid (XI.out.below hb8 XI.out.lt)
    have XC3 := Lib.hid (XC.out.below hb8 XC.out.lt)
    have HX3 := Lib.hid (HS8.out _ _ HX0.out hb8)
    have HMK3 := Lib.hid (HMK2.out.below hb8)
    have HTR3 := Lib.hid (HTR2.out.below hb8 (Nat.le_refl _))
    have HPI3 := Lib.hid (And.intro (HPI.out.1.below hb8 (Nat.le_refl _)) (HPI.out.2.below hb8 (Nat.le_refl _)))
    clear hb8 XI XC HX0 HMK2 HTR2 HPI HP0
    go_simp
    refine (levels_c _ _ _ _ ⟨_, _, _, _, _, _, rfl⟩ ⟨_, _, _, rfl⟩ ⟨_, _, _, rfl⟩).mono ?_
    rintro e w9 ⟨rfl, hw9⟩
    have HB9 : Below w8.heap.size w8 w9 := by
      rw [hw9]
      exact (((Below.refl _ _).alloc (Nat.le_refl _) _).alloc (by simp) _).alloc (by simp; omega) _
    have KC : Blk w9 w8.heap.size 63 [.int .i64 cap, .int .i64 inn, .int .i64 out, .int .i64 start, .int .i64 fin, .slice TT qn cT] := by
      rw [hw9]; exact ((Blk.new' w8 #[.int .i64 cap, .int .i64 inn, .int .i64 out, .int .i64 start, .int .i64 fin, .slice TT qn cT] 63).alloc _).alloc _
    have KI : Blk w9 (w8.heap.size + 1) 22 [.slice PT n cPT] := by
      have := (Blk.new' (w8.alloc (.cells #[.int .i64 cap, .int .i64 inn, .int .i64 out, .int .i64 start, .int .i64 fin, .slice TT qn cT] 63)) #[.slice PT n cPT] 22).alloc (.cells #[.slice QT n cQT] 22)
      rw [hw9]; simpa using this
    have KO : Blk w9 (w8.heap.size + 2) 22 [.slice QT n cQT] := by
      have := Blk.new' ((w8.alloc (.cells #[.int .i64 cap, .int .i64 inn, .int .i64 out, .int .i64 start, .int .i64 fin, .slice TT qn cT] 63)).alloc (.cells #[.slice PT n cPT] 22)) #[.slice QT n cQT] 22
      rw [hw9]; simpa [Nat.add_assoc] using this
    have XI4 := Lib.hid (XI3.out.below HB9 XI3.out.lt)
    have XC4 := Lib.hid (XC3.out.below HB9 XC3.out.lt)
    have HX4 := Lib.hid (HS8.out _ _ HX3.out HB9)
    have HMK4 := Lib.hid (HMK3.out.below HB9)
    have HLM : Hid (LvM w8.heap.size (w8.heap.size + 1) (w8.heap.size + 2) ⟨cap, inn, out, start, fin, trips⟩ xr yr TT PT QT qn n n cT cPT cQT w9) := Lib.hid ⟨KC, KI, KO, HTR3.out.below HB9 (Nat.le_refl _), HPI3.out.1.below HB9 (Nat.le_refl _), HPI3.out.2.below HB9 (Nat.le_refl _)⟩
    clear hw9 HB9 KC KI KO XI3 XC3 HX3 HMK3 HTR3 HPI3
    dsimp only
    (try simp only [Act.put, List.setIfInBounds_toArray, List.set_cons_zero, List.set_cons_succ])
    refine wpQuiet_nil ?_
    intro xx
    have XI5 := Lib.hid (XI4.out.below xx.far XI4.out.lt)
    have XC5 := Lib.hid (XC4.out.below xx.far XC4.out.lt)
    have HX5 := Lib.hid (HS8.out _ _ HX4.out xx.far)
    have HMK5 := Lib.hid (HMK4.out.below xx.far)
    have HLM5 := Lib.hid (HLM.out.below xx.far)
    generalize xx.w = w5 at XI5 XC5 HX5 HMK5 HLM5 ⊢
    clear XI4 XC4 HX4 HMK4 HLM
    generalize w8.heap.size = g at *
    gi_wp2
    refine wpIn_wide.2 ((wpIn_wide (n := 3)).1 (range_mine3 (F := Fence.wide) (n := 3) rfl (by omega) (gf := 107) (lb := #[.pointer (some ⟨g, 0, none⟩), .pointer (some ⟨g + 1, 0, none⟩), .pointer (some ⟨g + 2, 0, none⟩)]) rfl trivial (fun _ _ => by kernel_rfl)
      (encs := fun y : Int × Int => #[.int .i64 y.1, .int .i64 y.2]) (fun _ => rfl)
      (fun pre V => St8 J b4 b5 l n D0 V ∧ Below w5.heap.size w5 V ∧ ∀ j, j < pre.length → levG ⟨cap, inn, out, start, fin, trips⟩ xr yr n j = true) (fun _ V => Jx 19 V ∧ plE S cs T = 19 ∧ Marks D0 ds V) .ret
      (fun ys => ys.length = n + 1) (fun _ => True) (fun pre y => ∃ k : Nat, k ≤ n ∧ pre.length = k ∧ y = ((k : Int), lev ⟨cap, inn, out, start, fin, trips⟩ xr yr k))
      ?hI ?hIx ⟨HX5.out, Below.refl _ _, fun j hj => by simp at hj⟩ ?hseq ?a1 ?assign ?body ?done ?stop))
    case hI =>
      rintro pre V V' row ⟨⟨h1, h2, h3, h4⟩, h5, h6⟩ hg hr
      exact ⟨⟨HJO.out () V V' row h1 hg (fun r e => ⟨Nat.le_trans HX5.out.2.2.2 (hr r e).1, (hr r e).2⟩), blk_kept h2 hg hr, blk_kept h3 hg hr, Nat.le_trans h4 hg.size⟩, h5.grown hg h5.size (fun r e => (hr r e).1), h6⟩
    case hIx =>
      rintro pre V V' row ⟨h1, h2, h3⟩ hg hr
      exact ⟨HJXO.out 19 () V V' row h1 hg (fun r e => ⟨Nat.le_trans HX5.out.2.2.2 (hr r e).1, (hr r e).2⟩), h2, marks_own HMK5.out (Nat.le_refl _) () V V' row h3 hg hr⟩
    case hseq =>
      intro l2 J2 Jx2 V hJ2 hO2 hOx2 hz2 hY2 hj2
      have lv0 : ∀ k, (lvs ⟨cap, inn, out, start, fin, trips⟩ xr yr k).length = k := fun k => by simp [lvs]
      refine (levels1_c g (g + 1) (g + 2) ⟨cap, inn, out, start, fin, trips⟩ xr yr TT PT QT qn n n cT cPT cQT l2 HQN.out hcT HLX.out.1 (Nat.le_refl _) HLX.out.2 pb qb HLA.out J2 Jx2 (fun pre V2 h => HLM5.out.below (hJ2 pre V2 h).2.1) (fun pre V1 V2 h hb => hO2 pre V1 V2 none h (grown_below hb) (fun r e => by cases e)) (fun k hk V1 h => (hY2 _ ((k : Int), lev ⟨cap, inn, out, start, fin, trips⟩ xr yr k) V1 h ⟨k, hk, lv0 k, rfl⟩).mono (fun e V2 h2 => by rw [lvs_succ]; exact h2.2)) V hj2).mono ?_
      rintro e V2 ⟨hv, h | ⟨k, hk, h⟩⟩
      · exact ⟨hv, .inl ⟨_, lv0 _, h⟩⟩
      · exact ⟨hv, .inr ⟨_, trivial, h⟩⟩
    case assign =>
      intro l2 y V K hK
      gi_wp2
      exact hK
    case body =>
      rintro l2 pre y V hI ⟨k, hk, hpre, rfl⟩
      have HI := Lib.hid hI
      clear hI
      have HBAD : Hid (¬ (least ⟨cap, inn, out, start, fin, trips⟩ yr n k ≤ lev ⟨cap, inn, out, start, fin, trips⟩ xr yr k ∧ lev ⟨cap, inn, out, start, fin, trips⟩ xr yr k ≤ (Car.cap ⟨cap, inn, out, start, fin, trips⟩)) → plE S cs T = 19) := Lib.hid (fun h => HPE.out k hk (by rw [← Bool.not_eq_true, levG_iff]; exact h))
      have HGOOD : Hid ((least ⟨cap, inn, out, start, fin, trips⟩ yr n k ≤ lev ⟨cap, inn, out, start, fin, trips⟩ xr yr k ∧ lev ⟨cap, inn, out, start, fin, trips⟩ xr yr k ≤ (Car.cap ⟨cap, inn, out, start, fin, trips⟩)) → levG ⟨cap, inn, out, start, fin, trips⟩ xr yr n k = true) := Lib.hid (fun h => levG_iff.2 h)
      have XC6 := XC5.out.below HI.out.2.1 XC5.out.lt
      have XI6 := XI5.out.below HI.out.2.1 XI5.out.lt
      have e0 := XC6.cell 0 rfl
      have e1 := XC6.cell 1 rfl
      have e2 := XC6.cell 2 rfl
      have e3 := XC6.cell 3 rfl
      have e4 := XC6.cell 4 rfl
      have e5 := XC6.cell 5 rfl
      have n0 := HI.out.1.2.2.1.cell 0 rfl
      by_cases hkn : k < n
      · have hki : (k : Int) < (n : Int) := by omega
        have HLS : Hid (least ⟨cap, inn, out, start, fin, trips⟩ yr n k = max (useC ⟨cap, inn, out, start, fin, trips⟩ k) (yr.getD k 0)) := Lib.hid (by unfold least; rw [if_pos hkn])
        have TC := trip_c (.int .i64 cap) (.int .i64 inn) (.int .i64 out) (.int .i64 start) (.int .i64 fin) k TT trips qn cT V HQN.out hcT (HLM5.out.below HI.out.2.1).kt
        rw [show useP trips k qn = useC ⟨cap, inn, out, start, fin, trips⟩ k from by unfold useC; rw [HQN.out]] at TC
        clear XC6 XI6
        generalize lev ⟨cap, inn, out, start, fin, trips⟩ xr yr k = LV at *
        gi_wp2
        refine ⟨trivial, CallsIn.inRound _ (callsIn_wide.2 (TC.mono ?_))⟩
        rintro e V2 ⟨rfl, hb2⟩
        have HI2 := Lib.hid (And.intro (HS8.out _ _ HI.out.1 hb2) (HI.out.2.1.trans (hb2.mono HI.out.2.1.size)))
        have HMV := Lib.hid ((HMK5.out.below HI.out.2.1).below hb2)
        have HKV : Hid (KeepsFrom w5.heap.size V V2) := Lib.hid (KeepsFrom.of_grownBy (grown_below hb2) (fun j e => by cases e))
        clear e0 e1 e2 e3 e4 e5 n0 hb2 TC
        have XC6 := XC5.out.below HI2.out.2 XC5.out.lt
        have XI6 := XI5.out.below HI2.out.2 XI5.out.lt
        have e0 := XC6.cell 0 rfl
        have i0 := XI6.cell 0 rfl
        have ilt := XI6.lt
        have M := HJ.out _ HI2.out.1.1
        have t1 := M.kt.cell 1 rfl
        obtain ⟨qa2, hqa, qal, QT2, cQT2, q0, qb2, qi⟩ := M.ht.2 i (by rw [← HH.out.hq, HV2.out]; exact hlt)
        cases hqa
        rw [HYR.out, ← HLX.out.2] at q0 qb2
        rw [HYR.out] at qi
        obtain ⟨qd, rfl, qdl, qx⟩ := qi k (by rw [← HLX.out.2]; exact hkn)
        clear M qi XC6 XI6
        generalize yr.getD k 0 = yk at *
        generalize useC ⟨cap, inn, out, start, fin, trips⟩ k = us at *
        generalize awayP trips k qn = aw at *
        have hmx := fun ts t W => maxTwo us yk ts t W
        generalize max us yk = mx at *
        gi_upto_region 33 with fail
        clear t1 q0 qx i0 ilt hmx
        have y0 := HI2.out.1.2.1.cell 0 rfl
        obtain ⟨fn, tm, asg, bo, hy, hR⟩ := HY.out 19 V2 HI2.out.1.1
        by_cases d1 : LV < mx
        · have HPX := Lib.hid (HBAD.out (fun h => by have := h.1; rw [HLS.out] at this; omega))
          gi_wp2
          refine (round_any hR).mono ?_
          rintro e V4 ⟨hk4, rfl, hx⟩
          have HX := Lib.hid hx
          have HM4 := Lib.hid (HMV.out.keep hk4)
          have HK4 : Hid (KeepsFrom w5.heap.size V V4) := Lib.hid (HKV.out.trans ⟨hk4.size, fun k o h => hk4.same k o (Nat.le_trans HX5.out.2.2.2 h)⟩)
          clear hx hk4
          gi_wp2
          exact (⟨rfl, HK4.out, HX.out, HPX.out, HM4.out⟩ : _ ∧ _ ∧ _ ∧ _ ∧ _)
        by_cases d2 : cap < LV
        · have HPX := Lib.hid (HBAD.out (fun h => by have := h.2; (try simp only at this); omega))
          gi_wp2
          refine (round_any hR).mono ?_
          rintro e V4 ⟨hk4, rfl, hx⟩
          have HX := Lib.hid hx
          have HM4 := Lib.hid (HMV.out.keep hk4)
          have HK4 : Hid (KeepsFrom w5.heap.size V V4) := Lib.hid (HKV.out.trans ⟨hk4.size, fun k o h => hk4.same k o (Nat.le_trans HX5.out.2.2.2 h)⟩)
          clear hx hk4
          gi_wp2
          exact (⟨rfl, HK4.out, HX.out, HPX.out, HM4.out⟩ : _ ∧ _ ∧ _ ∧ _ ∧ _)
        have HGG := Lib.hid (HGOOD.out ⟨by rw [HLS.out]; omega, by (try simp only); omega⟩)
        clear hy hR
        gi_wp2
        refine ⟨fun _ h => (by cases h), ?_⟩
        gi_wp2
        refine (⟨HKV.out, HI2.out.1, HI2.out.2, fun j hj => ?_⟩ : _ ∧ _ ∧ _ ∧ _)
        by_cases hjk : j < k
        · exact HI.out.2.2 j (by rw [hpre]; exact hjk)
        · obtain rfl : j = k := by rw [List.length_append, hpre] at hj; simp at hj; omega
          exact HGG.out
      · obtain rfl : n = k := by omega
        have hki : ¬ (n : Int) < (n : Int) := by omega
        have HLS : Hid (least ⟨cap, inn, out, start, fin, trips⟩ yr n n = fin) := Lib.hid (by unfold least; rw [if_neg (by omega)])
        have HI2 := Lib.hid (And.intro HI.out.1 HI.out.2.1)
        have HMV := Lib.hid (HMK5.out.below HI.out.2.1)
        have HKV : Hid (KeepsFrom w5.heap.size V V) := Lib.hid (KeepsFrom.refl _ _)
        clear XC6 XI6
        generalize lev ⟨cap, inn, out, start, fin, trips⟩ xr yr n = LV at *
        gi_upto_region 33 with fail
        have y0 := HI2.out.1.2.1.cell 0 rfl
        obtain ⟨fn, tm, asg, bo, hy, hR⟩ := HY.out 19 V HI2.out.1.1
        by_cases d1 : LV < fin
        · have HPX := Lib.hid (HBAD.out (fun h => by have := h.1; rw [HLS.out] at this; omega))
          gi_wp2
          refine (round_any hR).mono ?_
          rintro e V4 ⟨hk4, rfl, hx⟩
          have HX := Lib.hid hx
          have HM4 := Lib.hid (HMV.out.keep hk4)
          have HK4 : Hid (KeepsFrom w5.heap.size V V4) := Lib.hid (HKV.out.trans ⟨hk4.size, fun k o h => hk4.same k o (Nat.le_trans HX5.out.2.2.2 h)⟩)
          clear hx hk4
          gi_wp2
          exact (⟨rfl, HK4.out, HX.out, HPX.out, HM4.out⟩ : _ ∧ _ ∧ _ ∧ _ ∧ _)
        by_cases d2 : cap < LV
        · have HPX := Lib.hid (HBAD.out (fun h => by have := h.2; (try simp only at this); omega))
          gi_wp2
          refine (round_any hR).mono ?_
          rintro e V4 ⟨hk4, rfl, hx⟩
          have HX := Lib.hid hx
          have HM4 := Lib.hid (HMV.out.keep hk4)
          have HK4 : Hid (KeepsFrom w5.heap.size V V4) := Lib.hid (HKV.out.trans ⟨hk4.size, fun k o h => hk4.same k o (Nat.le_trans HX5.out.2.2.2 h)⟩)
          clear hx hk4
          gi_wp2
          exact (⟨rfl, HK4.out, HX.out, HPX.out, HM4.out⟩ : _ ∧ _ ∧ _ ∧ _ ∧ _)
        have HGG := Lib.hid (HGOOD.out ⟨by rw [HLS.out]; omega, by (try simp only); omega⟩)
        clear hy hR
        gi_wp2
        refine ⟨fun _ h => (by cases h), ?_⟩
        gi_wp2
        refine (⟨HKV.out, HI2.out.1, HI2.out.2, fun j hj => ?_⟩ : _ ∧ _ ∧ _ ∧ _)
        by_cases hjk : j < n
        · exact HI.out.2.2 j (by rw [hpre]; exact hjk)
        · obtain rfl : j = n := by rw [List.length_append, hpre] at hj; simp at hj; omega
          exact HGG.out
    case done =>
      rintro D ys V hD hys hI hK
      have HI := Lib.hid hI
      have HK := Lib.hid hK
      have HMK6 := Lib.hid (Marks.cons HMK5.out hD (Nat.le_trans HX5.out.2.2.2 hD) (HMK5.out.below HI.out.2.1) HK.out)
      have HGO := Lib.hid (HNXT.out (fun k hk => HI.out.2.2 k (by rw [hys]; omega)))
      clear hI hK
      gi_wp2
      refine ⟨?_, by simp [intOf]; omega⟩
      (repeat apply Exists.intro)
      refine ⟨⟨i + 1, rfl, by omega, HMK6.out, HI.out.1, HGO.out⟩, rfl⟩
    case stop =>
      rintro D pre V hD _ hI hK
      have HMK6 := Lib.hid (Marks.cons HMK5.out hD (Nat.le_trans HX5.out.2.2.2 hD) hI.2.2 hK)
      have HI := Lib.hid hI
      clear hI hK
      gi_wp2
      exact leaves_marks (by simp) (HJXO.out 19) (fun V2 h => end104 _ (fun v => ⟨⟨_, rfl⟩, .inr ⟨by rw [HI.out.2.1]; omega, by rw [HI.out.2.1]; exact h⟩⟩)) HMK6.out HI.out.1
  · obtain rfl : m = i := by omega
    have HPZ := Lib.hid (plE_good HH.out.ok HL.out (fun j hj => HSL.out j (by rw [HH.out.hn]; exact hj)) (fun x hx k hk => by rw [← HH.out.hn] at hk ⊢; exact HW.out.2.2 x (by rw [HH.out.hm]; exact hx) k hk))
    gi_wp2
    exact leaves_marks (by simp) HJO.out (fun V2 h => end104 _ (fun v => ⟨⟨_, rfl⟩, .inl ⟨HPZ.out, h⟩⟩)) HW.out.1 HW.out.2.1.1
end Go.Proofs.Ytmebpglkeedaoaa
namespace Go.Proofs.Ytmebpglkeedaoaa
open Go.RowKit Go.Shelf Dp
attribute [local go_sem] Oper.semAt_some
theorem wpIn_codeP {F : Fence} {n : Nat} {P : Program} {c c' : Code} {Q : Exit → Act → World → Prop} {a : Act} {W : World} (h : c = c') (hw : c'.wpIn F n P Q a W) : c.wpIn F n P Q a W := h ▸ hw
@[go_sem] theorem ix162_a (A B : Option Addr) (n m c d : Nat) (w : World) : (Instr.index 162 (.agg #[.slice A n c, .slice B m d]) (.int .i64 0)).run Try.prog w = .ok (.slice A n c) w := by kernel_rfl
@[go_sem] theorem ix162_b (A B : Option Addr) (n m c d : Nat) (w : World) : (Instr.index 162 (.agg #[.slice A n c, .slice B m d]) (.int .i64 1)).run Try.prog w = .ok (.slice B m d) w := by kernel_rfl
set_option maxHeartbeats 8000000 in
set_option maxRecDepth 100000 in
theorem faults1_c (bs bt bc : Nat) (S : Site) (cs : List Car) (T : Tab) (A B C D E P Q : Option Addr) (n m p q cA cB cC cD cE cP cQ l D0 : Nat) (hH : FtH S cs T n m p q cA cB cC cD cE cP cQ)
    (J : World → Prop) (Jx : Int → World → Prop) (hJ : ∀ W, J W → FtM bs bt bc S cs T A B C D E P Q n m p q cA cB cC cD cE cP cQ W) (hJo : OwnFrom D0 (fun (_ : Unit) W => J W)) (hJxo : ∀ e, OwnFrom D0 (fun (_ : Unit) W => Jx e W))
    (hY : ∀ e W1, J W1 → YieldAt Fence.wide 1 Try.prog l #[.int .i64 e] W1 fun e' W' => KeepsFrom D0 W1 W' ∧ e' = .returned (.bool false) ∧ Jx e W')
    (W : World) (hD : D0 ≤ W.heap.size) (hj : J W) :
    CallsIn Fence.wide 2 Try.prog 104 #[.func (.yield l) #[] #[], .pointer (some ⟨bs, 0, none⟩), .pointer (some ⟨bt, 0, none⟩), .pointer (some ⟨bc, 0, none⟩)] W fun e W' => (∃ v, e = .returned v) ∧ ((plE S cs T = 0 ∧ J W') ∨ (plE S cs T ≠ 0 ∧ Jx (plE S cs T) W')) := by
  refine callsIn_of_wp_marks Try.func104 rfl trivial ?_ rfl
  simp only [Try.ntmps104, List.size_toArray, List.length_cons, List.length_nil, Nat.reduceAdd, Nat.reduceSub, Array.replicate_succ, Array.replicate_zero, List.push_toArray, List.append_toArray, List.nil_append, List.cons_append]
  have HH := Lib.hid hH
  have HJ := Lib.hid hJ
  have HJO := Lib.hid hJo
  have HJXO := Lib.hid hJxo
  have HJB : Hid (∀ W W', J W → Below W.heap.size W W' → J W') := Lib.hid (fun W W' h hb => hJo () W W' none h (grown_below hb) (fun r e => by cases e))
  have HY := Lib.hid hY
  have HEND : Hid (∀ (e : Int) (W' : World) (tmps : Array Value), plE S cs T = e → e ≠ 0 → Jx e W' → LeavesInM Fence.wide 2 Try.prog Try.f104 tmps (fun e W' => (∃ v, e = .returned v) ∧ ((plE S cs T = 0 ∧ J W') ∨ (plE S cs T ≠ 0 ∧ Jx (plE S cs T) W'))) [] .returning W') := Lib.hid (fun e W' tmps h h0 hx => end104 _ fun v => ⟨⟨_, rfl⟩, .inr ⟨by rw [h]; exact h0, by rw [h]; exact hx⟩⟩)
  have ea := hH.ha
  have eb := hH.hb
  have ee := hH.he
  have ep := hH.hx
  have eq := hH.hy
  have HN8 : Hid (m ≤ 8 ∧ n ≤ 48) := Lib.hid (by
    have h := stE_0 hH.ok
    have h1 := siteHead_iff.1 h.2.1
    have h2 := hH.hm
    have h3 := hH.hn
    omega)
  have HB0 := (Below.refl W.heap.size W).alloc (Nat.le_refl _) (.cells #[.func (.yield l) #[] #[]] 161)
  have X4 := Lib.hid (Blk.new' W #[.func (.yield l) #[] #[]] 161)
  have HJ1 := Lib.hid (HJB.out _ _ hj HB0)
  have HD1 : Hid (D0 ≤ W.heap.size) := Lib.hid hD
  clear hJ hJo hJxo hY hj HB0 hH hD
  gi_upto_region 1 with fail
  generalize W.alloc (.cells #[.func (.yield l) #[] #[]] 161) = W1 at X4 HJ1 ⊢
  generalize W.heap.size = b4 at *
  have M0 := HJ.out _ HJ1.out
  have s0 := M0.ks.cell 0 rfl
  have sl := M0.ks.lt
  have X4b := Lib.hid (X4.out.alloc (.cells #[.int .i64 n] 3))
  have X5 := Lib.hid (Blk.new' W1 #[.int .i64 n] 3)
  have HJ2 := Lib.hid (HJB.out _ _ HJ1.out ((Below.refl W1.heap.size W1).alloc (Nat.le_refl _) (.cells #[.int .i64 n] 3)))
  have HB5 : Hid (b4 < W1.heap.size) := Lib.hid X4.out.lt
  clear M0
  gi_upto_region 2 with fail
  generalize W1.alloc (.cells #[.int .i64 n] 3) = W2 at X4b X5 HJ2 ⊢
  generalize W1.heap.size = b5 at *
  clear s0 sl X4 HJ1
  have M1 := HJ.out _ HJ2.out
  have t0 := M1.kt.cell 0 rfl
  have t1 := M1.kt.cell 1 rfl
  have k0 := M1.kc.cell 0 rfl
  have n0 := X5.out.cell 0 rfl
  have y0 := X4b.out.cell 0 rfl
  have CC1 := ContainsFunc_c P T.inn p cP n b5 W2 HH.out.hp ep M1.ht.1 n0
  have CC2 := ContainsFunc_c Q T.out q cQ n b5 W2 HH.out.hq eq M1.ht.2 n0
  obtain ⟨fn, tm, asg, bo, hy, hR⟩ := HY.out 20 W2 HJ2.out
  clear M1
  have HA1 : Hid (lenG cs.length S.lim.length T.inn = (decide (p = m) && allB p (fun i => decide ((T.inn.getD i []).length = n)))) := Lib.hid (by rw [lenG, ← HH.out.hp, ← HH.out.hm, ← HH.out.hn])
  have HA2 : Hid (lenG cs.length S.lim.length T.out = (decide (q = m) && allB q (fun i => decide ((T.out.getD i []).length = n)))) := Lib.hid (by rw [lenG, ← HH.out.hq, ← HH.out.hm, ← HH.out.hn])
  generalize allB p (fun i => decide ((T.inn.getD i []).length = n)) = v1 at *
  generalize allB q (fun i => decide ((T.out.getD i []).length = n)) = v2 at *
  gi_wp2
  clear t0 t1
  refine wpIn_loop_rounds 3 ?_
  rw [roundsIn_succ]
  have HALL : Hid (v1 = true → v2 = true → p = m → q = m → (lenG cs.length S.lim.length T.inn && lenG cs.length S.lim.length T.out) = true) := Lib.hid (fun a b c d => by rw [HA1.out, HA2.out, a, b, decide_eq_true c, decide_eq_true d]; rfl)
  have HNO1 : Hid ((p = m → v1 = false) → plE S cs T = 20) := Lib.hid (fun h => plE_len HH.out.ok (by
    rw [HA1.out]
    by_cases e : p = m
    · rw [h e]; simp
    · rw [decide_eq_false e]; simp))
  have HNO2 : Hid ((q = m → v2 = false) → plE S cs T = 20) := Lib.hid (fun h => plE_len HH.out.ok (by
    rw [HA2.out]
    by_cases e : q = m
    · rw [h e]; simp
    · rw [decide_eq_false e]; simp))
  have FIN : Hid (∀ (e : Int) (tm0 : Array Value) (W' : World), plE S cs T = e → e ≠ 0 → Jx e W' → LeavesInM Fence.wide 2 Try.prog Try.f104 tm0 (fun e W' => (∃ v, e = .returned v) ∧ ((plE S cs T = 0 ∧ J W') ∨ (plE S cs T ≠ 0 ∧ Jx (plE S cs T) W'))) [] .returning W') := Lib.hid (fun e tm0 W' h1 h2 h3 => HEND.out e W' tm0 h1 h2 h3)
  by_cases hpm : p = m
  · have hpb : ((p : Int) != (m : Int)) = false := by simp [hpm]
    have hpi : (p : Int) = (m : Int) := by omega
    cases v1
    · have HPE := Lib.hid (HNO1.out (fun _ => rfl))
      rw [show (!false) = true from rfl] at CC1
      clear hpm
      gi_wp2
      refine ⟨trivial, callsIn_wide.2 (CC1.mono ?_)⟩
      rintro e W3 ⟨rfl, rfl⟩
      gi_wp2
      refine hR.mono ?_
      rintro e W4 ⟨_, rfl, hx⟩
      have HX := Lib.hid hx
      clear hx
      gi_wp2
      exact FIN.out 20 _ _ HPE.out (by omega) HX.out
    · rw [show (!true) = false from rfl] at CC1
      have HV1 := Lib.hid hpm
      clear hpm
      gi_wp2
      refine ⟨trivial, callsIn_wide.2 (CC1.mono ?_)⟩
      rintro e W3 ⟨rfl, rfl⟩
      clear hpb hpi CC1
      gi_wp2
      rw [roundsIn_succ]
      by_cases hqm : q = m
      · have hqb : ((q : Int) != (m : Int)) = false := by simp [hqm]
        have hqi : (q : Int) = (m : Int) := by omega
        have HV2 := Lib.hid hqm
        clear hqm
        cases v2
        · have HPE := Lib.hid (HNO2.out (fun _ => rfl))
          rw [show (!false) = true from rfl] at CC2
          gi_wp2
          refine ⟨trivial, callsIn_wide.2 (CC2.mono ?_)⟩
          rintro e W3 ⟨rfl, rfl⟩
          gi_wp2
          refine hR.mono ?_
          rintro e W4 ⟨_, rfl, hx⟩
          have HX := Lib.hid hx
          clear hx
          gi_wp2
          exact FIN.out 20 _ _ HPE.out (by omega) HX.out
        · rw [show (!true) = false from rfl] at CC2
          gi_wp2
          refine ⟨trivial, callsIn_wide.2 (CC2.mono ?_)⟩
          rintro e W3 ⟨rfl, rfl⟩
          clear hqb hqi CC2
          have HL := Lib.hid (HALL.out (by simp) (by simp) HV1.out HV2.out)
          clear HALL HNO1 HNO2 HA1 HA2 hy hR
          gi_wp2
          rw [roundsIn_succ]
          gi_wp2
          have HS8 : Hid (∀ V V' : World, (J V ∧ Blk V b4 161 [.func (.yield l) #[] #[]] ∧ Blk V b5 3 [.int .i64 n] ∧ D0 ≤ V.heap.size) → Below V.heap.size V V' → (J V' ∧ Blk V' b4 161 [.func (.yield l) #[] #[]] ∧ Blk V' b5 3 [.int .i64 n] ∧ D0 ≤ V'.heap.size)) := Lib.hid (fun V V' h hb => ⟨HJB.out _ _ h.1 hb, h.2.1.below hb h.2.1.lt, h.2.2.1.below hb h.2.2.1.lt, Nat.le_trans h.2.2.2 hb.size⟩)
          have H0 : Hid (J W2 ∧ Blk W2 b4 161 [.func (.yield l) #[] #[]] ∧ Blk W2 b5 3 [.int .i64 n] ∧ D0 ≤ W2.heap.size) := Lib.hid ⟨HJ2.out, X4b.out, X5.out, by have := X4b.out.lt; have := HD1.out; omega⟩
          clear HJ2 X4b X5 k0 n0 y0
          gi_loopw [8, 9, 10, 11, 12, 13, 14, 15, 46] (fun _ _ _ _ _ _ _ _ iv wr => ∃ k : Nat, k ≤ n ∧ iv = .int .i64 k ∧ Hid ((J wr ∧ Blk wr b4 161 [.func (.yield l) #[] #[]] ∧ Blk wr b5 3 [.int .i64 n] ∧ D0 ≤ wr.heap.size) ∧ ∀ j, j < k → slotE S cs T j = 0)) (fun _ _ _ _ _ _ _ _ iv _ => n - (intOf iv).toNat)
          case atStart => exact ⟨0, Nat.zero_le _, rfl, Lib.hid ⟨H0.out, fun j hj => by omega⟩⟩
          case round =>
            obtain ⟨k, hk, rfl, HW⟩ := hrel
            by_cases hlt : k < n
            · have hki : (k : Int) < (n : Int) := by omega
              have M := HJ.out _ HW.out.1.1
              have k0 := M.kc.cell 0 rfl
              have kl := M.kc.lt
              clear M
              gi_wp2
              clear k0 kl
              gi_loopw [9, 10, 11, 12, 13, 14, 51] (fun _ _ _ _ _ _ iv wr => ∃ i : Nat, i ≤ m ∧ iv = .int .i64 i ∧ Hid ((J wr ∧ Blk wr b4 161 [.func (.yield l) #[] #[]] ∧ Blk wr b5 3 [.int .i64 n] ∧ D0 ≤ wr.heap.size) ∧ ∀ x, x < i → carAt cs T k x = true)) (fun _ _ _ _ _ _ iv _ => m - (intOf iv).toNat)
              case atStart => exact ⟨0, Nat.zero_le _, rfl, Lib.hid ⟨HW.out.1, fun j hj => by omega⟩⟩
              case round =>
                obtain ⟨i, hi, rfl, HI⟩ := hrel
                by_cases hlt2 : i < m
                · have hii : (i : Int) < (m : Int) := by omega
                  have M := HJ.out _ HI.out.1.1
                  have il : i < cs.length := by rw [← HH.out.hm]; exact hlt2
                  obtain ⟨ad, rfl, abl, c0, c1, c2, c3, c4, TT, cT, c5, hcT, HTT⟩ := M.hc i il
                  have HTR := Lib.hid HTT
                  have HCOK := Lib.hid ((stE_0 HH.out.ok).2.2.2 i il)
                  clear HTT M
                  have HCA := Lib.hid (show carAt cs T k i = carG (cs.getD i default) ((T.inn.getD i []).getD k 0) ((T.out.getD i []).getD k 0) (awayC (cs.getD i default) k) from rfl)
                  have HNXT : Hid (carAt cs T k i = true → ∀ x, x < i + 1 → carAt cs T k x = true) := Lib.hid (fun h x hx => by
                    by_cases hxi : x < i
                    · exact HI.out.2 x hxi
                    · obtain rfl : x = i := by omega
                      exact h)
                  have HPE : Hid (carAt cs T k i = false → plE S cs T = 3) := Lib.hid (fun h => plE_slot HH.out.ok HL.out (by rw [← HH.out.hn]; exact hlt) HW.out.2 (slotE_car il h) (by omega))
                  rw [HCA.out] at HNXT HPE
                  clear HCA
                  generalize cs.getD i default = c at *
                  obtain ⟨cap, inn, out, start, fin, trips⟩ := c
                  simp only at c0 c1 c2 c3 c4 c5 hcT HTR HNXT HPE HCOK
                  obtain ⟨qn, hqn⟩ : ∃ qn, qn = trips.length := ⟨_, rfl⟩
                  rw [← hqn] at c5 hcT
                  have HQN := Lib.hid hqn
                  have HAW := Lib.hid (show awayC ⟨cap, inn, out, start, fin, trips⟩ k = awayP trips k qn from by rw [hqn]; rfl)
                  clear hqn
                  gi_upto_region 14 with fail
                  have HY0 := Lib.hid (HS8.out _ _ HI.out.1 ((Below.refl wr.heap.size wr).alloc (Nat.le_refl _) (.cells #[.int .i64 cap, .int .i64 inn, .int .i64 out, .int .i64 start, .int .i64 fin, .slice TT qn cT] 63)))
                  have XC := Lib.hid (Blk.new' wr #[.int .i64 cap, .int .i64 inn, .int .i64 out, .int .i64 start, .int .i64 fin, .slice TT qn cT] 63)
                  have HTR2 := Lib.hid (HTR.out.below ((Below.refl wr.heap.size wr).alloc (Nat.le_refl _) (.cells #[.int .i64 cap, .int .i64 inn, .int .i64 out, .int .i64 start, .int .i64 fin, .slice TT qn cT] 63)) (Nat.le_refl _))
                  generalize wr.alloc (.cells #[.int .i64 cap, .int .i64 inn, .int .i64 out, .int .i64 start, .int .i64 fin, .slice TT qn cT] 63) = wx at HY0 XC HTR2 ⊢
                  generalize wr.heap.size = gc at *
                  clear c0 c1 c2 c3 c4 c5 abl HTR
                  have M := HJ.out _ HY0.out.1
                  have t0 := M.kt.cell 0 rfl
                  have t1 := M.kt.cell 1 rfl
                  have tl := M.kt.lt
                  obtain ⟨pa, rfl, pal, PT, cPT, p0, pb, pi⟩ := M.ht.1 i (by rw [← HH.out.hp, HV1.out]; exact hlt2)
                  obtain ⟨qa, rfl, qal, QT, cQT, q0, qb, qi⟩ := M.ht.2 i (by rw [← HH.out.hq, HV2.out]; exact hlt2)
                  have LL := HL.out
                  rw [Bool.and_eq_true] at LL
                  have L1 := (lenG_iff.1 LL.1).2 i il
                  have L2 := (lenG_iff.1 LL.2).2 i il
                  obtain ⟨pd, rfl, pdl, px⟩ := pi k (by rw [L1, ← HH.out.hn]; exact hlt)
                  obtain ⟨qd, rfl, qdl, qx⟩ := qi k (by rw [L2, ← HH.out.hn]; exact hlt)
                  rw [L1, ← HH.out.hn] at p0 pb
                  rw [L2, ← HH.out.hn] at q0 qb
                  clear pi qi LL L1 L2 M
                  have hip : (i : Int) < (p : Int) := by have := HV1.out; omega
                  have hiq : (i : Int) < (q : Int) := by have := HV2.out; omega
                  have pab : (pa.add i).block < wx.heap.size := by rw [block_add]; exact pal
                  have qab : (qa.add i).block < wx.heap.size := by rw [block_add]; exact qal
                  have pdb : (pd.add k).block < wx.heap.size := by rw [block_add]; exact pdl
                  have qdb : (qd.add k).block < wx.heap.size := by rw [block_add]; exact qdl
                  generalize (T.inn.getD i []).getD k 0 = x at *
                  generalize (T.out.getD i []).getD k 0 = y at *
                  refine wpIn_wide.2 ?_
                  refine wp_region_past (by kernel_rfl) (by kernel_rfl) ?_
                  repeat (go_big_quiet_step (fail))
                  refine wpQuiet_nil ?_
                  intro xx
                  have HY1 := Lib.hid (HS8.out _ _ HY0.out xx.far)
                  have XC1 := Lib.hid (XC.out.below xx.far XC.out.lt)
                  have HTR3 := Lib.hid (HTR2.out.below xx.far (Nat.le_refl _))
                  generalize xx.w = w3 at HY1 XC1 HTR3 ⊢
                  clear t0 t1 tl p0 q0 px qx pal qal pdl qdl pab qab pdb qdb HY0 XC HTR2
                  have e0 := XC1.out.cell 0 rfl
                  have e1 := XC1.out.cell 1 rfl
                  have e2 := XC1.out.cell 2 rfl
                  have e3 := XC1.out.cell 3 rfl
                  have e4 := XC1.out.cell 4 rfl
                  have e5 := XC1.out.cell 5 rfl
                  have TC := trip_c (.int .i64 cap) (.int .i64 inn) (.int .i64 out) (.int .i64 start) (.int .i64 fin) k TT trips qn cT w3 HQN.out hcT HTR3.out
                  gi_wp2
                  refine ⟨trivial, callsIn_wide.2 (TC.mono ?_)⟩
                  rintro e w5 ⟨rfl, hb5⟩
                  have HY2 := Lib.hid (HS8.out _ _ HY1.out hb5)
                  have XC2 := Lib.hid (XC1.out.below hb5 XC1.out.lt)
                  clear e0 e1 e2 e3 e4 e5 hb5 HY1 XC1 HTR3 TC
                  generalize awayP trips k qn = aw at *
                  generalize useP trips k qn = us at *
                  gi_upto_region 16 with fail
                  have e1 := XC2.out.cell 1 rfl
                  have e2 := XC2.out.cell 2 rfl
                  have y0 := HY2.out.2.1.cell 0 rfl
                  rw [HAW.out] at HNXT HPE
                  obtain ⟨fn, tm, asg, bo, hy, hR⟩ := HY.out 3 w5 HY2.out.1
                  by_cases a1 : x < 0
                  · have HPX := Lib.hid (HPE.out (by rw [← Bool.not_eq_true, carG_iff]; simp only; omega))
                    gi_wp2
                    refine hR.mono ?_
                    rintro e W4 ⟨_, rfl, hx⟩
                    have HX := Lib.hid hx
                    clear hx
                    gi_wp2
                    exact FIN.out 3 _ _ HPX.out (by omega) HX.out
                  by_cases a2 : inn < x
                  · have HPX := Lib.hid (HPE.out (by rw [← Bool.not_eq_true, carG_iff]; simp only; omega))
                    gi_wp2
                    refine hR.mono ?_
                    rintro e W4 ⟨_, rfl, hx⟩
                    have HX := Lib.hid hx
                    clear hx
                    gi_wp2
                    exact FIN.out 3 _ _ HPX.out (by omega) HX.out
                  by_cases a3 : y < 0
                  · have HPX := Lib.hid (HPE.out (by rw [← Bool.not_eq_true, carG_iff]; simp only; omega))
                    gi_wp2
                    refine hR.mono ?_
                    rintro e W4 ⟨_, rfl, hx⟩
                    have HX := Lib.hid hx
                    clear hx
                    gi_wp2
                    exact FIN.out 3 _ _ HPX.out (by omega) HX.out
                  by_cases a4 : out < y
                  · have HPX := Lib.hid (HPE.out (by rw [← Bool.not_eq_true, carG_iff]; simp only; omega))
                    gi_wp2
                    refine hR.mono ?_
                    rintro e W4 ⟨_, rfl, hx⟩
                    have HX := Lib.hid hx
                    clear hx
                    gi_wp2
                    exact FIN.out 3 _ _ HPX.out (by omega) HX.out
                  have CB := (carOk_iff.1 HCOK.out).1
                  simp only at CB
                  have wxy : IntKind.i64.wrap (x + y) = x + y := IntWalk.i64_in _ (by omega)
                  clear CB
                  cases aw
                  · have HGG := Lib.hid (HNXT.out (by rw [carG_iff]; simp only; refine ⟨by omega, by omega, fun h => by cases h⟩))
                    clear hy hR
                    gi_wp2
                    exact ⟨⟨i + 1, by omega, by go_num, Lib.hid ⟨HY2.out, HGG.out⟩⟩, by simp [intOf]; omega⟩
                  · by_cases a5 : x + y = 0
                    · have HGG := Lib.hid (HNXT.out (by rw [carG_iff]; simp only; exact ⟨by omega, by omega, fun _ => a5⟩))
                      clear hy hR
                      gi_wp2
                      exact ⟨⟨i + 1, by omega, by go_num, Lib.hid ⟨HY2.out, HGG.out⟩⟩, by simp [intOf]; omega⟩
                    · have a5b : ((x + y) != 0) = true := by simpa using a5
                      have HPX := Lib.hid (HPE.out (by rw [← Bool.not_eq_true, carG_iff]; simp only; exact fun h => a5 (h.2.2 trivial)))
                      gi_wp2
                      refine hR.mono ?_
                      rintro e W4 ⟨_, rfl, hx⟩
                      have HX := Lib.hid hx
                      clear hx
                      gi_wp2
                      exact FIN.out 3 _ _ HPX.out (by omega) HX.out
                · obtain rfl : m = i := by omega
                  have M := HJ.out _ HI.out.1.1
                  have t0 := M.kt.cell 0 rfl
                  have t1 := M.kt.cell 1 rfl
                  have DC := drawn_c P Q T p q cP cQ k wr HH.out.hp HH.out.hq (by rw [HV1.out, HV2.out]; exact Nat.le_refl _) (by rw [HV1.out]; exact HN8.out.1) ep eq M.ht (by rw [HV1.out, HH.out.hm]; exact slot_bd HH.out.ok HL.out (by rw [← HH.out.hn]; exact hlt) (fun x hx => HI.out.2 x (by rw [HH.out.hm]; exact hx)))
                  clear M
                  gi_wp2
                  refine ⟨trivial, callsIn_wide.2 (DC.mono ?_)⟩
                  rintro e w6 ⟨rfl, hb6⟩
                  have HI2 := Lib.hid (HS8.out _ _ HI.out.1 hb6)
                  clear t0 t1 hb6 DC
                  have kS : k < S.lim.length := by rw [← HH.out.hn]; exact hlt
                  have HGD : Hid (drP T k p ≤ S.lim.getD k 0 ∧ -(S.exp.getD k 0) ≤ drP T k p → slotE S cs T k = 0) := Lib.hid (fun h => slotE_ok (fun x hx => HI.out.2 x (by rw [HH.out.hm]; exact hx)) (by rw [← HH.out.hp]; exact h))
                  have HBG : Hid (¬ (drP T k p ≤ S.lim.getD k 0 ∧ -(S.exp.getD k 0) ≤ drP T k p) → plE S cs T = 17) := Lib.hid (fun h => plE_slot HH.out.ok HL.out kS HW.out.2 (slotE_lim (fun x hx => HI.out.2 x (by rw [HH.out.hm]; exact hx)) (by rw [← HH.out.hp]; exact h)) (by omega))
                  have SB := slotOk_iff.1 ((stE_0 HH.out.ok).2.2.1 k kS)
                  have SH := siteHead_iff.1 (stE_0 HH.out.ok).2.1
                  have M := HJ.out _ HI2.out.1
                  have s0 := M.ks.cell 0 rfl
                  have s1 := M.ks.cell 1 rfl
                  obtain ⟨la, hla, lal, lx⟩ := M.hs.1 k kS
                  obtain ⟨ea2, hea2, eal, ex⟩ := M.hs.2.1 k (by rw [SH.2.1]; exact kS)
                  rw [hla] at s0
                  rw [hea2] at s1
                  clear M SH hla hea2
                  generalize drP T k p = d at *
                  generalize S.lim.getD k 0 = lm at *
                  generalize S.exp.getD k 0 = ep2 at *
                  have wne : IntKind.i64.wrap (-ep2) = -ep2 := IntWalk.i64_in _ (by omega)
                  clear SB
                  gi_upto_region 20 with fail
                  have y0 := HI2.out.2.1.cell 0 rfl
                  obtain ⟨fn, tm, asg, bo, hy, hR⟩ := HY.out 17 w6 HI2.out.1
                  by_cases b1 : lm < d
                  · have HPX := Lib.hid (HBG.out (fun h => by omega))
                    gi_wp2
                    refine hR.mono ?_
                    rintro e W4 ⟨_, rfl, hx⟩
                    have HX := Lib.hid hx
                    clear hx
                    gi_wp2
                    exact FIN.out 17 _ _ HPX.out (by omega) HX.out
                  by_cases b2 : d < -ep2
                  · have HPX := Lib.hid (HBG.out (fun h => by omega))
                    gi_wp2
                    refine hR.mono ?_
                    rintro e W4 ⟨_, rfl, hx⟩
                    have HX := Lib.hid hx
                    clear hx
                    gi_wp2
                    exact FIN.out 17 _ _ HPX.out (by omega) HX.out
                  have HGG := Lib.hid (HGD.out ⟨by omega, by omega⟩)
                  clear hy hR
                  gi_wp2
                  go_roundw
                  case measure => simp [intOf]; omega
                  case rel =>
                    refine ⟨k + 1, by omega, by go_num, Lib.hid ⟨HI2.out, fun j hj => ?_⟩⟩
                    by_cases hjk : j < k
                    · exact HW.out.2 j hjk
                    · obtain rfl : j = k := by omega
                      exact HGG.out
            · obtain rfl : n = k := by omega
              have M := HJ.out _ HW.out.1.1
              have k0 := M.kc.cell 0 rfl
              have kl := M.kc.lt
              clear M
              gi_wp2
              clear k0 kl
              refine wpIn_codeP (c' := loop104) (by kernel_rfl) ?_
              exact faults4_c bs bt bc b4 b5 S cs T A B C D E P Q n m p q cA cB cC cD cE cP cQ l D0 HH.out HV1.out HV2.out HL.out HW.out.2 J Jx HJ.out HJO.out HJXO.out HY.out wr HW.out.1
      · have hqi : ¬ (q : Int) = (m : Int) := by omega
        have hqb : ((q : Int) != (m : Int)) = true := by simpa using hqi
        have HPE := Lib.hid (HNO2.out (fun h => absurd h hqm))
        clear CC2 hqm
        gi_wp2
        refine ⟨trivial, ?_⟩
        gi_wp2
        refine hR.mono ?_
        rintro e W4 ⟨_, rfl, hx⟩
        have HX := Lib.hid hx
        clear hx
        gi_wp2
        exact FIN.out 20 _ _ HPE.out (by omega) HX.out
  · have hpi : ¬ (p : Int) = (m : Int) := by omega
    have hpb : ((p : Int) != (m : Int)) = true := by simpa using hpi
    have HPE := Lib.hid (HNO1.out (fun h => absurd h hpm))
    clear CC1 CC2 hpm
    gi_wp2
    refine ⟨trivial, ?_⟩
    gi_wp2
    refine hR.mono ?_
    rintro e W4 ⟨_, rfl, hx⟩
    have HX := Lib.hid hx
    clear hx
    gi_wp2
    exact FIN.out 20 _ _ HPE.out (by omega) HX.out
end Go.Proofs.Ytmebpglkeedaoaa
namespace Go.Proofs.Ytmebpglkeedaoaa
open Go.RowKit Go.Shelf Dp
attribute [local go_sem] Oper.semAt_some
theorem plE_site {S : Site} {cs : List Car} {T : Tab} (h : stE S cs ≠ 0) : plE S cs T = stE S cs := by unfold plE; rw [if_neg h]
set_option maxHeartbeats 8000000 in
set_option maxRecDepth 100000 in
theorem CheckPlan_c (A B C D E P Q : Option Addr) (S : Site) (cs : List Car) (T : Tab) (n nB nC nD m p q cA cB cC cD cE cP cQ : Nat) (w : World) (hn : n = S.lim.length) (hnB : nB = S.exp.length) (hnC : nC = S.buy.length) (hnD : nD = S.sell.length) (hm : m = cs.length) (hp : p = T.inn.length) (hq : q = T.out.length)
    (hA : n ≤ cA ∧ cA ≤ 9223372036854775807) (hB : nB ≤ cB ∧ cB ≤ 9223372036854775807) (hC : nC ≤ cC ∧ cC ≤ 9223372036854775807) (hD : nD ≤ cD ∧ cD ≤ 9223372036854775807) (hE : m ≤ cE ∧ cE ≤ 9223372036854775807) (hP : p ≤ cP ∧ cP ≤ 9223372036854775807) (hQ : q ≤ cQ ∧ cQ ≤ 9223372036854775807)
    (hS : SiteAt w A B C D S) (hcs : CarsAt w E cs) (hT : TabAt w P Q T) :
    Calls Try.prog 32 #[.agg #[.slice A n cA, .slice B nB cB, .slice C nC cC, .slice D nD cD], .slice E m cE, .agg #[.slice P p cP, .slice Q q cQ]] w fun e w' => e = .returned (.int .i64 (plE S cs T)) ∧ Below w.heap.size w w' := by
  have HN := Lib.hid hn
  have HNB := Lib.hid hnB
  have HNC := Lib.hid hnC
  have HND := Lib.hid hnD
  have HM := Lib.hid hm
  have HP := Lib.hid hp
  have HQ := Lib.hid hq
  have HS := Lib.hid hS
  have HCS := Lib.hid hcs
  have HT := Lib.hid hT
  clear hn hnB hnC hnD hm hp hq hS hcs hT
  refine (callsIn_wide (n := 3)).1 (callsIn_of_wp_marks Try.func32 rfl trivial (wpIn_wide.2 ?_) rfl)
  simp only [Try.ntmps32, List.size_toArray, List.length_cons, List.length_nil, Nat.reduceAdd, Nat.reduceSub, Array.replicate_succ, Array.replicate_zero, List.push_toArray, List.append_toArray, List.nil_append, List.cons_append]
  have HB := Lib.hid ((((Below.refl w.heap.size w).alloc (Nat.le_refl _) (.cells #[.slice A n cA, .slice B nB cB, .slice C nC cC, .slice D nD cD] 51)).alloc (by simp) (.cells #[.slice P p cP, .slice Q q cQ] 55)).alloc (by simp; omega) (.cells #[.int .i64 0] 29))
  have XS := Lib.hid (((Blk.new' w #[.slice A n cA, .slice B nB cB, .slice C nC cC, .slice D nD cD] 51).alloc (.cells #[.slice P p cP, .slice Q q cQ] 55)).alloc (.cells #[.int .i64 0] 29))
  have XT := Lib.hid (show Blk (((w.alloc (.cells #[.slice A n cA, .slice B nB cB, .slice C nC cC, .slice D nD cD] 51)).alloc (.cells #[.slice P p cP, .slice Q q cQ] 55)).alloc (.cells #[.int .i64 0] 29)) (w.heap.size + 1) 55 [.slice P p cP, .slice Q q cQ] from by
    simpa using (Blk.new' (w.alloc (.cells #[.slice A n cA, .slice B nB cB, .slice C nC cC, .slice D nD cD] 51)) #[.slice P p cP, .slice Q q cQ] 55).alloc (.cells #[.int .i64 0] 29))
  have XR := Lib.hid (show Blk (((w.alloc (.cells #[.slice A n cA, .slice B nB cB, .slice C nC cC, .slice D nD cD] 51)).alloc (.cells #[.slice P p cP, .slice Q q cQ] 55)).alloc (.cells #[.int .i64 0] 29)) (w.heap.size + 2) 29 [.int .i64 0] from by
    simpa [Nat.add_assoc] using Blk.new' ((w.alloc (.cells #[.slice A n cA, .slice B nB cB, .slice C nC cC, .slice D nD cD] 51)).alloc (.cells #[.slice P p cP, .slice Q q cQ] 55)) #[.int .i64 0] 29)
  go_upto_region 1 with fail
  simp only [World.size_alloc, Nat.add_assoc, Nat.reduceAdd]
  generalize ((w.alloc (.cells #[.slice A n cA, .slice B nB cB, .slice C nC cC, .slice D nD cD] 51)).alloc (.cells #[.slice P p cP, .slice Q q cQ] 55)).alloc (.cells #[.int .i64 0] 29) = w1 at HB XS XT XR ⊢
  have s0 := XS.out.cell 0 rfl
  have s1 := XS.out.cell 1 rfl
  have s2 := XS.out.cell 2 rfl
  have s3 := XS.out.cell 3 rfl
  have CS := CheckSite_c A B C D E S cs n nB nC nD m cA cB cC cD cE w1 HN.out HNB.out HNC.out HND.out HM.out hA hB hC hD hE (HS.out.below HB.out (Nat.le_refl _)) (HCS.out.below HB.out (Nat.le_refl _))
  have HPS := Lib.hid (plE_site (S := S) (cs := cs) (T := T))
  obtain ⟨v, hv⟩ : ∃ v, v = stE S cs := ⟨_, rfl⟩
  rw [← hv] at CS HPS
  have HV := Lib.hid hv
  clear hv
  go_upto_region 2 with (go_at_call 36; refine CS.mono ?_; rintro e w2 ⟨rfl, hb2⟩)
  have HB2 := Lib.hid (HB.out.trans (hb2.mono HB.out.size))
  have XS2 := Lib.hid (XS.out.below hb2 XS.out.lt)
  have XT2 := Lib.hid (XT.out.below hb2 XT.out.lt)
  have XR2 := Lib.hid (XR.out.below hb2 XR.out.lt)
  clear hb2 s0 s1 s2 s3 CS HB XS XT XR
  by_cases h0 : v = 0
  rotate_left
  · have hb0 : (v == 0) = false := by simpa using h0
    have HPV := Lib.hid (HPS.out h0)
    have r0 := XR2.out.cell 0 rfl
    have rf := XR2.out.free 0
    have XE := Lib.hid (XR2.out.setCell 0 (.int .i64 v))
    have BE := Lib.hid (HB2.out.setCell (p := ⟨w.heap.size + 2, 0, none⟩) (by simp) (.int .i64 v))
    go_wp2_with fail
    have c0 := XE.out.cell 0 rfl
    exact ⟨.int .i64 v, by simp [results, Try.results32, go_sem, c0], ret_int HPV.out.symm, BE.out⟩
  · subst h0
    clear HPS
    have s0 := XS2.out.cell 0 rfl
    have s1 := XS2.out.cell 1 rfl
    have s2 := XS2.out.cell 2 rfl
    have s3 := XS2.out.cell 3 rfl
    have t0 := XT2.out.cell 0 rfl
    have t1 := XT2.out.cell 1 rfl
    go_wp2_with fail
    refine (faults_c _ _ _ _ ⟨_, _, _, _, rfl⟩ ⟨_, _, _, rfl⟩ ⟨_, _, rfl⟩).mono ?_
    rintro e w4 ⟨rfl, hw4⟩
    have HB4 : Below w2.heap.size w2 w4 := by
      rw [hw4]
      exact (((Below.refl _ _).alloc (Nat.le_refl _) _).alloc (by simp) _).alloc (by simp; omega) _
    have KS : Blk w4 w2.heap.size 51 [.slice A n cA, .slice B nB cB, .slice C nC cC, .slice D nD cD] := by
      rw [hw4]; exact ((Blk.new' w2 #[.slice A n cA, .slice B nB cB, .slice C nC cC, .slice D nD cD] 51).alloc _).alloc _
    have KC : Blk w4 (w2.heap.size + 1) 52 [.slice E m cE] := by
      have := (Blk.new' (w2.alloc (.cells #[.slice A n cA, .slice B nB cB, .slice C nC cC, .slice D nD cD] 51)) #[.slice E m cE] 52).alloc (.cells #[.slice P p cP, .slice Q q cQ] 55)
      rw [hw4]; simpa using this
    have KT : Blk w4 (w2.heap.size + 2) 55 [.slice P p cP, .slice Q q cQ] := by
      have := Blk.new' ((w2.alloc (.cells #[.slice A n cA, .slice B nB cB, .slice C nC cC, .slice D nD cD] 51)).alloc (.cells #[.slice E m cE] 52)) #[.slice P p cP, .slice Q q cQ] 55
      rw [hw4]; simpa [Nat.add_assoc] using this
    have SH := siteHead_iff.1 (stE_0 HV.out.symm).2.1
    have eB : nB = n := by have h1 := HNB.out; have h2 := HN.out; omega
    have eC : nC = n := by have h1 := HNC.out; have h2 := HN.out; omega
    have eD : nD = n := by have h1 := HND.out; have h2 := HN.out; omega
    have HB5 := Lib.hid (HB2.out.trans (HB4.mono HB2.out.size))
    have XR5 := Lib.hid (XR2.out.below HB4 XR2.out.lt)
    have HFM : Hid (FtM w2.heap.size (w2.heap.size + 2) (w2.heap.size + 1) S cs T A B C D E P Q n m p q cA cB cC cD cE cP cQ w4) := Lib.hid ⟨by rw [eB, eC, eD] at KS; exact KS, KT, KC, HS.out.below HB5.out (Nat.le_refl _), HT.out.below HB5.out (Nat.le_refl _), HCS.out.below HB5.out (Nat.le_refl _)⟩
    have HFH : Hid (FtH S cs T n m p q cA cB cC cD cE cP cQ) := Lib.hid ⟨HN.out, HM.out, HP.out, HQ.out, HV.out.symm, hA, by rw [← eB]; exact hB, by rw [← eC]; exact hC, by rw [← eD]; exact hD, hE, hP, hQ⟩
    have hz4 : w.heap.size ≤ w4.heap.size := HB5.out.size
    have hr4 : w.heap.size + 2 < w4.heap.size := XR5.out.lt
    clear hw4 HB4 KS KC KT SH eB eC eD s0 s1 s2 s3 t0 t1 HB2 XS2 XT2 XR2
    generalize w2.heap.size = g at *
    go_wp2_with fail
    have HOWN : Hid (OwnFrom w4.heap.size (fun (_ : Unit) V => Below w.heap.size w V ∧ Blk V (w.heap.size + 2) 29 [.int .i64 (plE S cs T)])) := Lib.hid (by
      rintro _ V V' row ⟨h1, h2⟩ hg hr
      exact ⟨h1.grown hg h1.size (fun r e => Nat.le_trans hz4 (hr r e).1), blk_kept h2 hg hr⟩)
    refine (wpIn_wide (n := 3)).1 (range_mine3 (F := Fence.wide) (n := 3) rfl (by omega) (gf := 104) (lb := #[.pointer (some ⟨g, 0, none⟩), .pointer (some ⟨g + 2, 0, none⟩), .pointer (some ⟨g + 1, 0, none⟩)]) rfl trivial (fun _ _ => by kernel_rfl)
      (encs := fun y : Int => #[.int .i64 y]) (fun _ => rfl)
      (fun pre V => pre = [] ∧ Below w4.heap.size w4 V) (fun pre V => ∃ x, pre = [x] ∧ Below w.heap.size w V ∧ Blk V (w.heap.size + 2) 29 [.int .i64 x]) .ret
      (fun ys => ys = [] ∧ plE S cs T = 0) (fun pre => pre = [plE S cs T]) (fun pre y => True)
      ?hI ?hIx ⟨rfl, Below.refl _ _⟩ ?hseq ?a1 ?assign ?body ?done ?stop)
    case hI =>
      rintro pre V V' row ⟨h1, h2⟩ hg hr
      exact ⟨h1, h2.grown hg h2.size (fun r e => (hr r e).1)⟩
    case hIx =>
      rintro pre V V' row ⟨x, h1, h2, h3⟩ hg hr
      exact ⟨x, h1, h2.grown hg h2.size (fun r e => Nat.le_trans hz4 (hr r e).1), blk_kept h3 hg hr⟩
    case hseq =>
      intro l2 J2 Jx2 V hJ2 hO2 hOx2 hz2 hY2 hj2
      refine (faults1_c g (g + 2) (g + 1) S cs T A B C D E P Q n m p q cA cB cC cD cE cP cQ l2 V.heap.size HFH.out (fun W => J2 [] W) (fun x W => Jx2 [x] W) (fun W h => HFM.out.below (hJ2 [] W h).2) (fun _ W W' row h => hO2 [] W W' row h) (fun x _ W W' row h => hOx2 [x] W W' row h)
        (fun x W1 h => (hY2 [] x W1 h trivial).mono (fun e W' h2 => ⟨h2.1, ?_⟩)) V (Nat.le_refl _) hj2).mono ?_
      · rcases h2.2 with ⟨rfl, h3⟩ | ⟨rfl, h3⟩
        · have := (hJ2 _ _ h3).1
          cases this
        · exact ⟨rfl, h3⟩
      · rintro e W' ⟨hv, ⟨h3, h4⟩ | ⟨h3, h4⟩⟩
        · exact ⟨hv, .inl ⟨_, ⟨rfl, h3⟩, h4⟩⟩
        · exact ⟨hv, .inr ⟨_, rfl, h4⟩⟩
    case assign =>
      intro l2 y V K hK
      gi_wp2
      exact hK
    case body =>
      rintro l2 pre y V hI _
      have HI := Lib.hid hI
      clear hI
      have XV := Lib.hid (XR5.out.below HI.out.2 hr4)
      have rf := XV.out.free 0
      have r0 := XV.out.cell 0 rfl
      gi_wp2
      refine (⟨rfl, (KeepsOthers.setCell _ _ _).from _, ?_⟩ : _ ∧ _ ∧ _)
      exact ⟨y, by rw [HI.out.1]; rfl, ((HB5.out.trans (HI.out.2.mono hz4)).setCell (p := ⟨w.heap.size + 2, 0, none⟩) (by simp) _), XV.out.setCell 0 (.int .i64 y)⟩
    case done =>
      rintro Dk ys V hD ⟨hys, h0⟩ hI hK
      have HI := Lib.hid hI
      have XV := Lib.hid (XR5.out.below HI.out.2 hr4)
      have rf := XV.out.free 0
      have r0 := XV.out.cell 0 rfl
      have EE : Hid (Below w.heap.size w (V.setCell ⟨w.heap.size + 2, 0, none⟩ (.int .i64 0)) ∧ Blk (V.setCell ⟨w.heap.size + 2, 0, none⟩ (.int .i64 0)) (w.heap.size + 2) 29 [.int .i64 (plE S cs T)]) := Lib.hid ⟨((HB5.out.trans (HI.out.2.mono hz4)).setCell (p := ⟨w.heap.size + 2, 0, none⟩) (by simp) _), by rw [h0]; exact XV.out.setCell 0 (.int .i64 0)⟩
      have HMK : Hid (Marks w4.heap.size [markOf Dk] (V.setCell ⟨w.heap.size + 2, 0, none⟩ (.int .i64 0))) := Lib.hid (Marks.cons (W0 := w4) (Marks.nil _ _) hD hD (Marks.nil _ _) ((Below.heap_setCell _ _ _ _ (by simp; omega)).trans hK))
      clear hI hK
      gi_wp2
      go_wp2_with fail
      refine leaves_marks (u := .returning) (by intro h; cases h) HOWN.out (fun V2 h2 => ?_) HMK.out EE.out
      have c0 := h2.2.cell 0 rfl
      exact ⟨.int .i64 (plE S cs T), by simp [results, Try.results32, go_sem, c0], rfl, h2.1⟩
    case stop =>
      rintro Dk pre V hD hS ⟨x, h1, h2, h3⟩ hK
      rw [hS] at h1
      cases h1
      have HMK : Hid (Marks w4.heap.size [markOf Dk] V) := Lib.hid (Marks.cons (W0 := w4) (Marks.nil _ _) hD hD (Marks.nil _ _) hK)
      have EE := Lib.hid (And.intro h2 h3)
      clear h2 h3 hK
      gi_wp2
      refine leaves_marks (u := .returning) (by intro h; cases h) HOWN.out (fun V2 h2 => ?_) HMK.out EE.out
      have c0 := h2.2.cell 0 rfl
      exact ⟨.int .i64 (plE S cs T), by simp [results, Try.results32, go_sem, c0], rfl, h2.1⟩
end Go.Proofs.Ytmebpglkeedaoaa
namespace Go.Proofs.Ytmebpglkeedaoaa
open Go.RowKit Go.Shelf Dp
attribute [local go_sem] Oper.semAt_some
theorem info22 : (Try.prog.info? 22).map (fun i => (i.zero, i.size, i.bytes)) = some (some (.slice none 0 0), 1, 24) := by kernel_rfl
def lvN (c : Car) (x y : List Int) (k : Nat) : List Int := (List.range k).map (fun j => lev c x y j)
theorem lvN_len (c : Car) (x y : List Int) (k : Nat) : (lvN c x y k).length = k := by simp [lvN]
def RowsO (D : Nat) (w : World) (i n : Nat) (vs : List Value) (cs : List Car) (T : Tab) : Prop :=
  ∀ x, x < i → ∃ v, vs[x]? = some v ∧ w.ownsRow D 2 1 v (n + 1) ((lvN (cs.getD x default) (T.inn.getD x []) (T.out.getD x []) (n + 1)).map (.int .i64))
theorem ownV_below {w w' : World} {B e z n : Nat} {v : Value} {xs : List Value} (h : w.ownsRow B e z v n xs) (hb : Below w.heap.size w w') : w'.ownsRow B e z v n xs := by
  refine ⟨h.1, ?_⟩
  rcases h.2 with h2 | ⟨k, c, cur, hv, hb', hg, r⟩
  · exact .inl h2
  · exact .inr ⟨k, c, cur, hv, hb', (hb.block k (Array.getElem?_eq_some_iff.1 hg).1).trans hg, r⟩
theorem ownV_other {w w' : World} {B B' e e' z z' n n' : Nat} {v v' : Value} {xs xs' : List Value} (h : w.ownsRow B e z v n xs) (h' : w.ownsRow B' e' z' v' n' xs') (hne : e ≠ e') (hg : w.grownBy w' v'.ownBlock) : w'.ownsRow B e z v n xs := by
  refine ⟨h.1, ?_⟩
  rcases h.2 with h2 | ⟨k, c, cur, hv, hb', hgk, r⟩
  · exact .inl h2
  · refine .inr ⟨k, c, cur, hv, hb', (hg.block k (Array.getElem?_eq_some_iff.1 hgk).1 (fun ek => ?_)).trans hgk, r⟩
    rcases h'.2 with ⟨h2, _⟩ | ⟨k', c', cur', hv', _, hgk', _⟩
    · rw [h2] at ek; cases ek
    · rw [hv'] at ek
      simp only [Value.ownBlock, Option.some.injEq] at ek
      subst ek
      rw [hgk] at hgk'
      cases hgk'
      exact hne rfl
theorem ownV_mono {w : World} {B B' e z n : Nat} {v : Value} {xs : List Value} (h : w.ownsRow B e z v n xs) (hb : B' ≤ B) : w.ownsRow B' e z v n xs := ⟨h.1, h.2.imp id (fun ⟨k, c, cur, hv, hb', r⟩ => ⟨k, c, cur, hv, Nat.le_trans hb hb', r⟩)⟩
end Go.Proofs.Ytmebpglkeedaoaa
namespace Go.Proofs.Ytmebpglkeedaoaa
open Go.RowKit Go.Shelf Dp
attribute [local go_sem] Oper.semAt_some
def LevP (S : Site) (cs : List Car) (T : Tab) (n m : Nat) (w : World) : Ending → World → Prop := fun e w' =>
  Below w.heap.size w w' ∧ ((plE S cs T = 0 ∧ ∃ v vs, e = .returned (.tuple #[v, .int .i64 0]) ∧ w'.ownsRow w.heap.size 22 1 v m vs ∧ RowsO w.heap.size w' m n vs cs T) ∨ (plE S cs T ≠ 0 ∧ e = .returned (.tuple #[.slice none 0 0, .int .i64 (plE S cs T)])))
end Go.Proofs.Ytmebpglkeedaoaa
namespace Go.Proofs.Ytmebpglkeedaoaa
open Go.RowKit Dp
def lvR (cs : List Car) (T : Tab) (n m : Nat) : List (List Int) := (List.range m).map (fun i => lvN (cs.getD i default) (T.inn.getD i []) (T.out.getD i []) (n + 1))
theorem lvR_len (cs : List Car) (T : Tab) (n m : Nat) : (lvR cs T n m).length = m := by simp [lvR]
theorem lvR_get {cs : List Car} {T : Tab} {n m i : Nat} (h : i < m) : (lvR cs T n m).getD i [] = lvN (cs.getD i default) (T.inn.getD i []) (T.out.getD i []) (n + 1) := by
  simp [lvR, List.getD_eq_getElem?_getD, h]
theorem ownV_ints {W : World} {D n : Nat} {v : Value} {xs : List Int} (h : W.ownsRow D 2 1 v n (xs.map (.int .i64))) (hl : xs.length = n) (hn : 0 < n) : ∃ g c, v = .slice (some ⟨g, 0, none⟩) n c ∧ n ≤ c ∧ c ≤ 9223372036854775807 ∧ IntsAt W (some ⟨g, 0, none⟩) xs := by
  rcases h.2 with ⟨_, h2⟩ | ⟨g, c, cur, hv, hb, hg, hnc, hcm, _⟩
  · omega
  · subst hv
    refine ⟨g, c, rfl, hnc, by unfold maxLen at hcm; omega, fun i hi => ⟨_, rfl, (Array.getElem?_eq_some_iff.1 hg).1, ?_⟩⟩
    have e : (⟨g, 0, none⟩ : Addr).add i = ⟨g, i, none⟩ := by unfold Addr.add; split <;> simp_all
    rw [e, World.ownsRow.cellAt h i (by omega), List.getElem?_map, List.getElem?_eq_getElem hi, List.getD_eq_getElem?_getD, List.getElem?_eq_getElem hi]
    rfl
theorem rows_at {W : World} {D n m : Nat} {cs : List Car} {T : Tab} {v : Value} {vs : List Value} (h : W.ownsRow D 22 1 v m vs) (hr : RowsO D W m n vs cs T) :
    ∃ A c, v = .slice A m c ∧ m ≤ c ∧ c ≤ 9223372036854775807 ∧ RowsAt W A (lvR cs T n m) := by
  rcases h.2 with ⟨h1, h2⟩ | ⟨g, c, cur, hv, hb, hg, hnc, hcm, _⟩
  · subst h2
    exact ⟨none, 0, h1, Nat.le_refl _, by omega, fun i hi => by rw [lvR_len] at hi; omega⟩
  · subst hv
    refine ⟨_, c, rfl, hnc, by unfold maxLen at hcm; omega, fun i hi => ?_⟩
    rw [lvR_len] at hi
    obtain ⟨u, h1, h2⟩ := hr i hi
    obtain ⟨g', c', rfl, h3, h4, h5⟩ := ownV_ints h2 (lvN_len _ _ _ _) (by omega)
    rw [lvR_get hi]
    have e : (⟨g, 0, none⟩ : Addr).add i = ⟨g, i, none⟩ := by unfold Addr.add; split <;> simp_all
    refine ⟨_, rfl, (Array.getElem?_eq_some_iff.1 hg).1, some ⟨g', 0, none⟩, c', ?_, by rw [lvN_len]; exact ⟨h3, h4⟩, h5⟩
    rw [e, World.ownsRow.cellAt h i (by omega), h1, lvN_len]
end Go.Proofs.Ytmebpglkeedaoaa
namespace Go.Proofs.Ytmebpglkeedaoaa
open Go.RowKit Dp
end Go.Proofs.Ytmebpglkeedaoaa
namespace Go.Proofs.Ytmebpglkeedaoaa
open Go.RowKit Dp
theorem blk_own_ne {W : World} {g t B e z n cap : Nat} {cs xs : List Value} {A : Option Addr} (hb : Blk W g t cs) (h : W.ownsRow B e z (.slice A n cap) n xs) (hne : t ≠ e) : some g ≠ (Value.slice A n cap).ownBlock := by
  intro hk
  rcases h.2 with ⟨h0, _⟩ | ⟨g', cap', cur, hv, _, hg, _⟩
  · rw [h0] at hk; cases hk
  · rw [hv] at hk
    simp only [Value.ownBlock, Option.some.injEq] at hk
    subst hk
    unfold Blk at hb
    rw [hg] at hb
    simp only [Option.some.injEq, Obj.cells.injEq] at hb
    exact hne hb.2.1.symm
theorem own_blk_no {W : World} {g t B e z n cap : Nat} {cs xs : List Value} {A : Option Addr} (hb : Blk W g t cs) (h : W.ownsRow B e z (.slice A n cap) n xs) (hne : t ≠ e) : ¬ OwnB A g := fun hk => blk_own_ne hb h hne (ownB_iff.1 hk).symm
def RowF (W : World) (n G : Nat) (v : Value) (xs : List Int) : Prop := ∃ g, v = .slice (some ⟨g, 0, none⟩) n n ∧ g < G ∧ Fl 3 W g xs ∧ xs.length = n
def RowsF (W : World) (n G : Nat) (vs : List Value) (R : Nat → List Int) (i : Nat) : Prop := ∀ x, x < i → ∃ v, vs[x]? = some v ∧ RowF W n G v (R x)
section
variable {W V : World} {n G i : Nat} {vs : List Value} {R : Nat → List Int}
theorem RowsF.of (h : RowsF W n G vs R i) (f : ∀ g xs, g < G → Fl 3 W g xs → Fl 3 V g xs) : RowsF V n G vs R i := fun x hx => by
  obtain ⟨v, h1, g, h2, h3, h4, h5⟩ := h x hx
  exact ⟨v, h1, g, h2, h3, f g _ h3 h4, h5⟩
theorem RowsF.below (h : RowsF W n G vs R i) (hb : Below W.heap.size W V) : RowsF V n G vs R i := h.of fun g xs _ hf => hf.below hb
theorem RowsF.grown {B e z m cap : Nat} {A : Option Addr} {xs : List Value} (h : RowsF W n G vs R i) (ho : W.ownsRow B e z (.slice A m cap) m xs) (hne : 3 ≠ e) (hg : W.grownBy V (Value.slice A m cap).ownBlock) : RowsF V n G vs R i := h.of fun g xs _ hf => Blk.grown hf hg (blk_own_ne hf ho hne)
theorem RowsF.set (h : RowsF W n G vs R i) {p : Addr} {t : TypeId} {cs : List Value} (hb : Blk W p.block t cs) (hn : t ≠ 3 ∨ G ≤ p.block) (u : Value) : RowsF (W.setCell p u) n G vs R i := h.of fun g xs hlt hf => Blk.setCell_ne hf (fun e => by
  rcases hn with hn | hn
  · subst e; exact blk_type_ne hb hf hn rfl
  · omega) u
theorem RowsF.up {G' : Nat} (h : RowsF W n G vs R i) (hG : G ≤ G') : RowsF W n G' vs R i := fun x hx => by
  obtain ⟨v, h1, g, h2, h3, h4⟩ := h x hx
  exact ⟨v, h1, g, h2, by omega, h4⟩
theorem RowsF.add {g : Nat} (h : RowsF W n G vs R i) (hl : vs.length = i) (hf : Fl 3 W g (R i)) (hR : (R i).length = n) (hg : g < G) : RowsF W n G (vs ++ [.slice (some ⟨g, 0, none⟩) n n]) R (i + 1) := fun x hx => by
  by_cases e : x = i
  · subst e
    exact ⟨_, by rw [List.getElem?_append_right (by omega)]; simp [hl], g, rfl, hg, hf, hR⟩
  · obtain ⟨u, e1, e2⟩ := h x (by omega)
    exact ⟨u, by rw [List.getElem?_append_left (by omega)]; exact e1, e2⟩
end
structure BdJ (w : World) (gs gb : Nat) (A : Option Addr) (cap : Nat) (AI AO : Option Addr) (ci co i : Nat) (vi vo : List Value) (sup : List Int) (arcs : List Arc) (W : World) : Prop where
  b : Blk W gb 125 [.slice (some ⟨gs, 0, none⟩) sup.length sup.length, .slice A arcs.length cap, .slice AI i ci, .slice AO i co]
  s : Fl 2 W gs sup
  own : W.ownsRow w.heap.size 46 4 (.slice A arcs.length cap) arcs.length (flat arcV arcs)
  oi : W.ownsRow w.heap.size 26 1 (.slice AI i ci) i vi
  oo : W.ownsRow w.heap.size 26 1 (.slice AO i co) i vo
  dis : ∀ k, OwnB AI k → ¬ OwnB AO k
  lt : w.heap.size ≤ gs ∧ w.heap.size ≤ gb
  bel : Below w.heap.size w W
section
variable {w W V : World} {gs gb cap cap2 ci co i : Nat} {A A2 AI AO : Option Addr} {vi vo : List Value} {sup : List Int} {arcs arcs2 : List Arc}
theorem BdJ.below (h : BdJ w gs gb A cap AI AO ci co i vi vo sup arcs W) (hb : Below W.heap.size W V) : BdJ w gs gb A cap AI AO ci co i vi vo sup arcs V :=
  ⟨h.b.below hb h.b.lt, h.s.below hb, ownBelow h.own hb, ownBelow h.oi hb, ownBelow h.oo hb, h.dis, h.lt, h.bel.trans (hb.mono h.bel.size)⟩
theorem BdJ.other (h : BdJ w gs gb A cap AI AO ci co i vi vo sup arcs W) {p : Addr} {cs : List Value} (hb : Blk W p.block 3 cs) (hp : w.heap.size ≤ p.block) (u : Value) : BdJ w gs gb A cap AI AO ci co i vi vo sup arcs (W.setCell p u) :=
  ⟨h.b.setCell_ne (fun e => by have := h.b; rw [e] at this; exact blk_type_ne hb this (by decide) rfl) u, h.s.set_ne (fun e => by have := h.s; rw [e] at this; exact blk_type_ne hb this (by decide) rfl) u,
    ownSet h.own (own_blk_no hb h.own (by decide)) u, ownSet h.oi (own_blk_no hb h.oi (by decide)) u, ownSet h.oo (own_blk_no hb h.oo (by decide)) u, h.dis, h.lt, h.bel.setCell hp u⟩
theorem BdJ.set (h : BdJ w gs gb A cap AI AO ci co i vi vo sup arcs W) (k : Nat) (v : Int) : BdJ w gs gb A cap AI AO ci co i vi vo (sup.set k v) arcs (W.setCell ⟨gs, k, none⟩ (.int .i64 v)) :=
  ⟨by rw [List.length_set]; exact h.b.setCell_ne (fun e => blk_type_ne h.b h.s (by decide) e.symm) _, h.s.put k v,
    ownSet h.own (own_blk_no (g := gs) h.s h.own (by decide)) _, ownSet h.oi (own_blk_no (g := gs) h.s h.oi (by decide)) _, ownSet h.oo (own_blk_no (g := gs) h.s h.oo (by decide)) _, h.dis, h.lt, h.bel.setCell (by simp; exact h.lt.1) _⟩
theorem grow_own {B B' e e' z z' n n' c c' : Nat} {A A' : Option Addr} {xs xs' : List Value} (h : W.ownsRow B e z (.slice A n c) n xs) (h' : W.ownsRow B' e' z' (.slice A' n' c') n' xs') (hne : ∀ k, OwnB A k → ¬ OwnB A' k) (hg : W.grownBy V (Value.slice A' n' c').ownBlock) : V.ownsRow B e z (.slice A n c) n xs := by
  refine ⟨h.1, ?_⟩
  rcases h.2 with h2 | ⟨k, c1, cur, hv, hb, hgk, r⟩
  · exact .inl h2
  · refine .inr ⟨k, c1, cur, hv, hb, (hg.block k (Array.getElem?_eq_some_iff.1 hgk).1 (fun ek => ?_)).trans hgk, r⟩
    exact hne k ((ownB_iff (n := n) (cap := c)).2 (by rw [hv]; rfl)) (ownB_iff.2 ek.symm)
theorem own_type {B B' e e' z z' n n' c c' : Nat} {A A' : Option Addr} {xs xs' : List Value} (h : W.ownsRow B e z (.slice A n c) n xs) (h' : W.ownsRow B' e' z' (.slice A' n' c') n' xs') (hne : e ≠ e') : ∀ k, OwnB A k → ¬ OwnB A' k := by
  intro k h1 h2
  have k1 := ownB_iff (n := n) (cap := c) |>.1 h1
  have k2 := ownB_iff (n := n') (cap := c') |>.1 h2
  rcases h.2 with ⟨h0, _⟩ | ⟨g, c1, cur, hv, _, hg, _⟩
  · rw [h0] at k1; cases k1
  · rcases h'.2 with ⟨h0, _⟩ | ⟨g', c1', cur', hv', _, hg', _⟩
    · rw [h0] at k2; cases k2
    · rw [hv] at k1; rw [hv'] at k2
      simp only [Value.ownBlock, Option.some.injEq] at k1 k2
      subst k1; subst k2
      rw [hg] at hg'
      simp only [Option.some.injEq, Obj.cells.injEq] at hg'
      exact hne hg'.2.1
theorem BdJ.push (h : BdJ w gs gb A cap AI AO ci co i vi vo sup arcs W) (hg : W.grownBy V (Value.slice A arcs.length cap).ownBlock)
    (ho : V.ownsRow w.heap.size 46 4 (.slice A2 arcs2.length cap2) arcs2.length (flat arcV arcs2)) : BdJ w gs gb A2 cap2 AI AO ci co i vi vo sup arcs2 (V.setCell ⟨gb, 1, none⟩ (.slice A2 arcs2.length cap2)) := by
  have b1 := h.b.grown hg (blk_own_ne h.b h.own (by decide))
  have s1 : Fl 2 V gs sup := Blk.grown h.s hg (blk_own_ne h.s h.own (by decide))
  have i1 := grow_own h.oi h.own (own_type h.oi h.own (by decide)) hg
  have o1 := grow_own h.oo h.own (own_type h.oo h.own (by decide)) hg
  have bel1 : Below w.heap.size w V := h.bel.grown hg h.bel.size (fun k e => (World.ownsRow.lt h.own k e).1)
  refine ⟨b1.setCell 1 _, s1.set_ne (fun e => blk_type_ne b1 s1 (by decide) e) _, ownSet ho (own_blk_no (g := gb) b1 ho (by decide)) _, ownSet i1 (own_blk_no (g := gb) b1 i1 (by decide)) _, ownSet o1 (own_blk_no (g := gb) b1 o1 (by decide)) _, h.dis, h.lt, bel1.setCell (by simp; exact h.lt.2) _⟩
end
structure BkJ (w : World) (n G i gs gb gi go gc : Nat) (AI AO : Option Addr) (ci co : Nat) (vi vo : List Value) (RI RO : Nat → List Int) (cv : List Value) (A : Option Addr) (cap : Nat) (sup : List Int) (arcs : List Arc) (ri ro : List Int) (W : World) : Prop where
  d : BdJ w gs gb A cap AI AO ci co i vi vo sup arcs W
  fi : Fl 3 W gi ri
  fo : Fl 3 W go ro
  ne : gi ≠ go
  ge : (G ≤ gi ∧ G ≤ go) ∧ (w.heap.size ≤ gi ∧ w.heap.size ≤ go)
  ri : RowsF W n G vi RI i
  ro : RowsF W n G vo RO i
  car : Blk W gc 63 cv
section
variable {w W V : World} {n G i gs gb gi go gc ci co cap cap2 : Nat} {A A2 AI AO : Option Addr} {vi vo cv : List Value} {RI RO : Nat → List Int} {sup : List Int} {arcs arcs2 : List Arc} {ri ro : List Int}
theorem BkJ.below (h : BkJ w n G i gs gb gi go gc AI AO ci co vi vo RI RO cv A cap sup arcs ri ro W) (hb : Below W.heap.size W V) : BkJ w n G i gs gb gi go gc AI AO ci co vi vo RI RO cv A cap sup arcs ri ro V :=
  ⟨h.d.below hb, h.fi.below hb, h.fo.below hb, h.ne, h.ge, h.ri.below hb, h.ro.below hb, h.car.below hb h.car.lt⟩
theorem BkJ.alloc (h : BkJ w n G i gs gb gi go gc AI AO ci co vi vo RI RO cv A cap sup arcs ri ro W) (o : Obj) : BkJ w n G i gs gb gi go gc AI AO ci co vi vo RI RO cv A cap sup arcs ri ro (W.alloc o) := h.below ((Below.refl _ _).alloc (Nat.le_refl _) o)
theorem BkJ.push (h : BkJ w n G i gs gb gi go gc AI AO ci co vi vo RI RO cv A cap sup arcs ri ro W) (hg : W.grownBy V (Value.slice A arcs.length cap).ownBlock)
    (ho : V.ownsRow w.heap.size 46 4 (.slice A2 arcs2.length cap2) arcs2.length (flat arcV arcs2)) : BkJ w n G i gs gb gi go gc AI AO ci co vi vo RI RO cv A2 cap2 sup arcs2 ri ro (V.setCell ⟨gb, 1, none⟩ (.slice A2 arcs2.length cap2)) := by
  have b1 := h.d.b.grown hg (blk_own_ne h.d.b h.d.own (by decide))
  have f1 : Fl 3 V gi ri := Blk.grown h.fi hg (blk_own_ne h.fi h.d.own (by decide))
  have f2 : Fl 3 V go ro := Blk.grown h.fo hg (blk_own_ne h.fo h.d.own (by decide))
  have c1 : Blk V gc 63 cv := Blk.grown h.car hg (blk_own_ne h.car h.d.own (by decide))
  exact ⟨h.d.push hg ho, f1.set_ne (fun e => blk_type_ne b1 f1 (by decide) e) _, f2.set_ne (fun e => blk_type_ne b1 f2 (by decide) e) _, h.ne, h.ge,
    (h.ri.grown h.d.own (by decide) hg).set (p := ⟨gb, 1, none⟩) b1 (.inl (by decide)) _, (h.ro.grown h.d.own (by decide) hg).set (p := ⟨gb, 1, none⟩) b1 (.inl (by decide)) _, c1.setCell_ne (fun e => blk_type_ne b1 c1 (by decide) e) _⟩
theorem BkJ.set (h : BkJ w n G i gs gb gi go gc AI AO ci co vi vo RI RO cv A cap sup arcs ri ro W) (k : Nat) (v : Int) : BkJ w n G i gs gb gi go gc AI AO ci co vi vo RI RO cv A cap (sup.set k v) arcs ri ro (W.setCell ⟨gs, k, none⟩ (.int .i64 v)) :=
  ⟨h.d.set k v, h.fi.set_ne (fun e => blk_type_ne h.d.s h.fi (by decide) e) _, h.fo.set_ne (fun e => blk_type_ne h.d.s h.fo (by decide) e) _, h.ne, h.ge, h.ri.set (p := ⟨gs, k, none⟩) h.d.s (.inl (by decide)) _, h.ro.set (p := ⟨gs, k, none⟩) h.d.s (.inl (by decide)) _, h.car.setCell_ne (fun e => blk_type_ne h.d.s h.car (by decide) e) _⟩
theorem BkJ.seti (h : BkJ w n G i gs gb gi go gc AI AO ci co vi vo RI RO cv A cap sup arcs ri ro W) (k : Nat) (v : Int) : BkJ w n G i gs gb gi go gc AI AO ci co vi vo RI RO cv A cap sup arcs (ri.set k v) ro (W.setCell ⟨gi, k, none⟩ (.int .i64 v)) :=
  ⟨h.d.other (p := ⟨gi, k, none⟩) h.fi h.ge.2.1 _, h.fi.put k v, h.fo.set_ne (fun e => h.ne e.symm) _, h.ne, h.ge, h.ri.set (p := ⟨gi, k, none⟩) h.fi (.inr h.ge.1.1) _, h.ro.set (p := ⟨gi, k, none⟩) h.fi (.inr h.ge.1.1) _, h.car.setCell_ne (fun e => blk_type_ne h.fi h.car (by decide) e) _⟩
theorem BkJ.seto (h : BkJ w n G i gs gb gi go gc AI AO ci co vi vo RI RO cv A cap sup arcs ri ro W) (k : Nat) (v : Int) : BkJ w n G i gs gb gi go gc AI AO ci co vi vo RI RO cv A cap sup arcs ri (ro.set k v) (W.setCell ⟨go, k, none⟩ (.int .i64 v)) :=
  ⟨h.d.other (p := ⟨go, k, none⟩) h.fo h.ge.2.2 _, h.fi.set_ne (fun e => h.ne e) _, h.fo.put k v, h.ne, h.ge, h.ri.set (p := ⟨go, k, none⟩) h.fo (.inr h.ge.1.2) _, h.ro.set (p := ⟨go, k, none⟩) h.fo (.inr h.ge.1.2) _, h.car.setCell_ne (fun e => blk_type_ne h.fo h.car (by decide) e) _⟩
end
set_option maxHeartbeats 2000000 in
set_option maxRecDepth 100000 in
theorem addG_c (W : World) (gb n cap B m c : Nat) (A Bo : Option Addr) (v0 v2 v3 : Value) (arcs news : List Arc) (hn : n = arcs.length) (hm : m = news.length) (hnm : n + m ≤ 4096) (hb : Blk W gb 125 [v0, .slice A n cap, v2, v3]) (ho : W.ownsRow B 46 4 (.slice A n cap) n (flat arcV arcs)) (hs : SrcRow W Bo m (flat arcV news)) (hB : B ≤ W.heap.size) :
    Calls Try.prog 108 #[.pointer (some ⟨gb, 0, none⟩), .slice Bo m c] W fun e W' => ∃ A2 cap2 V, e = .returned (.int .i64 n) ∧ W' = V.setCell ⟨gb, 1, none⟩ (.slice A2 (n + m) cap2) ∧ W.grownBy V (Value.slice A n cap).ownBlock ∧ V.ownsRow B 46 4 (.slice A2 (n + m) cap2) (n + m) (flat arcV (arcs ++ news)) := by
  have X := Lib.hid hb
  have HO := Lib.hid ho
  have HS := Lib.hid hs
  have HN := Lib.hid hn
  have HM := Lib.hid hm
  have FL := Lib.hid (flat_length (f := arcV) (s := 4) (fun _ => rfl) news)
  clear hb ho hs hn hm
  obtain ⟨i3, h3i, h3z, h3s, h3b⟩ := info_parts info46
  have y0 := X.out.cell 1 rfl
  have wnm : IntKind.i64.wrap ((n : Int) + (m : Int) - (m : Int)) = (n : Int) := by rw [show (n : Int) + (m : Int) - (m : Int) = n by omega]; exact IntWalk.i64_in _ (by omega)
  go_enter Try.func108, Try.ntmps108
  go_wp2_with (at_builtin; refine wpList_append_any (.tmp 10) (.tmp 11) 23 rfl rfl B 46 i3 (.agg #[.int .i64 0, .int .i64 0, .int .i64 0, .int .i64 0]) 4 32 Try.underlying23 h3i h3z h3s h3b rfl (by decide) A n cap (flat arcV arcs) (by rfl) HO.out Bo m c (flat arcV news) (by rfl) (by rw [FL.out, HM.out]) HS.out (by intro u hu; obtain ⟨a, _, ha⟩ := List.mem_flatMap.1 hu; simp [arcV] at ha; rcases ha with rfl | rfl | rfl | rfl <;> rfl) (by unfold maxLen; omega) (by omega) hB ?_; intro A2 c2 v hown hgrow hat; have HO2 := Lib.hid hown; have HG2 := Lib.hid hgrow; have MM := X.out.grown hgrow (blk_own_ne X.out HO.out (by decide)); clear y0; have y0 := MM.cell 1 rfl; have q0 := MM.free 1; have ML := MM.lt; have XX := Lib.hid (MM.setCell 1 (.slice A2 (n + m) c2)); clear MM hown hgrow hat)
  go_upto_region 2 with fail
  have HW : Hid (v.setCell ⟨gb, 1, none⟩ (.slice A2 (n + m) c2) = v.setCell ⟨gb, 1, none⟩ (.slice A2 (n + m) c2)) := Lib.hid rfl
  generalize hv1 : v.setCell ⟨gb, 1, none⟩ (.slice A2 (n + m) c2) = v1 at XX ⊢
  have HV1 := Lib.hid hv1
  clear y0 q0 hv1 HW
  have y0 := XX.out.cell 1 rfl
  go_wp2_with fail
  exact bodyPost_ret (v := .int .i64 n) (by simp [results, Try.results108, go_sem]) rfl ⟨A2, c2, v, rfl, HV1.out.symm, HG2.out, by rw [flat_append]; exact HO2.out⟩
end Go.Proofs.Ytmebpglkeedaoaa
namespace Go.Proofs.Ytmebpglkeedaoaa
open Go.RowKit Dp
end Go.Proofs.Ytmebpglkeedaoaa
namespace Go.Proofs.Ytmebpglkeedaoaa
open Go.RowKit Dp
set_option maxHeartbeats 4000000 in
set_option maxRecDepth 100000 in
theorem price_c (A B C D P Q : Option Addr) (S : Site) (T : Tab) (n nB nC nD m mo cA cB cC cD cP cQ : Nat) (w : World) (hn : n = S.lim.length) (hnC : n = S.buy.length) (hnD : n = S.sell.length) (hm : m = T.inn.length) (hmo : mo = T.out.length) (hmm : m ≤ mo) (h8 : m ≤ 8) (h48 : n ≤ 48) (hC1 : nC = n) (hD1 : nD = n)
    (hP : m ≤ cP ∧ cP ≤ 9223372036854775807) (hQ : mo ≤ cQ ∧ cQ ≤ 9223372036854775807) (hS : SiteAt w A B C D S) (hT : TabAt w P Q T) (hB : ∀ k, k < n → slotOk S k = true ∧ SlotBd T k m) :
    Calls Try.prog 81 #[.agg #[.slice A nD cA, .slice B nB cB, .slice C nD cC, .slice D nD cD], .agg #[.slice P m cP, .slice Q mo cQ]] w fun e w' => e = .returned (.int .i64 (prc S T m n)) ∧ Below w.heap.size w w' := by
  subst hC1
  subst hD1
  have HN := Lib.hid hn
  have HC := Lib.hid hnC
  have HD := Lib.hid hnD
  have HM := Lib.hid hm
  have HMO := Lib.hid hmo
  have HS := Lib.hid hS
  have HT := Lib.hid hT
  have HBD := Lib.hid hB
  have F89 : Hid (∀ k V, k < nD → Below w.heap.size w V → Calls Try.prog 89 #[.agg #[.slice P m cP, .slice Q mo cQ], .int .i64 k] V fun e w' => e = .returned (.int .i64 (drP T k m)) ∧ Below V.heap.size V w') := Lib.hid (fun k V hk hV => drawn_c P Q T m mo cP cQ k V hm hmo hmm h8 hP hQ (hT.below hV (Nat.le_refl _)) (hB k hk).2)
  have HPB := Lib.hid (fun k (hk : k ≤ nD) => prc_bd (S := S) (T := T) h8 k (fun j hj => hB j (by omega)))
  have HQB := Lib.hid (fun k (hk : k < nD) => prQ_bd (hB k hk).1 (hB k hk).2 h8)
  clear hn hnC hnD hm hmo hS hT hB
  have HB := Lib.hid (((Below.refl w.heap.size w).alloc (Nat.le_refl _) (.cells #[.slice A nD cA, .slice B nB cB, .slice C nD cC, .slice D nD cD] 51)).alloc (by simp) (.cells #[.slice P m cP, .slice Q mo cQ] 55))
  have XS := Lib.hid ((Blk.new' w #[.slice A nD cA, .slice B nB cB, .slice C nD cC, .slice D nD cD] 51).alloc (.cells #[.slice P m cP, .slice Q mo cQ] 55))
  have XT := Lib.hid (show Blk ((w.alloc (.cells #[.slice A nD cA, .slice B nB cB, .slice C nD cC, .slice D nD cD] 51)).alloc (.cells #[.slice P m cP, .slice Q mo cQ] 55)) (w.heap.size + 1) 55 [.slice P m cP, .slice Q mo cQ] from by simpa using Blk.new' (w.alloc (.cells #[.slice A nD cA, .slice B nB cB, .slice C nD cC, .slice D nD cD] 51)) #[.slice P m cP, .slice Q mo cQ] 55)
  go_enter Try.func81, Try.ntmps81
  go_upto_region 1 with fail
  generalize (w.alloc (.cells #[.slice A nD cA, .slice B nB cB, .slice C nD cC, .slice D nD cD] 51)).alloc (.cells #[.slice P m cP, .slice Q mo cQ] 55) = w1 at HB XS XT ⊢
  have s0 := XS.out.cell 0 rfl
  go_wp2_with fail
  clear s0
  go_loopw [4, 5, 6, 10] (fun sv _ _ iv wr => ∃ j : Nat, j ≤ nD ∧ iv = .int .i64 j ∧ sv = .int .i64 (prc S T m j) ∧ Hid (Below w1.heap.size w1 wr)) (fun _ _ _ iv _ => nD - (intOf iv).toNat)
  case atStart => exact ⟨0, Nat.zero_le _, rfl, rfl, Lib.hid (Below.refl _ _)⟩
  case round =>
    obtain ⟨j, hj, rfl, rfl, HW⟩ := hrel
    have HX := Lib.hid (HB.out.trans (HW.out.mono HB.out.size))
    by_cases hlt : j < nD
    · have hji : (j : Int) < (nD : Int) := by omega
      have XTW := XT.out.below HW.out XT.out.lt
      have t0 := XTW.cell 0 rfl
      have t1 := XTW.cell 1 rfl
      have tl := XTW.lt
      clear XTW
      have HF := F89.out j wr hlt HX.out
      have HPV := HPB.out j hj
      have HQV := HQB.out j hlt
      have HST : Hid (prc S T m (j + 1) = prc S T m j + prQ S T m j) := Lib.hid rfl
      have HQD : Hid (prQ S T m j = max 0 (drP T j m) * S.buy.getD j 0 + min 0 (drP T j m) * S.sell.getD j 0) := Lib.hid rfl
      have HDD := Lib.hid (fun V (hV : Below w.heap.size w V) => (⟨(HS.out.below hV (Nat.le_refl _)).2.2.1 j (by rw [← HC.out]; exact hlt), (HS.out.below hV (Nat.le_refl _)).2.2.2 j (by rw [← HD.out]; exact hlt)⟩ : _ ∧ _))
      generalize S.buy.getD j 0 = by1 at *
      generalize S.sell.getD j 0 = se at *
      generalize drP T j m = d at *
      go_wp2_with fail
      refine HF.mono ?_
      rintro e w2 ⟨rfl, hb⟩
      have HW2 := Lib.hid (HW.out.trans (hb.mono HW.out.size))
      have HX2 := Lib.hid (HB.out.trans (HW2.out.mono HB.out.size))
      clear hb HF HX HW t0 t1 tl
      have XSW := XS.out.below HW2.out XS.out.lt
      have s2 := XSW.cell 2 rfl
      have s3 := XSW.cell 3 rfl
      have sl := XSW.lt
      clear XSW
      obtain ⟨⟨ba, hba, bal, bx⟩, sa, hsa, sal, sx⟩ := HDD.out w2 HX2.out
      rw [hba] at s2
      rw [hsa] at s3
      have ba2 : (ba.add j).block < w2.heap.size := by rw [block_add]; exact bal
      have sa2 : (sa.add j).block < w2.heap.size := by rw [block_add]; exact sal
      clear hba hsa HDD
      generalize prc S T m j = pv at *
      have hm1 := fun ts t W => maxTwo 0 d ts t W
      have hm2 := fun ts t W => minTwo 0 d ts t W
      generalize max 0 d = dx at *
      generalize min 0 d = dn at *
      obtain ⟨q1, hq1⟩ : ∃ q1, q1 = dx * by1 := ⟨_, rfl⟩
      obtain ⟨q2, hq2⟩ : ∃ q2, q2 = dn * se := ⟨_, rfl⟩
      rw [← hq1, ← hq2] at HQV
      have w1e : IntKind.i64.wrap (dx * by1) = q1 := by rw [← hq1]; exact IntWalk.i64_in _ (by omega)
      have w2e : IntKind.i64.wrap (dn * se) = q2 := by rw [← hq2]; exact IntWalk.i64_in _ (by omega)
      have w3e : IntKind.i64.wrap (q1 + q2) = q1 + q2 := IntWalk.i64_in _ (by omega)
      have w4e : IntKind.i64.wrap (pv + (q1 + q2)) = pv + (q1 + q2) := IntWalk.i64_in _ (by omega)
      have HE : Hid (prc S T m (j + 1) = pv + (q1 + q2)) := Lib.hid (by rw [HST.out, HQD.out, hq1, hq2])
      clear hq1 hq2 HPV HQV HQD HST
      go_upto_region 5 with fail
      refine wp_region_past (by kernel_rfl) (by kernel_rfl) ?_
      repeat (go_big_quiet_step (fail))
      refine wpQuiet_nil ?_
      intro xx
      have HY := Lib.hid (HW2.out.trans (xx.far.mono HW2.out.size))
      generalize xx.w = w3 at HY ⊢
      clear s2 s3 sl bal sal bx sx ba2 sa2 w1e w2e w3e w4e hm1 hm2
      go_wp2_with fail
      exact ⟨⟨j + 1, by omega, by go_num, by rw [HE.out], HY⟩, by simp [intOf]; omega⟩
    · obtain rfl : j = nD := by omega
      go_wp2_with fail
      go_ret
      exact ⟨rfl, HX.out⟩
end Go.Proofs.Ytmebpglkeedaoaa
namespace Go.Proofs.Ytmebpglkeedaoaa
open Go.RowKit Dp
end Go.Proofs.Ytmebpglkeedaoaa
namespace Go.Proofs.Ytmebpglkeedaoaa
open Go.RowKit Dp
end Go.Proofs.Ytmebpglkeedaoaa
namespace Go.Proofs.Ytmebpglkeedaoaa
open Go.RowKit Dp
end Go.Proofs.Ytmebpglkeedaoaa
namespace Go.Proofs.Ytmebpglkeedaoaa
open Go.RowKit Dp
set_option maxHeartbeats 4000000 in
set_option maxRecDepth 100000 in
theorem Price_c (A B C D E P Q : Option Addr) (S : Site) (cs : List Car) (T : Tab) (n nB nC nD m p q cA cB cC cD cE cP cQ : Nat) (w : World) (hn : n = S.lim.length) (hnB : nB = S.exp.length) (hnC : nC = S.buy.length) (hnD : nD = S.sell.length) (hm : m = cs.length) (hp : p = T.inn.length) (hq : q = T.out.length)
    (hA : n ≤ cA ∧ cA ≤ 9223372036854775807) (hB : nB ≤ cB ∧ cB ≤ 9223372036854775807) (hC : nC ≤ cC ∧ cC ≤ 9223372036854775807) (hD : nD ≤ cD ∧ cD ≤ 9223372036854775807) (hE : m ≤ cE ∧ cE ≤ 9223372036854775807) (hP : p ≤ cP ∧ cP ≤ 9223372036854775807) (hQ : q ≤ cQ ∧ cQ ≤ 9223372036854775807)
    (hS : SiteAt w A B C D S) (hcs : CarsAt w E cs) (hT : TabAt w P Q T) :
    Calls Try.prog 38 #[.agg #[.slice A n cA, .slice B nB cB, .slice C nC cC, .slice D nD cD], .slice E m cE, .agg #[.slice P p cP, .slice Q q cQ]] w fun e w' => e = .returned (.tuple #[.int .i64 (prcV S cs T), .int .i64 (plE S cs T)]) ∧ Below w.heap.size w w' := by
  have F32 : Hid (∀ V, Below w.heap.size w V → Calls Try.prog 32 #[.agg #[.slice A n cA, .slice B nB cB, .slice C nC cC, .slice D nD cD], .slice E m cE, .agg #[.slice P p cP, .slice Q q cQ]] V fun e w' => e = .returned (.int .i64 (plE S cs T)) ∧ Below V.heap.size V w') := Lib.hid (fun V hV => CheckPlan_c A B C D E P Q S cs T n nB nC nD m p q cA cB cC cD cE cP cQ V hn hnB hnC hnD hm hp hq hA hB hC hD hE hP hQ (hS.below hV (Nat.le_refl _)) (hcs.below hV (Nat.le_refl _)) (hT.below hV (Nat.le_refl _)))
  have F81 : Hid (plE S cs T = 0 → ∀ V, Below w.heap.size w V → Calls Try.prog 81 #[.agg #[.slice A n cA, .slice B nB cB, .slice C nC cC, .slice D nD cD], .agg #[.slice P p cP, .slice Q q cQ]] V fun e w' => e = .returned (.int .i64 (prc S T cs.length S.lim.length)) ∧ Below V.heap.size V w') := Lib.hid (fun h0 V hV => by
    have HK := plE_0 h0
    have S0 := stE_0 HK.ok
    have SH := siteHead_iff.1 S0.2.1
    have e1 : p = m := by rw [hp, hm, HK.li]
    have e2 : q = m := by rw [hq, hm, HK.lo]
    subst e1
    subst e2
    have e3 : nC = nD := by omega
    have e4 : n = nD := by omega
    subst e3
    subst e4
    rw [← hm, ← hn]
    exact price_c A B C D P Q S T n nB n n q q cA cB cC cD cP cQ V hn (by omega) (by omega) hp hq (Nat.le_refl _) (by omega) (by omega) rfl rfl hP hQ (hS.below hV (Nat.le_refl _)) (hT.below hV (Nat.le_refl _)) (fun k hk => ⟨S0.2.2.1 k (by omega), by have := HK.slot (k := k) (by omega); rwa [← hm] at this⟩))
  have HV0 : Hid (plE S cs T = 0 → prcV S cs T = prc S T cs.length S.lim.length) := Lib.hid (fun h => by unfold prcV; rw [if_pos h])
  have HV1 : Hid (plE S cs T ≠ 0 → prcV S cs T = 0) := Lib.hid (fun h => by unfold prcV; rw [if_neg h])
  clear hn hnB hnC hnD hm hp hq hS hcs hT
  obtain ⟨v, hv⟩ : ∃ v, v = plE S cs T := ⟨_, rfl⟩
  rw [← hv] at F32 F81 HV0 HV1 ⊢
  clear hv
  have HB := Lib.hid (((Below.refl w.heap.size w).alloc (Nat.le_refl _) (.cells #[.slice A n cA, .slice B nB cB, .slice C nC cC, .slice D nD cD] 51)).alloc (by simp) (.cells #[.slice P p cP, .slice Q q cQ] 55))
  have XS := Lib.hid ((Blk.new' w #[.slice A n cA, .slice B nB cB, .slice C nC cC, .slice D nD cD] 51).alloc (.cells #[.slice P p cP, .slice Q q cQ] 55))
  have XT := Lib.hid (show Blk ((w.alloc (.cells #[.slice A n cA, .slice B nB cB, .slice C nC cC, .slice D nD cD] 51)).alloc (.cells #[.slice P p cP, .slice Q q cQ] 55)) (w.heap.size + 1) 55 [.slice P p cP, .slice Q q cQ] from by simpa using Blk.new' (w.alloc (.cells #[.slice A n cA, .slice B nB cB, .slice C nC cC, .slice D nD cD] 51)) #[.slice P p cP, .slice Q q cQ] 55)
  go_enter Try.func38, Try.ntmps38
  go_upto_region 1 with fail
  generalize (w.alloc (.cells #[.slice A n cA, .slice B nB cB, .slice C nC cC, .slice D nD cD] 51)).alloc (.cells #[.slice P p cP, .slice Q q cQ] 55) = w1 at HB XS XT ⊢
  have s0 := XS.out.cell 0 rfl
  have s1 := XS.out.cell 1 rfl
  have s2 := XS.out.cell 2 rfl
  have s3 := XS.out.cell 3 rfl
  have t0 := XT.out.cell 0 rfl
  have t1 := XT.out.cell 1 rfl
  have sl := XS.out.lt
  have tl := XT.out.lt
  go_wp2_with fail
  refine (F32.out w1 HB.out).mono ?_
  rintro e w2 ⟨rfl, hb⟩
  have HB2 := Lib.hid (HB.out.trans (hb.mono HB.out.size))
  have XS2 := Lib.hid (XS.out.below hb XS.out.lt)
  have XT2 := Lib.hid (XT.out.below hb XT.out.lt)
  clear hb s0 s1 s2 s3 t0 t1 sl tl
  have s0 := XS2.out.cell 0 rfl
  have s1 := XS2.out.cell 1 rfl
  have s2 := XS2.out.cell 2 rfl
  have s3 := XS2.out.cell 3 rfl
  have t0 := XT2.out.cell 0 rfl
  have t1 := XT2.out.cell 1 rfl
  have sl := XS2.out.lt
  have tl := XT2.out.lt
  by_cases h0 : v = 0
  rotate_left
  · have hb0 : (v == 0) = false := by simpa using h0
    have EE := Lib.hid (HV1.out h0)
    go_wp2_with fail
    exact bodyPost_ret (v := .tuple #[.int .i64 0, .int .i64 v]) (by simp [results, Try.results38, go_sem]) rfl ⟨by rw [EE.out], HB2.out⟩
  subst h0
  have G81 := F81.out rfl w2 HB2.out
  have EE := Lib.hid (HV0.out rfl)
  generalize prc S T cs.length S.lim.length = pv at *
  go_wp2_with fail
  refine G81.mono ?_
  rintro e w3 ⟨rfl, hb⟩
  have HB3 := Lib.hid (HB2.out.trans (hb.mono HB2.out.size))
  have XS3 := Lib.hid (XS2.out.below hb XS2.out.lt)
  have XT3 := Lib.hid (XT2.out.below hb XT2.out.lt)
  clear hb s0 s1 s2 s3 t0 t1 sl tl
  go_wp2_with fail
  exact bodyPost_ret (v := .tuple #[.int .i64 pv, .int .i64 0]) (by simp [results, Try.results38, go_sem]) rfl ⟨by rw [EE.out], HB3.out⟩
end Go.Proofs.Ytmebpglkeedaoaa
namespace Go.Proofs.Ytmebpglkeedaoaa
open Go.RowKit Dp
theorem RowsO.below {D : Nat} {w w' : World} {i n : Nat} {vs : List Value} {cs : List Car} {T : Tab} (h : RowsO D w i n vs cs T) (hb : Below w.heap.size w w') : RowsO D w' i n vs cs T := fun x hx => by
  obtain ⟨u, h1, h2⟩ := h x hx
  exact ⟨u, h1, ownV_below h2 hb⟩
theorem RowsO.grown {D B' : Nat} {w w' : World} {i n n' z' : Nat} {e' : TypeId} {v' : Value} {xs' vs : List Value} {cs : List Car} {T : Tab} (h : RowsO D w i n vs cs T) (h' : w.ownsRow B' e' z' v' n' xs') (hne : (2 : TypeId) ≠ e') (hg : w.grownBy w' v'.ownBlock) : RowsO D w' i n vs cs T := fun x hx => by
  obtain ⟨u, h1, h2⟩ := h x hx
  exact ⟨u, h1, ownV_other h2 h' hne hg⟩
theorem RowsO.add {D : Nat} {w : World} {i n : Nat} {vs : List Value} {cs : List Car} {T : Tab} {v : Value} (h : RowsO D w i n vs cs T) (hl : vs.length = i) (hv : w.ownsRow D 2 1 v (n + 1) ((lvN (cs.getD i default) (T.inn.getD i []) (T.out.getD i []) (n + 1)).map (.int .i64))) : RowsO D w (i + 1) n (vs ++ [v]) cs T := fun x hx => by
  by_cases e : x = i
  · subst e
    exact ⟨v, by rw [List.getElem?_append_right (by omega)]; simp [hl], hv⟩
  · obtain ⟨u, h1, h2⟩ := h x (by omega)
    exact ⟨u, by rw [List.getElem?_append_left (by omega)]; exact h1, h2⟩
theorem own_len {w : World} {D e n : Nat} {v : Value} {vs : List Value} (h : w.ownsRow D e 1 v n vs) : vs.length = n := by have := h.1; omega
end Go.Proofs.Ytmebpglkeedaoaa
namespace Go.Proofs.Ytmebpglkeedaoaa
open Go.RowKit Dp
structure BxJ (w : World) (n G i gs gb gi go : Nat) (A : Option Addr) (cap : Nat) (sup : List Int) (arcs : List Arc) (RI RO : Nat → List Int) (AI0 AO0 : Option Addr) (ci0 co0 : Nat) (AI : Option Addr) (ci ni : Nat) (vi : List Value) (AO : Option Addr) (co no : Nat) (vo : List Value) (W : World) : Prop where
  b : Blk W gb 125 [.slice (some ⟨gs, 0, none⟩) sup.length sup.length, .slice A arcs.length cap, .slice AI0 i ci0, .slice AO0 i co0]
  s : Fl 2 W gs sup
  own : W.ownsRow w.heap.size 46 4 (.slice A arcs.length cap) arcs.length (flat arcV arcs)
  oi : W.ownsRow w.heap.size 26 1 (.slice AI ni ci) ni vi
  oo : W.ownsRow w.heap.size 26 1 (.slice AO no co) no vo
  dis : ∀ k, OwnB AI k → ¬ OwnB AO k
  lt : w.heap.size ≤ gs ∧ w.heap.size ≤ gb
  bel : Below w.heap.size w W
  fi : Fl 3 W gi (RI i)
  fo : Fl 3 W go (RO i)
  ri : RowsF W n G vi RI i
  ro : RowsF W n G vo RO i
section
variable {w W V : World} {n G i gs gb gi go gc ci co cap ci0 co0 ni no c2 : Nat} {A A2 AI AO AI0 AO0 : Option Addr} {vi vo cv : List Value} {RI RO : Nat → List Int} {sup : List Int} {arcs : List Arc}
theorem BkJ.two (h : BkJ w n G i gs gb gi go gc AI AO ci co vi vo RI RO cv A cap sup arcs (RI i) (RO i) W) : BxJ w n G i gs gb gi go A cap sup arcs RI RO AI AO ci co AI ci i vi AO co i vo W :=
  ⟨h.d.b, h.d.s, h.d.own, h.d.oi, h.d.oo, h.d.dis, h.d.lt, h.d.bel, h.fi, h.fo, h.ri, h.ro⟩
theorem BxJ.below (h : BxJ w n G i gs gb gi go A cap sup arcs RI RO AI0 AO0 ci0 co0 AI ci ni vi AO co no vo W) (hb : Below W.heap.size W V) : BxJ w n G i gs gb gi go A cap sup arcs RI RO AI0 AO0 ci0 co0 AI ci ni vi AO co no vo V :=
  ⟨h.b.below hb h.b.lt, h.s.below hb, ownBelow h.own hb, ownBelow h.oi hb, ownBelow h.oo hb, h.dis, h.lt, h.bel.trans (hb.mono h.bel.size), h.fi.below hb, h.fo.below hb, h.ri.below hb, h.ro.below hb⟩
theorem RowsF.pre {vs vs' : List Value} {R : Nat → List Int} (h : RowsF W n G vs R i) (hl : i ≤ vs.length) : RowsF W n G (vs ++ vs') R i := fun x hx => by
  obtain ⟨v, h1, h2⟩ := h x hx
  exact ⟨v, by rw [List.getElem?_append_left (by omega)]; exact h1, h2⟩
theorem BxJ.growI {v : Value} (h : BxJ w n G i gs gb gi go A cap sup arcs RI RO AI0 AO0 ci0 co0 AI ci ni vi AO co no vo W) (hi : i ≤ ni) (hg : W.grownBy V (Value.slice AI ni ci).ownBlock) (ho : V.ownsRow w.heap.size 26 1 (.slice A2 (ni + 1) c2) (ni + 1) (vi ++ [v])) (hk : ∀ k, OwnB A2 k → OwnB AI k ∨ k = W.heap.size) :
    BxJ w n G i gs gb gi go A cap sup arcs RI RO AI0 AO0 ci0 co0 A2 c2 (ni + 1) (vi ++ [v]) AO co no vo V :=
  ⟨h.b.grown hg (blk_own_ne h.b h.oi (by decide)), Blk.grown h.s hg (blk_own_ne h.s h.oi (by decide)), grow_own h.own h.oi (own_type h.own h.oi (by decide)) hg, ho, grow_own h.oo h.oi (fun k h1 h2 => h.dis k h2 h1) hg,
    (fun k h1 h2 => by
      rcases hk k h1 with h3 | h3
      · exact h.dis k h3 h2
      · have := (ownLt h.oo h2).1; omega), h.lt, h.bel.grown hg h.bel.size (fun k e => (World.ownsRow.lt h.oi k e).1), Blk.grown h.fi hg (blk_own_ne h.fi h.oi (by decide)), Blk.grown h.fo hg (blk_own_ne h.fo h.oi (by decide)), (h.ri.grown h.oi (by decide) hg).pre (by rw [own_len h.oi]; exact hi), h.ro.grown h.oi (by decide) hg⟩
theorem BxJ.growO {v : Value} (h : BxJ w n G i gs gb gi go A cap sup arcs RI RO AI0 AO0 ci0 co0 AI ci ni vi AO co no vo W) (hi : i ≤ no) (hg : W.grownBy V (Value.slice AO no co).ownBlock) (ho : V.ownsRow w.heap.size 26 1 (.slice A2 (no + 1) c2) (no + 1) (vo ++ [v])) (hk : ∀ k, OwnB A2 k → OwnB AO k ∨ k = W.heap.size) :
    BxJ w n G i gs gb gi go A cap sup arcs RI RO AI0 AO0 ci0 co0 AI ci ni vi A2 c2 (no + 1) (vo ++ [v]) V :=
  ⟨h.b.grown hg (blk_own_ne h.b h.oo (by decide)), Blk.grown h.s hg (blk_own_ne h.s h.oo (by decide)), grow_own h.own h.oo (own_type h.own h.oo (by decide)) hg, grow_own h.oi h.oo h.dis hg, ho,
    (fun k h1 h2 => by
      rcases hk k h2 with h3 | h3
      · exact h.dis k h1 h3
      · have := (ownLt h.oi h1).1; omega), h.lt, h.bel.grown hg h.bel.size (fun k e => (World.ownsRow.lt h.oo k e).1), Blk.grown h.fi hg (blk_own_ne h.fi h.oo (by decide)), Blk.grown h.fo hg (blk_own_ne h.fo h.oo (by decide)), h.ri.grown h.oo (by decide) hg, (h.ro.grown h.oo (by decide) hg).pre (by rw [own_len h.oo]; exact hi)⟩
theorem BxJ.done (h : BxJ w n G i gs gb gi go A cap sup arcs RI RO AI0 AO0 ci0 co0 AI ci (i + 1) (vi ++ [.slice (some ⟨gi, 0, none⟩) n n]) AO co (i + 1) (vo ++ [.slice (some ⟨go, 0, none⟩) n n]) W) (hR : (RI i).length = n ∧ (RO i).length = n) (hG : G ≤ W.heap.size) :
    BdJ w gs gb A cap AI AO ci co (i + 1) (vi ++ [.slice (some ⟨gi, 0, none⟩) n n]) (vo ++ [.slice (some ⟨go, 0, none⟩) n n]) sup arcs ((W.setCell ⟨gb, 2, none⟩ (.slice AI (i + 1) ci)).setCell ⟨gb, 3, none⟩ (.slice AO (i + 1) co)) ∧
    RowsF ((W.setCell ⟨gb, 2, none⟩ (.slice AI (i + 1) ci)).setCell ⟨gb, 3, none⟩ (.slice AO (i + 1) co)) n W.heap.size (vi ++ [.slice (some ⟨gi, 0, none⟩) n n]) RI (i + 1) ∧ RowsF ((W.setCell ⟨gb, 2, none⟩ (.slice AI (i + 1) ci)).setCell ⟨gb, 3, none⟩ (.slice AO (i + 1) co)) n W.heap.size (vo ++ [.slice (some ⟨go, 0, none⟩) n n]) RO (i + 1) := by
  have b1 := h.b.setCell 2 (.slice AI (i + 1) ci)
  have l1 : vi.length = i := by have := own_len h.oi; simp at this; exact this
  have l2 : vo.length = i := by have := own_len h.oo; simp at this; exact this
  have r1 : RowsF W n W.heap.size (vi ++ [.slice (some ⟨gi, 0, none⟩) n n]) RI (i + 1) := by
    refine RowsF.add (fun x hx => ?_) l1 h.fi hR.1 h.fi.lt
    obtain ⟨v, h1, g, e1, e2, e3⟩ := h.ri x hx
    rw [List.getElem?_append_left (by omega)] at h1
    exact ⟨v, h1, g, e1, by omega, e3⟩
  have r2 : RowsF W n W.heap.size (vo ++ [.slice (some ⟨go, 0, none⟩) n n]) RO (i + 1) := by
    refine RowsF.add (fun x hx => ?_) l2 h.fo hR.2 h.fo.lt
    obtain ⟨v, h1, g, e1, e2, e3⟩ := h.ro x hx
    rw [List.getElem?_append_left (by omega)] at h1
    exact ⟨v, h1, g, e1, by omega, e3⟩
  refine ⟨⟨b1.setCell 3 _, (h.s.set_ne (p := ⟨gb, 2, none⟩) (fun e => blk_type_ne h.b h.s (by decide) e) _).set_ne (p := ⟨gb, 3, none⟩) (fun e => blk_type_ne h.b h.s (by decide) e) _, ownSet (ownSet h.own (own_blk_no (g := gb) h.b h.own (by decide)) _) (own_blk_no (g := gb) h.b h.own (by decide)) _, ownSet (ownSet h.oi (own_blk_no (g := gb) h.b h.oi (by decide)) _) (own_blk_no (g := gb) h.b h.oi (by decide)) _, ownSet (ownSet h.oo (own_blk_no (g := gb) h.b h.oo (by decide)) _) (own_blk_no (g := gb) h.b h.oo (by decide)) _, h.dis, h.lt, (h.bel.setCell (by simp; exact h.lt.2) _).setCell (by simp; exact h.lt.2) _⟩, ?_, ?_⟩
  · exact (r1.set (p := ⟨gb, 2, none⟩) h.b (.inl (by decide)) _).set (p := ⟨gb, 3, none⟩) b1 (.inl (by decide)) _
  · exact (r2.set (p := ⟨gb, 2, none⟩) h.b (.inl (by decide)) _).set (p := ⟨gb, 3, none⟩) b1 (.inl (by decide)) _
end
end Go.Proofs.Ytmebpglkeedaoaa
