/- Copy, Reserved and Ack of coulombref09's site. -/
import Derived.Test.YtafajclbghofkaaT1
import Derived.Test.YtafajclbghofkaaR5
namespace Go.Proofs.Ytafajclbghofkaa
open Go.RowKit
set_option linter.unusedVariables false
/-- the cells of n elements -/
def flat3 (f : Nat → List Value) : Nat → List Value
  | 0 => []
  | n + 1 => flat3 f n ++ f n
section
variable {f : Nat → List Value} {n : Nat}
theorem flat3_len (h : ∀ i, (f i).length = 3) : ∀ n, (flat3 f n).length = n * 3
  | 0 => rfl
  | n + 1 => by unfold flat3; rw [List.length_append, flat3_len h n, h n]; omega
theorem flat3_at (h : ∀ i, (f i).length = 3) : ∀ n i j, i < n → j < 3 → (flat3 f n)[i * 3 + j]? = (f i)[j]?
  | 0, i, j, hi, _ => by omega
  | n + 1, i, j, hi, hj => by
    unfold flat3
    by_cases hin : i < n
    · rw [List.getElem?_append_left (by rw [flat3_len h]; omega)]
      exact flat3_at h n i j hin hj
    · obtain rfl : i = n := by omega
      rw [List.getElem?_append_right (by rw [flat3_len h]; omega), flat3_len h, show i * 3 + j - i * 3 = j by omega]
theorem flat3_one (h1 : ∀ i, ∀ u ∈ f i, u.oneCell' = true) : ∀ n, ∀ u ∈ flat3 f n, u.oneCell' = true
  | 0, u, hu => by simp [flat3] at hu
  | n + 1, u, hu => by
    unfold flat3 at hu
    rcases List.mem_append.1 hu with hu | hu
    · exact flat3_one h1 n u hu
    · exact h1 n u hu
end
theorem clV_one (A : Option Addr) (q : Nat) (c : Sx.Cl) : ∀ u ∈ clV A q c, u.oneCell' = true := by
  intro u hu
  simp [clV] at hu
  rcases hu with rfl | rfl | rfl <;> rfl
theorem arr_src {W : World} {g n : Nat} {ty : TypeId} {f : Nat → List Value} (h3 : ∀ i, (f i).length = 3) (h : ArrAt W g ty n f) : SrcRow W (some ⟨g, 0, none⟩) n (flat3 f n) := by
  refine .inr ⟨_, rfl, fun k u hu => ?_⟩
  have hk : k < n * 3 := by rw [← flat3_len h3 n]; exact (List.getElem?_eq_some_iff.1 hu).1
  have e : k / 3 * 3 + k % 3 = k := by omega
  have h1 := flat3_at h3 n (k / 3) (k % 3) (by omega) (by omega)
  rw [e, hu] at h1
  have h2 := h.cell (i := k / 3) (by omega) (k % 3) h1.symm
  rw [e] at h2
  rw [show ((⟨g, 0, none⟩ : Addr).add k) = ⟨g, k, none⟩ from (by unfold Addr.add; split <;> simp_all)]
  exact h2
theorem row_arr {W : World} {B n cap : Nat} {ty : TypeId} {A : Option Addr} {f : Nat → List Value} (h3 : ∀ i, (f i).length = 3) (h : W.ownsRow B ty 3 (.slice A n cap) n (flat3 f n)) (hn : 0 < n) : ∃ g, A = some ⟨g, 0, none⟩ ∧ B ≤ g ∧ n ≤ cap ∧ cap ≤ maxLen ∧ ArrAt W g ty n f := by
  rcases h.2 with ⟨h2, hx⟩ | ⟨g, c, cur, hv, hb, hg, hnc, hcm, hcs, htk⟩
  · omega
  · cases hv
    refine ⟨g, rfl, hb, hnc, hcm, cur, hg, fun i hi j u hu => ?_⟩
    have hj : j < 3 := by rw [← h3 i]; exact (List.getElem?_eq_some_iff.1 hu).1
    have h1 := flat3_at h3 n i j hi hj
    rw [hu, ← htk, List.getElem?_take] at h1
    split at h1
    · simpa using h1
    · cases h1
/-- a copy of the reference's site: the stations' leases are the same -/
def CopyRTo (w : World) (A : Nat → Option Addr) (q : Nat → Nat) (cs : List Sx.Cl) (D Bk N : Int) (e : Ending) (w' : World) : Prop := ∃ rs rc cc, e = .returned (.pointer (some ⟨rs, 0, none⟩)) ∧ w.heap.size ≤ rs ∧ w.heap.size ≤ rc ∧ RefAt w' rs rc cc A q cs D Bk N ∧ Below w.heap.size w w'
set_option maxRecDepth 100000 in
set_option maxHeartbeats 2000000 in
theorem CopyRS_c {w : World} {rs rc cc : Nat} {A : Nat → Option Addr} {q : Nat → Nat} {cs : List Sx.Cl} {D Bk N : Int} (h : RefAt w rs rc cc A q cs D Bk N) (hn0 : 0 < cs.length) (hn32 : cs.length ≤ 32) :
    Calls Try.prog 45 #[.pointer (some ⟨rs, 0, none⟩)] w (CopyRTo w A q cs D Bk N) := by
  have HR := Lib.hid h
  have c0 := h.s.cell 0 rfl
  have c1 := h.s.cell 1 rfl
  have c2 := h.s.cell 2 rfl
  have c3 := h.s.cell 3 rfl
  have hz := h.s.lt
  have hz2 : rs ≠ w.heap.size := by omega
  have hz3 : rs < w.heap.size + 1 := by omega
  obtain ⟨i0, hi, hz0, hz1, hzb⟩ := info_parts info156
  have HSr := Lib.hid (fun W (hW : Below w.heap.size w W) => arr_src (fun i => clV_len _ _ _) (h.below hW).a)
  obtain ⟨n, hn⟩ : ∃ n, n = cs.length := ⟨_, rfl⟩
  rw [← hn] at c3 HSr hn0 hn32
  have HN := Lib.hid hn
  clear h hn
  go_enter Try.func45, Try.ntmps45
  go_wp2_with (at_builtin; refine wpList_append_any (.tmp 7) (.tmp 11) 142 rfl rfl w.heap.size 156 i0 (.agg #[.slice none 0 0, .int .i64 0, .int .i64 0]) 3 40 Try.underlying142 hi hz0 hz1 hzb rfl (by decide) (some ⟨w.heap.size + 1, 0, none⟩) 0 0 [] (by rfl) (by have := World.ownsRow_made (w.alloc (.cells #[.int .i64 D, .int .i64 Bk, .int .i64 N, .slice (some ⟨rc, 0, none⟩) n cc] 144)) #[] 0 (e := 156) (size := 3) (base := w.heap.size) (by simp) (by decide) (by simp); simpa using this) (some ⟨rc, 0, none⟩) n cc (flat3 (fun i => clV (A i) (q i) (cs.getD i default)) n) (by rfl) (by rw [flat3_len (fun i => clV_len _ _ _)]) (HSr.out _ (((Below.refl _ _).alloc (Nat.le_refl _) _).alloc (by simp) _)) (flat3_one (fun i => clV_one _ _ _) n) (by unfold maxLen; omega) (by omega) (by simp; omega) ?_; intro A' cap' w1 hown hgrow hat; have HOw := Lib.hid hown; have HT := Lib.hid (show Touch (OwnB (some ⟨w.heap.size + 1, 0, none⟩)) _ w1 from (Touch.refl _ _).grown hgrow (fun k hk => .inl (ownB_iff.2 hk))); have HB1 := Lib.hid (((Blk.new' w #[.int .i64 D, .int .i64 Bk, .int .i64 N, .slice (some ⟨rc, 0, none⟩) n cc] 144).alloc _).touch HT.out (fun e => by obtain ⟨a, ha, hb⟩ := e; cases ha; simp at hb)); have g3 := HB1.out.cell 3 rfl; have f3 := HB1.out.free 3; clear hown hgrow hat)
  go_ret
  simp only [Nat.zero_add] at HOw
  obtain ⟨g, rfl, hBg, hncc, hcm, harr⟩ := row_arr (fun i => clV_len _ _ _) HOw.out hn0
  have hb1 : Below w.heap.size w w1 := Below.touch (((Below.refl _ _).alloc (Nat.le_refl _) _).alloc (by simp) _) (by simp; omega) HT.out (fun k e => by obtain ⟨a, ha, rfl⟩ := e; cases ha; simp)
  have hgn : g ≠ w.heap.size := fun e => by
    obtain ⟨cur, hc, _⟩ := harr
    have h2 := HB1.out
    unfold Blk at h2
    rw [e, h2] at hc
    simp at hc
  have ht3 : Touch (fun k => k = w.heap.size) w1 (w1.setCell ⟨w.heap.size, 3, none⟩ (.slice (some ⟨g, 0, none⟩) n cap')) := (Touch.refl _ _).put 3 _
  unfold maxLen at hcm
  refine ⟨w.heap.size, g, cap', rfl, Nat.le_refl _, hBg, ⟨?_, ?_, fun i hi => ?_, by have := HN.out; omega⟩, hb1.setCell (Nat.le_refl _) _⟩
  · rw [← HN.out]
    simpa using HB1.out.setCell 3 (.slice (some ⟨g, 0, none⟩) n cap')
  · rw [← HN.out]
    exact harr.touch ht3 hgn
  · exact rowE_keep (rowE_below (HR.out.r i hi) hb1) ht3 (fun k hk e => by have := (rowE_lt (HR.out.r i hi) hk).2; omega)
set_option maxHeartbeats 2000000 in
theorem ReservedRS_c {w : World} {rs rc cc : Nat} {A : Nat → Option Addr} {q : Nat → Nat} {cs : List Sx.Cl} {D Bk N : Int} (h : RefAt w rs rc cc A q cs D Bk N) {K : Int} (hk : K ≤ 100000) (hok : ∀ c ∈ cs, Sx.OkC K c) (s t : Int) :
    Calls Try.prog 47 #[.pointer (some ⟨rs, 0, none⟩), .int .i64 s, .int .i64 t] w fun e w' => e = .returned (RsV cs s t) ∧ Below w.heap.size w w' := by
  have c3 := h.s.cell 3 rfl
  unfold RsV
  by_cases h1 : s < 0
  · rw [if_neg (by omega)]
    clear h hok
    go_enter Try.func47, Try.ntmps47
    go_wp2
    go_ret3
    exact ⟨rfl, Below.refl _ _⟩
  obtain ⟨m, rfl⟩ := Int.eq_ofNat_of_zero_le (show 0 ≤ s by omega)
  by_cases h2 : m < cs.length
  rotate_left 1
  · rw [if_neg (by omega)]
    have h2' : decide (cs.length ≤ m) = true := decide_eq_true (by omega)
    clear h hok
    go_enter Try.func47, Try.ntmps47
    go_wp2
    go_ret3
    exact ⟨rfl, Below.refl _ _⟩
  · rw [if_pos (by omega)]
    have h2' : decide (cs.length ≤ m) = false := decide_eq_false (by omega)
    have hm0 : (0 : Int) ≤ (m : Int) := by omega
    have hm1 : (m : Int) < (cs.length : Int) := by omega
    have ho := hok (cs.getD m default) (by rw [List.getD_eq_getElem?_getD, List.getElem?_eq_getElem h2]; exact List.getElem_mem h2)
    have hcap := lrow_cap (h.r m h2)
    unfold maxLen at hcap
    have h75 := Lib.hid (reservedR_c (A m) (q m) (cs.getD m default) t w ho.ls (by have := ho.ln; omega) hcap.1 (by omega) (lrow_at (h.r m h2)))
    have d0 := h.a.cell h2 0 rfl
    have d1 := h.a.cell h2 1 rfl
    have d2 := h.a.cell h2 2 rfl
    simp only [Int.toNat_natCast]
    simp only [Nat.add_zero] at d0
    clear h hok ho
    generalize Sx.rD (cs.getD m default) t = x at *
    generalize Sx.rB (cs.getD m default) t = y at *
    generalize cs.getD m default = cl at *
    generalize A m = Am at *
    generalize q m = qm at *
    go_enter Try.func47, Try.ntmps47
    go_wp2_with (go_at_call 75; refine h75.out.mono ?_; rintro e w1 ⟨rfl, hb⟩; have HB := Lib.hid hb; clear hb)
    go_ret3
    exact ⟨rfl, HB.out⟩
end Go.Proofs.Ytafajclbghofkaa
