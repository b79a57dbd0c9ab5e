/- Ack of coulombref09's site. -/
import Derived.Test.YtafajclbghofkaaT2
namespace Go.Proofs.Ytafajclbghofkaa
open Go.RowKit
set_option linter.unusedVariables false
namespace Sx
def akSR (cs : List Cl) (s nu : Int) : List Cl := if akE cs s nu = 0 then cs.set s.toNat (aR (cs.getD s.toNat default) nu) else cs
end Sx
/-- what an operation of the reference's site leaves -/
def RTo (w : World) (rs : Nat) (A : Nat → Option Addr) (cs' : List Sx.Cl) (D Bk N : Int) (w' : World) : Prop :=
  (∃ rc' cc' A' q', RefAt w' rs rc' cc' A' q' cs' D Bk N ∧ w.heap.size ≤ rc' ∧ ∀ i k, OwnB (A' i) k → OwnB (A i) k ∨ w.heap.size ≤ k) ∧ Touch (fun k => k = rs) w w'
/-- the stations are copied into a new array -/
theorem ref_spread {w W w1 : World} {rs rc cc g0 n cap' : Nat} {A : Nat → Option Addr} {q : Nat → Nat} {cs : List Sx.Cl} {D Bk N : Int} {A' : Option Addr} (h : RefAt w rs rc cc A q cs D Bk N) (hW : Below w.heap.size w W) (h0 : w.heap.size ≤ g0) (hT : Touch (OwnB (some ⟨g0, 0, none⟩)) W w1)
    (hown : w1.ownsRow w.heap.size 156 3 (.slice A' n cap') n (flat3 (fun i => clV (A i) (q i) (cs.getD i default)) n)) (hn : n = cs.length) (hn0 : 0 < n) :
    ∃ g, A' = some ⟨g, 0, none⟩ ∧ w.heap.size ≤ g ∧ (n ≤ cap' ∧ cap' ≤ 9223372036854775807) ∧ RefAt (w1.setCell ⟨rs, 3, none⟩ (.slice A' n cap')) rs g cap' A q cs D Bk N ∧ Touch (fun k => k = rs) w (w1.setCell ⟨rs, 3, none⟩ (.slice A' n cap')) := by
  subst hn
  obtain ⟨g, rfl, hBg, hncc, hcm, harr⟩ := row_arr (fun i => clV_len _ _ _) hown hn0
  have hb1 : Below w.heap.size w w1 := Below.touch hW hW.size hT (fun k e => by obtain ⟨a, ha, rfl⟩ := e; cases ha; exact h0)
  have hs1 := h.s.touch (Touch.of_below (S := fun _ => False) hb1) (fun e => e)
  have hrl := h.s.lt
  have ht3 : Touch (fun k => k = rs) w1 (w1.setCell ⟨rs, 3, none⟩ (.slice (some ⟨g, 0, none⟩) cs.length cap')) := (Touch.refl _ _).put 3 _
  unfold maxLen at hcm
  refine ⟨g, rfl, hBg, ⟨hncc, by omega⟩, ⟨?_, ?_, fun i hi => ?_, ⟨hncc, by omega⟩⟩, Touch.setCell (S := fun k => k = rs) (Touch.of_below hb1) (.inl rfl) _⟩
  · simpa using hs1.setCell 3 (.slice (some ⟨g, 0, none⟩) cs.length cap')
  · exact harr.touch ht3 (by omega)
  · refine rowE_keep (rowE_below (h.r i hi) hb1) ht3 (fun k hk e => ?_)
    subst e
    rcases (h.r i hi).2 with ⟨h2, _⟩ | ⟨g2, c, cur, hv, hb, hg, _⟩
    · obtain ⟨a, ha, _⟩ := hk
      rw [ha] at h2
      cases h2
    · obtain ⟨a, ha, hab⟩ := hk
      rw [ha] at hv
      cases hv
      simp at hab
      have h2 := h.s
      unfold Blk at h2
      rw [← hab, hg] at h2
      simp at h2
/-- the field kn of a station in an array -/
theorem ArrAt.setKn {W : World} {g n : Nat} {ty : TypeId} {A : Nat → Option Addr} {q : Nat → Nat} {cs : List Sx.Cl} (h : ArrAt W g ty n (fun i => clV (A i) (q i) (cs.getD i default))) (hn : n = cs.length) {m : Nat} (hm : m < cs.length) (x : Int) :
    ArrAt (W.setCell ⟨g, m * 3 + 2, none⟩ (.int .i64 x)) g ty n (fun i => clV (A i) (q i) ((cs.set m { (cs.getD m default) with kn := x }).getD i default)) := by
  subst hn
  refine (h.set hm (show 2 < 3 by omega) (fun i hi => clV_len _ _ _) _).congr (fun i hi => ?_)
  rw [Sx.getD_set' hm]
  by_cases him : i = m
  · subst him; simp [clV]
  · simp [him]
theorem RefAt.ne_rc {W : World} {rs rc cc : Nat} {A : Nat → Option Addr} {q : Nat → Nat} {cs : List Sx.Cl} {D Bk N : Int} (h : RefAt W rs rc cc A q cs D Bk N) {i : Nat} (hi : i < cs.length) : ∀ k, OwnB (A i) k → k ≠ rc := fun k hk e => by
  subst e
  rcases (h.r i hi).2 with ⟨h2, _⟩ | ⟨g, c, cur, hv, hb, hg, _⟩
  · obtain ⟨a, ha, _⟩ := hk
    rw [ha] at h2
    cases h2
  · obtain ⟨a, ha, hab⟩ := hk
    rw [ha] at hv
    cases hv
    simp at hab
    obtain ⟨vs, h1, _⟩ := h.a
    rw [← hab, hg] at h1
    simp at h1
theorem RefAt.ne_rs {W : World} {rs rc cc : Nat} {A : Nat → Option Addr} {q : Nat → Nat} {cs : List Sx.Cl} {D Bk N : Int} (h : RefAt W rs rc cc A q cs D Bk N) {i : Nat} (hi : i < cs.length) : ∀ k, OwnB (A i) k → k ≠ rs := fun k hk e => by
  subst e
  rcases (h.r i hi).2 with ⟨h2, _⟩ | ⟨g, c, cur, hv, hb, hg, _⟩
  · obtain ⟨a, ha, _⟩ := hk
    rw [ha] at h2
    cases h2
  · obtain ⟨a, ha, hab⟩ := hk
    rw [ha] at hv
    cases hv
    simp at hab
    have h2 := h.s
    unfold Blk at h2
    rw [← hab, hg] at h2
    simp at h2
theorem RefAt.rs_rc {W : World} {rs rc cc : Nat} {A : Nat → Option Addr} {q : Nat → Nat} {cs : List Sx.Cl} {D Bk N : Int} (h : RefAt W rs rc cc A q cs D Bk N) : rs ≠ rc := fun e => by
  obtain ⟨vs, h1, _⟩ := h.a
  have h2 := h.s
  unfold Blk at h2
  rw [← e, h2] at h1
  simp at h1
theorem RefAt.setKn {W : World} {rs rc cc : Nat} {A : Nat → Option Addr} {q : Nat → Nat} {cs : List Sx.Cl} {D Bk N : Int} (h : RefAt W rs rc cc A q cs D Bk N) {m : Nat} (hm : m < cs.length) (x : Int) : RefAt (W.setCell ⟨rc, m * 3 + 2, none⟩ (.int .i64 x)) rs rc cc A q (cs.set m { (cs.getD m default) with kn := x }) D Bk N := by
  have ht := (Touch.refl (fun k => k = rc) W).put (m * 3 + 2) (.int .i64 x)
  refine ⟨?_, ?_, fun i hi => ?_, by simpa using h.c⟩
  · have := h.s.touch ht h.rs_rc
    simpa using this
  · rw [List.length_set]
    exact ArrAt.setKn h.a rfl hm x
  · have hi' : i < cs.length := by simpa using hi
    have := rowE_keep (h.r i hi') ht (fun k hk e => h.ne_rc hi' k hk e)
    rw [Sx.getD_set' hm]
    by_cases him : i = m
    · subst him; simpa using this
    · simpa [him] using this
set_option maxRecDepth 100000 in
set_option maxHeartbeats 4000000 in
theorem AckR_no {w : World} {rs rc cc : Nat} {A : Nat → Option Addr} {q : Nat → Nat} {cs : List Sx.Cl} {D Bk N : Int} (h : RefAt w rs rc cc A q cs D Bk N) (s nu : Int) (he : Sx.akE cs s nu ≠ 0) :
    Calls Try.prog 72 #[.pointer (some ⟨rs, 0, none⟩), .int .i64 s, .int .i64 nu] w fun e w' => e = .returned (.int .i64 (Sx.akE cs s nu)) ∧ w = w' := by
  have c3 := h.s.cell 3 rfl
  by_cases h1 : s < 0
  · have e : Sx.akE cs s nu = 3 := by unfold Sx.akE; rw [if_neg (by omega)]
    rw [e]
    clear h he e
    go_enter Try.func72, Try.ntmps72
    go_wp2
    go_ret
    exact ⟨rfl, rfl⟩
  obtain ⟨m, rfl⟩ := Int.eq_ofNat_of_zero_le (show 0 ≤ s by omega)
  by_cases h2 : m < cs.length
  rotate_left 1
  · have e : Sx.akE cs m nu = 3 := by unfold Sx.akE; rw [if_neg (by omega)]
    rw [e]
    have h2' : decide (cs.length ≤ m) = true := decide_eq_true (by omega)
    clear h he e
    go_enter Try.func72, Try.ntmps72
    go_wp2
    go_ret
    exact ⟨rfl, rfl⟩
  have h2' : decide (cs.length ≤ m) = false := decide_eq_false (by omega)
  have hm0 : (0 : Int) ≤ (m : Int) := by omega
  have hm1 : (m : Int) < (cs.length : Int) := by omega
  have e0 : Sx.akE cs m nu = Sx.aE cs m nu := if_pos (by omega)
  by_cases h3 : nu < 1
  · have e : Sx.akE cs m nu = 5 := by rw [e0]; unfold Sx.aE; rw [if_neg (by omega)]
    rw [e]
    clear h he e e0
    go_enter Try.func72, Try.ntmps72
    go_wp2
    go_ret
    exact ⟨rfl, rfl⟩
  have d1 := h.a.cell h2 1 rfl
  by_cases h4 : (cs.getD m default).last < nu
  · have e : Sx.akE cs m nu = 5 := by rw [e0]; unfold Sx.aE; rw [if_neg (by omega)]
    rw [e]
    have h4' : decide ((cs.getD m default).last < nu) = true := decide_eq_true h4
    clear h he e e0 h4
    generalize (cs.getD m default).last = la at *
    go_enter Try.func72, Try.ntmps72
    go_wp2
    go_ret
    exact ⟨rfl, rfl⟩
  · exact absurd (by rw [e0]; unfold Sx.aE; rw [if_pos (by omega)]) he
set_option maxRecDepth 100000 in
set_option maxHeartbeats 4000000 in
theorem AckR_yes {w : World} {rs rc cc : Nat} {A : Nat → Option Addr} {q : Nat → Nat} {cs : List Sx.Cl} {D Bk N : Int} (h : RefAt w rs rc cc A q cs D Bk N) (hn32 : cs.length ≤ 32) (s nu : Int) (he : Sx.akE cs s nu = 0) :
    Calls Try.prog 72 #[.pointer (some ⟨rs, 0, none⟩), .int .i64 s, .int .i64 nu] w fun e w' => e = .returned (.int .i64 0) ∧ RTo w rs A (Sx.akSR cs s nu) D Bk N w' := by
  have hs : 0 ≤ s ∧ s < cs.length := by
    unfold Sx.akE at he
    split at he
    · assumption
    · cases he
  obtain ⟨m, rfl⟩ := Int.eq_ofNat_of_zero_le hs.1
  have hm : m < cs.length := by omega
  have e0 : Sx.aE cs m nu = 0 := by unfold Sx.akE at he; rwa [if_pos hs] at he
  have h34 : 1 ≤ nu ∧ nu ≤ (cs.getD m default).last := by
    unfold Sx.aE at e0
    split at e0
    · assumption
    · cases e0
  have HSa := Lib.hid (show Sx.akSR cs m nu = cs.set m { (cs.getD m default) with kn := max (cs.getD m default).kn nu } by unfold Sx.akSR; rw [if_pos he, Int.toNat_natCast]; rfl)
  have HR := Lib.hid h
  have c3 := h.s.cell 3 rfl
  have d1 := h.a.cell hm 1 rfl
  have f3 := h.s.free 3
  have hz := h.s.lt
  have hz2 : rs ≠ w.heap.size := by omega
  have h2' : decide (cs.length ≤ m) = false := decide_eq_false (by omega)
  have hm0 : (0 : Int) ≤ (m : Int) := by omega
  have hm1 : (m : Int) < (cs.length : Int) := by omega
  have h4' : decide ((cs.getD m default).last < nu) = false := decide_eq_false (by omega)
  have h3' : decide (nu < 1) = false := decide_eq_false (by omega)
  obtain ⟨i0, hi, hz0, hz1, hzb⟩ := info_parts info156
  have HSr := Lib.hid (fun W (hW : Below w.heap.size w W) => arr_src (fun i => clV_len _ _ _) (h.below hW).a)
  obtain ⟨n, hn⟩ : ∃ n, n = cs.length := ⟨_, rfl⟩
  rw [← hn] at c3 HSr hm1 h2' hn32
  have HN := Lib.hid hn
  have hn0 : 0 < n := by omega
  generalize hla : (cs.getD m default).last = la at d1 h4'
  clear h hn he e0 hs h34 hla
  go_enter Try.func72, Try.ntmps72
  go_upto_region 6 with (at_builtin; refine wpList_append_any (.tmp 33) (.tmp 37) 142 rfl rfl w.heap.size 156 i0 (.agg #[.slice none 0 0, .int .i64 0, .int .i64 0]) 3 40 Try.underlying142 hi hz0 hz1 hzb rfl (by decide) (some ⟨w.heap.size, 0, none⟩) 0 0 [] (by rfl) (World.ownsRow_made w #[] 0 (Nat.le_refl _) (by decide) (by simp)) (some ⟨rc, 0, none⟩) n cc (flat3 (fun i => clV (A i) (q i) (cs.getD i default)) n) (by rfl) (by rw [flat3_len (fun i => clV_len _ _ _)]) (HSr.out _ ((Below.refl _ _).alloc (Nat.le_refl _) _)) (flat3_one (fun i => clV_one _ _ _) n) (by unfold maxLen; omega) (by omega) (by simp) ?_; intro A' cap' w1 hown hgrow hat; have HOw := Lib.hid hown; have HT := Lib.hid (show Touch (OwnB (some ⟨w.heap.size, 0, none⟩)) _ w1 from (Touch.refl _ _).grown hgrow (fun k hk => .inl (ownB_iff.2 hk))); have HB1 := Lib.hid ((HR.out.s.alloc _).touch HT.out (fun e => by obtain ⟨a, ha, hb⟩ := e; cases ha; simp at hb; omega)); have g3 := HB1.out.cell 3 rfl; have f3' := HB1.out.free 3; clear hown hgrow hat)
  simp only [Nat.zero_add, List.nil_append] at HOw
  obtain ⟨g, rfl, hBg, hcc, hr4, ht4⟩ := ref_spread HR.out ((Below.refl _ _).alloc (Nat.le_refl _) _) (Nat.le_refl _) HT.out HOw.out HN.out hn0
  refine gen_world' (fun W => RefAt W rs g cap' A q cs D Bk N ∧ Touch (fun k => k = rs) w W) ⟨hr4, ht4⟩ ?_
  clear hr4 ht4 g3 f3' HB1 HT HOw c3 d1 f3
  rintro w2 ⟨hr2, ht2⟩
  have HR2 := Lib.hid hr2
  have HT2 := Lib.hid ht2
  have hne : rs ≠ g := by omega
  clear hr2 ht2
  generalize hka : (cs.getD m default).kn = ka at HSa
  have HKa := Lib.hid hka
  clear hka
  refine wp_region_head 15 ?af (by kernel_rfl) (by kernel_rfl) ?walk ?tail
  case walk =>
    intro V hV
    have IV := HR2.out.below hV
    have e3 : V.cell? ⟨rs, 3, none⟩ = some (.slice (some ⟨g, 0, none⟩) n cap') := by rw [HN.out]; exact IV.s.cell 3 rfl
    have e2 : V.cell? ⟨g, m * 3 + 2, none⟩ = some (.int .i64 ka) := by rw [← HKa.out]; exact IV.a.cell hm 2 rfl
    have z1 := IV.s.lt
    have z2 := IV.a.lt
    clear IV
    simp only [List.take_succ_cons, List.take_zero]
    repeat (go_big_quiet_step (fail))
    refine wpQuiet_nil ?_
    rfl
  case tail =>
    intro w3 hb3
    have e2 : w3.cell? ⟨g, m * 3 + 2, none⟩ = some (.int .i64 ka) := by rw [← HKa.out]; exact (HR2.out.below hb3).a.cell hm 2 rfl
    have f2 := (HR2.out.below hb3).a.free (m * 3 + 2)
    simp only [List.drop_succ_cons, List.drop_zero]
    have hmx : (if ka < nu then nu else ka) = max ka nu := by split <;> omega
    try rw [hmx]
    have hm2 : (m : Int) < (n : Int) := by have := HN.out; omega
    go_wp2_with fail
    go_ret
    refine ⟨rfl, ⟨g, cap', A, q, ?_, hBg, fun i k hk => .inl hk⟩, (HT2.out.below hb3).setCell (.inr hBg) _⟩
    rw [HSa.out]
    exact (HR2.out.below hb3).setKn hm (max ka nu)
end Go.Proofs.Ytafajclbghofkaa
