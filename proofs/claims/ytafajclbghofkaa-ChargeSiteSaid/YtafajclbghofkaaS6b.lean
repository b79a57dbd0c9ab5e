/- A site of charge: a station's leases, and what it knows, are others. -/
import Derived.Test.YtafajclbghofkaaS6
namespace Go.Proofs.Ytafajclbghofkaa
open Go.RowKit
set_option linter.unusedVariables false
section
variable {W : World} {B gs gc cc : Nat} {A : Nat → Option Addr} {q : Nat → Nat} {cs : List Sx.Cl} {D Bk N : Int}
theorem SiteAt.ne_gs (h : SiteAt W B gs gc cc A q cs D Bk N) {i : Nat} (hi : i < cs.length) : ∀ k, OwnB (A i) k → k ≠ gs := fun k hk e => by
  subst e
  rcases (h.r i hi).2 with ⟨h2, _⟩ | ⟨g, c, cur, hv, hb, hg, _⟩
  · obtain ⟨a, ha, _⟩ := hk
    rw [ha] at h2
    cases h2
  · obtain ⟨a, ha, hab⟩ := hk
    rw [ha] at hv
    cases hv
    simp at hab
    have h2 := h.s
    unfold Blk at h2
    rw [← hab, hg] at h2
    simp at h2
theorem SiteAt.ne_gc (h : SiteAt W B gs gc cc A q cs D Bk N) {i : Nat} (hi : i < cs.length) : ∀ k, OwnB (A i) k → k ≠ gc := fun k hk e => by
  subst e
  rcases (h.r i hi).2 with ⟨h2, _⟩ | ⟨g, c, cur, hv, hb, hg, _⟩
  · obtain ⟨a, ha, _⟩ := hk
    rw [ha] at h2
    cases h2
  · obtain ⟨a, ha, hab⟩ := hk
    rw [ha] at hv
    cases hv
    simp at hab
    obtain ⟨vs, h1, _⟩ := h.a
    rw [← hab, hg] at h1
    simp at h1
theorem SiteAt.gs_gc (h : SiteAt W B gs gc cc A q cs D Bk N) : gs ≠ gc := fun e => by
  obtain ⟨vs, h1, _⟩ := h.a
  have h2 := h.s
  unfold Blk at h2
  rw [← e, h2] at h1
  simp at h1
theorem SiteAt.row_lt (h : SiteAt W B gs gc cc A q cs D Bk N) {i : Nat} (hi : i < cs.length) {k : Nat} (hk : OwnB (A i) k) : k < W.heap.size := (rowE_lt (h.r i hi) hk).2
/-- what a station knows is another -/
theorem SiteAt.setKn (h : SiteAt W B gs gc cc A q cs D Bk N) {m : Nat} (hm : m < cs.length) (x : Int) : SiteAt (W.setCell ⟨gc, m * 3 + 2, none⟩ (.int .i64 x)) B gs gc cc A q (cs.set m { (cs.getD m default) with kn := x }) D Bk N := by
  have ht := (Touch.refl (fun k => k = gc) W).put (m * 3 + 2) (.int .i64 x)
  have hd : ∀ i, i < cs.length → (cs.set m { (cs.getD m default) with kn := x }).getD i default = if i = m then { (cs.getD m default) with kn := x } else cs.getD i default := fun i hi => Sx.getD_set' hm _ i
  refine ⟨?_, ?_, fun i hi => ?_, fun i j hi hj => h.ne i j (by simpa using hi) (by simpa using hj), h.b, by simpa using h.c⟩
  · have := h.s.touch ht h.gs_gc
    simpa using this
  · rw [List.length_set]
    refine (h.a.set hm (show 2 < 3 by omega) (fun i hi => clV_len _ _ _) _).congr (fun i hi => ?_)
    rw [hd i hi]
    by_cases him : i = m
    · subst him; simp [clV]
    · simp [him]
  · have hi' : i < cs.length := by simpa using hi
    have := rowE_keep (h.r i hi') ht (fun k hk e => h.ne_gc hi' k hk e)
    rw [hd i hi']
    by_cases him : i = m
    · subst him; simpa using this
    · simpa [him] using this
/-- a station's leases are others -/
theorem SiteAt.put (h : SiteAt W B gs gc cc A q cs D Bk N) {m : Nat} (hm : m < cs.length) {W1 : World} (ht : Touch (fun k => OwnB (A m) k) W W1) {A' : Option Addr} {cap' : Nat} {L' : List Ls} (hrow : LRow B A' cap' L' W1) (hA : ∀ k, OwnB A' k → OwnB (A m) k ∨ W.heap.size ≤ k) :
    SiteAt (W1.setCell ⟨gc, m * 3, none⟩ (.slice A' L'.length cap')) B gs gc cc (fun i => if i = m then A' else A i) (fun i => if i = m then cap' else q i) (cs.set m { (cs.getD m default) with L := L' }) D Bk N := by
  have hd : ∀ i, i < cs.length → (cs.set m { (cs.getD m default) with L := L' }).getD i default = if i = m then { (cs.getD m default) with L := L' } else cs.getD i default := fun i hi => Sx.getD_set' hm _ i
  have hs1 := h.s.touch ht (fun e => h.ne_gs hm _ e rfl)
  have ha1 := h.a.touch ht (fun e => h.ne_gc hm _ e rfl)
  have hr1 : ∀ i, i < cs.length → i ≠ m → LRow B (A i) (q i) (cs.getD i default).L W1 := fun i hi him => rowE_keep (h.r i hi) ht (fun k hk e => h.ne i m hi hm him k hk e)
  have hA' : ∀ k, OwnB A' k → k ≠ gc := fun k hk e => by
    rcases hA k hk with h1 | h1
    · exact h.ne_gc hm k h1 e
    · have := h.a.lt; omega
  have ht2 := (Touch.refl (fun k => k = gc) W1).put (m * 3) (.slice A' L'.length cap')
  refine ⟨?_, ?_, fun i hi => ?_, fun i j hi hj hij k h1 h2 => ?_, h.b, by simpa using h.c⟩
  · have := hs1.touch ht2 h.gs_gc
    simpa using this
  · rw [List.length_set]
    refine (ha1.set hm (show 0 < 3 by omega) (fun i hi => clV_len _ _ _) _).congr (fun i hi => ?_)
    rw [hd i hi]
    by_cases him : i = m
    · subst him; simp [clV]
    · simp [him]
  · have hi' : i < cs.length := by simpa using hi
    rw [hd i hi']
    by_cases him : i = m
    · subst him
      simp only [if_true]
      exact rowE_keep hrow ht2 (fun k hk e => hA' k hk e)
    · simp only [him, if_false]
      exact rowE_keep (hr1 i hi' him) ht2 (fun k hk e => h.ne_gc hi' k hk e)
  · have hi' : i < cs.length := by simpa using hi
    have hj' : j < cs.length := by simpa using hj
    by_cases him : i = m
    · subst him
      have hjm : j ≠ i := fun e => hij e.symm
      simp only [if_true, hjm, if_false] at h1 h2
      rcases hA k h1 with h3 | h3
      · exact h.ne i j hm hj' hij k h3 h2
      · have := h.row_lt hj' h2; omega
    · by_cases hjm : j = m
      · subst hjm
        simp only [if_true, him, if_false] at h1 h2
        rcases hA k h2 with h3 | h3
        · exact h.ne i j hi' hm hij k h1 h3
        · have := h.row_lt hi' h1; omega
      · simp only [him, hjm, if_false] at h1 h2
        exact h.ne i j hi' hj' hij k h1 h2
end
end Go.Proofs.Ytafajclbghofkaa
