/- Grant of charge: plain words, memory. -/
import Derived.Test.YtafajclbghofkaaS5
import Derived.Test.YtafajclbghofkaaR4
import Derived.Test.YtafajclbghofkaaR2
import Derived.Deep.Cut
namespace Go.Proofs.Ytafajclbghofkaa
open Go.RowKit
set_option linter.unusedVariables false
namespace Sx
def grE (cs : List Cl) (D B N s dr bk un now : Int) : Int := if 0 ≤ s ∧ s < cs.length then gE cs D B N s.toNat dr bk un now else 3
def grL (cs : List Cl) (D B N s dr bk un now : Int) : Ls := if grE cs D B N s dr bk un now = 0 then gLs cs s.toNat dr bk un else ⟨0, 0, 0, 0⟩
def grS (cs : List Cl) (D B N s dr bk un now : Int) : List Cl := if grE cs D B N s dr bk un now = 0 then gS cs s.toNat dr bk un else cs
def grN (cs : List Cl) (D B N s dr bk un now : Int) : Int := if grE cs D B N s dr bk un now = 0 then now else N
end Sx
/-- what Grant leaves -/
def GrPost (w : World) (B gs gc cc : Nat) (A : Nat → Option Addr) (q : Nat → Nat) (cs : List Sx.Cl) (D Bk N s dr bk un now : Int) (e : Ending) (w' : World) : Prop :=
  ∃ (A' : Nat → Option Addr) (q' : Nat → Nat) (l : Ls), l = Sx.grL cs D Bk N s dr bk un now ∧ e = .returned (.tuple #[.agg #[.int .i64 l.n, .int .i64 l.d, .int .i64 l.b, .int .i64 l.u], .int .i64 (Sx.grE cs D Bk N s dr bk un now)]) ∧
    SiteAt w' B gs gc cc A' q' (Sx.grS cs D Bk N s dr bk un now) D Bk (Sx.grN cs D Bk N s dr bk un now) ∧ Touch (SOwn gs gc A cs.length) w w' ∧ ∀ i k, OwnB (A' i) k → OwnB (A i) k ∨ w.heap.size ≤ k
theorem grPost_no {w w' : World} {B gs gc cc : Nat} {A : Nat → Option Addr} {q : Nat → Nat} {cs : List Sx.Cl} {D Bk N s dr bk un now er : Int} (he : Sx.grE cs D Bk N s dr bk un now = er) (h0 : er ≠ 0) (h : SiteAt w B gs gc cc A q cs D Bk N) (hb : Below w.heap.size w w') :
    GrPost w B gs gc cc A q cs D Bk N s dr bk un now (.returned (.tuple #[.agg #[.int .i64 0, .int .i64 0, .int .i64 0, .int .i64 0], .int .i64 er])) w' := by
  subst he
  refine ⟨A, q, ⟨0, 0, 0, 0⟩, by unfold Sx.grL; rw [if_neg h0], rfl, ?_, Touch.of_below hb, fun i k hk => .inl hk⟩
  unfold Sx.grS Sx.grN
  rw [if_neg h0, if_neg h0]
  exact h.below hb
/-- Grant's variables in memory -/
structure GrI (N0 gs : Nat) (s dr bk now : Int) (W : World) : Prop where
  p6 : Blk W N0 93 [.pointer (some ⟨gs, 0, none⟩)]
  p7 : Blk W (N0 + 1) 3 [.int .i64 s]
  p8 : Blk W (N0 + 2) 2 [.int .i64 dr]
  p9 : Blk W (N0 + 3) 2 [.int .i64 bk]
  p11 : Blk W (N0 + 4) 2 [.int .i64 now]
  p12 : Blk W (N0 + 5) 43 [.int .i64 0, .int .i64 0, .int .i64 0, .int .i64 0]
theorem GrI.touch {N0 gs : Nat} {s dr bk now : Int} {W W' : World} {S : Nat → Prop} (h : GrI N0 gs s dr bk now W) (ht : Touch S W W') (hn : ∀ k, N0 ≤ k → ¬ S k) : GrI N0 gs s dr bk now W' :=
  ⟨h.p6.touch ht (hn _ (Nat.le_refl _)), h.p7.touch ht (hn _ (by omega)), h.p8.touch ht (hn _ (by omega)), h.p9.touch ht (hn _ (by omega)), h.p11.touch ht (hn _ (by omega)), h.p12.touch ht (hn _ (by omega))⟩
theorem GrI.below {N0 gs : Nat} {s dr bk now : Int} {W W' : World} (h : GrI N0 gs s dr bk now W) (hb : Below W.heap.size W W') : GrI N0 gs s dr bk now W' := h.touch (Touch.of_below (S := fun _ => False) hb) (fun _ _ e => e)
theorem GrI.start (w : World) (gs : Nat) (s dr bk now : Int) :
    Below w.heap.size w ((((((w.alloc (.cells #[.pointer (some ⟨gs, 0, none⟩)] 93)).alloc (.cells #[.int .i64 s] 3)).alloc (.cells #[.int .i64 dr] 2)).alloc (.cells #[.int .i64 bk] 2)).alloc (.cells #[.int .i64 now] 2)).alloc (.cells #[.int .i64 0, .int .i64 0, .int .i64 0, .int .i64 0] 43)) ∧
    GrI w.heap.size gs s dr bk now ((((((w.alloc (.cells #[.pointer (some ⟨gs, 0, none⟩)] 93)).alloc (.cells #[.int .i64 s] 3)).alloc (.cells #[.int .i64 dr] 2)).alloc (.cells #[.int .i64 bk] 2)).alloc (.cells #[.int .i64 now] 2)).alloc (.cells #[.int .i64 0, .int .i64 0, .int .i64 0, .int .i64 0] 43)) := by
  have b0 := Blk.new' w #[.pointer (some ⟨gs, 0, none⟩)] 93
  have b1 := Blk.new' (w.alloc (.cells #[.pointer (some ⟨gs, 0, none⟩)] 93)) #[.int .i64 s] 3
  have b2 := Blk.new' ((w.alloc (.cells #[.pointer (some ⟨gs, 0, none⟩)] 93)).alloc (.cells #[.int .i64 s] 3)) #[.int .i64 dr] 2
  have b3 := Blk.new' (((w.alloc (.cells #[.pointer (some ⟨gs, 0, none⟩)] 93)).alloc (.cells #[.int .i64 s] 3)).alloc (.cells #[.int .i64 dr] 2)) #[.int .i64 bk] 2
  have b4 := Blk.new' ((((w.alloc (.cells #[.pointer (some ⟨gs, 0, none⟩)] 93)).alloc (.cells #[.int .i64 s] 3)).alloc (.cells #[.int .i64 dr] 2)).alloc (.cells #[.int .i64 bk] 2)) #[.int .i64 now] 2
  have b5 := Blk.new' (((((w.alloc (.cells #[.pointer (some ⟨gs, 0, none⟩)] 93)).alloc (.cells #[.int .i64 s] 3)).alloc (.cells #[.int .i64 dr] 2)).alloc (.cells #[.int .i64 bk] 2)).alloc (.cells #[.int .i64 now] 2)) #[.int .i64 0, .int .i64 0, .int .i64 0, .int .i64 0] 43
  simp only [World.size_alloc] at b1 b2 b3 b4 b5
  exact ⟨(((((((Below.refl _ _).alloc (Nat.le_refl _) _).alloc (by simp) _).alloc (by simp; omega) _).alloc (by simp; omega) _).alloc (by simp; omega) _).alloc (by simp; omega) _), ((((b0.alloc _).alloc _).alloc _).alloc _).alloc _, (((b1.alloc _).alloc _).alloc _).alloc _, ((b2.alloc _).alloc _).alloc _, (b3.alloc _).alloc _, b4.alloc _, b5⟩
theorem gen_world' {P : Program} {c : Code} {Q : Exit → Act → World → Prop} {a : Act} {W : World} (J : World → Prop) (hJ : J W) (h : ∀ W', J W' → Code.wp P c Q a W') : Code.wp P c Q a W := h W hJ
section
variable {W : World} {B gs gc cc : Nat} {A : Nat → Option Addr} {q : Nat → Nat} {cs : List Sx.Cl} {D Bk N : Int}
theorem clV_len (A : Option Addr) (q : Nat) (c : Sx.Cl) : (clV A q c).length = 3 := rfl
/-- the site's time is another -/
theorem SiteAt.setN (h : SiteAt W B gs gc cc A q cs D Bk N) (x : Int) : SiteAt (W.setCell ⟨gs, 2, none⟩ (.int .i64 x)) B gs gc cc A q cs D Bk x := by
  have ht := (Touch.refl (fun k => k = gs) W).put 2 (.int .i64 x)
  have hgc : gc ≠ gs := fun e => by
    obtain ⟨vs, h1, _⟩ := h.a
    have h2 := h.s
    unfold Blk at h2
    rw [e, h2] at h1
    simp at h1
  have hr : ∀ i, i < cs.length → ∀ k, OwnB (A i) k → k ≠ gs := fun i hi k hk e => by
    subst e
    rcases (h.r i hi).2 with ⟨h2, _⟩ | ⟨g, c, cur, hv, hb, hg, _⟩
    · obtain ⟨a, ha, _⟩ := hk
      rw [ha] at h2
      cases h2
    · obtain ⟨a, ha, hab⟩ := hk
      rw [ha] at hv
      cases hv
      simp at hab
      have h2 := h.s
      unfold Blk at h2
      rw [← hab, hg] at h2
      simp at h2
  exact ⟨h.s.setCell 2 _, h.a.touch ht hgc, fun i hi => rowE_keep (h.r i hi) ht (fun k hk e => hr i hi k hk e), h.ne, h.b, h.c⟩
/-- a station's number of the last lease is another -/
theorem SiteAt.setLast (h : SiteAt W B gs gc cc A q cs D Bk N) {m : Nat} (hm : m < cs.length) (x : Int) : SiteAt (W.setCell ⟨gc, m * 3 + 1, none⟩ (.int .i64 x)) B gs gc cc A q (cs.set m { (cs.getD m default) with last := x }) D Bk N := by
  have ht := (Touch.refl (fun k => k = gc) W).put (m * 3 + 1) (.int .i64 x)
  have hgs : gs ≠ gc := fun e => by
    obtain ⟨vs, h1, _⟩ := h.a
    have h2 := h.s
    unfold Blk at h2
    rw [← e, h2] at h1
    simp at h1
  have hr : ∀ i, i < cs.length → ∀ k, OwnB (A i) k → k ≠ gc := fun i hi k hk e => by
    subst e
    rcases (h.r i hi).2 with ⟨h2, _⟩ | ⟨g, c, cur, hv, hb, hg, _⟩
    · obtain ⟨a, ha, _⟩ := hk
      rw [ha] at h2
      cases h2
    · obtain ⟨a, ha, hab⟩ := hk
      rw [ha] at hv
      cases hv
      simp at hab
      obtain ⟨vs, h1, _⟩ := h.a
      rw [← hab, hg] at h1
      simp at h1
  have hd : ∀ i, i < cs.length → (cs.set m { (cs.getD m default) with last := x }).getD i default = if i = m then { (cs.getD m default) with last := x } else cs.getD i default := fun i hi => Sx.getD_set' hm _ i
  refine ⟨?_, ?_, fun i hi => ?_, fun i j hi hj => h.ne i j (by simpa using hi) (by simpa using hj), h.b, by simpa using h.c⟩
  · have := h.s.touch ht hgs
    simpa using this
  · rw [List.length_set]
    refine (h.a.set hm (show 1 < 3 by omega) (fun i hi => clV_len _ _ _) _).congr (fun i hi => ?_)
    rw [hd i hi]
    by_cases him : i = m
    · subst him; simp [clV]
    · simp [him]
  · have hi' : i < cs.length := by simpa using hi
    have := rowE_keep (h.r i hi') ht (fun k hk e => hr i hi' k hk e)
    rw [hd i hi']
    by_cases him : i = m
    · subst him; simpa using this
    · simpa [him] using this
end
end Go.Proofs.Ytafajclbghofkaa
