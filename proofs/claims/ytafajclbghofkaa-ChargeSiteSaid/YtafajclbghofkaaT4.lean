/- Grant of coulombref09's site: what it needs. -/
import Derived.Test.YtafajclbghofkaaT3
import Derived.Test.YtafajclbghofkaaR13
namespace Go.Proofs.Ytafajclbghofkaa
open Go.RowKit
set_option linter.unusedVariables false
namespace Sx
theorem live_ext {c : Cl} {t : Int} {l : Ls} (hn : c.kn ≤ l.n) (hu : t < l.u) (x : Int) : live ⟨live c t ++ [l], x, c.kn⟩ t = live c t ++ [l] := by
  unfold live
  simp only
  rw [List.filter_append, List.filter_filter]
  congr 1
  · congr 1
    funext y
    cases liveB c.kn t y <;> rfl
  · simp [liveB, hn, hu]
theorem r_ext {c : Cl} {t : Int} {l : Ls} (hn : c.kn ≤ l.n) (hu : t < l.u) (x : Int) : rD ⟨live c t ++ [l], x, c.kn⟩ t = max (rD c t) l.d ∧ rB ⟨live c t ++ [l], x, c.kn⟩ t = max (rB c t) l.b := by
  unfold rD rB
  rw [live_ext hn hu]
  exact ⟨mxD_snoc _ _, mxB_snoc _ _⟩
theorem okL_ext {c : Cl} (h : okL c.L) {t : Int} {l : Ls} (hl : (0 ≤ l.d ∧ l.d ≤ 1073741824) ∧ (0 ≤ l.b ∧ l.b ≤ 1073741824)) : okL (live c t ++ [l]) := fun y hy => by
  rcases List.mem_append.1 hy with hy | hy
  · exact okL_live h t y hy
  · obtain rfl : y = l := by simpa using hy
    exact hl
end Sx
section
variable {W : World} {rs rc cc : Nat} {A : Nat → Option Addr} {q : Nat → Nat} {cs : List Sx.Cl} {D Bk N : Int}
theorem lrow_ne {g B cap : Nat} {ty : TypeId} {cells : Array Value} {A : Option Addr} {L : List Ls} (h : LRow B A cap L W) (hg : W.heap[g]? = some (.cells cells ty (0, 0))) (hty : ty ≠ 43) : ¬ OwnB A g := fun hk => by
  rcases h.2 with ⟨h2, _⟩ | ⟨g', c, cur, hv, hb, hg', _⟩
  · obtain ⟨a, ha, _⟩ := hk
    rw [ha] at h2
    cases h2
  · obtain ⟨a, ha, hab⟩ := hk
    rw [ha] at hv
    cases hv
    simp at hab
    rw [← hab, hg'] at hg
    simp at hg
    exact hty hg.2.symm
theorem RefAt.setN (h : RefAt W rs rc cc A q cs D Bk N) (x : Int) : RefAt (W.setCell ⟨rs, 2, none⟩ (.int .i64 x)) rs rc cc A q cs D Bk x := by
  have ht := (Touch.refl (fun k => k = rs) W).put 2 (.int .i64 x)
  exact ⟨h.s.setCell 2 _, h.a.touch ht (fun e => h.rs_rc e.symm), fun i hi => rowE_keep (h.r i hi) ht (fun k hk e => h.ne_rs hi k hk e), h.c⟩
/-- a station is another -/
theorem RefAt.putSt (h : RefAt W rs rc cc A q cs D Bk N) {m : Nat} (hm : m < cs.length) (cl : Sx.Cl) {A2 : Option Addr} {c2 : Nat} (hrow : LRow 0 A2 c2 cl.L W) :
    RefAt (((W.setCell ⟨rc, m * 3, none⟩ (.slice A2 cl.L.length c2)).setCell ⟨rc, m * 3 + 1, none⟩ (.int .i64 cl.last)).setCell ⟨rc, m * 3 + 2, none⟩ (.int .i64 cl.kn)) rs rc cc (fun i => if i = m then A2 else A i) (fun i => if i = m then c2 else q i) (cs.set m cl) D Bk N := by
  have ht := (((Touch.refl (fun k => k = rc) W).put (m * 3) (.slice A2 cl.L.length c2)).put (m * 3 + 1) (.int .i64 cl.last)).put (m * 3 + 2) (.int .i64 cl.kn)
  have hne : ∀ k, OwnB A2 k → k ≠ rc := fun k hk e => by
    subst e
    obtain ⟨vs, h1, _⟩ := h.a
    exact lrow_ne hrow h1 (by decide) hk
  refine ⟨?_, ?_, fun i hi => ?_, by simpa using h.c⟩
  · have := h.s.touch ht h.rs_rc
    simpa using this
  · rw [List.length_set]
    have h1 := h.a.set hm (show 0 < 3 by omega) (fun i hi => clV_len _ _ _) (.slice A2 cl.L.length c2)
    have h2 := h1.set hm (show 1 < 3 by omega) (fun i hi => by by_cases him : i = m <;> simp [him, clV]) (.int .i64 cl.last)
    have h3 := h2.set hm (show 2 < 3 by omega) (fun i hi => by by_cases him : i = m <;> simp [him, clV]) (.int .i64 cl.kn)
    refine ArrAt.congr h3 (fun i hi => ?_)
    rw [Sx.getD_set' hm]
    by_cases him : i = m
    · subst him; simp [clV]
    · simp [him]
  · have hi' : i < cs.length := by simpa using hi
    rw [Sx.getD_set' hm]
    by_cases him : i = m
    · subst him
      simp only [if_true]
      exact rowE_keep hrow ht (fun k hk e => hne k hk e)
    · simp only [him, if_false]
      exact rowE_keep (h.r i hi') ht (fun k hk e => h.ne_rc hi' k hk e)
end
/-- Grant's variables in memory -/
structure GI (w : World) (b15 : Nat) (s0 s1 s2 : Value) (t0 t1 t2 t3 : Int) (W : World) : Prop where
  b : Below w.heap.size w W
  p : Blk W w.heap.size 43 [.int .i64 0, .int .i64 0, .int .i64 0, .int .i64 0]
  q : Blk W (w.heap.size + 1) 156 [s0, s1, s2]
  t : Blk W b15 43 [.int .i64 t0, .int .i64 t1, .int .i64 t2, .int .i64 t3]
theorem GI.touch {w W W' : World} {b15 : Nat} {s0 s1 s2 : Value} {t0 t1 t2 t3 : Int} {S : Nat → Prop} (h : GI w b15 s0 s1 s2 t0 t1 t2 t3 W) (ht : Touch S W W') (h1 : w.heap.size + 1 < b15) (hS : ∀ k, S k → b15 < k) : GI w b15 s0 s1 s2 t0 t1 t2 t3 W' :=
  ⟨Below.touch h.b h.b.size ht (fun k hk => by have := hS k hk; omega), h.p.touch ht (fun e => by have := hS _ e; omega), h.q.touch ht (fun e => by have := hS _ e; omega), h.t.touch ht (fun e => by have := hS _ e; omega)⟩
theorem GI.bel {w W W' : World} {b15 : Nat} {s0 s1 s2 : Value} {t0 t1 t2 t3 : Int} (h : GI w b15 s0 s1 s2 t0 t1 t2 t3 W) (hb : Below W.heap.size W W') : GI w b15 s0 s1 s2 t0 t1 t2 t3 W' :=
  ⟨bel_bel h.b hb, blk_bel hb h.p, blk_bel hb h.q, blk_bel hb h.t⟩
theorem GI.put3 {w W : World} {b15 g : Nat} {s0 s1 s2 u0 u1 u2 : Value} {t0 t1 t2 t3 : Int} (h : GI w b15 s0 s1 s2 t0 t1 t2 t3 W) (h1 : w.heap.size + 1 < b15) (hg : b15 < g) : GI w b15 s0 s1 s2 t0 t1 t2 t3 (((W.setCell ⟨g, 0, none⟩ u0).setCell ⟨g, 1, none⟩ u1).setCell ⟨g, 2, none⟩ u2) :=
  h.touch ((((Touch.refl (fun k => k = g) W).put 0 u0).put 1 u1).put 2 u2) h1 (fun k e => by omega)
theorem keep_ap {W W' : World} {B g d : Nat} {A1 : Option Addr} {V : List Ls} {cs : List Value} (ht : Touch (fun k => OwnB A1 k) W W') (hr : LRow B A1 d V W) (hk : Blk W g 156 cs) : Blk W' g 156 cs := hk.touch ht (lrow_ne hr hk (by decide))
/-- what the region of the next state reads -/
theorem gi_S {w W : World} {b15 : Nat} {s0 s1 s2 : Value} {t0 t1 t2 t3 : Int} (h : GI w b15 s0 s1 s2 t0 t1 t2 t3 W) :
    W.cell? ⟨w.heap.size + 1, 0, none⟩ = some s0 ∧ W.cell? ⟨w.heap.size + 1, 1, none⟩ = some s1 ∧ W.cell? ⟨w.heap.size + 1, 2, none⟩ = some s2 ∧ W.cell? ⟨b15, 0, none⟩ = some (.int .i64 t0) ∧ W.cell? ⟨b15, 1, none⟩ = some (.int .i64 t1) ∧ W.cell? ⟨b15, 2, none⟩ = some (.int .i64 t2) ∧ W.cell? ⟨b15, 3, none⟩ = some (.int .i64 t3) :=
  ⟨h.q.cell 0 rfl, h.q.cell 1 rfl, h.q.cell 2 rfl, h.t.cell 0 rfl, h.t.cell 1 rfl, h.t.cell 2 rfl, h.t.cell 3 rfl⟩
/-- behind the region of the next state -/
def J11 (w : World) (b15 : Nat) (s0 s1 s2 : Value) (t0 t1 t2 t3 : Int) (V : List Ls) (v : Value) (W : World) : Prop :=
  ∃ (g : Nat) (A' : Option Addr) (c' : Nat), v = .pointer (some ⟨g, 0, none⟩) ∧ GI w b15 s0 s1 s2 t0 t1 t2 t3 W ∧ Blk W g 156 [.slice A' (V.length + 1) c', .int .i64 t0, s2] ∧ LRow w.heap.size A' c' (V ++ [⟨t0, t1, t2, t3⟩]) W ∧ b15 < g
theorem j11_mk {w W : World} {b15 g n : Nat} {s0 s1 s2 : Value} {t0 t1 t2 t3 : Int} {V : List Ls} {A' : Option Addr} {c' : Nat} {u0 u1 u2 : Value} (hn : n = V.length) (h : GI w b15 s0 s1 s2 t0 t1 t2 t3 W) (h1 : w.heap.size + 1 < b15) (hg : b15 < g) (hk : Blk W g 156 [u0, u1, u2]) (hr : LRow w.heap.size A' c' (V ++ [⟨t0, t1, t2, t3⟩]) W) :
    J11 w b15 s0 s1 s2 t0 t1 t2 t3 V (.pointer (some ⟨g, 0, none⟩)) (((W.setCell ⟨g, 0, none⟩ (.slice A' (n + 1) c')).setCell ⟨g, 1, none⟩ (.int .i64 t0)).setCell ⟨g, 2, none⟩ s2) := by
  subst hn
  have ht := (((Touch.refl (fun k => k = g) W).put 0 (.slice A' (V.length + 1) c')).put 1 (.int .i64 t0)).put 2 s2
  have hne : ∀ k, OwnB A' k → k ≠ g := fun k hk2 e => by
    subst e
    exact lrow_ne hr hk (by decide) hk2
  exact ⟨g, A', c', rfl, h.touch ht h1 (fun k e => by omega), by simpa using ((hk.setCell 0 (.slice A' (V.length + 1) c')).setCell 1 (.int .i64 t0)).setCell 2 s2, rowE_keep hr ht (fun k hk e => hne k hk e), hg⟩
/-- Grant's variables and the next state -/
def GJ (w : World) (b15 g : Nat) (s0 s1 s2 u0 u1 u2 : Value) (t0 t1 t2 t3 : Int) (W : World) : Prop := GI w b15 s0 s1 s2 t0 t1 t2 t3 W ∧ Blk W g 156 [u0, u1, u2]
section
variable {w W W' : World} {b15 g : Nat} {s0 s1 s2 u0 u1 u2 : Value} {t0 t1 t2 t3 : Int}
theorem GJ.gi (h : GJ w b15 g s0 s1 s2 u0 u1 u2 t0 t1 t2 t3 W) : GI w b15 s0 s1 s2 t0 t1 t2 t3 W := h.1
theorem GJ.bel (h : GJ w b15 g s0 s1 s2 u0 u1 u2 t0 t1 t2 t3 W) (hb : Below W.heap.size W W') : GJ w b15 g s0 s1 s2 u0 u1 u2 t0 t1 t2 t3 W' := ⟨h.1.bel hb, blk_bel hb h.2⟩
theorem GJ.touch {S : Nat → Prop} (h : GJ w b15 g s0 s1 s2 u0 u1 u2 t0 t1 t2 t3 W) (ht : Touch S W W') (h1 : w.heap.size + 1 < b15) (hS : ∀ k, S k → b15 < k) (hg : ¬ S g) : GJ w b15 g s0 s1 s2 u0 u1 u2 t0 t1 t2 t3 W' := ⟨h.1.touch ht h1 hS, h.2.touch ht hg⟩
theorem GJ.put1 (h : GJ w b15 g s0 s1 s2 u0 u1 u2 t0 t1 t2 t3 W) (h1 : w.heap.size + 1 < b15) (hg : b15 < g) (v : Value) : GJ w b15 g s0 s1 s2 v u1 u2 t0 t1 t2 t3 (W.setCell ⟨g, 0, none⟩ v) :=
  ⟨h.1.touch ((Touch.refl (fun k => k = g) W).put 0 v) h1 (fun k e => by omega), by simpa using h.2.setCell 0 v⟩
end
theorem row_empty {W : World} {g B : Nat} (h : Blk W g 43 []) (hB : B ≤ g) : W.ownsRow B 43 4 (.slice (some ⟨g, 0, none⟩) 0 0) 0 [] := ⟨rfl, .inr ⟨g, 0, #[], rfl, hB, h, Nat.le_refl _, by decide, rfl, rfl⟩⟩
theorem blk_tch {S : Nat → Prop} {W W' : World} {g : Nat} {t : TypeId} {cs : List Value} (ht : Touch S W W') (h : Blk W g t cs) (hn : ¬ S g) : Blk W' g t cs := h.touch ht hn
/-- behind the region of the new leases -/
def J24 (w : World) (b15 g : Nat) (s0 s1 s2 u1 u2 : Value) (t0 t1 t2 t3 : Int) (L : List Ls) (W : World) : Prop :=
  ∃ (A' : Option Addr) (c' : Nat), GJ w b15 g s0 s1 s2 (.slice A' (L.length + 1) c') u1 u2 t0 t1 t2 t3 W ∧ LRow w.heap.size A' c' (L ++ [⟨t0, t1, t2, t3⟩]) W ∧ ∀ k, OwnB A' k → b15 < k
theorem RefAt.putSt2 {W : World} {rs rc cc : Nat} {A : Nat → Option Addr} {q : Nat → Nat} {cs : List Sx.Cl} {D Bk N : Int} (h : RefAt W rs rc cc A q cs D Bk N) {m n : Nat} (hm : m < cs.length) (L' : List Ls) (x kn : Int) (hn : n = L'.length) {A2 : Option Addr} {c2 : Nat} (hrow : LRow 0 A2 c2 L' W) :
    RefAt (((W.setCell ⟨rc, m * 3, none⟩ (.slice A2 n c2)).setCell ⟨rc, m * 3 + 1, none⟩ (.int .i64 x)).setCell ⟨rc, m * 3 + 2, none⟩ (.int .i64 kn)) rs rc cc (fun i => if i = m then A2 else A i) (fun i => if i = m then c2 else q i) (cs.set m ⟨L', x, kn⟩) D Bk N := by
  subst hn
  exact h.putSt hm ⟨L', x, kn⟩ hrow
theorem touch3 {S : Nat → Prop} {w W : World} {g : Nat} (h : Touch S w W) (hg : w.heap.size ≤ g) (a b c : Nat) (u v x : Value) : Touch S w (((W.setCell ⟨g, a, none⟩ u).setCell ⟨g, b, none⟩ v).setCell ⟨g, c, none⟩ x) :=
  ((h.setCell (p := ⟨g, a, none⟩) (.inr hg) u).setCell (p := ⟨g, b, none⟩) (.inr hg) v).setCell (p := ⟨g, c, none⟩) (.inr hg) x
theorem blk3 {W : World} {p g : Nat} {t : TypeId} {cs : List Value} (h : Blk W p t cs) (hg : p ≠ g) (a b c : Nat) (u v x : Value) : Blk (((W.setCell ⟨g, a, none⟩ u).setCell ⟨g, b, none⟩ v).setCell ⟨g, c, none⟩ x) p t cs :=
  h.touch ((((Touch.refl (fun k => k = g) W).put a u).put b v).put c x) hg
/-- what Grant of the reference leaves -/
def GrRPost (w : World) (rs : Nat) (A : Nat → Option Addr) (cs : List Sx.Cl) (D Bk N s dr bk un now : Int) (e : Ending) (w' : World) : Prop :=
  ∃ l, l = Sx.grL cs D Bk N s dr bk un now ∧ e = .returned (.tuple #[.agg #[.int .i64 l.n, .int .i64 l.d, .int .i64 l.b, .int .i64 l.u], .int .i64 (Sx.grE cs D Bk N s dr bk un now)]) ∧
    (Sx.grE cs D Bk N s dr bk un now ≠ 0 → Below w.heap.size w w') ∧ (Sx.grE cs D Bk N s dr bk un now = 0 → RTo w rs A (Sx.grS cs D Bk N s dr bk un now) D Bk (Sx.grN cs D Bk N s dr bk un now) w')
theorem grPostR_no {w w' : World} {rs : Nat} {A : Nat → Option Addr} {cs : List Sx.Cl} {D Bk N s dr bk un now er : Int} (he : Sx.grE cs D Bk N s dr bk un now = er) (h0 : er ≠ 0) (hb : Below w.heap.size w w') :
    GrRPost w rs A cs D Bk N s dr bk un now (.returned (.tuple #[.agg #[.int .i64 0, .int .i64 0, .int .i64 0, .int .i64 0], .int .i64 er])) w' := by
  subst he
  exact ⟨⟨0, 0, 0, 0⟩, by unfold Sx.grL; rw [if_neg h0], rfl, fun _ => hb, fun e => absurd e h0⟩
theorem grPostR_yes {w W : World} {rs rc' cc' m : Nat} {A A' : Nat → Option Addr} {q' : Nat → Nat} {cs : List Sx.Cl} {cm : Sx.Cl} {D Bk N dr bk un now : Int} (hcm : cm = cs.getD m default) (he : Sx.grE cs D Bk N m dr bk un now = 0)
    (h : RefAt W rs rc' cc' A' q' (cs.set m ⟨cm.L ++ [⟨cm.last + 1, dr, bk, un⟩], cm.last + 1, cm.kn⟩) D Bk now) (hr : w.heap.size ≤ rc') (hA : ∀ i k, OwnB (A' i) k → OwnB (A i) k ∨ w.heap.size ≤ k) (ht : Touch (fun k => k = rs) w W) :
    GrRPost w rs A cs D Bk N m dr bk un now (.returned (.tuple #[.agg #[.int .i64 (cm.last + 1), .int .i64 dr, .int .i64 bk, .int .i64 un], .int .i64 0])) W := by
  subst hcm
  refine ⟨⟨(cs.getD m default).last + 1, dr, bk, un⟩, ?_, by rw [he], fun e => absurd he e, fun _ => ⟨⟨rc', cc', A', q', ?_, hr, hA⟩, ht⟩⟩
  · unfold Sx.grL; rw [if_pos he]; rfl
  · unfold Sx.grS Sx.grN
    rw [if_pos he, if_pos he]
    exact h
end Go.Proofs.Ytafajclbghofkaa
