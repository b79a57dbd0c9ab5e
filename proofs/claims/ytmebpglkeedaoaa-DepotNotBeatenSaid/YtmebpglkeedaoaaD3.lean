/- Slices of numbers that are made; a graph in memory. -/
import Derived.Test.YtmebpglkeedaoaaD2
import Derived.Test.YtmebpglkeedaoaaM6
import Derived.Deep.LoopGhost
namespace Go.Proofs.Ytmebpglkeedaoaa
open Go.RowKit Dp
set_option linter.unusedVariables false

theorem add_row (g i : Nat) : (⟨g, 0, none⟩ : Addr).add i = ⟨g, i, none⟩ := by
  unfold Addr.add
  split
  · rename_i h; subst h; rfl
  · simp
/-- numbers in a block of their own -/
def Fl (e : TypeId) (W : World) (g : Nat) (xs : List Int) : Prop := Blk W g e (xs.map (Value.int .i64))
section
variable {e : TypeId} {W W' : World} {g : Nat} {xs : List Int}
theorem Fl.cell (h : Fl e W g xs) (k : Nat) (hk : k < xs.length) : W.cell? ⟨g, k, none⟩ = some (.int .i64 (xs.getD k 0)) := by
  refine Blk.cell h k ?_
  rw [List.getElem?_map, List.getElem?_eq_getElem hk, List.getD_eq_getElem?_getD, List.getElem?_eq_getElem hk]
  rfl
theorem Fl.free (h : Fl e W g xs) (k : Nat) : W.frozen? ⟨g, k, none⟩ = false := Blk.free h k
theorem Fl.lt (h : Fl e W g xs) : g < W.heap.size := Blk.lt h
theorem Fl.put (h : Fl e W g xs) (k : Nat) (v : Int) : Fl e (W.setCell ⟨g, k, none⟩ (.int .i64 v)) g (xs.set k v) := by
  unfold Fl
  rw [List.map_set]
  exact Blk.setCell h k _
theorem Fl.below (h : Fl e W g xs) (hb : Below W.heap.size W W') : Fl e W' g xs := Blk.below h hb h.lt
theorem Fl.set_ne (h : Fl e W g xs) {p : Addr} (hp : g ≠ p.block) (u : Value) : Fl e (W.setCell p u) g xs := Blk.setCell_ne h hp u
theorem Fl.touch {S : Nat → Prop} (h : Fl e W g xs) (k : Touch S W W') (hn : ¬ S g) : Fl e W' g xs := Blk.touch h k hn
theorem Fl.ints (h : Fl e W g xs) : IntsAt W (some ⟨g, 0, none⟩) xs := fun i hi => ⟨_, rfl, h.lt, by
  rw [add_row]
  exact h.cell i hi⟩
theorem Fl.ne {t : TypeId} {g' : Nat} {cs : List Value} (h : Fl e W g xs) (h' : Blk W g' t cs) (hn : e ≠ t) : g' ≠ g := blk_type_ne h h' hn
end
theorem own_ne {α : Type} {f : α → List Value} {e t : TypeId} {s B : Nat} {W : World} {A : Option Addr} {c g : Nat} {l : List α} {cs : List Value} (h : OwnR f e s B W A c l) (hb : OwnB A g) (h' : Blk W g t cs) (hn : e ≠ t) : False := by
  rcases h.2 with ⟨h0, _⟩ | ⟨g', cap', cur, hv, _, hg, _⟩
  · simp only [Value.slice.injEq] at h0
    obtain ⟨rfl, _⟩ := h0
    obtain ⟨a, ha, _⟩ := hb
    cases ha
  · simp only [Value.slice.injEq] at hv
    obtain ⟨rfl, _⟩ := hv
    have e1 := ownB_some.1 hb
    subst e1
    unfold Blk at h'
    rw [hg] at h'
    simp only [Option.some.injEq, Obj.cells.injEq] at h'
    exact hn h'.2.1
theorem info3 : (Try.prog.info? 3).map (fun i => (i.zero, i.size, i.bytes)) = some (some (.int .i64 0), 1, 8) := by kernel_rfl
theorem make_row (t e : TypeId) (ht : Try.prog.underlying t = some (.slice e)) (he : (Try.prog.info? e).map (fun i => (i.zero, i.size, i.bytes)) = some (some (.int .i64 0), 1, 8)) (n : Nat) (hn : n ≤ 4096) (W : World) :
    (Instr.makeSlice t (.int .i64 n) (.int .i64 n)).run Try.prog W = .ok (.slice (some ⟨W.heap.size, 0, none⟩) n n) (W.alloc (.cells (Array.replicate n (.int .i64 0)) e)) := by
  obtain ⟨i, hi, hz0, hz1, hz2⟩ := info_parts he
  have hr := run_make (P := Try.prog) W t e i _ ht hi hz0 .i64 .i64 n n (by omega) (by omega) (by rw [hz2]; omega) (by omega)
  simp only [Int.toNat_natCast, hz1, Nat.mul_one] at hr
  rw [hr]
  have e1 : madeCells (Value.int .i64 0).cells n = Array.replicate n (.int .i64 0) := by
    unfold madeCells
    apply Array.ext
    · simp
    · intro j h1 h2
      simp [Value.cells, Nat.mod_one]
  rw [e1]
theorem make_64 (n : Nat) (hn : n ≤ 4096) (W : World) : (Instr.makeSlice 22 (.int .i64 n) (.int .i64 n)).run Try.prog W = .ok (.slice (some ⟨W.heap.size, 0, none⟩) n n) (W.alloc (.cells (Array.replicate n (.int .i64 0)) 2)) := make_row 22 2 Try.underlying22 info2 n hn W
theorem make_int (n : Nat) (hn : n ≤ 4096) (W : World) : (Instr.makeSlice 26 (.int .i64 n) (.int .i64 n)).run Try.prog W = .ok (.slice (some ⟨W.heap.size, 0, none⟩) n n) (W.alloc (.cells (Array.replicate n (.int .i64 0)) 3)) := make_row 26 3 Try.underlying26 info3 n hn W
theorem fl_new (e : TypeId) (n : Nat) (W : World) : Fl e (W.alloc (.cells (Array.replicate n (.int .i64 0)) e)) W.heap.size (List.replicate n 0) := by
  have := Blk.new' W (Array.replicate n (.int .i64 0)) e
  unfold Fl
  simpa using this

def edC (x : Ed) : List Value := [.int .i64 x.to, .int .i64 x.room, .int .i64 x.cost]
theorem edC_len (x : Ed) : (edC x).length = 3 := rfl
/-- the lists of the nodes' edges -/
def OutsAt (w : World) (bo : Nat) (outs : List (List Int)) (S : Nat → Prop) : Prop :=
  ∀ i, i < outs.length → ∃ A c, w.cell? ⟨bo, i, none⟩ = some (.slice A (outs.getD i []).length c) ∧ (outs.getD i []).length ≤ c ∧ c ≤ 9223372036854775807 ∧ IntsAt w A (outs.getD i []) ∧ ∀ k, OwnB A k → k < w.heap.size ∧ ¬ S k
/-- a graph in memory: the struct at block b, what is left at gl, the edges at E, the lists of edges at bo -/
structure GrAt (w : World) (B b gl cl : Nat) (E : Option Addr) (ce bo : Nat) (G : Gr) : Prop where
  blk : Blk w b 113 [.slice (some ⟨gl, 0, none⟩) G.left.length cl, .slice E G.es.length ce, .slice (some ⟨bo, 0, none⟩) G.outs.length G.outs.length]
  left : OwnI B w gl cl G.left
  es : OwnR edC 144 3 B w E ce G.es
  outs : OutsAt w bo G.outs (fun k => k = b ∨ k = gl ∨ OwnB E k)
  bo : bo < w.heap.size ∧ bo ≠ b ∧ bo ≠ gl ∧ ¬ OwnB E bo
  ne : b ≠ gl ∧ ¬ OwnB E b ∧ ¬ OwnB E gl
  base : B ≤ b ∧ B ≤ gl
theorem OutsAt.below {w w' : World} {bo : Nat} {outs : List (List Int)} {S : Nat → Prop} (h : OutsAt w bo outs S) (hbo : bo < w.heap.size) (hb : Below w.heap.size w w') : OutsAt w' bo outs S := by
  intro i hi
  obtain ⟨A, c, h1, h2, h3, h4, h5⟩ := h i hi
  exact ⟨A, c, (hb.cell (p := ⟨bo, i, none⟩) hbo).trans h1, h2, h3, h4.below hb (Nat.le_refl _), fun k hk => ⟨Nat.lt_of_lt_of_le (h5 k hk).1 hb.size, (h5 k hk).2⟩⟩
theorem OutsAt.touch {w w' : World} {bo : Nat} {outs : List (List Int)} {S T : Nat → Prop} (h : OutsAt w bo outs S) (hbo : bo < w.heap.size) (hT : ¬ T bo) (hs : ∀ k, T k → S k) (k : Touch T w w') : OutsAt w' bo outs S := by
  intro i hi
  obtain ⟨A, c, h1, h2, h3, h4, h5⟩ := h i hi
  refine ⟨A, c, (k.cell (p := ⟨bo, i, none⟩) hbo hT).trans h1, h2, h3, fun j hj => ?_, fun q hq => ⟨Nat.lt_of_lt_of_le (h5 q hq).1 k.size, (h5 q hq).2⟩⟩
  obtain ⟨ad, e, hlt, hc⟩ := h4 j hj
  refine ⟨ad, e, Nat.lt_of_lt_of_le hlt k.size, (k.cell (p := ad.add j) (by rw [block_add]; exact hlt) (fun ht => ?_)).trans hc⟩
  rw [block_add] at ht
  exact (h5 ad.block ⟨ad, e, rfl⟩).2 (hs _ ht)
section
variable {w w' : World} {B b gl cl ce bo : Nat} {E : Option Addr} {G : Gr}
theorem GrAt.below (h : GrAt w B b gl cl E ce bo G) (hb : Below w.heap.size w w') : GrAt w' B b gl cl E ce bo G :=
  { blk := h.blk.below hb h.blk.lt, left := h.left.below hb, es := h.es.below hb, outs := h.outs.below h.bo.1 hb, bo := ⟨Nat.lt_of_lt_of_le h.bo.1 hb.size, h.bo.2⟩, ne := h.ne, base := h.base }
/-- an edge's cells -/
theorem GrAt.edge (h : GrAt w B b gl cl E ce bo G) (k : Nat) (hk : k < G.es.length) : ∃ ge, E = some ⟨ge, 0, none⟩ ∧ ge < w.heap.size ∧ w.cell? ⟨ge, k * 3, none⟩ = some (.int .i64 (G.es.getD k default).to) ∧ w.cell? ⟨ge, k * 3 + 1, none⟩ = some (.int .i64 (G.es.getD k default).room) ∧ w.cell? ⟨ge, k * 3 + 2, none⟩ = some (.int .i64 (G.es.getD k default).cost) := by
  obtain ⟨ge, rfl, _, h2, _⟩ := h.es.form (by omega)
  exact ⟨ge, rfl, h2, h.es.cell edC_len k 0 _ (getElem_D G.es k default hk) (by omega), h.es.cell edC_len k 1 _ (getElem_D G.es k default hk) (by omega), h.es.cell edC_len k 2 _ (getElem_D G.es k default hk) (by omega)⟩
end
end Go.Proofs.Ytmebpglkeedaoaa
