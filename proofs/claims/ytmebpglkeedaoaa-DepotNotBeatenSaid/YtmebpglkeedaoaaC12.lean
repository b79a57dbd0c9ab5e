/- A slice of bools that is made; what lies in memory while a cut is marked. -/
import Derived.Test.YtmebpglkeedaoaaC11
import Derived.Test.YtmebpglkeedaoaaM4
namespace Go.Proofs.Ytmebpglkeedaoaa
open Go.RowKit Dp
set_option linter.unusedVariables false
theorem info4 : (Try.prog.info? 4).map (fun i => (i.zero, i.size, i.bytes)) = some (some (.bool false), 1, 1) := by kernel_rfl
theorem make_bools (n : Nat) (hn : n ≤ 4096) (W : World) : (Instr.makeSlice 93 (.int .i64 n) (.int .i64 n)).run Try.prog W = .ok (.slice (some ⟨W.heap.size, 0, none⟩) n n) (W.alloc (.cells (Array.replicate n (.bool false)) 4)) := by
  obtain ⟨i, hi, hz0, hz1, hz2⟩ := info_parts info4
  have hr := run_make (P := Try.prog) W 93 4 i _ Try.underlying93 hi hz0 .i64 .i64 n n (by omega) (by omega) (by rw [hz2]; omega) (by omega)
  simp only [Int.toNat_natCast, hz1, Nat.mul_one] at hr
  rw [hr]
  have e : madeCells (Value.bool false).cells n = Array.replicate n (.bool false) := by
    unfold madeCells
    apply Array.ext
    · simp
    · intro j h1 h2
      simp [Value.cells, Nat.mod_one]
  rw [e]
/-- the marks of the first k places of a cut -/
def marks (n : Nat) (c : List Int) (k : Nat) : List Value := (List.range n).map fun (i : Nat) => .bool (inK c k (i : Int))
theorem marks_zero (n : Nat) (c : List Int) : marks n c 0 = List.replicate n (.bool false) := by
  unfold marks
  apply List.ext_getElem
  · simp
  · intro i h1 h2
    simp [inK]
theorem marks_get {n : Nat} {c : List Int} {k i : Nat} (hi : i < n) : (marks n c k)[i]? = some (.bool (inK c k i)) := by
  unfold marks
  simp [hi]
theorem marks_succ {n : Nat} {c : List Int} {k : Nat} (hk : k < c.length) (h : cutAt n c k = true) : marks n c (k + 1) = (marks n c k).set (c.getD k 0).toNat (.bool true) := by
  have h1 := cutAt_iff.1 h
  apply List.ext_getElem
  · simp [marks]
  · intro i h2 h3
    rw [List.getElem_set]
    simp only [marks, List.getElem_map, List.getElem_range]
    rw [inK_succ hk]
    by_cases he : (c.getD k 0).toNat = i
    · rw [if_pos he]
      have : (i : Int) = c.getD k 0 := by omega
      rw [this]
      simp
    · rw [if_neg he]
      have : ¬ (i : Int) = c.getD k 0 := by omega
      rw [decide_eq_false this]
      simp
/-- memory while a cut is marked -/
def LkJ (w : World) (A B : Option Addr) (n cA m cB g : Nat) (c : List Int) (k : Nat) (W : World) : Prop := Below w.heap.size w W ∧ Blk W w.heap.size 25 [.slice A n cA, .slice B m cB] ∧ Blk W g 4 (marks n c k)
theorem LkJ.below {w : World} {A B : Option Addr} {n cA m cB g : Nat} {c : List Int} {k : Nat} {W W' : World} (h : LkJ w A B n cA m cB g c k W) (hb : Below W.heap.size W W') : LkJ w A B n cA m cB g c k W' :=
  ⟨h.1.trans (hb.mono h.1.size), h.2.1.below hb h.2.1.lt, h.2.2.below hb h.2.2.lt⟩
theorem LkJ.mark {w : World} {A B : Option Addr} {n cA m cB g : Nat} {c : List Int} {k : Nat} {W : World} (h : LkJ w A B n cA m cB g c k W) (hg : w.heap.size < g) (hk : k < c.length) (hc : cutAt n c k = true) : LkJ w A B n cA m cB g c (k + 1) (W.setCell ⟨g, (c.getD k 0).toNat, none⟩ (.bool true)) :=
  ⟨h.1.setCell (by simp; omega) _, h.2.1.setCell_ne (by simp; omega) _, by rw [marks_succ hk hc]; exact h.2.2.setCell _ _⟩
end Go.Proofs.Ytmebpglkeedaoaa
