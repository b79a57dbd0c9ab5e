/- The contract of Shares of drive. -/
import Derived.Test.YtcneohhfnnelgaaW35
import Derived.Test.YtcneohhfnnelgaaR6
import Derived.Test.YtcneohhfnnelgaaR4
import Derived.Laws.MakeOwn
import Derived.Deep.AppendLies
namespace Go.Proofs.Ytcneohhfnnelgaa
open Go.RowKit
set_option linter.unusedVariables false

/-- what lies in memory while Shares runs -/
def ShI (w : World) (T : Int) (A : Option Addr) (xs : List Int) (cap : Nat) (W : World) : Prop := Blk W w.heap.size 2 [.int .i64 T] ∧ Blk W (w.heap.size + 1) 45 [.slice A xs.length cap] ∧ IntsAt W A xs ∧ Below w.heap.size w W
theorem ShI.below {w : World} {T : Int} {A : Option Addr} {xs : List Int} {cap : Nat} {W W' : World} (h : ShI w T A xs cap W) (hb : Below W.heap.size W W') : ShI w T A xs cap W' :=
  ⟨h.1.below hb h.1.lt, h.2.1.below hb h.2.1.lt, h.2.2.1.below hb, h.2.2.2.trans (hb.mono h.2.2.2.size)⟩
theorem ShI.start {w : World} {T : Int} {A : Option Addr} {xs : List Int} {cap : Nat} (h : IntsAt w A xs) : ShI w T A xs cap ((w.alloc (.cells #[.int .i64 T] 2)).alloc (.cells #[.slice A xs.length cap] 45)) :=
  ⟨(Blk.new' _ _ _).alloc _, by have := Blk.new' (w.alloc (.cells #[.int .i64 T] 2)) #[.slice A xs.length cap] 45; simp at this; exact this, h.below (((Below.refl _ _).alloc (Nat.le_refl _) _).alloc (by simp) _), (((Below.refl _ _).alloc (Nat.le_refl _) _).alloc (by simp) _)⟩
theorem ShI.b {w : World} {T : Int} {A : Option Addr} {xs : List Int} {cap : Nat} {W : World} (h : ShI w T A xs cap W) : W.cell? ⟨w.heap.size, 0, none⟩ = some (.int .i64 T) ∧ W.cell? ⟨w.heap.size + 1, 0, none⟩ = some (.slice A xs.length cap) := ⟨h.1.cell 0 rfl, h.2.1.cell 0 rfl⟩

theorem ShI.put {w : World} {T : Int} {A : Option Addr} {xs : List Int} {cap : Nat} {W : World} (hx : IntsAt w A xs) (h : ShI w T A xs cap W) (p : Addr) (hp : w.heap.size + 1 < p.block) (v : Value) : ShI w T A xs cap (W.setCell p v) :=
  have hb : Below w.heap.size w (W.setCell p v) := h.2.2.2.setCell (by omega) v
  ⟨h.1.setCell_ne (by omega) _, h.2.1.setCell_ne (by omega) _, hx.below hb, hb⟩
theorem info2 : (Try.prog.info? 2).map (fun i => (i.zero, i.size, i.bytes)) = some (some (.int .i64 0), 1, 8) := by kernel_rfl
set_option maxRecDepth 100000 in
theorem make_ints (n : Nat) (hn : n ≤ 1000) (W : World) : (Instr.makeSlice 45 (.int .i64 n) (.int .i64 n)).run Try.prog W = .ok (.slice (some ⟨W.heap.size, 0, none⟩) n n) (W.alloc (.cells (Array.replicate n (.int .i64 0)) 2)) := by
  obtain ⟨i, hi, hz0, hz1, hz2⟩ := info_parts info2
  have hr := run_make (P := Try.prog) W 45 2 i _ Try.underlying45 hi hz0 .i64 .i64 n n (by omega) (by omega) (by rw [hz2]; omega) (by omega)
  simp only [Int.toNat_natCast, hz1, Nat.mul_one] at hr
  rw [hr]
  have e : madeCells (Value.int .i64 0).cells n = Array.replicate n (.int .i64 0) := by
    unfold madeCells
    apply Array.ext
    · simp
    · intro j h1 h2
      simp [Value.cells, Nat.mod_one]
  rw [e]
/-- the block of the shares while it is filled -/
def Fill (W : World) (g : Nat) (n : Nat) (cs : List Int) : Prop := cs.length = n ∧ Blk W g 2 (cs.map (Value.int .i64))
theorem Fill.cell {W : World} {g n : Nat} {cs : List Int} (h : Fill W g n cs) (k : Nat) (hk : k < n) : W.cell? ⟨g, k, none⟩ = some (.int .i64 (cs.getD k 0)) := by
  have h1 := h.1
  exact h.2.cell k (by simp [List.getD, show k < cs.length by omega])
theorem Fill.put {W : World} {g n : Nat} {cs : List Int} (h : Fill W g n cs) (k : Nat) (v : Int) : Fill (W.setCell ⟨g, k, none⟩ (.int .i64 v)) g n (cs.set k v) := ⟨by rw [List.length_set]; exact h.1, by have := h.2.setCell k (.int .i64 v); rwa [← List.map_set] at this⟩
theorem Fill.new (W : World) (n : Nat) : Fill (W.alloc (.cells (Array.replicate n (.int .i64 0)) 2)) W.heap.size n (List.replicate n 0) := ⟨by simp, by have := Blk.new' W (Array.replicate n (.int .i64 0)) 2; simpa using this⟩
theorem Fill.alloc {W : World} {g n : Nat} {cs : List Int} (h : Fill W g n cs) (o : Obj) : Fill (W.alloc o) g n cs := ⟨h.1, h.2.alloc o⟩
theorem Fill.below {W W' : World} {g n : Nat} {cs : List Int} (h : Fill W g n cs) (hb : Below W.heap.size W W') : Fill W' g n cs := ⟨h.1, h.2.below hb h.2.lt⟩

/-- what lies in memory when the shares are made -/
def Sh2 (w : World) (T : Int) (A : Option Addr) (xs : List Int) (cap : Nat) (b8 O : Nat) (cs : List Int) (W : World) : Prop :=
  ShI w T A xs cap W ∧ Blk W b8 93 [.func (.func 90) #[] #[.pointer (some ⟨w.heap.size + 1, 0, none⟩)]] ∧ Fill W O xs.length cs ∧ Blk W (O + 1) 45 [.slice (some ⟨O, 0, none⟩) xs.length xs.length]
section
variable {w : World} {T : Int} {A : Option Addr} {xs : List Int} {cap b8 O : Nat} {cs : List Int} {W W' : World}
theorem Sh2.below (h : Sh2 w T A xs cap b8 O cs W) (hb : Below W.heap.size W W') : Sh2 w T A xs cap b8 O cs W' :=
  ⟨h.1.below hb, h.2.1.below hb h.2.1.lt, h.2.2.1.below hb, h.2.2.2.below hb h.2.2.2.lt⟩
theorem Sh2.put (hx : IntsAt w A xs) (h1 : w.heap.size + 1 < b8) (h2 : b8 < O) (h : Sh2 w T A xs cap b8 O cs W) (k : Nat) (v : Int) : Sh2 w T A xs cap b8 O (cs.set k v) (W.setCell ⟨O, k, none⟩ (.int .i64 v)) :=
  ⟨h.1.put hx _ (by simp; omega) _, h.2.1.setCell_ne (by simp; omega) _, h.2.2.1.put k v, h.2.2.2.setCell_ne (by simp) _⟩
theorem Sh2.cells (h : Sh2 w T A xs cap b8 O cs W) : W.cell? ⟨w.heap.size, 0, none⟩ = some (.int .i64 T) ∧ W.cell? ⟨w.heap.size + 1, 0, none⟩ = some (.slice A xs.length cap) ∧ W.cell? ⟨b8, 0, none⟩ = some (.func (.func 90) #[] #[.pointer (some ⟨w.heap.size + 1, 0, none⟩)]) ∧ W.cell? ⟨O + 1, 0, none⟩ = some (.slice (some ⟨O, 0, none⟩) xs.length xs.length) :=
  ⟨h.1.b.1, h.1.b.2, h.2.1.cell 0 rfl, h.2.2.2.cell 0 rfl⟩
end
theorem getD_set (cs : List Int) (k j : Nat) (v : Int) (hk : k < cs.length) : (cs.set k v).getD j 0 = if j = k then v else cs.getD j 0 := by
  simp only [List.getD, List.getElem?_set]
  by_cases h : j = k
  · subst h; simp [hk]
  · simp [h, Ne.symm h]
theorem hungry_c (A B : Option Addr) (n m c d : Nat) (W : World) : Calls Try.prog 93 #[.slice A n c, .slice B m d] W fun e W' => e = .returned (.func (.func 119) #[] #[.pointer (some ⟨W.heap.size, 0, none⟩), .pointer (some ⟨W.heap.size + 1, 0, none⟩)]) ∧ Below W.heap.size W W' ∧ Blk W' W.heap.size 45 [.slice A n c] ∧ Blk W' (W.heap.size + 1) 45 [.slice B m d] := by
  go_enter Try.func93, Try.ntmps93
  go_wp2
  go_ret
  exact ⟨rfl, ((Below.refl _ _).alloc (Nat.le_refl _) _).alloc (by simp) _, (Blk.new' _ _ _).alloc _, by have := Blk.new' (W.alloc (.cells #[.slice A n c] 45)) #[.slice B m d] 45; simpa using this⟩
end Go.Proofs.Ytcneohhfnnelgaa
