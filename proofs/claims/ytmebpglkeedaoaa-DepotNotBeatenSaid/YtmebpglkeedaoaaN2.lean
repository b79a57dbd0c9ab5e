/- Rows of structs of the call's own: the cells of a list, one element behind the other. -/
import Derived.Test.YtmebpglkeedaoaaC5
import Derived.Test.YtmebpglkeedaoaaM6
import Derived.WalkSmall
namespace Go.Proofs.Ytmebpglkeedaoaa
open Go.RowKit Dp
set_option linter.unusedVariables false

def flat {α : Type} (f : α → List Value) (l : List α) : List Value := l.flatMap f
theorem flat_length {α : Type} {f : α → List Value} {s : Nat} (hf : ∀ x, (f x).length = s) : ∀ l : List α, (flat f l).length = l.length * s
  | [] => by simp [flat]
  | x :: l => by
    have := flat_length hf l
    unfold flat at *
    simp only [List.flatMap_cons, List.length_append, List.length_cons, hf, this, Nat.add_mul]
    omega
theorem flat_get {α : Type} {f : α → List Value} {s : Nat} (hf : ∀ x, (f x).length = s) : ∀ (l : List α) (i j : Nat) (x : α), l[i]? = some x → j < s → (flat f l)[i * s + j]? = (f x)[j]?
  | [], i, j, x, h, _ => by simp at h
  | y :: l, 0, j, x, h, hj => by
    simp only [List.getElem?_cons_zero, Option.some.injEq] at h
    subst h
    unfold flat
    rw [List.flatMap_cons, Nat.zero_mul, Nat.zero_add, List.getElem?_append_left (by rw [hf]; exact hj)]
  | y :: l, i + 1, j, x, h, hj => by
    simp only [List.getElem?_cons_succ] at h
    have ih := flat_get hf l i j x h hj
    unfold flat at *
    rw [List.flatMap_cons, List.getElem?_append_right (by rw [hf, Nat.add_mul]; omega), hf]
    rw [← ih]
    congr 1
    rw [Nat.add_mul]; omega
theorem flat_set {α : Type} {f : α → List Value} {s : Nat} (hf : ∀ x, (f x).length = s) (j : Nat) (v : Value) (hj : j < s) : ∀ (l : List α) (i : Nat) (x y : α), l[i]? = some y → f x = (f y).set j v → (flat f l).set (i * s + j) v = flat f (l.set i x)
  | [], i, x, y, h, _ => by simp at h
  | z :: l, 0, x, y, h, he => by
    simp only [List.getElem?_cons_zero, Option.some.injEq] at h
    subst h
    unfold flat
    rw [List.flatMap_cons, Nat.zero_mul, Nat.zero_add, List.set_append_left _ _ (by rw [hf]; exact hj), List.set_cons_zero, List.flatMap_cons, he]
  | z :: l, i + 1, x, y, h, he => by
    simp only [List.getElem?_cons_succ] at h
    have ih := flat_set hf j v hj l i x y h he
    unfold flat at *
    rw [List.flatMap_cons, List.set_cons_succ, List.flatMap_cons, List.set_append_right _ _ (by rw [hf, Nat.add_mul]; omega), hf, ← ih]
    congr 2
    rw [Nat.add_mul]; omega
theorem flat_append {α : Type} (f : α → List Value) (a b : List α) : flat f (a ++ b) = flat f a ++ flat f b := by simp [flat]
theorem flat_take {α : Type} {f : α → List Value} {s : Nat} (hf : ∀ x, (f x).length = s) : ∀ (l : List α) (k : Nat), (flat f l).take (k * s) = flat f (l.take k)
  | [], k => by simp [flat]
  | x :: l, 0 => by simp [flat]
  | x :: l, k + 1 => by
    have ih := flat_take hf l k
    unfold flat at *
    rw [List.flatMap_cons, List.take_succ_cons, List.flatMap_cons, ← ih, List.take_append, hf]
    have h1 : (f x).take ((k + 1) * s) = f x := List.take_of_length_le (by rw [hf, Nat.add_mul]; omega)
    rw [h1]
    congr 2
    rw [Nat.add_mul]; omega
theorem getElem_D {α : Type} (l : List α) (i : Nat) (d : α) (h : i < l.length) : l[i]? = some (l.getD i d) := by
  rw [List.getD_eq_getElem?_getD, List.getElem?_eq_getElem h]; rfl

/-- a row of structs of the call's own, at block g -/
def OwnR {α : Type} (f : α → List Value) (e : TypeId) (s : Nat) (B : Nat) (W : World) (A : Option Addr) (c : Nat) (l : List α) : Prop := W.ownsRow B e s (.slice A l.length c) l.length (flat f l)
section
variable {α : Type} {f : α → List Value} {e : TypeId} {s B : Nat} {W W' : World} {g c : Nat} {l : List α} {A : Option Addr}
theorem OwnR.cell (hf : ∀ x, (f x).length = s) (h : OwnR f e s B W (some ⟨g, 0, none⟩) c l) (i j : Nat) (x : α) (hx : l[i]? = some x) (hj : j < s) : W.cell? ⟨g, i * s + j, none⟩ = (f x)[j]? := by
  have hi : i < l.length := (List.getElem?_eq_some_iff.1 hx).1
  have : i * s + j < l.length * s := by
    have := Nat.mul_le_mul_right s (show i + 1 ≤ l.length from hi)
    rw [Nat.add_mul] at this
    omega
  rw [World.ownsRow.cellAt h _ this, flat_get hf l i j x hx hj]
theorem OwnR.free (h : OwnR f e s B W (some ⟨g, 0, none⟩) c l) (j : Nat) : W.frozen? ⟨g, j, none⟩ = false := World.ownsRow.frozenAt h j
theorem OwnR.put (hf : ∀ x, (f x).length = s) (h : OwnR f e s B W (some ⟨g, 0, none⟩) c l) (i j : Nat) (x y : α) (v : Value) (hy : l[i]? = some y) (hj : j < s) (he : f x = (f y).set j v) : OwnR f e s B (W.setCell ⟨g, i * s + j, none⟩ v) (some ⟨g, 0, none⟩) c (l.set i x) := by
  have := (World.ownsRow.stored h (i * s + j) v).1
  unfold OwnR
  rw [List.length_set, ← flat_set hf j v hj l i x y hy he]
  exact this
theorem OwnR.below (h : OwnR f e s B W A c l) (hb : Below W.heap.size W W') : OwnR f e s B W' A c l := ownBelow h hb
theorem OwnR.touch {S : Nat → Prop} (h : OwnR f e s B W A c l) (k : Touch S W W') (hn : ∀ b, OwnB A b → ¬ S b) : OwnR f e s B W' A c l := ownTouch h k hn
theorem OwnR.lt (h : OwnR f e s B W (some ⟨g, 0, none⟩) c l) : B ≤ g ∧ g < W.heap.size := World.ownsRow.lt h g rfl
theorem OwnR.mono {B' : Nat} (h : OwnR f e s B W A c l) (hb : B' ≤ B) : OwnR f e s B' W A c l := ⟨h.1, h.2.imp id (fun ⟨k, c, cur, hv, hb', r⟩ => ⟨k, c, cur, hv, Nat.le_trans hb hb', r⟩)⟩
theorem OwnR.form (h : OwnR f e s B W A c l) (hn : 0 < l.length) : ∃ g, A = some ⟨g, 0, none⟩ ∧ B ≤ g ∧ g < W.heap.size ∧ l.length ≤ c ∧ c ≤ 9223372036854775807 := by
  rcases h.2 with ⟨h0, h1⟩ | ⟨g, cap', cur, hv, hb, hg, hn', hcm, _⟩
  · omega
  · cases hv
    exact ⟨g, rfl, hb, (Array.getElem?_eq_some_iff.1 hg).1, hn', by unfold maxLen at hcm; omega⟩
theorem OwnR.set_ne (h : OwnR f e s B W A c l) {p : Addr} (hp : ¬ OwnB A p.block) (u : Value) : OwnR f e s B (W.setCell p u) A c l := ownSet h hp u
theorem OwnR.pop (hf : ∀ x, (f x).length = s) (h : OwnR f e s B W (some ⟨g, 0, none⟩) c l) (k : Nat) (hk : k + 1 = l.length) : OwnR f e s B W (some ⟨g, 0, none⟩) c (l.take k) := by
  unfold OwnR at h ⊢
  rw [← hk] at h
  have hl : (l.take k).length = k := by simp; omega
  rw [hl]
  have e1 : flat f l = flat f (l.take k) ++ flat f (l.drop k) := by rw [← flat_append, List.take_append_drop]
  rw [e1] at h
  exact ownsRow_pop (by rw [flat_length hf, hl]) h
end
end Go.Proofs.Ytmebpglkeedaoaa
