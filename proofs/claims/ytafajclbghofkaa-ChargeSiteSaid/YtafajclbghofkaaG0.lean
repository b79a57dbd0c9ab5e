/- Plain: the digest of a message of eight bytes, by Horner's rule and by powers; rows of two kinds. No program is in sight. -/
import Derived.Test.YtafajclbghofkaaH2
namespace Go.Proofs.Ytafajclbghofkaa
open Go.RowKit
set_option linter.unusedVariables false
namespace Pf
theorem mul_pos_bd {x y A B : Int} (hx : 0 ≤ x ∧ x ≤ A) (hy : 0 ≤ y ∧ y ≤ B) : 0 ≤ x * y ∧ x * y ≤ A * B :=
  ⟨Int.mul_nonneg hx.1 hy.1, Int.mul_le_mul hx.2 hy.2 hy.1 (Int.le_trans hx.1 hx.2)⟩
def wd (a b c : Int) : Int := 256 * (256 * a + b) + c
theorem wd_bd {a b c : Int} (ha : 0 ≤ a ∧ a ≤ 255) (hb : 0 ≤ b ∧ b ≤ 255) (hc : 0 ≤ c ∧ c ≤ 255) : 0 ≤ wd a b c ∧ wd a b c ≤ 16777215 := by unfold wd; omega
/-- Horner's rule -/
def horn (x : Int) (l : List Int) : Int := l.foldl (fun s w => (s + w) * x % 2147483647) 0
theorem horn_snoc (x : Int) (l : List Int) (w : Int) : horn x (l ++ [w]) = (horn x l + w) * x % 2147483647 := by unfold horn; rw [List.foldl_append]; rfl
theorem horn_bd (x : Int) (l : List Int) : 0 ≤ horn x l ∧ horn x l ≤ 2147483646 := by
  rcases List.eq_nil_or_concat l with rfl | ⟨l', w, rfl⟩
  · unfold horn; simp
  · rw [List.concat_eq_append, horn_snoc]
    exact ⟨Int.emod_nonneg _ (by decide), by have := Int.emod_lt_of_pos ((horn x l' + w) * x) (show (0 : Int) < 2147483647 by decide); omega⟩
/-- the power that comes after k words from behind -/
def pw (x : Int) : Nat → Int
  | 0 => x
  | k + 1 => pw x k * x % 2147483647
/-- the sum of k words from behind -/
def sm (x : Int) (l : List Int) : Nat → Int
  | 0 => 0
  | k + 1 => (sm x l k + l.getD (l.length - 1 - k) 0 % 2147483647 * pw x k) % 2147483647
theorem pw_bd {x : Int} (hx : 0 ≤ x ∧ x ≤ 2147483646) (k : Nat) : 0 ≤ pw x k ∧ pw x k ≤ 2147483646 := by
  cases k with
  | zero => exact hx
  | succ k => exact ⟨Int.emod_nonneg _ (by decide), by have := Int.emod_lt_of_pos (pw x k * x) (show (0 : Int) < 2147483647 by decide); unfold pw; omega⟩
theorem sm_bd (x : Int) (l : List Int) (k : Nat) : 0 ≤ sm x l k ∧ sm x l k ≤ 2147483646 := by
  cases k with
  | zero => unfold sm; omega
  | succ k => exact ⟨Int.emod_nonneg _ (by decide), by have := Int.emod_lt_of_pos (sm x l k + l.getD (l.length - 1 - k) 0 % 2147483647 * pw x k) (show (0 : Int) < 2147483647 by decide); unfold sm; omega⟩
/-- equal modulo the prime -/
def C (a b : Int) : Prop := a % 2147483647 = b % 2147483647
theorem C.rfl' (a : Int) : C a a := rfl
theorem C.mod (a : Int) : C (a % 2147483647) a := Int.emod_emod a 2147483647
theorem C.add {a b c d : Int} (h : C a b) (k : C c d) : C (a + c) (b + d) := by unfold C at *; rw [Int.add_emod, h, k, ← Int.add_emod]
theorem C.mul {a b c d : Int} (h : C a b) (k : C c d) : C (a * c) (b * d) := by unfold C at *; rw [Int.mul_emod, h, k, ← Int.mul_emod]
theorem C.trans {a b c : Int} (h : C a b) (k : C b c) : C a c := Eq.trans h k
theorem C.sym {a b : Int} (h : C a b) : C b a := Eq.symm h
theorem four_eq (x a b c d : Int) : sm x [a, b, c, d] 4 = horn x [a, b, c, d] := by
  have h1 : C (pw x 1) (x * x) := C.mod _
  have h2 : C (pw x 2) (x * x * x) := (C.mod _).trans (h1.mul (C.rfl' x))
  have h3 : C (pw x 3) (x * x * x * x) := (C.mod _).trans (h2.mul (C.rfl' x))
  have s1 : C (sm x [a, b, c, d] 1) (0 + d * x) := (C.mod _).trans ((C.rfl' 0).add ((C.mod d).mul (C.rfl' x)))
  have s2 : C (sm x [a, b, c, d] 2) (0 + d * x + c * (x * x)) := (C.mod _).trans (s1.add ((C.mod c).mul h1))
  have s3 : C (sm x [a, b, c, d] 3) (0 + d * x + c * (x * x) + b * (x * x * x)) := (C.mod _).trans (s2.add ((C.mod b).mul h2))
  have s4 : C (sm x [a, b, c, d] 3 + a % 2147483647 * pw x 3) (0 + d * x + c * (x * x) + b * (x * x * x) + a * (x * x * x * x)) := s3.add ((C.mod a).mul h3)
  have t1 : C (horn x [a]) ((0 + a) * x) := C.mod _
  have t2 : C (horn x [a, b]) (((0 + a) * x + b) * x) := (C.mod _).trans ((t1.add (C.rfl' b)).mul (C.rfl' x))
  have t3 : C (horn x [a, b, c]) ((((0 + a) * x + b) * x + c) * x) := (C.mod _).trans ((t2.add (C.rfl' c)).mul (C.rfl' x))
  have t4 : C ((horn x [a, b, c] + d) * x) (((((0 + a) * x + b) * x + c) * x + d) * x) := (t3.add (C.rfl' d)).mul (C.rfl' x)
  have e : 0 + d * x + c * (x * x) + b * (x * x * x) + a * (x * x * x * x) = ((((0 + a) * x + b) * x + c) * x + d) * x := by grind
  show (sm x [a, b, c, d] 3 + a % 2147483647 * pw x 3) % 2147483647 = (horn x [a, b, c] + d) * x % 2147483647
  exact s4.trans ((e ▸ C.rfl' _ : C _ _).trans t4.sym)
/-- the words of nine bytes -/
def ws (bs : List Int) (k : Nat) : List Int := 1 :: (List.range k).map (fun i => wd (bs.getD (3 * i) 0) (bs.getD (3 * i + 1) 0) (bs.getD (3 * i + 2) 0))
theorem ws_succ (bs : List Int) (k : Nat) : ws bs (k + 1) = ws bs k ++ [wd (bs.getD (3 * k) 0) (bs.getD (3 * k + 1) 0) (bs.getD (3 * k + 2) 0)] := by unfold ws; rw [List.range_succ, List.map_append]; rfl
theorem ws_length (bs : List Int) (k : Nat) : (ws bs k).length = k + 1 := by unfold ws; simp
/-- the tag -/
def tag (x pad : Int) (l : List Int) : Int := (horn x l + pad) % 2147483647
/-- the bytes of a number -/
def four (n : Int) : List Int := [n / 16777216 % 256, n / 65536 % 256, n / 256 % 256, n % 256]
/-- the words of a contract and a number -/
def msg (k n : Int) : List Int := four k ++ four n
theorem four_bd (n : Int) : ∀ x ∈ four n, 0 ≤ x ∧ x ≤ 255 := by unfold four; simp; omega
theorem msg_bd (k n : Int) : ∀ x ∈ msg k n, 0 ≤ x ∧ x ≤ 255 := by
  unfold msg
  intro x hx
  rcases List.mem_append.1 hx with h | h
  · exact four_bd k x h
  · exact four_bd n x h
end Pf
/-- a row's block lies where the call began, or behind -/
theorem rowE_lt {W : World} {B n cap sz : Nat} {e : TypeId} {A : Option Addr} {xs : List Value} (h : W.ownsRow B e sz (.slice A n cap) n xs) {k : Nat} (hk : OwnB A k) : B ≤ k ∧ k < W.heap.size := by
  rcases h.2 with ⟨h2, _⟩ | ⟨g', c, cur, hv, hb, hg, r⟩
  · cases h2; obtain ⟨a, e, _⟩ := hk; cases e
  · cases hv
    obtain ⟨a, e, rfl⟩ := hk
    cases e
    exact ⟨hb, (Array.getElem?_eq_some_iff.1 hg).1⟩
theorem rowE_ne {W : World} {B B' n n' cap cap' sz sz' : Nat} {e e' : TypeId} {xs xs' : List Value} {A A' : Option Addr} (h : W.ownsRow B e sz (.slice A n cap) n xs) (h' : W.ownsRow B' e' sz' (.slice A' n' cap') n' xs') (ht : e ≠ e') {k : Nat} (hk : OwnB A k) : ¬ OwnB A' k := fun ho => by
  rcases h.2 with ⟨h2, _⟩ | ⟨q, c, cur, hv, hb, hg, _⟩
  · cases h2; obtain ⟨a, e1, _⟩ := hk; cases e1
  · rcases h'.2 with ⟨h2, _⟩ | ⟨q', c', cur', hv', hb', hg', _⟩
    · cases h2; obtain ⟨a, e1, _⟩ := ho; cases e1
    · cases hv
      cases hv'
      obtain ⟨a, e1, e2⟩ := hk
      obtain ⟨a', e3, e4⟩ := ho
      cases e1
      cases e3
      simp at e2 e4
      subst e2 e4
      rw [hg] at hg'
      simp at hg'
      exact ht hg'.2
theorem rowE_keep {W W' : World} {S : Nat → Prop} {B n cap sz : Nat} {e : TypeId} {A : Option Addr} {xs : List Value} (h : W.ownsRow B e sz (.slice A n cap) n xs) (ht : Touch S W W') (hn : ∀ k, OwnB A k → ¬ S k) : W'.ownsRow B e sz (.slice A n cap) n xs := by
  refine ⟨h.1, ?_⟩
  rcases h.2 with h2 | ⟨k, c, cur, hv, hb, hg, r⟩
  · exact .inl h2
  · cases hv
    exact .inr ⟨k, cap, cur, rfl, hb, by rw [ht.block k (Array.getElem?_eq_some_iff.1 hg).1 (hn k ⟨_, rfl, rfl⟩)]; exact hg, r⟩
theorem rowE_below {W W' : World} {B n cap sz : Nat} {e : TypeId} {A : Option Addr} {xs : List Value} (h : W.ownsRow B e sz (.slice A n cap) n xs) (hb : Below W.heap.size W W') : W'.ownsRow B e sz (.slice A n cap) n xs :=
  rowE_keep h (Touch.of_below (S := fun _ => False) hb) (fun _ _ h => h)
theorem grown_touch {W W' : World} {A : Option Addr} {n cap : Nat} (hg : W.grownBy W' (Value.slice A n cap).ownBlock) : Touch (fun k => OwnB A k) W W' := (Touch.refl _ _).grown hg (fun k hk => .inl (ownB_iff.2 hk))
/-- a row's cells, and where it lies -/
theorem rowE_cells {W : World} {B n cap : Nat} {e : TypeId} {A : Option Addr} {xs : List Value} (h : W.ownsRow B e 1 (.slice A n cap) n xs) (hn : 0 < n) : ∃ g, A = some ⟨g, 0, none⟩ ∧ g < W.heap.size ∧ n ≤ cap ∧ cap ≤ maxLen ∧ ∀ i v, xs[i]? = some v → W.cell? ⟨g, i, none⟩ = some v := by
  rcases h.2 with ⟨h2, hx⟩ | ⟨g, c, cur, hv, hb, hg, hnc, hcm, _⟩
  · cases h2
    exact absurd hn (Nat.lt_irrefl 0)
  · cases hv
    refine ⟨g, rfl, (Array.getElem?_eq_some_iff.1 hg).1, hnc, hcm, fun i v hv => ?_⟩
    have hc := World.ownsRow.cells (g := g) h rfl i v hv
    rwa [show ((⟨g, 0, none⟩ : Addr).add i) = ⟨g, i, none⟩ from (by unfold Addr.add; split <;> simp_all)] at hc
end Go.Proofs.Ytafajclbghofkaa
