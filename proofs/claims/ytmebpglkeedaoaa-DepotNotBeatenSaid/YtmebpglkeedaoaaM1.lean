/- Plain: nets, flows, potentials and cuts (P8.1). -/
import Derived.Lib.Hide
namespace Go.Proofs.Ytmebpglkeedaoaa
namespace Dp
structure Arc where
  fr : Int
  to : Int
  cap : Int
  cost : Int
  deriving Inhabited, DecidableEq
structure Net where
  sup : List Int
  arcs : List Arc
def inB (x lo hi : Int) : Bool := decide (lo ≤ x ∧ x ≤ hi)
/-- an arc of a net with n nodes is valid -/
def arcOk (n : Nat) (a : Arc) : Bool := decide ((0 ≤ a.fr ∧ a.fr < n) ∧ (0 ≤ a.to ∧ a.to < n) ∧ a.fr ≠ a.to ∧ (0 ≤ a.cap ∧ a.cap ≤ 1048576) ∧ (-1048576 ≤ a.cost ∧ a.cost ≤ 1048576))
def supOk (x : Int) : Bool := decide (-268435456 ≤ x ∧ x ≤ 268435456)
def manyB (N : Net) : Bool := decide (N.sup.length < 1 ∨ 1024 < N.sup.length ∨ 2048 < N.arcs.length)
def sum : List Int → Int
  | [] => 0
  | x :: l => x + sum l
def abs (x : Int) : Int := max x (-x)
def okB (N : Net) : Bool := N.sup.all supOk && (N.arcs.all (arcOk N.sup.length) && (decide (sum N.sup = 0) && decide (sum (N.sup.map abs) ≤ 268435456)))
/-- the error of a net -/
def chE (N : Net) : Int := if manyB N = true then 6 else if okB N = true then 0 else 2
theorem sum_append : ∀ a b : List Int, sum (a ++ b) = sum a + sum b
  | [], b => by simp [sum]
  | x :: a, b => by simp [sum, sum_append a b]; omega
theorem sum_take (l : List Int) (k : Nat) (h : k < l.length) : sum (l.take (k + 1)) = sum (l.take k) + l.getD k 0 := by
  rw [List.take_succ_eq_append_getElem h, sum_append, List.getD_eq_getElem?_getD, List.getElem?_eq_getElem h]
  simp [sum]
theorem sum_bd {B : Int} (hB : 0 ≤ B) : ∀ (l : List Int), (∀ x, x ∈ l → -B ≤ x ∧ x ≤ B) → -(B * l.length) ≤ sum l ∧ sum l ≤ B * l.length
  | [], _ => by simp [sum]
  | x :: l, h => by
    have h1 := h x (by simp)
    have h2 := sum_bd hB l (fun y hy => h y (by simp [hy]))
    simp only [sum, List.length_cons]
    have : B * ((l.length + 1 : Nat) : Int) = B * l.length + B := by rw [Int.natCast_add, Int.mul_add]; simp
    omega
theorem sum_nonneg : ∀ (l : List Int), (∀ x, x ∈ l → 0 ≤ x) → 0 ≤ sum l
  | [], _ => by simp [sum]
  | x :: l, h => by
    have h1 := h x (by simp)
    have h2 := sum_nonneg l (fun y hy => h y (by simp [hy]))
    simp only [sum]
    omega
theorem getD_map (f : Int → Int) (l : List Int) (k : Nat) (h : k < l.length) : (l.map f).getD k 0 = f (l.getD k 0) := by
  simp [List.getD_eq_getElem?_getD, h]
end Dp
end Go.Proofs.Ytmebpglkeedaoaa
