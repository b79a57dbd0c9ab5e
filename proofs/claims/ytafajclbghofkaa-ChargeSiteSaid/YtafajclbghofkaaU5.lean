/- ChargeSite: what its cases need. -/
import Derived.Test.YtafajclbghofkaaU3
namespace Go.Proofs.Ytafajclbghofkaa
open Go.RowKit
set_option linter.unusedVariables false
/-- the body of block n -/
def findBlk (n : Nat) : Code → Option Code
  | .block k c => if k = n then some c else findBlk n c
  | .loop c => findBlk n c
  | .seq a b => match findBlk n a with
    | some c => some c
    | none => findBlk n b
  | .scope c => findBlk n c
  | .cond _ a b => match findBlk n a with
    | some c => some c
    | none => findBlk n b
  | _ => none
noncomputable def siBody : Code := ((Try.f10.body.bind (findBlk 4)).getD .skip)
theorem wp_codeS {P : Program} {c c' : Code} {Q : Exit → Act → World → Prop} {a : Act} {W : World} (h : c = c') (hw : Code.wp P c' Q a W) : Code.wp P c Q a W := h ▸ hw
section
variable {w W : World} {gs gc gp cp g10 : Nat} {pb : Nat → Nat} {A : Nat → Option Addr} {q : Nat → Nat} {cs : List Sx.Cl} {D Bk N : Int} {P : Nat → Ls} {Ga : Nat → Option Addr} {gq : Nat → Nat} {G : Nat → List Ls}
theorem UsI.ptr (h : UsI w gs gc gp cp g10 pb A q cs D Bk N P Ga gq G W) {m : Nat} (hm : m < 4) : W.cell? ⟨gp, m, none⟩ = some (.pointer (some ⟨pb m, 0, none⟩)) := by
  have h := World.ownsRow.cells (g := gp) h.u.row rfl m _ (ptrs_at pb hm)
  rwa [show ((⟨gp, 0, none⟩ : Addr).add m) = ⟨gp, m, none⟩ from (by unfold Addr.add; split <;> simp_all)] at h
theorem UsI.num (h : UsI w gs gc gp cp g10 pb A q cs D Bk N P Ga gq G W) {m : Nat} (hm : m < 4) {pn : Int} (hp : pn = (P m).n) : Calls Try.prog 25 #[.pointer (some ⟨pb m, 0, none⟩)] W fun e w' => e = .returned (.int .i64 pn) ∧ W = w' := by
  subst hp
  exact PostNumber_c (pb m) (P m) W (h.u.p m hm)
end
theorem StU.mk {w W : World} {gs gc gp cp g10 : Nat} {pb : Nat → Nat} {A : Nat → Option Addr} {q : Nat → Nat} {cs : List Sx.Cl} {D Bk K now N : Int} {P : Nat → Ls} {Ga : Nat → Option Addr} {gq : Nat → Nat} {G : Nat → List Ls} (h1 : UsI w gs gc gp cp g10 pb A q cs D Bk N P Ga gq G W) (h2 : Sx.SI K D Bk now N cs G P) : StU w gs gc gp cp g10 pb D Bk K now W := ⟨_, _, _, _, _, _, _, _, h1, h2⟩
theorem sumN_bd {f : Nat → Int} : ∀ n, (∀ i, i < n → 0 ≤ f i ∧ f i ≤ 1073741824) → n ≤ 4 → 0 ≤ Sx.sumN f n ∧ Sx.sumN f n ≤ 4294967296
  | 0, _, _ => by simp [Sx.sumN]
  | n + 1, h, hn => by
    have key : ∀ n, (∀ i, i < n → 0 ≤ f i ∧ f i ≤ 1073741824) → 0 ≤ Sx.sumN f n ∧ Sx.sumN f n ≤ 1073741824 * (n : Int) := by
      intro n
      induction n with
      | zero => intro _; exact ⟨Int.le_refl _, by simp [Sx.sumN]⟩
      | succ n ih =>
        intro h
        have h1 := ih (fun i hi => h i (by omega))
        have h2 := h n (by omega)
        unfold Sx.sumN
        omega
    have := key (n + 1) h
    omega
theorem ls_mem {L : List Ls} {j : Nat} (hj : j < L.length) : L.getD j default ∈ L := by rw [List.getD_eq_getElem?_getD, List.getElem?_eq_getElem hj]; exact List.getElem_mem hj
end Go.Proofs.Ytafajclbghofkaa
