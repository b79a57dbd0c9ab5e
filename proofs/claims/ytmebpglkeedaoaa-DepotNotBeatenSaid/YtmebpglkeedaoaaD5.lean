/- The contracts of graph.push, send, rest and flow of depot. -/
import Derived.Test.YtmebpglkeedaoaaD4
import Derived.Test.YtmebpglkeedaoaaM10
namespace Go.Proofs.Ytmebpglkeedaoaa
open Go.RowKit Dp
set_option linter.unusedVariables false

section
variable {w : World} {B b gl cl ce bo ge : Nat} {E : Option Addr} {G : Gr}
theorem GrAt.putL (h : GrAt w B b gl cl E ce bo G) (v : Nat) (x : Int) : GrAt (w.setCell ⟨gl, v, none⟩ (.int .i64 x)) B b gl cl E ce bo { G with left := G.left.set v x } :=
  { blk := by show Blk _ b 113 [.slice (some ⟨gl, 0, none⟩) (G.left.set v x).length cl, _, _]; rw [List.length_set]; exact h.blk.setCell_ne h.ne.1 _
    left := h.left.put v x
    es := h.es.set_ne (p := ⟨gl, v, none⟩) h.ne.2.2 _
    outs := h.outs.touch (T := fun k => k = gl) h.bo.1 h.bo.2.2.1 (fun k e => .inr (.inl e)) ((Touch.refl (fun k => k = gl) w).setCell (p := ⟨gl, v, none⟩) (.inl rfl) _)
    bo := ⟨by simp [World.setCell]; exact h.bo.1, h.bo.2⟩
    ne := h.ne
    base := h.base }
theorem GrAt.putE (h : GrAt w B b gl cl (some ⟨ge, 0, none⟩) ce bo G) (k : Nat) (r : Int) (hk : k < G.es.length) : GrAt (w.setCell ⟨ge, k * 3 + 1, none⟩ (.int .i64 r)) B b gl cl (some ⟨ge, 0, none⟩) ce bo { G with es := setRoom G.es k r } :=
  { blk := by
      show Blk _ b 113 [_, .slice (some ⟨ge, 0, none⟩) (setRoom G.es k r).length ce, _]
      rw [setRoom_len]
      exact h.blk.setCell_ne (fun e => h.ne.2.1 (ownB_some.2 e)) _
    left := by
      have hne : gl ≠ ge := fun e => h.ne.2.2 (ownB_some.2 e)
      have := ownSet h.left (p := ⟨ge, k * 3 + 1, none⟩) (fun e => hne (ownB_some.1 e).symm) (.int .i64 r)
      exact this
    es := h.es.put edC_len k 1 { G.es.getD k default with room := r } (G.es.getD k default) (.int .i64 r) (getElem_D G.es k default hk) (by omega) rfl
    outs := h.outs.touch (T := fun k => k = ge) h.bo.1 (fun e => h.bo.2.2.2 (ownB_some.2 e)) (fun k e => .inr (.inr (ownB_some.2 e))) ((Touch.refl (fun q => q = ge) w).setCell (p := ⟨ge, k * 3 + 1, none⟩) (.inl rfl) _)
    bo := ⟨by simp [World.setCell]; exact h.bo.1, h.bo.2⟩
    ne := h.ne
    base := h.base }
end
theorem xor_tw (k : Nat) (hk : k < 4294967296) : bits .xor .i64 (k : Int) 1 = (tw k : Int) := by
  have e : k ^^^ 1 = tw k := by
    have h1 : (k ^^^ 1) / 2 = k / 2 := by rw [Nat.xor_div_two]; simp
    have h2 : (k ^^^ 1) % 2 = (k + 1) % 2 := by have := @Nat.xor_mod_two_eq_one k 1; omega
    unfold tw
    split <;> omega
  have hx : k ^^^ 1 < 2 ^ 33 := Nat.xor_lt_two_pow (by omega) (by omega)
  have h1 : (BitVec.ofInt 64 (k : Int)).toNat = k := by
    rw [BitVec.ofInt_natCast, BitVec.toNat_ofNat]; exact Nat.mod_eq_of_lt (by omega)
  have h2 : (BitVec.ofInt 64 (1 : Int)).toNat = 1 := by decide
  show IntKind.i64.wrap ((BitVec.ofInt 64 (k : Int) ^^^ BitVec.ofInt 64 1).toNat : Int) = _
  rw [BitVec.toNat_xor, h1, h2, e, IntKind.wrap_i64]
  rw [e] at hx
  omega
theorem pushE_def (es : List Ed) (k : Nat) (x r1 r2 : Int) (h1 : r1 = (es.getD k default).room - x) (h2 : r2 = ((setRoom es k r1).getD (tw k) default).room + x) : setRoom (setRoom es k r1) (tw k) r2 = pushE es k x := by
  subst h1; subst h2; rfl

set_option maxRecDepth 100000 in
theorem push_c (b gl cl ce bo B : Nat) (E : Option Addr) (G : Gr) (k : Nat) (x : Int) (w : World) (hk : k < G.es.length) (ht : tw k < G.es.length) (hle : G.es.length ≤ 4096) (hr : -8589934592 ≤ G.room k ∧ G.room k ≤ 8589934592) (hr2 : -8589934592 ≤ G.room (tw k) ∧ G.room (tw k) ≤ 8589934592) (hx : -17179869184 ≤ x ∧ x ≤ 17179869184) (hg : GrAt w B b gl cl E ce bo G) :
    Calls Try.prog 97 #[.pointer (some ⟨b, 0, none⟩), .int .i64 k, .int .i64 x] w fun e w' => e = .returned (.tuple #[]) ∧ GrAt w' B b gl cl E ce bo { G with es := pushE G.es k x } ∧ Touch (fun q => OwnB E q) w w' := by
  have HA := Lib.hid hg
  obtain ⟨ge, rfl, gel, e0, e1, e2⟩ := hg.edge k hk
  have c1 := hg.blk.cell 1 rfl
  have bl := hg.blk.lt
  have z1 := hg.es.free (k * 3 + 1)
  have P1 := Lib.hid (fun r => hg.putE k r hk)
  have P2 := Lib.hid (fun r => (hg.putE k r hk).edge (tw k) (by show tw k < (setRoom G.es k r).length; rw [setRoom_len]; exact ht))
  have P3 := Lib.hid (fun r r2 => (hg.putE k r hk).putE (tw k) r2 (by show tw k < (setRoom G.es k r).length; rw [setRoom_len]; exact ht))
  have HR1 : Hid (G.room k = (G.es.getD k default).room) := Lib.hid rfl
  have HR2 : Hid (∀ r, ((setRoom G.es k r).getD (tw k) default).room = G.room (tw k)) := Lib.hid (fun r => by
    rw [(setRoom_get G.es k r hk (tw k)).2.2, if_neg (tw_ne k)]; rfl)
  have HT : Hid (tw k = if k % 2 = 0 then k + 1 else k - 1) := Lib.hid rfl
  rw [HR1.out] at hr
  have HS := Lib.hid (setRoom_len G.es k)
  generalize hml : G.es.length = ml at *
  have HML := Lib.hid hml
  clear hml hg
  generalize (G.es.getD k default).room = ro at *
  generalize G.room (tw k) = r2 at *
  have hki : (k : Int) < (ml : Int) := by omega
  obtain ⟨t, htt⟩ : ∃ t, t = tw k := ⟨_, rfl⟩
  rw [← htt] at ht P2 P3 HR2 HT
  have HTW := Lib.hid htt
  clear htt
  have hti : (t : Int) < (ml : Int) := by omega
  have hxo : bits .xor .i64 (k : Int) 1 = (t : Int) := by rw [HTW.out]; exact xor_tw k (by omega)
  go_enter Try.func97, Try.ntmps97
  go_upto_region 1 with fail
  have J1 := P1.out (ro - x)
  obtain ⟨ge', hge, gel1, f0, f1, f2⟩ := P2.out (ro - x)
  cases hge
  rw [HR2.out] at f1
  have c1 := J1.blk.cell 1 rfl
  simp only [HS.out] at c1
  have z1 := J1.es.free (t * 3 + 1)
  have J1 := Lib.hid J1
  have T1 := Lib.hid ((Touch.refl (fun q => OwnB (some ⟨ge, 0, none⟩) q) w).setCell (p := ⟨ge, k * 3 + 1, none⟩) (.inl (ownB_some.2 rfl)) (.int .i64 (ro - x)))
  have P4 := Lib.hid (P3.out (ro - x))
  generalize w.setCell ⟨ge, k * 3 + 1, none⟩ (.int .i64 (ro - x)) = w1 at *
  clear e0 e1 e2 P1 P2 P3
  go_wp2_with fail
  have P5 := P4.out (r2 + x)
  rw [HTW.out] at P5
  rw [pushE_def G.es k x (ro - x) (r2 + x) (by rw [← HR1.out]; rfl) (by rw [← HTW.out, HR2.out])] at P5
  rw [← HTW.out] at P5
  exact bodyPost_end (v := .tuple #[]) (by simp [results, Try.results97, go_sem]) rfl ⟨rfl, P5, T1.out.setCell (p := ⟨ge, t * 3 + 1, none⟩) (.inl (ownB_some.2 rfl)) _⟩
end Go.Proofs.Ytmebpglkeedaoaa
