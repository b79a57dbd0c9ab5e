/- Opening links and small numbers that came in. coulomblaw08.DepotNotBeaten returns true at all nodes, links, supplies and potentials; the arguments read afterwards as before. No condition. -/
import Derived.Test.YtmebpglkeedaoaaY2
namespace Go.Proofs.Ytmebpglkeedaoaa
open Go.RowKit Dp
set_option linter.unusedVariables false
theorem u8_bdB {a : Int} (h : (Lit.int .u8 a).wf = true) : 0 ≤ a ∧ a ≤ 255 := by
  have h1 : IntKind.u8.min = 0 := rfl
  have h2 : IntKind.u8.max = 255 := rfl
  simp only [Lit.wf, Bool.and_eq_true, decide_eq_true_eq] at h
  omega
theorem i8_bdB {a : Int} (h : (Lit.int .i8 a).wf = true) : -128 ≤ a ∧ a ≤ 127 := by
  have h1 : IntKind.i8.min = -128 := rfl
  have h2 : IntKind.i8.max = 127 := rfl
  simp only [Lit.wf, Bool.and_eq_true, decide_eq_true_eq] at h
  omega
theorem i16_bdB {a : Int} (h : (Lit.int .i16 a).wf = true) : -32768 ≤ a ∧ a ≤ 32767 := by
  have h1 : IntKind.i16.min = -32768 := rfl
  have h2 : IntKind.i16.max = 32767 := rfl
  simp only [Lit.wf, Bool.and_eq_true, decide_eq_true_eq] at h
  omega
theorem i8s_of {w : World} {v : Value} (h : v = .slice none 0 0 ∨ ∃ a len cap, v = .slice (some a) len cap ∧ len ≤ cap ∧ cap ≤ maxLen ∧
      ∀ i, i < len → ∃ cs, cs.length = 1 ∧ (∀ j u, cs[j]? = some u → w.cell? ((a.add (i * 1)).add j) = some u) ∧ Rd w (.i .i8 .nil) cs) :
    ∃ (A : Option Addr) (xs : List Int) (cap : Nat), v = .slice A xs.length cap ∧ xs.length ≤ cap ∧ cap ≤ 9223372036854775807 ∧ I8At w A xs := by
  rcases h with rfl | ⟨a, len, cap, rfl, hl, hm, hi⟩
  · exact ⟨none, [], 0, rfl, Nat.le_refl _, by omega, fun i hi => by simp at hi⟩
  · obtain ⟨xs, hbl, hbs⟩ := choose_list (α := Int) (n := len) (Q := fun i x => w.cell? ((a.add (i * 1)).add 0) = some (.int .i8 x) ∧ -128 ≤ x ∧ x ≤ 127) (fun i hil => by
      obtain ⟨cs, _, hc, n0, _, rfl, w0, rfl⟩ := hi i hil
      exact ⟨n0, hc 0 _ rfl, i8_bdB w0⟩)
    refine ⟨some a, xs, cap, by rw [hbl], by omega, by unfold maxLen at hm; omega, fun i hi => ⟨a, rfl, ?_⟩⟩
    have hg : xs[i]? = some (xs.getD i 0) := by rw [List.getD_eq_getElem?_getD, List.getElem?_eq_getElem hi]; rfl
    have h0 := hbs i _ hg
    rw [add_zero', Nat.mul_one] at h0
    have hb := World.block_lt_of_cell? _ _ h0.1
    rw [block_add] at hb
    exact ⟨hb, h0.1, h0.2⟩
theorem i16s_of {w : World} {v : Value} (h : v = .slice none 0 0 ∨ ∃ a len cap, v = .slice (some a) len cap ∧ len ≤ cap ∧ cap ≤ maxLen ∧
      ∀ i, i < len → ∃ cs, cs.length = 1 ∧ (∀ j u, cs[j]? = some u → w.cell? ((a.add (i * 1)).add j) = some u) ∧ Rd w (.i .i16 .nil) cs) :
    ∃ (A : Option Addr) (xs : List Int) (cap : Nat), v = .slice A xs.length cap ∧ xs.length ≤ cap ∧ cap ≤ 9223372036854775807 ∧ I16At w A xs := by
  rcases h with rfl | ⟨a, len, cap, rfl, hl, hm, hi⟩
  · exact ⟨none, [], 0, rfl, Nat.le_refl _, by omega, fun i hi => by simp at hi⟩
  · obtain ⟨xs, hbl, hbs⟩ := choose_list (α := Int) (n := len) (Q := fun i x => w.cell? ((a.add (i * 1)).add 0) = some (.int .i16 x) ∧ -32768 ≤ x ∧ x ≤ 32767) (fun i hil => by
      obtain ⟨cs, _, hc, n0, _, rfl, w0, rfl⟩ := hi i hil
      exact ⟨n0, hc 0 _ rfl, i16_bdB w0⟩)
    refine ⟨some a, xs, cap, by rw [hbl], by omega, by unfold maxLen at hm; omega, fun i hi => ⟨a, rfl, ?_⟩⟩
    have hg : xs[i]? = some (xs.getD i 0) := by rw [List.getD_eq_getElem?_getD, List.getElem?_eq_getElem hi]; rfl
    have h0 := hbs i _ hg
    rw [add_zero', Nat.mul_one] at h0
    have hb := World.block_lt_of_cell? _ _ h0.1
    rw [block_add] at hb
    exact ⟨hb, h0.1, h0.2⟩
theorem links_of {w : World} {v : Value} (h : v = .slice none 0 0 ∨ ∃ a len cap, v = .slice (some a) len cap ∧ len ≤ cap ∧ cap ≤ maxLen ∧
      ∀ i, i < len → ∃ cs, cs.length = 4 ∧ (∀ j u, cs[j]? = some u → w.cell? ((a.add (i * 4)).add j) = some u) ∧ Rd w (.i .u8 (.i .u8 (.i .u8 (.i .i8 .nil)))) cs) :
    ∃ (A : Option Addr) (l : List Lnk4) (cap : Nat), v = .slice A l.length cap ∧ l.length ≤ cap ∧ cap ≤ 9223372036854775807 ∧ LinksAt w A l := by
  rcases h with rfl | ⟨a, len, cap, rfl, hl, hm, hi⟩
  · exact ⟨none, [], 0, rfl, Nat.le_refl _, by omega, fun i hi => by simp at hi⟩
  · obtain ⟨bs, hbl, hbs⟩ := choose_list (α := Lnk4) (n := len) (Q := fun i x => (w.cell? ((a.add (i * 4)).add 0) = some (.int .u8 x.f) ∧ w.cell? ((a.add (i * 4)).add 1) = some (.int .u8 x.t) ∧ w.cell? ((a.add (i * 4)).add 2) = some (.int .u8 x.c) ∧ w.cell? ((a.add (i * 4)).add 3) = some (.int .i8 x.k)) ∧ (0 ≤ x.f ∧ x.f ≤ 255) ∧ (0 ≤ x.t ∧ x.t ≤ 255) ∧ (0 ≤ x.c ∧ x.c ≤ 255) ∧ (-128 ≤ x.k ∧ x.k ≤ 127)) (fun i hil => by
      obtain ⟨cs, _, hc, n0, _, rfl, w0, n1, _, rfl, w1, n2, _, rfl, w2, n3, _, rfl, w3, rfl⟩ := hi i hil
      exact ⟨⟨n0, n1, n2, n3⟩, ⟨hc 0 _ rfl, hc 1 _ rfl, hc 2 _ rfl, hc 3 _ rfl⟩, u8_bdB w0, u8_bdB w1, u8_bdB w2, i8_bdB w3⟩)
    refine ⟨some a, bs, cap, by rw [hbl], by omega, by unfold maxLen at hm; omega, fun i hi => ?_⟩
    have hg : bs[i]? = some (bs.getD i default) := by rw [List.getD_eq_getElem?_getD, List.getElem?_eq_getElem hi]; rfl
    obtain ⟨⟨h0, h1, h2, h3⟩, r⟩ := hbs i _ hg
    rw [add_zero'] at h0
    have hb := World.block_lt_of_cell? _ _ h0
    rw [block_add] at hb
    exact ⟨a, rfl, hb, h0, h1, h2, h3, r⟩
end Go.Proofs.Ytmebpglkeedaoaa
namespace Go.Proofs.Ytmebpglkeedaoaa
open Go.ChangeShapes Go.WideShapes Go.ChangeAt Go.RowKit Dp
set_option linter.unusedVariables false

theorem depotNotBeaten_own : ownKnob Try.prog.godebug = none := by kernel_rfl
theorem depotNotBeaten_laidOut : laidOutB Try.prog = true := by kernel_rfl
theorem depotNotBeaten_sh36 : shK Try.prog 5 36 = some (.s 4 (.i .u8 (.i .u8 (.i .u8 (.i .i8 .nil)))) .nil) := by kernel_rfl
theorem depotNotBeaten_sh37 : shK Try.prog 5 37 = some (.s 1 (.i .i8 .nil) .nil) := by kernel_rfl
theorem depotNotBeaten_sh38 : shK Try.prog 5 38 = some (.s 1 (.i .i16 .nil) .nil) := by kernel_rfl

set_option maxRecDepth 100000 in
theorem depotNotBeaten_lifted (os : Os) (started : os.Started) (H : Type) (enc : TypeId × Value → H) :
    ReturnsInHanded {} Try.checked os 4 .any (Rows.depotNotBeatenSpec.pre6 enc Try.prog Try.f4 Rows.depotNotBeatenRow.domain false) (Rows.depotNotBeatenSpec.post enc Try.prog Try.f4 false true false false) := by
  refine returnsInHanded_of_change (C := Try.checked) depotNotBeaten_own started (by kernel_rfl) Try.func4
    (ChangeSpec.witness6 (enc := enc) (C := Try.checked) false ⟨#[], #[.int .u8 0, .slice none 0 0, .slice none 0 0, .slice none 0 0], []⟩ 8 (by kernel_rfl) (by kernel_rfl) (by kernel_rfl) (by kernel_rfl)) ?_
  intro W base args ds gs before hval0 hW hcnd _
  have hval : ∀ (j : Nat) t v, Try.f4.params[j]? = some t → args[j]? = some v → Value.okWide Try.prog W .any base t v := hval0
  have hW' := hW
  obtain ⟨p, q, hA0, hV, rfl, hfz, hnd⟩ := hW
  obtain ⟨rfl, rfl⟩ := trodVars_none hV
  simp only [List.append_nil] at hW'
  have hA : DataW.TrodAll enc Try.prog W 0 (fun _ => true) true Try.f4.params.toList args.toList ds p := hA0
  have hA1 := hA
  rw [Try.params4] at hA hval
  obtain ⟨v0, vs0, d0, ds0, p0, q0, hargs, rfl, hp0, r0, s0⟩ := trodAll_cons hA
  obtain ⟨v1, vs1, d1, ds1, p1, q1, rfl, rfl, hp1, r1, s1⟩ := trodAll_cons s0
  obtain ⟨v2, vs2, d2, ds2, p2, q2, rfl, rfl, hp2, r2, s2⟩ := trodAll_cons s1
  obtain ⟨v3, vs3, d3, ds3, p3, q3, rfl, rfl, hp3, r3, s3⟩ := trodAll_cons s2
  obtain ⟨rfl, rfl, rfl⟩ := trodAll_nil s3
  obtain rfl : args = #[v0, v1, v2, v3] := by cases args; simp_all
  obtain ⟨vn, rfl, _, _, wN⟩ := open_int Try.underlying5 (hval 0 _ v0 rfl rfl) r0
  obtain ⟨A, ls, cA, rfl, jA1, jA2, jAi⟩ := links_of (sh_slice Try.underlying36 depotNotBeaten_sh36 (hval 1 _ v1 rfl rfl) r1)
  obtain ⟨B, su, cB, rfl, jB1, jB2, jBi⟩ := i8s_of (sh_slice Try.underlying37 depotNotBeaten_sh37 (hval 2 _ v2 rfl rfl) r2)
  obtain ⟨C, po, cC, rfl, jC1, jC2, jCi⟩ := i16s_of (sh_slice Try.underlying38 depotNotBeaten_sh38 (hval 3 _ v3 rfl rfl) r3)
  refine (Beat_walk vn A B C ls su po _ _ _ cA cB cC W (u8_bdB wN) rfl rfl rfl ⟨jA1, jA2⟩ ⟨jB1, jB2⟩ ⟨jC1, jC2⟩ jAi jBi jCi).mono fun e W' ⟨he, hb⟩ => ?_
  subst he
  exact ⟨_, rfl, law_post depotNotBeaten_laidOut (by kernel_rfl) rfl hW' hA1 rfl rfl rfl (fun _ _ _ => (trodAll_cons_mk (shut_bool Try.underlying4 _) trodAll_mk0)) hb (ok_one (by kernel_rfl) rfl (okWide_bool_mk Try.underlying4 _))⟩

theorem depotNotBeaten_holds : Rows.DepotNotBeatenSaid :=
  OpenClaim.holds_of_wide 4 Try.f4 rfl rfl rfl rfl rfl rfl rfl ⟨rfl, rfl, rfl, rfl, rfl⟩ rfl rfl rfl rfl rfl (by kernel_rfl) Try.func4 (by kernel_rfl)
    (of_decide_eq_true (by kernel_rfl)) (by unfold Func.isWrapper; first | (rw [if_pos (by decide +kernel)]; kernel_rfl) | (rw [if_neg (by decide +kernel)]; exact ⟨rfl, rfl⟩))
    (fun os started H enc _ => depotNotBeaten_lifted os started H enc)
#print axioms depotNotBeaten_holds
end Go.Proofs.Ytmebpglkeedaoaa
