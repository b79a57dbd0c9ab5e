/- Contracts that the claim leans on, part 5: V20 V22 V21 V23 V24 V25 V26 -/
import Derived.Test.YtlklnaebdnahcaaCK4
import Derived.Deep.CutBlock
set_option linter.unusedVariables false
set_option linter.unusedSimpArgs false
set_option linter.unnecessarySimpa false
namespace Go.Proofs.Ytlklnaebdnahcaa
open Go.RowKit Nw
theorem xor_to : ∀ l : Nat, l < 6 → bits .xor .i64 (l : Int) 1 = (toL l : Int) := by decide
theorem lineN1 {w w1 w3 W : World} {B n base : Nat} {col : Nat → Nat} {D : Dl} {M : Mem} {S : St} (h : NetAt w B n col base D M S) {i : Nat} (hi : i < 6) {l' : Ln} (hb : Below w.heap.size w w1) (hx : w.heap.size < w1.heap.size) (h1 : LineTo w1 B (M.g i) (M.lA i) l' w3) (ht : Touch (fun k => k = w.heap.size) w3 W) :
    NetTo w B n col base D { S with L := S.L.set i l' } W := by
  obtain ⟨col', M', hc, hN, htt⟩ := line_to (h.recol.below hb) hi (Below.refl _ _) h1
  refine ⟨col', M', fun k hk => (hc k (Nat.lt_of_lt_of_le hk hb.size)).trans (ncol_old hk), hN.touch ht (fun k e hk => ?_), ?_⟩
  · subst hk
    unfold NetOwn at e
    rw [hc _ hx, ncol_new (Nat.le_refl _)] at e
    omega
  · refine ((Touch.of_below hb).then htt (fun k e => ?_)).then ht (fun k e => .inr (by omega))
    by_cases hk : k < w.heap.size
    · left
      unfold NetOwn at e ⊢
      rw [ncol_old hk] at e
      exact e
    · right; omega
theorem arr40 (tm : Array Value) (h : tm.size = 40) : ∃ x0 x1 x2 x3 x4 x5 x6 x7 x8 x9 x10 x11 x12 x13 x14 x15 x16 x17 x18 x19 x20 x21 x22 x23 x24 x25 x26 x27 x28 x29 x30 x31 x32 x33 x34 x35 x36 x37 x38 x39 : Value, tm = List.toArray (x0 :: x1 :: x2 :: x3 :: x4 :: x5 :: x6 :: x7 :: x8 :: x9 :: x10 :: x11 :: x12 :: x13 :: x14 :: x15 :: x16 :: x17 :: x18 :: x19 :: x20 :: x21 :: x22 :: x23 :: x24 :: x25 :: x26 :: x27 :: x28 :: x29 :: x30 :: x31 :: x32 :: x33 :: x34 :: x35 :: x36 :: x37 :: x38 :: x39 :: []) := by
  obtain ⟨l0⟩ := tm
  have h0 : l0.length = 40 := h
  clear h
  obtain ⟨x0, l1, rfl⟩ := List.exists_cons_of_length_eq_add_one h0
  have h1 : l1.length = 39 := by simpa using h0
  clear h0
  obtain ⟨x1, l2, rfl⟩ := List.exists_cons_of_length_eq_add_one h1
  have h2 : l2.length = 38 := by simpa using h1
  clear h1
  obtain ⟨x2, l3, rfl⟩ := List.exists_cons_of_length_eq_add_one h2
  have h3 : l3.length = 37 := by simpa using h2
  clear h2
  obtain ⟨x3, l4, rfl⟩ := List.exists_cons_of_length_eq_add_one h3
  have h4 : l4.length = 36 := by simpa using h3
  clear h3
  obtain ⟨x4, l5, rfl⟩ := List.exists_cons_of_length_eq_add_one h4
  have h5 : l5.length = 35 := by simpa using h4
  clear h4
  obtain ⟨x5, l6, rfl⟩ := List.exists_cons_of_length_eq_add_one h5
  have h6 : l6.length = 34 := by simpa using h5
  clear h5
  obtain ⟨x6, l7, rfl⟩ := List.exists_cons_of_length_eq_add_one h6
  have h7 : l7.length = 33 := by simpa using h6
  clear h6
  obtain ⟨x7, l8, rfl⟩ := List.exists_cons_of_length_eq_add_one h7
  have h8 : l8.length = 32 := by simpa using h7
  clear h7
  obtain ⟨x8, l9, rfl⟩ := List.exists_cons_of_length_eq_add_one h8
  have h9 : l9.length = 31 := by simpa using h8
  clear h8
  obtain ⟨x9, l10, rfl⟩ := List.exists_cons_of_length_eq_add_one h9
  have h10 : l10.length = 30 := by simpa using h9
  clear h9
  obtain ⟨x10, l11, rfl⟩ := List.exists_cons_of_length_eq_add_one h10
  have h11 : l11.length = 29 := by simpa using h10
  clear h10
  obtain ⟨x11, l12, rfl⟩ := List.exists_cons_of_length_eq_add_one h11
  have h12 : l12.length = 28 := by simpa using h11
  clear h11
  obtain ⟨x12, l13, rfl⟩ := List.exists_cons_of_length_eq_add_one h12
  have h13 : l13.length = 27 := by simpa using h12
  clear h12
  obtain ⟨x13, l14, rfl⟩ := List.exists_cons_of_length_eq_add_one h13
  have h14 : l14.length = 26 := by simpa using h13
  clear h13
  obtain ⟨x14, l15, rfl⟩ := List.exists_cons_of_length_eq_add_one h14
  have h15 : l15.length = 25 := by simpa using h14
  clear h14
  obtain ⟨x15, l16, rfl⟩ := List.exists_cons_of_length_eq_add_one h15
  have h16 : l16.length = 24 := by simpa using h15
  clear h15
  obtain ⟨x16, l17, rfl⟩ := List.exists_cons_of_length_eq_add_one h16
  have h17 : l17.length = 23 := by simpa using h16
  clear h16
  obtain ⟨x17, l18, rfl⟩ := List.exists_cons_of_length_eq_add_one h17
  have h18 : l18.length = 22 := by simpa using h17
  clear h17
  obtain ⟨x18, l19, rfl⟩ := List.exists_cons_of_length_eq_add_one h18
  have h19 : l19.length = 21 := by simpa using h18
  clear h18
  obtain ⟨x19, l20, rfl⟩ := List.exists_cons_of_length_eq_add_one h19
  have h20 : l20.length = 20 := by simpa using h19
  clear h19
  obtain ⟨x20, l21, rfl⟩ := List.exists_cons_of_length_eq_add_one h20
  have h21 : l21.length = 19 := by simpa using h20
  clear h20
  obtain ⟨x21, l22, rfl⟩ := List.exists_cons_of_length_eq_add_one h21
  have h22 : l22.length = 18 := by simpa using h21
  clear h21
  obtain ⟨x22, l23, rfl⟩ := List.exists_cons_of_length_eq_add_one h22
  have h23 : l23.length = 17 := by simpa using h22
  clear h22
  obtain ⟨x23, l24, rfl⟩ := List.exists_cons_of_length_eq_add_one h23
  have h24 : l24.length = 16 := by simpa using h23
  clear h23
  obtain ⟨x24, l25, rfl⟩ := List.exists_cons_of_length_eq_add_one h24
  have h25 : l25.length = 15 := by simpa using h24
  clear h24
  obtain ⟨x25, l26, rfl⟩ := List.exists_cons_of_length_eq_add_one h25
  have h26 : l26.length = 14 := by simpa using h25
  clear h25
  obtain ⟨x26, l27, rfl⟩ := List.exists_cons_of_length_eq_add_one h26
  have h27 : l27.length = 13 := by simpa using h26
  clear h26
  obtain ⟨x27, l28, rfl⟩ := List.exists_cons_of_length_eq_add_one h27
  have h28 : l28.length = 12 := by simpa using h27
  clear h27
  obtain ⟨x28, l29, rfl⟩ := List.exists_cons_of_length_eq_add_one h28
  have h29 : l29.length = 11 := by simpa using h28
  clear h28
  obtain ⟨x29, l30, rfl⟩ := List.exists_cons_of_length_eq_add_one h29
  have h30 : l30.length = 10 := by simpa using h29
  clear h29
  obtain ⟨x30, l31, rfl⟩ := List.exists_cons_of_length_eq_add_one h30
  have h31 : l31.length = 9 := by simpa using h30
  clear h30
  obtain ⟨x31, l32, rfl⟩ := List.exists_cons_of_length_eq_add_one h31
  have h32 : l32.length = 8 := by simpa using h31
  clear h31
  obtain ⟨x32, l33, rfl⟩ := List.exists_cons_of_length_eq_add_one h32
  have h33 : l33.length = 7 := by simpa using h32
  clear h32
  obtain ⟨x33, l34, rfl⟩ := List.exists_cons_of_length_eq_add_one h33
  have h34 : l34.length = 6 := by simpa using h33
  clear h33
  obtain ⟨x34, l35, rfl⟩ := List.exists_cons_of_length_eq_add_one h34
  have h35 : l35.length = 5 := by simpa using h34
  clear h34
  obtain ⟨x35, l36, rfl⟩ := List.exists_cons_of_length_eq_add_one h35
  have h36 : l36.length = 4 := by simpa using h35
  clear h35
  obtain ⟨x36, l37, rfl⟩ := List.exists_cons_of_length_eq_add_one h36
  have h37 : l37.length = 3 := by simpa using h36
  clear h36
  obtain ⟨x37, l38, rfl⟩ := List.exists_cons_of_length_eq_add_one h37
  have h38 : l38.length = 2 := by simpa using h37
  clear h37
  obtain ⟨x38, l39, rfl⟩ := List.exists_cons_of_length_eq_add_one h38
  have h39 : l39.length = 1 := by simpa using h38
  clear h38
  obtain ⟨x39, l40, rfl⟩ := List.exists_cons_of_length_eq_add_one h39
  have h40 : l40.length = 0 := by simpa using h39
  clear h39
  have := List.eq_nil_of_length_eq_zero h40
  subst this
  exact ⟨_, _, _, _, _, _, _, _, _, _, _, _, _, _, _, _, _, _, _, _, _, _, _, _, _, _, _, _, _, _, _, _, _, _, _, _, _, _, _, _, rfl⟩
def RF (tt nk : Int) (gn : Nat) (i : Nat) (v : Value) (w : World) : Prop :=
  match i with
  | 0 => ∃ b l, v = .map (some b) ∧ MpAt kP fV w b l ∧ ∀ k, mget k l = heardF k
  | 1 => v = .int .i64 tt
  | 2 => v = .pointer (some ⟨gn, 0, none⟩)
  | 3 => v = .int .i64 nk
  | 4 => v = .agg #[.int .i64 tt, .int .i64 nk]
  | _ => v = ((heardF (tt, nk)).map fV).getD .nilFunc
theorem RF.keep {tt nk : Int} {gn : Nat} {w w' : World} (hb : Below w.heap.size w w') : ∀ (i : Nat) (v : Value), RF tt nk gn i v w → RF tt nk gn i v w'
  | 0, v, ⟨b, l, h1, h2, h3⟩ => ⟨b, l, h1, h2.below hb, h3⟩
  | 1, _, h => h
  | 2, _, h => h
  | 3, _, h => h
  | 4, _, h => h
  | _ + 5, _, h => h
theorem lookF {W : World} {b : Nat} {l : List ((Int × Int) × Nat)} (h : MpAt kP fV W b l) (hk : ∀ k, mget k l = heardF k) (x y : Int) : (Instr.lookup 141 (.map (some b)) (.agg #[.int .i64 x, .int .i64 y]) false).run Try.prog W = .ok (((heardF (x, y)).map fV).getD .nilFunc) W := by
  have := h.look keyQ Try.underlying141 (x, y) (z := .nilFunc) (by kernel_rfl) false
  rw [hk] at this
  exact this
theorem callJ : ∀ j : Nat, j < 18 → ∀ (args : Array Value) (w : World), (callFunc (hfn j) args).run Try.prog w = .ok (.enter (hfn j) args) w
  | 0, _, args, w => by show (callFunc (hfn 0) args).run Try.prog w = .ok (.enter (hfn 0) args) w; kernel_rfl
  | 1, _, args, w => by show (callFunc (hfn 1) args).run Try.prog w = .ok (.enter (hfn 1) args) w; kernel_rfl
  | 2, _, args, w => by show (callFunc (hfn 2) args).run Try.prog w = .ok (.enter (hfn 2) args) w; kernel_rfl
  | 3, _, args, w => by show (callFunc (hfn 3) args).run Try.prog w = .ok (.enter (hfn 3) args) w; kernel_rfl
  | 4, _, args, w => by show (callFunc (hfn 4) args).run Try.prog w = .ok (.enter (hfn 4) args) w; kernel_rfl
  | 5, _, args, w => by show (callFunc (hfn 5) args).run Try.prog w = .ok (.enter (hfn 5) args) w; kernel_rfl
  | 6, _, args, w => by show (callFunc (hfn 6) args).run Try.prog w = .ok (.enter (hfn 6) args) w; kernel_rfl
  | 7, _, args, w => by show (callFunc (hfn 7) args).run Try.prog w = .ok (.enter (hfn 7) args) w; kernel_rfl
  | 8, _, args, w => by show (callFunc (hfn 8) args).run Try.prog w = .ok (.enter (hfn 8) args) w; kernel_rfl
  | 9, _, args, w => by show (callFunc (hfn 9) args).run Try.prog w = .ok (.enter (hfn 9) args) w; kernel_rfl
  | 10, _, args, w => by show (callFunc (hfn 10) args).run Try.prog w = .ok (.enter (hfn 10) args) w; kernel_rfl
  | 11, _, args, w => by show (callFunc (hfn 11) args).run Try.prog w = .ok (.enter (hfn 11) args) w; kernel_rfl
  | 12, _, args, w => by show (callFunc (hfn 12) args).run Try.prog w = .ok (.enter (hfn 12) args) w; kernel_rfl
  | 13, _, args, w => by show (callFunc (hfn 13) args).run Try.prog w = .ok (.enter (hfn 13) args) w; kernel_rfl
  | 14, _, args, w => by show (callFunc (hfn 14) args).run Try.prog w = .ok (.enter (hfn 14) args) w; kernel_rfl
  | 15, _, args, w => by show (callFunc (hfn 15) args).run Try.prog w = .ok (.enter (hfn 15) args) w; kernel_rfl
  | 16, _, args, w => by show (callFunc (hfn 16) args).run Try.prog w = .ok (.enter (hfn 16) args) w; kernel_rfl
  | 17, _, args, w => by show (callFunc (hfn 17) args).run Try.prog w = .ok (.enter (hfn 17) args) w; kernel_rfl
  | j + 18, h, _, _ => absurd h (by omega)
theorem callH {k : Int × Int} {f : Nat} (hf : heardF k = some f) (args : Array Value) (w : World) : (callFunc f args).run Try.prog w = .ok (.enter f args) w := by
  unfold heardF at hf
  cases hk : hidx k with
  | none => rw [hk] at hf; cases hf
  | some j =>
    rw [hk] at hf
    have hj := (hidx_of hk).1
    have hf2 : hfn j = f := by simpa using hf
    clear hf hk
    subst hf2
    exact callJ j hj args w
theorem line_lt {w : World} {B n base : Nat} {col : Nat → Nat} {D : Dl} {M : Mem} {S : St} (h : NetAt w B n col base D M S) {i : Nat} (hi : i < 6) (k : Nat) (e : k = M.g i ∨ OwnB (M.lA i) k) : k < w.heap.size := by
  rcases e with rfl | e
  · exact (h.ln i hi).blk.lt
  · exact (own_lt (h.ln i hi).own e).2
set_option maxRecDepth 100000 in
set_option maxHeartbeats 8000000 in
theorem deliver_0 {w : World} {B n base : Nat} {col : Nat → Nat} {D : Dl} {M : Mem} {S : St} (h : NetAt w B n col base D M S) (hB : B ≤ w.heap.size) (hfr : ∀ k, w.heap.size ≤ k → ¬ NetOwn col base k) (k : Nat) (hk : k < S.fl.length) {K : Int} (ho : OkN K D S) (hD : ∀ c ∈ D.cn, ∀ q ∈ c.ps, 0 ≤ q) (hac : S.ac.length ≤ 1000000) {K2 : Int} (hK2 : K2 ≤ 100000) (hok : ∀ c ∈ S.cs, Sx.OkC K2 c) :
    Calls Try.prog 25 #[.pointer (some ⟨n, 0, none⟩), .int .i64 k] w fun e w' => e = .returned (.tuple #[]) ∧ NetTo w B n col base D (Nw.deliver D S k) w' := by
  have HFR := Lib.hid hfr
  have HD := Lib.hid hD
  have HAC := Lib.hid hac
  have HK2 := Lib.hid hK2
  have HOK := Lib.hid hok
  have HO := Lib.hid ho
  obtain ⟨s, hs⟩ : ∃ s, s = S.fl.getD k default := ⟨_, rfl⟩
  have hmem : s ∈ S.fl := by rw [hs, List.getD_eq_getElem?_getD, List.getElem?_eq_getElem hk]; exact List.getElem_mem hk
  have hsl := ho.fl s hmem
  obtain ⟨l, hl⟩ : ∃ l : Nat, s.l = l := ⟨s.l.toNat, by omega⟩
  have hl6 : l < 6 := by omega
  have PT := Lib.hid (take_c h hB k hk)
  rw [← hs] at PT
  have HS := Lib.hid hs
  have HL := Lib.hid hl
  have HL6 := Lib.hid hl6
  have HAK := Lib.hid hsl.2.2
  have HW := Lib.hid h
  have HBB := Lib.hid hB
  obtain ⟨tt, hto⟩ : ∃ tt : Nat, tt = toL l := ⟨_, rfl⟩
  have hto6 : tt < 6 := by rw [hto]; unfold toL; have := hl6; split <;> omega
  have hxo : bits .xor .i64 s.l 1 = (tt : Int) := by rw [hl, hto]; exact xor_to l hl6
  have HTO := Lib.hid (show toL s.l = tt by rw [hl, hto])
  have HXO := Lib.hid hxo
  have HT6 := Lib.hid hto6
  clear hfr hD hac hK2 hok ho hs hmem hsl hl hl6 hto h hB hk
  go_enter Try.func25, Try.ntmps25
  go_upto_region 1 with (go_at_call 26; refine PT.out.mono ?_; rintro e w1 ⟨rfl, hn⟩; have HN1 := Lib.hid hn; clear hn; unfold snV)
  clear hxo
  go_upto_region 2 with fail
  rw [HXO.out]
  obtain ⟨col1, M1, hc1, hN1, ht1⟩ := HN1.out
  obtain ⟨S1, hS1⟩ : ∃ S1, S1 = Nw.take S k := ⟨_, rfl⟩
  rw [← hS1] at hN1
  have HS1 := Lib.hid hS1
  have HC1 := Lib.hid hc1
  have HT1 := Lib.hid ht1
  have al := (Below.refl w1.heap.size w1).alloc (Nat.le_refl _) (.cells #[.int .i64 s.l, .bool s.p.has, .int .i64 s.p.nu, .int .i64 s.p.nt.k, .int .i64 s.p.nt.s, .int .i64 s.p.nt.a, .int .i64 s.p.nt.b, .int .i64 s.p.nt.c, .int .i64 s.p.ak] 95)
  have HX := Lib.hid (Blk.new' w1 #[.int .i64 s.l, .bool s.p.has, .int .i64 s.p.nu, .int .i64 s.p.nt.k, .int .i64 s.p.nt.s, .int .i64 s.p.nt.a, .int .i64 s.p.nt.b, .int .i64 s.p.nt.c, .int .i64 s.p.ak] 95)
  have H2 := Lib.hid (hN1.below al)
  have HB2 := Lib.hid (Nat.le_trans HBB.out (Nat.le_trans ht1.size al.size))
  have HT2 := Lib.hid (ht1.below al)
  have HSZ := Lib.hid (show w.heap.size ≤ w1.heap.size from ht1.size)
  clear al hS1 hc1 ht1 hN1 HN1 PT
  generalize w1.alloc (.cells #[.int .i64 s.l, .bool s.p.has, .int .i64 s.p.nu, .int .i64 s.p.nt.k, .int .i64 s.p.nt.s, .int .i64 s.p.nt.a, .int .i64 s.p.nt.b, .int .i64 s.p.nt.c, .int .i64 s.p.ak] 95) = w2 at HX H2 HB2 HT2 ⊢
  generalize w1.heap.size = gs at HX HSZ ⊢
  have HOL := Lib.hid (show Lx.ok K (Nw.ln S1 tt) by rw [HS1.out]; exact HO.out.ln tt HT6.out)
  have HKb := Lib.hid HO.out.k.2
  have PR := Lib.hid (fun V (hV : Below w2.heap.size w2 V) => Receive_c K B (M1.g tt) (M1.lA tt) (M1.lc tt) (Nw.ln S1 tt) s.p V ((H2.out.ln tt HT6.out).touch (S := fun _ => False) (Touch.of_below hV) (fun e => e) (fun _ _ e => e)) (Nat.le_trans HB2.out hV.size) HOL.out HKb.out HAK.out)
  have c0 := lineP H2.out HT6.out
  have nl := H2.out.lt
  have i6 : (tt : Int) < 6 := by have := HT6.out; omega
  have HGN := Lib.hid (show M1.g tt < w2.heap.size ∧ n < w2.heap.size from ⟨(H2.out.ln tt HT6.out).blk.lt, H2.out.lt⟩)
  have HCC := Lib.hid (fun W (hW : Below w2.heap.size w2 W) => (show (W.cell? ⟨n, 11 + tt, none⟩ = some (.pointer (some ⟨M1.g tt, 0, none⟩))) ∧ W.cell? ⟨gs, 1, none⟩ = some (.bool s.p.has) ∧ W.cell? ⟨gs, 2, none⟩ = some (.int .i64 s.p.nu) ∧ W.cell? ⟨gs, 3, none⟩ = some (.int .i64 s.p.nt.k) ∧ W.cell? ⟨gs, 4, none⟩ = some (.int .i64 s.p.nt.s) ∧ W.cell? ⟨gs, 5, none⟩ = some (.int .i64 s.p.nt.a) ∧ W.cell? ⟨gs, 6, none⟩ = some (.int .i64 s.p.nt.b) ∧ W.cell? ⟨gs, 7, none⟩ = some (.int .i64 s.p.nt.c) ∧ W.cell? ⟨gs, 8, none⟩ = some (.int .i64 s.p.ak) from ⟨lineP (H2.out.below hW) HT6.out, (HX.out.below hW HX.out.lt).cell 1 rfl, (HX.out.below hW HX.out.lt).cell 2 rfl, (HX.out.below hW HX.out.lt).cell 3 rfl, (HX.out.below hW HX.out.lt).cell 4 rfl, (HX.out.below hW HX.out.lt).cell 5 rfl, (HX.out.below hW HX.out.lt).cell 6 rfl, (HX.out.below hW HX.out.lt).cell 7 rfl, (HX.out.below hW HX.out.lt).cell 8 rfl⟩))
  refine Code.wp_mono (Q := fun e a' W => match e with | .normal => (∃ gn, NetTo w2 B n col1 base D { S1 with L := S1.L.set tt (Lx.recvL (Nw.ln S1 tt) s.p) } W ∧ Blk W gn 91 [.int .i64 (Lx.recvN (Nw.ln S1 tt) s.p).k, .int .i64 (Lx.recvN (Nw.ln S1 tt) s.p).s, .int .i64 (Lx.recvN (Nw.ln S1 tt) s.p).a, .int .i64 (Lx.recvN (Nw.ln S1 tt) s.p).b, .int .i64 (Lx.recvN (Nw.ln S1 tt) s.p).c] ∧ ∃ x2 x3 x8 x9 x10 x11 x12 x13 x14 x15 x16 x17 x18 x19 x20 x21 x22 x23 x24 x25 x26 x27 x28 x29 x30 x31 x32 x33 x34 x35 x36 x37 x38 x39 : Value, a' = ({ tmps := List.toArray (.pointer (some ⟨n, 0, none⟩) :: .int .i64 k :: x2 :: x3 :: .pointer (some ⟨gs, 0, none⟩) :: .int .i64 tt :: .pointer (some ⟨gn, 0, none⟩) :: .bool (Lx.recvB (Nw.ln S1 tt) s.p) :: x8 :: x9 :: x10 :: x11 :: x12 :: x13 :: x14 :: x15 :: x16 :: x17 :: x18 :: x19 :: x20 :: x21 :: x22 :: x23 :: x24 :: x25 :: x26 :: x27 :: x28 :: x29 :: x30 :: x31 :: x32 :: x33 :: x34 :: x35 :: x36 :: x37 :: x38 :: x39 :: []), defers := [] } : Act)) | _ => False) ?post ?pre
  case pre =>
    refine lBegin (S := fun L W => (True) ∧ (L.getD 8 false = true ∨ (W.cell? ⟨n, 11 + tt, none⟩ = some (.pointer (some ⟨M1.g tt, 0, none⟩)) ∧ W.cell? ⟨gs, 1, none⟩ = some (.bool s.p.has) ∧ W.cell? ⟨gs, 2, none⟩ = some (.int .i64 s.p.nu) ∧ W.cell? ⟨gs, 3, none⟩ = some (.int .i64 s.p.nt.k) ∧ W.cell? ⟨gs, 4, none⟩ = some (.int .i64 s.p.nt.s) ∧ W.cell? ⟨gs, 5, none⟩ = some (.int .i64 s.p.nt.a) ∧ W.cell? ⟨gs, 6, none⟩ = some (.int .i64 s.p.nt.b) ∧ W.cell? ⟨gs, 7, none⟩ = some (.int .i64 s.p.nt.c) ∧ W.cell? ⟨gs, 8, none⟩ = some (.int .i64 s.p.ak)))) (by kernel_rfl) ?_ (fun hHeld => ?_)
    · (try dsimp only); refine ⟨?_, Or.inr ?_⟩
      · (first | trivial | with_reducible assumption)
      · (first | with_reducible exact HCC.out _ (Below.refl _ _).drew | with_reducible exact HCC.out _ ((Below.refl _ _).drew.alloc (Nat.le_refl _) _) | exact HCC.out _ (((Below.refl _ _).alloc (Nat.le_refl _) _).drew) | exact HCC.out _ (Below.refl _ _))
    refine lTake (i := 0) (v := ?_) rfl (by kernel_rfl) (by kernel_rfl) (by kernel_rfl) (fun _ _ _ h => h) (by rfl) (fun _ _ h => by simpa only [getD_set_ne false (show 0 ≠ 8 by decide)] using h) (fun _ _ h => by simpa only [getD_set_ne false (show 0 ≠ 8 by decide)] using h) ?_ (by assumption) (fun hHeld2 => ?_)
    rotate_left 1
    · (intro _ _ _ _ _; first | (go_simp; done) | (go_simp; with_reducible rfl))
    clear hHeld; have hHeld := hHeld2; clear hHeld2
    (try simp only [Act.put, List.setIfInBounds_toArray, List.set_cons_zero, List.set_cons_succ])
    refine lTake (i := 1) (v := ?_) rfl (by kernel_rfl) (by kernel_rfl) (by kernel_rfl) (fun _ _ _ h => h) (by rfl) (fun _ _ h => by simpa only [getD_set_ne false (show 1 ≠ 8 by decide)] using h) (fun _ _ h => by simpa only [getD_set_ne false (show 1 ≠ 8 by decide)] using h) ?_ (by assumption) (fun hHeld2 => ?_)
    rotate_left 1
    · (intro _ _ _ _ _; first | (go_simp; done) | (go_simp; with_reducible rfl))
    clear hHeld; have hHeld := hHeld2; clear hHeld2
    (try simp only [Act.put, List.setIfInBounds_toArray, List.set_cons_zero, List.set_cons_succ])
    refine lTake (i := 2) (v := ?_) rfl (by kernel_rfl) (by kernel_rfl) (by kernel_rfl) (fun _ _ _ h => h) (by rfl) (fun _ _ h => by simpa only [getD_set_ne false (show 2 ≠ 8 by decide)] using h) (fun _ _ h => by simpa only [getD_set_ne false (show 2 ≠ 8 by decide)] using h) ?_ (by assumption) (fun hHeld2 => ?_)
    rotate_left 1
    · (intro _ _ _ _ _; first | (go_simp; done) | (go_simp; with_reducible rfl))
    clear hHeld; have hHeld := hHeld2; clear hHeld2
    (try simp only [Act.put, List.setIfInBounds_toArray, List.set_cons_zero, List.set_cons_succ])
    refine lTake (i := 3) (v := ?_) rfl (by kernel_rfl) (by kernel_rfl) (by kernel_rfl) (fun _ _ _ h => h) (by rfl) (fun _ _ h => by simpa only [getD_set_ne false (show 3 ≠ 8 by decide)] using h) (fun _ _ h => by simpa only [getD_set_ne false (show 3 ≠ 8 by decide)] using h) ?_ (by assumption) (fun hHeld2 => ?_)
    rotate_left 1
    · (intro _ _ _ _ _; first | (go_simp; done) | (go_simp; with_reducible rfl))
    clear hHeld; have hHeld := hHeld2; clear hHeld2
    (try simp only [Act.put, List.setIfInBounds_toArray, List.set_cons_zero, List.set_cons_succ])
    refine lTake (i := 4) (v := ?_) rfl (by kernel_rfl) (by kernel_rfl) (by kernel_rfl) (fun _ _ _ h => h) (by rfl) (fun _ _ h => by simpa only [getD_set_ne false (show 4 ≠ 8 by decide)] using h) (fun _ _ h => by simpa only [getD_set_ne false (show 4 ≠ 8 by decide)] using h) ?_ (by assumption) (fun hHeld2 => ?_)
    rotate_left 1
    · (intro _ _ _ _ _; first | (go_simp; done) | (go_simp; with_reducible rfl))
    clear hHeld; have hHeld := hHeld2; clear hHeld2
    (try simp only [Act.put, List.setIfInBounds_toArray, List.set_cons_zero, List.set_cons_succ])
    refine lTake (i := 5) (v := ?_) rfl (by kernel_rfl) (by kernel_rfl) (by kernel_rfl) (fun _ _ _ h => h) (by rfl) (fun _ _ h => by simpa only [getD_set_ne false (show 5 ≠ 8 by decide)] using h) (fun _ _ h => by simpa only [getD_set_ne false (show 5 ≠ 8 by decide)] using h) ?_ (by assumption) (fun hHeld2 => ?_)
    rotate_left 1
    · (intro L W hL hK hSw; (try dsimp only at hSw); obtain ⟨h0, h1⟩ := hSw; replace h1 := still [] hK hL (by kernel_rfl) h1; clear hL hK; first | (go_simp; done) | (go_simp; with_reducible rfl))
    clear hHeld; have hHeld := hHeld2; clear hHeld2
    (try simp only [Act.put, List.setIfInBounds_toArray, List.set_cons_zero, List.set_cons_succ])
    refine lTake (i := 6) (v := ?_) rfl (by kernel_rfl) (by kernel_rfl) (by kernel_rfl) (fun _ _ _ h => h) (by rfl) (fun _ _ h => by simpa only [getD_set_ne false (show 6 ≠ 8 by decide)] using h) (fun _ _ h => by simpa only [getD_set_ne false (show 6 ≠ 8 by decide)] using h) ?_ (by assumption) (fun hHeld2 => ?_)
    rotate_left 1
    · (intro _ _ _ _ _; first | (go_simp; done) | (go_simp; with_reducible rfl))
    clear hHeld; have hHeld := hHeld2; clear hHeld2
    (try simp only [Act.put, List.setIfInBounds_toArray, List.set_cons_zero, List.set_cons_succ])
    refine lTake (i := 7) (v := ?_) rfl (by kernel_rfl) (by kernel_rfl) (by kernel_rfl) (fun _ _ _ h => h) (by rfl) (fun _ _ h => by simpa only [getD_set_ne false (show 7 ≠ 8 by decide)] using h) (fun _ _ h => by simpa only [getD_set_ne false (show 7 ≠ 8 by decide)] using h) ?_ (by assumption) (fun hHeld2 => ?_)
    rotate_left 1
    · (intro L W hL hK hSw; (try dsimp only at hSw); obtain ⟨h0, h1⟩ := hSw; replace h1 := still [] hK hL (by kernel_rfl) h1; clear hL hK; first | (go_simp; done) | (go_simp; with_reducible rfl))
    clear hHeld; have hHeld := hHeld2; clear hHeld2
    (try simp only [Act.put, List.setIfInBounds_toArray, List.set_cons_zero, List.set_cons_succ])
    refine lReady (rs := [8, 12]) (by kernel_rfl) (by simp) ?_
    refine AllL.cons (i := 8) rfl (fun K hK => ?_) ?_
    · go_simp; (refine (PR.out _ (by first | with_reducible exact (Below.refl _ _).drew | with_reducible exact ((Below.refl _ _).drew.alloc (Nat.le_refl _) _) | exact (((Below.refl _ _).alloc (Nat.le_refl _) _).drew) | exact (Below.refl _ _))).mono ?_; rintro e w3 ⟨rfl, hl3⟩; have HL3 := Lib.hid hl3; clear hl3; (try have HZ := Lib.hid (((Blk.new' w2 #[.int .i64 0, .int .i64 0, .int .i64 0, .int .i64 0, .int .i64 0] 91).drew).touch HL3.out.2 (fun e => Nat.lt_irrefl _ (line_lt H2.out HT6.out _ e)))); (try have z0 := HZ.out.cell 0 rfl); (try have z1 := HZ.out.cell 1 rfl); (try have z2 := HZ.out.cell 2 rfl); (try have z3 := HZ.out.cell 3 rfl); (try have z4 := HZ.out.cell 4 rfl); (try have y0 := HZ.out.free 0); (try have y1 := HZ.out.free 1); (try have y2 := HZ.out.free 2); (try have y3 := HZ.out.free 3); (try have y4 := HZ.out.free 4); (try have yl := HZ.out.lt))
      (try go_wp2_with fail)
      refine hK.out _ _ ?_ (fun hHeld2 => ?_)
      · (try dsimp only); refine ⟨?_, Or.inl (by rfl)⟩
        · (first | trivial | with_reducible assumption)
      clear hK K
      clear hHeld; have hHeld := hHeld2; clear hHeld2
      (try simp only [Act.put, List.setIfInBounds_toArray, List.set_cons_zero, List.set_cons_succ])
      refine lTake (i := 9) (v := ?_) rfl (by kernel_rfl) (by kernel_rfl) (by kernel_rfl) (fun _ _ _ h => h) (by rfl) (fun _ _ h => by simpa only [getD_set_ne false (show 9 ≠ 8 by decide)] using h) (fun _ _ h => by simpa only [getD_set_ne false (show 9 ≠ 8 by decide)] using h) ?_ (by assumption) (fun hHeld2 => ?_)
      rotate_left 1
      · (intro _ _ _ _ _; first | (go_simp; done) | (go_simp; with_reducible rfl))
      clear hHeld; have hHeld := hHeld2; clear hHeld2
      (try simp only [Act.put, List.setIfInBounds_toArray, List.set_cons_zero, List.set_cons_succ])
      refine lTake (i := 10) (v := ?_) rfl (by kernel_rfl) (by kernel_rfl) (by kernel_rfl) (fun _ _ _ h => h) (by rfl) (fun _ _ h => by simpa only [getD_set_ne false (show 10 ≠ 8 by decide)] using h) (fun _ _ h => by simpa only [getD_set_ne false (show 10 ≠ 8 by decide)] using h) ?_ (by assumption) (fun hHeld2 => ?_)
      rotate_left 1
      · (intro _ _ _ _ _; first | (go_simp; done) | (go_simp; with_reducible rfl))
      clear hHeld; have hHeld := hHeld2; clear hHeld2
      (try simp only [Act.put, List.setIfInBounds_toArray, List.set_cons_zero, List.set_cons_succ])
      refine lTake (i := 11) (v := ?_) rfl (by kernel_rfl) (by kernel_rfl) (by kernel_rfl) (fun _ _ _ h => h) (by rfl) (fun _ _ h => by simpa only [getD_set_ne false (show 11 ≠ 8 by decide)] using h) (fun _ _ h => by simpa only [getD_set_ne false (show 11 ≠ 8 by decide)] using h) ?_ (by assumption) (fun hHeld2 => ?_)
      rotate_left 1
      · (intro _ _ _ _ _; first | (go_simp; done) | (go_simp; with_reducible rfl))
      clear hHeld; have hHeld := hHeld2; clear hHeld2
      (try simp only [Act.put, List.setIfInBounds_toArray, List.set_cons_zero, List.set_cons_succ])
      refine lReady (rs := [12]) (by kernel_rfl) (by simp) ?_
      refine AllL.cons (i := 12) rfl (fun K hK => ?_) ?_
      · go_simp
        (try go_wp2_with fail)
        refine hK.out _ _ ?_ (fun hHeld2 => ?_)
        · (try dsimp only); refine ⟨?_, Or.inl (by rfl)⟩
          · (first | trivial | with_reducible assumption)
        clear hK K
        clear hHeld; have hHeld := hHeld2; clear hHeld2
        (try simp only [Act.put, List.setIfInBounds_toArray, List.set_cons_zero, List.set_cons_succ])
        refine lReady (rs := [13]) (by kernel_rfl) (by simp) ?_
        refine AllL.cons (i := 13) rfl (fun K hK => ?_) ?_
        · go_simp
          (try go_wp2_with fail)
          refine hK.out _ _ ?_ (fun hHeld2 => ?_)
          · (try dsimp only); refine ⟨?_, Or.inl (by rfl)⟩
            · (first | trivial | with_reducible assumption)
          clear hK K
          clear hHeld; have hHeld := hHeld2; clear hHeld2
          (try simp only [Act.put, List.setIfInBounds_toArray, List.set_cons_zero, List.set_cons_succ])
          refine lTake (i := 14) (v := ?_) rfl (by kernel_rfl) (by kernel_rfl) (by kernel_rfl) (fun _ _ _ h => h) (by rfl) (fun _ _ h => by simpa only [getD_set_ne false (show 14 ≠ 8 by decide)] using h) (fun _ _ h => by simpa only [getD_set_ne false (show 14 ≠ 8 by decide)] using h) ?_ (by assumption) (fun hHeld2 => ?_)
          rotate_left 1
          · (intro _ _ _ _ _; first | (go_simp; done) | (go_simp; with_reducible rfl))
          clear hHeld; have hHeld := hHeld2; clear hHeld2
          (try simp only [Act.put, List.setIfInBounds_toArray, List.set_cons_zero, List.set_cons_succ])
          refine lDone (by kernel_rfl) ?_ _
          first | (exact ⟨w2.heap.size, lineN1 H2.out HT6.out (((Below.refl _ _).alloc (Nat.le_refl _) _).drew) (by simp) HL3.out ((((((Touch.refl _ _).put 0 _).put 1 _).put 2 _).put 3 _).put 4 _), (((((HZ.out).setCell 0 _).setCell 1 _).setCell 2 _).setCell 3 _).setCell 4 _, _, _, _, _, _, _, _, _, _, _, _, _, _, _, _, _, _, _, _, _, _, _, _, _, _, _, _, _, _, _, _, _, _, _, rfl⟩) | (exact ⟨w3.heap.size, (line_to H2.out HT6.out ((Below.refl _ _).drew) HL3.out).below ((Below.refl _ _).alloc (Nat.le_refl _) _), Blk.new' w3 _ 91, _, _, _, _, _, _, _, _, _, _, _, _, _, _, _, _, _, _, _, _, _, _, _, _, _, _, _, _, _, _, _, _, _, _, rfl⟩)
        exact AllL.nil
      exact AllL.nil
    refine AllL.cons (i := 12) rfl (fun K hK => ?_) ?_
    · go_simp
      (try go_wp2_with fail)
      refine hK.out _ _ ?_ (fun hHeld2 => ?_)
      · (try dsimp only); refine ⟨?_, Or.inr ?_⟩
        · (first | trivial | with_reducible assumption)
        · (first | with_reducible exact HCC.out _ (Below.refl _ _).drew | with_reducible exact HCC.out _ ((Below.refl _ _).drew.alloc (Nat.le_refl _) _) | exact HCC.out _ (((Below.refl _ _).alloc (Nat.le_refl _) _).drew) | exact HCC.out _ (Below.refl _ _))
      clear hK K
      clear hHeld; have hHeld := hHeld2; clear hHeld2
      (try simp only [Act.put, List.setIfInBounds_toArray, List.set_cons_zero, List.set_cons_succ])
      refine lReady (rs := [8]) (by kernel_rfl) (by simp) ?_
      refine AllL.cons (i := 8) rfl (fun K hK => ?_) ?_
      · go_simp; (refine (PR.out _ (by first | with_reducible exact (Below.refl _ _).drew | with_reducible exact ((Below.refl _ _).drew.alloc (Nat.le_refl _) _) | exact (((Below.refl _ _).alloc (Nat.le_refl _) _).drew) | exact (Below.refl _ _))).mono ?_; rintro e w3 ⟨rfl, hl3⟩; have HL3 := Lib.hid hl3; clear hl3; (try have HZ := Lib.hid (((Blk.new' w2 #[.int .i64 0, .int .i64 0, .int .i64 0, .int .i64 0, .int .i64 0] 91).drew).touch HL3.out.2 (fun e => Nat.lt_irrefl _ (line_lt H2.out HT6.out _ e)))); (try have z0 := HZ.out.cell 0 rfl); (try have z1 := HZ.out.cell 1 rfl); (try have z2 := HZ.out.cell 2 rfl); (try have z3 := HZ.out.cell 3 rfl); (try have z4 := HZ.out.cell 4 rfl); (try have y0 := HZ.out.free 0); (try have y1 := HZ.out.free 1); (try have y2 := HZ.out.free 2); (try have y3 := HZ.out.free 3); (try have y4 := HZ.out.free 4); (try have yl := HZ.out.lt))
        (try go_wp2_with fail)
        refine hK.out _ _ ?_ (fun hHeld2 => ?_)
        · (try dsimp only); refine ⟨?_, Or.inl (by rfl)⟩
          · (first | trivial | with_reducible assumption)
        clear hK K
        clear hHeld; have hHeld := hHeld2; clear hHeld2
        (try simp only [Act.put, List.setIfInBounds_toArray, List.set_cons_zero, List.set_cons_succ])
        refine lTake (i := 9) (v := ?_) rfl (by kernel_rfl) (by kernel_rfl) (by kernel_rfl) (fun _ _ _ h => h) (by rfl) (fun _ _ h => by simpa only [getD_set_ne false (show 9 ≠ 8 by decide)] using h) (fun _ _ h => by simpa only [getD_set_ne false (show 9 ≠ 8 by decide)] using h) ?_ (by assumption) (fun hHeld2 => ?_)
        rotate_left 1
        · (intro _ _ _ _ _; first | (go_simp; done) | (go_simp; with_reducible rfl))
        clear hHeld; have hHeld := hHeld2; clear hHeld2
        (try simp only [Act.put, List.setIfInBounds_toArray, List.set_cons_zero, List.set_cons_succ])
        refine lTake (i := 10) (v := ?_) rfl (by kernel_rfl) (by kernel_rfl) (by kernel_rfl) (fun _ _ _ h => h) (by rfl) (fun _ _ h => by simpa only [getD_set_ne false (show 10 ≠ 8 by decide)] using h) (fun _ _ h => by simpa only [getD_set_ne false (show 10 ≠ 8 by decide)] using h) ?_ (by assumption) (fun hHeld2 => ?_)
        rotate_left 1
        · (intro _ _ _ _ _; first | (go_simp; done) | (go_simp; with_reducible rfl))
        clear hHeld; have hHeld := hHeld2; clear hHeld2
        (try simp only [Act.put, List.setIfInBounds_toArray, List.set_cons_zero, List.set_cons_succ])
        refine lTake (i := 11) (v := ?_) rfl (by kernel_rfl) (by kernel_rfl) (by kernel_rfl) (fun _ _ _ h => h) (by rfl) (fun _ _ h => by simpa only [getD_set_ne false (show 11 ≠ 8 by decide)] using h) (fun _ _ h => by simpa only [getD_set_ne false (show 11 ≠ 8 by decide)] using h) ?_ (by assumption) (fun hHeld2 => ?_)
        rotate_left 1
        · (intro _ _ _ _ _; first | (go_simp; done) | (go_simp; with_reducible rfl))
        clear hHeld; have hHeld := hHeld2; clear hHeld2
        (try simp only [Act.put, List.setIfInBounds_toArray, List.set_cons_zero, List.set_cons_succ])
        refine lReady (rs := [13]) (by kernel_rfl) (by simp) ?_
        refine AllL.cons (i := 13) rfl (fun K hK => ?_) ?_
        · go_simp
          (try go_wp2_with fail)
          refine hK.out _ _ ?_ (fun hHeld2 => ?_)
          · (try dsimp only); refine ⟨?_, Or.inl (by rfl)⟩
            · (first | trivial | with_reducible assumption)
          clear hK K
          clear hHeld; have hHeld := hHeld2; clear hHeld2
          (try simp only [Act.put, List.setIfInBounds_toArray, List.set_cons_zero, List.set_cons_succ])
          refine lTake (i := 14) (v := ?_) rfl (by kernel_rfl) (by kernel_rfl) (by kernel_rfl) (fun _ _ _ h => h) (by rfl) (fun _ _ h => by simpa only [getD_set_ne false (show 14 ≠ 8 by decide)] using h) (fun _ _ h => by simpa only [getD_set_ne false (show 14 ≠ 8 by decide)] using h) ?_ (by assumption) (fun hHeld2 => ?_)
          rotate_left 1
          · (intro _ _ _ _ _; first | (go_simp; done) | (go_simp; with_reducible rfl))
          clear hHeld; have hHeld := hHeld2; clear hHeld2
          (try simp only [Act.put, List.setIfInBounds_toArray, List.set_cons_zero, List.set_cons_succ])
          refine lDone (by kernel_rfl) ?_ _
          first | (exact ⟨w2.heap.size, lineN1 H2.out HT6.out (((Below.refl _ _).alloc (Nat.le_refl _) _).drew) (by simp) HL3.out ((((((Touch.refl _ _).put 0 _).put 1 _).put 2 _).put 3 _).put 4 _), (((((HZ.out).setCell 0 _).setCell 1 _).setCell 2 _).setCell 3 _).setCell 4 _, _, _, _, _, _, _, _, _, _, _, _, _, _, _, _, _, _, _, _, _, _, _, _, _, _, _, _, _, _, _, _, _, _, _, rfl⟩) | (exact ⟨w3.heap.size, (line_to H2.out HT6.out ((Below.refl _ _).drew) HL3.out).below ((Below.refl _ _).alloc (Nat.le_refl _) _), Blk.new' w3 _ 91, _, _, _, _, _, _, _, _, _, _, _, _, _, _, _, _, _, _, _, _, _, _, _, _, _, _, _, _, _, _, _, _, _, _, rfl⟩)
        exact AllL.nil
      exact AllL.nil
    exact AllL.nil
  case post =>
    rintro (_ | _ | _ | _ | _) a' W hq <;> first | exact hq.elim | skip
    obtain ⟨gn, hNT, hXN, x2, x3, x8, x9, x10, x11, x12, x13, x14, x15, x16, x17, x18, x19, x20, x21, x22, x23, x24, x25, x26, x27, x28, x29, x30, x31, x32, x33, x34, x35, x36, x37, x38, x39, rfl⟩ := hq
    have HNT := Lib.hid hNT
    have HXN := Lib.hid hXN
    clear hNT hXN HX HGN PR HCC c0 nl i6
    obtain ⟨col2, M2, hc2, hN2, ht2⟩ := HNT.out
    have HC2 := Lib.hid hc2
    have HT3 := Lib.hid ht2
    have H3 := Lib.hid hN2
    have HB3 := Lib.hid (Nat.le_trans HB2.out ht2.size)
    clear hc2 ht2 hN2
    cases hr : Lx.recvB (Nw.ln S1 tt) s.p with
    | false =>
      go_wp2_with fail
      exact bodyPost_end (v := .tuple #[]) (by simp [results, Try.results25, go_sem]) rfl ⟨rfl, by
        have e : Nw.deliver D S k = { S1 with L := S1.L.set tt (Lx.recvL (Nw.ln S1 tt) s.p) } := by
          unfold Nw.deliver Nw.arrive
          rw [← HS.out, HTO.out, ← HS1.out, hr]
          rfl
        rw [e]
        exact NetTo.next HC1.out HT2.out HNT.out⟩
    | true =>
      have HRT := Lib.hid hr
      clear hr
      go_upto_region 4 with fail
      refine wp_region_inv (SInv W [28, 29, 30, 31, 32, 33, 8] (RF tt (Lx.recvN (Nw.ln S1 tt) s.p).k gn) [(0, .pointer (some ⟨n, 0, none⟩)), (5, .int .i64 tt), (6, .pointer (some ⟨gn, 0, none⟩))] 40) (by kernel_rfl) (by kernel_rfl) ?init ?step ?fin
      case init =>
        exact SInv.start rfl rfl (by intro p hp; simp only [List.mem_cons, List.not_mem_nil, or_false] at hp; rcases hp with rfl | rfl | rfl <;> rfl)
      case fin =>
        intro listed a w1 hI hs hall
        have k0 : slotOf a 0 = .pointer (some ⟨n, 0, none⟩) := hI.kp (0, .pointer (some ⟨n, 0, none⟩)) (by simp)
        have k5 : slotOf a 5 = .int .i64 tt := hI.kp (5, .int .i64 tt) (by simp)
        have k6 : slotOf a 6 = .pointer (some ⟨gn, 0, none⟩) := hI.kp (6, .pointer (some ⟨gn, 0, none⟩)) (by simp)
        have k8 : slotOf a 8 = ((heardF (tt, (Lx.recvN (Nw.ln S1 tt) s.p).k)).map fV).getD .nilFunc := hI.rs 6 (by decide) (hall 6 (by simp))
        obtain ⟨tm, df⟩ := a
        have hdf : df = [] := hI.df
        subst hdf
        obtain ⟨x0, x1, x2, x3, x4, x5, x6, x7, x8, x9, x10, x11, x12, x13, x14, x15, x16, x17, x18, x19, x20, x21, x22, x23, x24, x25, x26, x27, x28, x29, x30, x31, x32, x33, x34, x35, x36, x37, x38, x39, rfl⟩ := arr40 tm hI.sz
        obtain rfl : x0 = _ := k0
        obtain rfl : x5 = _ := k5
        obtain rfl : x6 = _ := k6
        obtain rfl : x8 = _ := k8
        have HBW := Lib.hid hI.bl
        clear hI hs hall
        have HXW := Lib.hid (HXN.out.below HBW.out HXN.out.lt)
        have c0 := HXW.out.cell 0 rfl
        have c1 := HXW.out.cell 1 rfl
        have c2 := HXW.out.cell 2 rfl
        have c3 := HXW.out.cell 3 rfl
        have c4 := HXW.out.cell 4 rfl
        have hgl := HXW.out.lt
        have HEQ := Lib.hid (show Nw.deliver D S k = Nw.heard D { S1 with L := S1.L.set tt (Lx.recvL (Nw.ln S1 tt) s.p) } tt (Lx.recvN (Nw.ln S1 tt) s.p) by
          unfold Nw.deliver Nw.arrive
          rw [← HS.out, HTO.out, ← HS1.out, HRT.out]
          rfl)
        cases hf : heardF (tt, (Lx.recvN (Nw.ln S1 tt) s.p).k) with
        | none =>
          have HNE : (Go.binOp BinOp.neq 140 .nilFunc .nilFunc).run Try.prog w1 = .ok (.bool false) w1 := by kernel_rfl
          dsimp only [Option.map_none, Option.getD_none]
          go_wp2_with fail
          exact bodyPost_end (v := .tuple #[]) (by simp [results, Try.results25, go_sem]) rfl ⟨rfl, by
            rw [HEQ.out, no_do hf]
            exact (NetTo.next HC1.out HT2.out HNT.out).below (HBW.out.mono (Nat.le_refl _))⟩
        | some f =>
          have HF := Lib.hid hf
          clear hf
          have HNE : (Go.binOp BinOp.neq 140 (.func (.func f) #[] #[]) .nilFunc).run Try.prog w1 = .ok (.bool true) w1 := by kernel_rfl
          dsimp only [Option.map_some, Option.getD_some, fV]
          go_wp2_with fail
          rw [callH HF.out]
          go_simp
          have H6 := Lib.hid (H3.out.below (HBW.out.mono (Nat.le_refl _)))
          have HB6 := Lib.hid (Nat.le_trans HB3.out HBW.out.size)
          refine (do_c (K := K2) H6.out HB6.out tt (Lx.recvN (Nw.ln S1 tt) s.p) HF.out HD.out (by rw [HS1.out]; exact HAC.out) HK2.out (by rw [HS1.out]; exact HOK.out)).mono ?_
          rintro e w' ⟨rfl, hn⟩
          go_wp2_with fail
          exact bodyPost_end (v := .tuple #[]) (by simp [results, Try.results25, go_sem]) rfl ⟨rfl, by
            rw [HEQ.out]
            exact NetTo.next HC1.out HT2.out (NetTo.next HC2.out HT3.out (NetTo.before (Touch.of_below HBW.out) hn))⟩
      case step =>
        intro listed a w1 i o hI hs hcl ho hun hw
        have hi : i < 7 := (List.getElem?_eq_some_iff.1 ho).1
        have HKP : ∀ d : Nat, d ≠ 0 → d ≠ 5 → d ≠ 6 → ∀ p ∈ [((0 : Tmp), Value.pointer (some ⟨n, 0, none⟩)), (5, .int .i64 (tt : Int)), (6, .pointer (some ⟨gn, 0, none⟩))], p.1 ≠ d := by
          intro d h0 h5 h6 p hp
          simp only [List.mem_cons, List.not_mem_nil, or_false] at hp
          rcases hp with rfl | rfl | rfl
          · exact Ne.symm h0
          · exact Ne.symm h5
          · exact Ne.symm h6
        have k5 : slotOf a 5 = .int .i64 tt := hI.kp (5, .int .i64 tt) (by simp)
        have k6 : slotOf a 6 = .pointer (some ⟨gn, 0, none⟩) := hI.kp (6, .pointer (some ⟨gn, 0, none⟩)) (by simp)
        simp only [slotOf] at k5 k6
        match i, ho, hi, hun, hw with
        | 0, ho, hi, hun, hw =>
          obtain rfl := Option.some.inj ho
          unfold Oper.wp
          go_simp
          refine (heard_c w1).mono ?_
          rintro e w5 ⟨b, l, rfl, h1, h2, h3, h4⟩
          exact hI.step 0 28 _ ⟨rfl, by decide, by decide, by decide, HKP _ (by decide) (by decide) (by decide)⟩ (RF.keep h3) ⟨b, l, rfl, h1, h2⟩ (h3.mono hI.bl.size)
        | 1, ho, hi, hun, hw =>
          obtain rfl := Option.some.inj ho
          unfold Oper.wp
          go_simp
          exact hI.step 1 29 _ ⟨rfl, by decide, by decide, by decide, HKP _ (by decide) (by decide) (by decide)⟩ (fun _ _ h => h) rfl (Below.refl _ _)
        | 2, ho, hi, hun, hw =>
          obtain rfl := Option.some.inj ho
          unfold Oper.wp
          go_simp
          exact hI.step 2 30 _ ⟨rfl, by decide, by decide, by decide, HKP _ (by decide) (by decide) (by decide)⟩ (fun _ _ h => h) rfl (Below.refl _ _)
        | 3, ho, hi, hun, hw =>
          obtain rfl := Option.some.inj ho
          have r2 : slotOf a 30 = .pointer (some ⟨gn, 0, none⟩) := hI.rs 2 (by decide) (hw ⟨2, .data⟩ (by simp) (by decide))
          simp only [slotOf] at r2
          have c0 := (HXN.out.below hI.bl HXN.out.lt).cell 0 rfl
          unfold Oper.wp
          go_simp
          exact hI.step 3 31 _ ⟨rfl, by decide, by decide, by decide, HKP _ (by decide) (by decide) (by decide)⟩ (fun _ _ h => h) rfl (Below.refl _ _)
        | 4, ho, hi, hun, hw =>
          obtain rfl := Option.some.inj ho
          have r1 : slotOf a 29 = .int .i64 tt := hI.rs 1 (by decide) (hw ⟨1, .data⟩ (by simp) (by decide))
          have r3 : slotOf a 31 = .int .i64 (Lx.recvN (Nw.ln S1 tt) s.p).k := hI.rs 3 (by decide) (hw ⟨3, .data⟩ (by simp) (by decide))
          simp only [slotOf, Array.getD_eq_getD_getElem?] at r1 r3
          unfold Oper.wp
          go_simp
          exact hI.step 4 32 _ ⟨rfl, by decide, by decide, by decide, HKP _ (by decide) (by decide) (by decide)⟩ (fun _ _ h => h) rfl (Below.refl _ _)
        | 5, ho, hi, hun, hw =>
          obtain rfl := Option.some.inj ho
          obtain ⟨b, l, r0, h1, h2⟩ : ∃ b l, slotOf a 28 = .map (some b) ∧ MpAt kP fV w1 b l ∧ ∀ k, mget k l = heardF k := hI.rs 0 (by decide) (hw ⟨0, .data⟩ (by simp) (by decide))
          have r4 : slotOf a 32 = .agg #[.int .i64 tt, .int .i64 (Lx.recvN (Nw.ln S1 tt) s.p).k] := hI.rs 4 (by decide) (hw ⟨4, .data⟩ (by simp) (by decide))
          have lk := lookF h1 h2 tt (Lx.recvN (Nw.ln S1 tt) s.p).k
          simp only [slotOf] at r0 r4
          unfold Oper.wp
          go_simp
          exact hI.step 5 33 _ ⟨rfl, by decide, by decide, by decide, HKP _ (by decide) (by decide) (by decide)⟩ (fun _ _ h => h) rfl (Below.refl _ _)
        | 6, ho, hi, hun, hw =>
          obtain rfl := Option.some.inj ho
          have r5 : slotOf a 33 = ((heardF (tt, (Lx.recvN (Nw.ln S1 tt) s.p).k)).map fV).getD .nilFunc := hI.rs 5 (by decide) (hw ⟨5, .data⟩ (by simp) (by decide))
          simp only [slotOf] at r5
          unfold Oper.wp
          go_simp
          exact hI.step 6 8 _ ⟨rfl, by decide, by decide, by decide, HKP _ (by decide) (by decide) (by decide)⟩ (fun _ _ h => h) rfl (Below.refl _ _)
        | j + 7, ho, hi, hun, hw => omega
theorem deliver_c {w : World} {B n base : Nat} {col : Nat → Nat} {D : Dl} {M : Mem} {S : St} (h : NetAt w B n col base D M S) (hB : B ≤ w.heap.size) (k : Nat) (hk : k < S.fl.length) {K : Int} (ho : OkN K D S) (hD : ∀ c ∈ D.cn, ∀ q ∈ c.ps, 0 ≤ q) (hac : S.ac.length ≤ 1000000) {K2 : Int} (hK2 : K2 ≤ 100000) (hok : ∀ c ∈ S.cs, Sx.OkC K2 c) :
    Calls Try.prog 25 #[.pointer (some ⟨n, 0, none⟩), .int .i64 k] w fun e w' => e = .returned (.tuple #[]) ∧ NetTo w B n col base D (Nw.deliver D S k) w' :=
  (deliver_0 h.recol hB (fun k hk => fresh_not hk) k hk ho hD hac hK2 hok).mono fun e w2 ⟨he, hn⟩ => ⟨he, hn.recol⟩
end Go.Proofs.Ytlklnaebdnahcaa
namespace Go.Proofs.Ytlklnaebdnahcaa
open Go.RowKit Nw
set_option maxRecDepth 100000 in
set_option maxHeartbeats 4000000 in
theorem add_c (g o : Nat) (i b f : Int) (w : World) (h0 : w.cell? ⟨g, o, none⟩ = some (.int .i64 i)) (h1 : w.cell? ⟨g, o + 1, none⟩ = some (.int .i64 b)) (f0 : w.frozen? ⟨g, o, none⟩ = false) (f1 : w.frozen? ⟨g, o + 1, none⟩ = false) (hl : g < w.heap.size) :
    Calls Try.prog 44 #[.pointer (some ⟨g, o, none⟩), .int .i64 f] w fun e w' => e = .returned (.tuple #[]) ∧ w' = (w.setCell ⟨g, o, none⟩ (.int .i64 (enAdd ⟨i, b⟩ f).i)).setCell ⟨g, o + 1, none⟩ (.int .i64 (enAdd ⟨i, b⟩ f).b) := by
  unfold enAdd
  go_enter Try.func44, Try.ntmps44
  go_wp2_with fail
  all_goals
    refine bodyPost_end (v := .tuple #[]) (by simp [results, Try.results44, go_sem]) rfl ⟨rfl, ?_⟩
    show _ = (w.setCell ⟨g, o, none⟩ (.int .i64 (wrap64 (i + max 0 f)))).setCell ⟨g, o + 1, none⟩ (.int .i64 (wrap64 (b + max 0 (wrap64 (-f)))))
    (first | rw [Int.max_eq_right (show (0 : Int) ≤ f by omega)] | rw [Int.max_eq_left (show f ≤ 0 by omega)])
    (first | rw [Int.max_eq_right (show (0 : Int) ≤ wrap64 (-f) by omega)] | rw [Int.max_eq_left (show wrap64 (-f) ≤ 0 by omega)])
    try simp
end Go.Proofs.Ytlklnaebdnahcaa
namespace Go.Proofs.Ytlklnaebdnahcaa
open Go.RowKit Nw
theorem ln_set {S : St} {i j : Nat} (hi : i < S.L.length) (l : Ln) : Nw.ln { S with L := S.L.set i l } j = if j = i then l else Nw.ln S j := by
  unfold ln
  show (S.L.set i l).getD j _ = _
  rw [List.getD_eq_getElem?_getD, List.getElem?_set, List.getD_eq_getElem?_getD]
  by_cases e : i = j
  · subst e; simp [hi]
  · rw [if_neg e, if_neg (fun q => e q.symm)]
theorem OkN.setL {K : Int} {D : Dl} {S : St} (h : OkN K D S) (i : Nat) {l : Ln} (hl : i < 6 → Lx.ok K l) : OkN K D ({ S with L := S.L.set i l } : St) where
  k := h.k
  ln := fun j hj => by
    by_cases hi : i < S.L.length
    · rw [ln_set hi]
      split
      · subst_vars; exact hl hj
      · exact h.ln j hj
    · have e : Nw.ln { S with L := S.L.set i l } j = Nw.ln S j := by
        unfold Nw.ln
        show (S.L.set i l).getD j _ = _
        rw [List.set_eq_of_length_le (by omega)]
      rw [e]; exact h.ln j hj
  fl := h.fl
theorem OkN.tell {K : Int} {D : Dl} {S : St} (h : OkN K D S) (i : Nat) (x : Nt) : OkN K D (Nw.tell S i x) := h.setL i (fun hi => Lx.ok_send (h.ln i hi))
theorem OkN.same {K : Int} {D : Dl} {S S' : St} (h : OkN K D S) (hL : S'.L = S.L) (hf : S'.fl = S.fl) : OkN K D S' where
  k := h.k
  ln := fun j hj => by
    have : Nw.ln S' j = Nw.ln S j := by unfold Nw.ln; rw [hL]
    rw [this]; exact h.ln j hj
  fl := by rw [hf]; exact h.fl
theorem OkN.tick1 {K : Int} {D : Dl} {S : St} (h : OkN K D S) (p : Int) : OkN K D (Nw.tick1 D S p) := by
  unfold Nw.tick1
  split
  · exact h.same rfl rfl
  · exact h.same rfl rfl
theorem OkN.record {K : Int} {D : Dl} {S : St} (h : OkN K D S) (k : Int) : OkN K D (Nw.record S k) := (h.tell 2 _).same rfl rfl
theorem OkN.tick2 {K : Int} {D : Dl} {S : St} (h : OkN K D S) : OkN K D (Nw.tick2 D S) := by
  unfold Nw.tick2
  split
  · exact (OkN.record (S := { S with tks := wr (S.tks + 1) }) (h.same rfl rfl) 9).same rfl rfl
  · exact h.same rfl rfl
theorem pollP_ak {K : Int} {l : Ln} (h : Lx.ok K l) (hK : K ≤ 4611686018427387904) : (Lx.pollP l).ak ≤ 9223372036854775807 := by
  have := h.2.1.2
  unfold Lx.pollP
  split
  · split
    · show l.tk ≤ _; omega
    · show (0 : Int) ≤ _; decide
  · show l.tk ≤ _; omega
theorem OkN.poll {K : Int} {D : Dl} {S : St} (h : OkN K D S) {i : Nat} (hi : i < 6) : OkN K D (Nw.poll S i) := by
  have h1 := h.setL i (l := Lx.pollL (Nw.ln S i)) (fun hi => Lx.ok_poll (h.ln i hi))
  refine ⟨h.k, h1.ln, fun s hs => ?_⟩
  have hs' : s ∈ (if Lx.pollB (Nw.ln S i) then S.fl ++ [⟨i, Lx.pollP (Nw.ln S i)⟩] else S.fl) := hs
  split at hs'
  · rcases List.mem_append.1 hs' with e | e
    · exact h.fl s e
    · rw [List.mem_singleton] at e
      subst e
      exact ⟨by show (0 : Int) ≤ (i : Int); omega, by show (i : Int) < 6; omega, pollP_ak (h.ln i hi) h.k.2⟩
  · exact h.fl s hs'
theorem OkN.polls {K : Int} {D : Dl} {S : St} (h : OkN K D S) : ∀ i, i ≤ 6 → OkN K D (Nw.polls i S)
  | 0, _ => h
  | i + 1, hi => (OkN.polls h i (by omega)).poll (by omega)
theorem polls_fl (S : St) : ∀ i, (polls i S).fl.length ≤ S.fl.length + i
  | 0 => Nat.le_refl _
  | i + 1 => by
    have := polls_fl S i
    show (if _ then _ else _ : List Sn).length ≤ _
    split
    · rw [List.length_append]; simp; omega
    · omega
theorem line_toG {w w1 w' : World} {B n base : Nat} {col : Nat → Nat} {D : Dl} {M : Mem} {S : St} (h : NetAt w B n col base D M S) {i : Nat} (hi : i < 6) {l' : Ln} (hb : Below w.heap.size w w1) (h1 : LineTo w1 B (M.g i) (M.lA i) l' w') :
    ∃ col' M', M'.g = M.g ∧ (∀ k, k < w.heap.size → col' k = col k) ∧ NetAt w' B n col' base D M' { S with L := S.L.set i l' } ∧ Touch (NetOwn col base) w w' := by
  obtain ⟨⟨A', c', hl, hA⟩, ht⟩ := h1
  have hg := (h.lc i hi).1
  have hgl := (h.ln i hi).blk.lt
  have hno : ∀ k, (k = M.g i ∨ OwnB (M.lA i) k) → col k = base + (1 + i) := fun k hk => by
    rcases hk with rfl | hk
    · rw [hg]; omega
    · rw [(h.lc i hi).2 k hk]; omega
  have hT : Touch (fun k => k = M.g i ∨ OwnB (M.lA i) k) w w' := (Touch.of_below hb).then ht (fun k hk => .inl hk)
  refine ⟨fun k => if k < w.heap.size then col k else base + 1 + i, _, ?_, fun k hk => if_pos hk, h.setLn (col' := fun k => if k < w.heap.size then col k else base + 1 + i) (fun k hk => if_pos hk) hi (l' := l') (A' := A') (c' := c') hl (fun k hk => ?_) (hT.mono (fun k hk => .inr (hno k hk))) ?_, hT.mono (fun k hk => ?_)⟩
  · rfl
  · by_cases hlt : k < w.heap.size
    · show (if k < w.heap.size then col k else base + 1 + i) = _
      rw [if_pos hlt]
      rcases hA k hk with e | e
      · exact (h.lc i hi).2 k e
      · have := hb.size; omega
    · exact if_neg hlt
  · exact h.blk.touch hT (fun e => by
      have := hno n e
      rw [h.c0] at this
      omega)
  · have := hno k hk
    unfold NetOwn
    omega
theorem NetAt.toFlG {w w' : World} {B n base : Nat} {col : Nat → Nat} {D : Dl} {M : Mem} {S : St} (h : NetAt w B n col base D M S) {A' : Option Addr} {c' : Nat} {l' : List Nw.Sn} (hown : OwnR Nw.Sn.vals 95 9 B w' A' c' l') (ht : Touch (fun k => k = n ∨ OwnB M.fA k) w w')
    (hb : Blk w' n 81 ((netC M D S).set 17 (.slice A' l'.length c'))) (hn : ∀ k, OwnB A' k → OwnB M.fA k ∨ w.heap.size ≤ k) :
    ∃ col' M', M'.g = M.g ∧ (∀ k, k < w.heap.size → col' k = col k) ∧ NetAt w' B n col' base D M' { S with fl := l' } ∧ Touch (NetOwn col base) w w' := by
  have hT : ∀ k, (k = n ∨ OwnB M.fA k) → col k = base ∨ col k = base + 7 := fun k e => by
    rcases e with rfl | e
    · exact .inl h.c0
    · exact .inr (h.fc k e)
  refine ⟨ncol w col (base + 7), { M with fA := A', fc := c' }, rfl, fun k hk => ncol_old hk, h.setFl (fun k hk => ncol_old hk) hown (fun k e => ?_) (ht.mono hT) hb, ht.mono (fun k e => by have := hT k e; unfold NetOwn; omega)⟩
  by_cases hlt : k < w.heap.size
  · rw [ncol_old hlt]
    rcases hn k e with e | e
    · exact h.fc k e
    · omega
  · exact ncol_new (by omega)
theorem tch_next {w w1 w2 : World} {base : Nat} {col col1 : Nat → Nat} (hc : ∀ k, k < w.heap.size → col1 k = col k) (ht : Touch (NetOwn col base) w w1) (h : Touch (NetOwn col1 base) w1 w2) : Touch (NetOwn col base) w w2 :=
  ht.then h (fun k e => by
    by_cases hk : k < w.heap.size
    · left; unfold NetOwn at e ⊢; rw [hc k hk] at e; exact e
    · right; omega)
theorem idx6 (g : Nat → Nat) : ∀ i, i < 6 → ∀ w : World, (Instr.index 56 (.agg #[.pointer (some ⟨g 0, 0, none⟩), .pointer (some ⟨g 1, 0, none⟩), .pointer (some ⟨g 2, 0, none⟩), .pointer (some ⟨g 3, 0, none⟩), .pointer (some ⟨g 4, 0, none⟩), .pointer (some ⟨g 5, 0, none⟩)]) (.int .i64 (i : Nat))).run Try.prog w = .ok (.pointer (some ⟨g i, 0, none⟩)) w
  | 0, _, w => by kernel_rfl
  | 1, _, w => by kernel_rfl
  | 2, _, w => by kernel_rfl
  | 3, _, w => by kernel_rfl
  | 4, _, w => by kernel_rfl
  | 5, _, w => by kernel_rfl
  | i + 6, h, _ => absurd h (by omega)
end Go.Proofs.Ytlklnaebdnahcaa
namespace Go.Proofs.Ytlklnaebdnahcaa
open Go.RowKit Nw
theorem lookVc {W : World} {b : Nat} {l : List (Int × En)} (h : MpAt kI En.v W b l) (x : Int) : (Instr.lookup 63 (.map (some b)) (.int .i64 x) false).run Try.prog W = .ok (.agg #[.int .i64 ((mget x l).getD default).i, .int .i64 ((mget x l).getD default).b]) W := by
  have := h.look keyI Try.underlying63 x (z := .agg #[.int .i64 0, .int .i64 0]) (by kernel_rfl) false
  cases hm : mget x l with
  | none => rw [hm] at this; exact this
  | some e => rw [hm] at this; exact this
theorem NetAt.toVc {w w' : World} {B n base : Nat} {col : Nat → Nat} {D : Dl} {M : Mem} {S : St} (h : NetAt w B n col base D M S) {l' : List (Int × En)} (hl : MpAt kI En.v w' M.vc l') (ht : Touch (fun k => k = M.vc) w w') : NetAt w' B n col base D M { S with vc := l' } ∧ Touch (NetOwn col base) w w' := by
  have hT : ∀ k, k = M.vc → col k = base + 9 := fun k e => by rw [e]; exact h.vcc
  refine ⟨h.setVc (fun _ _ => rfl) hl (ht.mono (fun k e => .inr (hT k e))) (h.blk.touch ht (fun e => by have := hT n e; rw [h.c0] at this; omega)), ht.mono (fun k e => by have := hT k e; unfold NetOwn; omega)⟩
set_option maxRecDepth 100000 in
set_option maxHeartbeats 16000000 in
theorem tick_0 {w : World} {B n base : Nat} {col : Nat → Nat} {D : Dl} {M : Mem} {S : St} (h : NetAt w B n col base D M S) (hB : B ≤ w.heap.size) (hfr : ∀ k, w.heap.size ≤ k → ¬ NetOwn col base k) (p : Int) {K : Int} (ho : OkN K D S) (hfl : S.fl.length ≤ 1000000) :
    Calls Try.prog 24 #[.pointer (some ⟨n, 0, none⟩), .int .i64 p] w fun e w' => e = .returned (.tuple #[]) ∧ NetTo w B n col base D (Nw.tick D S p) w' := by
  have HFR := Lib.hid hfr
  have HBB := Lib.hid hB
  have HO := Lib.hid ho
  have HFL0 := Lib.hid hfl
  clear hfl
  have H := Lib.hid h
  clear hfr hB ho h
  go_enter Try.func24, Try.ntmps24
  have nl0 := H.out.lt
  go_upto_region 0 with fail
  refine wp_region_past (by kernel_rfl) (by kernel_rfl) ?_
  repeat (go_big_quiet_step (fail))
  refine wpQuiet_nil ?_
  intro xx
  have HW := Lib.hid (H.out.below xx.far)
  have HT0 := Lib.hid (Touch.of_below (S := NetOwn col base) xx.far)
  generalize xx.w = w0 at HW HT0 ⊢
  clear nl0
  have q0 : Blk _ n 81 (netC M D S) := (HW.out).blk
  have c35 := q0.cell 35 rfl
  have f35 := q0.free 35
  have nl := q0.lt
  clear q0
  go_upto_region 2 with fail
  have H1 := Lib.hid (show NetAt _ B n col base D M ({ S with flow := 0 }) from HW.out.stored (S' := { S with flow := 0 }) ((Touch.refl _ _).put 35 (.int .i64 0)) ((HW.out.blk).setCell 35 (.int .i64 0)) rfl rfl rfl rfl rfl rfl rfl rfl rfl rfl rfl rfl rfl rfl)
  have HT1 := Lib.hid (show Touch (NetOwn col base) w _ from HT0.out.then (show Touch (fun k => k = n) w0 _ from (Touch.refl _ _).put 35 (.int .i64 0)) (fun k e => .inl (by subst e; have := H.out.c0; unfold NetOwn; omega)))
  clear HT0
  generalize w0.setCell ⟨n, 35, none⟩ (.int .i64 0) = w1 at H1 HT1 ⊢
  have HB1 := Lib.hid (Nat.le_trans HBB.out HT1.out.size)
  clear c35 f35 nl
  go_cut [4, 5, 6] from 24 to 40 (fun s4 s5 s6 wc => s4 = .pointer (some ⟨n, 42, none⟩) ∧ s5 = .pointer (some ⟨n, 36, none⟩) ∧ s6 = .bool (going D S) ∧ Hid (Below w1.heap.size w1 wc))
  case first =>
    have q0 : Blk _ n 81 (netC M D { S with flow := 0 }) := H1.out.blk
    have c43 := q0.cell 43 rfl
    have c50 := q0.cell 50 rfl
    have c7 := q0.cell 7 rfl
    have nl := q0.lt
    clear q0
    by_cases h1 : S.sph = 2
    · have HS1 := Lib.hid h1
      rw [show ({ S with flow := 0 } : St).sph = 2 from h1] at c43
      clear h1
      by_cases h2 : S.opn < D.sl
      · have d2 : decide (S.opn < D.sl) = true := decide_eq_true h2
        have HG := Lib.hid (show going D S = true from decide_eq_true ⟨HS1.out, h2⟩)
        clear h2
        refine wp_region_past (by kernel_rfl) (by kernel_rfl) ?_
        repeat (go_big_quiet_step (fail))
        refine wpQuiet_nil ?_
        intro xx
        go_wp2_with fail
        go_meet
        case rel => exact ⟨rfl, rfl, by rw [HG.out], Lib.hid xx.far⟩
      · have d2 : decide (S.opn < D.sl) = false := decide_eq_false h2
        have HG := Lib.hid (show going D S = false from decide_eq_false (fun e => h2 e.2))
        clear h2
        refine wp_region_past (by kernel_rfl) (by kernel_rfl) ?_
        repeat (go_big_quiet_step (fail))
        refine wpQuiet_nil ?_
        intro xx
        go_wp2_with fail
        go_meet
        case rel => exact ⟨rfl, rfl, by rw [HG.out], Lib.hid xx.far⟩
    · have b1 : (S.sph == 2) = false := by simpa using h1
      have d1 : decide (S.sph = 2) = false := decide_eq_false h1
      have HG := Lib.hid (show going D S = false from decide_eq_false (fun e => h1 e.1))
      refine wp_region_past (by kernel_rfl) (by kernel_rfl) ?_
      repeat (go_big_quiet_step (fail))
      refine wpQuiet_nil ?_
      intro xx
      go_wp2_with fail
      go_meet
      case rel => exact ⟨rfl, rfl, by rw [HG.out], Lib.hid xx.far⟩
  case rest =>
    obtain ⟨rfl, rfl, rfl, HC⟩ := hcut
    have H2 := Lib.hid (H1.out.below HC.out)
    have HT2 := Lib.hid (HT1.out.below HC.out)
    have HB2 := Lib.hid (Nat.le_trans HB1.out HC.out.size)
    clear HC H1 HT1 HB1 HW
    rename_i w2
    go_upto_region 3 with fail
    go_cut [6, 65] from 41 to 64 (fun s6 s65 wd => s6 = .bool (going D S) ∧ s65 = .bool (flowB D S) ∧ Hid (Below wc.heap.size wc wd))
    case first =>
      have q0 : Blk _ n 81 (netC M D { S with flow := 0 }) := H2.out.blk
      have c34 := q0.cell 34 rfl
      have c37 := q0.cell 37 rfl
      have c40 := q0.cell 40 rfl
      have c44 := q0.cell 44 rfl
      have nl := q0.lt
      clear q0
      cases hg : going D S with
      | false =>
        have HG := Lib.hid hg
        have HF := Lib.hid (show flowB D S = false by unfold flowB; rw [hg]; rfl)
        clear hg
        refine wp_region_past (by kernel_rfl) (by kernel_rfl) ?_
        repeat (go_big_quiet_step (fail))
        refine wpQuiet_nil ?_
        intro xx
        go_wp2_with fail
        go_meet
        case rel => exact ⟨by rw [HG.out], by rw [HF.out], Lib.hid xx.far⟩
      | true =>
        have HG := Lib.hid hg
        cases hi : S.inn with
        | false =>
          have HF := Lib.hid (show flowB D S = false by unfold flowB; rw [hi]; simp)
          rw [show ({ S with flow := 0 } : St).inn = false from hi] at c34
          clear hg hi
          refine wp_region_past (by kernel_rfl) (by kernel_rfl) ?_
          repeat (go_big_quiet_step (fail))
          refine wpQuiet_nil ?_
          intro xx
          go_wp2_with fail
          go_meet
          case rel => exact ⟨by rw [HG.out], by rw [HF.out], Lib.hid xx.far⟩
        | true =>
          rw [show ({ S with flow := 0 } : St).inn = true from hi] at c34
          by_cases hv : S.vph = 2
          · rw [show ({ S with flow := 0 } : St).vph = 2 from hv] at c37
            by_cases he : S.vss = S.sss
            · have HF := Lib.hid (show flowB D S = true by unfold flowB; rw [hg, decide_eq_true (show S.inn = true ∧ S.vph = 2 ∧ S.vss = S.sss from ⟨hi, hv, he⟩)]; rfl)
              rw [show ({ S with flow := 0 } : St).vss = S.sss from he] at c40
              clear hg hi hv he
              refine wp_region_past (by kernel_rfl) (by kernel_rfl) ?_
              repeat (go_big_quiet_step (fail))
              refine wpQuiet_nil ?_
              intro xx
              go_wp2_with fail
              go_meet
              case rel => exact ⟨by rw [HG.out], by rw [HF.out], Lib.hid xx.far⟩
            · have HF := Lib.hid (show flowB D S = false by unfold flowB; rw [decide_eq_false (show ¬ (S.inn = true ∧ S.vph = 2 ∧ S.vss = S.sss) from fun e => he e.2.2)]; simp)
              have b1 : (S.vss == S.sss) = false := by simpa using he
              have d1 : decide (S.vss = S.sss) = false := decide_eq_false he
              clear hg hi hv he
              refine wp_region_past (by kernel_rfl) (by kernel_rfl) ?_
              repeat (go_big_quiet_step (fail))
              refine wpQuiet_nil ?_
              intro xx
              go_wp2_with fail
              go_meet
              case rel => exact ⟨by rw [HG.out], by rw [HF.out], Lib.hid xx.far⟩
          · have HF := Lib.hid (show flowB D S = false by unfold flowB; rw [decide_eq_false (show ¬ (S.inn = true ∧ S.vph = 2 ∧ S.vss = S.sss) from fun e => hv e.2.1)]; simp)
            have b1 : (S.vph == 2) = false := by simpa using hv
            have d1 : decide (S.vph = 2) = false := decide_eq_false hv
            clear hg hi hv
            refine wp_region_past (by kernel_rfl) (by kernel_rfl) ?_
            repeat (go_big_quiet_step (fail))
            refine wpQuiet_nil ?_
            intro xx
            go_wp2_with fail
            go_meet
            case rel => exact ⟨by rw [HG.out], by rw [HF.out], Lib.hid xx.far⟩
    case rest =>
      obtain ⟨rfl, rfl, HC⟩ := hcut
      have H3 := Lib.hid (H2.out.below HC.out)
      have HT3 := Lib.hid (HT2.out.below HC.out)
      have HB3 := Lib.hid (Nat.le_trans HB2.out HC.out.size)
      clear HC H2 HT2 HB2
      rename_i w2 w3
      go_upto_if 65 with fail
      go_cut [7, 8, 9, 65] from 66 to 117 (fun s7 s8 s9 s65 we => s65 = .bool (flowB D S) ∧ Hid (NetTo w B n col base D (tick1 D S p) we))
      case first =>
        cases hf : flowB D S with
        | false =>
          have e : tick1 D S p = { S with flow := 0 } := by unfold tick1; rw [hf]; rfl
          have HR := Lib.hid (show NetTo w B n col base D (tick1 D S p) wc from by rw [e]; exact ⟨col, M, fun _ _ => rfl, H3.out, HT3.out⟩)
          clear e
          have HF := Lib.hid hf
          clear hf
          go_wp2_with fail
          go_meet
          case rel => exact ⟨by rw [HF.out], HR⟩
        | true =>
          have e : tick1 D S p = pour S (flowOf S p) := by unfold tick1; rw [hf]; rfl
          have HE := Lib.hid e
          have HF := Lib.hid hf
          clear hf e
          have q0 : Blk _ n 81 (netC M D { S with flow := 0 }) := H3.out.blk
          have c10 := q0.cell 10 rfl
          have c52 := q0.cell 52 rfl
          have nl := q0.lt
          clear q0
          have HP := Lib.hid (fun V (hV : Below wc.heap.size wc V) => Most_c M.po S.po S.now V (H3.out.below hV).po)
          go_upto_region 4 with fail
          refine wp_region_past (by kernel_rfl) (by kernel_rfl) ?_
          repeat (go_big_quiet_step ((go_at_call 43; exact past_below (HP.out _ (Past.far _)))))
          refine wpQuiet_nil ?_
          intro xx
          have H4 := Lib.hid (H3.out.below xx.far)
          have HT4 := Lib.hid (HT3.out.below xx.far)
          have HB4 := Lib.hid (Nat.le_trans HB3.out xx.far.size)
          generalize xx.w = w4 at H4 HT4 HB4 ⊢
          clear c10 c52 nl HP H3 HT3 HB3
          have q0 : Blk _ n 81 (netC M D { S with flow := 0 }) := H4.out.blk
          have c35 := q0.cell 35 rfl
          have f35 := q0.free 35
          have nl := q0.lt
          clear q0
          go_upto_region 5 with fail
          go_cut [7] from 78 to 86 (fun s7 wf => wf = w4.setCell ⟨n, 35, none⟩ (.int .i64 (flowOf S p)))
          case first =>
            go_wp2_with fail
            all_goals
              go_meet
              case rel =>
                refine congrArg (fun v => w4.setCell ⟨n, 35, none⟩ (Value.int .i64 v)) ?_
                show _ = max (wrap64 (-(Po.m2 S.po S.now))) (min p (Po.m1 S.po S.now))
                omega
          case rest =>
            subst hcut
            obtain ⟨f, hfl⟩ : ∃ f, f = flowOf S p := ⟨_, rfl⟩
            rw [← hfl]
            have HFL := Lib.hid hfl
            clear hfl
            have H5 := Lib.hid (show NetAt _ B n col base D M ({ S with flow := f }) from H4.out.stored (S' := { S with flow := f }) ((Touch.refl _ _).put 35 (.int .i64 f)) ((H4.out.blk).setCell 35 (.int .i64 f)) rfl rfl rfl rfl rfl rfl rfl rfl rfl rfl rfl rfl rfl rfl)
            have HT5 := Lib.hid (HT4.out.then (show Touch (fun k => k = n) w4 _ from (Touch.refl _ _).put 35 (.int .i64 f)) (fun k e => .inl (by subst e; have := H.out.c0; unfold NetOwn; omega)))
            have HB5 := Lib.hid (Nat.le_trans HB4.out (show Touch (fun k => k = n) w4 _ from (Touch.refl _ _).put 35 (.int .i64 f)).size)
            generalize w4.setCell ⟨n, 35, none⟩ (.int .i64 f) = w5 at H5 HT5 HB5 ⊢
            clear c35 f35 nl H4 HT4 HB4
            go_upto_region 6 with fail
            refine wp_region_then 7 _ ?af rfl (by kernel_rfl) (by kernel_rfl) ?walk ?tail
            case walk =>
              intro V hV
              have q0 : Blk _ n 81 (netC M D { S with flow := f }) := (H5.out.below hV).blk
              have c35 := q0.cell 35 rfl
              have nl := q0.lt
              clear q0 hV
              simp only [List.take_succ_cons, List.take_zero]
              repeat (go_big_quiet_step (fail))
              refine wpQuiet_nil ?_
              rfl
            intro w8 hb8
            have H8 := Lib.hid (H5.out.below hb8)
            have HT8 := Lib.hid (HT5.out.below hb8)
            have HB8 := Lib.hid (Nat.le_trans HB5.out hb8.size)
            clear hb8 H5 HT5 HB5
            go_simp
            have q0 : Blk _ n 81 (netC M D { S with flow := f }) := H8.out.blk
            have c48 := q0.cell 48 rfl
            have c49 := q0.cell 49 rfl
            have f48 := q0.free 48
            have f49 := q0.free 49
            have nl := q0.lt
            clear q0
            refine (add_c n 48 S.si S.sk f w8 c48 c49 f48 f49 nl).mono ?_
            rintro e w9 ⟨rfl, hw9⟩
            have H9 := Lib.hid (show NetAt w9 B n col base D M ({ S with flow := f, si := (enAdd ⟨S.si, S.sk⟩ f).i, sk := (enAdd ⟨S.si, S.sk⟩ f).b }) from by rw [hw9]; exact H8.out.stored (S' := { S with flow := f, si := (enAdd ⟨S.si, S.sk⟩ f).i, sk := (enAdd ⟨S.si, S.sk⟩ f).b }) (((Touch.refl _ _).put 48 _).put 49 _) (((H8.out.blk).setCell 48 _).setCell 49 _) rfl rfl rfl rfl rfl rfl rfl rfl rfl rfl rfl rfl rfl rfl)
            have HT9 := Lib.hid (show Touch (NetOwn col base) w w9 from by rw [hw9]; exact HT8.out.then (show Touch (fun k => k = n) w8 _ from ((Touch.refl _ _).put 48 _).put 49 _) (fun k e => .inl (by subst e; have := H.out.c0; unfold NetOwn; omega)))
            have HB9 := Lib.hid (show B ≤ w9.heap.size from by rw [hw9]; exact Nat.le_trans HB8.out (show Touch (fun k => k = n) w8 _ from ((Touch.refl _ _).put 48 _).put 49 _).size)
            clear hw9 c48 c49 f48 f49 nl H8 HT8 HB8
            dsimp only
            refine wpQuiet_nil ?_
            intro xx
            have H6 := Lib.hid (H9.out.below xx.far)
            have HT6 := Lib.hid (HT9.out.below xx.far)
            have HB6 := Lib.hid (Nat.le_trans HB9.out xx.far.size)
            generalize xx.w = w6 at H6 HT6 HB6 ⊢
            clear H9 HT9 HB9
            obtain ⟨S6, hS6⟩ : ∃ S6 : St, S6 = { S with flow := f, si := (enAdd ⟨S.si, S.sk⟩ f).i, sk := (enAdd ⟨S.si, S.sk⟩ f).b } := ⟨_, rfl⟩
            rw [← hS6] at H6
            have e1 : S6.vss = S.vss := by rw [hS6]
            have e2 : S6.vc = S.vc := by rw [hS6]
            have e3 : S6.flow = f := by rw [hS6]
            obtain ⟨en, hen⟩ : ∃ en : En, en = (mget S.vss S.vc).getD default := ⟨_, rfl⟩
            have HEN := Lib.hid hen
            have RD := Lib.hid (fun W (hW : Below w6.heap.size w6 W) => (show W.cell? ⟨n, 40, none⟩ = some (.int .i64 S.vss) ∧ W.cell? ⟨n, 41, none⟩ = some (.map (some M.vc)) ∧ (Instr.lookup 63 (.map (some M.vc)) (.int .i64 S.vss) false).run Try.prog W = .ok (.agg #[.int .i64 en.i, .int .i64 en.b]) W from ⟨by rw [← e1]; exact (H6.out.below hW).blk.cell 40 rfl, (H6.out.below hW).blk.cell 41 rfl, by rw [hen, ← e2]; exact lookVc (H6.out.below hW).vc _⟩))
            have HS6 := Lib.hid hS6
            have E1 := Lib.hid e1
            have E2 := Lib.hid e2
            have E3 := Lib.hid e3
            clear hS6 e1 e2 e3 hen
            have nl := H6.out.lt
            go_upto_region 7 with fail
            go_cut [9] from 95 to 103 (fun s9 wg => s9 = .pointer (some ⟨w6.heap.size, 0, none⟩) ∧ wg = (w6.alloc (.cells #[.int .i64 en.i, .int .i64 en.b] 67)).drew)
            case first =>
              refine lBegin (S := fun _ W => (W.cell? ⟨n, 40, none⟩ = some (.int .i64 S.vss) ∧ W.cell? ⟨n, 41, none⟩ = some (.map (some M.vc)) ∧ (Instr.lookup 63 (.map (some M.vc)) (.int .i64 S.vss) false).run Try.prog W = .ok (.agg #[.int .i64 en.i, .int .i64 en.b]) W)) (by kernel_rfl) ?_ (fun hHeld => ?_)
              · (try dsimp only); (first | with_reducible exact RD.out _ (Below.refl _ _).drew | with_reducible exact RD.out _ ((Below.refl _ _).drew.alloc (Nat.le_refl _) _) | exact RD.out _ (((Below.refl _ _).alloc (Nat.le_refl _) _).drew) | with_reducible assumption)
              refine lTake (i := 0) (v := ?_) rfl (by kernel_rfl) (by kernel_rfl) (by kernel_rfl) (fun _ _ _ h => h) (by rfl) (fun _ _ h => h) (fun _ _ h => h) ?_ (by assumption) (fun hHeld2 => ?_)
              rotate_left 1
              · (intro _ _ _ _ _; first | (go_simp; done) | (go_simp; with_reducible rfl))
              clear hHeld; have hHeld := hHeld2; clear hHeld2
              (try simp only [Act.put, List.setIfInBounds_toArray, List.set_cons_zero, List.set_cons_succ])
              refine lTake (i := 1) (v := ?_) rfl (by kernel_rfl) (by kernel_rfl) (by kernel_rfl) (fun _ _ _ h => h) (by rfl) (fun _ _ h => h) (fun _ _ h => h) ?_ (by assumption) (fun hHeld2 => ?_)
              rotate_left 1
              · (intro _ _ _ _ _; first | (go_simp; done) | (go_simp; with_reducible rfl))
              clear hHeld; have hHeld := hHeld2; clear hHeld2
              (try simp only [Act.put, List.setIfInBounds_toArray, List.set_cons_zero, List.set_cons_succ])
              refine lTake (i := 2) (v := ?_) rfl (by kernel_rfl) (by kernel_rfl) (by kernel_rfl) (fun _ _ _ h => h) (by rfl) (fun _ _ h => h) (fun _ _ h => h) ?_ (by assumption) (fun hHeld2 => ?_)
              rotate_left 1
              · (intro _ _ _ _ _; first | (go_simp; done) | (go_simp; with_reducible rfl))
              clear hHeld; have hHeld := hHeld2; clear hHeld2
              (try simp only [Act.put, List.setIfInBounds_toArray, List.set_cons_zero, List.set_cons_succ])
              refine lTake (i := 3) (v := ?_) rfl (by kernel_rfl) (by kernel_rfl) (by kernel_rfl) (fun _ _ _ h => h) (by rfl) (fun _ _ h => h) (fun _ _ h => h) ?_ (by assumption) (fun hHeld2 => ?_)
              rotate_left 1
              · (intro L W _ _ hSw; (try dsimp only at hSw); first | (go_simp; done) | (go_simp; with_reducible rfl))
              clear hHeld; have hHeld := hHeld2; clear hHeld2
              (try simp only [Act.put, List.setIfInBounds_toArray, List.set_cons_zero, List.set_cons_succ])
              refine lTake (i := 4) (v := ?_) rfl (by kernel_rfl) (by kernel_rfl) (by kernel_rfl) (fun _ _ _ h => h) (by rfl) (fun _ _ h => h) (fun _ _ h => h) ?_ (by assumption) (fun hHeld2 => ?_)
              rotate_left 1
              · (intro _ _ _ _ _; first | (go_simp; done) | (go_simp; with_reducible rfl))
              clear hHeld; have hHeld := hHeld2; clear hHeld2
              (try simp only [Act.put, List.setIfInBounds_toArray, List.set_cons_zero, List.set_cons_succ])
              refine lTake (i := 5) (v := ?_) rfl (by kernel_rfl) (by kernel_rfl) (by kernel_rfl) (fun _ _ _ h => h) (by rfl) (fun _ _ h => h) (fun _ _ h => h) ?_ (by assumption) (fun hHeld2 => ?_)
              rotate_left 1
              · (intro _ _ _ _ _; first | (go_simp; done) | (go_simp; with_reducible rfl))
              clear hHeld; have hHeld := hHeld2; clear hHeld2
              (try simp only [Act.put, List.setIfInBounds_toArray, List.set_cons_zero, List.set_cons_succ])
              refine lTake (i := 6) (v := ?_) rfl (by kernel_rfl) (by kernel_rfl) (by kernel_rfl) (fun _ _ _ h => h) (by rfl) (fun _ _ h => h) (fun _ _ h => h) ?_ (by assumption) (fun hHeld2 => ?_)
              rotate_left 1
              · (intro _ _ _ _ _; first | (go_simp; done) | (go_simp; with_reducible rfl))
              clear hHeld; have hHeld := hHeld2; clear hHeld2
              (try simp only [Act.put, List.setIfInBounds_toArray, List.set_cons_zero, List.set_cons_succ])
              refine lTake (i := 7) (v := ?_) rfl (by kernel_rfl) (by kernel_rfl) (by kernel_rfl) (fun _ _ _ h => h) (by rfl) (fun _ _ h => h) (fun _ _ h => h) ?_ (by assumption) (fun hHeld2 => ?_)
              rotate_left 1
              · (intro L W _ _ hSw; (try dsimp only at hSw); first | (go_simp; done) | (go_simp; with_reducible rfl))
              clear hHeld; have hHeld := hHeld2; clear hHeld2
              (try simp only [Act.put, List.setIfInBounds_toArray, List.set_cons_zero, List.set_cons_succ])
              refine lReady (rs := [8, 9]) (by kernel_rfl) (by simp) ?_
              refine AllL.cons (i := 8) rfl (fun K hK => ?_) ?_
              · go_simp
                (try go_wp2_with fail)
                refine hK.out _ _ ?_ (fun hHeld2 => ?_)
                · (try dsimp only); (first | with_reducible exact RD.out _ (Below.refl _ _).drew | with_reducible exact RD.out _ ((Below.refl _ _).drew.alloc (Nat.le_refl _) _) | exact RD.out _ (((Below.refl _ _).alloc (Nat.le_refl _) _).drew) | with_reducible assumption)
                clear hK K
                clear hHeld; have hHeld := hHeld2; clear hHeld2
                (try simp only [Act.put, List.setIfInBounds_toArray, List.set_cons_zero, List.set_cons_succ])
                refine lReady (rs := [9]) (by kernel_rfl) (by simp) ?_
                refine AllL.cons (i := 9) rfl (fun K hK => ?_) ?_
                · go_simp
                  (try go_wp2_with fail)
                  refine hK.out _ _ ?_ (fun hHeld2 => ?_)
                  · (try dsimp only); (first | with_reducible exact RD.out _ (Below.refl _ _).drew | with_reducible exact RD.out _ ((Below.refl _ _).drew.alloc (Nat.le_refl _) _) | exact RD.out _ (((Below.refl _ _).alloc (Nat.le_refl _) _).drew) | with_reducible assumption)
                  clear hK K
                  clear hHeld; have hHeld := hHeld2; clear hHeld2
                  (try simp only [Act.put, List.setIfInBounds_toArray, List.set_cons_zero, List.set_cons_succ])
                  refine lReady (rs := [10]) (by kernel_rfl) (by simp) ?_
                  refine AllL.cons (i := 10) rfl (fun K hK => ?_) ?_
                  · go_simp
                    (try go_wp2_with fail)
                    refine hK.out _ _ ?_ (fun hHeld2 => ?_)
                    · (try dsimp only); (first | with_reducible exact RD.out _ (Below.refl _ _).drew | with_reducible exact RD.out _ ((Below.refl _ _).drew.alloc (Nat.le_refl _) _) | exact RD.out _ (((Below.refl _ _).alloc (Nat.le_refl _) _).drew) | with_reducible assumption)
                    clear hK K
                    clear hHeld; have hHeld := hHeld2; clear hHeld2
                    (try simp only [Act.put, List.setIfInBounds_toArray, List.set_cons_zero, List.set_cons_succ])
                    refine lDone (by kernel_rfl) ?_ _
                    go_wp2_with fail
                    go_meet
                    case rel => exact ⟨rfl, rfl⟩
                  exact AllL.nil
                exact AllL.nil
              refine AllL.cons (i := 9) rfl (fun K hK => ?_) ?_
              · go_simp
                (try go_wp2_with fail)
                refine hK.out _ _ ?_ (fun hHeld2 => ?_)
                · (try dsimp only); (first | with_reducible exact RD.out _ (Below.refl _ _).drew | with_reducible exact RD.out _ ((Below.refl _ _).drew.alloc (Nat.le_refl _) _) | exact RD.out _ (((Below.refl _ _).alloc (Nat.le_refl _) _).drew) | with_reducible assumption)
                clear hK K
                clear hHeld; have hHeld := hHeld2; clear hHeld2
                (try simp only [Act.put, List.setIfInBounds_toArray, List.set_cons_zero, List.set_cons_succ])
                refine lReady (rs := [8]) (by kernel_rfl) (by simp) ?_
                refine AllL.cons (i := 8) rfl (fun K hK => ?_) ?_
                · go_simp
                  (try go_wp2_with fail)
                  refine hK.out _ _ ?_ (fun hHeld2 => ?_)
                  · (try dsimp only); (first | with_reducible exact RD.out _ (Below.refl _ _).drew | with_reducible exact RD.out _ ((Below.refl _ _).drew.alloc (Nat.le_refl _) _) | exact RD.out _ (((Below.refl _ _).alloc (Nat.le_refl _) _).drew) | with_reducible assumption)
                  clear hK K
                  clear hHeld; have hHeld := hHeld2; clear hHeld2
                  (try simp only [Act.put, List.setIfInBounds_toArray, List.set_cons_zero, List.set_cons_succ])
                  refine lReady (rs := [10]) (by kernel_rfl) (by simp) ?_
                  refine AllL.cons (i := 10) rfl (fun K hK => ?_) ?_
                  · go_simp
                    (try go_wp2_with fail)
                    refine hK.out _ _ ?_ (fun hHeld2 => ?_)
                    · (try dsimp only); (first | with_reducible exact RD.out _ (Below.refl _ _).drew | with_reducible exact RD.out _ ((Below.refl _ _).drew.alloc (Nat.le_refl _) _) | exact RD.out _ (((Below.refl _ _).alloc (Nat.le_refl _) _).drew) | with_reducible assumption)
                    clear hK K
                    clear hHeld; have hHeld := hHeld2; clear hHeld2
                    (try simp only [Act.put, List.setIfInBounds_toArray, List.set_cons_zero, List.set_cons_succ])
                    refine lDone (by kernel_rfl) ?_ _
                    go_wp2_with fail
                    go_meet
                    case rel => exact ⟨rfl, rfl⟩
                  exact AllL.nil
                exact AllL.nil
              exact AllL.nil
            case rest =>
              obtain ⟨rfl, rfl⟩ := hcut
              have HX7 := Lib.hid ((Blk.new' w6 #[.int .i64 en.i, .int .i64 en.b] 67).drew)
              have al := ((Below.refl w6.heap.size w6).alloc (Nat.le_refl _) (.cells #[.int .i64 en.i, .int .i64 en.b] 67)).drew
              have H7 := Lib.hid (H6.out.below al)
              have HT7 := Lib.hid (HT6.out.below al)
              have HB7 := Lib.hid (Nat.le_trans HB6.out al.size)
              have HSZ := Lib.hid HT6.out.size
              generalize (w6.alloc (.cells #[.int .i64 en.i, .int .i64 en.b] 67)).drew = w7 at HX7 H7 HT7 HB7 ⊢
              generalize w6.heap.size = g9 at HX7 HSZ ⊢
              clear al H6 HT6 HB6 RD nl
              have q0 : Blk _ n 81 (netC M D S6) := H7.out.blk
              have c35 := q0.cell 35 rfl
              rw [E3.out] at c35
              have nl := q0.lt
              clear q0
              have y0 := HX7.out.cell 0 rfl
              have y1 := HX7.out.cell 1 rfl
              have f0 := HX7.out.free 0
              have f1 := HX7.out.free 1
              have yl := HX7.out.lt
              go_upto_region 9 with (go_at_call 44; refine (add_c g9 0 en.i en.b f w7 y0 y1 f0 f1 yl).mono ?_; rintro e w8 ⟨rfl, hw8⟩; have HW8 := Lib.hid hw8; clear hw8)
              have HTY : Touch (fun k => k = g9) w7 w8 := by rw [HW8.out]; exact ((Touch.refl _ _).put 0 _).put 1 _
              have H8 := Lib.hid (H7.out.touch HTY (fun k hk e => HFR.out g9 HSZ.out (e ▸ hk)))
              have HX8 := Lib.hid (show Blk w8 g9 67 [.int .i64 (enAdd en f).i, .int .i64 (enAdd en f).b] from by rw [HW8.out]; exact (HX7.out.setCell 0 _).setCell 1 _)
              have HT8 := Lib.hid (HT7.out.then HTY (fun k e => .inr (by rw [e]; exact HSZ.out)))
              have HB8 := Lib.hid (Nat.le_trans HB7.out HTY.size)
              clear HTY HW8 H7 HX7 HT7 HB7 c35 nl y0 y1 f0 f1 yl
              refine wp_region_then 9 _ ?af2 rfl (by kernel_rfl) (by kernel_rfl) ?walk2 ?tail2
              case walk2 =>
                intro V hV
                have q0 : Blk _ n 81 (netC M D S6) := (H8.out.below hV).blk
                have c40 := q0.cell 40 rfl
                rw [E1.out] at c40
                have c41 := q0.cell 41 rfl
                have nl := q0.lt
                clear q0
                have y0 := (HX8.out.below hV HX8.out.lt).cell 0 rfl
                have y1 := (HX8.out.below hV HX8.out.lt).cell 1 rfl
                have yl := (HX8.out.below hV HX8.out.lt).lt
                clear hV
                simp only [List.take_succ_cons, List.take_zero]
                repeat (go_big_quiet_step (fail))
                refine wpQuiet_nil ?_
                rfl
              intro w9 hb9
              have H9 := Lib.hid (H8.out.below hb9)
              have HT9 := Lib.hid (HT8.out.below hb9)
              clear hb9 H8 HX8 HT8 HB8
              refine wpO_mput rfl _ _ _ 63 rfl keyI Try.underlying63 H9.out.vc rfl S.vss rfl (enAdd en f) rfl ?_
              intro w10 hm ht hs
              have H10 := Lib.hid (H9.out.toVc hm ht).1
              have HT10 := Lib.hid (HT9.out.trans (H9.out.toVc hm ht).2)
              clear hm ht hs H9 HT9
              refine wpQuiet_nil ?_
              intro xx
              have HR := Lib.hid (show NetTo w B n col base D (tick1 D S p) xx.w from by
                rw [HE.out]
                have e : pour S (flowOf S p) = { S6 with vc := mput S.vss (enAdd en f) S6.vc } := by
                  rw [E2.out, HS6.out, HEN.out, HFL.out]
                  rfl
                rw [e]
                exact ⟨col, M, fun _ _ => rfl, H10.out.below xx.far, HT10.out.below xx.far⟩)
              go_wp2_with fail
              go_meet
              case rel => exact ⟨by rw [HF.out], HR⟩
      case rest =>
        obtain ⟨rfl, HN⟩ := hcut
        rename_i w9 wx
        obtain ⟨S1, hS1⟩ : ∃ S1, S1 = tick1 D S p := ⟨_, rfl⟩
        rw [← hS1] at HN
        have HS1 := Lib.hid hS1
        clear hS1 H3 HT3 HB3
        obtain ⟨col1, M1, hc1, hN1, ht1⟩ := HN.out
        have HC1 := Lib.hid hc1
        have H1 := Lib.hid hN1
        have HT1 := Lib.hid ht1
        have HB1 := Lib.hid (Nat.le_trans HBB.out ht1.size)
        clear hc1 hN1 ht1
        obtain ⟨S2, hS2⟩ : ∃ S2, S2 = (if going D S then tick2 D S1 else S1) := ⟨_, rfl⟩
        have HS2 := Lib.hid hS2
        clear hS2
        go_upto_if 118 with fail
        go_cut [6, 118] from 119 to 147 (fun s6 s118 we => s6 = .bool (going D S) ∧ s118 = .bool (going D S) ∧ Hid (NetTo w B n col base D S2 we))
        case first =>
          cases hg : going D S with
          | false =>
            have HG := Lib.hid hg
            have HR := Lib.hid (show NetTo w B n col base D S2 wc from by rw [HS2.out, hg]; exact HN.out)
            clear hg
            go_wp2_with fail
            go_meet
            case rel => exact ⟨by rw [HG.out], by rw [HG.out], HR⟩
          | true =>
            have HG := Lib.hid hg
            have HE := Lib.hid (show S2 = tick2 D S1 by rw [HS2.out, hg]; rfl)
            clear hg
            have q0 : Blk _ n 81 (netC M1 D S1) := H1.out.blk
            have c51 := q0.cell 51 rfl
            have f51 := q0.free 51
            have nl := q0.lt
            clear q0
            go_upto_region 12 with fail
            obtain ⟨tk, htk⟩ : ∃ tk : Int, tk = wrap64 (S1.tks + 1) := ⟨_, rfl⟩
            rw [← htk]
            have HTK := Lib.hid htk
            clear htk
            have H2 := Lib.hid (show NetAt _ B n col1 base D M1 ({ S1 with tks := tk }) from H1.out.stored (S' := { S1 with tks := tk }) ((Touch.refl _ _).put 51 (.int .i64 tk)) ((H1.out.blk).setCell 51 (.int .i64 tk)) rfl rfl rfl rfl rfl rfl rfl rfl rfl rfl rfl rfl rfl rfl)
            have HT2 := Lib.hid (HT1.out.then (show Touch (fun k => k = n) wc _ from (Touch.refl _ _).put 51 (.int .i64 tk)) (fun k e => own_or HC1.out HT1.out.size H1.out e))
            have HB2 := Lib.hid (Nat.le_trans HB1.out (show Touch (fun k => k = n) wc _ from (Touch.refl _ _).put 51 (.int .i64 tk)).size)
            generalize wc.setCell ⟨n, 51, none⟩ (.int .i64 tk) = w2 at H2 HT2 HB2 ⊢
            clear c51 f51 nl H1 HT1 HB1 HN
            have q0 : Blk _ n 81 (netC M1 D { S1 with tks := tk }) := H2.out.blk
            have c51 := q0.cell 51 rfl
            have c6 := q0.cell 6 rfl
            have nl := q0.lt
            clear q0
            go_upto_region 12 with fail
            by_cases hd : D.ev ≤ tk
            · have d1 : decide (D.ev ≤ tk) = true := decide_eq_true hd
              have HD := Lib.hid hd
              clear hd
              refine wp_region_past (by kernel_rfl) (by kernel_rfl) ?_
              repeat (go_big_quiet_step (fail))
              refine wpQuiet_nil ?_
              intro xx
              have H3 := Lib.hid (H2.out.below xx.far)
              have HT3 := Lib.hid (HT2.out.below xx.far)
              have HB3 := Lib.hid (Nat.le_trans HB2.out xx.far.size)
              generalize xx.w = w3 at H3 HT3 HB3 ⊢
              clear c51 c6 nl H2 HT2 HB2
              have PR := Lib.hid (record_c H3.out HB3.out 9)
              go_upto_region 14 with (go_at_call 45; refine PR.out.mono ?_; rintro e w4 ⟨rfl, hn⟩; have HN4 := Lib.hid hn; clear hn)
              obtain ⟨col4, M4, hc4, hN4, ht4⟩ := HN4.out
              have HC4 := Lib.hid hc4
              have H4 := Lib.hid hN4
              have HT4 := Lib.hid ht4
              clear hc4 hN4 ht4 HN4 PR
              have q0 : Blk _ n 81 (netC M4 D (record { S1 with tks := tk } 9)) := H4.out.blk
              have c51 := q0.cell 51 rfl
              have f51 := q0.free 51
              have c50 : w4.cell? ⟨n, 50, none⟩ = some (.int .i64 S1.opn) := q0.cell 50 rfl
              have f50 := q0.free 50
              have nl := q0.lt
              clear q0
              go_upto_region 16 with fail
              have HR := Lib.hid (show NetTo w B n col base D S2 ((w4.setCell ⟨n, 51, none⟩ (.int .i64 0)).setCell ⟨n, 50, none⟩ (.int .i64 (wrap64 (S1.opn + 1)))) from by
                have e : S2 = { record { S1 with tks := tk } 9 with tks := 0, opn := wrap64 (S1.opn + 1) } := by
                  rw [HE.out]
                  unfold tick2
                  rw [HTK.out] at HD ⊢
                  exact if_pos HD.out
                rw [e]
                exact NetTo.next HC1.out HT3.out ⟨col4, M4, HC4.out, H4.out.stored (S' := { record { S1 with tks := tk } 9 with tks := 0, opn := wrap64 (S1.opn + 1) }) (((Touch.refl _ _).put 51 _).put 50 _) (((H4.out.blk).setCell 51 _).setCell 50 _) rfl rfl rfl rfl rfl rfl rfl rfl rfl rfl rfl rfl rfl rfl, HT4.out.then (show Touch (fun k => k = n) w4 _ from ((Touch.refl _ _).put 51 _).put 50 _) (fun k e => own_or HC4.out HT4.out.size H4.out e)⟩)
              clear c51 f51 c50 f50 nl H4 HT4 HC4 H3 HT3 HB3
              go_wp2_with fail
              go_meet
              case rel => exact ⟨by rw [HG.out], by rw [HG.out], HR⟩
            · have d1 : decide (D.ev ≤ tk) = false := decide_eq_false hd
              have HR := Lib.hid (fun V (hV : Below w2.heap.size w2 V) => (show NetTo w B n col base D S2 V from by
                have e : S2 = { S1 with tks := tk } := by
                  rw [HE.out]
                  unfold tick2
                  rw [HTK.out] at hd ⊢
                  exact if_neg hd
                rw [e]
                exact NetTo.next HC1.out (HT2.out.below hV) ⟨col1, M1, fun _ _ => rfl, H2.out.below hV, Touch.refl _ _⟩))
              clear hd
              refine wp_region_past (by kernel_rfl) (by kernel_rfl) ?_
              repeat (go_big_quiet_step (fail))
              refine wpQuiet_nil ?_
              intro xx
              go_wp2_with fail
              go_meet
              case rel => exact ⟨by rw [HG.out], by rw [HG.out], Lib.hid (HR.out _ xx.far)⟩
        case rest =>
          obtain ⟨rfl, rfl, HN⟩ := hcut
          clear H1 HT1 HB1 HC1
          rename_i wy
          have HO2 := Lib.hid (show OkN K D S2 by
            rw [HS2.out]
            split
            · rw [HS1.out]; exact (HO.out.tick1 p).tick2
            · rw [HS1.out]; exact HO.out.tick1 p)
          have HF2 := Lib.hid (show S2.fl = S.fl by
            rw [HS2.out, HS1.out]
            split
            · unfold tick2 tick1; split <;> (split <;> rfl)
            · unfold tick1; split <;> rfl)
          obtain ⟨col2, M2, hc2, hN2, ht2⟩ := HN.out
          have HC2 := Lib.hid hc2
          have H2 := Lib.hid hN2
          have HT2 := Lib.hid ht2
          have HB2 := Lib.hid (Nat.le_trans HBB.out ht2.size)
          clear hc2 hN2 ht2 HN
          have q0 : Blk _ n 81 (netC M2 D S2) := H2.out.blk
          have c10 := q0.cell 10 rfl
          have f10 := q0.free 10
          have nl := q0.lt
          clear q0
          go_upto_region 17 with fail
          obtain ⟨tn, htn⟩ : ∃ tn : Int, tn = wrap64 (S2.now + 1) := ⟨_, rfl⟩
          rw [← htn]
          have HTN := Lib.hid htn
          clear htn
          obtain ⟨S3, hS3⟩ : ∃ S3 : St, S3 = { S2 with now := tn } := ⟨_, rfl⟩
          have H3 := Lib.hid (show NetAt _ B n col2 base D M2 S3 from by rw [hS3]; exact H2.out.stored (S' := { S2 with now := tn }) ((Touch.refl _ _).put 10 (.int .i64 tn)) ((H2.out.blk).setCell 10 (.int .i64 tn)) rfl rfl rfl rfl rfl rfl rfl rfl rfl rfl rfl rfl rfl rfl)
          have HO3 := Lib.hid (show OkN K D S3 by rw [hS3]; exact HO2.out.same rfl rfl)
          have HF3 := Lib.hid (show S3.fl.length ≤ 1000000 by rw [hS3]; show S2.fl.length ≤ _; rw [HF2.out]; exact HFL0.out)
          have HS3 := Lib.hid hS3
          have HT3 := Lib.hid (HT2.out.then (show Touch (fun k => k = n) wc _ from (Touch.refl _ _).put 10 (.int .i64 tn)) (fun k e => own_or HC2.out HT2.out.size H2.out e))
          have HB3 := Lib.hid (Nat.le_trans HB2.out (show Touch (fun k => k = n) wc _ from (Touch.refl _ _).put 10 (.int .i64 tn)).size)
          generalize wc.setCell ⟨n, 10, none⟩ (.int .i64 tn) = w3 at H3 HT3 HB3 ⊢
          clear c10 f10 nl H2 HT2 HB2 HO2 HF2 hS3
          have q0 : Blk _ n 81 (netC M2 D S3) := H3.out.blk
          have c11 := q0.cell 11 rfl
          have c12 := q0.cell 12 rfl
          have c13 := q0.cell 13 rfl
          have c14 := q0.cell 14 rfl
          have c15 := q0.cell 15 rfl
          have c16 := q0.cell 16 rfl
          have nl := q0.lt
          clear q0
          obtain ⟨gg, hgg⟩ : ∃ gg, gg = M2.g := ⟨_, rfl⟩
          rw [← hgg] at c11 c12 c13 c14 c15 c16
          have HGG := Lib.hid hgg
          clear hgg
          go_wp2_with fail
          clear c11 c12 c13 c14 c15 c16 nl
          go_loopw [159] (fun v wr => ∃ i : Nat, i ≤ 6 ∧ v = .int .i64 i ∧ Hid (∃ col' M', M'.g = gg ∧ (∀ k, k < w3.heap.size → col' k = col2 k) ∧ NetAt wr B n col' base D M' (polls i S3) ∧ Touch (NetOwn col2 base) w3 wr)) (fun v _ => 6 - (intOf v).toNat)
          case atStart => exact ⟨0, by omega, rfl, Lib.hid ⟨col2, M2, HGG.out.symm, fun _ _ => rfl, H3.out, Touch.refl _ _⟩⟩
          case round =>
            obtain ⟨i, hi, rfl, HI⟩ := hrel
            by_cases hlt : i < 6
            · have hki : (i : Int) < 6 := by omega
              have HIX := idx6 gg i hlt
              obtain ⟨col3, M3, hg3, hc3, hN3, ht3⟩ := HI.out
              obtain ⟨Si, hSi⟩ : ∃ Si, Si = polls i S3 := ⟨_, rfl⟩
              rw [← hSi] at hN3
              have HOi := Lib.hid (show OkN K D Si by rw [hSi]; exact HO3.out.polls i hi)
              have HFi := Lib.hid (show Si.fl.length ≤ 1000006 by rw [hSi]; have := polls_fl S3 i; have := HF3.out; omega)
              obtain ⟨lq, hlq⟩ : ∃ lq, lq = Nw.ln Si i := ⟨_, rfl⟩
              have hLN := hN3.ln i hlt
              have HOL := Lib.hid (HOi.out.ln i hlt)
              rw [← hlq] at hLN HOL
              have PP := Lib.hid (Poll_c K B (M3.g i) (M3.lA i) (M3.lc i) lq wr hLN HOL.out HO3.out.k.2)
              rw [hg3] at PP
              have HLQ := Lib.hid hlq
              have HSI := Lib.hid hSi
              have HG3 := Lib.hid hg3
              have HC3 := Lib.hid hc3
              have HN3 := Lib.hid hN3
              have HT4 := Lib.hid ht3
              clear hlq hSi hg3 hc3 hN3 ht3 hLN HOL HI
              go_upto_region 21 with (go_at_call 46; refine PP.out.mono ?_; rintro e w4 ⟨rfl, hl4⟩; have HL4 := Lib.hid hl4; clear hl4)
              clear HIX PP
              obtain ⟨col5, M5, hg5, hc5, hN5, ht5⟩ := line_toG HN3.out hlt (Below.refl _ _) (show LineTo wr B (M3.g i) (M3.lA i) (Lx.pollL lq) w4 by rw [HG3.out]; exact HL4.out)
              obtain ⟨S5, hS5⟩ : ∃ S5 : St, S5 = { Si with L := Si.L.set i (Lx.pollL lq) } := ⟨_, rfl⟩
              rw [← hS5] at hN5
              have HS5 := Lib.hid hS5
              have HF5 := Lib.hid (show S5.fl.length ≤ 1000006 by rw [hS5]; exact HFi.out)
              have al := (Below.refl w4.heap.size w4).alloc (Nat.le_refl _) (.cells #[.bool (Lx.pollP lq).has, .int .i64 (Lx.pollP lq).nu, .int .i64 (Lx.pollP lq).nt.k, .int .i64 (Lx.pollP lq).nt.s, .int .i64 (Lx.pollP lq).nt.a, .int .i64 (Lx.pollP lq).nt.b, .int .i64 (Lx.pollP lq).nt.c, .int .i64 (Lx.pollP lq).ak] 93)
              have HX5 := Lib.hid (Blk.new' w4 #[.bool (Lx.pollP lq).has, .int .i64 (Lx.pollP lq).nu, .int .i64 (Lx.pollP lq).nt.k, .int .i64 (Lx.pollP lq).nt.s, .int .i64 (Lx.pollP lq).nt.a, .int .i64 (Lx.pollP lq).nt.b, .int .i64 (Lx.pollP lq).nt.c, .int .i64 (Lx.pollP lq).ak] 93)
              have H5 := Lib.hid (hN5.below al)
              have HG5 := Lib.hid (hg5.trans HG3.out)
              have HC5 := Lib.hid (fun k (hk : k < w3.heap.size) => (hc5 k (Nat.lt_of_lt_of_le hk HT4.out.size)).trans (HC3.out k hk))
              have HT5 := Lib.hid ((tch_next HC3.out HT4.out ht5).below al)
              have HSZ := Lib.hid (show w4.heap.size < (w4.alloc (.cells #[.bool (Lx.pollP lq).has, .int .i64 (Lx.pollP lq).nu, .int .i64 (Lx.pollP lq).nt.k, .int .i64 (Lx.pollP lq).nt.s, .int .i64 (Lx.pollP lq).nt.a, .int .i64 (Lx.pollP lq).nt.b, .int .i64 (Lx.pollP lq).nt.c, .int .i64 (Lx.pollP lq).ak] 93)).heap.size by simp)
              have HGN := Lib.hid (show n < w4.heap.size from hN5.lt)
              clear hS5 hg5 hc5 hN5 ht5 al HL4 HN3 HT4 HC3 HG3
              generalize w4.alloc (.cells #[.bool (Lx.pollP lq).has, .int .i64 (Lx.pollP lq).nu, .int .i64 (Lx.pollP lq).nt.k, .int .i64 (Lx.pollP lq).nt.s, .int .i64 (Lx.pollP lq).nt.a, .int .i64 (Lx.pollP lq).nt.b, .int .i64 (Lx.pollP lq).nt.c, .int .i64 (Lx.pollP lq).ak] 93) = w5 at HX5 H5 HT5 HSZ ⊢
              generalize w4.heap.size = gp at HX5 HSZ HGN ⊢
              cases hb : Lx.pollB lq with
              | false =>
                have HE := Lib.hid (show polls (i + 1) S3 = S5 by
                  show poll (polls i S3) i = S5
                  unfold poll
                  rw [← HSI.out, ← HLQ.out, HS5.out, hb]
                  rfl)
                clear hb
                go_wp2_with fail
                exact ⟨⟨i + 1, by omega, by simp, Lib.hid ⟨col5, M5, HG5.out, HC5.out, by rw [HE.out]; exact H5.out, HT5.out⟩⟩, by simp only [intOf]; omega⟩
              | true =>
                have HE := Lib.hid (show polls (i + 1) S3 = { S5 with fl := S5.fl ++ [⟨i, Lx.pollP lq⟩] } by
                  show poll (polls i S3) i = _
                  unfold poll
                  rw [← HSI.out, ← HLQ.out, HS5.out, hb]
                  rfl)
                clear hb
                go_upto_region 22 with fail
                obtain ⟨lf, hlf⟩ : ∃ lf, lf = S5.fl.length := ⟨_, rfl⟩
                have HLF := Lib.hid hlf
                have HL6 := Lib.hid (show lf ≤ 1000006 by rw [hlf]; exact HF5.out)
                clear hlf
                obtain ⟨i0, hi0, hz0, hz1, hz2⟩ := info_parts info180
                have HI := Lib.hid hi0
                have HZ0 := Lib.hid hz0
                have HZ1 := Lib.hid hz1
                have HZ2 := Lib.hid hz2
                clear hi0 hz0 hz1 hz2
                refine wp_region_spine 8 [true, false] [0] ?af10 (fun V => NetAt V B n col5 base D M5 S5 ∧ Blk V gp 93 [.bool (Lx.pollP lq).has, .int .i64 (Lx.pollP lq).nu, .int .i64 (Lx.pollP lq).nt.k, .int .i64 (Lx.pollP lq).nt.s, .int .i64 (Lx.pollP lq).nt.a, .int .i64 (Lx.pollP lq).nt.b, .int .i64 (Lx.pollP lq).nt.c, .int .i64 (Lx.pollP lq).ak] ∧ Below w5.heap.size w5 V) (by kernel_rfl) (by kernel_rfl) ⟨H5.out.below ((Below.refl _ _).drew), HX5.out.drew, (Below.refl _ _).drew⟩ ?walk10 ?spine10
                case walk10 =>
                  rintro V ⟨h1, h2, _⟩
                  have c17 := h1.blk.cell 17 rfl
                  rw [← HLF.out] at c17
                  have nl := h1.lt
                  have x0 := h2.cell 0 rfl
                  have x1 := h2.cell 1 rfl
                  have x2 := h2.cell 2 rfl
                  have x3 := h2.cell 3 rfl
                  have x4 := h2.cell 4 rfl
                  have x5 := h2.cell 5 rfl
                  have x6 := h2.cell 6 rfl
                  have x7 := h2.cell 7 rfl
                  have gl := h2.lt
                  clear h1 h2
                  simp only [List.take_succ_cons, List.take_zero]
                  repeat (go_big_quiet_step (fail))
                  refine wpQuiet_nil ?_
                  rfl
                case spine10 =>
                  rintro V ⟨h1, h2, h3⟩
                  have HV := Lib.hid h1
                  have HXV := Lib.hid h2
                  have HWV := Lib.hid h3
                  clear h1 h2 h3
                  refine spineV_cons ?_
                  refine stepV_new (.cells #[.int .i64 (i : Int), .bool (Lx.pollP lq).has, .int .i64 (Lx.pollP lq).nu, .int .i64 (Lx.pollP lq).nt.k, .int .i64 (Lx.pollP lq).nt.s, .int .i64 (Lx.pollP lq).nt.a, .int .i64 (Lx.pollP lq).nt.b, .int .i64 (Lx.pollP lq).nt.c, .int .i64 (Lx.pollP lq).ak] 95) (fun b => .slice (some ⟨b, 0, none⟩) 1 1) (fun _ => by kernel_rfl) ?_
                  have al := (Below.refl V.heap.size V).alloc (Nat.le_refl _) (.cells #[.int .i64 (i : Int), .bool (Lx.pollP lq).has, .int .i64 (Lx.pollP lq).nu, .int .i64 (Lx.pollP lq).nt.k, .int .i64 (Lx.pollP lq).nt.s, .int .i64 (Lx.pollP lq).nt.a, .int .i64 (Lx.pollP lq).nt.b, .int .i64 (Lx.pollP lq).nt.c, .int .i64 (Lx.pollP lq).ak] 95)
                  have HV2 := Lib.hid (HV.out.below al)
                  have HX2 := Lib.hid (HXV.out.below al HXV.out.lt)
                  have HW2 := Lib.hid (HWV.out.trans (al.mono HWV.out.size))
                  have HR := Lib.hid (Blk.new' V #[.int .i64 (i : Int), .bool (Lx.pollP lq).has, .int .i64 (Lx.pollP lq).nu, .int .i64 (Lx.pollP lq).nt.k, .int .i64 (Lx.pollP lq).nt.s, .int .i64 (Lx.pollP lq).nt.a, .int .i64 (Lx.pollP lq).nt.b, .int .i64 (Lx.pollP lq).nt.c, .int .i64 (Lx.pollP lq).ak] 95)
                  refine ⟨fun _ => ⟨HV2.out, HX2.out, HW2.out⟩, ?_⟩
                  generalize V.alloc (.cells #[.int .i64 (i : Int), .bool (Lx.pollP lq).has, .int .i64 (Lx.pollP lq).nu, .int .i64 (Lx.pollP lq).nt.k, .int .i64 (Lx.pollP lq).nt.s, .int .i64 (Lx.pollP lq).nt.a, .int .i64 (Lx.pollP lq).nt.b, .int .i64 (Lx.pollP lq).nt.c, .int .i64 (Lx.pollP lq).ak] 95) = V2 at HV2 HX2 HW2 HR ⊢
                  generalize V.heap.size = ga at *
                  clear al HV HXV HWV
                  (try simp only [Act.put, List.setIfInBounds_toArray, List.set_cons_zero, List.set_cons_succ])
                  refine spineV_cons ?_
                  refine stepV_append (.tmp 173) (.tmp 177) 40 rfl B 95 i0 (.agg #[.int .i64 0, .bool false, .int .i64 0, .int .i64 0, .int .i64 0, .int .i64 0, .int .i64 0, .int .i64 0, .int .i64 0]) 9 72 Try.underlying40 HI.out HZ0.out HZ1.out HZ2.out rfl (by decide) M5.fA lf M5.fc (flatS S5.fl) (by rfl) (by rw [HLF.out]; exact HV2.out.fl) (some ⟨ga, 0, none⟩) 1 1 [.int .i64 (i : Int), .bool (Lx.pollP lq).has, .int .i64 (Lx.pollP lq).nu, .int .i64 (Lx.pollP lq).nt.k, .int .i64 (Lx.pollP lq).nt.s, .int .i64 (Lx.pollP lq).nt.a, .int .i64 (Lx.pollP lq).nt.b, .int .i64 (Lx.pollP lq).nt.c, .int .i64 (Lx.pollP lq).ak] (by rfl) (by rfl) (.inr ⟨_, rfl, ?_⟩) (by simp [Value.oneCell']) (by have := HL6.out; unfold maxLen; omega) (by have := HL6.out; omega) (Nat.le_trans HV2.out.bB (Nat.le_of_lt HV2.out.lt)) ?_
                  · intro j u hu
                    have := HR.out.cell j hu
                    rwa [show ((⟨ga, 0, none⟩ : Addr).add j) = ⟨ga, j, none⟩ from (by unfold Addr.add; split <;> simp_all)]
                  intro A' cap' w' hown hgr hnr
                  refine ⟨fun h => absurd h (by decide), ?_⟩
                  have hTg := grown_touch hgr
                  have hne : ¬ OwnB M5.fA n := fun e => by have h1 := H5.out.fc n e; rw [H5.out.c0] at h1; omega
                  have HBn := Lib.hid (HV2.out.blk.touch hTg hne)
                  have HTn := Lib.hid ((Touch.of_below (S := fun k => k = n ∨ OwnB M5.fA k) HW2.out).then hTg (fun k e => .inl (.inr e)))
                  have HOn := Lib.hid (show OwnR Nw.Sn.vals 95 9 B w' A' cap' (S5.fl ++ [⟨i, Lx.pollP lq⟩]) by
                    unfold OwnR
                    rw [List.length_append, ← HLF.out, flatM_append]
                    exact hown)
                  have HNn := Lib.hid (fun k (hk : OwnB A' k) => (hnr k hk).imp id (fun (e : k = V2.heap.size) => (by rw [e]; exact HW2.out.size : w5.heap.size ≤ k)))
                  have HNA := Lib.hid (show ¬ OwnB A' n from fun e => by
                    rcases hnr n e with e | e
                    · exact hne e
                    · have := HV2.out.lt; omega)
                  clear hown hgr hnr hTg hne HV2 HX2 HW2 HR
                  refine spineV_nil ?_
                  (try simp only [Act.put, List.setIfInBounds_toArray, List.set_cons_zero, List.set_cons_succ])
                  have nl := HBn.out.lt
                  have c17 := HBn.out.cell 17 rfl
                  have f17 := HBn.out.free 17
                  (try simp only [List.drop_succ_cons, List.drop_zero])
                  go_upto_region 23 with fail
                  clear c17 f17 nl
                  have HTf : Touch (fun k => k = n) w' (w'.setCell ⟨n, 17, none⟩ (.slice A' (lf + 1) cap')) := (Touch.refl _ _).put 17 _
                  have HN := H5.out.toFlG (OwnR.touch HOn.out HTf (fun k hk e => HNA.out (e ▸ hk))) (HTn.out.then HTf (fun k e => .inl (.inl e))) (by
                    have := HBn.out.setCell 17 (.slice A' (lf + 1) cap')
                    rw [List.length_append, ← HLF.out]
                    exact this) HNn.out
                  generalize w'.setCell ⟨n, 17, none⟩ (.slice A' (lf + 1) cap') = w6 at HN ⊢
                  obtain ⟨col6, M6, hg6, hc6, hN6, ht6⟩ := HN
                  have HR := Lib.hid (show ∃ col' M', M'.g = gg ∧ (∀ k, k < w3.heap.size → col' k = col2 k) ∧ NetAt w6 B n col' base D M' (polls (i + 1) S3) ∧ Touch (NetOwn col2 base) w3 w6 from
                    ⟨col6, M6, hg6.trans HG5.out, fun k hk => (hc6 k (Nat.lt_of_lt_of_le hk HT5.out.size)).trans (HC5.out k hk), by rw [HE.out]; exact hN6, tch_next HC5.out HT5.out ht6⟩)
                  clear hg6 hc6 hN6 ht6 HTf HTn HOn HNn HNA HBn
                  go_wp2_with fail
                  exact ⟨⟨i + 1, by omega, by simp, HR⟩, by simp only [intOf]; omega⟩
            · obtain rfl : i = 6 := by omega
              clear hlt hi
              obtain ⟨col3, M3, hg3, hc3, hN3, ht3⟩ := HI.out
              obtain ⟨S6, hS6⟩ : ∃ S6, S6 = polls 6 S3 := ⟨_, rfl⟩
              rw [← hS6] at hN3
              obtain ⟨lf, hlf⟩ : ∃ lf, lf = S6.fl.length := ⟨_, rfl⟩
              have hl6 : lf ≤ 1000006 := by rw [hlf, hS6]; have := polls_fl S3 6; have := HF3.out; omega
              have HE := Lib.hid (show Nw.tick D S p = cutF S6 by
                rw [hS6, HS3.out, HTN.out, HS2.out, HS1.out]
                rfl)
              have HLF := Lib.hid hlf
              have HC3 := Lib.hid hc3
              have HN3 := Lib.hid hN3
              have HT4 := Lib.hid ht3
              clear hS6 hlf hg3 hc3 hN3 ht3 HI
              have c17 := HN3.out.blk.cell 17 rfl
              rw [← HLF.out] at c17
              have f17 := HN3.out.blk.free 17
              have nl := HN3.out.lt
              by_cases hgt : 200 < lf
              · obtain ⟨j, hj⟩ : ∃ j : Nat, lf = j + 200 := ⟨lf - 200, by omega⟩
                have hpos : (0 : Int) < (lf : Int) - 200 := by omega
                have hjc : (j : Int) = (lf : Int) - 200 := by omega
                have HJ := Lib.hid hj
                obtain ⟨g, hA, hBg, hgl, hcap, hcm⟩ := HN3.out.flR.form (by rw [← HLF.out]; omega)
                have hf := HN3.out.flR
                rw [hA] at hf c17
                have PD := Lib.hid (Delete_c hf 0 j (by omega) (by rw [← HLF.out]; omega))
                rw [← HLF.out] at PD
                obtain ⟨fl', hfl⟩ : ∃ fl', fl' = S6.fl.take 0 ++ S6.fl.drop j := ⟨_, rfl⟩
                have HFL' := Lib.hid hfl
                rw [← hfl, show ((0 : Nat) : Int) = 0 from rfl, hjc] at PD
                have HA := Lib.hid hA
                have HGN := Lib.hid (show g ≠ n from fun e => by have h1 := HN3.out.fc g ⟨_, hA, rfl⟩; rw [e, HN3.out.c0] at h1; omega)
                clear hfl hA hBg hgl hcap hcm hf hj hjc hgt
                go_upto_region 26 with fail
                go_wp2_with (go_at_call 47; refine (PD.out).mono ?_; rintro e w4 ⟨rfl, ho4, ht4⟩; have hn4 := HN3.out.blk.touch ht4 (fun e => HGN.out e.symm); have c17 := hn4.cell 17 rfl; have f17 := hn4.free 17; have nl := hn4.lt; have HO4 := Lib.hid ho4; have HT5 := Lib.hid ht4; have HN4 := Lib.hid hn4; clear ho4 ht4 hn4)
                have HTf : Touch (fun k => k = n) w4 (w4.setCell ⟨n, 17, none⟩ (.slice (some ⟨g, 0, none⟩) fl'.length M3.fc)) := (Touch.refl _ _).put 17 _
                have HNA := HN3.out.toFl (A' := M3.fA) (c' := M3.fc) (l' := fl') (by rw [HA.out]; exact OwnR.touch HO4.out HTf (fun q hq e => HGN.out (by obtain ⟨a, ha, rfl⟩ := hq; cases ha; exact e))) ((HT5.out.mono (fun q e => .inr (by rw [e]; exact ⟨_, HA.out, rfl⟩))).then HTf (fun q e => .inl (.inl e))) (by
                  have := HN4.out.setCell 17 (.slice (some ⟨g, 0, none⟩) fl'.length M3.fc)
                  rw [← HA.out] at this
                  rw [← HA.out]
                  exact this) (fun q hq => .inl hq)
                exact bodyPost_end (v := .tuple #[]) (by simp [results, Try.results24, go_sem]) rfl ⟨rfl, by
                  have e : cutF S6 = { S6 with fl := fl' } := by
                    unfold cutF
                    rw [HFL'.out, ← HLF.out, HJ.out, Nat.add_sub_cancel]
                    rfl
                  rw [HE.out, e]
                  exact NetTo.next HC2.out HT3.out (NetTo.next HC3.out HT4.out HNA)⟩
              · have hle : ¬ (0 : Int) < (lf : Int) - 200 := by omega
                go_wp2_with fail
                exact bodyPost_end (v := .tuple #[]) (by simp [results, Try.results24, go_sem]) rfl ⟨rfl, by
                  have e : cutF S6 = S6 := by
                    unfold cutF
                    rw [← HLF.out, show lf - 200 = 0 by omega]
                    rfl
                  rw [HE.out, e]
                  exact NetTo.next HC2.out HT3.out ⟨col3, M3, HC3.out, HN3.out, HT4.out⟩⟩
theorem tick_c {w : World} {B n base : Nat} {col : Nat → Nat} {D : Dl} {M : Mem} {S : St} (h : NetAt w B n col base D M S) (hB : B ≤ w.heap.size) (p : Int) {K : Int} (ho : OkN K D S) (hfl : S.fl.length ≤ 1000000) :
    Calls Try.prog 24 #[.pointer (some ⟨n, 0, none⟩), .int .i64 p] w fun e w' => e = .returned (.tuple #[]) ∧ NetTo w B n col base D (Nw.tick D S p) w' :=
  (tick_0 h.recol hB (fun k hk => fresh_not hk) p ho hfl).mono fun e w2 ⟨he, hn⟩ => ⟨he, hn.recol⟩
end Go.Proofs.Ytlklnaebdnahcaa
namespace Go.Proofs.Ytlklnaebdnahcaa
open Go.RowKit Nw
set_option maxRecDepth 100000 in
set_option maxHeartbeats 4000000 in
theorem doUnplug_c {w : World} {B n base : Nat} {col : Nat → Nat} {D : Dl} {M : Mem} {S : St} (h : NetAt w B n col base D M S) (hB : B ≤ w.heap.size) :
    Calls Try.prog 22 #[.pointer (some ⟨n, 0, none⟩)] w fun e w' => e = .returned (.int .i64 (if S.inn then 0 else 10)) ∧ NetTo w B n col base D (if S.inn then unplugS S else S) w' := by
  have H := Lib.hid h
  have HBB := Lib.hid hB
  have q0 : Blk _ n 81 (netC M D S) := h.blk
  have c34 := q0.cell 34 rfl
  have f34 := q0.free 34
  have c37 := q0.cell 37 rfl
  have f37 := q0.free 37
  have c43 := q0.cell 43 rfl
  have c47 := q0.cell 47 rfl
  have f47 := q0.free 47
  have nl := q0.lt
  clear q0 h hB
  cases hi : S.inn with
  | false =>
    rw [hi] at c34
    clear hi
    go_enter Try.func22, Try.ntmps22
    go_wp2_with fail
    exact bodyPost_ret (v := .int .i64 10) (by simp [results, Try.results22, go_sem]) rfl ⟨rfl, NetTo.refl H.out⟩
  | true =>
    rw [hi] at c34
    have HI := Lib.hid hi
    clear hi
    by_cases h1 : S.sph = 1
    · rw [h1] at c43
      have HS := Lib.hid h1
      clear h1
      go_enter Try.func22, Try.ntmps22
      go_wp2_with fail
      exact bodyPost_ret (v := .int .i64 0) (by simp [results, Try.results22, go_sem]) rfl ⟨rfl, by
        have e : unplugS S = { S with inn := false, vph := 4, gone := true } := if_pos HS.out
        show NetTo w B n col base D (unplugS S) _
        rw [e]
        exact ⟨col, M, fun _ _ => rfl, H.out.stored (S' := { S with inn := false, vph := 4, gone := true }) ((((Touch.refl _ _).put 34 _).put 37 _).put 47 _) ((((H.out.blk).setCell 34 _).setCell 37 _).setCell 47 _) rfl rfl rfl rfl rfl rfl rfl rfl rfl rfl rfl rfl rfl rfl, (show Touch (fun k => k = n) w _ from (((Touch.refl _ _).put 34 _).put 37 _).put 47 _).mono (fun k e => by subst e; have := H.out.c0; unfold NetOwn; omega)⟩⟩
    · have b1 : (S.sph == 1) = false := by simpa using h1
      have d1 : decide (S.sph = 1) = false := decide_eq_false h1
      have HN1 := Lib.hid h1
      clear h1
      by_cases h2 : S.sph = 2
      · rw [h2] at c43
        have HS := Lib.hid h2
        clear h2 b1 d1
        go_enter Try.func22, Try.ntmps22
        go_upto_region 9 with fail
        have H1 := Lib.hid (show NetAt _ B n col base D M ({ S with inn := false, vph := 4 }) from H.out.stored (S' := { S with inn := false, vph := 4 }) (((Touch.refl _ _).put 34 _).put 37 _) (((H.out.blk).setCell 34 _).setCell 37 _) rfl rfl rfl rfl rfl rfl rfl rfl rfl rfl rfl rfl rfl rfl)
        have HT1 := Lib.hid ((show Touch (fun k => k = n) w _ from ((Touch.refl _ _).put 34 (.bool false)).put 37 (.int .i64 4)).mono (S' := NetOwn col base) (fun k e => by subst e; have := H.out.c0; unfold NetOwn; omega))
        have HB1 := Lib.hid (Nat.le_trans HBB.out HT1.out.size)
        generalize (w.setCell ⟨n, 34, none⟩ (.bool false)).setCell ⟨n, 37, none⟩ (.int .i64 4) = w1 at H1 HT1 HB1 ⊢
        clear c34 f34 c37 f37 c43 c47 f47 nl
        go_wp2_with (go_at_call 42; refine (fin_c H1.out HB1.out).mono ?_; rintro e w2 ⟨rfl, hn⟩; have HN := Lib.hid (NetTo.before HT1.out hn); clear hn)
        exact bodyPost_ret (v := .int .i64 0) (by simp [results, Try.results22, go_sem]) rfl ⟨rfl, by
          have e : unplugS S = fin { S with inn := false, vph := 4 } := by unfold unplugS; rw [if_neg HN1.out, if_pos HS.out]
          show NetTo w B n col base D (unplugS S) _
          rw [e]
          exact HN.out⟩
      · have b2 : (S.sph == 2) = false := by simpa using h2
        have d2 : decide (S.sph = 2) = false := decide_eq_false h2
        have HN2 := Lib.hid h2
        clear h2
        go_enter Try.func22, Try.ntmps22
        go_wp2_with fail
        exact bodyPost_ret (v := .int .i64 0) (by simp [results, Try.results22, go_sem]) rfl ⟨rfl, by
          have e : unplugS S = { S with inn := false, vph := 4 } := by unfold unplugS; rw [if_neg HN1.out, if_neg HN2.out]
          show NetTo w B n col base D (unplugS S) _
          rw [e]
          exact ⟨col, M, fun _ _ => rfl, H.out.stored (S' := { S with inn := false, vph := 4 }) (((Touch.refl _ _).put 34 _).put 37 _) (((H.out.blk).setCell 34 _).setCell 37 _) rfl rfl rfl rfl rfl rfl rfl rfl rfl rfl rfl rfl rfl rfl, (show Touch (fun k => k = n) w _ from ((Touch.refl _ _).put 34 _).put 37 _).mono (fun k e => by subst e; have := H.out.c0; unfold NetOwn; omega)⟩⟩
end Go.Proofs.Ytlklnaebdnahcaa
namespace Go.Proofs.Ytlklnaebdnahcaa
open Go.RowKit Nw
def leaseF (D : Dl) (S : St) (a b c : Int) : St := if leaseE D S a b c = 0 then leaseS D S a b c else S
theorem leaseF_no {D : Dl} {S : St} {a b c e : Int} (h : leaseE D S a b c = e) (he : e ≠ 0) : leaseF D S a b c = S := if_neg (by rw [h]; exact he)
theorem newN1 {w w1 w3 W : World} {B n base : Nat} {col : Nat → Nat} {D : Dl} {M : Mem} {S S' : St} (h : NetAt w B n col base D M S) (hb : Below w.heap.size w w1) (hx : w.heap.size < w1.heap.size) (f : ∀ col0, NetAt w1 B n col0 base D M S → NetTo w1 B n col0 base D S' w3) (ht : Touch (fun k => k = w.heap.size) w3 W) :
    NetTo w B n col base D S' W := by
  obtain ⟨col', M', hc, hN, htt⟩ := f _ (h.recol.below hb)
  refine ⟨col', M', fun k hk => (hc k (Nat.lt_of_lt_of_le hk hb.size)).trans (ncol_old hk), hN.touch ht (fun k e hk => ?_), ?_⟩
  · subst hk
    unfold NetOwn at e
    rw [hc _ hx, ncol_new (Nat.le_refl _)] at e
    omega
  · refine ((Touch.of_below hb).then htt (fun k e => ?_)).then ht (fun k e => .inr (by omega))
    by_cases hk : k < w.heap.size
    · left
      unfold NetOwn at e ⊢
      rw [ncol_old hk] at e
      exact e
    · right; omega
theorem site_lt {w : World} {B n base : Nat} {col : Nat → Nat} {D : Dl} {M : Mem} {S : St} (h : NetAt w B n col base D M S) (k : Nat) (e : SOwn M.gs M.gc M.sA S.cs.length k) : k < w.heap.size := h.si.own_lt e
theorem GrPost.net {w w' : World} {B n base : Nat} {col : Nat → Nat} {D : Dl} {M : Mem} {S : St} (h : NetAt w B n col base D M S) {e : Ending} {d b u : Int} (hg : GrPost w B M.gs M.gc M.sc M.sA M.sq S.cs D.dr D.bk S.sN 0 d b u S.now e w') :
    NetTo w B n col base D { S with cs := Sx.grS S.cs D.dr D.bk S.sN 0 d b u S.now, sN := Sx.grN S.cs D.dr D.bk S.sN 0 d b u S.now } w' ∧ Touch (SOwn M.gs M.gc M.sA S.cs.length) w w' ∧ e = .returned (.tuple #[.agg #[.int .i64 (Sx.grL S.cs D.dr D.bk S.sN 0 d b u S.now).n, .int .i64 (Sx.grL S.cs D.dr D.bk S.sN 0 d b u S.now).d, .int .i64 (Sx.grL S.cs D.dr D.bk S.sN 0 d b u S.now).b, .int .i64 (Sx.grL S.cs D.dr D.bk S.sN 0 d b u S.now).u], .int .i64 (Sx.grE S.cs D.dr D.bk S.sN 0 d b u S.now)]) := by
  obtain ⟨A', q', l, rfl, he, hs, ht, hn⟩ := hg
  exact ⟨h.toSi hs (by unfold Sx.grS Sx.gS; split <;> simp) ht hn, ht, he⟩
set_option maxRecDepth 100000 in
set_option maxHeartbeats 8000000 in
theorem doLease_0 {w : World} {B n base : Nat} {col : Nat → Nat} {D : Dl} {M : Mem} {S : St} (h : NetAt w B n col base D M S) (hB : B ≤ w.heap.size) (hfr : ∀ k, w.heap.size ≤ k → ¬ NetOwn col base k) {K : Int} (hK : K < 100000) (hok : ∀ c ∈ S.cs, Sx.OkC K c) (hn32 : S.cs.length ≤ 32) (k a b c : Int) :
    Calls Try.prog 29 #[.pointer (some ⟨n, 0, none⟩), .agg #[.int .i64 k, .int .i64 a, .int .i64 b, .int .i64 c]] w fun e w' => e = .returned (.int .i64 (leaseE D S a b c)) ∧ NetTo w B n col base D (leaseF D S a b c) w' := by
  have HFR := Lib.hid hfr
  have HK := Lib.hid hK
  have HOK := Lib.hid hok
  have HN32 := Lib.hid hn32
  have HW := Lib.hid h
  have al := (Below.refl w.heap.size w).alloc (Nat.le_refl _) (.cells #[.int .i64 k, .int .i64 a, .int .i64 b, .int .i64 c] 35)
  have HX := Lib.hid (Blk.new' w #[.int .i64 k, .int .i64 a, .int .i64 b, .int .i64 c] 35)
  have H1 := Lib.hid (h.below al)
  have HA := Lib.hid al
  have HB1 := Lib.hid (Nat.le_trans hB al.size)
  have HS0 := Lib.hid (NetTo.same HW.out HA.out)
  clear hfr hK hok hn32 h hB al
  have PB := Lib.hid (busy_c H1.out 3 (by omega))
  cases hb : Nw.busy S 3 with
  | true =>
    have HE := Lib.hid (show leaseE D S a b c = 11 from if_pos hb)
    rw [hb] at PB
    clear hb
    go_enter Try.func29, Try.ntmps29
    go_upto_region 1 with fail
    generalize w.alloc (.cells #[.int .i64 k, .int .i64 a, .int .i64 b, .int .i64 c] 35) = w1 at *
    generalize w.heap.size = gx at *
    go_wp2_with (go_at_call 27; refine PB.out.mono ?_; rintro e w2 ⟨rfl, rfl⟩)
    exact bodyPost_ret (v := .int .i64 11) (by simp [results, Try.results29, go_sem]) rfl ⟨by rw [HE.out], by rw [leaseF_no HE.out (by decide)]; exact HS0.out⟩
  | false =>
    rw [hb] at PB
    have HBS := Lib.hid hb
    clear hb
    cases hib : Cv.inB c 1 100000 with
    | false =>
      have HE := Lib.hid (show leaseE D S a b c = 2 by unfold leaseE; rw [HBS.out, hib]; rfl)
      have P48 := Lib.hid (fun V => within_c c 1 100000 V)
      rw [hib] at P48
      clear hib
      go_enter Try.func29, Try.ntmps29
      go_upto_region 1 with fail
      generalize w.alloc (.cells #[.int .i64 k, .int .i64 a, .int .i64 b, .int .i64 c] 35) = w1 at *
      generalize w.heap.size = gx at *
      have x3 := HX.out.cell 3 rfl
      have xl := HX.out.lt
      go_wp2_with (first | (go_at_call 27; refine PB.out.mono ?_; rintro e w2 ⟨rfl, rfl⟩) | (go_at_call 23; refine (P48.out _).mono ?_; rintro e w2 ⟨rfl, rfl⟩))
      exact bodyPost_ret (v := .int .i64 2) (by simp [results, Try.results29, go_sem]) rfl ⟨by rw [HE.out], by rw [leaseF_no HE.out (by decide)]; exact HS0.out⟩
    | true =>
      have HE := Lib.hid (show leaseE D S a b c = grE D S a b c by unfold leaseE; rw [HBS.out, hib]; rfl)
      have P48 := Lib.hid (fun V => within_c c 1 100000 V)
      rw [hib] at P48
      clear hib
      go_enter Try.func29, Try.ntmps29
      go_upto_region 1 with fail
      have HSZ := Lib.hid HA.out.size
      generalize w.alloc (.cells #[.int .i64 k, .int .i64 a, .int .i64 b, .int .i64 c] 35) = w1 at *
      obtain ⟨gx, hgx⟩ : ∃ gx, gx = w.heap.size := ⟨_, rfl⟩
      rw [← hgx] at HX ⊢
      have HGX := Lib.hid hgx
      clear hgx
      have x3 := HX.out.cell 3 rfl
      have xl := HX.out.lt
      go_upto_region 5 with (first | (go_at_call 27; refine PB.out.mono ?_; rintro e w2 ⟨rfl, rfl⟩) | (go_at_call 23; refine (P48.out _).mono ?_; rintro e w2 ⟨rfl, rfl⟩))
      clear x3 xl PB P48
      obtain ⟨un, hun⟩ : ∃ un, un = wrap64 (S.now + c) := ⟨_, rfl⟩
      have HUN := Lib.hid hun
      obtain ⟨gl, hgl⟩ : ∃ gl, gl = Sx.grL S.cs D.dr D.bk S.sN 0 a b un S.now := ⟨_, rfl⟩
      have HGL := Lib.hid hgl
      obtain ⟨er, her⟩ : ∃ er, er = Sx.grE S.cs D.dr D.bk S.sN 0 a b un S.now := ⟨_, rfl⟩
      have HER := Lib.hid her
      obtain ⟨SL, hSL⟩ : ∃ SL : St, SL = { S with cs := Sx.grS S.cs D.dr D.bk S.sN 0 a b un S.now, sN := Sx.grN S.cs D.dr D.bk S.sN 0 a b un S.now } := ⟨_, rfl⟩
      have HSL := Lib.hid hSL
      have HCC := Lib.hid (fun W (hW : Below w1.heap.size w1 W) => (show W.cell? ⟨n, 55, none⟩ = some (.pointer (some ⟨M.gs, 0, none⟩)) ∧ W.cell? ⟨gx, 1, none⟩ = some (.int .i64 a) ∧ W.cell? ⟨gx, 2, none⟩ = some (.int .i64 b) ∧ W.cell? ⟨gx, 3, none⟩ = some (.int .i64 c) ∧ W.cell? ⟨n, 10, none⟩ = some (.int .i64 S.now) from ⟨(H1.out.below hW).blk.cell 55 rfl, (HX.out.below hW HX.out.lt).cell 1 rfl, (HX.out.below hW HX.out.lt).cell 2 rfl, (HX.out.below hW HX.out.lt).cell 3 rfl, (H1.out.below hW).blk.cell 10 rfl⟩))
      have PR := Lib.hid (fun V (hV : Below w1.heap.size w1 V) => (show Calls Try.prog 50 #[.pointer (some ⟨M.gs, 0, none⟩), .int .i64 0, .int .i64 a, .int .i64 b, .int .i64 (IntKind.i64.wrap (S.now + c)), .int .i64 S.now] V (fun e w' => e = .returned (.tuple #[.agg #[.int .i64 gl.n, .int .i64 gl.d, .int .i64 gl.b, .int .i64 gl.u], .int .i64 er]) ∧ GrPost V B M.gs M.gc M.sc M.sA M.sq S.cs D.dr D.bk S.sN 0 a b un S.now e w' ∧ Touch (SOwn M.gs M.gc M.sA S.cs.length) V w') from by
        rw [show IntKind.i64.wrap (S.now + c) = un by rw [IntWalk.i64_left]; exact HUN.out.symm]
        exact (Grant_c (H1.out.below hV).si (Nat.le_trans HB1.out hV.size) HK.out HOK.out HN32.out 0 a b un S.now).mono fun e w' hg => by
          have h2 := GrPost.net (H1.out.below hV) hg
          rw [← HGL.out, ← HER.out] at h2
          exact ⟨h2.2.2, hg, h2.2.1⟩))
      have nl := H1.out.lt
      have xl := HX.out.lt
      clear hun hgl her hSL
      refine Code.wp_mono (Q := fun e a' W => match e with | .normal => (∃ gn, NetTo w1 B n col base D SL W ∧ Blk W gn 116 [.int .i64 gl.n, .int .i64 gl.d, .int .i64 gl.b, .int .i64 gl.u] ∧ ∃ y1 y2 y7 y8 y9 y10 y11 y12 y13 y14 y15 y16 y17 y18 y19 y20 y21 y22 y23 y24 y25 y26 y27 y28 y29 y30 y31 y32 y33 y34 y35 y36 y37 y38 y39 y40 y41 y42 y43 y44 y45 y46 y47 y48 y49 y50 : Value, a' = ({ tmps := List.toArray (.pointer (some ⟨n, 0, none⟩) :: y1 :: y2 :: .pointer (some ⟨gx, 0, none⟩) :: .int .i64 0 :: .pointer (some ⟨gn, 0, none⟩) :: .int .i64 er :: y7 :: y8 :: y9 :: y10 :: y11 :: y12 :: y13 :: y14 :: y15 :: y16 :: y17 :: y18 :: y19 :: y20 :: y21 :: y22 :: y23 :: y24 :: y25 :: y26 :: y27 :: y28 :: y29 :: y30 :: y31 :: y32 :: y33 :: y34 :: y35 :: y36 :: y37 :: y38 :: y39 :: y40 :: y41 :: y42 :: y43 :: y44 :: y45 :: y46 :: y47 :: y48 :: y49 :: y50 :: []), defers := [] } : Act)) | _ => False) ?post ?pre
      case pre =>
        refine lBegin (S := fun L W => (True) ∧ (L.getD 20 false = true ∨ (W.cell? ⟨n, 55, none⟩ = some (.pointer (some ⟨M.gs, 0, none⟩)) ∧ W.cell? ⟨gx, 1, none⟩ = some (.int .i64 a) ∧ W.cell? ⟨gx, 2, none⟩ = some (.int .i64 b) ∧ W.cell? ⟨gx, 3, none⟩ = some (.int .i64 c) ∧ W.cell? ⟨n, 10, none⟩ = some (.int .i64 S.now)))) (by kernel_rfl) ?_ (fun hHeld => ?_)
        · (try dsimp only); refine ⟨?_, Or.inr ?_⟩
          · (first | trivial | with_reducible assumption)
          · (first | with_reducible exact HCC.out _ (Below.refl _ _).drew | with_reducible exact HCC.out _ ((Below.refl _ _).drew.alloc (Nat.le_refl _) _) | exact HCC.out _ (((Below.refl _ _).alloc (Nat.le_refl _) _).drew) | exact HCC.out _ (Below.refl _ _))
        refine lTake (i := 0) (v := ?_) rfl (by kernel_rfl) (by kernel_rfl) (by kernel_rfl) (fun _ _ _ h => h) (by rfl) (fun _ _ h => by simpa only [getD_set_ne false (show 0 ≠ 20 by decide)] using h) (fun _ _ h => by simpa only [getD_set_ne false (show 0 ≠ 20 by decide)] using h) ?_ (by assumption) (fun hHeld2 => ?_)
        rotate_left 1
        · (intro _ _ _ _ _; first | (go_simp; done) | (go_simp; with_reducible rfl))
        clear hHeld; have hHeld := hHeld2; clear hHeld2
        (try simp only [Act.put, List.setIfInBounds_toArray, List.set_cons_zero, List.set_cons_succ])
        refine lTake (i := 1) (v := ?_) rfl (by kernel_rfl) (by kernel_rfl) (by kernel_rfl) (fun _ _ _ h => h) (by rfl) (fun _ _ h => by simpa only [getD_set_ne false (show 1 ≠ 20 by decide)] using h) (fun _ _ h => by simpa only [getD_set_ne false (show 1 ≠ 20 by decide)] using h) ?_ (by assumption) (fun hHeld2 => ?_)
        rotate_left 1
        · (intro _ _ _ _ _; first | (go_simp; done) | (go_simp; with_reducible rfl))
        clear hHeld; have hHeld := hHeld2; clear hHeld2
        (try simp only [Act.put, List.setIfInBounds_toArray, List.set_cons_zero, List.set_cons_succ])
        refine lTake (i := 2) (v := ?_) rfl (by kernel_rfl) (by kernel_rfl) (by kernel_rfl) (fun _ _ _ h => h) (by rfl) (fun _ _ h => by simpa only [getD_set_ne false (show 2 ≠ 20 by decide)] using h) (fun _ _ h => by simpa only [getD_set_ne false (show 2 ≠ 20 by decide)] using h) ?_ (by assumption) (fun hHeld2 => ?_)
        rotate_left 1
        · (intro _ _ _ _ _; first | (go_simp; done) | (go_simp; with_reducible rfl))
        clear hHeld; have hHeld := hHeld2; clear hHeld2
        (try simp only [Act.put, List.setIfInBounds_toArray, List.set_cons_zero, List.set_cons_succ])
        refine lTake (i := 3) (v := ?_) rfl (by kernel_rfl) (by kernel_rfl) (by kernel_rfl) (fun _ _ _ h => h) (by rfl) (fun _ _ h => by simpa only [getD_set_ne false (show 3 ≠ 20 by decide)] using h) (fun _ _ h => by simpa only [getD_set_ne false (show 3 ≠ 20 by decide)] using h) ?_ (by assumption) (fun hHeld2 => ?_)
        rotate_left 1
        · (intro _ _ _ _ _; first | (go_simp; done) | (go_simp; with_reducible rfl))
        clear hHeld; have hHeld := hHeld2; clear hHeld2
        (try simp only [Act.put, List.setIfInBounds_toArray, List.set_cons_zero, List.set_cons_succ])
        refine lTake (i := 4) (v := ?_) rfl (by kernel_rfl) (by kernel_rfl) (by kernel_rfl) (fun _ _ _ h => h) (by rfl) (fun _ _ h => by simpa only [getD_set_ne false (show 4 ≠ 20 by decide)] using h) (fun _ _ h => by simpa only [getD_set_ne false (show 4 ≠ 20 by decide)] using h) ?_ (by assumption) (fun hHeld2 => ?_)
        rotate_left 1
        · (intro L W hL hK hSw; (try dsimp only at hSw); obtain ⟨h0, h1⟩ := hSw; replace h1 := still [] hK hL (by kernel_rfl) h1; clear hL hK; first | (go_simp; done) | (go_simp; with_reducible rfl))
        clear hHeld; have hHeld := hHeld2; clear hHeld2
        (try simp only [Act.put, List.setIfInBounds_toArray, List.set_cons_zero, List.set_cons_succ])
        refine lTake (i := 5) (v := ?_) rfl (by kernel_rfl) (by kernel_rfl) (by kernel_rfl) (fun _ _ _ h => h) (by rfl) (fun _ _ h => by simpa only [getD_set_ne false (show 5 ≠ 20 by decide)] using h) (fun _ _ h => by simpa only [getD_set_ne false (show 5 ≠ 20 by decide)] using h) ?_ (by assumption) (fun hHeld2 => ?_)
        rotate_left 1
        · (intro _ _ _ _ _; first | (go_simp; done) | (go_simp; with_reducible rfl))
        clear hHeld; have hHeld := hHeld2; clear hHeld2
        (try simp only [Act.put, List.setIfInBounds_toArray, List.set_cons_zero, List.set_cons_succ])
        refine lTake (i := 6) (v := ?_) rfl (by kernel_rfl) (by kernel_rfl) (by kernel_rfl) (fun _ _ _ h => h) (by rfl) (fun _ _ h => by simpa only [getD_set_ne false (show 6 ≠ 20 by decide)] using h) (fun _ _ h => by simpa only [getD_set_ne false (show 6 ≠ 20 by decide)] using h) ?_ (by assumption) (fun hHeld2 => ?_)
        rotate_left 1
        · (intro L W hL hK hSw; (try dsimp only at hSw); obtain ⟨h0, h1⟩ := hSw; replace h1 := still [] hK hL (by kernel_rfl) h1; clear hL hK; first | (go_simp; done) | (go_simp; with_reducible rfl))
        clear hHeld; have hHeld := hHeld2; clear hHeld2
        (try simp only [Act.put, List.setIfInBounds_toArray, List.set_cons_zero, List.set_cons_succ])
        refine lTake (i := 7) (v := ?_) rfl (by kernel_rfl) (by kernel_rfl) (by kernel_rfl) (fun _ _ _ h => h) (by rfl) (fun _ _ h => by simpa only [getD_set_ne false (show 7 ≠ 20 by decide)] using h) (fun _ _ h => by simpa only [getD_set_ne false (show 7 ≠ 20 by decide)] using h) ?_ (by assumption) (fun hHeld2 => ?_)
        rotate_left 1
        · (intro _ _ _ _ _; first | (go_simp; done) | (go_simp; with_reducible rfl))
        clear hHeld; have hHeld := hHeld2; clear hHeld2
        (try simp only [Act.put, List.setIfInBounds_toArray, List.set_cons_zero, List.set_cons_succ])
        refine lTake (i := 8) (v := ?_) rfl (by kernel_rfl) (by kernel_rfl) (by kernel_rfl) (fun _ _ _ h => h) (by rfl) (fun _ _ h => by simpa only [getD_set_ne false (show 8 ≠ 20 by decide)] using h) (fun _ _ h => by simpa only [getD_set_ne false (show 8 ≠ 20 by decide)] using h) ?_ (by assumption) (fun hHeld2 => ?_)
        rotate_left 1
        · (intro L W hL hK hSw; (try dsimp only at hSw); obtain ⟨h0, h1⟩ := hSw; replace h1 := still [] hK hL (by kernel_rfl) h1; clear hL hK; first | (go_simp; done) | (go_simp; with_reducible rfl))
        clear hHeld; have hHeld := hHeld2; clear hHeld2
        (try simp only [Act.put, List.setIfInBounds_toArray, List.set_cons_zero, List.set_cons_succ])
        refine lTake (i := 9) (v := ?_) rfl (by kernel_rfl) (by kernel_rfl) (by kernel_rfl) (fun _ _ _ h => h) (by rfl) (fun _ _ h => by simpa only [getD_set_ne false (show 9 ≠ 20 by decide)] using h) (fun _ _ h => by simpa only [getD_set_ne false (show 9 ≠ 20 by decide)] using h) ?_ (by assumption) (fun hHeld2 => ?_)
        rotate_left 1
        · (intro _ _ _ _ _; first | (go_simp; done) | (go_simp; with_reducible rfl))
        clear hHeld; have hHeld := hHeld2; clear hHeld2
        (try simp only [Act.put, List.setIfInBounds_toArray, List.set_cons_zero, List.set_cons_succ])
        refine lTake (i := 10) (v := ?_) rfl (by kernel_rfl) (by kernel_rfl) (by kernel_rfl) (fun _ _ _ h => h) (by rfl) (fun _ _ h => by simpa only [getD_set_ne false (show 10 ≠ 20 by decide)] using h) (fun _ _ h => by simpa only [getD_set_ne false (show 10 ≠ 20 by decide)] using h) ?_ (by assumption) (fun hHeld2 => ?_)
        rotate_left 1
        · (intro _ _ _ _ _; first | (go_simp; done) | (go_simp; with_reducible rfl))
        clear hHeld; have hHeld := hHeld2; clear hHeld2
        (try simp only [Act.put, List.setIfInBounds_toArray, List.set_cons_zero, List.set_cons_succ])
        refine lTake (i := 11) (v := ?_) rfl (by kernel_rfl) (by kernel_rfl) (by kernel_rfl) (fun _ _ _ h => h) (by rfl) (fun _ _ h => by simpa only [getD_set_ne false (show 11 ≠ 20 by decide)] using h) (fun _ _ h => by simpa only [getD_set_ne false (show 11 ≠ 20 by decide)] using h) ?_ (by assumption) (fun hHeld2 => ?_)
        rotate_left 1
        · (intro _ _ _ _ _; first | (go_simp; done) | (go_simp; with_reducible rfl))
        clear hHeld; have hHeld := hHeld2; clear hHeld2
        (try simp only [Act.put, List.setIfInBounds_toArray, List.set_cons_zero, List.set_cons_succ])
        refine lTake (i := 12) (v := ?_) rfl (by kernel_rfl) (by kernel_rfl) (by kernel_rfl) (fun _ _ _ h => h) (by rfl) (fun _ _ h => by simpa only [getD_set_ne false (show 12 ≠ 20 by decide)] using h) (fun _ _ h => by simpa only [getD_set_ne false (show 12 ≠ 20 by decide)] using h) ?_ (by assumption) (fun hHeld2 => ?_)
        rotate_left 1
        · (intro L W hL hK hSw; (try dsimp only at hSw); obtain ⟨h0, h1⟩ := hSw; replace h1 := still [15] hK hL (by kernel_rfl) h1; clear hL hK; first | (go_simp; done) | (go_simp; with_reducible rfl))
        clear hHeld; have hHeld := hHeld2; clear hHeld2
        (try simp only [Act.put, List.setIfInBounds_toArray, List.set_cons_zero, List.set_cons_succ])
        refine lTake (i := 13) (v := ?_) rfl (by kernel_rfl) (by kernel_rfl) (by kernel_rfl) (fun _ _ _ h => h) (by rfl) (fun _ _ h => by simpa only [getD_set_ne false (show 13 ≠ 20 by decide)] using h) (fun _ _ h => by simpa only [getD_set_ne false (show 13 ≠ 20 by decide)] using h) ?_ (by assumption) (fun hHeld2 => ?_)
        rotate_left 1
        · (intro _ _ _ _ _; first | (go_simp; done) | (go_simp; with_reducible rfl))
        clear hHeld; have hHeld := hHeld2; clear hHeld2
        (try simp only [Act.put, List.setIfInBounds_toArray, List.set_cons_zero, List.set_cons_succ])
        refine lTake (i := 14) (v := ?_) rfl (by kernel_rfl) (by kernel_rfl) (by kernel_rfl) (fun _ _ _ h => h) (by rfl) (fun _ _ h => by simpa only [getD_set_ne false (show 14 ≠ 20 by decide)] using h) (fun _ _ h => by simpa only [getD_set_ne false (show 14 ≠ 20 by decide)] using h) ?_ (by assumption) (fun hHeld2 => ?_)
        rotate_left 1
        · (intro L W hL hK hSw; (try dsimp only at hSw); obtain ⟨h0, h1⟩ := hSw; replace h1 := still [15] hK hL (by kernel_rfl) h1; clear hL hK; first | (go_simp; done) | (go_simp; with_reducible rfl))
        clear hHeld; have hHeld := hHeld2; clear hHeld2
        (try simp only [Act.put, List.setIfInBounds_toArray, List.set_cons_zero, List.set_cons_succ])
        refine lTake (i := 15) (v := ?_) rfl (by kernel_rfl) (by kernel_rfl) (by kernel_rfl) (fun _ _ _ h => h) (by rfl) (fun _ _ h => by simpa only [getD_set_ne false (show 15 ≠ 20 by decide)] using h) (fun _ _ h => by simpa only [getD_set_ne false (show 15 ≠ 20 by decide)] using h) ?_ (by assumption) (fun hHeld2 => ?_)
        rotate_left 1
        · (intro _ _ _ _ _; first | (go_simp; done) | (go_simp; with_reducible rfl))
        clear hHeld; have hHeld := hHeld2; clear hHeld2
        (try simp only [Act.put, List.setIfInBounds_toArray, List.set_cons_zero, List.set_cons_succ])
        refine lTake (i := 16) (v := ?_) rfl (by kernel_rfl) (by kernel_rfl) (by kernel_rfl) (fun _ _ _ h => h) (by rfl) (fun _ _ h => by simpa only [getD_set_ne false (show 16 ≠ 20 by decide)] using h) (fun _ _ h => by simpa only [getD_set_ne false (show 16 ≠ 20 by decide)] using h) ?_ (by assumption) (fun hHeld2 => ?_)
        rotate_left 1
        · (intro _ _ _ _ _; first | (go_simp; done) | (go_simp; with_reducible rfl))
        clear hHeld; have hHeld := hHeld2; clear hHeld2
        (try simp only [Act.put, List.setIfInBounds_toArray, List.set_cons_zero, List.set_cons_succ])
        refine lTake (i := 17) (v := ?_) rfl (by kernel_rfl) (by kernel_rfl) (by kernel_rfl) (fun _ _ _ h => h) (by rfl) (fun _ _ h => by simpa only [getD_set_ne false (show 17 ≠ 20 by decide)] using h) (fun _ _ h => by simpa only [getD_set_ne false (show 17 ≠ 20 by decide)] using h) ?_ (by assumption) (fun hHeld2 => ?_)
        rotate_left 1
        · (intro _ _ _ _ _; first | (go_simp; done) | (go_simp; with_reducible rfl))
        clear hHeld; have hHeld := hHeld2; clear hHeld2
        (try simp only [Act.put, List.setIfInBounds_toArray, List.set_cons_zero, List.set_cons_succ])
        refine lTake (i := 18) (v := ?_) rfl (by kernel_rfl) (by kernel_rfl) (by kernel_rfl) (fun _ _ _ h => h) (by rfl) (fun _ _ h => by simpa only [getD_set_ne false (show 18 ≠ 20 by decide)] using h) (fun _ _ h => by simpa only [getD_set_ne false (show 18 ≠ 20 by decide)] using h) ?_ (by assumption) (fun hHeld2 => ?_)
        rotate_left 1
        · (intro _ _ _ _ _; first | (go_simp; done) | (go_simp; with_reducible rfl))
        clear hHeld; have hHeld := hHeld2; clear hHeld2
        (try simp only [Act.put, List.setIfInBounds_toArray, List.set_cons_zero, List.set_cons_succ])
        refine lTake (i := 19) (v := ?_) rfl (by kernel_rfl) (by kernel_rfl) (by kernel_rfl) (fun _ _ _ h => h) (by rfl) (fun _ _ h => by simpa only [getD_set_ne false (show 19 ≠ 20 by decide)] using h) (fun _ _ h => by simpa only [getD_set_ne false (show 19 ≠ 20 by decide)] using h) ?_ (by assumption) (fun hHeld2 => ?_)
        rotate_left 1
        · (intro L W hL hK hSw; (try dsimp only at hSw); obtain ⟨h0, h1⟩ := hSw; replace h1 := still [] hK hL (by kernel_rfl) h1; clear hL hK; first | (go_simp; done) | (go_simp; with_reducible rfl))
        clear hHeld; have hHeld := hHeld2; clear hHeld2
        (try simp only [Act.put, List.setIfInBounds_toArray, List.set_cons_zero, List.set_cons_succ])
        refine lReady (rs := [20, 24]) (by kernel_rfl) (by simp) ?_
        refine AllL.cons (i := 20) rfl (fun K hK => ?_) ?_
        · go_simp; (refine (PR.out _ (by first | with_reducible exact (Below.refl _ _).drew | with_reducible exact ((Below.refl _ _).drew.alloc (Nat.le_refl _) _) | exact (((Below.refl _ _).alloc (Nat.le_refl _) _).drew) | exact (Below.refl _ _))).mono ?_; rintro e w3 ⟨rfl, hl3, ht3⟩; have HL3 := Lib.hid hl3; have HT3 := Lib.hid ht3; clear hl3 ht3; (try have HZ := Lib.hid (((Blk.new' w1 #[.int .i64 0, .int .i64 0, .int .i64 0, .int .i64 0] 116).drew).touch HT3.out (fun e => Nat.lt_irrefl _ (site_lt H1.out _ e)))); (try have z0 := HZ.out.cell 0 rfl); (try have z1 := HZ.out.cell 1 rfl); (try have z2 := HZ.out.cell 2 rfl); (try have z3 := HZ.out.cell 3 rfl); (try have y0 := HZ.out.free 0); (try have y1 := HZ.out.free 1); (try have y2 := HZ.out.free 2); (try have y3 := HZ.out.free 3); (try have yl := HZ.out.lt))
          (try go_wp2_with fail)
          refine hK.out _ _ ?_ (fun hHeld2 => ?_)
          · (try dsimp only); refine ⟨?_, Or.inl (by rfl)⟩
            · (first | trivial | with_reducible assumption)
          clear hK K
          clear hHeld; have hHeld := hHeld2; clear hHeld2
          (try simp only [Act.put, List.setIfInBounds_toArray, List.set_cons_zero, List.set_cons_succ])
          refine lTake (i := 21) (v := ?_) rfl (by kernel_rfl) (by kernel_rfl) (by kernel_rfl) (fun _ _ _ h => h) (by rfl) (fun _ _ h => by simpa only [getD_set_ne false (show 21 ≠ 20 by decide)] using h) (fun _ _ h => by simpa only [getD_set_ne false (show 21 ≠ 20 by decide)] using h) ?_ (by assumption) (fun hHeld2 => ?_)
          rotate_left 1
          · (intro _ _ _ _ _; first | (go_simp; done) | (go_simp; with_reducible rfl))
          clear hHeld; have hHeld := hHeld2; clear hHeld2
          (try simp only [Act.put, List.setIfInBounds_toArray, List.set_cons_zero, List.set_cons_succ])
          refine lTake (i := 22) (v := ?_) rfl (by kernel_rfl) (by kernel_rfl) (by kernel_rfl) (fun _ _ _ h => h) (by rfl) (fun _ _ h => by simpa only [getD_set_ne false (show 22 ≠ 20 by decide)] using h) (fun _ _ h => by simpa only [getD_set_ne false (show 22 ≠ 20 by decide)] using h) ?_ (by assumption) (fun hHeld2 => ?_)
          rotate_left 1
          · (intro _ _ _ _ _; first | (go_simp; done) | (go_simp; with_reducible rfl))
          clear hHeld; have hHeld := hHeld2; clear hHeld2
          (try simp only [Act.put, List.setIfInBounds_toArray, List.set_cons_zero, List.set_cons_succ])
          refine lTake (i := 23) (v := ?_) rfl (by kernel_rfl) (by kernel_rfl) (by kernel_rfl) (fun _ _ _ h => h) (by rfl) (fun _ _ h => by simpa only [getD_set_ne false (show 23 ≠ 20 by decide)] using h) (fun _ _ h => by simpa only [getD_set_ne false (show 23 ≠ 20 by decide)] using h) ?_ (by assumption) (fun hHeld2 => ?_)
          rotate_left 1
          · (intro _ _ _ _ _; first | (go_simp; done) | (go_simp; with_reducible rfl))
          clear hHeld; have hHeld := hHeld2; clear hHeld2
          (try simp only [Act.put, List.setIfInBounds_toArray, List.set_cons_zero, List.set_cons_succ])
          refine lReady (rs := [24]) (by kernel_rfl) (by simp) ?_
          refine AllL.cons (i := 24) rfl (fun K hK => ?_) ?_
          · go_simp
            (try go_wp2_with fail)
            refine hK.out _ _ ?_ (fun hHeld2 => ?_)
            · (try dsimp only); refine ⟨?_, Or.inl (by rfl)⟩
              · (first | trivial | with_reducible assumption)
            clear hK K
            clear hHeld; have hHeld := hHeld2; clear hHeld2
            (try simp only [Act.put, List.setIfInBounds_toArray, List.set_cons_zero, List.set_cons_succ])
            refine lReady (rs := [25]) (by kernel_rfl) (by simp) ?_
            refine AllL.cons (i := 25) rfl (fun K hK => ?_) ?_
            · go_simp
              (try go_wp2_with fail)
              refine hK.out _ _ ?_ (fun hHeld2 => ?_)
              · (try dsimp only); refine ⟨?_, Or.inl (by rfl)⟩
                · (first | trivial | with_reducible assumption)
              clear hK K
              clear hHeld; have hHeld := hHeld2; clear hHeld2
              (try simp only [Act.put, List.setIfInBounds_toArray, List.set_cons_zero, List.set_cons_succ])
              refine lTake (i := 26) (v := ?_) rfl (by kernel_rfl) (by kernel_rfl) (by kernel_rfl) (fun _ _ _ h => h) (by rfl) (fun _ _ h => by simpa only [getD_set_ne false (show 26 ≠ 20 by decide)] using h) (fun _ _ h => by simpa only [getD_set_ne false (show 26 ≠ 20 by decide)] using h) ?_ (by assumption) (fun hHeld2 => ?_)
              rotate_left 1
              · (intro _ _ _ _ _; first | (go_simp; done) | (go_simp; with_reducible rfl))
              clear hHeld; have hHeld := hHeld2; clear hHeld2
              (try simp only [Act.put, List.setIfInBounds_toArray, List.set_cons_zero, List.set_cons_succ])
              refine lDone (by kernel_rfl) ?_ _
              first | (exact ⟨w1.heap.size, newN1 H1.out (((Below.refl _ _).alloc (Nat.le_refl _) _).drew) (by simp) (fun col0 h0 => by have := (GrPost.net h0 HL3.out).1; rw [HSL.out]; exact this) (((((Touch.refl _ _).put 0 _).put 1 _).put 2 _).put 3 _), ((((HZ.out).setCell 0 _).setCell 1 _).setCell 2 _).setCell 3 _, _, _, _, _, _, _, _, _, _, _, _, _, _, _, _, _, _, _, _, _, _, _, _, _, _, _, _, _, _, _, _, _, _, _, _, _, _, _, _, _, _, _, _, _, _, _, rfl⟩) | (exact ⟨w3.heap.size, (NetTo.before (Touch.of_below ((Below.refl _ _).drew)) (by have := (GrPost.net (H1.out.below ((Below.refl _ _).drew)) HL3.out).1; rw [HSL.out]; exact this)).below ((Below.refl _ _).alloc (Nat.le_refl _) _), Blk.new' w3 _ 116, _, _, _, _, _, _, _, _, _, _, _, _, _, _, _, _, _, _, _, _, _, _, _, _, _, _, _, _, _, _, _, _, _, _, _, _, _, _, _, _, _, _, _, _, _, _, rfl⟩)
            exact AllL.nil
          exact AllL.nil
        refine AllL.cons (i := 24) rfl (fun K hK => ?_) ?_
        · go_simp
          (try go_wp2_with fail)
          refine hK.out _ _ ?_ (fun hHeld2 => ?_)
          · (try dsimp only); refine ⟨?_, Or.inr ?_⟩
            · (first | trivial | with_reducible assumption)
            · (first | with_reducible exact HCC.out _ (Below.refl _ _).drew | with_reducible exact HCC.out _ ((Below.refl _ _).drew.alloc (Nat.le_refl _) _) | exact HCC.out _ (((Below.refl _ _).alloc (Nat.le_refl _) _).drew) | exact HCC.out _ (Below.refl _ _))
          clear hK K
          clear hHeld; have hHeld := hHeld2; clear hHeld2
          (try simp only [Act.put, List.setIfInBounds_toArray, List.set_cons_zero, List.set_cons_succ])
          refine lReady (rs := [20]) (by kernel_rfl) (by simp) ?_
          refine AllL.cons (i := 20) rfl (fun K hK => ?_) ?_
          · go_simp; (refine (PR.out _ (by first | with_reducible exact (Below.refl _ _).drew | with_reducible exact ((Below.refl _ _).drew.alloc (Nat.le_refl _) _) | exact (((Below.refl _ _).alloc (Nat.le_refl _) _).drew) | exact (Below.refl _ _))).mono ?_; rintro e w3 ⟨rfl, hl3, ht3⟩; have HL3 := Lib.hid hl3; have HT3 := Lib.hid ht3; clear hl3 ht3; (try have HZ := Lib.hid (((Blk.new' w1 #[.int .i64 0, .int .i64 0, .int .i64 0, .int .i64 0] 116).drew).touch HT3.out (fun e => Nat.lt_irrefl _ (site_lt H1.out _ e)))); (try have z0 := HZ.out.cell 0 rfl); (try have z1 := HZ.out.cell 1 rfl); (try have z2 := HZ.out.cell 2 rfl); (try have z3 := HZ.out.cell 3 rfl); (try have y0 := HZ.out.free 0); (try have y1 := HZ.out.free 1); (try have y2 := HZ.out.free 2); (try have y3 := HZ.out.free 3); (try have yl := HZ.out.lt))
            (try go_wp2_with fail)
            refine hK.out _ _ ?_ (fun hHeld2 => ?_)
            · (try dsimp only); refine ⟨?_, Or.inl (by rfl)⟩
              · (first | trivial | with_reducible assumption)
            clear hK K
            clear hHeld; have hHeld := hHeld2; clear hHeld2
            (try simp only [Act.put, List.setIfInBounds_toArray, List.set_cons_zero, List.set_cons_succ])
            refine lTake (i := 21) (v := ?_) rfl (by kernel_rfl) (by kernel_rfl) (by kernel_rfl) (fun _ _ _ h => h) (by rfl) (fun _ _ h => by simpa only [getD_set_ne false (show 21 ≠ 20 by decide)] using h) (fun _ _ h => by simpa only [getD_set_ne false (show 21 ≠ 20 by decide)] using h) ?_ (by assumption) (fun hHeld2 => ?_)
            rotate_left 1
            · (intro _ _ _ _ _; first | (go_simp; done) | (go_simp; with_reducible rfl))
            clear hHeld; have hHeld := hHeld2; clear hHeld2
            (try simp only [Act.put, List.setIfInBounds_toArray, List.set_cons_zero, List.set_cons_succ])
            refine lTake (i := 22) (v := ?_) rfl (by kernel_rfl) (by kernel_rfl) (by kernel_rfl) (fun _ _ _ h => h) (by rfl) (fun _ _ h => by simpa only [getD_set_ne false (show 22 ≠ 20 by decide)] using h) (fun _ _ h => by simpa only [getD_set_ne false (show 22 ≠ 20 by decide)] using h) ?_ (by assumption) (fun hHeld2 => ?_)
            rotate_left 1
            · (intro _ _ _ _ _; first | (go_simp; done) | (go_simp; with_reducible rfl))
            clear hHeld; have hHeld := hHeld2; clear hHeld2
            (try simp only [Act.put, List.setIfInBounds_toArray, List.set_cons_zero, List.set_cons_succ])
            refine lTake (i := 23) (v := ?_) rfl (by kernel_rfl) (by kernel_rfl) (by kernel_rfl) (fun _ _ _ h => h) (by rfl) (fun _ _ h => by simpa only [getD_set_ne false (show 23 ≠ 20 by decide)] using h) (fun _ _ h => by simpa only [getD_set_ne false (show 23 ≠ 20 by decide)] using h) ?_ (by assumption) (fun hHeld2 => ?_)
            rotate_left 1
            · (intro _ _ _ _ _; first | (go_simp; done) | (go_simp; with_reducible rfl))
            clear hHeld; have hHeld := hHeld2; clear hHeld2
            (try simp only [Act.put, List.setIfInBounds_toArray, List.set_cons_zero, List.set_cons_succ])
            refine lReady (rs := [25]) (by kernel_rfl) (by simp) ?_
            refine AllL.cons (i := 25) rfl (fun K hK => ?_) ?_
            · go_simp
              (try go_wp2_with fail)
              refine hK.out _ _ ?_ (fun hHeld2 => ?_)
              · (try dsimp only); refine ⟨?_, Or.inl (by rfl)⟩
                · (first | trivial | with_reducible assumption)
              clear hK K
              clear hHeld; have hHeld := hHeld2; clear hHeld2
              (try simp only [Act.put, List.setIfInBounds_toArray, List.set_cons_zero, List.set_cons_succ])
              refine lTake (i := 26) (v := ?_) rfl (by kernel_rfl) (by kernel_rfl) (by kernel_rfl) (fun _ _ _ h => h) (by rfl) (fun _ _ h => by simpa only [getD_set_ne false (show 26 ≠ 20 by decide)] using h) (fun _ _ h => by simpa only [getD_set_ne false (show 26 ≠ 20 by decide)] using h) ?_ (by assumption) (fun hHeld2 => ?_)
              rotate_left 1
              · (intro _ _ _ _ _; first | (go_simp; done) | (go_simp; with_reducible rfl))
              clear hHeld; have hHeld := hHeld2; clear hHeld2
              (try simp only [Act.put, List.setIfInBounds_toArray, List.set_cons_zero, List.set_cons_succ])
              refine lDone (by kernel_rfl) ?_ _
              first | (exact ⟨w1.heap.size, newN1 H1.out (((Below.refl _ _).alloc (Nat.le_refl _) _).drew) (by simp) (fun col0 h0 => by have := (GrPost.net h0 HL3.out).1; rw [HSL.out]; exact this) (((((Touch.refl _ _).put 0 _).put 1 _).put 2 _).put 3 _), ((((HZ.out).setCell 0 _).setCell 1 _).setCell 2 _).setCell 3 _, _, _, _, _, _, _, _, _, _, _, _, _, _, _, _, _, _, _, _, _, _, _, _, _, _, _, _, _, _, _, _, _, _, _, _, _, _, _, _, _, _, _, _, _, _, _, rfl⟩) | (exact ⟨w3.heap.size, (NetTo.before (Touch.of_below ((Below.refl _ _).drew)) (by have := (GrPost.net (H1.out.below ((Below.refl _ _).drew)) HL3.out).1; rw [HSL.out]; exact this)).below ((Below.refl _ _).alloc (Nat.le_refl _) _), Blk.new' w3 _ 116, _, _, _, _, _, _, _, _, _, _, _, _, _, _, _, _, _, _, _, _, _, _, _, _, _, _, _, _, _, _, _, _, _, _, _, _, _, _, _, _, _, _, _, _, _, _, rfl⟩)
            exact AllL.nil
          exact AllL.nil
        exact AllL.nil
      case post =>
        rintro (_ | _ | _ | _ | _) a' W hq <;> first | exact hq.elim | skip
        obtain ⟨gn, hNT, hXN, y1, y2, y7, y8, y9, y10, y11, y12, y13, y14, y15, y16, y17, y18, y19, y20, y21, y22, y23, y24, y25, y26, y27, y28, y29, y30, y31, y32, y33, y34, y35, y36, y37, y38, y39, y40, y41, y42, y43, y44, y45, y46, y47, y48, y49, y50, rfl⟩ := hq
        have HEE := Lib.hid (show leaseE D S a b c = er from HE.out.trans (by rw [HER.out, HUN.out]; rfl))
        have HNT := Lib.hid hNT
        have HXN := Lib.hid hXN
        clear hNT hXN HX PR HCC nl xl
        by_cases h0 : er = 0
        · have HE0 := Lib.hid (HEE.out.trans h0)
          subst h0
          obtain ⟨col2, M2, hc2, hN2, ht2⟩ := HNT.out
          have HC2 := Lib.hid hc2
          have HT2 := Lib.hid ht2
          have H3 := Lib.hid hN2
          have HB3 := Lib.hid (Nat.le_trans HB1.out ht2.size)
          clear hc2 ht2 hN2
          have z0 := HXN.out.cell 0 rfl
          have z1 := HXN.out.cell 1 rfl
          have z2 := HXN.out.cell 2 rfl
          have z3 := HXN.out.cell 3 rfl
          have gnl := HXN.out.lt
          go_wp2_with (go_at_call 28; refine (tell_c H3.out HB3.out 3 (by omega) ⟨14, gl.n, gl.d, gl.b, gl.u⟩).mono ?_; rintro e w5 ⟨rfl, hn⟩; have HN := Lib.hid hn; clear hn)
          exact bodyPost_ret (v := .int .i64 0) (by simp [results, Try.results29, go_sem]) rfl ⟨by rw [HE0.out], by
            have e : leaseF D S a b c = tell SL 3 ⟨14, gl.n, gl.d, gl.b, gl.u⟩ := by
              unfold leaseF
              rw [if_pos HE0.out, HSL.out, HGL.out, HUN.out]
              rfl
            rw [e]
            exact NetTo.before (Touch.of_below HA.out) (NetTo.next HC2.out HT2.out HN.out)⟩
        · have h0b : (er == 0) = false := by simpa using h0
          have h0n : (er != 0) = true := by simpa using h0
          have h0d : decide (er = 0) = false := decide_eq_false h0
          have HN0 := Lib.hid h0
          clear h0
          go_wp2_with fail
          exact bodyPost_ret (v := .int .i64 er) (by simp [results, Try.results29, go_sem]) rfl ⟨by rw [HEE.out], by
            rw [leaseF_no HEE.out HN0.out]
            have e : SL = S := by
              have hg : ¬ Sx.grE S.cs D.dr D.bk S.sN 0 a b un S.now = 0 := by rw [← HER.out]; exact HN0.out
              rw [HSL.out]
              unfold Sx.grS Sx.grN
              rw [if_neg hg, if_neg hg]
            have h1 := HNT.out
            rw [e] at h1
            exact NetTo.before (Touch.of_below HA.out) h1⟩
theorem doLease_c {w : World} {B n base : Nat} {col : Nat → Nat} {D : Dl} {M : Mem} {S : St} (h : NetAt w B n col base D M S) (hB : B ≤ w.heap.size) {K : Int} (hK : K < 100000) (hok : ∀ c ∈ S.cs, Sx.OkC K c) (hn32 : S.cs.length ≤ 32) (k a b c : Int) :
    Calls Try.prog 29 #[.pointer (some ⟨n, 0, none⟩), .agg #[.int .i64 k, .int .i64 a, .int .i64 b, .int .i64 c]] w fun e w' => e = .returned (.int .i64 (leaseE D S a b c)) ∧ NetTo w B n col base D (leaseF D S a b c) w' :=
  (doLease_0 h.recol hB (fun k hk => fresh_not hk) hK hok hn32 k a b c).mono fun e w2 ⟨he, hn⟩ => ⟨he, hn.recol⟩
end Go.Proofs.Ytlklnaebdnahcaa
namespace Go.Proofs.Ytlklnaebdnahcaa
open Go.RowKit Nw
def plugF (D : Dl) (S : St) (a b : Int) : St := if plugE D S a b = 0 then plugS D S a b else S
theorem plugF_no {D : Dl} {S : St} {a b e : Int} (h : plugE D S a b = e) (he : e ≠ 0) : plugF D S a b = S := if_neg (by rw [h]; exact he)
theorem pgP {w : World} {B n base : Nat} {col : Nat → Nat} {D : Dl} {M : Mem} {S : St} (h : NetAt w B n col base D M S) {k : Nat} (hk : k < 16) : w.cell? ⟨n, 18 + k, none⟩ = some (.int .i64 (S.pg.getD k 0)) := by
  match k, hk with
  | 0, _ => exact h.blk.cell 18 rfl
  | 1, _ => exact h.blk.cell 19 rfl
  | 2, _ => exact h.blk.cell 20 rfl
  | 3, _ => exact h.blk.cell 21 rfl
  | 4, _ => exact h.blk.cell 22 rfl
  | 5, _ => exact h.blk.cell 23 rfl
  | 6, _ => exact h.blk.cell 24 rfl
  | 7, _ => exact h.blk.cell 25 rfl
  | 8, _ => exact h.blk.cell 26 rfl
  | 9, _ => exact h.blk.cell 27 rfl
  | 10, _ => exact h.blk.cell 28 rfl
  | 11, _ => exact h.blk.cell 29 rfl
  | 12, _ => exact h.blk.cell 30 rfl
  | 13, _ => exact h.blk.cell 31 rfl
  | 14, _ => exact h.blk.cell 32 rfl
  | 15, _ => exact h.blk.cell 33 rfl
  | k + 16, hk => exact absurd hk (by omega)
theorem pgF {w : World} {B n base : Nat} {col : Nat → Nat} {D : Dl} {M : Mem} {S : St} (h : NetAt w B n col base D M S) {k : Nat} (hk : k < 16) : w.frozen? ⟨n, 18 + k, none⟩ = false := h.blk.free _
theorem pgS {M : Mem} {D : Dl} {S : St} (h : S.pg.length = 16) {k : Nat} (hk : k < 16) (v : Int) : (netC M D S).set (18 + k) (.int .i64 v) = netC M D { S with pg := S.pg.set k v } := by
  unfold netC
  dsimp only
  generalize S.pg = pg at h ⊢
  match pg, h with
  | [a0, a1, a2, a3, a4, a5, a6, a7, a8, a9, a10, a11, a12, a13, a14, a15], _ =>
    match k, hk with
    | 0, _ => rfl
    | 1, _ => rfl
    | 2, _ => rfl
    | 3, _ => rfl
    | 4, _ => rfl
    | 5, _ => rfl
    | 6, _ => rfl
    | 7, _ => rfl
    | 8, _ => rfl
    | 9, _ => rfl
    | 10, _ => rfl
    | 11, _ => rfl
    | 12, _ => rfl
    | 13, _ => rfl
    | 14, _ => rfl
    | 15, _ => rfl
    | k + 16, hk => exact absurd hk (by omega)
set_option maxRecDepth 100000 in
set_option maxHeartbeats 8000000 in
theorem doPlug_0 {w : World} {B n base : Nat} {col : Nat → Nat} {D : Dl} {M : Mem} {S : St} (h : NetAt w B n col base D M S) (hB : B ≤ w.heap.size) (hfr : ∀ k, w.heap.size ≤ k → ¬ NetOwn col base k) (hD : ∀ c ∈ D.cn, ∀ q ∈ c.ps, 0 ≤ q) (hc16 : D.cn.length ≤ 16) (a b c : Int) :
    Calls Try.prog 21 #[.pointer (some ⟨n, 0, none⟩), .agg #[.int .i64 1, .int .i64 a, .int .i64 b, .int .i64 c]] w fun e w' => e = .returned (.int .i64 (plugE D S a b)) ∧ NetTo w B n col base D (plugF D S a b) w' := by
  obtain ⟨m, hm⟩ : ∃ m, m = M.ct.length := ⟨_, rfl⟩
  have HM := Lib.hid hm
  have hmD : D.cn.length = m := by rw [hm, ← h.cn, List.length_map]
  have hm16 : m ≤ 16 := by omega
  have HM16 := Lib.hid hm16
  have HMD := Lib.hid hmD
  have hwr : IntKind.i64.wrap ((m : Int) - 1) = (m : Int) - 1 := IntWalk.i64_in _ (by omega)
  have hwr2 : wrap64 ((m : Int) - 1) = (m : Int) - 1 := by rw [← IntWalk.i64_left]; exact hwr
  have HFR := Lib.hid hfr
  have HD := Lib.hid hD
  have HW := Lib.hid h
  have al := (Below.refl w.heap.size w).alloc (Nat.le_refl _) (.cells #[.int .i64 1, .int .i64 a, .int .i64 b, .int .i64 c] 35)
  have HX := Lib.hid (Blk.new' w #[.int .i64 1, .int .i64 a, .int .i64 b, .int .i64 c] 35)
  have H1 := Lib.hid (h.below al)
  have HA := Lib.hid al
  have HB1 := Lib.hid (Nat.le_trans hB al.size)
  have HS0 := Lib.hid (NetTo.same HW.out HA.out)
  clear hfr hD hm hmD hc16 h hB al hm16
  cases hi : S.inn with
  | true =>
    have HI := Lib.hid hi
    have HE := Lib.hid (show plugE D S a b = 10 by unfold plugE; rw [hi]; rfl)
    clear hi
    go_enter Try.func21, Try.ntmps21
    go_upto_region 1 with fail
    have HSZ := Lib.hid HA.out.size
    generalize w.alloc (.cells #[.int .i64 1, .int .i64 a, .int .i64 b, .int .i64 c] 35) = w1 at *
    obtain ⟨gx, hgx⟩ : ∃ gx, gx = w.heap.size := ⟨_, rfl⟩
    rw [← hgx] at HX ⊢
    have HGX := Lib.hid hgx
    clear hgx
    have c34 := H1.out.blk.cell 34 rfl
    rw [HI.out] at c34
    have x1 := HX.out.cell 1 rfl
    have x2 := HX.out.cell 2 rfl
    have xl := HX.out.lt
    have nl := H1.out.lt
    go_wp2_with fail
    exact bodyPost_ret (v := .int .i64 10) (by simp [results, Try.results21, go_sem]) rfl ⟨by rw [HE.out], by rw [plugF_no HE.out (by first | decide | exact HPN.out)]; exact HS0.out⟩
  | false =>
    have HI := Lib.hid hi
    clear hi
    cases hib : Cv.inB a 0 ((m : Int) - 1) with
    | false =>
      have HE := Lib.hid (show plugE D S a b = 3 by unfold plugE; rw [HI.out, HMD.out, hib]; simp)
      have P48 : ∀ V, Calls Try.prog 23 #[.int .i64 a, .int .i64 0, .int .i64 ((m : Int) - 1)] V fun e w' => e = .returned (.bool false) ∧ V = w' := fun V => by have := within_c a 0 ((m : Int) - 1) V; rwa [hib] at this
      clear hib
      go_enter Try.func21, Try.ntmps21
      go_upto_region 1 with fail
      have HSZ := Lib.hid HA.out.size
      generalize w.alloc (.cells #[.int .i64 1, .int .i64 a, .int .i64 b, .int .i64 c] 35) = w1 at *
      obtain ⟨gx, hgx⟩ : ∃ gx, gx = w.heap.size := ⟨_, rfl⟩
      rw [← hgx] at HX ⊢
      have HGX := Lib.hid hgx
      clear hgx
      have c34 := H1.out.blk.cell 34 rfl
      rw [HI.out] at c34
      have x1 := HX.out.cell 1 rfl
      have x2 := HX.out.cell 2 rfl
      have xl := HX.out.lt
      have nl := H1.out.lt
      go_upto_region 3 with fail
      clear c34
      have c4 := H1.out.blk.cell 4 rfl
      rw [← HM.out] at c4
      refine wp_region_past (by kernel_rfl) (by kernel_rfl) ?_
      repeat (go_big_quiet_step ((go_at_call 23; exact past_same (P48 _))))
      refine wpQuiet_nil ?_
      intro xx
      have H2 := Lib.hid (H1.out.below xx.far)
      have HX2 := Lib.hid (HX.out.below xx.far HX.out.lt)
      have HA2 := Lib.hid (HA.out.trans (xx.far.mono HA.out.size))
      have HB2 := Lib.hid (Nat.le_trans HB1.out xx.far.size)
      have HS2 := Lib.hid (NetTo.same HW.out HA2.out)
      generalize xx.w = w2 at H2 HX2 HA2 HB2 HS2 ⊢
      clear H1 HX HA HB1 HS0 c4 nl x1 x2 xl P48
      go_wp2_with fail
      have HS0 := HS2
      exact bodyPost_ret (v := .int .i64 3) (by simp [results, Try.results21, go_sem]) rfl ⟨by rw [HE.out], by rw [plugF_no HE.out (by first | decide | exact HPN.out)]; exact HS0.out⟩
    | true =>
      have P48 : ∀ V, Calls Try.prog 23 #[.int .i64 a, .int .i64 0, .int .i64 ((m : Int) - 1)] V fun e w' => e = .returned (.bool true) ∧ V = w' := fun V => by have := within_c a 0 ((m : Int) - 1) V; rwa [hib] at this
      have hin := inB_yes hib
      have HIN := Lib.hid hin
      have HIB := Lib.hid hib
      clear hib
      by_cases hb0 : b = 0
      · have b0 : (b == 0) = true := by simpa using hb0
        have b1 : (b != 0) = false := by simpa using hb0
        have HBV := Lib.hid hb0
        clear hb0 b0
        obtain ⟨k, hk⟩ : ∃ k : Nat, a = k := ⟨a.toNat, by omega⟩
        have hkm : k < m := by omega
        have hct := ct_at HW.out.cn k
        obtain ⟨ad, hca, hab, d0, d1, hdat⟩ := HW.out.de.2 k (by have := HM.out; omega)
        obtain ⟨ct, hc⟩ : ∃ ct, ct = M.ct.getD k default := ⟨_, rfl⟩
        obtain ⟨pn, hpn⟩ : ∃ pn, pn = S.pg.getD k 0 := ⟨_, rfl⟩
        have hpE : prfE D k pn = Pf.prE ct.pt ct.ps k pn := by unfold prfE; rw [Int.toNat_natCast, hct.1, hct.2, hc]
        have hpV : prfV D k pn = Pf.prV ct.pt ct.ps k pn := by unfold prfV; rw [Int.toNat_natCast, hct.1, hct.2, hc]
        have HPS : Hid (∀ q ∈ ct.ps, 0 ≤ q) := by
          refine Lib.hid ?_
          have hm1 : (D.cn.getD k default) ∈ D.cn := by
            rw [List.getD_eq_getElem?_getD, List.getElem?_eq_getElem (by have := HMD.out; omega)]
            exact List.getElem_mem _
          have := HD.out _ hm1
          rw [hct.2, ← hc] at this
          exact this
        subst hk
        have HC := Lib.hid hc
        have HKM := Lib.hid hkm
        have HCA := Lib.hid hca
        have HAB := Lib.hid (show (ad.add (k * 2)).block < w.heap.size by rw [block_of_add]; exact hab)
        rw [← hc] at d0 d1 hdat
        have HD0 := Lib.hid d0
        have HD1 := Lib.hid d1
        have HDA := Lib.hid hdat
        obtain ⟨pv, hpv⟩ : ∃ pv, pv = Pf.prV ct.pt ct.ps k pn := ⟨_, rfl⟩
        obtain ⟨pe, hpe⟩ : ∃ pe, pe = Pf.prE ct.pt ct.ps k pn := ⟨_, rfl⟩
        have hpb : 0 ≤ pv ∧ pv ≤ 2147483646 := by rw [hpv]; exact Pf.prV_bd _ _ _ _
        have HPB := Lib.hid hpb
        have HPV := Lib.hid hpv
        have HPE := Lib.hid hpe
        have HPN0 := Lib.hid hpn
        have HVD := Lib.hid (show prfV D k pn = pv by rw [hpV, hpv])
        have hE0 : plugE D S k b = if pe ≠ 0 then pe else if 16 < max (Nw.ln S 0).L.length (Nw.ln S 1).L.length then 11 else 0 := by
          unfold plugE
          rw [HI.out, HMD.out, HIB.out, Int.toNat_natCast, ← hpn, hpE, ← hpe]
          simp [HBV.out]
          try omega
        clear hin hct hca hab d0 d1 hdat hc hpE hpV hpv hpe hkm hpn hpb
        by_cases h0 : pe = 0
        · subst h0
          rw [if_neg (by simp)] at hE0
          obtain ⟨l0, hl0⟩ : ∃ l0, l0 = (Nw.ln S 0).L.length := ⟨_, rfl⟩
          obtain ⟨l1, hl1⟩ : ∃ l1, l1 = (Nw.ln S 1).L.length := ⟨_, rfl⟩
          rw [← hl0, ← hl1] at hE0
          have HL0 := Lib.hid hl0
          have HL1 := Lib.hid hl1
          obtain ⟨mx, hmx⟩ : ∃ mx, mx = max l0 l1 := ⟨_, rfl⟩
          rw [← hmx] at hE0
          have hmi : max (l0 : Int) (l1 : Int) = (mx : Int) := by rw [hmx]; omega
          have hmi3 : (if l0 < l1 then (l1 : Int) else (l0 : Int)) = (mx : Int) := by rw [hmx]; split <;> omega
          clear hl0 hl1 hmx
          by_cases hfull : 16 < mx
          · have HE := Lib.hid (show plugE D S k b = 11 by rw [hE0, if_pos hfull])
            have hfi : decide ((16 : Int) < (mx : Int)) = true := decide_eq_true (by omega)
            clear hE0 hfull
            go_enter Try.func21, Try.ntmps21
            go_upto_region 1 with fail
            have HSZ := Lib.hid HA.out.size
            generalize w.alloc (.cells #[.int .i64 1, .int .i64 k, .int .i64 b, .int .i64 c] 35) = w1 at *
            obtain ⟨gx, hgx⟩ : ∃ gx, gx = w.heap.size := ⟨_, rfl⟩
            rw [← hgx] at HX ⊢
            have HGX := Lib.hid hgx
            clear hgx
            have c34 := H1.out.blk.cell 34 rfl
            rw [HI.out] at c34
            have x1 := HX.out.cell 1 rfl
            have x2 := HX.out.cell 2 rfl
            have xl := HX.out.lt
            have nl := H1.out.lt
            go_upto_region 3 with fail
            clear c34
            have c4 := H1.out.blk.cell 4 rfl
            rw [← HM.out] at c4
            refine wp_region_past (by kernel_rfl) (by kernel_rfl) ?_
            repeat (go_big_quiet_step ((go_at_call 23; exact past_same (P48 _))))
            refine wpQuiet_nil ?_
            intro xx
            have H2 := Lib.hid (H1.out.below xx.far)
            have HX2 := Lib.hid (HX.out.below xx.far HX.out.lt)
            have HA2 := Lib.hid (HA.out.trans (xx.far.mono HA.out.size))
            have HB2 := Lib.hid (Nat.le_trans HB1.out xx.far.size)
            have HS2 := Lib.hid (NetTo.same HW.out HA2.out)
            generalize xx.w = w2 at H2 HX2 HA2 HB2 HS2 ⊢
            clear H1 HX HA HB1 HS0 c4 nl x1 x2 xl P48
            have x1 := HX2.out.cell 1 rfl
            have xl := HX2.out.lt
            go_upto_region 6 with fail
            have c4 := H2.out.blk.cell 4 rfl
            rw [← HM.out, HCA.out] at c4
            have nl := H2.out.lt
            have k16 : k < 16 := by have := HKM.out; have := HM16.out; omega
            have ki : (k : Int) < 16 := by omega
            have km : (k : Int) < (m : Int) := by have := HKM.out; omega
            have cp := pgP H2.out k16
            rw [← HPN0.out] at cp
            have e0 := (HA2.out.cell HAB.out).trans HD0.out
            have e1 := (HA2.out.cell (p := ⟨_, _, none⟩) HAB.out).trans HD1.out
            have eb := Nat.lt_of_lt_of_le HAB.out HA2.out.size
            have P113 : ∀ x : Past w2, Calls Try.prog 41 #[.agg #[.int .u64 ct.pt, .slice ct.A ct.ps.length ct.cap], .int .i64 k, .int .i64 pn] x.w fun e w' => e = .returned (.tuple #[.int .u64 pv, .int .i64 0]) ∧ Below x.w.heap.size x.w w' := fun x => by
              have := Proof_c ct.pt ct.A ct.ps ct.cap k pn x.w HDA.out.2.1 HDA.out.2.2 HPS.out (HDA.out.1.below (HA2.out.trans (x.far.mono HA2.out.size)))
              rwa [← HPV.out, ← HPE.out] at this
            refine wp_region_past (by kernel_rfl) (by kernel_rfl) ?_
            repeat (go_big_quiet_step ((go_at_call 41; exact past_below (P113 _))))
            refine wpQuiet_nil ?_
            intro xx
            have H3 := Lib.hid (H2.out.below xx.far)
            have HX3 := Lib.hid (HX2.out.below xx.far HX2.out.lt)
            have HA3 := Lib.hid (HA2.out.trans (xx.far.mono HA2.out.size))
            have HB3 := Lib.hid (Nat.le_trans HB2.out xx.far.size)
            have HS3 := Lib.hid (NetTo.same HW.out HA3.out)
            generalize xx.w = w3 at H3 HX3 HA3 HB3 HS3 ⊢
            clear H2 HX2 HA2 HB2 HS2 c4 nl x1 xl cp e0 e1 eb P113
            go_upto_region 9 with fail
            have c11 := lineP H3.out (show 0 < 6 by omega)
            have c12 := lineP H3.out (show 1 < 6 by omega)
            have nl := H3.out.lt
            have HN0 := Lib.hid (H3.out.ln 0 (by omega))
            have HN1 := Lib.hid (H3.out.ln 1 (by omega))
            have P10 : ∀ x : Past w3, Calls Try.prog 32 #[.pointer (some ⟨M.g 0, 0, none⟩)] x.w fun e w' => e = .returned (.int .i64 l0) ∧ x.w = w' := fun x => by
              have := WaitingL_c _ _ _ _ _ _ ((H3.out.below x.far).ln 0 (by omega))
              rwa [← HL0.out] at this
            have P11 : ∀ x : Past w3, Calls Try.prog 32 #[.pointer (some ⟨M.g 1, 0, none⟩)] x.w fun e w' => e = .returned (.int .i64 l1) ∧ x.w = w' := fun x => by
              have := WaitingL_c _ _ _ _ _ _ ((H3.out.below x.far).ln 1 (by omega))
              rwa [← HL1.out] at this
            refine wp_region_past (by kernel_rfl) (by kernel_rfl) ?_
            repeat (go_big_quiet_step ((go_at_call 32; first | with_reducible exact past_same (P10 _) | with_reducible exact past_same (P11 _))))
            refine wpQuiet_nil ?_
            intro xx
            have H4 := Lib.hid (H3.out.below xx.far)
            have HX4 := Lib.hid (HX3.out.below xx.far HX3.out.lt)
            have HA4 := Lib.hid (HA3.out.trans (xx.far.mono HA3.out.size))
            have HB4 := Lib.hid (Nat.le_trans HB3.out xx.far.size)
            have HS4 := Lib.hid (NetTo.same HW.out HA4.out)
            generalize xx.w = w4 at H4 HX4 HA4 HB4 HS4 ⊢
            clear H3 HX3 HA3 HB3 HS3 c11 c12 nl HN0 HN1 P10 P11
            (try simp only [hmi3, hfi])
            clear hmi hmi3 hfi
            go_wp2_with fail
            have HS0 := HS4
            exact bodyPost_ret (v := .int .i64 11) (by simp [results, Try.results21, go_sem]) rfl ⟨by rw [HE.out], by rw [plugF_no HE.out (by first | decide | exact HPN.out)]; exact HS0.out⟩
          · have HE := Lib.hid (show plugE D S k b = 0 by rw [hE0, if_neg hfull])
            have hfi : decide ((16 : Int) < (mx : Int)) = false := decide_eq_false (by omega)
            clear hE0 hfull
            go_enter Try.func21, Try.ntmps21
            go_upto_region 1 with fail
            have HSZ := Lib.hid HA.out.size
            generalize w.alloc (.cells #[.int .i64 1, .int .i64 k, .int .i64 b, .int .i64 c] 35) = w1 at *
            obtain ⟨gx, hgx⟩ : ∃ gx, gx = w.heap.size := ⟨_, rfl⟩
            rw [← hgx] at HX ⊢
            have HGX := Lib.hid hgx
            clear hgx
            have c34 := H1.out.blk.cell 34 rfl
            rw [HI.out] at c34
            have x1 := HX.out.cell 1 rfl
            have x2 := HX.out.cell 2 rfl
            have xl := HX.out.lt
            have nl := H1.out.lt
            go_upto_region 3 with fail
            clear c34
            have c4 := H1.out.blk.cell 4 rfl
            rw [← HM.out] at c4
            refine wp_region_past (by kernel_rfl) (by kernel_rfl) ?_
            repeat (go_big_quiet_step ((go_at_call 23; exact past_same (P48 _))))
            refine wpQuiet_nil ?_
            intro xx
            have H2 := Lib.hid (H1.out.below xx.far)
            have HX2 := Lib.hid (HX.out.below xx.far HX.out.lt)
            have HA2 := Lib.hid (HA.out.trans (xx.far.mono HA.out.size))
            have HB2 := Lib.hid (Nat.le_trans HB1.out xx.far.size)
            have HS2 := Lib.hid (NetTo.same HW.out HA2.out)
            generalize xx.w = w2 at H2 HX2 HA2 HB2 HS2 ⊢
            clear H1 HX HA HB1 HS0 c4 nl x1 x2 xl P48
            have x1 := HX2.out.cell 1 rfl
            have xl := HX2.out.lt
            go_upto_region 6 with fail
            have c4 := H2.out.blk.cell 4 rfl
            rw [← HM.out, HCA.out] at c4
            have nl := H2.out.lt
            have k16 : k < 16 := by have := HKM.out; have := HM16.out; omega
            have ki : (k : Int) < 16 := by omega
            have km : (k : Int) < (m : Int) := by have := HKM.out; omega
            have cp := pgP H2.out k16
            rw [← HPN0.out] at cp
            have e0 := (HA2.out.cell HAB.out).trans HD0.out
            have e1 := (HA2.out.cell (p := ⟨_, _, none⟩) HAB.out).trans HD1.out
            have eb := Nat.lt_of_lt_of_le HAB.out HA2.out.size
            have P113 : ∀ x : Past w2, Calls Try.prog 41 #[.agg #[.int .u64 ct.pt, .slice ct.A ct.ps.length ct.cap], .int .i64 k, .int .i64 pn] x.w fun e w' => e = .returned (.tuple #[.int .u64 pv, .int .i64 0]) ∧ Below x.w.heap.size x.w w' := fun x => by
              have := Proof_c ct.pt ct.A ct.ps ct.cap k pn x.w HDA.out.2.1 HDA.out.2.2 HPS.out (HDA.out.1.below (HA2.out.trans (x.far.mono HA2.out.size)))
              rwa [← HPV.out, ← HPE.out] at this
            refine wp_region_past (by kernel_rfl) (by kernel_rfl) ?_
            repeat (go_big_quiet_step ((go_at_call 41; exact past_below (P113 _))))
            refine wpQuiet_nil ?_
            intro xx
            have H3 := Lib.hid (H2.out.below xx.far)
            have HX3 := Lib.hid (HX2.out.below xx.far HX2.out.lt)
            have HA3 := Lib.hid (HA2.out.trans (xx.far.mono HA2.out.size))
            have HB3 := Lib.hid (Nat.le_trans HB2.out xx.far.size)
            have HS3 := Lib.hid (NetTo.same HW.out HA3.out)
            generalize xx.w = w3 at H3 HX3 HA3 HB3 HS3 ⊢
            clear H2 HX2 HA2 HB2 HS2 c4 nl x1 xl cp e0 e1 eb P113
            go_upto_region 9 with fail
            have c11 := lineP H3.out (show 0 < 6 by omega)
            have c12 := lineP H3.out (show 1 < 6 by omega)
            have nl := H3.out.lt
            have HN0 := Lib.hid (H3.out.ln 0 (by omega))
            have HN1 := Lib.hid (H3.out.ln 1 (by omega))
            have P10 : ∀ x : Past w3, Calls Try.prog 32 #[.pointer (some ⟨M.g 0, 0, none⟩)] x.w fun e w' => e = .returned (.int .i64 l0) ∧ x.w = w' := fun x => by
              have := WaitingL_c _ _ _ _ _ _ ((H3.out.below x.far).ln 0 (by omega))
              rwa [← HL0.out] at this
            have P11 : ∀ x : Past w3, Calls Try.prog 32 #[.pointer (some ⟨M.g 1, 0, none⟩)] x.w fun e w' => e = .returned (.int .i64 l1) ∧ x.w = w' := fun x => by
              have := WaitingL_c _ _ _ _ _ _ ((H3.out.below x.far).ln 1 (by omega))
              rwa [← HL1.out] at this
            refine wp_region_past (by kernel_rfl) (by kernel_rfl) ?_
            repeat (go_big_quiet_step ((go_at_call 32; first | with_reducible exact past_same (P10 _) | with_reducible exact past_same (P11 _))))
            refine wpQuiet_nil ?_
            intro xx
            have H4 := Lib.hid (H3.out.below xx.far)
            have HX4 := Lib.hid (HX3.out.below xx.far HX3.out.lt)
            have HA4 := Lib.hid (HA3.out.trans (xx.far.mono HA3.out.size))
            have HB4 := Lib.hid (Nat.le_trans HB3.out xx.far.size)
            have HS4 := Lib.hid (NetTo.same HW.out HA4.out)
            generalize xx.w = w4 at H4 HX4 HA4 HB4 HS4 ⊢
            clear H3 HX3 HA3 HB3 HS3 c11 c12 nl HN0 HN1 P10 P11
            (try simp only [hmi3, hfi])
            clear hmi hmi3 hfi
            have k16 : k < 16 := by have := HKM.out; have := HM16.out; omega
            have ki : (k : Int) < 16 := by omega
            have cp := pgP H4.out k16
            rw [← HPN0.out] at cp
            have fp := pgF H4.out k16
            have nl := H4.out.lt
            go_upto_region 12 with fail
            refine wp_region_priv 10 [.q, .q, .q, .q, .q, .q, .q, .q, .q, .q] (fun _ => (.cells #[] 35, fun b => .pointer none)) ?afp_4 (by kernel_rfl) (by kernel_rfl) ?walk12_4 ?tail12_4
            case walk12_4 =>
              intro V hV
              have cp := (hV.cell (p := ⟨n, 18 + k, none⟩) nl).trans cp
              have nl := Nat.lt_of_lt_of_le nl hV.size
              clear hV
              simp only [List.take_succ_cons, List.take_zero]
              repeat (refine wpP_q ?_; go_big_quiet_step (fail); refine wpQuiet_nil ?_)
              refine wpP_nil ?_
              rfl
            case tail12_4 =>
              intro gs w5 hb5 _ _
              have H5 := Lib.hid (H4.out.below hb5)
              have HX5 := Lib.hid (HX4.out.below hb5 HX4.out.lt)
              have HA5 := Lib.hid (HA4.out.trans (hb5.mono HA4.out.size))
              have HB5 := Lib.hid (Nat.le_trans HB4.out hb5.size)
              clear hb5 cp fp nl H4 HX4 HA4 HB4 HS4
              simp only [List.drop_succ_cons, List.drop_zero, List.take_succ_cons, List.take_zero, fillP]
              have cp := pgP H5.out k16
              rw [← HPN0.out] at cp
              have fp := pgF H5.out k16
              have nl := H5.out.lt
              go_upto_region 13 with fail
              have hT6 : Touch (fun k => k = n) w5 (w5.setCell ⟨n, 18 + k, none⟩ (.int .i64 (wrap64 (pn + 1)))) := (Touch.refl _ _).put (18 + k) _
              have HT6 := Lib.hid hT6
              have HPL := Lib.hid H5.out.pg
              have hgn : gx ≠ n := by have := HGX.out; have := HW.out.lt; omega
              have HGN := Lib.hid hgn
              have H6 := Lib.hid (show NetAt (w5.setCell ⟨n, 18 + k, none⟩ (.int .i64 (wrap64 (pn + 1)))) B n col base D M ({ S with pg := S.pg.set k (wrap64 (pn + 1)) }) from H5.out.stored (S' := { S with pg := S.pg.set k (wrap64 (pn + 1)) }) hT6 (by
                have := (H5.out.blk).setCell (18 + k) (.int .i64 (wrap64 (pn + 1)))
                rwa [pgS HPL.out k16] at this) rfl rfl (List.length_set) rfl rfl rfl rfl rfl rfl rfl rfl rfl rfl rfl)
              have HX6 := Lib.hid (HX5.out.touch hT6 hgn)
              have HB6 := Lib.hid (Nat.le_trans HB5.out hT6.size)
              clear hT6 cp fp nl H5 HX5 HB5 hgn
              generalize w5.setCell ⟨n, 18 + k, none⟩ (.int .i64 (wrap64 (pn + 1))) = w6 at H6 HX6 HB6 HT6 ⊢
              obtain ⟨S1, hS1⟩ : ∃ S1 : St, S1 = { S with pg := S.pg.set k (wrap64 (pn + 1)) } := ⟨_, rfl⟩
              rw [← hS1] at H6
              have HS1 := Lib.hid hS1
              have HI1 := Lib.hid (show S1.inn = false by rw [hS1]; exact HI.out)
              clear hS1
              have c34 := H6.out.blk.cell 34 rfl
              rw [HI1.out] at c34
              have f34 := H6.out.blk.free 34
              have nl := H6.out.lt
              go_upto_region 14 with fail
              have hT7 : Touch (fun k => k = n) w6 (w6.setCell ⟨n, 34, none⟩ (.bool true)) := (Touch.refl _ _).put 34 _
              have HT7 := Lib.hid (HT6.out.trans hT7)
              have HBn := Lib.hid ((H6.out.blk).setCell 34 (.bool true))
              have HX7 := Lib.hid (HX6.out.touch hT7 HGN.out)
              have HT67 := Lib.hid hT7
              have HB7 := Lib.hid (Nat.le_trans HB6.out hT7.size)
              clear hT7 c34 f34 nl HX6 HB6 HT6
              generalize w6.setCell ⟨n, 34, none⟩ (.bool true) = w7 at HBn HX7 HT7 HT67 HB7 ⊢
              refine wp_region_spine 9 [true] [] ?af14_4 (fun V => (∃ x, Blk V n 81 (((netC M D S1).set 34 (.bool true)).set 37 (.int .i64 x))) ∧ Blk V gx 35 [.int .i64 1, .int .i64 k, .int .i64 b, .int .i64 c] ∧ Touch (fun k => k = n) w7 V) (by kernel_rfl) (by kernel_rfl) ⟨⟨S1.vph, HBn.out.drew⟩, HX7.out.drew, (Touch.refl _ _).drew⟩ ?walk14_4 ?spine14_4
              case walk14_4 =>
                rintro V ⟨⟨x, h0⟩, h1, _⟩
                have x1 := h1.cell 1 rfl
                have xl := h1.lt
                have nl := h0.lt
                clear h0 h1
                simp only [List.take_succ_cons, List.take_zero]
                repeat (go_big_quiet_step (fail))
                refine wpQuiet_nil ?_
                rfl
              case spine14_4 =>
                rintro V ⟨⟨x, h0⟩, h1, h2⟩
                have H0 := Lib.hid h0
                have HX8 := Lib.hid h1
                have HT8 := Lib.hid h2
                have f37 := h0.free 37
                have c37 := h0.cell 37 rfl
                have nl := h0.lt
                clear h0 h1 h2
                refine spineV_cons ?_
                unfold StepV
                go_simp
                have hT9 : Touch (fun k => k = n) V (V.setCell ⟨n, 37, none⟩ (.int .i64 1)) := (Touch.refl _ _).put 37 _
                have HB9 := Lib.hid (show Blk (V.setCell ⟨n, 37, none⟩ (.int .i64 1)) n 81 (((netC M D S1).set 34 (.bool true)).set 37 (.int .i64 1)) from by
                  have := H0.out.setCell 37 (.int .i64 1)
                  rwa [List.set_set] at this)
                have HX9 := Lib.hid (HX8.out.touch hT9 HGN.out)
                have HT9 := Lib.hid (HT8.out.trans hT9)
                refine ⟨⟨⟨1, HB9.out⟩, HX9.out, HT9.out⟩, ?_⟩
                clear hT9 H0 HX8 HT8 f37 c37 nl
                generalize V.setCell ⟨n, 37, none⟩ (.int .i64 1) = w9 at HB9 HX9 HT9 ⊢
                refine spineV_nil ?_
                (try simp only [Act.put, List.setIfInBounds_toArray, List.set_cons_zero, List.set_cons_succ])
                (try simp only [List.drop_succ_cons, List.drop_zero, List.length_cons, List.length_nil])
                have nl := HB9.out.lt
                have f38 := HB9.out.free 38
                have f39 := HB9.out.free 39
                have c38 := HB9.out.cell 38 rfl
                have c39 := HB9.out.cell 39 rfl
                go_upto_region 15 with fail
                have hT10 : Touch (fun k => k = n) w9 ((w9.setCell ⟨n, 38, none⟩ (.int .i64 k)).setCell ⟨n, 39, none⟩ (.int .i64 pn)) := ((Touch.refl _ _).put 38 _).put 39 _
                have H10 := Lib.hid (show NetAt ((w9.setCell ⟨n, 38, none⟩ (.int .i64 k)).setCell ⟨n, 39, none⟩ (.int .i64 pn)) B n col base D M ({ S1 with inn := true, vph := 1, vp0 := k, vp1 := pn }) from
                  H6.out.stored (S' := { S1 with inn := true, vph := 1, vp0 := k, vp1 := pn }) ((HT67.out.trans HT9.out).trans hT10) (((HB9.out).setCell 38 (.int .i64 k)).setCell 39 (.int .i64 pn)) rfl rfl rfl rfl rfl rfl rfl rfl rfl rfl rfl rfl rfl rfl)
                have HX10 := Lib.hid (HX9.out.touch hT10 HGN.out)
                have HT10 := Lib.hid ((HT7.out.trans HT9.out).trans hT10)
                have HB10 := Lib.hid (Nat.le_trans HB7.out (Nat.le_trans HT9.out.size hT10.size))
                clear hT10 nl f38 f39 c38 c39 HB9 HX9 HT9
                generalize (w9.setCell ⟨n, 38, none⟩ (.int .i64 k)).setCell ⟨n, 39, none⟩ (.int .i64 pn) = w10 at H10 HX10 HT10 HB10 ⊢
                have hpb := HPB.out
                have hbv := HBV.out
                have hpw : IntKind.i64.wrap pv = pv := IntWalk.i64_in _ (by omega)
                have hpw2 : wrap64 pv = pv := by rw [← IntWalk.i64_left]; exact hpw
                have hs : IntKind.i64.wrap (pv + b) = pv + b := IntWalk.i64_in _ (by omega)
                have hs2 : wrap64 (pv + b) = pv + b := by rw [← IntWalk.i64_left]; exact hs
                have hs0 : 0 ≤ pv + b := by omega
                have x1 := HX10.out.cell 1 rfl
                have x2 := HX10.out.cell 2 rfl
                have xl := HX10.out.lt
                clear hpb hbv
                go_wp2_with (go_at_call 28; refine (tell_c H10.out HB10.out 0 (by omega) ⟨1, 0, k, (pv + b) % 2147483647, pn⟩).mono ?_; rintro e w11 ⟨rfl, hn⟩; have HN := Lib.hid hn; clear hn)
                exact bodyPost_ret (v := .int .i64 0) (by simp [results, Try.results21, go_sem]) rfl ⟨by rw [HE.out], by
                  have e : plugF D S k b = tell { S1 with inn := true, vph := 1, vp0 := k, vp1 := pn } 0 ⟨1, 0, k, (pv + b) % 2147483647, pn⟩ := by
                    unfold plugF
                    rw [if_pos HE.out]
                    unfold plugS
                    rw [Int.toNat_natCast, ← HPN0.out, HVD.out, HS1.out]
                  rw [e]
                  exact NetTo.before (Touch.of_below HA5.out) (NetTo.before (HT10.out.mono (fun k e => by subst e; have := HW.out.c0; unfold NetOwn; omega)) HN.out)⟩
        · have HPN := Lib.hid h0
          have HE := Lib.hid (show plugE D S k b = pe by rw [hE0, if_pos h0])
          have h0b : (pe == 0) = false := by simpa using h0
          have h0n : (pe != 0) = true := by simpa using h0
          have h0d : decide (pe = 0) = false := decide_eq_false h0
          clear hE0 h0
          go_enter Try.func21, Try.ntmps21
          go_upto_region 1 with fail
          have HSZ := Lib.hid HA.out.size
          generalize w.alloc (.cells #[.int .i64 1, .int .i64 k, .int .i64 b, .int .i64 c] 35) = w1 at *
          obtain ⟨gx, hgx⟩ : ∃ gx, gx = w.heap.size := ⟨_, rfl⟩
          rw [← hgx] at HX ⊢
          have HGX := Lib.hid hgx
          clear hgx
          have c34 := H1.out.blk.cell 34 rfl
          rw [HI.out] at c34
          have x1 := HX.out.cell 1 rfl
          have x2 := HX.out.cell 2 rfl
          have xl := HX.out.lt
          have nl := H1.out.lt
          go_upto_region 3 with fail
          clear c34
          have c4 := H1.out.blk.cell 4 rfl
          rw [← HM.out] at c4
          refine wp_region_past (by kernel_rfl) (by kernel_rfl) ?_
          repeat (go_big_quiet_step ((go_at_call 23; exact past_same (P48 _))))
          refine wpQuiet_nil ?_
          intro xx
          have H2 := Lib.hid (H1.out.below xx.far)
          have HX2 := Lib.hid (HX.out.below xx.far HX.out.lt)
          have HA2 := Lib.hid (HA.out.trans (xx.far.mono HA.out.size))
          have HB2 := Lib.hid (Nat.le_trans HB1.out xx.far.size)
          have HS2 := Lib.hid (NetTo.same HW.out HA2.out)
          generalize xx.w = w2 at H2 HX2 HA2 HB2 HS2 ⊢
          clear H1 HX HA HB1 HS0 c4 nl x1 x2 xl P48
          have x1 := HX2.out.cell 1 rfl
          have xl := HX2.out.lt
          go_upto_region 6 with fail
          have c4 := H2.out.blk.cell 4 rfl
          rw [← HM.out, HCA.out] at c4
          have nl := H2.out.lt
          have k16 : k < 16 := by have := HKM.out; have := HM16.out; omega
          have ki : (k : Int) < 16 := by omega
          have km : (k : Int) < (m : Int) := by have := HKM.out; omega
          have cp := pgP H2.out k16
          rw [← HPN0.out] at cp
          have e0 := (HA2.out.cell HAB.out).trans HD0.out
          have e1 := (HA2.out.cell (p := ⟨_, _, none⟩) HAB.out).trans HD1.out
          have eb := Nat.lt_of_lt_of_le HAB.out HA2.out.size
          have P113 : ∀ x : Past w2, Calls Try.prog 41 #[.agg #[.int .u64 ct.pt, .slice ct.A ct.ps.length ct.cap], .int .i64 k, .int .i64 pn] x.w fun e w' => e = .returned (.tuple #[.int .u64 pv, .int .i64 pe]) ∧ Below x.w.heap.size x.w w' := fun x => by
            have := Proof_c ct.pt ct.A ct.ps ct.cap k pn x.w HDA.out.2.1 HDA.out.2.2 HPS.out (HDA.out.1.below (HA2.out.trans (x.far.mono HA2.out.size)))
            rwa [← HPV.out, ← HPE.out] at this
          refine wp_region_past (by kernel_rfl) (by kernel_rfl) ?_
          repeat (go_big_quiet_step ((go_at_call 41; exact past_below (P113 _))))
          refine wpQuiet_nil ?_
          intro xx
          have H3 := Lib.hid (H2.out.below xx.far)
          have HX3 := Lib.hid (HX2.out.below xx.far HX2.out.lt)
          have HA3 := Lib.hid (HA2.out.trans (xx.far.mono HA2.out.size))
          have HB3 := Lib.hid (Nat.le_trans HB2.out xx.far.size)
          have HS3 := Lib.hid (NetTo.same HW.out HA3.out)
          generalize xx.w = w3 at H3 HX3 HA3 HB3 HS3 ⊢
          clear H2 HX2 HA2 HB2 HS2 c4 nl x1 xl cp e0 e1 eb P113
          go_wp2_with fail
          have HS0 := HS3
          exact bodyPost_ret (v := .int .i64 pe) (by simp [results, Try.results21, go_sem]) rfl ⟨by rw [HE.out], by rw [plugF_no HE.out (by first | decide | exact HPN.out)]; exact HS0.out⟩
      · have b0 : (b == 0) = false := by simpa using hb0
        have b1 : (b != 0) = true := by simpa using hb0
        by_cases hb1 : b = 1
        · have b2 : (b == 1) = true := by simpa using hb1
          have b3 : (b != 1) = false := by simpa using hb1
          have HBV := Lib.hid hb1
          clear hb0 hb1 b2
          obtain ⟨k, hk⟩ : ∃ k : Nat, a = k := ⟨a.toNat, by omega⟩
          have hkm : k < m := by omega
          have hct := ct_at HW.out.cn k
          obtain ⟨ad, hca, hab, d0, d1, hdat⟩ := HW.out.de.2 k (by have := HM.out; omega)
          obtain ⟨ct, hc⟩ : ∃ ct, ct = M.ct.getD k default := ⟨_, rfl⟩
          obtain ⟨pn, hpn⟩ : ∃ pn, pn = S.pg.getD k 0 := ⟨_, rfl⟩
          have hpE : prfE D k pn = Pf.prE ct.pt ct.ps k pn := by unfold prfE; rw [Int.toNat_natCast, hct.1, hct.2, hc]
          have hpV : prfV D k pn = Pf.prV ct.pt ct.ps k pn := by unfold prfV; rw [Int.toNat_natCast, hct.1, hct.2, hc]
          have HPS : Hid (∀ q ∈ ct.ps, 0 ≤ q) := by
            refine Lib.hid ?_
            have hm1 : (D.cn.getD k default) ∈ D.cn := by
              rw [List.getD_eq_getElem?_getD, List.getElem?_eq_getElem (by have := HMD.out; omega)]
              exact List.getElem_mem _
            have := HD.out _ hm1
            rw [hct.2, ← hc] at this
            exact this
          subst hk
          have HC := Lib.hid hc
          have HKM := Lib.hid hkm
          have HCA := Lib.hid hca
          have HAB := Lib.hid (show (ad.add (k * 2)).block < w.heap.size by rw [block_of_add]; exact hab)
          rw [← hc] at d0 d1 hdat
          have HD0 := Lib.hid d0
          have HD1 := Lib.hid d1
          have HDA := Lib.hid hdat
          obtain ⟨pv, hpv⟩ : ∃ pv, pv = Pf.prV ct.pt ct.ps k pn := ⟨_, rfl⟩
          obtain ⟨pe, hpe⟩ : ∃ pe, pe = Pf.prE ct.pt ct.ps k pn := ⟨_, rfl⟩
          have hpb : 0 ≤ pv ∧ pv ≤ 2147483646 := by rw [hpv]; exact Pf.prV_bd _ _ _ _
          have HPB := Lib.hid hpb
          have HPV := Lib.hid hpv
          have HPE := Lib.hid hpe
          have HPN0 := Lib.hid hpn
          have HVD := Lib.hid (show prfV D k pn = pv by rw [hpV, hpv])
          have hE0 : plugE D S k b = if pe ≠ 0 then pe else if 16 < max (Nw.ln S 0).L.length (Nw.ln S 1).L.length then 11 else 0 := by
            unfold plugE
            rw [HI.out, HMD.out, HIB.out, Int.toNat_natCast, ← hpn, hpE, ← hpe]
            simp [HBV.out]
            try omega
          clear hin hct hca hab d0 d1 hdat hc hpE hpV hpv hpe hkm hpn hpb
          by_cases h0 : pe = 0
          · subst h0
            rw [if_neg (by simp)] at hE0
            obtain ⟨l0, hl0⟩ : ∃ l0, l0 = (Nw.ln S 0).L.length := ⟨_, rfl⟩
            obtain ⟨l1, hl1⟩ : ∃ l1, l1 = (Nw.ln S 1).L.length := ⟨_, rfl⟩
            rw [← hl0, ← hl1] at hE0
            have HL0 := Lib.hid hl0
            have HL1 := Lib.hid hl1
            obtain ⟨mx, hmx⟩ : ∃ mx, mx = max l0 l1 := ⟨_, rfl⟩
            rw [← hmx] at hE0
            have hmi : max (l0 : Int) (l1 : Int) = (mx : Int) := by rw [hmx]; omega
            have hmi3 : (if l0 < l1 then (l1 : Int) else (l0 : Int)) = (mx : Int) := by rw [hmx]; split <;> omega
            clear hl0 hl1 hmx
            by_cases hfull : 16 < mx
            · have HE := Lib.hid (show plugE D S k b = 11 by rw [hE0, if_pos hfull])
              have hfi : decide ((16 : Int) < (mx : Int)) = true := decide_eq_true (by omega)
              clear hE0 hfull
              go_enter Try.func21, Try.ntmps21
              go_upto_region 1 with fail
              have HSZ := Lib.hid HA.out.size
              generalize w.alloc (.cells #[.int .i64 1, .int .i64 k, .int .i64 b, .int .i64 c] 35) = w1 at *
              obtain ⟨gx, hgx⟩ : ∃ gx, gx = w.heap.size := ⟨_, rfl⟩
              rw [← hgx] at HX ⊢
              have HGX := Lib.hid hgx
              clear hgx
              have c34 := H1.out.blk.cell 34 rfl
              rw [HI.out] at c34
              have x1 := HX.out.cell 1 rfl
              have x2 := HX.out.cell 2 rfl
              have xl := HX.out.lt
              have nl := H1.out.lt
              go_upto_region 3 with fail
              clear c34
              have c4 := H1.out.blk.cell 4 rfl
              rw [← HM.out] at c4
              refine wp_region_past (by kernel_rfl) (by kernel_rfl) ?_
              repeat (go_big_quiet_step ((go_at_call 23; exact past_same (P48 _))))
              refine wpQuiet_nil ?_
              intro xx
              have H2 := Lib.hid (H1.out.below xx.far)
              have HX2 := Lib.hid (HX.out.below xx.far HX.out.lt)
              have HA2 := Lib.hid (HA.out.trans (xx.far.mono HA.out.size))
              have HB2 := Lib.hid (Nat.le_trans HB1.out xx.far.size)
              have HS2 := Lib.hid (NetTo.same HW.out HA2.out)
              generalize xx.w = w2 at H2 HX2 HA2 HB2 HS2 ⊢
              clear H1 HX HA HB1 HS0 c4 nl x1 x2 xl P48
              have x1 := HX2.out.cell 1 rfl
              have xl := HX2.out.lt
              go_upto_region 6 with fail
              have c4 := H2.out.blk.cell 4 rfl
              rw [← HM.out, HCA.out] at c4
              have nl := H2.out.lt
              have k16 : k < 16 := by have := HKM.out; have := HM16.out; omega
              have ki : (k : Int) < 16 := by omega
              have km : (k : Int) < (m : Int) := by have := HKM.out; omega
              have cp := pgP H2.out k16
              rw [← HPN0.out] at cp
              have e0 := (HA2.out.cell HAB.out).trans HD0.out
              have e1 := (HA2.out.cell (p := ⟨_, _, none⟩) HAB.out).trans HD1.out
              have eb := Nat.lt_of_lt_of_le HAB.out HA2.out.size
              have P113 : ∀ x : Past w2, Calls Try.prog 41 #[.agg #[.int .u64 ct.pt, .slice ct.A ct.ps.length ct.cap], .int .i64 k, .int .i64 pn] x.w fun e w' => e = .returned (.tuple #[.int .u64 pv, .int .i64 0]) ∧ Below x.w.heap.size x.w w' := fun x => by
                have := Proof_c ct.pt ct.A ct.ps ct.cap k pn x.w HDA.out.2.1 HDA.out.2.2 HPS.out (HDA.out.1.below (HA2.out.trans (x.far.mono HA2.out.size)))
                rwa [← HPV.out, ← HPE.out] at this
              refine wp_region_past (by kernel_rfl) (by kernel_rfl) ?_
              repeat (go_big_quiet_step ((go_at_call 41; exact past_below (P113 _))))
              refine wpQuiet_nil ?_
              intro xx
              have H3 := Lib.hid (H2.out.below xx.far)
              have HX3 := Lib.hid (HX2.out.below xx.far HX2.out.lt)
              have HA3 := Lib.hid (HA2.out.trans (xx.far.mono HA2.out.size))
              have HB3 := Lib.hid (Nat.le_trans HB2.out xx.far.size)
              have HS3 := Lib.hid (NetTo.same HW.out HA3.out)
              generalize xx.w = w3 at H3 HX3 HA3 HB3 HS3 ⊢
              clear H2 HX2 HA2 HB2 HS2 c4 nl x1 xl cp e0 e1 eb P113
              go_upto_region 9 with fail
              have c11 := lineP H3.out (show 0 < 6 by omega)
              have c12 := lineP H3.out (show 1 < 6 by omega)
              have nl := H3.out.lt
              have HN0 := Lib.hid (H3.out.ln 0 (by omega))
              have HN1 := Lib.hid (H3.out.ln 1 (by omega))
              have P10 : ∀ x : Past w3, Calls Try.prog 32 #[.pointer (some ⟨M.g 0, 0, none⟩)] x.w fun e w' => e = .returned (.int .i64 l0) ∧ x.w = w' := fun x => by
                have := WaitingL_c _ _ _ _ _ _ ((H3.out.below x.far).ln 0 (by omega))
                rwa [← HL0.out] at this
              have P11 : ∀ x : Past w3, Calls Try.prog 32 #[.pointer (some ⟨M.g 1, 0, none⟩)] x.w fun e w' => e = .returned (.int .i64 l1) ∧ x.w = w' := fun x => by
                have := WaitingL_c _ _ _ _ _ _ ((H3.out.below x.far).ln 1 (by omega))
                rwa [← HL1.out] at this
              refine wp_region_past (by kernel_rfl) (by kernel_rfl) ?_
              repeat (go_big_quiet_step ((go_at_call 32; first | with_reducible exact past_same (P10 _) | with_reducible exact past_same (P11 _))))
              refine wpQuiet_nil ?_
              intro xx
              have H4 := Lib.hid (H3.out.below xx.far)
              have HX4 := Lib.hid (HX3.out.below xx.far HX3.out.lt)
              have HA4 := Lib.hid (HA3.out.trans (xx.far.mono HA3.out.size))
              have HB4 := Lib.hid (Nat.le_trans HB3.out xx.far.size)
              have HS4 := Lib.hid (NetTo.same HW.out HA4.out)
              generalize xx.w = w4 at H4 HX4 HA4 HB4 HS4 ⊢
              clear H3 HX3 HA3 HB3 HS3 c11 c12 nl HN0 HN1 P10 P11
              (try simp only [hmi3, hfi])
              clear hmi hmi3 hfi
              go_wp2_with fail
              have HS0 := HS4
              exact bodyPost_ret (v := .int .i64 11) (by simp [results, Try.results21, go_sem]) rfl ⟨by rw [HE.out], by rw [plugF_no HE.out (by first | decide | exact HPN.out)]; exact HS0.out⟩
            · have HE := Lib.hid (show plugE D S k b = 0 by rw [hE0, if_neg hfull])
              have hfi : decide ((16 : Int) < (mx : Int)) = false := decide_eq_false (by omega)
              clear hE0 hfull
              go_enter Try.func21, Try.ntmps21
              go_upto_region 1 with fail
              have HSZ := Lib.hid HA.out.size
              generalize w.alloc (.cells #[.int .i64 1, .int .i64 k, .int .i64 b, .int .i64 c] 35) = w1 at *
              obtain ⟨gx, hgx⟩ : ∃ gx, gx = w.heap.size := ⟨_, rfl⟩
              rw [← hgx] at HX ⊢
              have HGX := Lib.hid hgx
              clear hgx
              have c34 := H1.out.blk.cell 34 rfl
              rw [HI.out] at c34
              have x1 := HX.out.cell 1 rfl
              have x2 := HX.out.cell 2 rfl
              have xl := HX.out.lt
              have nl := H1.out.lt
              go_upto_region 3 with fail
              clear c34
              have c4 := H1.out.blk.cell 4 rfl
              rw [← HM.out] at c4
              refine wp_region_past (by kernel_rfl) (by kernel_rfl) ?_
              repeat (go_big_quiet_step ((go_at_call 23; exact past_same (P48 _))))
              refine wpQuiet_nil ?_
              intro xx
              have H2 := Lib.hid (H1.out.below xx.far)
              have HX2 := Lib.hid (HX.out.below xx.far HX.out.lt)
              have HA2 := Lib.hid (HA.out.trans (xx.far.mono HA.out.size))
              have HB2 := Lib.hid (Nat.le_trans HB1.out xx.far.size)
              have HS2 := Lib.hid (NetTo.same HW.out HA2.out)
              generalize xx.w = w2 at H2 HX2 HA2 HB2 HS2 ⊢
              clear H1 HX HA HB1 HS0 c4 nl x1 x2 xl P48
              have x1 := HX2.out.cell 1 rfl
              have xl := HX2.out.lt
              go_upto_region 6 with fail
              have c4 := H2.out.blk.cell 4 rfl
              rw [← HM.out, HCA.out] at c4
              have nl := H2.out.lt
              have k16 : k < 16 := by have := HKM.out; have := HM16.out; omega
              have ki : (k : Int) < 16 := by omega
              have km : (k : Int) < (m : Int) := by have := HKM.out; omega
              have cp := pgP H2.out k16
              rw [← HPN0.out] at cp
              have e0 := (HA2.out.cell HAB.out).trans HD0.out
              have e1 := (HA2.out.cell (p := ⟨_, _, none⟩) HAB.out).trans HD1.out
              have eb := Nat.lt_of_lt_of_le HAB.out HA2.out.size
              have P113 : ∀ x : Past w2, Calls Try.prog 41 #[.agg #[.int .u64 ct.pt, .slice ct.A ct.ps.length ct.cap], .int .i64 k, .int .i64 pn] x.w fun e w' => e = .returned (.tuple #[.int .u64 pv, .int .i64 0]) ∧ Below x.w.heap.size x.w w' := fun x => by
                have := Proof_c ct.pt ct.A ct.ps ct.cap k pn x.w HDA.out.2.1 HDA.out.2.2 HPS.out (HDA.out.1.below (HA2.out.trans (x.far.mono HA2.out.size)))
                rwa [← HPV.out, ← HPE.out] at this
              refine wp_region_past (by kernel_rfl) (by kernel_rfl) ?_
              repeat (go_big_quiet_step ((go_at_call 41; exact past_below (P113 _))))
              refine wpQuiet_nil ?_
              intro xx
              have H3 := Lib.hid (H2.out.below xx.far)
              have HX3 := Lib.hid (HX2.out.below xx.far HX2.out.lt)
              have HA3 := Lib.hid (HA2.out.trans (xx.far.mono HA2.out.size))
              have HB3 := Lib.hid (Nat.le_trans HB2.out xx.far.size)
              have HS3 := Lib.hid (NetTo.same HW.out HA3.out)
              generalize xx.w = w3 at H3 HX3 HA3 HB3 HS3 ⊢
              clear H2 HX2 HA2 HB2 HS2 c4 nl x1 xl cp e0 e1 eb P113
              go_upto_region 9 with fail
              have c11 := lineP H3.out (show 0 < 6 by omega)
              have c12 := lineP H3.out (show 1 < 6 by omega)
              have nl := H3.out.lt
              have HN0 := Lib.hid (H3.out.ln 0 (by omega))
              have HN1 := Lib.hid (H3.out.ln 1 (by omega))
              have P10 : ∀ x : Past w3, Calls Try.prog 32 #[.pointer (some ⟨M.g 0, 0, none⟩)] x.w fun e w' => e = .returned (.int .i64 l0) ∧ x.w = w' := fun x => by
                have := WaitingL_c _ _ _ _ _ _ ((H3.out.below x.far).ln 0 (by omega))
                rwa [← HL0.out] at this
              have P11 : ∀ x : Past w3, Calls Try.prog 32 #[.pointer (some ⟨M.g 1, 0, none⟩)] x.w fun e w' => e = .returned (.int .i64 l1) ∧ x.w = w' := fun x => by
                have := WaitingL_c _ _ _ _ _ _ ((H3.out.below x.far).ln 1 (by omega))
                rwa [← HL1.out] at this
              refine wp_region_past (by kernel_rfl) (by kernel_rfl) ?_
              repeat (go_big_quiet_step ((go_at_call 32; first | with_reducible exact past_same (P10 _) | with_reducible exact past_same (P11 _))))
              refine wpQuiet_nil ?_
              intro xx
              have H4 := Lib.hid (H3.out.below xx.far)
              have HX4 := Lib.hid (HX3.out.below xx.far HX3.out.lt)
              have HA4 := Lib.hid (HA3.out.trans (xx.far.mono HA3.out.size))
              have HB4 := Lib.hid (Nat.le_trans HB3.out xx.far.size)
              have HS4 := Lib.hid (NetTo.same HW.out HA4.out)
              generalize xx.w = w4 at H4 HX4 HA4 HB4 HS4 ⊢
              clear H3 HX3 HA3 HB3 HS3 c11 c12 nl HN0 HN1 P10 P11
              (try simp only [hmi3, hfi])
              clear hmi hmi3 hfi
              have k16 : k < 16 := by have := HKM.out; have := HM16.out; omega
              have ki : (k : Int) < 16 := by omega
              have cp := pgP H4.out k16
              rw [← HPN0.out] at cp
              have fp := pgF H4.out k16
              have nl := H4.out.lt
              go_upto_region 12 with fail
              refine wp_region_priv 10 [.q, .q, .q, .q, .q, .q, .q, .q, .q, .q] (fun _ => (.cells #[] 35, fun b => .pointer none)) ?afp_5 (by kernel_rfl) (by kernel_rfl) ?walk12_5 ?tail12_5
              case walk12_5 =>
                intro V hV
                have cp := (hV.cell (p := ⟨n, 18 + k, none⟩) nl).trans cp
                have nl := Nat.lt_of_lt_of_le nl hV.size
                clear hV
                simp only [List.take_succ_cons, List.take_zero]
                repeat (refine wpP_q ?_; go_big_quiet_step (fail); refine wpQuiet_nil ?_)
                refine wpP_nil ?_
                rfl
              case tail12_5 =>
                intro gs w5 hb5 _ _
                have H5 := Lib.hid (H4.out.below hb5)
                have HX5 := Lib.hid (HX4.out.below hb5 HX4.out.lt)
                have HA5 := Lib.hid (HA4.out.trans (hb5.mono HA4.out.size))
                have HB5 := Lib.hid (Nat.le_trans HB4.out hb5.size)
                clear hb5 cp fp nl H4 HX4 HA4 HB4 HS4
                simp only [List.drop_succ_cons, List.drop_zero, List.take_succ_cons, List.take_zero, fillP]
                have cp := pgP H5.out k16
                rw [← HPN0.out] at cp
                have fp := pgF H5.out k16
                have nl := H5.out.lt
                go_upto_region 13 with fail
                have hT6 : Touch (fun k => k = n) w5 (w5.setCell ⟨n, 18 + k, none⟩ (.int .i64 (wrap64 (pn + 1)))) := (Touch.refl _ _).put (18 + k) _
                have HT6 := Lib.hid hT6
                have HPL := Lib.hid H5.out.pg
                have hgn : gx ≠ n := by have := HGX.out; have := HW.out.lt; omega
                have HGN := Lib.hid hgn
                have H6 := Lib.hid (show NetAt (w5.setCell ⟨n, 18 + k, none⟩ (.int .i64 (wrap64 (pn + 1)))) B n col base D M ({ S with pg := S.pg.set k (wrap64 (pn + 1)) }) from H5.out.stored (S' := { S with pg := S.pg.set k (wrap64 (pn + 1)) }) hT6 (by
                  have := (H5.out.blk).setCell (18 + k) (.int .i64 (wrap64 (pn + 1)))
                  rwa [pgS HPL.out k16] at this) rfl rfl (List.length_set) rfl rfl rfl rfl rfl rfl rfl rfl rfl rfl rfl)
                have HX6 := Lib.hid (HX5.out.touch hT6 hgn)
                have HB6 := Lib.hid (Nat.le_trans HB5.out hT6.size)
                clear hT6 cp fp nl H5 HX5 HB5 hgn
                generalize w5.setCell ⟨n, 18 + k, none⟩ (.int .i64 (wrap64 (pn + 1))) = w6 at H6 HX6 HB6 HT6 ⊢
                obtain ⟨S1, hS1⟩ : ∃ S1 : St, S1 = { S with pg := S.pg.set k (wrap64 (pn + 1)) } := ⟨_, rfl⟩
                rw [← hS1] at H6
                have HS1 := Lib.hid hS1
                have HI1 := Lib.hid (show S1.inn = false by rw [hS1]; exact HI.out)
                clear hS1
                have c34 := H6.out.blk.cell 34 rfl
                rw [HI1.out] at c34
                have f34 := H6.out.blk.free 34
                have nl := H6.out.lt
                go_upto_region 14 with fail
                have hT7 : Touch (fun k => k = n) w6 (w6.setCell ⟨n, 34, none⟩ (.bool true)) := (Touch.refl _ _).put 34 _
                have HT7 := Lib.hid (HT6.out.trans hT7)
                have HBn := Lib.hid ((H6.out.blk).setCell 34 (.bool true))
                have HX7 := Lib.hid (HX6.out.touch hT7 HGN.out)
                have HT67 := Lib.hid hT7
                have HB7 := Lib.hid (Nat.le_trans HB6.out hT7.size)
                clear hT7 c34 f34 nl HX6 HB6 HT6
                generalize w6.setCell ⟨n, 34, none⟩ (.bool true) = w7 at HBn HX7 HT7 HT67 HB7 ⊢
                refine wp_region_spine 9 [true] [] ?af14_5 (fun V => (∃ x, Blk V n 81 (((netC M D S1).set 34 (.bool true)).set 37 (.int .i64 x))) ∧ Blk V gx 35 [.int .i64 1, .int .i64 k, .int .i64 b, .int .i64 c] ∧ Touch (fun k => k = n) w7 V) (by kernel_rfl) (by kernel_rfl) ⟨⟨S1.vph, HBn.out.drew⟩, HX7.out.drew, (Touch.refl _ _).drew⟩ ?walk14_5 ?spine14_5
                case walk14_5 =>
                  rintro V ⟨⟨x, h0⟩, h1, _⟩
                  have x1 := h1.cell 1 rfl
                  have xl := h1.lt
                  have nl := h0.lt
                  clear h0 h1
                  simp only [List.take_succ_cons, List.take_zero]
                  repeat (go_big_quiet_step (fail))
                  refine wpQuiet_nil ?_
                  rfl
                case spine14_5 =>
                  rintro V ⟨⟨x, h0⟩, h1, h2⟩
                  have H0 := Lib.hid h0
                  have HX8 := Lib.hid h1
                  have HT8 := Lib.hid h2
                  have f37 := h0.free 37
                  have c37 := h0.cell 37 rfl
                  have nl := h0.lt
                  clear h0 h1 h2
                  refine spineV_cons ?_
                  unfold StepV
                  go_simp
                  have hT9 : Touch (fun k => k = n) V (V.setCell ⟨n, 37, none⟩ (.int .i64 1)) := (Touch.refl _ _).put 37 _
                  have HB9 := Lib.hid (show Blk (V.setCell ⟨n, 37, none⟩ (.int .i64 1)) n 81 (((netC M D S1).set 34 (.bool true)).set 37 (.int .i64 1)) from by
                    have := H0.out.setCell 37 (.int .i64 1)
                    rwa [List.set_set] at this)
                  have HX9 := Lib.hid (HX8.out.touch hT9 HGN.out)
                  have HT9 := Lib.hid (HT8.out.trans hT9)
                  refine ⟨⟨⟨1, HB9.out⟩, HX9.out, HT9.out⟩, ?_⟩
                  clear hT9 H0 HX8 HT8 f37 c37 nl
                  generalize V.setCell ⟨n, 37, none⟩ (.int .i64 1) = w9 at HB9 HX9 HT9 ⊢
                  refine spineV_nil ?_
                  (try simp only [Act.put, List.setIfInBounds_toArray, List.set_cons_zero, List.set_cons_succ])
                  (try simp only [List.drop_succ_cons, List.drop_zero, List.length_cons, List.length_nil])
                  have nl := HB9.out.lt
                  have f38 := HB9.out.free 38
                  have f39 := HB9.out.free 39
                  have c38 := HB9.out.cell 38 rfl
                  have c39 := HB9.out.cell 39 rfl
                  go_upto_region 15 with fail
                  have hT10 : Touch (fun k => k = n) w9 ((w9.setCell ⟨n, 38, none⟩ (.int .i64 k)).setCell ⟨n, 39, none⟩ (.int .i64 pn)) := ((Touch.refl _ _).put 38 _).put 39 _
                  have H10 := Lib.hid (show NetAt ((w9.setCell ⟨n, 38, none⟩ (.int .i64 k)).setCell ⟨n, 39, none⟩ (.int .i64 pn)) B n col base D M ({ S1 with inn := true, vph := 1, vp0 := k, vp1 := pn }) from
                    H6.out.stored (S' := { S1 with inn := true, vph := 1, vp0 := k, vp1 := pn }) ((HT67.out.trans HT9.out).trans hT10) (((HB9.out).setCell 38 (.int .i64 k)).setCell 39 (.int .i64 pn)) rfl rfl rfl rfl rfl rfl rfl rfl rfl rfl rfl rfl rfl rfl)
                  have HX10 := Lib.hid (HX9.out.touch hT10 HGN.out)
                  have HT10 := Lib.hid ((HT7.out.trans HT9.out).trans hT10)
                  have HB10 := Lib.hid (Nat.le_trans HB7.out (Nat.le_trans HT9.out.size hT10.size))
                  clear hT10 nl f38 f39 c38 c39 HB9 HX9 HT9
                  generalize (w9.setCell ⟨n, 38, none⟩ (.int .i64 k)).setCell ⟨n, 39, none⟩ (.int .i64 pn) = w10 at H10 HX10 HT10 HB10 ⊢
                  have hpb := HPB.out
                  have hbv := HBV.out
                  have hpw : IntKind.i64.wrap pv = pv := IntWalk.i64_in _ (by omega)
                  have hpw2 : wrap64 pv = pv := by rw [← IntWalk.i64_left]; exact hpw
                  have hs : IntKind.i64.wrap (pv + b) = pv + b := IntWalk.i64_in _ (by omega)
                  have hs2 : wrap64 (pv + b) = pv + b := by rw [← IntWalk.i64_left]; exact hs
                  have hs0 : 0 ≤ pv + b := by omega
                  have x1 := HX10.out.cell 1 rfl
                  have x2 := HX10.out.cell 2 rfl
                  have xl := HX10.out.lt
                  clear hpb hbv
                  go_wp2_with (go_at_call 28; refine (tell_c H10.out HB10.out 0 (by omega) ⟨1, 0, k, (pv + b) % 2147483647, pn⟩).mono ?_; rintro e w11 ⟨rfl, hn⟩; have HN := Lib.hid hn; clear hn)
                  exact bodyPost_ret (v := .int .i64 0) (by simp [results, Try.results21, go_sem]) rfl ⟨by rw [HE.out], by
                    have e : plugF D S k b = tell { S1 with inn := true, vph := 1, vp0 := k, vp1 := pn } 0 ⟨1, 0, k, (pv + b) % 2147483647, pn⟩ := by
                      unfold plugF
                      rw [if_pos HE.out]
                      unfold plugS
                      rw [Int.toNat_natCast, ← HPN0.out, HVD.out, HS1.out]
                    rw [e]
                    exact NetTo.before (Touch.of_below HA5.out) (NetTo.before (HT10.out.mono (fun k e => by subst e; have := HW.out.c0; unfold NetOwn; omega)) HN.out)⟩
          · have HPN := Lib.hid h0
            have HE := Lib.hid (show plugE D S k b = pe by rw [hE0, if_pos h0])
            have h0b : (pe == 0) = false := by simpa using h0
            have h0n : (pe != 0) = true := by simpa using h0
            have h0d : decide (pe = 0) = false := decide_eq_false h0
            clear hE0 h0
            go_enter Try.func21, Try.ntmps21
            go_upto_region 1 with fail
            have HSZ := Lib.hid HA.out.size
            generalize w.alloc (.cells #[.int .i64 1, .int .i64 k, .int .i64 b, .int .i64 c] 35) = w1 at *
            obtain ⟨gx, hgx⟩ : ∃ gx, gx = w.heap.size := ⟨_, rfl⟩
            rw [← hgx] at HX ⊢
            have HGX := Lib.hid hgx
            clear hgx
            have c34 := H1.out.blk.cell 34 rfl
            rw [HI.out] at c34
            have x1 := HX.out.cell 1 rfl
            have x2 := HX.out.cell 2 rfl
            have xl := HX.out.lt
            have nl := H1.out.lt
            go_upto_region 3 with fail
            clear c34
            have c4 := H1.out.blk.cell 4 rfl
            rw [← HM.out] at c4
            refine wp_region_past (by kernel_rfl) (by kernel_rfl) ?_
            repeat (go_big_quiet_step ((go_at_call 23; exact past_same (P48 _))))
            refine wpQuiet_nil ?_
            intro xx
            have H2 := Lib.hid (H1.out.below xx.far)
            have HX2 := Lib.hid (HX.out.below xx.far HX.out.lt)
            have HA2 := Lib.hid (HA.out.trans (xx.far.mono HA.out.size))
            have HB2 := Lib.hid (Nat.le_trans HB1.out xx.far.size)
            have HS2 := Lib.hid (NetTo.same HW.out HA2.out)
            generalize xx.w = w2 at H2 HX2 HA2 HB2 HS2 ⊢
            clear H1 HX HA HB1 HS0 c4 nl x1 x2 xl P48
            have x1 := HX2.out.cell 1 rfl
            have xl := HX2.out.lt
            go_upto_region 6 with fail
            have c4 := H2.out.blk.cell 4 rfl
            rw [← HM.out, HCA.out] at c4
            have nl := H2.out.lt
            have k16 : k < 16 := by have := HKM.out; have := HM16.out; omega
            have ki : (k : Int) < 16 := by omega
            have km : (k : Int) < (m : Int) := by have := HKM.out; omega
            have cp := pgP H2.out k16
            rw [← HPN0.out] at cp
            have e0 := (HA2.out.cell HAB.out).trans HD0.out
            have e1 := (HA2.out.cell (p := ⟨_, _, none⟩) HAB.out).trans HD1.out
            have eb := Nat.lt_of_lt_of_le HAB.out HA2.out.size
            have P113 : ∀ x : Past w2, Calls Try.prog 41 #[.agg #[.int .u64 ct.pt, .slice ct.A ct.ps.length ct.cap], .int .i64 k, .int .i64 pn] x.w fun e w' => e = .returned (.tuple #[.int .u64 pv, .int .i64 pe]) ∧ Below x.w.heap.size x.w w' := fun x => by
              have := Proof_c ct.pt ct.A ct.ps ct.cap k pn x.w HDA.out.2.1 HDA.out.2.2 HPS.out (HDA.out.1.below (HA2.out.trans (x.far.mono HA2.out.size)))
              rwa [← HPV.out, ← HPE.out] at this
            refine wp_region_past (by kernel_rfl) (by kernel_rfl) ?_
            repeat (go_big_quiet_step ((go_at_call 41; exact past_below (P113 _))))
            refine wpQuiet_nil ?_
            intro xx
            have H3 := Lib.hid (H2.out.below xx.far)
            have HX3 := Lib.hid (HX2.out.below xx.far HX2.out.lt)
            have HA3 := Lib.hid (HA2.out.trans (xx.far.mono HA2.out.size))
            have HB3 := Lib.hid (Nat.le_trans HB2.out xx.far.size)
            have HS3 := Lib.hid (NetTo.same HW.out HA3.out)
            generalize xx.w = w3 at H3 HX3 HA3 HB3 HS3 ⊢
            clear H2 HX2 HA2 HB2 HS2 c4 nl x1 xl cp e0 e1 eb P113
            go_wp2_with fail
            have HS0 := HS3
            exact bodyPost_ret (v := .int .i64 pe) (by simp [results, Try.results21, go_sem]) rfl ⟨by rw [HE.out], by rw [plugF_no HE.out (by first | decide | exact HPN.out)]; exact HS0.out⟩
        · have b2 : (b == 1) = false := by simpa using hb1
          have b3 : (b != 1) = true := by simpa using hb1
          have HE := Lib.hid (show plugE D S a b = 3 by unfold plugE; rw [HI.out]; simp [hb0, hb1])
          clear hin hb0 hb1
          go_enter Try.func21, Try.ntmps21
          go_upto_region 1 with fail
          have HSZ := Lib.hid HA.out.size
          generalize w.alloc (.cells #[.int .i64 1, .int .i64 a, .int .i64 b, .int .i64 c] 35) = w1 at *
          obtain ⟨gx, hgx⟩ : ∃ gx, gx = w.heap.size := ⟨_, rfl⟩
          rw [← hgx] at HX ⊢
          have HGX := Lib.hid hgx
          clear hgx
          have c34 := H1.out.blk.cell 34 rfl
          rw [HI.out] at c34
          have x1 := HX.out.cell 1 rfl
          have x2 := HX.out.cell 2 rfl
          have xl := HX.out.lt
          have nl := H1.out.lt
          go_upto_region 3 with fail
          clear c34
          have c4 := H1.out.blk.cell 4 rfl
          rw [← HM.out] at c4
          refine wp_region_past (by kernel_rfl) (by kernel_rfl) ?_
          repeat (go_big_quiet_step ((go_at_call 23; exact past_same (P48 _))))
          refine wpQuiet_nil ?_
          intro xx
          have H2 := Lib.hid (H1.out.below xx.far)
          have HX2 := Lib.hid (HX.out.below xx.far HX.out.lt)
          have HA2 := Lib.hid (HA.out.trans (xx.far.mono HA.out.size))
          have HB2 := Lib.hid (Nat.le_trans HB1.out xx.far.size)
          have HS2 := Lib.hid (NetTo.same HW.out HA2.out)
          generalize xx.w = w2 at H2 HX2 HA2 HB2 HS2 ⊢
          clear H1 HX HA HB1 HS0 c4 nl x1 x2 xl P48
          go_wp2_with fail
          have HS0 := HS2
          exact bodyPost_ret (v := .int .i64 3) (by simp [results, Try.results21, go_sem]) rfl ⟨by rw [HE.out], by rw [plugF_no HE.out (by first | decide | exact HPN.out)]; exact HS0.out⟩
theorem doPlug_c {w : World} {B n base : Nat} {col : Nat → Nat} {D : Dl} {M : Mem} {S : St} (h : NetAt w B n col base D M S) (hB : B ≤ w.heap.size) (hD : ∀ c ∈ D.cn, ∀ q ∈ c.ps, 0 ≤ q) (hc16 : D.cn.length ≤ 16) (a b c : Int) :
    Calls Try.prog 21 #[.pointer (some ⟨n, 0, none⟩), .agg #[.int .i64 1, .int .i64 a, .int .i64 b, .int .i64 c]] w fun e w' => e = .returned (.int .i64 (plugE D S a b)) ∧ NetTo w B n col base D (plugF D S a b) w' :=
  (doPlug_0 h.recol hB (fun k hk => fresh_not hk) hD hc16 a b c).mono fun e w2 ⟨he, hn⟩ => ⟨he, hn.recol⟩
end Go.Proofs.Ytlklnaebdnahcaa
