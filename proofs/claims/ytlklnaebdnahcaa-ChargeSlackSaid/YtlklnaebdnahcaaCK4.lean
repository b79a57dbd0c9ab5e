/- Contracts that the claim leans on, part 4: V9 V10 V11 V12 R20 V13 V14 V15a V15 R21 V16 V17 V18 V19 R22 -/
import Derived.Test.YtlklnaebdnahcaaCK3
import Derived.Laws.OwnMore
import Derived.WalkSmall
import Derived.Orders
import Derived.ArgAppend
set_option linter.unusedVariables false
set_option linter.unusedSimpArgs false
set_option linter.unnecessarySimpa false
namespace Go.Proofs.Ytlklnaebdnahcaa
open Go.RowKit Nw
theorem NetAt.toPo {w w' : World} {B n base : Nat} {col : Nat → Nat} {D : Dl} {M : Mem} {S : St} (h : NetAt w B n col base D M S) {l' : Ls} (hl : PostAt w' M.po l') (ht : Touch (fun k => k = M.po) w w') : NetAt w' B n col base D M { S with po := l' } ∧ Touch (NetOwn col base) w w' := by
  have hT : ∀ k, k = M.po → col k = base + 11 := fun k e => by rw [e]; exact h.poc
  refine ⟨h.setPo (fun _ _ => rfl) hl (ht.mono (fun k e => .inr (hT k e))) (h.blk.touch ht (fun e => by have := hT n e; rw [h.c0] at this; omega)), ht.mono (fun k e => by have := hT k e; unfold NetOwn; omega)⟩
set_option maxRecDepth 100000 in
set_option maxHeartbeats 4000000 in
theorem closed_c {w : World} {B n base : Nat} {col : Nat → Nat} {D : Dl} {M : Mem} {S : St} (h : NetAt w B n col base D M S) (hB : B ≤ w.heap.size) (x : Nt) :
    Calls Try.prog 68 #[.pointer (some ⟨n, 0, none⟩), .agg #[.int .i64 x.k, .int .i64 x.s, .int .i64 x.a, .int .i64 x.b, .int .i64 x.c]] w fun e w' => e = .returned (.tuple #[]) ∧ NetTo w B n col base D (Nw.closed S x) w' := by
  have al := (Below.refl w.heap.size w).alloc (Nat.le_refl _) (.cells #[.int .i64 x.k, .int .i64 x.s, .int .i64 x.a, .int .i64 x.b, .int .i64 x.c] 91)
  have HX := Lib.hid (Blk.new' w #[.int .i64 x.k, .int .i64 x.s, .int .i64 x.a, .int .i64 x.b, .int .i64 x.c] 91)
  have H1 := Lib.hid (h.below al)
  have HA := Lib.hid al
  have HW := Lib.hid h
  have HBB := Lib.hid (Nat.le_trans hB al.size)
  clear h al hB
  have PC0 := Lib.hid (at_c H1.out 3 x)
  cases hm : Nw.atB S 3 x with
  | false =>
    have e0 : Nw.closed S x = S := by unfold Nw.closed; rw [hm]; rfl
    rw [e0]
    clear e0
    have PC := Lib.hid (PC0.out)
    rw [hm] at PC
    clear PC0
    go_enter Try.func68, Try.ntmps68
    go_upto_region 1 with fail
    generalize w.alloc (.cells #[.int .i64 x.k, .int .i64 x.s, .int .i64 x.a, .int .i64 x.b, .int .i64 x.c] 91) = w1 at *
    obtain ⟨gb, hgb⟩ : ∃ gb, gb = w.heap.size := ⟨_, rfl⟩
    rw [← hgb] at HX ⊢
    have HG := Lib.hid hgb
    clear hgb
    have r0 := HX.out
    have x0 := r0.cell 0 rfl
    have x1 := r0.cell 1 rfl
    have x2 := r0.cell 2 rfl
    have x3 := r0.cell 3 rfl
    have x4 := r0.cell 4 rfl
    have gl := r0.lt
    clear r0
    go_wp2_with (go_at_call 89; refine (PC.out).mono ?_; rintro e w2 ⟨rfl, hb2⟩; have HBB2 := Lib.hid hb2; clear hb2)
    have HE := Lib.hid (NetTo.same HW.out (HA.out.trans (HBB2.out.mono HA.out.size)))
    exact bodyPost_end (v := .tuple #[]) (by simp [results, Try.results68, go_sem]) rfl ⟨rfl, HE.out⟩
  | true =>
    have e0 : Nw.closed S x = Nw.tell { S with sb := mput x.s (billOf x) S.sb, sph := 0 } 1 x := by unfold Nw.closed; rw [hm]; rfl
    rw [e0]
    clear e0
    have PC := Lib.hid (PC0.out)
    rw [hm] at PC
    clear PC0
    go_enter Try.func68, Try.ntmps68
    go_upto_region 1 with fail
    generalize w.alloc (.cells #[.int .i64 x.k, .int .i64 x.s, .int .i64 x.a, .int .i64 x.b, .int .i64 x.c] 91) = w1 at *
    obtain ⟨gb, hgb⟩ : ∃ gb, gb = w.heap.size := ⟨_, rfl⟩
    rw [← hgb] at HX ⊢
    have HG := Lib.hid hgb
    clear hgb
    have r0 := HX.out
    have x0 := r0.cell 0 rfl
    have x1 := r0.cell 1 rfl
    have x2 := r0.cell 2 rfl
    have x3 := r0.cell 3 rfl
    have x4 := r0.cell 4 rfl
    have gl := r0.lt
    clear r0
    go_upto_region 2 with (go_at_call 89; refine (PC.out).mono ?_; rintro e w2 ⟨rfl, hb2⟩; have HBB2 := Lib.hid hb2; clear hb2)
    have HGL := Lib.hid (show n ≠ gb from by have := HW.out.lt; have := HG.out; omega)
    have H2 := Lib.hid (H1.out.below HBB2.out)
    have HX2 := Lib.hid (HX.out.below HBB2.out HX.out.lt)
    have HA2 := Lib.hid (HA.out.trans (HBB2.out.mono HA.out.size))
    have HB2 := Lib.hid (Nat.le_trans HBB.out HBB2.out.size)
    clear PC x0 x1 x2 x3 x4 gl HX H1 HA HBB HBB2
    have q0 : Blk _ n 81 (netC M D S) := (H2.out).blk
    have nl := q0.lt
    clear q0
    clear nl
    refine wp_region_then 5 _ ?af rfl (by kernel_rfl) (by kernel_rfl) ?walk ?tail
    case walk =>
      intro V hV
      have q0 : Blk _ n 81 (netC M D S) := (H2.out.below hV).blk
      have nl := q0.lt
      clear q0
      have r0 := HX2.out.below hV HX2.out.lt
      have x0 := r0.cell 0 rfl
      have x1 := r0.cell 1 rfl
      have x2 := r0.cell 2 rfl
      have x3 := r0.cell 3 rfl
      have x4 := r0.cell 4 rfl
      have gl := r0.lt
      clear r0
      clear hV
      simp only [List.take_succ_cons, List.take_zero]
      repeat (go_big_quiet_step (fail))
      refine wpQuiet_nil ?_
      rfl
    intro w8 hb8
    have H8 := Lib.hid (H2.out.below hb8)
    have HX8 := Lib.hid (HX2.out.below hb8 HX2.out.lt)
    have HT := Lib.hid (Touch.of_below (S := NetOwn col base) (HA2.out.trans (hb8.mono HA2.out.size)))
    have HB8 := Lib.hid (Nat.le_trans HB2.out hb8.size)
    have HGB := Lib.hid (show ¬ NetOwn col base gb ∨ w.heap.size ≤ gb from .inr (by rw [HG.out]; exact Nat.le_refl _))
    have HSZ := Lib.hid HA2.out.size
    clear hb8 H2 HX2
    go_simp
    have hnb : ∀ k, M.sb = some k → k ≠ n := fun k hk e => by have h1 := H8.out.sbc k hk; rw [e, H8.out.c0] at h1; omega
    have hgs : ∀ k, M.sb = some k → k ≠ gb := fun k hk e => by
      have h2 := HW.out.sb.lt hk
      have h3 := HG.out
      omega
    have HGS := Lib.hid hgs
    refine (enter_c (o := 42) H8.out.blk rfl H8.out.sb hnb x).mono ?_
    rintro e w9 ⟨rfl, b', hb9, hk9, ht9, hn9⟩
    have HX9 := Lib.hid (HX8.out.touch ht9 (fun e => by
      rcases e with e | e
      · exact HGL.out e.symm
      · exact HGS.out gb e rfl))
    obtain ⟨col1, M1, hc1, hN1, ht1⟩ := NetTo.before HT.out (H8.out.toSb hb9 hk9 ht9 hn9)
    have HC1 := Lib.hid hc1
    have HN1 := Lib.hid hN1
    have HT1 := Lib.hid ht1
    clear hb9 hk9 ht9 hn9 hnb hgs hc1 hN1 ht1 HX8 H8 HT
    dsimp only
    refine wpQuiet_nil ?_
    intro xx
    have H2 := Lib.hid (HN1.out.below xx.far)
    have HX2 := Lib.hid (HX9.out.below xx.far HX9.out.lt)
    have HT2 := Lib.hid (HT1.out.below xx.far)
    have HB2 := Lib.hid (Nat.le_trans (show B ≤ w9.heap.size from Nat.le_trans HN1.out.bB (Nat.le_of_lt HN1.out.lt)) xx.far.size)
    generalize xx.w = w2 at H2 HX2 HT2 HB2 ⊢
    clear HX9 HN1 HT1 HB8 HA2
    have q0 : Blk _ n 81 (netC M1 D { S with sb := mput x.s (billOf x) S.sb }) := H2.out.blk
    have c43 := q0.cell 43 rfl
    have f43 := q0.free 43
    have nl := q0.lt
    clear q0
    go_upto_region 4 with fail
    have H3 := Lib.hid (show NetAt _ B n col1 base D M1 ({ S with sb := mput x.s (billOf x) S.sb, sph := 0 }) from H2.out.stored (S' := { S with sb := mput x.s (billOf x) S.sb, sph := 0 }) ((Touch.refl _ _).put 43 (.int .i64 0)) ((H2.out.blk).setCell 43 (.int .i64 0)) rfl rfl rfl rfl rfl rfl rfl rfl rfl rfl rfl rfl rfl rfl)
    have HT3 := Lib.hid (HT2.out.then (S' := fun k => k = n) ((Touch.refl _ _).put 43 (.int .i64 0)) (fun k e => own_or HC1.out HT2.out.size H2.out e))
    have HX3 := Lib.hid (Blk.touch HX2.out (S := fun k => k = n) ((Touch.refl _ _).put 43 (.int .i64 0)) (fun e => HGL.out e.symm))
    have HB3 := Lib.hid (Nat.le_trans HB2.out (show Touch (fun k => k = n) w2 _ from (Touch.refl _ _).put 43 (.int .i64 0)).size)
    generalize w2.setCell ⟨n, 43, none⟩ (.int .i64 0) = w3 at H3 HT3 HX3 HB3 ⊢
    clear c43 f43 nl H2 HX2 HT2 HB2
    have r0 := HX3.out
    have x0 := r0.cell 0 rfl
    have x1 := r0.cell 1 rfl
    have x2 := r0.cell 2 rfl
    have x3 := r0.cell 3 rfl
    have x4 := r0.cell 4 rfl
    have gl := r0.lt
    clear r0
    go_wp2_with (go_at_call 28; refine (tell_c H3.out HB3.out 1 (by omega) x).mono ?_; rintro e w4 ⟨rfl, hn⟩; have HN := Lib.hid (NetTo.next HC1.out HT3.out hn); clear hn)
    exact bodyPost_end (v := .tuple #[]) (by simp [results, Try.results68, go_sem]) rfl ⟨rfl, HN.out⟩
set_option maxRecDepth 100000 in
set_option maxHeartbeats 4000000 in
theorem leased_c {w : World} {B n base : Nat} {col : Nat → Nat} {D : Dl} {M : Mem} {S : St} (h : NetAt w B n col base D M S) (hB : B ≤ w.heap.size) (x : Nt) :
    Calls Try.prog 69 #[.pointer (some ⟨n, 0, none⟩), .agg #[.int .i64 x.k, .int .i64 x.s, .int .i64 x.a, .int .i64 x.b, .int .i64 x.c]] w fun e w' => e = .returned (.tuple #[]) ∧ NetTo w B n col base D (Nw.leased S x) w' := by
  have al := (Below.refl w.heap.size w).alloc (Nat.le_refl _) (.cells #[.int .i64 x.k, .int .i64 x.s, .int .i64 x.a, .int .i64 x.b, .int .i64 x.c] 91)
  have HX := Lib.hid (Blk.new' w #[.int .i64 x.k, .int .i64 x.s, .int .i64 x.a, .int .i64 x.b, .int .i64 x.c] 91)
  have H1 := Lib.hid (h.below al)
  have HA := Lib.hid al
  have HW := Lib.hid h
  have HBB := Lib.hid (Nat.le_trans hB al.size)
  clear h al hB
  go_enter Try.func69, Try.ntmps69
  go_upto_region 1 with fail
  generalize w.alloc (.cells #[.int .i64 x.k, .int .i64 x.s, .int .i64 x.a, .int .i64 x.b, .int .i64 x.c] 91) = w1 at *
  obtain ⟨gb, hgb⟩ : ∃ gb, gb = w.heap.size := ⟨_, rfl⟩
  rw [← hgb] at HX ⊢
  have HG := Lib.hid hgb
  clear hgb
  have HGL := Lib.hid (show M.po ≠ gb from by have := Blk.lt HW.out.po; have := HG.out; omega)
  refine wp_region_then 14 _ ?af rfl (by kernel_rfl) (by kernel_rfl) ?walk ?tail
  case walk =>
    intro V hV
    have q0 : Blk _ n 81 (netC M D S) := (H1.out.below hV).blk
    have c52 := q0.cell 52 rfl
    have nl := q0.lt
    clear q0
    have r0 := HX.out.below hV HX.out.lt
    have x0 := r0.cell 0 rfl
    have x1 := r0.cell 1 rfl
    have x2 := r0.cell 2 rfl
    have x3 := r0.cell 3 rfl
    have x4 := r0.cell 4 rfl
    have gl := r0.lt
    clear r0
    clear hV
    simp only [List.take_succ_cons, List.take_zero]
    repeat (go_big_quiet_step (fail))
    refine wpQuiet_nil ?_
    rfl
  intro w8 hb8
  have H8 := Lib.hid (H1.out.below hb8)
  have HX8 := Lib.hid (HX.out.below hb8 HX.out.lt)
  have HT := Lib.hid (Touch.of_below (S := NetOwn col base) (HA.out.trans (hb8.mono HA.out.size)))
  have HB8 := Lib.hid (Nat.le_trans HBB.out hb8.size)
  clear hb8 H1 HX
  go_simp
  refine (Take_c M.po S.po ⟨x.s, x.a, x.b, x.c⟩ w8 H8.out.po).mono ?_
  rintro e w9 ⟨rfl, hp9, ht9⟩
  have HX9 := Lib.hid (HX8.out.touch ht9 (fun e => HGL.out e.symm))
  have H9 := Lib.hid (H8.out.toPo hp9 ht9).1
  have HT9 := Lib.hid (HT.out.trans (H8.out.toPo hp9 ht9).2)
  have HB9 := Lib.hid (Nat.le_trans HB8.out ht9.size)
  clear hp9 ht9 HX8 H8 HT HB8
  dsimp only
  refine wpQuiet_nil ?_
  intro xx
  have H2 := Lib.hid (H9.out.below xx.far)
  have HX2 := Lib.hid (HX9.out.below xx.far HX9.out.lt)
  have HT2 := Lib.hid (HT9.out.below xx.far)
  have HB2 := Lib.hid (Nat.le_trans HB9.out xx.far.size)
  generalize xx.w = w2 at H2 HX2 HT2 HB2 ⊢
  clear HX9 H9 HT9 HB9
  have r0 := HX2.out
  have x1 := r0.cell 1 rfl
  have gl := r0.lt
  clear r0
  go_wp2_with (go_at_call 28; refine (tell_c H2.out HB2.out 2 (by omega) ⟨15, x.s, 0, 0, 0⟩).mono ?_; rintro e w4 ⟨rfl, hn⟩; have HN := Lib.hid (NetTo.before HT2.out hn); clear hn)
  exact bodyPost_end (v := .tuple #[]) (by simp [results, Try.results69, go_sem]) rfl ⟨rfl, HN.out⟩
end Go.Proofs.Ytlklnaebdnahcaa
namespace Go.Proofs.Ytlklnaebdnahcaa
open Go.RowKit Nw
theorem NetAt.toSi {w w' : World} {B n base : Nat} {col : Nat → Nat} {D : Dl} {M : Mem} {S : St} (h : NetAt w B n col base D M S) {cs' : List Sx.Cl} {N' : Int} {A' : Nat → Option Addr} {q' : Nat → Nat} (hl : SiteAt w' B M.gs M.gc M.sc A' q' cs' D.dr D.bk N') (hcs : cs'.length = S.cs.length)
    (ht : Touch (SOwn M.gs M.gc M.sA S.cs.length) w w') (hn : ∀ i k, OwnB (A' i) k → OwnB (M.sA i) k ∨ w.heap.size ≤ k) : NetTo w B n col base D { S with cs := cs', sN := N' } w' := by
  have hT : ∀ k, SOwn M.gs M.gc M.sA S.cs.length k → col k = base ∨ col k = base + 14 := fun k e => .inr (h.sic k e)
  refine ⟨ncol w col (base + 14), { M with sA := A', sq := q' }, fun k hk => ncol_old hk, h.setSi (fun k hk => ncol_old hk) hl (fun k e => ?_) (ht.mono hT) (h.blk.touch ht (fun e => by have := h.sic n e; rw [h.c0] at this; omega)), ht.mono (fun k e => by have := hT k e; unfold NetOwn; omega)⟩
  by_cases hlt : k < w.heap.size
  · rw [ncol_old hlt]
    rcases e with rfl | rfl | ⟨i, hi, e⟩
    · exact h.sic _ (.inl rfl)
    · exact h.sic _ (.inr (.inl rfl))
    · rcases hn i k e with e | e
      · exact h.sic k (.inr (.inr ⟨i, by rw [← hcs]; exact hi, e⟩))
      · omega
  · exact ncol_new (by omega)
set_option maxRecDepth 100000 in
set_option maxHeartbeats 4000000 in
theorem approved_c {w : World} {B n base : Nat} {col : Nat → Nat} {D : Dl} {M : Mem} {S : St} (h : NetAt w B n col base D M S) (hB : B ≤ w.heap.size) (x : Nt) :
    Calls Try.prog 73 #[.pointer (some ⟨n, 0, none⟩), .agg #[.int .i64 x.k, .int .i64 x.s, .int .i64 x.a, .int .i64 x.b, .int .i64 x.c]] w fun e w' => e = .returned (.tuple #[]) ∧ NetTo w B n col base D (Nw.approved S x) w' := by
  have al := (Below.refl w.heap.size w).alloc (Nat.le_refl _) (.cells #[.int .i64 x.k, .int .i64 x.s, .int .i64 x.a, .int .i64 x.b, .int .i64 x.c] 91)
  have HX := Lib.hid (Blk.new' w #[.int .i64 x.k, .int .i64 x.s, .int .i64 x.a, .int .i64 x.b, .int .i64 x.c] 91)
  have H1 := Lib.hid (h.below al)
  have HA := Lib.hid al
  have HW := Lib.hid h
  have HBB := Lib.hid (Nat.le_trans hB al.size)
  clear h al hB
  go_enter Try.func73, Try.ntmps73
  go_upto_region 1 with fail
  generalize w.alloc (.cells #[.int .i64 x.k, .int .i64 x.s, .int .i64 x.a, .int .i64 x.b, .int .i64 x.c] 91) = w1 at *
  obtain ⟨gb, hgb⟩ : ∃ gb, gb = w.heap.size := ⟨_, rfl⟩
  rw [← hgb] at HX ⊢
  have HG := Lib.hid hgb
  clear hgb
  have r0 := HX.out
  have x1 := r0.cell 1 rfl
  have gl := r0.lt
  clear r0
  go_wp2_with (go_at_call 28; refine (tell_c H1.out HBB.out 3 (by omega) ⟨6, x.s, 0, 0, 0⟩).mono ?_; rintro e w4 ⟨rfl, hn⟩; have HN := Lib.hid (NetTo.before (Touch.of_below HA.out) hn); clear hn)
  exact bodyPost_end (v := .tuple #[]) (by simp [results, Try.results73, go_sem]) rfl ⟨rfl, HN.out⟩
set_option maxRecDepth 100000 in
set_option maxHeartbeats 4000000 in
theorem known_c {w : World} {B n base : Nat} {col : Nat → Nat} {D : Dl} {M : Mem} {S : St} (h : NetAt w B n col base D M S) (hB : B ≤ w.heap.size) (x : Nt) {K : Int} (hK : K ≤ 100000) (hok : ∀ c ∈ S.cs, Sx.OkC K c) :
    Calls Try.prog 72 #[.pointer (some ⟨n, 0, none⟩), .agg #[.int .i64 x.k, .int .i64 x.s, .int .i64 x.a, .int .i64 x.b, .int .i64 x.c]] w fun e w' => e = .returned (.tuple #[]) ∧ NetTo w B n col base D (Nw.known S x) w' := by
  have HK := Lib.hid hK
  have HO := Lib.hid hok
  clear hK hok
  have al := (Below.refl w.heap.size w).alloc (Nat.le_refl _) (.cells #[.int .i64 x.k, .int .i64 x.s, .int .i64 x.a, .int .i64 x.b, .int .i64 x.c] 91)
  have HX := Lib.hid (Blk.new' w #[.int .i64 x.k, .int .i64 x.s, .int .i64 x.a, .int .i64 x.b, .int .i64 x.c] 91)
  have H1 := Lib.hid (h.below al)
  have HA := Lib.hid al
  have HW := Lib.hid h
  have HBB := Lib.hid (Nat.le_trans hB al.size)
  clear h al hB
  go_enter Try.func72, Try.ntmps72
  go_upto_region 1 with fail
  generalize w.alloc (.cells #[.int .i64 x.k, .int .i64 x.s, .int .i64 x.a, .int .i64 x.b, .int .i64 x.c] 91) = w1 at *
  obtain ⟨gb, hgb⟩ : ∃ gb, gb = w.heap.size := ⟨_, rfl⟩
  rw [← hgb] at HX ⊢
  have HG := Lib.hid hgb
  clear hgb
  refine wp_region_then 7 _ ?af rfl (by kernel_rfl) (by kernel_rfl) ?walk ?tail
  case walk =>
    intro V hV
    have q0 : Blk _ n 81 (netC M D S) := (H1.out.below hV).blk
    have c55 := q0.cell 55 rfl
    have nl := q0.lt
    clear q0
    have r0 := HX.out.below hV HX.out.lt
    have x1 := r0.cell 1 rfl
    have gl := r0.lt
    clear r0
    clear hV
    simp only [List.take_succ_cons, List.take_zero]
    repeat (go_big_quiet_step (fail))
    refine wpQuiet_nil ?_
    rfl
  intro w8 hb8
  have H8 := Lib.hid (H1.out.below hb8)
  have HT := Lib.hid (Touch.of_below (S := NetOwn col base) (HA.out.trans (hb8.mono HA.out.size)))
  have HB8 := Lib.hid (Nat.le_trans HBB.out hb8.size)
  clear hb8 H1
  go_simp
  refine (Ack_c H8.out.si HB8.out HK.out HO.out 0 x.s).mono ?_
  rintro e w9 ⟨A', q', rfl, hs9, ht9, hn9⟩
  have HN := Lib.hid (NetTo.before HT.out (H8.out.toSi hs9 (by unfold Sx.akS; split <;> simp) ht9 hn9))
  clear hs9 ht9 hn9
  dsimp only
  refine wpQuiet_nil ?_
  intro xx
  have HN2 := Lib.hid (HN.out.below xx.far)
  go_wp2_with fail
  exact bodyPost_end (v := .tuple #[]) (by simp [results, Try.results72, go_sem]) rfl ⟨rfl, HN2.out⟩
set_option maxRecDepth 100000 in
set_option maxHeartbeats 4000000 in
theorem plugged_c {w : World} {B n base : Nat} {col : Nat → Nat} {D : Dl} {M : Mem} {S : St} (h : NetAt w B n col base D M S) (hB : B ≤ w.heap.size) (x : Nt) :
    Calls Try.prog 63 #[.pointer (some ⟨n, 0, none⟩), .agg #[.int .i64 x.k, .int .i64 x.s, .int .i64 x.a, .int .i64 x.b, .int .i64 x.c]] w fun e w' => e = .returned (.tuple #[]) ∧ NetTo w B n col base D (Nw.plugged S x) w' := by
  by_cases hp : S.sph ≠ 0 ∨ S.inn = false
  · have e0 : Nw.plugged S x = Nw.tell S 1 ⟨7, 0, x.c, x.a, 0⟩ := by unfold Nw.plugged; rw [if_pos hp]
    rw [e0]
    clear e0
    have al := (Below.refl w.heap.size w).alloc (Nat.le_refl _) (.cells #[.int .i64 x.k, .int .i64 x.s, .int .i64 x.a, .int .i64 x.b, .int .i64 x.c] 91)
    have HX := Lib.hid (Blk.new' w #[.int .i64 x.k, .int .i64 x.s, .int .i64 x.a, .int .i64 x.b, .int .i64 x.c] 91)
    have H1 := Lib.hid (h.below al)
    have HA := Lib.hid al
    have HW := Lib.hid h
    have HBB := Lib.hid (Nat.le_trans hB al.size)
    clear h al hB
    by_cases hs : S.sph = 0
    · have hi : S.inn = false := by rcases hp with h | h; exact absurd hs h; exact h
      have k1 : (S.sph == 0) = true := by simpa using hs
      have k2 : (S.sph != 0) = false := by simpa using hs
      clear hp hs
      go_enter Try.func63, Try.ntmps63
      go_upto_region 1 with fail
      generalize w.alloc (.cells #[.int .i64 x.k, .int .i64 x.s, .int .i64 x.a, .int .i64 x.b, .int .i64 x.c] 91) = w1 at *
      obtain ⟨gb, hgb⟩ : ∃ gb, gb = w.heap.size := ⟨_, rfl⟩
      rw [← hgb] at HX ⊢
      have HG := Lib.hid hgb
      clear hgb
      go_upto_region 2 with fail
      have q0 : Blk _ n 81 (netC M D S) := (H1.out).blk
      have c43 := q0.cell 43 rfl
      have c34 := q0.cell 34 rfl
      have nl := q0.lt
      clear q0
      rw [hi] at c34
      have r0 := HX.out
      have x2 := r0.cell 2 rfl
      have x4 := r0.cell 4 rfl
      have gl := r0.lt
      clear r0
      go_wp2_with (go_at_call 28; refine (tell_c H1.out HBB.out 1 (by omega) ⟨7, 0, x.c, x.a, 0⟩).mono ?_; rintro e w4 ⟨rfl, hn⟩; have HN := Lib.hid (NetTo.before (Touch.of_below HA.out) hn); clear hn)
      exact bodyPost_ret (v := .tuple #[]) (by simp [results, Try.results63, go_sem]) rfl ⟨rfl, HN.out⟩
    · have k1 : (S.sph == 0) = false := by simpa using hs
      have k2 : (S.sph != 0) = true := by simpa using hs
      clear hp hs
      go_enter Try.func63, Try.ntmps63
      go_upto_region 1 with fail
      generalize w.alloc (.cells #[.int .i64 x.k, .int .i64 x.s, .int .i64 x.a, .int .i64 x.b, .int .i64 x.c] 91) = w1 at *
      obtain ⟨gb, hgb⟩ : ∃ gb, gb = w.heap.size := ⟨_, rfl⟩
      rw [← hgb] at HX ⊢
      have HG := Lib.hid hgb
      clear hgb
      go_upto_region 2 with fail
      have q0 : Blk _ n 81 (netC M D S) := (H1.out).blk
      have c43 := q0.cell 43 rfl
      have c34 := q0.cell 34 rfl
      have nl := q0.lt
      clear q0
      have r0 := HX.out
      have x2 := r0.cell 2 rfl
      have x4 := r0.cell 4 rfl
      have gl := r0.lt
      clear r0
      go_wp2_with (go_at_call 28; refine (tell_c H1.out HBB.out 1 (by omega) ⟨7, 0, x.c, x.a, 0⟩).mono ?_; rintro e w4 ⟨rfl, hn⟩; have HN := Lib.hid (NetTo.before (Touch.of_below HA.out) hn); clear hn)
      exact bodyPost_ret (v := .tuple #[]) (by simp [results, Try.results63, go_sem]) rfl ⟨rfl, HN.out⟩
  · have e0 : Nw.plugged S x = Nw.tell { S with sph := 1, sss := Nw.wr (S.sss + 1), sp0 := x.a, sp1 := x.c, gone := false, si := 0, sk := 0, opn := 0, tks := 0 } 2 ⟨2, Nw.wr (S.sss + 1), x.a, x.b, x.c⟩ := by unfold Nw.plugged; rw [if_neg hp]
    rw [e0]
    clear e0
    have hs : S.sph = 0 := by by_cases h : S.sph = 0; exact h; exact absurd (.inl h) hp
    have hi : S.inn = true := by cases h : S.inn; exact absurd (.inr h) hp; rfl
    have k1 : (S.sph == 0) = true := by simpa using hs
    have k2 : (S.sph != 0) = false := by simpa using hs
    clear hp hs
    have al := (Below.refl w.heap.size w).alloc (Nat.le_refl _) (.cells #[.int .i64 x.k, .int .i64 x.s, .int .i64 x.a, .int .i64 x.b, .int .i64 x.c] 91)
    have HX := Lib.hid (Blk.new' w #[.int .i64 x.k, .int .i64 x.s, .int .i64 x.a, .int .i64 x.b, .int .i64 x.c] 91)
    have H1 := Lib.hid (h.below al)
    have HA := Lib.hid al
    have HW := Lib.hid h
    have HBB := Lib.hid (Nat.le_trans hB al.size)
    clear h al hB
    go_enter Try.func63, Try.ntmps63
    go_upto_region 1 with fail
    generalize w.alloc (.cells #[.int .i64 x.k, .int .i64 x.s, .int .i64 x.a, .int .i64 x.b, .int .i64 x.c] 91) = w1 at *
    obtain ⟨gb, hgb⟩ : ∃ gb, gb = w.heap.size := ⟨_, rfl⟩
    rw [← hgb] at HX ⊢
    have HG := Lib.hid hgb
    clear hgb
    go_upto_region 2 with fail
    have q0 : Blk _ n 81 (netC M D S) := (H1.out).blk
    have c43 := q0.cell 43 rfl
    have c34 := q0.cell 34 rfl
    have nl := q0.lt
    clear q0
    rw [hi] at c34
    have HGL := Lib.hid (show n ≠ gb from by have := HW.out.lt; have := HG.out; omega)
    go_upto_region 4 with fail
    refine wp_region_head 20 ?af (by kernel_rfl) (by kernel_rfl) ?walk ?tail
    case walk =>
      intro V hV
      have q0 : Blk _ n 81 (netC M D S) := (H1.out.below hV).blk
      have c42 := q0.cell 42 rfl
      have c44 := q0.cell 44 rfl
      have c52 := q0.cell 52 rfl
      have nl := q0.lt
      clear q0
      have r0 := HX.out.below hV HX.out.lt
      have x2 := r0.cell 2 rfl
      have x4 := r0.cell 4 rfl
      have gl := r0.lt
      clear r0
      clear hV
      simp only [List.take_succ_cons, List.take_zero]
      repeat (go_big_quiet_step (fail))
      refine wpQuiet_nil ?_
      rfl
    intro w8 hb8
    have H2 := Lib.hid (H1.out.below hb8)
    have HX2 := Lib.hid (HX.out.below hb8 HX.out.lt)
    have HA2 := Lib.hid (HA.out.trans (hb8.mono HA.out.size))
    have HB2 := Lib.hid (Nat.le_trans HBB.out hb8.size)
    clear hb8 H1 HX HA HBB
    have q0 : Blk _ n 81 (netC M D S) := (H2.out).blk
    have c42 := q0.cell 42 rfl
    have f42 := q0.free 42
    have c43 := q0.cell 43 rfl
    have f43 := q0.free 43
    have c44 := q0.cell 44 rfl
    have f44 := q0.free 44
    have c45 := q0.cell 45 rfl
    have f45 := q0.free 45
    have c46 := q0.cell 46 rfl
    have f46 := q0.free 46
    have c47 := q0.cell 47 rfl
    have f47 := q0.free 47
    have c48 := q0.cell 48 rfl
    have f48 := q0.free 48
    have c49 := q0.cell 49 rfl
    have f49 := q0.free 49
    have c50 := q0.cell 50 rfl
    have f50 := q0.free 50
    have c51 := q0.cell 51 rfl
    have f51 := q0.free 51
    have c52 := q0.cell 52 rfl
    have f52 := q0.free 52
    have nl := q0.lt
    clear q0
    simp only [List.drop_succ_cons, List.drop_zero]
    go_wp2_with fail
    have H3 := Lib.hid (show NetAt _ B n col base D M ({ S with sph := 1, sss := Nw.wr (S.sss + 1), sp0 := x.a, sp1 := x.c, gone := false, si := 0, sk := 0, opn := 0, tks := 0 }) from H2.out.stored (S' := { S with sph := 1, sss := Nw.wr (S.sss + 1), sp0 := x.a, sp1 := x.c, gone := false, si := 0, sk := 0, opn := 0, tks := 0 }) ((((((((((((Touch.refl _ _).put 42 (.map M.sb)).put 43 (.int .i64 1)).put 44 (.int .i64 (wrap64 (S.sss + 1)))).put 45 (.int .i64 x.a)).put 46 (.int .i64 x.c)).put 47 (.bool false)).put 48 (.int .i64 0)).put 49 (.int .i64 0)).put 50 (.int .i64 0)).put 51 (.int .i64 0)).put 52 (.pointer (some ⟨M.po, 0, none⟩))) ((((((((((((H2.out.blk).setCell 42 (.map M.sb)).setCell 43 (.int .i64 1)).setCell 44 (.int .i64 (wrap64 (S.sss + 1)))).setCell 45 (.int .i64 x.a)).setCell 46 (.int .i64 x.c)).setCell 47 (.bool false)).setCell 48 (.int .i64 0)).setCell 49 (.int .i64 0)).setCell 50 (.int .i64 0)).setCell 51 (.int .i64 0)).setCell 52 (.pointer (some ⟨M.po, 0, none⟩))) rfl rfl rfl rfl rfl rfl rfl rfl rfl rfl rfl rfl rfl rfl)
    have HT3 := Lib.hid (HW.out.tch HA2.out ((((((((((((Touch.refl _ _).put 42 (.map M.sb)).put 43 (.int .i64 1)).put 44 (.int .i64 (wrap64 (S.sss + 1)))).put 45 (.int .i64 x.a)).put 46 (.int .i64 x.c)).put 47 (.bool false)).put 48 (.int .i64 0)).put 49 (.int .i64 0)).put 50 (.int .i64 0)).put 51 (.int .i64 0)).put 52 (.pointer (some ⟨M.po, 0, none⟩))))
    have HX3 := Lib.hid (Blk.touch HX2.out (S := fun k => k = n) ((((((((((((Touch.refl _ _).put 42 (.map M.sb)).put 43 (.int .i64 1)).put 44 (.int .i64 (wrap64 (S.sss + 1)))).put 45 (.int .i64 x.a)).put 46 (.int .i64 x.c)).put 47 (.bool false)).put 48 (.int .i64 0)).put 49 (.int .i64 0)).put 50 (.int .i64 0)).put 51 (.int .i64 0)).put 52 (.pointer (some ⟨M.po, 0, none⟩))) (fun e => HGL.out e.symm))
    have HB3 := Lib.hid (Nat.le_trans HB2.out (show Touch (fun k => k = n) w8 _ from (((((((((((Touch.refl _ _).put 42 (.map M.sb)).put 43 (.int .i64 1)).put 44 (.int .i64 (wrap64 (S.sss + 1)))).put 45 (.int .i64 x.a)).put 46 (.int .i64 x.c)).put 47 (.bool false)).put 48 (.int .i64 0)).put 49 (.int .i64 0)).put 50 (.int .i64 0)).put 51 (.int .i64 0)).put 52 (.pointer (some ⟨M.po, 0, none⟩))).size)
    generalize ((((((((((w8.setCell ⟨n, 42, none⟩ (.map M.sb)).setCell ⟨n, 43, none⟩ (.int .i64 1)).setCell ⟨n, 44, none⟩ (.int .i64 (wrap64 (S.sss + 1)))).setCell ⟨n, 45, none⟩ (.int .i64 x.a)).setCell ⟨n, 46, none⟩ (.int .i64 x.c)).setCell ⟨n, 47, none⟩ (.bool false)).setCell ⟨n, 48, none⟩ (.int .i64 0)).setCell ⟨n, 49, none⟩ (.int .i64 0)).setCell ⟨n, 50, none⟩ (.int .i64 0)).setCell ⟨n, 51, none⟩ (.int .i64 0)).setCell ⟨n, 52, none⟩ (.pointer (some ⟨M.po, 0, none⟩)) = w3 at H3 HT3 HX3 HB3 ⊢
    clear c42 f42 c43 f43 c44 f44 c45 f45 c46 f46 c47 f47 c48 f48 c49 f49 c50 f50 c51 f51 c52 f52 nl H2 HX2 HA2 HB2 c34
    refine wp_region_then 12 _ ?af5 rfl (by kernel_rfl) (by kernel_rfl) ?walk5 ?tail5
    case walk5 =>
      intro V hV
      have q0 := (H3.out.below hV).blk
      have c44 := q0.cell 44 rfl
      have nl := q0.lt
      clear q0
      have r0 := HX3.out.below hV HX3.out.lt
      have x2 := r0.cell 2 rfl
      have x3 := r0.cell 3 rfl
      have x4 := r0.cell 4 rfl
      have gl := r0.lt
      clear r0
      clear hV
      simp only [List.take_succ_cons, List.take_zero]
      repeat (go_big_quiet_step (fail))
      refine wpQuiet_nil ?_
      rfl
    intro w4 hb4
    have H4 := Lib.hid (H3.out.below hb4)
    have HT4 := Lib.hid (HT3.out.below hb4)
    have HB4 := Lib.hid (Nat.le_trans HB3.out hb4.size)
    clear hb4
    go_simp
    refine (tell_c H4.out HB4.out 2 (by omega) ⟨2, Nw.wr (S.sss + 1), x.a, x.b, x.c⟩).mono ?_
    rintro e w9 ⟨rfl, hn⟩
    have HN := Lib.hid (NetTo.before HT4.out hn)
    clear hn
    dsimp only
    refine wpQuiet_nil ?_
    intro xx
    have HN2 := Lib.hid (HN.out.below xx.far)
    go_wp2_with fail
    exact bodyPost_end (v := .tuple #[]) (by simp [results, Try.results63, go_sem]) rfl ⟨rfl, HN2.out⟩
end Go.Proofs.Ytlklnaebdnahcaa
namespace Go.Proofs.Ytlklnaebdnahcaa
open Go.RowKit Nw
namespace Nw
theorem owedL_perm (S : St) (c : Int) {l l' : List (Int × Bl)} (h : l.Perm l') : owedL S c l = owedL S c l' := by
  induction h with
  | nil => rfl
  | cons x _ ih => unfold owedL; rw [ih]
  | swap x y l => unfold owedL owedL; omega
  | trans _ _ h1 h2 => exact h1.trans h2
end Nw
theorem wrap0 : wrap64 0 = 0 := by unfold wrap64; omega
theorem wrap_add (z a : Int) : wrap64 (wrap64 z + a) = wrap64 (z + a) := by unfold wrap64; omega
theorem vInj (u v : Nw.Bl) (h : Nw.Bl.v u = Nw.Bl.v v) : u = v := by
  cases u; cases v
  simp [Nw.Bl.v] at h
  simp [h]
theorem getD_map {α β : Type} (f : α → β) (o : Option α) (d : α) : (o.map f).getD (f d) = f (o.getD d) := by cases o <;> rfl
theorem zero3 (w : World) : (zeroValue 3).run Try.prog w = .ok (.int .i64 0) w := by kernel_rfl
theorem zero4 (w : World) : (zeroValue 4).run Try.prog w = .ok (.bool false) w := by kernel_rfl
theorem lookPc {W : World} {b : Nat} {l : List (Int × Int)} (h : MpAt kI kI W b l) (x : Int) : (Instr.lookup 76 (.map (some b)) (.int .i64 x) false).run Try.prog W = .ok (.int .i64 ((mget x l).getD 0)) W := by
  have := h.look keyI Try.underlying76 x (z := .int .i64 0) (zero3 W) false
  rw [show ((mget x l).map kI).getD (.int .i64 0) = kI ((mget x l).getD 0) from getD_map kI _ 0] at this
  exact this
theorem lookPd {W : World} {b : Nat} {l : List (Int × Bool)} (h : LikeAt W b l) (x : Int) : (Instr.lookup 77 (.map (some b)) (.int .i64 x) false).run Try.prog W = .ok (.bool ((mget x l).getD false)) W := by
  obtain ⟨l', h1, h2⟩ := h
  have := h1.look keyI Try.underlying77 x (z := .bool false) (zero4 W) false
  rw [show ((mget x l').map vB).getD (.bool false) = vB ((mget x l').getD false) from getD_map vB _ false, h2] at this
  exact this
theorem RgAt.left {α β : Type} {K : α → Value} {V : β → Value} {w : World} {b r : Nat} {l rem : List (α × β)} (h : RgAt K V w b r l rem) : w.rangeLeft b r = rem.length := by
  obtain ⟨es, clock, since, seen, c0, hb, hs, hl, hi, hold, hsc, hcc, hbr, hp⟩ := h
  have := hp.length_eq
  simp only [List.length_map, Array.length_toList] at this
  simp only [World.rangeLeft, hb, hi]
  exact this
set_option maxRecDepth 100000 in
set_option maxHeartbeats 4000000 in
theorem owed_c {w : World} {B n base : Nat} {col : Nat → Nat} {D : Dl} {M : Mem} {S : St} (h : NetAt w B n col base D M S) (c : Int) :
    Calls Try.prog 94 #[.pointer (some ⟨n, 56, none⟩), .int .i64 c] w fun e w' => e = .returned (.int .i64 (Nw.owed S c)) ∧ Below w.heap.size w w' := by
  have H := Lib.hid h
  have c56 := h.blk.cell 56 rfl
  have nl := h.lt
  cases hb : M.pb with
  | none =>
    have hl : S.pb = [] := by have := h.pb; rw [hb] at this; exact this
    have e0 : Nw.owed S c = 0 := by unfold Nw.owed; rw [hl]; exact wrap0
    rw [e0]
    rw [hb] at c56
    clear h e0 hl
    have qr : (Instr.range 58 (.map none)).run Try.prog w = .ok (.pointer (some ⟨w.heap.size, 0, none⟩)) (w.alloc (.mapIter none 0 #[] 0)) := run_range_nilMap w 58 3 98 Try.underlying58
    have qn : ∀ ty, (Instr.next (.pointer (some ⟨w.heap.size, 0, none⟩)) false ty).run Try.prog (w.alloc (.mapIter none 0 #[] 0)) = .ok (.tuple #[.bool false]) (w.alloc (.mapIter none 0 #[] 0)) := fun ty => run_next_nilMap w ty 0 0 #[]
    go_enter Try.func94, Try.ntmps94
    go_wp2_with fail
    refine wp_loop_rounds 1 ?_
    rw [rounds_succ]
    go_wp2_with fail
    go_ret
    exact ⟨rfl, (Below.refl _ _).alloc (Nat.le_refl _) _⟩
  | some b =>
    have hm : MpAt kI Nw.Bl.v w b S.pb := by have := h.pb; rw [hb] at this; exact this
    have HM := Lib.hid hm
    rw [hb] at c56
    have HBE := Lib.hid hb
    clear h hm hb
    go_enter Try.func94, Try.ntmps94
    go_wp2_with (at_range; refine wpList_mrange _ rfl _ 58 rfl Try.underlying58 HM.out rfl ?_; intro w0 hrg ht hs)
    go_frame
    have HR := Lib.hid hrg
    have HA := Lib.hid (show Below w.heap.size w w0 from ⟨ht.os, ht.tape, ht.output, ht.size, fun k hk => ht.block k hk (fun e => e)⟩)
    clear hrg ht hs
    have HO := Lib.hid HA.out.size
    have HBN := Lib.hid (show b < w.heap.size from HM.out.lt)
    clear c56 nl
    go_loopw [5] (fun v5 wr => ∃ z rem, v5 = .int .i64 (wrap64 z) ∧ Hid (RgAt kI Nw.Bl.v wr b w.heap.size S.pb rem ∧ Below w.heap.size w wr ∧ z + Nw.owedL S c rem = Nw.owedL S c S.pb)) (fun _ wr => wr.rangeLeft b w.heap.size)
    case atStart =>
      exact ⟨0, S.pb, by rw [wrap0], Lib.hid ⟨HR.out, HA.out, by omega⟩⟩
    case round =>
      obtain ⟨z, rem, rfl, HZ⟩ := hrel
      have HRR := Lib.hid HZ.out.1
      have HAA := Lib.hid HZ.out.2.1
      have HEQ := Lib.hid HZ.out.2.2
      have HO2 := Lib.hid HAA.out.size
      have HRL := Lib.hid HRR.out.left
      clear HZ HR HA
      go_upto_region 4 with (at_next; refine wpList_mnext _ rfl _ rfl keyI vInj rfl HRR.out ?_ ?_)
      · intro hrem
        go_wp2_with fail
        go_ret
        have e1 : z = Nw.owedL S c S.pb := by
          have := HEQ.out
          rw [hrem] at this
          have h2 : Nw.owedL S c [] = 0 := rfl
          rw [h2] at this
          omega
        exact ⟨by rw [e1]; rfl, HAA.out⟩
      · intro p1 p2 rem' w1 hp hrg ht hs hen
        simp only [kI, Nw.Bl.v] at hen ⊢
        have HP := Lib.hid hp
        have HR1 := Lib.hid hrg
        have HA1 := Lib.hid (Below.touch HAA.out HO2.out ht (fun k e => by omega))
        have HS1 := Lib.hid hs
        clear hp hrg ht hs HRR HAA
        go_upto_region 5 with fail
        have HX := Lib.hid (Blk.new' w1 #[.int .i64 p2.s, .int .i64 p2.i, .int .i64 p2.b, .int .i64 p2.a] 98)
        have HR2 := Lib.hid (HR1.out.touch (S := fun _ => False) ((Touch.refl _ _).alloc (.cells #[.int .i64 p2.s, .int .i64 p2.i, .int .i64 p2.b, .int .i64 p2.a] 98)) (fun e => e) (fun e => e))
        have HA2 := Lib.hid (HA1.out.alloc (Nat.le_trans HO2.out (by rw [HS1.out]; exact Nat.le_refl _)) (.cells #[.int .i64 p2.s, .int .i64 p2.i, .int .i64 p2.b, .int .i64 p2.a] 98))
        clear hen
        generalize w1.alloc (.cells #[.int .i64 p2.s, .int .i64 p2.i, .int .i64 p2.b, .int .i64 p2.a] 98) = w2 at HX HR2 HA2 ⊢
        generalize w1.heap.size = gb at HX ⊢
        clear HR1 HA1 HS1
        have H2 := Lib.hid (H.out.below HA2.out)
        have c57 := H2.out.blk.cell 57 rfl
        have c58 := H2.out.blk.cell 58 rfl
        have nl := H2.out.lt
        have q1 := lookPc H2.out.pc p1
        have q2 := lookPd H2.out.pd p1
        have a3 := HX.out.cell 3 rfl
        have gl := HX.out.lt
        have HRel : ∀ z', z' = z + (if Nw.owes S c (p1, p2) then p2.a else 0) → Hid (RgAt kI Nw.Bl.v w2 b w.heap.size S.pb rem' ∧ Below w.heap.size w w2 ∧ z' + Nw.owedL S c rem' = Nw.owedL S c S.pb) := fun z' hz => by
          refine Lib.hid ⟨HR2.out, HA2.out, ?_⟩
          have e1 := HEQ.out
          rw [Nw.owedL_perm S c HP.out] at e1
          have e2 : Nw.owedL S c ((p1, p2) :: rem') = (if Nw.owes S c (p1, p2) then p2.a else 0) + Nw.owedL S c rem' := rfl
          rw [e2] at e1
          omega
        have HREL := Lib.hid HRel
        have HLEN : Hid (w2.rangeLeft b w.heap.size < wr.rangeLeft b w.heap.size) := by
          rw [HR2.out.left, HRL.out, HP.out.length_eq]
          exact Lib.hid (Nat.lt_succ_self _)
        clear HRel
        generalize hpc : (mget p1 S.pc).getD 0 = pc at q1
        generalize hpd : (mget p1 S.pd).getD false = pd at q2
        have HOW : Hid (Nw.owes S c (p1, p2) = (decide (pc = c) && !pd)) := by
          refine Lib.hid ?_
          unfold Nw.owes
          rw [← hpc, ← hpd]
        clear hpc hpd
        cases pd with
        | true =>
          by_cases hc : pc = c
          all_goals
            first
              | have k1 : (pc == c) = true := by simpa using hc
              | have k1 : (pc == c) = false := by simpa using hc
            clear hc
            go_wp2_with fail
            exact ⟨⟨z, rem', rfl, HREL.out z (by rw [HOW.out]; simp)⟩, HLEN.out⟩
        | false =>
          by_cases hc : pc = c
          · have k1 : (pc == c) = true := by simpa using hc
            have HC := Lib.hid hc
            clear hc
            go_wp2_with fail
            exact ⟨⟨z + p2.a, rem', by rw [wrap_add], HREL.out _ (by rw [HOW.out]; simp [HC.out])⟩, HLEN.out⟩
          · have k1 : (pc == c) = false := by simpa using hc
            have HC := Lib.hid hc
            clear hc
            go_wp2_with fail
            exact ⟨⟨z, rem', rfl, HREL.out z (by rw [HOW.out]; simp [HC.out])⟩, HLEN.out⟩
end Go.Proofs.Ytlklnaebdnahcaa
namespace Go.Proofs.Ytlklnaebdnahcaa
open Go.RowKit Nw
theorem lookPc2 {W : World} {b : Nat} {l : List (Int × Int)} (h : MpAt kI kI W b l) (x : Int) : (Instr.lookup 76 (.map (some b)) (.int .i64 x) true).run Try.prog W = .ok (.tuple #[.int .i64 ((mget x l).getD 0), .bool (mget x l).isSome]) W := by
  have := h.look keyI Try.underlying76 x (z := .int .i64 0) (zero3 W) true
  rw [show ((mget x l).map kI).getD (.int .i64 0) = kI ((mget x l).getD 0) from getD_map kI _ 0] at this
  exact this
theorem NetAt.recol {w : World} {B n base : Nat} {col : Nat → Nat} {D : Dl} {M : Mem} {S : St} (h : NetAt w B n col base D M S) : NetAt w B n (ncol w col (base + 100)) base D M S :=
  h.put (fun k hk => ncol_old hk) rfl rfl rfl rfl rfl rfl rfl rfl rfl rfl rfl rfl rfl rfl (Touch.refl _ _) h.blk
theorem fresh_not {w : World} {col : Nat → Nat} {base k : Nat} (hk : w.heap.size ≤ k) : ¬ NetOwn (ncol w col (base + 100)) base k := by
  unfold NetOwn
  rw [ncol_new hk]
  omega
theorem NetTo.recol {w w' : World} {B n base x : Nat} {col : Nat → Nat} {D : Dl} {S : St} (h : NetTo w B n (ncol w col x) base D S w') : NetTo w B n col base D S w' := by
  obtain ⟨col', M, hc, hN, ht⟩ := h
  refine ⟨col', M, fun k hk => (hc k hk).trans (ncol_old hk), hN, ⟨ht.os, ht.tape, ht.output, ht.size, fun k hk hn => ht.block k hk (fun e => hn ?_)⟩⟩
  unfold NetOwn at e ⊢
  rw [ncol_old hk] at e
  exact e
theorem NetAt.toPc {w w' : World} {B n base : Nat} {col : Nat → Nat} {D : Dl} {M : Mem} {S : St} (h : NetAt w B n col base D M S) {l' : List (Int × Int)} (hl : MpAt kI kI w' M.pc l') (ht : Touch (fun k => k = M.pc) w w') : NetAt w' B n col base D M { S with pc := l' } ∧ Touch (NetOwn col base) w w' := by
  have hT : ∀ k, k = M.pc → col k = base + 16 := fun k e => by rw [e]; exact h.pcc
  exact ⟨h.setPc (fun _ _ => rfl) hl (ht.mono (fun k e => .inr (hT k e))) (h.blk.touch ht (fun e => by have := hT n e; rw [h.c0] at this; omega)), ht.mono (fun k e => by have := hT k e; unfold NetOwn; omega)⟩
set_option maxRecDepth 100000 in
set_option maxHeartbeats 4000000 in
theorem noted_c {w : World} {B n base : Nat} {col : Nat → Nat} {D : Dl} {M : Mem} {S : St} (h : NetAt w B n col base D M S) (hB : B ≤ w.heap.size) (x : Nt) :
    Calls Try.prog 76 #[.pointer (some ⟨n, 0, none⟩), .agg #[.int .i64 x.k, .int .i64 x.s, .int .i64 x.a, .int .i64 x.b, .int .i64 x.c]] w fun e w' => e = .returned (.tuple #[]) ∧ NetTo w B n col base D (Nw.noted S x) w' := by
  cases hm : (mget x.s S.pc).isSome with
  | false =>
    have e0 : Nw.noted S x = S := by unfold Nw.noted; rw [hm]; rfl
    rw [e0]
    clear e0
    have al := (Below.refl w.heap.size w).alloc (Nat.le_refl _) (.cells #[.int .i64 x.k, .int .i64 x.s, .int .i64 x.a, .int .i64 x.b, .int .i64 x.c] 91)
    have HX := Lib.hid (Blk.new' w #[.int .i64 x.k, .int .i64 x.s, .int .i64 x.a, .int .i64 x.b, .int .i64 x.c] 91)
    have H1 := Lib.hid (h.below al)
    have HA := Lib.hid al
    have HW := Lib.hid h
    have HBB := Lib.hid (Nat.le_trans hB al.size)
    clear h al hB
    have q1 : ∀ y : Past (w.alloc (.cells #[.int .i64 x.k, .int .i64 x.s, .int .i64 x.a, .int .i64 x.b, .int .i64 x.c] 91)), (Instr.lookup 76 (.map (some M.pc)) (.int .i64 x.s) true).run Try.prog y.w = .ok (.tuple #[.int .i64 ((mget x.s S.pc).getD 0), .bool (mget x.s S.pc).isSome]) y.w := fun y => lookPc2 (H1.out.below y.far).pc x.s
    rw [hm] at q1
    generalize hv : (mget x.s S.pc).getD 0 = v at q1
    clear hv hm
    go_enter Try.func76, Try.ntmps76
    go_upto_region 1 with fail
    generalize w.alloc (.cells #[.int .i64 x.k, .int .i64 x.s, .int .i64 x.a, .int .i64 x.b, .int .i64 x.c] 91) = w1 at *
    obtain ⟨gb, hgb⟩ : ∃ gb, gb = w.heap.size := ⟨_, rfl⟩
    rw [← hgb] at HX ⊢
    have HG := Lib.hid hgb
    clear hgb
    have q0 : Blk _ n 81 (netC M D S) := (H1.out).blk
    have c57 := q0.cell 57 rfl
    have nl := q0.lt
    clear q0
    have r0 := HX.out
    have x1 := r0.cell 1 rfl
    have gl := r0.lt
    clear r0
    refine wp_region_past (by kernel_rfl) (by kernel_rfl) ?_
    repeat (go_big_quiet_step (fail))
    refine wpQuiet_nil ?_
    intro xx
    have H2 := Lib.hid (H1.out.below xx.far)
    have HX2 := Lib.hid (HX.out.below xx.far HX.out.lt)
    have HA2 := Lib.hid (HA.out.trans (xx.far.mono HA.out.size))
    generalize xx.w = w2 at H2 HX2 HA2 ⊢
    clear q1 c57 nl x1 gl H1 HX HA
    go_wp2_with fail
    exact bodyPost_end (v := .tuple #[]) (by simp [results, Try.results76, go_sem]) rfl ⟨rfl, NetTo.same HW.out HA2.out⟩
  | true =>
    have e0 : Nw.noted S x = { S with pb := mput x.s (billOf x) S.pb } := by unfold Nw.noted; rw [hm]; rfl
    rw [e0]
    clear e0
    have al := (Below.refl w.heap.size w).alloc (Nat.le_refl _) (.cells #[.int .i64 x.k, .int .i64 x.s, .int .i64 x.a, .int .i64 x.b, .int .i64 x.c] 91)
    have HX := Lib.hid (Blk.new' w #[.int .i64 x.k, .int .i64 x.s, .int .i64 x.a, .int .i64 x.b, .int .i64 x.c] 91)
    have H1 := Lib.hid (h.below al)
    have HA := Lib.hid al
    have HW := Lib.hid h
    have HBB := Lib.hid (Nat.le_trans hB al.size)
    clear h al hB
    have q1 : ∀ y : Past (w.alloc (.cells #[.int .i64 x.k, .int .i64 x.s, .int .i64 x.a, .int .i64 x.b, .int .i64 x.c] 91)), (Instr.lookup 76 (.map (some M.pc)) (.int .i64 x.s) true).run Try.prog y.w = .ok (.tuple #[.int .i64 ((mget x.s S.pc).getD 0), .bool (mget x.s S.pc).isSome]) y.w := fun y => lookPc2 (H1.out.below y.far).pc x.s
    rw [hm] at q1
    generalize hv : (mget x.s S.pc).getD 0 = v at q1
    clear hv hm
    go_enter Try.func76, Try.ntmps76
    go_upto_region 1 with fail
    generalize w.alloc (.cells #[.int .i64 x.k, .int .i64 x.s, .int .i64 x.a, .int .i64 x.b, .int .i64 x.c] 91) = w1 at *
    obtain ⟨gb, hgb⟩ : ∃ gb, gb = w.heap.size := ⟨_, rfl⟩
    rw [← hgb] at HX ⊢
    have HG := Lib.hid hgb
    clear hgb
    have q0 : Blk _ n 81 (netC M D S) := (H1.out).blk
    have c57 := q0.cell 57 rfl
    have nl := q0.lt
    clear q0
    have r0 := HX.out
    have x1 := r0.cell 1 rfl
    have gl := r0.lt
    clear r0
    refine wp_region_past (by kernel_rfl) (by kernel_rfl) ?_
    repeat (go_big_quiet_step (fail))
    refine wpQuiet_nil ?_
    intro xx
    have H2 := Lib.hid (H1.out.below xx.far)
    have HX2 := Lib.hid (HX.out.below xx.far HX.out.lt)
    have HA2 := Lib.hid (HA.out.trans (xx.far.mono HA.out.size))
    generalize xx.w = w2 at H2 HX2 HA2 ⊢
    clear q1 c57 nl x1 gl H1 HX HA
    go_upto_region 3 with fail
    refine wp_region_then 5 _ ?af rfl (by kernel_rfl) (by kernel_rfl) ?walk ?tail
    case walk =>
      intro V hV
      have q0 : Blk _ n 81 (netC M D S) := (H2.out.below hV).blk
      have nl := q0.lt
      clear q0
      have r0 := HX2.out.below hV HX2.out.lt
      have x0 := r0.cell 0 rfl
      have x1 := r0.cell 1 rfl
      have x2 := r0.cell 2 rfl
      have x3 := r0.cell 3 rfl
      have x4 := r0.cell 4 rfl
      have gl := r0.lt
      clear r0
      clear hV
      simp only [List.take_succ_cons, List.take_zero]
      repeat (go_big_quiet_step (fail))
      refine wpQuiet_nil ?_
      rfl
    intro w8 hb8
    have H8 := Lib.hid (H2.out.below hb8)
    have HT := Lib.hid (Touch.of_below (S := NetOwn col base) (HA2.out.trans (hb8.mono HA2.out.size)))
    clear hb8
    go_simp
    refine (enter_c (o := 56) H8.out.blk rfl H8.out.pb (fun k hk e => by have h1 := H8.out.pbc k hk; rw [e, H8.out.c0] at h1; omega) x).mono ?_
    rintro e w9 ⟨rfl, b', hb9, hk9, ht9, hn9⟩
    have HN := Lib.hid (NetTo.before HT.out (H8.out.toPb hb9 hk9 ht9 hn9))
    clear hb9 hk9 ht9 hn9
    dsimp only
    refine wpQuiet_nil ?_
    intro xx
    have HN2 := Lib.hid (HN.out.below xx.far)
    go_wp2_with fail
    exact bodyPost_end (v := .tuple #[]) (by simp [results, Try.results76, go_sem]) rfl ⟨rfl, HN2.out⟩
set_option maxRecDepth 100000 in
set_option maxHeartbeats 4000000 in
theorem checked_0 {w : World} {B n base : Nat} {col : Nat → Nat} {D : Dl} {M : Mem} {S : St} (h : NetAt w B n col base D M S) (hB : B ≤ w.heap.size) (x : Nt) (hfr : ∀ k, w.heap.size ≤ k → ¬ NetOwn col base k) :
    Calls Try.prog 75 #[.pointer (some ⟨n, 0, none⟩), .agg #[.int .i64 x.k, .int .i64 x.s, .int .i64 x.a, .int .i64 x.b, .int .i64 x.c]] w fun e w' => e = .returned (.tuple #[]) ∧ NetTo w B n col base D (Nw.checked D S x) w' := by
  have HFR := Lib.hid hfr
  clear hfr
  by_cases hm : Nw.owed S x.a ≤ D.cr
  · have e0 : Nw.checked D S x = Nw.tell { S with pc := mput x.s x.a S.pc } 5 ⟨4, x.s, 0, 0, 0⟩ := by unfold Nw.checked; rw [if_pos hm]
    rw [e0]
    clear e0
    have al := (Below.refl w.heap.size w).alloc (Nat.le_refl _) (.cells #[.int .i64 x.k, .int .i64 x.s, .int .i64 x.a, .int .i64 x.b, .int .i64 x.c] 91)
    have HX := Lib.hid (Blk.new' w #[.int .i64 x.k, .int .i64 x.s, .int .i64 x.a, .int .i64 x.b, .int .i64 x.c] 91)
    have H1 := Lib.hid (h.below al)
    have HA := Lib.hid al
    have HW := Lib.hid h
    have HBB := Lib.hid (Nat.le_trans hB al.size)
    clear h al hB
    have PO := Lib.hid (fun V (hV : Below (w.alloc (.cells #[.int .i64 x.k, .int .i64 x.s, .int .i64 x.a, .int .i64 x.b, .int .i64 x.c] 91)).heap.size (w.alloc (.cells #[.int .i64 x.k, .int .i64 x.s, .int .i64 x.a, .int .i64 x.b, .int .i64 x.c] 91)) V) => owed_c (H1.out.below hV) x.a)
    generalize hov : Nw.owed S x.a = ov at hm PO
    clear hov
    have k1 : decide (ov ≤ D.cr) = true := by simpa using hm
    clear hm
    go_enter Try.func75, Try.ntmps75
    go_upto_region 1 with fail
    generalize w.alloc (.cells #[.int .i64 x.k, .int .i64 x.s, .int .i64 x.a, .int .i64 x.b, .int .i64 x.c] 91) = w1 at *
    obtain ⟨gb, hgb⟩ : ∃ gb, gb = w.heap.size := ⟨_, rfl⟩
    rw [← hgb] at HX ⊢
    have HG := Lib.hid hgb
    clear hgb
    have r0 := HX.out
    have x1 := r0.cell 1 rfl
    have gl := r0.lt
    clear r0
    go_upto_region 2 with fail
    have HY := Lib.hid (Blk.new' w1 #[.int .i64 5, .int .i64 x.s, .int .i64 0, .int .i64 0, .int .i64 0] 91)
    have al := (Below.refl w1.heap.size w1).alloc (Nat.le_refl _) (.cells #[.int .i64 5, .int .i64 x.s, .int .i64 0, .int .i64 0, .int .i64 0] 91)
    have H2 := Lib.hid (H1.out.below al)
    have HX2 := Lib.hid (HX.out.below al HX.out.lt)
    have HA2 := Lib.hid (HA.out.trans (al.mono HA.out.size))
    have HB2 := Lib.hid (Nat.le_trans HBB.out al.size)
    have HP2 := Lib.hid (fun V (hV : Below (w1.alloc (.cells #[.int .i64 5, .int .i64 x.s, .int .i64 0, .int .i64 0, .int .i64 0] 91)).heap.size (w1.alloc (.cells #[.int .i64 5, .int .i64 x.s, .int .i64 0, .int .i64 0, .int .i64 0] 91)) V) => PO.out V (al.trans (hV.mono al.size)))
    have HYG := Lib.hid (show w1.heap.size ≠ n from by have := H1.out.lt; omega)
    have HGY := Lib.hid (show w.heap.size ≤ w1.heap.size from HA.out.size)
    clear al PO x1 gl H1 HX HA HBB
    generalize w1.alloc (.cells #[.int .i64 5, .int .i64 x.s, .int .i64 0, .int .i64 0, .int .i64 0] 91) = w2 at HY H2 HX2 HA2 HB2 HP2 ⊢
    generalize w1.heap.size = ga at HY HYG HGY ⊢
    have q0 : Blk _ n 81 (netC M D S) := (H2.out).blk
    have c5 := q0.cell 5 rfl
    have nl := q0.lt
    clear q0
    have r0 := HX2.out
    have x2 := r0.cell 2 rfl
    have gl := r0.lt
    clear r0
    refine wp_region_past (by kernel_rfl) (by kernel_rfl) ?_
    repeat (go_big_quiet_step ((go_at_call 94; exact past_below (HP2.out _ (Past.far _)))))
    refine wpQuiet_nil ?_
    intro xx
    have H3 := Lib.hid (H2.out.below xx.far)
    have HX3 := Lib.hid (HX2.out.below xx.far HX2.out.lt)
    have HY3 := Lib.hid (HY.out.below xx.far HY.out.lt)
    have HA3 := Lib.hid (HA2.out.trans (xx.far.mono HA2.out.size))
    have HB3 := Lib.hid (Nat.le_trans HB2.out xx.far.size)
    generalize xx.w = w3 at H3 HX3 HY3 HA3 HB3 ⊢
    clear c5 nl x2 gl H2 HX2 HY HA2 HB2 HP2
    go_upto_region 3 with fail
    refine wp_region_then 9 _ ?af rfl (by kernel_rfl) (by kernel_rfl) ?walk ?tail
    case walk =>
      intro V hV
      have q0 : Blk _ n 81 (netC M D S) := (H3.out.below hV).blk
      have c57 := q0.cell 57 rfl
      have nl := q0.lt
      clear q0
      have r0 := HX3.out.below hV HX3.out.lt
      have x1 := r0.cell 1 rfl
      have x2 := r0.cell 2 rfl
      have gl := r0.lt
      clear r0
      clear hV
      simp only [List.take_succ_cons, List.take_zero]
      repeat (go_big_quiet_step (fail))
      refine wpQuiet_nil ?_
      rfl
    intro w8 hb8
    have H8 := Lib.hid (H3.out.below hb8)
    have HY8 := Lib.hid (HY3.out.below hb8 HY3.out.lt)
    have HT := Lib.hid (Touch.of_below (S := NetOwn col base) (HA3.out.trans (hb8.mono HA3.out.size)))
    have HB8 := Lib.hid (Nat.le_trans HB3.out hb8.size)
    have HYP := Lib.hid (show ga ≠ M.pc from by have := HW.out.pc.lt; have := HGY.out; omega)
    clear hb8 H3 HX3 HY3 HB3
    refine wpO_mput rfl _ _ _ 76 rfl keyI Try.underlying76 H8.out.pc rfl x.s rfl x.a rfl ?_
    intro w9 hm9 ht9 hs9
    have H9 := Lib.hid (H8.out.toPc hm9 ht9).1
    have HT9 := Lib.hid (HT.out.trans (H8.out.toPc hm9 ht9).2)
    have HY9 := Lib.hid (HY8.out.touch ht9 (fun e => HYP.out e))
    have HB9 := Lib.hid (Nat.le_trans HB8.out ht9.size)
    clear hm9 ht9 hs9 H8 HY8 HT HB8
    refine wpQuiet_nil ?_
    intro xx
    have H4 := Lib.hid (H9.out.below xx.far)
    have HY4 := Lib.hid (HY9.out.below xx.far HY9.out.lt)
    have HT4 := Lib.hid (HT9.out.below xx.far)
    have HB4 := Lib.hid (Nat.le_trans HB9.out xx.far.size)
    generalize xx.w = w4 at H4 HY4 HT4 HB4 ⊢
    clear H9 HY9 HT9 HB9
    have y0 := HY4.out.cell 0 rfl
    have f0 := HY4.out.free 0
    have yl := HY4.out.lt
    go_upto_region 5 with fail
    have HTY : Touch (fun k => k = ga) w4 (w4.setCell ⟨ga, 0, none⟩ (.int .i64 4)) := (Touch.refl _ _).put 0 _
    have H5 := Lib.hid (H4.out.touch HTY (fun k hk e => HFR.out ga HGY.out (e ▸ hk)))
    have HY5 := Lib.hid (HY4.out.setCell 0 (.int .i64 4))
    have HT5 := Lib.hid (HT4.out.then HTY (fun k e => .inr (by rw [e]; exact HGY.out)))
    have HB5 := Lib.hid (Nat.le_trans HB4.out HTY.size)
    generalize w4.setCell ⟨ga, 0, none⟩ (.int .i64 4) = w5 at H5 HY5 HT5 HB5 ⊢
    clear HTY H4 HY4 HT4 HB4 y0 f0 yl
    have y0 := HY5.out.cell 0 rfl
    have y1 := HY5.out.cell 1 rfl
    have y2 := HY5.out.cell 2 rfl
    have y3 := HY5.out.cell 3 rfl
    have y4 := HY5.out.cell 4 rfl
    have yl := HY5.out.lt
    go_wp2_with (go_at_call 28; refine (tell_c H5.out HB5.out 5 (by omega) ⟨4, x.s, 0, 0, 0⟩).mono ?_; rintro e w6 ⟨rfl, hn⟩; have HN := Lib.hid (NetTo.before HT5.out hn); clear hn)
    exact bodyPost_end (v := .tuple #[]) (by simp [results, Try.results75, go_sem]) rfl ⟨rfl, HN.out⟩
  · have e0 : Nw.checked D S x = Nw.tell S 5 ⟨5, x.s, 0, 0, 0⟩ := by unfold Nw.checked; rw [if_neg hm]
    rw [e0]
    clear e0
    have al := (Below.refl w.heap.size w).alloc (Nat.le_refl _) (.cells #[.int .i64 x.k, .int .i64 x.s, .int .i64 x.a, .int .i64 x.b, .int .i64 x.c] 91)
    have HX := Lib.hid (Blk.new' w #[.int .i64 x.k, .int .i64 x.s, .int .i64 x.a, .int .i64 x.b, .int .i64 x.c] 91)
    have H1 := Lib.hid (h.below al)
    have HA := Lib.hid al
    have HW := Lib.hid h
    have HBB := Lib.hid (Nat.le_trans hB al.size)
    clear h al hB
    have PO := Lib.hid (fun V (hV : Below (w.alloc (.cells #[.int .i64 x.k, .int .i64 x.s, .int .i64 x.a, .int .i64 x.b, .int .i64 x.c] 91)).heap.size (w.alloc (.cells #[.int .i64 x.k, .int .i64 x.s, .int .i64 x.a, .int .i64 x.b, .int .i64 x.c] 91)) V) => owed_c (H1.out.below hV) x.a)
    generalize hov : Nw.owed S x.a = ov at hm PO
    clear hov
    have k1 : decide (ov ≤ D.cr) = false := by simpa using hm
    clear hm
    go_enter Try.func75, Try.ntmps75
    go_upto_region 1 with fail
    generalize w.alloc (.cells #[.int .i64 x.k, .int .i64 x.s, .int .i64 x.a, .int .i64 x.b, .int .i64 x.c] 91) = w1 at *
    obtain ⟨gb, hgb⟩ : ∃ gb, gb = w.heap.size := ⟨_, rfl⟩
    rw [← hgb] at HX ⊢
    have HG := Lib.hid hgb
    clear hgb
    have r0 := HX.out
    have x1 := r0.cell 1 rfl
    have gl := r0.lt
    clear r0
    go_upto_region 2 with fail
    have HY := Lib.hid (Blk.new' w1 #[.int .i64 5, .int .i64 x.s, .int .i64 0, .int .i64 0, .int .i64 0] 91)
    have al := (Below.refl w1.heap.size w1).alloc (Nat.le_refl _) (.cells #[.int .i64 5, .int .i64 x.s, .int .i64 0, .int .i64 0, .int .i64 0] 91)
    have H2 := Lib.hid (H1.out.below al)
    have HX2 := Lib.hid (HX.out.below al HX.out.lt)
    have HA2 := Lib.hid (HA.out.trans (al.mono HA.out.size))
    have HB2 := Lib.hid (Nat.le_trans HBB.out al.size)
    have HP2 := Lib.hid (fun V (hV : Below (w1.alloc (.cells #[.int .i64 5, .int .i64 x.s, .int .i64 0, .int .i64 0, .int .i64 0] 91)).heap.size (w1.alloc (.cells #[.int .i64 5, .int .i64 x.s, .int .i64 0, .int .i64 0, .int .i64 0] 91)) V) => PO.out V (al.trans (hV.mono al.size)))
    have HYG := Lib.hid (show w1.heap.size ≠ n from by have := H1.out.lt; omega)
    have HGY := Lib.hid (show w.heap.size ≤ w1.heap.size from HA.out.size)
    clear al PO x1 gl H1 HX HA HBB
    generalize w1.alloc (.cells #[.int .i64 5, .int .i64 x.s, .int .i64 0, .int .i64 0, .int .i64 0] 91) = w2 at HY H2 HX2 HA2 HB2 HP2 ⊢
    generalize w1.heap.size = ga at HY HYG HGY ⊢
    have q0 : Blk _ n 81 (netC M D S) := (H2.out).blk
    have c5 := q0.cell 5 rfl
    have nl := q0.lt
    clear q0
    have r0 := HX2.out
    have x2 := r0.cell 2 rfl
    have gl := r0.lt
    clear r0
    refine wp_region_past (by kernel_rfl) (by kernel_rfl) ?_
    repeat (go_big_quiet_step ((go_at_call 94; exact past_below (HP2.out _ (Past.far _)))))
    refine wpQuiet_nil ?_
    intro xx
    have H3 := Lib.hid (H2.out.below xx.far)
    have HX3 := Lib.hid (HX2.out.below xx.far HX2.out.lt)
    have HY3 := Lib.hid (HY.out.below xx.far HY.out.lt)
    have HA3 := Lib.hid (HA2.out.trans (xx.far.mono HA2.out.size))
    have HB3 := Lib.hid (Nat.le_trans HB2.out xx.far.size)
    generalize xx.w = w3 at H3 HX3 HY3 HA3 HB3 ⊢
    clear c5 nl x2 gl H2 HX2 HY HA2 HB2 HP2
    have y0 := HY3.out.cell 0 rfl
    have y1 := HY3.out.cell 1 rfl
    have y2 := HY3.out.cell 2 rfl
    have y3 := HY3.out.cell 3 rfl
    have y4 := HY3.out.cell 4 rfl
    have yl := HY3.out.lt
    go_wp2_with (go_at_call 28; refine (tell_c H3.out HB3.out 5 (by omega) ⟨5, x.s, 0, 0, 0⟩).mono ?_; rintro e w4 ⟨rfl, hn⟩; have HN := Lib.hid (NetTo.before (Touch.of_below HA3.out) hn); clear hn)
    exact bodyPost_end (v := .tuple #[]) (by simp [results, Try.results75, go_sem]) rfl ⟨rfl, HN.out⟩
set_option maxRecDepth 100000 in
set_option maxHeartbeats 4000000 in
theorem checked_c {w : World} {B n base : Nat} {col : Nat → Nat} {D : Dl} {M : Mem} {S : St} (h : NetAt w B n col base D M S) (hB : B ≤ w.heap.size) (x : Nt) :
    Calls Try.prog 75 #[.pointer (some ⟨n, 0, none⟩), .agg #[.int .i64 x.k, .int .i64 x.s, .int .i64 x.a, .int .i64 x.b, .int .i64 x.c]] w fun e w' => e = .returned (.tuple #[]) ∧ NetTo w B n col base D (Nw.checked D S x) w' := by
  exact (checked_0 h.recol hB x (fun k hk => fresh_not hk)).mono fun e w2 ⟨he, hn⟩ => ⟨he, hn.recol⟩
end Go.Proofs.Ytlklnaebdnahcaa
namespace Go.Proofs.Ytlklnaebdnahcaa
open Go.RowKit
def flatM {α : Type} (f : α → List Value) (l : List α) : List Value := l.flatMap f
theorem flatM_length {α : Type} {f : α → List Value} {s : Nat} (hf : ∀ x, (f x).length = s) : ∀ l : List α, (flatM f l).length = l.length * s
  | [] => by simp [flatM]
  | x :: l => by
    have := flatM_length hf l
    unfold flatM at *
    simp only [List.flatMap_cons, List.length_append, List.length_cons, hf, this, Nat.add_mul]
    omega
theorem flatM_get {α : Type} {f : α → List Value} {s : Nat} (hf : ∀ x, (f x).length = s) : ∀ (l : List α) (i j : Nat) (x : α), l[i]? = some x → j < s → (flatM f l)[i * s + j]? = (f x)[j]?
  | [], i, j, x, h, _ => by simp at h
  | y :: l, 0, j, x, h, hj => by
    simp only [List.getElem?_cons_zero, Option.some.injEq] at h
    subst h
    unfold flatM
    rw [List.flatMap_cons, Nat.zero_mul, Nat.zero_add, List.getElem?_append_left (by rw [hf]; exact hj)]
  | y :: l, i + 1, j, x, h, hj => by
    simp only [List.getElem?_cons_succ] at h
    have ih := flatM_get hf l i j x h hj
    unfold flatM at *
    rw [List.flatMap_cons, List.getElem?_append_right (by rw [hf, Nat.add_mul]; omega), hf]
    rw [← ih]
    congr 1
    rw [Nat.add_mul]; omega
theorem flatM_set {α : Type} {f : α → List Value} {s : Nat} (hf : ∀ x, (f x).length = s) (j : Nat) (v : Value) (hj : j < s) : ∀ (l : List α) (i : Nat) (x y : α), l[i]? = some y → f x = (f y).set j v → (flatM f l).set (i * s + j) v = flatM f (l.set i x)
  | [], i, x, y, h, _ => by simp at h
  | z :: l, 0, x, y, h, he => by
    simp only [List.getElem?_cons_zero, Option.some.injEq] at h
    subst h
    unfold flatM
    rw [List.flatMap_cons, Nat.zero_mul, Nat.zero_add, List.set_append_left _ _ (by rw [hf]; exact hj), List.set_cons_zero, List.flatMap_cons, he]
  | z :: l, i + 1, x, y, h, he => by
    simp only [List.getElem?_cons_succ] at h
    have ih := flatM_set hf j v hj l i x y h he
    unfold flatM at *
    rw [List.flatMap_cons, List.set_cons_succ, List.flatMap_cons, List.set_append_right _ _ (by rw [hf, Nat.add_mul]; omega), hf, ← ih]
    congr 2
    rw [Nat.add_mul]; omega
theorem flatM_append {α : Type} (f : α → List Value) (a b : List α) : flatM f (a ++ b) = flatM f a ++ flatM f b := by simp [flatM]
theorem flatM_take {α : Type} {f : α → List Value} {s : Nat} (hf : ∀ x, (f x).length = s) : ∀ (l : List α) (k : Nat), (flatM f l).take (k * s) = flatM f (l.take k)
  | [], k => by simp [flatM]
  | x :: l, 0 => by simp [flatM]
  | x :: l, k + 1 => by
    have ih := flatM_take hf l k
    unfold flatM at *
    rw [List.flatMap_cons, List.take_succ_cons, List.flatMap_cons, ← ih, List.take_append, hf]
    have h1 : (f x).take ((k + 1) * s) = f x := List.take_of_length_le (by rw [hf, Nat.add_mul]; omega)
    rw [h1]
    congr 2
    rw [Nat.add_mul]; omega
theorem getElem_D {α : Type} (l : List α) (i : Nat) (d : α) (h : i < l.length) : l[i]? = some (l.getD i d) := by
  rw [List.getD_eq_getElem?_getD, List.getElem?_eq_getElem h]; rfl
def OwnR {α : Type} (f : α → List Value) (e : TypeId) (s : Nat) (B : Nat) (W : World) (A : Option Addr) (c : Nat) (l : List α) : Prop := W.ownsRow B e s (.slice A l.length c) l.length (flatM f l)
section
variable {α : Type} {f : α → List Value} {e : TypeId} {s B : Nat} {W W' : World} {g c : Nat} {l : List α} {A : Option Addr}
theorem OwnR.cell (hf : ∀ x, (f x).length = s) (h : OwnR f e s B W (some ⟨g, 0, none⟩) c l) (i j : Nat) (x : α) (hx : l[i]? = some x) (hj : j < s) : W.cell? ⟨g, i * s + j, none⟩ = (f x)[j]? := by
  have hi : i < l.length := (List.getElem?_eq_some_iff.1 hx).1
  have : i * s + j < l.length * s := by
    have := Nat.mul_le_mul_right s (show i + 1 ≤ l.length from hi)
    rw [Nat.add_mul] at this
    omega
  rw [World.ownsRow.cellAt h _ this, flatM_get hf l i j x hx hj]
theorem OwnR.free (h : OwnR f e s B W (some ⟨g, 0, none⟩) c l) (j : Nat) : W.frozen? ⟨g, j, none⟩ = false := World.ownsRow.frozenAt h j
theorem OwnR.put (hf : ∀ x, (f x).length = s) (h : OwnR f e s B W (some ⟨g, 0, none⟩) c l) (i j : Nat) (x y : α) (v : Value) (hy : l[i]? = some y) (hj : j < s) (he : f x = (f y).set j v) : OwnR f e s B (W.setCell ⟨g, i * s + j, none⟩ v) (some ⟨g, 0, none⟩) c (l.set i x) := by
  have := (World.ownsRow.stored h (i * s + j) v).1
  unfold OwnR
  rw [List.length_set, ← flatM_set hf j v hj l i x y hy he]
  exact this
theorem OwnR.below (h : OwnR f e s B W A c l) (hb : Below W.heap.size W W') : OwnR f e s B W' A c l := rowE_below h hb
theorem OwnR.touch {S : Nat → Prop} (h : OwnR f e s B W A c l) (k : Touch S W W') (hn : ∀ b, OwnB A b → ¬ S b) : OwnR f e s B W' A c l := rowE_keep h k hn
theorem OwnR.lt (h : OwnR f e s B W (some ⟨g, 0, none⟩) c l) : B ≤ g ∧ g < W.heap.size := World.ownsRow.lt h g rfl
theorem OwnR.mono {B' : Nat} (h : OwnR f e s B W A c l) (hb : B' ≤ B) : OwnR f e s B' W A c l := ⟨h.1, h.2.imp id (fun ⟨k, c, cur, hv, hb', r⟩ => ⟨k, c, cur, hv, Nat.le_trans hb hb', r⟩)⟩
theorem OwnR.form (h : OwnR f e s B W A c l) (hn : 0 < l.length) : ∃ g, A = some ⟨g, 0, none⟩ ∧ B ≤ g ∧ g < W.heap.size ∧ l.length ≤ c ∧ c ≤ 9223372036854775807 := by
  rcases h.2 with ⟨h0, h1⟩ | ⟨g, cap', cur, hv, hb, hg, hn', hcm, _⟩
  · omega
  · cases hv
    exact ⟨g, rfl, hb, (Array.getElem?_eq_some_iff.1 hg).1, hn', by unfold maxLen at hcm; omega⟩
end
end Go.Proofs.Ytlklnaebdnahcaa
namespace Go.Proofs.Ytlklnaebdnahcaa
open Go.RowKit Nw
theorem ac_len (a : Nw.Ac) : (Nw.Ac.vals a).length = 6 := rfl
theorem NetAt.acR {w : World} {B n base : Nat} {col : Nat → Nat} {D : Dl} {M : Mem} {S : St} (h : NetAt w B n col base D M S) : OwnR Nw.Ac.vals 100 6 B w M.aA M.ac S.ac := h.ac
theorem acC {W : World} {B g c : Nat} {l : List Nw.Ac} (h : OwnR Nw.Ac.vals 100 6 B W (some ⟨g, 0, none⟩) c l) {i : Nat} {a : Nw.Ac} (ha : l[i]? = some a) :
    W.cell? ⟨g, i * 6, none⟩ = some (.int .i64 a.bl.s) ∧ W.cell? ⟨g, i * 6 + 1, none⟩ = some (.int .i64 a.bl.i) ∧ W.cell? ⟨g, i * 6 + 2, none⟩ = some (.int .i64 a.bl.b) ∧ W.cell? ⟨g, i * 6 + 3, none⟩ = some (.int .i64 a.bl.a) ∧ W.cell? ⟨g, i * 6 + 4, none⟩ = some (.bool a.op) ∧ W.cell? ⟨g, i * 6 + 5, none⟩ = some (.bool a.dn) :=
  ⟨h.cell ac_len i 0 a ha (by omega), h.cell ac_len i 1 a ha (by omega), h.cell ac_len i 2 a ha (by omega), h.cell ac_len i 3 a ha (by omega), h.cell ac_len i 4 a ha (by omega), h.cell ac_len i 5 a ha (by omega)⟩
namespace Nw
theorem fnd_lt {s : Int} : ∀ {l : List Ac} {j : Nat}, fnd s l = some j → j < l.length ∧ (l.getD j default).bl.s = s ∧ (l.getD j default).op = true
  | [], j, h => by simp [fnd] at h
  | a :: l, j, h => by
    unfold fnd at h
    split at h
    · rename_i hc
      cases h
      exact ⟨by simp, hc.1, hc.2⟩
    · cases hf : fnd s l with
      | none => rw [hf] at h; simp at h
      | some k =>
        rw [hf] at h
        simp at h
        subst h
        have := fnd_lt hf
        exact ⟨by simp; omega, by simpa using this.2.1, by simpa using this.2.2⟩
def noneB (s : Int) (l : List Ac) (k : Nat) : Prop := ∀ i, i < k → ¬ ((l.getD i default).bl.s = s ∧ (l.getD i default).op = true)
theorem fnd_at {s : Int} : ∀ {l : List Ac} {k : Nat}, noneB s l k → k < l.length → (l.getD k default).bl.s = s ∧ (l.getD k default).op = true → fnd s l = some k
  | [], k, _, h, _ => by simp at h
  | a :: l, 0, _, _, h => by unfold fnd; rw [if_pos (show a.bl.s = s ∧ a.op = true from h)]
  | a :: l, k + 1, hn, hk, h => by
    have h0 : ¬ (a.bl.s = s ∧ a.op = true) := hn 0 (by omega)
    unfold fnd
    rw [if_neg h0, fnd_at (k := k) (fun i hi => by have := hn (i + 1) (by omega); simpa using this) (by simpa using hk) (by simpa using h)]
    rfl
theorem fnd_no {s : Int} : ∀ {l : List Ac}, noneB s l l.length → fnd s l = none
  | [], _ => rfl
  | a :: l, hn => by
    have h0 : ¬ (a.bl.s = s ∧ a.op = true) := hn 0 (by simp)
    unfold fnd
    rw [if_neg h0, fnd_no (fun i hi => by have := hn (i + 1) (by simpa using hi); simpa using this)]
    rfl
end Nw
def fndV (A : Option Addr) : Option Nat → Value
  | none => .pointer none
  | some j => .pointer (A.map fun a => ⟨a.block, j * 6, none⟩)
set_option maxRecDepth 100000 in
set_option maxHeartbeats 4000000 in
theorem find_c {w : World} {B n base : Nat} {col : Nat → Nat} {D : Dl} {M : Mem} {S : St} (h : NetAt w B n col base D M S) (s : Int) :
    Calls Try.prog 92 #[.pointer (some ⟨n, 53, none⟩), .int .i64 s] w fun e w' => e = .returned (fndV M.aA (fnd s S.ac)) ∧ w = w' := by
  have H := Lib.hid h
  have c54 := h.blk.cell 54 rfl
  have nl := h.lt
  have HR := Lib.hid h.acR
  obtain ⟨m, hm⟩ : ∃ m, m = S.ac.length := ⟨_, rfl⟩
  rw [← hm] at c54
  have HM := Lib.hid hm
  clear h hm
  go_enter Try.func92, Try.ntmps92
  go_wp2_with fail
  go_loopw [12] (fun v wr => ∃ k : Nat, k ≤ m ∧ v = .int .i64 k ∧ Hid (noneB s S.ac k) ∧ w = wr) (fun v _ => m - (intOf v).toNat)
  case atStart => exact ⟨0, Nat.zero_le _, rfl, Lib.hid (fun i hi => absurd hi (Nat.not_lt_zero _)), rfl⟩
  case round =>
    obtain ⟨k, hk, rfl, HN, rfl⟩ := hrel
    by_cases hlt : k < m
    · obtain ⟨g, hA, hBg, hgl, hcap, hcm⟩ := HR.out.form (by have := HM.out; omega)
      rw [hA] at c54
      have HA := Lib.hid hA
      have HRR := Lib.hid HR.out
      rw [hA] at HRR
      have hka : S.ac[k]? = some (S.ac.getD k default) := getElem_D S.ac k default (by have := HM.out; omega)
      obtain ⟨a0, a1, a2, a3, a4, a5⟩ := acC HRR.out hka
      generalize hx : S.ac.getD k default = x at a0 a1 a2 a3 a4 a5
      have HX := Lib.hid hx
      have hmc : m ≤ M.ac := by rw [HM.out]; exact hcap
      have hki : (k : Int) < (m : Int) := by omega
      clear hx hka hA hBg hcap a1 a2 a3 a5
      have HNEXT : Hid (¬ (x.bl.s = s ∧ x.op = true) → noneB s S.ac (k + 1)) := Lib.hid (fun hno i hi => by
        by_cases e : i = k
        · rw [e, HX.out]; exact hno
        · exact HN.out i (by omega))
      have HFOUND : Hid (x.bl.s = s ∧ x.op = true → fnd s S.ac = some k) := Lib.hid (fun hy => fnd_at HN.out (by have := HM.out; omega) (by rw [HX.out]; exact hy))
      generalize hxo : x.op = xo at a4
      have HXO := Lib.hid hxo
      clear hxo
      by_cases hs : x.bl.s = s
      · have k1 : (x.bl.s == s) = true := by simpa using hs
        have HS := Lib.hid hs
        clear hs
        cases xo with
        | true =>
          go_wp2_with fail
          go_ret
          rw [HFOUND.out ⟨HS.out, HXO.out⟩]
          exact ⟨by unfold fndV; rw [HA.out]; rfl, rfl⟩
        | false =>
          go_wp2_with fail
          exact ⟨⟨k + 1, by omega, by simp, Lib.hid (HNEXT.out (fun e => by rw [HXO.out] at e; exact absurd e.2 (by decide))), trivial⟩, by simp only [intOf]; omega⟩
      · have k1 : (x.bl.s == s) = false := by simpa using hs
        have HS := Lib.hid hs
        clear hs
        go_wp2_with fail
        exact ⟨⟨k + 1, by omega, by simp, Lib.hid (HNEXT.out (fun e => HS.out e.1)), trivial⟩, by simp only [intOf]; omega⟩
    · have hkm : k = m := by omega
      subst hkm
      go_wp2_with fail
      go_ret
      rw [fnd_no (by rw [← HM.out]; exact HN.out)]
      exact ⟨rfl, rfl⟩
theorem NetAt.acPut {w : World} {B n base : Nat} {col : Nat → Nat} {D : Dl} {M : Mem} {S : St} {g : Nat} (h : NetAt w B n col base D M S) (hA : M.aA = some ⟨g, 0, none⟩) (i j : Nat) (x y : Nw.Ac) (v : Value) (hy : S.ac[i]? = some y) (hj : j < 6) (he : Nw.Ac.vals x = (Nw.Ac.vals y).set j v) :
    NetAt (w.setCell ⟨g, i * 6 + j, none⟩ v) B n col base D M { S with ac := S.ac.set i x } ∧ Touch (NetOwn col base) w (w.setCell ⟨g, i * 6 + j, none⟩ v) := by
  have hR := h.acR
  rw [hA] at hR
  have hc : col g = base + 13 := h.acc g ⟨_, hA, rfl⟩
  have ht : Touch (fun k => k = g) w (w.setCell ⟨g, i * 6 + j, none⟩ v) := (Touch.refl _ _).put _ _
  have hne : ¬ (n = g) := fun e => by rw [← e, h.c0] at hc; omega
  have h2 := hR.put ac_len i j x y v hy hj he
  rw [← hA] at h2
  have hb := h.blk.touch ht hne
  have hl : (S.ac.set i x).length = S.ac.length := List.length_set
  have h3 := h.setAc (col' := col) (fun _ _ => rfl) (A' := M.aA) (c' := M.ac) (l' := S.ac.set i x) h2 (fun k hk => h.acc k hk) (ht.mono (fun k e => .inr (by rw [e]; exact hc))) (by
    have e : netC { M with aA := M.aA, ac := M.ac } D { S with ac := S.ac.set i x } = netC M D S := by unfold netC; rw [hl]
    rw [e]; exact hb)
  exact ⟨h3, ht.mono (fun k e => by rw [e]; unfold NetOwn; omega)⟩
set_option maxRecDepth 100000 in
set_option maxHeartbeats 4000000 in
theorem denied_c {w : World} {B n base : Nat} {col : Nat → Nat} {D : Dl} {M : Mem} {S : St} (h : NetAt w B n col base D M S) (hB : B ≤ w.heap.size) (x : Nt) :
    Calls Try.prog 74 #[.pointer (some ⟨n, 0, none⟩), .agg #[.int .i64 x.k, .int .i64 x.s, .int .i64 x.a, .int .i64 x.b, .int .i64 x.c]] w fun e w' => e = .returned (.tuple #[]) ∧ NetTo w B n col base D (Nw.denied S x) w' := by
  cases hf : fnd x.s S.ac with
  | none =>
    have e0 : Nw.denied S x = Nw.tell S 3 ⟨7, x.s, 0, 0, 0⟩ := by unfold Nw.denied; rw [hf]
    rw [e0]
    clear e0
    have HF := Lib.hid hf
    clear hf
    have al := (Below.refl w.heap.size w).alloc (Nat.le_refl _) (.cells #[.int .i64 x.k, .int .i64 x.s, .int .i64 x.a, .int .i64 x.b, .int .i64 x.c] 91)
    have HX := Lib.hid (Blk.new' w #[.int .i64 x.k, .int .i64 x.s, .int .i64 x.a, .int .i64 x.b, .int .i64 x.c] 91)
    have H1 := Lib.hid (h.below al)
    have HA := Lib.hid al
    have HW := Lib.hid h
    have HBB := Lib.hid (Nat.le_trans hB al.size)
    clear h al hB
    go_enter Try.func74, Try.ntmps74
    go_upto_region 1 with fail
    generalize w.alloc (.cells #[.int .i64 x.k, .int .i64 x.s, .int .i64 x.a, .int .i64 x.b, .int .i64 x.c] 91) = w1 at *
    obtain ⟨gb, hgb⟩ : ∃ gb, gb = w.heap.size := ⟨_, rfl⟩
    rw [← hgb] at HX ⊢
    have HG := Lib.hid hgb
    clear hgb
    refine wp_region_then 5 _ ?af1 rfl (by kernel_rfl) (by kernel_rfl) ?walk1 ?tail1
    case walk1 =>
      intro V hV
      have q0 : Blk _ n 81 (netC M D S) := (H1.out.below hV).blk
      have nl := q0.lt
      clear q0
      have r0 := HX.out.below hV HX.out.lt
      have x1 := r0.cell 1 rfl
      have gl := r0.lt
      clear r0
      clear hV
      simp only [List.take_succ_cons, List.take_zero]
      repeat (go_big_quiet_step (fail))
      refine wpQuiet_nil ?_
      rfl
    intro w8 hb8
    have H8 := Lib.hid (H1.out.below hb8)
    have HX8 := Lib.hid (HX.out.below hb8 HX.out.lt)
    have HA8 := Lib.hid (HA.out.trans (hb8.mono HA.out.size))
    have HB8 := Lib.hid (Nat.le_trans HBB.out hb8.size)
    clear hb8
    go_simp
    refine (find_c H8.out x.s).mono ?_
    rintro e w9 ⟨rfl, rfl⟩
    rw [HF.out]
    dsimp only
    go_big_quiet_step (fail)
    refine wpQuiet_nil ?_
    intro xx
    have H2 := Lib.hid (H8.out.below xx.far)
    have HX2 := Lib.hid (HX8.out.below xx.far HX8.out.lt)
    have HA2 := Lib.hid (HA8.out.trans (xx.far.mono HA8.out.size))
    have HB2 := Lib.hid (Nat.le_trans HB8.out xx.far.size)
    generalize xx.w = w2 at H2 HX2 HA2 HB2 ⊢
    clear H8 HX8 HA8 HB8 H1 HX HA HBB
    simp only [fndV]
    have r0 := HX2.out
    have x1 := r0.cell 1 rfl
    have gl := r0.lt
    clear r0
    go_wp2_with (go_at_call 28; refine (tell_c H2.out HB2.out 3 (by omega) ⟨7, x.s, 0, 0, 0⟩).mono ?_; rintro e w4 ⟨rfl, hn⟩; have HN := Lib.hid (NetTo.before (Touch.of_below HA2.out) hn); clear hn)
    exact bodyPost_end (v := .tuple #[]) (by simp [results, Try.results74, go_sem]) rfl ⟨rfl, HN.out⟩
  | some j =>
    have e0 : Nw.denied S x = Nw.tell { S with ac := S.ac.set j { S.ac.getD j default with op := false } } 3 ⟨7, x.s, 0, 0, 0⟩ := by unfold Nw.denied; rw [hf]
    rw [e0]
    clear e0
    have HF := Lib.hid hf
    have HJ := Lib.hid (fnd_lt hf)
    clear hf
    obtain ⟨g, hA, hBg, hgl, hcap, hcm⟩ := h.acR.form (by have := HJ.out.1; omega)
    have HAG := Lib.hid hA
    have HGW := Lib.hid hgl
    have HAJ := Lib.hid (getElem_D S.ac j default HJ.out.1)
    clear hA hBg hgl hcap hcm
    have al := (Below.refl w.heap.size w).alloc (Nat.le_refl _) (.cells #[.int .i64 x.k, .int .i64 x.s, .int .i64 x.a, .int .i64 x.b, .int .i64 x.c] 91)
    have HX := Lib.hid (Blk.new' w #[.int .i64 x.k, .int .i64 x.s, .int .i64 x.a, .int .i64 x.b, .int .i64 x.c] 91)
    have H1 := Lib.hid (h.below al)
    have HA := Lib.hid al
    have HW := Lib.hid h
    have HBB := Lib.hid (Nat.le_trans hB al.size)
    clear h al hB
    go_enter Try.func74, Try.ntmps74
    go_upto_region 1 with fail
    generalize w.alloc (.cells #[.int .i64 x.k, .int .i64 x.s, .int .i64 x.a, .int .i64 x.b, .int .i64 x.c] 91) = w1 at *
    obtain ⟨gb, hgb⟩ : ∃ gb, gb = w.heap.size := ⟨_, rfl⟩
    rw [← hgb] at HX ⊢
    have HG := Lib.hid hgb
    clear hgb
    have HGL := Lib.hid (show g ≠ gb from by have := HGW.out; have := HG.out; omega)
    refine wp_region_then 5 _ ?af2 rfl (by kernel_rfl) (by kernel_rfl) ?walk2 ?tail2
    case walk2 =>
      intro V hV
      have q0 : Blk _ n 81 (netC M D S) := (H1.out.below hV).blk
      have nl := q0.lt
      clear q0
      have r0 := HX.out.below hV HX.out.lt
      have x1 := r0.cell 1 rfl
      have gl := r0.lt
      clear r0
      clear hV
      simp only [List.take_succ_cons, List.take_zero]
      repeat (go_big_quiet_step (fail))
      refine wpQuiet_nil ?_
      rfl
    intro w8 hb8
    have H8 := Lib.hid (H1.out.below hb8)
    have HX8 := Lib.hid (HX.out.below hb8 HX.out.lt)
    have HA8 := Lib.hid (HA.out.trans (hb8.mono HA.out.size))
    have HB8 := Lib.hid (Nat.le_trans HBB.out hb8.size)
    clear hb8
    go_simp
    refine (find_c H8.out x.s).mono ?_
    rintro e w9 ⟨rfl, rfl⟩
    rw [HF.out]
    dsimp only
    go_big_quiet_step (fail)
    refine wpQuiet_nil ?_
    intro xx
    have H2 := Lib.hid (H8.out.below xx.far)
    have HX2 := Lib.hid (HX8.out.below xx.far HX8.out.lt)
    have HA2 := Lib.hid (HA8.out.trans (xx.far.mono HA8.out.size))
    have HB2 := Lib.hid (Nat.le_trans HB8.out xx.far.size)
    generalize xx.w = w2 at H2 HX2 HA2 HB2 ⊢
    clear H8 HX8 HA8 HB8 H1 HX HA HBB
    simp only [fndV, HAG.out, Option.map_some]
    have HR := H2.out.acR
    rw [HAG.out] at HR
    obtain ⟨a0, a1, a2, a3, a4, a5⟩ := acC HR HAJ.out
    have f4 := HR.free (j * 6 + 4)
    have gl2 := (HR.lt).2
    clear HR a0 a1 a2 a3 a5
    go_upto_region 4 with fail
    have PT := H2.out.acPut HAG.out j 4 { S.ac.getD j default with op := false } (S.ac.getD j default) (.bool false) HAJ.out (by omega) rfl
    have H3 := Lib.hid PT.1
    have HT3 := Lib.hid ((Touch.of_below (S := NetOwn col base) HA2.out).trans PT.2)
    have HX3 := Lib.hid (HX2.out.setCell_ne (p := ⟨g, j * 6 + 4, none⟩) (fun e => HGL.out e.symm) (.bool false))
    have HB3 := Lib.hid (Nat.le_trans HB2.out PT.2.size)
    clear PT
    generalize w2.setCell ⟨g, j * 6 + 4, none⟩ (.bool false) = w3 at H3 HT3 HX3 HB3 ⊢
    clear a4 f4 gl2 H2 HX2 HA2 HB2
    have r0 := HX3.out
    have x1 := r0.cell 1 rfl
    have gl := r0.lt
    clear r0
    go_wp2_with (go_at_call 28; refine (tell_c H3.out HB3.out 3 (by omega) ⟨7, x.s, 0, 0, 0⟩).mono ?_; rintro e w4 ⟨rfl, hn⟩; have HN := Lib.hid (NetTo.before HT3.out hn); clear hn)
    exact bodyPost_end (v := .tuple #[]) (by simp [results, Try.results74, go_sem]) rfl ⟨rfl, HN.out⟩
end Go.Proofs.Ytlklnaebdnahcaa
namespace Go.Proofs.Ytlklnaebdnahcaa
open Go.RowKit Nw
theorem Nw.set_at {l : List Nw.Ac} {j : Nat} (a : Nw.Ac) (h : j < l.length) : (l.set j a)[j]? = some a := List.getElem?_set_self h
set_option maxRecDepth 100000 in
set_option maxHeartbeats 4000000 in
theorem recorded_0 {w : World} {B n base : Nat} {col : Nat → Nat} {D : Dl} {M : Mem} {S : St} (h : NetAt w B n col base D M S) (hB : B ≤ w.heap.size) (x : Nt) (hfr : ∀ k, w.heap.size ≤ k → ¬ NetOwn col base k) :
    Calls Try.prog 71 #[.pointer (some ⟨n, 0, none⟩), .agg #[.int .i64 x.k, .int .i64 x.s, .int .i64 x.a, .int .i64 x.b, .int .i64 x.c]] w fun e w' => e = .returned (.tuple #[]) ∧ NetTo w B n col base D (Nw.recorded D S x) w' := by
  have HFR := Lib.hid hfr
  clear hfr
  cases hf : fnd x.s S.ac with
  | none =>
    have e0 : Nw.recorded D S x = S := by unfold Nw.recorded; rw [hf]
    rw [e0]
    clear e0
    have HF := Lib.hid hf
    clear hf
    have al := (Below.refl w.heap.size w).alloc (Nat.le_refl _) (.cells #[.int .i64 x.k, .int .i64 x.s, .int .i64 x.a, .int .i64 x.b, .int .i64 x.c] 91)
    have HX := Lib.hid (Blk.new' w #[.int .i64 x.k, .int .i64 x.s, .int .i64 x.a, .int .i64 x.b, .int .i64 x.c] 91)
    have H1 := Lib.hid (h.below al)
    have HA := Lib.hid al
    have HW := Lib.hid h
    have HBB := Lib.hid (Nat.le_trans hB al.size)
    clear h al hB
    go_enter Try.func71, Try.ntmps71
    go_upto_region 1 with fail
    generalize w.alloc (.cells #[.int .i64 x.k, .int .i64 x.s, .int .i64 x.a, .int .i64 x.b, .int .i64 x.c] 91) = w1 at *
    obtain ⟨gb, hgb⟩ : ∃ gb, gb = w.heap.size := ⟨_, rfl⟩
    rw [← hgb] at HX ⊢
    have HG := Lib.hid hgb
    clear hgb
    refine wp_region_then 5 _ ?af1 rfl (by kernel_rfl) (by kernel_rfl) ?walk1 ?tail1
    case walk1 =>
      intro V hV
      have q0 : Blk _ n 81 (netC M D S) := (H1.out.below hV).blk
      have nl := q0.lt
      clear q0
      have r0 := HX.out.below hV HX.out.lt
      have x1 := r0.cell 1 rfl
      have gl := r0.lt
      clear r0
      clear hV
      simp only [List.take_succ_cons, List.take_zero]
      repeat (go_big_quiet_step (fail))
      refine wpQuiet_nil ?_
      rfl
    intro w8 hb8
    have H8 := Lib.hid (H1.out.below hb8)
    have HX8 := Lib.hid (HX.out.below hb8 HX.out.lt)
    have HA8 := Lib.hid (HA.out.trans (hb8.mono HA.out.size))
    have HB8 := Lib.hid (Nat.le_trans HBB.out hb8.size)
    clear hb8
    go_simp
    refine (find_c H8.out x.s).mono ?_
    rintro e w9 ⟨rfl, rfl⟩
    rw [HF.out]
    dsimp only
    go_big_quiet_step (fail)
    refine wpQuiet_nil ?_
    intro xx
    have H2 := Lib.hid (H8.out.below xx.far)
    have HX2 := Lib.hid (HX8.out.below xx.far HX8.out.lt)
    have HA2 := Lib.hid (HA8.out.trans (xx.far.mono HA8.out.size))
    have HB2 := Lib.hid (Nat.le_trans HB8.out xx.far.size)
    generalize xx.w = w2 at H2 HX2 HA2 HB2 ⊢
    clear H8 HX8 HA8 HB8 H1 HX HA HBB
    simp only [fndV]
    go_wp2_with fail
    exact bodyPost_ret (v := .tuple #[]) (by simp [results, Try.results71, go_sem]) rfl ⟨rfl, NetTo.same HW.out HA2.out⟩
  | some j =>
    have HF := Lib.hid hf
    have HJ := Lib.hid (fnd_lt hf)
    obtain ⟨g, hA, hBg, hgl, hcap, hcm⟩ := h.acR.form (by have := HJ.out.1; omega)
    have HAG := Lib.hid hA
    have HGW := Lib.hid hgl
    have hAJ := getElem_D S.ac j default HJ.out.1
    have hAE := (rfl : acAdd D x (S.ac.getD j default) = acAdd D x (S.ac.getD j default))
    obtain ⟨a, ha⟩ : ∃ a, a = S.ac.getD j default := ⟨_, rfl⟩
    rw [← ha] at hAJ
    have HAJ := Lib.hid hAJ
    obtain ⟨cv, hcv⟩ : ∃ cv, cv = Nw.cost D x := ⟨_, rfl⟩
    have hac : acAdd D x a = ⟨⟨a.bl.s, wrap64 (a.bl.i + x.a), wrap64 (a.bl.b + x.b), wrap64 (a.bl.a + cv)⟩, a.op, a.dn⟩ := by rw [hcv]; rfl
    have HCV := Lib.hid hcv
    have HDE : Hid (D.bs.length ≤ M.bc ∧ M.bc ≤ 9223372036854775807) := Lib.hid ⟨h.cap.1, h.cap.2.1⟩
    clear hA hBg hgl hcap hcm hAJ hcv hAE
    by_cases hk : x.k = 9
    · have e0 : Nw.recorded D S x = Nw.tell { S with ac := S.ac.set j (acAdd D x a) } 3 ⟨10, x.s, 0, 0, 0⟩ := by unfold Nw.recorded; rw [hf]; dsimp only; rw [if_pos hk, ← ha]
      rw [e0, hac]
      clear e0 hac hf
      have HK := Lib.hid hk
      clear hk ha
      have al := (Below.refl w.heap.size w).alloc (Nat.le_refl _) (.cells #[.int .i64 x.k, .int .i64 x.s, .int .i64 x.a, .int .i64 x.b, .int .i64 x.c] 91)
      have HX := Lib.hid (Blk.new' w #[.int .i64 x.k, .int .i64 x.s, .int .i64 x.a, .int .i64 x.b, .int .i64 x.c] 91)
      have H1 := Lib.hid (h.below al)
      have HA := Lib.hid al
      have HW := Lib.hid h
      have HBB := Lib.hid (Nat.le_trans hB al.size)
      clear h al hB
      go_enter Try.func71, Try.ntmps71
      go_upto_region 1 with fail
      generalize w.alloc (.cells #[.int .i64 x.k, .int .i64 x.s, .int .i64 x.a, .int .i64 x.b, .int .i64 x.c] 91) = w1 at *
      obtain ⟨gb, hgb⟩ : ∃ gb, gb = w.heap.size := ⟨_, rfl⟩
      rw [← hgb] at HX ⊢
      have HG := Lib.hid hgb
      clear hgb
      have HGL := Lib.hid (show g ≠ gb from by have := HGW.out; have := HG.out; omega)
      refine wp_region_then 5 _ ?affp rfl (by kernel_rfl) (by kernel_rfl) ?walkfp ?tailfp
      case walkfp =>
        intro V hV
        have q0 : Blk _ n 81 (netC M D S) := (H1.out.below hV).blk
        have nl := q0.lt
        clear q0
        have r0 := HX.out.below hV HX.out.lt
        have x1 := r0.cell 1 rfl
        have gl := r0.lt
        clear r0
        clear hV
        simp only [List.take_succ_cons, List.take_zero]
        repeat (go_big_quiet_step (fail))
        refine wpQuiet_nil ?_
        rfl
      intro w8 hb8
      have H8 := Lib.hid (H1.out.below hb8)
      have HX8 := Lib.hid (HX.out.below hb8 HX.out.lt)
      have HA8 := Lib.hid (HA.out.trans (hb8.mono HA.out.size))
      have HB8 := Lib.hid (Nat.le_trans HBB.out hb8.size)
      clear hb8
      go_simp
      refine (find_c H8.out x.s).mono ?_
      rintro e w9 ⟨rfl, rfl⟩
      rw [HF.out]
      dsimp only
      go_big_quiet_step (fail)
      refine wpQuiet_nil ?_
      intro xx
      have H2 := Lib.hid (H8.out.below xx.far)
      have HX2 := Lib.hid (HX8.out.below xx.far HX8.out.lt)
      have HA2 := Lib.hid (HA8.out.trans (xx.far.mono HA8.out.size))
      have HB2 := Lib.hid (Nat.le_trans HB8.out xx.far.size)
      generalize xx.w = w2 at H2 HX2 HA2 HB2 ⊢
      clear H8 HX8 HA8 HB8 H1 HX HA HBB
      simp only [fndV, HAG.out, Option.map_some]
      go_upto_region 3 with fail
      refine wp_region_then 11 _ ?af3p rfl (by kernel_rfl) (by kernel_rfl) ?walk3p ?tail3p
      case walk3p =>
        intro V hV
        have q0 : Blk _ n 81 (netC M D S) := (H2.out.below hV).blk
        have c1 := q0.cell 1 rfl
        have c2 := q0.cell 2 rfl
        have c3 := q0.cell 3 rfl
        have nl := q0.lt
        clear q0
        have r0 := HX2.out.below hV HX2.out.lt
        have x2 := r0.cell 2 rfl
        have x3 := r0.cell 3 rfl
        have x4 := r0.cell 4 rfl
        have gl := r0.lt
        clear r0
        clear hV
        simp only [List.take_succ_cons, List.take_zero]
        repeat (go_big_quiet_step (fail))
        refine wpQuiet_nil ?_
        rfl
      intro w8 hb8
      have H8 := Lib.hid (H2.out.below hb8)
      have HX8 := Lib.hid (HX2.out.below hb8 HX2.out.lt)
      have HA8 := Lib.hid (HA2.out.trans (hb8.mono HA2.out.size))
      have HB8 := Lib.hid (Nat.le_trans HB2.out hb8.size)
      clear hb8 H2 HX2 HA2 HB2
      go_simp
      refine (Cost_c D.day D.fee M.bA D.bs M.bc x.c x.a x.b w8 HDE.out.1 HDE.out.2 H8.out.de.1).mono ?_
      rintro e w9 ⟨rfl, hb9⟩
      have H9 := Lib.hid (H8.out.below hb9)
      have HX9 := Lib.hid (HX8.out.below hb9 HX8.out.lt)
      have HA9 := Lib.hid (HA8.out.trans (hb9.mono HA8.out.size))
      have HB9 := Lib.hid (Nat.le_trans HB8.out hb9.size)
      clear hb9 H8 HX8 HA8 HB8
      rw [show Cv.coV D.day D.fee D.bs x.c x.a x.b = cv from HCV.out.symm]
      generalize Cv.coE D.day D.fee D.bs x.c x.a x.b = ce
      dsimp only
      repeat (go_big_quiet_step (fail))
      refine wpQuiet_nil ?_
      intro xx
      have H3 := Lib.hid (H9.out.below xx.far)
      have HX3 := Lib.hid (HX9.out.below xx.far HX9.out.lt)
      have HT3 := Lib.hid (Touch.of_below (S := NetOwn col base) (HA9.out.trans (xx.far.mono HA9.out.size)))
      have HB3 := Lib.hid (Nat.le_trans HB9.out xx.far.size)
      generalize xx.w = w3 at H3 HX3 HT3 HB3 ⊢
      clear H9 HX9 HA9 HB9
      go_upto_region 4 with fail
      refine wp_region_head 8 ?af4p (by kernel_rfl) (by kernel_rfl) ?walk4p ?tail4p
      case walk4p =>
        intro V hV
        have HR := (H3.out.below hV).acR
        rw [HAG.out] at HR
        obtain ⟨a0, a1, a2, a3, a4, a5⟩ := acC HR HAJ.out
        have gl2 := HR.lt.2
        clear HR a0 a4 a5
        have r0 := HX3.out.below hV HX3.out.lt
        have x2 := r0.cell 2 rfl
        have x3 := r0.cell 3 rfl
        have gl := r0.lt
        clear r0
        clear hV
        simp only [List.take_succ_cons, List.take_zero]
        repeat (go_big_quiet_step (fail))
        refine wpQuiet_nil ?_
        rfl
      intro v8 hb8
      have K8 := Lib.hid (H3.out.below hb8)
      have KX8 := Lib.hid (HX3.out.below hb8 HX3.out.lt)
      have KT8 := Lib.hid (HT3.out.below hb8)
      have KB8 := Lib.hid (Nat.le_trans HB3.out hb8.size)
      clear hb8 H3 HX3 HT3 HB3
      have HR := K8.out.acR
      rw [HAG.out] at HR
      obtain ⟨a0, a1, a2, a3, a4, a5⟩ := acC HR HAJ.out
      have f0 := HR.free (j * 6 + 1)
      have gl2 := HR.lt.2
      clear HR
      simp only [List.drop_succ_cons, List.drop_zero]
      go_upto_region 5 with fail
      have PT := K8.out.acPut HAG.out j 1 (⟨⟨a.bl.s, wrap64 (a.bl.i + x.a), a.bl.b, a.bl.a⟩, a.op, a.dn⟩ : Nw.Ac) a (.int .i64 (wrap64 (a.bl.i + x.a))) HAJ.out (by omega) rfl
      have H4 := Lib.hid (show NetAt _ B n col base D M { S with ac := S.ac.set j (⟨⟨a.bl.s, wrap64 (a.bl.i + x.a), a.bl.b, a.bl.a⟩, a.op, a.dn⟩ : Nw.Ac) } from PT.1)
      have HT4 := Lib.hid (KT8.out.trans PT.2)
      have HX4 := Lib.hid (KX8.out.setCell_ne (p := ⟨g, j * 6 + 1, none⟩) (fun e => HGL.out e.symm) (.int .i64 (wrap64 (a.bl.i + x.a))))
      have HB4 := Lib.hid (Nat.le_trans KB8.out PT.2.size)
      clear PT
      generalize v8.setCell ⟨g, j * 6 + 1, none⟩ (.int .i64 (wrap64 (a.bl.i + x.a))) = w4 at H4 HT4 HX4 HB4 ⊢
      clear K8 KX8 KT8 KB8 a0 a1 a2 a3 a4 a5 f0 gl2
      refine wp_region_head 8 ?af5p (by kernel_rfl) (by kernel_rfl) ?walk5p ?tail5p
      case walk5p =>
        intro V hV
        have HR := (H4.out.below hV).acR
        rw [HAG.out] at HR
        obtain ⟨a0, a1, a2, a3, a4, a5⟩ := acC HR (Nw.set_at (⟨⟨a.bl.s, wrap64 (a.bl.i + x.a), a.bl.b, a.bl.a⟩, a.op, a.dn⟩ : Nw.Ac) HJ.out.1)
        have gl2 := HR.lt.2
        clear HR a0 a4 a5
        have r0 := HX4.out.below hV HX4.out.lt
        have x2 := r0.cell 2 rfl
        have x3 := r0.cell 3 rfl
        have gl := r0.lt
        clear r0
        clear hV
        simp only [List.take_succ_cons, List.take_zero]
        repeat (go_big_quiet_step (fail))
        refine wpQuiet_nil ?_
        rfl
      intro v8 hb8
      have K8 := Lib.hid (H4.out.below hb8)
      have KX8 := Lib.hid (HX4.out.below hb8 HX4.out.lt)
      have KT8 := Lib.hid (HT4.out.below hb8)
      have KB8 := Lib.hid (Nat.le_trans HB4.out hb8.size)
      clear hb8 H4 HX4 HT4 HB4
      have HR := K8.out.acR
      rw [HAG.out] at HR
      obtain ⟨a0, a1, a2, a3, a4, a5⟩ := acC HR (Nw.set_at (⟨⟨a.bl.s, wrap64 (a.bl.i + x.a), a.bl.b, a.bl.a⟩, a.op, a.dn⟩ : Nw.Ac) HJ.out.1)
      have f0 := HR.free (j * 6 + 2)
      have gl2 := HR.lt.2
      clear HR
      simp only [List.drop_succ_cons, List.drop_zero]
      go_upto_region 6 with fail
      have PT := K8.out.acPut HAG.out j 2 (⟨⟨a.bl.s, wrap64 (a.bl.i + x.a), wrap64 (a.bl.b + x.b), a.bl.a⟩, a.op, a.dn⟩ : Nw.Ac) (⟨⟨a.bl.s, wrap64 (a.bl.i + x.a), a.bl.b, a.bl.a⟩, a.op, a.dn⟩ : Nw.Ac) (.int .i64 (wrap64 (a.bl.b + x.b))) (Nw.set_at (⟨⟨a.bl.s, wrap64 (a.bl.i + x.a), a.bl.b, a.bl.a⟩, a.op, a.dn⟩ : Nw.Ac) HJ.out.1) (by omega) rfl
      simp only [List.set_set] at PT
      have H5 := Lib.hid (show NetAt _ B n col base D M { S with ac := S.ac.set j (⟨⟨a.bl.s, wrap64 (a.bl.i + x.a), wrap64 (a.bl.b + x.b), a.bl.a⟩, a.op, a.dn⟩ : Nw.Ac) } from PT.1)
      have HT5 := Lib.hid (KT8.out.trans PT.2)
      have HX5 := Lib.hid (KX8.out.setCell_ne (p := ⟨g, j * 6 + 2, none⟩) (fun e => HGL.out e.symm) (.int .i64 (wrap64 (a.bl.b + x.b))))
      have HB5 := Lib.hid (Nat.le_trans KB8.out PT.2.size)
      clear PT
      generalize v8.setCell ⟨g, j * 6 + 2, none⟩ (.int .i64 (wrap64 (a.bl.b + x.b))) = w5 at H5 HT5 HX5 HB5 ⊢
      clear K8 KX8 KT8 KB8 a0 a1 a2 a3 a4 a5 f0 gl2
      have HR := H5.out.acR
      rw [HAG.out] at HR
      obtain ⟨a0, a1, a2, a3, a4, a5⟩ := acC HR (Nw.set_at (⟨⟨a.bl.s, wrap64 (a.bl.i + x.a), wrap64 (a.bl.b + x.b), a.bl.a⟩, a.op, a.dn⟩ : Nw.Ac) HJ.out.1)
      have f0 := HR.free (j * 6 + 3)
      have gl2 := HR.lt.2
      clear HR
      go_upto_region 7 with fail
      have K8 := H5
      have KX8 := HX5
      have KT8 := HT5
      have KB8 := HB5
      clear H5 HX5 HT5 HB5
      have PT := K8.out.acPut HAG.out j 3 (⟨⟨a.bl.s, wrap64 (a.bl.i + x.a), wrap64 (a.bl.b + x.b), wrap64 (a.bl.a + cv)⟩, a.op, a.dn⟩ : Nw.Ac) (⟨⟨a.bl.s, wrap64 (a.bl.i + x.a), wrap64 (a.bl.b + x.b), a.bl.a⟩, a.op, a.dn⟩ : Nw.Ac) (.int .i64 (wrap64 (a.bl.a + cv))) (Nw.set_at (⟨⟨a.bl.s, wrap64 (a.bl.i + x.a), wrap64 (a.bl.b + x.b), a.bl.a⟩, a.op, a.dn⟩ : Nw.Ac) HJ.out.1) (by omega) rfl
      simp only [List.set_set] at PT
      have H6 := Lib.hid (show NetAt _ B n col base D M { S with ac := S.ac.set j (⟨⟨a.bl.s, wrap64 (a.bl.i + x.a), wrap64 (a.bl.b + x.b), wrap64 (a.bl.a + cv)⟩, a.op, a.dn⟩ : Nw.Ac) } from PT.1)
      have HT6 := Lib.hid (KT8.out.trans PT.2)
      have HX6 := Lib.hid (KX8.out.setCell_ne (p := ⟨g, j * 6 + 3, none⟩) (fun e => HGL.out e.symm) (.int .i64 (wrap64 (a.bl.a + cv))))
      have HB6 := Lib.hid (Nat.le_trans KB8.out PT.2.size)
      clear PT
      generalize w5.setCell ⟨g, j * 6 + 3, none⟩ (.int .i64 (wrap64 (a.bl.a + cv))) = w6 at H6 HT6 HX6 HB6 ⊢
      clear K8 KX8 KT8 KB8 a0 a1 a2 a3 a4 a5 f0 gl2
      have r0 := HX6.out
      have x0 := r0.cell 0 rfl
      have x1 := r0.cell 1 rfl
      have gl := r0.lt
      clear r0
      rw [HK.out] at x0
      go_wp2_with (go_at_call 28; refine (tell_c H6.out HB6.out 3 (by omega) ⟨10, x.s, 0, 0, 0⟩).mono ?_; rintro e w7 ⟨rfl, hn⟩; have HN := Lib.hid (NetTo.before HT6.out hn); clear hn)
      exact bodyPost_ret (v := .tuple #[]) (by simp [results, Try.results71, go_sem]) rfl ⟨rfl, HN.out⟩
    · have e0 : Nw.recorded D S x = Nw.tell (Nw.tell { S with ac := S.ac.set j (acEnd (acAdd D x a)) } 3 (acBill (acAdd D x a))) 4 (acBill (acAdd D x a)) := by unfold Nw.recorded; rw [hf]; dsimp only; rw [if_neg hk, ← ha]
      rw [e0, hac]
      clear e0 hac hf
      have HK := Lib.hid hk
      have k1 : (x.k == 9) = false := by simpa using hk
      clear hk ha
      have al := (Below.refl w.heap.size w).alloc (Nat.le_refl _) (.cells #[.int .i64 x.k, .int .i64 x.s, .int .i64 x.a, .int .i64 x.b, .int .i64 x.c] 91)
      have HX := Lib.hid (Blk.new' w #[.int .i64 x.k, .int .i64 x.s, .int .i64 x.a, .int .i64 x.b, .int .i64 x.c] 91)
      have H1 := Lib.hid (h.below al)
      have HA := Lib.hid al
      have HW := Lib.hid h
      have HBB := Lib.hid (Nat.le_trans hB al.size)
      clear h al hB
      go_enter Try.func71, Try.ntmps71
      go_upto_region 1 with fail
      generalize w.alloc (.cells #[.int .i64 x.k, .int .i64 x.s, .int .i64 x.a, .int .i64 x.b, .int .i64 x.c] 91) = w1 at *
      obtain ⟨gb, hgb⟩ : ∃ gb, gb = w.heap.size := ⟨_, rfl⟩
      rw [← hgb] at HX ⊢
      have HG := Lib.hid hgb
      clear hgb
      have HGL := Lib.hid (show g ≠ gb from by have := HGW.out; have := HG.out; omega)
      refine wp_region_then 5 _ ?affq rfl (by kernel_rfl) (by kernel_rfl) ?walkfq ?tailfq
      case walkfq =>
        intro V hV
        have q0 : Blk _ n 81 (netC M D S) := (H1.out.below hV).blk
        have nl := q0.lt
        clear q0
        have r0 := HX.out.below hV HX.out.lt
        have x1 := r0.cell 1 rfl
        have gl := r0.lt
        clear r0
        clear hV
        simp only [List.take_succ_cons, List.take_zero]
        repeat (go_big_quiet_step (fail))
        refine wpQuiet_nil ?_
        rfl
      intro w8 hb8
      have H8 := Lib.hid (H1.out.below hb8)
      have HX8 := Lib.hid (HX.out.below hb8 HX.out.lt)
      have HA8 := Lib.hid (HA.out.trans (hb8.mono HA.out.size))
      have HB8 := Lib.hid (Nat.le_trans HBB.out hb8.size)
      clear hb8
      go_simp
      refine (find_c H8.out x.s).mono ?_
      rintro e w9 ⟨rfl, rfl⟩
      rw [HF.out]
      dsimp only
      go_big_quiet_step (fail)
      refine wpQuiet_nil ?_
      intro xx
      have H2 := Lib.hid (H8.out.below xx.far)
      have HX2 := Lib.hid (HX8.out.below xx.far HX8.out.lt)
      have HA2 := Lib.hid (HA8.out.trans (xx.far.mono HA8.out.size))
      have HB2 := Lib.hid (Nat.le_trans HB8.out xx.far.size)
      generalize xx.w = w2 at H2 HX2 HA2 HB2 ⊢
      clear H8 HX8 HA8 HB8 H1 HX HA HBB
      simp only [fndV, HAG.out, Option.map_some]
      go_upto_region 3 with fail
      refine wp_region_then 11 _ ?af3q rfl (by kernel_rfl) (by kernel_rfl) ?walk3q ?tail3q
      case walk3q =>
        intro V hV
        have q0 : Blk _ n 81 (netC M D S) := (H2.out.below hV).blk
        have c1 := q0.cell 1 rfl
        have c2 := q0.cell 2 rfl
        have c3 := q0.cell 3 rfl
        have nl := q0.lt
        clear q0
        have r0 := HX2.out.below hV HX2.out.lt
        have x2 := r0.cell 2 rfl
        have x3 := r0.cell 3 rfl
        have x4 := r0.cell 4 rfl
        have gl := r0.lt
        clear r0
        clear hV
        simp only [List.take_succ_cons, List.take_zero]
        repeat (go_big_quiet_step (fail))
        refine wpQuiet_nil ?_
        rfl
      intro w8 hb8
      have H8 := Lib.hid (H2.out.below hb8)
      have HX8 := Lib.hid (HX2.out.below hb8 HX2.out.lt)
      have HA8 := Lib.hid (HA2.out.trans (hb8.mono HA2.out.size))
      have HB8 := Lib.hid (Nat.le_trans HB2.out hb8.size)
      clear hb8 H2 HX2 HA2 HB2
      go_simp
      refine (Cost_c D.day D.fee M.bA D.bs M.bc x.c x.a x.b w8 HDE.out.1 HDE.out.2 H8.out.de.1).mono ?_
      rintro e w9 ⟨rfl, hb9⟩
      have H9 := Lib.hid (H8.out.below hb9)
      have HX9 := Lib.hid (HX8.out.below hb9 HX8.out.lt)
      have HA9 := Lib.hid (HA8.out.trans (hb9.mono HA8.out.size))
      have HB9 := Lib.hid (Nat.le_trans HB8.out hb9.size)
      clear hb9 H8 HX8 HA8 HB8
      rw [show Cv.coV D.day D.fee D.bs x.c x.a x.b = cv from HCV.out.symm]
      generalize Cv.coE D.day D.fee D.bs x.c x.a x.b = ce
      dsimp only
      repeat (go_big_quiet_step (fail))
      refine wpQuiet_nil ?_
      intro xx
      have H3 := Lib.hid (H9.out.below xx.far)
      have HX3 := Lib.hid (HX9.out.below xx.far HX9.out.lt)
      have HT3 := Lib.hid (Touch.of_below (S := NetOwn col base) (HA9.out.trans (xx.far.mono HA9.out.size)))
      have HB3 := Lib.hid (Nat.le_trans HB9.out xx.far.size)
      generalize xx.w = w3 at H3 HX3 HT3 HB3 ⊢
      clear H9 HX9 HA9 HB9
      go_upto_region 4 with fail
      refine wp_region_head 8 ?af4q (by kernel_rfl) (by kernel_rfl) ?walk4q ?tail4q
      case walk4q =>
        intro V hV
        have HR := (H3.out.below hV).acR
        rw [HAG.out] at HR
        obtain ⟨a0, a1, a2, a3, a4, a5⟩ := acC HR HAJ.out
        have gl2 := HR.lt.2
        clear HR a0 a4 a5
        have r0 := HX3.out.below hV HX3.out.lt
        have x2 := r0.cell 2 rfl
        have x3 := r0.cell 3 rfl
        have gl := r0.lt
        clear r0
        clear hV
        simp only [List.take_succ_cons, List.take_zero]
        repeat (go_big_quiet_step (fail))
        refine wpQuiet_nil ?_
        rfl
      intro v8 hb8
      have K8 := Lib.hid (H3.out.below hb8)
      have KX8 := Lib.hid (HX3.out.below hb8 HX3.out.lt)
      have KT8 := Lib.hid (HT3.out.below hb8)
      have KB8 := Lib.hid (Nat.le_trans HB3.out hb8.size)
      clear hb8 H3 HX3 HT3 HB3
      have HR := K8.out.acR
      rw [HAG.out] at HR
      obtain ⟨a0, a1, a2, a3, a4, a5⟩ := acC HR HAJ.out
      have f0 := HR.free (j * 6 + 1)
      have gl2 := HR.lt.2
      clear HR
      simp only [List.drop_succ_cons, List.drop_zero]
      go_upto_region 5 with fail
      have PT := K8.out.acPut HAG.out j 1 (⟨⟨a.bl.s, wrap64 (a.bl.i + x.a), a.bl.b, a.bl.a⟩, a.op, a.dn⟩ : Nw.Ac) a (.int .i64 (wrap64 (a.bl.i + x.a))) HAJ.out (by omega) rfl
      have H4 := Lib.hid (show NetAt _ B n col base D M { S with ac := S.ac.set j (⟨⟨a.bl.s, wrap64 (a.bl.i + x.a), a.bl.b, a.bl.a⟩, a.op, a.dn⟩ : Nw.Ac) } from PT.1)
      have HT4 := Lib.hid (KT8.out.trans PT.2)
      have HX4 := Lib.hid (KX8.out.setCell_ne (p := ⟨g, j * 6 + 1, none⟩) (fun e => HGL.out e.symm) (.int .i64 (wrap64 (a.bl.i + x.a))))
      have HB4 := Lib.hid (Nat.le_trans KB8.out PT.2.size)
      clear PT
      generalize v8.setCell ⟨g, j * 6 + 1, none⟩ (.int .i64 (wrap64 (a.bl.i + x.a))) = w4 at H4 HT4 HX4 HB4 ⊢
      clear K8 KX8 KT8 KB8 a0 a1 a2 a3 a4 a5 f0 gl2
      refine wp_region_head 8 ?af5q (by kernel_rfl) (by kernel_rfl) ?walk5q ?tail5q
      case walk5q =>
        intro V hV
        have HR := (H4.out.below hV).acR
        rw [HAG.out] at HR
        obtain ⟨a0, a1, a2, a3, a4, a5⟩ := acC HR (Nw.set_at (⟨⟨a.bl.s, wrap64 (a.bl.i + x.a), a.bl.b, a.bl.a⟩, a.op, a.dn⟩ : Nw.Ac) HJ.out.1)
        have gl2 := HR.lt.2
        clear HR a0 a4 a5
        have r0 := HX4.out.below hV HX4.out.lt
        have x2 := r0.cell 2 rfl
        have x3 := r0.cell 3 rfl
        have gl := r0.lt
        clear r0
        clear hV
        simp only [List.take_succ_cons, List.take_zero]
        repeat (go_big_quiet_step (fail))
        refine wpQuiet_nil ?_
        rfl
      intro v8 hb8
      have K8 := Lib.hid (H4.out.below hb8)
      have KX8 := Lib.hid (HX4.out.below hb8 HX4.out.lt)
      have KT8 := Lib.hid (HT4.out.below hb8)
      have KB8 := Lib.hid (Nat.le_trans HB4.out hb8.size)
      clear hb8 H4 HX4 HT4 HB4
      have HR := K8.out.acR
      rw [HAG.out] at HR
      obtain ⟨a0, a1, a2, a3, a4, a5⟩ := acC HR (Nw.set_at (⟨⟨a.bl.s, wrap64 (a.bl.i + x.a), a.bl.b, a.bl.a⟩, a.op, a.dn⟩ : Nw.Ac) HJ.out.1)
      have f0 := HR.free (j * 6 + 2)
      have gl2 := HR.lt.2
      clear HR
      simp only [List.drop_succ_cons, List.drop_zero]
      go_upto_region 6 with fail
      have PT := K8.out.acPut HAG.out j 2 (⟨⟨a.bl.s, wrap64 (a.bl.i + x.a), wrap64 (a.bl.b + x.b), a.bl.a⟩, a.op, a.dn⟩ : Nw.Ac) (⟨⟨a.bl.s, wrap64 (a.bl.i + x.a), a.bl.b, a.bl.a⟩, a.op, a.dn⟩ : Nw.Ac) (.int .i64 (wrap64 (a.bl.b + x.b))) (Nw.set_at (⟨⟨a.bl.s, wrap64 (a.bl.i + x.a), a.bl.b, a.bl.a⟩, a.op, a.dn⟩ : Nw.Ac) HJ.out.1) (by omega) rfl
      simp only [List.set_set] at PT
      have H5 := Lib.hid (show NetAt _ B n col base D M { S with ac := S.ac.set j (⟨⟨a.bl.s, wrap64 (a.bl.i + x.a), wrap64 (a.bl.b + x.b), a.bl.a⟩, a.op, a.dn⟩ : Nw.Ac) } from PT.1)
      have HT5 := Lib.hid (KT8.out.trans PT.2)
      have HX5 := Lib.hid (KX8.out.setCell_ne (p := ⟨g, j * 6 + 2, none⟩) (fun e => HGL.out e.symm) (.int .i64 (wrap64 (a.bl.b + x.b))))
      have HB5 := Lib.hid (Nat.le_trans KB8.out PT.2.size)
      clear PT
      generalize v8.setCell ⟨g, j * 6 + 2, none⟩ (.int .i64 (wrap64 (a.bl.b + x.b))) = w5 at H5 HT5 HX5 HB5 ⊢
      clear K8 KX8 KT8 KB8 a0 a1 a2 a3 a4 a5 f0 gl2
      have HR := H5.out.acR
      rw [HAG.out] at HR
      obtain ⟨a0, a1, a2, a3, a4, a5⟩ := acC HR (Nw.set_at (⟨⟨a.bl.s, wrap64 (a.bl.i + x.a), wrap64 (a.bl.b + x.b), a.bl.a⟩, a.op, a.dn⟩ : Nw.Ac) HJ.out.1)
      have f0 := HR.free (j * 6 + 3)
      have gl2 := HR.lt.2
      clear HR
      go_upto_region 7 with fail
      have K8 := H5
      have KX8 := HX5
      have KT8 := HT5
      have KB8 := HB5
      clear H5 HX5 HT5 HB5
      have PT := K8.out.acPut HAG.out j 3 (⟨⟨a.bl.s, wrap64 (a.bl.i + x.a), wrap64 (a.bl.b + x.b), wrap64 (a.bl.a + cv)⟩, a.op, a.dn⟩ : Nw.Ac) (⟨⟨a.bl.s, wrap64 (a.bl.i + x.a), wrap64 (a.bl.b + x.b), a.bl.a⟩, a.op, a.dn⟩ : Nw.Ac) (.int .i64 (wrap64 (a.bl.a + cv))) (Nw.set_at (⟨⟨a.bl.s, wrap64 (a.bl.i + x.a), wrap64 (a.bl.b + x.b), a.bl.a⟩, a.op, a.dn⟩ : Nw.Ac) HJ.out.1) (by omega) rfl
      simp only [List.set_set] at PT
      have H6 := Lib.hid (show NetAt _ B n col base D M { S with ac := S.ac.set j (⟨⟨a.bl.s, wrap64 (a.bl.i + x.a), wrap64 (a.bl.b + x.b), wrap64 (a.bl.a + cv)⟩, a.op, a.dn⟩ : Nw.Ac) } from PT.1)
      have HT6 := Lib.hid (KT8.out.trans PT.2)
      have HX6 := Lib.hid (KX8.out.setCell_ne (p := ⟨g, j * 6 + 3, none⟩) (fun e => HGL.out e.symm) (.int .i64 (wrap64 (a.bl.a + cv))))
      have HB6 := Lib.hid (Nat.le_trans KB8.out PT.2.size)
      clear PT
      generalize w5.setCell ⟨g, j * 6 + 3, none⟩ (.int .i64 (wrap64 (a.bl.a + cv))) = w6 at H6 HT6 HX6 HB6 ⊢
      clear K8 KX8 KT8 KB8 a0 a1 a2 a3 a4 a5 f0 gl2
      have r0 := HX6.out
      have x0 := r0.cell 0 rfl
      have x1 := r0.cell 1 rfl
      have gl := r0.lt
      clear r0
      go_upto_region 9 with fail
      have HR := H6.out.acR
      rw [HAG.out] at HR
      obtain ⟨a0, a1, a2, a3, a4, a5⟩ := acC HR (Nw.set_at (⟨⟨a.bl.s, wrap64 (a.bl.i + x.a), wrap64 (a.bl.b + x.b), wrap64 (a.bl.a + cv)⟩, a.op, a.dn⟩ : Nw.Ac) HJ.out.1)
      have f4 := HR.free (j * 6 + 4)
      have f5 := HR.free (j * 6 + 5)
      have gl2 := HR.lt.2
      clear HR x0 x1 gl
      go_upto_region 10 with fail
      have PT := H6.out.acPut HAG.out j 4 (⟨⟨a.bl.s, wrap64 (a.bl.i + x.a), wrap64 (a.bl.b + x.b), wrap64 (a.bl.a + cv)⟩, false, a.dn⟩ : Nw.Ac) (⟨⟨a.bl.s, wrap64 (a.bl.i + x.a), wrap64 (a.bl.b + x.b), wrap64 (a.bl.a + cv)⟩, a.op, a.dn⟩ : Nw.Ac) (.bool false) (Nw.set_at (⟨⟨a.bl.s, wrap64 (a.bl.i + x.a), wrap64 (a.bl.b + x.b), wrap64 (a.bl.a + cv)⟩, a.op, a.dn⟩ : Nw.Ac) HJ.out.1) (by omega) rfl
      simp only [List.set_set] at PT
      have PT2 := NetAt.acPut (S := { S with ac := S.ac.set j (⟨⟨a.bl.s, wrap64 (a.bl.i + x.a), wrap64 (a.bl.b + x.b), wrap64 (a.bl.a + cv)⟩, false, a.dn⟩ : Nw.Ac) }) PT.1 HAG.out j 5 (⟨⟨a.bl.s, wrap64 (a.bl.i + x.a), wrap64 (a.bl.b + x.b), wrap64 (a.bl.a + cv)⟩, false, true⟩ : Nw.Ac) (⟨⟨a.bl.s, wrap64 (a.bl.i + x.a), wrap64 (a.bl.b + x.b), wrap64 (a.bl.a + cv)⟩, false, a.dn⟩ : Nw.Ac) (.bool true) (Nw.set_at (⟨⟨a.bl.s, wrap64 (a.bl.i + x.a), wrap64 (a.bl.b + x.b), wrap64 (a.bl.a + cv)⟩, false, a.dn⟩ : Nw.Ac) HJ.out.1) (by omega) rfl
      simp only [List.set_set] at PT2
      have H7 := Lib.hid (show NetAt _ B n col base D M { S with ac := S.ac.set j (⟨⟨a.bl.s, wrap64 (a.bl.i + x.a), wrap64 (a.bl.b + x.b), wrap64 (a.bl.a + cv)⟩, false, true⟩ : Nw.Ac) } from PT2.1)
      have HT7 := Lib.hid (HT6.out.trans (PT.2.trans PT2.2))
      have HB7 := Lib.hid (Nat.le_trans HB6.out (PT.2.trans PT2.2).size)
      clear PT PT2
      generalize (w6.setCell ⟨g, j * 6 + 4, none⟩ (.bool false)).setCell ⟨g, j * 6 + 5, none⟩ (.bool true) = w7 at H7 HT7 HB7 ⊢
      clear a0 a1 a2 a3 a4 a5 f4 f5 gl2 H6 HX6 HT6 HB6 k1
      refine wp_region_float 21 _ (.cells #[.int .i64 0, .int .i64 0, .int .i64 0, .int .i64 0, .int .i64 0] 91) 7 ?af10 (by kernel_rfl) rfl rfl rfl (by kernel_rfl) (fun _ _ => by kernel_rfl) ?walk10 ?tail10
      case walk10 =>
        intro V hV
        have HR := (H7.out.below hV).acR
        rw [HAG.out] at HR
        obtain ⟨a0, a1, a2, a3, a4, a5⟩ := acC HR (Nw.set_at (⟨⟨a.bl.s, wrap64 (a.bl.i + x.a), wrap64 (a.bl.b + x.b), wrap64 (a.bl.a + cv)⟩, false, true⟩ : Nw.Ac) HJ.out.1)
        have gl2 := HR.lt.2
        clear HR a4 a5 hV
        simp only [List.take_succ_cons, List.take_zero]
        repeat (go_big_quiet_step (fail))
        refine wpQuiet_nil ?_
        rfl
      intro gq w8 hg hb8 hcell8
      have HY8 : Blk w8 gq 91 [.int .i64 0, .int .i64 0, .int .i64 0, .int .i64 0, .int .i64 0] := hcell8
      have H8 := Lib.hid (H7.out.below hb8)
      have HT8 := Lib.hid (HT7.out.below hb8)
      have HB8 := Lib.hid (Nat.le_trans HB7.out hb8.size)
      have HGQ := Lib.hid (Nat.le_trans HT7.out.size hg)
      clear hb8 hg hcell8 H7 HT7 HB7
      simp only [List.drop_succ_cons, List.drop_zero]
      simp only [Act.put, List.setIfInBounds_toArray, List.set_cons_zero, List.set_cons_succ]
      have g0 := HY8.free 0
      have y0 := HY8.cell 0 rfl
      have g1 := HY8.free 1
      have y1 := HY8.cell 1 rfl
      have g2 := HY8.free 2
      have y2 := HY8.cell 2 rfl
      have g3 := HY8.free 3
      have y3 := HY8.cell 3 rfl
      have g4 := HY8.free 4
      have y4 := HY8.cell 4 rfl
      have yl := HY8.lt
      go_upto_region 11 with fail
      have HTY : Touch (fun k => k = gq) w8 (((((w8.setCell ⟨gq, 0, none⟩ (.int .i64 12)).setCell ⟨gq, 1, none⟩ (.int .i64 a.bl.s)).setCell ⟨gq, 2, none⟩ (.int .i64 (wrap64 (a.bl.i + x.a)))).setCell ⟨gq, 3, none⟩ (.int .i64 (wrap64 (a.bl.b + x.b)))).setCell ⟨gq, 4, none⟩ (.int .i64 (wrap64 (a.bl.a + cv)))) := (((((Touch.refl _ _).put 0 (.int .i64 12)).put 1 (.int .i64 a.bl.s)).put 2 (.int .i64 (wrap64 (a.bl.i + x.a)))).put 3 (.int .i64 (wrap64 (a.bl.b + x.b)))).put 4 (.int .i64 (wrap64 (a.bl.a + cv)))
      have HY := Lib.hid (show Blk (((((w8.setCell ⟨gq, 0, none⟩ (.int .i64 12)).setCell ⟨gq, 1, none⟩ (.int .i64 a.bl.s)).setCell ⟨gq, 2, none⟩ (.int .i64 (wrap64 (a.bl.i + x.a)))).setCell ⟨gq, 3, none⟩ (.int .i64 (wrap64 (a.bl.b + x.b)))).setCell ⟨gq, 4, none⟩ (.int .i64 (wrap64 (a.bl.a + cv)))) gq 91 [.int .i64 12, .int .i64 a.bl.s, .int .i64 (wrap64 (a.bl.i + x.a)), .int .i64 (wrap64 (a.bl.b + x.b)), .int .i64 (wrap64 (a.bl.a + cv))] from (((((HY8).setCell 0 (.int .i64 12)).setCell 1 (.int .i64 a.bl.s)).setCell 2 (.int .i64 (wrap64 (a.bl.i + x.a)))).setCell 3 (.int .i64 (wrap64 (a.bl.b + x.b)))).setCell 4 (.int .i64 (wrap64 (a.bl.a + cv))))
      have H9 := Lib.hid (H8.out.touch HTY (fun k hk e => HFR.out gq HGQ.out (e ▸ hk)))
      have HT9 := Lib.hid (HT8.out.then HTY (fun k e => .inr (by rw [e]; exact HGQ.out)))
      have HB9 := Lib.hid (Nat.le_trans HB8.out HTY.size)
      generalize ((((w8.setCell ⟨gq, 0, none⟩ (.int .i64 12)).setCell ⟨gq, 1, none⟩ (.int .i64 a.bl.s)).setCell ⟨gq, 2, none⟩ (.int .i64 (wrap64 (a.bl.i + x.a)))).setCell ⟨gq, 3, none⟩ (.int .i64 (wrap64 (a.bl.b + x.b)))).setCell ⟨gq, 4, none⟩ (.int .i64 (wrap64 (a.bl.a + cv))) = w9 at HY H9 HT9 HB9 ⊢
      clear HTY HY8 H8 HT8 HB8 g0 g1 g2 g3 g4 y0 y1 y2 y3 y4 yl
      have y0 := HY.out.cell 0 rfl
      have y1 := HY.out.cell 1 rfl
      have y2 := HY.out.cell 2 rfl
      have y3 := HY.out.cell 3 rfl
      have y4 := HY.out.cell 4 rfl
      have yl := HY.out.lt
      go_upto_region 12 with (go_at_call 28; refine (tell_c H9.out HB9.out 3 (by omega) ⟨12, a.bl.s, wrap64 (a.bl.i + x.a), wrap64 (a.bl.b + x.b), wrap64 (a.bl.a + cv)⟩).mono ?_; rintro e w10 ⟨rfl, hn⟩; have HN := Lib.hid hn; clear hn)
      clear y0 y1 y2 y3 y4 yl
      obtain ⟨col1, M1, hc1, hN1, ht1⟩ := HN.out
      have HC1 := Lib.hid (fun k (hk : k < w.heap.size) => hc1 k (Nat.lt_of_lt_of_le hk HT9.out.size))
      have HN1 := Lib.hid hN1
      have HT1 := Lib.hid (HT9.out.trans ht1)
      have HY1 := Lib.hid (HY.out.touch ht1 (HFR.out gq HGQ.out))
      have HB1 := Lib.hid (Nat.le_trans HB9.out ht1.size)
      clear hc1 hN1 ht1 HN HY H9 HT9 HB9
      have y0 := HY1.out.cell 0 rfl
      have y1 := HY1.out.cell 1 rfl
      have y2 := HY1.out.cell 2 rfl
      have y3 := HY1.out.cell 3 rfl
      have y4 := HY1.out.cell 4 rfl
      have yl := HY1.out.lt
      go_wp2_with (go_at_call 28; refine (tell_c HN1.out HB1.out 4 (by omega) ⟨12, a.bl.s, wrap64 (a.bl.i + x.a), wrap64 (a.bl.b + x.b), wrap64 (a.bl.a + cv)⟩).mono ?_; rintro e w11 ⟨rfl, hn⟩; have HN := Lib.hid (NetTo.next HC1.out HT1.out hn); clear hn)
      exact bodyPost_end (v := .tuple #[]) (by simp [results, Try.results71, go_sem]) rfl ⟨rfl, HN.out⟩
set_option maxRecDepth 100000 in
set_option maxHeartbeats 4000000 in
theorem recorded_c {w : World} {B n base : Nat} {col : Nat → Nat} {D : Dl} {M : Mem} {S : St} (h : NetAt w B n col base D M S) (hB : B ≤ w.heap.size) (x : Nt) :
    Calls Try.prog 71 #[.pointer (some ⟨n, 0, none⟩), .agg #[.int .i64 x.k, .int .i64 x.s, .int .i64 x.a, .int .i64 x.b, .int .i64 x.c]] w fun e w' => e = .returned (.tuple #[]) ∧ NetTo w B n col base D (Nw.recorded D S x) w' := by
  exact (recorded_0 h.recol hB x (fun k hk => fresh_not hk)).mono fun e w2 ⟨he, hn⟩ => ⟨he, hn.recol⟩
end Go.Proofs.Ytlklnaebdnahcaa
namespace Go.Proofs.Ytlklnaebdnahcaa
open Go.RowKit Nw
theorem chkP (b : Bool) (x : Int × Int) (w : World) : (Instr.checkKey b 10000 62 (.agg #[.int .i64 x.1, .int .i64 x.2])).run Try.prog w = .ok () w := by kernel_rfl
theorem eqlP (x y : Int × Int) (w : World) : (Op.equal 62 (.agg #[.int .i64 x.1, .int .i64 x.2]) (.agg #[.int .i64 y.1, .int .i64 y.2])).run Try.prog w = .ok (decide (x = y)) w := by
  have := eqArr2 w x.1 x.2 y.1 y.2
  have e : (x.1 == y.1 && x.2 == y.2) = decide (x = y) := by
    obtain ⟨a, b⟩ := x
    obtain ⟨c, d⟩ := y
    rw [Bool.eq_iff_iff]
    simp
  rw [e] at this
  exact this
theorem bitsP (x : Int × Int) : Instr.sameBits 10000 (.agg #[.int .i64 x.1, .int .i64 x.2]) (.agg #[.int .i64 x.1, .int .i64 x.2]) = true := by
  simp [Instr.sameBits]
theorem keyP : KeyC Try.prog 62 kP := keyc_pair Try.underlying62 Try.underlying2 chkP eqlP bitsP
theorem lookUs {W : World} {b : Nat} {l : List ((Int × Int) × Bool)} (h : MpAt kP vB W b l) (x y : Int) : (Instr.lookup 71 (.map (some b)) (.agg #[.int .i64 x, .int .i64 y]) false).run Try.prog W = .ok (.bool ((mget (x, y) l).getD false)) W := by
  have := h.look keyP Try.underlying71 (x, y) (z := .bool false) (zero4 W) false
  rw [show ((mget (x, y) l).map vB).getD (.bool false) = vB ((mget (x, y) l).getD false) from getD_map vB _ false] at this
  exact this
theorem NetAt.toUs {w w' : World} {B n base : Nat} {col : Nat → Nat} {D : Dl} {M : Mem} {S : St} (h : NetAt w B n col base D M S) {l' : List ((Int × Int) × Bool)} (hl : MpAt kP vB w' M.us l') (ht : Touch (fun k => k = M.us) w w') : NetAt w' B n col base D M { S with us := l' } ∧ Touch (NetOwn col base) w w' := by
  have hT : ∀ k, k = M.us → col k = base + 12 := fun k e => by rw [e]; exact h.usc
  exact ⟨h.setUs (fun _ _ => rfl) hl (ht.mono (fun k e => .inr (hT k e))) (h.blk.touch ht (fun e => by have := hT n e; rw [h.c0] at this; omega)), ht.mono (fun k e => by have := hT k e; unfold NetOwn; omega)⟩
theorem Pf.prV_bd (pt : Int) (ps : List Int) (k n : Int) : 0 ≤ Pf.prV pt ps k n ∧ Pf.prV pt ps k n ≤ 2147483646 := by
  unfold Pf.prV
  split
  · split
    · split
      · unfold Pf.tag
        omega
      · omega
    · omega
  · omega
theorem info183 : (Try.prog.info? 100).map (fun i => (i.zero, i.size, i.bytes)) = some (some (.agg #[.int .i64 0, .int .i64 0, .int .i64 0, .int .i64 0, .bool false, .bool false]), 6, 40) := by kernel_rfl
theorem ct_at {M : Mem} {D : Dl} (h : M.ct.map (fun c => (⟨c.pt, c.ps⟩ : Cn)) = D.cn) (k : Nat) : (D.cn.getD k default).pt = (M.ct.getD k default).pt ∧ (D.cn.getD k default).ps = (M.ct.getD k default).ps := by
  rw [← h, List.getD_eq_getElem?_getD, List.getD_eq_getElem?_getD, List.getElem?_map]
  cases M.ct[k]? <;> exact ⟨rfl, rfl⟩
@[simp, go_sem] theorem Past.cellAdd {W : World} (x : Past W) (a : Addr) (n : Nat) (h : (a.add n).block < W.heap.size) : x.w.cell? (a.add n) = W.cell? (a.add n) := x.far.cell h
end Go.Proofs.Ytlklnaebdnahcaa
namespace Go.Proofs.Ytlklnaebdnahcaa
open Go.RowKit Nw
theorem NetAt.toAc {w w' : World} {B n base : Nat} {col : Nat → Nat} {D : Dl} {M : Mem} {S : St} (h : NetAt w B n col base D M S) {A' : Option Addr} {c' : Nat} {l' : List Nw.Ac} (hown : OwnR Nw.Ac.vals 100 6 B w' A' c' l') (ht : Touch (fun k => k = n ∨ OwnB M.aA k) w w')
    (hb : Blk w' n 81 ((netC M D S).set 54 (.slice A' l'.length c'))) (hn : ∀ k, OwnB A' k → OwnB M.aA k ∨ w.heap.size ≤ k) : NetTo w B n col base D { S with ac := l' } w' := by
  have hT : ∀ k, (k = n ∨ OwnB M.aA k) → col k = base ∨ col k = base + 13 := fun k e => by
    rcases e with rfl | e
    · exact .inl h.c0
    · exact .inr (h.acc k e)
  refine ⟨ncol w col (base + 13), { M with aA := A', ac := c' }, fun k hk => ncol_old hk, h.setAc (fun k hk => ncol_old hk) hown (fun k e => ?_) (ht.mono hT) hb, ht.mono (fun k e => by have := hT k e; unfold NetOwn; omega)⟩
  by_cases hlt : k < w.heap.size
  · rw [ncol_old hlt]
    rcases hn k e with e | e
    · exact h.acc k e
    · omega
  · exact ncol_new (by omega)
set_option maxRecDepth 100000 in
set_option maxHeartbeats 4000000 in
theorem asked_0 {w : World} {B n base : Nat} {col : Nat → Nat} {D : Dl} {M : Mem} {S : St} (h : NetAt w B n col base D M S) (hB : B ≤ w.heap.size) (x : Nt) (hfr : ∀ k, w.heap.size ≤ k → ¬ NetOwn col base k) (hD : ∀ c ∈ D.cn, ∀ q ∈ c.ps, 0 ≤ q) (hac : S.ac.length ≤ 1000000) :
    Calls Try.prog 70 #[.pointer (some ⟨n, 0, none⟩), .agg #[.int .i64 x.k, .int .i64 x.s, .int .i64 x.a, .int .i64 x.b, .int .i64 x.c]] w fun e w' => e = .returned (.tuple #[]) ∧ NetTo w B n col base D (Nw.asked D S x) w' := by
  have HFR := Lib.hid hfr
  have HD := Lib.hid hD
  have HAC := Lib.hid hac
  obtain ⟨m, hm⟩ : ∃ m, m = M.ct.length := ⟨_, rfl⟩
  have HM := Lib.hid hm
  have hmD : D.cn.length = m := by rw [hm, ← h.cn, List.length_map]
  have HCAP := Lib.hid h.cap
  have hm63 : m ≤ 9223372036854775807 := by have := h.cap; omega
  have HW0 := Lib.hid h
  have hwr : IntKind.i64.wrap ((m : Int) - 1) = (m : Int) - 1 := IntWalk.i64_in _ (by omega)
  have hwr2 : wrap64 ((m : Int) - 1) = (m : Int) - 1 := by rw [← IntWalk.i64_left]; exact hwr
  have hA0 : Nw.authB D S x = (Cv.inB x.a 0 ((m : Int) - 1) && !((mget (x.a, x.c) S.us).getD false) && decide (prfE D x.a x.c = 0 ∧ prfV D x.a x.c = x.b)) := by unfold Nw.authB; rw [hmD]
  clear hfr hD hac hm hmD
  cases hib : Cv.inB x.a 0 ((m : Int) - 1) with
  | false =>
    have e0 : Nw.asked D S x = Nw.tell S 3 ⟨7, x.s, 0, 0, 0⟩ := by unfold Nw.asked; rw [hA0, hib]; rfl
    rw [e0]
    clear e0 hA0
    obtain ⟨us, hus⟩ : ∃ us, (mget (x.a, x.c) S.us).getD false = us := ⟨_, rfl⟩
    have al := (Below.refl w.heap.size w).alloc (Nat.le_refl _) (.cells #[.int .i64 x.k, .int .i64 x.s, .int .i64 x.a, .int .i64 x.b, .int .i64 x.c] 91)
    have HX := Lib.hid (Blk.new' w #[.int .i64 x.k, .int .i64 x.s, .int .i64 x.a, .int .i64 x.b, .int .i64 x.c] 91)
    have H1 := Lib.hid (h.below al)
    have HA := Lib.hid al
    have HW := Lib.hid h
    have HBB := Lib.hid (Nat.le_trans hB al.size)
    clear h al hB
    have HM2 := Lib.hid HM.out
    have hq : ∀ y : Past ((w.alloc (.cells #[.int .i64 x.k, .int .i64 x.s, .int .i64 x.a, .int .i64 x.b, .int .i64 x.c] 91)).alloc (.cells #[.int .i64 x.a, .int .i64 x.c] 62)), (Instr.lookup 71 (.map (some M.us)) (.agg #[.int .i64 x.a, .int .i64 x.c]) false).run Try.prog y.w = .ok (.bool us) y.w := fun y => by
      have := lookUs (HW.out.below ((HA.out.alloc HA.out.size _).trans (y.far.mono (HA.out.alloc HA.out.size _).size))).us x.a x.c
      rw [hus] at this
      exact this
    clear hus
    have P48 : ∀ V, Calls Try.prog 23 #[.int .i64 x.a, .int .i64 0, .int .i64 ((m : Int) - 1)] V fun e w' => e = .returned (.bool false) ∧ V = w' := fun V => by have := within_c x.a 0 ((m : Int) - 1) V; rwa [hib] at this
    clear hib
    go_enter Try.func70, Try.ntmps70
    go_upto_region 1 with fail
    generalize w.alloc (.cells #[.int .i64 x.k, .int .i64 x.s, .int .i64 x.a, .int .i64 x.b, .int .i64 x.c] 91) = w1 at *
    obtain ⟨gb, hgb⟩ : ∃ gb, gb = w.heap.size := ⟨_, rfl⟩
    rw [← hgb] at HX ⊢
    have HG := Lib.hid hgb
    clear hgb
    have r0 := HX.out
    have x2 := r0.cell 2 rfl
    have x4 := r0.cell 4 rfl
    have gl := r0.lt
    clear r0
    have q0 : Blk _ n 81 (netC M D S) := (H1.out).blk
    have nl := q0.lt
    clear q0
    go_upto_region 3 with fail
    have HP := Lib.hid (Blk.new' w1 #[.int .i64 x.a, .int .i64 x.c] 62)
    have al := (Below.refl w1.heap.size w1).alloc (Nat.le_refl _) (.cells #[.int .i64 x.a, .int .i64 x.c] 62)
    have H2 := Lib.hid (H1.out.below al)
    have HX2 := Lib.hid (HX.out.below al HX.out.lt)
    have HA2 := Lib.hid (HA.out.trans (al.mono HA.out.size))
    have HB2 := Lib.hid (Nat.le_trans HBB.out al.size)
    have HGP := Lib.hid HA.out.size
    clear al x2 x4 gl nl H1 HX HA HBB
    generalize w1.alloc (.cells #[.int .i64 x.a, .int .i64 x.c] 62) = w2 at *
    generalize w1.heap.size = gp at HP HGP ⊢
    have q0 : Blk _ n 81 (netC M D S) := (H2.out).blk
    have c4 := q0.cell 4 rfl
    have c53 := q0.cell 53 rfl
    have nl := q0.lt
    clear q0
    rw [← HM2.out] at c4
    have r0 := HX2.out
    have x2 := r0.cell 2 rfl
    have gl := r0.lt
    clear r0
    have p0 := HP.out.cell 0 rfl
    have p1 := HP.out.cell 1 rfl
    have pl := HP.out.lt
    refine wp_region_past (by kernel_rfl) (by kernel_rfl) ?_
    repeat (go_big_quiet_step ((go_at_call 23; exact past_same (P48 _))))
    refine wpQuiet_nil ?_
    intro xx
    have H4 := Lib.hid (H2.out.below xx.far)
    have HX4 := Lib.hid (HX2.out.below xx.far HX2.out.lt)
    have HP4 := Lib.hid (HP.out.below xx.far HP.out.lt)
    have HA4 := Lib.hid (HA2.out.trans (xx.far.mono HA2.out.size))
    have HB4 := Lib.hid (Nat.le_trans HB2.out xx.far.size)
    generalize xx.w = w4 at H4 HX4 HP4 HA4 HB4 ⊢
    clear H2 HX2 HP HA2 HB2 c4 c53 nl x2 gl p0 p1 pl hq P48
    have r0 := HX4.out
    have x1 := r0.cell 1 rfl
    have gl := r0.lt
    clear r0
    go_wp2_with (go_at_call 28; refine (tell_c H4.out HB4.out 3 (by omega) ⟨7, x.s, 0, 0, 0⟩).mono ?_; rintro e w5 ⟨rfl, hn⟩; have HN := Lib.hid (NetTo.before (Touch.of_below HA4.out) hn); clear hn)
    exact bodyPost_ret (v := .tuple #[]) (by simp [results, Try.results70, go_sem]) rfl ⟨rfl, HN.out⟩
  | true =>
    cases hus : (mget (x.a, x.c) S.us).getD false with
    | true =>
      have e0 : Nw.asked D S x = Nw.tell S 3 ⟨7, x.s, 0, 0, 0⟩ := by unfold Nw.asked; rw [hA0, hib, hus]; rfl
      rw [e0]
      clear e0 hA0
      have al := (Below.refl w.heap.size w).alloc (Nat.le_refl _) (.cells #[.int .i64 x.k, .int .i64 x.s, .int .i64 x.a, .int .i64 x.b, .int .i64 x.c] 91)
      have HX := Lib.hid (Blk.new' w #[.int .i64 x.k, .int .i64 x.s, .int .i64 x.a, .int .i64 x.b, .int .i64 x.c] 91)
      have H1 := Lib.hid (h.below al)
      have HA := Lib.hid al
      have HW := Lib.hid h
      have HBB := Lib.hid (Nat.le_trans hB al.size)
      clear h al hB
      have HM2 := Lib.hid HM.out
      have hq : ∀ y : Past ((w.alloc (.cells #[.int .i64 x.k, .int .i64 x.s, .int .i64 x.a, .int .i64 x.b, .int .i64 x.c] 91)).alloc (.cells #[.int .i64 x.a, .int .i64 x.c] 62)), (Instr.lookup 71 (.map (some M.us)) (.agg #[.int .i64 x.a, .int .i64 x.c]) false).run Try.prog y.w = .ok (.bool true) y.w := fun y => by
        have := lookUs (HW.out.below ((HA.out.alloc HA.out.size _).trans (y.far.mono (HA.out.alloc HA.out.size _).size))).us x.a x.c
        rw [hus] at this
        exact this
      clear hus
      have P48 : ∀ V, Calls Try.prog 23 #[.int .i64 x.a, .int .i64 0, .int .i64 ((m : Int) - 1)] V fun e w' => e = .returned (.bool true) ∧ V = w' := fun V => by have := within_c x.a 0 ((m : Int) - 1) V; rwa [hib] at this
      clear hib
      go_enter Try.func70, Try.ntmps70
      go_upto_region 1 with fail
      generalize w.alloc (.cells #[.int .i64 x.k, .int .i64 x.s, .int .i64 x.a, .int .i64 x.b, .int .i64 x.c] 91) = w1 at *
      obtain ⟨gb, hgb⟩ : ∃ gb, gb = w.heap.size := ⟨_, rfl⟩
      rw [← hgb] at HX ⊢
      have HG := Lib.hid hgb
      clear hgb
      have r0 := HX.out
      have x2 := r0.cell 2 rfl
      have x4 := r0.cell 4 rfl
      have gl := r0.lt
      clear r0
      have q0 : Blk _ n 81 (netC M D S) := (H1.out).blk
      have nl := q0.lt
      clear q0
      go_upto_region 3 with fail
      have HP := Lib.hid (Blk.new' w1 #[.int .i64 x.a, .int .i64 x.c] 62)
      have al := (Below.refl w1.heap.size w1).alloc (Nat.le_refl _) (.cells #[.int .i64 x.a, .int .i64 x.c] 62)
      have H2 := Lib.hid (H1.out.below al)
      have HX2 := Lib.hid (HX.out.below al HX.out.lt)
      have HA2 := Lib.hid (HA.out.trans (al.mono HA.out.size))
      have HB2 := Lib.hid (Nat.le_trans HBB.out al.size)
      have HGP := Lib.hid HA.out.size
      clear al x2 x4 gl nl H1 HX HA HBB
      generalize w1.alloc (.cells #[.int .i64 x.a, .int .i64 x.c] 62) = w2 at *
      generalize w1.heap.size = gp at HP HGP ⊢
      have q0 : Blk _ n 81 (netC M D S) := (H2.out).blk
      have c4 := q0.cell 4 rfl
      have c53 := q0.cell 53 rfl
      have nl := q0.lt
      clear q0
      rw [← HM2.out] at c4
      have r0 := HX2.out
      have x2 := r0.cell 2 rfl
      have gl := r0.lt
      clear r0
      have p0 := HP.out.cell 0 rfl
      have p1 := HP.out.cell 1 rfl
      have pl := HP.out.lt
      refine wp_region_past (by kernel_rfl) (by kernel_rfl) ?_
      repeat (go_big_quiet_step ((go_at_call 23; exact past_same (P48 _))))
      refine wpQuiet_nil ?_
      intro xx
      have H4 := Lib.hid (H2.out.below xx.far)
      have HX4 := Lib.hid (HX2.out.below xx.far HX2.out.lt)
      have HP4 := Lib.hid (HP.out.below xx.far HP.out.lt)
      have HA4 := Lib.hid (HA2.out.trans (xx.far.mono HA2.out.size))
      have HB4 := Lib.hid (Nat.le_trans HB2.out xx.far.size)
      generalize xx.w = w4 at H4 HX4 HP4 HA4 HB4 ⊢
      clear H2 HX2 HP HA2 HB2 c4 c53 nl x2 gl p0 p1 pl hq P48
      have r0 := HX4.out
      have x1 := r0.cell 1 rfl
      have gl := r0.lt
      clear r0
      go_wp2_with (go_at_call 28; refine (tell_c H4.out HB4.out 3 (by omega) ⟨7, x.s, 0, 0, 0⟩).mono ?_; rintro e w5 ⟨rfl, hn⟩; have HN := Lib.hid (NetTo.before (Touch.of_below HA4.out) hn); clear hn)
      exact bodyPost_ret (v := .tuple #[]) (by simp [results, Try.results70, go_sem]) rfl ⟨rfl, HN.out⟩
    | false =>
      have hin := inB_yes hib
      obtain ⟨k, hk⟩ : ∃ k : Nat, x.a = k := ⟨x.a.toNat, by omega⟩
      have hkm : k < m := by omega
      have hct := ct_at h.cn k
      obtain ⟨ad, hca, hab, d0, d1, hdat⟩ := h.de.2 k (by have := HM.out; omega)
      have HDE := Lib.hid h.de
      obtain ⟨c, hc⟩ : ∃ c, c = M.ct.getD k default := ⟨_, rfl⟩
      have hpE : prfE D x.a x.c = Pf.prE c.pt c.ps k x.c := by unfold prfE; rw [hk, Int.toNat_natCast, hct.1, hct.2, hc]
      have hpV : prfV D x.a x.c = Pf.prV c.pt c.ps k x.c := by unfold prfV; rw [hk, Int.toNat_natCast, hct.1, hct.2, hc]
      have HPS : Hid (∀ q ∈ c.ps, 0 ≤ q) := by
        refine Lib.hid ?_
        have hm1 : (D.cn.getD k default) ∈ D.cn := by
          rw [List.getD_eq_getElem?_getD, List.getElem?_eq_getElem (by rw [← h.cn, List.length_map]; have := HM.out; omega)]
          exact List.getElem_mem _
        have := HD.out _ hm1
        rw [hct.2, ← hc] at this
        exact this
      have HC := Lib.hid hc
      have HKM := Lib.hid hkm
      have HCA := Lib.hid hca
      have HAB := Lib.hid (show (ad.add (k * 2)).block < w.heap.size by rw [block_of_add]; exact hab)
      rw [← hc] at d0 d1 hdat
      have HD0 := Lib.hid d0
      have HD1 := Lib.hid d1
      have HDA := Lib.hid hdat
      have HK := Lib.hid hk
      rw [hpE, hpV] at hA0
      obtain ⟨pv, hpv⟩ : ∃ pv, pv = Pf.prV c.pt c.ps k x.c := ⟨_, rfl⟩
      obtain ⟨pe, hpe⟩ : ∃ pe, pe = Pf.prE c.pt c.ps k x.c := ⟨_, rfl⟩
      have hpb : 0 ≤ pv ∧ pv ≤ 2147483646 := by rw [hpv]; exact Pf.prV_bd _ _ _ _
      rw [← hpv, ← hpe] at hA0
      have HPV := Lib.hid hpv
      have HPE := Lib.hid hpe
      clear hin hct hca hab d0 d1 hdat hc hpE hpV hpv hpe hk hkm
      by_cases hok : pe = 0 ∧ pv = x.b
      · have e0 : Nw.asked D S x = tell { S with us := mput (x.a, x.c) true S.us, ac := S.ac ++ [⟨⟨x.s, 0, 0, D.fee⟩, true, false⟩] } 4 ⟨3, x.s, x.a, 0, 0⟩ := by unfold Nw.asked; rw [hA0, hib, hus]; simp [hok]
        rw [e0]
        clear e0 hA0
        obtain ⟨h1, h2⟩ := hok
        have HOK := Lib.hid h2
        clear h2
        subst h1
        have al := (Below.refl w.heap.size w).alloc (Nat.le_refl _) (.cells #[.int .i64 x.k, .int .i64 x.s, .int .i64 x.a, .int .i64 x.b, .int .i64 x.c] 91)
        have HX := Lib.hid (Blk.new' w #[.int .i64 x.k, .int .i64 x.s, .int .i64 x.a, .int .i64 x.b, .int .i64 x.c] 91)
        have H1 := Lib.hid (h.below al)
        have HA := Lib.hid al
        have HW := Lib.hid h
        have HBB := Lib.hid (Nat.le_trans hB al.size)
        clear h al hB
        have HM2 := Lib.hid HM.out
        have hq : ∀ y : Past ((w.alloc (.cells #[.int .i64 x.k, .int .i64 x.s, .int .i64 x.a, .int .i64 x.b, .int .i64 x.c] 91)).alloc (.cells #[.int .i64 x.a, .int .i64 x.c] 62)), (Instr.lookup 71 (.map (some M.us)) (.agg #[.int .i64 x.a, .int .i64 x.c]) false).run Try.prog y.w = .ok (.bool false) y.w := fun y => by
          have := lookUs (HW.out.below ((HA.out.alloc HA.out.size _).trans (y.far.mono (HA.out.alloc HA.out.size _).size))).us x.a x.c
          rw [hus] at this
          exact this
        clear hus
        have P48 : ∀ V, Calls Try.prog 23 #[.int .i64 x.a, .int .i64 0, .int .i64 ((m : Int) - 1)] V fun e w' => e = .returned (.bool true) ∧ V = w' := fun V => by have := within_c x.a 0 ((m : Int) - 1) V; rwa [hib] at this
        clear hib
        go_enter Try.func70, Try.ntmps70
        go_upto_region 1 with fail
        generalize w.alloc (.cells #[.int .i64 x.k, .int .i64 x.s, .int .i64 x.a, .int .i64 x.b, .int .i64 x.c] 91) = w1 at *
        obtain ⟨gb, hgb⟩ : ∃ gb, gb = w.heap.size := ⟨_, rfl⟩
        rw [← hgb] at HX ⊢
        have HG := Lib.hid hgb
        clear hgb
        have r0 := HX.out
        have x2 := r0.cell 2 rfl
        have x4 := r0.cell 4 rfl
        have gl := r0.lt
        clear r0
        have q0 : Blk _ n 81 (netC M D S) := (H1.out).blk
        have nl := q0.lt
        clear q0
        go_upto_region 3 with fail
        have HP := Lib.hid (Blk.new' w1 #[.int .i64 x.a, .int .i64 x.c] 62)
        have al := (Below.refl w1.heap.size w1).alloc (Nat.le_refl _) (.cells #[.int .i64 x.a, .int .i64 x.c] 62)
        have H2 := Lib.hid (H1.out.below al)
        have HX2 := Lib.hid (HX.out.below al HX.out.lt)
        have HA2 := Lib.hid (HA.out.trans (al.mono HA.out.size))
        have HB2 := Lib.hid (Nat.le_trans HBB.out al.size)
        have HGP := Lib.hid HA.out.size
        clear al x2 x4 gl nl H1 HX HA HBB
        generalize w1.alloc (.cells #[.int .i64 x.a, .int .i64 x.c] 62) = w2 at *
        generalize w1.heap.size = gp at HP HGP ⊢
        have q0 : Blk _ n 81 (netC M D S) := (H2.out).blk
        have c4 := q0.cell 4 rfl
        have c53 := q0.cell 53 rfl
        have nl := q0.lt
        clear q0
        rw [← HM2.out] at c4
        have r0 := HX2.out
        have x2 := r0.cell 2 rfl
        have gl := r0.lt
        clear r0
        have p0 := HP.out.cell 0 rfl
        have p1 := HP.out.cell 1 rfl
        have pl := HP.out.lt
        refine wp_region_past (by kernel_rfl) (by kernel_rfl) ?_
        repeat (go_big_quiet_step ((go_at_call 23; exact past_same (P48 _))))
        refine wpQuiet_nil ?_
        intro xx
        have H4 := Lib.hid (H2.out.below xx.far)
        have HX4 := Lib.hid (HX2.out.below xx.far HX2.out.lt)
        have HP4 := Lib.hid (HP.out.below xx.far HP.out.lt)
        have HA4 := Lib.hid (HA2.out.trans (xx.far.mono HA2.out.size))
        have HB4 := Lib.hid (Nat.le_trans HB2.out xx.far.size)
        generalize xx.w = w4 at H4 HX4 HP4 HA4 HB4 ⊢
        clear H2 HX2 HP HA2 HB2 c4 c53 nl x2 gl p0 p1 pl hq P48
        go_upto_region 5 with fail
        refine wp_region_then 13 _ ?af5y rfl (by kernel_rfl) (by kernel_rfl) ?walk5y ?tail5y
        case walk5y =>
          intro V hV
          have hwV := HA4.out.trans (hV.mono HA4.out.size)
          have e0 := (hwV.cell HAB.out).trans HD0.out
          have e1 := (hwV.cell (p := ⟨_, _, none⟩) HAB.out).trans HD1.out
          have hab2 := Nat.lt_of_lt_of_le HAB.out hwV.size
          clear hwV
          have hkm := HKM.out
          have hki : (k : Int) < (m : Int) := by omega
          have q0 : Blk _ n 81 (netC M D S) := (H4.out.below hV).blk
          have c4 := q0.cell 4 rfl
          have nl := q0.lt
          clear q0
          rw [← HM.out, HCA.out] at c4
          have r0 := HX4.out.below hV HX4.out.lt
          have x2 := r0.cell 2 rfl
          have x4 := r0.cell 4 rfl
          have gl := r0.lt
          clear r0
          rw [HK.out] at x2
          clear hV
          simp only [List.take_succ_cons, List.take_zero]
          repeat (go_big_quiet_step (fail))
          refine wpQuiet_nil ?_
          rfl
        intro w5 hb5
        have H5 := Lib.hid (H4.out.below hb5)
        have HX5 := Lib.hid (HX4.out.below hb5 HX4.out.lt)
        have HP5 := Lib.hid (HP4.out.below hb5 HP4.out.lt)
        have HA5 := Lib.hid (HA4.out.trans (hb5.mono HA4.out.size))
        have HB5 := Lib.hid (Nat.le_trans HB4.out hb5.size)
        clear hb5 H4 HX4 HP4 HA4 HB4
        go_simp
        refine (Proof_c c.pt c.A c.ps c.cap k x.c w5 HDA.out.2.1 HDA.out.2.2 HPS.out (HDA.out.1.below HA5.out)).mono ?_
        rintro e w6 ⟨rfl, hb6⟩
        have H6 := Lib.hid (H5.out.below hb6)
        have HX6 := Lib.hid (HX5.out.below hb6 HX5.out.lt)
        have HP6 := Lib.hid (HP5.out.below hb6 HP5.out.lt)
        have HA6 := Lib.hid (HA5.out.trans (hb6.mono HA5.out.size))
        have HB6 := Lib.hid (Nat.le_trans HB5.out hb6.size)
        clear hb6 H5 HX5 HP5 HA5 HB5
        rw [show Pf.prV c.pt c.ps k x.c = pv from HPV.out.symm, show Pf.prE c.pt c.ps k x.c = 0 from HPE.out.symm]
        dsimp only
        repeat (go_big_quiet_step (fail))
        refine wpQuiet_nil ?_
        intro xx
        have H4 := Lib.hid (H6.out.below xx.far)
        have HX4 := Lib.hid (HX6.out.below xx.far HX6.out.lt)
        have HP4 := Lib.hid (HP6.out.below xx.far HP6.out.lt)
        have HA4 := Lib.hid (HA6.out.trans (xx.far.mono HA6.out.size))
        have HB4 := Lib.hid (Nat.le_trans HB6.out xx.far.size)
        generalize xx.w = w7 at H4 HX4 HP4 HA4 HB4 ⊢
        clear H6 HX6 HP6 HA6 HB6
        have hpw : IntKind.i64.wrap pv = pv := IntWalk.i64_in _ (by omega)
        have hpw2 : wrap64 pv = pv := by rw [← IntWalk.i64_left]; exact hpw
        have r0 := HX4.out
        have x3 := r0.cell 3 rfl
        have gl := r0.lt
        clear r0
        rw [← HOK.out] at x3
        go_upto_region 9 with fail
        clear x3 gl hpw hpw2
        refine wp_region_then 5 _ ?af9 rfl (by kernel_rfl) (by kernel_rfl) ?walk9 ?tail9
        case walk9 =>
          intro V hV
          have q0 : Blk _ n 81 (netC M D S) := (H4.out.below hV).blk
          have c53 := q0.cell 53 rfl
          have nl := q0.lt
          clear q0
          have p0 := (HP4.out.below hV HP4.out.lt).cell 0 rfl
          have p1 := (HP4.out.below hV HP4.out.lt).cell 1 rfl
          have pl := (HP4.out.below hV HP4.out.lt).lt
          clear hV
          simp only [List.take_succ_cons, List.take_zero]
          repeat (go_big_quiet_step (fail))
          refine wpQuiet_nil ?_
          rfl
        intro w8 hb8
        have H8 := Lib.hid (H4.out.below hb8)
        have HX8 := Lib.hid (HX4.out.below hb8 HX4.out.lt)
        have HT8 := Lib.hid (Touch.of_below (S := NetOwn col base) (HA4.out.trans (hb8.mono HA4.out.size)))
        have HB8 := Lib.hid (Nat.le_trans HB4.out hb8.size)
        have HGU := Lib.hid (show gb ≠ M.us by have := HW.out.us.lt; have := HG.out; omega)
        clear hb8 H4 HX4 HP4 HA4 HB4
        refine wpO_mput rfl _ _ _ 71 rfl keyP Try.underlying71 H8.out.us rfl (x.a, x.c) rfl true rfl ?_
        intro w9 hm9 ht9 hs9
        have H9 := Lib.hid (H8.out.toUs hm9 ht9).1
        have HT9 := Lib.hid (HT8.out.trans (H8.out.toUs hm9 ht9).2)
        have HX9 := Lib.hid (HX8.out.touch ht9 (fun e => HGU.out e))
        have HB9 := Lib.hid (Nat.le_trans HB8.out ht9.size)
        clear hm9 ht9 hs9 H8 HX8 HT8 HB8
        refine wpQuiet_nil ?_
        intro xx
        have H2 := Lib.hid (H9.out.below xx.far)
        have HX2 := Lib.hid (HX9.out.below xx.far HX9.out.lt)
        have HT2 := Lib.hid (HT9.out.below xx.far)
        have HB2 := Lib.hid (Nat.le_trans HB9.out xx.far.size)
        generalize xx.w = w2 at H2 HX2 HT2 HB2 ⊢
        clear H9 HX9 HT9 HB9
        go_upto_region 10 with fail
        dsimp only [Act.put]
        obtain ⟨S1, hS1⟩ : ∃ S1 : St, S1 = { S with us := mput (x.a, x.c) true S.us } := ⟨_, rfl⟩
        have HS1 := Lib.hid hS1
        have HA1 := Lib.hid (show S1.ac = S.ac by rw [hS1])
        have H3 := Lib.hid (show NetAt w2 B n col base D M S1 by rw [hS1]; exact H2.out)
        clear hS1 H2
        obtain ⟨la, hla⟩ : ∃ la, la = S1.ac.length := ⟨_, rfl⟩
        have HLA := Lib.hid hla
        have HL6 := Lib.hid (show la ≤ 1000000 by rw [hla, HA1.out]; exact HAC.out)
        clear hla
        obtain ⟨i0, hi, hz0, hz1, hz2⟩ := info_parts info183
        have HI := Lib.hid hi
        have HZ0 := Lib.hid hz0
        have HZ1 := Lib.hid hz1
        have HZ2 := Lib.hid hz2
        clear hi hz0 hz1 hz2
        refine wp_region_spine 15 [true, false] [0] ?af10 (fun V => NetAt V B n col base D M S1 ∧ Blk V gb 91 [.int .i64 x.k, .int .i64 x.s, .int .i64 x.a, .int .i64 x.b, .int .i64 x.c] ∧ Below w2.heap.size w2 V) (by kernel_rfl) (by kernel_rfl) ⟨H3.out.below ((Below.refl _ _).drew), HX2.out.drew, (Below.refl _ _).drew⟩ ?walk10 ?spine10
        case walk10 =>
          rintro V ⟨h1, h2, _⟩
          have c54 := h1.blk.cell 54 rfl
          have c3 := h1.blk.cell 3 rfl
          rw [← HLA.out] at c54
          have nl := h1.lt
          have x1 := h2.cell 1 rfl
          have gl := h2.lt
          clear h1 h2
          simp only [List.take_succ_cons, List.take_zero]
          repeat (go_big_quiet_step (fail))
          refine wpQuiet_nil ?_
          rfl
        case spine10 =>
          rintro V ⟨h1, h2, h3⟩
          have HV := Lib.hid h1
          have HXV := Lib.hid h2
          have HWV := Lib.hid h3
          clear h1 h2 h3
          refine spineV_cons ?_
          refine stepV_new (.cells #[.int .i64 x.s, .int .i64 0, .int .i64 0, .int .i64 D.fee, .bool true, .bool false] 100) (fun b => .slice (some ⟨b, 0, none⟩) 1 1) (fun _ => by kernel_rfl) ?_
          have al := (Below.refl V.heap.size V).alloc (Nat.le_refl _) (.cells #[.int .i64 x.s, .int .i64 0, .int .i64 0, .int .i64 D.fee, .bool true, .bool false] 100)
          have HV2 := Lib.hid (HV.out.below al)
          have HX2 := Lib.hid (HXV.out.below al HXV.out.lt)
          have HW2 := Lib.hid (HWV.out.trans (al.mono HWV.out.size))
          have HR := Lib.hid (Blk.new' V #[.int .i64 x.s, .int .i64 0, .int .i64 0, .int .i64 D.fee, .bool true, .bool false] 100)
          refine ⟨fun _ => ⟨HV2.out, HX2.out, HW2.out⟩, ?_⟩
          generalize V.alloc (.cells #[.int .i64 x.s, .int .i64 0, .int .i64 0, .int .i64 D.fee, .bool true, .bool false] 100) = V2 at HV2 HX2 HW2 HR ⊢
          generalize V.heap.size = ga at *
          clear al HV HXV HWV
          (try simp only [Act.put, List.setIfInBounds_toArray, List.set_cons_zero, List.set_cons_succ])
          refine spineV_cons ?_
          refine stepV_append (.tmp 79) (.tmp 90) 72 rfl B 100 i0 (.agg #[.int .i64 0, .int .i64 0, .int .i64 0, .int .i64 0, .bool false, .bool false]) 6 40 Try.underlying72 HI.out HZ0.out HZ1.out HZ2.out rfl (by decide) M.aA la M.ac (flatA S1.ac) (by rfl) (by rw [HLA.out]; exact HV2.out.ac) (some ⟨ga, 0, none⟩) 1 1 [.int .i64 x.s, .int .i64 0, .int .i64 0, .int .i64 D.fee, .bool true, .bool false] (by rfl) (by rfl) (.inr ⟨_, rfl, ?_⟩) (by simp [Value.oneCell']) (by have := HL6.out; unfold maxLen; omega) (by have := HL6.out; omega) (Nat.le_trans HV2.out.bB (Nat.le_of_lt HV2.out.lt)) ?_
          · intro j u hu
            have := HR.out.cell j hu
            rwa [show ((⟨ga, 0, none⟩ : Addr).add j) = ⟨ga, j, none⟩ from (by unfold Addr.add; split <;> simp_all)]
          intro A' cap' w' hown hgr hnr
          refine ⟨fun h => absurd h (by decide), ?_⟩
          have hTg := grown_touch hgr
          have hne : ¬ OwnB M.aA n := fun e => by have h1 := H3.out.acc n e; rw [H3.out.c0] at h1; omega
          have HBn := Lib.hid (HV2.out.blk.touch hTg hne)
          have hgbn : ¬ OwnB M.aA gb := fun e => by have h1 := (rowE_lt HW.out.ac e).2; have h2 := HG.out; omega
          have HXn := Lib.hid (HX2.out.touch hTg hgbn)
          have HTn := Lib.hid ((Touch.of_below (S := fun k => k = n ∨ OwnB M.aA k) HW2.out).then hTg (fun k e => .inl (.inr e)))
          have HOn := Lib.hid (show OwnR Nw.Ac.vals 100 6 B w' A' cap' (S1.ac ++ [⟨⟨x.s, 0, 0, D.fee⟩, true, false⟩]) by
            unfold OwnR
            rw [List.length_append, ← HLA.out, flatM_append]
            exact hown)
          have HNn := Lib.hid (fun k (hk : OwnB A' k) => (hnr k hk).imp id (fun (e : k = V2.heap.size) => (by rw [e]; exact HW2.out.size : w2.heap.size ≤ k)))
          have HNA := Lib.hid (show ¬ OwnB A' n from fun e => by
            rcases hnr n e with e | e
            · exact hne e
            · have := HV2.out.lt; omega)
          have HGL := Lib.hid (show gb ≠ n from by have := HW.out.lt; have := HG.out; omega)
          clear hown hgr hnr hTg hne hgbn HV2 HX2 HW2 HR
          refine spineV_nil ?_
          (try simp only [Act.put, List.setIfInBounds_toArray, List.set_cons_zero, List.set_cons_succ])
          have nl := HBn.out.lt
          have c54 := HBn.out.cell 54 rfl
          have f54 := HBn.out.free 54
          (try simp only [List.drop_succ_cons, List.drop_zero])
          go_upto_region 11 with fail
          clear c54 f54 nl
          have HTf : Touch (fun k => k = n) w' (w'.setCell ⟨n, 54, none⟩ (.slice A' (la + 1) cap')) := (Touch.refl _ _).put 54 _
          have HN := H3.out.toAc (OwnR.touch HOn.out HTf (fun k hk e => HNA.out (e ▸ hk))) (HTn.out.then HTf (fun k e => .inl (.inl e))) (by
            have := HBn.out.setCell 54 (.slice A' (la + 1) cap')
            rw [List.length_append, ← HLA.out]
            exact this) HNn.out
          have HXf := Lib.hid (HXn.out.touch HTf HGL.out)
          generalize w'.setCell ⟨n, 54, none⟩ (.slice A' (la + 1) cap') = w5 at HN HXf ⊢
          obtain ⟨col1, M1, hc1, hN1, ht1⟩ := HN
          have HC1 := Lib.hid (fun k (hk : k < w.heap.size) => hc1 k (Nat.lt_of_lt_of_le hk HT2.out.size))
          have HN1 := Lib.hid (show NetAt w5 B n col1 base D M1 { S with us := mput (x.a, x.c) true S.us, ac := S.ac ++ [⟨⟨x.s, 0, 0, D.fee⟩, true, false⟩] } by
            have e : ({ S1 with ac := S1.ac ++ [⟨⟨x.s, 0, 0, D.fee⟩, true, false⟩] } : St) = { S with us := mput (x.a, x.c) true S.us, ac := S.ac ++ [⟨⟨x.s, 0, 0, D.fee⟩, true, false⟩] } := by rw [HA1.out, HS1.out]
            rw [← e]; exact hN1)
          have HT1 := Lib.hid (HT2.out.trans ht1)
          have HB1 := Lib.hid (Nat.le_trans HB2.out ht1.size)
          clear HTf HTn HBn HXn HOn HNn HNA hc1 hN1 ht1
          have x1 := HXf.out.cell 1 rfl
          have x2 := HXf.out.cell 2 rfl
          have gl := HXf.out.lt
          go_wp2_with (go_at_call 28; refine (tell_c HN1.out HB1.out 4 (by omega) ⟨3, x.s, x.a, 0, 0⟩).mono ?_; rintro e w6 ⟨rfl, hn⟩; have HN := Lib.hid (NetTo.next HC1.out HT1.out hn); clear hn)
          exact bodyPost_end (v := .tuple #[]) (by simp [results, Try.results70, go_sem]) rfl ⟨rfl, HN.out⟩
      · have e0 : Nw.asked D S x = Nw.tell S 3 ⟨7, x.s, 0, 0, 0⟩ := by unfold Nw.asked; rw [hA0, hib, hus, decide_eq_false hok]; rfl
        rw [e0]
        clear e0 hA0
        by_cases h1 : pe = 0
        · have h2 : ¬ pv = x.b := fun e => hok ⟨h1, e⟩
          clear hok
          subst h1
          have al := (Below.refl w.heap.size w).alloc (Nat.le_refl _) (.cells #[.int .i64 x.k, .int .i64 x.s, .int .i64 x.a, .int .i64 x.b, .int .i64 x.c] 91)
          have HX := Lib.hid (Blk.new' w #[.int .i64 x.k, .int .i64 x.s, .int .i64 x.a, .int .i64 x.b, .int .i64 x.c] 91)
          have H1 := Lib.hid (h.below al)
          have HA := Lib.hid al
          have HW := Lib.hid h
          have HBB := Lib.hid (Nat.le_trans hB al.size)
          clear h al hB
          have HM2 := Lib.hid HM.out
          have hq : ∀ y : Past ((w.alloc (.cells #[.int .i64 x.k, .int .i64 x.s, .int .i64 x.a, .int .i64 x.b, .int .i64 x.c] 91)).alloc (.cells #[.int .i64 x.a, .int .i64 x.c] 62)), (Instr.lookup 71 (.map (some M.us)) (.agg #[.int .i64 x.a, .int .i64 x.c]) false).run Try.prog y.w = .ok (.bool false) y.w := fun y => by
            have := lookUs (HW.out.below ((HA.out.alloc HA.out.size _).trans (y.far.mono (HA.out.alloc HA.out.size _).size))).us x.a x.c
            rw [hus] at this
            exact this
          clear hus
          have P48 : ∀ V, Calls Try.prog 23 #[.int .i64 x.a, .int .i64 0, .int .i64 ((m : Int) - 1)] V fun e w' => e = .returned (.bool true) ∧ V = w' := fun V => by have := within_c x.a 0 ((m : Int) - 1) V; rwa [hib] at this
          clear hib
          go_enter Try.func70, Try.ntmps70
          go_upto_region 1 with fail
          generalize w.alloc (.cells #[.int .i64 x.k, .int .i64 x.s, .int .i64 x.a, .int .i64 x.b, .int .i64 x.c] 91) = w1 at *
          obtain ⟨gb, hgb⟩ : ∃ gb, gb = w.heap.size := ⟨_, rfl⟩
          rw [← hgb] at HX ⊢
          have HG := Lib.hid hgb
          clear hgb
          have r0 := HX.out
          have x2 := r0.cell 2 rfl
          have x4 := r0.cell 4 rfl
          have gl := r0.lt
          clear r0
          have q0 : Blk _ n 81 (netC M D S) := (H1.out).blk
          have nl := q0.lt
          clear q0
          go_upto_region 3 with fail
          have HP := Lib.hid (Blk.new' w1 #[.int .i64 x.a, .int .i64 x.c] 62)
          have al := (Below.refl w1.heap.size w1).alloc (Nat.le_refl _) (.cells #[.int .i64 x.a, .int .i64 x.c] 62)
          have H2 := Lib.hid (H1.out.below al)
          have HX2 := Lib.hid (HX.out.below al HX.out.lt)
          have HA2 := Lib.hid (HA.out.trans (al.mono HA.out.size))
          have HB2 := Lib.hid (Nat.le_trans HBB.out al.size)
          have HGP := Lib.hid HA.out.size
          clear al x2 x4 gl nl H1 HX HA HBB
          generalize w1.alloc (.cells #[.int .i64 x.a, .int .i64 x.c] 62) = w2 at *
          generalize w1.heap.size = gp at HP HGP ⊢
          have q0 : Blk _ n 81 (netC M D S) := (H2.out).blk
          have c4 := q0.cell 4 rfl
          have c53 := q0.cell 53 rfl
          have nl := q0.lt
          clear q0
          rw [← HM2.out] at c4
          have r0 := HX2.out
          have x2 := r0.cell 2 rfl
          have gl := r0.lt
          clear r0
          have p0 := HP.out.cell 0 rfl
          have p1 := HP.out.cell 1 rfl
          have pl := HP.out.lt
          refine wp_region_past (by kernel_rfl) (by kernel_rfl) ?_
          repeat (go_big_quiet_step ((go_at_call 23; exact past_same (P48 _))))
          refine wpQuiet_nil ?_
          intro xx
          have H4 := Lib.hid (H2.out.below xx.far)
          have HX4 := Lib.hid (HX2.out.below xx.far HX2.out.lt)
          have HP4 := Lib.hid (HP.out.below xx.far HP.out.lt)
          have HA4 := Lib.hid (HA2.out.trans (xx.far.mono HA2.out.size))
          have HB4 := Lib.hid (Nat.le_trans HB2.out xx.far.size)
          generalize xx.w = w4 at H4 HX4 HP4 HA4 HB4 ⊢
          clear H2 HX2 HP HA2 HB2 c4 c53 nl x2 gl p0 p1 pl hq P48
          go_upto_region 5 with fail
          refine wp_region_then 13 _ ?af5n rfl (by kernel_rfl) (by kernel_rfl) ?walk5n ?tail5n
          case walk5n =>
            intro V hV
            have hwV := HA4.out.trans (hV.mono HA4.out.size)
            have e0 := (hwV.cell HAB.out).trans HD0.out
            have e1 := (hwV.cell (p := ⟨_, _, none⟩) HAB.out).trans HD1.out
            have hab2 := Nat.lt_of_lt_of_le HAB.out hwV.size
            clear hwV
            have hkm := HKM.out
            have hki : (k : Int) < (m : Int) := by omega
            have q0 : Blk _ n 81 (netC M D S) := (H4.out.below hV).blk
            have c4 := q0.cell 4 rfl
            have nl := q0.lt
            clear q0
            rw [← HM.out, HCA.out] at c4
            have r0 := HX4.out.below hV HX4.out.lt
            have x2 := r0.cell 2 rfl
            have x4 := r0.cell 4 rfl
            have gl := r0.lt
            clear r0
            rw [HK.out] at x2
            clear hV
            simp only [List.take_succ_cons, List.take_zero]
            repeat (go_big_quiet_step (fail))
            refine wpQuiet_nil ?_
            rfl
          intro w5 hb5
          have H5 := Lib.hid (H4.out.below hb5)
          have HX5 := Lib.hid (HX4.out.below hb5 HX4.out.lt)
          have HP5 := Lib.hid (HP4.out.below hb5 HP4.out.lt)
          have HA5 := Lib.hid (HA4.out.trans (hb5.mono HA4.out.size))
          have HB5 := Lib.hid (Nat.le_trans HB4.out hb5.size)
          clear hb5 H4 HX4 HP4 HA4 HB4
          go_simp
          refine (Proof_c c.pt c.A c.ps c.cap k x.c w5 HDA.out.2.1 HDA.out.2.2 HPS.out (HDA.out.1.below HA5.out)).mono ?_
          rintro e w6 ⟨rfl, hb6⟩
          have H6 := Lib.hid (H5.out.below hb6)
          have HX6 := Lib.hid (HX5.out.below hb6 HX5.out.lt)
          have HP6 := Lib.hid (HP5.out.below hb6 HP5.out.lt)
          have HA6 := Lib.hid (HA5.out.trans (hb6.mono HA5.out.size))
          have HB6 := Lib.hid (Nat.le_trans HB5.out hb6.size)
          clear hb6 H5 HX5 HP5 HA5 HB5
          rw [show Pf.prV c.pt c.ps k x.c = pv from HPV.out.symm, show Pf.prE c.pt c.ps k x.c = 0 from HPE.out.symm]
          dsimp only
          repeat (go_big_quiet_step (fail))
          refine wpQuiet_nil ?_
          intro xx
          have H4 := Lib.hid (H6.out.below xx.far)
          have HX4 := Lib.hid (HX6.out.below xx.far HX6.out.lt)
          have HP4 := Lib.hid (HP6.out.below xx.far HP6.out.lt)
          have HA4 := Lib.hid (HA6.out.trans (xx.far.mono HA6.out.size))
          have HB4 := Lib.hid (Nat.le_trans HB6.out xx.far.size)
          generalize xx.w = w7 at H4 HX4 HP4 HA4 HB4 ⊢
          clear H6 HX6 HP6 HA6 HB6
          have hpw : IntKind.i64.wrap pv = pv := IntWalk.i64_in _ (by omega)
          have hpw2 : wrap64 pv = pv := by rw [← IntWalk.i64_left]; exact hpw
          have r0 := HX4.out
          have x3 := r0.cell 3 rfl
          have gl := r0.lt
          clear r0
          have k2 : (pv == x.b) = false := by simpa using h2
          have r0 := HX4.out
          have x1 := r0.cell 1 rfl
          have gl := r0.lt
          clear r0
          go_wp2_with (go_at_call 28; refine (tell_c H4.out HB4.out 3 (by omega) ⟨7, x.s, 0, 0, 0⟩).mono ?_; rintro e w5 ⟨rfl, hn⟩; have HN := Lib.hid (NetTo.before (Touch.of_below HA4.out) hn); clear hn)
          exact bodyPost_ret (v := .tuple #[]) (by simp [results, Try.results70, go_sem]) rfl ⟨rfl, HN.out⟩
        · clear hok
          have al := (Below.refl w.heap.size w).alloc (Nat.le_refl _) (.cells #[.int .i64 x.k, .int .i64 x.s, .int .i64 x.a, .int .i64 x.b, .int .i64 x.c] 91)
          have HX := Lib.hid (Blk.new' w #[.int .i64 x.k, .int .i64 x.s, .int .i64 x.a, .int .i64 x.b, .int .i64 x.c] 91)
          have H1 := Lib.hid (h.below al)
          have HA := Lib.hid al
          have HW := Lib.hid h
          have HBB := Lib.hid (Nat.le_trans hB al.size)
          clear h al hB
          have HM2 := Lib.hid HM.out
          have hq : ∀ y : Past ((w.alloc (.cells #[.int .i64 x.k, .int .i64 x.s, .int .i64 x.a, .int .i64 x.b, .int .i64 x.c] 91)).alloc (.cells #[.int .i64 x.a, .int .i64 x.c] 62)), (Instr.lookup 71 (.map (some M.us)) (.agg #[.int .i64 x.a, .int .i64 x.c]) false).run Try.prog y.w = .ok (.bool false) y.w := fun y => by
            have := lookUs (HW.out.below ((HA.out.alloc HA.out.size _).trans (y.far.mono (HA.out.alloc HA.out.size _).size))).us x.a x.c
            rw [hus] at this
            exact this
          clear hus
          have P48 : ∀ V, Calls Try.prog 23 #[.int .i64 x.a, .int .i64 0, .int .i64 ((m : Int) - 1)] V fun e w' => e = .returned (.bool true) ∧ V = w' := fun V => by have := within_c x.a 0 ((m : Int) - 1) V; rwa [hib] at this
          clear hib
          go_enter Try.func70, Try.ntmps70
          go_upto_region 1 with fail
          generalize w.alloc (.cells #[.int .i64 x.k, .int .i64 x.s, .int .i64 x.a, .int .i64 x.b, .int .i64 x.c] 91) = w1 at *
          obtain ⟨gb, hgb⟩ : ∃ gb, gb = w.heap.size := ⟨_, rfl⟩
          rw [← hgb] at HX ⊢
          have HG := Lib.hid hgb
          clear hgb
          have r0 := HX.out
          have x2 := r0.cell 2 rfl
          have x4 := r0.cell 4 rfl
          have gl := r0.lt
          clear r0
          have q0 : Blk _ n 81 (netC M D S) := (H1.out).blk
          have nl := q0.lt
          clear q0
          go_upto_region 3 with fail
          have HP := Lib.hid (Blk.new' w1 #[.int .i64 x.a, .int .i64 x.c] 62)
          have al := (Below.refl w1.heap.size w1).alloc (Nat.le_refl _) (.cells #[.int .i64 x.a, .int .i64 x.c] 62)
          have H2 := Lib.hid (H1.out.below al)
          have HX2 := Lib.hid (HX.out.below al HX.out.lt)
          have HA2 := Lib.hid (HA.out.trans (al.mono HA.out.size))
          have HB2 := Lib.hid (Nat.le_trans HBB.out al.size)
          have HGP := Lib.hid HA.out.size
          clear al x2 x4 gl nl H1 HX HA HBB
          generalize w1.alloc (.cells #[.int .i64 x.a, .int .i64 x.c] 62) = w2 at *
          generalize w1.heap.size = gp at HP HGP ⊢
          have q0 : Blk _ n 81 (netC M D S) := (H2.out).blk
          have c4 := q0.cell 4 rfl
          have c53 := q0.cell 53 rfl
          have nl := q0.lt
          clear q0
          rw [← HM2.out] at c4
          have r0 := HX2.out
          have x2 := r0.cell 2 rfl
          have gl := r0.lt
          clear r0
          have p0 := HP.out.cell 0 rfl
          have p1 := HP.out.cell 1 rfl
          have pl := HP.out.lt
          refine wp_region_past (by kernel_rfl) (by kernel_rfl) ?_
          repeat (go_big_quiet_step ((go_at_call 23; exact past_same (P48 _))))
          refine wpQuiet_nil ?_
          intro xx
          have H4 := Lib.hid (H2.out.below xx.far)
          have HX4 := Lib.hid (HX2.out.below xx.far HX2.out.lt)
          have HP4 := Lib.hid (HP.out.below xx.far HP.out.lt)
          have HA4 := Lib.hid (HA2.out.trans (xx.far.mono HA2.out.size))
          have HB4 := Lib.hid (Nat.le_trans HB2.out xx.far.size)
          generalize xx.w = w4 at H4 HX4 HP4 HA4 HB4 ⊢
          clear H2 HX2 HP HA2 HB2 c4 c53 nl x2 gl p0 p1 pl hq P48
          go_upto_region 5 with fail
          refine wp_region_then 13 _ ?af5m rfl (by kernel_rfl) (by kernel_rfl) ?walk5m ?tail5m
          case walk5m =>
            intro V hV
            have hwV := HA4.out.trans (hV.mono HA4.out.size)
            have e0 := (hwV.cell HAB.out).trans HD0.out
            have e1 := (hwV.cell (p := ⟨_, _, none⟩) HAB.out).trans HD1.out
            have hab2 := Nat.lt_of_lt_of_le HAB.out hwV.size
            clear hwV
            have hkm := HKM.out
            have hki : (k : Int) < (m : Int) := by omega
            have q0 : Blk _ n 81 (netC M D S) := (H4.out.below hV).blk
            have c4 := q0.cell 4 rfl
            have nl := q0.lt
            clear q0
            rw [← HM.out, HCA.out] at c4
            have r0 := HX4.out.below hV HX4.out.lt
            have x2 := r0.cell 2 rfl
            have x4 := r0.cell 4 rfl
            have gl := r0.lt
            clear r0
            rw [HK.out] at x2
            clear hV
            simp only [List.take_succ_cons, List.take_zero]
            repeat (go_big_quiet_step (fail))
            refine wpQuiet_nil ?_
            rfl
          intro w5 hb5
          have H5 := Lib.hid (H4.out.below hb5)
          have HX5 := Lib.hid (HX4.out.below hb5 HX4.out.lt)
          have HP5 := Lib.hid (HP4.out.below hb5 HP4.out.lt)
          have HA5 := Lib.hid (HA4.out.trans (hb5.mono HA4.out.size))
          have HB5 := Lib.hid (Nat.le_trans HB4.out hb5.size)
          clear hb5 H4 HX4 HP4 HA4 HB4
          go_simp
          refine (Proof_c c.pt c.A c.ps c.cap k x.c w5 HDA.out.2.1 HDA.out.2.2 HPS.out (HDA.out.1.below HA5.out)).mono ?_
          rintro e w6 ⟨rfl, hb6⟩
          have H6 := Lib.hid (H5.out.below hb6)
          have HX6 := Lib.hid (HX5.out.below hb6 HX5.out.lt)
          have HP6 := Lib.hid (HP5.out.below hb6 HP5.out.lt)
          have HA6 := Lib.hid (HA5.out.trans (hb6.mono HA5.out.size))
          have HB6 := Lib.hid (Nat.le_trans HB5.out hb6.size)
          clear hb6 H5 HX5 HP5 HA5 HB5
          rw [show Pf.prV c.pt c.ps k x.c = pv from HPV.out.symm, show Pf.prE c.pt c.ps k x.c = pe from HPE.out.symm]
          dsimp only
          repeat (go_big_quiet_step (fail))
          refine wpQuiet_nil ?_
          intro xx
          have H4 := Lib.hid (H6.out.below xx.far)
          have HX4 := Lib.hid (HX6.out.below xx.far HX6.out.lt)
          have HP4 := Lib.hid (HP6.out.below xx.far HP6.out.lt)
          have HA4 := Lib.hid (HA6.out.trans (xx.far.mono HA6.out.size))
          have HB4 := Lib.hid (Nat.le_trans HB6.out xx.far.size)
          generalize xx.w = w7 at H4 HX4 HP4 HA4 HB4 ⊢
          clear H6 HX6 HP6 HA6 HB6
          have hpw : IntKind.i64.wrap pv = pv := IntWalk.i64_in _ (by omega)
          have hpw2 : wrap64 pv = pv := by rw [← IntWalk.i64_left]; exact hpw
          have r0 := HX4.out
          have x3 := r0.cell 3 rfl
          have gl := r0.lt
          clear r0
          have k1 : (pe == 0) = false := by simpa using h1
          have r0 := HX4.out
          have x1 := r0.cell 1 rfl
          have gl := r0.lt
          clear r0
          go_wp2_with (go_at_call 28; refine (tell_c H4.out HB4.out 3 (by omega) ⟨7, x.s, 0, 0, 0⟩).mono ?_; rintro e w5 ⟨rfl, hn⟩; have HN := Lib.hid (NetTo.before (Touch.of_below HA4.out) hn); clear hn)
          exact bodyPost_ret (v := .tuple #[]) (by simp [results, Try.results70, go_sem]) rfl ⟨rfl, HN.out⟩
set_option maxRecDepth 100000 in
set_option maxHeartbeats 4000000 in
theorem asked_c {w : World} {B n base : Nat} {col : Nat → Nat} {D : Dl} {M : Mem} {S : St} (h : NetAt w B n col base D M S) (hB : B ≤ w.heap.size) (x : Nt) (hD : ∀ c ∈ D.cn, ∀ q ∈ c.ps, 0 ≤ q) (hac : S.ac.length ≤ 1000000) :
    Calls Try.prog 70 #[.pointer (some ⟨n, 0, none⟩), .agg #[.int .i64 x.k, .int .i64 x.s, .int .i64 x.a, .int .i64 x.b, .int .i64 x.c]] w fun e w' => e = .returned (.tuple #[]) ∧ NetTo w B n col base D (Nw.asked D S x) w' := by
  exact (asked_0 h.recol hB x (fun k hk => fresh_not hk) hD hac).mono fun e w2 ⟨he, hn⟩ => ⟨he, hn.recol⟩
end Go.Proofs.Ytlklnaebdnahcaa
namespace Go.Proofs.Ytlklnaebdnahcaa
open Go Go.RowKit
def invB (ops : Array Oper) : Bool :=
  (List.range ops.size).all (fun i => match ops[i]? with | some o => o.guard.isNone && o.after.all (fun e => !Region.binds .any e || decide (e.on < i)) | none => false)
section
variable {P : Program} {Q : Exit → Act → World → Prop} {W : World} {a0 : Act} {l : List Oper}
theorem wp_region_inv {id : Nat} (I : Array Bool → Act → World → Prop) (hm : P.follows .mixedOrders = true) (hB : invB l.toArray = true) (h0 : I (Array.replicate l.length false) a0 W.drew)
    (hstep : ∀ (listed : Array Bool) (a : Act) (w : World) (i : Nat) (o : Oper), I listed a w → listed.size = l.length → (∀ j oj, l[j]? = some oj → listed.getD j false = true → ∀ e ∈ oj.after, Region.binds .any e = true → listed.getD e.on false = true) → l[i]? = some o → listed.getD i true = false → (∀ e ∈ o.after, Region.binds .any e = true → listed.getD e.on false = true) → o.wp P a w (fun a' w' => I (listed.setIfInBounds i true) a' w') Q)
    (hend : ∀ (listed : Array Bool) (a : Act) (w : World), I listed a w → listed.size = l.length → (∀ i, i < l.length → listed.getD i false = true) → Q .normal a w) : (Code.region id l.toArray true).wp P Q a0 W := by
  unfold invB at hB
  simp only [List.all_eq_true, List.mem_range] at hB
  have hsz : l.toArray.size = l.length := by simp
  have hback : ∀ i o, l[i]? = some o → o.guard = none ∧ ∀ e ∈ o.after, Region.binds .any e = true → e.on < i := by
    intro i o hi
    have hil : i < l.length := (List.getElem?_eq_some_iff.1 hi).1
    have h1 := hB i (by rw [hsz]; exact hil)
    have hi' : l.toArray[i]? = some o := by simpa using hi
    rw [hi'] at h1
    simp only [Bool.and_eq_true] at h1
    refine ⟨by simpa using h1.1, fun e he hb => ?_⟩
    have h2 := Array.all_eq_true_iff_forall_mem.1 h1.2 e he
    simpa [hb] using h2
  have main : ∀ (fuel : Nat) (listed : Array Bool) (a : Act) (w : World), I listed a w → listed.size = l.length → (∀ j oj, l[j]? = some oj → listed.getD j false = true → ∀ e ∈ oj.after, Region.binds .any e = true → listed.getD e.on false = true) → unl listed = fuel → wpAny P .any l.toArray Q fuel listed a w := by
    intro fuel
    induction fuel with
    | zero =>
      intro listed a w hI hs hcl hu
      have hall : ∀ i, i < l.length → listed.getD i false = true := by
        intro i hi
        cases hc : listed.getD i true with
        | true => rw [getD_tf (by rw [hs]; exact hi)] at hc; exact hc
        | false =>
          have := unl_set (listed := listed) (i := i) (by rw [hs]; exact hi) hc
          omega
      refine ⟨?_, hend listed a w hI hs hall⟩
      rw [List.eq_nil_iff_forall_not_mem]
      intro i hi
      obtain ⟨hun, o, ho, _⟩ := mem_ready.1 hi
      have hil : i < l.length := by rw [← hsz]; exact (Array.getElem?_eq_some_iff.1 ho).1
      rw [getD_tf (by rw [hs]; exact hil), hall i hil] at hun
      cases hun
    | succ fuel ih =>
      intro listed a w hI hs hcl hu
      refine ⟨fun h0 => ?_, fun i hi => ?_⟩
      · obtain hno | ⟨i0, hi0, hpre, hun0⟩ := (by
          by_cases h : ∀ i, i < l.length → listed.getD i false = true
          · exact .inl h
          · exact .inr (first_no' listed l.length h) : (∀ i, i < l.length → listed.getD i false = true) ∨ ∃ i, i < l.length ∧ (∀ j, j < i → listed.getD j false = true) ∧ listed.getD i false = false)
        · exact hend listed a w hI hs hno
        · have hr : i0 ∈ Region.ready .any l.toArray listed := by
            rw [mem_ready]
            refine ⟨by rw [getD_tf (by rw [hs]; exact hi0)]; exact hun0, l[i0]'hi0, by simp, fun e he hb => hpre _ ?_⟩
            exact (hback i0 _ (by simp)).2 e he hb
          rw [h0] at hr
          cases hr
      · obtain ⟨hun, o, ho, hw⟩ := mem_ready.1 hi
        have hol : l[i]? = some o := by simpa using ho
        have hil : i < l.length := (List.getElem?_eq_some_iff.1 hol).1
        have hun' : unl (listed.setIfInBounds i true) = fuel := by
          have := unl_set (listed := listed) (i := i) (by rw [hs]; exact hil) hun
          omega
        unfold wpOp
        rw [ho]
        simp only [Region.wanted, (hback i o hol).1, if_true]
        refine .inl (Oper.wp_mono (fun a' w' hI' => ih _ _ _ hI' (by simp [hs]) (fun j oj hj hl e he hb => ?_) hun') (hstep listed a w i o hI hs hcl hol hun hw))
        by_cases hji : i = j
        · subst hji
          rw [hol] at hj
          cases hj
          exact getD_set_true (hw e he hb)
        · rw [getD_set_ne false hji] at hl
          exact getD_set_true (hcl j oj hj hl e he hb)
  exact wp_region_any hm (main _ _ a0 _ (by rw [hsz]; exact h0) (by simp) (fun j oj hj h => by rw [getD_replicate_false] at h; cases h) (by rw [hsz, unl_rep]))
end
end Go.Proofs.Ytlklnaebdnahcaa
namespace Go.Proofs.Ytlklnaebdnahcaa
open Go.RowKit Nw
namespace Nw
section
variable {κ ν : Type} [DecidableEq κ]
theorem mget_mput (k k' : κ) (v : ν) : ∀ l : List (κ × ν), mget k' (mput k v l) = if k' = k then some v else mget k' l
  | [] => by
    unfold mput
    by_cases h : k' = k
    · subst h; simp [mget]
    · rw [if_neg h]
      show (if k = k' then some v else none) = none
      rw [if_neg (fun e => h e.symm)]
  | e :: l => by
    unfold mput
    by_cases h1 : e.1 = k
    · rw [if_pos h1]
      by_cases h : k' = k
      · subst h; simp [mget]
      · rw [if_neg h]
        show (if k = k' then some v else mget k' l) = if e.1 = k' then some e.2 else mget k' l
        rw [if_neg (fun q => h q.symm), if_neg (fun q => h (q.symm.trans h1))]
    · rw [if_neg h1]
      show (if e.1 = k' then some e.2 else mget k' (mput k v l)) = _
      rw [mget_mput k k' v l]
      by_cases h2 : e.1 = k'
      · rw [if_pos h2]
        by_cases h : k' = k
        · exact absurd (h2.trans h) h1
        · rw [if_neg h]
          show _ = if e.1 = k' then some e.2 else mget k' l
          rw [if_pos h2]
      · rw [if_neg h2]
        by_cases h : k' = k
        · rw [if_pos h, if_pos h]
        · rw [if_neg h, if_neg h]
          show _ = if e.1 = k' then some e.2 else mget k' l
          rw [if_neg h2]
end
def tbl : List ((Int × Int) × Nat) := [((0, 8), 60), ((0, 7), 61), ((0, 12), 62), ((1, 1), 63), ((2, 7), 64), ((2, 6), 65), ((2, 10), 66), ((2, 13), 67), ((2, 12), 68), ((2, 14), 69), ((3, 2), 70), ((3, 9), 71), ((3, 11), 71), ((3, 15), 72), ((4, 4), 73), ((4, 5), 74), ((5, 3), 75), ((5, 12), 76)]
def hkey (j : Nat) : Int × Int := (tbl.getD j default).1
def hfn (j : Nat) : Nat := (tbl.getD j default).2
def hidx (k : Int × Int) : Option Nat := tbl.findIdx? (fun e => decide (e.1 = k))
def heardF (k : Int × Int) : Option Nat := (hidx k).map hfn
theorem hidx_key : ∀ j, j < 18 → hidx (hkey j) = some j := by decide
theorem hidx_of {k : Int × Int} {j : Nat} (h : hidx k = some j) : j < 18 ∧ hkey j = k := by
  unfold hidx at h
  rw [List.findIdx?_eq_some_iff_getElem] at h
  obtain ⟨h1, h2, _⟩ := h
  refine ⟨h1, ?_⟩
  unfold hkey
  rw [List.getD_eq_getElem?_getD, List.getElem?_eq_getElem h1]
  simpa using h2
end Nw
def fV (f : Nat) : Value := .func (.func f) #[] #[]
structure HInv (W : World) (listed : Array Bool) (a : Act) (w : World) : Prop where
  sz : a.tmps.size = 21
  df : a.defers = []
  bl : Below W.heap.size W w
  bd : ∀ j, j < 18 → listed.getD (2 * j + 1) false = true → slotOf a (j + 2) = .agg #[.int .i64 (hkey j).1, .int .i64 (hkey j).2]
  mp : listed.getD 0 false = true → ∃ b l, slotOf a 1 = .map (some b) ∧ W.heap.size ≤ b ∧ MpAt kP fV w b l ∧ ∀ k, mget k l = (hidx k).bind (fun j => if listed.getD (2 * j + 2) false = true then some (hfn j) else none)
  e1 : listed.getD 37 false = true → slotOf a 20 = slotOf a 1
  e2 : listed.getD 38 false = true → slotOf a 0 = slotOf a 1
theorem sne {i j : Nat} (h : i ≠ j) : (some i : Option Tmp) ≠ some j := fun q => h (Option.some.inj q)
theorem getD_self {listed : Array Bool} {i : Nat} (h : i < listed.size) : (listed.setIfInBounds i true).getD i false = true := by simp [h]
theorem HInv.build {W w : World} {listed : Array Bool} {a : Act} (h : HInv W listed a w) (j : Nat) (hj : j < 18) (hs : listed.size = 39) : HInv W (listed.setIfInBounds (2 * j + 1) true) (a.put (some (j + 2)) (.agg #[.int .i64 (hkey j).1, .int .i64 (hkey j).2])) w where
  sz := by rw [size_put]; exact h.sz
  df := by rw [defers_put]; exact h.df
  bl := h.bl
  bd := fun i hi hl => by
    by_cases e : i = j
    · subst e
      exact slot_put_same (d := i + 2) _ (show i + 2 < a.tmps.size from by have := h.sz; omega)
    · rw [slot_put_ne _ (sne (i := j + 2) (j := i + 2) (by omega))]
      exact h.bd i hi (by rw [getD_set_ne false (by omega)] at hl; exact hl)
  mp := fun h0 => by
    rw [getD_set_ne false (by omega)] at h0
    obtain ⟨b, l, h1, h2, h3, h4⟩ := h.mp h0
    refine ⟨b, l, by rw [slot_put_ne _ (sne (by omega))]; exact h1, h2, h3, fun k => ?_⟩
    rw [h4 k]
    congr 1
    funext i
    rw [getD_set_ne false (by omega)]
  e1 := fun h0 => by
    rw [getD_set_ne false (by omega)] at h0
    rw [slot_put_ne _ (sne (by omega)), slot_put_ne _ (sne (by omega))]
    exact h.e1 h0
  e2 := fun h0 => by
    rw [getD_set_ne false (by omega)] at h0
    rw [slot_put_ne _ (sne (by omega)), slot_put_ne _ (sne (by omega))]
    exact h.e2 h0
theorem HInv.ins {W w w' : World} {listed : Array Bool} {a : Act} (h : HInv W listed a w) (j : Nat) (hj : j < 18) (hs : listed.size = 39) (h37 : listed.getD 37 false = false) (h38 : listed.getD 38 false = false) {b : Nat} {l : List ((Int × Int) × Nat)} (h1 : slotOf a 1 = .map (some b)) (h2 : W.heap.size ≤ b) (h3 : MpAt kP fV w' b (mput (hkey j) (hfn j) l))
    (h4 : ∀ k, mget k l = (hidx k).bind (fun j => if listed.getD (2 * j + 2) false = true then some (hfn j) else none)) (hb : Below W.heap.size W w') : HInv W (listed.setIfInBounds (2 * j + 2) true) (a.put none undef) w' where
  sz := h.sz
  df := h.df
  bl := hb
  bd := fun i hi hl => h.bd i hi (by rw [getD_set_ne false (by omega)] at hl; exact hl)
  mp := fun h0 => by
    refine ⟨b, _, h1, h2, h3, fun k => ?_⟩
    rw [mget_mput, h4 k]
    by_cases e : k = hkey j
    · rw [if_pos e, e, hidx_key j hj]
      show _ = if _ then _ else _
      rw [if_pos (getD_self (by rw [hs]; omega))]
    · rw [if_neg e]
      cases hk : hidx k with
      | none => rfl
      | some i =>
        have := hidx_of hk
        have hne : i ≠ j := fun q => e (by rw [← this.2, q])
        show (if _ then _ else _) = if _ then _ else _
        rw [getD_set_ne false (by omega)]
  e1 := fun h0 => by rw [getD_set_ne false (by omega), h37] at h0; cases h0
  e2 := fun h0 => by rw [getD_set_ne false (by omega), h38] at h0; cases h0
theorem no_after {listed : Array Bool} {i t : Nat} (h : listed.getD i true = false) (hi : i < listed.size) (hw : listed.getD t false = true → listed.getD i false = true) : listed.getD t false = false := by
  cases hc : listed.getD t false with
  | false => rfl
  | true => rw [getD_tf hi, hw hc] at h; cases h
theorem HInv.start {W w : World} {listed : Array Bool} {a : Act} (h : HInv W listed a w) (hs : listed.size = 39) (hno : ∀ j, j < 18 → listed.getD (2 * j + 2) false = false) (h37 : listed.getD 37 false = false) (h38 : listed.getD 38 false = false) :
    HInv W (listed.setIfInBounds 0 true) (a.put (some 1) (.map (some w.heap.size))) (w.alloc (.map #[] 0)) where
  sz := by rw [size_put]; exact h.sz
  df := by rw [defers_put]; exact h.df
  bl := h.bl.alloc h.bl.size _
  bd := fun i hi hl => by
    rw [slot_put_ne _ (sne (i := 1) (j := i + 2) (by omega))]
    exact h.bd i hi (by rw [getD_set_ne false (by omega)] at hl; exact hl)
  mp := fun _ => ⟨w.heap.size, [], slot_put_same (d := 1) _ (show 1 < a.tmps.size from by have := h.sz; omega), h.bl.size, MpAt.made w, fun k => by
    cases hk : hidx k with
    | none => rfl
    | some j =>
      show none = if _ then _ else _
      rw [if_neg]
      rw [getD_set_ne false (by omega), hno j (hidx_of hk).1]
      exact Bool.false_ne_true⟩
  e1 := fun h0 => by rw [getD_set_ne false (by omega), h37] at h0; cases h0
  e2 := fun h0 => by rw [getD_set_ne false (by omega), h38] at h0; cases h0
theorem HInv.mv {W w : World} {listed : Array Bool} {a : Act} (h : HInv W listed a w) (hs : listed.size = 39) (h38 : listed.getD 38 false = false) : HInv W (listed.setIfInBounds 37 true) (a.put (some 20) (slotOf a 1)) w where
  sz := by rw [size_put]; exact h.sz
  df := by rw [defers_put]; exact h.df
  bl := h.bl
  bd := fun i hi hl => by
    rw [slot_put_ne _ (sne (i := 20) (j := i + 2) (by omega))]
    exact h.bd i hi (by rw [getD_set_ne false (by omega)] at hl; exact hl)
  mp := fun h0 => by
    rw [getD_set_ne false (by omega)] at h0
    obtain ⟨b, l, h1, h2, h3, h4⟩ := h.mp h0
    refine ⟨b, l, by rw [slot_put_ne _ (sne (i := 20) (j := 1) (by omega))]; exact h1, h2, h3, fun k => ?_⟩
    rw [h4 k]
    cases hk : hidx k with
    | none => rfl
    | some j =>
      have := (hidx_of hk).1
      show (if _ then _ else _) = if _ then _ else _
      rw [getD_set_ne false (by omega)]
  e1 := fun _ => by rw [slot_put_same (d := 20) _ (show 20 < a.tmps.size from by have := h.sz; omega), slot_put_ne _ (sne (i := 20) (j := 1) (by omega))]
  e2 := fun h0 => by rw [getD_set_ne false (by omega), h38] at h0; cases h0
theorem HInv.asg {W w : World} {listed : Array Bool} {a : Act} (h : HInv W listed a w) (hs : listed.size = 39) (h37 : slotOf a 20 = slotOf a 1) : HInv W (listed.setIfInBounds 38 true) (a.put (some 0) (slotOf a 20)) w where
  sz := by rw [size_put]; exact h.sz
  df := by rw [defers_put]; exact h.df
  bl := h.bl
  bd := fun i hi hl => by
    rw [slot_put_ne _ (sne (i := 0) (j := i + 2) (by omega))]
    exact h.bd i hi (by rw [getD_set_ne false (by omega)] at hl; exact hl)
  mp := fun h0 => by
    rw [getD_set_ne false (by omega)] at h0
    obtain ⟨b, l, h1, h2, h3, h4⟩ := h.mp h0
    refine ⟨b, l, by rw [slot_put_ne _ (sne (i := 0) (j := 1) (by omega))]; exact h1, h2, h3, fun k => ?_⟩
    rw [h4 k]
    cases hk : hidx k with
    | none => rfl
    | some j =>
      have := (hidx_of hk).1
      show (if _ then _ else _) = if _ then _ else _
      rw [getD_set_ne false (by omega)]
  e1 := fun h0 => by
    rw [slot_put_ne _ (sne (i := 0) (j := 20) (by omega)), slot_put_ne _ (sne (i := 0) (j := 1) (by omega))]
    exact h37
  e2 := fun _ => by rw [slot_put_same (d := 0) _ (show 0 < a.tmps.size from by have := h.sz; omega), slot_put_ne _ (sne (i := 0) (j := 1) (by omega))]; exact h37
theorem wpO_minsert {α β : Type} [DecidableEq α] {P : Program} {kt : TypeId} {K : α → Value} {V : β → Value} {b : Nat} {l : List (α × β)} {w : World} {o : Oper} {a : Act} {N : Act → World → Prop} {Q : Exit → Act → World → Prop}
    (hg : o.guard = none) (m x v : Operand) (mt : TypeId) (hop : o.op = Op.insert mt m x v) (C : KeyC P kt K) {et : TypeId} (ht : P.underlying mt = some (.map kt et))
    (h : MpAt K V w b l) (hm : a.eval m = .map (some b)) (k : α) (hx : a.eval x = K k) (u : β) (hv : a.eval v = V u)
    (hK : ∀ w', MpAt K V w' b (mput k u l) → Touch (fun k => k = b) w w' → w'.heap.size = w.heap.size → N (a.put o.dst undef) w') : o.wp P a w N Q := by
  obtain ⟨w', hrun, r1, r2, r3⟩ := h.update C ht k u
  unfold Oper.wp
  simp [execOp, hop, hm, hx, hv, hrun, Result.andThen]
  exact hK w' r1 r2 r3
theorem elI3 (d : Nat) (w : World) (a b : Int) : (Op.equalIn (d + 1) 3 (.int .i64 a) (.int .i64 b)).run Try.prog w = .ok (a == b) w := run_equalIn_int w d 3 .i64 .i64 a b Try.underlying3
theorem sizeI3 (w : World) : (sizeOf 3).run Try.prog w = .ok 1 w := by kernel_rfl
theorem partI3 (w : World) (cs : Array Value) (i : Nat) (v : Value) (h : cs[i]? = some v) : (part 3 cs i).run Try.prog w = .ok v w := by
  have hag : (isAgg 3).run Try.prog w = .ok false w := by kernel_rfl
  simp [part, Sem.run_bind, hag, h]
theorem eqArrQ (d : Nat) (w : World) (a b a' b' : Int) : (Op.equalIn (d + 2) 143 (.agg #[.int .i64 a, .int .i64 b]) (.agg #[.int .i64 a', .int .i64 b'])).run Try.prog w = .ok (a == a' && b == b') w := by
  rw [Op.equalIn]
  simp only [Sem.run_bind, run_underlying Try.underlying143, Result.andThen_ok, sizeI3]
  simp [Std.Legacy.Range.forIn_eq_forIn_range', Std.Legacy.Range.size, List.range', Sem.run_bind]
  simp [partI3, elI3]
  by_cases h1 : a = a' <;> by_cases h2 : b = b' <;> simp [h1, h2]
theorem chkQ (b : Bool) (x : Int × Int) (w : World) : (Instr.checkKey b 10000 143 (.agg #[.int .i64 x.1, .int .i64 x.2])).run Try.prog w = .ok () w := by kernel_rfl
theorem eqlQ (x y : Int × Int) (w : World) : (Op.equal 143 (.agg #[.int .i64 x.1, .int .i64 x.2]) (.agg #[.int .i64 y.1, .int .i64 y.2])).run Try.prog w = .ok (decide (x = y)) w := by
  have := eqArrQ 9998 w x.1 x.2 y.1 y.2
  have e : (x.1 == y.1 && x.2 == y.2) = decide (x = y) := by
    obtain ⟨a, b⟩ := x
    obtain ⟨c, d⟩ := y
    rw [Bool.eq_iff_iff]
    simp
  rw [e] at this
  exact this
theorem keyQ : KeyC Try.prog 143 kP := keyc_pair Try.underlying143 Try.underlying3 chkQ eqlQ bitsP
def HeardTo (w : World) (e : Ending) (w' : World) : Prop := ∃ b l, e = .returned (.map (some b)) ∧ MpAt kP fV w' b l ∧ (∀ k, mget k l = heardF k) ∧ Below w.heap.size w w' ∧ w.heap.size ≤ b
set_option maxRecDepth 100000 in
set_option maxHeartbeats 8000000 in
theorem heard_c (w : World) : Calls Try.prog 49 #[] w (HeardTo w) := by
  go_enter Try.func49, Try.ntmps49
  go_wp2_with fail
  refine wp_region_inv (HInv w) (by kernel_rfl) (by kernel_rfl) ?init ?step ?fin
  case init =>
    refine ⟨rfl, rfl, (Below.refl _ _).drew, fun j hj h => ?_, fun h => ?_, fun h => ?_, fun h => ?_⟩
    all_goals
      rw [getD_replicate_false] at h
      cases h
  case fin =>
    intro listed a w1 hI hs hall
    rename_i KK hKK
    obtain ⟨b, l, h1, h2, h3, h4⟩ := hI.mp (hall 0 (by simp))
    have h5 := (hI.e2 (hall 38 (by simp))).trans h1
    refine hKK _ _ ?_
    have hf : HeardTo w (.returned (.map (some b))) w1 := ⟨b, l, rfl, h3, fun k => by
      rw [h4 k]
      unfold heardF
      cases hk : hidx k with
      | none => rfl
      | some j =>
        have hj := (hidx_of hk).1
        show (if _ then _ else _) = some (hfn j)
        rw [if_pos (hall _ (by simp; omega))], hI.bl, h2⟩
    have hr : (results Try.f49 a.tmps).run Try.prog w1 = .ok (.map (some b)) w1 := by
      rw [results_tmp Try.results49]
      exact congrArg (fun v => Result.ok v w1) h5
    go_wp2_with fail
    exact bodyPost_ret hr hI.df hf
  case step =>
    intro listed a w1 i o hI hs hcl ho hun hw
    have hi : i < 39 := (List.getElem?_eq_some_iff.1 ho).1
    have hs39 : listed.size = 39 := hs
    match i, ho, hi, hun, hw with
    | 0, ho, hi, hun, hw =>
      obtain rfl := Option.some.inj ho
      have hno : ∀ j, j < 18 → listed.getD (2 * j + 2) false = false := fun j hj => by
        match j, hj with
        | 0, _ => exact no_after hun (by omega) (fun hl => hcl 2 _ rfl hl ⟨0, .data⟩ (by simp) (by decide))
        | 1, _ => exact no_after hun (by omega) (fun hl => hcl 4 _ rfl hl ⟨0, .data⟩ (by simp) (by decide))
        | 2, _ => exact no_after hun (by omega) (fun hl => hcl 6 _ rfl hl ⟨0, .data⟩ (by simp) (by decide))
        | 3, _ => exact no_after hun (by omega) (fun hl => hcl 8 _ rfl hl ⟨0, .data⟩ (by simp) (by decide))
        | 4, _ => exact no_after hun (by omega) (fun hl => hcl 10 _ rfl hl ⟨0, .data⟩ (by simp) (by decide))
        | 5, _ => exact no_after hun (by omega) (fun hl => hcl 12 _ rfl hl ⟨0, .data⟩ (by simp) (by decide))
        | 6, _ => exact no_after hun (by omega) (fun hl => hcl 14 _ rfl hl ⟨0, .data⟩ (by simp) (by decide))
        | 7, _ => exact no_after hun (by omega) (fun hl => hcl 16 _ rfl hl ⟨0, .data⟩ (by simp) (by decide))
        | 8, _ => exact no_after hun (by omega) (fun hl => hcl 18 _ rfl hl ⟨0, .data⟩ (by simp) (by decide))
        | 9, _ => exact no_after hun (by omega) (fun hl => hcl 20 _ rfl hl ⟨0, .data⟩ (by simp) (by decide))
        | 10, _ => exact no_after hun (by omega) (fun hl => hcl 22 _ rfl hl ⟨0, .data⟩ (by simp) (by decide))
        | 11, _ => exact no_after hun (by omega) (fun hl => hcl 24 _ rfl hl ⟨0, .data⟩ (by simp) (by decide))
        | 12, _ => exact no_after hun (by omega) (fun hl => hcl 26 _ rfl hl ⟨0, .data⟩ (by simp) (by decide))
        | 13, _ => exact no_after hun (by omega) (fun hl => hcl 28 _ rfl hl ⟨0, .data⟩ (by simp) (by decide))
        | 14, _ => exact no_after hun (by omega) (fun hl => hcl 30 _ rfl hl ⟨0, .data⟩ (by simp) (by decide))
        | 15, _ => exact no_after hun (by omega) (fun hl => hcl 32 _ rfl hl ⟨0, .data⟩ (by simp) (by decide))
        | 16, _ => exact no_after hun (by omega) (fun hl => hcl 34 _ rfl hl ⟨0, .data⟩ (by simp) (by decide))
        | 17, _ => exact no_after hun (by omega) (fun hl => hcl 36 _ rfl hl ⟨0, .data⟩ (by simp) (by decide))
        | n + 18, h => exact absurd h (by omega)
      have h37 : listed.getD 37 false = false := no_after hun (by omega) (fun hl => hcl 37 _ rfl hl ⟨0, .data⟩ (by simp) (by decide))
      have h38 : listed.getD 38 false = false := no_after hun (by omega) (fun hl => hcl 37 _ rfl (hcl 38 _ rfl hl ⟨37, .data⟩ (by simp) (by decide)) ⟨0, .data⟩ (by simp) (by decide))
      have qm : ∀ w : World, (Instr.makeMap 141 none).run Try.prog w = .ok (.map (some w.heap.size)) (w.alloc (.map #[] 0)) := fun w => by kernel_rfl
      unfold Oper.wp
      go_simp
      exact hI.start hs39 hno h37 h38
    | 1, ho, hi, hun, hw =>
      obtain rfl := Option.some.inj ho
      unfold Oper.wp
      go_simp
      exact hI.build 0 (by omega) hs39
    | 2, ho, hi, hun, hw =>
      obtain rfl := Option.some.inj ho
      obtain ⟨b, l, h1, h2, h3, h4⟩ := hI.mp (hw ⟨0, .data⟩ (by simp) (by decide))
      have hk := hI.bd 0 (by omega) (hw ⟨1, .data⟩ (by simp) (by decide))
      have h37 : listed.getD 37 false = false := no_after hun (by omega) (fun hl => hcl 37 _ rfl hl ⟨2, .data⟩ (by simp) (by decide))
      have h38 : listed.getD 38 false = false := no_after hun (by omega) (fun hl => hcl 37 _ rfl (hcl 38 _ rfl hl ⟨37, .data⟩ (by simp) (by decide)) ⟨2, .data⟩ (by simp) (by decide))
      refine wpO_minsert rfl _ _ _ 141 rfl keyQ Try.underlying141 h3 h1 (hkey 0) hk (hfn 0) rfl ?_
      intro w2 hm2 ht2 hs2
      exact hI.ins 0 (by omega) hs39 h37 h38 h1 h2 hm2 h4 (Below.touch hI.bl hI.bl.size ht2 (fun k e => by omega))
    | 3, ho, hi, hun, hw =>
      obtain rfl := Option.some.inj ho
      unfold Oper.wp
      go_simp
      exact hI.build 1 (by omega) hs39
    | 4, ho, hi, hun, hw =>
      obtain rfl := Option.some.inj ho
      obtain ⟨b, l, h1, h2, h3, h4⟩ := hI.mp (hw ⟨0, .data⟩ (by simp) (by decide))
      have hk := hI.bd 1 (by omega) (hw ⟨3, .data⟩ (by simp) (by decide))
      have h37 : listed.getD 37 false = false := no_after hun (by omega) (fun hl => hcl 37 _ rfl hl ⟨4, .data⟩ (by simp) (by decide))
      have h38 : listed.getD 38 false = false := no_after hun (by omega) (fun hl => hcl 37 _ rfl (hcl 38 _ rfl hl ⟨37, .data⟩ (by simp) (by decide)) ⟨4, .data⟩ (by simp) (by decide))
      refine wpO_minsert rfl _ _ _ 141 rfl keyQ Try.underlying141 h3 h1 (hkey 1) hk (hfn 1) rfl ?_
      intro w2 hm2 ht2 hs2
      exact hI.ins 1 (by omega) hs39 h37 h38 h1 h2 hm2 h4 (Below.touch hI.bl hI.bl.size ht2 (fun k e => by omega))
    | 5, ho, hi, hun, hw =>
      obtain rfl := Option.some.inj ho
      unfold Oper.wp
      go_simp
      exact hI.build 2 (by omega) hs39
    | 6, ho, hi, hun, hw =>
      obtain rfl := Option.some.inj ho
      obtain ⟨b, l, h1, h2, h3, h4⟩ := hI.mp (hw ⟨0, .data⟩ (by simp) (by decide))
      have hk := hI.bd 2 (by omega) (hw ⟨5, .data⟩ (by simp) (by decide))
      have h37 : listed.getD 37 false = false := no_after hun (by omega) (fun hl => hcl 37 _ rfl hl ⟨6, .data⟩ (by simp) (by decide))
      have h38 : listed.getD 38 false = false := no_after hun (by omega) (fun hl => hcl 37 _ rfl (hcl 38 _ rfl hl ⟨37, .data⟩ (by simp) (by decide)) ⟨6, .data⟩ (by simp) (by decide))
      refine wpO_minsert rfl _ _ _ 141 rfl keyQ Try.underlying141 h3 h1 (hkey 2) hk (hfn 2) rfl ?_
      intro w2 hm2 ht2 hs2
      exact hI.ins 2 (by omega) hs39 h37 h38 h1 h2 hm2 h4 (Below.touch hI.bl hI.bl.size ht2 (fun k e => by omega))
    | 7, ho, hi, hun, hw =>
      obtain rfl := Option.some.inj ho
      unfold Oper.wp
      go_simp
      exact hI.build 3 (by omega) hs39
    | 8, ho, hi, hun, hw =>
      obtain rfl := Option.some.inj ho
      obtain ⟨b, l, h1, h2, h3, h4⟩ := hI.mp (hw ⟨0, .data⟩ (by simp) (by decide))
      have hk := hI.bd 3 (by omega) (hw ⟨7, .data⟩ (by simp) (by decide))
      have h37 : listed.getD 37 false = false := no_after hun (by omega) (fun hl => hcl 37 _ rfl hl ⟨8, .data⟩ (by simp) (by decide))
      have h38 : listed.getD 38 false = false := no_after hun (by omega) (fun hl => hcl 37 _ rfl (hcl 38 _ rfl hl ⟨37, .data⟩ (by simp) (by decide)) ⟨8, .data⟩ (by simp) (by decide))
      refine wpO_minsert rfl _ _ _ 141 rfl keyQ Try.underlying141 h3 h1 (hkey 3) hk (hfn 3) rfl ?_
      intro w2 hm2 ht2 hs2
      exact hI.ins 3 (by omega) hs39 h37 h38 h1 h2 hm2 h4 (Below.touch hI.bl hI.bl.size ht2 (fun k e => by omega))
    | 9, ho, hi, hun, hw =>
      obtain rfl := Option.some.inj ho
      unfold Oper.wp
      go_simp
      exact hI.build 4 (by omega) hs39
    | 10, ho, hi, hun, hw =>
      obtain rfl := Option.some.inj ho
      obtain ⟨b, l, h1, h2, h3, h4⟩ := hI.mp (hw ⟨0, .data⟩ (by simp) (by decide))
      have hk := hI.bd 4 (by omega) (hw ⟨9, .data⟩ (by simp) (by decide))
      have h37 : listed.getD 37 false = false := no_after hun (by omega) (fun hl => hcl 37 _ rfl hl ⟨10, .data⟩ (by simp) (by decide))
      have h38 : listed.getD 38 false = false := no_after hun (by omega) (fun hl => hcl 37 _ rfl (hcl 38 _ rfl hl ⟨37, .data⟩ (by simp) (by decide)) ⟨10, .data⟩ (by simp) (by decide))
      refine wpO_minsert rfl _ _ _ 141 rfl keyQ Try.underlying141 h3 h1 (hkey 4) hk (hfn 4) rfl ?_
      intro w2 hm2 ht2 hs2
      exact hI.ins 4 (by omega) hs39 h37 h38 h1 h2 hm2 h4 (Below.touch hI.bl hI.bl.size ht2 (fun k e => by omega))
    | 11, ho, hi, hun, hw =>
      obtain rfl := Option.some.inj ho
      unfold Oper.wp
      go_simp
      exact hI.build 5 (by omega) hs39
    | 12, ho, hi, hun, hw =>
      obtain rfl := Option.some.inj ho
      obtain ⟨b, l, h1, h2, h3, h4⟩ := hI.mp (hw ⟨0, .data⟩ (by simp) (by decide))
      have hk := hI.bd 5 (by omega) (hw ⟨11, .data⟩ (by simp) (by decide))
      have h37 : listed.getD 37 false = false := no_after hun (by omega) (fun hl => hcl 37 _ rfl hl ⟨12, .data⟩ (by simp) (by decide))
      have h38 : listed.getD 38 false = false := no_after hun (by omega) (fun hl => hcl 37 _ rfl (hcl 38 _ rfl hl ⟨37, .data⟩ (by simp) (by decide)) ⟨12, .data⟩ (by simp) (by decide))
      refine wpO_minsert rfl _ _ _ 141 rfl keyQ Try.underlying141 h3 h1 (hkey 5) hk (hfn 5) rfl ?_
      intro w2 hm2 ht2 hs2
      exact hI.ins 5 (by omega) hs39 h37 h38 h1 h2 hm2 h4 (Below.touch hI.bl hI.bl.size ht2 (fun k e => by omega))
    | 13, ho, hi, hun, hw =>
      obtain rfl := Option.some.inj ho
      unfold Oper.wp
      go_simp
      exact hI.build 6 (by omega) hs39
    | 14, ho, hi, hun, hw =>
      obtain rfl := Option.some.inj ho
      obtain ⟨b, l, h1, h2, h3, h4⟩ := hI.mp (hw ⟨0, .data⟩ (by simp) (by decide))
      have hk := hI.bd 6 (by omega) (hw ⟨13, .data⟩ (by simp) (by decide))
      have h37 : listed.getD 37 false = false := no_after hun (by omega) (fun hl => hcl 37 _ rfl hl ⟨14, .data⟩ (by simp) (by decide))
      have h38 : listed.getD 38 false = false := no_after hun (by omega) (fun hl => hcl 37 _ rfl (hcl 38 _ rfl hl ⟨37, .data⟩ (by simp) (by decide)) ⟨14, .data⟩ (by simp) (by decide))
      refine wpO_minsert rfl _ _ _ 141 rfl keyQ Try.underlying141 h3 h1 (hkey 6) hk (hfn 6) rfl ?_
      intro w2 hm2 ht2 hs2
      exact hI.ins 6 (by omega) hs39 h37 h38 h1 h2 hm2 h4 (Below.touch hI.bl hI.bl.size ht2 (fun k e => by omega))
    | 15, ho, hi, hun, hw =>
      obtain rfl := Option.some.inj ho
      unfold Oper.wp
      go_simp
      exact hI.build 7 (by omega) hs39
    | 16, ho, hi, hun, hw =>
      obtain rfl := Option.some.inj ho
      obtain ⟨b, l, h1, h2, h3, h4⟩ := hI.mp (hw ⟨0, .data⟩ (by simp) (by decide))
      have hk := hI.bd 7 (by omega) (hw ⟨15, .data⟩ (by simp) (by decide))
      have h37 : listed.getD 37 false = false := no_after hun (by omega) (fun hl => hcl 37 _ rfl hl ⟨16, .data⟩ (by simp) (by decide))
      have h38 : listed.getD 38 false = false := no_after hun (by omega) (fun hl => hcl 37 _ rfl (hcl 38 _ rfl hl ⟨37, .data⟩ (by simp) (by decide)) ⟨16, .data⟩ (by simp) (by decide))
      refine wpO_minsert rfl _ _ _ 141 rfl keyQ Try.underlying141 h3 h1 (hkey 7) hk (hfn 7) rfl ?_
      intro w2 hm2 ht2 hs2
      exact hI.ins 7 (by omega) hs39 h37 h38 h1 h2 hm2 h4 (Below.touch hI.bl hI.bl.size ht2 (fun k e => by omega))
    | 17, ho, hi, hun, hw =>
      obtain rfl := Option.some.inj ho
      unfold Oper.wp
      go_simp
      exact hI.build 8 (by omega) hs39
    | 18, ho, hi, hun, hw =>
      obtain rfl := Option.some.inj ho
      obtain ⟨b, l, h1, h2, h3, h4⟩ := hI.mp (hw ⟨0, .data⟩ (by simp) (by decide))
      have hk := hI.bd 8 (by omega) (hw ⟨17, .data⟩ (by simp) (by decide))
      have h37 : listed.getD 37 false = false := no_after hun (by omega) (fun hl => hcl 37 _ rfl hl ⟨18, .data⟩ (by simp) (by decide))
      have h38 : listed.getD 38 false = false := no_after hun (by omega) (fun hl => hcl 37 _ rfl (hcl 38 _ rfl hl ⟨37, .data⟩ (by simp) (by decide)) ⟨18, .data⟩ (by simp) (by decide))
      refine wpO_minsert rfl _ _ _ 141 rfl keyQ Try.underlying141 h3 h1 (hkey 8) hk (hfn 8) rfl ?_
      intro w2 hm2 ht2 hs2
      exact hI.ins 8 (by omega) hs39 h37 h38 h1 h2 hm2 h4 (Below.touch hI.bl hI.bl.size ht2 (fun k e => by omega))
    | 19, ho, hi, hun, hw =>
      obtain rfl := Option.some.inj ho
      unfold Oper.wp
      go_simp
      exact hI.build 9 (by omega) hs39
    | 20, ho, hi, hun, hw =>
      obtain rfl := Option.some.inj ho
      obtain ⟨b, l, h1, h2, h3, h4⟩ := hI.mp (hw ⟨0, .data⟩ (by simp) (by decide))
      have hk := hI.bd 9 (by omega) (hw ⟨19, .data⟩ (by simp) (by decide))
      have h37 : listed.getD 37 false = false := no_after hun (by omega) (fun hl => hcl 37 _ rfl hl ⟨20, .data⟩ (by simp) (by decide))
      have h38 : listed.getD 38 false = false := no_after hun (by omega) (fun hl => hcl 37 _ rfl (hcl 38 _ rfl hl ⟨37, .data⟩ (by simp) (by decide)) ⟨20, .data⟩ (by simp) (by decide))
      refine wpO_minsert rfl _ _ _ 141 rfl keyQ Try.underlying141 h3 h1 (hkey 9) hk (hfn 9) rfl ?_
      intro w2 hm2 ht2 hs2
      exact hI.ins 9 (by omega) hs39 h37 h38 h1 h2 hm2 h4 (Below.touch hI.bl hI.bl.size ht2 (fun k e => by omega))
    | 21, ho, hi, hun, hw =>
      obtain rfl := Option.some.inj ho
      unfold Oper.wp
      go_simp
      exact hI.build 10 (by omega) hs39
    | 22, ho, hi, hun, hw =>
      obtain rfl := Option.some.inj ho
      obtain ⟨b, l, h1, h2, h3, h4⟩ := hI.mp (hw ⟨0, .data⟩ (by simp) (by decide))
      have hk := hI.bd 10 (by omega) (hw ⟨21, .data⟩ (by simp) (by decide))
      have h37 : listed.getD 37 false = false := no_after hun (by omega) (fun hl => hcl 37 _ rfl hl ⟨22, .data⟩ (by simp) (by decide))
      have h38 : listed.getD 38 false = false := no_after hun (by omega) (fun hl => hcl 37 _ rfl (hcl 38 _ rfl hl ⟨37, .data⟩ (by simp) (by decide)) ⟨22, .data⟩ (by simp) (by decide))
      refine wpO_minsert rfl _ _ _ 141 rfl keyQ Try.underlying141 h3 h1 (hkey 10) hk (hfn 10) rfl ?_
      intro w2 hm2 ht2 hs2
      exact hI.ins 10 (by omega) hs39 h37 h38 h1 h2 hm2 h4 (Below.touch hI.bl hI.bl.size ht2 (fun k e => by omega))
    | 23, ho, hi, hun, hw =>
      obtain rfl := Option.some.inj ho
      unfold Oper.wp
      go_simp
      exact hI.build 11 (by omega) hs39
    | 24, ho, hi, hun, hw =>
      obtain rfl := Option.some.inj ho
      obtain ⟨b, l, h1, h2, h3, h4⟩ := hI.mp (hw ⟨0, .data⟩ (by simp) (by decide))
      have hk := hI.bd 11 (by omega) (hw ⟨23, .data⟩ (by simp) (by decide))
      have h37 : listed.getD 37 false = false := no_after hun (by omega) (fun hl => hcl 37 _ rfl hl ⟨24, .data⟩ (by simp) (by decide))
      have h38 : listed.getD 38 false = false := no_after hun (by omega) (fun hl => hcl 37 _ rfl (hcl 38 _ rfl hl ⟨37, .data⟩ (by simp) (by decide)) ⟨24, .data⟩ (by simp) (by decide))
      refine wpO_minsert rfl _ _ _ 141 rfl keyQ Try.underlying141 h3 h1 (hkey 11) hk (hfn 11) rfl ?_
      intro w2 hm2 ht2 hs2
      exact hI.ins 11 (by omega) hs39 h37 h38 h1 h2 hm2 h4 (Below.touch hI.bl hI.bl.size ht2 (fun k e => by omega))
    | 25, ho, hi, hun, hw =>
      obtain rfl := Option.some.inj ho
      unfold Oper.wp
      go_simp
      exact hI.build 12 (by omega) hs39
    | 26, ho, hi, hun, hw =>
      obtain rfl := Option.some.inj ho
      obtain ⟨b, l, h1, h2, h3, h4⟩ := hI.mp (hw ⟨0, .data⟩ (by simp) (by decide))
      have hk := hI.bd 12 (by omega) (hw ⟨25, .data⟩ (by simp) (by decide))
      have h37 : listed.getD 37 false = false := no_after hun (by omega) (fun hl => hcl 37 _ rfl hl ⟨26, .data⟩ (by simp) (by decide))
      have h38 : listed.getD 38 false = false := no_after hun (by omega) (fun hl => hcl 37 _ rfl (hcl 38 _ rfl hl ⟨37, .data⟩ (by simp) (by decide)) ⟨26, .data⟩ (by simp) (by decide))
      refine wpO_minsert rfl _ _ _ 141 rfl keyQ Try.underlying141 h3 h1 (hkey 12) hk (hfn 12) rfl ?_
      intro w2 hm2 ht2 hs2
      exact hI.ins 12 (by omega) hs39 h37 h38 h1 h2 hm2 h4 (Below.touch hI.bl hI.bl.size ht2 (fun k e => by omega))
    | 27, ho, hi, hun, hw =>
      obtain rfl := Option.some.inj ho
      unfold Oper.wp
      go_simp
      exact hI.build 13 (by omega) hs39
    | 28, ho, hi, hun, hw =>
      obtain rfl := Option.some.inj ho
      obtain ⟨b, l, h1, h2, h3, h4⟩ := hI.mp (hw ⟨0, .data⟩ (by simp) (by decide))
      have hk := hI.bd 13 (by omega) (hw ⟨27, .data⟩ (by simp) (by decide))
      have h37 : listed.getD 37 false = false := no_after hun (by omega) (fun hl => hcl 37 _ rfl hl ⟨28, .data⟩ (by simp) (by decide))
      have h38 : listed.getD 38 false = false := no_after hun (by omega) (fun hl => hcl 37 _ rfl (hcl 38 _ rfl hl ⟨37, .data⟩ (by simp) (by decide)) ⟨28, .data⟩ (by simp) (by decide))
      refine wpO_minsert rfl _ _ _ 141 rfl keyQ Try.underlying141 h3 h1 (hkey 13) hk (hfn 13) rfl ?_
      intro w2 hm2 ht2 hs2
      exact hI.ins 13 (by omega) hs39 h37 h38 h1 h2 hm2 h4 (Below.touch hI.bl hI.bl.size ht2 (fun k e => by omega))
    | 29, ho, hi, hun, hw =>
      obtain rfl := Option.some.inj ho
      unfold Oper.wp
      go_simp
      exact hI.build 14 (by omega) hs39
    | 30, ho, hi, hun, hw =>
      obtain rfl := Option.some.inj ho
      obtain ⟨b, l, h1, h2, h3, h4⟩ := hI.mp (hw ⟨0, .data⟩ (by simp) (by decide))
      have hk := hI.bd 14 (by omega) (hw ⟨29, .data⟩ (by simp) (by decide))
      have h37 : listed.getD 37 false = false := no_after hun (by omega) (fun hl => hcl 37 _ rfl hl ⟨30, .data⟩ (by simp) (by decide))
      have h38 : listed.getD 38 false = false := no_after hun (by omega) (fun hl => hcl 37 _ rfl (hcl 38 _ rfl hl ⟨37, .data⟩ (by simp) (by decide)) ⟨30, .data⟩ (by simp) (by decide))
      refine wpO_minsert rfl _ _ _ 141 rfl keyQ Try.underlying141 h3 h1 (hkey 14) hk (hfn 14) rfl ?_
      intro w2 hm2 ht2 hs2
      exact hI.ins 14 (by omega) hs39 h37 h38 h1 h2 hm2 h4 (Below.touch hI.bl hI.bl.size ht2 (fun k e => by omega))
    | 31, ho, hi, hun, hw =>
      obtain rfl := Option.some.inj ho
      unfold Oper.wp
      go_simp
      exact hI.build 15 (by omega) hs39
    | 32, ho, hi, hun, hw =>
      obtain rfl := Option.some.inj ho
      obtain ⟨b, l, h1, h2, h3, h4⟩ := hI.mp (hw ⟨0, .data⟩ (by simp) (by decide))
      have hk := hI.bd 15 (by omega) (hw ⟨31, .data⟩ (by simp) (by decide))
      have h37 : listed.getD 37 false = false := no_after hun (by omega) (fun hl => hcl 37 _ rfl hl ⟨32, .data⟩ (by simp) (by decide))
      have h38 : listed.getD 38 false = false := no_after hun (by omega) (fun hl => hcl 37 _ rfl (hcl 38 _ rfl hl ⟨37, .data⟩ (by simp) (by decide)) ⟨32, .data⟩ (by simp) (by decide))
      refine wpO_minsert rfl _ _ _ 141 rfl keyQ Try.underlying141 h3 h1 (hkey 15) hk (hfn 15) rfl ?_
      intro w2 hm2 ht2 hs2
      exact hI.ins 15 (by omega) hs39 h37 h38 h1 h2 hm2 h4 (Below.touch hI.bl hI.bl.size ht2 (fun k e => by omega))
    | 33, ho, hi, hun, hw =>
      obtain rfl := Option.some.inj ho
      unfold Oper.wp
      go_simp
      exact hI.build 16 (by omega) hs39
    | 34, ho, hi, hun, hw =>
      obtain rfl := Option.some.inj ho
      obtain ⟨b, l, h1, h2, h3, h4⟩ := hI.mp (hw ⟨0, .data⟩ (by simp) (by decide))
      have hk := hI.bd 16 (by omega) (hw ⟨33, .data⟩ (by simp) (by decide))
      have h37 : listed.getD 37 false = false := no_after hun (by omega) (fun hl => hcl 37 _ rfl hl ⟨34, .data⟩ (by simp) (by decide))
      have h38 : listed.getD 38 false = false := no_after hun (by omega) (fun hl => hcl 37 _ rfl (hcl 38 _ rfl hl ⟨37, .data⟩ (by simp) (by decide)) ⟨34, .data⟩ (by simp) (by decide))
      refine wpO_minsert rfl _ _ _ 141 rfl keyQ Try.underlying141 h3 h1 (hkey 16) hk (hfn 16) rfl ?_
      intro w2 hm2 ht2 hs2
      exact hI.ins 16 (by omega) hs39 h37 h38 h1 h2 hm2 h4 (Below.touch hI.bl hI.bl.size ht2 (fun k e => by omega))
    | 35, ho, hi, hun, hw =>
      obtain rfl := Option.some.inj ho
      unfold Oper.wp
      go_simp
      exact hI.build 17 (by omega) hs39
    | 36, ho, hi, hun, hw =>
      obtain rfl := Option.some.inj ho
      obtain ⟨b, l, h1, h2, h3, h4⟩ := hI.mp (hw ⟨0, .data⟩ (by simp) (by decide))
      have hk := hI.bd 17 (by omega) (hw ⟨35, .data⟩ (by simp) (by decide))
      have h37 : listed.getD 37 false = false := no_after hun (by omega) (fun hl => hcl 37 _ rfl hl ⟨36, .data⟩ (by simp) (by decide))
      have h38 : listed.getD 38 false = false := no_after hun (by omega) (fun hl => hcl 37 _ rfl (hcl 38 _ rfl hl ⟨37, .data⟩ (by simp) (by decide)) ⟨36, .data⟩ (by simp) (by decide))
      refine wpO_minsert rfl _ _ _ 141 rfl keyQ Try.underlying141 h3 h1 (hkey 17) hk (hfn 17) rfl ?_
      intro w2 hm2 ht2 hs2
      exact hI.ins 17 (by omega) hs39 h37 h38 h1 h2 hm2 h4 (Below.touch hI.bl hI.bl.size ht2 (fun k e => by omega))
    | 37, ho, hi, hun, hw =>
      obtain rfl := Option.some.inj ho
      have h38 : listed.getD 38 false = false := no_after hun (by omega) (fun hl => hcl 38 _ rfl hl ⟨37, .data⟩ (by simp) (by decide))
      unfold Oper.wp
      go_simp
      have hf := hI.mv hs39 h38
      simpa [Act.put, slotOf] using hf
    | 38, ho, hi, hun, hw =>
      obtain rfl := Option.some.inj ho
      have h37 := hI.e1 (hw ⟨37, .data⟩ (by simp) (by decide))
      unfold Oper.wp
      go_simp
      have hf := hI.asg hs39 h37
      simpa [Act.put, slotOf] using hf
    | n + 39, _, hi, _, _ => omega
end Go.Proofs.Ytlklnaebdnahcaa
namespace Go.Proofs.Ytlklnaebdnahcaa
open Go.RowKit Nw
theorem sn_len (s : Nw.Sn) : (Nw.Sn.vals s).length = 9 := rfl
theorem heap_setCells2 {g : Nat} {ty : TypeId} {fz : Nat × Nat} : ∀ (vs : List Value) (o : Nat) (W : World) (cur : Array Value), W.heap[g]? = some (.cells cur ty fz) → o + vs.length ≤ cur.size → ∃ cur', (W.setCells g o vs).heap[g]? = some (.cells cur' ty fz) ∧ cur'.size = cur.size ∧ cur'.toList = cur.toList.take o ++ vs ++ cur.toList.drop (o + vs.length)
  | [], o, W, cur, h, _ => ⟨cur, h, rfl, by simp⟩
  | v :: r, o, W, cur, hW, hs => by
    have hlt := (Array.getElem?_eq_some_iff.1 hW).1
    have h' : W.heap[g] = .cells cur ty fz := by simpa [Array.getElem?_eq_getElem hlt] using hW
    have h1 : (W.setCell ⟨g, o, none⟩ v).heap[g]? = some (.cells (cur.setIfInBounds o v) ty fz) := by
      show (W.heap.modify g _)[g]? = _
      rw [Array.getElem?_eq_getElem (by simpa using hlt), Array.getElem_modify_self, h']
      rfl
    simp only [List.length_cons] at hs
    obtain ⟨cur', h2, h3, h4⟩ := heap_setCells2 r (o + 1) _ _ h1 (by simp; omega)
    refine ⟨cur', h2, by simpa using h3, ?_⟩
    have ho : o < cur.toList.length := by simp; omega
    have e1 : (cur.toList.set o v).take (o + 1) = cur.toList.take o ++ [v] := by
      apply List.ext_getElem?
      intro i
      rw [List.getElem?_take, List.getElem?_set]
      by_cases h1 : i < o
      · rw [if_pos (by omega), if_neg (by omega), List.getElem?_append_left (by rw [List.length_take]; omega), List.getElem?_take, if_pos h1]
      · by_cases h2 : i = o
        · subst h2
          rw [if_pos (by omega), if_pos rfl, if_pos ho, List.getElem?_append_right (by rw [List.length_take]; omega), List.length_take, Nat.min_eq_left (Nat.le_of_lt ho), Nat.sub_self]
          rfl
        · rw [if_neg (by omega)]
          symm
          rw [List.getElem?_eq_none_iff, List.length_append, List.length_take]
          simp
          omega
    have e2 : (cur.toList.set o v).drop (o + 1 + r.length) = cur.toList.drop (o + 1 + r.length) := List.drop_set_of_lt (by omega)
    rw [h4, Array.toList_setIfInBounds, e1, e2, List.length_cons, List.append_assoc (cur.toList.take o), show o + (r.length + 1) = o + 1 + r.length by omega]
    rfl
theorem info180 : (Try.prog.info? 95).map (fun i => (i.zero, i.size, i.bytes)) = some (some (.agg #[.int .i64 0, .bool false, .int .i64 0, .int .i64 0, .int .i64 0, .int .i64 0, .int .i64 0, .int .i64 0, .int .i64 0]), 9, 72) := by kernel_rfl
theorem run_clear_sn (w : World) (g o n c : Nat) (hn : 0 < n) (hc : ∀ j, j < n * 9 → (w.cell? ⟨g, o + j, none⟩).isSome = true) (hf : ∀ j, w.frozen? ⟨g, j, none⟩ = false) :
    ∃ vs, ∀ ty, (Builtin.clear_ #[40] ty #[.slice (some ⟨g, o, none⟩) n c]).run Try.prog w = .ok (.tuple #[]) (w.setCells g o vs) := by
  have hz : ∀ w, (zeroValue 95).run Try.prog w = .ok (.agg #[.int .i64 0, .bool false, .int .i64 0, .int .i64 0, .int .i64 0, .int .i64 0, .int .i64 0, .int .i64 0, .int .i64 0]) w := fun w => by
    obtain ⟨i0, hi, z0, z1, z2⟩ := info_parts info180
    simp [zeroValue, typeInfo, hi, z0]
  obtain ⟨vs, hvs⟩ : ∃ vs, vs = (Builtin.zeroCells (Value.agg #[.int .i64 0, .bool false, .int .i64 0, .int .i64 0, .int .i64 0, .int .i64 0, .int .i64 0, .int .i64 0, .int .i64 0]).cells n).toList := ⟨_, rfl⟩
  have hcl : (Value.agg #[.int .i64 0, .bool false, .int .i64 0, .int .i64 0, .int .i64 0, .int .i64 0, .int .i64 0, .int .i64 0, .int .i64 0]).cells = #[.int .i64 0, .bool false, .int .i64 0, .int .i64 0, .int .i64 0, .int .i64 0, .int .i64 0, .int .i64 0, .int .i64 0] := rfl
  have hl : vs.length = n * 9 := by rw [hvs, hcl]; simp [Builtin.zeroCells]
  have h1 : ∀ v ∈ vs, v.oneCell' = true := by
    intro v hv
    rw [hvs, hcl] at hv
    simp only [Builtin.zeroCells, Array.toList_map, List.mem_map] at hv
    obtain ⟨i, _, rfl⟩ := hv
    have hs : (#[Value.int .i64 0, .bool false, .int .i64 0, .int .i64 0, .int .i64 0, .int .i64 0, .int .i64 0, .int .i64 0, .int .i64 0] : Array Value).size = 9 := rfl
    rw [hs]
    have : i % 9 = 0 ∨ i % 9 = 1 ∨ i % 9 = 2 ∨ i % 9 = 3 ∨ i % 9 = 4 ∨ i % 9 = 5 ∨ i % 9 = 6 ∨ i % 9 = 7 ∨ i % 9 = 8 := by omega
    rcases this with e | e | e | e | e | e | e | e | e <;> rw [e] <;> rfl
  have hst := run_storeCells_cells (P := Try.prog) g o vs 0 w (fun j hj => by simpa using hc j (by omega)) (fun j _ => hf _) h1
  refine ⟨vs, fun ty => ?_⟩
  obtain ⟨m, rfl⟩ : ∃ m, n = m + 1 := ⟨n - 1, by omega⟩
  simp only [Nat.add_zero] at hst
  simp [Builtin.clear_, run_underlying Try.underlying40, hz, ← hvs, hst]
theorem flatS_one (L : List Nw.Sn) : ∀ u ∈ flatM Nw.Sn.vals L, u.oneCell' = true := by
  intro u hu
  simp only [flatM, List.mem_flatMap] at hu
  obtain ⟨s, _, hu⟩ := hu
  simp [Nw.Sn.vals, Pk.cells] at hu
  rcases hu with rfl | rfl | rfl | rfl | rfl | rfl | rfl | rfl | rfl <;> rfl
def SDelTo (w : World) (B g cap : Nat) (l' : List Nw.Sn) (e : Ending) (w' : World) : Prop :=
  e = .returned (.slice (some ⟨g, 0, none⟩) l'.length cap) ∧ OwnR Nw.Sn.vals 95 9 B w' (some ⟨g, 0, none⟩) cap l' ∧ Touch (fun k => k = g) w w'
theorem wpO_append {P : Program} {w W1 : World} {o : Oper} {a : Act} {N : Act → World → Prop} {Q : Exit → Act → World → Prop} (s x : Operand) (t : TypeId) (hop : o.op = Op.call { callee := Callee.builtin Builtin.append, args := #[s, x], argTypes := #[t, t] })
    (vs vx : Value) (hs : a.eval s = vs) (hx : a.eval x = vx) {v : Value} (hrun : (Builtin.append_ #[t, t] o.type #[vs, vx]).run P w = .ok v W1) (hK : N (a.put o.dst v) W1) : o.wp P a w N Q := by
  unfold Oper.wp
  simp [execOp, hop, resolve, invoke, builtin, hs, hx, hrun, Result.andThen]
  exact hK
theorem snBlk {w : World} {B g cap : Nat} {l : List Nw.Sn} (h : OwnR Nw.Sn.vals 95 9 B w (some ⟨g, 0, none⟩) cap l) : ∃ cur, w.heap[g]? = some (.cells cur 95 (0, 0)) ∧ cur.size = cap * 9 ∧ cur.toList.take (l.length * 9) = flatM Nw.Sn.vals l ∧ B ≤ g ∧ l.length ≤ cap ∧ cap ≤ maxLen := by
  rcases h.2 with ⟨h2, _⟩ | ⟨g', c, cur, hv, hb, hg, hnc, hcm, hcs, htk⟩
  · cases h2
  · cases hv
    exact ⟨cur, hg, hcs, htk, hb, hnc, hcm⟩
theorem snRow {w : World} {B g cap : Nat} {l : List Nw.Sn} {cur : Array Value} (hg : w.heap[g]? = some (.cells cur 95 (0, 0))) (hcs : cur.size = cap * 9) (htk : cur.toList.take (l.length * 9) = flatM Nw.Sn.vals l) (hb : B ≤ g) (hnc : l.length ≤ cap) (hcm : cap ≤ maxLen) : OwnR Nw.Sn.vals 95 9 B w (some ⟨g, 0, none⟩) cap l :=
  ⟨by rw [flatM_length sn_len], .inr ⟨g, cap, cur, rfl, hb, hg, hnc, hcm, hcs, htk⟩⟩
theorem sn_ad {cap g j : Nat} : ∃ ad : Addr, (if cap = j then (some ⟨g, 0, none⟩ : Option Addr) else some ⟨g, j * 9, none⟩) = some ad ∧ (cap ≠ j → ad = ⟨g, j * 9, none⟩) := by
  by_cases h : cap = j
  · exact ⟨⟨g, 0, none⟩, if_pos h, fun e => absurd h e⟩
  · exact ⟨⟨g, j * 9, none⟩, if_neg h, fun _ => rfl⟩
theorem sn_move {w : World} {B g cap : Nat} {l : List Nw.Sn} (h : OwnR Nw.Sn.vals 95 9 B w (some ⟨g, 0, none⟩) cap l) (i j : Nat) (hij : i < j) (hj : j ≤ l.length) {ad : Addr} (had : cap ≠ j → ad = ⟨g, j * 9, none⟩) (ty : TypeId) :
    ∃ W1, (Builtin.append_ #[40, 40] ty #[.slice (some ⟨g, 0, none⟩) i cap, .slice (some ad) (l.length - j) (cap - j)]).run Try.prog w = .ok (.slice (some ⟨g, 0, none⟩) (i + (l.length - j)) cap) W1 ∧ OwnR Nw.Sn.vals 95 9 B W1 (some ⟨g, 0, none⟩) cap (l.take i ++ l.drop j) ∧ Touch (fun k => k = g) w W1 := by
  obtain ⟨cur, hg, hcs, htk, hb, hnc, hcm⟩ := snBlk h
  obtain ⟨news, hnews⟩ : ∃ news, news = flatM Nw.Sn.vals (l.drop j) := ⟨_, rfl⟩
  have hnl : news.length = (l.length - j) * 9 := by rw [hnews, flatM_length sn_len, List.length_drop]
  have hget : ∀ t u, news[t]? = some u → w.cell? ⟨g, j * 9 + t, none⟩ = some u := by
    intro t u hu
    have e1 : flatM Nw.Sn.vals l = flatM Nw.Sn.vals (l.take j) ++ news := by rw [hnews, ← flatM_append, List.take_append_drop]
    have e2 : (flatM Nw.Sn.vals l)[j * 9 + t]? = some u := by
      have hl2 : (flatM Nw.Sn.vals (l.take j)).length = j * 9 := by rw [flatM_length sn_len, List.length_take, Nat.min_eq_left hj]
      rw [e1, List.getElem?_append_right (by rw [hl2]; omega), hl2, show j * 9 + t - j * 9 = t by omega]
      exact hu
    rw [← htk, List.getElem?_take] at e2
    split at e2
    · simp only [World.cell?, hg]
      simpa using e2
    · cases e2
  have hsrc : ∀ t u, news[t]? = some u → w.cell? (ad.add t) = some u := fun t u hu => by
    have hc : cap ≠ j := fun e => by
      have h0 : news.length = 0 := by rw [hnl]; omega
      rw [List.length_eq_zero_iff.1 h0] at hu
      simp at hu
    rw [had hc, Addr.add_lit]
    exact hget t u hu
  obtain ⟨i0, hi, z0, z1, z2⟩ := info_parts info180
  have hlen : i * 9 + news.length ≤ cur.size := by rw [hnl, hcs, ← Nat.add_mul]; exact Nat.mul_le_mul_right 9 (by omega)
  have hrun := run_append_room_cells (P := Try.prog) (w := w) 40 ty 95 i0 Try.underlying40 hi g 0 i cap ad (l.length - j) (cap - j) news (by rw [z1]; exact hnl) hsrc (by rw [hnews]; exact flatS_one _) (by omega)
    (fun t ht => by
      rw [z1]
      have : i * 9 + t < cur.size := by omega
      simp [World.cell?, hg, this])
    (fun t ht => by simp [World.frozen?, hg])
  rw [z1, Nat.zero_add] at hrun
  obtain ⟨cur', h1, h2, h3⟩ := heap_setCells2 news (i * 9) w cur hg hlen
  refine ⟨_, hrun, snRow h1 (h2.trans hcs) ?_ hb ?_ hcm, touch_setCells (S := fun k => k = g) rfl _ _ _ (Touch.refl _ _)⟩
  · have e1 : (l.take i ++ l.drop j).length = i + (l.length - j) := by rw [List.length_append, List.length_take, List.length_drop, Nat.min_eq_left (by omega)]
    have e2 : cur.toList.take (i * 9) = flatM Nw.Sn.vals (l.take i) := by
      have : cur.toList.take (i * 9) = (cur.toList.take (l.length * 9)).take (i * 9) := by rw [List.take_take, Nat.min_eq_left (Nat.mul_le_mul_right 9 (by omega))]
      rw [this, htk, flatM_take sn_len]
    rw [e1, h3, e2, flatM_append, ← hnews]
    have e3 : (flatM Nw.Sn.vals (l.take i) ++ news).length = (i + (l.length - j)) * 9 := by
      rw [List.length_append, hnl, flatM_length sn_len, List.length_take, Nat.min_eq_left (by omega), ← Nat.add_mul]
    rw [← e3, List.take_left]
  · rw [List.length_append, List.length_take, List.length_drop]
    omega
theorem sn_clear {w : World} {B g cap : Nat} {l : List Nw.Sn} (h : OwnR Nw.Sn.vals 95 9 B w (some ⟨g, 0, none⟩) cap l) (m : Nat) (hm : 0 < m) (hc : l.length + m ≤ cap) :
    ∃ W1, (∀ ty, (Builtin.clear_ #[40] ty #[.slice (some ⟨g, l.length * 9, none⟩) m (cap - l.length)]).run Try.prog w = .ok (.tuple #[]) W1) ∧ OwnR Nw.Sn.vals 95 9 B W1 (some ⟨g, 0, none⟩) cap l ∧ Touch (fun k => k = g) w W1 := by
  obtain ⟨cur, hg, hcs, htk, hb, hnc, hcm⟩ := snBlk h
  obtain ⟨vs, hvs⟩ := run_clear_sn w g (l.length * 9) m (cap - l.length) hm (fun t ht => by
    have : l.length * 9 + t < cur.size := by
      rw [hcs]
      have := Nat.mul_le_mul_right 9 hc
      omega
    simp [World.cell?, hg, this]) (fun t => by simp [World.frozen?, hg])
  obtain ⟨cur', h1, h2, h3⟩ := heap_setCells vs (l.length * 9) w cur hg
  refine ⟨_, hvs, snRow h1 (h2.trans hcs) ?_ hb hnc hcm, touch_setCells (S := fun k => k = g) rfl _ _ _ (Touch.refl _ _)⟩
  rw [← htk]
  apply List.ext_getElem?
  intro k
  rw [List.getElem?_take, List.getElem?_take]
  by_cases hk : k < l.length * 9
  · rw [if_pos hk, if_pos hk, Array.getElem?_toList, Array.getElem?_toList, h3 k hk]
  · rw [if_neg hk, if_neg hk]
set_option maxRecDepth 100000 in
set_option maxHeartbeats 4000000 in
theorem Delete_c {w : World} {B g cap : Nat} {l : List Nw.Sn} (h : OwnR Nw.Sn.vals 95 9 B w (some ⟨g, 0, none⟩) cap l) (i j : Nat) (hij : i < j) (hj : j ≤ l.length) :
    Calls Try.prog 47 #[.slice (some ⟨g, 0, none⟩) l.length cap, .int .i64 i, .int .i64 j] w (SDelTo w B g cap (l.take i ++ l.drop j)) := by
  obtain ⟨cur, hg, hcs, htk, hb, hnc, hcm⟩ := snBlk h
  obtain ⟨ad, had, had2⟩ := sn_ad (cap := cap) (g := g) (j := j)
  obtain ⟨n, hn⟩ : ∃ n, n = l.length := ⟨_, rfl⟩
  have HN := Lib.hid hn
  have H := Lib.hid h
  have HAD := Lib.hid had2
  have hl' : (l.take i ++ l.drop j).length = i + (n - j) := by rw [List.length_append, List.length_take, List.length_drop, hn, Nat.min_eq_left (by omega)]
  have HL := Lib.hid hl'
  rw [← hn] at hj hnc ⊢
  have k1 : ((i : Int) == (j : Int)) = false := by
    have : ¬ (i : Int) = j := by omega
    simpa using this
  have hc63 : cap ≤ 9223372036854775807 := hcm
  clear h hg hcs htk hn hcm had2 hl'
  go_enter Try.func47, Try.ntmps47
  go_upto_region 5 with fail
  refine wp_region_then 6 _ ?af rfl (by kernel_rfl) (by kernel_rfl) ?walk ?tail
  case walk =>
    intro V hV
    clear hV
    simp only [List.take_succ_cons, List.take_zero]
    repeat (go_big_quiet_step (fail))
    refine wpQuiet_nil ?_
    rfl
  intro w8 hb8
  have H8 := H.out.below hb8
  have HT8 := Lib.hid (Touch.of_below (S := fun k => k = g) hb8)
  obtain ⟨W1, hrun, hO, hT⟩ := sn_move H8 i j hij (by rw [← HN.out]; exact hj) HAD.out 40
  rw [← HN.out] at hrun
  have HO := Lib.hid hO
  have HT := Lib.hid (HT8.out.trans hT)
  clear hb8 H8 hO hT
  refine wpO_append (.tmp 22) (.tmp 25) 40 rfl _ _ rfl rfl hrun ?_
  clear hrun
  (try simp only [Act.put, List.setIfInBounds_toArray, List.set_cons_zero, List.set_cons_succ])
  simp only [Nat.reduceAdd, List.drop_succ_cons, List.drop_zero]
  go_big_quiet_step (fail)
  refine wpQuiet_nil ?_
  intro xx
  have HO2 := HO.out.below xx.far
  have HT2 := Lib.hid (HT.out.below xx.far)
  generalize xx.w = w2 at HO2 HT2 ⊢
  obtain ⟨l', hl'⟩ : ∃ l', l' = l.take i ++ l.drop j := ⟨_, rfl⟩
  have HLE := Lib.hid hl'
  rw [← hl'] at HO2
  have hlen : l'.length = i + (n - j) := by rw [hl']; exact HL.out
  obtain ⟨W3, hcl, hO3, hT3⟩ := sn_clear HO2 (n - (i + (n - j))) (by omega) (by omega)
  have HO3 := Lib.hid hO3
  have HT3 := Lib.hid (HT2.out.trans hT3)
  have HLL := Lib.hid hlen
  rw [hlen] at hcl
  clear HO2 hO3 hT3 HO HT hlen hl' HT2 HT8
  go_wp2_with fail
  go_ret
  exact ⟨by rw [HL.out]; rfl, by rw [← HLE.out]; exact HO3.out, HT3.out⟩
end Go.Proofs.Ytlklnaebdnahcaa
namespace Go.Proofs.Ytlklnaebdnahcaa
open Go.RowKit Nw
theorem NetAt.toFl {w w' : World} {B n base : Nat} {col : Nat → Nat} {D : Dl} {M : Mem} {S : St} (h : NetAt w B n col base D M S) {A' : Option Addr} {c' : Nat} {l' : List Nw.Sn} (hown : OwnR Nw.Sn.vals 95 9 B w' A' c' l') (ht : Touch (fun k => k = n ∨ OwnB M.fA k) w w')
    (hb : Blk w' n 81 ((netC M D S).set 17 (.slice A' l'.length c'))) (hn : ∀ k, OwnB A' k → OwnB M.fA k ∨ w.heap.size ≤ k) : NetTo w B n col base D { S with fl := l' } w' := by
  have hT : ∀ k, (k = n ∨ OwnB M.fA k) → col k = base ∨ col k = base + 7 := fun k e => by
    rcases e with rfl | e
    · exact .inl h.c0
    · exact .inr (h.fc k e)
  refine ⟨ncol w col (base + 7), { M with fA := A', fc := c' }, fun k hk => ncol_old hk, h.setFl (fun k hk => ncol_old hk) hown (fun k e => ?_) (ht.mono hT) hb, ht.mono (fun k e => by have := hT k e; unfold NetOwn; omega)⟩
  by_cases hlt : k < w.heap.size
  · rw [ncol_old hlt]
    rcases hn k e with e | e
    · exact h.fc k e
    · omega
  · exact ncol_new (by omega)
theorem NetAt.flR {w : World} {B n base : Nat} {col : Nat → Nat} {D : Dl} {M : Mem} {S : St} (h : NetAt w B n col base D M S) : OwnR Nw.Sn.vals 95 9 B w M.fA M.fc S.fl := h.fl
theorem snC {W : World} {B g c : Nat} {l : List Nw.Sn} (h : OwnR Nw.Sn.vals 95 9 B W (some ⟨g, 0, none⟩) c l) {i : Nat} {s : Nw.Sn} (hs : l[i]? = some s) :
    W.cell? ⟨g, i * 9, none⟩ = some (.int .i64 s.l) ∧ W.cell? ⟨g, i * 9 + 1, none⟩ = some (.bool s.p.has) ∧ W.cell? ⟨g, i * 9 + 2, none⟩ = some (.int .i64 s.p.nu) ∧ W.cell? ⟨g, i * 9 + 3, none⟩ = some (.int .i64 s.p.nt.k) ∧ W.cell? ⟨g, i * 9 + 4, none⟩ = some (.int .i64 s.p.nt.s) ∧ W.cell? ⟨g, i * 9 + 5, none⟩ = some (.int .i64 s.p.nt.a) ∧ W.cell? ⟨g, i * 9 + 6, none⟩ = some (.int .i64 s.p.nt.b) ∧ W.cell? ⟨g, i * 9 + 7, none⟩ = some (.int .i64 s.p.nt.c) ∧ W.cell? ⟨g, i * 9 + 8, none⟩ = some (.int .i64 s.p.ak) :=
  ⟨h.cell sn_len i 0 s hs (by omega), h.cell sn_len i 1 s hs (by omega), h.cell sn_len i 2 s hs (by omega), h.cell sn_len i 3 s hs (by omega), h.cell sn_len i 4 s hs (by omega), h.cell sn_len i 5 s hs (by omega), h.cell sn_len i 6 s hs (by omega), h.cell sn_len i 7 s hs (by omega), h.cell sn_len i 8 s hs (by omega)⟩
def snV (s : Nw.Sn) : Value := .agg #[.int .i64 s.l, .bool s.p.has, .int .i64 s.p.nu, .int .i64 s.p.nt.k, .int .i64 s.p.nt.s, .int .i64 s.p.nt.a, .int .i64 s.p.nt.b, .int .i64 s.p.nt.c, .int .i64 s.p.ak]
set_option maxRecDepth 100000 in
set_option maxHeartbeats 4000000 in
theorem take_0 {w : World} {B n base : Nat} {col : Nat → Nat} {D : Dl} {M : Mem} {S : St} (h : NetAt w B n col base D M S) (hB : B ≤ w.heap.size) (k : Nat) (hk : k < S.fl.length) (hfr : ∀ k, w.heap.size ≤ k → ¬ NetOwn col base k) :
    Calls Try.prog 26 #[.pointer (some ⟨n, 0, none⟩), .int .i64 k] w fun e w' => e = .returned (snV (S.fl.getD k default)) ∧ NetTo w B n col base D (Nw.take S k) w' := by
  have HFR := Lib.hid hfr
  clear hfr
  obtain ⟨g, hA, hBg, hgl, hcap, hcm⟩ := h.flR.form (by omega)
  have HA0 := Lib.hid hA
  have hka := getElem_D S.fl k default hk
  obtain ⟨s, hs⟩ : ∃ s, s = S.fl.getD k default := ⟨_, rfl⟩
  rw [← hs] at hka ⊢
  have HS := Lib.hid hs
  have HKA := Lib.hid hka
  obtain ⟨m, hm⟩ : ∃ m, m = S.fl.length := ⟨_, rfl⟩
  have HM := Lib.hid hm
  rw [← hm] at hk hcap
  have HGW := Lib.hid hgl
  have HBB := Lib.hid hB
  have H := Lib.hid h
  have hkw : wrap64 ((k : Int) + 1) = (k : Int) + 1 := by rw [← IntWalk.i64_left]; exact IntWalk.i64_in _ (by omega)
  have hgn : g ≠ n := fun e => by have h1 := h.fc g ⟨_, hA, rfl⟩; rw [e, h.c0] at h1; omega
  have HGN := Lib.hid hgn
  have hki : (k : Int) < (m : Int) := by omega
  clear h hB hA hka hs hm hBg hgl hgn
  go_enter Try.func26, Try.ntmps26
  go_upto_region 1 with fail
  have al := (Below.refl w.heap.size w).alloc (Nat.le_refl _) (.cells #[.int .i64 0, .bool false, .int .i64 0, .int .i64 0, .int .i64 0, .int .i64 0, .int .i64 0, .int .i64 0, .int .i64 0] 95)
  have HR := Lib.hid (Blk.new' w #[.int .i64 0, .bool false, .int .i64 0, .int .i64 0, .int .i64 0, .int .i64 0, .int .i64 0, .int .i64 0, .int .i64 0] 95)
  have H1 := Lib.hid (H.out.below al)
  have HA1 := Lib.hid al
  clear al
  generalize w.alloc (.cells #[.int .i64 0, .bool false, .int .i64 0, .int .i64 0, .int .i64 0, .int .i64 0, .int .i64 0, .int .i64 0, .int .i64 0] 95) = w1 at HR H1 HA1 ⊢
  obtain ⟨gr, hgr⟩ : ∃ gr, gr = w.heap.size := ⟨_, rfl⟩
  rw [← hgr] at HR ⊢
  have HGR := Lib.hid hgr
  clear hgr
  have hf := H1.out.flR
  rw [HA0.out] at hf
  obtain ⟨e0, e1, e2, e3, e4, e5, e6, e7, e8⟩ := snC hf HKA.out
  have c17 := H1.out.blk.cell 17 rfl
  rw [← HM.out, HA0.out] at c17
  have gl := hf.lt.2
  have nl := H1.out.lt
  clear hf
  go_upto_region 2 with fail
  clear e0 e1 e2 e3 e4 e5 e6 e7 e8 c17 gl nl
  have al := (Below.refl w1.heap.size w1).alloc (Nat.le_refl _) (.cells #[.int .i64 s.l, .bool s.p.has, .int .i64 s.p.nu, .int .i64 s.p.nt.k, .int .i64 s.p.nt.s, .int .i64 s.p.nt.a, .int .i64 s.p.nt.b, .int .i64 s.p.nt.c, .int .i64 s.p.ak] 95)
  have HX := Lib.hid (Blk.new' w1 #[.int .i64 s.l, .bool s.p.has, .int .i64 s.p.nu, .int .i64 s.p.nt.k, .int .i64 s.p.nt.s, .int .i64 s.p.nt.a, .int .i64 s.p.nt.b, .int .i64 s.p.nt.c, .int .i64 s.p.ak] 95)
  have HR2 := Lib.hid (HR.out.below al HR.out.lt)
  have H2 := Lib.hid (H1.out.below al)
  have HA2 := Lib.hid (HA1.out.trans (al.mono HA1.out.size))
  have HB2 := Lib.hid (Nat.le_trans HBB.out HA2.out.size)
  clear al HR H1
  have HGX := Lib.hid (show w.heap.size ≤ w1.heap.size from HA1.out.size)
  generalize w1.alloc (.cells #[.int .i64 s.l, .bool s.p.has, .int .i64 s.p.nu, .int .i64 s.p.nt.k, .int .i64 s.p.nt.s, .int .i64 s.p.nt.a, .int .i64 s.p.nt.b, .int .i64 s.p.nt.c, .int .i64 s.p.ak] 95) = w2 at HX HR2 H2 HA2 HB2 ⊢
  generalize w1.heap.size = gx at HX HGX ⊢
  clear HA1
  have hf := H2.out.flR
  rw [HA0.out] at hf
  have PD := Lib.hid (Delete_c hf k (k + 1) (by omega) (by rw [← HM.out]; omega))
  rw [← HM.out] at PD
  obtain ⟨fl', hfl⟩ : ∃ fl', fl' = S.fl.take k ++ S.fl.drop (k + 1) := ⟨_, rfl⟩
  have HFL := Lib.hid hfl
  rw [← hfl] at PD
  clear hfl
  have c17 := H2.out.blk.cell 17 rfl
  rw [← HM.out, HA0.out] at c17
  have nl := H2.out.lt
  have f17 := H2.out.blk.free 17
  clear hf
  go_upto_region 3 with (go_at_call 47; refine (PD.out).mono ?_; rintro e w3 ⟨rfl, ho3, ht3⟩; have hn3 := H2.out.blk.touch ht3 (fun e => HGN.out e.symm); have c17 := hn3.cell 17 rfl; have f17 := hn3.free 17; have nl := hn3.lt; have HO3 := Lib.hid ho3; have HT3 := Lib.hid ht3; have HN3 := Lib.hid hn3; clear ho3 ht3 hn3)
  have HTf : Touch (fun k => k = n) w3 (w3.setCell ⟨n, 17, none⟩ (.slice (some ⟨g, 0, none⟩) fl'.length M.fc)) := (Touch.refl _ _).put 17 _
  have HNA := H2.out.toFl (A' := M.fA) (c' := M.fc) (l' := fl') (by rw [HA0.out]; exact OwnR.touch HO3.out HTf (fun q hq e => HGN.out (by obtain ⟨a, ha, rfl⟩ := hq; cases ha; exact e))) ((HT3.out.mono (fun q e => .inr (by rw [e]; exact ⟨_, HA0.out, rfl⟩))).then HTf (fun q e => .inl (.inl e))) (by
    have := HN3.out.setCell 17 (.slice (some ⟨g, 0, none⟩) fl'.length M.fc)
    rw [← HA0.out] at this
    rw [← HA0.out]
    exact this) (fun q hq => .inl hq)
  have HXg := Lib.hid (show gx ≠ g from by have := HGX.out; have := HGW.out; omega)
  have HRg := Lib.hid (show gr ≠ g from by have := HGR.out; have := HGW.out; omega)
  have HXn := Lib.hid (show gx ≠ n from by have := HGX.out; have := H.out.lt; omega)
  have HRn := Lib.hid (show gr ≠ n from by have := HGR.out; have := H.out.lt; omega)
  have HXR := Lib.hid (show gx < w2.heap.size ∧ gr < w2.heap.size from ⟨HX.out.lt, HR2.out.lt⟩)
  have HX4 := Lib.hid ((HX.out.touch HT3.out HXg.out).touch HTf HXn.out)
  have HR4 := Lib.hid ((HR2.out.touch HT3.out HRg.out).touch HTf HRn.out)
  have HN4 := Lib.hid HNA
  clear HNA HTf c17 f17 nl HX HR2 HO3 HT3 HN3 PD
  generalize w3.setCell ⟨n, 17, none⟩ (.slice (some ⟨g, 0, none⟩) fl'.length M.fc) = w4 at HX4 HR4 HN4 ⊢
  obtain ⟨col4, M4, hc4, hN4, ht4⟩ := HN4.out
  have x0 := HX4.out.cell 0 rfl
  have r0 := HR4.out.cell 0 rfl
  have f0 := HR4.out.free 0
  have x1 := HX4.out.cell 1 rfl
  have r1 := HR4.out.cell 1 rfl
  have f1 := HR4.out.free 1
  have x2 := HX4.out.cell 2 rfl
  have r2 := HR4.out.cell 2 rfl
  have f2 := HR4.out.free 2
  have x3 := HX4.out.cell 3 rfl
  have r3 := HR4.out.cell 3 rfl
  have f3 := HR4.out.free 3
  have x4 := HX4.out.cell 4 rfl
  have r4 := HR4.out.cell 4 rfl
  have f4 := HR4.out.free 4
  have x5 := HX4.out.cell 5 rfl
  have r5 := HR4.out.cell 5 rfl
  have f5 := HR4.out.free 5
  have x6 := HX4.out.cell 6 rfl
  have r6 := HR4.out.cell 6 rfl
  have f6 := HR4.out.free 6
  have x7 := HX4.out.cell 7 rfl
  have r7 := HR4.out.cell 7 rfl
  have f7 := HR4.out.free 7
  have x8 := HX4.out.cell 8 rfl
  have r8 := HR4.out.cell 8 rfl
  have f8 := HR4.out.free 8
  have gxl := HX4.out.lt
  have grl := HR4.out.lt
  have HRF := Lib.hid (fun q (hq : q = gr) => (by rw [hq, HGR.out]; exact Nat.le_refl _ : w.heap.size ≤ q))
  have HC4 := Lib.hid hc4
  have HN5 := Lib.hid hN4
  have HT5 := Lib.hid ht4
  clear hc4 hN4 ht4
  go_wp2_with fail
  have HTy : Touch (fun q => q = gr) w4 (((((((((w4.setCell ⟨gr, 0, none⟩ (.int .i64 s.l)).setCell ⟨gr, 1, none⟩ (.bool s.p.has)).setCell ⟨gr, 2, none⟩ (.int .i64 s.p.nu)).setCell ⟨gr, 3, none⟩ (.int .i64 s.p.nt.k)).setCell ⟨gr, 4, none⟩ (.int .i64 s.p.nt.s)).setCell ⟨gr, 5, none⟩ (.int .i64 s.p.nt.a)).setCell ⟨gr, 6, none⟩ (.int .i64 s.p.nt.b)).setCell ⟨gr, 7, none⟩ (.int .i64 s.p.nt.c)).setCell ⟨gr, 8, none⟩ (.int .i64 s.p.ak)) := (((((((((Touch.refl _ _).put 0 (.int .i64 s.l)).put 1 (.bool s.p.has)).put 2 (.int .i64 s.p.nu)).put 3 (.int .i64 s.p.nt.k)).put 4 (.int .i64 s.p.nt.s)).put 5 (.int .i64 s.p.nt.a)).put 6 (.int .i64 s.p.nt.b)).put 7 (.int .i64 s.p.nt.c)).put 8 (.int .i64 s.p.ak)
  have HRf := Lib.hid (show Blk (((((((((w4.setCell ⟨gr, 0, none⟩ (.int .i64 s.l)).setCell ⟨gr, 1, none⟩ (.bool s.p.has)).setCell ⟨gr, 2, none⟩ (.int .i64 s.p.nu)).setCell ⟨gr, 3, none⟩ (.int .i64 s.p.nt.k)).setCell ⟨gr, 4, none⟩ (.int .i64 s.p.nt.s)).setCell ⟨gr, 5, none⟩ (.int .i64 s.p.nt.a)).setCell ⟨gr, 6, none⟩ (.int .i64 s.p.nt.b)).setCell ⟨gr, 7, none⟩ (.int .i64 s.p.nt.c)).setCell ⟨gr, 8, none⟩ (.int .i64 s.p.ak)) gr 95 [.int .i64 s.l, .bool s.p.has, .int .i64 s.p.nu, .int .i64 s.p.nt.k, .int .i64 s.p.nt.s, .int .i64 s.p.nt.a, .int .i64 s.p.nt.b, .int .i64 s.p.nt.c, .int .i64 s.p.ak] from (((((((((HR4.out).setCell 0 (.int .i64 s.l)).setCell 1 (.bool s.p.has)).setCell 2 (.int .i64 s.p.nu)).setCell 3 (.int .i64 s.p.nt.k)).setCell 4 (.int .i64 s.p.nt.s)).setCell 5 (.int .i64 s.p.nt.a)).setCell 6 (.int .i64 s.p.nt.b)).setCell 7 (.int .i64 s.p.nt.c)).setCell 8 (.int .i64 s.p.ak))
  have hno : ¬ NetOwn col4 base gr := fun e => HFR.out gr (by rw [HGR.out]; exact Nat.le_refl _) (by unfold NetOwn at e ⊢; rw [HC4.out gr HXR.out.2] at e; exact e)
  have HNf := Lib.hid (HN5.out.touch HTy (fun q hq e => hno (e ▸ hq)))
  have HTf := Lib.hid (((Touch.of_below (S := NetOwn col base) HA2.out).trans HT5.out).then HTy (fun q e => .inr (HRF.out q e)))
  generalize ((((((((w4.setCell ⟨gr, 0, none⟩ (.int .i64 s.l)).setCell ⟨gr, 1, none⟩ (.bool s.p.has)).setCell ⟨gr, 2, none⟩ (.int .i64 s.p.nu)).setCell ⟨gr, 3, none⟩ (.int .i64 s.p.nt.k)).setCell ⟨gr, 4, none⟩ (.int .i64 s.p.nt.s)).setCell ⟨gr, 5, none⟩ (.int .i64 s.p.nt.a)).setCell ⟨gr, 6, none⟩ (.int .i64 s.p.nt.b)).setCell ⟨gr, 7, none⟩ (.int .i64 s.p.nt.c)).setCell ⟨gr, 8, none⟩ (.int .i64 s.p.ak) = w5 at HRf HNf HTf ⊢
  have y0 := HRf.out.cell 0 rfl
  have y1 := HRf.out.cell 1 rfl
  have y2 := HRf.out.cell 2 rfl
  have y3 := HRf.out.cell 3 rfl
  have y4 := HRf.out.cell 4 rfl
  have y5 := HRf.out.cell 5 rfl
  have y6 := HRf.out.cell 6 rfl
  have y7 := HRf.out.cell 7 rfl
  have y8 := HRf.out.cell 8 rfl
  have yl := HRf.out.lt
  refine bodyPost_ret (v := snV s) ?_ rfl ⟨rfl, ?_⟩
  · unfold snV
    simp [results, Try.results26, go_sem, y0, y1, y2, y3, y4, y5, y6, y7, y8]
  · refine ⟨col4, M4, fun q hq => HC4.out q (Nat.lt_of_lt_of_le hq HA2.out.size), ?_, HTf.out⟩
    have e : (Nw.take S k) = { S with fl := fl' } := by
      unfold Nw.take
      rw [List.eraseIdx_eq_take_drop_succ, HFL.out]
    rw [e]
    exact HNf.out
theorem take_c {w : World} {B n base : Nat} {col : Nat → Nat} {D : Dl} {M : Mem} {S : St} (h : NetAt w B n col base D M S) (hB : B ≤ w.heap.size) (k : Nat) (hk : k < S.fl.length) :
    Calls Try.prog 26 #[.pointer (some ⟨n, 0, none⟩), .int .i64 k] w fun e w' => e = .returned (snV (S.fl.getD k default)) ∧ NetTo w B n col base D (Nw.take S k) w' :=
  (take_0 h.recol hB k hk (fun k hk => fresh_not hk)).mono fun e w2 ⟨he, hn⟩ => ⟨he, hn.recol⟩
end Go.Proofs.Ytlklnaebdnahcaa
namespace Go.Proofs.Ytlklnaebdnahcaa
open Go.RowKit Nw
theorem do_c {w : World} {B n base : Nat} {col : Nat → Nat} {D : Dl} {M : Mem} {S : St} (h : NetAt w B n col base D M S) (hB : B ≤ w.heap.size) (i : Int) (x : Nt) {f : Nat} (hf : heardF (i, x.k) = some f) (hD : ∀ c ∈ D.cn, ∀ q ∈ c.ps, 0 ≤ q) (hac : S.ac.length ≤ 1000000) {K : Int} (hK : K ≤ 100000) (hok : ∀ c ∈ S.cs, Sx.OkC K c) :
    Calls Try.prog f #[.pointer (some ⟨n, 0, none⟩), .agg #[.int .i64 x.k, .int .i64 x.s, .int .i64 x.a, .int .i64 x.b, .int .i64 x.c]] w fun e w' => e = .returned (.tuple #[]) ∧ NetTo w B n col base D (Nw.heard D S i x) w' := by
  unfold heardF at hf
  cases hk : hidx (i, x.k) with
  | none => rw [hk] at hf; cases hf
  | some j =>
    rw [hk] at hf
    have hj := hidx_of hk
    have hf2 : hfn j = f := by simpa using hf
    clear hf hk
    subst hf2
    match j, hj with
    | 0, ⟨_, hj⟩ =>
      have e1 : i = 0 := (congrArg Prod.fst hj).symm
      have e2 : x.k = 8 := (congrArg Prod.snd hj).symm
      have e : Nw.heard D S i x = Nw.offered S x := by unfold Nw.heard; rw [e1, e2]; rfl
      rw [e]
      exact offered_c h hB x
    | 1, ⟨_, hj⟩ =>
      have e1 : i = 0 := (congrArg Prod.fst hj).symm
      have e2 : x.k = 7 := (congrArg Prod.snd hj).symm
      have e : Nw.heard D S i x = Nw.rejected S x := by unfold Nw.heard; rw [e1, e2]; rfl
      rw [e]
      exact rejected_c h hB x
    | 2, ⟨_, hj⟩ =>
      have e1 : i = 0 := (congrArg Prod.fst hj).symm
      have e2 : x.k = 12 := (congrArg Prod.snd hj).symm
      have e : Nw.heard D S i x = Nw.billed S x := by unfold Nw.heard; rw [e1, e2]; rfl
      rw [e]
      exact billed_c h hB x
    | 3, ⟨_, hj⟩ =>
      have e1 : i = 1 := (congrArg Prod.fst hj).symm
      have e2 : x.k = 1 := (congrArg Prod.snd hj).symm
      have e : Nw.heard D S i x = Nw.plugged S x := by unfold Nw.heard; rw [e1, e2]; rfl
      rw [e]
      exact plugged_c h hB x
    | 4, ⟨_, hj⟩ =>
      have e1 : i = 2 := (congrArg Prod.fst hj).symm
      have e2 : x.k = 7 := (congrArg Prod.snd hj).symm
      have e : Nw.heard D S i x = Nw.refused S x := by unfold Nw.heard; rw [e1, e2]; rfl
      rw [e]
      exact refused_c h hB x
    | 5, ⟨_, hj⟩ =>
      have e1 : i = 2 := (congrArg Prod.fst hj).symm
      have e2 : x.k = 6 := (congrArg Prod.snd hj).symm
      have e : Nw.heard D S i x = Nw.started S x := by unfold Nw.heard; rw [e1, e2]; rfl
      rw [e]
      exact started_c h hB x
    | 6, ⟨_, hj⟩ =>
      have e1 : i = 2 := (congrArg Prod.fst hj).symm
      have e2 : x.k = 10 := (congrArg Prod.snd hj).symm
      have e : Nw.heard D S i x = Nw.acked S x := by unfold Nw.heard; rw [e1, e2]; rfl
      rw [e]
      exact acked_c h hB x
    | 7, ⟨_, hj⟩ =>
      have e1 : i = 2 := (congrArg Prod.fst hj).symm
      have e2 : x.k = 13 := (congrArg Prod.snd hj).symm
      have e : Nw.heard D S i x = Nw.halted S x := by unfold Nw.heard; rw [e1, e2]; rfl
      rw [e]
      exact halted_c h hB x
    | 8, ⟨_, hj⟩ =>
      have e1 : i = 2 := (congrArg Prod.fst hj).symm
      have e2 : x.k = 12 := (congrArg Prod.snd hj).symm
      have e : Nw.heard D S i x = Nw.closed S x := by unfold Nw.heard; rw [e1, e2]; rfl
      rw [e]
      exact closed_c h hB x
    | 9, ⟨_, hj⟩ =>
      have e1 : i = 2 := (congrArg Prod.fst hj).symm
      have e2 : x.k = 14 := (congrArg Prod.snd hj).symm
      have e : Nw.heard D S i x = Nw.leased S x := by unfold Nw.heard; rw [e1, e2]; rfl
      rw [e]
      exact leased_c h hB x
    | 10, ⟨_, hj⟩ =>
      have e1 : i = 3 := (congrArg Prod.fst hj).symm
      have e2 : x.k = 2 := (congrArg Prod.snd hj).symm
      have e : Nw.heard D S i x = Nw.asked D S x := by unfold Nw.heard; rw [e1, e2]; rfl
      rw [e]
      exact asked_c h hB x hD hac
    | 11, ⟨_, hj⟩ =>
      have e1 : i = 3 := (congrArg Prod.fst hj).symm
      have e2 : x.k = 9 := (congrArg Prod.snd hj).symm
      have e : Nw.heard D S i x = Nw.recorded D S x := by unfold Nw.heard; rw [e1, e2]; rfl
      rw [e]
      exact recorded_c h hB x
    | 12, ⟨_, hj⟩ =>
      have e1 : i = 3 := (congrArg Prod.fst hj).symm
      have e2 : x.k = 11 := (congrArg Prod.snd hj).symm
      have e : Nw.heard D S i x = Nw.recorded D S x := by unfold Nw.heard; rw [e1, e2]; rfl
      rw [e]
      exact recorded_c h hB x
    | 13, ⟨_, hj⟩ =>
      have e1 : i = 3 := (congrArg Prod.fst hj).symm
      have e2 : x.k = 15 := (congrArg Prod.snd hj).symm
      have e : Nw.heard D S i x = Nw.known S x := by unfold Nw.heard; rw [e1, e2]; rfl
      rw [e]
      exact known_c h hB x hK hok
    | 14, ⟨_, hj⟩ =>
      have e1 : i = 4 := (congrArg Prod.fst hj).symm
      have e2 : x.k = 4 := (congrArg Prod.snd hj).symm
      have e : Nw.heard D S i x = Nw.approved S x := by unfold Nw.heard; rw [e1, e2]; rfl
      rw [e]
      exact approved_c h hB x
    | 15, ⟨_, hj⟩ =>
      have e1 : i = 4 := (congrArg Prod.fst hj).symm
      have e2 : x.k = 5 := (congrArg Prod.snd hj).symm
      have e : Nw.heard D S i x = Nw.denied S x := by unfold Nw.heard; rw [e1, e2]; rfl
      rw [e]
      exact denied_c h hB x
    | 16, ⟨_, hj⟩ =>
      have e1 : i = 5 := (congrArg Prod.fst hj).symm
      have e2 : x.k = 3 := (congrArg Prod.snd hj).symm
      have e : Nw.heard D S i x = Nw.checked D S x := by unfold Nw.heard; rw [e1, e2]; rfl
      rw [e]
      exact checked_c h hB x
    | 17, ⟨_, hj⟩ =>
      have e1 : i = 5 := (congrArg Prod.fst hj).symm
      have e2 : x.k = 12 := (congrArg Prod.snd hj).symm
      have e : Nw.heard D S i x = Nw.noted S x := by unfold Nw.heard; rw [e1, e2]; rfl
      rw [e]
      exact noted_c h hB x
    | k + 18, ⟨h1, _⟩ => exact absurd h1 (by omega)
theorem no_do {D : Dl} {S : St} {i : Int} {x : Nt} (hf : heardF (i, x.k) = none) : Nw.heard D S i x = S := by
  have no : ∀ a b, heardF (a, b) ≠ none → ¬ (i = a ∧ x.k = b) := fun a b h e => h (by rw [← e.1, ← e.2]; exact hf)
  have n0 := no 0 8 (by decide)
  have n1 := no 0 7 (by decide)
  have n2 := no 0 12 (by decide)
  have n3 := no 1 1 (by decide)
  have n4 := no 2 7 (by decide)
  have n5 := no 2 6 (by decide)
  have n6 := no 2 10 (by decide)
  have n7 := no 2 13 (by decide)
  have n8 := no 2 12 (by decide)
  have n9 := no 2 14 (by decide)
  have n10 := no 3 2 (by decide)
  have n11 := no 3 9 (by decide)
  have n12 := no 3 11 (by decide)
  have n13 := no 3 15 (by decide)
  have n14 := no 4 4 (by decide)
  have n15 := no 4 5 (by decide)
  have n16 := no 5 3 (by decide)
  have n17 := no 5 12 (by decide)
  unfold Nw.heard
  by_cases i0 : i = 0
  · rw [if_pos i0, if_neg (fun e => n0 ⟨i0, e⟩), if_neg (fun e => n1 ⟨i0, e⟩), if_neg (fun e => n2 ⟨i0, e⟩)]
  rw [if_neg i0]
  by_cases i1 : i = 1
  · rw [if_pos i1, if_neg (fun e => n3 ⟨i1, e⟩)]
  rw [if_neg i1]
  by_cases i2 : i = 2
  · rw [if_pos i2, if_neg (fun e => n4 ⟨i2, e⟩), if_neg (fun e => n5 ⟨i2, e⟩), if_neg (fun e => n6 ⟨i2, e⟩), if_neg (fun e => n7 ⟨i2, e⟩), if_neg (fun e => n8 ⟨i2, e⟩), if_neg (fun e => n9 ⟨i2, e⟩)]
  rw [if_neg i2]
  by_cases i3 : i = 3
  · rw [if_pos i3, if_neg (fun e => n10 ⟨i3, e⟩), if_neg (show ¬ (x.k = 9 ∨ x.k = 11) from fun e => e.elim (fun e => n11 ⟨i3, e⟩) (fun e => n12 ⟨i3, e⟩)), if_neg (fun e => n13 ⟨i3, e⟩)]
  rw [if_neg i3]
  by_cases i4 : i = 4
  · rw [if_pos i4, if_neg (fun e => n14 ⟨i4, e⟩), if_neg (fun e => n15 ⟨i4, e⟩)]
  rw [if_neg i4]
  by_cases i5 : i = 5
  · rw [if_pos i5, if_neg (fun e => n16 ⟨i5, e⟩), if_neg (fun e => n17 ⟨i5, e⟩)]
  rw [if_neg i5]
end Go.Proofs.Ytlklnaebdnahcaa
namespace Go.Proofs.Ytlklnaebdnahcaa
open Go Go.RowKit
structure SInv (W : World) (ds : List Tmp) (R : Nat → Value → World → Prop) (kp : List (Tmp × Value)) (sz : Nat) (listed : Array Bool) (a : Act) (w : World) : Prop where
  sz : a.tmps.size = sz
  df : a.defers = []
  bl : Below W.heap.size W w
  kp : ∀ p ∈ kp, slotOf a p.1 = p.2
  rs : ∀ i, i < ds.length → listed.getD i false = true → R i (slotOf a (ds.getD i 0)) w
theorem SInv.start {W : World} {ds : List Tmp} {R : Nat → Value → World → Prop} {kp : List (Tmp × Value)} {sz n : Nat} {a : Act} (hsz : a.tmps.size = sz) (hdf : a.defers = []) (hkp : ∀ p ∈ kp, slotOf a p.1 = p.2) : SInv W ds R kp sz (Array.replicate n false) a W.drew where
  sz := hsz
  df := hdf
  bl := (Below.refl _ _).drew
  kp := hkp
  rs := fun i _ h => by
    rw [getD_replicate_false] at h
    cases h
theorem SInv.step {W w w' : World} {ds : List Tmp} {R : Nat → Value → World → Prop} {kp : List (Tmp × Value)} {sz : Nat} {listed : Array Bool} {a : Act} (h : SInv W ds R kp sz listed a w) (i : Nat) (d : Tmp) (v : Value)
    (hok : ds.getD i 0 = d ∧ i < ds.length ∧ d < sz ∧ (∀ j, j < ds.length → j ≠ i → ds.getD j 0 ≠ d) ∧ ∀ p ∈ kp, p.1 ≠ d)
    (hR : ∀ j u, R j u w → R j u w') (hv : R i v w') (hb : Below W.heap.size w w') : SInv W ds R kp sz (listed.setIfInBounds i true) (a.put (some d) v) w' where
  sz := by rw [size_put]; exact h.sz
  df := by rw [defers_put]; exact h.df
  bl := h.bl.trans hb
  kp := fun p hp => by
    rw [slot_put_ne _ (sne (Ne.symm (hok.2.2.2.2 p hp)))]
    exact h.kp p hp
  rs := fun j hj hl => by
    by_cases e : j = i
    · subst e
      rw [hok.1, slot_put_same _ (show d < a.tmps.size by rw [h.sz]; exact hok.2.2.1)]
      exact hv
    · rw [slot_put_ne _ (sne (Ne.symm (hok.2.2.2.1 j hj e)))]
      exact hR _ _ (h.rs j hj (by rw [getD_set_ne false (Ne.symm e)] at hl; exact hl))
end Go.Proofs.Ytlklnaebdnahcaa
