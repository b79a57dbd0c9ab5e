/- Contracts that the claim leans on, part 2: S7 S11 V1 V2 A2 A3 A4 A5 A6 A7 A8 B2 B1 D1 D2 D3 D4 D5 D6 D7 T1 R5 T2 G9 -/
import Derived.Test.YtlklnaebdnahcaaCK1
import Derived.Maps.RangeRun
import Derived.Maps.RangeWalk
import Derived.Maps.OwnOps
import Derived.MapKept
import Derived.OwnWalk
import Derived.Deep.RegionWith
import Derived.StillTailTactics
import Derived.Deep.AppendLies
import Derived.Deep.RegionLaw
import Derived.Deep.Slices
import Derived.Deep.CutBlock
import Derived.Deep.DeepCutAuto
import Derived.Laws.MakeOwn
set_option linter.unusedVariables false
set_option linter.unusedSimpArgs false
set_option linter.unnecessarySimpa false
namespace Go.Proofs.Ytlklnaebdnahcaa
open Go.RowKit
theorem inB_no {x lo hi : Int} (h : Cv.inB x lo hi = false) : ¬ (lo ≤ x ∧ x ≤ hi) := by simpa [Cv.inB] using h
theorem inB_yes {x lo hi : Int} (h : Cv.inB x lo hi = true) : lo ≤ x ∧ x ≤ hi := by simpa [Cv.inB] using h
theorem gen_post {P : Program} {fn : Func} {R : Ending → World → Prop} {a : Act} {W : World} (J : World → Prop) (hJ : J W) (h : ∀ W', J W' → bodyPost P fn R .ret a W') : bodyPost P fn R .ret a W := h W hJ
theorem gen_any {Q : Exit → Act → World → Prop} {e : Exit} {a : Act} {W : World} (J : World → Prop) (hJ : J W) (h : ∀ W', J W' → Q e a W') : Q e a W := h W hJ
theorem grant_cs {cs : List Sx.Cl} {m : Nat} (hm : m < cs.length) (dr bk un : Int) :
    (cs.set m { (cs.getD m default) with last := (cs.getD m default).last + 1 }).set m { ((cs.set m { (cs.getD m default) with last := (cs.getD m default).last + 1 }).getD m default) with L := (cs.getD m default).L ++ [⟨(cs.getD m default).last + 1, dr, bk, un⟩] } = Sx.gS cs m dr bk un := by
  rw [Sx.getD_set' hm, if_pos rfl, List.set_set]
  rfl
theorem grant_site {W w1 : World} {B gs gc cc m n cap2 : Nat} {A : Nat → Option Addr} {q : Nat → Nat} {cs : List Sx.Cl} {D Bk N la dr bk un : Int} {Lm : List Ls} {A2 : Option Addr} (hm : m < cs.length) (hla : (cs.getD m default).last = la) (hLm : (cs.getD m default).L = Lm) (hn : n = Lm.length)
    (h : SiteAt W B gs gc cc A q (cs.set m { (cs.getD m default) with last := la + 1 }) D Bk N) (ht : Touch (fun k => OwnB (A m) k) W w1) (hown : w1.ownsRow B 116 4 (.slice A2 (n + 1) cap2) (n + 1) (flatLs Lm ++ [.int .i64 (la + 1), .int .i64 dr, .int .i64 bk, .int .i64 un])) (hA : ∀ k, OwnB A2 k → OwnB (A m) k ∨ W.heap.size ≤ k) :
    SiteAt (w1.setCell ⟨gc, m * 3, none⟩ (.slice A2 (n + 1) cap2)) B gs gc cc (fun i => if i = m then A2 else A i) (fun i => if i = m then cap2 else q i) (Sx.gS cs m dr bk un) D Bk N := by
  subst hla hLm hn
  have h1 : m < (cs.set m { (cs.getD m default) with last := (cs.getD m default).last + 1 }).length := by simpa using hm
  have h2 := h.put h1 ht (A' := A2) (cap' := cap2) (L' := (cs.getD m default).L ++ [⟨(cs.getD m default).last + 1, dr, bk, un⟩]) (by unfold LRow; rw [flatLs_append, List.length_append]; exact hown) hA
  rw [List.length_append, grant_cs hm] at h2
  exact h2
theorem grPost_yes {w W : World} {B gs gc cc m : Nat} {A A' : Nat → Option Addr} {q q' : Nat → Nat} {cs : List Sx.Cl} {D Bk N dr bk un now la : Int} (hla : (cs.getD m default).last = la) (he : Sx.grE cs D Bk N m dr bk un now = 0) (h : SiteAt W B gs gc cc A' q' (Sx.gS cs m dr bk un) D Bk now) (ht : Touch (SOwn gs gc A cs.length) w W) (hA : ∀ i k, OwnB (A' i) k → OwnB (A i) k ∨ w.heap.size ≤ k) :
    GrPost w B gs gc cc A q cs D Bk N m dr bk un now (.returned (.tuple #[.agg #[.int .i64 (la + 1), .int .i64 dr, .int .i64 bk, .int .i64 un], .int .i64 0])) W := by
  subst hla
  refine ⟨A', q', ⟨(cs.getD m default).last + 1, dr, bk, un⟩, ?_, by rw [he], ?_, ht, hA⟩
  · unfold Sx.grL; rw [if_pos he]; rfl
  · unfold Sx.grS Sx.grN
    rw [if_pos he, if_pos he]
    exact h
theorem leaseC {W : World} {b : Nat} {x0 x1 x2 x3 : Value} (h : Blk W b 116 [x0, x1, x2, x3]) : W.cell? ⟨b, 0, none⟩ = some x0 ∧ W.cell? ⟨b, 1, none⟩ = some x1 ∧ W.cell? ⟨b, 2, none⟩ = some x2 ∧ W.cell? ⟨b, 3, none⟩ = some x3 := ⟨h.cell 0 rfl, h.cell 1 rfl, h.cell 2 rfl, h.cell 3 rfl⟩
theorem endJ {w W : World} {n p ty : Nat} {x0 x1 x2 x3 : Value} (hb : Below n w W) (h : Blk W p ty [x0, x1, x2, x3]) (hp : n ≤ p) (v0 v1 v2 v3 : Value) :
    Below n w ((((W.setCell ⟨p, 0, none⟩ v0).setCell ⟨p, 1, none⟩ v1).setCell ⟨p, 2, none⟩ v2).setCell ⟨p, 3, none⟩ v3) ∧ Blk ((((W.setCell ⟨p, 0, none⟩ v0).setCell ⟨p, 1, none⟩ v1).setCell ⟨p, 2, none⟩ v2).setCell ⟨p, 3, none⟩ v3) p ty [v0, v1, v2, v3] :=
  ⟨(((hb.setCell hp _).setCell hp _).setCell hp _).setCell hp _, by simpa using (((h.setCell 0 v0).setCell 1 v1).setCell 2 v2).setCell 3 v3⟩
set_option maxRecDepth 100000 in
set_option maxHeartbeats 8000000 in
theorem Grant_c {w : World} {B gs gc cc : Nat} {A : Nat → Option Addr} {q : Nat → Nat} {cs : List Sx.Cl} {D Bk N : Int} (h : SiteAt w B gs gc cc A q cs D Bk N) (hB : B ≤ w.heap.size) {K : Int} (hK : K < 100000) (hok : ∀ c ∈ cs, Sx.OkC K c) (hn32 : cs.length ≤ 32) (s dr bk un now : Int) :
    Calls Try.prog 50 #[.pointer (some ⟨gs, 0, none⟩), .int .i64 s, .int .i64 dr, .int .i64 bk, .int .i64 un, .int .i64 now] w (GrPost w B gs gc cc A q cs D Bk N s dr bk un now) := by
  have h73 := Lib.hid (fun W (hW : Below w.heap.size w W) => client_c gs gc cs.length cc s W h.c.1 h.c.2 ((h.below hW).s.cell 3 rfl))
  have HS := Lib.hid h
  have HOK := Lib.hid hok
  have HE0 := Lib.hid (show Sx.grE cs D Bk N s dr bk un now = if 0 ≤ s ∧ s < cs.length then Sx.gE cs D Bk N s.toNat dr bk un now else 3 from rfl)
  clear h hok
  go_enter Try.func50, Try.ntmps50
  go_upto_region 1 with fail
  refine gen_world' (fun W => Below w.heap.size w W ∧ GrI w.heap.size gs s dr bk now W) (GrI.start w gs s dr bk now) ?_
  rintro w0 ⟨hb0, hI⟩
  have HB := Lib.hid hb0
  have HI := Lib.hid hI
  have c6 := hI.p6.cell 0 rfl
  have c7 := hI.p7.cell 0 rfl
  have c8 := hI.p8.cell 0 rfl
  have c9 := hI.p9.cell 0 rfl
  have c11 := hI.p11.cell 0 rfl
  have r0 := hI.p12.cell 0 rfl
  have r1 := hI.p12.cell 1 rfl
  have r2 := hI.p12.cell 2 rfl
  have r3 := hI.p12.cell 3 rfl
  have f0 := hI.p12.free 0
  have f1 := hI.p12.free 1
  have f2 := hI.p12.free 2
  have f3 := hI.p12.free 3
  clear hb0 hI
  by_cases hs : 0 ≤ s ∧ s < cs.length
  rotate_left 1
  · have h := h73.out w0 HB.out
    rw [if_neg hs] at h
    have HE := Lib.hid (HE0.out.trans (if_neg hs))
    clear hs
    go_wp2_with (go_at_call 77; refine h.mono ?_; rintro e w' ⟨rfl, rfl⟩)
    refine gen_post (fun W => Below w.heap.size w W ∧ Blk W (w.heap.size + 5) 116 [.int .i64 0, .int .i64 0, .int .i64 0, .int .i64 0]) (endJ HB.out HI.out.p12 (by omega) _ _ _ _) ?_; rintro W' ⟨hbe, hbl⟩; have d0 := hbl.cell 0 rfl; have d1 := hbl.cell 1 rfl; have d2 := hbl.cell 2 rfl; have d3 := hbl.cell 3 rfl; exact bodyPost_ret (v := .tuple #[.agg #[.int .i64 0, .int .i64 0, .int .i64 0, .int .i64 0], .int .i64 3]) (by simp [results, Try.results50, go_sem, d0, d1, d2, d3]) rfl (grPost_no HE.out (by decide) HS.out hbe)
  obtain ⟨m, rfl⟩ := Int.eq_ofNat_of_zero_le hs.1
  have hm : m < cs.length := by omega
  have h := h73.out w0 HB.out
  rw [if_pos hs] at h
  have HE1 := Lib.hid (HE0.out.trans (if_pos hs))
  simp only [Int.toNat_natCast] at h HE1
  clear hs
  have h2 : ¬ Sx.askOk dr bk un now → Sx.grE cs D Bk N m dr bk un now = 2 := fun hn => HE1.out.trans (by unfold Sx.gE; rw [if_neg hn])
  have H2 := Lib.hid h2
  clear h2
  rcases Bool.eq_false_or_eq_true (Cv.inB dr 0 1073741824) with k0 | k0
  rotate_left 1
  · have HE := Lib.hid (H2.out (fun hn => inB_no k0 hn.1))
    go_wp2_with (first | (go_at_call 77; refine h.mono ?_; rintro e w' ⟨rfl, rfl⟩) | (go_at_call 23; refine (within_c _ _ _ _).mono ?_; rintro e w' ⟨rfl, rfl⟩))
    refine gen_post (fun W => Below w.heap.size w W ∧ Blk W (w.heap.size + 5) 116 [.int .i64 0, .int .i64 0, .int .i64 0, .int .i64 0]) (endJ HB.out HI.out.p12 (by omega) _ _ _ _) ?_; rintro W' ⟨hbe, hbl⟩; have d0 := hbl.cell 0 rfl; have d1 := hbl.cell 1 rfl; have d2 := hbl.cell 2 rfl; have d3 := hbl.cell 3 rfl; exact bodyPost_ret (v := .tuple #[.agg #[.int .i64 0, .int .i64 0, .int .i64 0, .int .i64 0], .int .i64 2]) (by simp [results, Try.results50, go_sem, d0, d1, d2, d3]) rfl (grPost_no HE.out (by decide) HS.out hbe)
  rcases Bool.eq_false_or_eq_true (Cv.inB bk 0 1073741824) with k1 | k1
  rotate_left 1
  · have HE := Lib.hid (H2.out (fun hn => inB_no k1 hn.2.1))
    go_wp2_with (first | (go_at_call 77; refine h.mono ?_; rintro e w' ⟨rfl, rfl⟩) | (go_at_call 23; refine (within_c _ _ _ _).mono ?_; rintro e w' ⟨rfl, rfl⟩))
    refine gen_post (fun W => Below w.heap.size w W ∧ Blk W (w.heap.size + 5) 116 [.int .i64 0, .int .i64 0, .int .i64 0, .int .i64 0]) (endJ HB.out HI.out.p12 (by omega) _ _ _ _) ?_; rintro W' ⟨hbe, hbl⟩; have d0 := hbl.cell 0 rfl; have d1 := hbl.cell 1 rfl; have d2 := hbl.cell 2 rfl; have d3 := hbl.cell 3 rfl; exact bodyPost_ret (v := .tuple #[.agg #[.int .i64 0, .int .i64 0, .int .i64 0, .int .i64 0], .int .i64 2]) (by simp [results, Try.results50, go_sem, d0, d1, d2, d3]) rfl (grPost_no HE.out (by decide) HS.out hbe)
  rcases Bool.eq_false_or_eq_true (Cv.inB now 0 1099511627776) with k2 | k2
  rotate_left 1
  · have HE := Lib.hid (H2.out (fun hn => inB_no k2 hn.2.2.1))
    go_wp2_with (first | (go_at_call 77; refine h.mono ?_; rintro e w' ⟨rfl, rfl⟩) | (go_at_call 23; refine (within_c _ _ _ _).mono ?_; rintro e w' ⟨rfl, rfl⟩))
    refine gen_post (fun W => Below w.heap.size w W ∧ Blk W (w.heap.size + 5) 116 [.int .i64 0, .int .i64 0, .int .i64 0, .int .i64 0]) (endJ HB.out HI.out.p12 (by omega) _ _ _ _) ?_; rintro W' ⟨hbe, hbl⟩; have d0 := hbl.cell 0 rfl; have d1 := hbl.cell 1 rfl; have d2 := hbl.cell 2 rfl; have d3 := hbl.cell 3 rfl; exact bodyPost_ret (v := .tuple #[.agg #[.int .i64 0, .int .i64 0, .int .i64 0, .int .i64 0], .int .i64 2]) (by simp [results, Try.results50, go_sem, d0, d1, d2, d3]) rfl (grPost_no HE.out (by decide) HS.out hbe)
  have w1 : IntKind.i64.wrap (now + 1) = now + 1 := IntWalk.i64_in _ (by have := inB_yes k2; omega)
  have w2 : IntKind.i64.wrap (now + 100000) = now + 100000 := IntWalk.i64_in _ (by have := inB_yes k2; omega)
  rcases Bool.eq_false_or_eq_true (Cv.inB un (now + 1) (now + 100000)) with k3 | k3
  rotate_left 1
  · have HE := Lib.hid (H2.out (fun hn => inB_no k3 hn.2.2.2))
    go_wp2_with (first | (go_at_call 77; refine h.mono ?_; rintro e w' ⟨rfl, rfl⟩) | (go_at_call 23; refine (within_c _ _ _ _).mono ?_; rintro e w' ⟨rfl, rfl⟩))
    refine gen_post (fun W => Below w.heap.size w W ∧ Blk W (w.heap.size + 5) 116 [.int .i64 0, .int .i64 0, .int .i64 0, .int .i64 0]) (endJ HB.out HI.out.p12 (by omega) _ _ _ _) ?_; rintro W' ⟨hbe, hbl⟩; have d0 := hbl.cell 0 rfl; have d1 := hbl.cell 1 rfl; have d2 := hbl.cell 2 rfl; have d3 := hbl.cell 3 rfl; exact bodyPost_ret (v := .tuple #[.agg #[.int .i64 0, .int .i64 0, .int .i64 0, .int .i64 0], .int .i64 2]) (by simp [results, Try.results50, go_sem, d0, d1, d2, d3]) rfl (grPost_no HE.out (by decide) HS.out hbe)
  have hask : Sx.askOk dr bk un now := ⟨inB_yes k0, inB_yes k1, inB_yes k2, inB_yes k3⟩
  have HA := Lib.hid hask
  have HE2 := Lib.hid (HE1.out.trans (show Sx.gE cs D Bk N m dr bk un now = _ by unfold Sx.gE; rw [if_pos hask]))
  clear HE1 H2
  go_upto_region 6 with (first | (go_at_call 77; refine h.mono ?_; rintro e w' ⟨rfl, rfl⟩) | (go_at_call 23; refine (within_c _ _ _ _).mono ?_; rintro e w' ⟨rfl, rfl⟩))
  clear k0 k1 k2 k3 w1 w2 h hask
  have s2 := (HS.out.below HB.out).s.cell 2 rfl
  have zs : gs < w0.heap.size := (HS.out.below HB.out).s.lt
  by_cases hN : now < N
  · have hd : decide (now < N) = true := decide_eq_true hN
    have HE := Lib.hid (HE2.out.trans (if_pos hN))
    clear hN
    go_quiet (fail)
    refine gen_any (fun W => Below w.heap.size w W ∧ GrI w.heap.size gs m dr bk now W) ⟨below_drewN HB.out _, HI.out.below (below_drewN (Below.refl _ _) _)⟩ ?_
    clear c6 c7 c8 c9 c11 r0 r1 r2 r3 f0 f1 f2 f3 HB HI s2 zs
    rintro w1 ⟨hb0, hI⟩
    have HB := Lib.hid hb0
    have HI := Lib.hid hI
    have c6 := hI.p6.cell 0 rfl
    have c7 := hI.p7.cell 0 rfl
    have c8 := hI.p8.cell 0 rfl
    have c9 := hI.p9.cell 0 rfl
    have c11 := hI.p11.cell 0 rfl
    have r0 := hI.p12.cell 0 rfl
    have r1 := hI.p12.cell 1 rfl
    have r2 := hI.p12.cell 2 rfl
    have r3 := hI.p12.cell 3 rfl
    have f0 := hI.p12.free 0
    have f1 := hI.p12.free 1
    have f2 := hI.p12.free 2
    have f3 := hI.p12.free 3
    clear hb0 hI
    go_wp2_with fail
    refine gen_post (fun W => Below w.heap.size w W ∧ Blk W (w.heap.size + 5) 116 [.int .i64 0, .int .i64 0, .int .i64 0, .int .i64 0]) (endJ HB.out HI.out.p12 (by omega) _ _ _ _) ?_; rintro W' ⟨hbe, hbl⟩; have d0 := hbl.cell 0 rfl; have d1 := hbl.cell 1 rfl; have d2 := hbl.cell 2 rfl; have d3 := hbl.cell 3 rfl; exact bodyPost_ret (v := .tuple #[.agg #[.int .i64 0, .int .i64 0, .int .i64 0, .int .i64 0], .int .i64 14]) (by simp [results, Try.results50, go_sem, d0, d1, d2, d3]) rfl (grPost_no HE.out (by decide) HS.out hbe)
  have hd : decide (now < N) = false := decide_eq_false hN
  have HE3 := Lib.hid (HE2.out.trans (if_neg hN))
  clear hN HE2
  go_quiet (fail)
  clear s2 zs hd
  refine gen_any (fun W => Below w.heap.size w W ∧ GrI w.heap.size gs m dr bk now W) ⟨below_drewN HB.out _, HI.out.below (below_drewN (Below.refl _ _) _)⟩ ?_
  clear c6 c7 c8 c9 c11 r0 r1 r2 r3 f0 f1 f2 f3 HB HI
  rintro w1 ⟨hb0, hI⟩
  have HB := Lib.hid hb0
  have HI := Lib.hid hI
  have c6 := hI.p6.cell 0 rfl
  have c7 := hI.p7.cell 0 rfl
  have c8 := hI.p8.cell 0 rfl
  have c9 := hI.p9.cell 0 rfl
  have c11 := hI.p11.cell 0 rfl
  have r0 := hI.p12.cell 0 rfl
  have r1 := hI.p12.cell 1 rfl
  have r2 := hI.p12.cell 2 rfl
  have r3 := hI.p12.cell 3 rfl
  have f0 := hI.p12.free 0
  have f1 := hI.p12.free 1
  have f2 := hI.p12.free 2
  have f3 := hI.p12.free 3
  clear hb0 hI
  have P74 := Lib.hid (fun W (hW : Below w.heap.size w W) => HS.out.res (K := K) (by omega) HOK.out hm now hW)
  have hmx := Sx.mx_bd (Sx.okL_live (HOK.out (cs.getD m default) (by rw [List.getD_eq_getElem?_getD, List.getElem?_eq_getElem hm]; exact List.getElem_mem hm)).ls now)
  have HMX := Lib.hid (show (0 ≤ Sx.rD (cs.getD m default) now ∧ Sx.rD (cs.getD m default) now ≤ 1073741824) ∧ (0 ≤ Sx.rB (cs.getD m default) now ∧ Sx.rB (cs.getD m default) now ≤ 1073741824) from hmx)
  clear hmx
  generalize hxa : Sx.rD (cs.getD m default) now = a at *
  generalize hxb : Sx.rB (cs.getD m default) now = b at *
  generalize hxm : Sx.many (cs.getD m default) now = k at *
  have HX := Lib.hid (And.intro hxa (And.intro hxb hxm))
  clear hxa hxb hxm
  go_upto_region 9 with (go_at_call 78; refine (P74.out _ HB.out).mono ?_; rintro e w3 ⟨rfl, hb⟩; have HB3 := Lib.hid hb; clear hb)
  refine gen_world' (fun W => Below w.heap.size w W ∧ GrI w.heap.size gs m dr bk now W ∧ Blk W w3.heap.size 2 [.int .i64 a] ∧ Blk W (w3.heap.size + 1) 2 [.int .i64 b]) ⟨(((HB.out.trans (HB3.out.mono HB.out.size)).alloc (HB.out.trans (HB3.out.mono HB.out.size)).size _).alloc (by have := (HB.out.trans (HB3.out.mono HB.out.size)).size; simp; omega) _), ((HI.out.below HB3.out).below ((Below.refl _ _).alloc (Nat.le_refl _) _)).below ((Below.refl _ _).alloc (Nat.le_refl _) _), (Blk.new' _ _ _).alloc _, by have := Blk.new' (w3.alloc (.cells #[.int .i64 a] 2)) #[.int .i64 b] 2; simpa using this⟩ ?_
  have hz3 : w.heap.size + 5 < w3.heap.size := Nat.lt_of_lt_of_le HI.out.p12.lt HB3.out.size
  have HZ3 := Lib.hid hz3
  clear c6 c7 c8 c9 c11 r0 r1 r2 r3 f0 f1 f2 f3 HB HI HB3 hz3
  rintro w4 ⟨hb0, hI, hba, hbb⟩
  have HB := Lib.hid hb0
  have HI := Lib.hid hI
  have HA16 := Lib.hid hba
  have HB17 := Lib.hid hbb
  have c6 := hI.p6.cell 0 rfl
  have c7 := hI.p7.cell 0 rfl
  have c8 := hI.p8.cell 0 rfl
  have c9 := hI.p9.cell 0 rfl
  have c11 := hI.p11.cell 0 rfl
  have r0 := hI.p12.cell 0 rfl
  have r1 := hI.p12.cell 1 rfl
  have r2 := hI.p12.cell 2 rfl
  have r3 := hI.p12.cell 3 rfl
  have f0 := hI.p12.free 0
  have f1 := hI.p12.free 1
  have f2 := hI.p12.free 2
  have f3 := hI.p12.free 3
  have c16 := hba.cell 0 rfl
  have c17 := hbb.cell 0 rfl
  clear hb0 hI hba hbb
  generalize w3.heap.size = b16 at *
  by_cases h64 : 64 ≤ k
  · have hd : decide (64 ≤ (k : Int)) = true := decide_eq_true (by omega)
    have HE := Lib.hid (HE3.out.trans (if_pos h64))
    clear h64
    go_wp2_with fail
    refine gen_post (fun W => Below w.heap.size w W ∧ Blk W (w.heap.size + 5) 116 [.int .i64 0, .int .i64 0, .int .i64 0, .int .i64 0]) (endJ HB.out HI.out.p12 (by omega) _ _ _ _) ?_; rintro W' ⟨hbe, hbl⟩; have d0 := hbl.cell 0 rfl; have d1 := hbl.cell 1 rfl; have d2 := hbl.cell 2 rfl; have d3 := hbl.cell 3 rfl; exact bodyPost_ret (v := .tuple #[.agg #[.int .i64 0, .int .i64 0, .int .i64 0, .int .i64 0], .int .i64 11]) (by simp [results, Try.results50, go_sem, d0, d1, d2, d3]) rfl (grPost_no HE.out (by decide) HS.out hbe)
  have hd : decide (64 ≤ (k : Int)) = false := decide_eq_false (by omega)
  have HE4 := Lib.hid (HE3.out.trans (if_neg h64))
  clear h64 HE3
  obtain ⟨x, hx⟩ : ∃ x, x = Sx.sumD cs now m (max a dr) cs.length := ⟨_, rfl⟩
  obtain ⟨y, hy⟩ : ∃ y, y = Sx.sumB cs now m (max b bk) cs.length := ⟨_, rfl⟩
  have hgv : GrV w4 w.heap.size (w.heap.size + 4) (w.heap.size + 1) b16 (w.heap.size + 2) (b16 + 1) (w.heap.size + 3) gs now m a dr b bk := ⟨c6, c11, c7, c16, c8, c17, c9⟩
  have P1 := Lib.hid (fun W (hW : Below w4.heap.size w4 W) => sum1_c (HS.out.below (HB.out.trans (hW.mono HB.out.size))) (K := K) (by omega) HOK.out hn32 w.heap.size (w.heap.size + 1 + 1 + 1 + 1) (w.heap.size + 1) b16 (w.heap.size + 1 + 1) (b16 + 1) (w.heap.size + 1 + 1 + 1) now m a dr b bk HMX.out.1 HA.out.1 HMX.out.2 HA.out.2.1 (hgv.below hW))
  have P2 := Lib.hid (fun W (hW : Below w4.heap.size w4 W) => sum2_c (HS.out.below (HB.out.trans (hW.mono HB.out.size))) (K := K) (by omega) HOK.out hn32 w.heap.size (w.heap.size + 1 + 1 + 1 + 1) (w.heap.size + 1) b16 (w.heap.size + 1 + 1) (b16 + 1) (w.heap.size + 1 + 1 + 1) now m a dr b bk HMX.out.1 HA.out.1 HMX.out.2 HA.out.2.1 (hgv.below hW))
  have e1 : Sx.sumF (fun c => Sx.rD c now) cs m (max a dr) cs.length = x := hx.symm
  have e2 : Sx.sumF (fun c => Sx.rB c now) cs m (max b bk) cs.length = y := hy.symm
  rw [e1] at P1
  rw [e2] at P2
  rw [← hx, ← hy] at HE4
  clear e1 e2 hgv
  have HXY := Lib.hid (And.intro hx hy)
  clear hx hy
  have s0 := (HS.out.below HB.out).s.cell 0 rfl
  have s1 := (HS.out.below HB.out).s.cell 1 rfl
  have zs : gs < w4.heap.size := (HS.out.below HB.out).s.lt
  have z6 : w.heap.size < w4.heap.size := HI.out.p6.lt
  go_upto_region 12 with fail
  by_cases h1 : D < x
  · have hd1 : decide (D < x) = true := decide_eq_true h1
    have HE := Lib.hid (HE4.out.trans (if_pos (.inl h1)))
    clear h1
    refine wp_region_past (by kernel_rfl) (by kernel_rfl) ?_
    repeat (go_big_quiet_step (first | (go_at_call 79; with_reducible exact past_below (P1.out _ (Past.far _))) | (go_at_call 79; with_reducible exact past_below (P2.out _ (Past.far _)))))
    refine wpQuiet_nil ?_
    intro xx
    have HX := Lib.hid xx.far
    generalize xx.w = w5 at HX ⊢
    have HB5 := Lib.hid (HB.out.trans (HX.out.mono HB.out.size))
    have HI5 := Lib.hid (HI.out.below HX.out)
    clear c6 c7 c8 c9 c11 r0 r1 r2 r3 f0 f1 f2 f3
    have c6 := HI5.out.p6.cell 0 rfl
    have c7 := HI5.out.p7.cell 0 rfl
    have c8 := HI5.out.p8.cell 0 rfl
    have c9 := HI5.out.p9.cell 0 rfl
    have c11 := HI5.out.p11.cell 0 rfl
    have r0 := HI5.out.p12.cell 0 rfl
    have r1 := HI5.out.p12.cell 1 rfl
    have r2 := HI5.out.p12.cell 2 rfl
    have r3 := HI5.out.p12.cell 3 rfl
    have f0 := HI5.out.p12.free 0
    have f1 := HI5.out.p12.free 1
    have f2 := HI5.out.p12.free 2
    have f3 := HI5.out.p12.free 3
    go_wp2_with fail
    refine gen_post (fun W => Below w.heap.size w W ∧ Blk W (w.heap.size + 5) 116 [.int .i64 0, .int .i64 0, .int .i64 0, .int .i64 0]) (endJ HB5.out HI5.out.p12 (by omega) _ _ _ _) ?_; rintro W' ⟨hbe, hbl⟩; have d0 := hbl.cell 0 rfl; have d1 := hbl.cell 1 rfl; have d2 := hbl.cell 2 rfl; have d3 := hbl.cell 3 rfl; exact bodyPost_ret (v := .tuple #[.agg #[.int .i64 0, .int .i64 0, .int .i64 0, .int .i64 0], .int .i64 17]) (by simp [results, Try.results50, go_sem, d0, d1, d2, d3]) rfl (grPost_no HE.out (by decide) HS.out hbe)
  by_cases h2 : Bk < y
  · have hd1 : decide (D < x) = false := decide_eq_false h1
    have hd2 : decide (Bk < y) = true := decide_eq_true h2
    have HE := Lib.hid (HE4.out.trans (if_pos (.inr h2)))
    clear h1 h2
    refine wp_region_past (by kernel_rfl) (by kernel_rfl) ?_
    repeat (go_big_quiet_step (first | (go_at_call 79; with_reducible exact past_below (P1.out _ (Past.far _))) | (go_at_call 79; with_reducible exact past_below (P2.out _ (Past.far _)))))
    refine wpQuiet_nil ?_
    intro xx
    have HX := Lib.hid xx.far
    generalize xx.w = w5 at HX ⊢
    have HB5 := Lib.hid (HB.out.trans (HX.out.mono HB.out.size))
    have HI5 := Lib.hid (HI.out.below HX.out)
    clear c6 c7 c8 c9 c11 r0 r1 r2 r3 f0 f1 f2 f3
    have c6 := HI5.out.p6.cell 0 rfl
    have c7 := HI5.out.p7.cell 0 rfl
    have c8 := HI5.out.p8.cell 0 rfl
    have c9 := HI5.out.p9.cell 0 rfl
    have c11 := HI5.out.p11.cell 0 rfl
    have r0 := HI5.out.p12.cell 0 rfl
    have r1 := HI5.out.p12.cell 1 rfl
    have r2 := HI5.out.p12.cell 2 rfl
    have r3 := HI5.out.p12.cell 3 rfl
    have f0 := HI5.out.p12.free 0
    have f1 := HI5.out.p12.free 1
    have f2 := HI5.out.p12.free 2
    have f3 := HI5.out.p12.free 3
    go_wp2_with fail
    refine gen_post (fun W => Below w.heap.size w W ∧ Blk W (w.heap.size + 5) 116 [.int .i64 0, .int .i64 0, .int .i64 0, .int .i64 0]) (endJ HB5.out HI5.out.p12 (by omega) _ _ _ _) ?_; rintro W' ⟨hbe, hbl⟩; have d0 := hbl.cell 0 rfl; have d1 := hbl.cell 1 rfl; have d2 := hbl.cell 2 rfl; have d3 := hbl.cell 3 rfl; exact bodyPost_ret (v := .tuple #[.agg #[.int .i64 0, .int .i64 0, .int .i64 0, .int .i64 0], .int .i64 17]) (by simp [results, Try.results50, go_sem, d0, d1, d2, d3]) rfl (grPost_no HE.out (by decide) HS.out hbe)
  have hd1 : decide (D < x) = false := decide_eq_false h1
  have hd2 : decide (Bk < y) = false := decide_eq_false h2
  have HE := Lib.hid (HE4.out.trans (if_neg (by omega)))
  clear h1 h2
  refine wp_region_past (by kernel_rfl) (by kernel_rfl) ?_
  repeat (go_big_quiet_step (first | (go_at_call 79; with_reducible exact past_below (P1.out _ (Past.far _))) | (go_at_call 79; with_reducible exact past_below (P2.out _ (Past.far _)))))
  refine wpQuiet_nil ?_
  intro xx
  have HX := Lib.hid xx.far
  generalize xx.w = w5 at HX ⊢
  have HB5 := Lib.hid (HB.out.trans (HX.out.mono HB.out.size))
  have HI5 := Lib.hid (HI.out.below HX.out)
  clear c6 c7 c8 c9 c11 r0 r1 r2 r3 f0 f1 f2 f3
  have c6 := HI5.out.p6.cell 0 rfl
  have c7 := HI5.out.p7.cell 0 rfl
  have c8 := HI5.out.p8.cell 0 rfl
  have c9 := HI5.out.p9.cell 0 rfl
  have c11 := HI5.out.p11.cell 0 rfl
  have r0 := HI5.out.p12.cell 0 rfl
  have r1 := HI5.out.p12.cell 1 rfl
  have r2 := HI5.out.p12.cell 2 rfl
  have r3 := HI5.out.p12.cell 3 rfl
  have f0 := HI5.out.p12.free 0
  have f1 := HI5.out.p12.free 1
  have f2 := HI5.out.p12.free 2
  have f3 := HI5.out.p12.free 3
  clear s0 s1 zs z6 hd1 hd2 hd c16 c17 P1 P2 HA16 HB17
  clear HB HI HX P74
  have HOKm := Lib.hid (HOK.out (cs.getD m default) (by rw [List.getD_eq_getElem?_getD, List.getElem?_eq_getElem hm]; exact List.getElem_mem hm))
  have s2 := (HS.out.below HB5.out).s.free 2
  have s2c := (HS.out.below HB5.out).s.cell 2 rfl
  have hgs : gs < w.heap.size := HS.out.s.lt
  have zgs : gs < w5.heap.size := (HS.out.below HB5.out).s.lt
  go_upto_region 15 with fail
  refine gen_world' (fun W => SiteAt W B gs gc cc A q cs D Bk now ∧ GrI w.heap.size gs m dr bk now W ∧ Touch (SOwn gs gc A cs.length) w W) ⟨(HS.out.below HB5.out).setN now, HI5.out.touch ((Touch.refl (fun k => k = gs) w5).put 2 _) (fun k hk e => by omega), (Touch.of_below HB5.out).setCell (.inl (.inl rfl)) _⟩ ?_
  clear c6 c7 c8 c9 c11 r0 r1 r2 r3 f0 f1 f2 f3 HB5 HI5 s2 s2c zgs
  rintro w6 ⟨hs6, hi6, ht6⟩
  have HS6 := Lib.hid hs6
  have HI6 := Lib.hid hi6
  have HT6 := Lib.hid ht6
  have a1 : w6.cell? ⟨gc, m * 3 + 1, none⟩ = some (.int .i64 (cs.getD m default).last) := hs6.a.cell hm 1 rfl
  have af1 := hs6.a.free (m * 3 + 1)
  have wr1 : IntKind.i64.wrap ((cs.getD m default).last + 1) = (cs.getD m default).last + 1 := IntWalk.i64_in _ (by have := HOKm.out.k0; have := HOKm.out.k1; have := HOKm.out.l1; omega)
  have hgc : gc < w.heap.size := HS.out.a.lt
  clear hs6 hi6 ht6
  generalize hla : (cs.getD m default).last = la at *
  have HLA := Lib.hid hla
  clear hla
  go_upto_region 16 with fail
  refine gen_world' (fun W => SiteAt W B gs gc cc A q (cs.set m { (cs.getD m default) with last := la + 1 }) D Bk now ∧ GrI w.heap.size gs m dr bk now W ∧ Touch (SOwn gs gc A cs.length) w W) ⟨HS6.out.setLast hm (la + 1), HI6.out.touch ((Touch.refl (fun k => k = gc) w6).put _ _) (fun k hk e => by omega), HT6.out.setCell (.inl (.inr (.inl rfl))) _⟩ ?_
  clear a1 af1 wr1 HS6 HI6 HT6
  rintro w7 ⟨hs7, hi7, ht7⟩
  have HS7 := Lib.hid hs7
  have HI7 := Lib.hid hi7
  have HT7 := Lib.hid ht7
  have hcl : (cs.set m { (cs.getD m default) with last := la + 1 }).getD m default = { (cs.getD m default) with last := la + 1 } := by rw [Sx.getD_set' hm, if_pos rfl]
  have HCL := Lib.hid hcl
  clear hs7 hi7 ht7 hcl
  refine wp_region_float 8 _ (.cells #[.int .i64 0, .int .i64 0, .int .i64 0, .int .i64 0] 116) 20 ?af (by kernel_rfl) rfl rfl rfl (by kernel_rfl) (fun _ _ => by kernel_rfl) ?walk ?tail
  case walk =>
    intro V hV
    have IV := HI7.out.below hV
    have SV := HS7.out.below hV
    have v8 := IV.p8.cell 0 rfl
    have v9 := IV.p9.cell 0 rfl
    have z8 := IV.p8.lt
    have z9 := IV.p9.lt
    have zc := SV.a.lt
    have v1 : V.cell? ⟨gc, m * 3 + 1, none⟩ = some (.int .i64 (la + 1)) := SV.a.cell (by simpa using hm) 1 (by rw [HCL.out]; rfl)
    clear IV SV
    simp only [List.take_succ_cons, List.take_zero]
    repeat (go_big_quiet_step (fail))
    refine wpQuiet_nil ?_
    rfl
  case tail =>
    intro g w8 hg hb8 hcell8
    have H8 : Blk w8 g 116 [.int .i64 0, .int .i64 0, .int .i64 0, .int .i64 0] := hcell8
    simp only [List.drop_succ_cons, List.drop_zero]
    simp only [Act.put, List.setIfInBounds_toArray, List.set_cons_zero, List.set_cons_succ]
    have g0 := H8.free 0
    have g1 := H8.free 1
    have g2 := H8.free 2
    have g3 := H8.free 3
    have y0 := H8.cell 0 rfl
    have y1 := H8.cell 1 rfl
    have y2 := H8.cell 2 rfl
    have y3 := H8.cell 3 rfl
    go_upto_region 17 with fail
    refine gen_world' (fun W => Below w7.heap.size w7 W ∧ Blk W g 116 [.int .i64 (la + 1), .int .i64 dr, .int .i64 bk, .int .i64 un]) (endJ hb8 H8 hg _ _ _ _) ?_
    clear g0 g1 g2 g3 y0 y1 y2 y3 H8 hcell8 hb8
    rintro w9 ⟨hb9, hl9⟩
    have HB9 := Lib.hid hb9
    have HL9 := Lib.hid hl9
    have HS9 := Lib.hid (HS7.out.below hb9)
    have HT9 := Lib.hid (HT7.out.below hb9)
    have HI9 := Lib.hid (HI7.out.below hb9)
    have hm1 : m < (cs.set m { (cs.getD m default) with last := la + 1 }).length := by simpa using hm
    have hr9 := HS9.out.r m hm1
    have a0 : w9.cell? ⟨gc, m * 3, none⟩ = some (.slice (A m) (cs.getD m default).L.length (q m)) := by have := HS9.out.a.cell hm1 0 rfl; rw [HCL.out] at this; exact this
    rw [HCL.out] at hr9
    have HR9 := Lib.hid (show LRow B (A m) (q m) (cs.getD m default).L w9 from hr9)
    have hln := HOKm.out.ln
    have HNE := Lib.hid (fun (e : OwnB (A m) gc) => HS9.out.ne_gc hm1 gc e rfl)
    have hB9 : B ≤ w9.heap.size := by have h1 := HT9.out.size; omega
    have hgw : g < w9.heap.size := hl9.lt
    have hgcw : gc < w9.heap.size := HS9.out.a.lt
    clear hb9 hl9 hr9
    generalize hLm : (cs.getD m default).L = Lm at *
    have HLm := Lib.hid hLm
    obtain ⟨n, hn⟩ : ∃ n, n = Lm.length := ⟨_, rfl⟩
    rw [← hn] at a0 hln
    have HN := Lib.hid hn
    clear hLm hn
    obtain ⟨Am, hAm⟩ : ∃ a, a = A m := ⟨_, rfl⟩
    obtain ⟨qm, hqm⟩ : ∃ a, a = q m := ⟨_, rfl⟩
    rw [← hAm] at a0 HR9 HNE
    rw [← hqm] at a0 HR9
    have HAm := Lib.hid hAm
    have HNg := Lib.hid (show ¬ OwnB Am g from fun e => by rw [hAm] at e; have := HS7.out.row_lt hm1 e; omega)
    have hggc : g ≠ gc := by have := HS7.out.a.lt; omega
    clear hAm hqm
    obtain ⟨i0, hi, z0, z1, z2⟩ := info_parts info43
    refine lBegin (S := fun L W => (W.cell? ⟨g, 0, none⟩ = some (.int .i64 (la + 1)) ∧ W.cell? ⟨g, 1, none⟩ = some (.int .i64 dr) ∧ W.cell? ⟨g, 2, none⟩ = some (.int .i64 bk) ∧ W.cell? ⟨g, 3, none⟩ = some (.int .i64 un)) ∧ (L.getD 10 false = true ∨ (W.cell? ⟨gc, m * 3, none⟩ = some (.slice Am n qm)))) (by kernel_rfl) ?_ (fun hHeld => ?_)
    · (try dsimp only); refine ⟨?_, Or.inr ?_⟩
      · (first | with_reducible assumption | exact leaseC HL9.out.drew | exact leaseC (HL9.out.drew.alloc _) | exact leaseC HLx.out | exact leaseC (HLx.out.setCell_ne (by show g ≠ gc; omega) _))
      · (first | with_reducible assumption | go_simp)
    refine lTake (i := 0) (v := ?_) rfl (by kernel_rfl) (by kernel_rfl) (by kernel_rfl) (fun _ _ _ h => h) (by rfl) (fun _ _ h => by simpa only [getD_set_ne false (show 0 ≠ 10 by decide)] using h) (fun _ _ h => by simpa only [getD_set_ne false (show 0 ≠ 10 by decide)] using h) ?_ (by assumption) (fun hHeld2 => ?_)
    rotate_left 1
    · (intro _ _ _ _ _; first | (go_simp; done) | (go_simp; with_reducible rfl))
    clear hHeld; have hHeld := hHeld2; clear hHeld2
    (try simp only [Act.put, List.setIfInBounds_toArray, List.set_cons_zero, List.set_cons_succ])
    refine lTake (i := 1) (v := ?_) rfl (by kernel_rfl) (by kernel_rfl) (by kernel_rfl) (fun _ _ _ h => h) (by rfl) (fun _ _ h => by simpa only [getD_set_ne false (show 1 ≠ 10 by decide)] using h) (fun _ _ h => by simpa only [getD_set_ne false (show 1 ≠ 10 by decide)] using h) ?_ (by assumption) (fun hHeld2 => ?_)
    rotate_left 1
    · (intro _ _ _ _ _; first | (go_simp; done) | (go_simp; with_reducible rfl))
    clear hHeld; have hHeld := hHeld2; clear hHeld2
    (try simp only [Act.put, List.setIfInBounds_toArray, List.set_cons_zero, List.set_cons_succ])
    refine lTake (i := 2) (v := ?_) rfl (by kernel_rfl) (by kernel_rfl) (by kernel_rfl) (fun _ _ _ h => h) (by rfl) (fun _ _ h => by simpa only [getD_set_ne false (show 2 ≠ 10 by decide)] using h) (fun _ _ h => by simpa only [getD_set_ne false (show 2 ≠ 10 by decide)] using h) ?_ (by assumption) (fun hHeld2 => ?_)
    rotate_left 1
    · (intro _ _ _ _ _; first | (go_simp; done) | (go_simp; with_reducible rfl))
    clear hHeld; have hHeld := hHeld2; clear hHeld2
    (try simp only [Act.put, List.setIfInBounds_toArray, List.set_cons_zero, List.set_cons_succ])
    refine lTake (i := 3) (v := ?_) rfl (by kernel_rfl) (by kernel_rfl) (by kernel_rfl) (fun _ _ _ h => h) (by rfl) (fun _ _ h => by simpa only [getD_set_ne false (show 3 ≠ 10 by decide)] using h) (fun _ _ h => by simpa only [getD_set_ne false (show 3 ≠ 10 by decide)] using h) ?_ (by assumption) (fun hHeld2 => ?_)
    rotate_left 1
    · (intro _ _ _ _ _; first | (go_simp; done) | (go_simp; with_reducible rfl))
    clear hHeld; have hHeld := hHeld2; clear hHeld2
    (try simp only [Act.put, List.setIfInBounds_toArray, List.set_cons_zero, List.set_cons_succ])
    refine lTake (i := 4) (v := ?_) rfl (by kernel_rfl) (by kernel_rfl) (by kernel_rfl) (fun _ _ _ h => h) (by rfl) (fun _ _ h => by simpa only [getD_set_ne false (show 4 ≠ 10 by decide)] using h) (fun _ _ h => by simpa only [getD_set_ne false (show 4 ≠ 10 by decide)] using h) ?_ (by assumption) (fun hHeld2 => ?_)
    rotate_left 1
    · (intro L W hL hK hSw; (try dsimp only at hSw); obtain ⟨h0, h1⟩ := hSw; replace h1 := still [] hK hL (by kernel_rfl) h1; clear hL hK; first | (go_simp; done) | (go_simp; with_reducible rfl))
    clear hHeld; have hHeld := hHeld2; clear hHeld2
    (try simp only [Act.put, List.setIfInBounds_toArray, List.set_cons_zero, List.set_cons_succ])
    refine lTake (i := 5) (v := ?_) rfl (by kernel_rfl) (by kernel_rfl) (by kernel_rfl) (fun _ _ _ h => h) (by rfl) (fun _ _ h => by simpa only [getD_set_ne false (show 5 ≠ 10 by decide)] using h) (fun _ _ h => by simpa only [getD_set_ne false (show 5 ≠ 10 by decide)] using h) ?_ (by assumption) (fun hHeld2 => ?_)
    rotate_left 1
    · (intro L W hL hK hSw; (try dsimp only at hSw); obtain ⟨h0, h1⟩ := hSw; replace h1 := still [] hK hL (by kernel_rfl) h1; clear hL hK; first | (go_simp; done) | (go_simp; with_reducible rfl))
    clear hHeld; have hHeld := hHeld2; clear hHeld2
    (try simp only [Act.put, List.setIfInBounds_toArray, List.set_cons_zero, List.set_cons_succ])
    refine lReady (rs := [6]) (by kernel_rfl) (by simp) ?_
    refine AllL.cons (i := 6) rfl (fun K hK => ?_) ?_
    · go_simp
      (try go_wp2_with fail)
      refine hK.out _ _ ?_ (fun hHeld2 => ?_)
      · (try dsimp only); refine ⟨?_, Or.inr ?_⟩
        · (first | with_reducible assumption | exact leaseC HL9.out.drew | exact leaseC (HL9.out.drew.alloc _) | exact leaseC HLx.out | exact leaseC (HLx.out.setCell_ne (by show g ≠ gc; omega) _))
        · (first | with_reducible assumption | go_simp)
      clear hK K
      clear hHeld; have hHeld := hHeld2; clear hHeld2
      (try simp only [Act.put, List.setIfInBounds_toArray, List.set_cons_zero, List.set_cons_succ])
      refine lReady (rs := [7]) (by kernel_rfl) (by simp) ?_
      refine AllL.cons (i := 7) rfl (fun K hK => ?_) ?_
      · refine step_append_any (.tmp 112) (.tmp 114) 164 rfl rfl B 116 i0 (.agg #[.int .i64 0, .int .i64 0, .int .i64 0, .int .i64 0]) 4 32 Try.underlying164 hi z0 z1 z2 rfl (by decide) Am n qm (flatLs Lm) (by rfl) (by rw [HN.out]; exact rowE_keep HR9.out (S := fun _ => False) (((Touch.refl _ _).drew).alloc _) (fun _ _ h => h)) (some ⟨w9.heap.size, 0, none⟩) 1 1 [.int .i64 (la + 1), .int .i64 dr, .int .i64 bk, .int .i64 un] (by rfl) rfl (src_blk (by have := Blk.new' w9 #[.int .i64 (la + 1), .int .i64 dr, .int .i64 bk, .int .i64 un] 116; exact this.drew) 1) (by simp [Value.oneCell']) (by unfold maxLen; omega) (by omega) (by simp; omega) ?_; intro A2 cap2 w1 hown hgrow hat; have HOw := Lib.hid hown; have HTg := Lib.hid (show Touch (fun k => OwnB Am k) w9 w1 from (((Touch.refl _ _).drew).alloc _).grown hgrow (fun k hk => .inl (ownB_iff.2 hk))); have HAt := Lib.hid (show ∀ k, OwnB A2 k → OwnB Am k ∨ k = w9.heap.size + 1 from fun k hk => (hat k hk).imp id (fun e => by simpa using e)); have HLx := Lib.hid (HL9.out.touch HTg.out HNg.out); have y0 : w1.cell? ⟨gc, m * 3, none⟩ = some (.slice Am n qm) := (HTg.out.cell (p := ⟨gc, m * 3, none⟩) hgcw HNE.out).trans a0; have y1 : w1.frozen? ⟨gc, m * 3, none⟩ = false := (HS9.out.a.touch HTg.out HNE.out).free (m * 3); clear hown hgrow hat
        (try go_wp2_with fail)
        refine hK.out _ _ ?_ (fun hHeld2 => ?_)
        · (try dsimp only); refine ⟨?_, Or.inr ?_⟩
          · (first | with_reducible assumption | exact leaseC HL9.out.drew | exact leaseC (HL9.out.drew.alloc _) | exact leaseC HLx.out | exact leaseC (HLx.out.setCell_ne (by show g ≠ gc; omega) _))
          · (first | with_reducible assumption | go_simp)
        clear hK K
        clear hHeld; have hHeld := hHeld2; clear hHeld2
        (try simp only [Act.put, List.setIfInBounds_toArray, List.set_cons_zero, List.set_cons_succ])
        refine lTake (i := 8) (v := ?_) rfl (by kernel_rfl) (by kernel_rfl) (by kernel_rfl) (fun _ _ _ h => h) (by rfl) (fun _ _ h => by simpa only [getD_set_ne false (show 8 ≠ 10 by decide)] using h) (fun _ _ h => by simpa only [getD_set_ne false (show 8 ≠ 10 by decide)] using h) ?_ (by assumption) (fun hHeld2 => ?_)
        rotate_left 1
        · (intro _ _ _ _ _; first | (go_simp; done) | (go_simp; with_reducible rfl))
        clear hHeld; have hHeld := hHeld2; clear hHeld2
        (try simp only [Act.put, List.setIfInBounds_toArray, List.set_cons_zero, List.set_cons_succ])
        refine lTake (i := 9) (v := ?_) rfl (by kernel_rfl) (by kernel_rfl) (by kernel_rfl) (fun _ _ _ h => h) (by rfl) (fun _ _ h => by simpa only [getD_set_ne false (show 9 ≠ 10 by decide)] using h) (fun _ _ h => by simpa only [getD_set_ne false (show 9 ≠ 10 by decide)] using h) ?_ (by assumption) (fun hHeld2 => ?_)
        rotate_left 1
        · (intro _ _ _ _ _; first | (go_simp; done) | (go_simp; with_reducible rfl))
        clear hHeld; have hHeld := hHeld2; clear hHeld2
        (try simp only [Act.put, List.setIfInBounds_toArray, List.set_cons_zero, List.set_cons_succ])
        refine lReady (rs := [10]) (by kernel_rfl) (by simp) ?_
        refine AllL.cons (i := 10) rfl (fun K hK => ?_) ?_
        · go_simp
          (try go_wp2_with fail)
          refine hK.out _ _ ?_ (fun hHeld2 => ?_)
          · (try dsimp only); refine ⟨?_, Or.inl (by rfl)⟩
            · (first | with_reducible assumption | exact leaseC HL9.out.drew | exact leaseC (HL9.out.drew.alloc _) | exact leaseC HLx.out | exact leaseC (HLx.out.setCell_ne (by show g ≠ gc; omega) _))
          clear hK K
          clear hHeld; have hHeld := hHeld2; clear hHeld2
          (try simp only [Act.put, List.setIfInBounds_toArray, List.set_cons_zero, List.set_cons_succ])
          refine lDone (by kernel_rfl) ?_ _
          clear hHeld a0 y0 y1
          refine gen_any (fun W => SiteAt W B gs gc cc (fun i => if i = m then A2 else A i) (fun i => if i = m then cap2 else q i) (Sx.gS cs m dr bk un) D Bk now ∧ GrI w.heap.size gs m dr bk now W ∧ Touch (SOwn gs gc A cs.length) w W ∧ Blk W g 116 [.int .i64 (la + 1), .int .i64 dr, .int .i64 bk, .int .i64 un]) ⟨grant_site hm HLA.out HLm.out HN.out HS9.out (by rw [← HAm.out]; exact HTg.out) HOw.out (fun k hk => by rw [← HAm.out]; exact (HAt.out k hk).imp id (fun e => by omega)), HI9.out.touch (S := fun k => OwnB Am k ∨ k = gc) ((HTg.out.mono (fun k hk => .inl hk)).setCell (.inl (.inr rfl)) _) (fun k hk e => by rcases e with e | e; rw [HAm.out] at e; have := HS.out.row_lt hm e; omega; omega), (HT9.out.then HTg.out (fun k hk => .inl (.inr (.inr ⟨m, hm, by rw [← HAm.out]; exact hk⟩)))).setCell (.inl (.inr (.inl rfl))) _, HLx.out.setCell_ne (by show g ≠ gc; omega) _⟩ ?_
          rintro W2 ⟨hs2, hi2, ht2, hl2⟩
          have hz9 := HI9.out.p12.lt
          have HAn := Lib.hid (show ∀ i k, OwnB (if i = m then A2 else A i) k → (i < cs.length → k ≠ w.heap.size + 5) ∧ (OwnB (A i) k ∨ w.heap.size ≤ k) from fun i k hk => by (split at hk); (rename_i him; subst him; rcases HAt.out k hk with e | e; (rw [HAm.out] at e; exact ⟨fun hi => by have := HS.out.row_lt hi e; omega, .inl e⟩); exact ⟨fun _ => by omega, .inr (by have := HT9.out.size; omega)⟩); exact ⟨fun hi => by have := HS.out.row_lt hi hk; omega, .inl hk⟩)
          clear HS9 HT9 HI9 HL9 HB9 HR9 HTg HOw HAt HLx
          have e0 := hl2.cell 0 rfl
          have e1 := hl2.cell 1 rfl
          have e2 := hl2.cell 2 rfl
          have e3 := hl2.cell 3 rfl
          have r0 := hi2.p12.cell 0 rfl
          have r1 := hi2.p12.cell 1 rfl
          have r2 := hi2.p12.cell 2 rfl
          have r3 := hi2.p12.cell 3 rfl
          have f0 := hi2.p12.free 0
          have f1 := hi2.p12.free 1
          have f2 := hi2.p12.free 2
          have f3 := hi2.p12.free 3
          have HS2 := Lib.hid hs2
          have HT2 := Lib.hid ht2
          have HI2 := Lib.hid hi2
          clear hs2 ht2 hi2 hl2
          go_wp2_with fail
          refine gen_post (fun W => SiteAt W B gs gc cc (fun i => if i = m then A2 else A i) (fun i => if i = m then cap2 else q i) (Sx.gS cs m dr bk un) D Bk now ∧ Touch (SOwn gs gc A cs.length) w W ∧ Blk W (w.heap.size + 5) 116 [.int .i64 (la + 1), .int .i64 dr, .int .i64 bk, .int .i64 un]) ⟨HS2.out.touch (S := fun k => k = w.heap.size + 5) (((((Touch.refl _ _).put 0 _).put 1 _).put 2 _).put 3 _) (fun k hk e => by rcases hk with hk | hk | ⟨i, hi, hk⟩; omega; omega; exact (HAn.out i k hk).1 (by simpa [Sx.gS] using hi) e), HT2.out.then (S' := fun k => k = w.heap.size + 5) (((((Touch.refl _ _).put 0 _).put 1 _).put 2 _).put 3 _) (fun k e => .inr (by omega)), (endJ (Below.refl 0 W2) HI2.out.p12 (Nat.zero_le _) _ _ _ _).2⟩ ?_
          rintro W3 ⟨hs3, ht3, hb3⟩
          have d0 := hb3.cell 0 rfl
          have d1 := hb3.cell 1 rfl
          have d2 := hb3.cell 2 rfl
          have d3 := hb3.cell 3 rfl
          exact bodyPost_ret (v := .tuple #[.agg #[.int .i64 (la + 1), .int .i64 dr, .int .i64 bk, .int .i64 un], .int .i64 0]) (by simp [results, Try.results50, go_sem, d0, d1, d2, d3]) rfl (grPost_yes HLA.out HE.out hs3 ht3 (fun i k hk => (HAn.out i k hk).2))
        exact AllL.nil
      exact AllL.nil
    exact AllL.nil
end Go.Proofs.Ytlklnaebdnahcaa
namespace Go.Proofs.Ytlklnaebdnahcaa
open Go.RowKit
namespace Sx
def akE (cs : List Cl) (s nu : Int) : Int := if 0 ≤ s ∧ s < cs.length then aE cs s.toNat nu else 3
def akS (cs : List Cl) (s nu : Int) : List Cl := if akE cs s nu = 0 then cs.set s.toNat (aI (cs.getD s.toNat default) nu) else cs
theorem set_same {cs : List Cl} {m : Nat} (hm : m < cs.length) : cs.set m (cs.getD m default) = cs := by
  rw [List.getD_eq_getElem?_getD, List.getElem?_eq_getElem hm]
  exact List.set_getElem_self hm
theorem ack_cs {cs : List Cl} {m : Nat} (hm : m < cs.length) {nu : Int} (hk : (cs.getD m default).kn < nu) :
    (cs.set m { (cs.getD m default) with kn := nu }).set m { ((cs.set m { (cs.getD m default) with kn := nu }).getD m default) with L := (cs.getD m default).L.filter (kp nu) } = cs.set m (aI (cs.getD m default) nu) := by
  rw [getD_set' hm, if_pos rfl, List.set_set]
  unfold aI
  rw [if_pos hk]
  rfl
end Sx
def AkPost (w : World) (B gs gc cc : Nat) (A : Nat → Option Addr) (q : Nat → Nat) (cs : List Sx.Cl) (D Bk N s nu : Int) (e : Ending) (w' : World) : Prop :=
  ∃ (A' : Nat → Option Addr) (q' : Nat → Nat), e = .returned (.int .i64 (Sx.akE cs s nu)) ∧ SiteAt w' B gs gc cc A' q' (Sx.akS cs s nu) D Bk N ∧ Touch (SOwn gs gc A cs.length) w w' ∧ ∀ i k, OwnB (A' i) k → OwnB (A i) k ∨ w.heap.size ≤ k
theorem akPost_no {w w' : World} {B gs gc cc : Nat} {A : Nat → Option Addr} {q : Nat → Nat} {cs : List Sx.Cl} {D Bk N s nu er : Int} (he : Sx.akE cs s nu = er) (h0 : Sx.akS cs s nu = cs) (h : SiteAt w B gs gc cc A q cs D Bk N) (hb : Below w.heap.size w w') :
    AkPost w B gs gc cc A q cs D Bk N s nu (.returned (.int .i64 er)) w' := by
  subst he
  refine ⟨A, q, rfl, ?_, Touch.of_below hb, fun i k hk => .inl hk⟩
  rw [h0]
  exact h.below hb
theorem rowLs_base {W : World} {B B' cap : Nat} {A : Option Addr} {L : List Ls} (h : LRow B A cap L W) (hB : B' ≤ B) : LRow B' A cap L W := by
  refine ⟨h.1, ?_⟩
  rcases h.2 with h2 | ⟨k, c, cur, hv, hb, r⟩
  · exact .inl h2
  · exact .inr ⟨k, c, cur, hv, by omega, r⟩
set_option maxRecDepth 100000 in
set_option maxHeartbeats 4000000 in
theorem Ack_c {w : World} {B gs gc cc : Nat} {A : Nat → Option Addr} {q : Nat → Nat} {cs : List Sx.Cl} {D Bk N : Int} (h : SiteAt w B gs gc cc A q cs D Bk N) (hB : B ≤ w.heap.size) {K : Int} (hK : K ≤ 100000) (hok : ∀ c ∈ cs, Sx.OkC K c) (s nu : Int) :
    Calls Try.prog 93 #[.pointer (some ⟨gs, 0, none⟩), .int .i64 s, .int .i64 nu] w (AkPost w B gs gc cc A q cs D Bk N s nu) := by
  have h73 := client_c gs gc cs.length cc s (w.alloc (.cells #[.int .i64 nu] 3)) h.c.1 h.c.2 ((h.below ((Below.refl _ _).alloc (Nat.le_refl _) _)).s.cell 3 rfl)
  have HS := Lib.hid h
  have hBA : Below w.heap.size w (w.alloc (.cells #[.int .i64 nu] 3)) := (Below.refl _ _).alloc (Nat.le_refl _) _
  by_cases hs : 0 ≤ s ∧ s < cs.length
  rotate_left 1
  · rw [if_neg hs] at h73
    have HE := Lib.hid (show Sx.akE cs s nu = 3 from if_neg hs)
    clear hs h hok
    have HBA := Lib.hid hBA
    clear hBA
    go_enter Try.func93, Try.ntmps93
    go_wp2_with (go_at_call 77; refine h73.mono ?_; rintro e w' ⟨rfl, rfl⟩)
    go_ret
    exact akPost_no HE.out (by unfold Sx.akS; rw [HE.out]; rfl) HS.out HBA.out
  rw [if_pos hs] at h73
  obtain ⟨m, rfl⟩ := Int.eq_ofNat_of_zero_le hs.1
  have hm : m < cs.length := by omega
  have HE0 := Lib.hid (show Sx.akE cs m nu = Sx.aE cs m nu from if_pos hs)
  have HOm := Lib.hid (hok (cs.getD m default) (by rw [List.getD_eq_getElem?_getD, List.getElem?_eq_getElem hm]; exact List.getElem_mem hm))
  simp only [Int.toNat_natCast] at h73
  have hSA := h.below hBA
  have c1 : (w.alloc (.cells #[.int .i64 nu] 3)).cell? ⟨gc, m * 3 + 1, none⟩ = some (.int .i64 (cs.getD m default).last) := hSA.a.cell hm 1 rfl
  have c2 : (w.alloc (.cells #[.int .i64 nu] 3)).cell? ⟨gc, m * 3 + 2, none⟩ = some (.int .i64 (cs.getD m default).kn) := hSA.a.cell hm 2 rfl
  have f2 := hSA.a.free (m * 3 + 2)
  have bp := Blk.new' w #[.int .i64 nu] 3
  have HBA := Lib.hid hBA
  have HBP := Lib.hid bp
  have p0 := bp.cell 0 rfl
  have hgw : gc < w.heap.size := h.a.lt
  clear hs h hok hBA hSA bp
  by_cases h1 : nu < 1
  · have hd : decide (nu < 1) = true := decide_eq_true h1
    have HE := Lib.hid (HE0.out.trans (show Sx.aE cs m nu = 5 by unfold Sx.aE; rw [if_neg (by omega)]))
    clear h1
    go_enter Try.func93, Try.ntmps93
    go_upto_region 4 with (go_at_call 77; refine h73.mono ?_; rintro e w' ⟨rfl, rfl⟩)
    go_quiet (fail)
    go_wp2_with fail
    go_ret
    exact akPost_no HE.out (by unfold Sx.akS; rw [HE.out]; rfl) HS.out (below_drewN HBA.out _)
  by_cases h2 : (cs.getD m default).last < nu
  · have hd : decide (nu < 1) = false := decide_eq_false h1
    have hd2 : decide ((cs.getD m default).last < nu) = true := decide_eq_true h2
    have HE := Lib.hid (HE0.out.trans (show Sx.aE cs m nu = 5 by unfold Sx.aE; rw [if_neg (by omega)]))
    clear h1 h2
    generalize (cs.getD m default).last = la at *
    go_enter Try.func93, Try.ntmps93
    go_upto_region 4 with (go_at_call 77; refine h73.mono ?_; rintro e w' ⟨rfl, rfl⟩)
    go_quiet (fail)
    go_wp2_with fail
    go_ret
    exact akPost_no HE.out (by unfold Sx.akS; rw [HE.out]; rfl) HS.out (below_drewN HBA.out _)
  have hd : decide (nu < 1) = false := decide_eq_false h1
  have hd2 : decide ((cs.getD m default).last < nu) = false := decide_eq_false h2
  have HE := Lib.hid (HE0.out.trans (show Sx.aE cs m nu = 0 by unfold Sx.aE; rw [if_pos (by omega)]))
  clear h1 h2
  by_cases h3 : (cs.getD m default).kn < nu
  rotate_left 1
  · have hd3 : decide ((cs.getD m default).kn < nu) = false := decide_eq_false h3
    have HSa := Lib.hid (show Sx.akS cs m nu = cs by unfold Sx.akS; rw [if_pos HE.out, Int.toNat_natCast]; unfold Sx.aI; rw [if_neg h3, Sx.set_same hm])
    clear h3
    generalize (cs.getD m default).last = la at *
    generalize (cs.getD m default).kn = ka at *
    go_enter Try.func93, Try.ntmps93
    go_upto_region 4 with (go_at_call 77; refine h73.mono ?_; rintro e w' ⟨rfl, rfl⟩)
    go_quiet (fail)
    go_upto_region 6 with fail
    go_quiet (fail)
    go_wp2_with fail
    go_ret
    exact akPost_no HE.out HSa.out HS.out (below_drewN (below_drewN HBA.out _) _)
  have hd3 : decide ((cs.getD m default).kn < nu) = true := decide_eq_true h3
  have HSa := Lib.hid (show Sx.akS cs m nu = cs.set m (Sx.aI (cs.getD m default) nu) by unfold Sx.akS; rw [if_pos HE.out, Int.toNat_natCast])
  have HK3 := Lib.hid h3
  clear h3
  have HLK := Lib.hid (show (cs.getD m default).last = (cs.getD m default).last ∧ (cs.getD m default).kn = (cs.getD m default).kn from ⟨rfl, rfl⟩)
  generalize hla : (cs.getD m default).last = la at c1 hd2
  generalize hka : (cs.getD m default).kn = ka at c2 hd3
  go_enter Try.func93, Try.ntmps93
  go_upto_region 4 with (go_at_call 77; refine h73.mono ?_; rintro e w' ⟨rfl, rfl⟩)
  go_quiet (fail)
  go_upto_region 6 with fail
  go_quiet (fail)
  go_upto_region 8 with fail
  refine gen_world' (fun W => SiteAt W B gs gc cc A q (cs.set m { (cs.getD m default) with kn := nu }) D Bk N ∧ Touch (SOwn gs gc A cs.length) w W ∧ Blk W w.heap.size 3 [.int .i64 nu]) ⟨(HS.out.below (below_drewN HBA.out _)).setKn hm nu, Touch.setCell (S := SOwn gs gc A cs.length) (Touch.of_below (below_drewN HBA.out _)) (Or.inl (Or.inr (Or.inl rfl))) _, (HBP.out.drewN _).setCell_ne (by show w.heap.size ≠ gc; omega) _⟩ ?_
  rintro w2 ⟨hs2, ht2, hb2⟩
  have HS2 := Lib.hid hs2
  have HT2 := Lib.hid ht2
  have hm1 : m < (cs.set m { (cs.getD m default) with kn := nu }).length := by simpa using hm
  have HCL := Lib.hid (show (cs.set m { (cs.getD m default) with kn := nu }).getD m default = { (cs.getD m default) with kn := nu } from by rw [Sx.getD_set' hm, if_pos rfl])
  have hrm : LRow B (A m) (q m) (cs.getD m default).L w2 := by have := hs2.r m hm1; rw [HCL.out] at this; exact this
  have a0 : w2.cell? ⟨gc, m * 3, none⟩ = some (.slice (A m) (cs.getD m default).L.length (q m)) := by have := hs2.a.cell hm1 0 rfl; rw [HCL.out] at this; exact this
  have hln : ((cs.getD m default).L.length : Int) ≤ 100000 := by have := HOm.out.ln; omega
  have HC70 := Lib.hid (CloneLs_c (A m) (q m) B _ w2 hrm (by omega))
  have hp2 : w2.cell? ⟨w.heap.size, 0, none⟩ = some (.int .i64 nu) := hb2.cell 0 rfl
  have hpl : w.heap.size < w2.heap.size := hb2.lt
  have hgc2 : gc < w2.heap.size := by omega
  have hfa := hs2.a.free (m * 3)
  have HRO := Lib.hid (fun k (hk : OwnB (A m) k) => hs2.ne_gc hm1 k hk)
  clear c1 c2 f2 p0 hd hd2 hd3 hs2 ht2 hb2 hrm
  obtain ⟨Lm, hLm⟩ : ∃ L, L = (cs.getD m default).L := ⟨_, rfl⟩
  have HLm := Lib.hid hLm
  rw [← hLm] at a0 hln HC70
  clear hLm
  go_wp2_with (first
    | (go_at_call 97; refine HC70.out.mono ?_; rintro e w3 ⟨A3, cap3, rfl, hrow, hb3⟩; have HB3 := Lib.hid hb3; have HR3 := Lib.hid hrow; have H79 := Lib.hid (DeleteFunc_c A3 w2.heap.size cap3 w.heap.size _ nu w3 hrow (by omega) ((hb3.cell (p := ⟨w.heap.size, 0, none⟩) hpl).trans hp2) (fun hk => by have := (rowE_lt hrow hk).1; omega)); have HNg := Lib.hid (fun k (hk : OwnB A3 k) => (rowE_lt hrow hk).1); clear hb3 hrow)
    | (go_at_call 96; refine H79.out.mono ?_; rintro e w4 ⟨rfl, hrow4, ht4⟩; have HR4 := Lib.hid hrow4; have HT4 := Lib.hid ht4; have g0 : w4.cell? ⟨gc, m * 3, none⟩ = some (.slice (A m) Lm.length (q m)) := ((ht4.cell (p := ⟨gc, m * 3, none⟩) (Nat.lt_of_lt_of_le hgc2 HB3.out.size) (fun hk => by have := HNg.out _ hk; simp at this; omega)).trans (HB3.out.cell (p := ⟨gc, m * 3, none⟩) hgc2)).trans a0; have g1 : w4.frozen? ⟨gc, m * 3, none⟩ = false := (((HS2.out.a.below HB3.out).touch ht4 (fun hk => by have := HNg.out _ hk; omega)).free (m * 3)); clear hrow4 ht4))
  go_ret
  have h1 := HS2.out.put hm1 (W1 := w4) (A' := A3) (cap' := cap3) (L' := Lm.filter (Sx.kp nu)) ((Touch.of_below HB3.out).then HT4.out (fun k hk => .inr (HNg.out k hk))) (rowLs_base HR4.out (by have := HT2.out.size; omega)) (fun k hk => .inr (HNg.out k hk))
  rw [HLm.out, Sx.ack_cs hm HK3.out] at h1
  refine ⟨fun i => if i = m then A3 else A i, fun i => if i = m then cap3 else q i, by rw [HE.out]; rfl, ?_, ?_, ?_⟩
  · rw [HSa.out, HLm.out]
    exact h1
  · exact Touch.setCell (S := SOwn gs gc A cs.length) ((HT2.out.below HB3.out).then HT4.out (fun k hk => .inr (by have := HNg.out k hk; have := HT2.out.size; omega))) (Or.inl (Or.inr (Or.inl rfl))) _
  · intro i k hk
    by_cases him : i = m
    · subst him
      simp only [if_true] at hk
      exact .inr (by have := HNg.out k hk; have := HT2.out.size; omega)
    · simp only [him, if_false] at hk
      exact .inl hk
end Go.Proofs.Ytlklnaebdnahcaa
namespace Go.Proofs.Ytlklnaebdnahcaa
namespace Nw
structure Bl where
  s : Int
  i : Int
  b : Int
  a : Int
deriving DecidableEq
instance : Inhabited Bl := ⟨⟨0, 0, 0, 0⟩⟩
structure En where
  i : Int
  b : Int
deriving DecidableEq
instance : Inhabited En := ⟨⟨0, 0⟩⟩
structure Ac where
  bl : Bl
  op : Bool
  dn : Bool
instance : Inhabited Ac := ⟨⟨default, false, false⟩⟩
structure Sn where
  l : Int
  p : Pk
deriving DecidableEq
instance : Inhabited Sn := ⟨⟨0, Lx.pk0⟩⟩
instance : Inhabited Ln := ⟨Lx.ln0⟩
structure Cn where
  pt : Int
  ps : List Int
instance : Inhabited Cn := ⟨⟨0, []⟩⟩
structure Dl where
  day : Int
  fee : Int
  bs : List Bd
  cn : List Cn
  cr : Int
  ev : Int
  sl : Int
  dr : Int
  bk : Int
/-! maps as lists -/
section
variable {κ ν : Type} [DecidableEq κ]
def mget (k : κ) : List (κ × ν) → Option ν
  | [] => none
  | e :: l => if e.1 = k then some e.2 else mget k l
def mput (k : κ) (v : ν) : List (κ × ν) → List (κ × ν)
  | [] => [(k, v)]
  | e :: l => if e.1 = k then (k, v) :: l else e :: mput k v l
end
structure St where
  now : Int
  L : List Ln
  fl : List Sn
  pg : List Int
  inn : Bool
  flow : Int
  vb : List (Int × Bl)
  vph : Int
  vp0 : Int
  vp1 : Int
  vss : Int
  vc : List (Int × En)
  sb : List (Int × Bl)
  sph : Int
  sss : Int
  sp0 : Int
  sp1 : Int
  gone : Bool
  si : Int
  sk : Int
  opn : Int
  tks : Int
  po : Ls
  us : List ((Int × Int) × Bool)
  ac : List Ac
  cs : List Sx.Cl
  sN : Int
  pb : List (Int × Bl)
  pc : List (Int × Int)
  pd : List (Int × Bool)
def st0 : St where
  now := 0
  L := List.replicate 6 Lx.ln0
  fl := []
  pg := List.replicate 16 0
  inn := false
  flow := 0
  vb := []
  vph := 0
  vp0 := 0
  vp1 := 0
  vss := 0
  vc := []
  sb := []
  sph := 0
  sss := 0
  sp0 := 0
  sp1 := 0
  gone := false
  si := 0
  sk := 0
  opn := 0
  tks := 0
  po := ⟨0, 0, 0, 0⟩
  us := []
  ac := []
  cs := [⟨[], 0, 0⟩]
  sN := 0
  pb := []
  pc := []
  pd := []
abbrev wr (x : Int) : Int := RowKit.wrap64 x
def ln (S : St) (i : Nat) : Ln := S.L.getD i Lx.ln0
def tell (S : St) (i : Nat) (n : Nt) : St := { S with L := S.L.set i (Lx.sendL (ln S i) n) }
def billOf (n : Nt) : Bl := ⟨n.s, n.a, n.b, n.c⟩
def mine (S : St) (x : Nt) : Bool := decide (S.vph = 1 ∧ S.vp0 = x.b ∧ S.vp1 = x.a)
def offered (S : St) (x : Nt) : St := if mine S x then { S with vph := 2, vss := x.s } else S
def rejected (S : St) (x : Nt) : St := if mine S x then { S with vph := 4 } else S
def billed (S : St) (x : Nt) : St := { S with vb := mput x.s (billOf x) S.vb }
def plugged (S : St) (x : Nt) : St :=
  if S.sph ≠ 0 ∨ S.inn = false then tell S 1 ⟨7, 0, x.c, x.a, 0⟩
  else tell { S with sph := 1, sss := wr (S.sss + 1), sp0 := x.a, sp1 := x.c, gone := false, si := 0, sk := 0, opn := 0, tks := 0 } 2 ⟨2, wr (S.sss + 1), x.a, x.b, x.c⟩
def reply (S : St) (k : Int) : St := tell S 1 ⟨k, S.sss, S.sp1, S.sp0, 0⟩
def atB (S : St) (ph : Int) (x : Nt) : Bool := decide (S.sph = ph ∧ S.sss = x.s)
def refused (S : St) (x : Nt) : St := if atB S 1 x then reply { S with sph := 0 } 7 else S
def record (S : St) (k : Int) : St := { tell S 2 ⟨k, S.sss, S.si, S.sk, S.now⟩ with si := 0, sk := 0 }
def fin (S : St) : St := { record S 11 with sph := 3 }
def started (S : St) (x : Nt) : St :=
  if atB S 1 x then if S.gone then fin S else reply { S with sph := 2, tks := 0 } 8 else S
def acked (S : St) (x : Nt) : St := if atB S 2 x then { S with opn := max 0 (wr (S.opn - 1)) } else S
def halted (S : St) (x : Nt) : St := if atB S 2 x then fin S else S
def closed (S : St) (x : Nt) : St := if atB S 3 x then tell { S with sb := mput x.s (billOf x) S.sb, sph := 0 } 1 x else S
def leased (S : St) (x : Nt) : St := tell { S with po := Po.tk S.po ⟨x.s, x.a, x.b, x.c⟩ } 2 ⟨15, x.s, 0, 0, 0⟩
def fnd (s : Int) : List Ac → Option Nat
  | [] => none
  | a :: l => if a.bl.s = s ∧ a.op = true then some 0 else (fnd s l).map (· + 1)
def owes (S : St) (c : Int) (e : Int × Bl) : Bool := decide ((mget e.1 S.pc).getD 0 = c) && !((mget e.1 S.pd).getD false)
def owedL (S : St) (c : Int) : List (Int × Bl) → Int
  | [] => 0
  | e :: l => (if owes S c e then e.2.a else 0) + owedL S c l
def owed (S : St) (c : Int) : Int := wr (owedL S c S.pb)
def prfE (D : Dl) (k n : Int) : Int := Pf.prE (D.cn.getD k.toNat default).pt (D.cn.getD k.toNat default).ps k n
def prfV (D : Dl) (k n : Int) : Int := Pf.prV (D.cn.getD k.toNat default).pt (D.cn.getD k.toNat default).ps k n
def authB (D : Dl) (S : St) (x : Nt) : Bool :=
  Cv.inB x.a 0 ((D.cn.length : Int) - 1) && !((mget (x.a, x.c) S.us).getD false) && decide (prfE D x.a x.c = 0 ∧ prfV D x.a x.c = x.b)
def asked (D : Dl) (S : St) (x : Nt) : St :=
  if authB D S x then tell { S with us := mput (x.a, x.c) true S.us, ac := S.ac ++ [⟨⟨x.s, 0, 0, D.fee⟩, true, false⟩] } 4 ⟨3, x.s, x.a, 0, 0⟩
  else tell S 3 ⟨7, x.s, 0, 0, 0⟩
noncomputable def cost (D : Dl) (x : Nt) : Int := Cv.coV D.day D.fee D.bs x.c x.a x.b
noncomputable def acAdd (D : Dl) (x : Nt) (a : Ac) : Ac := { a with bl := ⟨a.bl.s, wr (a.bl.i + x.a), wr (a.bl.b + x.b), wr (a.bl.a + cost D x)⟩ }
def acBill (a : Ac) : Nt := ⟨12, a.bl.s, a.bl.i, a.bl.b, a.bl.a⟩
def acEnd (a : Ac) : Ac := { a with op := false, dn := true }
noncomputable def recorded (D : Dl) (S : St) (x : Nt) : St :=
  match fnd x.s S.ac with
  | none => S
  | some j =>
    if x.k = 9 then tell { S with ac := S.ac.set j (acAdd D x (S.ac.getD j default)) } 3 ⟨10, x.s, 0, 0, 0⟩
    else tell (tell { S with ac := S.ac.set j (acEnd (acAdd D x (S.ac.getD j default))) } 3 (acBill (acAdd D x (S.ac.getD j default)))) 4 (acBill (acAdd D x (S.ac.getD j default)))
def known (S : St) (x : Nt) : St := { S with cs := Sx.akS S.cs 0 x.s }
def approved (S : St) (x : Nt) : St := tell S 3 ⟨6, x.s, 0, 0, 0⟩
def denied (S : St) (x : Nt) : St :=
  match fnd x.s S.ac with
  | none => tell S 3 ⟨7, x.s, 0, 0, 0⟩
  | some j => tell { S with ac := S.ac.set j { S.ac.getD j default with op := false } } 3 ⟨7, x.s, 0, 0, 0⟩
def checked (D : Dl) (S : St) (x : Nt) : St :=
  if owed S x.a ≤ D.cr then tell { S with pc := mput x.s x.a S.pc } 5 ⟨4, x.s, 0, 0, 0⟩ else tell S 5 ⟨5, x.s, 0, 0, 0⟩
def noted (S : St) (x : Nt) : St := if (mget x.s S.pc).isSome then { S with pb := mput x.s (billOf x) S.pb } else S
noncomputable def heard (D : Dl) (S : St) (i : Int) (x : Nt) : St :=
  if i = 0 then (if x.k = 8 then offered S x else if x.k = 7 then rejected S x else if x.k = 12 then billed S x else S)
  else if i = 1 then (if x.k = 1 then plugged S x else S)
  else if i = 2 then (if x.k = 7 then refused S x else if x.k = 6 then started S x else if x.k = 10 then acked S x else if x.k = 13 then halted S x else if x.k = 12 then closed S x else if x.k = 14 then leased S x else S)
  else if i = 3 then (if x.k = 2 then asked D S x else if x.k = 9 ∨ x.k = 11 then recorded D S x else if x.k = 15 then known S x else S)
  else if i = 4 then (if x.k = 4 then approved S x else if x.k = 5 then denied S x else S)
  else if i = 5 then (if x.k = 3 then checked D S x else if x.k = 12 then noted S x else S)
  else S
def toL (l : Int) : Nat := (if l % 2 = 0 then l + 1 else l - 1).toNat
def take (S : St) (k : Nat) : St := { S with fl := S.fl.eraseIdx k }
noncomputable def arrive (D : Dl) (S : St) (s : Sn) : St :=
  if Lx.recvB (ln S (toL s.l)) s.p then heard D { S with L := S.L.set (toL s.l) (Lx.recvL (ln S (toL s.l)) s.p) } (toL s.l) (Lx.recvN (ln S (toL s.l)) s.p)
  else { S with L := S.L.set (toL s.l) (Lx.recvL (ln S (toL s.l)) s.p) }
noncomputable def deliver (D : Dl) (S : St) (k : Nat) : St := arrive D (take S k) (S.fl.getD k default)
def going (D : Dl) (S : St) : Bool := decide (S.sph = 2 ∧ S.opn < D.sl)
def flowB (D : Dl) (S : St) : Bool := going D S && decide (S.inn = true ∧ S.vph = 2 ∧ S.vss = S.sss)
def flowOf (S : St) (p : Int) : Int := max (wr (-(Po.m2 S.po S.now))) (min p (Po.m1 S.po S.now))
def enOf (S : St) : En := (mget S.vss S.vc).getD default
def enAdd (e : En) (f : Int) : En := ⟨wr (e.i + max 0 f), wr (e.b + max 0 (wr (-f)))⟩
def pour (S : St) (f : Int) : St :=
  { S with flow := f, si := (enAdd ⟨S.si, S.sk⟩ f).i, sk := (enAdd ⟨S.si, S.sk⟩ f).b, vc := mput S.vss (enAdd (enOf S) f) S.vc }
def tick1 (D : Dl) (S : St) (p : Int) : St := if flowB D S then pour S (flowOf S p) else { S with flow := 0 }
def tick2 (D : Dl) (S : St) : St := if D.ev ≤ wr (S.tks + 1) then { record { S with tks := wr (S.tks + 1) } 9 with tks := 0, opn := wr (S.opn + 1) } else { S with tks := wr (S.tks + 1) }
def poll (S : St) (i : Nat) : St := { S with L := S.L.set i (Lx.pollL (ln S i)), fl := if Lx.pollB (ln S i) then S.fl ++ [⟨i, Lx.pollP (ln S i)⟩] else S.fl }
def polls : Nat → St → St
  | 0, S => S
  | n + 1, S => poll (polls n S) n
def cutF (S : St) : St := { S with fl := S.fl.drop (S.fl.length - 200) }
def tick (D : Dl) (S : St) (p : Int) : St :=
  let S1 := tick1 D S p
  let S2 := if going D S then tick2 D S1 else S1
  cutF (polls 6 { S2 with now := wr (S2.now + 1) })
/-! what may happen -/
def busy (S : St) (i : Nat) : Bool := decide (32 < (ln S i).L.length)
def plugE (D : Dl) (S : St) (a b : Int) : Int :=
  if S.inn then 10 else if Cv.inB a 0 ((D.cn.length : Int) - 1) = false ∨ b ≠ 0 ∧ b ≠ 1 then 3
  else if prfE D a (S.pg.getD a.toNat 0) ≠ 0 then prfE D a (S.pg.getD a.toNat 0)
  else if 16 < max (ln S 0).L.length (ln S 1).L.length then 11 else 0
def plugS (D : Dl) (S : St) (a b : Int) : St :=
  tell { S with pg := S.pg.set a.toNat (wr (S.pg.getD a.toNat 0 + 1)), inn := true, vph := 1, vp0 := a, vp1 := S.pg.getD a.toNat 0 } 0
    ⟨1, 0, a, (prfV D a (S.pg.getD a.toNat 0) + b) % 2147483647, S.pg.getD a.toNat 0⟩
def unplugS (S : St) : St :=
  if S.sph = 1 then { S with inn := false, vph := 4, gone := true } else if S.sph = 2 then fin { S with inn := false, vph := 4 } else { S with inn := false, vph := 4 }
def lastO : List Ac → Int → Int
  | [], z => z
  | a :: l, z => lastO l (if a.op then a.bl.s else z)
def grE (D : Dl) (S : St) (a b c : Int) : Int := Sx.grE S.cs D.dr D.bk S.sN 0 a b (wr (S.now + c)) S.now
def grL (D : Dl) (S : St) (a b c : Int) : Ls := Sx.grL S.cs D.dr D.bk S.sN 0 a b (wr (S.now + c)) S.now
def leaseS (D : Dl) (S : St) (a b c : Int) : St :=
  tell { S with cs := Sx.grS S.cs D.dr D.bk S.sN 0 a b (wr (S.now + c)) S.now, sN := Sx.grN S.cs D.dr D.bk S.sN 0 a b (wr (S.now + c)) S.now } 3
    ⟨14, (grL D S a b c).n, (grL D S a b c).d, (grL D S a b c).b, (grL D S a b c).u⟩
def leaseE (D : Dl) (S : St) (a b c : Int) : Int := if busy S 3 then 11 else if Cv.inB c 1 100000 = false then 2 else grE D S a b c
def payL (S : St) (c : Int) : List (Int × Bl) → List (Int × Bool) → List (Int × Bool)
  | [], pd => pd
  | e :: l, pd => payL S c l (if (mget e.1 S.pc).getD 0 = c then mput e.1 true pd else pd)
def doE (D : Dl) (S : St) (k a b c : Int) : Int :=
  if k = 1 then plugE D S a b
  else if k = 2 then (if S.inn then 0 else 10)
  else if k = 3 then (if Cv.inB a (-1073741824) 1073741824 = false then 3 else if 1099511627776 ≤ S.now then 4 else 0)
  else if k = 4 ∨ k = 5 ∨ k = 6 then (if Cv.inB a 0 ((S.fl.length : Int) - 1) = false then 3 else 0)
  else if k = 7 then (if lastO S.ac 0 = 0 then 10 else if busy S 3 then 11 else 0)
  else if k = 8 then leaseE D S a b c
  else if k = 9 then (if Cv.inB a 0 ((D.cn.length : Int) - 1) = false then 3 else 0)
  else 2
noncomputable def doS (D : Dl) (S : St) (k a b c : Int) : St :=
  if doE D S k a b c ≠ 0 then S
  else if k = 1 then plugS D S a b
  else if k = 2 then unplugS S
  else if k = 3 then tick D S a
  else if k = 4 then deliver D S a.toNat
  else if k = 5 then take S a.toNat
  else if k = 6 then (if S.fl.length < 200 then { S with fl := S.fl ++ [S.fl.getD a.toNat default] } else S)
  else if k = 7 then tell S 3 ⟨13, lastO S.ac 0, 0, 0, 0⟩
  else if k = 8 then leaseS D S a b c
  else { S with pd := payL S a S.pb S.pd }
noncomputable def drain (D : Dl) : Nat → St → St
  | 0, S => S
  | n + 1, S => drain D n (deliver D S 0)
noncomputable def beat (D : Dl) (S : St) : St := drain D (tick D S 0).fl.length (tick D S 0)
def waits (S : St) : Bool := S.L.any (fun l => decide (0 < l.L.length))
noncomputable def settle (D : Dl) : Nat → Nat → St → St × Nat
  | 0, i, S => (S, i)
  | n + 1, i, S => if 1099511627776 ≤ S.now then (S, i) else if waits (beat D S) then settle D n (i + 1) (beat D S) else (beat D S, i + 1)
/-! what a net shows -/
def phase (S : St) (party : Int) : Int := if party = 0 then S.vph else if party = 1 then S.sph else 0
end Nw
end Go.Proofs.Ytlklnaebdnahcaa
namespace Go.Proofs.Ytlklnaebdnahcaa
open Go.RowKit Go.MapKept Nw
def MpAt {α β : Type} (K : α → Value) (V : β → Value) (w : World) (b : Nat) (l : List (α × β)) : Prop :=
  ∃ es clock, w.heap[b]? = some (.map es clock) ∧ Stamped es clock ∧ es.toList.map (fun e => (e.key, e.val)) = l.map (fun p => (K p.1, V p.2))
structure KeyC {α : Type} (P : Program) (kt : TypeId) (K : α → Value) : Prop where
  inj : ∀ x y, K x = K y → x = y
  chk : ∀ b x w, (Instr.checkKey b 10000 kt (K x)).run P w = .ok () w
  fnd : ∀ x (l : List MapEntry) w, (∀ e ∈ l, ∃ y, e.key = K y) → ((Instr.findKey kt (K x) l).run P w = .ok none w ∧ ∀ e ∈ l, e.key ≠ K x) ∨ ∃ j e, (Instr.findKey kt (K x) l).run P w = .ok (some (j, e.val)) w ∧ l[j]? = some e ∧ e.key = K x
  stay : ∀ x w, (Instr.keyThatStays (K x) (K x)).run P w = .ok (K x) w
theorem keyc_int {P : Program} {kt : TypeId} (hk : P.underlying kt = some (.int .i64)) : KeyC P kt (fun x : Int => .int .i64 x) where
  inj := fun x y h => by cases h; rfl
  chk := fun b x w => run_checkKey (d := .int .i64) (k := .int .i64 x) hk rfl b 9999
  fnd := fun x l w hl => by
    rcases findNow_spec (d := .int .i64) (k := .int .i64 x) rfl l 0 (fun e he => by obtain ⟨y, hy⟩ := hl e he; rw [hy]; rfl) with ⟨h1, h2⟩ | ⟨j, e, h1, h2, h3⟩
    · exact .inl ⟨run_findKey hk h1, h2⟩
    · exact .inr ⟨j, e, by rw [run_findKey hk h1, Nat.zero_add], h2, h3⟩
  stay := fun x w => run_keyThatStays (d := .int .i64) (k := .int .i64 x) rfl
theorem keyc_pair {P : Program} {kt et : TypeId} {n : Nat} (hk : P.underlying kt = some (.array n et)) (he : P.underlying et = some (.int .i64))
    (chk : ∀ b (x : Int × Int) w, (Instr.checkKey b 10000 kt (.agg #[.int .i64 x.1, .int .i64 x.2])).run P w = .ok () w)
    (eql : ∀ (x y : Int × Int) w, (Op.equal kt (.agg #[.int .i64 x.1, .int .i64 x.2]) (.agg #[.int .i64 y.1, .int .i64 y.2])).run P w = .ok (decide (x = y)) w)
    (bits : ∀ (x : Int × Int), Instr.sameBits 10000 (.agg #[.int .i64 x.1, .int .i64 x.2]) (.agg #[.int .i64 x.1, .int .i64 x.2]) = true) :
    KeyC P kt (fun x : Int × Int => .agg #[.int .i64 x.1, .int .i64 x.2]) where
  inj := fun x y h => by
    obtain ⟨x1, x2⟩ := x
    obtain ⟨y1, y2⟩ := y
    simp at h
    simp [h]
  chk := chk
  fnd := fun x l w hl => by
    have hask : ∀ (l : List MapEntry) (i : Nat), (∀ e ∈ l, ∃ y : Int × Int, e.key = .agg #[.int .i64 y.1, .int .i64 y.2]) →
        ((Instr.findAsking kt (.agg #[.int .i64 x.1, .int .i64 x.2]) l i).run P w = .ok none w ∧ ∀ e ∈ l, e.key ≠ .agg #[.int .i64 x.1, .int .i64 x.2]) ∨
        ∃ j e, (Instr.findAsking kt (.agg #[.int .i64 x.1, .int .i64 x.2]) l i).run P w = .ok (some (i + j, e.val)) w ∧ l[j]? = some e ∧ e.key = .agg #[.int .i64 x.1, .int .i64 x.2] := by
      intro l
      induction l with
      | nil => intro i _; exact .inl ⟨by simp [Instr.findAsking], by simp⟩
      | cons e l ih =>
        intro i h
        obtain ⟨y, hy⟩ := h e (.head _)
        by_cases hxy : x = y
        · refine .inr ⟨0, e, ?_, rfl, by rw [hy, hxy]⟩
          simp [Instr.findAsking, Sem.run_bind, hy, eql, hxy, Result.andThen]
        · have hne : e.key ≠ .agg #[.int .i64 x.1, .int .i64 x.2] := fun q => by
            rw [hy] at q
            obtain ⟨x1, x2⟩ := x
            obtain ⟨y1, y2⟩ := y
            simp at q
            exact hxy (by simp [q])
          rcases ih (i + 1) (fun e he => h e (.tail _ he)) with ⟨h1, h2⟩ | ⟨j, e', h1, h2, h3⟩
          · refine .inl ⟨?_, fun e' he' => ?_⟩
            · simp [Instr.findAsking, Sem.run_bind, hy, eql, hxy, Result.andThen, h1]
            · cases he' with
              | head => exact hne
              | tail _ he' => exact h2 e' he'
          · refine .inr ⟨j + 1, e', ?_, by simpa using h2, h3⟩
            simp [Instr.findAsking, Sem.run_bind, hy, eql, hxy, Result.andThen, h1]
            omega
    cases l with
    | nil => exact .inl ⟨by simp [Instr.findKey, run_underlying hk, Result.andThen, Instr.findNow], by simp⟩
    | cons e l =>
      have hnow : Instr.findNow (.array n et) (.agg #[.int .i64 x.1, .int .i64 x.2]) (e :: l) 0 = none := by
        obtain ⟨y, hy⟩ := hl e (.head _)
        simp [Instr.findNow, Instr.sameNow]
      rcases hask (e :: l) 0 hl with ⟨h1, h2⟩ | ⟨j, e', h1, h2, h3⟩
      · exact .inl ⟨by simp only [Instr.findKey, Sem.run_bind, run_underlying hk, Result.andThen, hnow]; exact h1, h2⟩
      · exact .inr ⟨j, e', by simp only [Instr.findKey, Sem.run_bind, run_underlying hk, Result.andThen, hnow]; rw [h1, Nat.zero_add], h2, h3⟩
  stay := fun x w => by simp [Instr.keyThatStays, bits]
/-! the lists -/
section
variable {α β : Type} [DecidableEq α]
theorem mget_none {x : α} : ∀ {l : List (α × β)}, (∀ p ∈ l, p.1 ≠ x) → mget x l = none
  | [], _ => rfl
  | e :: l, h => by unfold mget; rw [if_neg (h e (.head _))]; exact mget_none (fun p hp => h p (.tail _ hp))
theorem mput_none {x : α} {v : β} : ∀ {l : List (α × β)}, (∀ p ∈ l, p.1 ≠ x) → mput x v l = l ++ [(x, v)]
  | [], _ => rfl
  | e :: l, h => by unfold mput; rw [if_neg (h e (.head _)), mput_none (fun p hp => h p (.tail _ hp))]; rfl
theorem mget_at {x : α} : ∀ {l : List (α × β)} {j : Nat} {p : α × β}, (l.map (·.1)).Nodup → l[j]? = some p → p.1 = x → mget x l = some p.2
  | [], j, p, _, h, _ => by simp at h
  | e :: l, 0, p, _, h, hp => by simp at h; subst h; unfold mget; rw [if_pos hp]
  | e :: l, j + 1, p, hn, h, hp => by
    simp at h hn
    have hne : e.1 ≠ x := fun q => by
      have := List.mem_of_getElem? h
      exact hn.1 p.2 (by rw [q, ← hp]; exact this)
    unfold mget
    rw [if_neg hne]
    exact mget_at hn.2 h hp
theorem mput_at {x : α} {v : β} : ∀ {l : List (α × β)} {j : Nat} {p : α × β}, (l.map (·.1)).Nodup → l[j]? = some p → p.1 = x → mput x v l = l.set j (x, v)
  | [], j, p, _, h, _ => by simp at h
  | e :: l, 0, p, _, h, hp => by simp at h; subst h; unfold mput; rw [if_pos hp]; rfl
  | e :: l, j + 1, p, hn, h, hp => by
    simp at h hn
    have hne : e.1 ≠ x := fun q => by
      have := List.mem_of_getElem? h
      exact hn.1 p.2 (by rw [q, ← hp]; exact this)
    unfold mput
    rw [if_neg hne, mput_at hn.2 h hp]
    rfl
end
section
variable {α β : Type} {P : Program} {kt : TypeId} {K : α → Value} {V : β → Value} {w w' : World} {b : Nat} {l : List (α × β)}
theorem MpAt.lt (h : MpAt K V w b l) : b < w.heap.size := by
  obtain ⟨es, clock, hb, _⟩ := h
  exact (Array.getElem?_eq_some_iff.1 hb).1
theorem MpAt.of_eq (h : MpAt K V w b l) (e : w'.heap[b]? = w.heap[b]?) : MpAt K V w' b l := by
  obtain ⟨es, clock, hb, r⟩ := h
  exact ⟨es, clock, e.trans hb, r⟩
theorem MpAt.touch {S : Nat → Prop} (h : MpAt K V w b l) (ht : Touch S w w') (hn : ¬ S b) : MpAt K V w' b l := h.of_eq (ht.block b h.lt hn)
theorem MpAt.below (h : MpAt K V w b l) (hb : Below w.heap.size w w') : MpAt K V w' b l := h.of_eq (hb.block b h.lt)
theorem MpAt.made (w : World) : MpAt K V (w.alloc (.map #[] 0)) w.heap.size ([] : List (α × β)) := ⟨#[], 0, (MapKept.heap_alloc w _).1, stamped_empty 0, rfl⟩
theorem keys_of {es : Array MapEntry} (hl : es.toList.map (fun e => (e.key, e.val)) = l.map (fun p => (K p.1, V p.2))) : ∀ e ∈ es.toList, ∃ y, e.key = K y := by
  intro e he
  have : (e.key, e.val) ∈ es.toList.map (fun e => (e.key, e.val)) := List.mem_map.2 ⟨e, he, rfl⟩
  rw [hl] at this
  obtain ⟨p, _, hp⟩ := List.mem_map.1 this
  exact ⟨p.1, (congrArg Prod.fst hp).symm⟩
theorem at_of {es : Array MapEntry} (hl : es.toList.map (fun e => (e.key, e.val)) = l.map (fun p => (K p.1, V p.2))) {j : Nat} {e : MapEntry} (he : es.toList[j]? = some e) : ∃ p, l[j]? = some p ∧ e.key = K p.1 ∧ e.val = V p.2 := by
  have h1 : (es.toList.map (fun e => (e.key, e.val)))[j]? = some (e.key, e.val) := by rw [List.getElem?_map, he]; rfl
  rw [hl, List.getElem?_map] at h1
  cases h2 : l[j]? with
  | none => rw [h2] at h1; cases h1
  | some p =>
    rw [h2] at h1
    simp at h1
    exact ⟨p, rfl, h1.1.symm, h1.2.symm⟩
theorem nodup_of (C : KeyC P kt K) {es : Array MapEntry} {clock : Nat} (hs : Stamped es clock) (hl : es.toList.map (fun e => (e.key, e.val)) = l.map (fun p => (K p.1, V p.2))) : (l.map (·.1)).Nodup := by
  have h1 : es.toList.map (·.key) = (l.map (·.1)).map K := by
    have := congrArg (List.map Prod.fst) hl
    simpa [List.map_map, Function.comp_def] using this
  have h2 := hs.2.2
  rw [h1] at h2
  exact List.Pairwise.of_map K (fun a b hab e => hab (by rw [e])) h2
theorem MpAt.nodup (C : KeyC P kt K) (h : MpAt K V w b l) : (l.map (·.1)).Nodup := by
  obtain ⟨es, clock, hb, hs, hl⟩ := h
  exact nodup_of C hs hl
theorem MpAt.look [DecidableEq α] (C : KeyC P kt K) {mt et : TypeId} (ht : P.underlying mt = some (.map kt et)) (h : MpAt K V w b l) (x : α) {z : Value} (hz : (zeroValue et).run P w = .ok z w) (c : Bool) :
    (Instr.lookup mt (.map (some b)) (K x) c).run P w = .ok (if c then .tuple #[((mget x l).map V).getD z, .bool (mget x l).isSome] else ((mget x l).map V).getD z) w := by
  obtain ⟨es, clock, hb, hs, hl⟩ := h
  rcases C.fnd x es.toList w (keys_of hl) with ⟨h1, h2⟩ | ⟨j, e, h1, h2, h3⟩
  · have hg : mget x l = none := mget_none (fun p hp q => by
      obtain ⟨i, hi⟩ := List.getElem?_of_mem hp
      have h4 : (es.toList.map (fun e => (e.key, e.val)))[i]? = some (K p.1, V p.2) := by rw [hl, List.getElem?_map, hi]; rfl
      rw [List.getElem?_map] at h4
      cases h5 : es.toList[i]? with
      | none => rw [h5] at h4; cases h4
      | some e =>
        rw [h5] at h4
        simp at h4
        exact h2 e (List.mem_of_getElem? h5) (by rw [h4.1, q]))
    rw [hg]
    simp [Instr.lookup, run_underlying ht, MapKept.run_getObj_map hb, C.chk, h1, hz, Result.andThen]
  · obtain ⟨p, hp, hk, hv⟩ := at_of hl h2
    have hg : mget x l = some p.2 := mget_at (nodup_of C hs hl) hp (C.inj _ _ (hk.symm.trans h3))
    rw [hg]
    simp [Instr.lookup, run_underlying ht, MapKept.run_getObj_map hb, C.chk, h1, Result.andThen, hv]
theorem touch_set {o : Obj} {b : Nat} (w : World) : Touch (fun k => k = b) w { w with heap := w.heap.setIfInBounds b o } :=
  ⟨rfl, rfl, rfl, by simp, fun k _ hk => by simp [Ne.symm hk]⟩
theorem MpAt.update [DecidableEq α] (C : KeyC P kt K) {mt et : TypeId} (ht : P.underlying mt = some (.map kt et)) (h : MpAt K V w b l) (x : α) (v : β) :
    ∃ w', (Instr.mapUpdate mt (.map (some b)) (K x) (V v)).run P w = .ok () w' ∧ MpAt K V w' b (mput x v l) ∧ Touch (fun k => k = b) w w' ∧ w'.heap.size = w.heap.size := by
  have hlt := h.lt
  obtain ⟨es, clock, hb, hs, hl⟩ := h
  rcases C.fnd x es.toList w (keys_of hl) with ⟨h1, h2⟩ | ⟨j, e, h1, h2, h3⟩
  · have hg : mput x v l = l ++ [(x, v)] := mput_none (fun p hp q => by
      obtain ⟨i, hi⟩ := List.getElem?_of_mem hp
      have h4 : (es.toList.map (fun e => (e.key, e.val)))[i]? = some (K p.1, V p.2) := by rw [hl, List.getElem?_map, hi]; rfl
      rw [List.getElem?_map] at h4
      cases h5 : es.toList[i]? with
      | none => rw [h5] at h4; cases h4
      | some e =>
        rw [h5] at h4
        simp at h4
        exact h2 e (List.mem_of_getElem? h5) (by rw [h4.1, q]))
    rw [hg]
    refine ⟨_, by simp [Instr.mapUpdate, run_underlying ht, MapKept.run_getObj_map hb, C.chk, h1, MapKept.run_setObj_map _ hb, Result.andThen]; rfl, ⟨_, _, (heap_set hb).1, stamped_push hs h2, ?_⟩, touch_set w, by simp⟩
    simp [hl]
  · obtain ⟨p, hp, hk, hv⟩ := at_of hl h2
    have hx : p.1 = x := C.inj _ _ (hk.symm.trans h3)
    have hg : mput x v l = l.set j (x, v) := mput_at (nodup_of C hs hl) hp hx
    have hj : es[j]? = some e := by rw [← Array.getElem?_toList]; exact h2
    rw [hg]
    refine ⟨{ w with heap := w.heap.setIfInBounds b (.map (es.modify j fun e => { e with key := K x, val := V v }) clock) }, by simp [Instr.mapUpdate, run_underlying ht, MapKept.run_getObj_map hb, C.chk, h1, hj, h3, C.stay, MapKept.run_setObj_map _ hb, Result.andThen], ⟨_, _, (heap_set hb).1, stamped_modify hs j _ (fun _ _ => rfl) (fun e' _ he' => ?_), ?_⟩, touch_set w, by simp⟩
    · rw [hj] at he'; cases he'; exact h3.symm
    · apply List.ext_getElem?
      intro i
      rw [List.getElem?_map, List.getElem?_map, List.getElem?_set, Array.getElem?_toList, Array.getElem?_modify]
      have h6 : (es.toList.map (fun e => (e.key, e.val)))[i]? = (l.map (fun p => (K p.1, V p.2)))[i]? := by rw [hl]
      rw [List.getElem?_map, List.getElem?_map, Array.getElem?_toList] at h6
      by_cases hi : j = i
      · subst hi
        have hlt2 : j < l.length := (List.getElem?_eq_some_iff.1 hp).1
        rw [if_pos rfl, if_pos rfl, if_pos hlt2, hj]
        rfl
      · rw [if_neg hi, if_neg hi]
        exact h6
end
/-! ranges -/
def RgAt {α β : Type} (K : α → Value) (V : β → Value) (w : World) (b r : Nat) (l rem : List (α × β)) : Prop :=
  ∃ es clock since seen c0, w.heap[b]? = some (.map es clock) ∧ Stamped es clock ∧ es.toList.map (fun e => (e.key, e.val)) = l.map (fun p => (K p.1, V p.2)) ∧
    w.heap[r]? = some (.mapIter (some b) since seen c0) ∧ (∀ x ∈ es.toList, x.born < since) ∧ since ≤ c0 ∧ c0 = clock ∧ b ≠ r ∧ ((leftOf es seen).toList.map (fun e => (e.key, e.val))).Perm (rem.map (fun p => (K p.1, V p.2)))
section
variable {α β : Type} {P : Program} {kt : TypeId} {K : α → Value} {V : β → Value} {w w' : World} {b r : Nat} {l rem : List (α × β)}
theorem RgAt.touch {S : Nat → Prop} (h : RgAt K V w b r l rem) (ht : Touch S w w') (hn : ¬ S b) (hr : ¬ S r) : RgAt K V w' b r l rem := by
  obtain ⟨es, clock, since, seen, c0, hb, hs, hl, hi, x⟩ := h
  exact ⟨es, clock, since, seen, c0, (ht.block b (Array.getElem?_eq_some_iff.1 hb).1 hn).trans hb, hs, hl, (ht.block r (Array.getElem?_eq_some_iff.1 hi).1 hr).trans hi, x⟩
theorem MpAt.range {mt et : TypeId} (ht : P.underlying mt = some (.map kt et)) (h : MpAt K V w b l) :
    ∃ w', (Instr.range mt (.map (some b))).run P w = .ok (.pointer (some ⟨w.heap.size, 0, none⟩)) w' ∧ RgAt K V w' b w.heap.size l l ∧ Touch (fun _ => False) w w' ∧ w'.heap.size = w.heap.size + 1 := by
  have hlt := h.lt
  obtain ⟨es, clock, hb, hs, hl⟩ := h
  refine ⟨_, run_range_map w mt kt et b es clock ht hb, ⟨es, clock, clock, #[], clock, ((MapKept.heap_alloc w _).2 b hlt).trans hb, hs, hl, (MapKept.heap_alloc w _).1, hs.1, Nat.le_refl _, rfl, by omega, ?_⟩, (Touch.refl _ _).alloc _, by simp⟩
  have : leftOf es #[] = es := by simp [leftOf]
  rw [this, hl]
theorem RgAt.map (h : RgAt K V w b r l rem) : MpAt K V w b l := by
  obtain ⟨es, clock, since, seen, c0, hb, hs, hl, x⟩ := h
  exact ⟨es, clock, hb, hs, hl⟩
theorem RgAt.next (C : KeyC P kt K) (hV : ∀ u v, V u = V v → u = v) (h : RgAt K V w b r l rem) (ty : TypeId) :
    (rem = [] ∧ (Instr.next (.pointer (some ⟨r, 0, none⟩)) false ty).run P w = .ok (.tuple #[.bool false]) w) ∨
    ∃ p rem' w', rem.Perm (p :: rem') ∧ (Instr.next (.pointer (some ⟨r, 0, none⟩)) false ty).run P w = .ok (.tuple #[.bool true, K p.1, V p.2]) w' ∧ RgAt K V w' b r l rem' ∧ Touch (fun k => k = r) w w' ∧ w'.heap.size = w.heap.size ∧
      (Instr.entry (.pointer (some ⟨r, 0, none⟩))).run P w' = .ok (.tuple #[K p.1, V p.2]) w' := by
  obtain ⟨es, clock, since, seen, c0, hb, hs, hl, hi, hold, hsc, hcc, hbr, hp⟩ := h
  rcases run_next_at (P := P) w ty r b since c0 seen es clock hi hb hold hsc with ⟨h1, h2⟩ | ⟨e, he, w1, hw1, h2⟩
  · left
    have : leftOf es seen = #[] := Array.eq_empty_of_size_eq_zero h1
    rw [this] at hp
    have h3 := hp.length_eq
    simp at h3
    exact ⟨by cases rem with | nil => rfl | cons a l => simp at h3, h2⟩
  · right
    have hmem : (e.key, e.val) ∈ (leftOf es seen).toList.map (fun e => (e.key, e.val)) := List.mem_map.2 ⟨e, he, rfl⟩
    have hm2 := hp.mem_iff.1 hmem
    obtain ⟨p, hpm, hpe⟩ := List.mem_map.1 hm2
    have ek : e.key = K p.1 := (congrArg Prod.fst hpe).symm
    have ev : e.val = V p.2 := (congrArg Prod.snd hpe).symm
    obtain ⟨r1, r2, hr⟩ := List.append_of_mem hpm
    have hbl := (Array.getElem?_eq_some_iff.1 hb).1
    have hrl := (Array.getElem?_eq_some_iff.1 hi).1
    have hb1 : w1.heap[b]? = some (.map es clock) := by rcases hw1 with rfl | rfl <;> exact hb
    have hi1 : w1.heap[r]? = some (.mapIter (some b) since seen c0) := by rcases hw1 with rfl | rfl <;> exact hi
    have hsz : w1.heap.size = w.heap.size := by rcases hw1 with rfl | rfl <;> rfl
    have heS : e ∈ es.toList := by
      simp [leftOf] at he
      exact by simpa using he.1
    have hTw : Touch (fun k => k = r) w w1 := by
      rcases hw1 with rfl | rfl
      · exact Touch.refl _ _
      · exact (Touch.refl _ _).drew
    have hb2 : (ChangeMaps.setBlock w1 r (.mapIter (some b) since (seen.push e.born) clock)).heap[b]? = some (.map es clock) := by
      show (w1.heap.setIfInBounds r _)[b]? = _
      rw [(heap_set hi1).2 b hbr]
      exact hb1
    have hr2 : (ChangeMaps.setBlock w1 r (.mapIter (some b) since (seen.push e.born) clock)).heap[r]? = some (.mapIter (some b) since (seen.push e.born) clock) := (heap_set hi1).1
    refine ⟨p, r1 ++ r2, _, by rw [hr]; exact List.perm_middle, by rw [← ek, ← ev]; exact h2, ⟨es, clock, since, seen.push e.born, clock, hb2, hs, hl, hr2, hold, by omega, rfl, hbr, ?_⟩, hTw.trans (touch_set w1), ?_, ?_⟩
    · have e1 : (leftOf es (seen.push e.born)).toList = (leftOf es seen).toList.filter (fun x => x.born != e.born) := by
        simp [leftOf, List.filter_filter]
        congr 1
        funext x
        cases h7 : seen.contains x.born <;> cases h8 : (x.born == e.born) <;> simp_all
      rw [e1]
      have hnd : ((leftOf es seen).toList.map (·.born)).Nodup := by
        have : (leftOf es seen).toList.Sublist es.toList := by simp [leftOf]
        exact (this.map _).nodup hs.2.1
      have hp2 : ((leftOf es seen).toList).Perm (e :: (leftOf es seen).toList.filter (fun x => x.born != e.born)) := by
        obtain ⟨a1, a2, ha⟩ := List.append_of_mem he
        rw [ha] at hnd ⊢
        rw [List.map_append, List.map_cons, List.nodup_append, List.nodup_cons] at hnd
        have f1 : a1.filter (fun x => x.born != e.born) = a1 := by
          rw [List.filter_eq_self]
          intro x hx
          have := hnd.2.2 x.born (List.mem_map.2 ⟨x, hx, rfl⟩) e.born (.head _)
          simpa using this
        have f2 : a2.filter (fun x => x.born != e.born) = a2 := by
          rw [List.filter_eq_self]
          intro x hx
          have : x.born ≠ e.born := fun q => hnd.2.1.1 (List.mem_map.2 ⟨x, hx, q⟩)
          simpa using this
        rw [List.filter_append, List.filter_cons, f1, f2]
        simp
      have hp3 := (hp2.map (fun e => (e.key, e.val))).symm.trans hp
      rw [hr] at hp3
      have hp4 : (rem.map (fun p => (K p.1, V p.2))).Perm ((K p.1, V p.2) :: (r1 ++ r2).map (fun p => (K p.1, V p.2))) := by
        rw [hr]
        exact (List.perm_middle (a := p) (l₁ := r1) (l₂ := r2)).map _
      rw [← hr] at hp3
      have hp5 := hp3.trans hp4
      rw [List.map_cons, ek, ev] at hp5
      exact List.Perm.cons_inv hp5
    · show (w1.heap.setIfInBounds r _).size = _
      simp [hsz]
    · rw [← ek, ← ev]
      exact run_entry_at _ r b since seen es clock e hr2 hb2 heS hs.2.1
end
/-! at the operations -/
section
variable {α β : Type} {P : Program} {kt : TypeId} {K : α → Value} {V : β → Value} {b r : Nat} {l rem : List (α × β)} (w : World) {ops : Array Oper} {rest : List Oper} {o : Oper} {a : Act} {Q : Exit → Act → World → Prop}
theorem wpList_mput [DecidableEq α] (hg : o.guard = none) (m x v : Operand) (mt : TypeId) (hop : o.op = Op.mapUpdate mt m x v) (C : KeyC P kt K) {et : TypeId} (ht : P.underlying mt = some (.map kt et))
    (h : MpAt K V w b l) (hm : a.eval m = .map (some b)) (k : α) (hx : a.eval x = K k) (u : β) (hv : a.eval v = V u)
    (hK : ∀ w', MpAt K V w' b (mput k u l) → Touch (fun k => k = b) w w' → w'.heap.size = w.heap.size → wpList P ops Q rest (a.put o.dst undef) w') : wpList P ops Q (o :: rest) a w := by
  refine wpList_plain hg fun K' hK' => ?_
  obtain ⟨w', hrun, r1, r2, r3⟩ := h.update C ht k u
  unfold Oper.wp
  simp [execOp, hop, hm, hx, hv, hrun, Result.andThen]
  exact hK' _ _ (hK w' r1 r2 r3)
theorem wpList_mrange (hg : o.guard = none) (m : Operand) (mt : TypeId) (hop : o.op = Op.range mt m) {et : TypeId} (ht : P.underlying mt = some (.map kt et)) (h : MpAt K V w b l) (hm : a.eval m = .map (some b))
    (hK : ∀ w', RgAt K V w' b w.heap.size l l → Touch (fun _ => False) w w' → w'.heap.size = w.heap.size + 1 → wpList P ops Q rest (a.put o.dst (.pointer (some ⟨w.heap.size, 0, none⟩))) w') : wpList P ops Q (o :: rest) a w := by
  refine wpList_plain hg fun K' hK' => ?_
  obtain ⟨w', hrun, r1, r2, r3⟩ := h.range ht
  unfold Oper.wp
  simp [execOp, hop, hm, hrun, Result.andThen]
  exact hK' _ _ (hK w' r1 r2 r3)
theorem wpList_mnext (hg : o.guard = none) (it : Operand) (hop : o.op = Op.next it false) (C : KeyC P kt K) (hV : ∀ u v, V u = V v → u = v) (hit : a.eval it = .pointer (some ⟨r, 0, none⟩)) (h : RgAt K V w b r l rem)
    (hDone : rem = [] → wpList P ops Q rest (a.put o.dst (.tuple #[.bool false])) w)
    (hMore : ∀ p rem' w', rem.Perm (p :: rem') → RgAt K V w' b r l rem' → Touch (fun k => k = r) w w' → w'.heap.size = w.heap.size → (Instr.entry (.pointer (some ⟨r, 0, none⟩))).run P w' = .ok (.tuple #[K p.1, V p.2]) w' →
      wpList P ops Q rest (a.put o.dst (.tuple #[.bool true, K p.1, V p.2])) w') : wpList P ops Q (o :: rest) a w := by
  refine wpList_plain hg fun K' hK' => ?_
  unfold Oper.wp
  rcases h.next C hV o.type with ⟨h0, hrun⟩ | ⟨p, rem', w', hp, hrun, hrg, ht, hs, hen⟩
  · simp [execOp, hop, hit, hrun, Result.andThen]
    exact hK' _ _ (hDone h0)
  · simp [execOp, hop, hit, hrun, Result.andThen]
    exact hK' _ _ (hMore p rem' w' hp hrg ht hs hen)
end
end Go.Proofs.Ytlklnaebdnahcaa
namespace Go.Proofs.Ytlklnaebdnahcaa
open Go.RowKit
def leastAt (bs : List Bd) (k : Nat) : Int := if k = 0 then 0 else Cv.fr bs (k - 1) + 1
theorem leastAt_succ (bs : List Bd) (k : Nat) : leastAt bs (k + 1) = Cv.fr bs k + 1 := by simp [leastAt]
theorem okAt_of {day : Int} {bs : List Bd} {k : Nat} (h1 : leastAt bs k ≤ Cv.fr bs k) (h0 : 0 ≤ leastAt bs k) (h2 : Cv.fr bs k < day) (h3 : k = 0 → Cv.fr bs k ≤ 0) (h4 : Cv.inB (Cv.inn bs k) 0 1048576 = true) (h5 : Cv.inB (Cv.bk bs k) 0 1048576 = true) : Cv.okAt day bs k := by
  refine ⟨⟨by omega, h2⟩, fun hk => by have := h3 hk; omega, fun hk => ?_, Cv.inB_iff.1 h4, Cv.inB_iff.1 h5⟩
  unfold leastAt at h1
  rw [if_neg (by omega)] at h1
  omega
theorem okAt_least {day : Int} {bs : List Bd} {k : Nat} (h : Cv.okAt day bs k) : leastAt bs k ≤ Cv.fr bs k := by
  unfold leastAt
  split
  · exact h.1.1
  · have := h.2.2.1 (by omega); omega
set_option maxHeartbeats 2000000 in
theorem CheckTariff_body (day fee : Int) (A : Option Addr) (bs : List Bd) (cap : Nat) (w : World) (h0 : Cv.inB day 1 1099511627776 = true) (h1 : 1 ≤ bs.length) (h2 : bs.length ≤ 48) (h3 : Cv.inB fee 0 1048576 = true) (hcap : bs.length ≤ cap) (hw : BandsAt w A bs) :
    Calls Try.prog 37 #[.agg #[.int .i64 day, .slice A bs.length cap, .int .i64 fee]] w fun e w' => e = .returned (.int .i64 (Cv.tarE day fee bs)) ∧ Below w.heap.size w w' := by
  have hn0 : ((bs.length : Int) == 0) = false := int_beq_false (by omega)
  have hn1 : decide (48 < (bs.length : Int)) = false := by simp; omega
  have hd := Cv.inB_iff.1 h0
  have HF := Lib.hid (Cv.inB_iff.1 h3)
  have HW := Lib.hid hw
  clear hw
  go_enter Try.func37, Try.ntmps37
  go_wp2_with (go_at_call 23; refine (within_c _ _ _ _).mono ?_; rintro e w' ⟨rfl, rfl⟩)
  go_loopw [3, 31] (fun l i wr => ∃ k : Nat, k ≤ bs.length ∧ i = .int .i64 k ∧ l = .int .i64 (leastAt bs k) ∧ Below (w.heap.size + 1) (w.alloc (.cells #[.int .i64 day, .slice A bs.length cap, .int .i64 fee] 24)) wr ∧ ∀ j, j < k → Cv.okAt day bs j) (fun _ i _ => bs.length - (intOf i).toNat)
  case atStart => exact ⟨0, Nat.zero_le _, rfl, by simp [leastAt], by simpa using Below.refl _ _, fun j hj => absurd hj (Nat.not_lt_zero _)⟩
  case round =>
    obtain ⟨k, hk, rfl, rfl, hb, hall⟩ := hrel
    have HB := Lib.hid hb
    have HA := Lib.hid hall
    have t0 : wr.cell? ⟨w.heap.size, 0, none⟩ = some (.int .i64 day) := below_cell hb (by omega) (by go_simp)
    have hz : w.heap.size < wr.heap.size := by have := hb.size; simp at this; omega
    have HBb := Lib.hid (show Below w.heap.size w wr from ((Below.refl _ _).alloc (Nat.le_refl _) _).trans (hb.mono (by omega)))
    have hl0 : 0 ≤ leastAt bs k := by
      unfold leastAt
      split
      · omega
      · have := (hall (k - 1) (by omega)).1.1; omega
    have HK := Lib.hid (show Cv.TarOk day fee bs → leastAt bs k ≤ Cv.fr bs k ∨ bs.length ≤ k from fun h => by
      by_cases hkk : k < bs.length
      · exact .inl (okAt_least (h.2.2.2 k hkk))
      · exact .inr (by omega))
    have HO := Lib.hid (fun a b c d e => okAt_of (day := day) (bs := bs) (k := k) a hl0 b c d e)
    have HS := Lib.hid (leastAt_succ bs k)
    clear hb hall
    by_cases hlt : k < bs.length
    · obtain ⟨ad, hA, hadb, c0, c1, c2⟩ := HW.out.below HBb.out k hlt
      subst hA
      have HN := Lib.hid (fun h : Cv.TarOk day fee bs => h.2.2.2 k hlt)
      have HOk := Lib.hid (show Cv.okAt day bs k ↔ Cv.okAt day bs k from Iff.rfl)
      generalize hf : Cv.fr bs k = f at *
      generalize hi : Cv.inn bs k = i at *
      generalize hbk : Cv.bk bs k = b at *
      generalize hll : leastAt bs k = l at *
      have HE := Lib.hid (And.intro hf (And.intro hi (And.intro hbk hll)))
      clear hf hi hbk hll
      by_cases g1 : l ≤ f
      · by_cases g2 : f < day
        · by_cases g3 : k = 0 ∧ 0 < f
          · obtain ⟨rfl, g3⟩ := g3
            have c0' : wr.cell? ad = some (.int .i64 f) := by simpa [Addr.add] using c0
            have c1' : wr.cell? ⟨ad.block, ad.off + 1, none⟩ = some (.int .i64 i) := by simpa [Addr.add] using c1
            have c2' : wr.cell? ⟨ad.block, ad.off + 2, none⟩ = some (.int .i64 b) := by simpa [Addr.add] using c2
            go_wp2_with (go_at_call 23; refine (within_c _ _ _ _).mono ?_; rintro e w' ⟨rfl, rfl⟩)
            go_ret
            exact ⟨ret_int (Cv.tarE_no (fun h => by have := (HN.out h).2.1 rfl; have := HE.out.1; omega)).symm, HBb.out.alloc (by omega) _⟩
          · cases g4 : Cv.inB i 0 1048576
            · by_cases hk0 : k = 0
              · have hk0' : ((k : Int) == 0) = true := by simp; omega
                have g6 : ¬ 0 < f := fun h => g3 ⟨hk0, h⟩
                have HK0 := Lib.hid hk0
                clear hk0 g3
                go_wp2_with (go_at_call 23; refine (within_c _ _ _ _).mono ?_; rintro e w' ⟨rfl, rfl⟩)
                all_goals
                  go_ret
                  exact ⟨ret_int (Cv.tarE_no (fun h => by have h5 := Cv.inB_iff.2 (HN.out h).2.2.2.1; rw [HE.out.2.1, g4] at h5; cases h5)).symm, HBb.out.alloc (by omega) _⟩
              · have hk0' : ((k : Int) == 0) = false := by simp; omega
                clear g3
                go_wp2_with (go_at_call 23; refine (within_c _ _ _ _).mono ?_; rintro e w' ⟨rfl, rfl⟩)
                all_goals
                  go_ret
                  exact ⟨ret_int (Cv.tarE_no (fun h => by have h5 := Cv.inB_iff.2 (HN.out h).2.2.2.1; rw [HE.out.2.1, g4] at h5; cases h5)).symm, HBb.out.alloc (by omega) _⟩
            · cases g5 : Cv.inB b 0 1048576
              · by_cases hk0 : k = 0
                · have hk0' : ((k : Int) == 0) = true := by simp; omega
                  have g6 : ¬ 0 < f := fun h => g3 ⟨hk0, h⟩
                  have HK0 := Lib.hid hk0
                  clear hk0 g3
                  go_wp2_with (go_at_call 23; refine (within_c _ _ _ _).mono ?_; rintro e w' ⟨rfl, rfl⟩)
                  all_goals
                    go_ret
                    exact ⟨ret_int (Cv.tarE_no (fun h => by have h5 := Cv.inB_iff.2 (HN.out h).2.2.2.2; rw [HE.out.2.2.1, g5] at h5; cases h5)).symm, HBb.out.alloc (by omega) _⟩
                · have hk0' : ((k : Int) == 0) = false := by simp; omega
                  clear g3
                  go_wp2_with (go_at_call 23; refine (within_c _ _ _ _).mono ?_; rintro e w' ⟨rfl, rfl⟩)
                  all_goals
                    go_ret
                    exact ⟨ret_int (Cv.tarE_no (fun h => by have h5 := Cv.inB_iff.2 (HN.out h).2.2.2.2; rw [HE.out.2.2.1, g5] at h5; cases h5)).symm, HBb.out.alloc (by omega) _⟩
              · by_cases hk0 : k = 0
                · have hk0' : ((k : Int) == 0) = true := by simp; omega
                  have g6 : ¬ 0 < f := fun h => g3 ⟨hk0, h⟩
                  have HK0 := Lib.hid hk0
                  clear hk0 g3
                  go_wp2_with (go_at_call 23; refine (within_c _ _ _ _).mono ?_; rintro e w' ⟨rfl, rfl⟩)
                  all_goals
                    go_roundw
                    case rel =>
                      refine ⟨k + 1, by omega, by go_num, by rw [HS.out], HB.out.alloc (by omega) _, fun j hj => ?_⟩
                      have hk0 := HK0.out
                      obtain rfl : j = k := by omega
                      exact HO.out g1 g2 (fun _ => by omega) g4 g5
                    case measure => simp [intOf]; omega
                · have hk0' : ((k : Int) == 0) = false := by simp; omega
                  clear g3
                  go_wp2_with (go_at_call 23; refine (within_c _ _ _ _).mono ?_; rintro e w' ⟨rfl, rfl⟩)
                  all_goals
                    go_roundw
                    case rel =>
                      refine ⟨k + 1, by omega, by go_num, by rw [HS.out], HB.out.alloc (by omega) _, fun j hj => ?_⟩
                      by_cases hjk : j < k
                      · exact HA.out j hjk
                      · obtain rfl : j = k := by omega
                        exact HO.out g1 g2 (fun _ => by omega) g4 g5
                    case measure => simp [intOf]; omega
        · go_wp2_with (go_at_call 23; refine (within_c _ _ _ _).mono ?_; rintro e w' ⟨rfl, rfl⟩)
          all_goals
            go_ret
            exact ⟨ret_int (Cv.tarE_no (fun h => by have := (HN.out h).1.2; have := HE.out.1; omega)).symm, HBb.out.alloc (by omega) _⟩
      · go_wp2_with (go_at_call 23; refine (within_c _ _ _ _).mono ?_; rintro e w' ⟨rfl, rfl⟩)
        all_goals
          go_ret
          exact ⟨ret_int (Cv.tarE_no (fun h => by rcases HK.out h with h' | h' <;> omega)).symm, HBb.out.alloc (by omega) _⟩
    · go_wp2_with fail
      go_ret
      refine ⟨ret_int (Cv.tarE_ok ⟨hd, ⟨h1, h2⟩, HF.out, fun i hi => HA.out i (by omega)⟩).symm, HBb.out⟩
end Go.Proofs.Ytlklnaebdnahcaa
namespace Go.Proofs.Ytlklnaebdnahcaa
open Go.RowKit
theorem head_or {day fee : Int} {n : Nat} : HeadBad day fee n ∨ (Cv.inB day 1 1099511627776 = true ∧ 1 ≤ n ∧ n ≤ 48 ∧ Cv.inB fee 0 1048576 = true) := by
  unfold HeadBad
  by_cases h1 : 1 ≤ day ∧ day ≤ 1099511627776
  · by_cases h2 : 0 ≤ fee ∧ fee ≤ 1048576
    · by_cases h3 : n = 0
      · exact .inl (.inr (.inl h3))
      · by_cases h4 : 48 < n
        · exact .inl (.inr (.inr (.inl h4)))
        · exact .inr ⟨Cv.inB_iff.2 h1, by omega, by omega, Cv.inB_iff.2 h2⟩
    · exact .inl (.inr (.inr (.inr h2)))
  · exact .inl (.inl h1)
theorem tarE_head {day fee : Int} {bs : List Bd} (h : HeadBad day fee bs.length) : Cv.tarE day fee bs = 2 :=
  Cv.tarE_no (fun ht => by
    obtain ⟨h1, h2, h3, _⟩ := ht
    unfold HeadBad at h
    omega)
theorem CheckTariff_c (day fee : Int) (A : Option Addr) (bs : List Bd) (cap : Nat) (w : World) (hcap : bs.length ≤ cap) (hl : cap ≤ 9223372036854775807) (hw : BandsAt w A bs) :
    Calls Try.prog 37 #[.agg #[.int .i64 day, .slice A bs.length cap, .int .i64 fee]] w fun e w' => e = .returned (.int .i64 (Cv.tarE day fee bs)) ∧ Below w.heap.size w w' := by
  rcases head_or (day := day) (fee := fee) (n := bs.length) with h | ⟨h0, h1, h2, h3⟩
  · rw [tarE_head h]
    exact CheckTariff_head day fee A bs.length cap w (by omega) h
  · exact CheckTariff_body day fee A bs cap w h0 h1 h2 h3 hcap hw
end Go.Proofs.Ytlklnaebdnahcaa
namespace Go.Proofs.Ytlklnaebdnahcaa
open Go.RowKit
set_option maxHeartbeats 400000 in
theorem from_c (a b c x : Int) (w : World) (h : -9223372036854775807 ≤ a - x ∧ a - x ≤ 9223372036854775807) :
    Calls Try.prog 83 #[.agg #[.int .i64 a, .int .i64 b, .int .i64 c], .int .i64 x] w fun e w' => e = .returned (.int .i64 (a - x)) ∧ Below w.heap.size w w' := by
  go_enter Try.func83, Try.ntmps83
  go_wp2
  go_ret
  exact ⟨rfl, (Below.refl _ _).alloc (Nat.le_refl _) _⟩
def Found (bs : List Bd) (x : Int) (i : Nat) : Prop := i ≤ bs.length ∧ (∀ t, t < i → Cv.fr bs t < x) ∧ ∀ t, i ≤ t → t < bs.length → x ≤ Cv.fr bs t
set_option maxHeartbeats 4000000 in
theorem search_c (A : Option Addr) (bs : List Bd) (cap : Nat) (x : Int) (w : World) (hx : 0 ≤ x ∧ x ≤ 1099511627776) (hn : bs.length ≤ 48) (hcap : bs.length ≤ cap)
    (hfr : ∀ i, i < bs.length → 0 ≤ Cv.fr bs i ∧ Cv.fr bs i ≤ 1099511627776) (hmono : ∀ i j, i ≤ j → j < bs.length → Cv.fr bs i ≤ Cv.fr bs j) (hw : BandsAt w A bs) :
    Calls Try.prog 82 #[.slice A bs.length cap, .int .i64 x, .func (.func 83) #[] #[]] w fun e w' => ∃ i, Found bs x i ∧
      e = .returned (.tuple #[.int .i64 (i : Nat), .bool (decide (i < bs.length ∧ Cv.fr bs i = x))]) ∧ Below w.heap.size w w' := by
  have HW := Lib.hid hw
  have HF := Lib.hid hfr
  have HM := Lib.hid hmono
  clear hw hfr hmono
  go_enter Try.func82, Try.ntmps82
  go_wp2
  go_loopw [9, 10] (fun s9 s10 wr => ∃ lo hi : Nat, s9 = .int .i64 lo ∧ s10 = .int .i64 hi ∧ lo ≤ hi ∧ hi ≤ bs.length ∧ Hid (Below w.heap.size w wr) ∧
    Hid ((∀ t, t < lo → Cv.fr bs t < x) ∧ ∀ t, hi ≤ t → t < bs.length → x ≤ Cv.fr bs t)) (fun s9 s10 _ => (intOf s10).toNat - (intOf s9).toNat)
  case atStart => exact ⟨0, bs.length, rfl, rfl, Nat.zero_le _, Nat.le_refl _, Lib.hid (Below.refl _ _), Lib.hid ⟨fun t ht => absurd ht (Nat.not_lt_zero _), fun t h1 h2 => absurd h2 (by omega)⟩⟩
  case round =>
    obtain ⟨lo, hi, rfl, rfl, hlh, hin, HB, HI⟩ := hrel
    by_cases hlt : lo < hi
    · obtain ⟨ad, hA, hadb, c0, c1, c2⟩ := HW.out.below HB.out ((lo + hi) / 2) (by omega)
      subst hA
      have HY := Lib.hid (HF.out ((lo + hi) / 2) (by omega))
      have hc := fun w0 => from_c (Cv.fr bs ((lo + hi) / 2)) (Cv.inn bs ((lo + hi) / 2)) (Cv.bk bs ((lo + hi) / 2)) x w0 (by have := HY.out; omega)
      generalize hy : Cv.fr bs ((lo + hi) / 2) = y at c0 hc
      have HE := Lib.hid hy
      clear hy
      by_cases hyx : y - x < 0
      · go_wp2_with (go_at_call 83; refine (hc _).mono ?_; rintro e w' ⟨rfl, hb⟩; have HB2 := Lib.hid (HB.out.trans (hb.mono HB.out.size)); clear hb)
        go_roundw
        case rel =>
          refine ⟨(lo + hi) / 2 + 1, hi, by rw [show ((lo : Int) + (hi : Int)) / 2 + 1 = (((lo + hi) / 2 + 1 : Nat) : Int) by omega], rfl, by omega, hin, HB2, Lib.hid ⟨fun t ht => ?_, HI.out.2⟩⟩
          have h1 := HM.out t ((lo + hi) / 2) (by omega) (by omega)
          rw [HE.out] at h1
          omega
        case measure => simp [intOf]; omega
      · go_wp2_with (go_at_call 83; refine (hc _).mono ?_; rintro e w' ⟨rfl, hb⟩; have HB2 := Lib.hid (HB.out.trans (hb.mono HB.out.size)); clear hb)
        go_roundw
        case rel =>
          refine ⟨lo, (lo + hi) / 2, rfl, by rw [show ((lo : Int) + (hi : Int)) / 2 = (((lo + hi) / 2 : Nat) : Int) by omega], by omega, by omega, HB2, Lib.hid ⟨HI.out.1, fun t h1 h2 => ?_⟩⟩
          have h3 := HM.out ((lo + hi) / 2) t h1 h2
          rw [HE.out] at h3
          omega
        case measure => simp [intOf]; omega
    · obtain rfl : hi = lo := by omega
      have HFd := Lib.hid (show Found bs x hi from ⟨hin, HI.out.1, HI.out.2⟩)
      by_cases hn : hi < bs.length
      · obtain ⟨ad, hA, hadb, c0, c1, c2⟩ := HW.out.below HB.out hi hn
        subst hA
        have HY := Lib.hid (HF.out hi hn)
        have hc := fun w0 => from_c (Cv.fr bs hi) (Cv.inn bs hi) (Cv.bk bs hi) x w0 (by have := HY.out; omega)
        by_cases hyx : Cv.fr bs hi - x = 0
        · go_wp2_with (go_at_call 83; refine (hc _).mono ?_; rintro e w' ⟨rfl, hb⟩; have HB2 := Lib.hid (HB.out.trans (hb.mono HB.out.size)); clear hb)
          go_ret2
          exact ⟨hi, HFd.out, by rw [decide_eq_true (show hi < bs.length ∧ Cv.fr bs hi = x from ⟨hn, by omega⟩)]; rfl, HB2.out⟩
        · go_wp2_with (go_at_call 83; refine (hc _).mono ?_; rintro e w' ⟨rfl, hb⟩; have HB2 := Lib.hid (HB.out.trans (hb.mono HB.out.size)); clear hb)
          go_ret2
          exact ⟨hi, HFd.out, by rw [decide_eq_false (show ¬ (hi < bs.length ∧ Cv.fr bs hi = x) from fun h => hyx (by omega)), ← int_beq_false hyx]; rfl, HB2.out⟩
      · go_wp2
        go_ret2
        exact ⟨hi, HFd.out, by rw [decide_eq_false (show ¬ (hi < bs.length ∧ Cv.fr bs hi = x) from fun h => hn h.1)]; rfl, HB.out⟩
end Go.Proofs.Ytlklnaebdnahcaa
namespace Go.Proofs.Ytlklnaebdnahcaa
open Go.RowKit
end Go.Proofs.Ytlklnaebdnahcaa
namespace Go.Proofs.Ytlklnaebdnahcaa
open Go.RowKit
theorem tarE_or (day fee : Int) (bs : List Bd) : (Cv.TarOk day fee bs ∧ Cv.tarE day fee bs = 0) ∨ Cv.tarE day fee bs = 2 := by
  by_cases h : Cv.TarOk day fee bs
  · exact .inl ⟨h, Cv.tarE_ok h⟩
  · exact .inr (Cv.tarE_no h)
theorem price_2 {day fee : Int} {bs : List Bd} (a : Int) (h : Cv.tarE day fee bs = 2) : Cv.prE day fee bs a = 2 ∧ Cv.pr1 day fee bs a = 0 ∧ Cv.pr2 day fee bs a = 0 := by
  have e : Cv.prE day fee bs a = 2 := by simp [Cv.prE, h]
  exact ⟨e, by simp [Cv.pr1, e], by simp [Cv.pr2, e]⟩
theorem price_3 {day fee : Int} {bs : List Bd} {a : Int} (h : Cv.tarE day fee bs = 0) (ha : Cv.inB a 0 1099511627776 = false) : Cv.prE day fee bs a = 3 ∧ Cv.pr1 day fee bs a = 0 ∧ Cv.pr2 day fee bs a = 0 := by
  have e : Cv.prE day fee bs a = 3 := by simp [Cv.prE, h, ha]
  exact ⟨e, by simp [Cv.pr1, e], by simp [Cv.pr2, e]⟩
theorem price_0 {day fee : Int} {bs : List Bd} {a : Int} (h : Cv.tarE day fee bs = 0) (ha : Cv.inB a 0 1099511627776 = true) : Cv.prE day fee bs a = 0 ∧ Cv.pr1 day fee bs a = Cv.inn bs (Cv.prK day bs a) ∧ Cv.pr2 day fee bs a = Cv.bk bs (Cv.prK day bs a) := by
  have e : Cv.prE day fee bs a = 0 := by simp [Cv.prE, h, ha]
  exact ⟨e, by simp [Cv.pr1, e], by simp [Cv.pr2, e]⟩
theorem ret_pr {x y z x' y' z' : Int} (h : x = x' ∧ y = y' ∧ z = z') : Ending.returned (.tuple #[.int .i64 x, .int .i64 y, .int .i64 z]) = .returned (.tuple #[.int .i64 x', .int .i64 y', .int .i64 z']) := by
  obtain ⟨rfl, rfl, rfl⟩ := h
  rfl
end Go.Proofs.Ytlklnaebdnahcaa
namespace Go.Proofs.Ytlklnaebdnahcaa
open Go.RowKit
theorem found_band {day fee : Int} {bs : List Bd} {a : Int} {i : Nat} (hok : Cv.TarOk day fee bs) (ha : 0 ≤ a) (hf : Found bs (a % day) i) :
    (i < bs.length ∧ Cv.fr bs i = a % day ∧ Cv.prK day bs a = i) ∨ (¬ (i < bs.length ∧ Cv.fr bs i = a % day) ∧ ∃ k, i = k + 1 ∧ k < bs.length ∧ Cv.prK day bs a = k) := by
  obtain ⟨h1, h2, h3⟩ := hf
  have hm : 0 ≤ a % day := Int.emod_nonneg _ (by have := hok.1; omega)
  by_cases h : i < bs.length ∧ Cv.fr bs i = a % day
  · exact .inl ⟨h.1, h.2, Cv.bandK_eq bs _ i _ h.1 (by omega) (fun j hj hl => by have := Cv.fr_lt hok hj hl; omega)⟩
  · refine .inr ⟨h, ?_⟩
    have h0 := (hok.2.2.2 0 (by have := hok.2.1; omega)).2.1 rfl
    have hi : i ≠ 0 := by
      rintro rfl
      have h4 := h3 0 (Nat.le_refl _) (by have := hok.2.1; omega)
      exact h ⟨by have := hok.2.1; omega, by omega⟩
    refine ⟨i - 1, by omega, by omega, Cv.bandK_eq bs _ (i - 1) _ (by omega) (by have := h2 (i - 1) (by omega); omega) (fun j hj hl => ?_)⟩
    have h4 := h3 j (by omega) hl
    by_cases hij : j = i
    · subst hij
      have : Cv.fr bs j ≠ a % day := fun e => h ⟨hl, e⟩
      omega
    · have := Cv.fr_lt hok (show i < j by omega) hl
      have := h3 i (Nat.le_refl _) (by omega)
      omega
set_option maxHeartbeats 4000000 in
theorem Price_c (day fee : Int) (A : Option Addr) (bs : List Bd) (cap : Nat) (a : Int) (w : World) (hcap : bs.length ≤ cap) (hl : cap ≤ 9223372036854775807) (hw : BandsAt w A bs) :
    Calls Try.prog 53 #[.agg #[.int .i64 day, .slice A bs.length cap, .int .i64 fee], .int .i64 a] w fun e w' =>
      e = .returned (.tuple #[.int .i64 (Cv.pr1 day fee bs a), .int .i64 (Cv.pr2 day fee bs a), .int .i64 (Cv.prE day fee bs a)]) ∧ Below w.heap.size w w' := by
  have HW := Lib.hid hw
  have hc := fun w0 hw0 => CheckTariff_c day fee A bs cap w0 hcap hl hw0
  have HBW := fun w0 => Lib.hid (BandsAt.below (w1 := w0) hw)
  clear hw
  rcases tarE_or day fee bs with ⟨hok, he⟩ | he
  · simp only [he] at hc
    cases h1 : Cv.inB a 0 1099511627776
    · have HP := Lib.hid (price_3 he h1)
      clear hok he
      go_enter Try.func53, Try.ntmps53
      go_wp2_with (first | (go_at_call 37; refine (hc _ ((HBW _).out ((Below.refl _ _).alloc (Nat.le_refl _) _))).mono ?_; rintro e w1 ⟨rfl, hb⟩; have HB := Lib.hid hb; have t0 : w1.cell? ⟨w.heap.size, 0, none⟩ = some (.int .i64 day) := below_cell hb (by simp) (by go_simp); clear hb) | (go_at_call 23; refine (within_c _ _ _ _).mono ?_; rintro e w' ⟨rfl, rfl⟩))
      go_ret3
      exact ⟨ret_pr ⟨HP.out.2.1.symm, HP.out.2.2.symm, HP.out.1.symm⟩, ((Below.refl _ _).alloc (Nat.le_refl _) _).trans (HB.out.mono (by simp))⟩
    · have ha := Cv.inB_iff.1 h1
      have HP := Lib.hid (price_0 he h1)
      have ht : a.tmod day = a % day := Int.tmod_eq_emod_of_nonneg ha.1
      have hm : 0 ≤ a % day ∧ a % day < day := ⟨Int.emod_nonneg _ (by have := hok.1; omega), Int.emod_lt_of_pos _ (by have := hok.1; omega)⟩
      have hd := hok.1
      have hd0 : day ≠ 0 := by omega
      have hcs := fun w0 hw0 => search_c A bs cap (a % day) w0 (by omega) hok.2.1.2 hcap (fun i hi => by have := (hok.2.2.2 i hi).1; omega)
        (fun i j hij hj => by have := Cv.fr_mono hok (j - i) i (by omega); rwa [show i + (j - i) = j by omega] at this) hw0
      have HFB := fun i => Lib.hid (found_band (i := i) hok ha.1)
      have HL := Lib.hid hok.2.1
      clear hok he
      generalize Cv.prK day bs a = K at *
      generalize a % day = x at *
      go_enter Try.func53, Try.ntmps53
      go_wp2_with (first | (go_at_call 37; refine (hc _ ((HBW _).out ((Below.refl _ _).alloc (Nat.le_refl _) _))).mono ?_; rintro e w1 ⟨rfl, hb⟩; have HB := Lib.hid (((Below.refl w.heap.size w).alloc (Nat.le_refl _) _).trans (hb.mono (by simp))); have t0 : w1.cell? ⟨w.heap.size, 0, none⟩ = some (.int .i64 day) := below_cell hb (by simp) (by go_simp); have t1 : w1.cell? ⟨w.heap.size, 1, none⟩ = some (.slice A bs.length cap) := below_cell hb (by simp) (by go_simp); have hz : w.heap.size < w1.heap.size := (by have := hb.size; simp at this; omega); clear hb) | (go_at_call 23; refine (within_c _ _ _ _).mono ?_; rintro e w' ⟨rfl, rfl⟩))
      go_region_with (go_at_call 82; refine (hcs _ ((HBW _).out HB.out.drew)).mono ?_; rintro e w2 ⟨i, hf, rfl, hb⟩; have HB2 := Lib.hid (HB.out.drew.trans (hb.mono (show w.heap.size ≤ w1.heap.size from Nat.le_of_lt hz))); have s1 : w2.cell? ⟨w.heap.size, 1, none⟩ = some (.slice A bs.length cap) := below_cell hb (show w.heap.size < w1.heap.size from hz) (show w1.drew.cell? ⟨w.heap.size, 1, none⟩ = some (.slice A bs.length cap) from t1); generalize hq : decide (i < bs.length ∧ Cv.fr bs i = x) = q; have HF := Lib.hid (And.intro hf hq); clear hb hf hq)
      all_goals
        rcases (HFB i).out HF.out.1 with ⟨g1, g2, rfl⟩ | ⟨g1, k, rfl, g2, rfl⟩
        · obtain rfl : q = true := by rw [← HF.out.2]; exact decide_eq_true ⟨g1, g2⟩
          obtain ⟨ad, hA, hadb, c0, c1, c2⟩ := (HBW _).out HB2.out K g1
          subst hA
          clear c0
          go_wp2_with fail
          go_quiet (fail)
          go_wp2_with fail
          go_ret3
          exact ⟨ret_pr ⟨HP.out.2.1.symm, HP.out.2.2.symm, HP.out.1.symm⟩, below_drewN HB2.out _⟩
        · obtain rfl : q = false := by rw [← HF.out.2]; exact decide_eq_false g1
          obtain ⟨ad, hA, hadb, c0, c1, c2⟩ := (HBW _).out HB2.out K g2
          have hl48 := HL.out.2
          subst hA
          clear c0 g1
          go_wp2_with fail
          go_quiet (fail)
          go_wp2_with fail
          go_ret3
          exact ⟨ret_pr ⟨HP.out.2.1.symm, HP.out.2.2.symm, HP.out.1.symm⟩, below_drewN HB2.out _⟩
  · simp only [he] at hc
    have HP := Lib.hid (price_2 a he)
    clear he
    go_enter Try.func53, Try.ntmps53
    go_wp2_with (go_at_call 37; refine (hc _ ((HBW _).out ((Below.refl _ _).alloc (Nat.le_refl _) _))).mono ?_; rintro e w1 ⟨rfl, hb⟩; have HB := Lib.hid hb; clear hb)
    go_ret3
    exact ⟨ret_pr ⟨HP.out.2.1.symm, HP.out.2.2.symm, HP.out.1.symm⟩, ((Below.refl _ _).alloc (Nat.le_refl _) _).trans (HB.out.mono (by simp))⟩
end Go.Proofs.Ytlklnaebdnahcaa
namespace Go.Proofs.Ytlklnaebdnahcaa
open Go.RowKit
theorem price_bd {day fee : Int} {bs : List Bd} {a : Int} (h : Cv.prE day fee bs a = 0) : (0 ≤ Cv.pr1 day fee bs a ∧ Cv.pr1 day fee bs a ≤ 1048576) ∧ 0 ≤ Cv.pr2 day fee bs a ∧ Cv.pr2 day fee bs a ≤ 1048576 := by
  rcases tarE_or day fee bs with ⟨hok, he⟩ | he
  · cases h1 : Cv.inB a 0 1099511627776
    · have := (price_3 he h1).1; omega
    · obtain ⟨_, e1, e2⟩ := price_0 he h1
      rw [e1, e2]
      have hk : Cv.prK day bs a < bs.length := Cv.bandK_lt _ _ _ (by have := hok.2.1; omega)
      exact (hok.2.2.2 _ hk).2.2.2
  · have := (price_2 a he).1; omega
theorem mul_bd0 {x y : Int} {m n : Int} (hx : 0 ≤ x ∧ x ≤ m) (hy : 0 ≤ y ∧ y ≤ n) : 0 ≤ x * y ∧ x * y ≤ m * n :=
  ⟨Int.mul_nonneg hx.1 hy.1, Int.le_trans (Int.mul_le_mul_of_nonneg_right hx.2 hy.1) (Int.mul_le_mul_of_nonneg_left hy.2 (by omega))⟩
theorem co_no {day fee : Int} {bs : List Bd} {a x y : Int} (h : Cv.prE day fee bs a = 0) (g : Cv.coB x y = false) : Cv.coV day fee bs a x y = 0 ∧ Cv.coE day fee bs a x y = 3 := by
  have e : Cv.coE day fee bs a x y = 3 := by simp [Cv.coE, h, g]
  exact ⟨by simp [Cv.coV, e], e⟩
theorem co_yes {day fee : Int} {bs : List Bd} {a x y : Int} (h : Cv.prE day fee bs a = 0) (g : Cv.coB x y = true) : Cv.coV day fee bs a x y = x * Cv.pr1 day fee bs a / 3600000 - y * Cv.pr2 day fee bs a / 3600000 ∧ Cv.coE day fee bs a x y = 0 := by
  have e : Cv.coE day fee bs a x y = 0 := by simp [Cv.coE, h, g]
  exact ⟨by simp [Cv.coV, e], e⟩
theorem co_bad {day fee : Int} {bs : List Bd} {a x y : Int} (h : Cv.prE day fee bs a ≠ 0) : Cv.coV day fee bs a x y = 0 ∧ Cv.coE day fee bs a x y = Cv.prE day fee bs a := by
  have e : Cv.coE day fee bs a x y = Cv.prE day fee bs a := by simp [Cv.coE, h]
  exact ⟨by simp [Cv.coV, e, h], e⟩
set_option maxHeartbeats 4000000 in
theorem Cost_c (day fee : Int) (A : Option Addr) (bs : List Bd) (cap : Nat) (a x y : Int) (w : World) (hcap : bs.length ≤ cap) (hl : cap ≤ 9223372036854775807) (hw : BandsAt w A bs) :
    Calls Try.prog 34 #[.agg #[.int .i64 day, .slice A bs.length cap, .int .i64 fee], .int .i64 a, .int .i64 x, .int .i64 y] w fun e w' =>
      e = .returned (.tuple #[.int .i64 (Cv.coV day fee bs a x y), .int .i64 (Cv.coE day fee bs a x y)]) ∧ Below w.heap.size w w' := by
  have hc := fun w0 hw0 => Price_c day fee A bs cap a w0 hcap hl hw0
  have HBW := fun w0 => Lib.hid (BandsAt.below (w1 := w0) hw)
  have v1 := fun h g => co_no (day := day) (fee := fee) (bs := bs) (a := a) (x := x) (y := y) h g
  have v2 := fun h g => co_yes (day := day) (fee := fee) (bs := bs) (a := a) (x := x) (y := y) h g
  have v3 := fun h => co_bad (day := day) (fee := fee) (bs := bs) (a := a) (x := x) (y := y) h
  generalize Cv.coV day fee bs a x y = cv at *
  generalize Cv.coE day fee bs a x y = ce at *
  have hbd := price_bd (day := day) (fee := fee) (bs := bs) (a := a)
  clear hw
  generalize Cv.prE day fee bs a = pe at *
  generalize Cv.pr1 day fee bs a = p1 at *
  generalize Cv.pr2 day fee bs a = p2 at *
  by_cases he : pe = 0
  · subst he
    obtain ⟨⟨b1, b2⟩, b3, b4⟩ := hbd rfl
    have HC := Lib.hid (show Cv.coB x y = (Cv.inB x 0 1099511627776 && Cv.inB y 0 1099511627776) from rfl)
    cases h1 : Cv.inB x 0 1099511627776
    · obtain ⟨rfl, rfl⟩ := v1 rfl (by rw [HC.out, h1]; rfl)
      clear v1 v2 v3
      go_enter Try.func34, Try.ntmps34
      go_wp2_with (first | (go_at_call 53; refine (hc _ ((HBW _).out ((Below.refl _ _).alloc (Nat.le_refl _) _))).mono ?_; rintro e w1 ⟨rfl, hb⟩; have HB := Lib.hid (((Below.refl w.heap.size w).alloc (Nat.le_refl _) _).trans (hb.mono (by simp))); clear hb) | (go_at_call 23; refine (within_c _ _ _ _).mono ?_; rintro e w' ⟨rfl, rfl⟩))
      all_goals
        go_ret2
        exact ⟨rfl, HB.out⟩
    · cases h2 : Cv.inB y 0 1099511627776
      · obtain ⟨rfl, rfl⟩ := v1 rfl (by rw [HC.out, h1, h2]; rfl)
        clear v1 v2 v3
        go_enter Try.func34, Try.ntmps34
        go_wp2_with (first | (go_at_call 53; refine (hc _ ((HBW _).out ((Below.refl _ _).alloc (Nat.le_refl _) _))).mono ?_; rintro e w1 ⟨rfl, hb⟩; have HB := Lib.hid (((Below.refl w.heap.size w).alloc (Nat.le_refl _) _).trans (hb.mono (by simp))); clear hb) | (go_at_call 23; refine (within_c _ _ _ _).mono ?_; rintro e w' ⟨rfl, rfl⟩))
        all_goals
          go_ret2
          exact ⟨rfl, HB.out⟩
      · obtain ⟨rfl, rfl⟩ := v2 rfl (by rw [HC.out, h1, h2]; rfl)
        clear v1 v2 v3
        have hx := Cv.inB_iff.1 h1
        have hy := Cv.inB_iff.1 h2
        have m1 := mul_bd0 hx ⟨b1, b2⟩
        have m2 := mul_bd0 hy ⟨b3, b4⟩
        have d1 : (x * p1).tdiv 3600000 = x * p1 / 3600000 := Int.tdiv_eq_ediv_of_nonneg m1.1
        have d2 : (y * p2).tdiv 3600000 = y * p2 / 3600000 := Int.tdiv_eq_ediv_of_nonneg m2.1
        go_enter Try.func34, Try.ntmps34
        go_wp2_with (first | (go_at_call 53; refine (hc _ ((HBW _).out ((Below.refl _ _).alloc (Nat.le_refl _) _))).mono ?_; rintro e w1 ⟨rfl, hb⟩; have HB := Lib.hid (((Below.refl w.heap.size w).alloc (Nat.le_refl _) _).trans (hb.mono (by simp))); clear hb) | (go_at_call 23; refine (within_c _ _ _ _).mono ?_; rintro e w' ⟨rfl, rfl⟩))
        all_goals
          go_ret2
          exact ⟨rfl, HB.out⟩
  · have he' : (pe != 0) = true := by simpa using he
    obtain ⟨rfl, rfl⟩ := v3 he
    clear he hbd v1 v2 v3
    go_enter Try.func34, Try.ntmps34
    go_wp2_with (first | (go_at_call 53; refine (hc _ ((HBW _).out ((Below.refl _ _).alloc (Nat.le_refl _) _))).mono ?_; rintro e w1 ⟨rfl, hb⟩; have HB := Lib.hid (((Below.refl w.heap.size w).alloc (Nat.le_refl _) _).trans (hb.mono (by simp))); clear hb) | (go_at_call 23; refine (within_c _ _ _ _).mono ?_; rintro e w' ⟨rfl, rfl⟩))
    all_goals
      go_ret2
      exact ⟨rfl, HB.out⟩
end Go.Proofs.Ytlklnaebdnahcaa
namespace Go.Proofs.Ytlklnaebdnahcaa
open Go.RowKit
theorem info60 : (Try.prog.info? 91).map (fun i => (i.zero, i.size, i.bytes)) = some (some (.agg #[.int .i64 0, .int .i64 0, .int .i64 0, .int .i64 0, .int .i64 0]), 5, 40) := by kernel_rfl
set_option maxHeartbeats 1000000 in
theorem Send_x (g : Nat) (x x1 x2 x3 x4 : Int) (w : World) (c0 : w.cell? ⟨g, 0, none⟩ = some (.bool true)) (c1 : w.cell? ⟨g, 1, none⟩ = some (.slice none 0 0)) (f1 : w.frozen? ⟨g, 1, none⟩ = false) (hg : g < w.heap.size) : Calls Try.prog 36 #[.pointer (some ⟨g, 0, none⟩), .agg #[.int .i64 x, .int .i64 x1, .int .i64 x2, .int .i64 x3, .int .i64 x4]] w fun e w' => e = .returned (.int .i64 0) ∧ Below g w w' ∧ w'.cell? ⟨g, 0, none⟩ = some (.bool true) ∧ ∃ g' cap, w'.cell? ⟨g, 1, none⟩ = some (.slice (some ⟨g', 0, none⟩) 1 cap) := by
  obtain ⟨i0, hi, hz0, hz1, hz2⟩ := info_parts info60
  go_enter Try.func36, Try.ntmps36
  go_wp2
  go_region_law (first | (refine step_append_lies _ rfl (.tmp 20) (.tmp 22) 122 rfl w.heap.size 91 i0 (.agg #[.int .i64 0, .int .i64 0, .int .i64 0, .int .i64 0, .int .i64 0]) 5 40 Try.underlying122 hi hz0 hz1 hz2 rfl (by decide) (.slice none 0 0) 0 [] (by simp [Act.eval]) (World.ownsRow_nil _ _ _ _) ⟨w.heap.size + 1, 0, none⟩ 1 1 [.int .i64 x, .int .i64 x1, .int .i64 x2, .int .i64 x3, .int .i64 x4] (by simp [Act.eval]) rfl (by intro j u hj; match j, hj with | 0, hj => simp at hj; subst hj; simp [Addr.add, go_sem] | 1, hj => simp at hj; subst hj; simp [Addr.add, go_sem] | 2, hj => simp at hj; subst hj; simp [Addr.add, go_sem] | 3, hj => simp at hj; subst hj; simp [Addr.add, go_sem] | 4, hj => simp at hj; subst hj; simp [Addr.add, go_sem]) (by simp [Value.oneCell']) (by omega) (by decide) (by omega) (by simp; omega) _ rfl ?_; intro g' cap w1 hown hgrow hat hlt; have d1 : w1.cell? ⟨g, 1, none⟩ = some (.slice none 0 0) := (hgrow.cell_far ⟨g, 1, none⟩ (by simp; omega) (by simp [Value.ownBlock])).trans (by go_simp); have e1 : w1.frozen? ⟨g, 1, none⟩ = false := (hgrow.frozen_far ⟨g, 1, none⟩ (by simp; omega) (by simp [Value.ownBlock])).trans (by go_simp); have d0 : w1.cell? ⟨g, 0, none⟩ = some (.bool true) := (hgrow.cell_far ⟨g, 0, none⟩ (by simp; omega) (by simp [Value.ownBlock])).trans (by go_simp); have hb : Below g w w1 := Below.grown ((((Below.refl g w).alloc (by omega) _).drew).alloc (by simp; omega) _) hgrow (by simp; omega) (by simp [Value.ownBlock])))
  all_goals
    go_wp2_with fail
    go_ret
    exact ⟨rfl, hb.setCell (Nat.le_refl _) _, by go_simp, g', cap, by go_simp⟩
end Go.Proofs.Ytlklnaebdnahcaa
namespace Go.Proofs.Ytlklnaebdnahcaa
open Go.RowKit
def exBs : List Bd := [⟨0, 36, 18⟩, ⟨50, 72, 0⟩]
set_option maxHeartbeats 1000000 in
theorem Example_c (w : World) : Calls Try.prog 35 #[] w fun e w' => (∃ g, e = .returned (.agg #[.int .i64 100, .slice (some ⟨g, 0, none⟩) 2 2, .int .i64 10]) ∧ BandsAt w' (some ⟨g, 0, none⟩) exBs) ∧ Below w.heap.size w w' := by
  go_enter Try.func35, Try.ntmps35
  go_wp2
  refine bodyPost_ret (v := .agg #[.int .i64 100, .slice (some ⟨w.heap.size + 1, 0, none⟩) 2 2, .int .i64 10]) (by simp [results, Try.results35, go_sem]) rfl ⟨⟨w.heap.size + 1, rfl, ?_⟩, ((Below.refl _ _).alloc (Nat.le_refl _) _).alloc (by simp) _⟩
  intro i hi
  have hi2 : i < 2 := hi
  have h01 : i = 0 ∨ i = 1 := by omega
  rcases h01 with rfl | rfl
  · exact ⟨_, rfl, by simp, by simp [Addr.add, go_sem, Cv.fr, exBs], by simp [Addr.add, go_sem, Cv.inn, exBs], by simp [Addr.add, go_sem, Cv.bk, exBs]⟩
  · exact ⟨_, rfl, by simp, by simp [Addr.add, go_sem, Cv.fr, exBs], by simp [Addr.add, go_sem, Cv.inn, exBs], by simp [Addr.add, go_sem, Cv.bk, exBs]⟩
theorem exOk : Cv.TarOk 100 10 exBs := by
  refine ⟨by omega, ⟨by decide, by decide⟩, by omega, fun i hi => ?_⟩
  have hi2 : i < 2 := hi
  have h01 : i = 0 ∨ i = 1 := by omega
  rcases h01 with rfl | rfl <;> simp [Cv.okAt, Cv.fr, Cv.inn, Cv.bk, exBs]
theorem exPrice : Cv.prE 100 10 exBs 50 = 0 ∧ Cv.pr1 100 10 exBs 50 = 72 ∧ Cv.pr2 100 10 exBs 50 = 0 := by
  have hK : Cv.prK 100 exBs 50 = 1 := by simp [Cv.prK, Cv.bandK, Cv.fr, exBs]
  have h := price_0 (a := 50) (Cv.tarE_ok exOk) (by decide)
  rw [hK] at h
  exact ⟨h.1, h.2.1.trans rfl, h.2.2.trans rfl⟩
theorem exCost : Cv.coV 100 10 exBs 50 3600000 0 = 72 ∧ Cv.coE 100 10 exBs 50 3600000 0 = 0 := by
  have h := co_yes (x := 3600000) (y := 0) exPrice.1 (by decide)
  rw [exPrice.2.1, exPrice.2.2] at h
  exact ⟨h.1.trans (by decide), h.2⟩
theorem NewLine_c (w : World) : Calls Try.prog 19 #[] w fun e w' => e = .returned (.pointer (some ⟨w.heap.size, 0, none⟩)) ∧ w' = w.alloc (.cells #[.bool true, .slice none 0 0, .int .i64 0, .int .i64 0, .bool false] 128) := by
  go_enter Try.func19, Try.ntmps19
  go_wp2
  go_ret
  exact ⟨rfl, rfl⟩
set_option maxHeartbeats 1000000 in
theorem Waiting_c (g n cap : Nat) (A : Option Addr) (w : World) (c0 : w.cell? ⟨g, 0, none⟩ = some (.bool true)) (c1 : w.cell? ⟨g, 1, none⟩ = some (.slice A n cap)) : Calls Try.prog 32 #[.pointer (some ⟨g, 0, none⟩)] w fun e w' => e = .returned (.int .i64 n) ∧ w' = w := by
  go_enter Try.func32, Try.ntmps32
  go_wp2
  go_ret
  exact ⟨rfl, rfl⟩
set_option maxHeartbeats 4000000 in
theorem works_c (w : World) : Calls Try.prog 11 #[] w fun e w' => e = .returned (.bool true) ∧ Below w.heap.size w w' := by
  have hc := fun g w0 hw => Cost_c 100 10 (some ⟨g, 0, none⟩) exBs 2 50 3600000 0 w0 (by decide) (by omega) hw
  simp only [exCost.1, exCost.2] at hc
  go_enter Try.func11, Try.ntmps11
  go_wp2_with (first
    | (go_at_call 35; refine (Example_c _).mono ?_; rintro e w1 ⟨⟨g, rfl, hbs⟩, hb⟩; have HB := Lib.hid hb; have HS := Lib.hid hbs; clear hb hbs)
    | (go_at_call 34; refine (hc _ _ HS.out).mono ?_; rintro e w2 ⟨rfl, hb⟩; have HB2 := Lib.hid (HB.out.trans (hb.mono HB.out.size)); clear hb)
    | (go_at_call 19; refine (NewLine_c _).mono ?_; rintro e w3 ⟨rfl, rfl⟩)
    | (go_at_call 36; refine (Send_x _ _ _ _ _ _ _ (by go_simp) (by go_simp) (by go_simp) (by simp)).mono ?_; rintro e w4 ⟨rfl, hb, d0, g', cap, d1⟩; have HB4 := Lib.hid ((HB2.out.alloc HB2.out.size _).trans (hb.mono HB2.out.size)); clear hb)
    | (go_at_call 32; refine (Waiting_c _ 1 _ _ _ d0 d1).mono ?_; rintro e w5 ⟨rfl, rfl⟩))
  all_goals
    go_ret
    exact ⟨rfl, HB4.out⟩
end Go.Proofs.Ytlklnaebdnahcaa
namespace Go.Proofs.Ytlklnaebdnahcaa
open Go.RowKit
def Nt.vals (n : Nt) : List Value := [.int .i64 n.k, .int .i64 n.s, .int .i64 n.a, .int .i64 n.b, .int .i64 n.c]
def flat (L : List Nt) : List Value := L.flatMap Nt.vals
theorem flat_append (a b : List Nt) : flat (a ++ b) = flat a ++ flat b := by simp [flat]
theorem flat_one (n : Nt) : flat [n] = n.vals := by simp [flat]
theorem flat_length (L : List Nt) : (flat L).length = L.length * 5 := by
  induction L with
  | nil => rfl
  | cons n L ih =>
    have e : flat (n :: L) = n.vals ++ flat L := rfl
    rw [e, List.length_append, ih, List.length_cons]
    simp [Nt.vals]
    omega
theorem flat_drop (L : List Nt) : ∀ k, (flat L).drop (k * 5) = flat (L.drop k) := by
  induction L with
  | nil => intro k; simp [flat]
  | cons n L ih =>
    intro k
    cases k with
    | zero => rfl
    | succ k =>
      have e : flat (n :: L) = n.vals ++ flat L := rfl
      rw [e, show (k + 1) * 5 = n.vals.length + k * 5 by simp [Nt.vals]; omega, ← List.drop_drop, List.drop_left, ih k]
      rfl
theorem flat_one' (L : List Nt) : ∀ u ∈ flat L, u.oneCell' = true := by
  intro u hu
  simp only [flat, List.mem_flatMap, Nt.vals] at hu
  obtain ⟨n, _, hu⟩ := hu
  simp at hu
  rcases hu with rfl | rfl | rfl | rfl | rfl <;> rfl
structure LineAt (w : World) (B g : Nat) (A : Option Addr) (cap : Nat) (l : Ln) : Prop where
  blk : Blk w g 128 [.bool true, .slice A l.L.length cap, .int .i64 l.dn, .int .i64 l.tk, .bool l.ow]
  own : w.ownsRow B 91 5 (.slice A l.L.length cap) l.L.length (flat l.L)
  base : B ≤ g
  apart : ¬ OwnB A g
structure LineRAt (w : World) (B g : Nat) (A : Option Addr) (cap : Nat) (l : Ln) : Prop where
  blk : Blk w g 999 [.slice A l.L.length cap, .int .i64 l.dn, .int .i64 l.tk, .bool l.ow]
  own : w.ownsRow B 91 5 (.slice A l.L.length cap) l.L.length (flat l.L)
  base : B ≤ g
  apart : ¬ OwnB A g
section
variable {w w' : World} {B g : Nat} {A : Option Addr} {cap : Nat} {l : Ln}
theorem own_ne {g n : Nat} (h : ¬ OwnB A g) : some g ≠ (Value.slice A n cap).ownBlock := fun e => h (ownB_iff.2 e.symm)
theorem own_keep {S : Nat → Prop} {n : Nat} {xs : List Value} (h : w.ownsRow B 91 5 (.slice A n cap) n xs) (ht : Touch S w w') (hn : ∀ k, OwnB A k → ¬ S k) : w'.ownsRow B 91 5 (.slice A n cap) n xs := by
  refine ⟨h.1, ?_⟩
  rcases h.2 with h2 | ⟨k, c, cur, hv, hb, hg, r⟩
  · exact .inl h2
  · cases hv
    exact .inr ⟨k, cap, cur, rfl, hb, by rw [ht.block k (Array.getElem?_eq_some_iff.1 hg).1 (hn k ⟨_, rfl, rfl⟩)]; exact hg, r⟩
theorem own_lt {n : Nat} {xs : List Value} (h : w.ownsRow B 91 5 (.slice A n cap) n xs) {k : Nat} (hk : OwnB A k) : B ≤ k ∧ k < w.heap.size := by
  rcases h.2 with ⟨h2, _⟩ | ⟨g', c, cur, hv, hb, hg, r⟩
  · cases h2; obtain ⟨a, e, _⟩ := hk; cases e
  · cases hv
    obtain ⟨a, e, rfl⟩ := hk
    cases e
    exact ⟨hb, (Array.getElem?_eq_some_iff.1 hg).1⟩
theorem own_src {n : Nat} {L : List Nt} (h : w.ownsRow B 91 5 (.slice A n cap) n (flat L)) (k : Nat) (hk : k ≤ L.length) : SrcRow w (A.map fun a => a.add (k * 5)) (L.length - k) (flat (L.drop k)) ∧ (A = none → L = []) := by
  rcases h.2 with ⟨h2, hn⟩ | ⟨g', c, cur, hv, hb, hg, hnc, hcm, hcs, htake⟩
  · cases h2
    have hl := h.1
    rw [hn, flat_length] at hl
    have : L = [] := List.eq_nil_of_length_eq_zero (by omega)
    subst this
    exact ⟨.inl ⟨rfl, by simp⟩, fun _ => rfl⟩
  · cases hv
    refine ⟨.inr ⟨_, rfl, fun j u hu => ?_⟩, fun e => by cases e⟩
    rw [← flat_drop, List.getElem?_drop] at hu
    have hc := World.ownsRow.cells (g := g') h rfl (k * 5 + j) u hu
    rw [Go.Deep.add_add]
    exact hc
theorem LineAt.touch {S : Nat → Prop} (h : LineAt w B g A cap l) (ht : Touch S w w') (hg : ¬ S g) (hn : ∀ k, OwnB A k → ¬ S k) : LineAt w' B g A cap l := ⟨h.blk.touch ht hg, own_keep h.own ht hn, h.base, h.apart⟩
theorem LineRAt.touch {S : Nat → Prop} (h : LineRAt w B g A cap l) (ht : Touch S w w') (hg : ¬ S g) (hn : ∀ k, OwnB A k → ¬ S k) : LineRAt w' B g A cap l := ⟨h.blk.touch ht hg, own_keep h.own ht hn, h.base, h.apart⟩
end
def NewRow (w : World) (A A' : Option Addr) : Prop := ∀ k, OwnB A' k → OwnB A k ∨ w.heap.size ≤ k
def LineTo (w : World) (B g : Nat) (A : Option Addr) (l' : Ln) (w' : World) : Prop := (∃ A' cap', LineAt w' B g A' cap' l' ∧ NewRow w A A') ∧ Touch (fun k => k = g ∨ OwnB A k) w w'
theorem validL_c (g : Nat) (w : World) (c0 : w.cell? ⟨g, 0, none⟩ = some (.bool true)) : Calls Try.prog 52 #[.pointer (some ⟨g, 0, none⟩)] w fun e w' => e = .returned (.bool true) ∧ w = w' := by
  go_enter Try.func52, Try.ntmps52
  go_wp2
  go_ret
  exact ⟨rfl, rfl⟩
theorem WaitingL_c (B g : Nat) (A : Option Addr) (cap : Nat) (l : Ln) (w : World) (h : LineAt w B g A cap l) : Calls Try.prog 32 #[.pointer (some ⟨g, 0, none⟩)] w fun e w' => e = .returned (.int .i64 l.L.length) ∧ w = w' :=
  (Waiting_c g _ _ _ w (h.blk.cell 0 rfl) (h.blk.cell 1 rfl)).mono fun _ _ ⟨h1, h2⟩ => ⟨h1, h2.symm⟩
theorem noteC {W : World} {b : Nat} {n : Nt} (h : Blk W b 91 n.vals) : W.cell? ⟨b, 0, none⟩ = some (.int .i64 n.k) ∧ W.cell? ⟨b, 1, none⟩ = some (.int .i64 n.s) ∧ W.cell? ⟨b, 2, none⟩ = some (.int .i64 n.a) ∧ W.cell? ⟨b, 3, none⟩ = some (.int .i64 n.b) ∧ W.cell? ⟨b, 4, none⟩ = some (.int .i64 n.c) :=
  ⟨h.cell 0 rfl, h.cell 1 rfl, h.cell 2 rfl, h.cell 3 rfl, h.cell 4 rfl⟩
theorem send_end {w w1 : World} {B g : Nat} {A A' : Option Addr} {cap cap' len : Nat} {l : Ln} {n : Nt} {o o' : Obj} (h : LineAt w B g A cap l) (hl : len = l.L.length)
    (hb : Blk w1 g 128 [.bool true, .slice A l.L.length cap, .int .i64 l.dn, .int .i64 l.tk, .bool l.ow]) (hown : w1.ownsRow B 91 5 (.slice A' (len + 1) cap') (len + 1) (flat l.L ++ n.vals))
    (hg : (((w.alloc o).drew).alloc o').grownBy w1 (Value.slice A len cap).ownBlock) (ha : ∀ k, OwnB A' k → OwnB A k ∨ k = (((w.alloc o).drew).alloc o').heap.size) : LineTo w B g A { l with L := l.L ++ [n] } (w1.setCell ⟨g, 1, none⟩ (.slice A' (len + 1) cap')) := by
  subst hl
  have hA : ¬ OwnB A' g := fun e => by
    rcases ha g e with e | e
    · exact h.apart e
    · have := h.blk.lt; simp at e; omega
  have ht : Touch (fun k => k = g ∨ OwnB A k) w w1 := ((((Touch.refl _ _).alloc _).drew).alloc _).grown hg (fun k hk => .inl (.inr (ownB_iff.2 hk)))
  refine ⟨⟨A', cap', ⟨?_, ?_, h.base, hA⟩, fun k hk => ?_⟩, ht.setCell (.inl (.inl rfl)) _⟩
  · have := hb.setCell 1 (.slice A' (l.L.length + 1) cap')
    simpa using this
  · have : w1.ownsRow B 91 5 (.slice A' (l.L.length + 1) cap') (l.L.length + 1) (flat (l.L ++ [n])) := by rw [flat_append, flat_one]; exact hown
    have h2 := own_keep this (S := fun k => k = g) (w' := w1.setCell ⟨g, 1, none⟩ (.slice A' (l.L.length + 1) cap')) ((Touch.refl _ _).put 1 _) (fun k hk e => hA (e ▸ hk))
    simpa using h2
  · rcases ha k hk with e | e
    · exact .inl e
    · right; simp at e; omega
set_option maxHeartbeats 2000000 in
theorem Send_c (B g : Nat) (A : Option Addr) (cap : Nat) (l : Ln) (n : Nt) (w : World) (h : LineAt w B g A cap l) (hB : B ≤ w.heap.size) : Calls Try.prog 36 #[.pointer (some ⟨g, 0, none⟩), .agg #[.int .i64 n.k, .int .i64 n.s, .int .i64 n.a, .int .i64 n.b, .int .i64 n.c]] w
    fun e w' => e = .returned (.int .i64 (Lx.sendE l)) ∧ LineTo w B g A (Lx.sendL l n) w' := by
  have hlt := h.blk.lt
  have c0 := h.blk.cell 0 rfl
  have c1 := h.blk.cell 1 rfl
  have f1 := h.blk.free 1
  have H := Lib.hid h
  have HB := Lib.hid hB
  clear h hB
  by_cases hn : 64 ≤ l.L.length
  · have e1 : Lx.sendE l = 11 := by unfold Lx.sendE; rw [if_pos hn]
    have e2 : Lx.sendL l n = l := by unfold Lx.sendL; rw [if_pos hn]
    have hd : decide (64 ≤ (l.L.length : Int)) = true := by simp; omega
    rw [e1, e2]
    clear e1 e2
    go_enter Try.func36, Try.ntmps36
    go_wp2_with (go_at_call 52; refine (validL_c _ _ (by go_simp)).mono ?_; rintro e w' ⟨rfl, rfl⟩)
    go_ret
    have ht : Touch (fun k => k = g ∨ OwnB A k) w (w.alloc (.cells #[.int .i64 n.k, .int .i64 n.s, .int .i64 n.a, .int .i64 n.b, .int .i64 n.c] 91)) := (Touch.refl _ _).alloc _
    exact ⟨rfl, ⟨A, cap, H.out.touch (S := fun _ => False) ((Touch.refl _ _).alloc _) (fun h => h) (fun _ _ h => h), fun k hk => .inl hk⟩, ht⟩
  · have e1 : Lx.sendE l = 0 := by unfold Lx.sendE; rw [if_neg hn]
    have e2 : Lx.sendL l n = { l with L := l.L ++ [n] } := by unfold Lx.sendL; rw [if_neg hn]
    have hd : decide (64 ≤ (l.L.length : Int)) = false := by simp; omega
    rw [e1, e2]
    clear e1 e2
    obtain ⟨i0, hi, hz0, hz1, hz2⟩ := info_parts info60
    obtain ⟨len, hlen⟩ : ∃ len, len = l.L.length := ⟨_, rfl⟩
    rw [← hlen] at c1 hd
    have HN := Lib.hid hn
    have HLen := Lib.hid hlen
    have HO : w.ownsRow B 91 5 (.slice A len cap) len (flat l.L) := by rw [hlen]; exact H.out.own
    have HOwn := Lib.hid HO
    clear hn hlen HO
    go_enter Try.func36, Try.ntmps36
    go_wp2_with (go_at_call 52; refine (validL_c _ _ (by go_simp)).mono ?_; rintro e w' ⟨rfl, rfl⟩)
    refine lBegin (S := fun L W => (W.cell? ⟨w.heap.size, 0, none⟩ = some (.int .i64 n.k) ∧ W.cell? ⟨w.heap.size, 1, none⟩ = some (.int .i64 n.s) ∧ W.cell? ⟨w.heap.size, 2, none⟩ = some (.int .i64 n.a) ∧ W.cell? ⟨w.heap.size, 3, none⟩ = some (.int .i64 n.b) ∧ W.cell? ⟨w.heap.size, 4, none⟩ = some (.int .i64 n.c)) ∧ (L.getD 12 false = true ∨ (W.cell? ⟨g, 1, none⟩ = some (.slice A len cap)))) (by kernel_rfl) ?_ (fun hHeld => ?_)
    · (try dsimp only); refine ⟨?_, Or.inr ?_⟩
      · (first | with_reducible assumption | exact noteC ((Blk.new' w _ 91).drew) | exact noteC ((Blk.new' w _ 91).drew.alloc _) | exact noteC HBx.out | exact noteC (HBx.out.setCell_ne (by show w.heap.size ≠ g; omega) _))
      · (first | with_reducible assumption | go_simp)
    refine lTake (i := 0) (v := ?_) rfl (by kernel_rfl) (by kernel_rfl) (by kernel_rfl) (fun _ _ _ h => h) (by rfl) (fun _ _ h => by simpa only [getD_set_ne false (show 0 ≠ 12 by decide)] using h) (fun _ _ h => by simpa only [getD_set_ne false (show 0 ≠ 12 by decide)] using h) ?_ (by assumption) (fun hHeld2 => ?_)
    rotate_left 1
    · (intro _ _ _ _ _; first | (go_simp; done) | (go_simp; with_reducible rfl))
    clear hHeld; have hHeld := hHeld2; clear hHeld2
    (try simp only [Act.put, List.setIfInBounds_toArray, List.set_cons_zero, List.set_cons_succ])
    refine lTake (i := 1) (v := ?_) rfl (by kernel_rfl) (by kernel_rfl) (by kernel_rfl) (fun _ _ _ h => h) (by rfl) (fun _ _ h => by simpa only [getD_set_ne false (show 1 ≠ 12 by decide)] using h) (fun _ _ h => by simpa only [getD_set_ne false (show 1 ≠ 12 by decide)] using h) ?_ (by assumption) (fun hHeld2 => ?_)
    rotate_left 1
    · (intro _ _ _ _ _; first | (go_simp; done) | (go_simp; with_reducible rfl))
    clear hHeld; have hHeld := hHeld2; clear hHeld2
    (try simp only [Act.put, List.setIfInBounds_toArray, List.set_cons_zero, List.set_cons_succ])
    refine lTake (i := 2) (v := ?_) rfl (by kernel_rfl) (by kernel_rfl) (by kernel_rfl) (fun _ _ _ h => h) (by rfl) (fun _ _ h => by simpa only [getD_set_ne false (show 2 ≠ 12 by decide)] using h) (fun _ _ h => by simpa only [getD_set_ne false (show 2 ≠ 12 by decide)] using h) ?_ (by assumption) (fun hHeld2 => ?_)
    rotate_left 1
    · (intro _ _ _ _ _; first | (go_simp; done) | (go_simp; with_reducible rfl))
    clear hHeld; have hHeld := hHeld2; clear hHeld2
    (try simp only [Act.put, List.setIfInBounds_toArray, List.set_cons_zero, List.set_cons_succ])
    refine lTake (i := 3) (v := ?_) rfl (by kernel_rfl) (by kernel_rfl) (by kernel_rfl) (fun _ _ _ h => h) (by rfl) (fun _ _ h => by simpa only [getD_set_ne false (show 3 ≠ 12 by decide)] using h) (fun _ _ h => by simpa only [getD_set_ne false (show 3 ≠ 12 by decide)] using h) ?_ (by assumption) (fun hHeld2 => ?_)
    rotate_left 1
    · (intro _ _ _ _ _; first | (go_simp; done) | (go_simp; with_reducible rfl))
    clear hHeld; have hHeld := hHeld2; clear hHeld2
    (try simp only [Act.put, List.setIfInBounds_toArray, List.set_cons_zero, List.set_cons_succ])
    refine lTake (i := 4) (v := ?_) rfl (by kernel_rfl) (by kernel_rfl) (by kernel_rfl) (fun _ _ _ h => h) (by rfl) (fun _ _ h => by simpa only [getD_set_ne false (show 4 ≠ 12 by decide)] using h) (fun _ _ h => by simpa only [getD_set_ne false (show 4 ≠ 12 by decide)] using h) ?_ (by assumption) (fun hHeld2 => ?_)
    rotate_left 1
    · (intro _ _ _ _ _; first | (go_simp; done) | (go_simp; with_reducible rfl))
    clear hHeld; have hHeld := hHeld2; clear hHeld2
    (try simp only [Act.put, List.setIfInBounds_toArray, List.set_cons_zero, List.set_cons_succ])
    refine lTake (i := 5) (v := ?_) rfl (by kernel_rfl) (by kernel_rfl) (by kernel_rfl) (fun _ _ _ h => h) (by rfl) (fun _ _ h => by simpa only [getD_set_ne false (show 5 ≠ 12 by decide)] using h) (fun _ _ h => by simpa only [getD_set_ne false (show 5 ≠ 12 by decide)] using h) ?_ (by assumption) (fun hHeld2 => ?_)
    rotate_left 1
    · (intro L W hL hK hSw; (try dsimp only at hSw); obtain ⟨h0, h1⟩ := hSw; replace h1 := still [] hK hL (by kernel_rfl) h1; clear hL hK; first | (go_simp; done) | (go_simp; with_reducible rfl))
    clear hHeld; have hHeld := hHeld2; clear hHeld2
    (try simp only [Act.put, List.setIfInBounds_toArray, List.set_cons_zero, List.set_cons_succ])
    refine lTake (i := 6) (v := ?_) rfl (by kernel_rfl) (by kernel_rfl) (by kernel_rfl) (fun _ _ _ h => h) (by rfl) (fun _ _ h => by simpa only [getD_set_ne false (show 6 ≠ 12 by decide)] using h) (fun _ _ h => by simpa only [getD_set_ne false (show 6 ≠ 12 by decide)] using h) ?_ (by assumption) (fun hHeld2 => ?_)
    rotate_left 1
    · (intro L W hL hK hSw; (try dsimp only at hSw); obtain ⟨h0, h1⟩ := hSw; replace h1 := still [] hK hL (by kernel_rfl) h1; clear hL hK; first | (go_simp; done) | (go_simp; with_reducible rfl))
    clear hHeld; have hHeld := hHeld2; clear hHeld2
    (try simp only [Act.put, List.setIfInBounds_toArray, List.set_cons_zero, List.set_cons_succ])
    refine lReady (rs := [7]) (by kernel_rfl) (by simp) ?_
    refine AllL.cons (i := 7) rfl (fun K hK => ?_) ?_
    · go_simp
      (try go_wp2_with fail)
      refine hK.out _ _ ?_ (fun hHeld2 => ?_)
      · (try dsimp only); refine ⟨?_, Or.inr ?_⟩
        · (first | with_reducible assumption | exact noteC ((Blk.new' w _ 91).drew) | exact noteC ((Blk.new' w _ 91).drew.alloc _) | exact noteC HBx.out | exact noteC (HBx.out.setCell_ne (by show w.heap.size ≠ g; omega) _))
        · (first | with_reducible assumption | go_simp)
      clear hK K
      clear hHeld; have hHeld := hHeld2; clear hHeld2
      (try simp only [Act.put, List.setIfInBounds_toArray, List.set_cons_zero, List.set_cons_succ])
      refine lReady (rs := [8]) (by kernel_rfl) (by simp) ?_
      refine AllL.cons (i := 8) rfl (fun K hK => ?_) ?_
      · refine step_append_any (.tmp 20) (.tmp 22) 122 rfl rfl B 91 i0 (.agg #[.int .i64 0, .int .i64 0, .int .i64 0, .int .i64 0, .int .i64 0]) 5 40 Try.underlying122 hi hz0 hz1 hz2 rfl (by decide) A len cap (flat l.L) (by rfl) (own_keep HOwn.out (S := fun _ => False) ((((Touch.refl _ _).alloc _).drew).alloc _) (fun _ _ h => h)) (some ⟨w.heap.size + 1, 0, none⟩) 1 1 n.vals (by rfl) rfl (.inr ⟨_, rfl, fun j u hu => by have hb := (Blk.new' (w.alloc (.cells #[.int .i64 n.k, .int .i64 n.s, .int .i64 n.a, .int .i64 n.b, .int .i64 n.c] 91)).drew #[.int .i64 n.k, .int .i64 n.s, .int .i64 n.a, .int .i64 n.b, .int .i64 n.c] 91); have hs : (w.alloc (.cells #[.int .i64 n.k, .int .i64 n.s, .int .i64 n.a, .int .i64 n.b, .int .i64 n.c] 91)).drew.heap.size = w.heap.size + 1 := (by simp); rw [hs] at hb; have := hb.cell j hu; rw [show ((⟨w.heap.size + 1, 0, none⟩ : Addr).add j) = ⟨w.heap.size + 1, j, none⟩ from (by unfold Addr.add; split <;> simp_all)]; exact this⟩) (fun u hu => flat_one' [n] u (by rw [flat_one]; exact hu)) (by have := HN.out; have := HLen.out; unfold maxLen; omega) (by have := HN.out; have := HLen.out; omega) (by have := HB.out; simp; omega) ?_; intro A' cap' w1 hown hgrow hat; have hb1 := Blk.grown (((H.out.blk.alloc _).drew).alloc _) hgrow (own_ne H.out.apart); have HBx := Lib.hid (Blk.grown ((Blk.new' w #[.int .i64 n.k, .int .i64 n.s, .int .i64 n.a, .int .i64 n.b, .int .i64 n.c] 91).drew.alloc _) hgrow (own_ne (fun h => by have := own_lt HOwn.out h; omega))); have d1 : w1.cell? ⟨g, 1, none⟩ = some (.slice A len cap) := (by rw [HLen.out]; exact hb1.cell 1 rfl); have e1 := hb1.free 1; have HB1 := Lib.hid hb1; have HOw := Lib.hid hown; have HG := Lib.hid hgrow; have HA := Lib.hid hat; clear hb1 hown hgrow hat
        (try go_wp2_with fail)
        refine hK.out _ _ ?_ (fun hHeld2 => ?_)
        · (try dsimp only); refine ⟨?_, Or.inr ?_⟩
          · (first | with_reducible assumption | exact noteC ((Blk.new' w _ 91).drew) | exact noteC ((Blk.new' w _ 91).drew.alloc _) | exact noteC HBx.out | exact noteC (HBx.out.setCell_ne (by show w.heap.size ≠ g; omega) _))
          · (first | with_reducible assumption | go_simp)
        clear hK K
        clear hHeld; have hHeld := hHeld2; clear hHeld2
        (try simp only [Act.put, List.setIfInBounds_toArray, List.set_cons_zero, List.set_cons_succ])
        refine lTake (i := 9) (v := ?_) rfl (by kernel_rfl) (by kernel_rfl) (by kernel_rfl) (fun _ _ _ h => h) (by rfl) (fun _ _ h => by simpa only [getD_set_ne false (show 9 ≠ 12 by decide)] using h) (fun _ _ h => by simpa only [getD_set_ne false (show 9 ≠ 12 by decide)] using h) ?_ (by assumption) (fun hHeld2 => ?_)
        rotate_left 1
        · (intro _ _ _ _ _; first | (go_simp; done) | (go_simp; with_reducible rfl))
        clear hHeld; have hHeld := hHeld2; clear hHeld2
        (try simp only [Act.put, List.setIfInBounds_toArray, List.set_cons_zero, List.set_cons_succ])
        refine lTake (i := 10) (v := ?_) rfl (by kernel_rfl) (by kernel_rfl) (by kernel_rfl) (fun _ _ _ h => h) (by rfl) (fun _ _ h => by simpa only [getD_set_ne false (show 10 ≠ 12 by decide)] using h) (fun _ _ h => by simpa only [getD_set_ne false (show 10 ≠ 12 by decide)] using h) ?_ (by assumption) (fun hHeld2 => ?_)
        rotate_left 1
        · (intro _ _ _ _ _; first | (go_simp; done) | (go_simp; with_reducible rfl))
        clear hHeld; have hHeld := hHeld2; clear hHeld2
        (try simp only [Act.put, List.setIfInBounds_toArray, List.set_cons_zero, List.set_cons_succ])
        refine lTake (i := 11) (v := ?_) rfl (by kernel_rfl) (by kernel_rfl) (by kernel_rfl) (fun _ _ _ h => h) (by rfl) (fun _ _ h => by simpa only [getD_set_ne false (show 11 ≠ 12 by decide)] using h) (fun _ _ h => by simpa only [getD_set_ne false (show 11 ≠ 12 by decide)] using h) ?_ (by assumption) (fun hHeld2 => ?_)
        rotate_left 1
        · (intro _ _ _ _ _; first | (go_simp; done) | (go_simp; with_reducible rfl))
        clear hHeld; have hHeld := hHeld2; clear hHeld2
        (try simp only [Act.put, List.setIfInBounds_toArray, List.set_cons_zero, List.set_cons_succ])
        refine lReady (rs := [12]) (by kernel_rfl) (by simp) ?_
        refine AllL.cons (i := 12) rfl (fun K hK => ?_) ?_
        · go_simp
          (try go_wp2_with fail)
          refine hK.out _ _ ?_ (fun hHeld2 => ?_)
          · (try dsimp only); refine ⟨?_, Or.inl (by rfl)⟩
            · (first | with_reducible assumption | exact noteC ((Blk.new' w _ 91).drew) | exact noteC ((Blk.new' w _ 91).drew.alloc _) | exact noteC HBx.out | exact noteC (HBx.out.setCell_ne (by show w.heap.size ≠ g; omega) _))
          clear hK K
          clear hHeld; have hHeld := hHeld2; clear hHeld2
          (try simp only [Act.put, List.setIfInBounds_toArray, List.set_cons_zero, List.set_cons_succ])
          refine lDone (by kernel_rfl) ?_ _
          go_wp2_with fail
          go_ret
          exact ⟨rfl, send_end H.out HLen.out HB1.out HOw.out HG.out HA.out⟩
        exact AllL.nil
      exact AllL.nil
    exact AllL.nil
end Go.Proofs.Ytlklnaebdnahcaa
namespace Go.Proofs.Ytlklnaebdnahcaa
open Go.RowKit
theorem own_base {w : World} {B B' n : Nat} {A : Option Addr} {cap : Nat} {xs : List Value} (h : w.ownsRow B 91 5 (.slice A n cap) n xs) (hB : B' ≤ B) : w.ownsRow B' 91 5 (.slice A n cap) n xs := by
  refine ⟨h.1, ?_⟩
  rcases h.2 with h2 | ⟨k, c, cur, hv, hb, r⟩
  · exact .inl h2
  · exact .inr ⟨k, c, cur, hv, by omega, r⟩
def CloneTo (w : World) (L : List Nt) (e : Ending) (w' : World) : Prop := ∃ A' cap', e = .returned (.slice A' L.length cap') ∧ w'.ownsRow w.heap.size 91 5 (.slice A' L.length cap') L.length (flat L) ∧ Below w.heap.size w w'
set_option maxHeartbeats 1000000 in
theorem Clone_c (A : Option Addr) (n c : Nat) (L : List Nt) (w : World) (hn : n = L.length) (hs : SrcRow w A n (flat L)) (hnil : A = none → L = []) (hl : L.length ≤ 1000000) :
    Calls Try.prog 59 #[.slice A n c] w (CloneTo w L) := by
  cases A with
  | none =>
    have hL := hnil rfl
    subst hL
    clear hs hnil
    have q76 : ∀ (w : World) (a : Option Addr) (n c n' c' : Nat), (binOp .eql 122 (.slice a n c) (.slice none n' c')).run Try.prog w = .ok (.bool a.isNone) w := fun w a n c n' c' => Lib.run_eql_slice_nil w _ _ a n c n' c' Try.underlying122
    go_enter Try.func59, Try.ntmps59
    go_wp2
    go_ret
    exact ⟨none, 0, rfl, World.ownsRow_nil _ _ _ _, Below.refl _ _⟩
  | some a =>
    clear hnil
    obtain ⟨i0, hi, hz0, hz1, hz2⟩ := info_parts info60
    have HC := Lib.hid (show SrcRow (w.alloc (.cells #[] 91)) (some a) n (flat L) from by
      rcases hs with ⟨h, _⟩ | ⟨a', h, hc⟩
      · cases h
      · exact .inr ⟨a', h, fun j u hu => ((World.grownBy_alloc w _ none).cell (hc j u hu) (by simp))⟩)
    have HL := Lib.hid hl
    have HN := Lib.hid hn
    clear hs hl hn
    have q76 : ∀ (w : World) (a : Option Addr) (n c n' c' : Nat), (binOp .eql 122 (.slice a n c) (.slice none n' c')).run Try.prog w = .ok (.bool a.isNone) w := fun w a n c n' c' => Lib.run_eql_slice_nil w _ _ a n c n' c' Try.underlying122
    go_enter Try.func59, Try.ntmps59
    go_wp2_with (at_builtin; refine wpList_append_any (.tmp 5) (.tmp 6) 122 rfl rfl w.heap.size 91 i0 (.agg #[.int .i64 0, .int .i64 0, .int .i64 0, .int .i64 0, .int .i64 0]) 5 40 Try.underlying122 hi hz0 hz1 hz2 rfl (by decide) (some ⟨w.heap.size, 0, none⟩) 0 0 [] (by rfl) (World.ownsRow_made w #[] 0 (Nat.le_refl _) (by decide) (by simp)) (some a) n c (flat L) (by rfl) (by rw [flat_length, HN.out]) HC.out (flat_one' L) (by have := HL.out; have := HN.out; unfold maxLen; omega) (by have := HL.out; have := HN.out; omega) (by simp) ?_; intro A' cap' w1 hown hgrow hat; have HOw := Lib.hid hown; have HG := Lib.hid hgrow; clear hown hgrow hat)
    go_ret
    have hown := HOw.out
    refine ⟨A', cap', ?_, ?_, Below.grown ((Below.refl _ _).alloc (Nat.le_refl _) _) HG.out (by simp) (fun k hk => by simp [Value.ownBlock] at hk; omega)⟩
    · rw [← HN.out]; simp
    · rw [← HN.out]; simpa using hown
theorem own_src0 {w : World} {B n : Nat} {A : Option Addr} {cap : Nat} {L : List Nt} (h : w.ownsRow B 91 5 (.slice A n cap) n (flat L)) : SrcRow w A L.length (flat L) ∧ (A = none → L = []) := by
  obtain ⟨h1, h2⟩ := own_src h 0 (Nat.zero_le _)
  refine ⟨?_, h2⟩
  cases A with
  | none => exact .inl ⟨rfl, by rw [h2 rfl]; rfl⟩
  | some a =>
    rcases h1 with ⟨e, _⟩ | ⟨b, e, hc⟩
    · cases e
    · refine .inr ⟨a, rfl, fun j u hu => ?_⟩
      cases e
      have := hc j u (by simpa using hu)
      simpa [Addr.add] using this
end Go.Proofs.Ytlklnaebdnahcaa
namespace Go.Proofs.Ytlklnaebdnahcaa
open Go.RowKit
theorem line_row {w : World} {B n cap : Nat} {A : Option Addr} {x : Nt} {L : List Nt} (h : w.ownsRow B 91 5 (.slice A n cap) n (flat (x :: L))) :
    ∃ r, A = some ⟨r, 0, none⟩ ∧ r < w.heap.size ∧ w.cell? ⟨r, 0, none⟩ = some (.int .i64 x.k) ∧ w.cell? ⟨r, 1, none⟩ = some (.int .i64 x.s) ∧ w.cell? ⟨r, 2, none⟩ = some (.int .i64 x.a) ∧ w.cell? ⟨r, 3, none⟩ = some (.int .i64 x.b) ∧ w.cell? ⟨r, 4, none⟩ = some (.int .i64 x.c) := by
  have hc := own_src0 h
  rcases h.2 with ⟨h2, hn⟩ | ⟨g', c, cur, hv, hb, hg, _⟩
  · cases h2
    exact absurd (hc.2 rfl) (by simp)
  · cases hv
    refine ⟨g', rfl, (Array.getElem?_eq_some_iff.1 hg).1, ?_⟩
    rcases hc.1 with ⟨e, _⟩ | ⟨a, e, hcc⟩
    · cases e
    · cases e
      exact ⟨hcc 0 _ rfl, hcc 1 _ rfl, hcc 2 _ rfl, hcc 3 _ rfl, hcc 4 _ rfl⟩
theorem Blk.s5_3 {w : World} {g : Nat} {t : TypeId} {a b c d e u : Value} (h : Blk w g t [a, b, c, d, e]) : Blk (w.setCell ⟨g, 3, none⟩ u) g t [a, b, c, u, e] := h.setCell 3 u
theorem Blk.s5_4 {w : World} {g : Nat} {t : TypeId} {a b c d e u : Value} (h : Blk w g t [a, b, c, d, e]) : Blk (w.setCell ⟨g, 4, none⟩ u) g t [a, b, c, d, u] := h.setCell 4 u
theorem poll_end {w w1 : World} {B g : Nat} {A : Option Addr} {cap : Nat} {l : Ln} (h : LineAt w B g A cap l) (ht : Touch (fun k => k = g) w w1)
    (hb : Blk w1 g 128 [.bool true, .slice A l.L.length cap, .int .i64 l.dn, .int .i64 l.tk, .bool false]) : LineTo w B g A (Lx.pollL l) w1 :=
  ⟨⟨A, cap, ⟨hb, own_keep h.own ht (fun k hk e => h.apart (e ▸ hk)), h.base, h.apart⟩, fun k hk => .inl hk⟩, ht.mono fun k hk => .inl hk⟩
def PollTo (w : World) (B g : Nat) (A : Option Addr) (l : Ln) (e : Ending) (w' : World) : Prop :=
  e = .returned (.tuple #[.agg #[.bool (Lx.pollP l).has, .int .i64 (Lx.pollP l).nu, .int .i64 (Lx.pollP l).nt.k, .int .i64 (Lx.pollP l).nt.s, .int .i64 (Lx.pollP l).nt.a, .int .i64 (Lx.pollP l).nt.b, .int .i64 (Lx.pollP l).nt.c, .int .i64 (Lx.pollP l).ak], .bool (Lx.pollB l)]) ∧ LineTo w B g A (Lx.pollL l) w'
set_option maxRecDepth 100000 in
set_option maxHeartbeats 4000000 in
theorem Poll_c (b : Int) (B g : Nat) (A : Option Addr) (cap : Nat) (l : Ln) (w : World) (h : LineAt w B g A cap l) (hl : Lx.ok b l) (hb : b ≤ 4611686018427387904) : Calls Try.prog 46 #[.pointer (some ⟨g, 0, none⟩)] w (PollTo w B g A l) := by
  have hlt := h.blk.lt
  have c0 := h.blk.cell 0 rfl
  have c1 := h.blk.cell 1 rfl
  have c2 := h.blk.cell 2 rfl
  have c3 := h.blk.cell 3 rfl
  have c4 := h.blk.cell 4 rfl
  have f4 := h.blk.free 4
  have H := Lib.hid h
  have bd := hl.1
  have bt := hl.2.1
  clear hl
  obtain ⟨L, dn, tk, ow⟩ := l
  cases L with
  | nil =>
    cases ow
    · clear h
      go_enter Try.func46, Try.ntmps46
      go_wp2_with (go_at_call 52; refine (validL_c _ _ (by go_simp)).mono ?_; rintro e w' ⟨rfl, rfl⟩)
      exact bodyPost_ret (v := .tuple #[.agg #[.bool false, .int .i64 0, .int .i64 0, .int .i64 0, .int .i64 0, .int .i64 0, .int .i64 0, .int .i64 0], .bool false]) (by simp [results, Try.results46, go_sem]) rfl ⟨rfl, poll_end H.out ((Touch.refl _ _).alloc _) (H.out.blk.alloc _)⟩
    · clear h
      go_enter Try.func46, Try.ntmps46
      go_wp2_with (go_at_call 52; refine (validL_c _ _ (by go_simp)).mono ?_; rintro e w' ⟨rfl, rfl⟩)
      refine bodyPost_ret (v := .tuple #[.agg #[.bool false, .int .i64 0, .int .i64 0, .int .i64 0, .int .i64 0, .int .i64 0, .int .i64 0, .int .i64 tk], .bool true]) (by simp [results, Try.results46, go_sem]) rfl ⟨rfl, poll_end H.out ?_ ?_⟩
      · repeat (first | exact Touch.refl _ _ | refine Touch.put ?_ _ _ | refine Touch.alloc ?_ _ | refine Touch.drew ?_ | refine Touch.drewN ?_ _ | (refine Touch.setCell ?_ (Or.inr (by simp)) _))
      · repeat (first | exact H.out.blk | exact Blk.s5_4 H.out.blk | refine Blk.drew ?_ | refine Blk.drewN ?_ _ | refine Blk.alloc ?_ _ | (refine Blk.setCell_ne ?_ (by simp; omega) _))
  | cons x L =>
    obtain ⟨r, rfl, hr, r0, r1, r2, r3, r4⟩ := line_row h.own
    have hrg : r ≠ g := fun e => h.apart ⟨_, rfl, e⟩
    have hd1 : IntKind.i64.wrap (dn + 1) = dn + 1 := IntWalk.i64_in _ (by have := bd.1; have := bd.2; simp only at *; omega)
    have HD := Lib.hid hd1
    clear h hd1
    go_enter Try.func46, Try.ntmps46
    go_wp2_with (go_at_call 52; refine (validL_c _ _ (by go_simp)).mono ?_; rintro e w' ⟨rfl, rfl⟩)
    have hd1 := HD.out
    refine lBegin (S := fun _ W => (W.cell? ⟨g, 1, none⟩ = some (.slice (some ⟨r, 0, none⟩) (L.length + 1) cap) ∧ W.cell? ⟨g, 2, none⟩ = some (.int .i64 dn) ∧ W.cell? ⟨r, 0, none⟩ = some (.int .i64 x.k) ∧ W.cell? ⟨r, 1, none⟩ = some (.int .i64 x.s) ∧ W.cell? ⟨r, 2, none⟩ = some (.int .i64 x.a) ∧ W.cell? ⟨r, 3, none⟩ = some (.int .i64 x.b) ∧ W.cell? ⟨r, 4, none⟩ = some (.int .i64 x.c))) (by kernel_rfl) ?_ (fun hHeld => ?_)
    · (try dsimp only); (first | with_reducible assumption | go_simp)
    refine lTake (i := 0) (v := ?_) rfl (by kernel_rfl) (by kernel_rfl) (by kernel_rfl) (fun _ _ _ h => h) (by rfl) (fun _ _ h => h) (fun _ _ h => h) ?_ (by assumption) (fun hHeld2 => ?_)
    rotate_left 1
    · (intro _ _ _ _ _; first | (go_simp; done) | (go_simp; with_reducible rfl))
    clear hHeld; have hHeld := hHeld2; clear hHeld2
    (try simp only [Act.put, List.setIfInBounds_toArray, List.set_cons_zero, List.set_cons_succ])
    refine lTake (i := 1) (v := ?_) rfl (by kernel_rfl) (by kernel_rfl) (by kernel_rfl) (fun _ _ _ h => h) (by rfl) (fun _ _ h => h) (fun _ _ h => h) ?_ (by assumption) (fun hHeld2 => ?_)
    rotate_left 1
    · (intro _ _ _ _ _; first | (go_simp; done) | (go_simp; with_reducible rfl))
    clear hHeld; have hHeld := hHeld2; clear hHeld2
    (try simp only [Act.put, List.setIfInBounds_toArray, List.set_cons_zero, List.set_cons_succ])
    refine lTake (i := 2) (v := ?_) rfl (by kernel_rfl) (by kernel_rfl) (by kernel_rfl) (fun _ _ _ h => h) (by rfl) (fun _ _ h => h) (fun _ _ h => h) ?_ (by assumption) (fun hHeld2 => ?_)
    rotate_left 1
    · (intro _ _ _ _ _; first | (go_simp; done) | (go_simp; with_reducible rfl))
    clear hHeld; have hHeld := hHeld2; clear hHeld2
    (try simp only [Act.put, List.setIfInBounds_toArray, List.set_cons_zero, List.set_cons_succ])
    refine lTake (i := 3) (v := ?_) rfl (by kernel_rfl) (by kernel_rfl) (by kernel_rfl) (fun _ _ _ h => h) (by rfl) (fun _ _ h => h) (fun _ _ h => h) ?_ (by assumption) (fun hHeld2 => ?_)
    rotate_left 1
    · (intro _ _ _ _ _; first | (go_simp; done) | (go_simp; with_reducible rfl))
    clear hHeld; have hHeld := hHeld2; clear hHeld2
    (try simp only [Act.put, List.setIfInBounds_toArray, List.set_cons_zero, List.set_cons_succ])
    refine lTake (i := 4) (v := ?_) rfl (by kernel_rfl) (by kernel_rfl) (by kernel_rfl) (fun _ _ _ h => h) (by rfl) (fun _ _ h => h) (fun _ _ h => h) ?_ (by assumption) (fun hHeld2 => ?_)
    rotate_left 1
    · (intro L W _ _ hSw; (try dsimp only at hSw); first | (go_simp; done) | (go_simp; with_reducible rfl))
    clear hHeld; have hHeld := hHeld2; clear hHeld2
    (try simp only [Act.put, List.setIfInBounds_toArray, List.set_cons_zero, List.set_cons_succ])
    refine lTake (i := 5) (v := ?_) rfl (by kernel_rfl) (by kernel_rfl) (by kernel_rfl) (fun _ _ _ h => h) (by rfl) (fun _ _ h => h) (fun _ _ h => h) ?_ (by assumption) (fun hHeld2 => ?_)
    rotate_left 1
    · (intro _ _ _ _ _; first | (go_simp; done) | (go_simp; with_reducible rfl))
    clear hHeld; have hHeld := hHeld2; clear hHeld2
    (try simp only [Act.put, List.setIfInBounds_toArray, List.set_cons_zero, List.set_cons_succ])
    refine lTake (i := 6) (v := ?_) rfl (by kernel_rfl) (by kernel_rfl) (by kernel_rfl) (fun _ _ _ h => h) (by rfl) (fun _ _ h => h) (fun _ _ h => h) ?_ (by assumption) (fun hHeld2 => ?_)
    rotate_left 1
    · (intro _ _ _ _ _; first | (go_simp; done) | (go_simp; with_reducible rfl))
    clear hHeld; have hHeld := hHeld2; clear hHeld2
    (try simp only [Act.put, List.setIfInBounds_toArray, List.set_cons_zero, List.set_cons_succ])
    refine lTake (i := 7) (v := ?_) rfl (by kernel_rfl) (by kernel_rfl) (by kernel_rfl) (fun _ _ _ h => h) (by rfl) (fun _ _ h => h) (fun _ _ h => h) ?_ (by assumption) (fun hHeld2 => ?_)
    rotate_left 1
    · (intro _ _ _ _ _; first | (go_simp; done) | (go_simp; with_reducible rfl))
    clear hHeld; have hHeld := hHeld2; clear hHeld2
    (try simp only [Act.put, List.setIfInBounds_toArray, List.set_cons_zero, List.set_cons_succ])
    refine lTake (i := 8) (v := ?_) rfl (by kernel_rfl) (by kernel_rfl) (by kernel_rfl) (fun _ _ _ h => h) (by rfl) (fun _ _ h => h) (fun _ _ h => h) ?_ (by assumption) (fun hHeld2 => ?_)
    rotate_left 1
    · (intro _ _ _ _ _; first | (go_simp; done) | (go_simp; with_reducible rfl))
    clear hHeld; have hHeld := hHeld2; clear hHeld2
    (try simp only [Act.put, List.setIfInBounds_toArray, List.set_cons_zero, List.set_cons_succ])
    refine lTake (i := 9) (v := ?_) rfl (by kernel_rfl) (by kernel_rfl) (by kernel_rfl) (fun _ _ _ h => h) (by rfl) (fun _ _ h => h) (fun _ _ h => h) ?_ (by assumption) (fun hHeld2 => ?_)
    rotate_left 1
    · (intro _ _ _ _ _; first | (go_simp; done) | (go_simp; with_reducible rfl))
    clear hHeld; have hHeld := hHeld2; clear hHeld2
    (try simp only [Act.put, List.setIfInBounds_toArray, List.set_cons_zero, List.set_cons_succ])
    refine lTake (i := 10) (v := ?_) rfl (by kernel_rfl) (by kernel_rfl) (by kernel_rfl) (fun _ _ _ h => h) (by rfl) (fun _ _ h => h) (fun _ _ h => h) ?_ (by assumption) (fun hHeld2 => ?_)
    rotate_left 1
    · (intro L W _ _ hSw; (try dsimp only at hSw); first | (go_simp; done) | (go_simp; with_reducible rfl))
    clear hHeld; have hHeld := hHeld2; clear hHeld2
    (try simp only [Act.put, List.setIfInBounds_toArray, List.set_cons_zero, List.set_cons_succ])
    refine lTake (i := 11) (v := ?_) rfl (by kernel_rfl) (by kernel_rfl) (by kernel_rfl) (fun _ _ _ h => h) (by rfl) (fun _ _ h => h) (fun _ _ h => h) ?_ (by assumption) (fun hHeld2 => ?_)
    rotate_left 1
    · (intro _ _ _ _ _; first | (go_simp; done) | (go_simp; with_reducible rfl))
    clear hHeld; have hHeld := hHeld2; clear hHeld2
    (try simp only [Act.put, List.setIfInBounds_toArray, List.set_cons_zero, List.set_cons_succ])
    refine lTake (i := 12) (v := ?_) rfl (by kernel_rfl) (by kernel_rfl) (by kernel_rfl) (fun _ _ _ h => h) (by rfl) (fun _ _ h => h) (fun _ _ h => h) ?_ (by assumption) (fun hHeld2 => ?_)
    rotate_left 1
    · (intro L W _ _ hSw; (try dsimp only at hSw); first | (go_simp; done) | (go_simp; with_reducible rfl))
    clear hHeld; have hHeld := hHeld2; clear hHeld2
    (try simp only [Act.put, List.setIfInBounds_toArray, List.set_cons_zero, List.set_cons_succ])
    refine lTake (i := 13) (v := ?_) rfl (by kernel_rfl) (by kernel_rfl) (by kernel_rfl) (fun _ _ _ h => h) (by rfl) (fun _ _ h => h) (fun _ _ h => h) ?_ (by assumption) (fun hHeld2 => ?_)
    rotate_left 1
    · (intro _ _ _ _ _; first | (go_simp; done) | (go_simp; with_reducible rfl))
    clear hHeld; have hHeld := hHeld2; clear hHeld2
    (try simp only [Act.put, List.setIfInBounds_toArray, List.set_cons_zero, List.set_cons_succ])
    refine lReady (rs := [14]) (by kernel_rfl) (by simp) ?_
    refine AllL.cons (i := 14) rfl (fun K hK => ?_) ?_
    · go_simp
      (try go_wp2_with fail)
      refine hK.out _ _ ?_ (fun hHeld2 => ?_)
      · (try dsimp only); (first | with_reducible assumption | go_simp)
      clear hK K
      clear hHeld; have hHeld := hHeld2; clear hHeld2
      (try simp only [Act.put, List.setIfInBounds_toArray, List.set_cons_zero, List.set_cons_succ])
      refine lTake (i := 15) (v := ?_) rfl (by kernel_rfl) (by kernel_rfl) (by kernel_rfl) (fun _ _ _ h => h) (by rfl) (fun _ _ h => h) (fun _ _ h => h) ?_ (by assumption) (fun hHeld2 => ?_)
      rotate_left 1
      · (intro _ _ _ _ _; first | (go_simp; done) | (go_simp; with_reducible rfl))
      clear hHeld; have hHeld := hHeld2; clear hHeld2
      (try simp only [Act.put, List.setIfInBounds_toArray, List.set_cons_zero, List.set_cons_succ])
      refine lReady (rs := [16]) (by kernel_rfl) (by simp) ?_
      refine AllL.cons (i := 16) rfl (fun K hK => ?_) ?_
      · go_simp
        (try go_wp2_with fail)
        refine hK.out _ _ ?_ (fun hHeld2 => ?_)
        · (try dsimp only); (first | with_reducible assumption | go_simp)
        clear hK K
        clear hHeld; have hHeld := hHeld2; clear hHeld2
        (try simp only [Act.put, List.setIfInBounds_toArray, List.set_cons_zero, List.set_cons_succ])
        refine lTake (i := 17) (v := ?_) rfl (by kernel_rfl) (by kernel_rfl) (by kernel_rfl) (fun _ _ _ h => h) (by rfl) (fun _ _ h => h) (fun _ _ h => h) ?_ (by assumption) (fun hHeld2 => ?_)
        rotate_left 1
        · (intro _ _ _ _ _; first | (go_simp; done) | (go_simp; with_reducible rfl))
        clear hHeld; have hHeld := hHeld2; clear hHeld2
        (try simp only [Act.put, List.setIfInBounds_toArray, List.set_cons_zero, List.set_cons_succ])
        refine lReady (rs := [18]) (by kernel_rfl) (by simp) ?_
        refine AllL.cons (i := 18) rfl (fun K hK => ?_) ?_
        · go_simp
          (try go_wp2_with fail)
          refine hK.out _ _ ?_ (fun hHeld2 => ?_)
          · (try dsimp only); (first | with_reducible assumption | go_simp)
          clear hK K
          clear hHeld; have hHeld := hHeld2; clear hHeld2
          (try simp only [Act.put, List.setIfInBounds_toArray, List.set_cons_zero, List.set_cons_succ])
          refine lDone (by kernel_rfl) ?_ _
          clear hHeld
          go_wp2_with fail
          refine bodyPost_ret (v := .tuple #[.agg #[.bool true, .int .i64 (dn + 1), .int .i64 x.k, .int .i64 x.s, .int .i64 x.a, .int .i64 x.b, .int .i64 x.c, .int .i64 tk], .bool true]) (by simp [results, Try.results46, go_sem]) rfl ⟨rfl, poll_end H.out ?_ ?_⟩
          · repeat (first | exact Touch.refl _ _ | refine Touch.put ?_ _ _ | refine Touch.alloc ?_ _ | refine Touch.drew ?_ | refine Touch.drewN ?_ _ | (refine Touch.setCell ?_ (Or.inr (by simp)) _))
          · repeat (first | exact H.out.blk | exact Blk.s5_4 H.out.blk | refine Blk.drew ?_ | refine Blk.drewN ?_ _ | refine Blk.alloc ?_ _ | (refine Blk.setCell_ne ?_ (by simp; omega) _))
        exact AllL.nil
      exact AllL.nil
    exact AllL.nil
end Go.Proofs.Ytlklnaebdnahcaa
namespace Go.Proofs.Ytlklnaebdnahcaa
open Go.RowKit
def Pk.cells (p : Pk) : List Value := [.bool p.has, .int .i64 p.nu, .int .i64 p.nt.k, .int .i64 p.nt.s, .int .i64 p.nt.a, .int .i64 p.nt.b, .int .i64 p.nt.c, .int .i64 p.ak]
structure RecvMid (w : World) (B g : Nat) (A : Option Addr) (p : Pk) (l1 : Ln) (A1 : Option Addr) (cap1 : Nat) (W : World) : Prop where
  line : LineAt W B g A1 cap1 l1
  row : NewRow w A A1
  touch : Touch (fun k => k = g ∨ OwnB A k) w W
  box : Blk W w.heap.size 93 p.cells
  res : Blk W (w.heap.size + 1) 91 Lx.nt0.vals
  off : ¬ OwnB A1 (w.heap.size + 1)
theorem recv_end {w W W' : World} {B g : Nat} {A A1 : Option Addr} {cap1 : Nat} {p : Pk} {l1 l2 : Ln} (h : RecvMid w B g A p l1 A1 cap1 W) (hlt : g < w.heap.size) (ht : Touch (fun k => k = g ∨ k = w.heap.size + 1) W W') (hL : l2.L = l1.L)
    (hb : Blk W' g 128 [.bool true, .slice A1 l1.L.length cap1, .int .i64 l2.dn, .int .i64 l2.tk, .bool l2.ow]) : LineTo w B g A l2 W' := by
  refine ⟨⟨A1, cap1, ⟨by rw [hL]; exact hb, ?_, h.line.base, h.line.apart⟩, h.row⟩, h.touch.then ht (fun k hk => ?_)⟩
  · rw [hL]
    exact own_keep h.line.own ht (fun k hk e => by
      rcases e with e | e
      · exact h.line.apart (e ▸ hk)
      · exact h.off (e ▸ hk))
  · rcases hk with e | e
    · exact .inl (.inl e)
    · right; omega
theorem ack_no {l : Ln} {p : Pk} (h : Lx.ackB l p = false) : Lx.ack l p = l := by unfold Lx.ack; rw [h]; rfl
theorem ack_yes {l : Ln} {p : Pk} {m : Nat} (h : p.ak = l.dn + m) (h1 : 1 ≤ m) (h2 : m ≤ l.L.length) : Lx.ack l p = { l with L := l.L.drop m, dn := l.dn + m } := by
  have hb : Lx.ackB l p = true := by unfold Lx.ackB; simp; omega
  unfold Lx.ack
  rw [hb, if_pos rfl, show (p.ak - l.dn).toNat = m by omega, h]
def RecvTo (w : World) (B g : Nat) (A : Option Addr) (l : Ln) (p : Pk) (e : Ending) (w' : World) : Prop :=
  e = .returned (.tuple #[.agg #[.int .i64 (Lx.recvN l p).k, .int .i64 (Lx.recvN l p).s, .int .i64 (Lx.recvN l p).a, .int .i64 (Lx.recvN l p).b, .int .i64 (Lx.recvN l p).c], .bool (Lx.recvB l p)]) ∧ LineTo w B g A (Lx.recvL l p) w'
theorem row_form {w : World} {B n cap : Nat} {A : Option Addr} {xs : List Value} (h : w.ownsRow B 91 5 (.slice A n cap) n xs) (hn : 0 < n) : ∃ r, A = some ⟨r, 0, none⟩ ∧ n ≤ cap ∧ cap ≤ maxLen := by
  rcases h.2 with ⟨_, h0⟩ | ⟨g', c, cur, hv, hb, hg, hnc, hcm, _⟩
  · omega
  · cases hv
    exact ⟨_, rfl, hnc, hcm⟩
theorem ack_cases (l : Ln) (p : Pk) (b : Int) (hl : Lx.ok b l) (hb : b ≤ 4611686018427387904) :
    (∃ m : Nat, 1 ≤ m ∧ m ≤ l.L.length ∧ p.ak = l.dn + m) ∨ (l.dn < p.ak ∧ (l.L.length : Int) < p.ak - l.dn) ∨ p.ak ≤ l.dn := by
  by_cases h : l.dn < p.ak
  · by_cases h2 : p.ak - l.dn ≤ l.L.length
    · exact .inl ⟨(p.ak - l.dn).toNat, by omega, by omega, by omega⟩
    · exact .inr (.inl ⟨h, by omega⟩)
  · exact .inr (.inr (by omega))
structure RecvPre (w : World) (p : Pk) (W : World) : Prop where
  t : Touch (fun _ => False) w W
  sz : w.heap.size + 2 ≤ W.heap.size
  box : Blk W w.heap.size 93 p.cells
  res : Blk W (w.heap.size + 1) 91 Lx.nt0.vals
theorem pre_init (w : World) (p : Pk) : RecvPre w p ((w.alloc (.cells #[.bool p.has, .int .i64 p.nu, .int .i64 p.nt.k, .int .i64 p.nt.s, .int .i64 p.nt.a, .int .i64 p.nt.b, .int .i64 p.nt.c, .int .i64 p.ak] 93)).alloc (.cells #[.int .i64 0, .int .i64 0, .int .i64 0, .int .i64 0, .int .i64 0] 91)) := by
  refine ⟨((Touch.refl _ _).alloc _).alloc _, by simp, (Blk.new' w _ 93).alloc _, ?_⟩
  have := Blk.new' (w.alloc (.cells #[.bool p.has, .int .i64 p.nu, .int .i64 p.nt.k, .int .i64 p.nt.s, .int .i64 p.nt.a, .int .i64 p.nt.b, .int .i64 p.nt.c, .int .i64 p.ak] 93)) #[.int .i64 0, .int .i64 0, .int .i64 0, .int .i64 0, .int .i64 0] 91
  simp at this
  exact this
theorem RecvPre.drewN {w W : World} {p : Pk} (h : RecvPre w p W) (n : Nat) : RecvPre w p (W.drewN n) := ⟨h.t.drewN n, h.sz, h.box.drewN n, h.res.drewN n⟩
theorem RecvPre.below {w W W1 : World} {p : Pk} (h : RecvPre w p W) (hb : Below W.heap.size W W1) : RecvPre w p W1 := ⟨h.t.below hb, Nat.le_trans h.sz hb.size, h.box.below hb h.box.lt, h.res.below hb h.res.lt⟩
theorem pre_call {w W0 w1 : World} {p : Pk} {n1 : Nat} (h : RecvPre w p W0) (hb : Below (W0.drewN n1).heap.size (W0.drewN n1) w1) : RecvPre w p w1 := (h.drewN n1).below hb
theorem RecvPre.line {w W : World} {p : Pk} (h : RecvPre w p W) {B g : Nat} {A : Option Addr} {cap : Nat} {l : Ln} (hl : LineAt w B g A cap l) : LineAt W B g A cap l := hl.touch h.t (fun e => e) (fun _ _ e => e)
theorem mid_no {w W : World} {B g : Nat} {A : Option Addr} {cap : Nat} {l : Ln} {p : Pk} (h : LineAt w B g A cap l) (hn : Lx.ackB l p = false) (hP : RecvPre w p W) : ∃ A1 cap1, RecvMid w B g A p (Lx.ack l p) A1 cap1 W := by
  rw [ack_no hn]
  exact ⟨A, cap, hP.line h, fun k hk => .inl hk, hP.t.mono (fun _ e => e.elim), hP.box, hP.res, fun e => by have := (own_lt h.own e).2; omega⟩
theorem mid_yes {w w1 : World} {B Bx g m n' : Nat} {A A' : Option Addr} {cap cap' : Nat} {l : Ln} {p : Pk} (h : LineAt w B g A cap l) (hB : B ≤ w.heap.size) (hm1 : 1 ≤ m) (hm2 : m ≤ l.L.length) (hp : p.ak = l.dn + m) (hP : RecvPre w p w1) (hsz : w.heap.size + 2 ≤ Bx)
    (hown : w1.ownsRow Bx 91 5 (.slice A' (l.L.drop m).length cap') (l.L.drop m).length (flat (l.L.drop m))) (hn : n' = (l.L.drop m).length) :
    ∃ A1 cap1, RecvMid w B g A p (Lx.ack l p) A1 cap1 ((w1.setCell ⟨g, 1, none⟩ (.slice A' n' cap')).setCell ⟨g, 2, none⟩ (.int .i64 p.ak)) := by
  subst hn
  rw [ack_yes hp hm1 hm2]
  have hlt := h.blk.lt
  have hA : ∀ k, OwnB A' k → Bx ≤ k := fun k hk => (own_lt hown hk).1
  have hT : Touch (fun k => k = g) w1 ((w1.setCell ⟨g, 1, none⟩ (.slice A' (l.L.drop m).length cap')).setCell ⟨g, 2, none⟩ (.int .i64 p.ak)) := ((Touch.refl _ _).put 1 _).put 2 _
  refine ⟨A', cap', ⟨⟨?_, ?_, h.base, fun e => by have := hA g e; omega⟩, fun k hk => .inr (by have := hA k hk; omega), ?_, ?_, ?_, fun e => by have := hA _ e; omega⟩⟩
  · have h1 := ((hP.line h).blk.setCell 1 (.slice A' (l.L.drop m).length cap')).setCell 2 (.int .i64 p.ak)
    rw [hp] at h1 ⊢
    exact h1
  · exact own_keep (own_base hown (by omega)) hT (fun k hk e => by have := hA k hk; omega)
  · exact (hP.t.mono (fun _ e => e.elim)).then hT (fun k e => .inl (.inl e))
  · exact hP.box.touch hT (fun e => by omega)
  · exact hP.res.touch hT (fun e => by omega)
theorem then_world {K : Act → World → Prop} {Q : Exit → Act → World → Prop} {a : Act} {W0 : World} (R : World → Prop) (h0 : R W0) (h : ∀ W, R W → Exit.then K Q .normal a W) : Exit.then K Q .normal a W0 := h _ h0
theorem wp_world {P : Program} {C : Code} {Q : Exit → Act → World → Prop} {a : Act} {W0 : World} (R : World → Prop) (h0 : R W0) (h : ∀ W, R W → Code.wp P C Q a W) : Code.wp P C Q a W0 := h _ h0
theorem recv_no {l : Ln} {p : Pk} (h : p.has = false) : Lx.recvB l p = false ∧ Lx.recvN l p = Lx.nt0 ∧ Lx.recvL l p = Lx.ack l p := by
  have hb : Lx.recvB l p = false := by unfold Lx.recvB; rw [h]; rfl
  exact ⟨hb, by unfold Lx.recvN; rw [hb]; rfl, by unfold Lx.recvL; rw [h]; rfl⟩
theorem recv_other {l : Ln} {p : Pk} (h : p.has = true) (hn : p.nu ≠ l.tk + 1) : Lx.recvB l p = false ∧ Lx.recvN l p = Lx.nt0 ∧ Lx.recvL l p = { Lx.ack l p with ow := true } := by
  have hb : Lx.recvB l p = false := by unfold Lx.recvB; rw [h, decide_eq_false hn]; rfl
  exact ⟨hb, by unfold Lx.recvN; rw [hb]; rfl, by unfold Lx.recvL; rw [h, if_pos rfl, if_neg hn]⟩
theorem recv_next {l : Ln} {p : Pk} (h : p.has = true) (hn : p.nu = l.tk + 1) : Lx.recvB l p = true ∧ Lx.recvN l p = p.nt ∧ Lx.recvL l p = { Lx.ack l p with ow := true, tk := l.tk + 1 } := by
  have hb : Lx.recvB l p = true := by unfold Lx.recvB; rw [h, decide_eq_true hn]; rfl
  exact ⟨hb, by unfold Lx.recvN; rw [hb]; rfl, by unfold Lx.recvL; rw [h, if_pos rfl, if_pos hn]⟩
theorem ack_tk (l : Ln) (p : Pk) : (Lx.ack l p).tk = l.tk := by unfold Lx.ack; split <;> rfl
set_option maxRecDepth 100000 in
set_option maxHeartbeats 8000000 in
theorem Receive_3 (b : Int) (B g : Nat) (A : Option Addr) (cap : Nat) (l : Ln) (p : Pk) (w : World) (h : LineAt w B g A cap l) (hB : B ≤ w.heap.size) (hl : Lx.ok b l) (hb : b ≤ 4611686018427387904) (hak : p.ak ≤ 9223372036854775807) (k1 : p.ak ≤ l.dn) :
    Calls Try.prog 48 #[.pointer (some ⟨g, 0, none⟩), .agg #[.bool p.has, .int .i64 p.nu, .int .i64 p.nt.k, .int .i64 p.nt.s, .int .i64 p.nt.a, .int .i64 p.nt.b, .int .i64 p.nt.c, .int .i64 p.ak]] w (RecvTo w B g A l p) := by
  have hlt := h.blk.lt
  have c0 := h.blk.cell 0 rfl
  have c1 := h.blk.cell 1 rfl
  have c2 := h.blk.cell 2 rfl
  have c3 := h.blk.cell 3 rfl
  have c4 := h.blk.cell 4 rfl
  have f1 := h.blk.free 1
  have f2 := h.blk.free 2
  have H := Lib.hid h
  have HBase := Lib.hid hB
  have bd := hl.1
  have bt := hl.2.1
  have bl := hl.2.2
  have h1 : IntKind.i64.wrap (l.tk + 1) = l.tk + 1 := IntWalk.i64_in _ (by omega)
  have H1 := Lib.hid h1
  have HP := Lib.hid (pre_init w p)
  have HA := Lib.hid hak
  obtain ⟨len, hlen⟩ : ∃ len, len = l.L.length := ⟨_, rfl⟩
  rw [← hlen] at c1 bl
  have HLen := Lib.hid hlen
  clear h hB hl h1 hak hlen
  have hd : decide (l.dn < p.ak) = false := by simp; omega
  have HD := Lib.hid (show Lx.ackB l p = false by unfold Lx.ackB; rw [hd]; rfl)
  clear bd bt bl k1
  go_enter Try.func48, Try.ntmps48
  go_wp2_with (go_at_call 52; refine (validL_c _ _ (by go_simp)).mono ?_; rintro e w' ⟨rfl, rfl⟩)
  go_quiet (fail)
  go_wp2_with fail
  go_quiet (fail)
  refine then_world (fun W => ∃ A1 cap1, RecvMid w B g A p (Lx.ack l p) A1 cap1 W) (mid_no H.out HD.out ((HP.out.drewN _).drewN _)) ?_
  intro W1 hM
  have HM := Lib.hid hM
  clear hM HD HLen c1 c2 c3 c4 f1 f2 HP
  clear hd
  obtain ⟨A1, cap1, hM⟩ := HM.out
  clear HM
  have d0 := hM.line.blk.cell 0 rfl
  have d1 := hM.line.blk.cell 1 rfl
  have d2 := hM.line.blk.cell 2 rfl
  have d3 := hM.line.blk.cell 3 rfl
  have d4 := hM.line.blk.cell 4 rfl
  have e3 := hM.line.blk.free 3
  have e4 := hM.line.blk.free 4
  rw [ack_tk] at d3
  have x0 := hM.box.cell 0 rfl
  have x1 := hM.box.cell 1 rfl
  have x2 := hM.box.cell 2 rfl
  have x3 := hM.box.cell 3 rfl
  have x4 := hM.box.cell 4 rfl
  have x5 := hM.box.cell 5 rfl
  have x6 := hM.box.cell 6 rfl
  have r0 := hM.res.cell 0 rfl
  have r1 := hM.res.cell 1 rfl
  have r2 := hM.res.cell 2 rfl
  have r3 := hM.res.cell 3 rfl
  have r4 := hM.res.cell 4 rfl
  have s0 := hM.res.free 0
  have s1 := hM.res.free 1
  have s2 := hM.res.free 2
  have s3 := hM.res.free 3
  have s4 := hM.res.free 4
  have hz : w.heap.size + 1 < W1.heap.size := hM.res.lt
  have HMid := Lib.hid hM
  clear hM
  cases hh : p.has
  · rw [hh] at x0
    have HR := Lib.hid (recv_no (l := l) hh)
    clear hh
    go_wp2_with fail
    refine bodyPost_ret (v := .tuple #[.agg #[.int .i64 0, .int .i64 0, .int .i64 0, .int .i64 0, .int .i64 0], .bool false]) (by simp [results, Try.results48, go_sem, *]) rfl ⟨by rw [HR.out.1, HR.out.2.1]; rfl, ?_⟩
    rw [HR.out.2.2]
    refine recv_end HMid.out hlt ?_ rfl ?_
    · repeat (first | (refine Touch.setCell ?_ (Or.inl (by simp)) _) | refine Touch.drewN ?_ _ | exact Touch.refl _ _)
    · repeat (first | (refine Blk.setCell_ne ?_ (by simp; omega) _) | refine Blk.drewN ?_ _ | exact HMid.out.line.blk)
  · rw [hh] at x0
    by_cases hn : p.nu = l.tk + 1
    · have HR := Lib.hid (recv_next (l := l) hh hn)
      have hb1 : (p.nu != l.tk + 1) = false := by simp [hn]
      have hw1 := H1.out
      clear hn hh
      go_wp2_with fail
      go_quiet (fail)
      go_wp2_with fail
      refine bodyPost_ret (v := .tuple #[.agg #[.int .i64 p.nt.k, .int .i64 p.nt.s, .int .i64 p.nt.a, .int .i64 p.nt.b, .int .i64 p.nt.c], .bool true]) (by simp [results, Try.results48, go_sem, *]) rfl ⟨by rw [HR.out.1, HR.out.2.1], ?_⟩
      rw [HR.out.2.2]
      refine recv_end HMid.out hlt ?_ rfl ?_
      · repeat (first | (refine Touch.setCell ?_ (Or.inl (by simp)) _) | refine Touch.drewN ?_ _ | exact Touch.refl _ _)
      · repeat (first | (refine Blk.setCell_ne ?_ (by simp; omega) _) | refine Blk.drewN ?_ _ | exact Blk.s5_3 (Blk.s5_4 HMid.out.line.blk) | exact Blk.s5_3 ((Blk.s5_4 HMid.out.line.blk).drewN _))
    · have HR := Lib.hid (recv_other (l := l) hh hn)
      have hb1 : (p.nu != l.tk + 1) = true := by simp [hn]
      have hw1 := H1.out
      clear hn hh
      go_wp2_with fail
      go_quiet (fail)
      go_wp2_with fail
      refine bodyPost_ret (v := .tuple #[.agg #[.int .i64 0, .int .i64 0, .int .i64 0, .int .i64 0, .int .i64 0], .bool false]) (by simp [results, Try.results48, go_sem, *]) rfl ⟨by rw [HR.out.1, HR.out.2.1]; rfl, ?_⟩
      rw [HR.out.2.2]
      refine recv_end HMid.out hlt ?_ rfl ?_
      · repeat (first | (refine Touch.setCell ?_ (Or.inl (by simp)) _) | refine Touch.drewN ?_ _ | exact Touch.refl _ _)
      · repeat (first | (refine Blk.setCell_ne ?_ (by simp; omega) _) | refine Blk.drewN ?_ _ | exact Blk.s5_4 HMid.out.line.blk)
set_option maxRecDepth 100000 in
set_option maxHeartbeats 8000000 in
theorem Receive_2 (b : Int) (B g : Nat) (A : Option Addr) (cap : Nat) (l : Ln) (p : Pk) (w : World) (h : LineAt w B g A cap l) (hB : B ≤ w.heap.size) (hl : Lx.ok b l) (hb : b ≤ 4611686018427387904) (hak : p.ak ≤ 9223372036854775807) (k1 : l.dn < p.ak) (k2 : (l.L.length : Int) < p.ak - l.dn) :
    Calls Try.prog 48 #[.pointer (some ⟨g, 0, none⟩), .agg #[.bool p.has, .int .i64 p.nu, .int .i64 p.nt.k, .int .i64 p.nt.s, .int .i64 p.nt.a, .int .i64 p.nt.b, .int .i64 p.nt.c, .int .i64 p.ak]] w (RecvTo w B g A l p) := by
  have hlt := h.blk.lt
  have c0 := h.blk.cell 0 rfl
  have c1 := h.blk.cell 1 rfl
  have c2 := h.blk.cell 2 rfl
  have c3 := h.blk.cell 3 rfl
  have c4 := h.blk.cell 4 rfl
  have f1 := h.blk.free 1
  have f2 := h.blk.free 2
  have H := Lib.hid h
  have HBase := Lib.hid hB
  have bd := hl.1
  have bt := hl.2.1
  have bl := hl.2.2
  have h1 : IntKind.i64.wrap (l.tk + 1) = l.tk + 1 := IntWalk.i64_in _ (by omega)
  have H1 := Lib.hid h1
  have HP := Lib.hid (pre_init w p)
  have HA := Lib.hid hak
  obtain ⟨len, hlen⟩ : ∃ len, len = l.L.length := ⟨_, rfl⟩
  rw [← hlen] at c1 bl
  have HLen := Lib.hid hlen
  clear h hB hl h1 hak hlen
  rw [← HLen.out] at k2
  have hd : decide (l.dn < p.ak) = true := by simp; omega
  have hd2 : decide (p.ak - l.dn ≤ (len : Int)) = false := by simp; omega
  have hw : IntKind.i64.wrap (p.ak - l.dn) = p.ak - l.dn := IntWalk.i64_in _ (by have := HA.out; omega)
  have HD := Lib.hid (show Lx.ackB l p = false by unfold Lx.ackB; rw [hd, ← HLen.out, hd2]; rfl)
  clear bd bt bl k1 k2
  go_enter Try.func48, Try.ntmps48
  go_wp2_with (go_at_call 52; refine (validL_c _ _ (by go_simp)).mono ?_; rintro e w' ⟨rfl, rfl⟩)
  go_quiet (fail)
  go_wp2_with fail
  go_quiet (fail)
  refine then_world (fun W => ∃ A1 cap1, RecvMid w B g A p (Lx.ack l p) A1 cap1 W) (mid_no H.out HD.out ((HP.out.drewN _).drewN _)) ?_
  intro W1 hM
  have HM := Lib.hid hM
  clear hM HD HLen c1 c2 c3 c4 f1 f2 HP
  clear hd hd2 hw
  obtain ⟨A1, cap1, hM⟩ := HM.out
  clear HM
  have d0 := hM.line.blk.cell 0 rfl
  have d1 := hM.line.blk.cell 1 rfl
  have d2 := hM.line.blk.cell 2 rfl
  have d3 := hM.line.blk.cell 3 rfl
  have d4 := hM.line.blk.cell 4 rfl
  have e3 := hM.line.blk.free 3
  have e4 := hM.line.blk.free 4
  rw [ack_tk] at d3
  have x0 := hM.box.cell 0 rfl
  have x1 := hM.box.cell 1 rfl
  have x2 := hM.box.cell 2 rfl
  have x3 := hM.box.cell 3 rfl
  have x4 := hM.box.cell 4 rfl
  have x5 := hM.box.cell 5 rfl
  have x6 := hM.box.cell 6 rfl
  have r0 := hM.res.cell 0 rfl
  have r1 := hM.res.cell 1 rfl
  have r2 := hM.res.cell 2 rfl
  have r3 := hM.res.cell 3 rfl
  have r4 := hM.res.cell 4 rfl
  have s0 := hM.res.free 0
  have s1 := hM.res.free 1
  have s2 := hM.res.free 2
  have s3 := hM.res.free 3
  have s4 := hM.res.free 4
  have hz : w.heap.size + 1 < W1.heap.size := hM.res.lt
  have HMid := Lib.hid hM
  clear hM
  cases hh : p.has
  · rw [hh] at x0
    have HR := Lib.hid (recv_no (l := l) hh)
    clear hh
    go_wp2_with fail
    refine bodyPost_ret (v := .tuple #[.agg #[.int .i64 0, .int .i64 0, .int .i64 0, .int .i64 0, .int .i64 0], .bool false]) (by simp [results, Try.results48, go_sem, *]) rfl ⟨by rw [HR.out.1, HR.out.2.1]; rfl, ?_⟩
    rw [HR.out.2.2]
    refine recv_end HMid.out hlt ?_ rfl ?_
    · repeat (first | (refine Touch.setCell ?_ (Or.inl (by simp)) _) | refine Touch.drewN ?_ _ | exact Touch.refl _ _)
    · repeat (first | (refine Blk.setCell_ne ?_ (by simp; omega) _) | refine Blk.drewN ?_ _ | exact HMid.out.line.blk)
  · rw [hh] at x0
    by_cases hn : p.nu = l.tk + 1
    · have HR := Lib.hid (recv_next (l := l) hh hn)
      have hb1 : (p.nu != l.tk + 1) = false := by simp [hn]
      have hw1 := H1.out
      clear hn hh
      go_wp2_with fail
      go_quiet (fail)
      go_wp2_with fail
      refine bodyPost_ret (v := .tuple #[.agg #[.int .i64 p.nt.k, .int .i64 p.nt.s, .int .i64 p.nt.a, .int .i64 p.nt.b, .int .i64 p.nt.c], .bool true]) (by simp [results, Try.results48, go_sem, *]) rfl ⟨by rw [HR.out.1, HR.out.2.1], ?_⟩
      rw [HR.out.2.2]
      refine recv_end HMid.out hlt ?_ rfl ?_
      · repeat (first | (refine Touch.setCell ?_ (Or.inl (by simp)) _) | refine Touch.drewN ?_ _ | exact Touch.refl _ _)
      · repeat (first | (refine Blk.setCell_ne ?_ (by simp; omega) _) | refine Blk.drewN ?_ _ | exact Blk.s5_3 (Blk.s5_4 HMid.out.line.blk) | exact Blk.s5_3 ((Blk.s5_4 HMid.out.line.blk).drewN _))
    · have HR := Lib.hid (recv_other (l := l) hh hn)
      have hb1 : (p.nu != l.tk + 1) = true := by simp [hn]
      have hw1 := H1.out
      clear hn hh
      go_wp2_with fail
      go_quiet (fail)
      go_wp2_with fail
      refine bodyPost_ret (v := .tuple #[.agg #[.int .i64 0, .int .i64 0, .int .i64 0, .int .i64 0, .int .i64 0], .bool false]) (by simp [results, Try.results48, go_sem, *]) rfl ⟨by rw [HR.out.1, HR.out.2.1]; rfl, ?_⟩
      rw [HR.out.2.2]
      refine recv_end HMid.out hlt ?_ rfl ?_
      · repeat (first | (refine Touch.setCell ?_ (Or.inl (by simp)) _) | refine Touch.drewN ?_ _ | exact Touch.refl _ _)
      · repeat (first | (refine Blk.setCell_ne ?_ (by simp; omega) _) | refine Blk.drewN ?_ _ | exact Blk.s5_4 HMid.out.line.blk)
set_option maxRecDepth 100000 in
set_option maxHeartbeats 8000000 in
theorem Receive_a (b : Int) (B g : Nat) (A : Option Addr) (cap : Nat) (l : Ln) (p : Pk) (w : World) (h : LineAt w B g A cap l) (hB : B ≤ w.heap.size) (hl : Lx.ok b l) (hb : b ≤ 4611686018427387904) (hak : p.ak ≤ 9223372036854775807) (m : Nat) (hm1 : 1 ≤ m) (hm2 : m ≤ l.L.length) (hpk : p.ak = l.dn + m) (hmc : m < cap) :
    Calls Try.prog 48 #[.pointer (some ⟨g, 0, none⟩), .agg #[.bool p.has, .int .i64 p.nu, .int .i64 p.nt.k, .int .i64 p.nt.s, .int .i64 p.nt.a, .int .i64 p.nt.b, .int .i64 p.nt.c, .int .i64 p.ak]] w (RecvTo w B g A l p) := by
  have hlt := h.blk.lt
  have c0 := h.blk.cell 0 rfl
  have c1 := h.blk.cell 1 rfl
  have c2 := h.blk.cell 2 rfl
  have c3 := h.blk.cell 3 rfl
  have c4 := h.blk.cell 4 rfl
  have f1 := h.blk.free 1
  have f2 := h.blk.free 2
  have H := Lib.hid h
  have HBase := Lib.hid hB
  have bd := hl.1
  have bt := hl.2.1
  have bl := hl.2.2
  have h1 : IntKind.i64.wrap (l.tk + 1) = l.tk + 1 := IntWalk.i64_in _ (by omega)
  have H1 := Lib.hid h1
  have HP := Lib.hid (pre_init w p)
  have HA := Lib.hid hak
  obtain ⟨len, hlen⟩ : ∃ len, len = l.L.length := ⟨_, rfl⟩
  rw [← hlen] at c1 bl
  have HLen := Lib.hid hlen
  clear h hB hl h1 hak hlen
  rw [← HLen.out] at hm2
  obtain ⟨r, rfl, hnc, hcm⟩ := row_form H.out.own (by rw [← HLen.out]; omega)
  rw [← HLen.out] at hnc
  have hd : decide (l.dn < p.ak) = true := by simp; omega
  have hd2 : decide ((m : Int) ≤ (len : Int)) = true := by simp; omega
  have hw : IntKind.i64.wrap (p.ak - l.dn) = (m : Int) := by rw [IntWalk.i64_in _ (by have := HA.out; omega)]; omega
  have HK := Lib.hid hpk
  clear hpk
  unfold maxLen at hcm
  have HLm := Lib.hid (show len - m = (l.L.drop m).length by rw [List.length_drop, HLen.out])
  have HL2 := Lib.hid (show (l.L.drop m).length ≤ 1000000 by rw [List.length_drop, ← HLen.out]; omega)
  have HSrc := Lib.hid (show ∀ W, Touch (fun _ => False) w W → SrcRow W (some ⟨r, m * 5, none⟩) (len - m) (flat (l.L.drop m)) from fun W ht => by
    have h0 := (own_src (own_keep H.out.own ht (fun _ _ e => e)) m (by rw [← HLen.out]; exact hm2)).1
    rw [← HLen.out] at h0
    have ha : (⟨r, 0, none⟩ : Addr).add (m * 5) = ⟨r, m * 5, none⟩ := by unfold Addr.add; rw [if_neg (by omega)]; simp
    simpa [ha] using h0)
  go_enter Try.func48, Try.ntmps48
  go_wp2_with (go_at_call 52; refine (validL_c _ _ (by go_simp)).mono ?_; rintro e w' ⟨rfl, rfl⟩)
  go_quiet (fail)
  go_wp2_with fail
  go_quiet (fail)
  go_upto_region 7 with (go_at_call 59; refine (Clone_c (some ⟨r, m * 5, none⟩) (len - m) (cap - m) (l.L.drop m) _ HLm.out (HSrc.out _ (HP.out.drewN _).t) (fun e => by cases e) HL2.out).mono ?_; rintro e w1 ⟨A', cap', rfl, hown, hbel⟩; have hP1 := pre_call HP.out hbel; have hg := (hP1.line H.out).blk; have d1 := hg.cell 1 rfl; have d2 := hg.cell 2 rfl; have e1 := hg.free 1; have e2 := hg.free 2; have x7 := hP1.box.cell 7 rfl; have HP1 := Lib.hid hP1; have HOw := Lib.hid hown; clear hg hP1 hown hbel)
  refine wp_world (fun W => ∃ A1 cap1, RecvMid w B g (some ⟨r, 0, none⟩) p (Lx.ack l p) A1 cap1 W) (mid_yes H.out HBase.out hm1 (by rw [← HLen.out]; exact hm2) HK.out HP1.out ?_ HOw.out ?_) ?_
  · simp
  · simp
  intro W1 hM
  have HM := Lib.hid hM
  clear hM d1 d2 e1 e2 x7 HP1 HOw HP HLen HLm HL2 HSrc HK c1 c2 c3 c4 f1 f2 hd hd2 hw hm1 hm2 hnc hcm hmc bd bt bl
  obtain ⟨A1, cap1, hM⟩ := HM.out
  clear HM
  have d0 := hM.line.blk.cell 0 rfl
  have d1 := hM.line.blk.cell 1 rfl
  have d2 := hM.line.blk.cell 2 rfl
  have d3 := hM.line.blk.cell 3 rfl
  have d4 := hM.line.blk.cell 4 rfl
  have e3 := hM.line.blk.free 3
  have e4 := hM.line.blk.free 4
  rw [ack_tk] at d3
  have x0 := hM.box.cell 0 rfl
  have x1 := hM.box.cell 1 rfl
  have x2 := hM.box.cell 2 rfl
  have x3 := hM.box.cell 3 rfl
  have x4 := hM.box.cell 4 rfl
  have x5 := hM.box.cell 5 rfl
  have x6 := hM.box.cell 6 rfl
  have r0 := hM.res.cell 0 rfl
  have r1 := hM.res.cell 1 rfl
  have r2 := hM.res.cell 2 rfl
  have r3 := hM.res.cell 3 rfl
  have r4 := hM.res.cell 4 rfl
  have s0 := hM.res.free 0
  have s1 := hM.res.free 1
  have s2 := hM.res.free 2
  have s3 := hM.res.free 3
  have s4 := hM.res.free 4
  have hz : w.heap.size + 1 < W1.heap.size := hM.res.lt
  have HMid := Lib.hid hM
  clear hM
  cases hh : p.has
  · rw [hh] at x0
    have HR := Lib.hid (recv_no (l := l) hh)
    clear hh
    go_wp2_with fail
    refine bodyPost_ret (v := .tuple #[.agg #[.int .i64 0, .int .i64 0, .int .i64 0, .int .i64 0, .int .i64 0], .bool false]) (by simp [results, Try.results48, go_sem, *]) rfl ⟨by rw [HR.out.1, HR.out.2.1]; rfl, ?_⟩
    rw [HR.out.2.2]
    refine recv_end HMid.out hlt ?_ rfl ?_
    · repeat (first | (refine Touch.setCell ?_ (Or.inl (by simp)) _) | refine Touch.drewN ?_ _ | exact Touch.refl _ _)
    · repeat (first | (refine Blk.setCell_ne ?_ (by simp; omega) _) | refine Blk.drewN ?_ _ | exact HMid.out.line.blk)
  · rw [hh] at x0
    by_cases hn : p.nu = l.tk + 1
    · have HR := Lib.hid (recv_next (l := l) hh hn)
      have hb1 : (p.nu != l.tk + 1) = false := by simp [hn]
      have hw1 := H1.out
      clear hn hh
      go_wp2_with fail
      go_quiet (fail)
      go_wp2_with fail
      refine bodyPost_ret (v := .tuple #[.agg #[.int .i64 p.nt.k, .int .i64 p.nt.s, .int .i64 p.nt.a, .int .i64 p.nt.b, .int .i64 p.nt.c], .bool true]) (by simp [results, Try.results48, go_sem, *]) rfl ⟨by rw [HR.out.1, HR.out.2.1], ?_⟩
      rw [HR.out.2.2]
      refine recv_end HMid.out hlt ?_ rfl ?_
      · repeat (first | (refine Touch.setCell ?_ (Or.inl (by simp)) _) | refine Touch.drewN ?_ _ | exact Touch.refl _ _)
      · repeat (first | (refine Blk.setCell_ne ?_ (by simp; omega) _) | refine Blk.drewN ?_ _ | exact Blk.s5_3 (Blk.s5_4 HMid.out.line.blk) | exact Blk.s5_3 ((Blk.s5_4 HMid.out.line.blk).drewN _))
    · have HR := Lib.hid (recv_other (l := l) hh hn)
      have hb1 : (p.nu != l.tk + 1) = true := by simp [hn]
      have hw1 := H1.out
      clear hn hh
      go_wp2_with fail
      go_quiet (fail)
      go_wp2_with fail
      refine bodyPost_ret (v := .tuple #[.agg #[.int .i64 0, .int .i64 0, .int .i64 0, .int .i64 0, .int .i64 0], .bool false]) (by simp [results, Try.results48, go_sem, *]) rfl ⟨by rw [HR.out.1, HR.out.2.1]; rfl, ?_⟩
      rw [HR.out.2.2]
      refine recv_end HMid.out hlt ?_ rfl ?_
      · repeat (first | (refine Touch.setCell ?_ (Or.inl (by simp)) _) | refine Touch.drewN ?_ _ | exact Touch.refl _ _)
      · repeat (first | (refine Blk.setCell_ne ?_ (by simp; omega) _) | refine Blk.drewN ?_ _ | exact Blk.s5_4 HMid.out.line.blk)
set_option maxRecDepth 100000 in
set_option maxHeartbeats 8000000 in
theorem Receive_b (b : Int) (B g : Nat) (A : Option Addr) (cap : Nat) (l : Ln) (p : Pk) (w : World) (h : LineAt w B g A cap l) (hB : B ≤ w.heap.size) (hl : Lx.ok b l) (hb : b ≤ 4611686018427387904) (hak : p.ak ≤ 9223372036854775807) (m : Nat) (hm1 : 1 ≤ m) (hm2 : m ≤ l.L.length) (hpk : p.ak = l.dn + m) (hmc : cap ≤ m) :
    Calls Try.prog 48 #[.pointer (some ⟨g, 0, none⟩), .agg #[.bool p.has, .int .i64 p.nu, .int .i64 p.nt.k, .int .i64 p.nt.s, .int .i64 p.nt.a, .int .i64 p.nt.b, .int .i64 p.nt.c, .int .i64 p.ak]] w (RecvTo w B g A l p) := by
  have hlt := h.blk.lt
  have c0 := h.blk.cell 0 rfl
  have c1 := h.blk.cell 1 rfl
  have c2 := h.blk.cell 2 rfl
  have c3 := h.blk.cell 3 rfl
  have c4 := h.blk.cell 4 rfl
  have f1 := h.blk.free 1
  have f2 := h.blk.free 2
  have H := Lib.hid h
  have HBase := Lib.hid hB
  have bd := hl.1
  have bt := hl.2.1
  have bl := hl.2.2
  have h1 : IntKind.i64.wrap (l.tk + 1) = l.tk + 1 := IntWalk.i64_in _ (by omega)
  have H1 := Lib.hid h1
  have HP := Lib.hid (pre_init w p)
  have HA := Lib.hid hak
  obtain ⟨len, hlen⟩ : ∃ len, len = l.L.length := ⟨_, rfl⟩
  rw [← hlen] at c1 bl
  have HLen := Lib.hid hlen
  clear h hB hl h1 hak hlen
  rw [← HLen.out] at hm2
  obtain ⟨r, rfl, hnc, hcm⟩ := row_form H.out.own (by rw [← HLen.out]; omega)
  rw [← HLen.out] at hnc
  have hd : decide (l.dn < p.ak) = true := by simp; omega
  have hd2 : decide ((m : Int) ≤ (len : Int)) = true := by simp; omega
  have hw : IntKind.i64.wrap (p.ak - l.dn) = (m : Int) := by rw [IntWalk.i64_in _ (by have := HA.out; omega)]; omega
  have HK := Lib.hid hpk
  clear hpk
  unfold maxLen at hcm
  have HLm := Lib.hid (show len - m = (l.L.drop m).length by rw [List.length_drop, HLen.out])
  have HL2 := Lib.hid (show (l.L.drop m).length ≤ 1000000 by rw [List.length_drop, ← HLen.out]; omega)
  have HSrc := Lib.hid (show ∀ W, Touch (fun _ => False) w W → SrcRow W (some ⟨r, 0, none⟩) (len - m) (flat (l.L.drop m)) from fun W ht => by
    rw [List.drop_eq_nil_of_le (by rw [← HLen.out]; omega)]
    exact .inr ⟨_, rfl, fun j u hu => by simp [flat] at hu⟩)
  go_enter Try.func48, Try.ntmps48
  go_wp2_with (go_at_call 52; refine (validL_c _ _ (by go_simp)).mono ?_; rintro e w' ⟨rfl, rfl⟩)
  go_quiet (fail)
  go_wp2_with fail
  go_quiet (fail)
  go_upto_region 7 with (go_at_call 59; refine (Clone_c (some ⟨r, 0, none⟩) (len - m) _ (l.L.drop m) _ HLm.out (HSrc.out _ (HP.out.drewN _).t) (fun e => by cases e) HL2.out).mono ?_; rintro e w1 ⟨A', cap', rfl, hown, hbel⟩; have hP1 := pre_call HP.out hbel; have hg := (hP1.line H.out).blk; have d1 := hg.cell 1 rfl; have d2 := hg.cell 2 rfl; have e1 := hg.free 1; have e2 := hg.free 2; have x7 := hP1.box.cell 7 rfl; have HP1 := Lib.hid hP1; have HOw := Lib.hid hown; clear hg hP1 hown hbel)
  refine wp_world (fun W => ∃ A1 cap1, RecvMid w B g (some ⟨r, 0, none⟩) p (Lx.ack l p) A1 cap1 W) (mid_yes H.out HBase.out hm1 (by rw [← HLen.out]; exact hm2) HK.out HP1.out ?_ HOw.out ?_) ?_
  · simp
  · simp
  intro W1 hM
  have HM := Lib.hid hM
  clear hM d1 d2 e1 e2 x7 HP1 HOw HP HLen HLm HL2 HSrc HK c1 c2 c3 c4 f1 f2 hd hd2 hw hm1 hm2 hnc hcm hmc bd bt bl
  obtain ⟨A1, cap1, hM⟩ := HM.out
  clear HM
  have d0 := hM.line.blk.cell 0 rfl
  have d1 := hM.line.blk.cell 1 rfl
  have d2 := hM.line.blk.cell 2 rfl
  have d3 := hM.line.blk.cell 3 rfl
  have d4 := hM.line.blk.cell 4 rfl
  have e3 := hM.line.blk.free 3
  have e4 := hM.line.blk.free 4
  rw [ack_tk] at d3
  have x0 := hM.box.cell 0 rfl
  have x1 := hM.box.cell 1 rfl
  have x2 := hM.box.cell 2 rfl
  have x3 := hM.box.cell 3 rfl
  have x4 := hM.box.cell 4 rfl
  have x5 := hM.box.cell 5 rfl
  have x6 := hM.box.cell 6 rfl
  have r0 := hM.res.cell 0 rfl
  have r1 := hM.res.cell 1 rfl
  have r2 := hM.res.cell 2 rfl
  have r3 := hM.res.cell 3 rfl
  have r4 := hM.res.cell 4 rfl
  have s0 := hM.res.free 0
  have s1 := hM.res.free 1
  have s2 := hM.res.free 2
  have s3 := hM.res.free 3
  have s4 := hM.res.free 4
  have hz : w.heap.size + 1 < W1.heap.size := hM.res.lt
  have HMid := Lib.hid hM
  clear hM
  cases hh : p.has
  · rw [hh] at x0
    have HR := Lib.hid (recv_no (l := l) hh)
    clear hh
    go_wp2_with fail
    refine bodyPost_ret (v := .tuple #[.agg #[.int .i64 0, .int .i64 0, .int .i64 0, .int .i64 0, .int .i64 0], .bool false]) (by simp [results, Try.results48, go_sem, *]) rfl ⟨by rw [HR.out.1, HR.out.2.1]; rfl, ?_⟩
    rw [HR.out.2.2]
    refine recv_end HMid.out hlt ?_ rfl ?_
    · repeat (first | (refine Touch.setCell ?_ (Or.inl (by simp)) _) | refine Touch.drewN ?_ _ | exact Touch.refl _ _)
    · repeat (first | (refine Blk.setCell_ne ?_ (by simp; omega) _) | refine Blk.drewN ?_ _ | exact HMid.out.line.blk)
  · rw [hh] at x0
    by_cases hn : p.nu = l.tk + 1
    · have HR := Lib.hid (recv_next (l := l) hh hn)
      have hb1 : (p.nu != l.tk + 1) = false := by simp [hn]
      have hw1 := H1.out
      clear hn hh
      go_wp2_with fail
      go_quiet (fail)
      go_wp2_with fail
      refine bodyPost_ret (v := .tuple #[.agg #[.int .i64 p.nt.k, .int .i64 p.nt.s, .int .i64 p.nt.a, .int .i64 p.nt.b, .int .i64 p.nt.c], .bool true]) (by simp [results, Try.results48, go_sem, *]) rfl ⟨by rw [HR.out.1, HR.out.2.1], ?_⟩
      rw [HR.out.2.2]
      refine recv_end HMid.out hlt ?_ rfl ?_
      · repeat (first | (refine Touch.setCell ?_ (Or.inl (by simp)) _) | refine Touch.drewN ?_ _ | exact Touch.refl _ _)
      · repeat (first | (refine Blk.setCell_ne ?_ (by simp; omega) _) | refine Blk.drewN ?_ _ | exact Blk.s5_3 (Blk.s5_4 HMid.out.line.blk) | exact Blk.s5_3 ((Blk.s5_4 HMid.out.line.blk).drewN _))
    · have HR := Lib.hid (recv_other (l := l) hh hn)
      have hb1 : (p.nu != l.tk + 1) = true := by simp [hn]
      have hw1 := H1.out
      clear hn hh
      go_wp2_with fail
      go_quiet (fail)
      go_wp2_with fail
      refine bodyPost_ret (v := .tuple #[.agg #[.int .i64 0, .int .i64 0, .int .i64 0, .int .i64 0, .int .i64 0], .bool false]) (by simp [results, Try.results48, go_sem, *]) rfl ⟨by rw [HR.out.1, HR.out.2.1]; rfl, ?_⟩
      rw [HR.out.2.2]
      refine recv_end HMid.out hlt ?_ rfl ?_
      · repeat (first | (refine Touch.setCell ?_ (Or.inl (by simp)) _) | refine Touch.drewN ?_ _ | exact Touch.refl _ _)
      · repeat (first | (refine Blk.setCell_ne ?_ (by simp; omega) _) | refine Blk.drewN ?_ _ | exact Blk.s5_4 HMid.out.line.blk)
theorem Receive_c (b : Int) (B g : Nat) (A : Option Addr) (cap : Nat) (l : Ln) (p : Pk) (w : World) (h : LineAt w B g A cap l) (hB : B ≤ w.heap.size) (hl : Lx.ok b l) (hb : b ≤ 4611686018427387904) (hak : p.ak ≤ 9223372036854775807) :
    Calls Try.prog 48 #[.pointer (some ⟨g, 0, none⟩), .agg #[.bool p.has, .int .i64 p.nu, .int .i64 p.nt.k, .int .i64 p.nt.s, .int .i64 p.nt.a, .int .i64 p.nt.b, .int .i64 p.nt.c, .int .i64 p.ak]] w (RecvTo w B g A l p) := by
  rcases ack_cases l p b hl hb with ⟨m, hm1, hm2, hpk⟩ | ⟨k1, k2⟩ | k1
  · rcases Nat.lt_or_ge m cap with hmc | hmc
    · exact Receive_a b B g A cap l p w h hB hl hb hak m hm1 hm2 hpk hmc
    · exact Receive_b b B g A cap l p w h hB hl hb hak m hm1 hm2 hpk hmc
  · exact Receive_2 b B g A cap l p w h hB hl hb hak k1 k2
  · exact Receive_3 b B g A cap l p w h hB hl hb hak k1
end Go.Proofs.Ytlklnaebdnahcaa
namespace Go.Proofs.Ytlklnaebdnahcaa
open Go.RowKit
end Go.Proofs.Ytlklnaebdnahcaa
namespace Go.Proofs.Ytlklnaebdnahcaa
open Go.RowKit
structure SendMid (w : World) (g : Nat) (l : Ln) (n : Nt) (A1 : Option Addr) (cap1 : Nat) (W : World) : Prop where
  own : W.ownsRow w.heap.size 91 5 (.slice A1 l.L.length cap1) l.L.length (flat l.L)
  touch : Touch (fun _ => False) w W
  box : Blk W w.heap.size 91 n.vals
  off : ¬ OwnB A1 w.heap.size
theorem SendMid.alloc {w : World} {g : Nat} {l : Ln} {n : Nt} {A1 : Option Addr} {cap1 : Nat} {W : World} (h : SendMid w g l n A1 cap1 W) (o : Obj) : SendMid w g l n A1 cap1 (W.alloc o) :=
  ⟨own_keep h.own (S := fun _ => False) ((Touch.refl _ _).alloc o) (fun _ _ e => e), h.touch.alloc o, h.box.alloc o, h.off⟩
end Go.Proofs.Ytlklnaebdnahcaa
namespace Go.Proofs.Ytlklnaebdnahcaa
open Go.RowKit
theorem RecvPre.grown {w W w1 : World} {p : Pk} (h : RecvPre w p W) {e : Nat} (hg : W.grownBy w1 (Value.slice (some ⟨e, 0, none⟩) 0 0).ownBlock) (he : w.heap.size + 2 ≤ e) : RecvPre w p w1 :=
  ⟨h.t.grown hg (fun k hk => .inr (by simp [Value.ownBlock] at hk; omega)), Nat.le_trans h.sz hg.size, h.box.grown hg (by simp [Value.ownBlock]; omega), h.res.grown hg (by simp [Value.ownBlock]; omega)⟩
theorem RecvPre.alloc {w W : World} {p : Pk} (h : RecvPre w p W) (o : Obj) : RecvPre w p (W.alloc o) := ⟨h.t.alloc o, Nat.le_trans h.sz (by simp), h.box.alloc o, h.res.alloc o⟩
theorem RecvPre.drew {w W : World} {p : Pk} (h : RecvPre w p W) : RecvPre w p W.drew := ⟨h.t.drew, h.sz, h.box.drew, h.res.drew⟩
end Go.Proofs.Ytlklnaebdnahcaa
namespace Go.Proofs.Ytlklnaebdnahcaa
open Go.RowKit
structure RefAt (W : World) (rs rc cc : Nat) (A : Nat → Option Addr) (q : Nat → Nat) (cs : List Sx.Cl) (D Bk N : Int) : Prop where
  s : Blk W rs 999 [.int .i64 D, .int .i64 Bk, .int .i64 N, .slice (some ⟨rc, 0, none⟩) cs.length cc]
  a : ArrAt W rc 999 cs.length (fun i => clV (A i) (q i) (cs.getD i default))
  r : ∀ i, i < cs.length → LRow 0 (A i) (q i) (cs.getD i default).L W
  c : cs.length ≤ cc ∧ cc ≤ 9223372036854775807
theorem RefAt.touch {W W' : World} {rs rc cc : Nat} {A : Nat → Option Addr} {q : Nat → Nat} {cs : List Sx.Cl} {D Bk N : Int} {S : Nat → Prop} (h : RefAt W rs rc cc A q cs D Bk N) (ht : Touch S W W') (hn : ∀ k, SOwn rs rc A cs.length k → ¬ S k) : RefAt W' rs rc cc A q cs D Bk N :=
  ⟨h.s.touch ht (hn _ (.inl rfl)), h.a.touch ht (hn _ (.inr (.inl rfl))), fun i hi => rowE_keep (h.r i hi) ht (fun k hk => hn k (.inr (.inr ⟨i, hi, hk⟩))), h.c⟩
theorem RefAt.below {W W' : World} {rs rc cc : Nat} {A : Nat → Option Addr} {q : Nat → Nat} {cs : List Sx.Cl} {D Bk N : Int} (h : RefAt W rs rc cc A q cs D Bk N) (hb : Below W.heap.size W W') : RefAt W' rs rc cc A q cs D Bk N :=
  h.touch (Touch.of_below (S := fun _ => False) hb) (fun _ _ e => e)
theorem RefAt.lt {W : World} {rs rc cc : Nat} {A : Nat → Option Addr} {q : Nat → Nat} {cs : List Sx.Cl} {D Bk N : Int} (h : RefAt W rs rc cc A q cs D Bk N) {k : Nat} (hk : SOwn rs rc A cs.length k) : k < W.heap.size := by
  rcases hk with rfl | rfl | ⟨i, hi, hk⟩
  · exact h.s.lt
  · exact h.a.lt
  · exact (rowE_lt (h.r i hi) hk).2
theorem SiteAt.lt {W : World} {B rs rc cc : Nat} {A : Nat → Option Addr} {q : Nat → Nat} {cs : List Sx.Cl} {D Bk N : Int} (h : SiteAt W B rs rc cc A q cs D Bk N) {k : Nat} (hk : SOwn rs rc A cs.length k) : k < W.heap.size := by
  rcases hk with rfl | rfl | ⟨i, hi, hk⟩
  · exact h.s.lt
  · exact h.a.lt
  · exact (rowE_lt (h.r i hi) hk).2
namespace Sx
def cl0 : Cl := ⟨[], 0, 0⟩
def nsE (st dr bk : Int) : Int := if st < 1 ∨ 32 < st then 3 else if (0 ≤ dr ∧ dr ≤ 1073741824) ∧ (0 ≤ bk ∧ bk ≤ 1073741824) then 0 else 2
def cs0 (n : Nat) : List Cl := List.replicate n cl0
theorem cs0_len (n : Nat) : (cs0 n).length = n := by simp [cs0]
theorem cs0_at {n i : Nat} (hi : i < n) : (cs0 n).getD i default = cl0 := by simp [cs0, List.getD_eq_getElem?_getD, hi]
end Sx
theorem info147 : (Try.prog.info? 166).map (fun i => (i.zero, i.size, i.bytes)) = some (some (.agg #[.slice none 0 0, .int .i64 0, .int .i64 0]), 3, 40) := by kernel_rfl
def zCl (n : Nat) : Array Value := madeCells #[.slice none 0 0, .int .i64 0, .int .i64 0] (n * 3)
theorem make_cl (n : Nat) (hn : n ≤ 32) (W : World) : (Instr.makeSlice 119 (.int .i64 n) (.int .i64 n)).run Try.prog W = .ok (.slice (some ⟨W.heap.size, 0, none⟩) n n) (W.alloc (.cells (zCl n) 166)) := by
  obtain ⟨i, hi, hz0, hz1, hz2⟩ := info_parts info147
  have hr := run_make (P := Try.prog) W 119 166 i _ Try.underlying119 hi hz0 .i64 .i64 n n (by omega) (by omega) (by rw [hz2]; omega) (by omega)
  simp only [Int.toNat_natCast, hz1] at hr
  exact hr
theorem arr_new (W : World) (ty : TypeId) (n : Nat) : ArrAt (W.alloc (.cells (zCl n) ty)) W.heap.size ty n (fun i => clV none 0 ((Sx.cs0 n).getD i default)) := by
  refine ⟨zCl n, by show (W.heap.push _)[W.heap.size]? = _; simp, fun i hi j u hu => ?_⟩
  simp only [Sx.cs0_at hi] at hu
  have hj : j < 3 := by rw [← clV_len none 0 Sx.cl0]; exact (List.getElem?_eq_some_iff.1 hu).1
  have hk : i * 3 + j < n * 3 := by omega
  have hm : (i * 3 + j) % 3 = j := by omega
  have : j = 0 ∨ j = 1 ∨ j = 2 := by omega
  unfold zCl madeCells
  rw [Array.getElem?_map, show (Array.range (n * 3))[i * 3 + j]? = some (i * 3 + j) by simp [hk]]
  simp only [Option.map_some]
  rw [show (#[Value.slice none 0 0, .int .i64 0, .int .i64 0] : Array Value).size = 3 from rfl, hm]
  rcases this with rfl | rfl | rfl <;> · rw [← hu]; rfl
theorem row_nil (W : World) (B : Nat) : LRow B none 0 [] W := World.ownsRow_nil _ _ _ _
theorem site_new {W : World} {n : Nat} {D Bk : Int} (B : Nat) (hB : B ≤ W.heap.size) (hn : n ≤ 32) : SiteAt ((W.alloc (.cells (zCl n) 166)).alloc (.cells #[.int .i64 D, .int .i64 Bk, .int .i64 0, .slice (some ⟨W.heap.size, 0, none⟩) n n] 121)) B (W.heap.size + 1) W.heap.size n (fun _ => none) (fun _ => 0) (Sx.cs0 n) D Bk 0 := by
  have hs := Blk.new' (W.alloc (.cells (zCl n) 166)) #[.int .i64 D, .int .i64 Bk, .int .i64 0, .slice (some ⟨W.heap.size, 0, none⟩) n n] 121
  simp only [World.size_alloc] at hs
  have ha := (arr_new W 166 n).below ((Below.refl _ _).alloc (Nat.le_refl _) (.cells #[.int .i64 D, .int .i64 Bk, .int .i64 0, .slice (some ⟨W.heap.size, 0, none⟩) n n] 121))
  refine ⟨by rw [Sx.cs0_len]; exact hs, by rw [Sx.cs0_len]; exact ha, fun i hi => ?_, fun i j _ _ _ k hk => (by obtain ⟨a, e, _⟩ := hk; cases e), by omega, by rw [Sx.cs0_len]; omega⟩
  rw [Sx.cs0_len] at hi
  rw [Sx.cs0_at hi]
  exact row_nil _ _
theorem nsE_ok {st dr bk : Int} (h : Sx.nsE st dr bk = 0) : (1 ≤ st ∧ st ≤ 32) ∧ (0 ≤ dr ∧ dr ≤ 1073741824) ∧ (0 ≤ bk ∧ bk ≤ 1073741824) := by
  unfold Sx.nsE at h
  split at h
  · cases h
  · split at h
    · rename_i h1 h2; exact ⟨by omega, h2⟩
    · cases h
theorem inB_mk {x lo hi : Int} (h : lo ≤ x ∧ x ≤ hi) : Cv.inB x lo hi = true := by simpa [Cv.inB] using h
theorem NewSite_c (n : Nat) (dr bk : Int) (w : World) (he : Sx.nsE n dr bk = 0) : Calls Try.prog 18 #[.int .i64 n, .int .i64 dr, .int .i64 bk] w fun e w' => e = .returned (.tuple #[.pointer (some ⟨w.heap.size + 1, 0, none⟩), .int .i64 0]) ∧ w' = (w.alloc (.cells (zCl n) 166)).alloc (.cells #[.int .i64 dr, .int .i64 bk, .int .i64 0, .slice (some ⟨w.heap.size, 0, none⟩) n n] 121) := by
  obtain ⟨h1, h2, h3⟩ := nsE_ok he
  have k1 := inB_mk h2
  have k2 := inB_mk h3
  have hmk := make_cl n (by omega)
  have n1 : decide ((n : Int) < 1) = false := decide_eq_false (by omega)
  have n2 : decide (32 < (n : Int)) = false := decide_eq_false (by omega)
  clear he h1 h2 h3
  go_enter Try.func18, Try.ntmps18
  go_wp2_with (go_at_call 23; refine (within_c _ _ _ _).mono ?_; rintro e w' ⟨rfl, rfl⟩)
  go_ret2
  exact ⟨rfl, rfl⟩
end Go.Proofs.Ytlklnaebdnahcaa
namespace Go.Proofs.Ytlklnaebdnahcaa
open Go Go.RowKit
def headB (ops : Array Oper) (k n : Nat) : Bool :=
  Region.noSelect ops && decide (k < ops.size) && dstsOk n (ops.toList.take k) &&
  (List.range ops.size).all (fun i => match ops[i]? with | some o => o.after.all (fun e => !Region.binds .any e || decide (e.on < i)) | none => false) &&
  (List.range ops.size).all (fun t => decide (t < k) || (List.range k).all (fun i => waitsB1 .any ops t i)) &&
  (List.range k).all (fun i => (List.range k).all fun j => match ops[i]?, ops[j]? with
    | some oi, some oj => (match oj.dst with | some d => !(oi.looksAt ops).contains d || (decide (j < i) && waitsB1 .any ops i j) | none => false)
    | _, _ => false) &&
  Region.seqB .any ops (ops.size - k) k (Array.replicate k true ++ Array.replicate (ops.size - k) false)
structure Mid0 (P : Program) (ops : Array Oper) (k : Nat) (a0 af : Act) (W : World) (listed : Array Bool) (a : Act) (w : World) : Prop where
  size : listed.size = ops.size
  closed : ∀ j oj, ops[j]? = some oj → listed.getD j false = true → ∀ e ∈ oj.after, Region.binds .any e = true → listed.getD e.on false = true
  tail : ∀ t, k ≤ t → t < ops.size → listed.getD t true = false
  ahd : Below W.heap.size W w
  defers : a.defers = a0.defers
  tsize : a.tmps.size = a0.tmps.size
  put : ∀ j o t, j < k → ops[j]? = some o → o.dst = some t → listed.getD j false = true → slotOf a t = slotOf af t
  same : ∀ t, (∀ j o, j < k → ops[j]? = some o → listed.getD j false = true → o.dst ≠ some t) → slotOf a t = slotOf a0 t
section
variable {P : Program} {Q : Exit → Act → World → Prop} {W : World} {a0 af : Act} {l : List Oper} {k : Nat}
theorem first_no' (listed : Array Bool) (k : Nat) (h : ¬ (∀ i, i < k → listed.getD i false = true)) : ∃ i, i < k ∧ (∀ j, j < i → listed.getD j false = true) ∧ listed.getD i false = false := by
  cases k with
  | zero => exact absurd (fun i hi => absurd hi (Nat.not_lt_zero _)) h
  | succ k =>
    obtain ⟨i, h1, h2, h3⟩ := first_no listed k (fun hk => h (fun i hi => hk i (by omega)))
    exact ⟨i, by omega, h2, h3⟩
theorem wp_region_head {id : Nat} (k : Nat) (af : Act) (hm : P.follows .mixedOrders = true)
    (hB : headB l.toArray k a0.tmps.size = true)
    (hwalk : ∀ V : World, Below W.heap.size W V → wpQuiet P l.toArray (fun w' => ∃ x : Past V, w' = x.w) (fun a' => a' = af) (l.take k) a0)
    (htail : ∀ (w' : World), Below W.heap.size W w' → wpList P l.toArray Q (l.drop k) af w') :
    (Code.region id l.toArray true).wp P Q a0 W := by
  unfold headB at hB
  simp only [Bool.and_eq_true, decide_eq_true_eq, List.all_eq_true, List.mem_range, Bool.or_eq_true] at hB
  obtain ⟨⟨⟨⟨⟨⟨hsel, hks⟩, hdst⟩, hback⟩, htl⟩, hdep⟩, hseq⟩ := hB
  have hsz : l.toArray.size = l.length := by simp
  have hkl : k < l.length := by rw [← hsz]; exact hks
  have hdk : dstsOk a0.tmps.size (l.take k) = true := hdst
  have hall : ∀ V : World, Below W.heap.size W V → AllIn P l.toArray (fun w' => ∃ x : Past V, w' = x.w) af (l.take k) a0 := fun V hV => allIn_of hdk (hwalk V hV)
  have hA0 := hall W (Below.refl _ _)
  have hget : ∀ i, i < k → (l.take k)[i]? = l[i]? := fun i hi => by rw [List.getElem?_take]; simp [hi]
  have hafs : ∀ t, (∀ j o, j < k → l[j]? = some o → o.dst ≠ some t) → slotOf af t = slotOf a0 t := fun t ht => hA0.keep.2.2 t (fun o ho => by
    obtain ⟨j, hj⟩ := List.getElem?_of_mem ho
    rw [List.getElem?_take] at hj
    split at hj
    · exact ht j o (by assumption) hj
    · cases hj)
  have hback' : ∀ i o, l[i]? = some o → ∀ e ∈ o.after, Region.binds .any e = true → e.on < i := by
    intro i o hi e he hb
    have hil : i < l.length := (List.getElem?_eq_some_iff.1 hi).1
    have h1 := hback i (by rw [hsz]; exact hil)
    have hi' : l.toArray[i]? = some o := by simpa using hi
    rw [hi'] at h1
    have h2 := Array.all_eq_true_iff_forall_mem.1 h1 e he
    simpa [hb] using h2
  have hdep' : ∀ i o j oj d, i < k → l[i]? = some o → j < k → l[j]? = some oj → oj.dst = some d → d ∈ o.looksAt l.toArray → j < i ∧ waitsB1 .any l.toArray i j = true := by
    intro i o j oj d hi ho hj hoj hd hmem
    have h1 := hdep i hi j (by omega)
    have ho' : l.toArray[i]? = some o := by simpa using ho
    have hoj' : l.toArray[j]? = some oj := by simpa using hoj
    rw [ho', hoj'] at h1
    simp only [hd] at h1
    have hc : (o.looksAt l.toArray).contains d = true := by simpa using hmem
    rw [hc] at h1
    simpa using h1
  have dlt : ∀ i o, i < k → l[i]? = some o → ∃ d, o.dst = some d ∧ d < a0.tmps.size := fun i o hi ho => dsts_lt _ _ i o hdk (by rw [hget i (by omega)]; exact ho)
  have dne : ∀ i j o oj t, i < k → j < k → l[i]? = some o → l[j]? = some oj → i ≠ j → oj.dst = some t → o.dst ≠ some t := fun i j o oj t hi hj ho hoj hne hd => dsts_ne _ _ j i oj o t hdk (by rw [hget j (by omega)]; exact hoj) (by rw [hget i (by omega)]; exact ho) (Ne.symm hne) hd
  have fin : ∀ (listed : Array Bool) (a : Act) (w : World), Mid0 P l.toArray k a0 af W listed a w → (∀ i, i < k → listed.getD i false = true) → ∀ fuel, unl listed = fuel → wpAny P .any l.toArray Q fuel listed a w := by
    intro listed a w m hdone fuel hu
    have hLH : listed = Array.replicate k true ++ Array.replicate (l.toArray.size - k) false := by
      apply Array.ext
      · simp [m.size]; omega
      · intro i h1 h2
        rcases Nat.lt_or_ge i k with h' | h
        rotate_left 1
        · have := m.tail i h (by rw [← m.size]; exact h1)
          rw [Array.getElem_append_right (by simp; omega)]
          simpa [h1] using this
        · have := hdone i h'
          rw [Array.getElem_append_left (by simp; omega)]
          simpa [h1] using this
    have hae : a = af := by
      have hs0 := hA0.keep
      refine act_ext ?_ ?_ ?_
      · rw [m.tsize, hs0.1]
      · rw [m.defers, hs0.2.1]
      · intro t
        by_cases hex : ∃ j o, j < k ∧ l[j]? = some o ∧ o.dst = some t
        · obtain ⟨j, o, hj, ho, hd⟩ := hex
          exact m.put j o t hj (by simpa using ho) hd (hdone j hj)
        · rw [m.same t (fun j o hj ho _ hd => hex ⟨j, o, hj, by simpa using ho, hd⟩), hafs t (fun j o hj ho hd => hex ⟨j, o, hj, ho, hd⟩)]
    have hfu : fuel = (l.drop k).length := by
      rw [← hu, hLH, unl_done]
      simp
    rw [hfu, hae]
    refine wpAny_of_seq (l.drop k) k listed _ w (fun j => by simp [List.getElem?_drop]) ?_ (htail w m.ahd)
    rw [hLH]
    have : (l.drop k).length = l.toArray.size - k := by simp
    rw [this]
    exact hseq
  have main : ∀ (fuel : Nat) (listed : Array Bool) (a : Act) (w : World), Mid0 P l.toArray k a0 af W listed a w → unl listed = fuel → wpAny P .any l.toArray Q fuel listed a w := by
    intro fuel
    induction fuel with
    | zero =>
      intro listed a w m hu
      by_cases hdone : ∀ i, i < k → listed.getD i false = true
      · exact fin listed a w m hdone _ hu
      · obtain ⟨i, hi, _, hun⟩ := first_no' listed k hdone
        have := unl_set (listed := listed) (i := i) (by rw [m.size]; omega) (by rw [getD_tf (by rw [m.size]; omega)]; exact hun)
        omega
    | succ fuel ih =>
      intro listed a w m hu
      by_cases hdone : ∀ i, i < k → listed.getD i false = true
      · exact fin listed a w m hdone _ hu
      · obtain ⟨i0, hi0, hpre, hun0⟩ := first_no' listed k hdone
        refine ⟨fun h0 => ?_, fun i hi => ?_⟩
        · have hr : i0 ∈ Region.ready .any l.toArray listed := by
            rw [mem_ready]
            refine ⟨by rw [getD_tf (by rw [m.size]; omega)]; exact hun0, l[i0]'(by omega), by simp, fun e he hb => hpre _ ?_⟩
            exact hback' i0 _ (by simp) e he hb
          rw [h0] at hr
          cases hr
        · have hi' := hi
          obtain ⟨hun, o, ho, hw⟩ := mem_ready.1 hi
          have hil : i < l.length := by
            have := (Array.getElem?_eq_some_iff.1 ho).1
            simpa using this
          have hol : l[i]? = some o := by simpa using ho
          have hun' : unl (listed.setIfInBounds i true) = fuel := by
            have := unl_set (listed := listed) (i := i) (by rw [m.size]; omega) hun
            omega
          have hik : i < k := by
            rcases Nat.lt_or_ge i k with h | h
            rotate_left 1
            · have h1 := (htl i (by omega)).resolve_left (by omega) i0 (by omega)
              obtain ⟨e, he, hb, heo⟩ := waitsB1_spec ho h1
              have h2 := hw e he hb
              rw [heo, hun0] at h2
              cases h2
            · exact h
          have hclosed : ∀ j oj, l.toArray[j]? = some oj → (listed.setIfInBounds i true).getD j false = true → ∀ e ∈ oj.after, Region.binds .any e = true → (listed.setIfInBounds i true).getD e.on false = true := by
            intro j oj hj hl e he hb
            by_cases hji : i = j
            · subst hji
              rw [ho] at hj
              cases hj
              exact getD_set_true (hw e he hb)
            · rw [getD_set_ne false hji] at hl
              exact getD_set_true (m.closed j oj hj hl e he hb)
          have htail' : ∀ t, k ≤ t → t < l.toArray.size → (listed.setIfInBounds i true).getD t true = false := fun t ht ht' => by rw [getD_set_ne true (by omega)]; exact m.tail t ht ht'
          obtain ⟨d, hod, hdlt⟩ := dlt i o hik hol
          have hlook : ∀ t ∈ o.looksAt l.toArray, slotOf a t = slotOf (accum af ((l.take k).take i) a0) t := by
            intro t ht
            rw [accum_slot _ _ _ (dstsOk_take _ _ _ hdk)]
            by_cases hex : ∃ j oj, j < k ∧ l[j]? = some oj ∧ oj.dst = some t
            · obtain ⟨j, oj, hj, hoj, hdt⟩ := hex
              obtain ⟨hji, hwt⟩ := hdep' i o j oj t hik hol hj hoj hdt ht
              obtain ⟨e, he, hb, heo⟩ := waitsB1_spec ho hwt
              have hlj := hw e he hb
              rw [heo] at hlj
              rw [m.put j oj t (by omega) (by simpa using hoj) hdt hlj, if_pos]
              rw [List.any_eq_true]
              refine ⟨oj, ?_, by simp [hdt]⟩
              refine List.mem_of_getElem? (i := j) ?_
              rw [List.getElem?_take, List.getElem?_take]
              simp only [hji, show j < k by omega, if_true, hoj]
            · rw [m.same t (fun j oj hj hoj _ hdt => hex ⟨j, oj, by omega, by simpa using hoj, hdt⟩), if_neg]
              intro hany
              rw [List.any_eq_true] at hany
              obtain ⟨oj, hmem, hdt⟩ := hany
              obtain ⟨j, hj⟩ := List.getElem?_of_mem (List.mem_of_mem_take hmem)
              rw [List.getElem?_take] at hj
              split at hj
              · exact hex ⟨j, oj, by omega, hj, by simpa using hdt⟩
              · cases hj
          have hy := (hall w m.ahd).get (i := i) (o := o) (by rw [List.getElem?_take]; simp [hik, hol])
          have he : execOp a.eval o = execOp (accum af ((l.take k).take i) a0).eval o := execOp_congr o (fun cs b => Region.noSelect_spec hsel i o cs b ho) (fun x hx => by
            cases x with
            | tmp t => exact hlook t (List.mem_append_left _ (List.mem_filterMap.2 ⟨.tmp t, by simpa using hx, rfl⟩))
            | _ => rfl)
          have hy' := hy.of_same he (wanted_congr hlook)
          refine wpOp_of_qOp (C := fun w' => ∃ x : Past w, w' = x.w) ⟨⟨w, Below.refl _ _⟩, rfl⟩ (fun a' w' hx ha => ?_) (hy'.qOp ho (K := fun a' => a' = a.put o.dst (leftBy af o)) rfl)
          obtain ⟨x, rfl⟩ := hx
          subst ha
          refine ih _ _ _ ⟨by simp [m.size], hclosed, htail', m.ahd.trans (x.far.mono m.ahd.size), by rw [defers_put]; exact m.defers, by rw [size_put]; exact m.tsize, ?_, ?_⟩ hun'
          · intro j oj t hj hoj hdt hl
            by_cases hji : i = j
            · subst hji
              rw [ho] at hoj
              cases hoj
              have : leftBy af o = slotOf af t := by simp [leftBy, hdt]
              rw [hdt, this]
              rw [hod] at hdt
              cases hdt
              exact slot_put_same _ (by rw [m.tsize]; exact hdlt)
            · rw [getD_set_ne false hji] at hl
              rw [slot_put_ne _ (dne i j o oj t hik (by omega) hol (by simpa using hoj) hji hdt)]
              exact m.put j oj t hj hoj hdt hl
          · intro t hno
            have h1 : (listed.setIfInBounds i true).getD i false = true := by
              have : i < listed.size := by rw [m.size]; omega
              simp [this]
            rw [slot_put_ne _ (hno i o hik ho h1)]
            exact m.same t (fun j oj hj hoj hl => hno j oj hj hoj (getD_set_true hl))
  refine wp_region_any hm (main _ _ a0 _ ?_ (by rw [unl_rep]))
  refine ⟨by simp, ?_, ?_, (Below.refl _ _).drew, rfl, rfl, ?_, ?_⟩
  · intro j oj hj h
    rw [getD_replicate_false] at h
    cases h
  · intro t _ ht
    have : (Array.replicate l.toArray.size false).getD t true = false := by simp at ht; simp [ht]
    exact this
  · intro j o t _ _ _ h
    rw [getD_replicate_false] at h
    cases h
  · intro t _; rfl
end
end Go.Proofs.Ytlklnaebdnahcaa
namespace Go.Proofs.Ytlklnaebdnahcaa
open Go.RowKit
section
variable {f : Nat → List Value} {n : Nat}
end
end Go.Proofs.Ytlklnaebdnahcaa
namespace Go.Proofs.Ytlklnaebdnahcaa
open Go.RowKit
end Go.Proofs.Ytlklnaebdnahcaa
