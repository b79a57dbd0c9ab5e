/- The contract of Grant of charge. -/
import Derived.Test.YtafajclbghofkaaS6b
namespace Go.Proofs.Ytafajclbghofkaa
open Go.RowKit
set_option linter.unusedVariables false
theorem inB_no {x lo hi : Int} (h : Cv.inB x lo hi = false) : ¬ (lo ≤ x ∧ x ≤ hi) := by simpa [Cv.inB] using h
theorem inB_yes {x lo hi : Int} (h : Cv.inB x lo hi = true) : lo ≤ x ∧ x ≤ hi := by simpa [Cv.inB] using h
theorem gen_post {P : Program} {fn : Func} {R : Ending → World → Prop} {a : Act} {W : World} (J : World → Prop) (hJ : J W) (h : ∀ W', J W' → bodyPost P fn R .ret a W') : bodyPost P fn R .ret a W := h W hJ
theorem gen_any {Q : Exit → Act → World → Prop} {e : Exit} {a : Act} {W : World} (J : World → Prop) (hJ : J W) (h : ∀ W', J W' → Q e a W') : Q e a W := h W hJ
theorem grant_cs {cs : List Sx.Cl} {m : Nat} (hm : m < cs.length) (dr bk un : Int) :
    (cs.set m { (cs.getD m default) with last := (cs.getD m default).last + 1 }).set m { ((cs.set m { (cs.getD m default) with last := (cs.getD m default).last + 1 }).getD m default) with L := (cs.getD m default).L ++ [⟨(cs.getD m default).last + 1, dr, bk, un⟩] } = Sx.gS cs m dr bk un := by
  rw [Sx.getD_set' hm, if_pos rfl, List.set_set]
  rfl
theorem grant_site {W w1 : World} {B gs gc cc m n cap2 : Nat} {A : Nat → Option Addr} {q : Nat → Nat} {cs : List Sx.Cl} {D Bk N la dr bk un : Int} {Lm : List Ls} {A2 : Option Addr} (hm : m < cs.length) (hla : (cs.getD m default).last = la) (hLm : (cs.getD m default).L = Lm) (hn : n = Lm.length)
    (h : SiteAt W B gs gc cc A q (cs.set m { (cs.getD m default) with last := la + 1 }) D Bk N) (ht : Touch (fun k => OwnB (A m) k) W w1) (hown : w1.ownsRow B 43 4 (.slice A2 (n + 1) cap2) (n + 1) (flatLs Lm ++ [.int .i64 (la + 1), .int .i64 dr, .int .i64 bk, .int .i64 un])) (hA : ∀ k, OwnB A2 k → OwnB (A m) k ∨ W.heap.size ≤ k) :
    SiteAt (w1.setCell ⟨gc, m * 3, none⟩ (.slice A2 (n + 1) cap2)) B gs gc cc (fun i => if i = m then A2 else A i) (fun i => if i = m then cap2 else q i) (Sx.gS cs m dr bk un) D Bk N := by
  subst hla hLm hn
  have h1 : m < (cs.set m { (cs.getD m default) with last := (cs.getD m default).last + 1 }).length := by simpa using hm
  have h2 := h.put h1 ht (A' := A2) (cap' := cap2) (L' := (cs.getD m default).L ++ [⟨(cs.getD m default).last + 1, dr, bk, un⟩]) (by unfold LRow; rw [flatLs_append, List.length_append]; exact hown) hA
  rw [List.length_append, grant_cs hm] at h2
  exact h2
theorem grPost_yes {w W : World} {B gs gc cc m : Nat} {A A' : Nat → Option Addr} {q q' : Nat → Nat} {cs : List Sx.Cl} {D Bk N dr bk un now la : Int} (hla : (cs.getD m default).last = la) (he : Sx.grE cs D Bk N m dr bk un now = 0) (h : SiteAt W B gs gc cc A' q' (Sx.gS cs m dr bk un) D Bk now) (ht : Touch (SOwn gs gc A cs.length) w W) (hA : ∀ i k, OwnB (A' i) k → OwnB (A i) k ∨ w.heap.size ≤ k) :
    GrPost w B gs gc cc A q cs D Bk N m dr bk un now (.returned (.tuple #[.agg #[.int .i64 (la + 1), .int .i64 dr, .int .i64 bk, .int .i64 un], .int .i64 0])) W := by
  subst hla
  refine ⟨A', q', ⟨(cs.getD m default).last + 1, dr, bk, un⟩, ?_, by rw [he], ?_, ht, hA⟩
  · unfold Sx.grL; rw [if_pos he]; rfl
  · unfold Sx.grS Sx.grN
    rw [if_pos he, if_pos he]
    exact h
theorem leaseC {W : World} {b : Nat} {x0 x1 x2 x3 : Value} (h : Blk W b 43 [x0, x1, x2, x3]) : W.cell? ⟨b, 0, none⟩ = some x0 ∧ W.cell? ⟨b, 1, none⟩ = some x1 ∧ W.cell? ⟨b, 2, none⟩ = some x2 ∧ W.cell? ⟨b, 3, none⟩ = some x3 := ⟨h.cell 0 rfl, h.cell 1 rfl, h.cell 2 rfl, h.cell 3 rfl⟩
theorem endJ {w W : World} {n p ty : Nat} {x0 x1 x2 x3 : Value} (hb : Below n w W) (h : Blk W p ty [x0, x1, x2, x3]) (hp : n ≤ p) (v0 v1 v2 v3 : Value) :
    Below n w ((((W.setCell ⟨p, 0, none⟩ v0).setCell ⟨p, 1, none⟩ v1).setCell ⟨p, 2, none⟩ v2).setCell ⟨p, 3, none⟩ v3) ∧ Blk ((((W.setCell ⟨p, 0, none⟩ v0).setCell ⟨p, 1, none⟩ v1).setCell ⟨p, 2, none⟩ v2).setCell ⟨p, 3, none⟩ v3) p ty [v0, v1, v2, v3] :=
  ⟨(((hb.setCell hp _).setCell hp _).setCell hp _).setCell hp _, by simpa using (((h.setCell 0 v0).setCell 1 v1).setCell 2 v2).setCell 3 v3⟩
set_option maxRecDepth 100000 in
set_option maxHeartbeats 8000000 in
theorem Grant_c {w : World} {B gs gc cc : Nat} {A : Nat → Option Addr} {q : Nat → Nat} {cs : List Sx.Cl} {D Bk N : Int} (h : SiteAt w B gs gc cc A q cs D Bk N) (hB : B ≤ w.heap.size) {K : Int} (hK : K < 100000) (hok : ∀ c ∈ cs, Sx.OkC K c) (hn32 : cs.length ≤ 32) (s dr bk un now : Int) :
    Calls Try.prog 48 #[.pointer (some ⟨gs, 0, none⟩), .int .i64 s, .int .i64 dr, .int .i64 bk, .int .i64 un, .int .i64 now] w (GrPost w B gs gc cc A q cs D Bk N s dr bk un now) := by
  have h73 := Lib.hid (fun W (hW : Below w.heap.size w W) => client_c gs gc cs.length cc s W h.c.1 h.c.2 ((h.below hW).s.cell 3 rfl))
  have HS := Lib.hid h
  have HOK := Lib.hid hok
  have HE0 := Lib.hid (show Sx.grE cs D Bk N s dr bk un now = if 0 ≤ s ∧ s < cs.length then Sx.gE cs D Bk N s.toNat dr bk un now else 3 from rfl)
  clear h hok
  go_enter Try.func48, Try.ntmps48
  go_upto_region 1 with fail
  refine gen_world' (fun W => Below w.heap.size w W ∧ GrI w.heap.size gs s dr bk now W) (GrI.start w gs s dr bk now) ?_
  rintro w0 ⟨hb0, hI⟩
  have HB := Lib.hid hb0
  have HI := Lib.hid hI
  have c6 := hI.p6.cell 0 rfl
  have c7 := hI.p7.cell 0 rfl
  have c8 := hI.p8.cell 0 rfl
  have c9 := hI.p9.cell 0 rfl
  have c11 := hI.p11.cell 0 rfl
  have r0 := hI.p12.cell 0 rfl
  have r1 := hI.p12.cell 1 rfl
  have r2 := hI.p12.cell 2 rfl
  have r3 := hI.p12.cell 3 rfl
  have f0 := hI.p12.free 0
  have f1 := hI.p12.free 1
  have f2 := hI.p12.free 2
  have f3 := hI.p12.free 3
  clear hb0 hI
  by_cases hs : 0 ≤ s ∧ s < cs.length
  rotate_left 1
  · have h := h73.out w0 HB.out
    rw [if_neg hs] at h
    have HE := Lib.hid (HE0.out.trans (if_neg hs))
    clear hs
    go_wp2_with (go_at_call 73; refine h.mono ?_; rintro e w' ⟨rfl, rfl⟩)
    refine gen_post (fun W => Below w.heap.size w W ∧ Blk W (w.heap.size + 5) 43 [.int .i64 0, .int .i64 0, .int .i64 0, .int .i64 0]) (endJ HB.out HI.out.p12 (by omega) _ _ _ _) ?_; rintro W' ⟨hbe, hbl⟩; have d0 := hbl.cell 0 rfl; have d1 := hbl.cell 1 rfl; have d2 := hbl.cell 2 rfl; have d3 := hbl.cell 3 rfl; exact bodyPost_ret (v := .tuple #[.agg #[.int .i64 0, .int .i64 0, .int .i64 0, .int .i64 0], .int .i64 3]) (by simp [results, Try.results48, go_sem, d0, d1, d2, d3]) rfl (grPost_no HE.out (by decide) HS.out hbe)
  obtain ⟨m, rfl⟩ := Int.eq_ofNat_of_zero_le hs.1
  have hm : m < cs.length := by omega
  have h := h73.out w0 HB.out
  rw [if_pos hs] at h
  have HE1 := Lib.hid (HE0.out.trans (if_pos hs))
  simp only [Int.toNat_natCast] at h HE1
  clear hs
  have h2 : ¬ Sx.askOk dr bk un now → Sx.grE cs D Bk N m dr bk un now = 2 := fun hn => HE1.out.trans (by unfold Sx.gE; rw [if_neg hn])
  have H2 := Lib.hid h2
  clear h2
  rcases Bool.eq_false_or_eq_true (Cv.inB dr 0 1073741824) with k0 | k0
  rotate_left 1
  · have HE := Lib.hid (H2.out (fun hn => inB_no k0 hn.1))
    go_wp2_with (first | (go_at_call 73; refine h.mono ?_; rintro e w' ⟨rfl, rfl⟩) | (go_at_call 51; refine (within_c _ _ _ _).mono ?_; rintro e w' ⟨rfl, rfl⟩))
    refine gen_post (fun W => Below w.heap.size w W ∧ Blk W (w.heap.size + 5) 43 [.int .i64 0, .int .i64 0, .int .i64 0, .int .i64 0]) (endJ HB.out HI.out.p12 (by omega) _ _ _ _) ?_; rintro W' ⟨hbe, hbl⟩; have d0 := hbl.cell 0 rfl; have d1 := hbl.cell 1 rfl; have d2 := hbl.cell 2 rfl; have d3 := hbl.cell 3 rfl; exact bodyPost_ret (v := .tuple #[.agg #[.int .i64 0, .int .i64 0, .int .i64 0, .int .i64 0], .int .i64 2]) (by simp [results, Try.results48, go_sem, d0, d1, d2, d3]) rfl (grPost_no HE.out (by decide) HS.out hbe)
  rcases Bool.eq_false_or_eq_true (Cv.inB bk 0 1073741824) with k1 | k1
  rotate_left 1
  · have HE := Lib.hid (H2.out (fun hn => inB_no k1 hn.2.1))
    go_wp2_with (first | (go_at_call 73; refine h.mono ?_; rintro e w' ⟨rfl, rfl⟩) | (go_at_call 51; refine (within_c _ _ _ _).mono ?_; rintro e w' ⟨rfl, rfl⟩))
    refine gen_post (fun W => Below w.heap.size w W ∧ Blk W (w.heap.size + 5) 43 [.int .i64 0, .int .i64 0, .int .i64 0, .int .i64 0]) (endJ HB.out HI.out.p12 (by omega) _ _ _ _) ?_; rintro W' ⟨hbe, hbl⟩; have d0 := hbl.cell 0 rfl; have d1 := hbl.cell 1 rfl; have d2 := hbl.cell 2 rfl; have d3 := hbl.cell 3 rfl; exact bodyPost_ret (v := .tuple #[.agg #[.int .i64 0, .int .i64 0, .int .i64 0, .int .i64 0], .int .i64 2]) (by simp [results, Try.results48, go_sem, d0, d1, d2, d3]) rfl (grPost_no HE.out (by decide) HS.out hbe)
  rcases Bool.eq_false_or_eq_true (Cv.inB now 0 1099511627776) with k2 | k2
  rotate_left 1
  · have HE := Lib.hid (H2.out (fun hn => inB_no k2 hn.2.2.1))
    go_wp2_with (first | (go_at_call 73; refine h.mono ?_; rintro e w' ⟨rfl, rfl⟩) | (go_at_call 51; refine (within_c _ _ _ _).mono ?_; rintro e w' ⟨rfl, rfl⟩))
    refine gen_post (fun W => Below w.heap.size w W ∧ Blk W (w.heap.size + 5) 43 [.int .i64 0, .int .i64 0, .int .i64 0, .int .i64 0]) (endJ HB.out HI.out.p12 (by omega) _ _ _ _) ?_; rintro W' ⟨hbe, hbl⟩; have d0 := hbl.cell 0 rfl; have d1 := hbl.cell 1 rfl; have d2 := hbl.cell 2 rfl; have d3 := hbl.cell 3 rfl; exact bodyPost_ret (v := .tuple #[.agg #[.int .i64 0, .int .i64 0, .int .i64 0, .int .i64 0], .int .i64 2]) (by simp [results, Try.results48, go_sem, d0, d1, d2, d3]) rfl (grPost_no HE.out (by decide) HS.out hbe)
  have w1 : IntKind.i64.wrap (now + 1) = now + 1 := IntWalk.i64_in _ (by have := inB_yes k2; omega)
  have w2 : IntKind.i64.wrap (now + 100000) = now + 100000 := IntWalk.i64_in _ (by have := inB_yes k2; omega)
  rcases Bool.eq_false_or_eq_true (Cv.inB un (now + 1) (now + 100000)) with k3 | k3
  rotate_left 1
  · have HE := Lib.hid (H2.out (fun hn => inB_no k3 hn.2.2.2))
    go_wp2_with (first | (go_at_call 73; refine h.mono ?_; rintro e w' ⟨rfl, rfl⟩) | (go_at_call 51; refine (within_c _ _ _ _).mono ?_; rintro e w' ⟨rfl, rfl⟩))
    refine gen_post (fun W => Below w.heap.size w W ∧ Blk W (w.heap.size + 5) 43 [.int .i64 0, .int .i64 0, .int .i64 0, .int .i64 0]) (endJ HB.out HI.out.p12 (by omega) _ _ _ _) ?_; rintro W' ⟨hbe, hbl⟩; have d0 := hbl.cell 0 rfl; have d1 := hbl.cell 1 rfl; have d2 := hbl.cell 2 rfl; have d3 := hbl.cell 3 rfl; exact bodyPost_ret (v := .tuple #[.agg #[.int .i64 0, .int .i64 0, .int .i64 0, .int .i64 0], .int .i64 2]) (by simp [results, Try.results48, go_sem, d0, d1, d2, d3]) rfl (grPost_no HE.out (by decide) HS.out hbe)
  have hask : Sx.askOk dr bk un now := ⟨inB_yes k0, inB_yes k1, inB_yes k2, inB_yes k3⟩
  have HA := Lib.hid hask
  have HE2 := Lib.hid (HE1.out.trans (show Sx.gE cs D Bk N m dr bk un now = _ by unfold Sx.gE; rw [if_pos hask]))
  clear HE1 H2
  go_upto_region 6 with (first | (go_at_call 73; refine h.mono ?_; rintro e w' ⟨rfl, rfl⟩) | (go_at_call 51; refine (within_c _ _ _ _).mono ?_; rintro e w' ⟨rfl, rfl⟩))
  clear k0 k1 k2 k3 w1 w2 h hask
  have s2 := (HS.out.below HB.out).s.cell 2 rfl
  have zs : gs < w0.heap.size := (HS.out.below HB.out).s.lt
  by_cases hN : now < N
  · have hd : decide (now < N) = true := decide_eq_true hN
    have HE := Lib.hid (HE2.out.trans (if_pos hN))
    clear hN
    go_quiet (fail)
    refine gen_any (fun W => Below w.heap.size w W ∧ GrI w.heap.size gs m dr bk now W) ⟨below_drewN HB.out _, HI.out.below (below_drewN (Below.refl _ _) _)⟩ ?_
    clear c6 c7 c8 c9 c11 r0 r1 r2 r3 f0 f1 f2 f3 HB HI s2 zs
    rintro w1 ⟨hb0, hI⟩
    have HB := Lib.hid hb0
    have HI := Lib.hid hI
    have c6 := hI.p6.cell 0 rfl
    have c7 := hI.p7.cell 0 rfl
    have c8 := hI.p8.cell 0 rfl
    have c9 := hI.p9.cell 0 rfl
    have c11 := hI.p11.cell 0 rfl
    have r0 := hI.p12.cell 0 rfl
    have r1 := hI.p12.cell 1 rfl
    have r2 := hI.p12.cell 2 rfl
    have r3 := hI.p12.cell 3 rfl
    have f0 := hI.p12.free 0
    have f1 := hI.p12.free 1
    have f2 := hI.p12.free 2
    have f3 := hI.p12.free 3
    clear hb0 hI
    go_wp2_with fail
    refine gen_post (fun W => Below w.heap.size w W ∧ Blk W (w.heap.size + 5) 43 [.int .i64 0, .int .i64 0, .int .i64 0, .int .i64 0]) (endJ HB.out HI.out.p12 (by omega) _ _ _ _) ?_; rintro W' ⟨hbe, hbl⟩; have d0 := hbl.cell 0 rfl; have d1 := hbl.cell 1 rfl; have d2 := hbl.cell 2 rfl; have d3 := hbl.cell 3 rfl; exact bodyPost_ret (v := .tuple #[.agg #[.int .i64 0, .int .i64 0, .int .i64 0, .int .i64 0], .int .i64 14]) (by simp [results, Try.results48, go_sem, d0, d1, d2, d3]) rfl (grPost_no HE.out (by decide) HS.out hbe)
  have hd : decide (now < N) = false := decide_eq_false hN
  have HE3 := Lib.hid (HE2.out.trans (if_neg hN))
  clear hN HE2
  go_quiet (fail)
  clear s2 zs hd
  refine gen_any (fun W => Below w.heap.size w W ∧ GrI w.heap.size gs m dr bk now W) ⟨below_drewN HB.out _, HI.out.below (below_drewN (Below.refl _ _) _)⟩ ?_
  clear c6 c7 c8 c9 c11 r0 r1 r2 r3 f0 f1 f2 f3 HB HI
  rintro w1 ⟨hb0, hI⟩
  have HB := Lib.hid hb0
  have HI := Lib.hid hI
  have c6 := hI.p6.cell 0 rfl
  have c7 := hI.p7.cell 0 rfl
  have c8 := hI.p8.cell 0 rfl
  have c9 := hI.p9.cell 0 rfl
  have c11 := hI.p11.cell 0 rfl
  have r0 := hI.p12.cell 0 rfl
  have r1 := hI.p12.cell 1 rfl
  have r2 := hI.p12.cell 2 rfl
  have r3 := hI.p12.cell 3 rfl
  have f0 := hI.p12.free 0
  have f1 := hI.p12.free 1
  have f2 := hI.p12.free 2
  have f3 := hI.p12.free 3
  clear hb0 hI
  have P74 := Lib.hid (fun W (hW : Below w.heap.size w W) => HS.out.res (K := K) (by omega) HOK.out hm now hW)
  have hmx := Sx.mx_bd (Sx.okL_live (HOK.out (cs.getD m default) (by rw [List.getD_eq_getElem?_getD, List.getElem?_eq_getElem hm]; exact List.getElem_mem hm)).ls now)
  have HMX := Lib.hid (show (0 ≤ Sx.rD (cs.getD m default) now ∧ Sx.rD (cs.getD m default) now ≤ 1073741824) ∧ (0 ≤ Sx.rB (cs.getD m default) now ∧ Sx.rB (cs.getD m default) now ≤ 1073741824) from hmx)
  clear hmx
  generalize hxa : Sx.rD (cs.getD m default) now = a at *
  generalize hxb : Sx.rB (cs.getD m default) now = b at *
  generalize hxm : Sx.many (cs.getD m default) now = k at *
  have HX := Lib.hid (And.intro hxa (And.intro hxb hxm))
  clear hxa hxb hxm
  go_upto_region 9 with (go_at_call 74; refine (P74.out _ HB.out).mono ?_; rintro e w3 ⟨rfl, hb⟩; have HB3 := Lib.hid hb; clear hb)

  refine gen_world' (fun W => Below w.heap.size w W ∧ GrI w.heap.size gs m dr bk now W ∧ Blk W w3.heap.size 2 [.int .i64 a] ∧ Blk W (w3.heap.size + 1) 2 [.int .i64 b]) ⟨(((HB.out.trans (HB3.out.mono HB.out.size)).alloc (HB.out.trans (HB3.out.mono HB.out.size)).size _).alloc (by have := (HB.out.trans (HB3.out.mono HB.out.size)).size; simp; omega) _), ((HI.out.below HB3.out).below ((Below.refl _ _).alloc (Nat.le_refl _) _)).below ((Below.refl _ _).alloc (Nat.le_refl _) _), (Blk.new' _ _ _).alloc _, by have := Blk.new' (w3.alloc (.cells #[.int .i64 a] 2)) #[.int .i64 b] 2; simpa using this⟩ ?_
  have hz3 : w.heap.size + 5 < w3.heap.size := Nat.lt_of_lt_of_le HI.out.p12.lt HB3.out.size
  have HZ3 := Lib.hid hz3
  clear c6 c7 c8 c9 c11 r0 r1 r2 r3 f0 f1 f2 f3 HB HI HB3 hz3
  rintro w4 ⟨hb0, hI, hba, hbb⟩
  have HB := Lib.hid hb0
  have HI := Lib.hid hI
  have HA16 := Lib.hid hba
  have HB17 := Lib.hid hbb
  have c6 := hI.p6.cell 0 rfl
  have c7 := hI.p7.cell 0 rfl
  have c8 := hI.p8.cell 0 rfl
  have c9 := hI.p9.cell 0 rfl
  have c11 := hI.p11.cell 0 rfl
  have r0 := hI.p12.cell 0 rfl
  have r1 := hI.p12.cell 1 rfl
  have r2 := hI.p12.cell 2 rfl
  have r3 := hI.p12.cell 3 rfl
  have f0 := hI.p12.free 0
  have f1 := hI.p12.free 1
  have f2 := hI.p12.free 2
  have f3 := hI.p12.free 3
  have c16 := hba.cell 0 rfl
  have c17 := hbb.cell 0 rfl
  clear hb0 hI hba hbb
  generalize w3.heap.size = b16 at *
  by_cases h64 : 64 ≤ k
  · have hd : decide (64 ≤ (k : Int)) = true := decide_eq_true (by omega)
    have HE := Lib.hid (HE3.out.trans (if_pos h64))
    clear h64
    go_wp2_with fail
    refine gen_post (fun W => Below w.heap.size w W ∧ Blk W (w.heap.size + 5) 43 [.int .i64 0, .int .i64 0, .int .i64 0, .int .i64 0]) (endJ HB.out HI.out.p12 (by omega) _ _ _ _) ?_; rintro W' ⟨hbe, hbl⟩; have d0 := hbl.cell 0 rfl; have d1 := hbl.cell 1 rfl; have d2 := hbl.cell 2 rfl; have d3 := hbl.cell 3 rfl; exact bodyPost_ret (v := .tuple #[.agg #[.int .i64 0, .int .i64 0, .int .i64 0, .int .i64 0], .int .i64 11]) (by simp [results, Try.results48, go_sem, d0, d1, d2, d3]) rfl (grPost_no HE.out (by decide) HS.out hbe)
  have hd : decide (64 ≤ (k : Int)) = false := decide_eq_false (by omega)
  have HE4 := Lib.hid (HE3.out.trans (if_neg h64))
  clear h64 HE3
  obtain ⟨x, hx⟩ : ∃ x, x = Sx.sumD cs now m (max a dr) cs.length := ⟨_, rfl⟩
  obtain ⟨y, hy⟩ : ∃ y, y = Sx.sumB cs now m (max b bk) cs.length := ⟨_, rfl⟩
  have hgv : GrV w4 w.heap.size (w.heap.size + 4) (w.heap.size + 1) b16 (w.heap.size + 2) (b16 + 1) (w.heap.size + 3) gs now m a dr b bk := ⟨c6, c11, c7, c16, c8, c17, c9⟩
  have P1 := Lib.hid (fun W (hW : Below w4.heap.size w4 W) => sum1_c (HS.out.below (HB.out.trans (hW.mono HB.out.size))) (K := K) (by omega) HOK.out hn32 w.heap.size (w.heap.size + 1 + 1 + 1 + 1) (w.heap.size + 1) b16 (w.heap.size + 1 + 1) (b16 + 1) (w.heap.size + 1 + 1 + 1) now m a dr b bk HMX.out.1 HA.out.1 HMX.out.2 HA.out.2.1 (hgv.below hW))
  have P2 := Lib.hid (fun W (hW : Below w4.heap.size w4 W) => sum2_c (HS.out.below (HB.out.trans (hW.mono HB.out.size))) (K := K) (by omega) HOK.out hn32 w.heap.size (w.heap.size + 1 + 1 + 1 + 1) (w.heap.size + 1) b16 (w.heap.size + 1 + 1) (b16 + 1) (w.heap.size + 1 + 1 + 1) now m a dr b bk HMX.out.1 HA.out.1 HMX.out.2 HA.out.2.1 (hgv.below hW))
  have e1 : Sx.sumF (fun c => Sx.rD c now) cs m (max a dr) cs.length = x := hx.symm
  have e2 : Sx.sumF (fun c => Sx.rB c now) cs m (max b bk) cs.length = y := hy.symm
  rw [e1] at P1
  rw [e2] at P2
  rw [← hx, ← hy] at HE4
  clear e1 e2 hgv
  have HXY := Lib.hid (And.intro hx hy)
  clear hx hy
  have s0 := (HS.out.below HB.out).s.cell 0 rfl
  have s1 := (HS.out.below HB.out).s.cell 1 rfl
  have zs : gs < w4.heap.size := (HS.out.below HB.out).s.lt
  have z6 : w.heap.size < w4.heap.size := HI.out.p6.lt
  go_upto_region 12 with fail
  by_cases h1 : D < x
  · have hd1 : decide (D < x) = true := decide_eq_true h1
    have HE := Lib.hid (HE4.out.trans (if_pos (.inl h1)))
    clear h1
    refine wp_region_past (by kernel_rfl) (by kernel_rfl) ?_
    repeat (go_big_quiet_step (first | (go_at_call 76; with_reducible exact past_below (P1.out _ (Past.far _))) | (go_at_call 76; with_reducible exact past_below (P2.out _ (Past.far _)))))
    refine wpQuiet_nil ?_
    intro xx
    have HX := Lib.hid xx.far
    generalize xx.w = w5 at HX ⊢
    have HB5 := Lib.hid (HB.out.trans (HX.out.mono HB.out.size))
    have HI5 := Lib.hid (HI.out.below HX.out)
    clear c6 c7 c8 c9 c11 r0 r1 r2 r3 f0 f1 f2 f3
    have c6 := HI5.out.p6.cell 0 rfl
    have c7 := HI5.out.p7.cell 0 rfl
    have c8 := HI5.out.p8.cell 0 rfl
    have c9 := HI5.out.p9.cell 0 rfl
    have c11 := HI5.out.p11.cell 0 rfl
    have r0 := HI5.out.p12.cell 0 rfl
    have r1 := HI5.out.p12.cell 1 rfl
    have r2 := HI5.out.p12.cell 2 rfl
    have r3 := HI5.out.p12.cell 3 rfl
    have f0 := HI5.out.p12.free 0
    have f1 := HI5.out.p12.free 1
    have f2 := HI5.out.p12.free 2
    have f3 := HI5.out.p12.free 3
    go_wp2_with fail
    refine gen_post (fun W => Below w.heap.size w W ∧ Blk W (w.heap.size + 5) 43 [.int .i64 0, .int .i64 0, .int .i64 0, .int .i64 0]) (endJ HB5.out HI5.out.p12 (by omega) _ _ _ _) ?_; rintro W' ⟨hbe, hbl⟩; have d0 := hbl.cell 0 rfl; have d1 := hbl.cell 1 rfl; have d2 := hbl.cell 2 rfl; have d3 := hbl.cell 3 rfl; exact bodyPost_ret (v := .tuple #[.agg #[.int .i64 0, .int .i64 0, .int .i64 0, .int .i64 0], .int .i64 17]) (by simp [results, Try.results48, go_sem, d0, d1, d2, d3]) rfl (grPost_no HE.out (by decide) HS.out hbe)
  by_cases h2 : Bk < y
  · have hd1 : decide (D < x) = false := decide_eq_false h1
    have hd2 : decide (Bk < y) = true := decide_eq_true h2
    have HE := Lib.hid (HE4.out.trans (if_pos (.inr h2)))
    clear h1 h2
    refine wp_region_past (by kernel_rfl) (by kernel_rfl) ?_
    repeat (go_big_quiet_step (first | (go_at_call 76; with_reducible exact past_below (P1.out _ (Past.far _))) | (go_at_call 76; with_reducible exact past_below (P2.out _ (Past.far _)))))
    refine wpQuiet_nil ?_
    intro xx
    have HX := Lib.hid xx.far
    generalize xx.w = w5 at HX ⊢
    have HB5 := Lib.hid (HB.out.trans (HX.out.mono HB.out.size))
    have HI5 := Lib.hid (HI.out.below HX.out)
    clear c6 c7 c8 c9 c11 r0 r1 r2 r3 f0 f1 f2 f3
    have c6 := HI5.out.p6.cell 0 rfl
    have c7 := HI5.out.p7.cell 0 rfl
    have c8 := HI5.out.p8.cell 0 rfl
    have c9 := HI5.out.p9.cell 0 rfl
    have c11 := HI5.out.p11.cell 0 rfl
    have r0 := HI5.out.p12.cell 0 rfl
    have r1 := HI5.out.p12.cell 1 rfl
    have r2 := HI5.out.p12.cell 2 rfl
    have r3 := HI5.out.p12.cell 3 rfl
    have f0 := HI5.out.p12.free 0
    have f1 := HI5.out.p12.free 1
    have f2 := HI5.out.p12.free 2
    have f3 := HI5.out.p12.free 3
    go_wp2_with fail
    refine gen_post (fun W => Below w.heap.size w W ∧ Blk W (w.heap.size + 5) 43 [.int .i64 0, .int .i64 0, .int .i64 0, .int .i64 0]) (endJ HB5.out HI5.out.p12 (by omega) _ _ _ _) ?_; rintro W' ⟨hbe, hbl⟩; have d0 := hbl.cell 0 rfl; have d1 := hbl.cell 1 rfl; have d2 := hbl.cell 2 rfl; have d3 := hbl.cell 3 rfl; exact bodyPost_ret (v := .tuple #[.agg #[.int .i64 0, .int .i64 0, .int .i64 0, .int .i64 0], .int .i64 17]) (by simp [results, Try.results48, go_sem, d0, d1, d2, d3]) rfl (grPost_no HE.out (by decide) HS.out hbe)
  have hd1 : decide (D < x) = false := decide_eq_false h1
  have hd2 : decide (Bk < y) = false := decide_eq_false h2
  have HE := Lib.hid (HE4.out.trans (if_neg (by omega)))
  clear h1 h2
  refine wp_region_past (by kernel_rfl) (by kernel_rfl) ?_
  repeat (go_big_quiet_step (first | (go_at_call 76; with_reducible exact past_below (P1.out _ (Past.far _))) | (go_at_call 76; with_reducible exact past_below (P2.out _ (Past.far _)))))
  refine wpQuiet_nil ?_
  intro xx
  have HX := Lib.hid xx.far
  generalize xx.w = w5 at HX ⊢
  have HB5 := Lib.hid (HB.out.trans (HX.out.mono HB.out.size))
  have HI5 := Lib.hid (HI.out.below HX.out)
  clear c6 c7 c8 c9 c11 r0 r1 r2 r3 f0 f1 f2 f3
  have c6 := HI5.out.p6.cell 0 rfl
  have c7 := HI5.out.p7.cell 0 rfl
  have c8 := HI5.out.p8.cell 0 rfl
  have c9 := HI5.out.p9.cell 0 rfl
  have c11 := HI5.out.p11.cell 0 rfl
  have r0 := HI5.out.p12.cell 0 rfl
  have r1 := HI5.out.p12.cell 1 rfl
  have r2 := HI5.out.p12.cell 2 rfl
  have r3 := HI5.out.p12.cell 3 rfl
  have f0 := HI5.out.p12.free 0
  have f1 := HI5.out.p12.free 1
  have f2 := HI5.out.p12.free 2
  have f3 := HI5.out.p12.free 3
  clear s0 s1 zs z6 hd1 hd2 hd c16 c17 P1 P2 HA16 HB17

  clear HB HI HX P74
  have HOKm := Lib.hid (HOK.out (cs.getD m default) (by rw [List.getD_eq_getElem?_getD, List.getElem?_eq_getElem hm]; exact List.getElem_mem hm))
  have s2 := (HS.out.below HB5.out).s.free 2
  have s2c := (HS.out.below HB5.out).s.cell 2 rfl
  have hgs : gs < w.heap.size := HS.out.s.lt
  have zgs : gs < w5.heap.size := (HS.out.below HB5.out).s.lt
  go_upto_region 15 with fail
  refine gen_world' (fun W => SiteAt W B gs gc cc A q cs D Bk now ∧ GrI w.heap.size gs m dr bk now W ∧ Touch (SOwn gs gc A cs.length) w W) ⟨(HS.out.below HB5.out).setN now, HI5.out.touch ((Touch.refl (fun k => k = gs) w5).put 2 _) (fun k hk e => by omega), (Touch.of_below HB5.out).setCell (.inl (.inl rfl)) _⟩ ?_
  clear c6 c7 c8 c9 c11 r0 r1 r2 r3 f0 f1 f2 f3 HB5 HI5 s2 s2c zgs
  rintro w6 ⟨hs6, hi6, ht6⟩
  have HS6 := Lib.hid hs6
  have HI6 := Lib.hid hi6
  have HT6 := Lib.hid ht6
  have a1 : w6.cell? ⟨gc, m * 3 + 1, none⟩ = some (.int .i64 (cs.getD m default).last) := hs6.a.cell hm 1 rfl
  have af1 := hs6.a.free (m * 3 + 1)
  have wr1 : IntKind.i64.wrap ((cs.getD m default).last + 1) = (cs.getD m default).last + 1 := IntWalk.i64_in _ (by have := HOKm.out.k0; have := HOKm.out.k1; have := HOKm.out.l1; omega)
  have hgc : gc < w.heap.size := HS.out.a.lt
  clear hs6 hi6 ht6
  generalize hla : (cs.getD m default).last = la at *
  have HLA := Lib.hid hla
  clear hla
  go_upto_region 16 with fail
  refine gen_world' (fun W => SiteAt W B gs gc cc A q (cs.set m { (cs.getD m default) with last := la + 1 }) D Bk now ∧ GrI w.heap.size gs m dr bk now W ∧ Touch (SOwn gs gc A cs.length) w W) ⟨HS6.out.setLast hm (la + 1), HI6.out.touch ((Touch.refl (fun k => k = gc) w6).put _ _) (fun k hk e => by omega), HT6.out.setCell (.inl (.inr (.inl rfl))) _⟩ ?_
  clear a1 af1 wr1 HS6 HI6 HT6
  rintro w7 ⟨hs7, hi7, ht7⟩
  have HS7 := Lib.hid hs7
  have HI7 := Lib.hid hi7
  have HT7 := Lib.hid ht7
  have hcl : (cs.set m { (cs.getD m default) with last := la + 1 }).getD m default = { (cs.getD m default) with last := la + 1 } := by rw [Sx.getD_set' hm, if_pos rfl]
  have HCL := Lib.hid hcl
  clear hs7 hi7 ht7 hcl
  refine wp_region_float 8 _ (.cells #[.int .i64 0, .int .i64 0, .int .i64 0, .int .i64 0] 43) 20 ?af (by kernel_rfl) rfl rfl rfl (by kernel_rfl) (fun _ _ => by kernel_rfl) ?walk ?tail
  case walk =>
    intro V hV
    have IV := HI7.out.below hV
    have SV := HS7.out.below hV
    have v8 := IV.p8.cell 0 rfl
    have v9 := IV.p9.cell 0 rfl
    have z8 := IV.p8.lt
    have z9 := IV.p9.lt
    have zc := SV.a.lt
    have v1 : V.cell? ⟨gc, m * 3 + 1, none⟩ = some (.int .i64 (la + 1)) := SV.a.cell (by simpa using hm) 1 (by rw [HCL.out]; rfl)
    clear IV SV
    simp only [List.take_succ_cons, List.take_zero]
    repeat (go_big_quiet_step (fail))
    refine wpQuiet_nil ?_
    rfl
  case tail =>
    intro g w8 hg hb8 hcell8
    have H8 : Blk w8 g 43 [.int .i64 0, .int .i64 0, .int .i64 0, .int .i64 0] := hcell8
    simp only [List.drop_succ_cons, List.drop_zero]
    simp only [Act.put, List.setIfInBounds_toArray, List.set_cons_zero, List.set_cons_succ]
    have g0 := H8.free 0
    have g1 := H8.free 1
    have g2 := H8.free 2
    have g3 := H8.free 3
    have y0 := H8.cell 0 rfl
    have y1 := H8.cell 1 rfl
    have y2 := H8.cell 2 rfl
    have y3 := H8.cell 3 rfl
    go_upto_region 17 with fail
    refine gen_world' (fun W => Below w7.heap.size w7 W ∧ Blk W g 43 [.int .i64 (la + 1), .int .i64 dr, .int .i64 bk, .int .i64 un]) (endJ hb8 H8 hg _ _ _ _) ?_
    clear g0 g1 g2 g3 y0 y1 y2 y3 H8 hcell8 hb8
    rintro w9 ⟨hb9, hl9⟩
    have HB9 := Lib.hid hb9
    have HL9 := Lib.hid hl9
    have HS9 := Lib.hid (HS7.out.below hb9)
    have HT9 := Lib.hid (HT7.out.below hb9)
    have HI9 := Lib.hid (HI7.out.below hb9)
    have hm1 : m < (cs.set m { (cs.getD m default) with last := la + 1 }).length := by simpa using hm
    have hr9 := HS9.out.r m hm1
    have a0 : w9.cell? ⟨gc, m * 3, none⟩ = some (.slice (A m) (cs.getD m default).L.length (q m)) := by have := HS9.out.a.cell hm1 0 rfl; rw [HCL.out] at this; exact this
    rw [HCL.out] at hr9
    have HR9 := Lib.hid (show LRow B (A m) (q m) (cs.getD m default).L w9 from hr9)
    have hln := HOKm.out.ln
    have HNE := Lib.hid (fun (e : OwnB (A m) gc) => HS9.out.ne_gc hm1 gc e rfl)
    have hB9 : B ≤ w9.heap.size := by have h1 := HT9.out.size; omega
    have hgw : g < w9.heap.size := hl9.lt
    have hgcw : gc < w9.heap.size := HS9.out.a.lt
    clear hb9 hl9 hr9
    generalize hLm : (cs.getD m default).L = Lm at *
    have HLm := Lib.hid hLm
    obtain ⟨n, hn⟩ : ∃ n, n = Lm.length := ⟨_, rfl⟩
    rw [← hn] at a0 hln
    have HN := Lib.hid hn
    clear hLm hn
    obtain ⟨Am, hAm⟩ : ∃ a, a = A m := ⟨_, rfl⟩
    obtain ⟨qm, hqm⟩ : ∃ a, a = q m := ⟨_, rfl⟩
    rw [← hAm] at a0 HR9 HNE
    rw [← hqm] at a0 HR9
    have HAm := Lib.hid hAm
    have HNg := Lib.hid (show ¬ OwnB Am g from fun e => by rw [hAm] at e; have := HS7.out.row_lt hm1 e; omega)
    have hggc : g ≠ gc := by have := HS7.out.a.lt; omega
    clear hAm hqm
    obtain ⟨i0, hi, z0, z1, z2⟩ := info_parts info43
    refine lBegin (S := fun L W => (W.cell? ⟨g, 0, none⟩ = some (.int .i64 (la + 1)) ∧ W.cell? ⟨g, 1, none⟩ = some (.int .i64 dr) ∧ W.cell? ⟨g, 2, none⟩ = some (.int .i64 bk) ∧ W.cell? ⟨g, 3, none⟩ = some (.int .i64 un)) ∧ (L.getD 10 false = true ∨ (W.cell? ⟨gc, m * 3, none⟩ = some (.slice Am n qm)))) (by kernel_rfl) ?_ (fun hHeld => ?_)
    · (try dsimp only); refine ⟨?_, Or.inr ?_⟩
      · (first | with_reducible assumption | exact leaseC HL9.out.drew | exact leaseC (HL9.out.drew.alloc _) | exact leaseC HLx.out | exact leaseC (HLx.out.setCell_ne (by show g ≠ gc; omega) _))
      · (first | with_reducible assumption | go_simp)
    refine lTake (i := 0) (v := ?_) rfl (by kernel_rfl) (by kernel_rfl) (by kernel_rfl) (fun _ _ _ h => h) (by rfl) (fun _ _ h => by simpa only [getD_set_ne false (show 0 ≠ 10 by decide)] using h) (fun _ _ h => by simpa only [getD_set_ne false (show 0 ≠ 10 by decide)] using h) ?_ (by assumption) (fun hHeld2 => ?_)
    rotate_left 1
    · (intro _ _ _ _ _; first | (go_simp; done) | (go_simp; with_reducible rfl))
    clear hHeld; have hHeld := hHeld2; clear hHeld2
    (try simp only [Act.put, List.setIfInBounds_toArray, List.set_cons_zero, List.set_cons_succ])
    refine lTake (i := 1) (v := ?_) rfl (by kernel_rfl) (by kernel_rfl) (by kernel_rfl) (fun _ _ _ h => h) (by rfl) (fun _ _ h => by simpa only [getD_set_ne false (show 1 ≠ 10 by decide)] using h) (fun _ _ h => by simpa only [getD_set_ne false (show 1 ≠ 10 by decide)] using h) ?_ (by assumption) (fun hHeld2 => ?_)
    rotate_left 1
    · (intro _ _ _ _ _; first | (go_simp; done) | (go_simp; with_reducible rfl))
    clear hHeld; have hHeld := hHeld2; clear hHeld2
    (try simp only [Act.put, List.setIfInBounds_toArray, List.set_cons_zero, List.set_cons_succ])
    refine lTake (i := 2) (v := ?_) rfl (by kernel_rfl) (by kernel_rfl) (by kernel_rfl) (fun _ _ _ h => h) (by rfl) (fun _ _ h => by simpa only [getD_set_ne false (show 2 ≠ 10 by decide)] using h) (fun _ _ h => by simpa only [getD_set_ne false (show 2 ≠ 10 by decide)] using h) ?_ (by assumption) (fun hHeld2 => ?_)
    rotate_left 1
    · (intro _ _ _ _ _; first | (go_simp; done) | (go_simp; with_reducible rfl))
    clear hHeld; have hHeld := hHeld2; clear hHeld2
    (try simp only [Act.put, List.setIfInBounds_toArray, List.set_cons_zero, List.set_cons_succ])
    refine lTake (i := 3) (v := ?_) rfl (by kernel_rfl) (by kernel_rfl) (by kernel_rfl) (fun _ _ _ h => h) (by rfl) (fun _ _ h => by simpa only [getD_set_ne false (show 3 ≠ 10 by decide)] using h) (fun _ _ h => by simpa only [getD_set_ne false (show 3 ≠ 10 by decide)] using h) ?_ (by assumption) (fun hHeld2 => ?_)
    rotate_left 1
    · (intro _ _ _ _ _; first | (go_simp; done) | (go_simp; with_reducible rfl))
    clear hHeld; have hHeld := hHeld2; clear hHeld2
    (try simp only [Act.put, List.setIfInBounds_toArray, List.set_cons_zero, List.set_cons_succ])
    refine lTake (i := 4) (v := ?_) rfl (by kernel_rfl) (by kernel_rfl) (by kernel_rfl) (fun _ _ _ h => h) (by rfl) (fun _ _ h => by simpa only [getD_set_ne false (show 4 ≠ 10 by decide)] using h) (fun _ _ h => by simpa only [getD_set_ne false (show 4 ≠ 10 by decide)] using h) ?_ (by assumption) (fun hHeld2 => ?_)
    rotate_left 1
    · (intro L W hL hK hSw; (try dsimp only at hSw); obtain ⟨h0, h1⟩ := hSw; replace h1 := still [] hK hL (by kernel_rfl) h1; clear hL hK; first | (go_simp; done) | (go_simp; with_reducible rfl))
    clear hHeld; have hHeld := hHeld2; clear hHeld2
    (try simp only [Act.put, List.setIfInBounds_toArray, List.set_cons_zero, List.set_cons_succ])
    refine lTake (i := 5) (v := ?_) rfl (by kernel_rfl) (by kernel_rfl) (by kernel_rfl) (fun _ _ _ h => h) (by rfl) (fun _ _ h => by simpa only [getD_set_ne false (show 5 ≠ 10 by decide)] using h) (fun _ _ h => by simpa only [getD_set_ne false (show 5 ≠ 10 by decide)] using h) ?_ (by assumption) (fun hHeld2 => ?_)
    rotate_left 1
    · (intro L W hL hK hSw; (try dsimp only at hSw); obtain ⟨h0, h1⟩ := hSw; replace h1 := still [] hK hL (by kernel_rfl) h1; clear hL hK; first | (go_simp; done) | (go_simp; with_reducible rfl))
    clear hHeld; have hHeld := hHeld2; clear hHeld2
    (try simp only [Act.put, List.setIfInBounds_toArray, List.set_cons_zero, List.set_cons_succ])
    refine lReady (rs := [6]) (by kernel_rfl) (by simp) ?_
    refine AllL.cons (i := 6) rfl (fun K hK => ?_) ?_
    · go_simp
      (try go_wp2_with fail)
      refine hK.out _ _ ?_ (fun hHeld2 => ?_)
      · (try dsimp only); refine ⟨?_, Or.inr ?_⟩
        · (first | with_reducible assumption | exact leaseC HL9.out.drew | exact leaseC (HL9.out.drew.alloc _) | exact leaseC HLx.out | exact leaseC (HLx.out.setCell_ne (by show g ≠ gc; omega) _))
        · (first | with_reducible assumption | go_simp)
      clear hK K
      clear hHeld; have hHeld := hHeld2; clear hHeld2
      (try simp only [Act.put, List.setIfInBounds_toArray, List.set_cons_zero, List.set_cons_succ])
      refine lReady (rs := [7]) (by kernel_rfl) (by simp) ?_
      refine AllL.cons (i := 7) rfl (fun K hK => ?_) ?_
      · refine step_append_any (.tmp 112) (.tmp 114) 36 rfl rfl B 43 i0 (.agg #[.int .i64 0, .int .i64 0, .int .i64 0, .int .i64 0]) 4 32 Try.underlying36 hi z0 z1 z2 rfl (by decide) Am n qm (flatLs Lm) (by rfl) (by rw [HN.out]; exact rowE_keep HR9.out (S := fun _ => False) (((Touch.refl _ _).drew).alloc _) (fun _ _ h => h)) (some ⟨w9.heap.size, 0, none⟩) 1 1 [.int .i64 (la + 1), .int .i64 dr, .int .i64 bk, .int .i64 un] (by rfl) rfl (src_blk (by have := Blk.new' w9 #[.int .i64 (la + 1), .int .i64 dr, .int .i64 bk, .int .i64 un] 43; exact this.drew) 1) (by simp [Value.oneCell']) (by unfold maxLen; omega) (by omega) (by simp; omega) ?_; intro A2 cap2 w1 hown hgrow hat; have HOw := Lib.hid hown; have HTg := Lib.hid (show Touch (fun k => OwnB Am k) w9 w1 from (((Touch.refl _ _).drew).alloc _).grown hgrow (fun k hk => .inl (ownB_iff.2 hk))); have HAt := Lib.hid (show ∀ k, OwnB A2 k → OwnB Am k ∨ k = w9.heap.size + 1 from fun k hk => (hat k hk).imp id (fun e => by simpa using e)); have HLx := Lib.hid (HL9.out.touch HTg.out HNg.out); have y0 : w1.cell? ⟨gc, m * 3, none⟩ = some (.slice Am n qm) := (HTg.out.cell (p := ⟨gc, m * 3, none⟩) hgcw HNE.out).trans a0; have y1 : w1.frozen? ⟨gc, m * 3, none⟩ = false := (HS9.out.a.touch HTg.out HNE.out).free (m * 3); clear hown hgrow hat
        (try go_wp2_with fail)
        refine hK.out _ _ ?_ (fun hHeld2 => ?_)
        · (try dsimp only); refine ⟨?_, Or.inr ?_⟩
          · (first | with_reducible assumption | exact leaseC HL9.out.drew | exact leaseC (HL9.out.drew.alloc _) | exact leaseC HLx.out | exact leaseC (HLx.out.setCell_ne (by show g ≠ gc; omega) _))
          · (first | with_reducible assumption | go_simp)
        clear hK K
        clear hHeld; have hHeld := hHeld2; clear hHeld2
        (try simp only [Act.put, List.setIfInBounds_toArray, List.set_cons_zero, List.set_cons_succ])
        refine lTake (i := 8) (v := ?_) rfl (by kernel_rfl) (by kernel_rfl) (by kernel_rfl) (fun _ _ _ h => h) (by rfl) (fun _ _ h => by simpa only [getD_set_ne false (show 8 ≠ 10 by decide)] using h) (fun _ _ h => by simpa only [getD_set_ne false (show 8 ≠ 10 by decide)] using h) ?_ (by assumption) (fun hHeld2 => ?_)
        rotate_left 1
        · (intro _ _ _ _ _; first | (go_simp; done) | (go_simp; with_reducible rfl))
        clear hHeld; have hHeld := hHeld2; clear hHeld2
        (try simp only [Act.put, List.setIfInBounds_toArray, List.set_cons_zero, List.set_cons_succ])
        refine lTake (i := 9) (v := ?_) rfl (by kernel_rfl) (by kernel_rfl) (by kernel_rfl) (fun _ _ _ h => h) (by rfl) (fun _ _ h => by simpa only [getD_set_ne false (show 9 ≠ 10 by decide)] using h) (fun _ _ h => by simpa only [getD_set_ne false (show 9 ≠ 10 by decide)] using h) ?_ (by assumption) (fun hHeld2 => ?_)
        rotate_left 1
        · (intro _ _ _ _ _; first | (go_simp; done) | (go_simp; with_reducible rfl))
        clear hHeld; have hHeld := hHeld2; clear hHeld2
        (try simp only [Act.put, List.setIfInBounds_toArray, List.set_cons_zero, List.set_cons_succ])
        refine lReady (rs := [10]) (by kernel_rfl) (by simp) ?_
        refine AllL.cons (i := 10) rfl (fun K hK => ?_) ?_
        · go_simp
          (try go_wp2_with fail)
          refine hK.out _ _ ?_ (fun hHeld2 => ?_)
          · (try dsimp only); refine ⟨?_, Or.inl (by rfl)⟩
            · (first | with_reducible assumption | exact leaseC HL9.out.drew | exact leaseC (HL9.out.drew.alloc _) | exact leaseC HLx.out | exact leaseC (HLx.out.setCell_ne (by show g ≠ gc; omega) _))
          clear hK K
          clear hHeld; have hHeld := hHeld2; clear hHeld2
          (try simp only [Act.put, List.setIfInBounds_toArray, List.set_cons_zero, List.set_cons_succ])
          refine lDone (by kernel_rfl) ?_ _
          clear hHeld a0 y0 y1
          refine gen_any (fun W => SiteAt W B gs gc cc (fun i => if i = m then A2 else A i) (fun i => if i = m then cap2 else q i) (Sx.gS cs m dr bk un) D Bk now ∧ GrI w.heap.size gs m dr bk now W ∧ Touch (SOwn gs gc A cs.length) w W ∧ Blk W g 43 [.int .i64 (la + 1), .int .i64 dr, .int .i64 bk, .int .i64 un]) ⟨grant_site hm HLA.out HLm.out HN.out HS9.out (by rw [← HAm.out]; exact HTg.out) HOw.out (fun k hk => by rw [← HAm.out]; exact (HAt.out k hk).imp id (fun e => by omega)), HI9.out.touch (S := fun k => OwnB Am k ∨ k = gc) ((HTg.out.mono (fun k hk => .inl hk)).setCell (.inl (.inr rfl)) _) (fun k hk e => by rcases e with e | e; rw [HAm.out] at e; have := HS.out.row_lt hm e; omega; omega), (HT9.out.then HTg.out (fun k hk => .inl (.inr (.inr ⟨m, hm, by rw [← HAm.out]; exact hk⟩)))).setCell (.inl (.inr (.inl rfl))) _, HLx.out.setCell_ne (by show g ≠ gc; omega) _⟩ ?_
          rintro W2 ⟨hs2, hi2, ht2, hl2⟩
          have hz9 := HI9.out.p12.lt
          have HAn := Lib.hid (show ∀ i k, OwnB (if i = m then A2 else A i) k → (i < cs.length → k ≠ w.heap.size + 5) ∧ (OwnB (A i) k ∨ w.heap.size ≤ k) from fun i k hk => by (split at hk); (rename_i him; subst him; rcases HAt.out k hk with e | e; (rw [HAm.out] at e; exact ⟨fun hi => by have := HS.out.row_lt hi e; omega, .inl e⟩); exact ⟨fun _ => by omega, .inr (by have := HT9.out.size; omega)⟩); exact ⟨fun hi => by have := HS.out.row_lt hi hk; omega, .inl hk⟩)
          clear HS9 HT9 HI9 HL9 HB9 HR9 HTg HOw HAt HLx
          have e0 := hl2.cell 0 rfl
          have e1 := hl2.cell 1 rfl
          have e2 := hl2.cell 2 rfl
          have e3 := hl2.cell 3 rfl
          have r0 := hi2.p12.cell 0 rfl
          have r1 := hi2.p12.cell 1 rfl
          have r2 := hi2.p12.cell 2 rfl
          have r3 := hi2.p12.cell 3 rfl
          have f0 := hi2.p12.free 0
          have f1 := hi2.p12.free 1
          have f2 := hi2.p12.free 2
          have f3 := hi2.p12.free 3
          have HS2 := Lib.hid hs2
          have HT2 := Lib.hid ht2
          have HI2 := Lib.hid hi2
          clear hs2 ht2 hi2 hl2
          go_wp2_with fail
          refine gen_post (fun W => SiteAt W B gs gc cc (fun i => if i = m then A2 else A i) (fun i => if i = m then cap2 else q i) (Sx.gS cs m dr bk un) D Bk now ∧ Touch (SOwn gs gc A cs.length) w W ∧ Blk W (w.heap.size + 5) 43 [.int .i64 (la + 1), .int .i64 dr, .int .i64 bk, .int .i64 un]) ⟨HS2.out.touch (S := fun k => k = w.heap.size + 5) (((((Touch.refl _ _).put 0 _).put 1 _).put 2 _).put 3 _) (fun k hk e => by rcases hk with hk | hk | ⟨i, hi, hk⟩; omega; omega; exact (HAn.out i k hk).1 (by simpa [Sx.gS] using hi) e), HT2.out.then (S' := fun k => k = w.heap.size + 5) (((((Touch.refl _ _).put 0 _).put 1 _).put 2 _).put 3 _) (fun k e => .inr (by omega)), (endJ (Below.refl 0 W2) HI2.out.p12 (Nat.zero_le _) _ _ _ _).2⟩ ?_
          rintro W3 ⟨hs3, ht3, hb3⟩
          have d0 := hb3.cell 0 rfl
          have d1 := hb3.cell 1 rfl
          have d2 := hb3.cell 2 rfl
          have d3 := hb3.cell 3 rfl
          exact bodyPost_ret (v := .tuple #[.agg #[.int .i64 (la + 1), .int .i64 dr, .int .i64 bk, .int .i64 un], .int .i64 0]) (by simp [results, Try.results48, go_sem, d0, d1, d2, d3]) rfl (grPost_yes HLA.out HE.out hs3 ht3 (fun i k hk => (HAn.out i k hk).2))
        exact AllL.nil
      exact AllL.nil
    exact AllL.nil
end Go.Proofs.Ytafajclbghofkaa
