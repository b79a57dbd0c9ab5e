/- The contract of Grant of coulombref09. -/
import Derived.Test.YtafajclbghofkaaT4
import Derived.Test.YtafajclbghofkaaS7
import Derived.Deep.DeepCutAuto
import Derived.Deep.CutBlock
namespace Go.Proofs.Ytafajclbghofkaa
open Go.RowKit
set_option linter.unusedVariables false
set_option maxRecDepth 100000 in
set_option maxHeartbeats 8000000 in
theorem GrantR_c {w : World} {rs rc cc : Nat} {A : Nat → Option Addr} {q : Nat → Nat} {cs : List Sx.Cl} {D Bk N : Int} (h : RefAt w rs rc cc A q cs D Bk N) {K : Int} (hK : K < 100000) (hok : ∀ c ∈ cs, Sx.OkC K c) (hn32 : cs.length ≤ 32) (s dr bk un now : Int) :
    Calls Try.prog 71 #[.pointer (some ⟨rs, 0, none⟩), .int .i64 s, .int .i64 dr, .int .i64 bk, .int .i64 un, .int .i64 now] w (GrRPost w rs A cs D Bk N s dr bk un now) := by
  have HR := Lib.hid h
  have HOK := Lib.hid hok
  have HB0 := Lib.hid (show Below w.heap.size w (w.alloc (.cells #[.int .i64 0, .int .i64 0, .int .i64 0, .int .i64 0] 43)) from (Below.refl _ _).alloc (Nat.le_refl _) _)
  have HP0 := Lib.hid (Blk.new' w #[.int .i64 0, .int .i64 0, .int .i64 0, .int .i64 0] 43)
  have c0 := h.s.cell 0 rfl
  have c1 := h.s.cell 1 rfl
  have c2 := h.s.cell 2 rfl
  have c3 := h.s.cell 3 rfl
  have hz := h.s.lt
  have hz2 : rs ≠ w.heap.size := by omega
  have HE0 := Lib.hid (show Sx.grE cs D Bk N s dr bk un now = if 0 ≤ s ∧ s < cs.length then Sx.gE cs D Bk N s.toNat dr bk un now else 3 from rfl)
  by_cases h1 : s < 0
  · have HE := Lib.hid (HE0.out.trans (if_neg (by omega)))
    clear h hok
    go_enter Try.func71, Try.ntmps71
    go_wp2
    refine gen_post (fun W => Below w.heap.size w W ∧ Blk W w.heap.size 43 [.int .i64 0, .int .i64 0, .int .i64 0, .int .i64 0]) ⟨HB0.out, HP0.out⟩ ?_; rintro W' ⟨hbe, hbl⟩; have d0 := hbl.cell 0 rfl; have d1 := hbl.cell 1 rfl; have d2 := hbl.cell 2 rfl; have d3 := hbl.cell 3 rfl; exact bodyPost_ret (v := .tuple #[.agg #[.int .i64 0, .int .i64 0, .int .i64 0, .int .i64 0], .int .i64 3]) (by simp [results, Try.results71, go_sem, d0, d1, d2, d3]) rfl (grPostR_no HE.out (by decide) hbe)
  obtain ⟨m, rfl⟩ := Int.eq_ofNat_of_zero_le (show 0 ≤ s by omega)
  by_cases hm : m < cs.length
  rotate_left 1
  · have HE := Lib.hid (HE0.out.trans (if_neg (by omega)))
    have h2' : decide (cs.length ≤ m) = true := decide_eq_true (by omega)
    clear h hok
    go_enter Try.func71, Try.ntmps71
    go_wp2
    refine gen_post (fun W => Below w.heap.size w W ∧ Blk W w.heap.size 43 [.int .i64 0, .int .i64 0, .int .i64 0, .int .i64 0]) ⟨HB0.out, HP0.out⟩ ?_; rintro W' ⟨hbe, hbl⟩; have d0 := hbl.cell 0 rfl; have d1 := hbl.cell 1 rfl; have d2 := hbl.cell 2 rfl; have d3 := hbl.cell 3 rfl; exact bodyPost_ret (v := .tuple #[.agg #[.int .i64 0, .int .i64 0, .int .i64 0, .int .i64 0], .int .i64 3]) (by simp [results, Try.results71, go_sem, d0, d1, d2, d3]) rfl (grPostR_no HE.out (by decide) hbe)
  have HE1 := Lib.hid (HE0.out.trans (if_pos (by omega)))
  simp only [Int.toNat_natCast] at HE1
  have h2' : decide (cs.length ≤ m) = false := decide_eq_false (by omega)
  have hm0 : (0 : Int) ≤ (m : Int) := by omega
  have h2 : ¬ Sx.askOk dr bk un now → Sx.grE cs D Bk N m dr bk un now = 2 := fun hn => HE1.out.trans (by unfold Sx.gE; rw [if_neg hn])
  have H2 := Lib.hid h2
  obtain ⟨n, hn⟩ : ∃ n, n = cs.length := ⟨_, rfl⟩
  have hm1 : (m : Int) < (n : Int) := by omega
  rw [← hn] at c3 h2' hn32
  have HN := Lib.hid hn
  clear h2 h1 h hok HE0 hn
  go_enter Try.func71, Try.ntmps71
  go_upto_region 3 with fail
  rcases Bool.eq_false_or_eq_true (Cv.inB dr 0 1073741824) with k0 | k0
  rotate_left 1
  · have HE := Lib.hid (H2.out (fun hn => inB_no k0 hn.1))
    go_wp2_with (go_at_call 54; refine (in_c _ _ _ _).mono ?_; rintro e w' ⟨rfl, rfl⟩)
    refine gen_post (fun W => Below w.heap.size w W ∧ Blk W w.heap.size 43 [.int .i64 0, .int .i64 0, .int .i64 0, .int .i64 0]) ⟨HB0.out, HP0.out⟩ ?_; rintro W' ⟨hbe, hbl⟩; have d0 := hbl.cell 0 rfl; have d1 := hbl.cell 1 rfl; have d2 := hbl.cell 2 rfl; have d3 := hbl.cell 3 rfl; exact bodyPost_ret (v := .tuple #[.agg #[.int .i64 0, .int .i64 0, .int .i64 0, .int .i64 0], .int .i64 2]) (by simp [results, Try.results71, go_sem, d0, d1, d2, d3]) rfl (grPostR_no HE.out (by decide) hbe)
  rcases Bool.eq_false_or_eq_true (Cv.inB bk 0 1073741824) with k1 | k1
  rotate_left 1
  · have HE := Lib.hid (H2.out (fun hn => inB_no k1 hn.2.1))
    go_wp2_with (go_at_call 54; refine (in_c _ _ _ _).mono ?_; rintro e w' ⟨rfl, rfl⟩)
    refine gen_post (fun W => Below w.heap.size w W ∧ Blk W w.heap.size 43 [.int .i64 0, .int .i64 0, .int .i64 0, .int .i64 0]) ⟨HB0.out, HP0.out⟩ ?_; rintro W' ⟨hbe, hbl⟩; have d0 := hbl.cell 0 rfl; have d1 := hbl.cell 1 rfl; have d2 := hbl.cell 2 rfl; have d3 := hbl.cell 3 rfl; exact bodyPost_ret (v := .tuple #[.agg #[.int .i64 0, .int .i64 0, .int .i64 0, .int .i64 0], .int .i64 2]) (by simp [results, Try.results71, go_sem, d0, d1, d2, d3]) rfl (grPostR_no HE.out (by decide) hbe)
  rcases Bool.eq_false_or_eq_true (Cv.inB now 0 1099511627776) with k2 | k2
  rotate_left 1
  · have HE := Lib.hid (H2.out (fun hn => inB_no k2 hn.2.2.1))
    go_wp2_with (go_at_call 54; refine (in_c _ _ _ _).mono ?_; rintro e w' ⟨rfl, rfl⟩)
    refine gen_post (fun W => Below w.heap.size w W ∧ Blk W w.heap.size 43 [.int .i64 0, .int .i64 0, .int .i64 0, .int .i64 0]) ⟨HB0.out, HP0.out⟩ ?_; rintro W' ⟨hbe, hbl⟩; have d0 := hbl.cell 0 rfl; have d1 := hbl.cell 1 rfl; have d2 := hbl.cell 2 rfl; have d3 := hbl.cell 3 rfl; exact bodyPost_ret (v := .tuple #[.agg #[.int .i64 0, .int .i64 0, .int .i64 0, .int .i64 0], .int .i64 2]) (by simp [results, Try.results71, go_sem, d0, d1, d2, d3]) rfl (grPostR_no HE.out (by decide) hbe)
  have w1 : IntKind.i64.wrap (now + 1) = now + 1 := IntWalk.i64_in _ (by have := inB_yes k2; omega)
  have w2 : IntKind.i64.wrap (now + 100000) = now + 100000 := IntWalk.i64_in _ (by have := inB_yes k2; omega)
  rcases Bool.eq_false_or_eq_true (Cv.inB un (now + 1) (now + 100000)) with k3 | k3
  rotate_left 1
  · have HE := Lib.hid (H2.out (fun hn => inB_no k3 hn.2.2.2))
    go_wp2_with (go_at_call 54; refine (in_c _ _ _ _).mono ?_; rintro e w' ⟨rfl, rfl⟩)
    refine gen_post (fun W => Below w.heap.size w W ∧ Blk W w.heap.size 43 [.int .i64 0, .int .i64 0, .int .i64 0, .int .i64 0]) ⟨HB0.out, HP0.out⟩ ?_; rintro W' ⟨hbe, hbl⟩; have d0 := hbl.cell 0 rfl; have d1 := hbl.cell 1 rfl; have d2 := hbl.cell 2 rfl; have d3 := hbl.cell 3 rfl; exact bodyPost_ret (v := .tuple #[.agg #[.int .i64 0, .int .i64 0, .int .i64 0, .int .i64 0], .int .i64 2]) (by simp [results, Try.results71, go_sem, d0, d1, d2, d3]) rfl (grPostR_no HE.out (by decide) hbe)
  have hask : Sx.askOk dr bk un now := ⟨inB_yes k0, inB_yes k1, inB_yes k2, inB_yes k3⟩
  have HA := Lib.hid hask
  have HE2 := Lib.hid (HE1.out.trans (show Sx.gE cs D Bk N m dr bk un now = _ by unfold Sx.gE; rw [if_pos hask]))
  clear HE1 H2
  go_upto_region 5 with (go_at_call 54; refine (in_c _ _ _ _).mono ?_; rintro e w' ⟨rfl, rfl⟩)
  clear k0 k1 k2 k3 w1 w2 hask h2'
  by_cases hN : now < N
  · have hd : decide (now < N) = true := decide_eq_true hN
    have HE := Lib.hid (HE2.out.trans (if_pos hN))
    clear hN
    go_wp2_with fail
    refine gen_post (fun W => Below w.heap.size w W ∧ Blk W w.heap.size 43 [.int .i64 0, .int .i64 0, .int .i64 0, .int .i64 0]) ⟨HB0.out, HP0.out⟩ ?_; rintro W' ⟨hbe, hbl⟩; have d0 := hbl.cell 0 rfl; have d1 := hbl.cell 1 rfl; have d2 := hbl.cell 2 rfl; have d3 := hbl.cell 3 rfl; exact bodyPost_ret (v := .tuple #[.agg #[.int .i64 0, .int .i64 0, .int .i64 0, .int .i64 0], .int .i64 14]) (by simp [results, Try.results71, go_sem, d0, d1, d2, d3]) rfl (grPostR_no HE.out (by decide) hbe)
  have hd : decide (now < N) = false := decide_eq_false hN
  have HE3 := Lib.hid (HE2.out.trans (if_neg hN))
  clear hN HE2
  have HOm := Lib.hid (HOK.out (cs.getD m default) (by rw [List.getD_eq_getElem?_getD, List.getElem?_eq_getElem hm]; exact List.getElem_mem hm))
  have e0 := HR.out.a.cell hm 0 rfl
  have e1 := HR.out.a.cell hm 1 rfl
  have e2 := HR.out.a.cell hm 2 rfl
  have HRow := Lib.hid (HR.out.r m hm)
  obtain ⟨cm, hcm⟩ : ∃ c, c = cs.getD m default := ⟨_, rfl⟩
  have HCm := Lib.hid hcm
  rw [← hcm] at HE3 HOm e0 e1 e2 HRow
  clear hcm
  simp only [Nat.add_zero] at e0
  have hrc := HR.out.a.lt
  have hrc2 : rc ≠ w.heap.size := by omega
  obtain ⟨Am, hAm⟩ : ∃ a, a = A m := ⟨_, rfl⟩
  obtain ⟨qm, hqm⟩ : ∃ a, a = q m := ⟨_, rfl⟩
  rw [← hAm] at e0 HRow
  rw [← hqm] at e0 HRow
  have HAm := Lib.hid hAm
  clear hAm hqm
  go_upto_region 8 with fail
  refine gen_world' (fun W => Below w.heap.size w W ∧ Blk W w.heap.size 43 [.int .i64 0, .int .i64 0, .int .i64 0, .int .i64 0] ∧ Blk W (w.heap.size + 1) 156 [.slice Am cm.L.length qm, .int .i64 cm.last, .int .i64 cm.kn]) ⟨HB0.out.alloc HB0.out.size _, HP0.out.alloc _, by have := Blk.new' (w.alloc (.cells #[.int .i64 0, .int .i64 0, .int .i64 0, .int .i64 0] 43)) #[.slice Am cm.L.length qm, .int .i64 cm.last, .int .i64 cm.kn] 156; simpa using this⟩ ?_
  rintro w1 ⟨hb1, hp1, hq1⟩
  have HB1 := Lib.hid hb1
  have HP1 := Lib.hid hp1
  have HQ1 := Lib.hid hq1
  clear c0 c1 c2 c3 e0 e1 e2 hd HB0 HP0
  have q0 := hq1.cell 0 rfl
  have q1 := hq1.cell 1 rfl
  have q2 := hq1.cell 2 rfl
  clear hb1 hp1 hq1
  have hcap := lrow_cap HRow.out
  unfold maxLen at hcap
  have hln : cm.L.length ≤ 100000 := by have := HOm.out.ln; omega
  have P88 := Lib.hid (fun W (hW : Below w.heap.size w W) => left_c Am qm cm now W hln hcap.1 (by omega) (lrow_at (rowE_below HRow.out hW)))
  obtain ⟨V, hV⟩ : ∃ V, V = Sx.live cm now := ⟨_, rfl⟩
  rw [← hV] at P88
  have HV := Lib.hid hV
  obtain ⟨x, hx⟩ : ∃ x, x = Sx.sumD cs now m (max (Sx.rD cm now) dr) cs.length := ⟨_, rfl⟩
  obtain ⟨y, hy⟩ : ∃ y, y = Sx.sumB cs now m (max (Sx.rB cm now) bk) cs.length := ⟨_, rfl⟩
  rw [← hx, ← hy] at HE3
  rw [show Sx.many cm now = V.length from by rw [hV]; rfl] at HE3
  have HXY := Lib.hid (And.intro hx hy)
  clear hV hx hy hcap
  by_cases h64 : 64 ≤ V.length
  · have hd : decide (64 ≤ (V.length : Int)) = true := decide_eq_true (by omega)
    have HE := Lib.hid (HE3.out.trans (if_pos h64))
    clear h64
    go_wp2_with (go_at_call 88; refine (P88.out _ HB1.out).mono ?_; rintro e w2 ⟨A1, d1, rfl, hrow1, hb2⟩; have HBb := Lib.hid (bel_bel HB1.out hb2); have HPb := Lib.hid (blk_bel hb2 HP1.out); have HQb := Lib.hid (blk_bel hb2 HQ1.out); have u1 := HQb.out.cell 1 rfl; have r0 := HPb.out.cell 0 rfl; have r1 := HPb.out.cell 1 rfl; have r2 := HPb.out.cell 2 rfl; have r3 := HPb.out.cell 3 rfl; have f0 := HPb.out.free 0; have f1 := HPb.out.free 1; have f2 := HPb.out.free 2; have f3 := HPb.out.free 3; clear hb2 hrow1)
    refine gen_post (fun W => Below w.heap.size w W ∧ Blk W w.heap.size 43 [.int .i64 0, .int .i64 0, .int .i64 0, .int .i64 0]) (endJ HBb.out HPb.out (Nat.le_refl _) _ _ _ _) ?_; rintro W' ⟨hbe, hbl⟩; have d0 := hbl.cell 0 rfl; have d1 := hbl.cell 1 rfl; have d2 := hbl.cell 2 rfl; have d3 := hbl.cell 3 rfl; exact bodyPost_ret (v := .tuple #[.agg #[.int .i64 0, .int .i64 0, .int .i64 0, .int .i64 0], .int .i64 11]) (by simp [results, Try.results71, go_sem, d0, d1, d2, d3]) rfl (grPostR_no HE.out (by decide) hbe)
  have hd : decide (64 ≤ (V.length : Int)) = false := decide_eq_false (by omega)
  have HE4 := Lib.hid (HE3.out.trans (if_neg h64))
  have H64 := Lib.hid h64
  clear h64 HE3
  have hl := And.intro HOm.out.k0 (And.intro HOm.out.k1 HOm.out.l1)
  have wr1 : IntKind.i64.wrap (cm.last + 1) = cm.last + 1 := IntWalk.i64_in _ (by omega)
  have HLa := Lib.hid hl
  clear hl
  go_upto_region 11 with (go_at_call 88; refine (P88.out _ HB1.out).mono ?_; rintro e w2 ⟨A1, d1, rfl, hrow1, hb2⟩; have HBb := Lib.hid (bel_bel HB1.out hb2); have HPb := Lib.hid (blk_bel hb2 HP1.out); have HQb := Lib.hid (blk_bel hb2 HQ1.out); have u1 := HQb.out.cell 1 rfl; clear hb2 hrow1)
  refine gen_world' (fun W => GI w w2.heap.size (.slice Am cm.L.length qm) (.int .i64 cm.last) (.int .i64 cm.kn) (cm.last + 1) dr bk un W) ⟨HBb.out.alloc HBb.out.size _, HPb.out.alloc _, HQb.out.alloc _, Blk.new' _ _ _⟩ ?_
  have hb15 : w.heap.size + 1 < w2.heap.size := HQb.out.lt
  clear HBb HPb HQb q0 q1 q2 u1 wr1 hd HB1 HP1 HQ1
  generalize w2.heap.size = b15 at hb15 ⊢
  rintro w3 hg3
  have HG3 := Lib.hid hg3
  have HG3d := Lib.hid (hg3.bel ((Below.refl _ _).drew))
  clear hg3
  obtain ⟨i0, hi, z0, z1, z2⟩ := info_parts info43
  have h63 : V.length < 64 := by have := H64.out; omega
  go_cut [16] from 85 to 95 (fun s16 wx => J11 w b15 (.slice Am cm.L.length qm) (.int .i64 cm.last) (.int .i64 cm.kn) (cm.last + 1) dr bk un V s16 wx)
  case first =>
    refine lBegin (S := fun _ W => (W.cell? ⟨w.heap.size + 1, 0, none⟩ = some (.slice Am cm.L.length qm) ∧ W.cell? ⟨w.heap.size + 1, 1, none⟩ = some (.int .i64 cm.last) ∧ W.cell? ⟨w.heap.size + 1, 2, none⟩ = some (.int .i64 cm.kn) ∧ W.cell? ⟨b15, 0, none⟩ = some (.int .i64 (cm.last + 1)) ∧ W.cell? ⟨b15, 1, none⟩ = some (.int .i64 dr) ∧ W.cell? ⟨b15, 2, none⟩ = some (.int .i64 bk) ∧ W.cell? ⟨b15, 3, none⟩ = some (.int .i64 un))) (by kernel_rfl) ?_ (fun hHeld => ?_)
    · (try dsimp only); (first | with_reducible exact gi_S HG3d.out | with_reducible exact gi_S HGa.out | with_reducible exact gi_S HGb.out | with_reducible exact gi_S HGc.out | with_reducible exact gi_S HGp.out | with_reducible exact gi_S (HGp.out.put3 hb15 HLa2.out) | with_reducible exact gi_S (HGa.out.put3 hb15 HLa2.out))
    refine lTake (i := 0) (v := ?_) rfl (by kernel_rfl) (by kernel_rfl) (by kernel_rfl) (fun _ _ _ h => h) (by rfl) (fun _ _ h => h) (fun _ _ h => h) ?_ (by assumption) (fun hHeld2 => ?_)
    rotate_left 1
    · (intro L W _ _ hSw; (try dsimp only at hSw); first | (go_simp; done) | (go_simp; with_reducible rfl))
    clear hHeld; have hHeld := hHeld2; clear hHeld2
    (try simp only [Act.put, List.setIfInBounds_toArray, List.set_cons_zero, List.set_cons_succ])
    refine lTake (i := 1) (v := ?_) rfl (by kernel_rfl) (by kernel_rfl) (by kernel_rfl) (fun _ _ _ h => h) (by rfl) (fun _ _ h => h) (fun _ _ h => h) ?_ (by assumption) (fun hHeld2 => ?_)
    rotate_left 1
    · (intro _ _ _ _ _; first | (go_simp; done) | (go_simp; with_reducible rfl))
    clear hHeld; have hHeld := hHeld2; clear hHeld2
    (try simp only [Act.put, List.setIfInBounds_toArray, List.set_cons_zero, List.set_cons_succ])
    refine lTake (i := 3) (v := ?_) rfl (by kernel_rfl) (by kernel_rfl) (by kernel_rfl) (fun _ _ _ h => h) (by rfl) (fun _ _ h => h) (fun _ _ h => h) ?_ (by assumption) (fun hHeld2 => ?_)
    rotate_left 1
    · (intro L W _ _ hSw; (try dsimp only at hSw); first | (go_simp; done) | (go_simp; with_reducible rfl))
    clear hHeld; have hHeld := hHeld2; clear hHeld2
    (try simp only [Act.put, List.setIfInBounds_toArray, List.set_cons_zero, List.set_cons_succ])
    refine lTake (i := 6) (v := ?_) rfl (by kernel_rfl) (by kernel_rfl) (by kernel_rfl) (fun _ _ _ h => h) (by rfl) (fun _ _ h => h) (fun _ _ h => h) ?_ (by assumption) (fun hHeld2 => ?_)
    rotate_left 1
    · (intro _ _ _ _ _; first | (go_simp; done) | (go_simp; with_reducible rfl))
    clear hHeld; have hHeld := hHeld2; clear hHeld2
    (try simp only [Act.put, List.setIfInBounds_toArray, List.set_cons_zero, List.set_cons_succ])
    refine lTake (i := 7) (v := ?_) rfl (by kernel_rfl) (by kernel_rfl) (by kernel_rfl) (fun _ _ _ h => h) (by rfl) (fun _ _ h => h) (fun _ _ h => h) ?_ (by assumption) (fun hHeld2 => ?_)
    rotate_left 1
    · (intro L W _ _ hSw; (try dsimp only at hSw); first | (go_simp; done) | (go_simp; with_reducible rfl))
    clear hHeld; have hHeld := hHeld2; clear hHeld2
    (try simp only [Act.put, List.setIfInBounds_toArray, List.set_cons_zero, List.set_cons_succ])
    refine lTake (i := 8) (v := ?_) rfl (by kernel_rfl) (by kernel_rfl) (by kernel_rfl) (fun _ _ _ h => h) (by rfl) (fun _ _ h => h) (fun _ _ h => h) ?_ (by assumption) (fun hHeld2 => ?_)
    rotate_left 1
    · (intro _ _ _ _ _; first | (go_simp; done) | (go_simp; with_reducible rfl))
    clear hHeld; have hHeld := hHeld2; clear hHeld2
    (try simp only [Act.put, List.setIfInBounds_toArray, List.set_cons_zero, List.set_cons_succ])
    refine lTake (i := 9) (v := ?_) rfl (by kernel_rfl) (by kernel_rfl) (by kernel_rfl) (fun _ _ _ h => h) (by rfl) (fun _ _ h => h) (fun _ _ h => h) ?_ (by assumption) (fun hHeld2 => ?_)
    rotate_left 1
    · (intro L W _ _ hSw; (try dsimp only at hSw); first | (go_simp; done) | (go_simp; with_reducible rfl))
    clear hHeld; have hHeld := hHeld2; clear hHeld2
    (try simp only [Act.put, List.setIfInBounds_toArray, List.set_cons_zero, List.set_cons_succ])
    refine lReady (rs := [2, 4, 11]) (by kernel_rfl) (by simp) ?_
    refine AllL.cons (i := 2) rfl (fun K hK => ?_) ?_
    · go_simp; (refine (P88.out _ (by first | exact HGa.out.b | exact HGb.out.b | exact HG3d.out.b)).mono ?_; rintro e w5 ⟨A1, d1, rfl, hrow1, hb5⟩; have HGc := Lib.hid (show GI w b15 (.slice Am cm.L.length qm) (.int .i64 cm.last) (.int .i64 cm.kn) (cm.last + 1) dr bk un w5 from by first | exact HGa.out.bel hb5 | exact HGb.out.bel hb5 | exact HG3d.out.bel hb5); have HNc := Lib.hid (show ∀ k, OwnB A1 k → b15 < k from fun k hk => by have h1 := (rowE_lt hrow1 hk).1; first | (have := HGa.out.t.lt; omega) | (have := HGb.out.t.lt; omega) | (have := HG3d.out.t.lt; omega)); have HRc := Lib.hid (rowLs_base hrow1 (B' := w.heap.size) (by first | exact HGa.out.b.size | exact HGb.out.b.size | exact HG3d.out.b.size)); have HBc := Lib.hid hb5; clear hb5 hrow1)
      (try go_wp2_with fail)
      refine hK.out _ _ ?_ (fun hHeld2 => ?_)
      · (try dsimp only); (first | with_reducible exact gi_S HG3d.out | with_reducible exact gi_S HGa.out | with_reducible exact gi_S HGb.out | with_reducible exact gi_S HGc.out | with_reducible exact gi_S HGp.out | with_reducible exact gi_S (HGp.out.put3 hb15 HLa2.out) | with_reducible exact gi_S (HGa.out.put3 hb15 HLa2.out))
      clear hK K
      clear hHeld; have hHeld := hHeld2; clear hHeld2
      (try simp only [Act.put, List.setIfInBounds_toArray, List.set_cons_zero, List.set_cons_succ])
      refine lReady (rs := [4, 11]) (by kernel_rfl) (by simp) ?_
      refine AllL.cons (i := 4) rfl (fun K hK => ?_) ?_
      · refine step_new (.cells #[.int .i64 (cm.last + 1), .int .i64 dr, .int .i64 bk, .int .i64 un] 43) (fun g => .slice (some ⟨g, 0, none⟩) 1 1) rfl (by kernel_rfl) ?_; intro gb w6 hgb hcb hbb; have HGb := Lib.hid (show GI w b15 (.slice Am cm.L.length qm) (.int .i64 cm.last) (.int .i64 cm.kn) (cm.last + 1) dr bk un w6 from by first | exact HGc.out.bel hbb | exact HGa.out.bel hbb | exact HG3d.out.bel hbb); have HKb := Lib.hid (show Blk w6 gb 43 [.int .i64 (cm.last + 1), .int .i64 dr, .int .i64 bk, .int .i64 un] from hcb); have HBb := Lib.hid hbb; clear hgb hcb hbb
        (try go_wp2_with fail)
        refine hK.out _ _ ?_ (fun hHeld2 => ?_)
        · (try dsimp only); (first | with_reducible exact gi_S HG3d.out | with_reducible exact gi_S HGa.out | with_reducible exact gi_S HGb.out | with_reducible exact gi_S HGc.out | with_reducible exact gi_S HGp.out | with_reducible exact gi_S (HGp.out.put3 hb15 HLa2.out) | with_reducible exact gi_S (HGa.out.put3 hb15 HLa2.out))
        clear hK K
        clear hHeld; have hHeld := hHeld2; clear hHeld2
        (try simp only [Act.put, List.setIfInBounds_toArray, List.set_cons_zero, List.set_cons_succ])
        refine lReady (rs := [5, 11]) (by kernel_rfl) (by simp) ?_
        refine AllL.cons (i := 5) rfl (fun K hK => ?_) ?_
        · refine step_append_any (.tmp 87) (.tmp 89) 36 rfl rfl w.heap.size 43 i0 (.agg #[.int .i64 0, .int .i64 0, .int .i64 0, .int .i64 0]) 4 32 Try.underlying36 hi z0 z1 z2 rfl (by decide) A1 V.length d1 (flatLs V) (by rfl) (by unfold LRow at HRc; first | exact HRc.out | exact rowE_below HRc.out HBb.out | exact rowE_below HRc.out HBa.out | exact rowE_below (rowE_below HRc.out HBb.out) HBa.out | exact rowE_below (rowE_below HRc.out HBa.out) HBb.out) (some ⟨gb, 0, none⟩) 1 1 [.int .i64 (cm.last + 1), .int .i64 dr, .int .i64 bk, .int .i64 un] (by rfl) rfl (src_blk (by first | exact HKb.out | exact blk_bel HBc.out HKb.out | exact blk_bel HBa.out HKb.out | exact blk_bel HBc.out (blk_bel HBa.out HKb.out) | exact blk_bel HBa.out (blk_bel HBc.out HKb.out)) 1) (by simp [Value.oneCell']) (by unfold maxLen; omega) (by omega) (by first | exact HGc.out.b.size | exact HGb.out.b.size | exact HGa.out.b.size) ?_; intro A2 d2 w8 hown hgrow hat; have HTp := Lib.hid (grown_touch hgrow); have HGp := Lib.hid (show GI w b15 (.slice Am cm.L.length qm) (.int .i64 cm.last) (.int .i64 cm.kn) (cm.last + 1) dr bk un w8 from by first | exact HGc.out.touch HTp.out hb15 HNc.out | exact HGb.out.touch HTp.out hb15 HNc.out | exact HGa.out.touch HTp.out hb15 HNc.out); have HRp := Lib.hid (show LRow w.heap.size A2 d2 (V ++ [⟨cm.last + 1, dr, bk, un⟩]) w8 from by unfold LRow; rw [flatLs_append, List.length_append]; exact hown); (try have HKap := Lib.hid (keep_ap HTp.out (by unfold LRow at HRc ⊢; first | exact HRc.out | exact rowE_below HRc.out HBb.out | exact rowE_below HRc.out HBa.out | exact rowE_below (rowE_below HRc.out HBb.out) HBa.out | exact rowE_below (rowE_below HRc.out HBa.out) HBb.out) (show Blk _ ga 156 [.slice none 0 0, .int .i64 0, .int .i64 0] by first | exact HKa.out | exact blk_bel HBb.out HKa.out | exact blk_bel HBc.out HKa.out | exact blk_bel HBb.out (blk_bel HBc.out HKa.out) | exact blk_bel HBc.out (blk_bel HBb.out HKa.out)))); clear hown hgrow hat
          (try go_wp2_with fail)
          refine hK.out _ _ ?_ (fun hHeld2 => ?_)
          · (try dsimp only); (first | with_reducible exact gi_S HG3d.out | with_reducible exact gi_S HGa.out | with_reducible exact gi_S HGb.out | with_reducible exact gi_S HGc.out | with_reducible exact gi_S HGp.out | with_reducible exact gi_S (HGp.out.put3 hb15 HLa2.out) | with_reducible exact gi_S (HGa.out.put3 hb15 HLa2.out))
          clear hK K
          clear hHeld; have hHeld := hHeld2; clear hHeld2
          (try simp only [Act.put, List.setIfInBounds_toArray, List.set_cons_zero, List.set_cons_succ])
          refine lTake (i := 10) (v := ?_) rfl (by kernel_rfl) (by kernel_rfl) (by kernel_rfl) (fun _ _ _ h => h) (by rfl) (fun _ _ h => h) (fun _ _ h => h) ?_ (by assumption) (fun hHeld2 => ?_)
          rotate_left 1
          · (intro _ _ _ _ _; first | (go_simp; done) | (go_simp; with_reducible rfl))
          clear hHeld; have hHeld := hHeld2; clear hHeld2
          (try simp only [Act.put, List.setIfInBounds_toArray, List.set_cons_zero, List.set_cons_succ])
          refine lReady (rs := [11]) (by kernel_rfl) (by simp) ?_
          refine AllL.cons (i := 11) rfl (fun K hK => ?_) ?_
          · refine step_new (.cells #[.slice none 0 0, .int .i64 0, .int .i64 0] 156) (fun g => .pointer (some ⟨g, 0, none⟩)) rfl (by kernel_rfl) ?_; intro ga w7 hga hca hba; have HGa := Lib.hid (show GI w b15 (.slice Am cm.L.length qm) (.int .i64 cm.last) (.int .i64 cm.kn) (cm.last + 1) dr bk un w7 from by first | exact HGp.out.bel hba | exact HGc.out.bel hba | exact HGb.out.bel hba | exact HG3d.out.bel hba); have HKa := Lib.hid (show Blk w7 ga 156 [.slice none 0 0, .int .i64 0, .int .i64 0] from hca); have HBa := Lib.hid hba; have HLa2 := Lib.hid (show b15 < ga from by first | (have := HGp.out.t.lt; omega) | (have := HGc.out.t.lt; omega) | (have := HGb.out.t.lt; omega) | (have := HG3d.out.t.lt; omega)); clear hga hca hba
            (try go_wp2_with fail)
            refine hK.out _ _ ?_ (fun hHeld2 => ?_)
            · (try dsimp only); (first | with_reducible exact gi_S HG3d.out | with_reducible exact gi_S HGa.out | with_reducible exact gi_S HGb.out | with_reducible exact gi_S HGc.out | with_reducible exact gi_S HGp.out | with_reducible exact gi_S (HGp.out.put3 hb15 HLa2.out) | with_reducible exact gi_S (HGa.out.put3 hb15 HLa2.out))
            clear hK K
            clear hHeld; have hHeld := hHeld2; clear hHeld2
            (try simp only [Act.put, List.setIfInBounds_toArray, List.set_cons_zero, List.set_cons_succ])
            refine lReady (rs := [12]) (by kernel_rfl) (by simp) ?_
            refine AllL.cons (i := 12) rfl (fun K hK => ?_) ?_
            · have hk := (show Blk _ ga 156 [.slice none 0 0, .int .i64 0, .int .i64 0] from by first | exact HKap.out | exact HKa.out); have y0 := hk.cell 0 rfl; have y1 := hk.cell 1 rfl; have y2 := hk.cell 2 rfl; have x0 := hk.free 0; have x1 := hk.free 1; have x2 := hk.free 2; have HK9 := Lib.hid hk; clear hk; go_simp
              (try go_wp2_with fail)
              refine hK.out _ _ ?_ (fun hHeld2 => ?_)
              · (try dsimp only); (first | with_reducible exact gi_S HG3d.out | with_reducible exact gi_S HGa.out | with_reducible exact gi_S HGb.out | with_reducible exact gi_S HGc.out | with_reducible exact gi_S HGp.out | with_reducible exact gi_S (HGp.out.put3 hb15 HLa2.out) | with_reducible exact gi_S (HGa.out.put3 hb15 HLa2.out))
              clear hK K
              clear hHeld; have hHeld := hHeld2; clear hHeld2
              (try simp only [Act.put, List.setIfInBounds_toArray, List.set_cons_zero, List.set_cons_succ])
              refine lDone (by kernel_rfl) ?_ _
              clear hHeld
              go_wp2
              go_meet
              case rel => exact j11_mk rfl (by first | exact HGp.out | exact HGa.out) hb15 HLa2.out HK9.out (by first | exact HRp.out | exact rowE_below HRp.out HBa.out)
            exact AllL.nil
          exact AllL.nil
        refine AllL.cons (i := 11) rfl (fun K hK => ?_) ?_
        · refine step_new (.cells #[.slice none 0 0, .int .i64 0, .int .i64 0] 156) (fun g => .pointer (some ⟨g, 0, none⟩)) rfl (by kernel_rfl) ?_; intro ga w7 hga hca hba; have HGa := Lib.hid (show GI w b15 (.slice Am cm.L.length qm) (.int .i64 cm.last) (.int .i64 cm.kn) (cm.last + 1) dr bk un w7 from by first | exact HGp.out.bel hba | exact HGc.out.bel hba | exact HGb.out.bel hba | exact HG3d.out.bel hba); have HKa := Lib.hid (show Blk w7 ga 156 [.slice none 0 0, .int .i64 0, .int .i64 0] from hca); have HBa := Lib.hid hba; have HLa2 := Lib.hid (show b15 < ga from by first | (have := HGp.out.t.lt; omega) | (have := HGc.out.t.lt; omega) | (have := HGb.out.t.lt; omega) | (have := HG3d.out.t.lt; omega)); clear hga hca hba
          (try go_wp2_with fail)
          refine hK.out _ _ ?_ (fun hHeld2 => ?_)
          · (try dsimp only); (first | with_reducible exact gi_S HG3d.out | with_reducible exact gi_S HGa.out | with_reducible exact gi_S HGb.out | with_reducible exact gi_S HGc.out | with_reducible exact gi_S HGp.out | with_reducible exact gi_S (HGp.out.put3 hb15 HLa2.out) | with_reducible exact gi_S (HGa.out.put3 hb15 HLa2.out))
          clear hK K
          clear hHeld; have hHeld := hHeld2; clear hHeld2
          (try simp only [Act.put, List.setIfInBounds_toArray, List.set_cons_zero, List.set_cons_succ])
          refine lReady (rs := [5]) (by kernel_rfl) (by simp) ?_
          refine AllL.cons (i := 5) rfl (fun K hK => ?_) ?_
          · refine step_append_any (.tmp 87) (.tmp 89) 36 rfl rfl w.heap.size 43 i0 (.agg #[.int .i64 0, .int .i64 0, .int .i64 0, .int .i64 0]) 4 32 Try.underlying36 hi z0 z1 z2 rfl (by decide) A1 V.length d1 (flatLs V) (by rfl) (by unfold LRow at HRc; first | exact HRc.out | exact rowE_below HRc.out HBb.out | exact rowE_below HRc.out HBa.out | exact rowE_below (rowE_below HRc.out HBb.out) HBa.out | exact rowE_below (rowE_below HRc.out HBa.out) HBb.out) (some ⟨gb, 0, none⟩) 1 1 [.int .i64 (cm.last + 1), .int .i64 dr, .int .i64 bk, .int .i64 un] (by rfl) rfl (src_blk (by first | exact HKb.out | exact blk_bel HBc.out HKb.out | exact blk_bel HBa.out HKb.out | exact blk_bel HBc.out (blk_bel HBa.out HKb.out) | exact blk_bel HBa.out (blk_bel HBc.out HKb.out)) 1) (by simp [Value.oneCell']) (by unfold maxLen; omega) (by omega) (by first | exact HGc.out.b.size | exact HGb.out.b.size | exact HGa.out.b.size) ?_; intro A2 d2 w8 hown hgrow hat; have HTp := Lib.hid (grown_touch hgrow); have HGp := Lib.hid (show GI w b15 (.slice Am cm.L.length qm) (.int .i64 cm.last) (.int .i64 cm.kn) (cm.last + 1) dr bk un w8 from by first | exact HGc.out.touch HTp.out hb15 HNc.out | exact HGb.out.touch HTp.out hb15 HNc.out | exact HGa.out.touch HTp.out hb15 HNc.out); have HRp := Lib.hid (show LRow w.heap.size A2 d2 (V ++ [⟨cm.last + 1, dr, bk, un⟩]) w8 from by unfold LRow; rw [flatLs_append, List.length_append]; exact hown); (try have HKap := Lib.hid (keep_ap HTp.out (by unfold LRow at HRc ⊢; first | exact HRc.out | exact rowE_below HRc.out HBb.out | exact rowE_below HRc.out HBa.out | exact rowE_below (rowE_below HRc.out HBb.out) HBa.out | exact rowE_below (rowE_below HRc.out HBa.out) HBb.out) (show Blk _ ga 156 [.slice none 0 0, .int .i64 0, .int .i64 0] by first | exact HKa.out | exact blk_bel HBb.out HKa.out | exact blk_bel HBc.out HKa.out | exact blk_bel HBb.out (blk_bel HBc.out HKa.out) | exact blk_bel HBc.out (blk_bel HBb.out HKa.out)))); clear hown hgrow hat
            (try go_wp2_with fail)
            refine hK.out _ _ ?_ (fun hHeld2 => ?_)
            · (try dsimp only); (first | with_reducible exact gi_S HG3d.out | with_reducible exact gi_S HGa.out | with_reducible exact gi_S HGb.out | with_reducible exact gi_S HGc.out | with_reducible exact gi_S HGp.out | with_reducible exact gi_S (HGp.out.put3 hb15 HLa2.out) | with_reducible exact gi_S (HGa.out.put3 hb15 HLa2.out))
            clear hK K
            clear hHeld; have hHeld := hHeld2; clear hHeld2
            (try simp only [Act.put, List.setIfInBounds_toArray, List.set_cons_zero, List.set_cons_succ])
            refine lTake (i := 10) (v := ?_) rfl (by kernel_rfl) (by kernel_rfl) (by kernel_rfl) (fun _ _ _ h => h) (by rfl) (fun _ _ h => h) (fun _ _ h => h) ?_ (by assumption) (fun hHeld2 => ?_)
            rotate_left 1
            · (intro _ _ _ _ _; first | (go_simp; done) | (go_simp; with_reducible rfl))
            clear hHeld; have hHeld := hHeld2; clear hHeld2
            (try simp only [Act.put, List.setIfInBounds_toArray, List.set_cons_zero, List.set_cons_succ])
            refine lReady (rs := [12]) (by kernel_rfl) (by simp) ?_
            refine AllL.cons (i := 12) rfl (fun K hK => ?_) ?_
            · have hk := (show Blk _ ga 156 [.slice none 0 0, .int .i64 0, .int .i64 0] from by first | exact HKap.out | exact HKa.out); have y0 := hk.cell 0 rfl; have y1 := hk.cell 1 rfl; have y2 := hk.cell 2 rfl; have x0 := hk.free 0; have x1 := hk.free 1; have x2 := hk.free 2; have HK9 := Lib.hid hk; clear hk; go_simp
              (try go_wp2_with fail)
              refine hK.out _ _ ?_ (fun hHeld2 => ?_)
              · (try dsimp only); (first | with_reducible exact gi_S HG3d.out | with_reducible exact gi_S HGa.out | with_reducible exact gi_S HGb.out | with_reducible exact gi_S HGc.out | with_reducible exact gi_S HGp.out | with_reducible exact gi_S (HGp.out.put3 hb15 HLa2.out) | with_reducible exact gi_S (HGa.out.put3 hb15 HLa2.out))
              clear hK K
              clear hHeld; have hHeld := hHeld2; clear hHeld2
              (try simp only [Act.put, List.setIfInBounds_toArray, List.set_cons_zero, List.set_cons_succ])
              refine lDone (by kernel_rfl) ?_ _
              clear hHeld
              go_wp2
              go_meet
              case rel => exact j11_mk rfl (by first | exact HGp.out | exact HGa.out) hb15 HLa2.out HK9.out (by first | exact HRp.out | exact rowE_below HRp.out HBa.out)
            exact AllL.nil
          exact AllL.nil
        exact AllL.nil
      refine AllL.cons (i := 11) rfl (fun K hK => ?_) ?_
      · refine step_new (.cells #[.slice none 0 0, .int .i64 0, .int .i64 0] 156) (fun g => .pointer (some ⟨g, 0, none⟩)) rfl (by kernel_rfl) ?_; intro ga w7 hga hca hba; have HGa := Lib.hid (show GI w b15 (.slice Am cm.L.length qm) (.int .i64 cm.last) (.int .i64 cm.kn) (cm.last + 1) dr bk un w7 from by first | exact HGp.out.bel hba | exact HGc.out.bel hba | exact HGb.out.bel hba | exact HG3d.out.bel hba); have HKa := Lib.hid (show Blk w7 ga 156 [.slice none 0 0, .int .i64 0, .int .i64 0] from hca); have HBa := Lib.hid hba; have HLa2 := Lib.hid (show b15 < ga from by first | (have := HGp.out.t.lt; omega) | (have := HGc.out.t.lt; omega) | (have := HGb.out.t.lt; omega) | (have := HG3d.out.t.lt; omega)); clear hga hca hba
        (try go_wp2_with fail)
        refine hK.out _ _ ?_ (fun hHeld2 => ?_)
        · (try dsimp only); (first | with_reducible exact gi_S HG3d.out | with_reducible exact gi_S HGa.out | with_reducible exact gi_S HGb.out | with_reducible exact gi_S HGc.out | with_reducible exact gi_S HGp.out | with_reducible exact gi_S (HGp.out.put3 hb15 HLa2.out) | with_reducible exact gi_S (HGa.out.put3 hb15 HLa2.out))
        clear hK K
        clear hHeld; have hHeld := hHeld2; clear hHeld2
        (try simp only [Act.put, List.setIfInBounds_toArray, List.set_cons_zero, List.set_cons_succ])
        refine lReady (rs := [4]) (by kernel_rfl) (by simp) ?_
        refine AllL.cons (i := 4) rfl (fun K hK => ?_) ?_
        · refine step_new (.cells #[.int .i64 (cm.last + 1), .int .i64 dr, .int .i64 bk, .int .i64 un] 43) (fun g => .slice (some ⟨g, 0, none⟩) 1 1) rfl (by kernel_rfl) ?_; intro gb w6 hgb hcb hbb; have HGb := Lib.hid (show GI w b15 (.slice Am cm.L.length qm) (.int .i64 cm.last) (.int .i64 cm.kn) (cm.last + 1) dr bk un w6 from by first | exact HGc.out.bel hbb | exact HGa.out.bel hbb | exact HG3d.out.bel hbb); have HKb := Lib.hid (show Blk w6 gb 43 [.int .i64 (cm.last + 1), .int .i64 dr, .int .i64 bk, .int .i64 un] from hcb); have HBb := Lib.hid hbb; clear hgb hcb hbb
          (try go_wp2_with fail)
          refine hK.out _ _ ?_ (fun hHeld2 => ?_)
          · (try dsimp only); (first | with_reducible exact gi_S HG3d.out | with_reducible exact gi_S HGa.out | with_reducible exact gi_S HGb.out | with_reducible exact gi_S HGc.out | with_reducible exact gi_S HGp.out | with_reducible exact gi_S (HGp.out.put3 hb15 HLa2.out) | with_reducible exact gi_S (HGa.out.put3 hb15 HLa2.out))
          clear hK K
          clear hHeld; have hHeld := hHeld2; clear hHeld2
          (try simp only [Act.put, List.setIfInBounds_toArray, List.set_cons_zero, List.set_cons_succ])
          refine lReady (rs := [5]) (by kernel_rfl) (by simp) ?_
          refine AllL.cons (i := 5) rfl (fun K hK => ?_) ?_
          · refine step_append_any (.tmp 87) (.tmp 89) 36 rfl rfl w.heap.size 43 i0 (.agg #[.int .i64 0, .int .i64 0, .int .i64 0, .int .i64 0]) 4 32 Try.underlying36 hi z0 z1 z2 rfl (by decide) A1 V.length d1 (flatLs V) (by rfl) (by unfold LRow at HRc; first | exact HRc.out | exact rowE_below HRc.out HBb.out | exact rowE_below HRc.out HBa.out | exact rowE_below (rowE_below HRc.out HBb.out) HBa.out | exact rowE_below (rowE_below HRc.out HBa.out) HBb.out) (some ⟨gb, 0, none⟩) 1 1 [.int .i64 (cm.last + 1), .int .i64 dr, .int .i64 bk, .int .i64 un] (by rfl) rfl (src_blk (by first | exact HKb.out | exact blk_bel HBc.out HKb.out | exact blk_bel HBa.out HKb.out | exact blk_bel HBc.out (blk_bel HBa.out HKb.out) | exact blk_bel HBa.out (blk_bel HBc.out HKb.out)) 1) (by simp [Value.oneCell']) (by unfold maxLen; omega) (by omega) (by first | exact HGc.out.b.size | exact HGb.out.b.size | exact HGa.out.b.size) ?_; intro A2 d2 w8 hown hgrow hat; have HTp := Lib.hid (grown_touch hgrow); have HGp := Lib.hid (show GI w b15 (.slice Am cm.L.length qm) (.int .i64 cm.last) (.int .i64 cm.kn) (cm.last + 1) dr bk un w8 from by first | exact HGc.out.touch HTp.out hb15 HNc.out | exact HGb.out.touch HTp.out hb15 HNc.out | exact HGa.out.touch HTp.out hb15 HNc.out); have HRp := Lib.hid (show LRow w.heap.size A2 d2 (V ++ [⟨cm.last + 1, dr, bk, un⟩]) w8 from by unfold LRow; rw [flatLs_append, List.length_append]; exact hown); (try have HKap := Lib.hid (keep_ap HTp.out (by unfold LRow at HRc ⊢; first | exact HRc.out | exact rowE_below HRc.out HBb.out | exact rowE_below HRc.out HBa.out | exact rowE_below (rowE_below HRc.out HBb.out) HBa.out | exact rowE_below (rowE_below HRc.out HBa.out) HBb.out) (show Blk _ ga 156 [.slice none 0 0, .int .i64 0, .int .i64 0] by first | exact HKa.out | exact blk_bel HBb.out HKa.out | exact blk_bel HBc.out HKa.out | exact blk_bel HBb.out (blk_bel HBc.out HKa.out) | exact blk_bel HBc.out (blk_bel HBb.out HKa.out)))); clear hown hgrow hat
            (try go_wp2_with fail)
            refine hK.out _ _ ?_ (fun hHeld2 => ?_)
            · (try dsimp only); (first | with_reducible exact gi_S HG3d.out | with_reducible exact gi_S HGa.out | with_reducible exact gi_S HGb.out | with_reducible exact gi_S HGc.out | with_reducible exact gi_S HGp.out | with_reducible exact gi_S (HGp.out.put3 hb15 HLa2.out) | with_reducible exact gi_S (HGa.out.put3 hb15 HLa2.out))
            clear hK K
            clear hHeld; have hHeld := hHeld2; clear hHeld2
            (try simp only [Act.put, List.setIfInBounds_toArray, List.set_cons_zero, List.set_cons_succ])
            refine lTake (i := 10) (v := ?_) rfl (by kernel_rfl) (by kernel_rfl) (by kernel_rfl) (fun _ _ _ h => h) (by rfl) (fun _ _ h => h) (fun _ _ h => h) ?_ (by assumption) (fun hHeld2 => ?_)
            rotate_left 1
            · (intro _ _ _ _ _; first | (go_simp; done) | (go_simp; with_reducible rfl))
            clear hHeld; have hHeld := hHeld2; clear hHeld2
            (try simp only [Act.put, List.setIfInBounds_toArray, List.set_cons_zero, List.set_cons_succ])
            refine lReady (rs := [12]) (by kernel_rfl) (by simp) ?_
            refine AllL.cons (i := 12) rfl (fun K hK => ?_) ?_
            · have hk := (show Blk _ ga 156 [.slice none 0 0, .int .i64 0, .int .i64 0] from by first | exact HKap.out | exact HKa.out); have y0 := hk.cell 0 rfl; have y1 := hk.cell 1 rfl; have y2 := hk.cell 2 rfl; have x0 := hk.free 0; have x1 := hk.free 1; have x2 := hk.free 2; have HK9 := Lib.hid hk; clear hk; go_simp
              (try go_wp2_with fail)
              refine hK.out _ _ ?_ (fun hHeld2 => ?_)
              · (try dsimp only); (first | with_reducible exact gi_S HG3d.out | with_reducible exact gi_S HGa.out | with_reducible exact gi_S HGb.out | with_reducible exact gi_S HGc.out | with_reducible exact gi_S HGp.out | with_reducible exact gi_S (HGp.out.put3 hb15 HLa2.out) | with_reducible exact gi_S (HGa.out.put3 hb15 HLa2.out))
              clear hK K
              clear hHeld; have hHeld := hHeld2; clear hHeld2
              (try simp only [Act.put, List.setIfInBounds_toArray, List.set_cons_zero, List.set_cons_succ])
              refine lDone (by kernel_rfl) ?_ _
              clear hHeld
              go_wp2
              go_meet
              case rel => exact j11_mk rfl (by first | exact HGp.out | exact HGa.out) hb15 HLa2.out HK9.out (by first | exact HRp.out | exact rowE_below HRp.out HBa.out)
            exact AllL.nil
          exact AllL.nil
        exact AllL.nil
      exact AllL.nil
    refine AllL.cons (i := 4) rfl (fun K hK => ?_) ?_
    · refine step_new (.cells #[.int .i64 (cm.last + 1), .int .i64 dr, .int .i64 bk, .int .i64 un] 43) (fun g => .slice (some ⟨g, 0, none⟩) 1 1) rfl (by kernel_rfl) ?_; intro gb w6 hgb hcb hbb; have HGb := Lib.hid (show GI w b15 (.slice Am cm.L.length qm) (.int .i64 cm.last) (.int .i64 cm.kn) (cm.last + 1) dr bk un w6 from by first | exact HGc.out.bel hbb | exact HGa.out.bel hbb | exact HG3d.out.bel hbb); have HKb := Lib.hid (show Blk w6 gb 43 [.int .i64 (cm.last + 1), .int .i64 dr, .int .i64 bk, .int .i64 un] from hcb); have HBb := Lib.hid hbb; clear hgb hcb hbb
      (try go_wp2_with fail)
      refine hK.out _ _ ?_ (fun hHeld2 => ?_)
      · (try dsimp only); (first | with_reducible exact gi_S HG3d.out | with_reducible exact gi_S HGa.out | with_reducible exact gi_S HGb.out | with_reducible exact gi_S HGc.out | with_reducible exact gi_S HGp.out | with_reducible exact gi_S (HGp.out.put3 hb15 HLa2.out) | with_reducible exact gi_S (HGa.out.put3 hb15 HLa2.out))
      clear hK K
      clear hHeld; have hHeld := hHeld2; clear hHeld2
      (try simp only [Act.put, List.setIfInBounds_toArray, List.set_cons_zero, List.set_cons_succ])
      refine lReady (rs := [2, 11]) (by kernel_rfl) (by simp) ?_
      refine AllL.cons (i := 2) rfl (fun K hK => ?_) ?_
      · go_simp; (refine (P88.out _ (by first | exact HGa.out.b | exact HGb.out.b | exact HG3d.out.b)).mono ?_; rintro e w5 ⟨A1, d1, rfl, hrow1, hb5⟩; have HGc := Lib.hid (show GI w b15 (.slice Am cm.L.length qm) (.int .i64 cm.last) (.int .i64 cm.kn) (cm.last + 1) dr bk un w5 from by first | exact HGa.out.bel hb5 | exact HGb.out.bel hb5 | exact HG3d.out.bel hb5); have HNc := Lib.hid (show ∀ k, OwnB A1 k → b15 < k from fun k hk => by have h1 := (rowE_lt hrow1 hk).1; first | (have := HGa.out.t.lt; omega) | (have := HGb.out.t.lt; omega) | (have := HG3d.out.t.lt; omega)); have HRc := Lib.hid (rowLs_base hrow1 (B' := w.heap.size) (by first | exact HGa.out.b.size | exact HGb.out.b.size | exact HG3d.out.b.size)); have HBc := Lib.hid hb5; clear hb5 hrow1)
        (try go_wp2_with fail)
        refine hK.out _ _ ?_ (fun hHeld2 => ?_)
        · (try dsimp only); (first | with_reducible exact gi_S HG3d.out | with_reducible exact gi_S HGa.out | with_reducible exact gi_S HGb.out | with_reducible exact gi_S HGc.out | with_reducible exact gi_S HGp.out | with_reducible exact gi_S (HGp.out.put3 hb15 HLa2.out) | with_reducible exact gi_S (HGa.out.put3 hb15 HLa2.out))
        clear hK K
        clear hHeld; have hHeld := hHeld2; clear hHeld2
        (try simp only [Act.put, List.setIfInBounds_toArray, List.set_cons_zero, List.set_cons_succ])
        refine lReady (rs := [5, 11]) (by kernel_rfl) (by simp) ?_
        refine AllL.cons (i := 5) rfl (fun K hK => ?_) ?_
        · refine step_append_any (.tmp 87) (.tmp 89) 36 rfl rfl w.heap.size 43 i0 (.agg #[.int .i64 0, .int .i64 0, .int .i64 0, .int .i64 0]) 4 32 Try.underlying36 hi z0 z1 z2 rfl (by decide) A1 V.length d1 (flatLs V) (by rfl) (by unfold LRow at HRc; first | exact HRc.out | exact rowE_below HRc.out HBb.out | exact rowE_below HRc.out HBa.out | exact rowE_below (rowE_below HRc.out HBb.out) HBa.out | exact rowE_below (rowE_below HRc.out HBa.out) HBb.out) (some ⟨gb, 0, none⟩) 1 1 [.int .i64 (cm.last + 1), .int .i64 dr, .int .i64 bk, .int .i64 un] (by rfl) rfl (src_blk (by first | exact HKb.out | exact blk_bel HBc.out HKb.out | exact blk_bel HBa.out HKb.out | exact blk_bel HBc.out (blk_bel HBa.out HKb.out) | exact blk_bel HBa.out (blk_bel HBc.out HKb.out)) 1) (by simp [Value.oneCell']) (by unfold maxLen; omega) (by omega) (by first | exact HGc.out.b.size | exact HGb.out.b.size | exact HGa.out.b.size) ?_; intro A2 d2 w8 hown hgrow hat; have HTp := Lib.hid (grown_touch hgrow); have HGp := Lib.hid (show GI w b15 (.slice Am cm.L.length qm) (.int .i64 cm.last) (.int .i64 cm.kn) (cm.last + 1) dr bk un w8 from by first | exact HGc.out.touch HTp.out hb15 HNc.out | exact HGb.out.touch HTp.out hb15 HNc.out | exact HGa.out.touch HTp.out hb15 HNc.out); have HRp := Lib.hid (show LRow w.heap.size A2 d2 (V ++ [⟨cm.last + 1, dr, bk, un⟩]) w8 from by unfold LRow; rw [flatLs_append, List.length_append]; exact hown); (try have HKap := Lib.hid (keep_ap HTp.out (by unfold LRow at HRc ⊢; first | exact HRc.out | exact rowE_below HRc.out HBb.out | exact rowE_below HRc.out HBa.out | exact rowE_below (rowE_below HRc.out HBb.out) HBa.out | exact rowE_below (rowE_below HRc.out HBa.out) HBb.out) (show Blk _ ga 156 [.slice none 0 0, .int .i64 0, .int .i64 0] by first | exact HKa.out | exact blk_bel HBb.out HKa.out | exact blk_bel HBc.out HKa.out | exact blk_bel HBb.out (blk_bel HBc.out HKa.out) | exact blk_bel HBc.out (blk_bel HBb.out HKa.out)))); clear hown hgrow hat
          (try go_wp2_with fail)
          refine hK.out _ _ ?_ (fun hHeld2 => ?_)
          · (try dsimp only); (first | with_reducible exact gi_S HG3d.out | with_reducible exact gi_S HGa.out | with_reducible exact gi_S HGb.out | with_reducible exact gi_S HGc.out | with_reducible exact gi_S HGp.out | with_reducible exact gi_S (HGp.out.put3 hb15 HLa2.out) | with_reducible exact gi_S (HGa.out.put3 hb15 HLa2.out))
          clear hK K
          clear hHeld; have hHeld := hHeld2; clear hHeld2
          (try simp only [Act.put, List.setIfInBounds_toArray, List.set_cons_zero, List.set_cons_succ])
          refine lTake (i := 10) (v := ?_) rfl (by kernel_rfl) (by kernel_rfl) (by kernel_rfl) (fun _ _ _ h => h) (by rfl) (fun _ _ h => h) (fun _ _ h => h) ?_ (by assumption) (fun hHeld2 => ?_)
          rotate_left 1
          · (intro _ _ _ _ _; first | (go_simp; done) | (go_simp; with_reducible rfl))
          clear hHeld; have hHeld := hHeld2; clear hHeld2
          (try simp only [Act.put, List.setIfInBounds_toArray, List.set_cons_zero, List.set_cons_succ])
          refine lReady (rs := [11]) (by kernel_rfl) (by simp) ?_
          refine AllL.cons (i := 11) rfl (fun K hK => ?_) ?_
          · refine step_new (.cells #[.slice none 0 0, .int .i64 0, .int .i64 0] 156) (fun g => .pointer (some ⟨g, 0, none⟩)) rfl (by kernel_rfl) ?_; intro ga w7 hga hca hba; have HGa := Lib.hid (show GI w b15 (.slice Am cm.L.length qm) (.int .i64 cm.last) (.int .i64 cm.kn) (cm.last + 1) dr bk un w7 from by first | exact HGp.out.bel hba | exact HGc.out.bel hba | exact HGb.out.bel hba | exact HG3d.out.bel hba); have HKa := Lib.hid (show Blk w7 ga 156 [.slice none 0 0, .int .i64 0, .int .i64 0] from hca); have HBa := Lib.hid hba; have HLa2 := Lib.hid (show b15 < ga from by first | (have := HGp.out.t.lt; omega) | (have := HGc.out.t.lt; omega) | (have := HGb.out.t.lt; omega) | (have := HG3d.out.t.lt; omega)); clear hga hca hba
            (try go_wp2_with fail)
            refine hK.out _ _ ?_ (fun hHeld2 => ?_)
            · (try dsimp only); (first | with_reducible exact gi_S HG3d.out | with_reducible exact gi_S HGa.out | with_reducible exact gi_S HGb.out | with_reducible exact gi_S HGc.out | with_reducible exact gi_S HGp.out | with_reducible exact gi_S (HGp.out.put3 hb15 HLa2.out) | with_reducible exact gi_S (HGa.out.put3 hb15 HLa2.out))
            clear hK K
            clear hHeld; have hHeld := hHeld2; clear hHeld2
            (try simp only [Act.put, List.setIfInBounds_toArray, List.set_cons_zero, List.set_cons_succ])
            refine lReady (rs := [12]) (by kernel_rfl) (by simp) ?_
            refine AllL.cons (i := 12) rfl (fun K hK => ?_) ?_
            · have hk := (show Blk _ ga 156 [.slice none 0 0, .int .i64 0, .int .i64 0] from by first | exact HKap.out | exact HKa.out); have y0 := hk.cell 0 rfl; have y1 := hk.cell 1 rfl; have y2 := hk.cell 2 rfl; have x0 := hk.free 0; have x1 := hk.free 1; have x2 := hk.free 2; have HK9 := Lib.hid hk; clear hk; go_simp
              (try go_wp2_with fail)
              refine hK.out _ _ ?_ (fun hHeld2 => ?_)
              · (try dsimp only); (first | with_reducible exact gi_S HG3d.out | with_reducible exact gi_S HGa.out | with_reducible exact gi_S HGb.out | with_reducible exact gi_S HGc.out | with_reducible exact gi_S HGp.out | with_reducible exact gi_S (HGp.out.put3 hb15 HLa2.out) | with_reducible exact gi_S (HGa.out.put3 hb15 HLa2.out))
              clear hK K
              clear hHeld; have hHeld := hHeld2; clear hHeld2
              (try simp only [Act.put, List.setIfInBounds_toArray, List.set_cons_zero, List.set_cons_succ])
              refine lDone (by kernel_rfl) ?_ _
              clear hHeld
              go_wp2
              go_meet
              case rel => exact j11_mk rfl (by first | exact HGp.out | exact HGa.out) hb15 HLa2.out HK9.out (by first | exact HRp.out | exact rowE_below HRp.out HBa.out)
            exact AllL.nil
          exact AllL.nil
        refine AllL.cons (i := 11) rfl (fun K hK => ?_) ?_
        · refine step_new (.cells #[.slice none 0 0, .int .i64 0, .int .i64 0] 156) (fun g => .pointer (some ⟨g, 0, none⟩)) rfl (by kernel_rfl) ?_; intro ga w7 hga hca hba; have HGa := Lib.hid (show GI w b15 (.slice Am cm.L.length qm) (.int .i64 cm.last) (.int .i64 cm.kn) (cm.last + 1) dr bk un w7 from by first | exact HGp.out.bel hba | exact HGc.out.bel hba | exact HGb.out.bel hba | exact HG3d.out.bel hba); have HKa := Lib.hid (show Blk w7 ga 156 [.slice none 0 0, .int .i64 0, .int .i64 0] from hca); have HBa := Lib.hid hba; have HLa2 := Lib.hid (show b15 < ga from by first | (have := HGp.out.t.lt; omega) | (have := HGc.out.t.lt; omega) | (have := HGb.out.t.lt; omega) | (have := HG3d.out.t.lt; omega)); clear hga hca hba
          (try go_wp2_with fail)
          refine hK.out _ _ ?_ (fun hHeld2 => ?_)
          · (try dsimp only); (first | with_reducible exact gi_S HG3d.out | with_reducible exact gi_S HGa.out | with_reducible exact gi_S HGb.out | with_reducible exact gi_S HGc.out | with_reducible exact gi_S HGp.out | with_reducible exact gi_S (HGp.out.put3 hb15 HLa2.out) | with_reducible exact gi_S (HGa.out.put3 hb15 HLa2.out))
          clear hK K
          clear hHeld; have hHeld := hHeld2; clear hHeld2
          (try simp only [Act.put, List.setIfInBounds_toArray, List.set_cons_zero, List.set_cons_succ])
          refine lReady (rs := [5]) (by kernel_rfl) (by simp) ?_
          refine AllL.cons (i := 5) rfl (fun K hK => ?_) ?_
          · refine step_append_any (.tmp 87) (.tmp 89) 36 rfl rfl w.heap.size 43 i0 (.agg #[.int .i64 0, .int .i64 0, .int .i64 0, .int .i64 0]) 4 32 Try.underlying36 hi z0 z1 z2 rfl (by decide) A1 V.length d1 (flatLs V) (by rfl) (by unfold LRow at HRc; first | exact HRc.out | exact rowE_below HRc.out HBb.out | exact rowE_below HRc.out HBa.out | exact rowE_below (rowE_below HRc.out HBb.out) HBa.out | exact rowE_below (rowE_below HRc.out HBa.out) HBb.out) (some ⟨gb, 0, none⟩) 1 1 [.int .i64 (cm.last + 1), .int .i64 dr, .int .i64 bk, .int .i64 un] (by rfl) rfl (src_blk (by first | exact HKb.out | exact blk_bel HBc.out HKb.out | exact blk_bel HBa.out HKb.out | exact blk_bel HBc.out (blk_bel HBa.out HKb.out) | exact blk_bel HBa.out (blk_bel HBc.out HKb.out)) 1) (by simp [Value.oneCell']) (by unfold maxLen; omega) (by omega) (by first | exact HGc.out.b.size | exact HGb.out.b.size | exact HGa.out.b.size) ?_; intro A2 d2 w8 hown hgrow hat; have HTp := Lib.hid (grown_touch hgrow); have HGp := Lib.hid (show GI w b15 (.slice Am cm.L.length qm) (.int .i64 cm.last) (.int .i64 cm.kn) (cm.last + 1) dr bk un w8 from by first | exact HGc.out.touch HTp.out hb15 HNc.out | exact HGb.out.touch HTp.out hb15 HNc.out | exact HGa.out.touch HTp.out hb15 HNc.out); have HRp := Lib.hid (show LRow w.heap.size A2 d2 (V ++ [⟨cm.last + 1, dr, bk, un⟩]) w8 from by unfold LRow; rw [flatLs_append, List.length_append]; exact hown); (try have HKap := Lib.hid (keep_ap HTp.out (by unfold LRow at HRc ⊢; first | exact HRc.out | exact rowE_below HRc.out HBb.out | exact rowE_below HRc.out HBa.out | exact rowE_below (rowE_below HRc.out HBb.out) HBa.out | exact rowE_below (rowE_below HRc.out HBa.out) HBb.out) (show Blk _ ga 156 [.slice none 0 0, .int .i64 0, .int .i64 0] by first | exact HKa.out | exact blk_bel HBb.out HKa.out | exact blk_bel HBc.out HKa.out | exact blk_bel HBb.out (blk_bel HBc.out HKa.out) | exact blk_bel HBc.out (blk_bel HBb.out HKa.out)))); clear hown hgrow hat
            (try go_wp2_with fail)
            refine hK.out _ _ ?_ (fun hHeld2 => ?_)
            · (try dsimp only); (first | with_reducible exact gi_S HG3d.out | with_reducible exact gi_S HGa.out | with_reducible exact gi_S HGb.out | with_reducible exact gi_S HGc.out | with_reducible exact gi_S HGp.out | with_reducible exact gi_S (HGp.out.put3 hb15 HLa2.out) | with_reducible exact gi_S (HGa.out.put3 hb15 HLa2.out))
            clear hK K
            clear hHeld; have hHeld := hHeld2; clear hHeld2
            (try simp only [Act.put, List.setIfInBounds_toArray, List.set_cons_zero, List.set_cons_succ])
            refine lTake (i := 10) (v := ?_) rfl (by kernel_rfl) (by kernel_rfl) (by kernel_rfl) (fun _ _ _ h => h) (by rfl) (fun _ _ h => h) (fun _ _ h => h) ?_ (by assumption) (fun hHeld2 => ?_)
            rotate_left 1
            · (intro _ _ _ _ _; first | (go_simp; done) | (go_simp; with_reducible rfl))
            clear hHeld; have hHeld := hHeld2; clear hHeld2
            (try simp only [Act.put, List.setIfInBounds_toArray, List.set_cons_zero, List.set_cons_succ])
            refine lReady (rs := [12]) (by kernel_rfl) (by simp) ?_
            refine AllL.cons (i := 12) rfl (fun K hK => ?_) ?_
            · have hk := (show Blk _ ga 156 [.slice none 0 0, .int .i64 0, .int .i64 0] from by first | exact HKap.out | exact HKa.out); have y0 := hk.cell 0 rfl; have y1 := hk.cell 1 rfl; have y2 := hk.cell 2 rfl; have x0 := hk.free 0; have x1 := hk.free 1; have x2 := hk.free 2; have HK9 := Lib.hid hk; clear hk; go_simp
              (try go_wp2_with fail)
              refine hK.out _ _ ?_ (fun hHeld2 => ?_)
              · (try dsimp only); (first | with_reducible exact gi_S HG3d.out | with_reducible exact gi_S HGa.out | with_reducible exact gi_S HGb.out | with_reducible exact gi_S HGc.out | with_reducible exact gi_S HGp.out | with_reducible exact gi_S (HGp.out.put3 hb15 HLa2.out) | with_reducible exact gi_S (HGa.out.put3 hb15 HLa2.out))
              clear hK K
              clear hHeld; have hHeld := hHeld2; clear hHeld2
              (try simp only [Act.put, List.setIfInBounds_toArray, List.set_cons_zero, List.set_cons_succ])
              refine lDone (by kernel_rfl) ?_ _
              clear hHeld
              go_wp2
              go_meet
              case rel => exact j11_mk rfl (by first | exact HGp.out | exact HGa.out) hb15 HLa2.out HK9.out (by first | exact HRp.out | exact rowE_below HRp.out HBa.out)
            exact AllL.nil
          exact AllL.nil
        exact AllL.nil
      refine AllL.cons (i := 11) rfl (fun K hK => ?_) ?_
      · refine step_new (.cells #[.slice none 0 0, .int .i64 0, .int .i64 0] 156) (fun g => .pointer (some ⟨g, 0, none⟩)) rfl (by kernel_rfl) ?_; intro ga w7 hga hca hba; have HGa := Lib.hid (show GI w b15 (.slice Am cm.L.length qm) (.int .i64 cm.last) (.int .i64 cm.kn) (cm.last + 1) dr bk un w7 from by first | exact HGp.out.bel hba | exact HGc.out.bel hba | exact HGb.out.bel hba | exact HG3d.out.bel hba); have HKa := Lib.hid (show Blk w7 ga 156 [.slice none 0 0, .int .i64 0, .int .i64 0] from hca); have HBa := Lib.hid hba; have HLa2 := Lib.hid (show b15 < ga from by first | (have := HGp.out.t.lt; omega) | (have := HGc.out.t.lt; omega) | (have := HGb.out.t.lt; omega) | (have := HG3d.out.t.lt; omega)); clear hga hca hba
        (try go_wp2_with fail)
        refine hK.out _ _ ?_ (fun hHeld2 => ?_)
        · (try dsimp only); (first | with_reducible exact gi_S HG3d.out | with_reducible exact gi_S HGa.out | with_reducible exact gi_S HGb.out | with_reducible exact gi_S HGc.out | with_reducible exact gi_S HGp.out | with_reducible exact gi_S (HGp.out.put3 hb15 HLa2.out) | with_reducible exact gi_S (HGa.out.put3 hb15 HLa2.out))
        clear hK K
        clear hHeld; have hHeld := hHeld2; clear hHeld2
        (try simp only [Act.put, List.setIfInBounds_toArray, List.set_cons_zero, List.set_cons_succ])
        refine lReady (rs := [2]) (by kernel_rfl) (by simp) ?_
        refine AllL.cons (i := 2) rfl (fun K hK => ?_) ?_
        · go_simp; (refine (P88.out _ (by first | exact HGa.out.b | exact HGb.out.b | exact HG3d.out.b)).mono ?_; rintro e w5 ⟨A1, d1, rfl, hrow1, hb5⟩; have HGc := Lib.hid (show GI w b15 (.slice Am cm.L.length qm) (.int .i64 cm.last) (.int .i64 cm.kn) (cm.last + 1) dr bk un w5 from by first | exact HGa.out.bel hb5 | exact HGb.out.bel hb5 | exact HG3d.out.bel hb5); have HNc := Lib.hid (show ∀ k, OwnB A1 k → b15 < k from fun k hk => by have h1 := (rowE_lt hrow1 hk).1; first | (have := HGa.out.t.lt; omega) | (have := HGb.out.t.lt; omega) | (have := HG3d.out.t.lt; omega)); have HRc := Lib.hid (rowLs_base hrow1 (B' := w.heap.size) (by first | exact HGa.out.b.size | exact HGb.out.b.size | exact HG3d.out.b.size)); have HBc := Lib.hid hb5; clear hb5 hrow1)
          (try go_wp2_with fail)
          refine hK.out _ _ ?_ (fun hHeld2 => ?_)
          · (try dsimp only); (first | with_reducible exact gi_S HG3d.out | with_reducible exact gi_S HGa.out | with_reducible exact gi_S HGb.out | with_reducible exact gi_S HGc.out | with_reducible exact gi_S HGp.out | with_reducible exact gi_S (HGp.out.put3 hb15 HLa2.out) | with_reducible exact gi_S (HGa.out.put3 hb15 HLa2.out))
          clear hK K
          clear hHeld; have hHeld := hHeld2; clear hHeld2
          (try simp only [Act.put, List.setIfInBounds_toArray, List.set_cons_zero, List.set_cons_succ])
          refine lReady (rs := [5]) (by kernel_rfl) (by simp) ?_
          refine AllL.cons (i := 5) rfl (fun K hK => ?_) ?_
          · refine step_append_any (.tmp 87) (.tmp 89) 36 rfl rfl w.heap.size 43 i0 (.agg #[.int .i64 0, .int .i64 0, .int .i64 0, .int .i64 0]) 4 32 Try.underlying36 hi z0 z1 z2 rfl (by decide) A1 V.length d1 (flatLs V) (by rfl) (by unfold LRow at HRc; first | exact HRc.out | exact rowE_below HRc.out HBb.out | exact rowE_below HRc.out HBa.out | exact rowE_below (rowE_below HRc.out HBb.out) HBa.out | exact rowE_below (rowE_below HRc.out HBa.out) HBb.out) (some ⟨gb, 0, none⟩) 1 1 [.int .i64 (cm.last + 1), .int .i64 dr, .int .i64 bk, .int .i64 un] (by rfl) rfl (src_blk (by first | exact HKb.out | exact blk_bel HBc.out HKb.out | exact blk_bel HBa.out HKb.out | exact blk_bel HBc.out (blk_bel HBa.out HKb.out) | exact blk_bel HBa.out (blk_bel HBc.out HKb.out)) 1) (by simp [Value.oneCell']) (by unfold maxLen; omega) (by omega) (by first | exact HGc.out.b.size | exact HGb.out.b.size | exact HGa.out.b.size) ?_; intro A2 d2 w8 hown hgrow hat; have HTp := Lib.hid (grown_touch hgrow); have HGp := Lib.hid (show GI w b15 (.slice Am cm.L.length qm) (.int .i64 cm.last) (.int .i64 cm.kn) (cm.last + 1) dr bk un w8 from by first | exact HGc.out.touch HTp.out hb15 HNc.out | exact HGb.out.touch HTp.out hb15 HNc.out | exact HGa.out.touch HTp.out hb15 HNc.out); have HRp := Lib.hid (show LRow w.heap.size A2 d2 (V ++ [⟨cm.last + 1, dr, bk, un⟩]) w8 from by unfold LRow; rw [flatLs_append, List.length_append]; exact hown); (try have HKap := Lib.hid (keep_ap HTp.out (by unfold LRow at HRc ⊢; first | exact HRc.out | exact rowE_below HRc.out HBb.out | exact rowE_below HRc.out HBa.out | exact rowE_below (rowE_below HRc.out HBb.out) HBa.out | exact rowE_below (rowE_below HRc.out HBa.out) HBb.out) (show Blk _ ga 156 [.slice none 0 0, .int .i64 0, .int .i64 0] by first | exact HKa.out | exact blk_bel HBb.out HKa.out | exact blk_bel HBc.out HKa.out | exact blk_bel HBb.out (blk_bel HBc.out HKa.out) | exact blk_bel HBc.out (blk_bel HBb.out HKa.out)))); clear hown hgrow hat
            (try go_wp2_with fail)
            refine hK.out _ _ ?_ (fun hHeld2 => ?_)
            · (try dsimp only); (first | with_reducible exact gi_S HG3d.out | with_reducible exact gi_S HGa.out | with_reducible exact gi_S HGb.out | with_reducible exact gi_S HGc.out | with_reducible exact gi_S HGp.out | with_reducible exact gi_S (HGp.out.put3 hb15 HLa2.out) | with_reducible exact gi_S (HGa.out.put3 hb15 HLa2.out))
            clear hK K
            clear hHeld; have hHeld := hHeld2; clear hHeld2
            (try simp only [Act.put, List.setIfInBounds_toArray, List.set_cons_zero, List.set_cons_succ])
            refine lTake (i := 10) (v := ?_) rfl (by kernel_rfl) (by kernel_rfl) (by kernel_rfl) (fun _ _ _ h => h) (by rfl) (fun _ _ h => h) (fun _ _ h => h) ?_ (by assumption) (fun hHeld2 => ?_)
            rotate_left 1
            · (intro _ _ _ _ _; first | (go_simp; done) | (go_simp; with_reducible rfl))
            clear hHeld; have hHeld := hHeld2; clear hHeld2
            (try simp only [Act.put, List.setIfInBounds_toArray, List.set_cons_zero, List.set_cons_succ])
            refine lReady (rs := [12]) (by kernel_rfl) (by simp) ?_
            refine AllL.cons (i := 12) rfl (fun K hK => ?_) ?_
            · have hk := (show Blk _ ga 156 [.slice none 0 0, .int .i64 0, .int .i64 0] from by first | exact HKap.out | exact HKa.out); have y0 := hk.cell 0 rfl; have y1 := hk.cell 1 rfl; have y2 := hk.cell 2 rfl; have x0 := hk.free 0; have x1 := hk.free 1; have x2 := hk.free 2; have HK9 := Lib.hid hk; clear hk; go_simp
              (try go_wp2_with fail)
              refine hK.out _ _ ?_ (fun hHeld2 => ?_)
              · (try dsimp only); (first | with_reducible exact gi_S HG3d.out | with_reducible exact gi_S HGa.out | with_reducible exact gi_S HGb.out | with_reducible exact gi_S HGc.out | with_reducible exact gi_S HGp.out | with_reducible exact gi_S (HGp.out.put3 hb15 HLa2.out) | with_reducible exact gi_S (HGa.out.put3 hb15 HLa2.out))
              clear hK K
              clear hHeld; have hHeld := hHeld2; clear hHeld2
              (try simp only [Act.put, List.setIfInBounds_toArray, List.set_cons_zero, List.set_cons_succ])
              refine lDone (by kernel_rfl) ?_ _
              clear hHeld
              go_wp2
              go_meet
              case rel => exact j11_mk rfl (by first | exact HGp.out | exact HGa.out) hb15 HLa2.out HK9.out (by first | exact HRp.out | exact rowE_below HRp.out HBa.out)
            exact AllL.nil
          exact AllL.nil
        exact AllL.nil
      exact AllL.nil
    refine AllL.cons (i := 11) rfl (fun K hK => ?_) ?_
    · refine step_new (.cells #[.slice none 0 0, .int .i64 0, .int .i64 0] 156) (fun g => .pointer (some ⟨g, 0, none⟩)) rfl (by kernel_rfl) ?_; intro ga w7 hga hca hba; have HGa := Lib.hid (show GI w b15 (.slice Am cm.L.length qm) (.int .i64 cm.last) (.int .i64 cm.kn) (cm.last + 1) dr bk un w7 from by first | exact HGp.out.bel hba | exact HGc.out.bel hba | exact HGb.out.bel hba | exact HG3d.out.bel hba); have HKa := Lib.hid (show Blk w7 ga 156 [.slice none 0 0, .int .i64 0, .int .i64 0] from hca); have HBa := Lib.hid hba; have HLa2 := Lib.hid (show b15 < ga from by first | (have := HGp.out.t.lt; omega) | (have := HGc.out.t.lt; omega) | (have := HGb.out.t.lt; omega) | (have := HG3d.out.t.lt; omega)); clear hga hca hba
      (try go_wp2_with fail)
      refine hK.out _ _ ?_ (fun hHeld2 => ?_)
      · (try dsimp only); (first | with_reducible exact gi_S HG3d.out | with_reducible exact gi_S HGa.out | with_reducible exact gi_S HGb.out | with_reducible exact gi_S HGc.out | with_reducible exact gi_S HGp.out | with_reducible exact gi_S (HGp.out.put3 hb15 HLa2.out) | with_reducible exact gi_S (HGa.out.put3 hb15 HLa2.out))
      clear hK K
      clear hHeld; have hHeld := hHeld2; clear hHeld2
      (try simp only [Act.put, List.setIfInBounds_toArray, List.set_cons_zero, List.set_cons_succ])
      refine lReady (rs := [2, 4]) (by kernel_rfl) (by simp) ?_
      refine AllL.cons (i := 2) rfl (fun K hK => ?_) ?_
      · go_simp; (refine (P88.out _ (by first | exact HGa.out.b | exact HGb.out.b | exact HG3d.out.b)).mono ?_; rintro e w5 ⟨A1, d1, rfl, hrow1, hb5⟩; have HGc := Lib.hid (show GI w b15 (.slice Am cm.L.length qm) (.int .i64 cm.last) (.int .i64 cm.kn) (cm.last + 1) dr bk un w5 from by first | exact HGa.out.bel hb5 | exact HGb.out.bel hb5 | exact HG3d.out.bel hb5); have HNc := Lib.hid (show ∀ k, OwnB A1 k → b15 < k from fun k hk => by have h1 := (rowE_lt hrow1 hk).1; first | (have := HGa.out.t.lt; omega) | (have := HGb.out.t.lt; omega) | (have := HG3d.out.t.lt; omega)); have HRc := Lib.hid (rowLs_base hrow1 (B' := w.heap.size) (by first | exact HGa.out.b.size | exact HGb.out.b.size | exact HG3d.out.b.size)); have HBc := Lib.hid hb5; clear hb5 hrow1)
        (try go_wp2_with fail)
        refine hK.out _ _ ?_ (fun hHeld2 => ?_)
        · (try dsimp only); (first | with_reducible exact gi_S HG3d.out | with_reducible exact gi_S HGa.out | with_reducible exact gi_S HGb.out | with_reducible exact gi_S HGc.out | with_reducible exact gi_S HGp.out | with_reducible exact gi_S (HGp.out.put3 hb15 HLa2.out) | with_reducible exact gi_S (HGa.out.put3 hb15 HLa2.out))
        clear hK K
        clear hHeld; have hHeld := hHeld2; clear hHeld2
        (try simp only [Act.put, List.setIfInBounds_toArray, List.set_cons_zero, List.set_cons_succ])
        refine lReady (rs := [4]) (by kernel_rfl) (by simp) ?_
        refine AllL.cons (i := 4) rfl (fun K hK => ?_) ?_
        · refine step_new (.cells #[.int .i64 (cm.last + 1), .int .i64 dr, .int .i64 bk, .int .i64 un] 43) (fun g => .slice (some ⟨g, 0, none⟩) 1 1) rfl (by kernel_rfl) ?_; intro gb w6 hgb hcb hbb; have HGb := Lib.hid (show GI w b15 (.slice Am cm.L.length qm) (.int .i64 cm.last) (.int .i64 cm.kn) (cm.last + 1) dr bk un w6 from by first | exact HGc.out.bel hbb | exact HGa.out.bel hbb | exact HG3d.out.bel hbb); have HKb := Lib.hid (show Blk w6 gb 43 [.int .i64 (cm.last + 1), .int .i64 dr, .int .i64 bk, .int .i64 un] from hcb); have HBb := Lib.hid hbb; clear hgb hcb hbb
          (try go_wp2_with fail)
          refine hK.out _ _ ?_ (fun hHeld2 => ?_)
          · (try dsimp only); (first | with_reducible exact gi_S HG3d.out | with_reducible exact gi_S HGa.out | with_reducible exact gi_S HGb.out | with_reducible exact gi_S HGc.out | with_reducible exact gi_S HGp.out | with_reducible exact gi_S (HGp.out.put3 hb15 HLa2.out) | with_reducible exact gi_S (HGa.out.put3 hb15 HLa2.out))
          clear hK K
          clear hHeld; have hHeld := hHeld2; clear hHeld2
          (try simp only [Act.put, List.setIfInBounds_toArray, List.set_cons_zero, List.set_cons_succ])
          refine lReady (rs := [5]) (by kernel_rfl) (by simp) ?_
          refine AllL.cons (i := 5) rfl (fun K hK => ?_) ?_
          · refine step_append_any (.tmp 87) (.tmp 89) 36 rfl rfl w.heap.size 43 i0 (.agg #[.int .i64 0, .int .i64 0, .int .i64 0, .int .i64 0]) 4 32 Try.underlying36 hi z0 z1 z2 rfl (by decide) A1 V.length d1 (flatLs V) (by rfl) (by unfold LRow at HRc; first | exact HRc.out | exact rowE_below HRc.out HBb.out | exact rowE_below HRc.out HBa.out | exact rowE_below (rowE_below HRc.out HBb.out) HBa.out | exact rowE_below (rowE_below HRc.out HBa.out) HBb.out) (some ⟨gb, 0, none⟩) 1 1 [.int .i64 (cm.last + 1), .int .i64 dr, .int .i64 bk, .int .i64 un] (by rfl) rfl (src_blk (by first | exact HKb.out | exact blk_bel HBc.out HKb.out | exact blk_bel HBa.out HKb.out | exact blk_bel HBc.out (blk_bel HBa.out HKb.out) | exact blk_bel HBa.out (blk_bel HBc.out HKb.out)) 1) (by simp [Value.oneCell']) (by unfold maxLen; omega) (by omega) (by first | exact HGc.out.b.size | exact HGb.out.b.size | exact HGa.out.b.size) ?_; intro A2 d2 w8 hown hgrow hat; have HTp := Lib.hid (grown_touch hgrow); have HGp := Lib.hid (show GI w b15 (.slice Am cm.L.length qm) (.int .i64 cm.last) (.int .i64 cm.kn) (cm.last + 1) dr bk un w8 from by first | exact HGc.out.touch HTp.out hb15 HNc.out | exact HGb.out.touch HTp.out hb15 HNc.out | exact HGa.out.touch HTp.out hb15 HNc.out); have HRp := Lib.hid (show LRow w.heap.size A2 d2 (V ++ [⟨cm.last + 1, dr, bk, un⟩]) w8 from by unfold LRow; rw [flatLs_append, List.length_append]; exact hown); (try have HKap := Lib.hid (keep_ap HTp.out (by unfold LRow at HRc ⊢; first | exact HRc.out | exact rowE_below HRc.out HBb.out | exact rowE_below HRc.out HBa.out | exact rowE_below (rowE_below HRc.out HBb.out) HBa.out | exact rowE_below (rowE_below HRc.out HBa.out) HBb.out) (show Blk _ ga 156 [.slice none 0 0, .int .i64 0, .int .i64 0] by first | exact HKa.out | exact blk_bel HBb.out HKa.out | exact blk_bel HBc.out HKa.out | exact blk_bel HBb.out (blk_bel HBc.out HKa.out) | exact blk_bel HBc.out (blk_bel HBb.out HKa.out)))); clear hown hgrow hat
            (try go_wp2_with fail)
            refine hK.out _ _ ?_ (fun hHeld2 => ?_)
            · (try dsimp only); (first | with_reducible exact gi_S HG3d.out | with_reducible exact gi_S HGa.out | with_reducible exact gi_S HGb.out | with_reducible exact gi_S HGc.out | with_reducible exact gi_S HGp.out | with_reducible exact gi_S (HGp.out.put3 hb15 HLa2.out) | with_reducible exact gi_S (HGa.out.put3 hb15 HLa2.out))
            clear hK K
            clear hHeld; have hHeld := hHeld2; clear hHeld2
            (try simp only [Act.put, List.setIfInBounds_toArray, List.set_cons_zero, List.set_cons_succ])
            refine lTake (i := 10) (v := ?_) rfl (by kernel_rfl) (by kernel_rfl) (by kernel_rfl) (fun _ _ _ h => h) (by rfl) (fun _ _ h => h) (fun _ _ h => h) ?_ (by assumption) (fun hHeld2 => ?_)
            rotate_left 1
            · (intro _ _ _ _ _; first | (go_simp; done) | (go_simp; with_reducible rfl))
            clear hHeld; have hHeld := hHeld2; clear hHeld2
            (try simp only [Act.put, List.setIfInBounds_toArray, List.set_cons_zero, List.set_cons_succ])
            refine lReady (rs := [12]) (by kernel_rfl) (by simp) ?_
            refine AllL.cons (i := 12) rfl (fun K hK => ?_) ?_
            · have hk := (show Blk _ ga 156 [.slice none 0 0, .int .i64 0, .int .i64 0] from by first | exact HKap.out | exact HKa.out); have y0 := hk.cell 0 rfl; have y1 := hk.cell 1 rfl; have y2 := hk.cell 2 rfl; have x0 := hk.free 0; have x1 := hk.free 1; have x2 := hk.free 2; have HK9 := Lib.hid hk; clear hk; go_simp
              (try go_wp2_with fail)
              refine hK.out _ _ ?_ (fun hHeld2 => ?_)
              · (try dsimp only); (first | with_reducible exact gi_S HG3d.out | with_reducible exact gi_S HGa.out | with_reducible exact gi_S HGb.out | with_reducible exact gi_S HGc.out | with_reducible exact gi_S HGp.out | with_reducible exact gi_S (HGp.out.put3 hb15 HLa2.out) | with_reducible exact gi_S (HGa.out.put3 hb15 HLa2.out))
              clear hK K
              clear hHeld; have hHeld := hHeld2; clear hHeld2
              (try simp only [Act.put, List.setIfInBounds_toArray, List.set_cons_zero, List.set_cons_succ])
              refine lDone (by kernel_rfl) ?_ _
              clear hHeld
              go_wp2
              go_meet
              case rel => exact j11_mk rfl (by first | exact HGp.out | exact HGa.out) hb15 HLa2.out HK9.out (by first | exact HRp.out | exact rowE_below HRp.out HBa.out)
            exact AllL.nil
          exact AllL.nil
        exact AllL.nil
      refine AllL.cons (i := 4) rfl (fun K hK => ?_) ?_
      · refine step_new (.cells #[.int .i64 (cm.last + 1), .int .i64 dr, .int .i64 bk, .int .i64 un] 43) (fun g => .slice (some ⟨g, 0, none⟩) 1 1) rfl (by kernel_rfl) ?_; intro gb w6 hgb hcb hbb; have HGb := Lib.hid (show GI w b15 (.slice Am cm.L.length qm) (.int .i64 cm.last) (.int .i64 cm.kn) (cm.last + 1) dr bk un w6 from by first | exact HGc.out.bel hbb | exact HGa.out.bel hbb | exact HG3d.out.bel hbb); have HKb := Lib.hid (show Blk w6 gb 43 [.int .i64 (cm.last + 1), .int .i64 dr, .int .i64 bk, .int .i64 un] from hcb); have HBb := Lib.hid hbb; clear hgb hcb hbb
        (try go_wp2_with fail)
        refine hK.out _ _ ?_ (fun hHeld2 => ?_)
        · (try dsimp only); (first | with_reducible exact gi_S HG3d.out | with_reducible exact gi_S HGa.out | with_reducible exact gi_S HGb.out | with_reducible exact gi_S HGc.out | with_reducible exact gi_S HGp.out | with_reducible exact gi_S (HGp.out.put3 hb15 HLa2.out) | with_reducible exact gi_S (HGa.out.put3 hb15 HLa2.out))
        clear hK K
        clear hHeld; have hHeld := hHeld2; clear hHeld2
        (try simp only [Act.put, List.setIfInBounds_toArray, List.set_cons_zero, List.set_cons_succ])
        refine lReady (rs := [2]) (by kernel_rfl) (by simp) ?_
        refine AllL.cons (i := 2) rfl (fun K hK => ?_) ?_
        · go_simp; (refine (P88.out _ (by first | exact HGa.out.b | exact HGb.out.b | exact HG3d.out.b)).mono ?_; rintro e w5 ⟨A1, d1, rfl, hrow1, hb5⟩; have HGc := Lib.hid (show GI w b15 (.slice Am cm.L.length qm) (.int .i64 cm.last) (.int .i64 cm.kn) (cm.last + 1) dr bk un w5 from by first | exact HGa.out.bel hb5 | exact HGb.out.bel hb5 | exact HG3d.out.bel hb5); have HNc := Lib.hid (show ∀ k, OwnB A1 k → b15 < k from fun k hk => by have h1 := (rowE_lt hrow1 hk).1; first | (have := HGa.out.t.lt; omega) | (have := HGb.out.t.lt; omega) | (have := HG3d.out.t.lt; omega)); have HRc := Lib.hid (rowLs_base hrow1 (B' := w.heap.size) (by first | exact HGa.out.b.size | exact HGb.out.b.size | exact HG3d.out.b.size)); have HBc := Lib.hid hb5; clear hb5 hrow1)
          (try go_wp2_with fail)
          refine hK.out _ _ ?_ (fun hHeld2 => ?_)
          · (try dsimp only); (first | with_reducible exact gi_S HG3d.out | with_reducible exact gi_S HGa.out | with_reducible exact gi_S HGb.out | with_reducible exact gi_S HGc.out | with_reducible exact gi_S HGp.out | with_reducible exact gi_S (HGp.out.put3 hb15 HLa2.out) | with_reducible exact gi_S (HGa.out.put3 hb15 HLa2.out))
          clear hK K
          clear hHeld; have hHeld := hHeld2; clear hHeld2
          (try simp only [Act.put, List.setIfInBounds_toArray, List.set_cons_zero, List.set_cons_succ])
          refine lReady (rs := [5]) (by kernel_rfl) (by simp) ?_
          refine AllL.cons (i := 5) rfl (fun K hK => ?_) ?_
          · refine step_append_any (.tmp 87) (.tmp 89) 36 rfl rfl w.heap.size 43 i0 (.agg #[.int .i64 0, .int .i64 0, .int .i64 0, .int .i64 0]) 4 32 Try.underlying36 hi z0 z1 z2 rfl (by decide) A1 V.length d1 (flatLs V) (by rfl) (by unfold LRow at HRc; first | exact HRc.out | exact rowE_below HRc.out HBb.out | exact rowE_below HRc.out HBa.out | exact rowE_below (rowE_below HRc.out HBb.out) HBa.out | exact rowE_below (rowE_below HRc.out HBa.out) HBb.out) (some ⟨gb, 0, none⟩) 1 1 [.int .i64 (cm.last + 1), .int .i64 dr, .int .i64 bk, .int .i64 un] (by rfl) rfl (src_blk (by first | exact HKb.out | exact blk_bel HBc.out HKb.out | exact blk_bel HBa.out HKb.out | exact blk_bel HBc.out (blk_bel HBa.out HKb.out) | exact blk_bel HBa.out (blk_bel HBc.out HKb.out)) 1) (by simp [Value.oneCell']) (by unfold maxLen; omega) (by omega) (by first | exact HGc.out.b.size | exact HGb.out.b.size | exact HGa.out.b.size) ?_; intro A2 d2 w8 hown hgrow hat; have HTp := Lib.hid (grown_touch hgrow); have HGp := Lib.hid (show GI w b15 (.slice Am cm.L.length qm) (.int .i64 cm.last) (.int .i64 cm.kn) (cm.last + 1) dr bk un w8 from by first | exact HGc.out.touch HTp.out hb15 HNc.out | exact HGb.out.touch HTp.out hb15 HNc.out | exact HGa.out.touch HTp.out hb15 HNc.out); have HRp := Lib.hid (show LRow w.heap.size A2 d2 (V ++ [⟨cm.last + 1, dr, bk, un⟩]) w8 from by unfold LRow; rw [flatLs_append, List.length_append]; exact hown); (try have HKap := Lib.hid (keep_ap HTp.out (by unfold LRow at HRc ⊢; first | exact HRc.out | exact rowE_below HRc.out HBb.out | exact rowE_below HRc.out HBa.out | exact rowE_below (rowE_below HRc.out HBb.out) HBa.out | exact rowE_below (rowE_below HRc.out HBa.out) HBb.out) (show Blk _ ga 156 [.slice none 0 0, .int .i64 0, .int .i64 0] by first | exact HKa.out | exact blk_bel HBb.out HKa.out | exact blk_bel HBc.out HKa.out | exact blk_bel HBb.out (blk_bel HBc.out HKa.out) | exact blk_bel HBc.out (blk_bel HBb.out HKa.out)))); clear hown hgrow hat
            (try go_wp2_with fail)
            refine hK.out _ _ ?_ (fun hHeld2 => ?_)
            · (try dsimp only); (first | with_reducible exact gi_S HG3d.out | with_reducible exact gi_S HGa.out | with_reducible exact gi_S HGb.out | with_reducible exact gi_S HGc.out | with_reducible exact gi_S HGp.out | with_reducible exact gi_S (HGp.out.put3 hb15 HLa2.out) | with_reducible exact gi_S (HGa.out.put3 hb15 HLa2.out))
            clear hK K
            clear hHeld; have hHeld := hHeld2; clear hHeld2
            (try simp only [Act.put, List.setIfInBounds_toArray, List.set_cons_zero, List.set_cons_succ])
            refine lTake (i := 10) (v := ?_) rfl (by kernel_rfl) (by kernel_rfl) (by kernel_rfl) (fun _ _ _ h => h) (by rfl) (fun _ _ h => h) (fun _ _ h => h) ?_ (by assumption) (fun hHeld2 => ?_)
            rotate_left 1
            · (intro _ _ _ _ _; first | (go_simp; done) | (go_simp; with_reducible rfl))
            clear hHeld; have hHeld := hHeld2; clear hHeld2
            (try simp only [Act.put, List.setIfInBounds_toArray, List.set_cons_zero, List.set_cons_succ])
            refine lReady (rs := [12]) (by kernel_rfl) (by simp) ?_
            refine AllL.cons (i := 12) rfl (fun K hK => ?_) ?_
            · have hk := (show Blk _ ga 156 [.slice none 0 0, .int .i64 0, .int .i64 0] from by first | exact HKap.out | exact HKa.out); have y0 := hk.cell 0 rfl; have y1 := hk.cell 1 rfl; have y2 := hk.cell 2 rfl; have x0 := hk.free 0; have x1 := hk.free 1; have x2 := hk.free 2; have HK9 := Lib.hid hk; clear hk; go_simp
              (try go_wp2_with fail)
              refine hK.out _ _ ?_ (fun hHeld2 => ?_)
              · (try dsimp only); (first | with_reducible exact gi_S HG3d.out | with_reducible exact gi_S HGa.out | with_reducible exact gi_S HGb.out | with_reducible exact gi_S HGc.out | with_reducible exact gi_S HGp.out | with_reducible exact gi_S (HGp.out.put3 hb15 HLa2.out) | with_reducible exact gi_S (HGa.out.put3 hb15 HLa2.out))
              clear hK K
              clear hHeld; have hHeld := hHeld2; clear hHeld2
              (try simp only [Act.put, List.setIfInBounds_toArray, List.set_cons_zero, List.set_cons_succ])
              refine lDone (by kernel_rfl) ?_ _
              clear hHeld
              go_wp2
              go_meet
              case rel => exact j11_mk rfl (by first | exact HGp.out | exact HGa.out) hb15 HLa2.out HK9.out (by first | exact HRp.out | exact rowE_below HRp.out HBa.out)
            exact AllL.nil
          exact AllL.nil
        exact AllL.nil
      exact AllL.nil
    exact AllL.nil
  case rest =>
    obtain ⟨g, A3, d3, rfl, hg5, hk5, hr5, hgl⟩ := hcut
    have HG5 := Lib.hid hg5
    have HK5 := Lib.hid hk5
    have HR5 := Lib.hid hr5
    clear hg5 hk5 hr5 HG3 HG3d P88
    obtain ⟨X, hX⟩ : ∃ X, X = max (Sx.rD cm now) dr := ⟨_, rfl⟩
    obtain ⟨Y, hY⟩ : ∃ Y, Y = max (Sx.rB cm now) bk := ⟨_, rfl⟩
    have hmx := Sx.mx_bd (Sx.okL_live HOm.out.ls now)
    have HMX := Lib.hid (show (0 ≤ X ∧ X ≤ 1073741824) ∧ (0 ≤ Y ∧ Y ≤ 1073741824) from by
      have h1 := HA.out.1; have h2 := HA.out.2.1
      have h3 : (0 ≤ Sx.rD cm now ∧ Sx.rD cm now ≤ 1073741824) ∧ (0 ≤ Sx.rB cm now ∧ Sx.rB cm now ≤ 1073741824) := hmx
      omega)
    clear hmx
    have HSx := Lib.hid (show x = Sx.sumF (fun c => Sx.rD c now) cs m X n from by rw [hX, HN.out]; exact HXY.out.1)
    have HSy := Lib.hid (show y = Sx.sumF (fun c => Sx.rB c now) cs m Y n from by rw [hY, HN.out]; exact HXY.out.2)
    have HXe := Lib.hid (And.intro hX hY)
    clear hX hY HXY
    have HBx := Lib.hid (fun k (hk : k ≤ n) => Sx.sumF_bd (f := fun c => Sx.rD c now) (cs := cs) (st := m) (x := X) HMX.out.1 k (by have := HN.out; omega) (fun c hc => (Sx.mx_bd (Sx.okL_live (HOK.out c hc).ls now)).1))
    have HBy := Lib.hid (fun k (hk : k ≤ n) => Sx.sumF_bd (f := fun c => Sx.rB c now) (cs := cs) (st := m) (x := Y) HMX.out.2 k (by have := HN.out; omega) (fun c hc => (Sx.mx_bd (Sx.okL_live (HOK.out c hc).ls now)).2))
    go_wp2_with fail
    go_loopw [17, 18, 19] (fun a b i wr => ∃ k : Nat, k ≤ n ∧ i = .int .i64 k ∧ a = .int .i64 (Sx.sumF (fun c => Sx.rD c now) cs m X k) ∧ b = .int .i64 (Sx.sumF (fun c => Sx.rB c now) cs m Y k) ∧ Hid (Below wc.heap.size wc wr)) (fun _ _ i _ => n - (intOf i).toNat)
    case atStart => exact ⟨0, Nat.zero_le _, rfl, rfl, rfl, Lib.hid (Below.refl _ _)⟩
    case round =>
      obtain ⟨k, hk, rfl, rfl, rfl, HB⟩ := hrel
      have HGr := Lib.hid (HG5.out.bel HB.out)
      have HRr := Lib.hid (HR.out.below HGr.out.b)
      have c3 : wr.cell? ⟨rs, 3, none⟩ = some (.slice (some ⟨rc, 0, none⟩) n cc) := by rw [HN.out]; exact HRr.out.s.cell 3 rfl
      have zr := HRr.out.s.lt
      have zr2 : rs ≠ wr.heap.size := by omega
      by_cases hlt : k < n
      · have hkc : k < cs.length := by have := HN.out; omega
        have hsb := HBx.out k (by omega)
        have hsb2 := Int.le_trans hsb.2 (show (k : Int) * 1073741824 ≤ 34359738368 by omega)
        have hsb1 := hsb.1
        clear hsb
        have htb := HBy.out k (by omega)
        have htb2 := Int.le_trans htb.2 (show (k : Int) * 1073741824 ≤ 34359738368 by omega)
        have htb1 := htb.1
        clear htb
        have HSu := Lib.hid (show Sx.sumF (fun c => Sx.rD c now) cs m X (k + 1) = Sx.sumF (fun c => Sx.rD c now) cs m X k + (if k = m then X else Sx.rD (cs.getD k default) now) from rfl)
        have HTu := Lib.hid (show Sx.sumF (fun c => Sx.rB c now) cs m Y (k + 1) = Sx.sumF (fun c => Sx.rB c now) cs m Y k + (if k = m then Y else Sx.rB (cs.getD k default) now) from rfl)
        have e0 := HRr.out.a.cell hkc 0 rfl
        have e1 := HRr.out.a.cell hkc 1 rfl
        have e2 := HRr.out.a.cell hkc 2 rfl
        simp only [Nat.add_zero] at e0
        have zc := HRr.out.a.lt
        have zc2 : rc ≠ wr.heap.size := by omega
        have hok := HOK.out (cs.getD k default) (by rw [List.getD_eq_getElem?_getD, List.getElem?_eq_getElem hkc]; exact List.getElem_mem hkc)
        have hcap := lrow_cap (HRr.out.r k hkc)
        unfold maxLen at hcap
        have hmx := Sx.mx_bd (Sx.okL_live hok.ls now)
        have P75 := Lib.hid (fun W (hW : Below wr.heap.size wr W) => reservedR_c (A k) (q k) (cs.getD k default) now W hok.ls (by have := hok.ln; omega) hcap.1 (by omega) (lrow_at (rowE_below (HRr.out.r k hkc) hW)))
        have hrx : 0 ≤ Sx.rD (cs.getD k default) now ∧ Sx.rD (cs.getD k default) now ≤ 1073741824 := hmx.1
        have hry : 0 ≤ Sx.rB (cs.getD k default) now ∧ Sx.rB (cs.getD k default) now ≤ 1073741824 := hmx.2
        have k0 : (0 : Int) ≤ (k : Int) := by omega
        have k1 : (k : Int) < (n : Int) := by omega
        clear hok hcap hmx
        generalize Sx.rD (cs.getD k default) now = rx at *
        generalize Sx.rB (cs.getD k default) now = ry at *
        generalize cs.getD k default = ck at *
        generalize A k = Ak at *
        generalize q k = qk at *
        generalize Sx.sumF (fun c => Sx.rD c now) cs m X k = sx at *
        generalize Sx.sumF (fun c => Sx.rB c now) cs m Y k = sy at *
        by_cases hkm : k = m
        · have hkm' : ((k : Int) == (m : Int)) = true := by simp [hkm]
          rw [if_pos hkm] at HSu HTu
          have k5 := HK5.out
          have k5r := blk_bel HB.out k5
          have g0 := k5r.cell 0 rfl
          have g1 := k5r.cell 1 rfl
          have g2 := k5r.cell 2 rfl
          have zg := k5r.lt
          have zg2 : g ≠ wr.heap.size := by omega
          clear k5 k5r
          clear hkm
          have h75 : ∀ W, Below wr.heap.size wr W → Calls Try.prog 75 #[.agg #[.slice A3 (V.length + 1) d3, .int .i64 (cm.last + 1), .int .i64 cm.kn], .int .i64 now] W fun e w' => e = .returned (.tuple #[.int .i64 X, .int .i64 Y]) ∧ Below W.heap.size W w' := by
            intro W hW
            have hr := rowE_below (rowE_below HR5.out HB.out) hW
            have hcp := lrow_cap (show LRow w.heap.size A3 d3 (V ++ [⟨cm.last + 1, dr, bk, un⟩]) W from hr)
            unfold maxLen at hcp
            have hlen : (V ++ [(⟨cm.last + 1, dr, bk, un⟩ : Ls)]).length = V.length + 1 := by simp
            have hV1 := HV.out
            have h := reservedR_c A3 d3 ⟨V ++ [⟨cm.last + 1, dr, bk, un⟩], cm.last + 1, cm.kn⟩ now W (by rw [hV1]; exact Sx.okL_ext HOm.out.ls ⟨HA.out.1, HA.out.2.1⟩) (by show (V ++ [(⟨cm.last + 1, dr, bk, un⟩ : Ls)]).length ≤ 100000; rw [hlen]; omega) hcp.1 (by omega) (lrow_at hr)
            have h1 := Sx.r_ext (c := cm) (t := now) (l := ⟨cm.last + 1, dr, bk, un⟩) (by have := HLa.out; show cm.kn ≤ cm.last + 1; omega) (by have := HA.out.2.2.2; show now < un; omega) (cm.last + 1)
            rw [← hV1] at h1
            rw [h1.1, h1.2, hlen] at h
            rw [HXe.out.1, HXe.out.2]
            exact h
          have H75 := Lib.hid h75
          have w1 : IntKind.i64.wrap (sx + X) = sx + X := IntWalk.i64_in _ (by have := HMX.out; omega)
          have w2 : IntKind.i64.wrap (sy + Y) = sy + Y := IntWalk.i64_in _ (by have := HMX.out; omega)
          clear h75
          go_wp2_with (go_at_call 75; refine (H75.out _ ((Below.refl _ _).alloc (Nat.le_refl _) _)).mono ?_; rintro e w7 ⟨rfl, hb7⟩; have HB7 := Lib.hid hb7; clear hb7)
          exact ⟨⟨k + 1, by omega, by go_num, by rw [HSu.out], by rw [HTu.out], Lib.hid (bel_bel (bel_bel HB.out ((Below.refl _ _).alloc (Nat.le_refl _) _)) HB7.out)⟩, by simp [intOf]; omega⟩
        · have hkm' : ((k : Int) == (m : Int)) = false := by simp; omega
          rw [if_neg hkm] at HSu HTu
          clear hkm
          have w1 : IntKind.i64.wrap (sx + rx) = sx + rx := IntWalk.i64_in _ (by omega)
          have w2 : IntKind.i64.wrap (sy + ry) = sy + ry := IntWalk.i64_in _ (by omega)
          go_wp2_with (go_at_call 75; refine (P75.out _ ((Below.refl _ _).alloc (Nat.le_refl _) _)).mono ?_; rintro e w7 ⟨rfl, hb7⟩; have HB7 := Lib.hid hb7; clear hb7)
          exact ⟨⟨k + 1, by omega, by go_num, by rw [HSu.out], by rw [HTu.out], Lib.hid (bel_bel (bel_bel HB.out ((Below.refl _ _).alloc (Nat.le_refl _) _)) HB7.out)⟩, by simp [intOf]; omega⟩
      · have e : k = n := by omega
        subst e
        rw [← HSx.out, ← HSy.out]
        have s0 := HRr.out.s.cell 0 rfl
        have s1 := HRr.out.s.cell 1 rfl
        have r0 := HGr.out.p.cell 0 rfl
        have r1 := HGr.out.p.cell 1 rfl
        have r2 := HGr.out.p.cell 2 rfl
        have r3 := HGr.out.p.cell 3 rfl
        have f0 := HGr.out.p.free 0
        have f1 := HGr.out.p.free 1
        have f2 := HGr.out.p.free 2
        have f3 := HGr.out.p.free 3
        by_cases hD : D < x
        · have hd1 : decide (D < x) = true := decide_eq_true hD
          have HE := Lib.hid (HE4.out.trans (if_pos (.inl hD)))
          clear hD
          go_wp2_with fail
          refine gen_post (fun W => Below w.heap.size w W ∧ Blk W w.heap.size 43 [.int .i64 0, .int .i64 0, .int .i64 0, .int .i64 0]) (endJ HGr.out.b HGr.out.p (Nat.le_refl _) _ _ _ _) ?_; rintro W' ⟨hbe, hbl⟩; have d0 := hbl.cell 0 rfl; have d1 := hbl.cell 1 rfl; have d2 := hbl.cell 2 rfl; have d3 := hbl.cell 3 rfl; exact bodyPost_ret (v := .tuple #[.agg #[.int .i64 0, .int .i64 0, .int .i64 0, .int .i64 0], .int .i64 17]) (by simp [results, Try.results71, go_sem, d0, d1, d2, d3]) rfl (grPostR_no HE.out (by decide) hbe)
        by_cases hBk : Bk < y
        · have hd1 : decide (D < x) = false := decide_eq_false hD
          have hd2 : decide (Bk < y) = true := decide_eq_true hBk
          have HE := Lib.hid (HE4.out.trans (if_pos (.inr hBk)))
          clear hD hBk
          go_wp2_with fail
          refine gen_post (fun W => Below w.heap.size w W ∧ Blk W w.heap.size 43 [.int .i64 0, .int .i64 0, .int .i64 0, .int .i64 0]) (endJ HGr.out.b HGr.out.p (Nat.le_refl _) _ _ _ _) ?_; rintro W' ⟨hbe, hbl⟩; have d0 := hbl.cell 0 rfl; have d1 := hbl.cell 1 rfl; have d2 := hbl.cell 2 rfl; have d3 := hbl.cell 3 rfl; exact bodyPost_ret (v := .tuple #[.agg #[.int .i64 0, .int .i64 0, .int .i64 0, .int .i64 0], .int .i64 17]) (by simp [results, Try.results71, go_sem, d0, d1, d2, d3]) rfl (grPostR_no HE.out (by decide) hbe)
        have hd1 : decide (D < x) = false := decide_eq_false hD
        have hd2 : decide (Bk < y) = false := decide_eq_false hBk
        have HE := Lib.hid (HE4.out.trans (if_neg (by omega)))
        clear hD hBk
        go_upto_region 24 with fail
        clear s0 s1 r0 r1 r2 r3 f0 f1 f2 f3 hd1 hd2 c3 zr zr2 HBx HBy HSx HSy HMX HXe HE4
        have HJ0 := Lib.hid (show GJ w b15 g (.slice Am cm.L.length qm) (.int .i64 cm.last) (.int .i64 cm.kn) (.slice A3 (V.length + 1) d3) (.int .i64 (cm.last + 1)) (.int .i64 cm.kn) (cm.last + 1) dr bk un wr.drew from (show GJ w b15 g (.slice Am cm.L.length qm) (.int .i64 cm.last) (.int .i64 cm.kn) (.slice A3 (V.length + 1) d3) (.int .i64 (cm.last + 1)) (.int .i64 cm.kn) (cm.last + 1) dr bk un wr from ⟨HGr.out, blk_bel HB.out HK5.out⟩).bel ((Below.refl _ _).drew))
        clear HR5 HK5 HG5
        go_cut [150] from 143 to 149 (fun s150 wx => J24 w b15 g (.slice Am cm.L.length qm) (.int .i64 cm.last) (.int .i64 cm.kn) (.int .i64 (cm.last + 1)) (.int .i64 cm.kn) (cm.last + 1) dr bk un cm.L wx)
        case first =>
          refine lBegin (S := fun _ W => (W.cell? ⟨w.heap.size + 1, 0, none⟩ = some (.slice Am cm.L.length qm) ∧ W.cell? ⟨w.heap.size + 1, 1, none⟩ = some (.int .i64 cm.last) ∧ W.cell? ⟨w.heap.size + 1, 2, none⟩ = some (.int .i64 cm.kn) ∧ W.cell? ⟨b15, 0, none⟩ = some (.int .i64 (cm.last + 1)) ∧ W.cell? ⟨b15, 1, none⟩ = some (.int .i64 dr) ∧ W.cell? ⟨b15, 2, none⟩ = some (.int .i64 bk) ∧ W.cell? ⟨b15, 3, none⟩ = some (.int .i64 un))) (by kernel_rfl) ?_ (fun hHeld => ?_)
          · (try dsimp only); (first | with_reducible exact gi_S HJ0.out.gi | with_reducible exact gi_S HJz.out.gi | with_reducible exact gi_S HJa.out.gi | with_reducible exact gi_S HJb.out.gi | with_reducible exact gi_S HJp.out.gi | with_reducible exact gi_S (HJp.out.put1 hb15 hgl _).gi)
          refine lTake (i := 1) (v := ?_) rfl (by kernel_rfl) (by kernel_rfl) (by kernel_rfl) (fun _ _ _ h => h) (by rfl) (fun _ _ h => h) (fun _ _ h => h) ?_ (by assumption) (fun hHeld2 => ?_)
          rotate_left 1
          · (intro _ _ _ _ _; first | (go_simp; done) | (go_simp; with_reducible rfl))
          clear hHeld; have hHeld := hHeld2; clear hHeld2
          (try simp only [Act.put, List.setIfInBounds_toArray, List.set_cons_zero, List.set_cons_succ])
          refine lTake (i := 2) (v := ?_) rfl (by kernel_rfl) (by kernel_rfl) (by kernel_rfl) (fun _ _ _ h => h) (by rfl) (fun _ _ h => h) (fun _ _ h => h) ?_ (by assumption) (fun hHeld2 => ?_)
          rotate_left 1
          · (intro L W _ _ hSw; (try dsimp only at hSw); first | (go_simp; done) | (go_simp; with_reducible rfl))
          clear hHeld; have hHeld := hHeld2; clear hHeld2
          (try simp only [Act.put, List.setIfInBounds_toArray, List.set_cons_zero, List.set_cons_succ])
          refine lTake (i := 4) (v := ?_) rfl (by kernel_rfl) (by kernel_rfl) (by kernel_rfl) (fun _ _ _ h => h) (by rfl) (fun _ _ h => h) (fun _ _ h => h) ?_ (by assumption) (fun hHeld2 => ?_)
          rotate_left 1
          · (intro L W _ _ hSw; (try dsimp only at hSw); first | (go_simp; done) | (go_simp; with_reducible rfl))
          clear hHeld; have hHeld := hHeld2; clear hHeld2
          (try simp only [Act.put, List.setIfInBounds_toArray, List.set_cons_zero, List.set_cons_succ])
          refine lReady (rs := [0, 5]) (by kernel_rfl) (by simp) ?_
          refine AllL.cons (i := 0) rfl (fun K hK => ?_) ?_
          · refine step_new (.cells #[] 43) (fun g => .slice (some ⟨g, 0, none⟩) 0 0) rfl (by kernel_rfl) ?_; intro gz w10 hgz hcz hbz; have HJz := Lib.hid (show GJ w b15 g (.slice Am cm.L.length qm) (.int .i64 cm.last) (.int .i64 cm.kn) (.slice A3 (V.length + 1) d3) (.int .i64 (cm.last + 1)) (.int .i64 cm.kn) (cm.last + 1) dr bk un w10 from by first | exact HJb.out.bel hbz | exact HJ0.out.bel hbz); have HZ0 := Lib.hid (show Blk w10 gz 43 [] from hcz); have HLz := Lib.hid hgz; have HBz := Lib.hid hbz; have HNz := Lib.hid (show b15 < gz ∧ g < gz from by first | (have h1 := HJb.out.1.t.lt; have h2 := HJb.out.2.lt; omega) | (have h1 := HJ0.out.1.t.lt; have h2 := HJ0.out.2.lt; omega)); clear hgz hcz hbz
            (try go_wp2_with fail)
            refine hK.out _ _ ?_ (fun hHeld2 => ?_)
            · (try dsimp only); (first | with_reducible exact gi_S HJ0.out.gi | with_reducible exact gi_S HJz.out.gi | with_reducible exact gi_S HJa.out.gi | with_reducible exact gi_S HJb.out.gi | with_reducible exact gi_S HJp.out.gi | with_reducible exact gi_S (HJp.out.put1 hb15 hgl _).gi)
            clear hK K
            clear hHeld; have hHeld := hHeld2; clear hHeld2
            (try simp only [Act.put, List.setIfInBounds_toArray, List.set_cons_zero, List.set_cons_succ])
            refine lReady (rs := [3, 5]) (by kernel_rfl) (by simp) ?_
            refine AllL.cons (i := 3) rfl (fun K hK => ?_) ?_
            · refine step_append_any (.tmp 143) (.tmp 145) 36 rfl rfl w.heap.size 43 i0 (.agg #[.int .i64 0, .int .i64 0, .int .i64 0, .int .i64 0]) 4 32 Try.underlying36 hi z0 z1 z2 rfl (by decide) (some ⟨gz, 0, none⟩) 0 0 [] (by rfl) (row_empty (by first | exact HZ0.out | exact blk_bel HBb.out HZ0.out) (by have := HNz.out; omega)) Am cm.L.length qm (flatLs cm.L) (by rfl) (flatLs_length _) (flatLs_src (show LRow 0 Am qm cm.L _ from rowE_below HRow.out (by first | exact HJb.out.1.b | exact HJz.out.1.b))).1 (flatLs_one _) (by unfold maxLen; omega) (by omega) (by first | exact HJb.out.1.b.size | exact HJz.out.1.b.size) ?_; intro A4 d4 w11 hown hgrow hat; have HTa := Lib.hid (grown_touch hgrow); have HJa := Lib.hid (show GJ w b15 g (.slice Am cm.L.length qm) (.int .i64 cm.last) (.int .i64 cm.kn) (.slice A3 (V.length + 1) d3) (.int .i64 (cm.last + 1)) (.int .i64 cm.kn) (cm.last + 1) dr bk un w11 from by first | exact HJb.out.touch HTa.out hb15 (fun k e => by obtain ⟨a, ha, rfl⟩ := e; cases ha; exact HNz.out.1) (fun e => by obtain ⟨a, ha, hb⟩ := e; cases ha; have := HNz.out.2; simp at hb; omega) | exact HJz.out.touch HTa.out hb15 (fun k e => by obtain ⟨a, ha, rfl⟩ := e; cases ha; exact HNz.out.1) (fun e => by obtain ⟨a, ha, hb⟩ := e; cases ha; have := HNz.out.2; simp at hb; omega)); have HRa := Lib.hid (show LRow w.heap.size A4 d4 cm.L w11 from by simpa using hown); have HNa := Lib.hid (show ∀ k, OwnB A4 k → b15 < k ∧ k ≠ g from fun k hk => by rcases hat k hk with e | e; (obtain ⟨a, ha, rfl⟩ := e; cases ha; have := HNz.out; exact ⟨this.1, by show gz ≠ g; omega⟩); first | (have h1 := HJb.out.1.t.lt; have h2 := HJb.out.2.lt; omega) | (have h1 := HJz.out.1.t.lt; have h2 := HJz.out.2.lt; omega)); (try have HKb3 := Lib.hid (blk_tch HTa.out (show Blk _ gb 43 [.int .i64 (cm.last + 1), .int .i64 dr, .int .i64 bk, .int .i64 un] by first | exact HKb.out | exact blk_bel HBz.out HKb.out) (fun e => by obtain ⟨a, ha, hb⟩ := e; cases ha; simp at hb; first | (have h1 := HLb.out; have h2 := HZ0.out.lt; omega) | (have h1 := HLz.out; have h2 := HKb.out.lt; omega)))); clear hown hgrow hat
              (try go_wp2_with fail)
              refine hK.out _ _ ?_ (fun hHeld2 => ?_)
              · (try dsimp only); (first | with_reducible exact gi_S HJ0.out.gi | with_reducible exact gi_S HJz.out.gi | with_reducible exact gi_S HJa.out.gi | with_reducible exact gi_S HJb.out.gi | with_reducible exact gi_S HJp.out.gi | with_reducible exact gi_S (HJp.out.put1 hb15 hgl _).gi)
              clear hK K
              clear hHeld; have hHeld := hHeld2; clear hHeld2
              (try simp only [Act.put, List.setIfInBounds_toArray, List.set_cons_zero, List.set_cons_succ])
              refine lReady (rs := [5]) (by kernel_rfl) (by simp) ?_
              refine AllL.cons (i := 5) rfl (fun K hK => ?_) ?_
              · refine step_new (.cells #[.int .i64 (cm.last + 1), .int .i64 dr, .int .i64 bk, .int .i64 un] 43) (fun g => .slice (some ⟨g, 0, none⟩) 1 1) rfl (by kernel_rfl) ?_; intro gb w12 hgb hcb hbb; have HJb := Lib.hid (show GJ w b15 g (.slice Am cm.L.length qm) (.int .i64 cm.last) (.int .i64 cm.kn) (.slice A3 (V.length + 1) d3) (.int .i64 (cm.last + 1)) (.int .i64 cm.kn) (cm.last + 1) dr bk un w12 from by first | exact HJa.out.bel hbb | exact HJz.out.bel hbb | exact HJ0.out.bel hbb); have HKb := Lib.hid (show Blk w12 gb 43 [.int .i64 (cm.last + 1), .int .i64 dr, .int .i64 bk, .int .i64 un] from hcb); have HBb := Lib.hid hbb; have HLb := Lib.hid hgb; clear hgb hcb hbb
                (try go_wp2_with fail)
                refine hK.out _ _ ?_ (fun hHeld2 => ?_)
                · (try dsimp only); (first | with_reducible exact gi_S HJ0.out.gi | with_reducible exact gi_S HJz.out.gi | with_reducible exact gi_S HJa.out.gi | with_reducible exact gi_S HJb.out.gi | with_reducible exact gi_S HJp.out.gi | with_reducible exact gi_S (HJp.out.put1 hb15 hgl _).gi)
                clear hK K
                clear hHeld; have hHeld := hHeld2; clear hHeld2
                (try simp only [Act.put, List.setIfInBounds_toArray, List.set_cons_zero, List.set_cons_succ])
                refine lReady (rs := [6]) (by kernel_rfl) (by simp) ?_
                refine AllL.cons (i := 6) rfl (fun K hK => ?_) ?_
                · refine step_append_any (.tmp 146) (.tmp 148) 36 rfl rfl w.heap.size 43 i0 (.agg #[.int .i64 0, .int .i64 0, .int .i64 0, .int .i64 0]) 4 32 Try.underlying36 hi z0 z1 z2 rfl (by decide) A4 cm.L.length d4 (flatLs cm.L) (by first | rfl | (simp only [Nat.zero_add]; rfl)) (by unfold LRow at HRa; first | exact HRa.out | exact rowE_below HRa.out HBb.out) (some ⟨gb, 0, none⟩) 1 1 [.int .i64 (cm.last + 1), .int .i64 dr, .int .i64 bk, .int .i64 un] (by rfl) rfl (src_blk (by first | exact HKb3.out | exact HKb.out) 1) (by simp [Value.oneCell']) (by unfold maxLen; omega) (by omega) (by first | exact HJa.out.1.b.size | exact HJb.out.1.b.size) ?_; intro A5 d5 w13 hown hgrow hat; have HTp := Lib.hid (grown_touch hgrow); have HJp := Lib.hid (show GJ w b15 g (.slice Am cm.L.length qm) (.int .i64 cm.last) (.int .i64 cm.kn) (.slice A3 (V.length + 1) d3) (.int .i64 (cm.last + 1)) (.int .i64 cm.kn) (cm.last + 1) dr bk un w13 from by first | exact HJb.out.touch HTp.out hb15 (fun k e => (HNa.out k e).1) (fun e => (HNa.out _ e).2 rfl) | exact HJa.out.touch HTp.out hb15 (fun k e => (HNa.out k e).1) (fun e => (HNa.out _ e).2 rfl)); have HRp := Lib.hid (show LRow w.heap.size A5 d5 (cm.L ++ [⟨cm.last + 1, dr, bk, un⟩]) w13 from by unfold LRow; rw [flatLs_append, List.length_append]; exact hown); have HNp := Lib.hid (show ∀ k, OwnB A5 k → b15 < k from fun k hk => by rcases hat k hk with e | e; (exact (HNa.out k e).1); first | (have := HJb.out.1.t.lt; omega) | (have := HJa.out.1.t.lt; omega)); clear hown hgrow hat; have y0 := HJp.out.2.cell 0 rfl; have x0 := HJp.out.2.free 0
                  (try go_wp2_with fail)
                  refine hK.out _ _ ?_ (fun hHeld2 => ?_)
                  · (try dsimp only); (first | with_reducible exact gi_S HJ0.out.gi | with_reducible exact gi_S HJz.out.gi | with_reducible exact gi_S HJa.out.gi | with_reducible exact gi_S HJb.out.gi | with_reducible exact gi_S HJp.out.gi | with_reducible exact gi_S (HJp.out.put1 hb15 hgl _).gi)
                  clear hK K
                  clear hHeld; have hHeld := hHeld2; clear hHeld2
                  (try simp only [Act.put, List.setIfInBounds_toArray, List.set_cons_zero, List.set_cons_succ])
                  refine lTake (i := 7) (v := ?_) rfl (by kernel_rfl) (by kernel_rfl) (by kernel_rfl) (fun _ _ _ h => h) (by rfl) (fun _ _ h => h) (fun _ _ h => h) ?_ (by assumption) (fun hHeld2 => ?_)
                  rotate_left 1
                  · (intro _ _ _ _ _; first | (go_simp; done) | (go_simp; with_reducible rfl))
                  clear hHeld; have hHeld := hHeld2; clear hHeld2
                  (try simp only [Act.put, List.setIfInBounds_toArray, List.set_cons_zero, List.set_cons_succ])
                  refine lReady (rs := [8]) (by kernel_rfl) (by simp) ?_
                  refine AllL.cons (i := 8) rfl (fun K hK => ?_) ?_
                  · go_simp
                    (try go_wp2_with fail)
                    refine hK.out _ _ ?_ (fun hHeld2 => ?_)
                    · (try dsimp only); (first | with_reducible exact gi_S HJ0.out.gi | with_reducible exact gi_S HJz.out.gi | with_reducible exact gi_S HJa.out.gi | with_reducible exact gi_S HJb.out.gi | with_reducible exact gi_S HJp.out.gi | with_reducible exact gi_S (HJp.out.put1 hb15 hgl _).gi)
                    clear hK K
                    clear hHeld; have hHeld := hHeld2; clear hHeld2
                    (try simp only [Act.put, List.setIfInBounds_toArray, List.set_cons_zero, List.set_cons_succ])
                    refine lDone (by kernel_rfl) ?_ _
                    clear hHeld
                    go_wp2
                    go_meet
                    case rel => exact ⟨A5, d5, HJp.out.put1 hb15 hgl _, rowE_keep HRp.out ((Touch.refl (fun k => k = g) w13).put 0 _) (fun k hk e => by subst e; exact lrow_ne HRp.out HJp.out.2 (by decide) hk), HNp.out⟩
                  exact AllL.nil
                exact AllL.nil
              exact AllL.nil
            refine AllL.cons (i := 5) rfl (fun K hK => ?_) ?_
            · refine step_new (.cells #[.int .i64 (cm.last + 1), .int .i64 dr, .int .i64 bk, .int .i64 un] 43) (fun g => .slice (some ⟨g, 0, none⟩) 1 1) rfl (by kernel_rfl) ?_; intro gb w12 hgb hcb hbb; have HJb := Lib.hid (show GJ w b15 g (.slice Am cm.L.length qm) (.int .i64 cm.last) (.int .i64 cm.kn) (.slice A3 (V.length + 1) d3) (.int .i64 (cm.last + 1)) (.int .i64 cm.kn) (cm.last + 1) dr bk un w12 from by first | exact HJa.out.bel hbb | exact HJz.out.bel hbb | exact HJ0.out.bel hbb); have HKb := Lib.hid (show Blk w12 gb 43 [.int .i64 (cm.last + 1), .int .i64 dr, .int .i64 bk, .int .i64 un] from hcb); have HBb := Lib.hid hbb; have HLb := Lib.hid hgb; clear hgb hcb hbb
              (try go_wp2_with fail)
              refine hK.out _ _ ?_ (fun hHeld2 => ?_)
              · (try dsimp only); (first | with_reducible exact gi_S HJ0.out.gi | with_reducible exact gi_S HJz.out.gi | with_reducible exact gi_S HJa.out.gi | with_reducible exact gi_S HJb.out.gi | with_reducible exact gi_S HJp.out.gi | with_reducible exact gi_S (HJp.out.put1 hb15 hgl _).gi)
              clear hK K
              clear hHeld; have hHeld := hHeld2; clear hHeld2
              (try simp only [Act.put, List.setIfInBounds_toArray, List.set_cons_zero, List.set_cons_succ])
              refine lReady (rs := [3]) (by kernel_rfl) (by simp) ?_
              refine AllL.cons (i := 3) rfl (fun K hK => ?_) ?_
              · refine step_append_any (.tmp 143) (.tmp 145) 36 rfl rfl w.heap.size 43 i0 (.agg #[.int .i64 0, .int .i64 0, .int .i64 0, .int .i64 0]) 4 32 Try.underlying36 hi z0 z1 z2 rfl (by decide) (some ⟨gz, 0, none⟩) 0 0 [] (by rfl) (row_empty (by first | exact HZ0.out | exact blk_bel HBb.out HZ0.out) (by have := HNz.out; omega)) Am cm.L.length qm (flatLs cm.L) (by rfl) (flatLs_length _) (flatLs_src (show LRow 0 Am qm cm.L _ from rowE_below HRow.out (by first | exact HJb.out.1.b | exact HJz.out.1.b))).1 (flatLs_one _) (by unfold maxLen; omega) (by omega) (by first | exact HJb.out.1.b.size | exact HJz.out.1.b.size) ?_; intro A4 d4 w11 hown hgrow hat; have HTa := Lib.hid (grown_touch hgrow); have HJa := Lib.hid (show GJ w b15 g (.slice Am cm.L.length qm) (.int .i64 cm.last) (.int .i64 cm.kn) (.slice A3 (V.length + 1) d3) (.int .i64 (cm.last + 1)) (.int .i64 cm.kn) (cm.last + 1) dr bk un w11 from by first | exact HJb.out.touch HTa.out hb15 (fun k e => by obtain ⟨a, ha, rfl⟩ := e; cases ha; exact HNz.out.1) (fun e => by obtain ⟨a, ha, hb⟩ := e; cases ha; have := HNz.out.2; simp at hb; omega) | exact HJz.out.touch HTa.out hb15 (fun k e => by obtain ⟨a, ha, rfl⟩ := e; cases ha; exact HNz.out.1) (fun e => by obtain ⟨a, ha, hb⟩ := e; cases ha; have := HNz.out.2; simp at hb; omega)); have HRa := Lib.hid (show LRow w.heap.size A4 d4 cm.L w11 from by simpa using hown); have HNa := Lib.hid (show ∀ k, OwnB A4 k → b15 < k ∧ k ≠ g from fun k hk => by rcases hat k hk with e | e; (obtain ⟨a, ha, rfl⟩ := e; cases ha; have := HNz.out; exact ⟨this.1, by show gz ≠ g; omega⟩); first | (have h1 := HJb.out.1.t.lt; have h2 := HJb.out.2.lt; omega) | (have h1 := HJz.out.1.t.lt; have h2 := HJz.out.2.lt; omega)); (try have HKb3 := Lib.hid (blk_tch HTa.out (show Blk _ gb 43 [.int .i64 (cm.last + 1), .int .i64 dr, .int .i64 bk, .int .i64 un] by first | exact HKb.out | exact blk_bel HBz.out HKb.out) (fun e => by obtain ⟨a, ha, hb⟩ := e; cases ha; simp at hb; first | (have h1 := HLb.out; have h2 := HZ0.out.lt; omega) | (have h1 := HLz.out; have h2 := HKb.out.lt; omega)))); clear hown hgrow hat
                (try go_wp2_with fail)
                refine hK.out _ _ ?_ (fun hHeld2 => ?_)
                · (try dsimp only); (first | with_reducible exact gi_S HJ0.out.gi | with_reducible exact gi_S HJz.out.gi | with_reducible exact gi_S HJa.out.gi | with_reducible exact gi_S HJb.out.gi | with_reducible exact gi_S HJp.out.gi | with_reducible exact gi_S (HJp.out.put1 hb15 hgl _).gi)
                clear hK K
                clear hHeld; have hHeld := hHeld2; clear hHeld2
                (try simp only [Act.put, List.setIfInBounds_toArray, List.set_cons_zero, List.set_cons_succ])
                refine lReady (rs := [6]) (by kernel_rfl) (by simp) ?_
                refine AllL.cons (i := 6) rfl (fun K hK => ?_) ?_
                · refine step_append_any (.tmp 146) (.tmp 148) 36 rfl rfl w.heap.size 43 i0 (.agg #[.int .i64 0, .int .i64 0, .int .i64 0, .int .i64 0]) 4 32 Try.underlying36 hi z0 z1 z2 rfl (by decide) A4 cm.L.length d4 (flatLs cm.L) (by first | rfl | (simp only [Nat.zero_add]; rfl)) (by unfold LRow at HRa; first | exact HRa.out | exact rowE_below HRa.out HBb.out) (some ⟨gb, 0, none⟩) 1 1 [.int .i64 (cm.last + 1), .int .i64 dr, .int .i64 bk, .int .i64 un] (by rfl) rfl (src_blk (by first | exact HKb3.out | exact HKb.out) 1) (by simp [Value.oneCell']) (by unfold maxLen; omega) (by omega) (by first | exact HJa.out.1.b.size | exact HJb.out.1.b.size) ?_; intro A5 d5 w13 hown hgrow hat; have HTp := Lib.hid (grown_touch hgrow); have HJp := Lib.hid (show GJ w b15 g (.slice Am cm.L.length qm) (.int .i64 cm.last) (.int .i64 cm.kn) (.slice A3 (V.length + 1) d3) (.int .i64 (cm.last + 1)) (.int .i64 cm.kn) (cm.last + 1) dr bk un w13 from by first | exact HJb.out.touch HTp.out hb15 (fun k e => (HNa.out k e).1) (fun e => (HNa.out _ e).2 rfl) | exact HJa.out.touch HTp.out hb15 (fun k e => (HNa.out k e).1) (fun e => (HNa.out _ e).2 rfl)); have HRp := Lib.hid (show LRow w.heap.size A5 d5 (cm.L ++ [⟨cm.last + 1, dr, bk, un⟩]) w13 from by unfold LRow; rw [flatLs_append, List.length_append]; exact hown); have HNp := Lib.hid (show ∀ k, OwnB A5 k → b15 < k from fun k hk => by rcases hat k hk with e | e; (exact (HNa.out k e).1); first | (have := HJb.out.1.t.lt; omega) | (have := HJa.out.1.t.lt; omega)); clear hown hgrow hat; have y0 := HJp.out.2.cell 0 rfl; have x0 := HJp.out.2.free 0
                  (try go_wp2_with fail)
                  refine hK.out _ _ ?_ (fun hHeld2 => ?_)
                  · (try dsimp only); (first | with_reducible exact gi_S HJ0.out.gi | with_reducible exact gi_S HJz.out.gi | with_reducible exact gi_S HJa.out.gi | with_reducible exact gi_S HJb.out.gi | with_reducible exact gi_S HJp.out.gi | with_reducible exact gi_S (HJp.out.put1 hb15 hgl _).gi)
                  clear hK K
                  clear hHeld; have hHeld := hHeld2; clear hHeld2
                  (try simp only [Act.put, List.setIfInBounds_toArray, List.set_cons_zero, List.set_cons_succ])
                  refine lTake (i := 7) (v := ?_) rfl (by kernel_rfl) (by kernel_rfl) (by kernel_rfl) (fun _ _ _ h => h) (by rfl) (fun _ _ h => h) (fun _ _ h => h) ?_ (by assumption) (fun hHeld2 => ?_)
                  rotate_left 1
                  · (intro _ _ _ _ _; first | (go_simp; done) | (go_simp; with_reducible rfl))
                  clear hHeld; have hHeld := hHeld2; clear hHeld2
                  (try simp only [Act.put, List.setIfInBounds_toArray, List.set_cons_zero, List.set_cons_succ])
                  refine lReady (rs := [8]) (by kernel_rfl) (by simp) ?_
                  refine AllL.cons (i := 8) rfl (fun K hK => ?_) ?_
                  · go_simp
                    (try go_wp2_with fail)
                    refine hK.out _ _ ?_ (fun hHeld2 => ?_)
                    · (try dsimp only); (first | with_reducible exact gi_S HJ0.out.gi | with_reducible exact gi_S HJz.out.gi | with_reducible exact gi_S HJa.out.gi | with_reducible exact gi_S HJb.out.gi | with_reducible exact gi_S HJp.out.gi | with_reducible exact gi_S (HJp.out.put1 hb15 hgl _).gi)
                    clear hK K
                    clear hHeld; have hHeld := hHeld2; clear hHeld2
                    (try simp only [Act.put, List.setIfInBounds_toArray, List.set_cons_zero, List.set_cons_succ])
                    refine lDone (by kernel_rfl) ?_ _
                    clear hHeld
                    go_wp2
                    go_meet
                    case rel => exact ⟨A5, d5, HJp.out.put1 hb15 hgl _, rowE_keep HRp.out ((Touch.refl (fun k => k = g) w13).put 0 _) (fun k hk e => by subst e; exact lrow_ne HRp.out HJp.out.2 (by decide) hk), HNp.out⟩
                  exact AllL.nil
                exact AllL.nil
              exact AllL.nil
            exact AllL.nil
          refine AllL.cons (i := 5) rfl (fun K hK => ?_) ?_
          · refine step_new (.cells #[.int .i64 (cm.last + 1), .int .i64 dr, .int .i64 bk, .int .i64 un] 43) (fun g => .slice (some ⟨g, 0, none⟩) 1 1) rfl (by kernel_rfl) ?_; intro gb w12 hgb hcb hbb; have HJb := Lib.hid (show GJ w b15 g (.slice Am cm.L.length qm) (.int .i64 cm.last) (.int .i64 cm.kn) (.slice A3 (V.length + 1) d3) (.int .i64 (cm.last + 1)) (.int .i64 cm.kn) (cm.last + 1) dr bk un w12 from by first | exact HJa.out.bel hbb | exact HJz.out.bel hbb | exact HJ0.out.bel hbb); have HKb := Lib.hid (show Blk w12 gb 43 [.int .i64 (cm.last + 1), .int .i64 dr, .int .i64 bk, .int .i64 un] from hcb); have HBb := Lib.hid hbb; have HLb := Lib.hid hgb; clear hgb hcb hbb
            (try go_wp2_with fail)
            refine hK.out _ _ ?_ (fun hHeld2 => ?_)
            · (try dsimp only); (first | with_reducible exact gi_S HJ0.out.gi | with_reducible exact gi_S HJz.out.gi | with_reducible exact gi_S HJa.out.gi | with_reducible exact gi_S HJb.out.gi | with_reducible exact gi_S HJp.out.gi | with_reducible exact gi_S (HJp.out.put1 hb15 hgl _).gi)
            clear hK K
            clear hHeld; have hHeld := hHeld2; clear hHeld2
            (try simp only [Act.put, List.setIfInBounds_toArray, List.set_cons_zero, List.set_cons_succ])
            refine lReady (rs := [0]) (by kernel_rfl) (by simp) ?_
            refine AllL.cons (i := 0) rfl (fun K hK => ?_) ?_
            · refine step_new (.cells #[] 43) (fun g => .slice (some ⟨g, 0, none⟩) 0 0) rfl (by kernel_rfl) ?_; intro gz w10 hgz hcz hbz; have HJz := Lib.hid (show GJ w b15 g (.slice Am cm.L.length qm) (.int .i64 cm.last) (.int .i64 cm.kn) (.slice A3 (V.length + 1) d3) (.int .i64 (cm.last + 1)) (.int .i64 cm.kn) (cm.last + 1) dr bk un w10 from by first | exact HJb.out.bel hbz | exact HJ0.out.bel hbz); have HZ0 := Lib.hid (show Blk w10 gz 43 [] from hcz); have HLz := Lib.hid hgz; have HBz := Lib.hid hbz; have HNz := Lib.hid (show b15 < gz ∧ g < gz from by first | (have h1 := HJb.out.1.t.lt; have h2 := HJb.out.2.lt; omega) | (have h1 := HJ0.out.1.t.lt; have h2 := HJ0.out.2.lt; omega)); clear hgz hcz hbz
              (try go_wp2_with fail)
              refine hK.out _ _ ?_ (fun hHeld2 => ?_)
              · (try dsimp only); (first | with_reducible exact gi_S HJ0.out.gi | with_reducible exact gi_S HJz.out.gi | with_reducible exact gi_S HJa.out.gi | with_reducible exact gi_S HJb.out.gi | with_reducible exact gi_S HJp.out.gi | with_reducible exact gi_S (HJp.out.put1 hb15 hgl _).gi)
              clear hK K
              clear hHeld; have hHeld := hHeld2; clear hHeld2
              (try simp only [Act.put, List.setIfInBounds_toArray, List.set_cons_zero, List.set_cons_succ])
              refine lReady (rs := [3]) (by kernel_rfl) (by simp) ?_
              refine AllL.cons (i := 3) rfl (fun K hK => ?_) ?_
              · refine step_append_any (.tmp 143) (.tmp 145) 36 rfl rfl w.heap.size 43 i0 (.agg #[.int .i64 0, .int .i64 0, .int .i64 0, .int .i64 0]) 4 32 Try.underlying36 hi z0 z1 z2 rfl (by decide) (some ⟨gz, 0, none⟩) 0 0 [] (by rfl) (row_empty (by first | exact HZ0.out | exact blk_bel HBb.out HZ0.out) (by have := HNz.out; omega)) Am cm.L.length qm (flatLs cm.L) (by rfl) (flatLs_length _) (flatLs_src (show LRow 0 Am qm cm.L _ from rowE_below HRow.out (by first | exact HJb.out.1.b | exact HJz.out.1.b))).1 (flatLs_one _) (by unfold maxLen; omega) (by omega) (by first | exact HJb.out.1.b.size | exact HJz.out.1.b.size) ?_; intro A4 d4 w11 hown hgrow hat; have HTa := Lib.hid (grown_touch hgrow); have HJa := Lib.hid (show GJ w b15 g (.slice Am cm.L.length qm) (.int .i64 cm.last) (.int .i64 cm.kn) (.slice A3 (V.length + 1) d3) (.int .i64 (cm.last + 1)) (.int .i64 cm.kn) (cm.last + 1) dr bk un w11 from by first | exact HJb.out.touch HTa.out hb15 (fun k e => by obtain ⟨a, ha, rfl⟩ := e; cases ha; exact HNz.out.1) (fun e => by obtain ⟨a, ha, hb⟩ := e; cases ha; have := HNz.out.2; simp at hb; omega) | exact HJz.out.touch HTa.out hb15 (fun k e => by obtain ⟨a, ha, rfl⟩ := e; cases ha; exact HNz.out.1) (fun e => by obtain ⟨a, ha, hb⟩ := e; cases ha; have := HNz.out.2; simp at hb; omega)); have HRa := Lib.hid (show LRow w.heap.size A4 d4 cm.L w11 from by simpa using hown); have HNa := Lib.hid (show ∀ k, OwnB A4 k → b15 < k ∧ k ≠ g from fun k hk => by rcases hat k hk with e | e; (obtain ⟨a, ha, rfl⟩ := e; cases ha; have := HNz.out; exact ⟨this.1, by show gz ≠ g; omega⟩); first | (have h1 := HJb.out.1.t.lt; have h2 := HJb.out.2.lt; omega) | (have h1 := HJz.out.1.t.lt; have h2 := HJz.out.2.lt; omega)); (try have HKb3 := Lib.hid (blk_tch HTa.out (show Blk _ gb 43 [.int .i64 (cm.last + 1), .int .i64 dr, .int .i64 bk, .int .i64 un] by first | exact HKb.out | exact blk_bel HBz.out HKb.out) (fun e => by obtain ⟨a, ha, hb⟩ := e; cases ha; simp at hb; first | (have h1 := HLb.out; have h2 := HZ0.out.lt; omega) | (have h1 := HLz.out; have h2 := HKb.out.lt; omega)))); clear hown hgrow hat
                (try go_wp2_with fail)
                refine hK.out _ _ ?_ (fun hHeld2 => ?_)
                · (try dsimp only); (first | with_reducible exact gi_S HJ0.out.gi | with_reducible exact gi_S HJz.out.gi | with_reducible exact gi_S HJa.out.gi | with_reducible exact gi_S HJb.out.gi | with_reducible exact gi_S HJp.out.gi | with_reducible exact gi_S (HJp.out.put1 hb15 hgl _).gi)
                clear hK K
                clear hHeld; have hHeld := hHeld2; clear hHeld2
                (try simp only [Act.put, List.setIfInBounds_toArray, List.set_cons_zero, List.set_cons_succ])
                refine lReady (rs := [6]) (by kernel_rfl) (by simp) ?_
                refine AllL.cons (i := 6) rfl (fun K hK => ?_) ?_
                · refine step_append_any (.tmp 146) (.tmp 148) 36 rfl rfl w.heap.size 43 i0 (.agg #[.int .i64 0, .int .i64 0, .int .i64 0, .int .i64 0]) 4 32 Try.underlying36 hi z0 z1 z2 rfl (by decide) A4 cm.L.length d4 (flatLs cm.L) (by first | rfl | (simp only [Nat.zero_add]; rfl)) (by unfold LRow at HRa; first | exact HRa.out | exact rowE_below HRa.out HBb.out) (some ⟨gb, 0, none⟩) 1 1 [.int .i64 (cm.last + 1), .int .i64 dr, .int .i64 bk, .int .i64 un] (by rfl) rfl (src_blk (by first | exact HKb3.out | exact HKb.out) 1) (by simp [Value.oneCell']) (by unfold maxLen; omega) (by omega) (by first | exact HJa.out.1.b.size | exact HJb.out.1.b.size) ?_; intro A5 d5 w13 hown hgrow hat; have HTp := Lib.hid (grown_touch hgrow); have HJp := Lib.hid (show GJ w b15 g (.slice Am cm.L.length qm) (.int .i64 cm.last) (.int .i64 cm.kn) (.slice A3 (V.length + 1) d3) (.int .i64 (cm.last + 1)) (.int .i64 cm.kn) (cm.last + 1) dr bk un w13 from by first | exact HJb.out.touch HTp.out hb15 (fun k e => (HNa.out k e).1) (fun e => (HNa.out _ e).2 rfl) | exact HJa.out.touch HTp.out hb15 (fun k e => (HNa.out k e).1) (fun e => (HNa.out _ e).2 rfl)); have HRp := Lib.hid (show LRow w.heap.size A5 d5 (cm.L ++ [⟨cm.last + 1, dr, bk, un⟩]) w13 from by unfold LRow; rw [flatLs_append, List.length_append]; exact hown); have HNp := Lib.hid (show ∀ k, OwnB A5 k → b15 < k from fun k hk => by rcases hat k hk with e | e; (exact (HNa.out k e).1); first | (have := HJb.out.1.t.lt; omega) | (have := HJa.out.1.t.lt; omega)); clear hown hgrow hat; have y0 := HJp.out.2.cell 0 rfl; have x0 := HJp.out.2.free 0
                  (try go_wp2_with fail)
                  refine hK.out _ _ ?_ (fun hHeld2 => ?_)
                  · (try dsimp only); (first | with_reducible exact gi_S HJ0.out.gi | with_reducible exact gi_S HJz.out.gi | with_reducible exact gi_S HJa.out.gi | with_reducible exact gi_S HJb.out.gi | with_reducible exact gi_S HJp.out.gi | with_reducible exact gi_S (HJp.out.put1 hb15 hgl _).gi)
                  clear hK K
                  clear hHeld; have hHeld := hHeld2; clear hHeld2
                  (try simp only [Act.put, List.setIfInBounds_toArray, List.set_cons_zero, List.set_cons_succ])
                  refine lTake (i := 7) (v := ?_) rfl (by kernel_rfl) (by kernel_rfl) (by kernel_rfl) (fun _ _ _ h => h) (by rfl) (fun _ _ h => h) (fun _ _ h => h) ?_ (by assumption) (fun hHeld2 => ?_)
                  rotate_left 1
                  · (intro _ _ _ _ _; first | (go_simp; done) | (go_simp; with_reducible rfl))
                  clear hHeld; have hHeld := hHeld2; clear hHeld2
                  (try simp only [Act.put, List.setIfInBounds_toArray, List.set_cons_zero, List.set_cons_succ])
                  refine lReady (rs := [8]) (by kernel_rfl) (by simp) ?_
                  refine AllL.cons (i := 8) rfl (fun K hK => ?_) ?_
                  · go_simp
                    (try go_wp2_with fail)
                    refine hK.out _ _ ?_ (fun hHeld2 => ?_)
                    · (try dsimp only); (first | with_reducible exact gi_S HJ0.out.gi | with_reducible exact gi_S HJz.out.gi | with_reducible exact gi_S HJa.out.gi | with_reducible exact gi_S HJb.out.gi | with_reducible exact gi_S HJp.out.gi | with_reducible exact gi_S (HJp.out.put1 hb15 hgl _).gi)
                    clear hK K
                    clear hHeld; have hHeld := hHeld2; clear hHeld2
                    (try simp only [Act.put, List.setIfInBounds_toArray, List.set_cons_zero, List.set_cons_succ])
                    refine lDone (by kernel_rfl) ?_ _
                    clear hHeld
                    go_wp2
                    go_meet
                    case rel => exact ⟨A5, d5, HJp.out.put1 hb15 hgl _, rowE_keep HRp.out ((Touch.refl (fun k => k = g) w13).put 0 _) (fun k hk e => by subst e; exact lrow_ne HRp.out HJp.out.2 (by decide) hk), HNp.out⟩
                  exact AllL.nil
                exact AllL.nil
              exact AllL.nil
            exact AllL.nil
          exact AllL.nil
        case rest =>
          obtain ⟨A5, d5, hj, hr5, hn5⟩ := hcut
          have HJ := Lib.hid hj
          have HR5 := Lib.hid hr5
          have HN5 := Lib.hid hn5
          have HRc := Lib.hid (HR.out.below hj.1.b)
          have hwc := hj.1.b.size
          clear hj hr5 hn5 HJ0 HGr HRr HB
          have c3 : wc.cell? ⟨rs, 3, none⟩ = some (.slice (some ⟨rc, 0, none⟩) k cc) := by rw [HN.out]; exact HRc.out.s.cell 3 rfl
          have f3 := HRc.out.s.free 3
          have hzc := HRc.out.s.lt
          have hzc2 : rs ≠ wc.heap.size := by omega
          obtain ⟨i1, hi1, y0, y1, y2⟩ := info_parts info156
          have HSr := Lib.hid (fun W (hW : Below wc.heap.size wc W) => arr_src (fun i => clV_len _ _ _) (HRc.out.below hW).a)
          rw [← HN.out] at HSr
          go_upto_region 26 with (at_builtin; refine wpList_append_any (.tmp 152) (.tmp 156) 142 rfl rfl wc.heap.size 156 i1 (.agg #[.slice none 0 0, .int .i64 0, .int .i64 0]) 3 40 Try.underlying142 hi1 y0 y1 y2 rfl (by decide) (some ⟨wc.heap.size, 0, none⟩) 0 0 [] (by rfl) (World.ownsRow_made wc #[] 0 (Nat.le_refl _) (by decide) (by simp)) (some ⟨rc, 0, none⟩) k cc (flat3 (fun i => clV (A i) (q i) (cs.getD i default)) k) (by rfl) (by rw [flat3_len (fun i => clV_len _ _ _)]) (HSr.out _ ((Below.refl _ _).alloc (Nat.le_refl _) _)) (flat3_one (fun i => clV_one _ _ _) k) (by unfold maxLen; omega) (by omega) (by simp) ?_; intro A' cap' w1 hown hgrow hat; have HOw := Lib.hid hown; have HT := Lib.hid (show Touch (OwnB (some ⟨wc.heap.size, 0, none⟩)) _ w1 from (Touch.refl _ _).grown hgrow (fun k hk => .inl (ownB_iff.2 hk))); have HB1 := Lib.hid ((HRc.out.s.alloc _).touch HT.out (fun e => by obtain ⟨a, ha, hb⟩ := e; cases ha; simp at hb; omega)); have g3 := HB1.out.cell 3 rfl; have f3' := HB1.out.free 3; clear hown hgrow hat)
          simp only [Nat.zero_add, List.nil_append] at HOw
          have hn0 : 0 < k := by omega
          have hz1 := HJ.out.1.q.lt
          have hz15 := HJ.out.1.t.lt
          have hzg := HJ.out.2.lt
          obtain ⟨g2, rfl, hBg, hcc2, hr4, ht4⟩ := ref_spread HRc.out ((Below.refl _ _).alloc (Nat.le_refl _) _) (Nat.le_refl _) HT.out HOw.out HN.out hn0
          have hnr : ¬ OwnB A5 rs := fun e => by have := HN5.out _ e; omega
          refine gen_world' (fun W => RefAt W rs g2 cap' A q cs D Bk N ∧ Touch (fun k => k = rs) w W ∧ Blk W w.heap.size 43 [.int .i64 0, .int .i64 0, .int .i64 0, .int .i64 0] ∧ Blk W b15 43 [.int .i64 (cm.last + 1), .int .i64 dr, .int .i64 bk, .int .i64 un] ∧ Blk W g 156 [.slice A5 (cm.L.length + 1) d5, .int .i64 (cm.last + 1), .int .i64 cm.kn] ∧ LRow w.heap.size A5 d5 (cm.L ++ [⟨cm.last + 1, dr, bk, un⟩]) W) ⟨hr4, (Touch.of_below HJ.out.1.b).trans ht4, blk_tch ht4 HJ.out.1.p (by omega), blk_tch ht4 HJ.out.1.t (by omega), blk_tch ht4 HJ.out.2 (by omega), rowE_keep HR5.out ht4 (fun k hk e => by subst e; exact hnr hk)⟩ ?_
          clear hr4 ht4 g3 f3' HB1 HT HOw c3 f3 HRc HSr HJ
          rintro w2 ⟨hr2, ht2, hp2, ht15, hg2, hl2⟩
          have HR2 := Lib.hid hr2
          have HT2 := Lib.hid ht2
          have HP2 := Lib.hid hp2
          have HQ2 := Lib.hid ht15
          have HG2 := Lib.hid hg2
          have HL2 := Lib.hid hl2
          have hgg2 : g ≠ g2 := by omega
          have hbg2 : b15 ≠ g2 := by omega
          have hrg2 : rs ≠ g2 := by omega
          clear hr2 ht2 hp2 ht15 hg2 hl2
          refine wp_region_head 7 ?af (by kernel_rfl) (by kernel_rfl) ?walk ?tail
          case walk =>
            intro V' hV'
            have e3 : V'.cell? ⟨rs, 3, none⟩ = some (.slice (some ⟨g2, 0, none⟩) k cap') := by rw [HN.out]; exact (HR2.out.below hV').s.cell 3 rfl
            have e0 := (blk_bel hV' HG2.out).cell 0 rfl
            have e1 := (blk_bel hV' HG2.out).cell 1 rfl
            have e2 := (blk_bel hV' HG2.out).cell 2 rfl
            have z3 := (HR2.out.below hV').s.lt
            have z4 := (blk_bel hV' HG2.out).lt
            simp only [List.take_succ_cons, List.take_zero]
            repeat (go_big_quiet_step (fail))
            refine wpQuiet_nil ?_
            rfl
          case tail =>
            intro w3 hb3
            have HR3 := Lib.hid (HR2.out.below hb3)
            have HT3 := Lib.hid (HT2.out.below hb3)
            have HP3 := Lib.hid (blk_bel hb3 HP2.out)
            have HQ3 := Lib.hid (blk_bel hb3 HQ2.out)
            have HL3 := Lib.hid (rowE_below HL2.out hb3)
            have e0 := HR3.out.a.cell hm 0 rfl
            have e1 := HR3.out.a.cell hm 1 rfl
            have e2 := HR3.out.a.cell hm 2 rfl
            simp only [Nat.add_zero] at e0
            have f0 := HR3.out.a.free (m * 3)
            have f1 := HR3.out.a.free (m * 3 + 1)
            have f2 := HR3.out.a.free (m * 3 + 2)
            simp only [List.drop_succ_cons, List.drop_zero]
            clear hb3 HR2 HT2 HP2 HQ2 HG2 HL2
            go_upto_region 27 with fail
            have hlen : cm.L.length + 1 = (cm.L ++ [(⟨cm.last + 1, dr, bk, un⟩ : Ls)]).length := by simp
            refine gen_world' (fun W => RefAt W rs g2 cap' (fun i => if i = m then A5 else A i) (fun i => if i = m then d5 else q i) (cs.set m ⟨(cm.L ++ [⟨cm.last + 1, dr, bk, un⟩]), cm.last + 1, cm.kn⟩) D Bk N ∧ Touch (fun k => k = rs) w W ∧ Blk W w.heap.size 43 [.int .i64 0, .int .i64 0, .int .i64 0, .int .i64 0] ∧ Blk W b15 43 [.int .i64 (cm.last + 1), .int .i64 dr, .int .i64 bk, .int .i64 un]) ⟨HR3.out.putSt2 hm _ _ _ hlen (rowLs_base HL3.out (Nat.zero_le _)), touch3 HT3.out (by omega) _ _ _ _ _ _, blk3 HP3.out (by omega) _ _ _ _ _ _, blk3 HQ3.out (by omega) _ _ _ _ _ _⟩ ?_
            clear e0 e1 e2 f0 f1 f2 HR3 HT3 HP3 HQ3
            rintro w4 ⟨hr6, ht6, hp6, hq6⟩
            have HR6 := Lib.hid hr6
            have HT6 := Lib.hid ht6
            have HP6 := Lib.hid hp6
            have HQ6 := Lib.hid hq6
            have s2 := hr6.s.cell 2 rfl
            have sf := hr6.s.free 2
            clear hr6 ht6 hp6 hq6
            go_upto_region 28 with fail
            refine gen_world' (fun W => RefAt W rs g2 cap' (fun i => if i = m then A5 else A i) (fun i => if i = m then d5 else q i) (cs.set m ⟨(cm.L ++ [⟨cm.last + 1, dr, bk, un⟩]), cm.last + 1, cm.kn⟩) D Bk now ∧ Touch (fun k => k = rs) w W ∧ Blk W w.heap.size 43 [.int .i64 0, .int .i64 0, .int .i64 0, .int .i64 0] ∧ Blk W b15 43 [.int .i64 (cm.last + 1), .int .i64 dr, .int .i64 bk, .int .i64 un]) ⟨HR6.out.setN now, HT6.out.setCell (.inl rfl) _, HP6.out.setCell_ne (by show w.heap.size ≠ rs; omega) _, HQ6.out.setCell_ne (by show b15 ≠ rs; omega) _⟩ ?_
            clear s2 sf HR6 HT6 HP6 HQ6
            rintro w5 ⟨hr7, ht7, hp7, hq7⟩
            have HR7 := Lib.hid hr7
            have HT7 := Lib.hid ht7
            have HP7 := Lib.hid hp7
            have t0 := hq7.cell 0 rfl
            have t1 := hq7.cell 1 rfl
            have t2 := hq7.cell 2 rfl
            have t3 := hq7.cell 3 rfl
            have r0 := hp7.cell 0 rfl
            have r1 := hp7.cell 1 rfl
            have r2 := hp7.cell 2 rfl
            have r3 := hp7.cell 3 rfl
            have f0 := hp7.free 0
            have f1 := hp7.free 1
            have f2 := hp7.free 2
            have f3 := hp7.free 3
            clear hr7 ht7 hp7 hq7
            go_wp2_with fail
            refine gen_post (fun W => RefAt W rs g2 cap' (fun i => if i = m then A5 else A i) (fun i => if i = m then d5 else q i) (cs.set m ⟨(cm.L ++ [⟨cm.last + 1, dr, bk, un⟩]), cm.last + 1, cm.kn⟩) D Bk now ∧ Touch (fun k => k = rs) w W ∧ Blk W w.heap.size 43 [.int .i64 (cm.last + 1), .int .i64 dr, .int .i64 bk, .int .i64 un]) ⟨HR7.out.touch (S := fun k => k = w.heap.size) (((((Touch.refl _ _).put 0 _).put 1 _).put 2 _).put 3 _) (fun k hk e => by
              subst e
              rcases hk with hk | hk | ⟨i, hi, hk⟩
              · omega
              · omega
              · by_cases him : i = m
                · subst him
                  simp only [if_true] at hk
                  have := HN5.out _ hk; omega
                · simp only [him, if_false] at hk
                  have := (rowE_lt (HR.out.r i (by simpa using hi)) hk).2; omega), HT7.out.then (S' := fun k => k = w.heap.size) (((((Touch.refl _ _).put 0 _).put 1 _).put 2 _).put 3 _) (fun k e => .inr (by omega)), (endJ (Below.refl 0 w5) HP7.out (Nat.zero_le _) _ _ _ _).2⟩ ?_
            rintro W' ⟨hr8, ht8, hp8⟩
            have d0 := hp8.cell 0 rfl
            have d1 := hp8.cell 1 rfl
            have d2 := hp8.cell 2 rfl
            have d3 := hp8.cell 3 rfl
            exact bodyPost_ret (v := .tuple #[.agg #[.int .i64 (cm.last + 1), .int .i64 dr, .int .i64 bk, .int .i64 un], .int .i64 0]) (by simp [results, Try.results71, go_sem, d0, d1, d2, d3]) rfl (grPostR_yes HCm.out HE.out hr8 (by omega) (fun i k hk => by
              by_cases him : i = m
              · subst him
                simp only [if_true] at hk
                have := HN5.out _ hk
                exact .inr (by omega)
              · simp only [him, if_false] at hk
                exact .inl hk) ht8)
end Go.Proofs.Ytafajclbghofkaa
