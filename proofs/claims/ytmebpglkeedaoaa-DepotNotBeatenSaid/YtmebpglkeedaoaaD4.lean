/- The contract of graph.nearest of depot. -/
import Derived.Test.YtmebpglkeedaoaaD3
import Derived.Test.YtmebpglkeedaoaaM7
import Derived.Deep.CutRange
namespace Go.Proofs.Ytmebpglkeedaoaa
open Go.RowKit Dp
set_option linter.unusedVariables false

/-- memory while the search runs -/
structure NrJ (w : World) (gf gb bh : Nat) (fa vi : List Int) (A : Option Addr) (c : Nat) (H : List Vs) (W : World) : Prop where
  bel : Below w.heap.size w W
  f : Fl 2 W gf fa
  v : Fl 3 W gb vi
  h : HpAt W w.heap.size bh A c H
  ge : w.heap.size ≤ gf ∧ w.heap.size ≤ gb ∧ w.heap.size ≤ bh
section
variable {w W W' : World} {gf gb bh c : Nat} {fa vi : List Int} {A : Option Addr} {H : List Vs}
theorem NrJ.below (h : NrJ w gf gb bh fa vi A c H W) (hb : Below W.heap.size W W') : NrJ w gf gb bh fa vi A c H W' :=
  { bel := h.bel.trans (hb.mono h.bel.size), f := h.f.below hb, v := h.v.below hb, h := h.h.below hb, ge := h.ge }
theorem NrJ.drew (h : NrJ w gf gb bh fa vi A c H W) : NrJ w gf gb bh fa vi A c H W.drew := h.below (Below.refl _ _).drew
theorem NrJ.nfb (h : NrJ w gf gb bh fa vi A c H W) : gf ≠ gb := fun e => by
  subst e
  exact (h.f.ne h.v (by decide)) rfl
theorem HpAt.set_ne {B b : Nat} (h : HpAt W B b A c H) {p : Addr} {e : TypeId} {cs : List Value} (hp : Blk W p.block e cs) (h1 : e ≠ 158) (h2 : (154 : Nat) ≠ e) (u : Value) : HpAt (W.setCell p u) B b A c H :=
  ⟨h.1.setCell_ne (blk_type_ne hp h.1 h1) u, h.2.1.set_ne (fun hb => own_ne h.2.1 hb hp h2) u, h.2.2⟩
theorem NrJ.putF (h : NrJ w gf gb bh fa vi A c H W) (k : Nat) (x : Int) : NrJ w gf gb bh (fa.set k x) vi A c H (W.setCell ⟨gf, k, none⟩ (.int .i64 x)) :=
  { bel := h.bel.setCell h.ge.1 _, f := h.f.put k x, v := h.v.set_ne (fun e => h.nfb e.symm) _, h := h.h.set_ne (p := ⟨gf, k, none⟩) h.f (by decide) (by decide) _, ge := h.ge }
theorem NrJ.putV (h : NrJ w gf gb bh fa vi A c H W) (k : Nat) (x : Int) : NrJ w gf gb bh fa (vi.set k x) A c H (W.setCell ⟨gb, k, none⟩ (.int .i64 x)) :=
  { bel := h.bel.setCell h.ge.2.1 _, f := h.f.set_ne h.nfb _, v := h.v.put k x, h := h.h.set_ne (p := ⟨gb, k, none⟩) h.v (by decide) (by decide) _, ge := h.ge }
/-- the queue has changed -/
theorem NrJ.queue (h : NrJ w gf gb bh fa vi A c H W) {A' : Option Addr} {c' : Nat} {H' : List Vs} (ht : Touch (fun k => k = bh ∨ OwnB A k) W W') (hh : HpAt W' w.heap.size bh A' c' H') : NrJ w gf gb bh fa vi A' c' H' W' :=
  { bel := Below.touch h.bel h.bel.size ht (fun k hk => by
      rcases hk with rfl | hk
      · exact h.ge.2.2
      · exact (ownLt h.h.2.1 hk).2)
    f := h.f.touch ht (fun hk => by
      rcases hk with e | hk
      · exact h.f.ne h.h.1 (by decide) e.symm
      · exact own_ne h.h.2.1 hk h.f (by decide))
    v := h.v.touch ht (fun hk => by
      rcases hk with e | hk
      · exact h.v.ne h.h.1 (by decide) e.symm
      · exact own_ne h.h.2.1 hk h.v (by decide))
    h := hh
    ge := h.ge }
end

theorem nrJ_start (w : World) (G : Gr) (n : Nat) : NrJ w w.heap.size (w.heap.size + 1) (w.heap.size + 1 + 1) (farI G n 0) (viaI n 0) none 0 [] (((w.alloc (.cells (Array.replicate n (.int .i64 0)) 2)).alloc (.cells (Array.replicate n (.int .i64 0)) 3)).alloc (.cells #[.slice none 0 0, .func (.func 101) #[] #[]] 158)) := by
  have f0 := fl_new 2 n w
  have v0 := fl_new 3 n (w.alloc (.cells (Array.replicate n (.int .i64 0)) 2))
  have h0 := Blk.new' ((w.alloc (.cells (Array.replicate n (.int .i64 0)) 2)).alloc (.cells (Array.replicate n (.int .i64 0)) 3)) #[.slice none 0 0, .func (.func 101) #[] #[]] 158
  rw [farI_zero G n] at f0
  rw [viaI_zero n] at v0
  have s1 : ∀ (W : World) (o : Obj), (W.alloc o).heap.size = W.heap.size + 1 := fun W o => by simp
  rw [s1] at v0 h0
  rw [s1] at h0
  have b0 := (Below.refl w.heap.size w).alloc (Nat.le_refl _) (.cells (Array.replicate n (.int .i64 0)) 2)
  have b1 := b0.alloc b0.size (.cells (Array.replicate n (.int .i64 0)) 3)
  have b2 := b1.alloc b1.size (.cells #[.slice none 0 0, .func (.func 101) #[] #[]] 158)
  exact { bel := b2, f := (Blk.alloc f0 _).alloc _, v := Blk.alloc v0 _, h := ⟨h0, World.ownsRow_nil _ _ _ _, fun ⟨a, e, _⟩ => by cases e⟩, ge := ⟨Nat.le_refl _, by omega, by omega⟩ }

set_option maxHeartbeats 2000000 in
set_option maxRecDepth 100000 in
theorem nearest_c (b gl cl ce bo B cp n : Nat) (E P : Option Addr) (G : Gr) (p : List Int) (w : World) (hG : G.Ok n) (hp : G.Pot n p) (hg : GrAt w B b gl cl E ce bo G) (hP : IntsAt w P p) (hcp : n ≤ cp ∧ cp ≤ 9223372036854775807) :
    Calls Try.prog 71 #[.pointer (some ⟨b, 0, none⟩), .slice P n cp] w fun e w' => ∃ (gf gb : Nat) (fa vi : List Int) (en : Int), e = .returned (.tuple #[.slice (some ⟨gf, 0, none⟩) n n, .slice (some ⟨gb, 0, none⟩) n n, .int .i64 en]) ∧
      Below w.heap.size w w' ∧ Fl 2 w' gf fa ∧ Fl 3 w' gb vi ∧ w.heap.size ≤ gf ∧ w.heap.size ≤ gb ∧ NR G n p fa vi en := by
  have HG := Lib.hid hG
  have HP := Lib.hid hp
  have HA := Lib.hid hg
  have HPA := Lib.hid hP
  have n1 : 1 ≤ n := hG.n1.1
  have n2 : n ≤ 1024 := hG.n1.2
  have LO := Lib.hid hG.lo
  have LL := Lib.hid hG.ll
  have o2 := hg.blk.cell 2 rfl
  rw [hG.lo] at o2
  have bl := hg.blk.lt
  clear hG hp hg hP
  have J0 := Lib.hid (nrJ_start w G n)
  have hm1 := make_64 n (by omega)
  have hm2 := make_int n (by omega)
  go_enter Try.func71, Try.ntmps71
  go_wp2_with fail
  generalize ((w.alloc (.cells (Array.replicate n (.int .i64 0)) 2)).alloc (.cells (Array.replicate n (.int .i64 0)) 3)).alloc (.cells #[.slice none 0 0, .func (.func 101) #[] #[]] 158) = w1 at J0 ⊢
  generalize hgb : w.heap.size + 1 = gb at *
  generalize hbh : gb + 1 = bh at *
  generalize hgf : w.heap.size = gf at J0 ⊢
  have WG := Lib.hid hgf
  clear hgb hbh hgf
  have GC : Hid (∀ W, Below w.heap.size w W → GrAt W B b gl cl E ce bo G) := Lib.hid (fun W h => HA.out.below h)
  have o0 := Lib.hid (HA.out.blk.cell 0 rfl)
  rw [LL.out] at o0
  go_loopw [33] (fun i wr => ∃ k : Nat, i = .int .i64 k ∧ k ≤ n ∧ Hid (∃ A c H, NrJ w gf gb bh (farI G n k) (viaI n k) A c H wr ∧ StI G k H)) (fun i _ => n - (intOf i).toNat)
  case atStart => exact ⟨0, rfl, Nat.zero_le _, Lib.hid ⟨_, _, _, J0.out, StI.start G⟩⟩
  case round =>
    obtain ⟨k, rfl, hk, HJ⟩ := hrel
    obtain ⟨A, c, H, j, st⟩ := HJ.out
    have JR := Lib.hid j
    have ST := Lib.hid st
    clear HJ j st
    by_cases hlt : k < n
    · have hkn : (k : Int) < (n : Int) := by omega
      have J1 := Lib.hid ((JR.out.putF k 1152921504606846976).putV k (-1))
      have f0 := JR.out.f.cell k (by rw [farI_len]; exact hlt)
      have v0 := JR.out.v.cell k (by rw [viaI_len]; exact hlt)
      have zf := JR.out.f.free k
      have zv := JR.out.v.free k
      have gw := JR.out.nfb
      go_upto_region 8 with fail
      generalize (wr.setCell ⟨gf, k, none⟩ (.int .i64 1152921504606846976)).setCell ⟨gb, k, none⟩ (.int .i64 (-1)) = w2 at J1 ⊢
      clear f0 v0 zf zv gw
      have c0 := (GC.out _ J1.out.bel).blk.cell 0 rfl
      rw [LL.out] at c0
      have l0 := (GC.out _ J1.out.bel).left.cell k (by rw [LL.out]; exact hlt)
      generalize hx : G.left.getD k 0 = x at *
      have HX : Hid (G.lf k = x) := Lib.hid hx
      clear hx
      by_cases hl : 0 < x
      · have J2 := Lib.hid (J1.out.putF k 0)
        have f0 := J1.out.f.cell k (by rw [List.length_set, farI_len]; exact hlt)
        have zf := J1.out.f.free k
        go_upto_region 10 with fail
        generalize w2.setCell ⟨gf, k, none⟩ (.int .i64 0) = w3 at J2 ⊢
        clear f0 zf c0 l0
        go_wp2_with fail
        refine (put_c bh A H.length c H k 0 w.heap.size w3 rfl (by have := ST.out.2.2.2.2; omega) J2.out.bel.size J2.out.h ST.out.2.2.2.1).mono ?_
        rintro e w4 ⟨rfl, A', c', H', hh, hpm, hhp, ht, _⟩
        have J4 := Lib.hid (J2.out.queue ht hh)
        have S4 := Lib.hid (ST.out.yes (by rw [HX.out]; exact hl) hpm hhp)
        clear hh hpm hhp ht
        rw [List.set_set, show (0 : Int) = if 0 < G.lf k then 0 else never from by rw [HX.out, if_pos hl], farI_succ G n k hlt, viaI_succ n k hlt] at J4
        go_wp2_with fail
        go_roundw
        case rel => exact ⟨k + 1, by go_num, by omega, Lib.hid ⟨A', c', H', J4.out, S4.out⟩⟩
        case measure => simp [intOf]; omega
      · have S4 := Lib.hid (ST.out.no (by rw [HX.out]; exact hl))
        rw [show (1152921504606846976 : Int) = if 0 < G.lf k then 0 else never from by rw [HX.out, if_neg hl]; rfl, farI_succ G n k hlt, viaI_succ n k hlt] at J1
        go_wp2_with fail
        go_roundw
        case rel => exact ⟨k + 1, by go_num, by omega, Lib.hid ⟨A, c, H, J1.out, S4.out⟩⟩
        case measure => simp [intOf]; omega
    · obtain rfl : n = k := by omega
      have N0 := Lib.hid (ST.out.ni (p := p))
      have H0 := Lib.hid ST.out.2.2.2
      clear ST
      go_wp2_with fail
      go_loopg [11] (mu (farI G n n) H) (fun m ev wr => ∃ en : Int, ev = .int .i64 en ∧ Hid (∃ fa vi A c H S ds, NrJ w gf gb bh fa vi A c H wr ∧ NI G n p fa vi H S en ds (fun _ => False) ∧ Heap H ∧ H.length ≤ n + S.length * 4096 ∧ mu fa H = m))
      case atStart => exact ⟨-1, rfl, Lib.hid ⟨_, _, _, _, _, [], 0, JR.out, N0.out, H0.out.1, by have := H0.out.2; simp; omega, rfl⟩⟩
      case round =>
        clear JR N0 H0 J0
        obtain ⟨en, rfl, HJ⟩ := hrel
        obtain ⟨fa, vi, A, c, H, S, ds, j, ni, hp, hb, hm⟩ := HJ.out
        have JR := Lib.hid j
        have NR0 := Lib.hid ni
        have HH := Lib.hid hp
        have HB := Lib.hid hb
        have HM := Lib.hid hm
        clear HJ j ni hp hb hm
        have c0 := JR.out.h.1.cell 0 rfl
        generalize hlen : H.length = hn at c0
        have HL := Lib.hid hlen
        clear hlen
        by_cases h0 : hn = 0
        · subst h0
          have he : H = [] := List.eq_nil_of_length_eq_zero HL.out
          have ND := NR0.out
          rw [he] at ND
          have ND := Lib.hid (ND.done HG.out HP.out)
          clear he
          go_wp2_with fail
          exact bodyPost_ret (v := .tuple #[.slice (some ⟨gf, 0, none⟩) n n, .slice (some ⟨gb, 0, none⟩) n n, .int .i64 en]) (by simp [results, Try.results71, go_sem]) rfl ⟨gf, gb, fa, vi, en, rfl, JR.out.bel, JR.out.f, JR.out.v, JR.out.ge.1, JR.out.ge.2.1, ND.out⟩
        · obtain ⟨g, rfl, _⟩ := JR.out.h.2.1.form (by rw [HL.out]; omega)
          have hn0 : 0 < hn := by omega
          have hni : (0 : Int) < (hn : Int) := by omega
          have hn8 : hn ≤ 8388608 := by have := HB.out; have := NR0.out.slen; rw [← HL.out]; omega
          have hmem : H.getD 0 (0, 0) ∈ H := by
            rw [List.getD_eq_getElem?_getD, List.getElem?_eq_getElem (by rw [HL.out]; exact hn0)]
            exact List.getElem_mem _
          have HE := Lib.hid (NR0.out.ent _ hmem)
          have HMN := Lib.hid (fun x (hx : x ∈ H) => heap_minE HH.out x hx)
          have TK := Lib.hid (take_c bh g hn c H w.heap.size wr HL.out.symm hn0 hn8 JR.out.h HH.out)
          have HK0 : Hid (keyAt H 0 = (H.getD 0 (0, 0)).2) := Lib.hid rfl
          clear hmem
          generalize H.getD 0 (0, 0) = e0 at *
          obtain ⟨e0, d⟩ := e0
          obtain ⟨u, rfl⟩ : ∃ u : Nat, e0 = (u : Int) := ⟨e0.toNat, by have := HE.out.1.1; simp only at this; omega⟩
          have hun : u < n := by have := HE.out.1.2; simp only at this; omega
          have hd : d < 1152921504606846976 := HE.out.2.2.1
          have hd0 : 0 ≤ d := by have h1 := HE.out.2.1; have h2 := NR0.out.top u hun; simp only [Int.toNat_natCast] at h1; omega
          go_wp2_with fail
          refine TK.out.mono ?_
          rintro e w2 ⟨rfl, H2, hh, hpm, hhp, ht⟩
          have J2 := Lib.hid (JR.out.queue (ht.mono (fun k hk => hk.imp id (fun h => ownB_some.2 h))) hh)
          have N2 := Lib.hid (NR0.out.perm hpm)
          have MN := Lib.hid (fun x (hx : x ∈ H2) => HMN.out x (hpm.mem_iff.1 (List.mem_cons_of_mem _ hx)))
          rw [HK0.out] at MN
          have HH2 := Lib.hid hhp
          have HM2 := Lib.hid (mu_pop (fa := fa) hpm)
          have HB2 : Hid (H2.length + 1 ≤ n + S.length * 4096) := Lib.hid (by have := hpm.length_eq; have := HB.out; simp only [List.length_cons] at *; omega)
          clear hh hpm hhp ht TK HMN HK0 HE c0
          go_upto_region 15 with fail
          have J3 := Lib.hid (J2.out.below ((Below.refl _ _).alloc (Nat.le_refl _) (.cells #[.int .i64 u, .int .i64 d] 154)))
          have X3 := Lib.hid (Blk.new' w2 #[.int .i64 u, .int .i64 d] 154)
          generalize w2.alloc (.cells #[.int .i64 u, .int .i64 d] 154) = w3 at J3 X3 ⊢
          have hgga : g ≠ w2.heap.size := by have := J2.out.h.2.1.lt.2; omega
          generalize w2.heap.size = ga at *
          clear J2
          have FC : Hid (∀ W, NrJ w gf gb bh fa vi (some ⟨g, 0, none⟩) c H2 W → W.cell? ⟨gf, u, none⟩ = some (.int .i64 (fa.getD u 0))) := Lib.hid (fun W h => h.f.cell u (by rw [NR0.out.l1]; exact hun))
          have NS := Lib.hid (fun h => N2.out.stale (e := ((u : Int), d)) h)
          have NF := Lib.hid (fun h => N2.out.fresh (u := u) (d := d) MN.out h)
          simp only [Int.toNat_natCast] at NS
          generalize hfu : fa.getD u 0 = fu at *
          have HFU := Lib.hid hfu
          clear hfu
          have a0 := X3.out.cell 0 rfl
          have a1 := X3.out.cell 1 rfl
          have gal := X3.out.lt
          have gfl := J3.out.f.lt
          have f0 := FC.out _ J3.out
          refine wp_region_past (by kernel_rfl) (by kernel_rfl) ?_
          repeat (go_big_quiet_step (fail))
          refine wpQuiet_nil ?_
          intro xx
          have J4 := Lib.hid (J3.out.below xx.far)
          have X4 := Lib.hid (X3.out.below xx.far gal)
          generalize xx.w = w4 at J4 X4 ⊢
          clear a0 a1 gal gfl f0 J3 X3
          by_cases hs : fu < d
          · have d1 : decide (fu < d) = true := decide_eq_true hs
            have NS := Lib.hid (NS.out hs)
            simp only [d1]
            go_wp2_with fail
            go_roundg (mu fa H2)
            case measure => rw [← HM.out, ← HM2.out]; omega
            case rel => exact ⟨en, rfl, Lib.hid ⟨fa, vi, _, c, H2, S, ds, J4.out, NS.out, HH2.out, by have := HB2.out; omega, rfl⟩⟩
          · have d1 : decide (fu < d) = false := decide_eq_false hs
            have NF := Lib.hid (NF.out hs)
            simp only [d1]
            clear NS d1
            go_upto_region 16 with fail
            have LC : Hid (∀ W, NrJ w gf gb bh fa vi (some ⟨g, 0, none⟩) c H2 W → W.cell? ⟨gl, u, none⟩ = some (.int .i64 (G.left.getD u 0)) ∧ W.cell? ⟨b, 0, none⟩ = some (.slice (some ⟨gl, 0, none⟩) n cl) ∧ gl < W.heap.size ∧ b < W.heap.size) := Lib.hid (fun W h => by
              have hA := GC.out _ h.bel
              have c0 := hA.blk.cell 0 rfl
              rw [LL.out] at c0
              exact ⟨hA.left.cell u (by rw [LL.out]; exact hun), c0, hA.left.lt.2, hA.blk.lt⟩)
            have HX : Hid (G.lf u = G.left.getD u 0) := Lib.hid rfl
            generalize G.left.getD u 0 = x at *
            rw [HX.out] at NF
            go_cut [86] from 58 to 154 (fun s86 wc => s86 = .bool (decide (x < 0 ∧ en < 0)) ∧ Hid (NrJ w gf gb bh fa vi (some ⟨g, 0, none⟩) c H2 wc ∧ Blk wc ga 154 [.int .i64 u, .int .i64 d]))
            case first =>
              obtain ⟨l0, c0, gll, bll⟩ := LC.out _ J4.out
              have a0 := X4.out.cell 0 rfl
              have gal := X4.out.lt
              by_cases h1 : x < 0
              · have d1 : decide (x < 0) = true := decide_eq_true h1
                by_cases h2 : en < 0
                · have d2 : decide (en < 0) = true := decide_eq_true h2
                  have d3 : decide (x < 0 ∧ en < 0) = true := decide_eq_true ⟨h1, h2⟩
                  refine wp_region_past (by kernel_rfl) (by kernel_rfl) ?_
                  repeat (go_big_quiet_step (fail))
                  refine wpQuiet_nil ?_
                  intro xx
                  have J5 := Lib.hid (J4.out.below xx.far)
                  have X5 := Lib.hid (X4.out.below xx.far gal)
                  generalize xx.w = w5 at J5 X5 ⊢
                  go_wp2_with fail
                  go_meet
                  case rel => exact ⟨by simp [d3], Lib.hid ⟨J5.out, X5.out⟩⟩
                · have d2 : decide (en < 0) = false := decide_eq_false h2
                  have d3 : decide (x < 0 ∧ en < 0) = false := decide_eq_false (fun h => h2 h.2)
                  refine wp_region_past (by kernel_rfl) (by kernel_rfl) ?_
                  repeat (go_big_quiet_step (fail))
                  refine wpQuiet_nil ?_
                  intro xx
                  have J5 := Lib.hid (J4.out.below xx.far)
                  have X5 := Lib.hid (X4.out.below xx.far gal)
                  generalize xx.w = w5 at J5 X5 ⊢
                  go_wp2_with fail
                  go_meet
                  case rel => exact ⟨by simp [d3], Lib.hid ⟨J5.out, X5.out⟩⟩
              · have d1 : decide (x < 0) = false := decide_eq_false h1
                have d3 : decide (x < 0 ∧ en < 0) = false := decide_eq_false (fun h => h1 h.1)
                refine wp_region_past (by kernel_rfl) (by kernel_rfl) ?_
                repeat (go_big_quiet_step (fail))
                refine wpQuiet_nil ?_
                intro xx
                have J5 := Lib.hid (J4.out.below xx.far)
                have X5 := Lib.hid (X4.out.below xx.far gal)
                generalize xx.w = w5 at J5 X5 ⊢
                go_wp2_with fail
                go_meet
                case rel => exact ⟨by simp [d3], Lib.hid ⟨J5.out, X5.out⟩⟩
            case rest =>
              clear J4 X4 LC
              obtain ⟨rfl, HC⟩ := hcut
              go_upto_if 86 with fail
              go_cut [11] from 58 to 154 (fun s11 wc => s11 = .int .i64 (if x < 0 ∧ en < 0 then (u : Int) else en) ∧ Hid (NrJ w gf gb bh fa vi (some ⟨g, 0, none⟩) c H2 wc ∧ Blk wc ga 154 [.int .i64 u, .int .i64 d]))
              case first =>
                have a0 := HC.out.2.cell 0 rfl
                by_cases h3 : x < 0 ∧ en < 0
                · have d3 : decide (x < 0 ∧ en < 0) = true := decide_eq_true h3
                  simp only [d3]
                  go_wp2_with fail
                  go_meet
                  case rel => exact ⟨by rw [if_pos h3], HC⟩
                · have d3 : decide (x < 0 ∧ en < 0) = false := decide_eq_false h3
                  simp only [d3]
                  go_wp2_with fail
                  go_meet
                  case rel => exact ⟨by rw [if_neg h3], HC⟩
              case rest =>
                clear HC
                obtain ⟨rfl, HC⟩ := hcut
                generalize (if x < 0 ∧ en < 0 then (u : Int) else en) = en2 at *
                have J5 := Lib.hid HC.out.1
                have X5 := Lib.hid HC.out.2
                clear HC
                have HU := Lib.hid (HFU.out.trans NF.out.1)
                have N5 := Lib.hid NF.out.2.2.2.2
                have ED : Hid (∀ j, j < (G.outs.getD u []).length → ∃ k : Nat, (G.outs.getD u []).getD j 0 = (k : Int) ∧ k < G.es.length ∧ G.frA k = u) := Lib.hid (fun j hj => edge_at HG.out hun hj)
                have N6 : Hid (NI G n p fa vi H2 (u :: S) en2 d (exJ (G.outs.getD u []) 0)) := Lib.hid (N5.out.excuse (fun k hk _ h => by
                  subst h
                  have := HG.out.o2 k hk
                  simpa [exJ] using this))
                have O3 := Lib.hid (HG.out.o3 u hun)
                have OX := Lib.hid (fun (j k : Nat) => exJ_step (l := G.outs.getD u []) (j := j) (k := k))
                have OE := Lib.hid (fun (k : Nat) => exJ_end (l := G.outs.getD u []) (k := k))
                have OC := Lib.hid (HA.out.outs u (by rw [LO.out]; exact hun))
                clear N5 NF
                generalize G.outs.getD u [] = ol at *
                have CC : Hid (∀ W, Below w.heap.size w W → W.cell? ⟨b, 2, none⟩ = some (.slice (some ⟨bo, 0, none⟩) n n) ∧ bo < W.heap.size ∧ b < W.heap.size) := Lib.hid (fun W h => by
                  have hA := GC.out _ h
                  have c2 := hA.blk.cell 2 rfl
                  rw [LO.out] at c2
                  exact ⟨c2, hA.bo.1, hA.blk.lt⟩)
                obtain ⟨Ao, co, oc0, oco, ocm, oia, _⟩ := OC.out
                have OI := Lib.hid oia
                have oc := (J5.out.bel.cell (p := ⟨bo, u, none⟩) HA.out.bo.1).trans oc0
                clear oc0
                obtain ⟨c2, bol, bll⟩ := CC.out _ J5.out.bel
                have a0 := X5.out.cell 0 rfl
                have gal := X5.out.lt
                clear oia
                generalize hol : ol.length = no at *
                have HOL := Lib.hid hol
                clear hol
                go_upto_region 18 with fail
                refine wp_region_past (by kernel_rfl) (by kernel_rfl) ?_
                repeat (go_big_quiet_step (fail))
                refine wpQuiet_nil ?_
                intro xx
                have J6 := Lib.hid (J5.out.below xx.far)
                have X6 := Lib.hid (X5.out.below xx.far gal)
                generalize xx.w = w6 at J6 X6 ⊢
                clear a0 gal c2 bol bll oc J5 X5
                go_wp2_with fail
                go_loopg [98] no (fun m jv wr => ∃ j : Nat, jv = .int .i64 j ∧ j + m = no ∧ Hid (∃ fa1 vi1 A1 c1 H1, NrJ w gf gb bh fa1 vi1 A1 c1 H1 wr ∧ Blk wr ga 154 [.int .i64 u, .int .i64 d] ∧ ¬ OwnB A1 ga ∧ NI G n p fa1 vi1 H1 (u :: S) en2 d (exJ ol j) ∧ Heap H1 ∧ H1.length + 1 ≤ n + S.length * 4096 + j ∧ mu fa1 H1 ≤ mu fa H2 ∧ fa1.getD u 0 = d))
                case atStart => exact ⟨0, rfl, by omega, Lib.hid ⟨fa, vi, _, c, H2, J6.out, X6.out, fun h => hgga (ownB_some.1 h).symm, N6.out, HH2.out, by have := HB2.out; omega, Nat.le_refl _, HU.out⟩⟩
                case round =>
                  obtain ⟨j, rfl, hjm, HJ⟩ := hrel
                  obtain ⟨fa1, vi1, A1, c1, H1, q1, q2, q8, q3, q4, q5, q6, q7⟩ := HJ.out
                  have JR := Lib.hid q1
                  have XR := Lib.hid q2
                  have NR1 := Lib.hid q3
                  have HH1 := Lib.hid q4
                  have HB1 := Lib.hid q5
                  have HM1 := Lib.hid q6
                  have HU1 := Lib.hid q7
                  have GAN := Lib.hid q8
                  clear HJ q1 q2 q3 q4 q5 q6 q7 q8 J6 X6 N6
                  by_cases hj : j < no
                  · have hji : (j : Int) < (no : Int) := by omega
                    obtain ⟨k, hk, hke, hfr⟩ := ED.out j hj
                    obtain ⟨ad, rfl, adl, ad0⟩ := (OI.out.below JR.out.bel (Nat.le_refl _)) j (by rw [HOL.out]; exact hj)
                    rw [hk] at ad0
                    have EX := Lib.hid (OX.out j k hj hk)
                    have HFR := Lib.hid hfr
                    clear hk hfr
                    obtain ⟨ge, rfl, gel, e0, e1, e2⟩ := (GC.out _ JR.out.bel).edge k hke
                    have hto := HG.out.to k hke
                    have hcb := HG.out.cb k hke
                    have hrm := HG.out.rm k hke
                    have HTO : Hid (G.toA k = (G.es.getD k default).to.toNat) := Lib.hid rfl
                    have HRM : Hid (G.room k = (G.es.getD k default).room) := Lib.hid rfl
                    have HCO : Hid (G.cost k = (G.es.getD k default).cost) := Lib.hid rfl
                    rw [HCO.out] at hcb
                    rw [HRM.out] at hrm
                    have ec1 := (GC.out _ JR.out.bel).blk.cell 1 rfl
                    have hkl : k < G.es.length := hke
                    generalize hml : G.es.length = ml at ec1 hkl
                    have HML := Lib.hid hml
                    clear hml hke
                    have hki : (k : Int) < (ml : Int) := by omega
                    generalize G.es.getD k default = ed at *
                    obtain ⟨t0, ro, co'⟩ := ed
                    simp only at e0 e1 e2 hto hcb hrm HTO HRM HCO
                    obtain ⟨v, rfl⟩ : ∃ v : Nat, t0 = (v : Int) := ⟨t0.toNat, by omega⟩
                    simp only [Int.toNat_natCast] at HTO
                    have hvn : v < n := by omega
                    have HRC : Hid (∀ q : List Int, G.rc q k = co' + q.getD u 0 - q.getD v 0) := Lib.hid (fun q => by unfold Gr.rc; rw [HCO.out, HFR.out, HTO.out])
                    have hpu := HP.out.bd u hun
                    have hpv := HP.out.bd v hvn
                    have PAT : Hid (∀ W, Below w.heap.size w W → ∃ ap, P = some ap ∧ W.cell? (ap.add u) = some (.int .i64 (p.getD u 0)) ∧ W.cell? (ap.add v) = some (.int .i64 (p.getD v 0)) ∧ (ap.add u).block < W.heap.size ∧ (ap.add v).block < W.heap.size) := Lib.hid (fun W h => by
                      have hI := HPA.out.below h (Nat.le_refl _)
                      obtain ⟨a1, e1, b1, c1⟩ := hI u (by rw [HP.out.len]; exact hun)
                      obtain ⟨a2, e2, b2, c2⟩ := hI v (by rw [HP.out.len]; exact hvn)
                      cases e1
                      cases e2
                      exact ⟨_, rfl, c1, c2, by rw [block_add]; exact b1, by rw [block_add]; exact b2⟩)
                    have HR0 := HRC.out p
                    generalize p.getD u 0 = pu at *
                    generalize p.getD v 0 = pv at *
                    have HRC := Lib.hid HR0
                    clear HR0
                    have FV : Hid (∀ W, NrJ w gf gb bh fa1 vi1 A1 c1 H1 W → W.cell? ⟨gf, v, none⟩ = some (.int .i64 (fa1.getD v 0)) ∧ gf < W.heap.size) := Lib.hid (fun W h => ⟨h.f.cell v (by rw [NR1.out.l1]; exact hvn), h.f.lt⟩)
                    have SKIP := Lib.hid (fun h => NR1.out.skip (ex' := exJ ol (j + 1)) (u := u) (k := k) (fun i _ hi => EX.out i hi) HFR.out h)
                    have RLX := Lib.hid (fun dd h1 h2 h3 => NR1.out.relax (ex' := exJ ol (j + 1)) (u := u) (k := k) (d := dd) HG.out HP.out (fun i _ hi => EX.out i hi) (by rw [HML.out]; exact hkl) HFR.out (by simp) HU1.out h1 h2 h3)
                    have MUR := Lib.hid (fun (dd : Int) (H' : List Vs) (e : Vs) (h1 : 0 ≤ dd) (h2 : dd < fa1.getD v 0) (h3 : H'.Perm (e :: H1)) => mu_relax (v := v) (by rw [NR1.out.l1]; exact hvn) (fun i hi => (NR1.out.top i (by rw [← NR1.out.l1]; exact hi)).1) h1 h2 h3)
                    have FU : Hid (∀ dd, (fa1.set v dd).getD u 0 = d) := Lib.hid (fun dd => by
                      rw [getD_setI _ _ _ _ (by rw [NR1.out.l1]; exact hvn), if_neg, HU1.out]
                      intro e
                      have := HG.out.ne k (by rw [HML.out]; exact hkl)
                      rw [HFR.out, HTO.out] at this
                      exact this e.symm)
                    rw [HTO.out, HRC.out, HRM.out, HU1.out] at SKIP
                    rw [HTO.out, HRC.out, HRM.out, HU1.out] at RLX
                    generalize hfv : fa1.getD v 0 = fv at *
                    clear hfv
                    go_upto_region 22 with fail
                    have J7 := Lib.hid (JR.out.below ((Below.refl _ _).alloc (Nat.le_refl _) (.cells #[.int .i64 v, .int .i64 ro, .int .i64 co'] 144)))
                    have X7 := Lib.hid (XR.out.alloc (.cells #[.int .i64 v, .int .i64 ro, .int .i64 co'] 144))
                    have Y7 := Lib.hid (Blk.new' wr #[.int .i64 v, .int .i64 ro, .int .i64 co'] 144)
                    generalize wr.alloc (.cells #[.int .i64 v, .int .i64 ro, .int .i64 co'] 144) = w7 at J7 X7 Y7 ⊢
                    generalize wr.heap.size = gx at *
                    clear e0 e1 e2 ec1 ad0
                    have a0 := X7.out.cell 0 rfl
                    have a1 := X7.out.cell 1 rfl
                    have x0 := Y7.out.cell 0 rfl
                    have x2 := Y7.out.cell 2 rfl
                    have gal := X7.out.lt
                    have gxl := Y7.out.lt
                    obtain ⟨ap, rfl, p0, p1, p2, p3⟩ := PAT.out _ J7.out.bel
                    have s1 : IntKind.i64.wrap (d + co') = d + co' := IntWalk.i64_in _ (by omega)
                    have s2 : IntKind.i64.wrap (d + co' + pu) = d + co' + pu := IntWalk.i64_in _ (by omega)
                    have s3 : IntKind.i64.wrap (d + co' + pu - pv) = d + co' + pu - pv := IntWalk.i64_in _ (by omega)
                    refine wp_region_past (by kernel_rfl) (by kernel_rfl) ?_
                    repeat (go_big_quiet_step (fail))
                    refine wpQuiet_nil ?_
                    intro xx
                    have J8 := Lib.hid (J7.out.below xx.far)
                    have X8 := Lib.hid (X7.out.below xx.far gal)
                    have Y8 := Lib.hid (Y7.out.below xx.far gxl)
                    generalize xx.w = w8 at J8 X8 Y8 ⊢
                    clear s1 s2 s3 a0 a1 x0 x2 gal gxl p0 p1 p2 p3 J7 X7 Y7
                    generalize hdd : d + co' + pu - pv = dd at *
                    have HDD := Lib.hid hdd
                    clear hdd
                    have x0 := Y8.out.cell 0 rfl
                    have x1 := Y8.out.cell 1 rfl
                    obtain ⟨f0, gfl⟩ := FV.out _ J8.out
                    by_cases hr : 0 < ro
                    · have d1 : decide (0 < ro) = true := decide_eq_true hr
                      by_cases hlt : dd < fv
                      · have d2 : decide (dd < fv) = true := decide_eq_true hlt
                        have RX := Lib.hid (RLX.out dd (by have := HDD.out; omega) hlt hr)
                        have v0 := J8.out.v.cell v (by rw [NR1.out.l2]; exact hvn)
                        go_upto_region 24 with fail
                        clear x0 x1 f0 gfl v0
                        have gln : Hid (fa1.length = n ∧ vi1.length = n) := Lib.hid ⟨NR1.out.l1, NR1.out.l2⟩
                        refine wp_region_spine 9 [true] [] ?af24 (fun V => (∃ fa2, NrJ w gf gb bh fa2 vi1 A1 c1 H1 V ∧ fa2.length = n ∧ fa2.set v dd = fa1.set v dd) ∧ Blk V ga 154 [.int .i64 u, .int .i64 d] ∧ Blk V gx 144 [.int .i64 v, .int .i64 ro, .int .i64 co']) (by kernel_rfl) (by kernel_rfl) ⟨⟨fa1, J8.out.drew, gln.out.1, rfl⟩, X8.out.drew, Y8.out.drew⟩ ?walk24 ?spine24
                        case walk24 =>
                          rintro V ⟨_, _, hV⟩
                          have x0 := hV.cell 0 rfl
                          clear hV
                          simp only [List.take_succ_cons, List.take_zero]
                          repeat (go_big_quiet_step (fail))
                          refine wpQuiet_nil ?_
                          rfl
                        case spine24 =>
                          rintro V ⟨⟨fa2, h1, h2, h3⟩, h4, h5⟩
                          have JV := Lib.hid h1
                          have L2 := Lib.hid h2
                          have SE := Lib.hid h3
                          have XV := Lib.hid h4
                          have YV := Lib.hid h5
                          have f0 := h1.f.cell v (by rw [h2]; exact hvn)
                          have zf := h1.f.free v
                          have J9 := Lib.hid (h1.putF v dd)
                          have X9 := Lib.hid (h4.setCell_ne (p := ⟨gf, v, none⟩) (h1.f.ne h4 (by decide)) (.int .i64 dd))
                          have Y9 := Lib.hid (h5.setCell_ne (p := ⟨gf, v, none⟩) (h1.f.ne h5 (by decide)) (.int .i64 dd))
                          clear h1 h2 h3 h4 h5
                          refine spineV_cons ?_
                          unfold StepV
                          go_simp
                          generalize V.setCell ⟨gf, v, none⟩ (.int .i64 dd) = V1 at J9 X9 Y9 ⊢
                          rw [SE.out] at J9
                          clear f0 zf
                          refine ⟨⟨⟨_, J9.out, by rw [List.length_set]; exact gln.out.1, List.set_set ..⟩, X9.out, Y9.out⟩, ?_⟩
                          refine spineV_nil ?_
                          have v0 := J9.out.v.cell v (by rw [gln.out.2]; exact hvn)
                          have zv := J9.out.v.free v
                          have x0 := Y9.out.cell 0 rfl
                          go_upto_region 25 with fail
                          have J10 := Lib.hid (J9.out.putV v k)
                          have X10 := Lib.hid (X9.out.setCell_ne (p := ⟨gb, v, none⟩) (J9.out.v.ne X9.out (by decide)) (.int .i64 k))
                          have Y10 := Lib.hid (Y9.out.setCell_ne (p := ⟨gb, v, none⟩) (J9.out.v.ne Y9.out (by decide)) (.int .i64 k))
                          generalize V1.setCell ⟨gb, v, none⟩ (.int .i64 k) = V2 at J10 X10 Y10 ⊢
                          clear v0 zv x0 J9 X9 Y9 XV YV JV
                          have x0 := Y10.out.cell 0 rfl
                          go_wp2_with fail
                          refine (put_c bh A1 H1.length c1 H1 v dd w.heap.size V2 rfl (by have := HB1.out; have := NR1.out.slen; have := O3.out; simp only [List.length_cons] at *; omega) J10.out.bel.size J10.out.h HH1.out).mono ?_
                          rintro e V3 ⟨rfl, A', c', H', hh, hpm, hhp, ht, hk⟩
                          have J11 := Lib.hid (J10.out.queue ht hh)
                          have X11 := Lib.hid (X10.out.touch ht (fun hs => by
                            rcases hs with hs | hs
                            · exact blk_type_ne X10.out J10.out.h.1 (by decide) hs.symm
                            · exact GAN.out hs))
                          have N11 := Lib.hid (RX.out.2.2.perm hpm)
                          have M11 := Lib.hid (MUR.out dd H' _ RX.out.2.1 hlt hpm)
                          have HH11 := Lib.hid hhp
                          have HL11 := Lib.hid hpm.length_eq
                          have GA11 : Hid (¬ OwnB A' ga) := Lib.hid (fun hs => by
                            rcases hk ga hs with h1 | h1
                            · exact GAN.out h1
                            · have := X10.out.lt; omega)
                          clear hh hpm hhp ht hk x0
                          go_wp2_with fail
                          go_roundg (gk - 1)
                          case measure => omega
                          case rel => exact ⟨j + 1, by go_num, by omega, Lib.hid ⟨_, _, A', c', H', J11.out, X11.out, GA11.out, N11.out, HH11.out, by have := HB1.out; have := HL11.out; simp only [List.length_cons] at this; omega, Nat.le_trans M11.out HM1.out, FU.out dd⟩⟩
                      · have d2 : decide (dd < fv) = false := decide_eq_false hlt
                        have SK := Lib.hid (SKIP.out (by have := HDD.out; omega))
                        go_wp2_with fail
                        go_roundg (gk - 1)
                        case measure => omega
                        case rel => exact ⟨j + 1, by go_num, by omega, Lib.hid ⟨fa1, vi1, A1, c1, H1, J8.out, X8.out, GAN.out, SK.out, HH1.out, by have := HB1.out; omega, HM1.out, HU1.out⟩⟩
                    · have d1 : decide (0 < ro) = false := decide_eq_false hr
                      have SK := Lib.hid (SKIP.out (by omega))
                      go_wp2_with fail
                      go_roundg (gk - 1)
                      case measure => omega
                      case rel => exact ⟨j + 1, by go_num, by omega, Lib.hid ⟨fa1, vi1, A1, c1, H1, J8.out, X8.out, GAN.out, SK.out, HH1.out, by have := HB1.out; omega, HM1.out, HU1.out⟩⟩
                  · obtain rfl : j = no := by omega
                    have NZ := NR1.out.excuse (ex' := fun _ => False) (fun k _ _ h => OE.out k h)
                    have NZ := Lib.hid NZ
                    go_wp2_with fail
                    go_roundg (mu fa1 H1)
                    case measure => have h1 := HM.out; have h2 := HM2.out; have h3 := HM1.out; omega
                    case rel => exact ⟨en2, rfl, Lib.hid ⟨fa1, vi1, _, c1, H1, u :: S, d, JR.out, NZ.out, HH1.out, by have := HB1.out; have := O3.out; simp only [List.length_cons]; omega, rfl⟩⟩
end Go.Proofs.Ytmebpglkeedaoaa
