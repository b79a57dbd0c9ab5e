/- Contracts that the claim leans on, part 3: D11 D12 A1 A3 A2 A4 C6 C7 C8 C9 C10 C11 C12 C13 C14 C15 A5 M17 N3 S1 M18 M19 S4b S4 S5 -/
import Derived.Test.YtmebpglkeedaoaaDS2
import Derived.Deep.CutRange
import Derived.Deep.Cut
import Derived.WalkMore
set_option linter.unusedVariables false
set_option linter.unusedSimpArgs false
set_option linter.unnecessarySimpa false
namespace Go.Proofs.Ytmebpglkeedaoaa
open Go.RowKit Dp
theorem mv_at (l : List Int) (i : Nat) (d v : Int) (h : v = l.getD i 0 + d) : mv l (i : Int) d = l.set i v := by subst h; simp [mv]
theorem push1_eq {G : Gr} {n k : Nat} {x a d : Int} (hG : G.Ok n) (hk : k < G.es.length) (ha : a = G.lf (G.frA k) - x) (hd : d = G.lf (G.toA k) + x) :
    ({ left := (G.left.set (G.frA k) a).set (G.toA k) d, es := pushE G.es k x, outs := G.outs } : Gr) = G.push1 k x := by
  unfold Gr.push1
  rw [mv_at G.left (G.frA k) (-x) a (by rw [ha]; unfold Gr.lf; omega), mv_at _ (G.toA k) x d (by
    rw [getD_setI _ _ _ _ (by rw [hG.ll]; exact hG.frL hk), if_neg (hG.ne k hk), hd]; rfl)]
theorem OutsAt.more {w : World} {bo : Nat} {outs : List (List Int)} {S S' : Nat → Prop} (h : OutsAt w bo outs S) (hs : ∀ k, k < w.heap.size → ¬ S k → ¬ S' k) : OutsAt w bo outs S' := fun i hi => by
  obtain ⟨A, c, h1, h2, h3, h4, h5⟩ := h i hi
  exact ⟨A, c, h1, h2, h3, h4, fun k hk => ⟨(h5 k hk).1, hs k (h5 k hk).1 (h5 k hk).2⟩⟩
theorem GrAt.far {w : World} {B b gl cl ce bo gp : Nat} {E : Option Addr} {G : Gr} (h : GrAt w B b gl cl E ce bo G) (ho : OutsAt w bo G.outs (fun k => k = b ∨ k = gl ∨ OwnB E k ∨ k = gp)) {p : Addr} (hp : p.block = gp) (h1 : b ≠ gp) (h2 : gl ≠ gp) (h3 : ¬ OwnB E gp) (h4 : bo ≠ gp) (u : Value) :
    GrAt (w.setCell p u) B b gl cl E ce bo G ∧ OutsAt (w.setCell p u) bo G.outs (fun k => k = b ∨ k = gl ∨ OwnB E k ∨ k = gp) := by
  have ho2 := ho.touch (T := fun k => k = gp) h.bo.1 h4 (fun k e => .inr (.inr (.inr e))) ((Touch.refl (fun k => k = gp) w).setCell (p := p) (.inl hp) u)
  refine ⟨{ blk := h.blk.setCell_ne (by rw [hp]; exact h1) _, left := ownSet h.left (fun e => by have := ownB_some.1 e; rw [hp] at this; exact h2 this.symm) _, es := h.es.set_ne (by rw [hp]; exact h3) _, outs := ho2.more (fun k _ hn hs => hn (by rcases hs with a | a | a; exact .inl a; exact .inr (.inl a); exact .inr (.inr (.inl a)))), bo := ⟨by simp [World.setCell]; exact h.bo.1, h.bo.2⟩, ne := h.ne, base := h.base }, ho2⟩
set_option maxHeartbeats 2000000 in
set_option maxRecDepth 100000 in
theorem least_c (b gl cl ce bo B n : Nat) (E : Option Addr) (G : Gr) (N : Net) (w : World) (hn : N.sup.length = n) (hch : chE N = 0) (hG : G.Ok n) (hf : Fits N G) (h0 : ∀ i, i < N.arcs.length → G.room (2 * i + 1) = 0) (hg : GrAt w B b gl cl E ce bo G) :
    Calls Try.prog 63 #[.pointer (some ⟨b, 0, none⟩)] w fun e w' => ∃ (gp : Nat) (G' : Gr) (p fa vi : List Int) (D : Int), e = .returned (.slice (some ⟨gp, 0, none⟩) n n) ∧ Fl 2 w' gp p ∧ GrAt w' B b gl cl E ce bo G' ∧ G'.Ok n ∧ Fits N G' ∧ PotD G' n p D ∧ NR G' n p fa vi (-1) ∧ Touch (fun k => k = gl ∨ OwnB E k) w w' ∧ w.heap.size ≤ gp := by
  have HN := Lib.hid hn
  have HCH := Lib.hid hch
  have S0 : Hid (Sat N G 0) := Lib.hid (sat_start hch (by rw [hn]; exact hG) hf h0)
  have HA := Lib.hid hg
  have n1 := hG.n1.1
  have n2 := hG.n1.2
  have hle := hG.le
  have c1 := hg.blk.cell 1 rfl
  have gll := hg.left.lt.2
  have EBL := Lib.hid (fun k (h : OwnB E k) => (ownLt hg.es h).1)
  clear hn hch h0 hf hg
  generalize hml : G.es.length = ml at *
  have HML := Lib.hid hml
  clear hml
  go_enter Try.func63, Try.ntmps63
  go_wp2_with fail
  go_loopg [15] ml (fun q iv wr => ∃ k : Nat, iv = .int .i64 k ∧ k + q = ml ∧ Hid (∃ G1, Dp.Alike G G1 ∧ Sat N G1 k ∧ GrAt wr B b gl cl E ce bo G1 ∧ Touch (fun k => k = gl ∨ OwnB E k) w wr))
  case atStart => exact ⟨0, rfl, by omega, Lib.hid ⟨G, Alike.refl G, S0.out, HA.out, Touch.refl _ _⟩⟩
  case round =>
    obtain ⟨k, rfl, hkq, HJ⟩ := hrel
    obtain ⟨G1, q1, q2, q3, q4⟩ := HJ.out
    have AL := Lib.hid q1
    have SA := Lib.hid q2
    have GA := Lib.hid q3
    have TA := Lib.hid q4
    clear HJ q1 q2 q3 q4 c1
    by_cases hlt : k < ml
    · have hki : (k : Int) < (ml : Int) := by omega
      obtain ⟨ge, rfl, gel, e0, e1, e2⟩ := GA.out.edge k (by rw [AL.out.le, HML.out]; exact hlt)
      have HTO : Hid (G1.toA k = (G1.es.getD k default).to.toNat) := Lib.hid rfl
      have HRM : Hid (G1.room k = (G1.es.getD k default).room) := Lib.hid rfl
      have HCO : Hid (G1.cost k = (G1.es.getD k default).cost) := Lib.hid rfl
      have hto := SA.out.ok.to k (by rw [AL.out.le, HML.out]; exact hlt)
      generalize G1.es.getD k default = ed at *
      obtain ⟨t0, ro, co⟩ := ed
      simp only at e0 e1 e2 hto HTO HRM HCO
      obtain ⟨v, rfl⟩ : ∃ v : Nat, t0 = (v : Int) := ⟨t0.toNat, by omega⟩
      simp only [Int.toNat_natCast] at HTO
      by_cases hpar : k % 2 = 0
      · have hp1 : (k : Int) % 2 = 0 := by omega
        by_cases hco : co < 0
        · have d1 : decide (co < 0) = true := decide_eq_true hco
          -- the arc carries all it can
          have SY := Lib.hid (SA.out.yes (by rw [AL.out.le, HML.out]; exact hlt) hpar (by rw [HCO.out]; exact hco))
          have hkl : k < G1.es.length := by rw [AL.out.le, HML.out]; exact hlt
          have PE := Lib.hid (fun x a d => push1_eq (x := x) (a := a) (d := d) SA.out.ok hkl)
          have AY := Lib.hid (AL.out.trans (push1_alike (x := G1.room k) hkl (SA.out.ok.tl hkl)))
          have htl := SA.out.ok.tl hkl
          have hne : G1.toA k ≠ G1.frA k := SA.out.ok.ne k hkl
          have hfn := SA.out.ok.frL hkl
          have hvn := SA.out.ok.toL hkl
          have hbf := SA.out.bd _ hfn
          have hbv := SA.out.bd _ hvn
          have hrm := SA.out.ok.rm k hkl
          have hrt := SA.out.ok.rm (tw k) htl
          rw [tw_tw] at hrt
          have LL1 : Hid (G1.left.length = n) := Lib.hid (by rw [SA.out.ok.ll, HN.out])
          have hp2 : tw k = k + 1 := by unfold tw; rw [if_pos hpar]
          obtain ⟨ge', hge, _, f0, _, _⟩ := GA.out.edge (tw k) htl
          cases hge
          rw [ok_to SA.out.ok htl] at f0
          have HFR : Hid (G1.frA k = G1.toA (tw k)) := Lib.hid rfl
          rw [← HFR.out, hp2] at f0
          rw [AL.out.le, HML.out, hp2] at htl
          rw [hp2] at hrm hrt
          rw [HTO.out] at hne hvn hbv PE
          rw [HRM.out] at hrm hrt SY AY
          rw [HN.out] at hfn hvn
          generalize hfrg : G1.frA k = fr at *
          have HFG := Lib.hid hfrg
          have HLF : Hid (G1.lf fr = G1.left.getD fr 0 ∧ G1.lf v = G1.left.getD v 0) := Lib.hid ⟨rfl, rfl⟩
          rw [HLF.out.1, HLF.out.2] at PE
          rw [HLF.out.1] at hbf
          rw [HLF.out.2] at hbv
          clear hfrg
          have hk1 : k + 1 < ml := htl
          have hk1i : (k : Int) + 1 < (ml : Int) := by omega
          have hk2 : k < 4096 := by omega
          have CW : Hid (∀ W, GrAt W B b gl cl (some ⟨ge, 0, none⟩) ce bo G1 → W.cell? ⟨b, 0, none⟩ = some (.slice (some ⟨gl, 0, none⟩) n cl) ∧ W.cell? ⟨b, 1, none⟩ = some (.slice (some ⟨ge, 0, none⟩) ml ce) ∧ W.cell? ⟨ge, (k + 1) * 3, none⟩ = some (.int .i64 fr) ∧ W.cell? ⟨gl, fr, none⟩ = some (.int .i64 (G1.left.getD fr 0))) := Lib.hid (fun W h => by
            have q0 := h.blk.cell 0 rfl
            have q1 := h.blk.cell 1 rfl
            rw [LL1.out] at q0
            rw [AL.out.le, HML.out] at q1
            obtain ⟨ge', hge, _, g0, _, _⟩ := h.edge (k + 1) (by rw [AL.out.le, HML.out]; exact hk1)
            cases hge
            rw [← hp2, ok_to SA.out.ok (by rw [hp2, AL.out.le, HML.out]; exact hk1), ← HFR.out, hp2] at g0
            exact ⟨q0, q1, g0, h.left.cell fr (by rw [LL1.out]; exact hfn)⟩)
          have LV : Hid (∀ x, (G1.left.set fr x).getD v 0 = G1.left.getD v 0) := Lib.hid (fun x => by rw [getD_setI _ _ _ _ (by rw [LL1.out]; exact hfn), if_neg hne])
          go_upto_region 5 with fail
          have al := (Below.refl wr.heap.size wr).alloc (Nat.le_refl _) (.cells #[.int .i64 v, .int .i64 ro, .int .i64 co] 144)
          have G2 := Lib.hid (GA.out.below al)
          have T2 := Lib.hid (TA.out.below al)
          have X2 := Lib.hid (Blk.new' wr #[.int .i64 v, .int .i64 ro, .int .i64 co] 144)
          clear al f0 e0 e1 e2
          have hgx : wr.heap.size ≠ gl := by have := GA.out.left.lt.2; omega
          generalize wr.alloc (.cells #[.int .i64 v, .int .i64 ro, .int .i64 co] 144) = w2 at G2 T2 X2 ⊢
          generalize wr.heap.size = gx at *
          have hfi : (fr : Int) < (n : Int) := by omega
          have hvi : (v : Int) < (n : Int) := by omega
          generalize hlfr : G1.left.getD fr 0 = lfr at *
          generalize hlv : G1.left.getD v 0 = lv0 at *
          have HL1 := Lib.hid hlfr
          have HL2 := Lib.hid hlv
          clear hlfr hlv
          refine wp_region_spine 19 [false] [] ?af5 (fun V => GrAt V B b gl cl (some ⟨ge, 0, none⟩) ce bo G1 ∧ Touch (fun k => k = gl ∨ OwnB (some ⟨ge, 0, none⟩) k) w V ∧ Blk V gx 144 [.int .i64 v, .int .i64 ro, .int .i64 co]) (by kernel_rfl) (by kernel_rfl) ⟨G2.out.below (Below.refl _ _).drew, T2.out.drew, X2.out.drew⟩ ?walk5 ?spine5
          case walk5 =>
            rintro V ⟨h1, _, h3⟩
            obtain ⟨q0, q1, q2, q3⟩ := CW.out V h1
            have x1 := h3.cell 1 rfl
            clear h1 h3
            simp only [List.take_succ_cons, List.take_zero]
            repeat (go_big_quiet_step (fail))
            refine wpQuiet_nil ?_
            rfl
          case spine5 =>
            rintro V ⟨h1, h2, h3⟩
            obtain ⟨q0, q1, q2, q3⟩ := CW.out V h1
            have z0 := h1.left.free fr
            have G3 := Lib.hid (h1.putL fr (lfr - ro))
            have T3 := Lib.hid (h2.setCell (p := ⟨gl, fr, none⟩) (.inl (.inl rfl)) (.int .i64 (lfr - ro)))
            have X3 := Lib.hid (h3.setCell_ne (p := ⟨gl, fr, none⟩) hgx (.int .i64 (lfr - ro)))
            clear h1 h2 h3
            refine spineV_cons ?_
            unfold StepV
            go_simp
            generalize V.setCell ⟨gl, fr, none⟩ (.int .i64 (lfr - ro)) = V1 at G3 T3 X3 ⊢
            clear q0 q1 q2 q3 z0
            refine spineV_nil ?_
            go_upto_region 6 with fail
            have CV : Hid (∀ W, GrAt W B b gl cl (some ⟨ge, 0, none⟩) ce bo { G1 with left := G1.left.set fr (lfr - ro) } → W.cell? ⟨b, 0, none⟩ = some (.slice (some ⟨gl, 0, none⟩) n cl) ∧ W.cell? ⟨gl, v, none⟩ = some (.int .i64 lv0)) := Lib.hid (fun W h => by
              have q0 := h.blk.cell 0 rfl
              have q1 := h.left.cell v (by show v < (G1.left.set fr (lfr - ro)).length; rw [List.length_set, LL1.out]; exact hvn)
              simp only [List.length_set, LL1.out] at q0
              simp only [LV.out] at q1
              exact ⟨q0, q1⟩)
            refine wp_region_spine 12 [false] [] ?af6 (fun V => GrAt V B b gl cl (some ⟨ge, 0, none⟩) ce bo { G1 with left := G1.left.set fr (lfr - ro) } ∧ Touch (fun k => k = gl ∨ OwnB (some ⟨ge, 0, none⟩) k) w V ∧ Blk V gx 144 [.int .i64 v, .int .i64 ro, .int .i64 co]) (by kernel_rfl) (by kernel_rfl) ⟨G3.out.below (Below.refl _ _).drew, T3.out.drew, X3.out.drew⟩ ?walk6 ?spine6
            case walk6 =>
              rintro V ⟨h1, _, h3⟩
              obtain ⟨q0, q1⟩ := CV.out V h1
              have x0 := h3.cell 0 rfl
              have x1 := h3.cell 1 rfl
              clear h1 h3
              simp only [List.take_succ_cons, List.take_zero]
              repeat (go_big_quiet_step (fail))
              refine wpQuiet_nil ?_
              rfl
            case spine6 =>
              rintro V ⟨h1, h2, h3⟩
              obtain ⟨q0, q1⟩ := CV.out V h1
              have z0 := h1.left.free v
              have G4 := Lib.hid (h1.putL v (lv0 + ro))
              have T4 := Lib.hid (h2.setCell (p := ⟨gl, v, none⟩) (.inl (.inl rfl)) (.int .i64 (lv0 + ro)))
              have X4 := Lib.hid (h3.setCell_ne (p := ⟨gl, v, none⟩) hgx (.int .i64 (lv0 + ro)))
              clear h1 h2 h3
              refine spineV_cons ?_
              unfold StepV
              go_simp
              generalize V.setCell ⟨gl, v, none⟩ (.int .i64 (lv0 + ro)) = V2 at G4 T4 X4 ⊢
              clear q0 q1 z0
              refine spineV_nil ?_
              have x1 := X4.out.cell 1 rfl
              go_wp2_with fail
              have PU := push_c b gl cl ce bo B (some ⟨ge, 0, none⟩) { left := (G1.left.set fr (lfr - ro)).set v (lv0 + ro), es := G1.es, outs := G1.outs } k ro V2 (by show k < G1.es.length; rw [AL.out.le, HML.out]; exact hlt) (by show tw k < G1.es.length; rw [hp2, AL.out.le, HML.out]; exact hk1) (by show G1.es.length ≤ 4096; rw [AL.out.le, HML.out]; exact hle)
                (by show -8589934592 ≤ G1.room k ∧ G1.room k ≤ 8589934592; rw [HRM.out]; omega) (by show -8589934592 ≤ G1.room (tw k) ∧ G1.room (tw k) ≤ 8589934592; rw [hp2]; omega) (by omega) G4.out
              refine PU.mono ?_
              rintro e V3 ⟨rfl, g5, t5⟩
              have G5 : GrAt V3 B b gl cl (some ⟨ge, 0, none⟩) ce bo (G1.push1 k ro) := by
                have e := PE.out ro (lfr - ro) (lv0 + ro) rfl rfl
                rw [← e]
                exact g5
              have G5 := Lib.hid G5
              have T5 := Lib.hid (T4.out.trans (t5.mono (fun q hq => .inr hq)))
              clear g5 t5 PU x1
              go_wp2_with fail
              go_roundg (gk - 1)
              case measure => omega
              case rel => exact ⟨k + 1, by go_num, by omega, Lib.hid ⟨_, AY.out, SY.out, G5.out, T5.out⟩⟩
        · have d1 : decide (co < 0) = false := decide_eq_false hco
          have SN := Lib.hid (SA.out.no (fun h => hco (by have := h.2; rw [HCO.out] at this; exact this)))
          have al := (Below.refl wr.heap.size wr).alloc (Nat.le_refl _) (.cells #[.int .i64 v, .int .i64 ro, .int .i64 co] 144)
          have G2 := Lib.hid (GA.out.below al)
          have T2 := Lib.hid (TA.out.below al)
          clear al
          go_wp2_with fail
          go_roundg (gk - 1)
          case measure => omega
          case rel => exact ⟨k + 1, by go_num, by omega, Lib.hid ⟨G1, AL.out, SN.out, G2.out, T2.out⟩⟩
      · have hp1 : (k : Int) % 2 = 1 := by omega
        have SN := Lib.hid (SA.out.no (fun h => hpar h.1))
        have al := (Below.refl wr.heap.size wr).alloc (Nat.le_refl _) (.cells #[.int .i64 v, .int .i64 ro, .int .i64 co] 144)
        have G2 := Lib.hid (GA.out.below al)
        have T2 := Lib.hid (TA.out.below al)
        clear al
        go_wp2_with fail
        go_roundg (gk - 1)
        case measure => omega
        case rel => exact ⟨k + 1, by go_num, by omega, Lib.hid ⟨G1, AL.out, SN.out, G2.out, T2.out⟩⟩
    · obtain rfl : ml = k := by omega
      have SP : Hid (PotD G1 n (List.replicate n 0) 0) := Lib.hid (by
        have h := SA.out
        have e : G1.es.length = ml := by rw [AL.out.le, HML.out]
        rw [← e] at h
        have h2 := h.pot
        rw [HN.out] at h2
        exact h2)
      have OK1 : Hid (G1.Ok n) := Lib.hid (by have := SA.out.ok; rw [HN.out] at this; exact this)
      have FT1 := Lib.hid SA.out.fit
      have hm1 := make_64 n (by omega)
      have c2 := GA.out.blk.cell 2 rfl
      rw [OK1.out.lo] at c2
      clear SA S0
      have F0 := Lib.hid (fl_new 2 n wr)
      have al := (Below.refl wr.heap.size wr).alloc (Nat.le_refl _) (.cells (Array.replicate n (.int .i64 0)) 2)
      have G2 := Lib.hid (GA.out.below al)
      have T2 := Lib.hid (TA.out.below al)
      have hgp : w.heap.size ≤ wr.heap.size := TA.out.size
      have hgl : gl < wr.heap.size := GA.out.left.lt.2
      have EB2 := Lib.hid (fun k (h : OwnB E k) => (ownLt GA.out.es h).1)
      have HO1 := Lib.hid (GA.out.outs.more (S' := fun k => k = b ∨ k = gl ∨ OwnB E k ∨ k = wr.heap.size) (fun k hk hn hs => by
        rcases hs with a | a | a | a
        · exact hn (.inl a)
        · exact hn (.inr (.inl a))
        · exact hn (.inr (.inr a))
        · omega))
      have HO2 := Lib.hid (HO1.out.below GA.out.bo.1 al)
      have hbgp : b ≠ wr.heap.size := by have := GA.out.blk.lt; omega
      have hglp : gl ≠ wr.heap.size := by omega
      have hbop : bo ≠ wr.heap.size := by have := GA.out.bo.1; omega
      have hegp : ¬ OwnB E wr.heap.size := fun h => by have := EB2.out _ h; omega
      clear al HO1
      go_wp2_with fail
      generalize wr.alloc (.cells (Array.replicate n (.int .i64 0)) 2) = w2 at F0 G2 T2 HO2 ⊢
      generalize wr.heap.size = gp at *
      clear c2 GA TA
      go_loopg [8] (restV G1.left).toNat (fun q ev wr => Hid (∃ G2 p D, Dp.Alike G G2 ∧ G2.Ok n ∧ Fits N G2 ∧ GrAt wr B b gl cl E ce bo G2 ∧ Fl 2 wr gp p ∧ PotD G2 n p D ∧ (restV G2.left).toNat = q ∧ Touch (fun k => k = gl ∨ OwnB E k) w wr ∧ OutsAt wr bo G2.outs (fun k => k = b ∨ k = gl ∨ OwnB E k ∨ k = gp)))
      case atStart => exact Lib.hid ⟨G1, _, 0, AL.out, OK1.out, FT1.out, G2.out, F0.out, SP.out, rfl, T2.out, HO2.out⟩
      case round =>
        clear AL OK1 FT1 G2 F0 SP T2
        obtain ⟨G2, p, D, q1, q2, q3, q4, q5, q6, q7, q8, q9⟩ := hrel.out
        have AL := Lib.hid q1
        have OK := Lib.hid q2
        have FT := Lib.hid q3
        have GA := Lib.hid q4
        have FP := Lib.hid q5
        have PD := Lib.hid q6
        have HR := Lib.hid q7
        have TA := Lib.hid q8
        have PL := Lib.hid q6.len
        have HO := Lib.hid q9
        clear hrel q1 q2 q3 q4 q5 q6 q7 q8 q9 HO2
        go_wp2_with fail
        refine (nearest_c b gl cl ce bo B n n E (some ⟨gp, 0, none⟩) G2 p wr OK.out (PD.out.pot n2) GA.out FP.out.ints ⟨Nat.le_refl _, by omega⟩).mono ?_
        rintro e w3 ⟨gf, gb, fa, vi, en, rfl, hb3, hf3, hv3, z1, z2, nr⟩
        have G3 := Lib.hid (GA.out.below hb3)
        have T3 := Lib.hid (TA.out.below hb3)
        have P3 := Lib.hid (FP.out.below hb3)
        have F3 := Lib.hid hf3
        have V3 := Lib.hid hv3
        have O3 := Lib.hid (HO.out.below GA.out.bo.1 hb3)
        have NRR := Lib.hid nr
        have hpf : gp ≠ gf := by have := FP.out.lt; omega
        have hpb : gb ≠ gl ∧ ¬ OwnB E gb := by
          have h1 := GA.out.left.lt.2
          refine ⟨by omega, fun h => ?_⟩
          have := (ownLt GA.out.es h).1
          omega
        clear hb3 hf3 hv3 nr
        by_cases hen : en < 0
        · have hem : en = -1 := by
            rcases NRR.out.fin with ⟨e, _⟩ | ⟨t, e, _⟩
            · exact e
            · omega
          subst hem
          go_wp2_with fail
          exact bodyPost_ret (v := .slice (some ⟨gp, 0, none⟩) n n) (by simp [results, Try.results63, go_sem]) rfl ⟨gp, G2, p, fa, vi, D, rfl, P3.out, G3.out, OK.out, FT.out, PD.out, NRR.out, T3.out, hgp⟩
        · obtain ⟨t, rfl⟩ : ∃ t : Nat, en = t := ⟨en.toNat, by omega⟩
          have TF : Hid (t < n ∧ G2.lf t < 0 ∧ fa.getD t 0 < never ∧ ∀ v, v < n → G2.lf v < 0 → fa.getD t 0 ≤ fa.getD v 0) := Lib.hid (by
            rcases NRR.out.fin with ⟨e, _⟩ | ⟨t', e, h1, h2, h3, h4⟩
            · omega
            · obtain rfl : t' = t := by omega
              exact ⟨h1, h2, h3, h4⟩)
          have htn : t < n := TF.out.1
          have hti : (t : Int) < (n : Int) := by omega
          have ftb := NRR.out.top t htn
          have P0 : Hid (Fl 2 w3 gp (potI n p fa (fa.getD t 0) 0)) := Lib.hid (by rw [← potI_zero PL.out fa (fa.getD t 0)]; exact P3.out)
          have PG := Lib.hid (fun k v (hv : v < n) => potI_get (p := p) (fa := fa) (d := fa.getD t 0) (k := k) hv)
          have PS := Lib.hid (fun k (hk : k < n) => potI_succ (p := p) (fa := fa) (d := fa.getD t 0) hk)
          have PEN := Lib.hid (potI_end n p fa (fa.getD t 0))
          have PLN := Lib.hid (potI_len n p fa (fa.getD t 0))
          have FTC : Hid (∀ W, Fl 2 W gf fa → W.cell? ⟨gf, t, none⟩ = some (.int .i64 (fa.getD t 0))) := Lib.hid (fun W h => h.cell t (by rw [NRR.out.l1]; exact htn))
          have RP := Lib.hid (fun x ks s (h1 : Sent G2 n vi ks s t x) h2 => round_pot OK.out PD.out NRR.out h1 h2)
          generalize hft : fa.getD t 0 = ft at *
          have HFT := Lib.hid hft
          clear hft P3
          unfold never at ftb
          go_wp2_with fail
          go_loopw [83] (fun iv wr => ∃ k : Nat, iv = .int .i64 k ∧ k ≤ n ∧ Hid (Fl 2 wr gp (potI n p fa ft k) ∧ Fl 2 wr gf fa ∧ Fl 3 wr gb vi ∧ GrAt wr B b gl cl E ce bo G2 ∧ Touch (fun k => k = gl ∨ OwnB E k) w wr ∧ OutsAt wr bo G2.outs (fun k => k = b ∨ k = gl ∨ OwnB E k ∨ k = gp))) (fun iv _ => n - (intOf iv).toNat)
          case atStart => exact ⟨0, rfl, Nat.zero_le _, Lib.hid ⟨P0.out, F3.out, V3.out, G3.out, T3.out, O3.out⟩⟩
          case round =>
            clear P0 F3 V3 G3 T3 O3
            obtain ⟨k, rfl, hk, HJ⟩ := hrel
            by_cases hlt : k < n
            · have hki : (k : Int) < (n : Int) := by omega
              have pb := PD.out.lo k hlt
              have pd := PD.out.d
              have fkb := NRR.out.top k hlt
              unfold never at fkb
              have PCK : Hid (∀ W, Fl 2 W gp (potI n p fa ft k) → W.cell? ⟨gp, k, none⟩ = some (.int .i64 (p.getD k 0))) := Lib.hid (fun W h => by
                have := h.cell k (by rw [PLN.out]; exact hlt)
                rw [PG.out k k hlt, if_neg (Nat.lt_irrefl k)] at this
                exact this)
              have FKC : Hid (∀ W, Fl 2 W gf fa → W.cell? ⟨gf, k, none⟩ = some (.int .i64 (fa.getD k 0))) := Lib.hid (fun W h => h.cell k (by rw [NRR.out.l1]; exact hlt))
              have PSK := Lib.hid (PS.out k hlt)
              generalize p.getD k 0 = pk at *
              generalize fa.getD k 0 = fk at *
              have hmn := fun ts t W => min_i64 fk ft ts t W
              generalize hy : min fk ft = y at *
              have hy1 : 0 ≤ y ∧ y ≤ 1152921504606846976 := by omega
              have s1 : IntKind.i64.wrap (pk + y) = pk + y := IntWalk.i64_in _ (by omega)
              clear hy
              go_upto_region 16 with fail
              refine wp_region_spine 15 [false] [] ?af16 (fun V => Fl 2 V gp (potI n p fa ft k) ∧ Fl 2 V gf fa ∧ Fl 3 V gb vi ∧ GrAt V B b gl cl E ce bo G2 ∧ Touch (fun k => k = gl ∨ OwnB E k) w V ∧ OutsAt V bo G2.outs (fun k => k = b ∨ k = gl ∨ OwnB E k ∨ k = gp)) (by kernel_rfl) (by kernel_rfl) ⟨Blk.drew HJ.out.1, Blk.drew HJ.out.2.1, Blk.drew HJ.out.2.2.1, HJ.out.2.2.2.1.below (Below.refl _ _).drew, HJ.out.2.2.2.2.1.drew, HJ.out.2.2.2.2.2.below HJ.out.2.2.2.1.bo.1 (Below.refl _ _).drew⟩ ?walk16 ?spine16
              case walk16 =>
                rintro V ⟨h1, h2, _, _, _, _⟩
                have q0 := PCK.out V h1
                have q1 := FKC.out V h2
                have q2 := FTC.out V h2
                clear h1 h2
                simp only [List.take_succ_cons, List.take_zero]
                repeat (go_big_quiet_step (fail))
                refine wpQuiet_nil ?_
                rfl
              case spine16 =>
                rintro V ⟨h1, h2, h3, h4, h5, h6⟩
                have q0 := PCK.out V h1
                have z0 := h1.free k
                have H1 := h1.put k (pk + y)
                rw [PSK.out] at H1
                have H1 := Lib.hid H1
                have H2 := Lib.hid (h2.set_ne (p := ⟨gp, k, none⟩) (fun e => hpf e.symm) (.int .i64 (pk + y)))
                have H3 := Lib.hid (h3.set_ne (p := ⟨gp, k, none⟩) (fun e => by simp only at e; subst e; exact (h1.ne h3 (by decide)) rfl) (.int .i64 (pk + y)))
                have H5 := Lib.hid (h5.setCell (p := ⟨gp, k, none⟩) (.inr hgp) (.int .i64 (pk + y)))
                have H4 := Lib.hid (h4.far h6 (p := ⟨gp, k, none⟩) rfl hbgp hglp hegp hbop (.int .i64 (pk + y)))
                clear h1 h2 h3 h4 h5 h6
                refine spineV_cons ?_
                unfold StepV
                go_simp
                generalize V.setCell ⟨gp, k, none⟩ (.int .i64 (pk + y)) = V1 at H1 H2 H3 H4 H5 ⊢
                clear q0 z0
                refine spineV_nil ?_
                go_wp2_with fail
                go_roundw
                case rel => exact ⟨k + 1, by go_num, by omega, Lib.hid ⟨H1.out, H2.out, H3.out, H4.out.1, H5.out, H4.out.2⟩⟩
                case measure => simp [intOf]; omega
            · obtain rfl : n = k := by omega
              obtain ⟨h1, h2, h3, h4, h5, h6⟩ := HJ.out
              rw [PEN.out] at h1
              have H1 := Lib.hid h1
              have H4 := Lib.hid h4
              have H5 := Lib.hid h5
              have H6 := Lib.hid h6
              have HV := Lib.hid h3.ints
              obtain ⟨S, s1, s2, s3, s4⟩ := NRR.out.ch
              obtain ⟨ks, s, w1, w2', w3', w4, w5⟩ := chn_way s1 s4 t ((s2 t htn).2 (by rw [HFT.out]; exact TF.out.2.2.1))
              have hsn : s < n := s3 s (w5 s (w1.last))
              have SE := Lib.hid (send_c b gl cl ce bo B n n s t E (some ⟨gb, 0, none⟩) G2 vi ks wr OK.out w1 w4 hsn htn w2' TF.out.2.1 (fun j hj => (w3' j hj).1) NRR.out.l2 ⟨Nat.le_refl _, by omega⟩ H4.out HV.out (fun q hq => by rw [ownB_some.1 hq]; exact hpb))
              have RPK := Lib.hid (fun x h => RP.out x ks s h w3')
              clear h1 h2 h3 h4 h5 h6 HJ s1 s2 s3 s4 w1 w2' w3' w4 w5 RP
              go_wp2_with fail
              refine SE.out.mono ?_
              rintro e w6 ⟨rfl, x, hse, hga, hto⟩
              have SX := Lib.hid hse
              have G6 := Lib.hid hga
              have T6 := Lib.hid (H5.out.trans hto)
              have P6 := Lib.hid (H1.out.touch hto (fun h => by
                rcases h with h | h
                · exact hglp h.symm
                · exact hegp h))
              have ok := hse.ok OK.out
              have A6 := Lib.hid (AL.out.trans (pushL_alike (x := x) ok.1))
              have O6 := Lib.hid (H6.out.touch (T := fun k => k = gl ∨ OwnB E k) H4.out.bo.1 (fun h => by
                rcases h with h | h
                · exact H4.out.bo.2.2.1 h
                · exact H4.out.bo.2.2.2 h) (fun k hk => by
                rcases hk with h | h
                · exact .inr (.inl h)
                · exact .inr (.inr (.inl h))) hto)
              rw [← (pushL_alike (x := x) ok.1).outs] at O6
              have F6 := Lib.hid (FT.out.pushL OK.out.fine (ks := ks) (x := x) (fun j hj => (ok.1 j hj).1))
              have D6 := Lib.hid (RPK.out x hse)
              have M6 := Lib.hid (rest_push hse OK.out)
              have MN := Lib.hid (rest_nn (G2.pushL ks x).left)
              have OK6 := Lib.hid ok.2.2
              clear hse hga hto ok SE RPK
              go_wp2_with fail
              go_roundg (restV (G2.pushL ks x).left).toNat
              case measure => have h1 := M6.out; have h2 := MN.out; have h3 := SX.out.x0; have h4 := HR.out; omega
              case rel => exact Lib.hid ⟨_, _, _, A6.out, OK6.out, F6.out, G6.out, P6.out, D6.out, rfl, T6.out, O6.out⟩
end Go.Proofs.Ytmebpglkeedaoaa
namespace Go.Proofs.Ytmebpglkeedaoaa
open Go.RowKit Dp
def LeastP (N : Net) (w : World) (e : Ending) (w' : World) : Prop :=
  (chE N ≠ 0 ∧ e = .returned (.tuple #[.slice none 0 0, .slice none 0 0, .int .i64 (chE N)])) ∨
  (chE N = 0 ∧ ∃ gf gp fl p, e = .returned (.tuple #[.slice (some ⟨gf, 0, none⟩) N.arcs.length N.arcs.length, .slice (some ⟨gp, 0, none⟩) N.sup.length N.sup.length, .int .i64 0]) ∧ Fl 2 w' gf fl ∧ Fl 2 w' gp p ∧ w.heap.size ≤ gf ∧ w.heap.size ≤ gp ∧ fl.length = N.arcs.length ∧ isFlow N fl = true ∧ p.length = N.sup.length ∧ (∀ v, v < p.length → potOk (p.getD v 0) = true) ∧ costK N fl N.arcs.length = prA N p N.arcs.length) ∨
  (chE N = 0 ∧ e = .returned (.tuple #[.slice none 0 0, .slice none 0 0, .int .i64 18]) ∧ ∃ c : List Int, (∀ k, k < c.length → cutAt N.sup.length c k = true) ∧ 0 < lkA N c N.arcs.length ∧ ∀ fl, isFlow N fl = false)
set_option maxHeartbeats 2000000 in
set_option maxRecDepth 100000 in
theorem Least_c (A B : Option Addr) (N : Net) (n m cA cB : Nat) (w : World) (hn : n = N.sup.length) (hm : m = N.arcs.length) (hA : n ≤ cA ∧ cA ≤ 9223372036854775807) (hB : m ≤ cB ∧ cB ≤ 9223372036854775807) (hN : NetAt w A B N) :
    Calls Try.prog 25 #[.agg #[.slice A n cA, .slice B m cB]] w fun e w' => LeastP N w e w' ∧ Below w.heap.size w w' := by
  have HN := Lib.hid hn
  have HM := Lib.hid hm
  have HNA := Lib.hid hN
  clear hn hm hN
  have B1 := Lib.hid (Blk.new' w #[.slice A n cA, .slice B m cB] 25)
  have HB1 := Lib.hid ((Below.refl w.heap.size w).alloc (Nat.le_refl _) (.cells #[.slice A n cA, .slice B m cB] 25))
  go_enter Try.func25, Try.ntmps25
  go_wp2_with fail
  generalize w.alloc (.cells #[.slice A n cA, .slice B m cB] 25) = w1 at B1 HB1 ⊢
  refine (Check_c A B N n m cA cB w1 HN.out HM.out hA hB (HNA.out.below HB1.out (Nat.le_refl _))).mono ?_
  rintro e w2 ⟨rfl, hb2⟩
  have B2 := Lib.hid (B1.out.below hb2 B1.out.lt)
  have HB2 := Lib.hid (HB1.out.trans (hb2.mono HB1.out.size))
  clear hb2 B1 HB1
  have cA0 := B2.out.cell 0 rfl
  have cB0 := B2.out.cell 1 rfl
  by_cases hch : chE N = 0
  · have HCH := Lib.hid hch
    have n2 : n ≤ 1024 := by rw [HN.out]; exact (net_len hch).2.1
    rw [hch]
    clear hch
    go_wp2_with fail
    refine (newGraph_c A B N n m cA cB w2 HN.out HM.out HCH.out hA hB (HNA.out.below HB2.out (Nat.le_refl _))).mono ?_
    rintro e w3 ⟨b, gl, cl, E, ce, bo, rfl, hb3, hg3⟩
    have HB3 := Lib.hid (HB2.out.trans (hb3.mono HB2.out.size))
    have G3 := Lib.hid hg3
    have hsz := HB2.out.size
    have S3 : Hid (∀ k, k = gl ∨ OwnB E k → w.heap.size ≤ k) := Lib.hid (fun k hk => by
      rcases hk with h | h
      · have := hg3.base.2; omega
      · have := (ownLt hg3.es h).2; omega)
    clear hb3 hg3 cA0 cB0
    go_wp2_with fail
    refine (least_c b gl cl ce bo w2.heap.size n E (gr0 N) N w3 HN.out.symm HCH.out (by rw [HN.out]; exact gr0_ok HCH.out) gr0_fits (fun i hi => by show ((esK N N.arcs.length).getD (2 * i + 1) default).room = 0; rw [(esK_get N _ i hi).2]) G3.out).mono ?_
    rintro e w4 ⟨gp, G', p, fa, vi, D, rfl, hp4, hg4, hok, hft, hpd, hnr, ht4, hgp⟩
    have HB4 := Lib.hid (Below.touch HB3.out HB3.out.size ht4 S3.out)
    have G4 := Lib.hid hg4
    have OK := Lib.hid hok
    have FT := Lib.hid hft
    have PD := Lib.hid hpd
    have NRR := Lib.hid hnr
    have P4 := Lib.hid hp4
    have hgpw : w.heap.size ≤ gp := by have := HB3.out.size; omega
    clear hp4 hg4 hok hft hpd hnr ht4
    have RN := rest_nn G'.left
    go_wp2_with fail
    refine (rest_c b gl cl ce bo w2.heap.size n E G' w4 OK.out G4.out).mono ?_
    rintro e w5 ⟨rfl, rfl⟩
    have OKN : Hid (G'.Ok N.sup.length) := Lib.hid (by rw [← HN.out]; exact OK.out)
    have CUT : Hid (lkA N (cutL N.sup.length (fun v => decide (fa.getD v 0 < never))) N.arcs.length = restV G'.left) := Lib.hid (by
      have h := NRR.out
      rw [HN.out] at h
      exact end_cut HCH.out OKN.out FT.out h)
    have FLO := Lib.hid (fun h => end_flow HCH.out OKN.out FT.out PD.out.rc h)
    generalize restV G'.left = R at *
    by_cases hr : 0 < R
    · have d1 : decide (0 < R) = true := decide_eq_true hr
      have C1 : Hid (∃ c : List Int, (∀ k, k < c.length → cutAt N.sup.length c k = true) ∧ 0 < lkA N c N.arcs.length ∧ ∀ fl, isFlow N fl = false) := Lib.hid ⟨_, cutL_ok, by rw [CUT.out]; exact hr, cut_none HCH.out cutL_ok (by rw [CUT.out]; exact hr)⟩
      go_wp2_with fail
      exact bodyPost_ret (v := .tuple #[.slice none 0 0, .slice none 0 0, .int .i64 18]) (by simp [results, Try.results25, go_sem]) rfl ⟨.inr (.inr ⟨HCH.out, rfl, C1.out⟩), HB4.out⟩
    · have d1 : decide (0 < R) = false := decide_eq_false hr
      have FL := Lib.hid (FLO.out (by omega))
      go_wp2_with fail
      refine (flow_c b gl cl ce bo w2.heap.size n E G' w4 OK.out G4.out).mono ?_
      rintro e w5 ⟨gf, rfl, hb5, hf5, hgf⟩
      have HB5 := Lib.hid (HB4.out.trans (hb5.mono HB4.out.size))
      have P5 := Lib.hid (P4.out.below hb5)
      rw [flowE_flow FT.out] at hf5
      have F5 := Lib.hid hf5
      have hgfw : w.heap.size ≤ gf := by have := HB4.out.size; omega
      have e1 : G'.es.length / 2 = N.arcs.length := by rw [FT.out.es]; omega
      rw [e1]
      have POK : Hid (∀ v, v < p.length → potOk (p.getD v 0) = true) := Lib.hid (fun v hv => by
        rw [PD.out.len] at hv
        have := PD.out.lo v hv
        have := PD.out.d
        rw [potOk_iff]
        omega)
      clear hb5 hf5
      go_wp2_with fail
      exact bodyPost_ret (v := .tuple #[.slice (some ⟨gf, 0, none⟩) N.arcs.length N.arcs.length, .slice (some ⟨gp, 0, none⟩) n n, .int .i64 0]) (by simp [results, Try.results25, go_sem]) rfl ⟨.inr (.inl ⟨HCH.out, gf, gp, flowL N G', p, by rw [HN.out], F5.out, P5.out, hgfw, hgpw, flowL_len N G', FL.out.1, by rw [PD.out.len, HN.out], POK.out, FL.out.2⟩), HB5.out⟩
  · have hne : (chE N == 0) = false := by simpa using hch
    have HCH := Lib.hid hch
    generalize hq : chE N = q at *
    have HQ := Lib.hid hq
    clear hq
    go_wp2_with fail
    exact bodyPost_ret (v := .tuple #[.slice none 0 0, .slice none 0 0, .int .i64 q]) (by simp [results, Try.results25, go_sem]) rfl ⟨.inl ⟨by rw [HQ.out]; exact HCH.out, by rw [HQ.out]⟩, HB2.out⟩
end Go.Proofs.Ytmebpglkeedaoaa
namespace Go.Proofs.Ytmebpglkeedaoaa
open Go.RowKit Dp
@[go_sem] theorem on_0 : bits BinOp.and IntKind.u64 0 6148914691236517205 = 0 := by kernel_rfl
@[go_sem] theorem on_1 : IntKind.u64.wrap (0 + 0) = 0 := by kernel_rfl
@[go_sem] theorem on_2 : IntKind.u64.wrap 0 = 0 := by kernel_rfl
@[go_sem] theorem on_3 : bits BinOp.and IntKind.u64 0 3689348814741910323 = 0 := by kernel_rfl
@[go_sem] theorem on_4 : bits BinOp.and IntKind.u64 0 1085102592571150095 = 0 := by kernel_rfl
@[go_sem] theorem on_5 : bits BinOp.and IntKind.i64 0 127 = 0 := by kernel_rfl
@[go_sem] theorem on_6 : IntKind.i64.wrap 0 = 0 := by kernel_rfl
@[go_sem] theorem on_7 : bits BinOp.and IntKind.u64 1 6148914691236517205 = 1 := by kernel_rfl
@[go_sem] theorem on_8 : IntKind.u64.wrap (0 + 1) = 1 := by kernel_rfl
@[go_sem] theorem on_9 : IntKind.u64.wrap 1 = 1 := by kernel_rfl
@[go_sem] theorem on_10 : bits BinOp.and IntKind.u64 1 3689348814741910323 = 1 := by kernel_rfl
@[go_sem] theorem on_11 : bits BinOp.and IntKind.u64 1 1085102592571150095 = 1 := by kernel_rfl
@[go_sem] theorem on_12 : IntKind.u64.wrap (1 + 0) = 1 := by kernel_rfl
@[go_sem] theorem on_13 : bits BinOp.and IntKind.i64 1 127 = 1 := by kernel_rfl
@[go_sem] theorem on_14 : IntKind.i64.wrap 1 = 1 := by kernel_rfl
@[go_sem] theorem on_15 : bits BinOp.and IntKind.u64 2 6148914691236517205 = 0 := by kernel_rfl
@[go_sem] theorem on_16 : IntKind.u64.wrap 2 = 2 := by kernel_rfl
@[go_sem] theorem on_17 : bits BinOp.and IntKind.u64 3 6148914691236517205 = 1 := by kernel_rfl
@[go_sem] theorem on_18 : IntKind.u64.wrap (1 + 1) = 2 := by kernel_rfl
@[go_sem] theorem on_19 : bits BinOp.and IntKind.u64 2 3689348814741910323 = 2 := by kernel_rfl
@[go_sem] theorem on_20 : IntKind.u64.wrap (0 + 2) = 2 := by kernel_rfl
@[go_sem] theorem on_21 : bits BinOp.and IntKind.u64 2 1085102592571150095 = 2 := by kernel_rfl
@[go_sem] theorem on_22 : IntKind.u64.wrap (2 + 0) = 2 := by kernel_rfl
@[go_sem] theorem on_23 : bits BinOp.and IntKind.i64 2 127 = 2 := by kernel_rfl
@[go_sem] theorem on_24 : IntKind.u64.wrap 3 = 3 := by kernel_rfl
@[go_sem] theorem on_25 : IntKind.i64.wrap 2 = 2 := by kernel_rfl
set_option maxHeartbeats 2000000 in
set_option maxRecDepth 100000 in
theorem ones64_0 (w : World) : Calls Try.prog 112 #[.int .u64 0] w fun e w' => e = .returned (.int .i64 0) ∧ w = w' := by
  go_enter Try.func112, Try.ntmps112
  go_wp2_with fail
  exact bodyPost_ret (v := .int .i64 0) (by simp [results, Try.results112, go_sem]) rfl ⟨rfl, rfl⟩
set_option maxHeartbeats 2000000 in
set_option maxRecDepth 100000 in
theorem ones_0 (w : World) : Calls Try.prog 95 #[.int .u64 0] w fun e w' => e = .returned (.int .i64 0) ∧ w = w' := by
  go_enter Try.func95, Try.ntmps95
  go_wp2_with fail
  refine (ones64_0 w).mono ?_
  rintro e w1 ⟨rfl, rfl⟩
  go_wp2_with fail
  exact bodyPost_ret (v := .int .i64 0) (by simp [results, Try.results95, go_sem]) rfl ⟨rfl, rfl⟩
set_option maxHeartbeats 2000000 in
set_option maxRecDepth 100000 in
theorem ones64_1 (w : World) : Calls Try.prog 112 #[.int .u64 1] w fun e w' => e = .returned (.int .i64 1) ∧ w = w' := by
  go_enter Try.func112, Try.ntmps112
  go_wp2_with fail
  exact bodyPost_ret (v := .int .i64 1) (by simp [results, Try.results112, go_sem]) rfl ⟨rfl, rfl⟩
set_option maxHeartbeats 2000000 in
set_option maxRecDepth 100000 in
theorem ones_1 (w : World) : Calls Try.prog 95 #[.int .u64 1] w fun e w' => e = .returned (.int .i64 1) ∧ w = w' := by
  go_enter Try.func95, Try.ntmps95
  go_wp2_with fail
  refine (ones64_1 w).mono ?_
  rintro e w1 ⟨rfl, rfl⟩
  go_wp2_with fail
  exact bodyPost_ret (v := .int .i64 1) (by simp [results, Try.results95, go_sem]) rfl ⟨rfl, rfl⟩
set_option maxHeartbeats 2000000 in
set_option maxRecDepth 100000 in
theorem ones64_2 (w : World) : Calls Try.prog 112 #[.int .u64 2] w fun e w' => e = .returned (.int .i64 1) ∧ w = w' := by
  go_enter Try.func112, Try.ntmps112
  go_wp2_with fail
  exact bodyPost_ret (v := .int .i64 1) (by simp [results, Try.results112, go_sem]) rfl ⟨rfl, rfl⟩
set_option maxHeartbeats 2000000 in
set_option maxRecDepth 100000 in
theorem ones_2 (w : World) : Calls Try.prog 95 #[.int .u64 2] w fun e w' => e = .returned (.int .i64 1) ∧ w = w' := by
  go_enter Try.func95, Try.ntmps95
  go_wp2_with fail
  refine (ones64_2 w).mono ?_
  rintro e w1 ⟨rfl, rfl⟩
  go_wp2_with fail
  exact bodyPost_ret (v := .int .i64 1) (by simp [results, Try.results95, go_sem]) rfl ⟨rfl, rfl⟩
set_option maxHeartbeats 2000000 in
set_option maxRecDepth 100000 in
theorem ones64_3 (w : World) : Calls Try.prog 112 #[.int .u64 3] w fun e w' => e = .returned (.int .i64 2) ∧ w = w' := by
  go_enter Try.func112, Try.ntmps112
  go_wp2_with fail
  exact bodyPost_ret (v := .int .i64 2) (by simp [results, Try.results112, go_sem]) rfl ⟨rfl, rfl⟩
set_option maxHeartbeats 2000000 in
set_option maxRecDepth 100000 in
theorem ones_3 (w : World) : Calls Try.prog 95 #[.int .u64 3] w fun e w' => e = .returned (.int .i64 2) ∧ w = w' := by
  go_enter Try.func95, Try.ntmps95
  go_wp2_with fail
  refine (ones64_3 w).mono ?_
  rintro e w1 ⟨rfl, rfl⟩
  go_wp2_with fail
  exact bodyPost_ret (v := .int .i64 2) (by simp [results, Try.results95, go_sem]) rfl ⟨rfl, rfl⟩
structure CO (w : World) (gL gA gB : Nat) : Prop where
  L : Blk w gL 22 [.slice (some ⟨gA, 0, none⟩) 2 2, .slice (some ⟨gB, 0, none⟩) 2 2]
  A : Blk w gA 2 [.int .i64 4, .int .i64 1]
  B : Blk w gB 2 [.int .i64 2, .int .i64 3]
theorem CO.below {w w' : World} {gL gA gB k : Nat} (h : CO w gL gA gB) (hb : Below k w w') (hk : w.heap.size ≤ k) : CO w' gL gA gB :=
  ⟨h.L.below hb (by have := h.L.lt; omega), h.A.below hb (by have := h.A.lt; omega), h.B.below hb (by have := h.B.lt; omega)⟩
set_option maxHeartbeats 4000000 in
set_option maxRecDepth 100000 in
theorem checkCosts_c (gL gA gB : Nat) (w : World) (h : CO w gL gA gB) : Calls Try.prog 94 #[.slice (some ⟨gL, 0, none⟩) 2 2] w fun e w' => e = .returned (.int .i64 0) ∧ w = w' := by
  have H0 := Lib.hid h
  clear h
  have l0 := H0.out.L.cell 0 rfl
  have l1 := H0.out.L.cell 1 rfl
  have a0 := H0.out.A.cell 0 rfl
  have a1 := H0.out.A.cell 1 rfl
  have b0 := H0.out.B.cell 0 rfl
  have b1 := H0.out.B.cell 1 rfl
  go_enter Try.func94, Try.ntmps94
  go_wp2_with fail
  refine wp_loop_rounds 3 ?_
  rw [rounds_succ]
  go_wp2_with fail
  rw [rounds_succ]
  go_wp2_with fail
  rw [rounds_succ]
  go_wp2_with fail
  refine wp_loop_rounds 3 ?_
  rw [rounds_succ]
  go_wp2_with fail
  refine wp_loop_rounds 3 ?_
  rw [rounds_succ]
  go_wp2_with fail
  rw [rounds_succ]
  go_wp2_with fail
  rw [rounds_succ]
  go_wp2_with fail
  rw [rounds_succ]
  go_wp2_with fail
  refine wp_loop_rounds 3 ?_
  rw [rounds_succ]
  go_wp2_with fail
  rw [rounds_succ]
  go_wp2_with fail
  rw [rounds_succ]
  go_wp2_with fail
  rw [rounds_succ]
  go_wp2_with fail
  exact bodyPost_ret (v := .int .i64 0) (by simp [results, Try.results94, go_sem]) rfl ⟨rfl, rfl⟩
end Go.Proofs.Ytmebpglkeedaoaa
namespace Go.Proofs.Ytmebpglkeedaoaa
open Go.RowKit Dp
theorem info46 : (Try.prog.info? 46).map (fun i => (i.zero, i.size, i.bytes)) = some (some (.agg #[.int .i64 0, .int .i64 0, .int .i64 0, .int .i64 0]), 4, 32) := by kernel_rfl
def arcV (a : Arc) : List Value := [.int .i64 a.fr, .int .i64 a.to, .int .i64 a.cap, .int .i64 a.cost]
structure BuJ (w : World) (gL gA gB gs gb : Nat) (A : Option Addr) (n cap : Nat) (sup : List Int) (arcs : List Arc) (W : World) : Prop where
  co : CO W gL gA gB
  b : Blk W gb 125 [.slice (some ⟨gs, 0, none⟩) 5 5, .slice A n cap, .slice none 0 0, .slice none 0 0]
  s : Fl 2 W gs sup
  own : W.ownsRow (gb + 1) 46 4 (.slice A n cap) n (flat arcV arcs)
  lt : gL < gs ∧ gA < gs ∧ gB < gs ∧ gs < gb ∧ w.heap.size ≤ gs
  bel : Below w.heap.size w W
section
variable {w W V : World} {gL gA gB gs gb n cap n2 cap2 : Nat} {A A2 : Option Addr} {sup : List Int} {arcs arcs2 : List Arc}
theorem BuJ.below (h : BuJ w gL gA gB gs gb A n cap sup arcs W) (hb : Below W.heap.size W V) : BuJ w gL gA gB gs gb A n cap sup arcs V :=
  ⟨h.co.below hb (Nat.le_refl _), h.b.below hb h.b.lt, h.s.below hb, ownBelow h.own hb, h.lt, h.bel.trans (hb.mono h.bel.size)⟩
theorem BuJ.alloc (h : BuJ w gL gA gB gs gb A n cap sup arcs W) (o : Obj) : BuJ w gL gA gB gs gb A n cap sup arcs (W.alloc o) :=
  h.below ((Below.refl _ _).alloc (Nat.le_refl _) o)
theorem BuJ.set (h : BuJ w gL gA gB gs gb A n cap sup arcs W) (k : Nat) (v : Int) : BuJ w gL gA gB gs gb A n cap (sup.set k v) arcs (W.setCell ⟨gs, k, none⟩ (.int .i64 v)) := by
  have hl := h.lt
  refine ⟨⟨h.co.L.setCell_ne (by simp; omega) _, h.co.A.setCell_ne (by simp; omega) _, h.co.B.setCell_ne (by simp; omega) _⟩, h.b.setCell_ne (by simp; omega) _, h.s.put k v, ?_, h.lt, h.bel.setCell (by simp; omega) _⟩
  exact ownGrown h.own ⟨rfl, rfl, rfl, by simp [World.setCell], fun k hk hne => Below.heap_setCell _ _ _ _ (fun e => hne (by rw [e]))⟩ (row := some gs) (fun k hk e => by
    have := (World.ownsRow.lt h.own k (ownB_iff.1 hk)).1
    cases e; omega)
theorem BuJ.mid (h : BuJ w gL gA gB gs gb A n cap sup arcs W) (hg : W.grownBy V (Value.slice A n cap).ownBlock) :
    Blk V gb 125 [.slice (some ⟨gs, 0, none⟩) 5 5, .slice A n cap, .slice none 0 0, .slice none 0 0] := by
  have hk : ∀ k, (Value.slice A n cap).ownBlock = some k → gb + 1 ≤ k := fun k e => (World.ownsRow.lt h.own k e).1
  exact h.b.grown hg (fun e => by have := hk gb e.symm; omega)
theorem BuJ.push (h : BuJ w gL gA gB gs gb A n cap sup arcs W) (hg : W.grownBy V (Value.slice A n cap).ownBlock)
    (ho : V.ownsRow (gb + 1) 46 4 (.slice A2 n2 cap2) n2 (flat arcV arcs2)) : BuJ w gL gA gB gs gb A2 n2 cap2 sup arcs2 (V.setCell ⟨gb, 1, none⟩ (.slice A2 n2 cap2)) := by
  have hk : ∀ k, (Value.slice A n cap).ownBlock = some k → gb + 1 ≤ k := fun k e => (World.ownsRow.lt h.own k e).1
  have hne : ∀ k, k ≤ gb → some k ≠ (Value.slice A n cap).ownBlock := fun k hk' e => by have := hk k e.symm; omega
  have hl := h.lt
  have hbs := h.bel.size
  have m2 := h.mid hg
  refine ⟨⟨(h.co.L.grown hg (hne _ (by omega))).setCell_ne (by simp; omega) _, (h.co.A.grown hg (hne _ (by omega))).setCell_ne (by simp; omega) _, (h.co.B.grown hg (hne _ (by omega))).setCell_ne (by simp; omega) _⟩, m2.setCell 1 _, Blk.setCell_ne (Blk.grown h.s hg (hne _ (by omega))) (by simp; omega) _, ?_, hl, (h.bel.grown hg hbs (fun k e => by have := hk k e; omega)).setCell (by simp; omega) _⟩
  exact ownGrown ho ⟨rfl, rfl, rfl, by simp [World.setCell], fun k hk hne => Below.heap_setCell _ _ _ _ (fun e => hne (by rw [e]))⟩ (row := some gb) (fun k hk e => by
    have := (World.ownsRow.lt ho k (ownB_iff.1 hk)).1
    cases e; omega)
end
set_option maxHeartbeats 2000000 in
set_option maxRecDepth 100000 in
theorem add_c (w W : World) (gL gA gB gs gb n cap gx : Nat) (A : Option Addr) (sup : List Int) (arcs : List Arc) (x : Arc) (hn : n ≤ 100) (h : BuJ w gL gA gB gs gb A n cap sup arcs W) (hX : Blk W gx 46 (arcV x)) (hal : arcs.length = n) :
    Calls Try.prog 108 #[.pointer (some ⟨gb, 0, none⟩), .slice (some ⟨gx, 0, none⟩) 1 1] W fun e W' => ∃ A2 cap2, e = .returned (.int .i64 n) ∧ BuJ w gL gA gB gs gb A2 (n + 1) cap2 sup (arcs ++ [x]) W' := by
  have H0 := Lib.hid h
  have X := Lib.hid hX
  have HAL := Lib.hid hal
  clear h hX hal
  obtain ⟨i3, h3i, h3z, h3s, h3b⟩ := info_parts info46
  have y0 := H0.out.b.cell 1 rfl
  go_enter Try.func108, Try.ntmps108
  go_wp2_with (at_builtin; refine wpList_append_any (.tmp 10) (.tmp 11) 23 rfl rfl (gb + 1) 46 i3 (.agg #[.int .i64 0, .int .i64 0, .int .i64 0, .int .i64 0]) 4 32 Try.underlying23 h3i h3z h3s h3b rfl (by decide) A n cap (flat arcV arcs) (by rfl) H0.out.own (some ⟨gx, 0, none⟩) 1 1 (arcV x) (by rfl) (by rfl) (.inr ⟨_, rfl, fun k u hk => by rw [show ((⟨gx, 0, none⟩ : Addr).add k) = ⟨gx, k, none⟩ from (by unfold Addr.add; split <;> simp_all)]; exact X.out.cell k hk⟩) (by simp [arcV, Value.oneCell']) (by unfold maxLen; omega) (by omega) (by have := H0.out.b.lt; omega) ?_; intro A2 c2 v hown hgrow hat; have H1 := Lib.hid (show BuJ w gL gA gB gs gb A2 (n + 1) c2 sup (arcs ++ [x]) (v.setCell ⟨gb, 1, none⟩ (.slice A2 (n + 1) c2)) from H0.out.push hgrow (by rw [flat_append]; simpa [flat] using hown)); have MM := H0.out.mid hgrow; clear y0; have y0 := MM.cell 1 rfl; have q0 := MM.free 1; clear MM hown hgrow hat)
  go_upto_region 2 with fail
  generalize v.setCell ⟨gb, 1, none⟩ (.slice A2 (n + 1) c2) = v1 at H1 ⊢
  clear y0 q0
  have y0 := H1.out.b.cell 1 rfl
  go_wp2_with fail
  trace_state
  exact bodyPost_ret (v := .int .i64 n) (by simp [results, Try.results108, go_sem]) rfl ⟨A2, c2, rfl, H1.out⟩
end Go.Proofs.Ytmebpglkeedaoaa
namespace Go.Proofs.Ytmebpglkeedaoaa
open Go.RowKit Dp
@[go_sem] theorem an_0 : bits BinOp.and IntKind.i64 0 1 = 0 := by kernel_rfl
@[go_sem] theorem an_1 : bits BinOp.and IntKind.i64 1 1 = 1 := by kernel_rfl
@[go_sem] theorem an_2 : bits BinOp.and IntKind.i64 2 1 = 0 := by kernel_rfl
@[go_sem] theorem an_3 : bits BinOp.and IntKind.i64 3 1 = 1 := by kernel_rfl
@[go_sem] theorem or_0_1 : bits BinOp.or IntKind.i64 0 1 = 1 := by kernel_rfl
@[go_sem] theorem or_0_2 : bits BinOp.or IntKind.i64 0 2 = 2 := by kernel_rfl
@[go_sem] theorem or_1_1 : bits BinOp.or IntKind.i64 1 1 = 1 := by kernel_rfl
@[go_sem] theorem or_1_2 : bits BinOp.or IntKind.i64 1 2 = 3 := by kernel_rfl
@[go_sem] theorem or_2_1 : bits BinOp.or IntKind.i64 2 1 = 3 := by kernel_rfl
@[go_sem] theorem or_2_2 : bits BinOp.or IntKind.i64 2 2 = 2 := by kernel_rfl
@[go_sem] theorem or_3_1 : bits BinOp.or IntKind.i64 3 1 = 3 := by kernel_rfl
@[go_sem] theorem or_3_2 : bits BinOp.or IntKind.i64 3 2 = 3 := by kernel_rfl
structure AsJ (w : World) (gL gA gB r gb : Nat) (b0 b1 b2 b3 : Int) (W : World) : Prop where
  co : CO W gL gA gB
  res : Blk W r 87 [.slice none 0 0, .int .i64 0, .slice none 0 0, .slice none 0 0]
  best : Blk W gb 2 [.int .i64 b0, .int .i64 b1, .int .i64 b2, .int .i64 b3]
  nL : gL ≠ gb
  nA : gA ≠ gb
  nB : gB ≠ gb
  nr : r ≠ gb
  own : w.heap.size ≤ gb
  bel : Below w.heap.size w W
theorem AsJ.drew {w W : World} {gL gA gB r gb : Nat} {b0 b1 b2 b3 : Int} (h : AsJ w gL gA gB r gb b0 b1 b2 b3 W) : AsJ w gL gA gB r gb b0 b1 b2 b3 W.drew :=
  ⟨⟨h.co.L, h.co.A, h.co.B⟩, h.res, h.best, h.nL, h.nA, h.nB, h.nr, h.own, h.bel.drew⟩
theorem AsJ.set0 {w W : World} {gL gA gB r gb : Nat} {b0 b1 b2 b3 : Int} (h : AsJ w gL gA gB r gb b0 b1 b2 b3 W) (x : Int) : AsJ w gL gA gB r gb x b1 b2 b3 (W.setCell ⟨gb, 0, none⟩ (.int .i64 x)) :=
  ⟨⟨h.co.L.setCell_ne h.nL _, h.co.A.setCell_ne h.nA _, h.co.B.setCell_ne h.nB _⟩, h.res.setCell_ne h.nr _, h.best.setCell 0 _, h.nL, h.nA, h.nB, h.nr, h.own, h.bel.setCell h.own _⟩
theorem AsJ.set1 {w W : World} {gL gA gB r gb : Nat} {b0 b1 b2 b3 : Int} (h : AsJ w gL gA gB r gb b0 b1 b2 b3 W) (x : Int) : AsJ w gL gA gB r gb b0 x b2 b3 (W.setCell ⟨gb, 1, none⟩ (.int .i64 x)) :=
  ⟨⟨h.co.L.setCell_ne h.nL _, h.co.A.setCell_ne h.nA _, h.co.B.setCell_ne h.nB _⟩, h.res.setCell_ne h.nr _, h.best.setCell 1 _, h.nL, h.nA, h.nB, h.nr, h.own, h.bel.setCell h.own _⟩
theorem AsJ.set2 {w W : World} {gL gA gB r gb : Nat} {b0 b1 b2 b3 : Int} (h : AsJ w gL gA gB r gb b0 b1 b2 b3 W) (x : Int) : AsJ w gL gA gB r gb b0 b1 x b3 (W.setCell ⟨gb, 2, none⟩ (.int .i64 x)) :=
  ⟨⟨h.co.L.setCell_ne h.nL _, h.co.A.setCell_ne h.nA _, h.co.B.setCell_ne h.nB _⟩, h.res.setCell_ne h.nr _, h.best.setCell 2 _, h.nL, h.nA, h.nB, h.nr, h.own, h.bel.setCell h.own _⟩
theorem AsJ.start {w V : World} {gL gA gB r : Nat} (h : CO V gL gA gB) (hr : Blk V r 87 [.slice none 0 0, .int .i64 0, .slice none 0 0, .slice none 0 0]) (hb : Below w.heap.size w V) : AsJ w gL gA gB r V.heap.size 0 0 0 0 (V.alloc (.cells (Array.replicate 4 (.int .i64 0)) 2)) := by
  have b2 := hb.alloc hb.size (.cells (Array.replicate 4 (.int .i64 0)) 2)
  have l1 := h.L.lt
  have l2 := h.A.lt
  have l3 := h.B.lt
  have l4 := hr.lt
  have l5 := hb.size
  have r2 := Blk.new' V (Array.replicate 4 (.int .i64 0)) 2
  refine ⟨⟨h.L.alloc _, h.A.alloc _, h.B.alloc _⟩, hr.alloc _, ?_, by omega, by omega, by omega, by omega, by omega, b2⟩
  simpa using r2
def DualsC : Prop := ∀ (gL gA gB : Nat) (V : World), CO V gL gA gB → Calls Try.prog 96 #[.slice (some ⟨gL, 0, none⟩) 2 2, .int .i64 2] V fun e V' => ∃ R rn rc Q qn qc, e = .returned (.tuple #[.slice R rn rc, .slice Q qn qc]) ∧ Below V.heap.size V V'
structure AsM (w : World) (gL gA gB r gb gm : Nat) (A : Option Addr) (n cap : Nat) (cs : List Value) (W : World) : Prop where
  j : AsJ w gL gA gB r gb 3 3 2 0 W
  m : Blk W gm 87 [.slice A n cap, .int .i64 3, .slice none 0 0, .slice none 0 0]
  own : W.ownsRow (gm + 1) 3 1 (.slice A n cap) n cs
  lt : gL < gm ∧ gA < gm ∧ gB < gm ∧ r < gm ∧ gb < gm
theorem AsJ.below {w W V : World} {gL gA gB r gb : Nat} {b0 b1 b2 b3 : Int} (h : AsJ w gL gA gB r gb b0 b1 b2 b3 W) (hb : Below W.heap.size W V) : AsJ w gL gA gB r gb b0 b1 b2 b3 V :=
  ⟨h.co.below hb (Nat.le_refl _), h.res.below hb h.res.lt, h.best.below hb h.best.lt, h.nL, h.nA, h.nB, h.nr, h.own, h.bel.trans (hb.mono h.bel.size)⟩
theorem AsM.below {w W V : World} {gL gA gB r gb gm n cap : Nat} {A : Option Addr} {cs : List Value} (h : AsM w gL gA gB r gb gm A n cap cs W) (hb : Below W.heap.size W V) : AsM w gL gA gB r gb gm A n cap cs V :=
  ⟨h.j.below hb, h.m.below hb h.m.lt, ownBelow h.own hb, h.lt⟩
theorem AsM.alloc {w W : World} {gL gA gB r gb gm n cap : Nat} {A : Option Addr} {cs : List Value} (h : AsM w gL gA gB r gb gm A n cap cs W) (o : Obj) : AsM w gL gA gB r gb gm A n cap cs (W.alloc o) :=
  h.below ((Below.refl _ _).alloc (Nat.le_refl _) o)
theorem AsM.start {w W : World} {gL gA gB r gb : Nat} (h : AsJ w gL gA gB r gb 3 3 2 0 W) : AsM w gL gA gB r gb W.heap.size none 0 0 [] (W.alloc (.cells #[.slice none 0 0, .int .i64 3, .slice none 0 0, .slice none 0 0] 87)) :=
  ⟨h.below ((Below.refl _ _).alloc (Nat.le_refl _) _), Blk.new' W _ 87, World.ownsRow_nil _ _ _ _, h.co.L.lt, h.co.A.lt, h.co.B.lt, h.res.lt, h.best.lt⟩
theorem AsM.mid {w W V : World} {gL gA gB r gb gm n cap : Nat} {A : Option Addr} {cs : List Value} (h : AsM w gL gA gB r gb gm A n cap cs W) (hg : W.grownBy V (Value.slice A n cap).ownBlock) :
    Blk V gm 87 [.slice A n cap, .int .i64 3, .slice none 0 0, .slice none 0 0] ∧ AsJ w gL gA gB r gb 3 3 2 0 V := by
  have hk : ∀ k, (Value.slice A n cap).ownBlock = some k → gm + 1 ≤ k := fun k e => (World.ownsRow.lt h.own k e).1
  have hne : ∀ k, k ≤ gm → some k ≠ (Value.slice A n cap).ownBlock := fun k hk' e => by have := hk k e.symm; omega
  have hl := h.lt
  have ho := h.j.own
  have hbs := h.j.bel.size
  exact ⟨h.m.grown hg (hne _ (Nat.le_refl _)), ⟨h.j.co.L.grown hg (hne _ (by omega)), h.j.co.A.grown hg (hne _ (by omega)), h.j.co.B.grown hg (hne _ (by omega))⟩, h.j.res.grown hg (hne _ (by omega)), h.j.best.grown hg (hne _ (by omega)), h.j.nL, h.j.nA, h.j.nB, h.j.nr, h.j.own, h.j.bel.grown hg hbs (fun k e => by have := hk k e; omega)⟩
theorem AsM.push {w W V : World} {gL gA gB r gb gm n cap n2 cap2 : Nat} {A A2 : Option Addr} {cs cs2 : List Value} (h : AsM w gL gA gB r gb gm A n cap cs W) (hg : W.grownBy V (Value.slice A n cap).ownBlock)
    (ho : V.ownsRow (gm + 1) 3 1 (.slice A2 n2 cap2) n2 cs2) : AsM w gL gA gB r gb gm A2 n2 cap2 cs2 (V.setCell ⟨gm, 0, none⟩ (.slice A2 n2 cap2)) := by
  obtain ⟨m2, j2⟩ := h.mid hg
  have hl := h.lt
  have ho2 := h.j.own
  refine ⟨⟨⟨j2.co.L.setCell_ne (by simp; omega) _, j2.co.A.setCell_ne (by simp; omega) _, j2.co.B.setCell_ne (by simp; omega) _⟩, j2.res.setCell_ne (by simp; omega) _, j2.best.setCell_ne (by simp; omega) _, j2.nL, j2.nA, j2.nB, j2.nr, j2.own, j2.bel.setCell (by simp; omega) _⟩, m2.setCell 0 _, ?_, hl⟩
  exact ownGrown ho ⟨rfl, rfl, rfl, by simp [World.setCell], fun k hk hne => Below.heap_setCell _ _ _ _ (fun e => hne (by rw [e]))⟩ (row := some gm) (fun k hk e => by
    have := (World.ownsRow.lt ho k (ownB_iff.1 hk)).1
    cases e; omega)
theorem final {w W : World} {gL gA gB r gb gm n cap : Nat} {A : Option Addr} {cs : List Value} (h : AsM w gL gA gB r gb gm A n cap cs W) (R Q : Option Addr) (rn rc qn qc : Nat) (U : World := (W.setCell ⟨gm, 2, none⟩ (.slice R rn rc)).setCell ⟨gm, 3, none⟩ (.slice Q qn qc)) (hU : U = (W.setCell ⟨gm, 2, none⟩ (.slice R rn rc)).setCell ⟨gm, 3, none⟩ (.slice Q qn qc) := by rfl) :
    Blk U r 87 [.slice none 0 0, .int .i64 0, .slice none 0 0, .slice none 0 0] ∧ Blk U gm 87 [.slice A n cap, .int .i64 3, .slice R rn rc, .slice Q qn qc] ∧ U.ownsRow (gm + 1) 3 1 (.slice A n cap) n cs ∧ Below w.heap.size w U := by
  subst hU
  have hl := h.lt
  have ho := h.j.own
  have row : ∀ (V : World) (o : Nat) (x : Value), V.ownsRow (gm + 1) 3 1 (.slice A n cap) n cs → (V.setCell ⟨gm, o, none⟩ x).ownsRow (gm + 1) 3 1 (.slice A n cap) n cs := fun V o x hV =>
    ownGrown hV ⟨rfl, rfl, rfl, by simp [World.setCell], fun k hk hne => Below.heap_setCell _ _ _ _ (fun e => hne (by rw [e]))⟩ (row := some gm) (fun k hk e => by
      have := (World.ownsRow.lt hV k (ownB_iff.1 hk)).1
      cases e; omega)
  exact ⟨(h.j.res.setCell_ne (by simp; omega) _).setCell_ne (by simp; omega) _, (h.m.setCell 2 _).setCell 3 _, row _ _ _ (row _ _ _ h.own), (h.j.bel.setCell (by simp; omega) _).setCell (by simp; omega) _⟩
theorem final2 {w U : World} {r gm n cap : Nat} {A R Q : Option Addr} {cs : List Value} {rn rc qn qc : Nat} (h : Blk U r 87 [.slice none 0 0, .int .i64 0, .slice none 0 0, .slice none 0 0] ∧ Blk U gm 87 [.slice A n cap, .int .i64 3, .slice R rn rc, .slice Q qn qc] ∧ U.ownsRow (gm + 1) 3 1 (.slice A n cap) n cs ∧ Below w.heap.size w U)
    (hr : w.heap.size ≤ r) (hm : r < gm) (Z : World) (hZ : Z = (((U.setCell ⟨r, 0, none⟩ (.slice A n cap)).setCell ⟨r, 1, none⟩ (.int .i64 3)).setCell ⟨r, 2, none⟩ (.slice R rn rc)).setCell ⟨r, 3, none⟩ (.slice Q qn qc)) :
    Blk Z r 87 [.slice A n cap, .int .i64 3, .slice R rn rc, .slice Q qn qc] ∧ Z.ownsRow w.heap.size 3 1 (.slice A n cap) n cs ∧ Below w.heap.size w Z := by
  subst hZ
  have row : ∀ (V : World) (o : Nat) (x : Value), V.ownsRow (gm + 1) 3 1 (.slice A n cap) n cs → (V.setCell ⟨r, o, none⟩ x).ownsRow (gm + 1) 3 1 (.slice A n cap) n cs := fun V o x hV =>
    ownGrown hV ⟨rfl, rfl, rfl, by simp [World.setCell], fun k hk hne => Below.heap_setCell _ _ _ _ (fun e => hne (by rw [e]))⟩ (row := some r) (fun k hk e => by
      have := (World.ownsRow.lt hV k (ownB_iff.1 hk)).1
      cases e; omega)
  have ro := row _ 3 (.slice Q qn qc) (row _ 2 (.slice R rn rc) (row _ 1 (.int .i64 3) (row _ 0 (.slice A n cap) h.2.2.1)))
  exact ⟨(((h.1.setCell 0 _).setCell 1 _).setCell 2 _).setCell 3 _, ⟨ro.1, ro.2.imp id (fun ⟨k, c, cur, hv, hb', r⟩ => ⟨k, c, cur, hv, by omega, r⟩)⟩, (((h.2.2.2.setCell hr _).setCell hr _).setCell hr _).setCell hr _⟩
set_option maxHeartbeats 4000000 in
set_option maxRecDepth 100000 in
theorem Assign_c (HD : DualsC) (gL gA gB : Nat) (w : World) (h : CO w gL gA gB) : Calls Try.prog 56 #[.slice (some ⟨gL, 0, none⟩) 2 2] w fun e w' => ∃ A c R rn rc Q qn qc, e = .returned (.tuple #[.agg #[.slice A 2 c, .int .i64 3, .slice R rn rc, .slice Q qn qc], .int .i64 0]) ∧ w'.ownsRow w.heap.size 3 1 (.slice A 2 c) 2 [.int .i64 1, .int .i64 0] ∧ Below w.heap.size w w' := by
  have HB := Lib.hid ((Below.refl w.heap.size w).alloc (Nat.le_refl _) (.cells #[.slice none 0 0, .int .i64 0, .slice none 0 0, .slice none 0 0] 87))
  have HR := Lib.hid (Blk.new' w #[.slice none 0 0, .int .i64 0, .slice none 0 0, .slice none 0 0] 87)
  have B1 := Lib.hid (h.below HB.out (Nat.le_refl _))
  obtain ⟨i3, h3i, h3z, h3s, h3b⟩ := info_parts info3
  clear h
  go_enter Try.func56, Try.ntmps56
  go_wp2_with fail
  go_step3
  generalize w.alloc (.cells #[.slice none 0 0, .int .i64 0, .slice none 0 0, .slice none 0 0] 87) = w1 at HB HR B1 ⊢
  obtain ⟨r, hr⟩ : ∃ r, r = w.heap.size := ⟨_, rfl⟩
  rw [← hr] at HR ⊢
  have HRR : Hid (w.heap.size ≤ r) := Lib.hid (Nat.le_of_eq hr.symm)
  clear hr
  go_wp2_with fail
  refine (checkCosts_c gL gA gB _ B1.out).mono ?_
  rintro e w2 ⟨rfl, rfl⟩
  go_wp2_with fail
  have l0 := B1.out.L.cell 0 rfl
  have l9 := B1.out.L.lt
  refine wp_region_past (by kernel_rfl) (by kernel_rfl) ?_
  repeat (go_big_quiet_step (fail))
  refine wpQuiet_nil ?_
  intro xx
  have J1 := Lib.hid (AsJ.start (B1.out.below xx.far (Nat.le_refl _)) (HR.out.below xx.far HR.out.lt) (HB.out.trans (xx.far.mono HB.out.size)))
  clear l0 l9 B1 HR HB
  generalize xx.w = w2 at J1 ⊢
  have hm1 : ∀ W : World, (Instr.makeSlice 22 (.int .i64 4) (.int .i64 4)).run Try.prog W = .ok (.slice (some ⟨W.heap.size, 0, none⟩) 4 4) (W.alloc (.cells (Array.replicate 4 (.int .i64 0)) 2)) := make_64 4 (by omega)
  generalize hgb : w2.heap.size = gb at *
  go_upto_region 6 with fail
  generalize w2.alloc (.cells (Array.replicate 4 (.int .i64 0)) 2) = w3 at J1 ⊢
  go_wp2_with fail
  refine wp_loop_rounds 5 ?_
  rw [rounds_succ]
  go_wp2_with fail
  refine (ones_3 _).mono ?_
  rintro e w2 ⟨rfl, rfl⟩
  go_wp2_with fail
  rw [rounds_succ]
  go_wp2_with fail
  refine (ones_2 _).mono ?_
  rintro e w2 ⟨rfl, rfl⟩
  have l0 := J1.out.co.L.cell 0 rfl
  have l1 := J1.out.co.L.cell 1 rfl
  have a0 := J1.out.co.A.cell 0 rfl
  have a1 := J1.out.co.A.cell 1 rfl
  have b0 := J1.out.co.B.cell 0 rfl
  have b1 := J1.out.co.B.cell 1 rfl
  have s0 := J1.out.best.cell 0 rfl
  have s1 := J1.out.best.cell 1 rfl
  have s2 := J1.out.best.cell 2 rfl
  have s3 := J1.out.best.cell 3 rfl
  have z0 := J1.out.best.free 0
  have z1 := J1.out.best.free 1
  have z2 := J1.out.best.free 2
  have z3 := J1.out.best.free 3
  go_upto_region 12 with fail
  clear l0 l1 a0 a1 b0 b1 s0 s1 s2 s3 z0 z1 z2 z3
  refine gen_world (fun W => AsJ w gL gA gB r gb 0 0 1152921504606846976 0 W) (J1.out.set2 1152921504606846976) ?_
  rintro w12 hj
  have J2 := Lib.hid hj
  clear hj
  have l0 := J2.out.co.L.cell 0 rfl
  have l1 := J2.out.co.L.cell 1 rfl
  have a0 := J2.out.co.A.cell 0 rfl
  have a1 := J2.out.co.A.cell 1 rfl
  have b0 := J2.out.co.B.cell 0 rfl
  have b1 := J2.out.co.B.cell 1 rfl
  have s0 := J2.out.best.cell 0 rfl
  have s1 := J2.out.best.cell 1 rfl
  have s2 := J2.out.best.cell 2 rfl
  have s3 := J2.out.best.cell 3 rfl
  have z0 := J2.out.best.free 0
  have z1 := J2.out.best.free 1
  have z2 := J2.out.best.free 2
  have z3 := J2.out.best.free 3
  go_wp2_with fail
  refine wp_loop_rounds 3 ?_
  rw [rounds_succ]
  go_wp2_with fail
  clear l0 l1 a0 a1 b0 b1 s0 s1 s2 s3 z0 z1 z2 z3
  refine wp_region_spine 17 [false] [] ?af_2_0 (fun V => AsJ w gL gA gB r gb 0 0 1152921504606846976 0 V) (by kernel_rfl) (by kernel_rfl) J2.out.drew ?walk_2_0 ?_
  case walk_2_0 =>
    intro V hV
    have s2 := hV.best.cell 2 rfl
    have s3 := hV.best.cell 3 rfl
    have hmx : ∀ ts t W, (Builtin.min_ ts t #[.int .i64 1152921504606846976, .int .i64 2]).run Try.prog W = .ok (.int .i64 2) W := fun ts t W => min_i64 1152921504606846976 2 ts t W
    clear hV
    simp only [List.take_succ_cons, List.take_zero]
    repeat (go_big_quiet_step (fail))
    refine wpQuiet_nil ?_
    rfl
  intro w13 hV
  have J3 := Lib.hid (hV.set2 2)
  have s2 := hV.best.cell 2 rfl
  have z2 := hV.best.free 2
  clear hV
  refine spineV_cons ?_
  unfold StepV
  go_simp
  generalize w13.setCell ⟨gb, 2, none⟩ (.int .i64 2) = w14 at J3 ⊢
  clear s2 z2
  refine spineV_nil ?_
  go_wp2_with fail
  have J4 := J3
  have l0 := J4.out.co.L.cell 0 rfl
  have l1 := J4.out.co.L.cell 1 rfl
  have a0 := J4.out.co.A.cell 0 rfl
  have a1 := J4.out.co.A.cell 1 rfl
  have b0 := J4.out.co.B.cell 0 rfl
  have b1 := J4.out.co.B.cell 1 rfl
  have s0 := J4.out.best.cell 0 rfl
  have s1 := J4.out.best.cell 1 rfl
  have s2 := J4.out.best.cell 2 rfl
  have s3 := J4.out.best.cell 3 rfl
  have z0 := J4.out.best.free 0
  have z1 := J4.out.best.free 1
  have z2 := J4.out.best.free 2
  have z3 := J4.out.best.free 3
  rw [rounds_succ]
  go_wp2_with fail
  rw [rounds_succ]
  go_wp2_with fail
  clear l0 l1 a0 a1 b0 b1 s0 s1 s2 s3 z0 z1 z2 z3
  rw [rounds_succ]
  go_wp2_with fail
  refine (ones_1 _).mono ?_
  rintro e w2 ⟨rfl, rfl⟩
  have l0 := J4.out.co.L.cell 0 rfl
  have l1 := J4.out.co.L.cell 1 rfl
  have a0 := J4.out.co.A.cell 0 rfl
  have a1 := J4.out.co.A.cell 1 rfl
  have b0 := J4.out.co.B.cell 0 rfl
  have b1 := J4.out.co.B.cell 1 rfl
  have s0 := J4.out.best.cell 0 rfl
  have s1 := J4.out.best.cell 1 rfl
  have s2 := J4.out.best.cell 2 rfl
  have s3 := J4.out.best.cell 3 rfl
  have z0 := J4.out.best.free 0
  have z1 := J4.out.best.free 1
  have z2 := J4.out.best.free 2
  have z3 := J4.out.best.free 3
  go_upto_region 12 with fail
  clear l0 l1 a0 a1 b0 b1 s0 s1 s2 s3 z0 z1 z2 z3
  refine gen_world (fun W => AsJ w gL gA gB r gb 0 1152921504606846976 2 0 W) (J4.out.set1 1152921504606846976) ?_
  rintro w15 hj
  have J5 := Lib.hid hj
  clear hj
  have l0 := J5.out.co.L.cell 0 rfl
  have l1 := J5.out.co.L.cell 1 rfl
  have a0 := J5.out.co.A.cell 0 rfl
  have a1 := J5.out.co.A.cell 1 rfl
  have b0 := J5.out.co.B.cell 0 rfl
  have b1 := J5.out.co.B.cell 1 rfl
  have s0 := J5.out.best.cell 0 rfl
  have s1 := J5.out.best.cell 1 rfl
  have s2 := J5.out.best.cell 2 rfl
  have s3 := J5.out.best.cell 3 rfl
  have z0 := J5.out.best.free 0
  have z1 := J5.out.best.free 1
  have z2 := J5.out.best.free 2
  have z3 := J5.out.best.free 3
  go_wp2_with fail
  refine wp_loop_rounds 3 ?_
  rw [rounds_succ]
  go_wp2_with fail
  rw [rounds_succ]
  go_wp2_with fail
  clear l0 l1 a0 a1 b0 b1 s0 s1 s2 s3 z0 z1 z2 z3
  refine wp_region_spine 17 [false] [] ?af_1_1 (fun V => AsJ w gL gA gB r gb 0 1152921504606846976 2 0 V) (by kernel_rfl) (by kernel_rfl) J5.out.drew ?walk_1_1 ?_
  case walk_1_1 =>
    intro V hV
    have s1 := hV.best.cell 1 rfl
    have s3 := hV.best.cell 3 rfl
    have hmx : ∀ ts t W, (Builtin.min_ ts t #[.int .i64 1152921504606846976, .int .i64 3]).run Try.prog W = .ok (.int .i64 3) W := fun ts t W => min_i64 1152921504606846976 3 ts t W
    clear hV
    simp only [List.take_succ_cons, List.take_zero]
    repeat (go_big_quiet_step (fail))
    refine wpQuiet_nil ?_
    rfl
  intro w16 hV
  have J6 := Lib.hid (hV.set1 3)
  have s1 := hV.best.cell 1 rfl
  have z1 := hV.best.free 1
  clear hV
  refine spineV_cons ?_
  unfold StepV
  go_simp
  generalize w16.setCell ⟨gb, 1, none⟩ (.int .i64 3) = w17 at J6 ⊢
  clear s1 z1
  refine spineV_nil ?_
  go_wp2_with fail
  have J7 := J6
  have l0 := J7.out.co.L.cell 0 rfl
  have l1 := J7.out.co.L.cell 1 rfl
  have a0 := J7.out.co.A.cell 0 rfl
  have a1 := J7.out.co.A.cell 1 rfl
  have b0 := J7.out.co.B.cell 0 rfl
  have b1 := J7.out.co.B.cell 1 rfl
  have s0 := J7.out.best.cell 0 rfl
  have s1 := J7.out.best.cell 1 rfl
  have s2 := J7.out.best.cell 2 rfl
  have s3 := J7.out.best.cell 3 rfl
  have z0 := J7.out.best.free 0
  have z1 := J7.out.best.free 1
  have z2 := J7.out.best.free 2
  have z3 := J7.out.best.free 3
  rw [rounds_succ]
  go_wp2_with fail
  clear l0 l1 a0 a1 b0 b1 s0 s1 s2 s3 z0 z1 z2 z3
  rw [rounds_succ]
  go_wp2_with fail
  refine (ones_0 _).mono ?_
  rintro e w2 ⟨rfl, rfl⟩
  have l0 := J7.out.co.L.cell 0 rfl
  have l1 := J7.out.co.L.cell 1 rfl
  have a0 := J7.out.co.A.cell 0 rfl
  have a1 := J7.out.co.A.cell 1 rfl
  have b0 := J7.out.co.B.cell 0 rfl
  have b1 := J7.out.co.B.cell 1 rfl
  have s0 := J7.out.best.cell 0 rfl
  have s1 := J7.out.best.cell 1 rfl
  have s2 := J7.out.best.cell 2 rfl
  have s3 := J7.out.best.cell 3 rfl
  have z0 := J7.out.best.free 0
  have z1 := J7.out.best.free 1
  have z2 := J7.out.best.free 2
  have z3 := J7.out.best.free 3
  go_upto_region 12 with fail
  clear l0 l1 a0 a1 b0 b1 s0 s1 s2 s3 z0 z1 z2 z3
  refine gen_world (fun W => AsJ w gL gA gB r gb 1152921504606846976 3 2 0 W) (J7.out.set0 1152921504606846976) ?_
  rintro w18 hj
  have J8 := Lib.hid hj
  clear hj
  have l0 := J8.out.co.L.cell 0 rfl
  have l1 := J8.out.co.L.cell 1 rfl
  have a0 := J8.out.co.A.cell 0 rfl
  have a1 := J8.out.co.A.cell 1 rfl
  have b0 := J8.out.co.B.cell 0 rfl
  have b1 := J8.out.co.B.cell 1 rfl
  have s0 := J8.out.best.cell 0 rfl
  have s1 := J8.out.best.cell 1 rfl
  have s2 := J8.out.best.cell 2 rfl
  have s3 := J8.out.best.cell 3 rfl
  have z0 := J8.out.best.free 0
  have z1 := J8.out.best.free 1
  have z2 := J8.out.best.free 2
  have z3 := J8.out.best.free 3
  go_wp2_with fail
  refine wp_loop_rounds 3 ?_
  rw [rounds_succ]
  go_wp2_with fail
  clear l0 l1 a0 a1 b0 b1 s0 s1 s2 s3 z0 z1 z2 z3
  refine wp_region_spine 17 [false] [] ?af_0_0 (fun V => AsJ w gL gA gB r gb 1152921504606846976 3 2 0 V) (by kernel_rfl) (by kernel_rfl) J8.out.drew ?walk_0_0 ?_
  case walk_0_0 =>
    intro V hV
    have s0 := hV.best.cell 0 rfl
    have s1 := hV.best.cell 1 rfl
    have hmx : ∀ ts t W, (Builtin.min_ ts t #[.int .i64 1152921504606846976, .int .i64 7]).run Try.prog W = .ok (.int .i64 7) W := fun ts t W => min_i64 1152921504606846976 7 ts t W
    clear hV
    simp only [List.take_succ_cons, List.take_zero]
    repeat (go_big_quiet_step (fail))
    refine wpQuiet_nil ?_
    rfl
  intro w19 hV
  have J9 := Lib.hid (hV.set0 7)
  have s0 := hV.best.cell 0 rfl
  have z0 := hV.best.free 0
  clear hV
  refine spineV_cons ?_
  unfold StepV
  go_simp
  generalize w19.setCell ⟨gb, 0, none⟩ (.int .i64 7) = w20 at J9 ⊢
  clear s0 z0
  refine spineV_nil ?_
  go_wp2_with fail
  have J10 := J9
  have l0 := J10.out.co.L.cell 0 rfl
  have l1 := J10.out.co.L.cell 1 rfl
  have a0 := J10.out.co.A.cell 0 rfl
  have a1 := J10.out.co.A.cell 1 rfl
  have b0 := J10.out.co.B.cell 0 rfl
  have b1 := J10.out.co.B.cell 1 rfl
  have s0 := J10.out.best.cell 0 rfl
  have s1 := J10.out.best.cell 1 rfl
  have s2 := J10.out.best.cell 2 rfl
  have s3 := J10.out.best.cell 3 rfl
  have z0 := J10.out.best.free 0
  have z1 := J10.out.best.free 1
  have z2 := J10.out.best.free 2
  have z3 := J10.out.best.free 3
  rw [rounds_succ]
  go_wp2_with fail
  clear l0 l1 a0 a1 b0 b1 s0 s1 s2 s3 z0 z1 z2 z3
  refine wp_region_spine 17 [false] [] ?af_0_1 (fun V => AsJ w gL gA gB r gb 7 3 2 0 V) (by kernel_rfl) (by kernel_rfl) J10.out.drew ?walk_0_1 ?_
  case walk_0_1 =>
    intro V hV
    have s0 := hV.best.cell 0 rfl
    have s2 := hV.best.cell 2 rfl
    have hmx : ∀ ts t W, (Builtin.min_ ts t #[.int .i64 7, .int .i64 3]).run Try.prog W = .ok (.int .i64 3) W := fun ts t W => min_i64 7 3 ts t W
    clear hV
    simp only [List.take_succ_cons, List.take_zero]
    repeat (go_big_quiet_step (fail))
    refine wpQuiet_nil ?_
    rfl
  intro w21 hV
  have J11 := Lib.hid (hV.set0 3)
  have s0 := hV.best.cell 0 rfl
  have z0 := hV.best.free 0
  clear hV
  refine spineV_cons ?_
  unfold StepV
  go_simp
  generalize w21.setCell ⟨gb, 0, none⟩ (.int .i64 3) = w22 at J11 ⊢
  clear s0 z0
  refine spineV_nil ?_
  go_wp2_with fail
  have J12 := J11
  have l0 := J12.out.co.L.cell 0 rfl
  have l1 := J12.out.co.L.cell 1 rfl
  have a0 := J12.out.co.A.cell 0 rfl
  have a1 := J12.out.co.A.cell 1 rfl
  have b0 := J12.out.co.B.cell 0 rfl
  have b1 := J12.out.co.B.cell 1 rfl
  have s0 := J12.out.best.cell 0 rfl
  have s1 := J12.out.best.cell 1 rfl
  have s2 := J12.out.best.cell 2 rfl
  have s3 := J12.out.best.cell 3 rfl
  have z0 := J12.out.best.free 0
  have z1 := J12.out.best.free 1
  have z2 := J12.out.best.free 2
  have z3 := J12.out.best.free 3
  rw [rounds_succ]
  go_wp2_with fail
  rw [rounds_succ]
  go_wp2_with fail
  clear l0 l1 a0 a1 b0 b1 s0 s1 s2 s3 z0 z1 z2 z3
  go_step3
  have M0 := Lib.hid (AsM.start J12.out)
  generalize w22.heap.size = gm at *
  generalize w22.alloc (.cells #[.slice none 0 0, .int .i64 3, .slice none 0 0, .slice none 0 0] 87) = v0 at M0 ⊢
  have l0 := M0.out.j.co.L.cell 0 rfl
  have l1 := M0.out.j.co.L.cell 1 rfl
  have a0 := M0.out.j.co.A.cell 0 rfl
  have a1 := M0.out.j.co.A.cell 1 rfl
  have b0 := M0.out.j.co.B.cell 0 rfl
  have b1 := M0.out.j.co.B.cell 1 rfl
  have s0 := M0.out.j.best.cell 0 rfl
  have s1 := M0.out.j.best.cell 1 rfl
  have s2 := M0.out.j.best.cell 2 rfl
  have s3 := M0.out.j.best.cell 3 rfl
  have z0 := M0.out.j.best.free 0
  have z1 := M0.out.j.best.free 1
  have z2 := M0.out.j.best.free 2
  have z3 := M0.out.j.best.free 3
  have y0 := M0.out.m.cell 0 rfl
  have q0 := M0.out.m.free 0
  have lb := M0.out.j.best.lt
  go_wp2_with fail
  refine wp_loop_rounds 3 ?_
  rw [rounds_succ]
  go_wp2_with fail
  refine wp_loop_rounds 3 ?_
  rw [rounds_succ]
  go_wp2_with fail
  refine wp_region_past (by kernel_rfl) (by kernel_rfl) ?_
  repeat (go_big_quiet_step (fail))
  refine wpQuiet_nil ?_
  intro xx
  have M1 := Lib.hid (M0.out.below xx.far)
  clear l0 l1 a0 a1 b0 b1 s0 s1 s2 s3 z0 z1 z2 z3 y0 q0 lb
  generalize xx.w = v1 at M1 ⊢
  have l0 := M1.out.j.co.L.cell 0 rfl
  have l1 := M1.out.j.co.L.cell 1 rfl
  have a0 := M1.out.j.co.A.cell 0 rfl
  have a1 := M1.out.j.co.A.cell 1 rfl
  have b0 := M1.out.j.co.B.cell 0 rfl
  have b1 := M1.out.j.co.B.cell 1 rfl
  have s0 := M1.out.j.best.cell 0 rfl
  have s1 := M1.out.j.best.cell 1 rfl
  have s2 := M1.out.j.best.cell 2 rfl
  have s3 := M1.out.j.best.cell 3 rfl
  have z0 := M1.out.j.best.free 0
  have z1 := M1.out.j.best.free 1
  have z2 := M1.out.j.best.free 2
  have z3 := M1.out.j.best.free 3
  have y0 := M1.out.m.cell 0 rfl
  have q0 := M1.out.m.free 0
  have lb := M1.out.j.best.lt
  go_wp2_with fail
  rw [rounds_succ]
  go_wp2_with fail
  refine wp_region_past (by kernel_rfl) (by kernel_rfl) ?_
  repeat (go_big_quiet_step (fail))
  refine wpQuiet_nil ?_
  intro xx
  have M2 := Lib.hid (M1.out.below xx.far)
  clear l0 l1 a0 a1 b0 b1 s0 s1 s2 s3 z0 z1 z2 z3 y0 q0 lb
  generalize xx.w = v2 at M2 ⊢
  have l0 := M2.out.j.co.L.cell 0 rfl
  have l1 := M2.out.j.co.L.cell 1 rfl
  have a0 := M2.out.j.co.A.cell 0 rfl
  have a1 := M2.out.j.co.A.cell 1 rfl
  have b0 := M2.out.j.co.B.cell 0 rfl
  have b1 := M2.out.j.co.B.cell 1 rfl
  have s0 := M2.out.j.best.cell 0 rfl
  have s1 := M2.out.j.best.cell 1 rfl
  have s2 := M2.out.j.best.cell 2 rfl
  have s3 := M2.out.j.best.cell 3 rfl
  have z0 := M2.out.j.best.free 0
  have z1 := M2.out.j.best.free 1
  have z2 := M2.out.j.best.free 2
  have z3 := M2.out.j.best.free 3
  have y0 := M2.out.m.cell 0 rfl
  have q0 := M2.out.m.free 0
  have lb := M2.out.j.best.lt
  have MA := Lib.hid (M2.out.alloc (.cells #[.int .i64 1] 3))
  have X := Lib.hid (Blk.new' v2 #[.int .i64 1] 3)
  clear l0 l1 a0 a1 b0 b1 s0 s1 s2 s3 z0 z1 z2 z3 y0 q0 lb
  have y0 := MA.out.m.cell 0 rfl
  have yy := M2.out.m.cell 0 rfl
  go_wp2_with (at_builtin; refine wpList_append_any (.tmp 134) (.tmp 136) 26 rfl rfl (gm + 1) 3 i3 (.int .i64 0) 1 8 Try.underlying26 h3i h3z h3s h3b rfl (by decide) none 0 0 [] (by rfl) MA.out.own (some ⟨v2.heap.size, 0, none⟩) 1 1 [.int .i64 1] (by rfl) (by rfl) (.inr ⟨_, rfl, fun k u hk => by rcases k with _ | k <;> simp at hk; subst hk; exact X.out.cell 0 rfl⟩) (by simp [Value.oneCell']) (by decide) (by decide) (by have := MA.out.m.lt; omega) ?_; intro A1 c1 v hown hgrow hat; have M3 := Lib.hid (show AsM w gL gA gB r gb gm A1 1 c1 [.int .i64 1] (v.setCell ⟨gm, 0, none⟩ (.slice A1 1 c1)) from MA.out.push hgrow hown); have MM := (MA.out.mid hgrow).1; clear y0 yy; have y0 := MM.cell 0 rfl; have q0 := MM.free 0; clear MM hown hgrow hat)
  generalize v.setCell ⟨gm, 0, none⟩ (.slice A1 1 c1) = v3 at M3 ⊢
  clear y0 q0
  have l0 := M3.out.j.co.L.cell 0 rfl
  have l1 := M3.out.j.co.L.cell 1 rfl
  have a0 := M3.out.j.co.A.cell 0 rfl
  have a1 := M3.out.j.co.A.cell 1 rfl
  have b0 := M3.out.j.co.B.cell 0 rfl
  have b1 := M3.out.j.co.B.cell 1 rfl
  have s0 := M3.out.j.best.cell 0 rfl
  have s1 := M3.out.j.best.cell 1 rfl
  have s2 := M3.out.j.best.cell 2 rfl
  have s3 := M3.out.j.best.cell 3 rfl
  have z0 := M3.out.j.best.free 0
  have z1 := M3.out.j.best.free 1
  have z2 := M3.out.j.best.free 2
  have z3 := M3.out.j.best.free 3
  have y0 := M3.out.m.cell 0 rfl
  have q0 := M3.out.m.free 0
  have lb := M3.out.j.best.lt
  rw [rounds_succ]
  go_wp2_with fail
  refine wp_loop_rounds 3 ?_
  rw [rounds_succ]
  go_wp2_with fail
  refine wp_region_past (by kernel_rfl) (by kernel_rfl) ?_
  repeat (go_big_quiet_step (fail))
  refine wpQuiet_nil ?_
  intro xx
  have M4 := Lib.hid (M3.out.below xx.far)
  clear l0 l1 a0 a1 b0 b1 s0 s1 s2 s3 z0 z1 z2 z3 y0 q0 lb
  generalize xx.w = v4 at M4 ⊢
  have l0 := M4.out.j.co.L.cell 0 rfl
  have l1 := M4.out.j.co.L.cell 1 rfl
  have a0 := M4.out.j.co.A.cell 0 rfl
  have a1 := M4.out.j.co.A.cell 1 rfl
  have b0 := M4.out.j.co.B.cell 0 rfl
  have b1 := M4.out.j.co.B.cell 1 rfl
  have s0 := M4.out.j.best.cell 0 rfl
  have s1 := M4.out.j.best.cell 1 rfl
  have s2 := M4.out.j.best.cell 2 rfl
  have s3 := M4.out.j.best.cell 3 rfl
  have z0 := M4.out.j.best.free 0
  have z1 := M4.out.j.best.free 1
  have z2 := M4.out.j.best.free 2
  have z3 := M4.out.j.best.free 3
  have y0 := M4.out.m.cell 0 rfl
  have q0 := M4.out.m.free 0
  have lb := M4.out.j.best.lt
  have MA := Lib.hid (M4.out.alloc (.cells #[.int .i64 0] 3))
  have X := Lib.hid (Blk.new' v4 #[.int .i64 0] 3)
  clear l0 l1 a0 a1 b0 b1 s0 s1 s2 s3 z0 z1 z2 z3 y0 q0 lb
  have y0 := MA.out.m.cell 0 rfl
  have yy := M4.out.m.cell 0 rfl
  go_wp2_with (at_builtin; refine wpList_append_any (.tmp 134) (.tmp 136) 26 rfl rfl (gm + 1) 3 i3 (.int .i64 0) 1 8 Try.underlying26 h3i h3z h3s h3b rfl (by decide) A1 1 c1 [.int .i64 1] (by rfl) MA.out.own (some ⟨v4.heap.size, 0, none⟩) 1 1 [.int .i64 0] (by rfl) (by rfl) (.inr ⟨_, rfl, fun k u hk => by rcases k with _ | k <;> simp at hk; subst hk; exact X.out.cell 0 rfl⟩) (by simp [Value.oneCell']) (by decide) (by decide) (by have := MA.out.m.lt; omega) ?_; intro A2 c2 v hown hgrow hat; have M5 := Lib.hid (show AsM w gL gA gB r gb gm A2 2 c2 [.int .i64 1, .int .i64 0] (v.setCell ⟨gm, 0, none⟩ (.slice A2 2 c2)) from MA.out.push hgrow hown); have MM := (MA.out.mid hgrow).1; clear y0 yy; have y0 := MM.cell 0 rfl; have q0 := MM.free 0; clear MM hown hgrow hat)
  generalize v.setCell ⟨gm, 0, none⟩ (.slice A2 2 c2) = v5 at M5 ⊢
  clear y0 q0
  have l0 := M5.out.j.co.L.cell 0 rfl
  have l1 := M5.out.j.co.L.cell 1 rfl
  have a0 := M5.out.j.co.A.cell 0 rfl
  have a1 := M5.out.j.co.A.cell 1 rfl
  have b0 := M5.out.j.co.B.cell 0 rfl
  have b1 := M5.out.j.co.B.cell 1 rfl
  have s0 := M5.out.j.best.cell 0 rfl
  have s1 := M5.out.j.best.cell 1 rfl
  have s2 := M5.out.j.best.cell 2 rfl
  have s3 := M5.out.j.best.cell 3 rfl
  have z0 := M5.out.j.best.free 0
  have z1 := M5.out.j.best.free 1
  have z2 := M5.out.j.best.free 2
  have z3 := M5.out.j.best.free 3
  have y0 := M5.out.m.cell 0 rfl
  have q0 := M5.out.m.free 0
  have lb := M5.out.j.best.lt
  rw [rounds_succ]
  go_wp2_with fail
  refine (HD gL gA gB _ M5.out.j.co).mono ?_
  rintro e v ⟨R, rn, rc, Q, qn, qc, rfl, hb⟩
  have M6 := Lib.hid (M5.out.below hb)
  clear hb
  clear l0 l1 a0 a1 b0 b1 s0 s1 s2 s3 z0 z1 z2 z3 y0 q0 lb
  have F := Lib.hid (final M6.out R Q rn rc qn qc)
  have y0 := M6.out.m.cell 0 rfl
  have y1 := M6.out.m.cell 1 rfl
  have y2 := M6.out.m.cell 2 rfl
  have y3 := M6.out.m.cell 3 rfl
  have q2 := M6.out.m.free 2
  have q3 := M6.out.m.free 3
  go_upto_region 34 with fail
  generalize (v.setCell ⟨gm, 2, none⟩ (.slice R rn rc)).setCell ⟨gm, 3, none⟩ (.slice Q qn qc) = u at F ⊢
  clear y0 y1 y2 y3 q2 q3
  have y0 := F.out.2.1.cell 0 rfl
  have y1 := F.out.2.1.cell 1 rfl
  have y2 := F.out.2.1.cell 2 rfl
  have y3 := F.out.2.1.cell 3 rfl
  have x0 := F.out.1.cell 0 rfl
  have x1 := F.out.1.cell 1 rfl
  have x2 := F.out.1.cell 2 rfl
  have x3 := F.out.1.cell 3 rfl
  have p0 := F.out.1.free 0
  have p1 := F.out.1.free 1
  have p2 := F.out.1.free 2
  have p3 := F.out.1.free 3
  go_wp2_with fail
  have Z := Lib.hid (final2 F.out HRR.out M6.out.lt.2.2.2.1 _ rfl)
  rw [Exit.noGoto_ret]
  generalize (((u.setCell ⟨r, 0, none⟩ (.slice A2 2 c2)).setCell ⟨r, 1, none⟩ (.int .i64 3)).setCell ⟨r, 2, none⟩ (.slice R rn rc)).setCell ⟨r, 3, none⟩ (.slice Q qn qc) = z at Z ⊢
  clear y0 y1 y2 y3 x0 x1 x2 x3 p0 p1 p2 p3
  have x0 := Z.out.1.cell 0 rfl
  have x1 := Z.out.1.cell 1 rfl
  have x2 := Z.out.1.cell 2 rfl
  have x3 := Z.out.1.cell 3 rfl
  exact bodyPost_ret (v := .tuple #[.agg #[.slice A2 2 c2, .int .i64 3, .slice R rn rc, .slice Q qn qc], .int .i64 0]) (by simp [results, Try.results56, go_sem, x0, x1, x2, x3]) rfl ⟨A2, c2, R, rn, rc, Q, qn, qc, rfl, Z.out.2⟩
end Go.Proofs.Ytmebpglkeedaoaa
namespace Go.Proofs.Ytmebpglkeedaoaa
open Go.RowKit Dp
def duN : Net := ⟨[1, 1, 0, 0, -2], [⟨0, 2, 1, 4⟩, ⟨0, 3, 1, 1⟩, ⟨1, 2, 1, 2⟩, ⟨1, 3, 1, 3⟩, ⟨2, 4, 1, 0⟩, ⟨3, 4, 1, 0⟩]⟩
theorem duN_ch : chE duN = 0 := by decide
theorem duN_flow : isFlow duN [0, 1, 1, 0, 1, 1] = true := by decide
theorem five {p : List Int} (h : p.length = 5) : ∃ a b c d e, p = [a, b, c, d, e] := by
  rcases p with _ | ⟨a, _ | ⟨b, _ | ⟨c, _ | ⟨d, _ | ⟨e, _ | ⟨f, t⟩⟩⟩⟩⟩⟩ <;> simp at h
  exact ⟨a, b, c, d, e, rfl⟩
theorem du_least {w w' : World} {e : Ending} (h : LeastP duN w e w') : ∃ gf gp p0 p1 p2 p3 p4, e = .returned (.tuple #[.slice (some ⟨gf, 0, none⟩) 6 6, .slice (some ⟨gp, 0, none⟩) 5 5, .int .i64 0]) ∧
    Blk w' gp 2 [.int .i64 p0, .int .i64 p1, .int .i64 p2, .int .i64 p3, .int .i64 p4] ∧ w.heap.size ≤ gp ∧ (-1073741824 ≤ p2 ∧ p2 ≤ 1073741824) ∧ (-1073741824 ≤ p3 ∧ p3 ≤ 1073741824) ∧ (-1073741824 ≤ p4 ∧ p4 ≤ 1073741824) := by
  rcases h with ⟨h, _⟩ | ⟨_, gf, gp, fl, p, rfl, _, hp, _, hg, _, _, hl, hb, _⟩ | ⟨_, _, _, _, _, h⟩
  · exact absurd duN_ch h
  · obtain ⟨a, b, c, d, e, rfl⟩ := five hl
    exact ⟨gf, gp, a, b, c, d, e, rfl, hp, hg, potOk_iff.1 (hb 2 (by simp)), potOk_iff.1 (hb 3 (by simp)), potOk_iff.1 (hb 4 (by simp))⟩
  · have := h [0, 1, 1, 0, 1, 1]
    rw [duN_flow] at this
    cases this
theorem BuJ.start {w V : World} {gL gA gB : Nat} (h : CO V gL gA gB) (hb : Below w.heap.size w V) : BuJ w gL gA gB V.heap.size (V.heap.size + 1) none 0 0 [0, 0, 0, 0, 0] [] ((V.alloc (.cells (Array.replicate 5 (.int .i64 0)) 2)).alloc (.cells #[.slice (some ⟨V.heap.size, 0, none⟩) 5 5, .slice none 0 0, .slice none 0 0, .slice none 0 0] 125)) := by
  have b2 := (hb.alloc hb.size (.cells (Array.replicate 5 (.int .i64 0)) 2))
  have b3 := b2.alloc b2.size (.cells #[.slice (some ⟨V.heap.size, 0, none⟩) 5 5, .slice none 0 0, .slice none 0 0, .slice none 0 0] 125)
  have f := fl_new 2 5 V
  have x := Blk.new' (V.alloc (.cells (Array.replicate 5 (.int .i64 0)) 2)) #[.slice (some ⟨V.heap.size, 0, none⟩) 5 5, .slice none 0 0, .slice none 0 0, .slice none 0 0] 125
  refine ⟨⟨(h.L.alloc _).alloc _, (h.A.alloc _).alloc _, (h.B.alloc _).alloc _⟩, ?_, ?_, World.ownsRow_nil _ _ _ _, ⟨h.L.lt, h.A.lt, h.B.lt, Nat.lt_succ_self _, hb.size⟩, b3⟩
  · simpa using x
  · exact Blk.alloc f _
theorem BuJ.net {w W : World} {gL gA gB gs gb cap : Nat} {A : Option Addr} (h : BuJ w gL gA gB gs gb A 6 cap duN.sup duN.arcs W) : NetAt W (some ⟨gs, 0, none⟩) A duN ∧ 6 ≤ cap ∧ cap ≤ 9223372036854775807 := by
  have hA := h.own
  obtain ⟨g, c, hv, hb, hlt⟩ := hA.form (by omega)
  cases hv
  refine ⟨⟨h.s.ints, fun i hi => ?_⟩, ?_⟩
  · have hi6 : i < 6 := hi
    have hc : ∀ j, j < 4 → W.cell? ⟨g, i * 4 + j, none⟩ = (arcV (duN.arcs.getD i default))[j]? := fun j hj => by
      rw [World.ownsRow.cellAt hA (i * 4 + j) (by omega)]
      exact flat_get (f := arcV) (s := 4) (fun _ => rfl) _ _ _ _ (getElem_D _ _ _ hi) hj
    have had : (⟨g, 0, none⟩ : Addr).add (i * 4) = ⟨g, i * 4, none⟩ := by unfold Addr.add; split <;> simp_all
    exact ⟨⟨g, 0, none⟩, rfl, hlt, by rw [had]; exact hc 0 (by omega), by rw [had]; exact hc 1 (by omega), by rw [had]; exact hc 2 (by omega), by rw [had]; exact hc 3 (by omega)⟩
  · rcases hA.2 with ⟨h0, _⟩ | ⟨g', c', cur, hv, _, _, hc1, hc2, _⟩
    · simp at h0
    · cases hv
      unfold maxLen at hc2
      omega
structure PrJ (w : World) (gL gA gB gp : Nat) (p0 p1 p2 p3 p4 : Int) (b : Nat) (A : Option Addr) (n cap : Nat) (cs : List Value) (W : World) : Prop where
  co : CO W gL gA gB
  p : Blk W gp 2 [.int .i64 p0, .int .i64 p1, .int .i64 p2, .int .i64 p3, .int .i64 p4]
  own : W.ownsRow b 2 1 (.slice A n cap) n cs
  lt : gL < b ∧ gA < b ∧ gB < b ∧ gp < b ∧ w.heap.size ≤ b
  bW : b ≤ W.heap.size
  bel : Below w.heap.size w W
section
variable {w W V : World} {gL gA gB gp b n cap n2 cap2 : Nat} {p0 p1 p2 p3 p4 : Int} {A A2 : Option Addr} {cs cs2 : List Value}
theorem PrJ.below (h : PrJ w gL gA gB gp p0 p1 p2 p3 p4 b A n cap cs W) (hb : Below W.heap.size W V) : PrJ w gL gA gB gp p0 p1 p2 p3 p4 b A n cap cs V :=
  ⟨h.co.below hb (Nat.le_refl _), h.p.below hb h.p.lt, ownBelow h.own hb, h.lt, Nat.le_trans h.bW hb.size, h.bel.trans (hb.mono h.bel.size)⟩
theorem PrJ.alloc (h : PrJ w gL gA gB gp p0 p1 p2 p3 p4 b A n cap cs W) (o : Obj) : PrJ w gL gA gB gp p0 p1 p2 p3 p4 b A n cap cs (W.alloc o) :=
  h.below ((Below.refl _ _).alloc (Nat.le_refl _) o)
theorem PrJ.drew (h : PrJ w gL gA gB gp p0 p1 p2 p3 p4 b A n cap cs W) : PrJ w gL gA gB gp p0 p1 p2 p3 p4 b A n cap cs W.drew :=
  h.below (Below.refl _ _).drew
theorem PrJ.other (h : PrJ w gL gA gB gp p0 p1 p2 p3 p4 b A n cap cs W) {row : Option Nat} (hg : W.grownBy V row) (hr : ∀ k, row = some k → b ≤ k) (ho : V.ownsRow b 2 1 (.slice A2 n2 cap2) n2 cs2) : PrJ w gL gA gB gp p0 p1 p2 p3 p4 b A2 n2 cap2 cs2 V := by
  have hne : ∀ k, k < b → some k ≠ row := fun k hk' e => by have := hr k e.symm; omega
  have hl := h.lt
  have hbs := h.bel.size
  exact ⟨⟨h.co.L.grown hg (hne _ (by omega)), h.co.A.grown hg (hne _ (by omega)), h.co.B.grown hg (hne _ (by omega))⟩, h.p.grown hg (hne _ (by omega)), ho, hl, Nat.le_trans h.bW hg.size, h.bel.grown hg hbs (fun k e => by have := hr k e; omega)⟩
theorem PrJ.push (h : PrJ w gL gA gB gp p0 p1 p2 p3 p4 b A n cap cs W) (hg : W.grownBy V (Value.slice A n cap).ownBlock) (ho : V.ownsRow b 2 1 (.slice A2 n2 cap2) n2 cs2) : PrJ w gL gA gB gp p0 p1 p2 p3 p4 b A2 n2 cap2 cs2 V :=
  h.other hg (fun k e => (World.ownsRow.lt h.own k e).1) ho
end
structure RoJ (w : World) (gL gA gB gp : Nat) (p0 p1 p2 p3 p4 : Int) (b g5 cap : Nat) (cs : List Value) (b2 : Nat) (A : Option Addr) (n c2 : Nat) (ds : List Value) (W : World) : Prop where
  p : PrJ w gL gA gB gp p0 p1 p2 p3 p4 b (some ⟨g5, 0, none⟩) 2 cap cs W
  own2 : W.ownsRow b2 2 1 (.slice A n c2) n ds
  lt2 : g5 < b2 ∧ b ≤ b2 ∧ b2 ≤ W.heap.size
section
variable {w W V : World} {gL gA gB gp b g5 cap b2 n c2 n2 c3 : Nat} {p0 p1 p2 p3 p4 : Int} {A A2 : Option Addr} {cs ds ds2 : List Value}
theorem RoJ.below (h : RoJ w gL gA gB gp p0 p1 p2 p3 p4 b g5 cap cs b2 A n c2 ds W) (hb : Below W.heap.size W V) : RoJ w gL gA gB gp p0 p1 p2 p3 p4 b g5 cap cs b2 A n c2 ds V :=
  ⟨h.p.below hb, ownBelow h.own2 hb, h.lt2.1, h.lt2.2.1, Nat.le_trans h.lt2.2.2 hb.size⟩
theorem RoJ.alloc (h : RoJ w gL gA gB gp p0 p1 p2 p3 p4 b g5 cap cs b2 A n c2 ds W) (o : Obj) : RoJ w gL gA gB gp p0 p1 p2 p3 p4 b g5 cap cs b2 A n c2 ds (W.alloc o) :=
  h.below ((Below.refl _ _).alloc (Nat.le_refl _) o)
theorem RoJ.push (h : RoJ w gL gA gB gp p0 p1 p2 p3 p4 b g5 cap cs b2 A n c2 ds W) (hg : W.grownBy V (Value.slice A n c2).ownBlock) (ho : V.ownsRow b2 2 1 (.slice A2 n2 c3) n2 ds2) : RoJ w gL gA gB gp p0 p1 p2 p3 p4 b g5 cap cs b2 A2 n2 c3 ds2 V := by
  have hk : ∀ k, (Value.slice A n c2).ownBlock = some k → b2 ≤ k := fun k e => (World.ownsRow.lt h.own2 k e).1
  have hl := h.lt2
  refine ⟨h.p.other hg (fun k e => by have := hk k e; omega) (ownGrown h.p.own hg (fun k hk' e => ?_)), ho, hl.1, hl.2.1, Nat.le_trans hl.2.2 hg.size⟩
  have h1 := hk k e.symm
  have h2 : k = g5 := ownB_some.1 hk'
  omega
end
set_option maxHeartbeats 4000000 in
set_option maxRecDepth 100000 in
theorem duals_c : DualsC := by
  intro gL gA gB w h
  have H0 := Lib.hid (BuJ.start h (Below.refl w.heap.size w))
  have l0 := h.L.cell 0 rfl
  have l1 := h.L.cell 1 rfl
  clear h
  have hm1 : ∀ W : World, (Instr.makeSlice 22 (.int .i64 5) (.int .i64 5)).run Try.prog W = .ok (.slice (some ⟨W.heap.size, 0, none⟩) 5 5) (W.alloc (.cells (Array.replicate 5 (.int .i64 0)) 2)) := make_64 5 (by omega)
  go_enter Try.func96, Try.ntmps96
  go_upto_region 3 with fail
  have J0 := H0
  clear H0 l0 l1 hm1
  generalize ((w.alloc (.cells (Array.replicate 5 (.int .i64 0)) 2)).alloc (.cells #[.slice (some ⟨w.heap.size, 0, none⟩) 5 5, .slice none 0 0, .slice none 0 0, .slice none 0 0] 125)) = v0 at J0 ⊢
  obtain ⟨gs, hgs⟩ : ∃ g, g = w.heap.size := ⟨_, rfl⟩
  rw [← hgs] at J0 ⊢
  clear hgs
  generalize gs + 1 = gb at J0 ⊢
  have y0 := J0.out.b.cell 0 rfl
  have y1 := J0.out.b.cell 1 rfl
  have l0 := J0.out.co.L.cell 0 rfl
  have l1 := J0.out.co.L.cell 1 rfl
  have a0 := J0.out.co.A.cell 0 rfl
  have a1 := J0.out.co.A.cell 1 rfl
  have b0 := J0.out.co.B.cell 0 rfl
  have b1 := J0.out.co.B.cell 1 rfl
  have s0 : v0.cell? ⟨gs, 0, none⟩ = some (.int .i64 (0)) := Blk.cell J0.out.s 0 rfl
  have z0 := J0.out.s.free 0
  have s1 : v0.cell? ⟨gs, 1, none⟩ = some (.int .i64 (0)) := Blk.cell J0.out.s 1 rfl
  have z1 := J0.out.s.free 1
  have s4 : v0.cell? ⟨gs, 4, none⟩ = some (.int .i64 (0)) := Blk.cell J0.out.s 4 rfl
  have z4 := J0.out.s.free 4
  go_wp2_with fail
  refine wp_loop_rounds 3 ?_
  rw [rounds_succ]
  go_upto_region 6 with fail
  clear y0 y1 l0 l1 a0 a1 b0 b1 s0 s1 s4 z0 z1 z4
  have y0 := J0.out.b.cell 0 rfl
  have y1 := J0.out.b.cell 1 rfl
  have l0 := J0.out.co.L.cell 0 rfl
  have l1 := J0.out.co.L.cell 1 rfl
  have a0 := J0.out.co.A.cell 0 rfl
  have a1 := J0.out.co.A.cell 1 rfl
  have b0 := J0.out.co.B.cell 0 rfl
  have b1 := J0.out.co.B.cell 1 rfl
  have s0 : v0.cell? ⟨gs, 0, none⟩ = some (.int .i64 (0)) := Blk.cell J0.out.s 0 rfl
  have z0 := J0.out.s.free 0
  have s1 : v0.cell? ⟨gs, 1, none⟩ = some (.int .i64 (0)) := Blk.cell J0.out.s 1 rfl
  have z1 := J0.out.s.free 1
  have s4 : v0.cell? ⟨gs, 4, none⟩ = some (.int .i64 (0)) := Blk.cell J0.out.s 4 rfl
  have z4 := J0.out.s.free 4
  go_upto_region 7 with fail
  clear y0 y1 l0 l1 a0 a1 b0 b1 s0 s1 s4 z0 z1 z4
  have J1 := Lib.hid (show BuJ w gL gA gB gs gb none 0 0 [1, 0, 0, 0, 0] [] _ from J0.out.set 0 (1))
  generalize v0.setCell ⟨gs, 0, none⟩ (.int .i64 (1)) = v1 at J1 ⊢
  have y0 := J1.out.b.cell 0 rfl
  have y1 := J1.out.b.cell 1 rfl
  have l0 := J1.out.co.L.cell 0 rfl
  have l1 := J1.out.co.L.cell 1 rfl
  have a0 := J1.out.co.A.cell 0 rfl
  have a1 := J1.out.co.A.cell 1 rfl
  have b0 := J1.out.co.B.cell 0 rfl
  have b1 := J1.out.co.B.cell 1 rfl
  have s0 : v1.cell? ⟨gs, 0, none⟩ = some (.int .i64 (1)) := Blk.cell J1.out.s 0 rfl
  have z0 := J1.out.s.free 0
  have s1 : v1.cell? ⟨gs, 1, none⟩ = some (.int .i64 (0)) := Blk.cell J1.out.s 1 rfl
  have z1 := J1.out.s.free 1
  have s4 : v1.cell? ⟨gs, 4, none⟩ = some (.int .i64 (0)) := Blk.cell J1.out.s 4 rfl
  have z4 := J1.out.s.free 4
  go_upto_region 8 with fail
  clear y0 y1 l0 l1 a0 a1 b0 b1 s0 s1 s4 z0 z1 z4
  have J2 := Lib.hid (show BuJ w gL gA gB gs gb none 0 0 [1, 0, 0, 0, -1] [] _ from J1.out.set 4 (-1))
  generalize v1.setCell ⟨gs, 4, none⟩ (.int .i64 (-1)) = v2 at J2 ⊢
  have y0 := J2.out.b.cell 0 rfl
  have y1 := J2.out.b.cell 1 rfl
  have l0 := J2.out.co.L.cell 0 rfl
  have l1 := J2.out.co.L.cell 1 rfl
  have a0 := J2.out.co.A.cell 0 rfl
  have a1 := J2.out.co.A.cell 1 rfl
  have b0 := J2.out.co.B.cell 0 rfl
  have b1 := J2.out.co.B.cell 1 rfl
  have s0 : v2.cell? ⟨gs, 0, none⟩ = some (.int .i64 (1)) := Blk.cell J2.out.s 0 rfl
  have z0 := J2.out.s.free 0
  have s1 : v2.cell? ⟨gs, 1, none⟩ = some (.int .i64 (0)) := Blk.cell J2.out.s 1 rfl
  have z1 := J2.out.s.free 1
  have s4 : v2.cell? ⟨gs, 4, none⟩ = some (.int .i64 (-1)) := Blk.cell J2.out.s 4 rfl
  have z4 := J2.out.s.free 4
  go_wp2_with fail
  refine wp_loop_rounds 3 ?_
  rw [rounds_succ]
  go_wp2_with fail
  clear y0 y1 l0 l1 a0 a1 b0 b1 s0 s1 s4 z0 z1 z4
  have MA := Lib.hid (J2.out.alloc (.cells #[.int .i64 0, .int .i64 2, .int .i64 1, .int .i64 4] 46))
  have X := Lib.hid (Blk.new' v2 #[.int .i64 0, .int .i64 2, .int .i64 1, .int .i64 4] 46)
  refine (add_c w _ gL gA gB gs gb 0 0 _ none [1, 0, 0, 0, -1] [] ⟨0, 2, 1, 4⟩ (by decide) MA.out X.out rfl).mono ?_
  rintro e v3 ⟨A1, c1, rfl, hj⟩
  have J3 := Lib.hid (show BuJ w gL gA gB gs gb A1 1 c1 [1, 0, 0, 0, -1] [⟨0, 2, 1, 4⟩] v3 from hj)
  clear hj MA X
  have y0 := J3.out.b.cell 0 rfl
  have y1 := J3.out.b.cell 1 rfl
  have l0 := J3.out.co.L.cell 0 rfl
  have l1 := J3.out.co.L.cell 1 rfl
  have a0 := J3.out.co.A.cell 0 rfl
  have a1 := J3.out.co.A.cell 1 rfl
  have b0 := J3.out.co.B.cell 0 rfl
  have b1 := J3.out.co.B.cell 1 rfl
  have s0 : v3.cell? ⟨gs, 0, none⟩ = some (.int .i64 (1)) := Blk.cell J3.out.s 0 rfl
  have z0 := J3.out.s.free 0
  have s1 : v3.cell? ⟨gs, 1, none⟩ = some (.int .i64 (0)) := Blk.cell J3.out.s 1 rfl
  have z1 := J3.out.s.free 1
  have s4 : v3.cell? ⟨gs, 4, none⟩ = some (.int .i64 (-1)) := Blk.cell J3.out.s 4 rfl
  have z4 := J3.out.s.free 4
  go_wp2_with fail
  rw [rounds_succ]
  go_wp2_with fail
  clear y0 y1 l0 l1 a0 a1 b0 b1 s0 s1 s4 z0 z1 z4
  have MA := Lib.hid (J3.out.alloc (.cells #[.int .i64 0, .int .i64 3, .int .i64 1, .int .i64 1] 46))
  have X := Lib.hid (Blk.new' v3 #[.int .i64 0, .int .i64 3, .int .i64 1, .int .i64 1] 46)
  refine (add_c w _ gL gA gB gs gb 1 c1 _ A1 [1, 0, 0, 0, -1] [⟨0, 2, 1, 4⟩] ⟨0, 3, 1, 1⟩ (by decide) MA.out X.out rfl).mono ?_
  rintro e v4 ⟨A2, c2, rfl, hj⟩
  have J4 := Lib.hid (show BuJ w gL gA gB gs gb A2 2 c2 [1, 0, 0, 0, -1] [⟨0, 2, 1, 4⟩, ⟨0, 3, 1, 1⟩] v4 from hj)
  clear hj MA X
  have y0 := J4.out.b.cell 0 rfl
  have y1 := J4.out.b.cell 1 rfl
  have l0 := J4.out.co.L.cell 0 rfl
  have l1 := J4.out.co.L.cell 1 rfl
  have a0 := J4.out.co.A.cell 0 rfl
  have a1 := J4.out.co.A.cell 1 rfl
  have b0 := J4.out.co.B.cell 0 rfl
  have b1 := J4.out.co.B.cell 1 rfl
  have s0 : v4.cell? ⟨gs, 0, none⟩ = some (.int .i64 (1)) := Blk.cell J4.out.s 0 rfl
  have z0 := J4.out.s.free 0
  have s1 : v4.cell? ⟨gs, 1, none⟩ = some (.int .i64 (0)) := Blk.cell J4.out.s 1 rfl
  have z1 := J4.out.s.free 1
  have s4 : v4.cell? ⟨gs, 4, none⟩ = some (.int .i64 (-1)) := Blk.cell J4.out.s 4 rfl
  have z4 := J4.out.s.free 4
  go_wp2_with fail
  rw [rounds_succ]
  go_wp2_with fail
  rw [rounds_succ]
  go_upto_region 6 with fail
  clear y0 y1 l0 l1 a0 a1 b0 b1 s0 s1 s4 z0 z1 z4
  have y0 := J4.out.b.cell 0 rfl
  have y1 := J4.out.b.cell 1 rfl
  have l0 := J4.out.co.L.cell 0 rfl
  have l1 := J4.out.co.L.cell 1 rfl
  have a0 := J4.out.co.A.cell 0 rfl
  have a1 := J4.out.co.A.cell 1 rfl
  have b0 := J4.out.co.B.cell 0 rfl
  have b1 := J4.out.co.B.cell 1 rfl
  have s0 : v4.cell? ⟨gs, 0, none⟩ = some (.int .i64 (1)) := Blk.cell J4.out.s 0 rfl
  have z0 := J4.out.s.free 0
  have s1 : v4.cell? ⟨gs, 1, none⟩ = some (.int .i64 (0)) := Blk.cell J4.out.s 1 rfl
  have z1 := J4.out.s.free 1
  have s4 : v4.cell? ⟨gs, 4, none⟩ = some (.int .i64 (-1)) := Blk.cell J4.out.s 4 rfl
  have z4 := J4.out.s.free 4
  go_upto_region 7 with fail
  clear y0 y1 l0 l1 a0 a1 b0 b1 s0 s1 s4 z0 z1 z4
  have J5 := Lib.hid (show BuJ w gL gA gB gs gb A2 2 c2 [1, 1, 0, 0, -1] [⟨0, 2, 1, 4⟩, ⟨0, 3, 1, 1⟩] _ from J4.out.set 1 (1))
  generalize v4.setCell ⟨gs, 1, none⟩ (.int .i64 (1)) = v5 at J5 ⊢
  have y0 := J5.out.b.cell 0 rfl
  have y1 := J5.out.b.cell 1 rfl
  have l0 := J5.out.co.L.cell 0 rfl
  have l1 := J5.out.co.L.cell 1 rfl
  have a0 := J5.out.co.A.cell 0 rfl
  have a1 := J5.out.co.A.cell 1 rfl
  have b0 := J5.out.co.B.cell 0 rfl
  have b1 := J5.out.co.B.cell 1 rfl
  have s0 : v5.cell? ⟨gs, 0, none⟩ = some (.int .i64 (1)) := Blk.cell J5.out.s 0 rfl
  have z0 := J5.out.s.free 0
  have s1 : v5.cell? ⟨gs, 1, none⟩ = some (.int .i64 (1)) := Blk.cell J5.out.s 1 rfl
  have z1 := J5.out.s.free 1
  have s4 : v5.cell? ⟨gs, 4, none⟩ = some (.int .i64 (-1)) := Blk.cell J5.out.s 4 rfl
  have z4 := J5.out.s.free 4
  go_upto_region 8 with fail
  clear y0 y1 l0 l1 a0 a1 b0 b1 s0 s1 s4 z0 z1 z4
  have J6 := Lib.hid (show BuJ w gL gA gB gs gb A2 2 c2 [1, 1, 0, 0, -2] [⟨0, 2, 1, 4⟩, ⟨0, 3, 1, 1⟩] _ from J5.out.set 4 (-2))
  generalize v5.setCell ⟨gs, 4, none⟩ (.int .i64 (-2)) = v6 at J6 ⊢
  have y0 := J6.out.b.cell 0 rfl
  have y1 := J6.out.b.cell 1 rfl
  have l0 := J6.out.co.L.cell 0 rfl
  have l1 := J6.out.co.L.cell 1 rfl
  have a0 := J6.out.co.A.cell 0 rfl
  have a1 := J6.out.co.A.cell 1 rfl
  have b0 := J6.out.co.B.cell 0 rfl
  have b1 := J6.out.co.B.cell 1 rfl
  have s0 : v6.cell? ⟨gs, 0, none⟩ = some (.int .i64 (1)) := Blk.cell J6.out.s 0 rfl
  have z0 := J6.out.s.free 0
  have s1 : v6.cell? ⟨gs, 1, none⟩ = some (.int .i64 (1)) := Blk.cell J6.out.s 1 rfl
  have z1 := J6.out.s.free 1
  have s4 : v6.cell? ⟨gs, 4, none⟩ = some (.int .i64 (-2)) := Blk.cell J6.out.s 4 rfl
  have z4 := J6.out.s.free 4
  go_wp2_with fail
  refine wp_loop_rounds 3 ?_
  rw [rounds_succ]
  go_wp2_with fail
  clear y0 y1 l0 l1 a0 a1 b0 b1 s0 s1 s4 z0 z1 z4
  have MA := Lib.hid (J6.out.alloc (.cells #[.int .i64 1, .int .i64 2, .int .i64 1, .int .i64 2] 46))
  have X := Lib.hid (Blk.new' v6 #[.int .i64 1, .int .i64 2, .int .i64 1, .int .i64 2] 46)
  refine (add_c w _ gL gA gB gs gb 2 c2 _ A2 [1, 1, 0, 0, -2] [⟨0, 2, 1, 4⟩, ⟨0, 3, 1, 1⟩] ⟨1, 2, 1, 2⟩ (by decide) MA.out X.out rfl).mono ?_
  rintro e v7 ⟨A3, c3, rfl, hj⟩
  have J7 := Lib.hid (show BuJ w gL gA gB gs gb A3 3 c3 [1, 1, 0, 0, -2] [⟨0, 2, 1, 4⟩, ⟨0, 3, 1, 1⟩, ⟨1, 2, 1, 2⟩] v7 from hj)
  clear hj MA X
  have y0 := J7.out.b.cell 0 rfl
  have y1 := J7.out.b.cell 1 rfl
  have l0 := J7.out.co.L.cell 0 rfl
  have l1 := J7.out.co.L.cell 1 rfl
  have a0 := J7.out.co.A.cell 0 rfl
  have a1 := J7.out.co.A.cell 1 rfl
  have b0 := J7.out.co.B.cell 0 rfl
  have b1 := J7.out.co.B.cell 1 rfl
  have s0 : v7.cell? ⟨gs, 0, none⟩ = some (.int .i64 (1)) := Blk.cell J7.out.s 0 rfl
  have z0 := J7.out.s.free 0
  have s1 : v7.cell? ⟨gs, 1, none⟩ = some (.int .i64 (1)) := Blk.cell J7.out.s 1 rfl
  have z1 := J7.out.s.free 1
  have s4 : v7.cell? ⟨gs, 4, none⟩ = some (.int .i64 (-2)) := Blk.cell J7.out.s 4 rfl
  have z4 := J7.out.s.free 4
  go_wp2_with fail
  rw [rounds_succ]
  go_wp2_with fail
  clear y0 y1 l0 l1 a0 a1 b0 b1 s0 s1 s4 z0 z1 z4
  have MA := Lib.hid (J7.out.alloc (.cells #[.int .i64 1, .int .i64 3, .int .i64 1, .int .i64 3] 46))
  have X := Lib.hid (Blk.new' v7 #[.int .i64 1, .int .i64 3, .int .i64 1, .int .i64 3] 46)
  refine (add_c w _ gL gA gB gs gb 3 c3 _ A3 [1, 1, 0, 0, -2] [⟨0, 2, 1, 4⟩, ⟨0, 3, 1, 1⟩, ⟨1, 2, 1, 2⟩] ⟨1, 3, 1, 3⟩ (by decide) MA.out X.out rfl).mono ?_
  rintro e v8 ⟨A4, c4, rfl, hj⟩
  have J8 := Lib.hid (show BuJ w gL gA gB gs gb A4 4 c4 [1, 1, 0, 0, -2] [⟨0, 2, 1, 4⟩, ⟨0, 3, 1, 1⟩, ⟨1, 2, 1, 2⟩, ⟨1, 3, 1, 3⟩] v8 from hj)
  clear hj MA X
  have y0 := J8.out.b.cell 0 rfl
  have y1 := J8.out.b.cell 1 rfl
  have l0 := J8.out.co.L.cell 0 rfl
  have l1 := J8.out.co.L.cell 1 rfl
  have a0 := J8.out.co.A.cell 0 rfl
  have a1 := J8.out.co.A.cell 1 rfl
  have b0 := J8.out.co.B.cell 0 rfl
  have b1 := J8.out.co.B.cell 1 rfl
  have s0 : v8.cell? ⟨gs, 0, none⟩ = some (.int .i64 (1)) := Blk.cell J8.out.s 0 rfl
  have z0 := J8.out.s.free 0
  have s1 : v8.cell? ⟨gs, 1, none⟩ = some (.int .i64 (1)) := Blk.cell J8.out.s 1 rfl
  have z1 := J8.out.s.free 1
  have s4 : v8.cell? ⟨gs, 4, none⟩ = some (.int .i64 (-2)) := Blk.cell J8.out.s 4 rfl
  have z4 := J8.out.s.free 4
  go_wp2_with fail
  rw [rounds_succ]
  go_wp2_with fail
  rw [rounds_succ]
  go_wp2_with fail
  refine wp_loop_rounds 3 ?_
  rw [rounds_succ]
  go_wp2_with fail
  clear y0 y1 l0 l1 a0 a1 b0 b1 s0 s1 s4 z0 z1 z4
  have MA := Lib.hid (J8.out.alloc (.cells #[.int .i64 2, .int .i64 4, .int .i64 1, .int .i64 0] 46))
  have X := Lib.hid (Blk.new' v8 #[.int .i64 2, .int .i64 4, .int .i64 1, .int .i64 0] 46)
  refine (add_c w _ gL gA gB gs gb 4 c4 _ A4 [1, 1, 0, 0, -2] [⟨0, 2, 1, 4⟩, ⟨0, 3, 1, 1⟩, ⟨1, 2, 1, 2⟩, ⟨1, 3, 1, 3⟩] ⟨2, 4, 1, 0⟩ (by decide) MA.out X.out rfl).mono ?_
  rintro e v9 ⟨A5, c5, rfl, hj⟩
  have J9 := Lib.hid (show BuJ w gL gA gB gs gb A5 5 c5 [1, 1, 0, 0, -2] [⟨0, 2, 1, 4⟩, ⟨0, 3, 1, 1⟩, ⟨1, 2, 1, 2⟩, ⟨1, 3, 1, 3⟩, ⟨2, 4, 1, 0⟩] v9 from hj)
  clear hj MA X
  have y0 := J9.out.b.cell 0 rfl
  have y1 := J9.out.b.cell 1 rfl
  have l0 := J9.out.co.L.cell 0 rfl
  have l1 := J9.out.co.L.cell 1 rfl
  have a0 := J9.out.co.A.cell 0 rfl
  have a1 := J9.out.co.A.cell 1 rfl
  have b0 := J9.out.co.B.cell 0 rfl
  have b1 := J9.out.co.B.cell 1 rfl
  have s0 : v9.cell? ⟨gs, 0, none⟩ = some (.int .i64 (1)) := Blk.cell J9.out.s 0 rfl
  have z0 := J9.out.s.free 0
  have s1 : v9.cell? ⟨gs, 1, none⟩ = some (.int .i64 (1)) := Blk.cell J9.out.s 1 rfl
  have z1 := J9.out.s.free 1
  have s4 : v9.cell? ⟨gs, 4, none⟩ = some (.int .i64 (-2)) := Blk.cell J9.out.s 4 rfl
  have z4 := J9.out.s.free 4
  go_wp2_with fail
  rw [rounds_succ]
  go_wp2_with fail
  clear y0 y1 l0 l1 a0 a1 b0 b1 s0 s1 s4 z0 z1 z4
  have MA := Lib.hid (J9.out.alloc (.cells #[.int .i64 3, .int .i64 4, .int .i64 1, .int .i64 0] 46))
  have X := Lib.hid (Blk.new' v9 #[.int .i64 3, .int .i64 4, .int .i64 1, .int .i64 0] 46)
  refine (add_c w _ gL gA gB gs gb 5 c5 _ A5 [1, 1, 0, 0, -2] [⟨0, 2, 1, 4⟩, ⟨0, 3, 1, 1⟩, ⟨1, 2, 1, 2⟩, ⟨1, 3, 1, 3⟩, ⟨2, 4, 1, 0⟩] ⟨3, 4, 1, 0⟩ (by decide) MA.out X.out rfl).mono ?_
  rintro e v10 ⟨A6, c6, rfl, hj⟩
  have J10 := Lib.hid (show BuJ w gL gA gB gs gb A6 6 c6 [1, 1, 0, 0, -2] [⟨0, 2, 1, 4⟩, ⟨0, 3, 1, 1⟩, ⟨1, 2, 1, 2⟩, ⟨1, 3, 1, 3⟩, ⟨2, 4, 1, 0⟩, ⟨3, 4, 1, 0⟩] v10 from hj)
  clear hj MA X
  have y0 := J10.out.b.cell 0 rfl
  have y1 := J10.out.b.cell 1 rfl
  have l0 := J10.out.co.L.cell 0 rfl
  have l1 := J10.out.co.L.cell 1 rfl
  have a0 := J10.out.co.A.cell 0 rfl
  have a1 := J10.out.co.A.cell 1 rfl
  have b0 := J10.out.co.B.cell 0 rfl
  have b1 := J10.out.co.B.cell 1 rfl
  have s0 : v10.cell? ⟨gs, 0, none⟩ = some (.int .i64 (1)) := Blk.cell J10.out.s 0 rfl
  have z0 := J10.out.s.free 0
  have s1 : v10.cell? ⟨gs, 1, none⟩ = some (.int .i64 (1)) := Blk.cell J10.out.s 1 rfl
  have z1 := J10.out.s.free 1
  have s4 : v10.cell? ⟨gs, 4, none⟩ = some (.int .i64 (-2)) := Blk.cell J10.out.s 4 rfl
  have z4 := J10.out.s.free 4
  go_wp2_with fail
  rw [rounds_succ]
  go_wp2_with fail
  clear y0 y1 l0 l1 a0 a1 b0 b1 s0 s1 s4 z0 z1 z4
  have NT := Lib.hid (BuJ.net J10.out)
  refine (Least_c _ _ duN 5 6 5 c6 _ rfl rfl (by omega) NT.out.2 NT.out.1).mono ?_
  rintro e v ⟨hL, hb⟩
  obtain ⟨gf, gp, p0, p1, p2, p3, p4, rfl, hp, hg, B2, B3, B4⟩ := du_least hL
  have HBV := Lib.hid (J10.out.bel.trans (hb.mono J10.out.bel.size))
  have P0 : Hid (PrJ w gL gA gB gp p0 p1 p2 p3 p4 v.heap.size none 0 0 [] v) := Lib.hid ⟨J10.out.co.below hb (Nat.le_refl _), hp, World.ownsRow_nil _ _ _ _, ⟨(J10.out.co.below hb (Nat.le_refl _)).L.lt, (J10.out.co.below hb (Nat.le_refl _)).A.lt, (J10.out.co.below hb (Nat.le_refl _)).B.lt, hp.lt, HBV.out.size⟩, Nat.le_refl _, HBV.out⟩
  clear hL hp hg hb HBV NT
  obtain ⟨d0, D0⟩ : ∃ d : Int, Hid (IntKind.i64.wrap (p2 - p4) = d ∧ -4294967296 ≤ d ∧ d ≤ 4294967296) := ⟨p2 - p4, Lib.hid ⟨IntWalk.i64_in (p2 - p4) (by omega), by omega, by omega⟩⟩
  obtain ⟨d1, D1⟩ : ∃ d : Int, Hid (IntKind.i64.wrap (p3 - p4) = d ∧ -4294967296 ≤ d ∧ d ≤ 4294967296) := ⟨p3 - p4, Lib.hid ⟨IntWalk.i64_in (p3 - p4) (by omega), by omega, by omega⟩⟩
  clear B2 B3 B4
  obtain ⟨q0, Q0⟩ : ∃ q : Int, Hid ((∀ ts t W, (Builtin.min_ ts t #[.int .i64 0, .int .i64 d0]).run Try.prog W = .ok (.int .i64 q) W) ∧ -4294967296 ≤ q ∧ q ≤ 0) := ⟨min 0 d0, Lib.hid ⟨fun ts t W => min_i64 0 d0 ts t W, by have := D0.out; omega, by omega⟩⟩
  obtain ⟨q1, Q1⟩ : ∃ q : Int, Hid ((∀ ts t W, (Builtin.min_ ts t #[.int .i64 0, .int .i64 d1]).run Try.prog W = .ok (.int .i64 q) W) ∧ -4294967296 ≤ q ∧ q ≤ 0) := ⟨min 0 d1, Lib.hid ⟨fun ts t W => min_i64 0 d1 ts t W, by have := D1.out; omega, by omega⟩⟩
  generalize hbp : v.heap.size = bp at P0 ⊢
  clear hbp
  obtain ⟨i2, h2i, h2z, h2s, h2b⟩ := info_parts info2
  go_wp2_with fail
  refine wp_loop_rounds 3 ?_
  rw [rounds_succ]
  go_upto_region 24 with fail
  refine wp_region_spine 14 [true, false] [0] ?af0 (fun V => PrJ w gL gA gB gp p0 p1 p2 p3 p4 bp none 0 0 [] V) (by kernel_rfl) (by kernel_rfl) P0.out.drew ?walk0 ?_
  case walk0 =>
    intro V hV
    have k0 := hV.p.cell 2 rfl
    have k4 := hV.p.cell 4 rfl
    have e0 := D0.out.1
    have hmx := Q0.out.1
    clear hV
    simp only [List.take_succ_cons, List.take_zero]
    repeat (go_big_quiet_step (fail))
    refine wpQuiet_nil ?_
    rfl
  intro u hV
  have PV := Lib.hid hV
  clear hV
  refine spineV_cons ?_
  unfold StepV
  go_simp
  refine ⟨PV.out.alloc _, ?_⟩
  have PA := Lib.hid (PV.out.alloc (.cells #[.int .i64 q0] 2))
  have X := Lib.hid (Blk.new' u #[.int .i64 q0] 2)
  generalize u.alloc (.cells #[.int .i64 q0] 2) = u2 at PA X ⊢
  generalize u.heap.size = gu at *
  refine spineV_cons ?_
  refine stepV_append (.tmp 104) (.tmp 118) 22 rfl bp 2 i2 (.int .i64 0) 1 8 Try.underlying22 h2i h2z h2s h2b rfl (by decide) none 0 0 [] (by rfl) PA.out.own (some ⟨gu, 0, none⟩) 1 1 [.int .i64 q0] (by rfl) (by rfl) (.inr ⟨_, rfl, ?_⟩) (by simp [Value.oneCell']) (by decide) (by decide) PA.out.bW ?_
  · intro j u' hj
    rcases j with _ | j <;> simp at hj
    subst hj
    exact X.out.cell 0 rfl
  intro B1 e1 v1 ho hg hk
  refine ⟨fun h => (by cases h), ?_⟩
  have P1 := Lib.hid (show PrJ w gL gA gB gp p0 p1 p2 p3 p4 bp B1 1 e1 [.int .i64 q0] v1 from PA.out.push hg ho)
  clear ho hg hk PA X PV
  refine spineV_nil ?_
  go_wp2_with fail
  rw [rounds_succ]
  go_upto_region 24 with fail
  refine wp_region_spine 14 [true, false] [0] ?af1 (fun V => PrJ w gL gA gB gp p0 p1 p2 p3 p4 bp B1 1 e1 [.int .i64 q0] V) (by kernel_rfl) (by kernel_rfl) P1.out.drew ?walk1 ?_
  case walk1 =>
    intro V hV
    have k1 := hV.p.cell 3 rfl
    have k4 := hV.p.cell 4 rfl
    have e0 := D1.out.1
    have hmx := Q1.out.1
    clear hV
    simp only [List.take_succ_cons, List.take_zero]
    repeat (go_big_quiet_step (fail))
    refine wpQuiet_nil ?_
    rfl
  intro u hV
  have PV := Lib.hid hV
  clear hV
  refine spineV_cons ?_
  unfold StepV
  go_simp
  refine ⟨PV.out.alloc _, ?_⟩
  have PA := Lib.hid (PV.out.alloc (.cells #[.int .i64 q1] 2))
  have X := Lib.hid (Blk.new' u #[.int .i64 q1] 2)
  generalize u.alloc (.cells #[.int .i64 q1] 2) = u2 at PA X ⊢
  generalize u.heap.size = gu at *
  refine spineV_cons ?_
  refine stepV_append (.tmp 104) (.tmp 118) 22 rfl bp 2 i2 (.int .i64 0) 1 8 Try.underlying22 h2i h2z h2s h2b rfl (by decide) B1 1 e1 [.int .i64 q0] (by rfl) PA.out.own (some ⟨gu, 0, none⟩) 1 1 [.int .i64 q1] (by rfl) (by rfl) (.inr ⟨_, rfl, ?_⟩) (by simp [Value.oneCell']) (by decide) (by decide) PA.out.bW ?_
  · intro j u' hj
    rcases j with _ | j <;> simp at hj
    subst hj
    exact X.out.cell 0 rfl
  intro B2 e2 v2 ho hg hk
  refine ⟨fun h => (by cases h), ?_⟩
  have P2 := Lib.hid (show PrJ w gL gA gB gp p0 p1 p2 p3 p4 bp B2 2 e2 [.int .i64 q0, .int .i64 q1] v2 from PA.out.push hg ho)
  clear ho hg hk PA X PV
  refine spineV_nil ?_
  go_wp2_with fail
  rw [rounds_succ]
  go_wp2_with fail
  obtain ⟨g5, c5, hv, hb5, hlt5⟩ := P2.out.own.form (by omega)
  cases hv
  have R0 : Hid (RoJ w gL gA gB gp p0 p1 p2 p3 p4 bp g5 e2 [.int .i64 q0, .int .i64 q1] v2.heap.size none 0 0 [] v2) := Lib.hid ⟨P2.out, World.ownsRow_nil _ _ _ _, hlt5, P2.out.bW, Nat.le_refl _⟩
  clear hb5 hlt5
  obtain ⟨b2, hb2⟩ : ∃ b, b = v2.heap.size := ⟨_, rfl⟩
  rw [← hb2] at R0
  clear hb2
  obtain ⟨s00, S00⟩ : ∃ d : Int, Hid (IntKind.i64.wrap (4 - q0) = d) := ⟨_, Lib.hid rfl⟩
  obtain ⟨x00, X00⟩ : ∃ q : Int, Hid (∀ ts t W, (Builtin.min_ ts t #[.int .i64 1152921504606846976, .int .i64 s00]).run Try.prog W = .ok (.int .i64 q) W) := ⟨_, Lib.hid fun ts t W => min_i64 _ _ ts t W⟩
  obtain ⟨s01, S01⟩ : ∃ d : Int, Hid (IntKind.i64.wrap (1 - q1) = d) := ⟨_, Lib.hid rfl⟩
  obtain ⟨x01, X01⟩ : ∃ q : Int, Hid (∀ ts t W, (Builtin.min_ ts t #[.int .i64 x00, .int .i64 s01]).run Try.prog W = .ok (.int .i64 q) W) := ⟨_, Lib.hid fun ts t W => min_i64 _ _ ts t W⟩
  obtain ⟨s10, S10⟩ : ∃ d : Int, Hid (IntKind.i64.wrap (2 - q0) = d) := ⟨_, Lib.hid rfl⟩
  obtain ⟨x10, X10⟩ : ∃ q : Int, Hid (∀ ts t W, (Builtin.min_ ts t #[.int .i64 1152921504606846976, .int .i64 s10]).run Try.prog W = .ok (.int .i64 q) W) := ⟨_, Lib.hid fun ts t W => min_i64 _ _ ts t W⟩
  obtain ⟨s11, S11⟩ : ∃ d : Int, Hid (IntKind.i64.wrap (3 - q1) = d) := ⟨_, Lib.hid rfl⟩
  obtain ⟨x11, X11⟩ : ∃ q : Int, Hid (∀ ts t W, (Builtin.min_ ts t #[.int .i64 x10, .int .i64 s11]).run Try.prog W = .ok (.int .i64 q) W) := ⟨_, Lib.hid fun ts t W => min_i64 _ _ ts t W⟩
  refine wp_loop_rounds 3 ?_
  rw [rounds_succ]
  have l0 := R0.out.p.co.L.cell 0 rfl
  have l1 := R0.out.p.co.L.cell 1 rfl
  have a0 := R0.out.p.co.A.cell 0 rfl
  have a1 := R0.out.p.co.A.cell 1 rfl
  have b0 := R0.out.p.co.B.cell 0 rfl
  have b1 := R0.out.p.co.B.cell 1 rfl
  have f0 : v2.cell? ⟨g5, 0, none⟩ = some (.int .i64 q0) := World.ownsRow.cellAt R0.out.p.own 0 (by omega)
  have f1 : v2.cell? ⟨g5, 1, none⟩ = some (.int .i64 q1) := World.ownsRow.cellAt R0.out.p.own 1 (by omega)
  go_wp2_with fail
  refine wp_loop_rounds 3 ?_
  have t1 := S00.out
  have t2 := X00.out
  rw [rounds_succ]
  go_wp2_with fail
  clear t1 t2
  have t1 := S01.out
  have t2 := X01.out
  rw [rounds_succ]
  go_wp2_with fail
  clear t1 t2
  clear l0 l1 a0 a1 b0 b1 f0 f1
  have MA := Lib.hid (R0.out.alloc (.cells #[.int .i64 x01] 2))
  have X := Lib.hid (Blk.new' v2 #[.int .i64 x01] 2)
  rw [rounds_succ]
  go_wp2_with (at_builtin; refine wpList_append_any (.tmp 145) (.tmp 147) 22 rfl rfl b2 2 i2 (.int .i64 0) 1 8 Try.underlying22 h2i h2z h2s h2b rfl (by decide) none 0 0 [] (by rfl) MA.out.own2 (some ⟨v2.heap.size, 0, none⟩) 1 1 [.int .i64 x01] (by rfl) (by rfl) (.inr ⟨_, rfl, fun k u hk => by rcases k with _ | k <;> simp at hk; subst hk; exact X.out.cell 0 rfl⟩) (by simp [Value.oneCell']) (by decide) (by decide) MA.out.lt2.2.2 ?_; intro C1 k1 r1 hown hgrow hat; have R1 := Lib.hid (show RoJ w gL gA gB gp p0 p1 p2 p3 p4 bp g5 e2 [.int .i64 q0, .int .i64 q1] b2 C1 1 k1 [.int .i64 x01] r1 from MA.out.push hgrow hown); clear hown hgrow hat MA X)
  rw [rounds_succ]
  have l0 := R1.out.p.co.L.cell 0 rfl
  have l1 := R1.out.p.co.L.cell 1 rfl
  have a0 := R1.out.p.co.A.cell 0 rfl
  have a1 := R1.out.p.co.A.cell 1 rfl
  have b0 := R1.out.p.co.B.cell 0 rfl
  have b1 := R1.out.p.co.B.cell 1 rfl
  have f0 : r1.cell? ⟨g5, 0, none⟩ = some (.int .i64 q0) := World.ownsRow.cellAt R1.out.p.own 0 (by omega)
  have f1 : r1.cell? ⟨g5, 1, none⟩ = some (.int .i64 q1) := World.ownsRow.cellAt R1.out.p.own 1 (by omega)
  go_wp2_with fail
  refine wp_loop_rounds 3 ?_
  have t1 := S10.out
  have t2 := X10.out
  rw [rounds_succ]
  go_wp2_with fail
  clear t1 t2
  have t1 := S11.out
  have t2 := X11.out
  rw [rounds_succ]
  go_wp2_with fail
  clear t1 t2
  clear l0 l1 a0 a1 b0 b1 f0 f1
  have MA := Lib.hid (R1.out.alloc (.cells #[.int .i64 x11] 2))
  have X := Lib.hid (Blk.new' r1 #[.int .i64 x11] 2)
  rw [rounds_succ]
  go_wp2_with (at_builtin; refine wpList_append_any (.tmp 145) (.tmp 147) 22 rfl rfl b2 2 i2 (.int .i64 0) 1 8 Try.underlying22 h2i h2z h2s h2b rfl (by decide) C1 1 k1 [.int .i64 x01] (by rfl) MA.out.own2 (some ⟨r1.heap.size, 0, none⟩) 1 1 [.int .i64 x11] (by rfl) (by rfl) (.inr ⟨_, rfl, fun k u hk => by rcases k with _ | k <;> simp at hk; subst hk; exact X.out.cell 0 rfl⟩) (by simp [Value.oneCell']) (by decide) (by decide) MA.out.lt2.2.2 ?_; intro C2 k2 r2 hown hgrow hat; have R2 := Lib.hid (show RoJ w gL gA gB gp p0 p1 p2 p3 p4 bp g5 e2 [.int .i64 q0, .int .i64 q1] b2 C2 2 k2 [.int .i64 x01, .int .i64 x11] r2 from MA.out.push hgrow hown); clear hown hgrow hat MA X)
  rw [rounds_succ]
  go_wp2_with fail
  exact bodyPost_ret (v := .tuple #[.slice C2 2 k2, .slice (some ⟨g5, 0, none⟩) 2 e2]) (by simp [results, Try.results96, go_sem]) rfl ⟨_, _, _, _, _, _, rfl, R2.out.p.bel⟩
end Go.Proofs.Ytmebpglkeedaoaa
namespace Go.Proofs.Ytmebpglkeedaoaa
open Go.RowKit Dp
theorem mv_nat (l : List Int) (a : Nat) (d v : Int) (h : v = l.getD a 0 + d) : mv l (a : Int) d = l.set a v := by subst h; simp [mv]
theorem ret2 {a b c d : Int} (h1 : a = b) (h2 : c = d) : Ending.returned (.tuple #[.int .i64 a, .int .i64 c]) = .returned (.tuple #[.int .i64 b, .int .i64 d]) := by rw [h1, h2]
def CoJ (w : World) (A B : Option Addr) (n cA m cB g c : Nat) (l : List Int) (W : World) : Prop := Below w.heap.size w W ∧ Blk W w.heap.size 25 [.slice A n cA, .slice B m cB] ∧ OwnI w.heap.size W g c l
theorem CoJ.put {w : World} {A B : Option Addr} {n cA m cB g c : Nat} {l : List Int} {W : World} (h : CoJ w A B n cA m cB g c l W) (hg : w.heap.size < g) (j : Nat) (v : Int) : CoJ w A B n cA m cB g c (l.set j v) (W.setCell ⟨g, j, none⟩ (.int .i64 v)) :=
  ⟨h.1.setCell (by simp; omega) _, h.2.1.setCell_ne (by simp; omega) _, h.2.2.put j v⟩
theorem CoJ.alloc {w : World} {A B : Option Addr} {n cA m cB g c : Nat} {l : List Int} {W : World} (h : CoJ w A B n cA m cB g c l W) (o : Obj) : CoJ w A B n cA m cB g c l (W.alloc o) :=
  ⟨h.1.alloc h.1.size _, h.2.1.alloc _, h.2.2.below ((Below.refl _ _).alloc (Nat.le_refl _) _)⟩
set_option maxHeartbeats 2000000 in
set_option maxRecDepth 100000 in
theorem Cost_c (A B C : Option Addr) (N : Net) (fl : List Int) (n m p cA cB cC : Nat) (w : World) (hn : n = N.sup.length) (hm : m = N.arcs.length) (hp : p = fl.length) (hA : n ≤ cA ∧ cA ≤ 9223372036854775807) (hB : m ≤ cB ∧ cB ≤ 9223372036854775807) (hC : p ≤ cC ∧ cC ≤ 9223372036854775807) (hN : NetAt w A B N) (hF : IntsAt w C fl) :
    Calls Try.prog 14 #[.agg #[.slice A n cA, .slice B m cB], .slice C p cC] w fun e w' => e = .returned (.tuple #[.int .i64 (coV N fl), .int .i64 (coE N fl)]) ∧ Below w.heap.size w w' := by
  have HN := Lib.hid hn
  have HM := Lib.hid hm
  have HP := Lib.hid hp
  have HNA := Lib.hid hN
  have HFA := Lib.hid hF
  clear hn hm hp hN hF
  have B1 := Lib.hid (Blk.new' w #[.slice A n cA, .slice B m cB] 25)
  have HB1 := Lib.hid ((Below.refl w.heap.size w).alloc (Nat.le_refl _) (.cells #[.slice A n cA, .slice B m cB] 25))
  go_enter Try.func14, Try.ntmps14
  go_wp2_with fail
  generalize w.alloc (.cells #[.slice A n cA, .slice B m cB] 25) = w1 at B1 HB1 ⊢
  refine (Check_c A B N n m cA cB w1 HN.out HM.out hA hB (HNA.out.below HB1.out (Nat.le_refl _))).mono ?_
  rintro e w2 ⟨rfl, hb2⟩
  have B2 := Lib.hid (B1.out.below hb2 B1.out.lt)
  have HB2 := Lib.hid (HB1.out.trans (hb2.mono HB1.out.size))
  clear hb2 B1 HB1
  have cA0 := B2.out.cell 0 rfl
  have cB0 := B2.out.cell 1 rfl
  by_cases hch : chE N = 0
  · have hce := net_len hch
    rw [hch]
    by_cases hpm : p = m
    · have hmm : (p : Int) = (m : Int) := by omega
      have n1 : 1 ≤ n := by rw [HN.out]; exact hce.1
      have n2 : n ≤ 1024 := by rw [HN.out]; exact hce.2.1
      have m2 : m ≤ 2048 := by rw [HM.out]; exact hce.2.2
      have HCH := Lib.hid hch
      clear hch hce
      go_wp2_with fail
      trace "clone"
      refine (clone_c A N.sup n cA w2 HN.out n1 (by omega) (HNA.out.1.below HB2.out (Nat.le_refl _))).mono ?_
      rintro e w3 ⟨g, c, rfl, hb3, z1, z2, ho3⟩
      have B3 := Lib.hid (B2.out.below hb3 B2.out.lt)
      have HB3 := Lib.hid (HB2.out.trans (hb3.mono HB2.out.size))
      have zg : w.heap.size < g := Nat.lt_of_lt_of_le B2.out.lt z1
      have HO3 : Hid (OwnI w.heap.size w3 g c N.sup) := Lib.hid (ho3.mono HB2.out.size)
      clear hb3 ho3 B2 HB2 cA0 cB0 z1
      have cA0 := B3.out.cell 0 rfl
      have cB0 := B3.out.cell 1 rfl
      go_wp2_with fail
      have J3 := Lib.hid (show CoJ w A B n cA m cB g c N.sup w3 from ⟨HB3.out, B3.out, HO3.out⟩)
      clear B3 HB3 HO3 cA0 cB0
      go_loopw [8, 31] (fun v i wr => ∃ k : Nat, k ≤ m ∧ i = .int .i64 k ∧ v = .int .i64 (costK N fl k) ∧ Hid (CoJ w A B n cA m cB g c (leftK N fl k) wr ∧ ∀ x, x < k → 0 ≤ fl.getD x 0 ∧ fl.getD x 0 ≤ (N.arcs.getD x default).cap)) (fun _ i _ => m - (intOf i).toNat)
      case atStart => exact ⟨0, Nat.zero_le _, rfl, rfl, Lib.hid ⟨J3.out, fun x hx => absurd hx (Nat.not_lt_zero _)⟩⟩
      case round =>
        obtain ⟨k, hk, rfl, rfl, HJ⟩ := hrel
        have bc := costK_bd HCH.out k (by rw [← HM.out]; exact hk) HJ.out.2
        have BL := Lib.hid (leftK_bd HCH.out k (by rw [← HM.out]; exact hk) HJ.out.2)
        have cA0 := HJ.out.1.2.1.cell 0 rfl
        have cB0 := HJ.out.1.2.1.cell 1 rfl
        by_cases hlt : k < m
        · obtain ⟨ad, rfl, hbl, d0, d1, d2, d3⟩ := (HNA.out.2.below HJ.out.1.1 (Nat.le_refl _)) k (by rw [← HM.out]; exact hlt)
          obtain ⟨af, rfl, hbf, hf0⟩ := HFA.out k (by rw [← HP.out, hpm]; exact hlt)
          have HFC := Lib.hid (fun (W : World) (h : Below w.heap.size w W) => (h.cell (p := af.add k) (by rw [block_add]; exact hbf)).trans hf0)
          clear hf0 hbf
          obtain ⟨a1, a2, a3, a4, a5⟩ := net_arc HCH.out k (by rw [← HM.out]; exact hlt)
          rw [← HN.out] at a1 a2
          have HL1 := Lib.hid (show leftK N fl (k + 1) = mv (mv (leftK N fl k) (N.arcs.getD k default).fr (-(fl.getD k 0))) (N.arcs.getD k default).to (fl.getD k 0) from rfl)
          have HK1 := Lib.hid (show costK N fl (k + 1) = costK N fl k + fl.getD k 0 * (N.arcs.getD k default).cost from rfl)
          have HCAP := Lib.hid (fun h => isFlow_cap (N := N) (fl := fl) k (by rw [← HM.out]; exact hlt) h)
          have HLL := Lib.hid (leftK_length N fl k)
          generalize har : N.arcs.getD k default = ar at *
          obtain ⟨fr, «to», ca, co⟩ := ar
          have HAR := Lib.hid (show (N.arcs.getD k default).cap = ca from by rw [har])
          clear har
          simp only at d0 d1 d2 d3 a1 a2 a3 a4 a5 HCAP HL1 HK1
          obtain ⟨a, rfl⟩ : ∃ a : Nat, fr = a := ⟨fr.toNat, by omega⟩
          obtain ⟨b, rfl⟩ : ∃ b : Nat, «to» = b := ⟨«to».toNat, by omega⟩
          generalize hfk : fl.getD k 0 = f at *
          have HFK := Lib.hid hfk
          clear hfk
          have HJ2 := Lib.hid HJ.out.2
          have J0 := Lib.hid HJ.out.1
          clear HJ
          generalize leftK N fl k = l at *
          generalize hS : costK N fl k = S at *
          clear hS
          have gne : wr.heap.size ≠ g := by have := J0.out.2.2.lt; omega
          go_upto_region 10 with fail
          have J4 := Lib.hid (J0.out.alloc (.cells #[.int .i64 a, .int .i64 b, .int .i64 ca, .int .i64 co] 46))
          have BX := Lib.hid (Blk.new' wr #[.int .i64 a, .int .i64 b, .int .i64 ca, .int .i64 co] 46)
          generalize wr.alloc (.cells #[.int .i64 a, .int .i64 b, .int .i64 ca, .int .i64 co] 46) = wx at J4 BX ⊢
          generalize wr.heap.size = ga at *
          have e0 := BX.out.cell 0 rfl
          have e1 := BX.out.cell 1 rfl
          have e2 := BX.out.cell 2 rfl
          have e3 := BX.out.cell 3 rfl
          have fc := HFC.out _ J4.out.1
          clear d0 d1 d2 d3 cA0 cB0
          have hlen : fl.length = N.arcs.length := by rw [← HP.out, ← HM.out]; exact hpm
          have HLEN := Lib.hid hlen
          clear hlen
          by_cases f1 : f < 0
          · have E := Lib.hid (co_no HCH.out HLEN.out (HCAP.out (by omega)))
            go_wp2
            go_ret2
            exact ⟨ret2 E.out.2.symm E.out.1.symm, J4.out.1⟩
          by_cases f2 : ca < f
          · have E := Lib.hid (co_no HCH.out HLEN.out (HCAP.out (by omega)))
            go_wp2
            go_ret2
            exact ⟨ret2 E.out.2.symm E.out.1.symm, J4.out.1⟩
          have la0 := J4.out.2.2.cell a (by rw [HLL.out, ← HN.out]; omega)
          have fr0 := J4.out.2.2.free a
          have lb0 := BL.out a (by rw [← HN.out]; omega)
          have M1 := Lib.hid (mv_nat l a (-f) (l.getD a 0 - f) (by omega))
          have M1B := Lib.hid (mv_bd (l := l) (i := (a : Int)) (d := -f) (B := 268435456 + 2097152 * k) (D := 1048576) (by omega) (by rw [HLL.out, ← HN.out]; omega) (fun j hj => BL.out j (by rw [← HLL.out]; exact hj)))
          have M1L := Lib.hid (mv_length l (a : Int) (-f))
          generalize l.getD a 0 = la at *
          go_upto_region 14 with fail
          refine gen_world (fun W => CoJ w A (some ad) n cA m cB g c (mv l a (-f)) W ∧ Blk W ga 46 [.int .i64 a, .int .i64 b, .int .i64 ca, .int .i64 co]) ⟨by rw [M1.out]; exact J4.out.put zg a _, BX.out.setCell_ne gne _⟩ ?_
          rintro w5 ⟨j5, bx5⟩
          have J5 := Lib.hid j5
          have BX5 := Lib.hid bx5
          clear j5 bx5 e0 e1 e2 e3 fc la0 fr0 lb0 J4 BX
          generalize mv l (a : Int) (-f) = l5 at *
          have e0 := BX5.out.cell 0 rfl
          have e1 := BX5.out.cell 1 rfl
          have e2 := BX5.out.cell 2 rfl
          have e3 := BX5.out.cell 3 rfl
          have la0 := J5.out.2.2.cell b (by rw [M1L.out, HLL.out, ← HN.out]; omega)
          have fr0 := J5.out.2.2.free b
          have lb0 := M1B.out b (by rw [M1L.out, HLL.out, ← HN.out]; omega)
          have M2 := Lib.hid (mv_nat l5 b f (l5.getD b 0 + f) (by omega))
          generalize l5.getD b 0 = lb at *
          go_upto_region 15 with fail
          refine gen_world (fun W => CoJ w A (some ad) n cA m cB g c (mv l5 b f) W ∧ Blk W ga 46 [.int .i64 a, .int .i64 b, .int .i64 ca, .int .i64 co]) ⟨by rw [M2.out]; exact J5.out.put zg b _, BX5.out.setCell_ne gne _⟩ ?_
          rintro w6 ⟨j6, bx6⟩
          have J6 := Lib.hid j6
          have BX6 := Lib.hid bx6
          clear j6 bx6 e0 e1 e2 e3 la0 fr0 lb0 J5 BX5
          have e0 := BX6.out.cell 0 rfl
          have e3 := BX6.out.cell 3 rfl
          have p1 : f * co ≤ 1099511627776 ∧ -1099511627776 ≤ f * co := by
            have q1 := Int.mul_le_mul_of_nonneg_left a5.2 (show (0:Int) ≤ f by omega)
            have q2 := Int.mul_le_mul_of_nonneg_left a5.1 (show (0:Int) ≤ f by omega)
            omega
          go_wp2
          go_roundw
          case rel =>
            refine ⟨k + 1, by omega, by go_num, by rw [HK1.out], Lib.hid ⟨?_, fun x hx => ?_⟩⟩
            · rw [HL1.out]; exact J6.out
            · by_cases hjk : x < k
              · exact HJ2.out x hjk
              · obtain rfl : x = k := by omega
                rw [HFK.out, HAR.out]; omega
          case measure => simp [intOf]; omega
        · obtain rfl : k = m := by omega
          have hlen : fl.length = N.arcs.length := by rw [← HP.out, ← HM.out]; exact hpm
          have HLEN := Lib.hid hlen
          clear hlen
          have J7 := Lib.hid HJ.out.1
          have HLL := Lib.hid (leftK_length N fl k)
          have EL := Lib.hid (fun j hj h => co_no HCH.out HLEN.out (isFlow_left (N := N) (fl := fl) j hj (by rw [← HM.out]; exact h)))
          have EY := Lib.hid (fun h2 => co_yes HCH.out HLEN.out (isFlow_yes HLEN.out (fun x hx => HJ.out.2 x (by rw [HM.out]; exact hx)) (by rw [← HM.out]; exact h2)))
          have EC := Lib.hid (show costK N fl k = costK N fl N.arcs.length from by rw [HM.out])
          clear HJ
          generalize leftK N fl k = l at *
          generalize costK N fl k = S at *
          go_wp2_with fail
          go_loop [73] (fun i => ∃ j : Nat, j ≤ n ∧ i = .int .i64 j ∧ Hid (∀ x, x < j → l.getD x 0 = 0)) (fun i => n - (intOf i).toNat)
          case atStart => exact ⟨0, Nat.zero_le _, rfl, Lib.hid (fun x hx => absurd hx (Nat.not_lt_zero _))⟩
          case round =>
            obtain ⟨j, hj, rfl, HZ⟩ := hrel
            by_cases hlt2 : j < n
            · have hc0 := J7.out.2.2.cell j (by rw [HLL.out, ← HN.out]; exact hlt2)
              have EJ := Lib.hid (EL.out j (by rw [← HN.out]; exact hlt2))
              generalize hx : l.getD j 0 = x at *
              have HX := Lib.hid hx
              clear hx
              by_cases x0 : x = 0
              · subst x0
                go_wp2
                go_round
                case rel =>
                  refine ⟨j + 1, by omega, by go_num, Lib.hid (fun y hy => ?_)⟩
                  by_cases hjk : y < j
                  · exact HZ.out y hjk
                  · obtain rfl : y = j := by omega
                    exact HX.out
                case measure => simp [intOf]; omega
              · have E := Lib.hid (EJ.out x0)
                have hx0 : (x == 0) = false := by simpa using x0
                clear x0
                go_wp2
                go_ret2
                exact ⟨ret2 E.out.2.symm E.out.1.symm, J7.out.1⟩
            · have E := Lib.hid (EY.out (fun x hx => HZ.out x (by rw [← HN.out] at hx; omega)))
              go_wp2
              go_ret2
              exact ⟨ret2 (by rw [E.out.2, EC.out]) E.out.1.symm, J7.out.1⟩
    · have E := Lib.hid (co_len (fl := fl) hch (by rw [← HP.out, ← HM.out]; exact hpm))
      have hmm : ¬ (p : Int) = (m : Int) := by omega
      have hmm' : ((p : Int) == (m : Int)) = false := by simpa using hmm
      go_wp2
      go_ret2
      exact ⟨ret2 E.out.2.symm E.out.1.symm, HB2.out⟩
  · have E := Lib.hid (co_ch (fl := fl) hch)
    have hne : (chE N == 0) = false := by simpa using hch
    generalize chE N = q at *
    go_wp2
    go_ret2
    exact ⟨ret2 E.out.2.symm E.out.1.symm, HB2.out⟩
end Go.Proofs.Ytmebpglkeedaoaa
namespace Go.Proofs.Ytmebpglkeedaoaa
open Go.RowKit Dp
end Go.Proofs.Ytmebpglkeedaoaa
namespace Go.Proofs.Ytmebpglkeedaoaa
open Go.RowKit Dp
theorem CoJ.below {w : World} {A B : Option Addr} {n cA m cB g c : Nat} {l : List Int} {W W' : World} (h : CoJ w A B n cA m cB g c l W) (hb : Below W.heap.size W W') : CoJ w A B n cA m cB g c l W' :=
  ⟨h.1.trans (hb.mono h.1.size), h.2.1.below hb h.2.1.lt, h.2.2.below hb⟩
end Go.Proofs.Ytmebpglkeedaoaa
namespace Go.Proofs.Ytmebpglkeedaoaa
open Go.RowKit Dp
end Go.Proofs.Ytmebpglkeedaoaa
namespace Go.Proofs.Ytmebpglkeedaoaa
open Go.RowKit Dp
set_option maxHeartbeats 2000000 in
set_option maxRecDepth 100000 in
theorem Proves_c (A B C : Option Addr) (N : Net) (ps : List Int) (n m p cA cB cC : Nat) (w : World) (hn : n = N.sup.length) (hm : m = N.arcs.length) (hp : p = ps.length) (hA : n ≤ cA ∧ cA ≤ 9223372036854775807) (hB : m ≤ cB ∧ cB ≤ 9223372036854775807) (hC : p ≤ cC ∧ cC ≤ 9223372036854775807) (hN : NetAt w A B N) (hF : IntsAt w C ps) :
    Calls Try.prog 16 #[.agg #[.slice A n cA, .slice B m cB], .slice C p cC] w fun e w' => e = .returned (.tuple #[.int .i64 (prV N ps), .int .i64 (prE N ps)]) ∧ Below w.heap.size w w' := by
  have HN := Lib.hid hn
  have HM := Lib.hid hm
  have HP := Lib.hid hp
  have HNA := Lib.hid hN
  have HFA := Lib.hid hF
  clear hn hm hp hN hF
  have B1 := Lib.hid (Blk.new' w #[.slice A n cA, .slice B m cB] 25)
  have HB1 := Lib.hid ((Below.refl w.heap.size w).alloc (Nat.le_refl _) (.cells #[.slice A n cA, .slice B m cB] 25))
  go_enter Try.func16, Try.ntmps16
  go_wp2_with fail
  generalize w.alloc (.cells #[.slice A n cA, .slice B m cB] 25) = w1 at B1 HB1 ⊢
  refine (Check_c A B N n m cA cB w1 HN.out HM.out hA hB (HNA.out.below HB1.out (Nat.le_refl _))).mono ?_
  rintro e w2 ⟨rfl, hb2⟩
  have B2 := Lib.hid (B1.out.below hb2 B1.out.lt)
  have HB2 := Lib.hid (HB1.out.trans (hb2.mono HB1.out.size))
  clear hb2 B1 HB1
  have cA0 := B2.out.cell 0 rfl
  have cB0 := B2.out.cell 1 rfl
  by_cases hch : chE N = 0
  · have hce := net_len hch
    rw [hch]
    by_cases hpn : p = n
    · have HLEN := Lib.hid (show ps.length = N.sup.length from by rw [← HP.out, ← HN.out]; exact hpn)
      subst hpn
      have n1 : 1 ≤ p := by rw [HN.out]; exact hce.1
      have n2 : p ≤ 1024 := by rw [HN.out]; exact hce.2.1
      have m2 : m ≤ 2048 := by rw [HM.out]; exact hce.2.2
      have HCH := Lib.hid hch
      clear hch hce
      obtain ⟨aS, rfl, hbS, _⟩ := HNA.out.1 0 (by rw [← HN.out]; omega)
      obtain ⟨aP, rfl, hbP, _⟩ := HFA.out 0 (by rw [← HP.out]; omega)
      have SC : Hid (∀ W, Below w.heap.size w W → ∀ k, k < p → W.cell? (aS.add k) = some (.int .i64 (N.sup.getD k 0))) := Lib.hid (fun W h k hk => by
        obtain ⟨a', e, hb, hc⟩ := HNA.out.1 k (by rw [← HN.out]; exact hk)
        cases e
        exact (h.cell (by rw [block_add]; exact hb)).trans hc)
      have PC : Hid (∀ W, Below w.heap.size w W → ∀ k, k < p → W.cell? (aP.add k) = some (.int .i64 (ps.getD k 0)) ∧ (aP.add k).block < W.heap.size) := Lib.hid (fun W h k hk => by
        obtain ⟨a', e, hb, hc⟩ := HFA.out k (by rw [← HP.out]; exact hk)
        cases e
        exact ⟨(h.cell (by rw [block_add]; exact hb)).trans hc, by rw [block_add]; have := h.size; omega⟩)
      go_wp2_with fail
      go_loop [7, 25] (fun v i => ∃ k : Nat, k ≤ p ∧ i = .int .i64 k ∧ v = .int .i64 (prS N ps k) ∧ Hid (∀ x, x < k → potOk (ps.getD x 0) = true)) (fun _ i => p - (intOf i).toNat)
      case atStart => exact ⟨0, Nat.zero_le _, rfl, rfl, Lib.hid (fun x hx => absurd hx (Nat.not_lt_zero _))⟩
      case round =>
        obtain ⟨k, hk, rfl, rfl, HK⟩ := hrel
        have bs := prS_bd2 HCH.out k (by rw [← HN.out]; exact hk) HK.out
        by_cases hlt : k < p
        · have sc := SC.out _ HB2.out k hlt
          have pc := (PC.out _ HB2.out k hlt).1
          have hsu := net_sup HCH.out k (by rw [← HN.out]; exact hlt)
          have ENO := Lib.hid (fun h => pr_no HCH.out HLEN.out k (by rw [← HP.out]; exact hlt) h)
          have HS1 := Lib.hid (show prS N ps (k + 1) = prS N ps k - ps.getD k 0 * N.sup.getD k 0 from rfl)
          generalize N.sup.getD k 0 = s at *
          generalize hx : ps.getD k 0 = x at *
          have HX := Lib.hid hx
          clear hx
          generalize prS N ps k = S at *
          by_cases h1 : x < -1073741824
          · have E := Lib.hid (ENO.out (by simp [potOk]; omega))
            go_wp2
            go_ret2
            exact ⟨ret2 E.out.2.symm E.out.1.symm, HB2.out⟩
          by_cases h2 : 1073741824 < x
          · have E := Lib.hid (ENO.out (by simp [potOk]; omega))
            go_wp2
            go_ret2
            exact ⟨ret2 E.out.2.symm E.out.1.symm, HB2.out⟩
          have p1 : x * s ≤ 288230376151711744 ∧ -288230376151711744 ≤ x * s := by
            have := mul_abs (p := x) (s := s) (P := 1073741824) (by omega)
            have : abs s ≤ 268435456 := by unfold abs; omega
            omega
          go_wp2
          go_round
          case rel =>
            refine ⟨k + 1, by omega, by go_num, by rw [HS1.out], Lib.hid (fun y hy => ?_)⟩
            by_cases hjk : y < k
            · exact HK.out y hjk
            · obtain rfl : y = k := by omega
              rw [HX.out]; simp [potOk]; omega
          case measure => simp [intOf]; omega
        · obtain rfl : k = p := by omega
          have HPO : Hid (∀ x, x < ps.length → potOk (ps.getD x 0) = true) := Lib.hid (fun x hx => HK.out x (by rw [HP.out]; exact hx))
          have E := Lib.hid (pr_yes HCH.out HLEN.out HPO.out)
          have E0 := Lib.hid (show prS N ps k = prA N ps 0 from by rw [HN.out]; rfl)
          rw [E0.out]
          rw [E0.out] at bs
          clear HK
          go_wp2_with fail
          trace "loop 2"
          go_loopw [7, 49] (fun v i wr => ∃ j : Nat, j ≤ m ∧ i = .int .i64 j ∧ v = .int .i64 (prA N ps j) ∧ Hid (Below w2.heap.size w2 wr)) (fun _ i _ => m - (intOf i).toNat)
          case atStart => exact ⟨0, Nat.zero_le _, rfl, rfl, Lib.hid (Below.refl _ _)⟩
          case round =>
            obtain ⟨j, hj, rfl, rfl, HB⟩ := hrel
            have ba := prA_bd HCH.out HLEN.out HPO.out j (by rw [← HM.out]; exact hj)
            have HBR := Lib.hid (HB2.out.trans (HB.out.mono HB2.out.size))
            by_cases hlt2 : j < m
            · obtain ⟨ad, rfl, hbl, d0, d1, d2, d3⟩ := (HNA.out.2.below HBR.out (Nat.le_refl _)) j (by rw [← HM.out]; exact hlt2)
              obtain ⟨a1, a2, a3, a4, a5⟩ := net_arc HCH.out j (by rw [← HM.out]; exact hlt2)
              rw [← HN.out] at a1 a2
              have HA1 := Lib.hid (show prA N ps (j + 1) = prA N ps j + prW (N.arcs.getD j default) ps from rfl)
              generalize N.arcs.getD j default = ar at *
              obtain ⟨fr, «to», ca, co⟩ := ar
              simp only at d0 d1 d2 d3 a1 a2 a3 a4 a5
              obtain ⟨a, rfl⟩ : ∃ a : Nat, fr = a := ⟨fr.toNat, by omega⟩
              obtain ⟨b, rfl⟩ : ∃ b : Nat, «to» = b := ⟨«to».toNat, by omega⟩
              have pa := potOk_iff.1 (HPO.out a (by rw [← HP.out]; omega))
              have pb := potOk_iff.1 (HPO.out b (by rw [← HP.out]; omega))
              have HW := Lib.hid (show prW ⟨a, b, ca, co⟩ ps = ca * min 0 (co + ps.getD a 0 - ps.getD b 0) from rfl)
              have PA := Lib.hid (fun W h => PC.out W h a (by omega))
              have PB := Lib.hid (fun W h => PC.out W h b (by omega))
              generalize ps.getD a 0 = x at *
              generalize ps.getD b 0 = y at *
              generalize prA N ps j = S at *
              have hx1 := fun ts t W => minTwo 0 (co + x - y) ts t W
              generalize hz : min 0 (co + x - y) = z at *
              have hzb : -2148532224 ≤ z ∧ z ≤ 0 := by omega
              clear hz
              have p1 : ca * z ≤ 0 ∧ -2252899325313024 ≤ ca * z := by
                have q1 := Int.mul_le_mul_of_nonneg_left hzb.1 a4.1
                have q2 := Int.mul_le_mul_of_nonneg_left hzb.2 a4.1
                omega
              go_upto_region 17 with fail
              have HBX := Lib.hid (HBR.out.alloc HBR.out.size (.cells #[.int .i64 a, .int .i64 b, .int .i64 ca, .int .i64 co] 46))
              have HBJ := Lib.hid (HB.out.alloc HB.out.size (.cells #[.int .i64 a, .int .i64 b, .int .i64 ca, .int .i64 co] 46))
              have BX := Lib.hid (Blk.new' wr #[.int .i64 a, .int .i64 b, .int .i64 ca, .int .i64 co] 46)
              generalize wr.alloc (.cells #[.int .i64 a, .int .i64 b, .int .i64 ca, .int .i64 co] 46) = wx at HBX HBJ BX ⊢
              generalize wr.heap.size = ga at *
              have e0 := BX.out.cell 0 rfl
              have e1 := BX.out.cell 1 rfl
              have e2 := BX.out.cell 2 rfl
              have e3 := BX.out.cell 3 rfl
              have zga := BX.out.lt
              obtain ⟨fa, fab⟩ := PA.out _ HBX.out
              obtain ⟨fb, fbb⟩ := PB.out _ HBX.out
              clear d0 d1 d2 d3
              refine wp_region_past (by kernel_rfl) (by kernel_rfl) ?_
              repeat (go_big_quiet_step (fail))
              refine wpQuiet_nil ?_
              intro xx
              have HXX := Lib.hid xx.far
              generalize xx.w = w4 at HXX ⊢
              go_wp2
              go_roundw
              case rel => exact ⟨j + 1, by omega, by go_num, by rw [HA1.out, HW.out], Lib.hid (HBJ.out.trans (HXX.out.mono HBJ.out.size))⟩
              case measure => simp [intOf]; omega
            · obtain rfl : j = m := by omega
              go_wp2
              go_ret2
              exact ⟨ret2 (by rw [E.out.2, HM.out]) E.out.1.symm, HBR.out⟩
    · have E := Lib.hid (pr_len (ps := ps) hch (by rw [← HP.out, ← HN.out]; exact hpn))
      have hmm : ¬ (p : Int) = (n : Int) := by omega
      have hmm' : ((p : Int) == (n : Int)) = false := by simpa using hmm
      go_wp2
      go_ret2
      exact ⟨ret2 E.out.2.symm E.out.1.symm, HB2.out⟩
  · have E := Lib.hid (pr_ch (ps := ps) hch)
    have hne : (chE N == 0) = false := by simpa using hch
    generalize chE N = q at *
    go_wp2
    go_ret2
    exact ⟨ret2 E.out.2.symm E.out.1.symm, HB2.out⟩
end Go.Proofs.Ytmebpglkeedaoaa
namespace Go.Proofs.Ytmebpglkeedaoaa
open Go.RowKit Dp
end Go.Proofs.Ytmebpglkeedaoaa
namespace Go.Proofs.Ytmebpglkeedaoaa
open Go.RowKit Dp
def marks (n : Nat) (c : List Int) (k : Nat) : List Value := (List.range n).map fun (i : Nat) => .bool (inK c k (i : Int))
def LkJ (w : World) (A B : Option Addr) (n cA m cB g : Nat) (c : List Int) (k : Nat) (W : World) : Prop := Below w.heap.size w W ∧ Blk W w.heap.size 25 [.slice A n cA, .slice B m cB] ∧ Blk W g 4 (marks n c k)
theorem LkJ.below {w : World} {A B : Option Addr} {n cA m cB g : Nat} {c : List Int} {k : Nat} {W W' : World} (h : LkJ w A B n cA m cB g c k W) (hb : Below W.heap.size W W') : LkJ w A B n cA m cB g c k W' :=
  ⟨h.1.trans (hb.mono h.1.size), h.2.1.below hb h.2.1.lt, h.2.2.below hb h.2.2.lt⟩
end Go.Proofs.Ytmebpglkeedaoaa
namespace Go.Proofs.Ytmebpglkeedaoaa
open Go.RowKit Dp
end Go.Proofs.Ytmebpglkeedaoaa
namespace Go.Proofs.Ytmebpglkeedaoaa
open Go.RowKit Dp
end Go.Proofs.Ytmebpglkeedaoaa
namespace Go.Proofs.Ytmebpglkeedaoaa
open Go.RowKit Dp
namespace Dp
def clE (N : Net) (fl ps : List Int) : Int := if coE N fl = 0 then (if prE N ps = 0 then (if coV N fl = prV N ps then 0 else 19) else prE N ps) else coE N fl
theorem cl_co {N : Net} {fl ps : List Int} (h : coE N fl ≠ 0) : clE N fl ps = coE N fl := by simp [clE, h]
theorem cl_pr {N : Net} {fl ps : List Int} (h : coE N fl = 0) (h2 : prE N ps ≠ 0) : clE N fl ps = prE N ps := by simp [clE, h, h2]
theorem cl_ne {N : Net} {fl ps : List Int} (h : coE N fl = 0) (h2 : prE N ps = 0) (h3 : coV N fl ≠ prV N ps) : clE N fl ps = 19 := by simp [clE, h, h2, h3]
theorem cl_ok {N : Net} {fl ps : List Int} (h : coE N fl = 0) (h2 : prE N ps = 0) (h3 : coV N fl = prV N ps) : clE N fl ps = 0 := by simp [clE, h, h2, h3]
end Dp
set_option maxHeartbeats 2000000 in
set_option maxRecDepth 100000 in
theorem CheckLeast_c (A B C D : Option Addr) (N : Net) (fl ps : List Int) (n m p q cA cB cC cD : Nat) (w : World) (hn : n = N.sup.length) (hm : m = N.arcs.length) (hp : p = fl.length) (hq : q = ps.length) (hA : n ≤ cA ∧ cA ≤ 9223372036854775807) (hB : m ≤ cB ∧ cB ≤ 9223372036854775807) (hC : p ≤ cC ∧ cC ≤ 9223372036854775807) (hD : q ≤ cD ∧ cD ≤ 9223372036854775807) (hN : NetAt w A B N) (hF : IntsAt w C fl) (hP : IntsAt w D ps) :
    Calls Try.prog 22 #[.agg #[.slice A n cA, .slice B m cB], .slice C p cC, .slice D q cD] w fun e w' => e = .returned (.int .i64 (clE N fl ps)) ∧ Below w.heap.size w w' := by
  have HN := Lib.hid hn
  have HM := Lib.hid hm
  have HP := Lib.hid hp
  have HQ := Lib.hid hq
  have HNA := Lib.hid hN
  have HFA := Lib.hid hF
  have HPA := Lib.hid hP
  clear hn hm hp hq hN hF hP
  have B1 := Lib.hid (Blk.new' w #[.slice A n cA, .slice B m cB] 25)
  have HB1 := Lib.hid ((Below.refl w.heap.size w).alloc (Nat.le_refl _) (.cells #[.slice A n cA, .slice B m cB] 25))
  go_enter Try.func22, Try.ntmps22
  go_wp2_with fail
  generalize w.alloc (.cells #[.slice A n cA, .slice B m cB] 25) = w1 at B1 HB1 ⊢
  refine (Cost_c A B C N fl n m p cA cB cC w1 HN.out HM.out HP.out hA hB hC (HNA.out.below HB1.out (Nat.le_refl _)) (HFA.out.below HB1.out (Nat.le_refl _))).mono ?_
  rintro e w2 ⟨rfl, hb2⟩
  have B2 := Lib.hid (B1.out.below hb2 B1.out.lt)
  have HB2 := Lib.hid (HB1.out.trans (hb2.mono HB1.out.size))
  clear hb2 B1 HB1
  have cA0 := B2.out.cell 0 rfl
  have cB0 := B2.out.cell 1 rfl
  have E1 := Lib.hid (cl_co (N := N) (fl := fl) (ps := ps))
  have E2 := Lib.hid (cl_pr (N := N) (fl := fl) (ps := ps))
  have E3 := Lib.hid (cl_ne (N := N) (fl := fl) (ps := ps))
  have E4 := Lib.hid (cl_ok (N := N) (fl := fl) (ps := ps))
  have PC := Lib.hid (Proves_c A B D N ps n m q cA cB cD w2 HN.out HM.out HQ.out hA hB hD (HNA.out.below HB2.out (Nat.le_refl _)) (HPA.out.below HB2.out (Nat.le_refl _)))
  generalize coE N fl = x at *
  generalize prE N ps = y at *
  generalize coV N fl = u at *
  generalize prV N ps = v at *
  by_cases hx : x = 0
  · subst hx
    go_wp2_with fail
    refine PC.out.mono ?_
    rintro e w3 ⟨rfl, hb3⟩
    by_cases hy : y = 0
    · subst hy
      by_cases hu : u = v
      · have E := Lib.hid (E4.out (by trivial) (by trivial) hu)
        subst hu
        go_wp2
        go_ret
        exact ⟨ret_int E.out.symm, HB2.out.trans (hb3.mono HB2.out.size)⟩
      · have E := Lib.hid (E3.out (by trivial) (by trivial) hu)
        have hne : (u == v) = false := by simpa using hu
        go_wp2
        go_ret
        exact ⟨ret_int E.out.symm, HB2.out.trans (hb3.mono HB2.out.size)⟩
    · have E := Lib.hid (E2.out (by trivial) hy)
      have hne : (y == 0) = false := by simpa using hy
      go_wp2
      go_ret
      exact ⟨ret_int E.out.symm, HB2.out.trans (hb3.mono HB2.out.size)⟩
  · have E := Lib.hid (E1.out hx)
    have hne : (x == 0) = false := by simpa using hx
    go_wp2
    go_ret
    exact ⟨ret_int E.out.symm, HB2.out⟩
end Go.Proofs.Ytmebpglkeedaoaa
namespace Go.Proofs.Ytmebpglkeedaoaa
open Go.RowKit Dp
def knN : Net := ⟨[3, 0, -3], [⟨0, 1, 2, 1⟩, ⟨1, 2, 2, 1⟩, ⟨0, 2, 2, 5⟩]⟩
theorem knN_ch : chE knN = 0 := by decide
theorem knN_flow : isFlow knN [2, 2, 1] = true := by decide
theorem knN_cost : costK knN [2, 2, 1] 3 = 9 := by decide
theorem knN_pr : prA knN [0, 1, 5] 3 = 9 := by decide
theorem all_pot {p : List Int} (h : ∀ v, v < p.length → potOk (p.getD v 0) = true) : p.all potOk = true := by
  rw [List.all_eq_true]
  intro x hx
  obtain ⟨i, hi, rfl⟩ := List.getElem_of_mem hx
  have := h i hi
  rwa [List.getD_eq_getElem?_getD, List.getElem?_eq_getElem hi] at this
theorem kn_least {w w' : World} {e : Ending} (h : LeastP knN w e w') : ∃ gf gp fl p, e = .returned (.tuple #[.slice (some ⟨gf, 0, none⟩) 3 3, .slice (some ⟨gp, 0, none⟩) 3 3, .int .i64 0]) ∧
    IntsAt w' (some ⟨gf, 0, none⟩) fl ∧ IntsAt w' (some ⟨gp, 0, none⟩) p ∧ fl.length = 3 ∧ p.length = 3 ∧ coE knN fl = 0 ∧ coV knN fl = 9 ∧ clE knN fl p = 0 := by
  rcases h with ⟨h, _⟩ | ⟨_, gf, gp, fl, p, rfl, hf, hp, _, hg, hlf, hfl, hl, hb, he⟩ | ⟨_, _, _, _, _, h⟩
  · exact absurd knN_ch h
  · have h1 := weak (N := knN) (fl := [2, 2, 1]) (ps := p) knN_ch knN_flow
    have h2 := weak (N := knN) (fl := fl) (ps := [0, 1, 5]) knN_ch hfl
    have h3 : knN.arcs.length = 3 := rfl
    rw [h3] at h1 h2 he
    rw [knN_cost] at h1
    rw [knN_pr] at h2
    have h9 : costK knN fl 3 = 9 := by omega
    have c1 : coE knN fl = 0 := by simp [coE, knN_ch, hlf, hfl]
    have c2 : coV knN fl = 9 := by simp [coV, knN_ch, hfl, h3, h9]
    have c3 : prE knN p = 0 := by simp only [prE, knN_ch, hl, all_pot hb, if_true]
    have c4 : prV knN p = 9 := by simp only [prV, c3, if_true]; rw [h3]; omega
    exact ⟨gf, gp, fl, p, rfl, hf.ints, hp.ints, hlf, hl, c1, c2, cl_ok c1 c3 (by rw [c2, c4])⟩
  · have := h [2, 2, 1]
    rw [knN_flow] at this
    cases this
structure KnJ (w : World) (g1 g2 g3 : Nat) (W : World) : Prop where
  s : Fl 2 W g1 [3, 0, -3]
  a : Blk W g2 46 (flat arcV knN.arcs)
  n : Blk W g3 25 [.slice (some ⟨g1, 0, none⟩) 3 3, .slice (some ⟨g2, 0, none⟩) 3 3]
  bel : Below w.heap.size w W
theorem KnJ.below {w W V : World} {g1 g2 g3 : Nat} (h : KnJ w g1 g2 g3 W) (hb : Below W.heap.size W V) : KnJ w g1 g2 g3 V :=
  ⟨h.s.below hb, h.a.below hb h.a.lt, h.n.below hb h.n.lt, h.bel.trans (hb.mono h.bel.size)⟩
theorem KnJ.net {w W : World} {g1 g2 g3 : Nat} (h : KnJ w g1 g2 g3 W) : NetAt W (some ⟨g1, 0, none⟩) (some ⟨g2, 0, none⟩) knN := by
  refine ⟨h.s.ints, fun i hi => ?_⟩
  have hc : ∀ j, j < 4 → W.cell? ⟨g2, i * 4 + j, none⟩ = (arcV (knN.arcs.getD i default))[j]? := fun j hj => by
    have e := flat_get (f := arcV) (s := 4) (fun _ => rfl) _ _ _ _ (getElem_D knN.arcs i default hi) hj
    rw [← e]
    obtain ⟨v, hv⟩ : ∃ v, (flat arcV knN.arcs)[i * 4 + j]? = some v := by
      rw [e]
      match j, hj with
      | 0, _ => exact ⟨_, rfl⟩
      | 1, _ => exact ⟨_, rfl⟩
      | 2, _ => exact ⟨_, rfl⟩
      | 3, _ => exact ⟨_, rfl⟩
    rw [hv]
    exact h.a.cell _ hv
  have had : (⟨g2, 0, none⟩ : Addr).add (i * 4) = ⟨g2, i * 4, none⟩ := by unfold Addr.add; split <;> simp_all
  exact ⟨⟨g2, 0, none⟩, rfl, h.a.lt, by rw [had]; exact hc 0 (by omega), by rw [had]; exact hc 1 (by omega), by rw [had]; exact hc 2 (by omega), by rw [had]; exact hc 3 (by omega)⟩
theorem KnJ.start (w : World) : KnJ w w.heap.size (w.heap.size + 1) (w.heap.size + 1 + 1) (((w.alloc (.cells #[.int .i64 3, .int .i64 0, .int .i64 (-3)] 2)).alloc (.cells #[.int .i64 0, .int .i64 1, .int .i64 2, .int .i64 1, .int .i64 1, .int .i64 2, .int .i64 2, .int .i64 1, .int .i64 0, .int .i64 2, .int .i64 2, .int .i64 5] 46)).alloc (.cells #[.slice (some ⟨w.heap.size, 0, none⟩) 3 3, .slice (some ⟨w.heap.size + 1, 0, none⟩) 3 3] 25)) := by
  have b1 := (Below.refl w.heap.size w).alloc (Nat.le_refl _) (.cells #[.int .i64 3, .int .i64 0, .int .i64 (-3)] 2)
  have b2 := b1.alloc b1.size (.cells #[.int .i64 0, .int .i64 1, .int .i64 2, .int .i64 1, .int .i64 1, .int .i64 2, .int .i64 2, .int .i64 1, .int .i64 0, .int .i64 2, .int .i64 2, .int .i64 5] 46)
  have b3 := b2.alloc b2.size (.cells #[.slice (some ⟨w.heap.size, 0, none⟩) 3 3, .slice (some ⟨w.heap.size + 1, 0, none⟩) 3 3] 25)
  have x1 := Blk.new' w #[.int .i64 3, .int .i64 0, .int .i64 (-3)] 2
  have x2 := Blk.new' (w.alloc (.cells #[.int .i64 3, .int .i64 0, .int .i64 (-3)] 2)) #[.int .i64 0, .int .i64 1, .int .i64 2, .int .i64 1, .int .i64 1, .int .i64 2, .int .i64 2, .int .i64 1, .int .i64 0, .int .i64 2, .int .i64 2, .int .i64 5] 46
  have x3 := Blk.new' ((w.alloc (.cells #[.int .i64 3, .int .i64 0, .int .i64 (-3)] 2)).alloc (.cells #[.int .i64 0, .int .i64 1, .int .i64 2, .int .i64 1, .int .i64 1, .int .i64 2, .int .i64 2, .int .i64 1, .int .i64 0, .int .i64 2, .int .i64 2, .int .i64 5] 46)) #[.slice (some ⟨w.heap.size, 0, none⟩) 3 3, .slice (some ⟨w.heap.size + 1, 0, none⟩) 3 3] 25
  refine ⟨(x1.alloc _).alloc _, ?_, ?_, b3⟩
  · have := x2.alloc (.cells #[.slice (some ⟨w.heap.size, 0, none⟩) 3 3, .slice (some ⟨w.heap.size + 1, 0, none⟩) 3 3] 25)
    simpa [flat, arcV, knN] using this
  · simpa using x3
theorem CO.start (V : World) : CO (((V.alloc (.cells #[.int .i64 4, .int .i64 1] 2)).alloc (.cells #[.int .i64 2, .int .i64 3] 2)).alloc (.cells #[.slice (some ⟨V.heap.size, 0, none⟩) 2 2, .slice (some ⟨V.heap.size + 1, 0, none⟩) 2 2] 22)) (V.heap.size + 1 + 1) V.heap.size (V.heap.size + 1) := by
  have x1 := Blk.new' V #[.int .i64 4, .int .i64 1] 2
  have x2 := Blk.new' (V.alloc (.cells #[.int .i64 4, .int .i64 1] 2)) #[.int .i64 2, .int .i64 3] 2
  have x3 := Blk.new' ((V.alloc (.cells #[.int .i64 4, .int .i64 1] 2)).alloc (.cells #[.int .i64 2, .int .i64 3] 2)) #[.slice (some ⟨V.heap.size, 0, none⟩) 2 2, .slice (some ⟨V.heap.size + 1, 0, none⟩) 2 2] 22
  refine ⟨?_, (x1.alloc _).alloc _, ?_⟩
  · simpa using x3
  · simpa using x2.alloc (.cells #[.slice (some ⟨V.heap.size, 0, none⟩) 2 2, .slice (some ⟨V.heap.size + 1, 0, none⟩) 2 2] 22)
set_option maxHeartbeats 4000000 in
set_option maxRecDepth 100000 in
theorem known_c (w : World) : Calls Try.prog 13 #[] w fun e w' => e = .returned (.bool true) ∧ Below w.heap.size w w' := by
  have K0 := Lib.hid (KnJ.start w)
  go_enter Try.func13, Try.ntmps13
  go_upto_region 2 with fail
  generalize hW : ((w.alloc (.cells #[.int .i64 3, .int .i64 0, .int .i64 (-3)] 2)).alloc (.cells #[.int .i64 0, .int .i64 1, .int .i64 2, .int .i64 1, .int .i64 1, .int .i64 2, .int .i64 2, .int .i64 1, .int .i64 0, .int .i64 2, .int .i64 2, .int .i64 5] 46)).alloc (.cells #[.slice (some ⟨w.heap.size, 0, none⟩) 3 3, .slice (some ⟨w.heap.size + 1, 0, none⟩) 3 3] 25) = w1 at K0 ⊢
  clear hW
  obtain ⟨g1, hg1⟩ : ∃ g, g = w.heap.size := ⟨_, rfl⟩
  rw [← hg1] at K0 ⊢
  clear hg1
  obtain ⟨g2, hg2⟩ : ∃ g, g = g1 + 1 := ⟨_, rfl⟩
  rw [← hg2] at K0 ⊢
  clear hg2
  obtain ⟨g3, hg3⟩ : ∃ g, g = g2 + 1 := ⟨_, rfl⟩
  rw [← hg3] at K0 ⊢
  clear hg3
  have n0 := K0.out.n.cell 0 rfl
  have n1 := K0.out.n.cell 1 rfl
  go_wp2_with fail
  refine (Least_c _ _ knN 3 3 3 3 _ rfl rfl (by omega) (by omega) K0.out.net).mono ?_
  rintro e w2 ⟨hL, hb⟩
  obtain ⟨gf, gp, fl, p, rfl, hf, hp, lf, lp, c1, c2, c3⟩ := kn_least hL
  have K2 := Lib.hid (K0.out.below hb)
  have F2 := Lib.hid hf
  have P2 := Lib.hid hp
  have LF := Lib.hid lf
  have LP := Lib.hid lp
  have C1 := Lib.hid c1
  have C2 := Lib.hid c2
  have C3 := Lib.hid c3
  clear hL hb hf hp lf lp c1 c2 c3 K0 n0 n1
  have n0 := K2.out.n.cell 0 rfl
  have n1 := K2.out.n.cell 1 rfl
  go_wp2_with fail
  refine (Cost_c _ _ _ knN fl 3 3 3 3 3 3 _ rfl rfl LF.out.symm (by omega) (by omega) (by omega) K2.out.net F2.out).mono ?_
  rintro e w3 ⟨rfl, hb⟩
  rw [C1.out, C2.out]
  have K3 := Lib.hid (K2.out.below hb)
  have F3 := Lib.hid (F2.out.below hb (Nat.le_refl _))
  have P3 := Lib.hid (P2.out.below hb (Nat.le_refl _))
  clear hb K2 F2 P2 n0 n1
  have CC := Lib.hid (CO.start w3)
  have B4 := Lib.hid ((((Below.refl w3.heap.size w3).alloc (Nat.le_refl _) (.cells #[.int .i64 4, .int .i64 1] 2)).alloc (by simp) (.cells #[.int .i64 2, .int .i64 3] 2)).alloc (by simp; omega) (.cells #[.slice (some ⟨w3.heap.size, 0, none⟩) 2 2, .slice (some ⟨w3.heap.size + 1, 0, none⟩) 2 2] 22))
  go_wp2_with fail
  generalize ((w3.alloc (.cells #[.int .i64 4, .int .i64 1] 2)).alloc (.cells #[.int .i64 2, .int .i64 3] 2)).alloc (.cells #[.slice (some ⟨w3.heap.size, 0, none⟩) 2 2, .slice (some ⟨w3.heap.size + 1, 0, none⟩) 2 2] 22) = w4 at CC B4 ⊢
  refine (Assign_c duals_c _ _ _ _ CC.out).mono ?_
  rintro e w5 ⟨A, c, R, rn, rc, Q, qn, qc, rfl, ho, hb⟩
  obtain ⟨g, cg, hv, hbg, hlt⟩ := ho.form (by omega)
  cases hv
  have B5 := Lib.hid ((Below.refl w5.heap.size w5).alloc (Nat.le_refl _) (.cells #[.slice (some ⟨g, 0, none⟩) 2 c, .int .i64 3, .slice R rn rc, .slice Q qn qc] 87))
  have X := Lib.hid (Blk.new' w5 #[.slice (some ⟨g, 0, none⟩) 2 c, .int .i64 3, .slice R rn rc, .slice Q qn qc] 87)
  have OW := Lib.hid (ownBelow ho B5.out)
  have K5 := Lib.hid (((K3.out.below B4.out).below hb).below B5.out)
  have F5 := Lib.hid (((F3.out.below B4.out (Nat.le_refl _)).below hb (Nat.le_refl _)).below B5.out (Nat.le_refl _))
  have P5 := Lib.hid (((P3.out.below B4.out (Nat.le_refl _)).below hb (Nat.le_refl _)).below B5.out (Nat.le_refl _))
  clear ho hb hbg hlt K3 F3 P3 CC B4 B5
  go_upto_region 5 with fail
  generalize w5.alloc (.cells #[.slice (some ⟨g, 0, none⟩) 2 c, .int .i64 3, .slice R rn rc, .slice Q qn qc] 87) = w6 at X OW K5 F5 P5 ⊢
  generalize w5.heap.size = gm at *
  have n0 := K5.out.n.cell 0 rfl
  have n1 := K5.out.n.cell 1 rfl
  go_wp2_with fail
  refine (CheckLeast_c _ _ _ _ knN fl p 3 3 3 3 3 3 3 3 _ rfl rfl LF.out.symm LP.out.symm (by omega) (by omega) (by omega) (by omega) K5.out.net F5.out P5.out).mono ?_
  rintro e w7 ⟨rfl, hb⟩
  rw [C3.out]
  have X7 := Lib.hid (X.out.below hb X.out.lt)
  have O7 := Lib.hid (ownBelow OW.out hb)
  have BW := Lib.hid ((K5.out.below hb).bel)
  clear hb n0 n1 X OW K5 F5 P5
  have x0 := X7.out.cell 0 rfl
  have x1 := X7.out.cell 1 rfl
  have y0 : w7.cell? ⟨g, 0, none⟩ = some (.int .i64 1) := World.ownsRow.cellAt O7.out 0 (by omega)
  go_wp2_with fail
  exact bodyPost_ret (v := .bool true) (by simp [results, Try.results13, go_sem]) rfl ⟨rfl, BW.out⟩
end Go.Proofs.Ytmebpglkeedaoaa
namespace Go.Proofs.Ytmebpglkeedaoaa
namespace Dp
structure Trip where
  fr : Int
  «to» : Int
  use : Int
  deriving Inhabited
structure Car where
  cap : Int
  inn : Int
  out : Int
  start : Int
  fin : Int
  trips : List Trip
  deriving Inhabited
structure Site where
  lim : List Int
  exp : List Int
  buy : List Int
  sell : List Int
structure Tab where
  inn : List (List Int)
  out : List (List Int)
def allB (n : Nat) (p : Nat → Bool) : Bool := (List.range n).all p
theorem allB_iff {n : Nat} {p : Nat → Bool} : allB n p = true ↔ ∀ j, j < n → p j = true := by simp [allB, List.all_eq_true]
theorem allB_no {n : Nat} {p : Nat → Bool} (k : Nat) (hk : k < n) (h : p k = false) : allB n p = false := by
  cases hb : allB n p
  · rfl
  · rw [allB_iff.1 hb k hk] at h; cases h
def backAt (l : List Trip) : Nat → Int
  | 0 => 0
  | k + 1 => (l.getD k default).to
def tripOk (cap : Int) (n : Nat) (l : List Trip) (k : Nat) : Bool :=
  decide (backAt l k ≤ (l.getD k default).fr ∧ (l.getD k default).fr < (l.getD k default).to ∧ (l.getD k default).to ≤ n ∧ (0 ≤ (l.getD k default).use ∧ (l.getD k default).use ≤ cap))
def carHead (c : Car) : Bool := decide ((1 ≤ c.cap ∧ c.cap ≤ 1048576) ∧ (0 ≤ c.inn ∧ c.inn ≤ 1048576) ∧ (0 ≤ c.out ∧ c.out ≤ 1048576) ∧ (0 ≤ c.start ∧ c.start ≤ c.cap) ∧ (0 ≤ c.fin ∧ c.fin ≤ c.cap) ∧ c.trips.length ≤ 4)
def carOk (n : Nat) (c : Car) : Bool := carHead c && allB c.trips.length (tripOk c.cap n c.trips)
def slotOk (S : Site) (t : Nat) : Bool := decide ((0 ≤ S.lim.getD t 0 ∧ S.lim.getD t 0 ≤ 1048576) ∧ (0 ≤ S.exp.getD t 0 ∧ S.exp.getD t 0 ≤ 1048576) ∧ (0 ≤ S.buy.getD t 0 ∧ S.buy.getD t 0 ≤ 1048576) ∧ (0 ≤ S.sell.getD t 0 ∧ S.sell.getD t 0 ≤ S.buy.getD t 0))
def siteHead (S : Site) : Bool := decide ((1 ≤ S.lim.length ∧ S.lim.length ≤ 48) ∧ S.exp.length = S.lim.length ∧ S.buy.length = S.lim.length ∧ S.sell.length = S.lim.length)
def slotsOk (S : Site) : Bool := allB S.lim.length (slotOk S)
def carsOk (S : Site) (cs : List Car) : Bool := allB cs.length (fun i => carOk S.lim.length (cs.getD i default))
def stE (S : Site) (cs : List Car) : Int := if 8 < cs.length then 6 else if siteHead S && (slotsOk S && carsOk S cs) then 0 else 2
theorem stE_many {S : Site} {cs : List Car} (h : 8 < cs.length) : stE S cs = 6 := by simp [stE, h]
theorem stE_no {S : Site} {cs : List Car} (h : ¬ 8 < cs.length) (h2 : (siteHead S && (slotsOk S && carsOk S cs)) = false) : stE S cs = 2 := by unfold stE; rw [if_neg h, h2]; rfl
theorem stE_head {S : Site} {cs : List Car} (h : ¬ 8 < cs.length) (h2 : siteHead S = false) : stE S cs = 2 := stE_no h (by simp [h2])
theorem stE_slot {S : Site} {cs : List Car} (h : ¬ 8 < cs.length) (t : Nat) (ht : t < S.lim.length) (h2 : slotOk S t = false) : stE S cs = 2 := stE_no h (by simp [slotsOk, allB_no t ht h2])
theorem stE_car {S : Site} {cs : List Car} (h : ¬ 8 < cs.length) (i : Nat) (hi : i < cs.length) (h2 : carOk S.lim.length (cs.getD i default) = false) : stE S cs = 2 := stE_no h (by
  have : carsOk S cs = false := allB_no i hi h2
  simp [this])
theorem stE_ok {S : Site} {cs : List Car} (h : ¬ 8 < cs.length) (h1 : siteHead S = true) (h2 : ∀ t, t < S.lim.length → slotOk S t = true) (h3 : ∀ i, i < cs.length → carOk S.lim.length (cs.getD i default) = true) : stE S cs = 0 := by
  have a : slotsOk S = true := allB_iff.2 h2
  have b : carsOk S cs = true := allB_iff.2 h3
  unfold stE
  rw [if_neg h, h1, a, b]; rfl
theorem stE_0 {S : Site} {cs : List Car} (h : stE S cs = 0) : cs.length ≤ 8 ∧ siteHead S = true ∧ (∀ t, t < S.lim.length → slotOk S t = true) ∧ (∀ i, i < cs.length → carOk S.lim.length (cs.getD i default) = true) := by
  unfold stE at h
  by_cases h1 : 8 < cs.length
  · rw [if_pos h1] at h; cases h
  · rw [if_neg h1] at h
    cases hb : (siteHead S && (slotsOk S && carsOk S cs))
    · rw [hb] at h; cases h
    · simp only [Bool.and_eq_true] at hb
      exact ⟨by omega, hb.1, allB_iff.1 hb.2.1, allB_iff.1 hb.2.2⟩
theorem carOk_head {n : Nat} {c : Car} (h : carHead c = false) : carOk n c = false := by simp [carOk, h]
theorem carOk_trip {n : Nat} {c : Car} (k : Nat) (hk : k < c.trips.length) (h : tripOk c.cap n c.trips k = false) : carOk n c = false := by simp [carOk, allB_no k hk h]
theorem carOk_ok {n : Nat} {c : Car} (h : carHead c = true) (h2 : ∀ k, k < c.trips.length → tripOk c.cap n c.trips k = true) : carOk n c = true := by
  have : allB c.trips.length (tripOk c.cap n c.trips) = true := allB_iff.2 h2
  simp [carOk, h, this]
def useP (l : List Trip) (k : Int) : Nat → Int
  | 0 => 0
  | j + 1 => if (l.getD j default).fr = k then (l.getD j default).use else useP l k j
def awayP (l : List Trip) (k : Int) : Nat → Bool
  | 0 => false
  | j + 1 => awayP l k j || decide ((l.getD j default).fr ≤ k ∧ k < (l.getD j default).to)
def useC (c : Car) (k : Nat) : Int := useP c.trips k c.trips.length
def awayC (c : Car) (k : Nat) : Bool := awayP c.trips k c.trips.length
def lev (c : Car) (x y : List Int) : Nat → Int
  | 0 => c.start
  | k + 1 => lev c x y k + (x.getD k 0 - y.getD k 0 - useC c k)
def drP (T : Tab) (k : Nat) : Nat → Int
  | 0 => 0
  | i + 1 => drP T k i + ((T.inn.getD i []).getD k 0 - (T.out.getD i []).getD k 0)
def carG (c : Car) (x y : Int) (aw : Bool) : Bool := decide ((0 ≤ x ∧ x ≤ c.inn) ∧ (0 ≤ y ∧ y ≤ c.out) ∧ (aw = true → x + y = 0))
def carAt (cs : List Car) (T : Tab) (k i : Nat) : Bool := carG (cs.getD i default) ((T.inn.getD i []).getD k 0) ((T.out.getD i []).getD k 0) (awayC (cs.getD i default) k)
def slotE (S : Site) (cs : List Car) (T : Tab) (k : Nat) : Int :=
  if allB cs.length (carAt cs T k) then (if drP T k T.inn.length ≤ S.lim.getD k 0 ∧ -(S.exp.getD k 0) ≤ drP T k T.inn.length then 0 else 17) else 3
def slotsE (S : Site) (cs : List Car) (T : Tab) : Nat → Int
  | 0 => 0
  | k + 1 => if slotsE S cs T k = 0 then slotE S cs T k else slotsE S cs T k
def least (c : Car) (y : List Int) (n k : Nat) : Int := if k < n then max (useC c k) (y.getD k 0) else c.fin
def levG (c : Car) (x y : List Int) (n k : Nat) : Bool := decide (least c y n k ≤ lev c x y k ∧ lev c x y k ≤ c.cap)
def levsG (cs : List Car) (T : Tab) (n i : Nat) : Bool := allB (n + 1) (levG (cs.getD i default) (T.inn.getD i []) (T.out.getD i []) n)
def lenG (m n : Nat) (l : List (List Int)) : Bool := decide (l.length = m) && allB l.length (fun i => decide ((l.getD i []).length = n))
def plE (S : Site) (cs : List Car) (T : Tab) : Int :=
  if stE S cs = 0 then (if lenG cs.length S.lim.length T.inn && lenG cs.length S.lim.length T.out then
    (if slotsE S cs T S.lim.length = 0 then (if allB cs.length (levsG cs T S.lim.length) then 0 else 19) else slotsE S cs T S.lim.length) else 20) else stE S cs
end Dp
end Go.Proofs.Ytmebpglkeedaoaa
namespace Go.Proofs.Ytmebpglkeedaoaa
open Go.RowKit Dp
def TripsAt (w : World) (A : Option Addr) (l : List Trip) : Prop :=
  ∀ i, i < l.length → ∃ ad, A = some ad ∧ ad.block < w.heap.size ∧ w.cell? (ad.add (i * 3)) = some (.int .i64 (l.getD i default).fr) ∧ w.cell? ⟨(ad.add (i * 3)).block, (ad.add (i * 3)).off + 1, none⟩ = some (.int .i64 (l.getD i default).to) ∧ w.cell? ⟨(ad.add (i * 3)).block, (ad.add (i * 3)).off + 2, none⟩ = some (.int .i64 (l.getD i default).use)
theorem TripsAt.below {w w1 : World} {A : Option Addr} {l : List Trip} (h : TripsAt w A l) {B : Nat} (hb : Below B w w1) (hB : w.heap.size ≤ B) : TripsAt w1 A l := by
  intro i hi
  obtain ⟨ad, e, hlt, c0, c1, c2⟩ := h i hi
  have hbl : (ad.add (i * 3)).block < B := by rw [block_add]; omega
  exact ⟨ad, e, Nat.lt_of_lt_of_le hlt hb.size, (hb.cell hbl).trans c0, (hb.cell (p := ⟨_, _, none⟩) hbl).trans c1, (hb.cell (p := ⟨_, _, none⟩) hbl).trans c2⟩
def SlAt (w : World) (v : Value) (xs : List Int) : Prop := ∃ A cap, v = .slice A xs.length cap ∧ xs.length ≤ cap ∧ cap ≤ 9223372036854775807 ∧ IntsAt w A xs
def TrAt (w : World) (v : Value) (l : List Trip) : Prop := ∃ A cap, v = .slice A l.length cap ∧ l.length ≤ cap ∧ cap ≤ 9223372036854775807 ∧ TripsAt w A l
theorem SlAt.below {w w1 : World} {v : Value} {l : List Int} (h : SlAt w v l) {B : Nat} (hb : Below B w w1) (hB : w.heap.size ≤ B) : SlAt w1 v l := by
  obtain ⟨A, c, e, h1, h2, h3⟩ := h
  exact ⟨A, c, e, h1, h2, h3.below hb hB⟩
theorem TrAt.below {w w1 : World} {v : Value} {l : List Trip} (h : TrAt w v l) {B : Nat} (hb : Below B w w1) (hB : w.heap.size ≤ B) : TrAt w1 v l := by
  obtain ⟨A, c, e, h1, h2, h3⟩ := h
  exact ⟨A, c, e, h1, h2, h3.below hb hB⟩
def CarsAt (w : World) (A : Option Addr) (l : List Car) : Prop :=
  ∀ i, i < l.length → ∃ ad, A = some ad ∧ ad.block < w.heap.size ∧ w.cell? (ad.add (i * 6)) = some (.int .i64 (l.getD i default).cap) ∧ w.cell? ⟨(ad.add (i * 6)).block, (ad.add (i * 6)).off + 1, none⟩ = some (.int .i64 (l.getD i default).inn) ∧ w.cell? ⟨(ad.add (i * 6)).block, (ad.add (i * 6)).off + 2, none⟩ = some (.int .i64 (l.getD i default).out) ∧ w.cell? ⟨(ad.add (i * 6)).block, (ad.add (i * 6)).off + 3, none⟩ = some (.int .i64 (l.getD i default).start) ∧ w.cell? ⟨(ad.add (i * 6)).block, (ad.add (i * 6)).off + 4, none⟩ = some (.int .i64 (l.getD i default).fin) ∧
    ∃ T cT, w.cell? ⟨(ad.add (i * 6)).block, (ad.add (i * 6)).off + 5, none⟩ = some (.slice T (l.getD i default).trips.length cT) ∧ ((l.getD i default).trips.length ≤ cT ∧ cT ≤ 9223372036854775807) ∧ TripsAt w T (l.getD i default).trips
theorem CarsAt.below {w w1 : World} {A : Option Addr} {l : List Car} (h : CarsAt w A l) {B : Nat} (hb : Below B w w1) (hB : w.heap.size ≤ B) : CarsAt w1 A l := by
  intro i hi
  obtain ⟨ad, e, hlt, c0, c1, c2, c3, c4, T, cT, c5, r, ht⟩ := h i hi
  have hbl : (ad.add (i * 6)).block < B := by rw [block_add]; omega
  exact ⟨ad, e, Nat.lt_of_lt_of_le hlt hb.size, (hb.cell hbl).trans c0, (hb.cell (p := ⟨_, _, none⟩) hbl).trans c1, (hb.cell (p := ⟨_, _, none⟩) hbl).trans c2, (hb.cell (p := ⟨_, _, none⟩) hbl).trans c3, (hb.cell (p := ⟨_, _, none⟩) hbl).trans c4, T, cT, (hb.cell (p := ⟨_, _, none⟩) hbl).trans c5, r, ht.below hb hB⟩
def RowsAt (w : World) (A : Option Addr) (l : List (List Int)) : Prop :=
  ∀ i, i < l.length → ∃ ad, A = some ad ∧ ad.block < w.heap.size ∧ ∃ T cT, w.cell? (ad.add i) = some (.slice T (l.getD i []).length cT) ∧ ((l.getD i []).length ≤ cT ∧ cT ≤ 9223372036854775807) ∧ IntsAt w T (l.getD i [])
theorem RowsAt.below {w w1 : World} {A : Option Addr} {l : List (List Int)} (h : RowsAt w A l) {B : Nat} (hb : Below B w w1) (hB : w.heap.size ≤ B) : RowsAt w1 A l := by
  intro i hi
  obtain ⟨ad, e, hlt, T, cT, c0, r, ht⟩ := h i hi
  exact ⟨ad, e, Nat.lt_of_lt_of_le hlt hb.size, T, cT, (hb.cell (by rw [block_add]; omega)).trans c0, r, ht.below hb hB⟩
def SiteAt (w : World) (A B C D : Option Addr) (S : Site) : Prop := IntsAt w A S.lim ∧ IntsAt w B S.exp ∧ IntsAt w C S.buy ∧ IntsAt w D S.sell
theorem SiteAt.below {w w1 : World} {A B C D : Option Addr} {S : Site} (h : SiteAt w A B C D S) {b : Nat} (hb : Below b w w1) (hB : w.heap.size ≤ b) : SiteAt w1 A B C D S :=
  ⟨h.1.below hb hB, h.2.1.below hb hB, h.2.2.1.below hb hB, h.2.2.2.below hb hB⟩
def TabAt (w : World) (A B : Option Addr) (T : Tab) : Prop := RowsAt w A T.inn ∧ RowsAt w B T.out
theorem TabAt.below {w w1 : World} {A B : Option Addr} {T : Tab} (h : TabAt w A B T) {b : Nat} (hb : Below b w w1) (hB : w.heap.size ≤ b) : TabAt w1 A B T := ⟨h.1.below hb hB, h.2.below hb hB⟩
theorem trips_of {w : World} {v : Value} (h : v = .slice none 0 0 ∨ ∃ a len cap, v = .slice (some a) len cap ∧ len ≤ cap ∧ cap ≤ maxLen ∧
      ∀ i, i < len → ∃ cs, cs.length = 3 ∧ (∀ j u, cs[j]? = some u → w.cell? ((a.add (i * 3)).add j) = some u) ∧ Rd w (.i .i64 (.i .i64 (.i .i64 .nil))) cs) :
    ∃ (A : Option Addr) (l : List Trip) (cap : Nat), v = .slice A l.length cap ∧ l.length ≤ cap ∧ cap ≤ 9223372036854775807 ∧ TripsAt w A l := by
  rcases h with rfl | ⟨a, len, cap, rfl, hl, hm, hi⟩
  · exact ⟨none, [], 0, rfl, Nat.le_refl _, by omega, fun i hi => by simp at hi⟩
  · obtain ⟨bs, hbl, hbs⟩ := choose_list (α := Trip) (n := len) (Q := fun i x => w.cell? ((a.add (i * 3)).add 0) = some (.int .i64 x.fr) ∧ w.cell? ((a.add (i * 3)).add 1) = some (.int .i64 x.to) ∧ w.cell? ((a.add (i * 3)).add 2) = some (.int .i64 x.use)) (fun i hil => by
      obtain ⟨cs, _, hc, n0, _, rfl, _, n1, _, rfl, _, n2, _, rfl, _, rfl⟩ := hi i hil
      exact ⟨⟨n0, n1, n2⟩, hc 0 _ rfl, hc 1 _ rfl, hc 2 _ rfl⟩)
    refine ⟨some a, bs, cap, by rw [hbl], by omega, by unfold maxLen at hm; omega, fun i hi => ?_⟩
    have hg : bs[i]? = some (bs.getD i default) := by rw [List.getD_eq_getElem?_getD, List.getElem?_eq_getElem hi]; rfl
    obtain ⟨h0, h1, h2⟩ := hbs i _ hg
    rw [add_zero'] at h0
    have hb := World.block_lt_of_cell? _ _ h0
    rw [block_add] at hb
    exact ⟨a, rfl, hb, h0, h1, h2⟩
theorem cars_of {w : World} {v : Value} (h : v = .slice none 0 0 ∨ ∃ a len cap, v = .slice (some a) len cap ∧ len ≤ cap ∧ cap ≤ maxLen ∧
      ∀ i, i < len → ∃ cs, cs.length = 6 ∧ (∀ j u, cs[j]? = some u → w.cell? ((a.add (i * 6)).add j) = some u) ∧ Rd w (.i .i64 (.i .i64 (.i .i64 (.i .i64 (.i .i64 (.s 3 (.i .i64 (.i .i64 (.i .i64 .nil))) .nil)))))) cs) :
    ∃ (A : Option Addr) (l : List Car) (cap : Nat), v = .slice A l.length cap ∧ l.length ≤ cap ∧ cap ≤ 9223372036854775807 ∧ CarsAt w A l := by
  rcases h with rfl | ⟨a, len, cap, rfl, hl, hm, hi⟩
  · exact ⟨none, [], 0, rfl, Nat.le_refl _, by omega, fun i hi => by simp at hi⟩
  · obtain ⟨bs, hbl, hbs⟩ := choose_list (α := Car) (n := len) (Q := fun i x => (w.cell? ((a.add (i * 6)).add 0) = some (.int .i64 x.cap) ∧ w.cell? ((a.add (i * 6)).add 1) = some (.int .i64 x.inn) ∧ w.cell? ((a.add (i * 6)).add 2) = some (.int .i64 x.out) ∧ w.cell? ((a.add (i * 6)).add 3) = some (.int .i64 x.start) ∧ w.cell? ((a.add (i * 6)).add 4) = some (.int .i64 x.fin)) ∧
        ∃ T cT, w.cell? ((a.add (i * 6)).add 5) = some (.slice T x.trips.length cT) ∧ (x.trips.length ≤ cT ∧ cT ≤ 9223372036854775807) ∧ TripsAt w T x.trips) (fun i hil => by
      obtain ⟨cs, _, hc, n0, _, rfl, _, n1, _, rfl, _, n2, _, rfl, _, n3, _, rfl, _, n4, _, rfl, _, v5, _, rfl, rfl, hs⟩ := hi i hil
      obtain ⟨T, l, cT, rfl, h1, h2, h3⟩ := trips_of hs
      exact ⟨⟨n0, n1, n2, n3, n4, l⟩, ⟨hc 0 _ rfl, hc 1 _ rfl, hc 2 _ rfl, hc 3 _ rfl, hc 4 _ rfl⟩, T, cT, hc 5 _ rfl, ⟨h1, h2⟩, h3⟩)
    refine ⟨some a, bs, cap, by rw [hbl], by omega, by unfold maxLen at hm; omega, fun i hi => ?_⟩
    have hg : bs[i]? = some (bs.getD i default) := by rw [List.getD_eq_getElem?_getD, List.getElem?_eq_getElem hi]; rfl
    obtain ⟨⟨h0, h1, h2, h3, h4⟩, T, cT, h5, r, ht⟩ := hbs i _ hg
    rw [add_zero'] at h0
    have hb := World.block_lt_of_cell? _ _ h0
    rw [block_add] at hb
    exact ⟨a, rfl, hb, h0, h1, h2, h3, h4, T, cT, h5, r, ht⟩
theorem rows_of {w : World} {v : Value} (h : v = .slice none 0 0 ∨ ∃ a len cap, v = .slice (some a) len cap ∧ len ≤ cap ∧ cap ≤ maxLen ∧
      ∀ i, i < len → ∃ cs, cs.length = 1 ∧ (∀ j u, cs[j]? = some u → w.cell? ((a.add (i * 1)).add j) = some u) ∧ Rd w (.s 1 (.i .i64 .nil) .nil) cs) :
    ∃ (A : Option Addr) (l : List (List Int)) (cap : Nat), v = .slice A l.length cap ∧ l.length ≤ cap ∧ cap ≤ 9223372036854775807 ∧ RowsAt w A l := by
  rcases h with rfl | ⟨a, len, cap, rfl, hl, hm, hi⟩
  · exact ⟨none, [], 0, rfl, Nat.le_refl _, by omega, fun i hi => by simp at hi⟩
  · obtain ⟨bs, hbl, hbs⟩ := choose_list (α := List Int) (n := len) (Q := fun i x => ∃ T cT, w.cell? ((a.add (i * 1)).add 0) = some (.slice T x.length cT) ∧ (x.length ≤ cT ∧ cT ≤ 9223372036854775807) ∧ IntsAt w T x) (fun i hil => by
      obtain ⟨cs, _, hc, v0, _, rfl, rfl, hs⟩ := hi i hil
      obtain ⟨T, l, cT, rfl, h1, h2, h3⟩ := ints_of hs
      exact ⟨l, T, cT, hc 0 _ rfl, ⟨h1, h2⟩, h3⟩)
    refine ⟨some a, bs, cap, by rw [hbl], by omega, by unfold maxLen at hm; omega, fun i hi => ?_⟩
    have hg : bs[i]? = some (bs.getD i []) := by rw [List.getD_eq_getElem?_getD, List.getElem?_eq_getElem hi]; rfl
    obtain ⟨T, cT, h0, r, ht⟩ := hbs i _ hg
    rw [add_zero', Nat.mul_one] at h0
    have hb := World.block_lt_of_cell? _ _ h0
    rw [block_add] at hb
    exact ⟨a, rfl, hb, T, cT, h0, r, ht⟩
end Go.Proofs.Ytmebpglkeedaoaa
namespace Go.Proofs.Ytmebpglkeedaoaa
open Go.RowKit Dp
def mnP (xs : List Int) : Nat → Int
  | 0 => xs.getD 0 0
  | k + 1 => min (mnP xs k) (xs.getD k 0)
def mxP (xs : List Int) : Nat → Int
  | 0 => xs.getD 0 0
  | k + 1 => max (mxP xs k) (xs.getD k 0)
set_option maxHeartbeats 1000000 in
theorem Min_c (A : Option Addr) (xs : List Int) (n cap : Nat) (w : World) (hn : n = xs.length) (h1 : 1 ≤ n) (hcap : n ≤ cap ∧ cap ≤ 9223372036854775807) (hA : IntsAt w A xs) :
    Calls Try.prog 79 #[.slice A n cap] w fun e w' => e = .returned (.int .i64 (mnP xs n)) ∧ w = w' := by
  have HN := Lib.hid hn
  have HA := Lib.hid hA
  clear hn hA
  obtain ⟨ad, rfl, _, c0⟩ := HA.out 0 (by rw [← HN.out]; omega)
  rw [add_zero'] at c0
  have HX := Lib.hid (show mnP xs 1 = xs.getD 0 0 from by simp [mnP])
  generalize xs.getD 0 0 = x0 at *
  have h3 : (0 : Int) < (n : Int) := by omega
  have h4 : ¬ (n : Int) < 1 := by omega
  go_enter Try.func79, Try.ntmps79
  go_wp2_with fail
  clear c0
  go_loop [3, 4] (fun m i => ∃ k : Nat, 1 ≤ k ∧ k ≤ n ∧ i = .int .i64 k ∧ m = .int .i64 (mnP xs k)) (fun _ i => n - (intOf i).toNat)
  case atStart => exact ⟨1, Nat.le_refl _, h1, rfl, by rw [HX.out]⟩
  case round =>
    obtain ⟨k, hk1, hk, rfl, rfl⟩ := hrel
    by_cases hlt : k < n
    · obtain ⟨ad', e', _, hc⟩ := HA.out k (by rw [← HN.out]; exact hlt)
      cases e'
      have HS := Lib.hid (show mnP xs (k + 1) = min (mnP xs k) (xs.getD k 0) from rfl)
      generalize xs.getD k 0 = x at *
      generalize mnP xs k = y at *
      have hm := fun ts t W => minTwo y x ts t W
      generalize min y x = z at *
      have hki : (k : Int) < (n : Int) := by omega
      go_wp2_with fail
      go_round
      case rel => exact ⟨k + 1, by omega, by omega, by go_num, by rw [HS.out]⟩
      case measure => simp [intOf]; omega
    · obtain rfl : k = n := by omega
      go_wp2_with fail
      go_ret
      exact ⟨rfl, rfl⟩
set_option maxHeartbeats 1000000 in
theorem Max_c (A : Option Addr) (xs : List Int) (n cap : Nat) (w : World) (hn : n = xs.length) (h1 : 1 ≤ n) (hcap : n ≤ cap ∧ cap ≤ 9223372036854775807) (hA : IntsAt w A xs) :
    Calls Try.prog 80 #[.slice A n cap] w fun e w' => e = .returned (.int .i64 (mxP xs n)) ∧ w = w' := by
  have HN := Lib.hid hn
  have HA := Lib.hid hA
  clear hn hA
  obtain ⟨ad, rfl, _, c0⟩ := HA.out 0 (by rw [← HN.out]; omega)
  rw [add_zero'] at c0
  have HX := Lib.hid (show mxP xs 1 = xs.getD 0 0 from by simp [mxP])
  generalize xs.getD 0 0 = x0 at *
  have h3 : (0 : Int) < (n : Int) := by omega
  have h4 : ¬ (n : Int) < 1 := by omega
  go_enter Try.func80, Try.ntmps80
  go_wp2_with fail
  clear c0
  go_loop [3, 4] (fun m i => ∃ k : Nat, 1 ≤ k ∧ k ≤ n ∧ i = .int .i64 k ∧ m = .int .i64 (mxP xs k)) (fun _ i => n - (intOf i).toNat)
  case atStart => exact ⟨1, Nat.le_refl _, h1, rfl, by rw [HX.out]⟩
  case round =>
    obtain ⟨k, hk1, hk, rfl, rfl⟩ := hrel
    by_cases hlt : k < n
    · obtain ⟨ad', e', _, hc⟩ := HA.out k (by rw [← HN.out]; exact hlt)
      cases e'
      have HS := Lib.hid (show mxP xs (k + 1) = max (mxP xs k) (xs.getD k 0) from rfl)
      generalize xs.getD k 0 = x at *
      generalize mxP xs k = y at *
      have hm := fun ts t W => maxTwo y x ts t W
      generalize max y x = z at *
      have hki : (k : Int) < (n : Int) := by omega
      go_wp2_with fail
      go_round
      case rel => exact ⟨k + 1, by omega, by omega, by go_num, by rw [HS.out]⟩
      case measure => simp [intOf]; omega
    · obtain rfl : k = n := by omega
      go_wp2_with fail
      go_ret
      exact ⟨rfl, rfl⟩
set_option maxHeartbeats 1000000 in
theorem upTo_c (most : Int) (A : Option Addr) (xs : List Int) (n cap : Nat) (w : World) (hn : n = xs.length) (h1 : 1 ≤ n) (hcap : n ≤ cap ∧ cap ≤ 9223372036854775807) (hA : IntsAt w A xs) :
    Calls Try.prog 78 #[.int .i64 most, .slice A n cap] w fun e w' => e = .returned (.bool (decide (0 ≤ mnP xs n ∧ mxP xs n ≤ most))) ∧ w = w' := by
  have c1 := Min_c A xs n cap w hn h1 hcap hA
  have c2 := Max_c A xs n cap w hn h1 hcap hA
  clear hn hA hcap
  generalize mnP xs n = a at *
  generalize mxP xs n = b at *
  by_cases h0 : 0 ≤ a
  · by_cases h2 : b ≤ most
    · have e0 : decide (0 ≤ a ∧ b ≤ most) = true := by simp [h0, h2]
      rw [e0]
      go_enter Try.func78, Try.ntmps78
      go_wp2_with (first | (go_at_call 79; refine c1.mono ?_; rintro e w1 ⟨rfl, rfl⟩) | (go_at_call 80; refine c2.mono ?_; rintro e w1 ⟨rfl, rfl⟩))
      go_ret
      exact ⟨rfl, rfl⟩
    · have e0 : decide (0 ≤ a ∧ b ≤ most) = false := by simp [h2]
      rw [e0]
      go_enter Try.func78, Try.ntmps78
      go_wp2_with (first | (go_at_call 79; refine c1.mono ?_; rintro e w1 ⟨rfl, rfl⟩) | (go_at_call 80; refine c2.mono ?_; rintro e w1 ⟨rfl, rfl⟩))
      go_ret
      exact ⟨ret_bool (decide_eq_false (by omega)), rfl⟩
  · have e0 : decide (0 ≤ a ∧ b ≤ most) = false := by simp [h0]
    rw [e0]
    go_enter Try.func78, Try.ntmps78
    go_wp2_with (first | (go_at_call 79; refine c1.mono ?_; rintro e w1 ⟨rfl, rfl⟩) | (go_at_call 80; refine c2.mono ?_; rintro e w1 ⟨rfl, rfl⟩))
    go_ret
    exact ⟨rfl, rfl⟩
theorem blk_ints {w : World} {g : Nat} {t : TypeId} {xs : List Int} (h : Blk w g t (xs.map (.int .i64))) : IntsAt w (some ⟨g, 0, none⟩) xs := by
  intro i hi
  refine ⟨_, rfl, h.lt, ?_⟩
  have e : (⟨g, 0, none⟩ : Addr).add i = ⟨g, i, none⟩ := by unfold Addr.add; split <;> simp_all
  rw [e]
  refine h.cell i ?_
  rw [List.getElem?_map, List.getElem?_eq_getElem hi, List.getD_eq_getElem?_getD, List.getElem?_eq_getElem hi]
  rfl
theorem upTo1_c {most a : Int} {t : TypeId} (g : Nat) (w : World) (b : Bool) (hb : b = decide (0 ≤ a ∧ a ≤ most)) (h : Blk w g t [.int .i64 a]) :
    Calls Try.prog 78 #[.int .i64 most, .slice (some ⟨g, 0, none⟩) 1 1] w fun e w' => e = .returned (.bool b) ∧ w = w' := by
  refine (upTo_c most _ [a] 1 1 w rfl (by omega) ⟨by omega, by omega⟩ (blk_ints (xs := [a]) h)).mono ?_
  rintro e w' ⟨rfl, hw⟩
  refine ⟨ret_bool ?_, hw⟩
  rw [hb]
  simp [mnP, mxP]
theorem upTo2_c {most a b : Int} {t : TypeId} (g : Nat) (w : World) (v : Bool) (hb : v = decide ((0 ≤ a ∧ a ≤ most) ∧ (0 ≤ b ∧ b ≤ most))) (h : Blk w g t [.int .i64 a, .int .i64 b]) :
    Calls Try.prog 78 #[.int .i64 most, .slice (some ⟨g, 0, none⟩) 2 2] w fun e w' => e = .returned (.bool v) ∧ w = w' := by
  refine (upTo_c most _ [a, b] 2 2 w rfl (by omega) ⟨by omega, by omega⟩ (blk_ints (xs := [a, b]) h)).mono ?_
  rintro e w' ⟨rfl, hw⟩
  refine ⟨ret_bool ?_, hw⟩
  rw [hb]
  refine decide_eq_decide.2 ?_
  simp [mnP, mxP]
  omega
theorem upTo3_c {most a b c : Int} {t : TypeId} (g : Nat) (w : World) (v : Bool) (hb : v = decide ((0 ≤ a ∧ a ≤ most) ∧ (0 ≤ b ∧ b ≤ most) ∧ (0 ≤ c ∧ c ≤ most))) (h : Blk w g t [.int .i64 a, .int .i64 b, .int .i64 c]) :
    Calls Try.prog 78 #[.int .i64 most, .slice (some ⟨g, 0, none⟩) 3 3] w fun e w' => e = .returned (.bool v) ∧ w = w' := by
  refine (upTo_c most _ [a, b, c] 3 3 w rfl (by omega) ⟨by omega, by omega⟩ (blk_ints (xs := [a, b, c]) h)).mono ?_
  rintro e w' ⟨rfl, hw⟩
  refine ⟨ret_bool ?_, hw⟩
  rw [hb]
  refine decide_eq_decide.2 ?_
  simp [mnP, mxP]
  omega
end Go.Proofs.Ytmebpglkeedaoaa
namespace Go.Proofs.Ytmebpglkeedaoaa
namespace Dp
theorem tripOk_iff {cap : Int} {n : Nat} {l : List Trip} {k : Nat} : tripOk cap n l k = true ↔ backAt l k ≤ (l.getD k default).fr ∧ (l.getD k default).fr < (l.getD k default).to ∧ (l.getD k default).to ≤ n ∧ (0 ≤ (l.getD k default).use ∧ (l.getD k default).use ≤ cap) := by
  unfold tripOk; rw [decide_eq_true_iff]
theorem carOk_iff {n : Nat} {c : Car} : carOk n c = true ↔ ((1 ≤ c.cap ∧ c.cap ≤ 1048576) ∧ (0 ≤ c.inn ∧ c.inn ≤ 1048576) ∧ (0 ≤ c.out ∧ c.out ≤ 1048576) ∧ (0 ≤ c.start ∧ c.start ≤ c.cap) ∧ (0 ≤ c.fin ∧ c.fin ≤ c.cap) ∧ c.trips.length ≤ 4) ∧ ∀ k, k < c.trips.length → tripOk c.cap n c.trips k = true := by
  unfold carOk carHead
  rw [Bool.and_eq_true, decide_eq_true_iff, allB_iff]
theorem slotOk_iff {S : Site} {t : Nat} : slotOk S t = true ↔ (0 ≤ S.lim.getD t 0 ∧ S.lim.getD t 0 ≤ 1048576) ∧ (0 ≤ S.exp.getD t 0 ∧ S.exp.getD t 0 ≤ 1048576) ∧ (0 ≤ S.buy.getD t 0 ∧ S.buy.getD t 0 ≤ 1048576) ∧ (0 ≤ S.sell.getD t 0 ∧ S.sell.getD t 0 ≤ S.buy.getD t 0) := by
  unfold slotOk; rw [decide_eq_true_iff]
theorem siteHead_iff {S : Site} : siteHead S = true ↔ (1 ≤ S.lim.length ∧ S.lim.length ≤ 48) ∧ S.exp.length = S.lim.length ∧ S.buy.length = S.lim.length ∧ S.sell.length = S.lim.length := by
  unfold siteHead; rw [decide_eq_true_iff]
theorem trip_apart {cap : Int} {n : Nat} {l : List Trip} (h : ∀ k, k < l.length → tripOk cap n l k = true) (j : Nat) : ∀ d, j + d + 1 < l.length → (l.getD j default).to ≤ (l.getD (j + d + 1) default).fr
  | 0, hd => by
    have h1 := (tripOk_iff.1 (h (j + 1) (by omega))).1
    exact h1
  | d + 1, hd => by
    have ih := trip_apart h j d (by omega)
    have h1 := tripOk_iff.1 (h (j + d + 1) (by omega))
    have h2 := (tripOk_iff.1 (h (j + (d + 1) + 1) (by omega))).1
    have h3 : backAt l (j + (d + 1) + 1) = (l.getD (j + d + 1) default).to := rfl
    omega
theorem useP_at {cap : Int} {n : Nat} {l : List Trip} (h : ∀ k, k < l.length → tripOk cap n l k = true) {j : Nat} (hj : j < l.length) : ∀ m, j < m → m ≤ l.length → useP l (l.getD j default).fr m = (l.getD j default).use
  | 0, hm, _ => by omega
  | m + 1, hm, hl => by
    unfold useP
    by_cases e : m = j
    · subst e; rw [if_pos rfl]
    · have h1 := trip_apart h j (m - j - 1) (by omega)
      rw [show j + (m - j - 1) + 1 = m by omega] at h1
      have h2 := tripOk_iff.1 (h j hj)
      rw [if_neg (by omega)]
      exact useP_at h hj m (by omega) (by omega)
theorem useP_bd {cap : Int} {n : Nat} {l : List Trip} (h : ∀ k, k < l.length → tripOk cap n l k = true) (hc : 0 ≤ cap) (k : Int) : ∀ m, m ≤ l.length → 0 ≤ useP l k m ∧ useP l k m ≤ cap
  | 0, _ => ⟨Int.le_refl _, hc⟩
  | m + 1, hl => by
    unfold useP
    have h2 := tripOk_iff.1 (h m (by omega))
    split
    · exact h2.2.2.2
    · exact useP_bd h hc k m (by omega)
theorem useC_bd {n : Nat} {c : Car} (h : carOk n c = true) (k : Nat) : 0 ≤ useC c k ∧ useC c k ≤ 1048576 := by
  have h1 := carOk_iff.1 h
  have := useP_bd h1.2 (by omega) k c.trips.length (Nat.le_refl _)
  unfold useC
  omega
theorem slotsE_all {S : Site} {cs : List Car} {T : Tab} : ∀ {n : Nat}, slotsE S cs T n = 0 → ∀ k, k < n → slotE S cs T k = 0
  | 0, _, k, hk => by omega
  | n + 1, h, k, hk => by
    unfold slotsE at h
    by_cases h0 : slotsE S cs T n = 0
    · rw [if_pos h0] at h
      by_cases e : k = n
      · rw [e]; exact h
      · exact slotsE_all h0 k (by omega)
    · rw [if_neg h0] at h
      exact absurd h h0
theorem slotE_0 {S : Site} {cs : List Car} {T : Tab} {k : Nat} (h : slotE S cs T k = 0) : (∀ i, i < cs.length → carAt cs T k i = true) ∧ drP T k T.inn.length ≤ S.lim.getD k 0 ∧ -(S.exp.getD k 0) ≤ drP T k T.inn.length := by
  unfold slotE at h
  by_cases h1 : allB cs.length (carAt cs T k) = true
  · rw [if_pos h1] at h
    by_cases h2 : drP T k T.inn.length ≤ S.lim.getD k 0 ∧ -(S.exp.getD k 0) ≤ drP T k T.inn.length
    · exact ⟨allB_iff.1 h1, h2⟩
    · rw [if_neg h2] at h; cases h
  · rw [if_neg h1] at h; cases h
theorem lenG_iff {m n : Nat} {l : List (List Int)} : lenG m n l = true ↔ l.length = m ∧ ∀ i, i < m → (l.getD i []).length = n := by
  unfold lenG
  rw [Bool.and_eq_true, decide_eq_true_iff, allB_iff]
  constructor
  · rintro ⟨rfl, h⟩; exact ⟨rfl, fun i hi => by simpa using h i hi⟩
  · rintro ⟨rfl, h⟩; exact ⟨rfl, fun i hi => by simpa using h i hi⟩
structure Keeps (S : Site) (cs : List Car) (T : Tab) : Prop where
  ok : stE S cs = 0
  li : T.inn.length = cs.length
  lo : T.out.length = cs.length
  ri : ∀ i, i < cs.length → (T.inn.getD i []).length = S.lim.length
  ro : ∀ i, i < cs.length → (T.out.getD i []).length = S.lim.length
  dr : ∀ k, k < S.lim.length → drP T k T.inn.length ≤ S.lim.getD k 0 ∧ -(S.exp.getD k 0) ≤ drP T k T.inn.length
  car : ∀ k, k < S.lim.length → ∀ i, i < cs.length → carAt cs T k i = true
  lv : ∀ i, i < cs.length → ∀ k, k ≤ S.lim.length → levG (cs.getD i default) (T.inn.getD i []) (T.out.getD i []) S.lim.length k = true
theorem plE_0 {S : Site} {cs : List Car} {T : Tab} (h : plE S cs T = 0) : Keeps S cs T := by
  unfold plE at h
  by_cases h0 : stE S cs = 0
  · rw [if_pos h0] at h
    cases h1 : (lenG cs.length S.lim.length T.inn && lenG cs.length S.lim.length T.out)
    · rw [h1] at h; cases h
    · rw [h1, if_pos rfl] at h
      by_cases h2 : slotsE S cs T S.lim.length = 0
      · rw [if_pos h2] at h
        cases h3 : allB cs.length (levsG cs T S.lim.length)
        · rw [h3] at h; cases h
        · rw [Bool.and_eq_true] at h1
          have a := lenG_iff.1 h1.1
          have b := lenG_iff.1 h1.2
          have c := fun k hk => slotE_0 (slotsE_all h2 k hk)
          refine ⟨h0, a.1, b.1, a.2, b.2, fun k hk => (c k hk).2, fun k hk => (c k hk).1, fun i hi k hk => ?_⟩
          exact allB_iff.1 (allB_iff.1 h3 i hi) k (by omega)
      · rw [if_neg h2] at h; exact absurd h h2
  · rw [if_neg h0] at h; exact absurd h h0
theorem carG_iff {c : Car} {x y : Int} {aw : Bool} : carG c x y aw = true ↔ (0 ≤ x ∧ x ≤ c.inn) ∧ (0 ≤ y ∧ y ≤ c.out) ∧ (aw = true → x + y = 0) := by unfold carG; rw [decide_eq_true_iff]
theorem levG_iff {c : Car} {x y : List Int} {n k : Nat} : levG c x y n k = true ↔ least c y n k ≤ lev c x y k ∧ lev c x y k ≤ c.cap := by unfold levG; rw [decide_eq_true_iff]
section
variable {S : Site} {cs : List Car} {T : Tab}
theorem Keeps.carok (h : Keeps S cs T) {i : Nat} (hi : i < cs.length) : carOk S.lim.length (cs.getD i default) = true := (stE_0 h.ok).2.2.2 i hi
theorem Keeps.last (h : Keeps S cs T) {i : Nat} (hi : i < cs.length) : (cs.getD i default).fin ≤ lev (cs.getD i default) (T.inn.getD i []) (T.out.getD i []) S.lim.length := by
  have h1 := (levG_iff.1 (h.lv i hi S.lim.length (Nat.le_refl _))).1
  unfold least at h1
  rw [if_neg (by omega)] at h1
  exact h1
end
end Dp
end Go.Proofs.Ytmebpglkeedaoaa
namespace Go.Proofs.Ytmebpglkeedaoaa
namespace Dp
def SlotBd (T : Tab) (k m : Nat) : Prop := ∀ i, i < m → (k < (T.inn.getD i []).length ∧ k < (T.out.getD i []).length) ∧ (0 ≤ (T.inn.getD i []).getD k 0 ∧ (T.inn.getD i []).getD k 0 ≤ 1048576) ∧ (0 ≤ (T.out.getD i []).getD k 0 ∧ (T.out.getD i []).getD k 0 ≤ 1048576)
theorem drP_bd {T : Tab} {k m : Nat} (h : SlotBd T k m) : ∀ i, i ≤ m → -(1048576 * i : Int) ≤ drP T k i ∧ drP T k i ≤ 1048576 * i
  | 0, _ => by simp [drP]
  | i + 1, hi => by
    have h1 := drP_bd h i (by omega)
    have h2 := h i (by omega)
    unfold drP
    omega
def RowBd (n : Nat) (xs : List Int) : Prop := xs.length = n ∧ ∀ k, k < n → 0 ≤ xs.getD k 0 ∧ xs.getD k 0 ≤ 1048576
theorem lev_bd {n : Nat} {c : Car} {x y : List Int} (hc : carOk n c = true) (hx : RowBd n x) (hy : RowBd n y) : ∀ k, k ≤ n → -(3145728 * k : Int) ≤ lev c x y k ∧ lev c x y k ≤ 1048576 + 3145728 * k
  | 0, _ => by
    have := carOk_iff.1 hc
    simp only [lev]; omega
  | k + 1, hk => by
    have h1 := lev_bd hc hx hy k (by omega)
    have h2 := hx.2 k (by omega)
    have h3 := hy.2 k (by omega)
    have h4 := useC_bd hc k
    simp only [lev]
    omega
end Dp
end Go.Proofs.Ytmebpglkeedaoaa
namespace Go.Proofs.Ytmebpglkeedaoaa
open Go.RowKit Dp
noncomputable def loop36 : Code := ((Try.f36.body.bind (blockOf 2)).getD .skip)
noncomputable def end36 : Code := ((Try.f36.body.bind (behind 2)).getD .skip)
def R36 (S : Site) (cs : List Car) (w : World) : Ending → World → Prop := fun e w' => e = .returned (.int .i64 (stE S cs)) ∧ Below w.heap.size w w'
set_option maxHeartbeats 8000000 in
set_option maxRecDepth 100000 in
theorem site2 (E : Option Addr) (S : Site) (cs : List Car) (n m cE : Nat) (w W0 : World) (hn : n = S.lim.length) (hm : m = cs.length) (hE : m ≤ cE ∧ cE ≤ 9223372036854775807) (hQ1 : ¬ 8 < cs.length) (hH : siteHead S = true) (hsl : ∀ t, t < S.lim.length → slotOk S t = true)
    (hC : CarsAt w E cs) (hB : Below w.heap.size w W0) {K : Act → World → Prop} (hK : ∀ a w', Code.wp Try.prog end36 (bodyPost Try.prog Try.f36 (R36 S cs w)) a w' → K a w') {x0 x1 x2 x3 x4 x7 x8 x9 x10 x11 x12 x13 x14 x15 x16 x17 x18 x19 x20 x21 x22 x23 x24 x25 x26 x27 x28 x29 x30 x31 x32 x33 x34 x35 x36 x37 x38 x39 x40 x41 x42 x43 x44 x45 x46 x47 x48 x49 x50 x51 x52 x53 x54 x55 x56 x57 x58 x59 x60 x61 x62 x63 x64 x65 x66 x67 x68 x69 x70 x71 x72 x73 x74 x75 x76 x77 x78 x79 x80 x81 x82 x83 x84 x85 x86 x87 x88 x89 x90 x91 x95 x96 x97 x98 x99 x100 x101 x102 x103 x104 x105 x106 x107 x108 x109 x110 x111 x112 x113 x114 x115 x116 x117 x118 x119 x120 x121 x122 x123 x124 x125 x126 x127 x128 x129 x130 x131 x132 x133 x134 x135 x136 x137 x138 x139 x140 x141 x142 x143 x144 x145 x146 x147 x148 x149 x150 x151 x152 x153 x154 x155 x156 x157 x158 x159 x160 x161 x162 x163 x164 x165 x166 x167 x168 : Value} :
    Code.wp Try.prog loop36 (Exit.inBlock 2 (Exit.then K (bodyPost Try.prog Try.f36 (R36 S cs w)))) { tmps := List.toArray (x0 :: x1 :: x2 :: x3 :: x4 :: (.int .i64 n : Value) :: (.func (.func 78) #[] #[] : Value) :: x7 :: x8 :: x9 :: x10 :: x11 :: x12 :: x13 :: x14 :: x15 :: x16 :: x17 :: x18 :: x19 :: x20 :: x21 :: x22 :: x23 :: x24 :: x25 :: x26 :: x27 :: x28 :: x29 :: x30 :: x31 :: x32 :: x33 :: x34 :: x35 :: x36 :: x37 :: x38 :: x39 :: x40 :: x41 :: x42 :: x43 :: x44 :: x45 :: x46 :: x47 :: x48 :: x49 :: x50 :: x51 :: x52 :: x53 :: x54 :: x55 :: x56 :: x57 :: x58 :: x59 :: x60 :: x61 :: x62 :: x63 :: x64 :: x65 :: x66 :: x67 :: x68 :: x69 :: x70 :: x71 :: x72 :: x73 :: x74 :: x75 :: x76 :: x77 :: x78 :: x79 :: x80 :: x81 :: x82 :: x83 :: x84 :: x85 :: x86 :: x87 :: x88 :: x89 :: x90 :: x91 :: (.slice E m cE : Value) :: (.int .i64 m : Value) :: (.int .i64 0 : Value) :: x95 :: x96 :: x97 :: x98 :: x99 :: x100 :: x101 :: x102 :: x103 :: x104 :: x105 :: x106 :: x107 :: x108 :: x109 :: x110 :: x111 :: x112 :: x113 :: x114 :: x115 :: x116 :: x117 :: x118 :: x119 :: x120 :: x121 :: x122 :: x123 :: x124 :: x125 :: x126 :: x127 :: x128 :: x129 :: x130 :: x131 :: x132 :: x133 :: x134 :: x135 :: x136 :: x137 :: x138 :: x139 :: x140 :: x141 :: x142 :: x143 :: x144 :: x145 :: x146 :: x147 :: x148 :: x149 :: x150 :: x151 :: x152 :: x153 :: x154 :: x155 :: x156 :: x157 :: x158 :: x159 :: x160 :: x161 :: x162 :: x163 :: x164 :: x165 :: x166 :: x167 :: x168 :: []), defers := [] } W0 := by
  have HN := Lib.hid hn
  have HM := Lib.hid hm
  have HQ1 := Lib.hid hQ1
  have HH := Lib.hid hH
  have HSL := Lib.hid hsl
  have HCS := Lib.hid hC
  have HB := Lib.hid hB
  clear hn hm hQ1 hH hsl hC hB
  conv => arg 2; whnf
  go_loopw [9, 10, 12, 94] (fun _ _ _ i wr => ∃ j : Nat, j ≤ m ∧ i = .int .i64 j ∧ Hid (Below w.heap.size w wr ∧ ∀ x, x < j → carOk S.lim.length (cs.getD x default) = true)) (fun _ _ _ i _ => m - (intOf i).toNat)
  case atStart => exact ⟨0, Nat.zero_le _, rfl, Lib.hid ⟨HB.out, fun j hj => absurd hj (Nat.not_lt_zero _)⟩⟩
  case round =>
    obtain ⟨j, hj, rfl, HJ⟩ := hrel
    by_cases hlt2 : j < m
    · have hji : (j : Int) < (m : Int) := by omega
      have jl : j < cs.length := by rw [← HM.out]; exact hlt2
      obtain ⟨ad, rfl, abl, c0, c1, c2, c3, c4, T, cT, c5, hcT, HTT⟩ := (HCS.out.below HJ.out.1 (Nat.le_refl _)) j jl
      have HTR := Lib.hid HTT
      clear HTT
      have HBAD : Hid (carOk S.lim.length (cs.getD j default) = false → stE S cs = 2) := Lib.hid (fun h => stE_car HQ1.out j jl h)
      have HGO : Hid (carOk S.lim.length (cs.getD j default) = true → ∀ x, x < j + 1 → carOk S.lim.length (cs.getD x default) = true) := Lib.hid (fun h x hx => by
        by_cases hxj : x < j
        · exact HJ.out.2 x hxj
        · obtain rfl : x = j := by omega
          exact h)
      generalize cs.getD j default = c at *
      obtain ⟨cap, inn, out, start, fin, trips⟩ := c
      simp only at c0 c1 c2 c3 c4 c5 hcT HTR HBAD HGO
      have HQ : Hid (trips.length = trips.length) := Lib.hid rfl
      obtain ⟨q, hq⟩ : ∃ q, q = trips.length := ⟨_, rfl⟩
      rw [← hq] at c5 hcT
      have HQL := Lib.hid hq
      clear hq HQ
      go_upto_region 16 with fail
      have HX := Lib.hid (HJ.out.1.alloc HJ.out.1.size (.cells #[.int .i64 cap, .int .i64 inn, .int .i64 out, .int .i64 start, .int .i64 fin, .slice T q cT] 63))
      have XC := Lib.hid (Blk.new' wr #[.int .i64 cap, .int .i64 inn, .int .i64 out, .int .i64 start, .int .i64 fin, .slice T q cT] 63)
      have HTR2 := Lib.hid (HTR.out.below ((Below.refl wr.heap.size wr).alloc (Nat.le_refl _) (.cells #[.int .i64 cap, .int .i64 inn, .int .i64 out, .int .i64 start, .int .i64 fin, .slice T q cT] 63)) (Nat.le_refl _))
      generalize wr.alloc (.cells #[.int .i64 cap, .int .i64 inn, .int .i64 out, .int .i64 start, .int .i64 fin, .slice T q cT] 63) = wx at HX XC HTR2 ⊢
      generalize wr.heap.size = gc at *
      clear c0 c1 c2 c3 c4 c5 abl HTR
      have e0 := XC.out.cell 0 rfl
      have e1 := XC.out.cell 1 rfl
      have e2 := XC.out.cell 2 rfl
      have e3 := XC.out.cell 3 rfl
      have e4 := XC.out.cell 4 rfl
      have e5 := XC.out.cell 5 rfl
      have gcl := XC.out.lt
      by_cases r1 : cap < 1
      · have EE := Lib.hid (HBAD.out (carOk_head (by simp [carHead]; omega)))
        go_wp2_with fail
        go_ret
        exact ⟨ret_int EE.out.symm, HX.out⟩
      have HY1 := Lib.hid (HX.out.alloc HX.out.size (.cells #[.int .i64 cap, .int .i64 inn, .int .i64 out] 2))
      have HY2 := Lib.hid (HY1.out.alloc HY1.out.size (.cells #[.int .i64 start, .int .i64 fin] 2))
      by_cases r2 : (0 ≤ cap ∧ cap ≤ 1048576) ∧ (0 ≤ inn ∧ inn ≤ 1048576) ∧ (0 ≤ out ∧ out ≤ 1048576)
      · have U3 := upTo3_c wx.heap.size _ true (decide_eq_true r2).symm (Blk.new' wx #[.int .i64 cap, .int .i64 inn, .int .i64 out] 2)
        have RR2 := Lib.hid r2
        clear r2
        by_cases r3 : (0 ≤ start ∧ start ≤ cap) ∧ (0 ≤ fin ∧ fin ≤ cap)
        · have U2 := upTo2_c (wx.heap.size + 1) _ true (decide_eq_true r3).symm (by simpa using Blk.new' (wx.alloc (.cells #[.int .i64 cap, .int .i64 inn, .int .i64 out] 2)) #[.int .i64 start, .int .i64 fin] 2)
          have RR3 := Lib.hid r3
          clear r3
          by_cases r4 : 4 < q
          · have r4i : (4 : Int) < (q : Int) := by omega
            have EE := Lib.hid (HBAD.out (carOk_head (by simp [carHead]; have := HQL.out; omega)))
            go_wp2_with fail
            refine U3.mono ?_
            rintro e w3 ⟨rfl, rfl⟩
            go_wp2_with fail
            refine U2.mono ?_
            rintro e w3 ⟨rfl, rfl⟩
            go_wp2_with fail
            go_ret
            exact ⟨ret_int EE.out.symm, HY2.out⟩
          · have r4i : ¬ (4 : Int) < (q : Int) := by omega
            have HHD : Hid (carHead ⟨cap, inn, out, start, fin, trips⟩ = true) := Lib.hid (by simp [carHead]; have := RR2.out; have := RR3.out; have := HQL.out; omega)
            have XC2 := Lib.hid ((Blk.alloc (Blk.alloc XC.out (.cells #[.int .i64 cap, .int .i64 inn, .int .i64 out] 2)) (.cells #[.int .i64 start, .int .i64 fin] 2)))
            have BXX := (((Below.refl wx.heap.size wx).alloc (Nat.le_refl _) (.cells #[.int .i64 cap, .int .i64 inn, .int .i64 out] 2))).alloc (by simp) (.cells #[.int .i64 start, .int .i64 fin] 2)
            have HTR3 := Lib.hid (HTR2.out.below BXX (Nat.le_refl _))
            clear BXX
            go_wp2_with fail
            refine U3.mono ?_
            rintro e w3 ⟨rfl, rfl⟩
            go_wp2_with fail
            refine U2.mono ?_
            rintro e w3 ⟨rfl, rfl⟩
            go_upto_region 18 with fail
            generalize ((wx.alloc (.cells #[.int .i64 cap, .int .i64 inn, .int .i64 out] 2)).alloc (.cells #[.int .i64 start, .int .i64 fin] 2)) = wy at HY2 XC2 HTR3 ⊢
            clear U3 U2 e0 e1 e2 e3 e4 e5 gcl HY1 HX XC HTR2
            have e5 := XC2.out.cell 5 rfl
            go_wp2_with fail
            clear e5
            go_loopw [10, 12, 134] (fun bk _ i wr => ∃ k : Nat, k ≤ q ∧ i = .int .i64 k ∧ bk = .int .i64 (backAt trips k) ∧ Hid (Below w.heap.size w wr ∧ Blk wr gc 63 [.int .i64 cap, .int .i64 inn, .int .i64 out, .int .i64 start, .int .i64 fin, .slice T q cT] ∧ TripsAt wr T trips ∧ ∀ x, x < k → tripOk cap S.lim.length trips x = true)) (fun _ _ i _ => q - (intOf i).toNat)
            case atStart => exact ⟨0, Nat.zero_le _, rfl, rfl, Lib.hid ⟨HY2.out, XC2.out, HTR3.out, fun j hj => absurd hj (Nat.not_lt_zero _)⟩⟩
            case round =>
              obtain ⟨k, hk, rfl, rfl, HK⟩ := hrel
              by_cases hlt3 : k < q
              · have hki : (k : Int) < (q : Int) := by omega
                have kl : k < trips.length := by rw [← HQL.out]; exact hlt3
                obtain ⟨td, rfl, tbl, t0, t1, t2⟩ := HK.out.2.2.1 k kl
                have HOK := Lib.hid (show tripOk cap S.lim.length trips k = decide (backAt trips k ≤ (trips.getD k default).fr ∧ (trips.getD k default).fr < (trips.getD k default).to ∧ (trips.getD k default).to ≤ S.lim.length ∧ (0 ≤ (trips.getD k default).use ∧ (trips.getD k default).use ≤ cap)) from rfl)
                have HBK := Lib.hid (show backAt trips (k + 1) = (trips.getD k default).to from rfl)
                have HBD : Hid (tripOk cap S.lim.length trips k = false → stE S cs = 2) := Lib.hid (fun h => HBAD.out (carOk_trip (c := ⟨cap, inn, out, start, fin, trips⟩) k kl h))
                rw [← HN.out] at HOK
                generalize trips.getD k default = tr at *
                obtain ⟨fr, «to», us⟩ := tr
                simp only at t0 t1 t2 HOK HBK
                generalize hbk : backAt trips k = bk at *
                clear hbk
                go_upto_region 22 with fail
                have HZ := Lib.hid (HK.out.1.alloc HK.out.1.size (.cells #[.int .i64 fr, .int .i64 «to», .int .i64 us] 65))
                have ZC := Lib.hid (Blk.alloc HK.out.2.1 (.cells #[.int .i64 fr, .int .i64 «to», .int .i64 us] 65))
                have ZT := Lib.hid (Blk.new' wr #[.int .i64 fr, .int .i64 «to», .int .i64 us] 65)
                have ZTR := Lib.hid (HK.out.2.2.1.below ((Below.refl wr.heap.size wr).alloc (Nat.le_refl _) (.cells #[.int .i64 fr, .int .i64 «to», .int .i64 us] 65)) (Nat.le_refl _))
                generalize wr.alloc (.cells #[.int .i64 fr, .int .i64 «to», .int .i64 us] 65) = wz at HZ ZC ZT ZTR ⊢
                generalize wr.heap.size = gt at *
                clear t0 t1 t2 tbl
                have f0 := ZT.out.cell 0 rfl
                have f1 := ZT.out.cell 1 rfl
                have f2 := ZT.out.cell 2 rfl
                have e0 := ZC.out.cell 0 rfl
                have gtl := ZT.out.lt
                by_cases s1 : fr < bk
                · have EE := Lib.hid (HBD.out (by rw [← HN.out, HOK.out]; exact decide_eq_false (fun h => by omega)))
                  go_wp2_with fail
                  go_ret
                  exact ⟨ret_int EE.out.symm, HZ.out⟩
                by_cases s2 : «to» ≤ fr
                · have EE := Lib.hid (HBD.out (by rw [← HN.out, HOK.out]; exact decide_eq_false (fun h => by omega)))
                  go_wp2_with fail
                  go_ret
                  exact ⟨ret_int EE.out.symm, HZ.out⟩
                by_cases s3 : (n : Int) < «to»
                · have EE := Lib.hid (HBD.out (by rw [← HN.out, HOK.out]; exact decide_eq_false (fun h => by omega)))
                  go_wp2_with fail
                  go_ret
                  exact ⟨ret_int EE.out.symm, HZ.out⟩
                have HU1 := Lib.hid (HZ.out.alloc HZ.out.size (.cells #[.int .i64 us] 2))
                by_cases s4 : 0 ≤ us ∧ us ≤ cap
                · have U1 := upTo1_c wz.heap.size _ true (decide_eq_true s4).symm (Blk.new' wz #[.int .i64 us] 2)
                  have SS := Lib.hid (show tripOk cap S.lim.length trips k = true from by rw [← HN.out, HOK.out]; exact decide_eq_true (by omega))
                  clear s4
                  have BZ := (Below.refl wz.heap.size wz).alloc (Nat.le_refl _) (.cells #[.int .i64 us] 2)
                  have ZC2 := Lib.hid (ZC.out.alloc (.cells #[.int .i64 us] 2))
                  have ZTR2 := Lib.hid (ZTR.out.below BZ (Nat.le_refl _))
                  have f1b := (ZT.out.alloc (.cells #[.int .i64 us] 2)).cell 1 rfl
                  clear BZ
                  go_upto_region 24 with (go_at_call 78; refine U1.mono ?_; rintro e w3 ⟨rfl, rfl⟩)
                  generalize wz.alloc (.cells #[.int .i64 us] 2) = wq at HU1 ZC2 ZTR2 f1b ⊢
                  clear f0 f1 f2 e0 gtl U1 s1 s2 s3
                  go_wp2_with fail
                  refine ⟨⟨k + 1, by omega, by go_num, by rw [HBK.out], Lib.hid ⟨HU1.out, ZC2.out, ZTR2.out, fun x hx => ?_⟩⟩, by simp [intOf]; omega⟩
                  by_cases hxk : x < k
                  · exact HK.out.2.2.2 x hxk
                  · obtain rfl : x = k := by omega
                    exact SS.out
                · have U1 := upTo1_c wz.heap.size _ false (decide_eq_false s4).symm (Blk.new' wz #[.int .i64 us] 2)
                  have EE := Lib.hid (HBD.out (by rw [← HN.out, HOK.out]; exact decide_eq_false (fun h => by omega)))
                  clear s4
                  go_wp2_with (go_at_call 78; refine U1.mono ?_; rintro e w3 ⟨rfl, rfl⟩)
                  go_ret
                  exact ⟨ret_int EE.out.symm, HU1.out⟩
              · obtain rfl : k = q := by omega
                have HCK := Lib.hid (HGO.out (carOk_ok (c := ⟨cap, inn, out, start, fin, trips⟩) HHD.out (fun x hx => HK.out.2.2.2 x (by rw [HQL.out]; exact hx))))
                go_wp2_with fail
                exact ⟨⟨j + 1, by omega, by go_num, Lib.hid ⟨HK.out.1, HCK.out⟩⟩, by simp [intOf]; omega⟩
        · have U2 := upTo2_c (wx.heap.size + 1) _ false (decide_eq_false r3).symm (by simpa using Blk.new' (wx.alloc (.cells #[.int .i64 cap, .int .i64 inn, .int .i64 out] 2)) #[.int .i64 start, .int .i64 fin] 2)
          have EE := Lib.hid (HBAD.out (carOk_head (by simp [carHead]; omega)))
          clear r3
          go_wp2_with fail
          refine U3.mono ?_
          rintro e w3 ⟨rfl, rfl⟩
          go_wp2_with fail
          refine U2.mono ?_
          rintro e w3 ⟨rfl, rfl⟩
          go_wp2_with fail
          go_ret
          exact ⟨ret_int EE.out.symm, HY2.out⟩
      · have U3 := upTo3_c wx.heap.size _ false (decide_eq_false r2).symm (Blk.new' wx #[.int .i64 cap, .int .i64 inn, .int .i64 out] 2)
        have EE := Lib.hid (HBAD.out (carOk_head (by simp [carHead]; omega)))
        clear r2
        go_wp2_with (go_at_call 78; refine U3.mono ?_; rintro e w3 ⟨rfl, rfl⟩)
        go_ret
        exact ⟨ret_int EE.out.symm, HY1.out⟩
    · obtain rfl : j = m := by omega
      have EE := Lib.hid (stE_ok (S := S) (cs := cs) HQ1.out HH.out (fun t ht => HSL.out t ht) (fun i hi => HJ.out.2 i (by rw [HM.out]; exact hi)))
      go_wp2_with fail
      conv => arg 2; whnf
      go_wp2_with fail
      go_ret
      exact ⟨ret_int EE.out.symm, HJ.out.1⟩
end Go.Proofs.Ytmebpglkeedaoaa
namespace Go.Proofs.Ytmebpglkeedaoaa
open Go.RowKit Dp
set_option maxHeartbeats 8000000 in
set_option maxRecDepth 100000 in
theorem CheckSite_c (A B C D E : Option Addr) (S : Site) (cs : List Car) (n nB nC nD m cA cB cC cD cE : Nat) (w : World) (hn : n = S.lim.length) (hnB : nB = S.exp.length) (hnC : nC = S.buy.length) (hnD : nD = S.sell.length) (hm : m = cs.length)
    (hA : n ≤ cA ∧ cA ≤ 9223372036854775807) (hB : nB ≤ cB ∧ cB ≤ 9223372036854775807) (hC : nC ≤ cC ∧ cC ≤ 9223372036854775807) (hD : nD ≤ cD ∧ cD ≤ 9223372036854775807) (hE : m ≤ cE ∧ cE ≤ 9223372036854775807)
    (hS : SiteAt w A B C D S) (hcs : CarsAt w E cs) :
    Calls Try.prog 36 #[.agg #[.slice A n cA, .slice B nB cB, .slice C nC cC, .slice D nD cD], .slice E m cE] w fun e w' => e = .returned (.int .i64 (stE S cs)) ∧ Below w.heap.size w w' := by
  have HN := Lib.hid hn
  have HNB := Lib.hid hnB
  have HNC := Lib.hid hnC
  have HND := Lib.hid hnD
  have HM := Lib.hid hm
  have HS := Lib.hid hS
  have HCS := Lib.hid hcs
  clear hn hnB hnC hnD hm hS hcs
  have X := Lib.hid (Blk.new' w #[.slice A n cA, .slice B nB cB, .slice C nC cC, .slice D nD cD] 51)
  have HB := Lib.hid ((Below.refl w.heap.size w).alloc (Nat.le_refl _) (.cells #[.slice A n cA, .slice B nB cB, .slice C nC cC, .slice D nD cD] 51))
  go_enter Try.func36, Try.ntmps36
  go_upto_region 1 with fail
  generalize w.alloc (.cells #[.slice A n cA, .slice B nB cB, .slice C nC cC, .slice D nD cD] 51) = w1 at X HB ⊢
  by_cases q1 : 8 < m
  · have q1i : (8 : Int) < (m : Int) := by omega
    have EE := Lib.hid (stE_many (S := S) (cs := cs) (by rw [← HM.out]; exact q1))
    go_wp2_with fail
    go_ret
    exact ⟨ret_int EE.out.symm, HB.out⟩
  have q1i : ¬ (8 : Int) < (m : Int) := by omega
  have HQ1 : Hid (¬ 8 < cs.length) := Lib.hid (by rw [← HM.out]; exact q1)
  have x0 := X.out.cell 0 rfl
  have x1 := X.out.cell 1 rfl
  have x2 := X.out.cell 2 rfl
  have x3 := X.out.cell 3 rfl
  by_cases q2 : n < 1
  · have q2i : (n : Int) < 1 := by omega
    have EE := Lib.hid (stE_head (S := S) (cs := cs) HQ1.out (by simp [siteHead, ← HN.out, ← HNB.out, ← HNC.out, ← HND.out]; omega))
    go_wp2_with fail
    go_ret
    exact ⟨ret_int EE.out.symm, HB.out⟩
  have q2i : ¬ (n : Int) < 1 := by omega
  by_cases q3 : 48 < n
  · have q3i : (48 : Int) < (n : Int) := by omega
    have EE := Lib.hid (stE_head (S := S) (cs := cs) HQ1.out (by simp [siteHead, ← HN.out, ← HNB.out, ← HNC.out, ← HND.out]; omega))
    go_wp2_with fail
    go_ret
    exact ⟨ret_int EE.out.symm, HB.out⟩
  have q3i : ¬ (48 : Int) < (n : Int) := by omega
  by_cases q4 : nB ≠ n
  · have q4i : ¬ (nB : Int) = (n : Int) := by omega
    have q4b : ((nB : Int) == (n : Int)) = false := by simpa using q4i
    have EE := Lib.hid (stE_head (S := S) (cs := cs) HQ1.out (by simp [siteHead, ← HN.out, ← HNB.out, ← HNC.out, ← HND.out]; omega))
    go_wp2_with fail
    go_ret
    exact ⟨ret_int EE.out.symm, HB.out⟩
  obtain rfl : n = nB := by omega
  by_cases q5 : nC ≠ n
  · have q5i : ¬ (nC : Int) = (n : Int) := by omega
    have q5b : ((nC : Int) == (n : Int)) = false := by simpa using q5i
    have EE := Lib.hid (stE_head (S := S) (cs := cs) HQ1.out (by simp [siteHead, ← HN.out, ← HNB.out, ← HNC.out, ← HND.out]; omega))
    go_wp2_with fail
    go_ret
    exact ⟨ret_int EE.out.symm, HB.out⟩
  obtain rfl : n = nC := by omega
  by_cases q6 : nD ≠ n
  · have q6i : ¬ (nD : Int) = (n : Int) := by omega
    have q6b : ((nD : Int) == (n : Int)) = false := by simpa using q6i
    have EE := Lib.hid (stE_head (S := S) (cs := cs) HQ1.out (by simp [siteHead, ← HN.out, ← HNB.out, ← HNC.out, ← HND.out]; omega))
    go_wp2_with fail
    go_ret
    exact ⟨ret_int EE.out.symm, HB.out⟩
  obtain rfl : n = nD := by omega
  have HH : Hid (siteHead S = true) := Lib.hid (by simp [siteHead, ← HN.out, ← HNB.out, ← HNC.out, ← HND.out]; omega)
  go_wp2_with fail
  clear x0 x1 x2 x3
  go_loopw [7, 47] (fun _ i wr => ∃ t : Nat, t ≤ n ∧ i = .int .i64 t ∧ Hid (Below w.heap.size w wr ∧ Blk wr w.heap.size 51 [.slice A n cA, .slice B n cB, .slice C n cC, .slice D n cD] ∧ ∀ j, j < t → slotOk S j = true)) (fun _ i _ => n - (intOf i).toNat)
  case atStart => exact ⟨0, Nat.zero_le _, rfl, Lib.hid ⟨HB.out, X.out, fun j hj => absurd hj (Nat.not_lt_zero _)⟩⟩
  case round =>
    obtain ⟨t, ht, rfl, HW⟩ := hrel
    by_cases hlt : t < n
    · have hti : (t : Int) < (n : Int) := by omega
      have hcA := hA.1
      have tA : t < S.lim.length := by rw [← HN.out]; exact hlt
      obtain ⟨aL, rfl, aLb, aLc⟩ := HS.out.1 t tA
      obtain ⟨aE, rfl, aEb, aEc⟩ := HS.out.2.1 t (by rw [← HNB.out]; exact hlt)
      obtain ⟨aB, rfl, aBb, aBc⟩ := HS.out.2.2.1 t (by rw [← HNC.out]; exact hlt)
      obtain ⟨aS, rfl, aSb, aSc⟩ := HS.out.2.2.2 t (by rw [← HND.out]; exact hlt)
      have HV : Hid (∀ V, Below w.heap.size w V → (V.cell? (aL.add t) = some (.int .i64 (S.lim.getD t 0)) ∧ (aL.add t).block < V.heap.size) ∧ (V.cell? (aE.add t) = some (.int .i64 (S.exp.getD t 0)) ∧ (aE.add t).block < V.heap.size) ∧ (V.cell? (aB.add t) = some (.int .i64 (S.buy.getD t 0)) ∧ (aB.add t).block < V.heap.size) ∧ (V.cell? (aS.add t) = some (.int .i64 (S.sell.getD t 0)) ∧ (aS.add t).block < V.heap.size)) := Lib.hid (fun V hV => by
        have k := hV.size
        exact ⟨⟨(hV.cell (by rw [block_add]; exact aLb)).trans aLc, by rw [block_add]; omega⟩, ⟨(hV.cell (by rw [block_add]; exact aEb)).trans aEc, by rw [block_add]; omega⟩, ⟨(hV.cell (by rw [block_add]; exact aBb)).trans aBc, by rw [block_add]; omega⟩, ⟨(hV.cell (by rw [block_add]; exact aSb)).trans aSc, by rw [block_add]; omega⟩⟩)
      clear aLc aEc aBc aSc aLb aEb aBb aSb
      have HSO := Lib.hid (show slotOk S t = decide ((0 ≤ S.lim.getD t 0 ∧ S.lim.getD t 0 ≤ 1048576) ∧ (0 ≤ S.exp.getD t 0 ∧ S.exp.getD t 0 ≤ 1048576) ∧ (0 ≤ S.buy.getD t 0 ∧ S.buy.getD t 0 ≤ 1048576) ∧ (0 ≤ S.sell.getD t 0 ∧ S.sell.getD t 0 ≤ S.buy.getD t 0)) from rfl)
      generalize S.lim.getD t 0 = l at *
      generalize S.exp.getD t 0 = e at *
      generalize S.buy.getD t 0 = b at *
      generalize S.sell.getD t 0 = s at *
      go_upto_region 10 with fail
      by_cases k1 : (0 ≤ l ∧ l ≤ 1048576) ∧ (0 ≤ e ∧ e ≤ 1048576)
      · have HC1 : Hid (true = decide ((0 ≤ l ∧ l ≤ 1048576) ∧ (0 ≤ e ∧ e ≤ 1048576))) := Lib.hid (decide_eq_true k1).symm
        by_cases k2 : 0 ≤ b ∧ b ≤ 1048576
        · have HC2 : Hid (true = decide (0 ≤ b ∧ b ≤ 1048576)) := Lib.hid (decide_eq_true k2).symm
          by_cases k3 : 0 ≤ s ∧ s ≤ b
          · have HC3 : Hid (true = decide (0 ≤ s ∧ s ≤ b)) := Lib.hid (decide_eq_true k3).symm
            have HK := Lib.hid (And.intro k1 (And.intro k2 k3))
            clear k1 k2 k3
            refine wp_region_priv 41 [.q, .q, .q, .q, .q, .q, .q, .q, .q, .q, .q, .p, .c 11 61, .q, .q, .q, .q, .q, .q, .q, .q, .p, .c 21 71, .q, .q, .q, .q, .q, .q, .q, .q, .q, .q, .q, .q, .q, .q, .p, .c 37 87, .q, .q] (fun n => (if n = 37 then (.cells #[.int .i64 s] 2, fun b => .slice (some ⟨b, 0, none⟩) 1 1) else (if n = 21 then (.cells #[.int .i64 b] 2, fun b => .slice (some ⟨b, 0, none⟩) 1 1) else (if n = 11 then (.cells #[.int .i64 l, .int .i64 e] 2, fun b => .slice (some ⟨b, 0, none⟩) 2 2) else (.cells #[] 2, fun b => .slice (some ⟨b, 0, none⟩) 0 0))))) ?afA (by kernel_rfl) (by kernel_rfl) ?walkA ?tailA
            case walkA =>
              intro V hV
              have XV := HW.out.2.1.below hV HW.out.2.1.lt
              obtain ⟨⟨vl, vlb⟩, ⟨ve, veb⟩, ⟨vb, vbb⟩, ⟨vs, vsb⟩⟩ := HV.out V (HW.out.1.trans (hV.mono HW.out.1.size))
              have x0 := XV.cell 0 rfl
              have x1 := XV.cell 1 rfl
              have x2 := XV.cell 2 rfl
              have x3 := XV.cell 3 rfl
              have xlt := XV.lt
              clear XV hV
              simp only [List.take_succ_cons, List.take_zero]
              repeat (with_reducible refine wpP_q ?_; go_big_quiet_step (fail); with_reducible refine wpQuiet_nil ?_)
              refine wpP_p (by kernel_rfl) (fun _ => by kernel_rfl) ?_
              (try simp only [Act.put, List.setIfInBounds_toArray, List.set_cons_zero, List.set_cons_succ])
              refine wpP_c (.bool true) (fun V' g' hV' hg' => ?_) ?_
              · (try simp only [Act.put, List.setIfInBounds_toArray, List.set_cons_zero, List.set_cons_succ])
                have hbb : Blk V' g' 2 [.int .i64 l, .int .i64 e] := hg'
                have zz := hbb.lt
                go_big_quiet_step ((go_at_call 78; exact past_same (upTo2_c g' _ _ HC1.out (hbb.below (Past.far _) hbb.lt))))
                refine wpQuiet_nil ?_
                rfl
              (try simp only [Act.put, List.setIfInBounds_toArray, List.set_cons_zero, List.set_cons_succ])
              repeat (with_reducible refine wpP_q ?_; go_big_quiet_step (fail); with_reducible refine wpQuiet_nil ?_)
              refine wpP_p (by kernel_rfl) (fun _ => by kernel_rfl) ?_
              (try simp only [Act.put, List.setIfInBounds_toArray, List.set_cons_zero, List.set_cons_succ])
              refine wpP_c (.bool true) (fun V' g' hV' hg' => ?_) ?_
              · (try simp only [Act.put, List.setIfInBounds_toArray, List.set_cons_zero, List.set_cons_succ])
                have hbb : Blk V' g' 2 [.int .i64 b] := hg'
                have zz := hbb.lt
                go_big_quiet_step ((go_at_call 78; exact past_same (upTo1_c g' _ _ HC2.out (hbb.below (Past.far _) hbb.lt))))
                refine wpQuiet_nil ?_
                rfl
              (try simp only [Act.put, List.setIfInBounds_toArray, List.set_cons_zero, List.set_cons_succ])
              repeat (with_reducible refine wpP_q ?_; go_big_quiet_step (fail); with_reducible refine wpQuiet_nil ?_)
              refine wpP_p (by kernel_rfl) (fun _ => by kernel_rfl) ?_
              (try simp only [Act.put, List.setIfInBounds_toArray, List.set_cons_zero, List.set_cons_succ])
              refine wpP_c (.bool true) (fun V' g' hV' hg' => ?_) ?_
              · (try simp only [Act.put, List.setIfInBounds_toArray, List.set_cons_zero, List.set_cons_succ])
                have hbb : Blk V' g' 2 [.int .i64 s] := hg'
                have zz := hbb.lt
                go_big_quiet_step ((go_at_call 78; exact past_same (upTo1_c g' _ _ HC3.out (hbb.below (Past.far _) hbb.lt))))
                refine wpQuiet_nil ?_
                rfl
              (try simp only [Act.put, List.setIfInBounds_toArray, List.set_cons_zero, List.set_cons_succ])
              repeat (with_reducible refine wpP_q ?_; go_big_quiet_step (fail); with_reducible refine wpQuiet_nil ?_)
              with_reducible refine wpP_nil ?_
              rfl
            intro gs w3 hb3 _ _
            have HB3 := Lib.hid (HW.out.1.trans (hb3.mono HW.out.1.size))
            have XB3 := Lib.hid (HW.out.2.1.below hb3 HW.out.2.1.lt)
            clear hb3
            simp only [List.drop_succ_cons, List.drop_zero, List.take_succ_cons, List.take_zero, fillP]
            (try simp only [Act.put, List.setIfInBounds_toArray, List.set_cons_zero, List.set_cons_succ])
            go_wp2_with fail
            refine ⟨⟨t + 1, by omega, by go_num, Lib.hid ⟨HB3.out, XB3.out, fun j hj => ?_⟩⟩, by simp [intOf]; omega⟩
            by_cases hjt : j < t
            · exact HW.out.2.2 j hjt
            · obtain rfl : j = t := by omega
              rw [HSO.out]; exact decide_eq_true (by have := HK.out; omega)
          · have HC3 : Hid (false = decide (0 ≤ s ∧ s ≤ b)) := Lib.hid (decide_eq_false k3).symm
            have EE := Lib.hid (stE_slot (S := S) (cs := cs) HQ1.out t tA (by rw [HSO.out]; exact decide_eq_false (fun h => by omega)))
            clear k1 k2 k3
            refine wp_region_priv 41 [.q, .q, .q, .q, .q, .q, .q, .q, .q, .q, .q, .p, .c 11 61, .q, .q, .q, .q, .q, .q, .q, .q, .p, .c 21 71, .q, .q, .q, .q, .q, .q, .q, .q, .q, .q, .q, .q, .q, .q, .p, .c 37 87, .q, .q] (fun n => (if n = 37 then (.cells #[.int .i64 s] 2, fun b => .slice (some ⟨b, 0, none⟩) 1 1) else (if n = 21 then (.cells #[.int .i64 b] 2, fun b => .slice (some ⟨b, 0, none⟩) 1 1) else (if n = 11 then (.cells #[.int .i64 l, .int .i64 e] 2, fun b => .slice (some ⟨b, 0, none⟩) 2 2) else (.cells #[] 2, fun b => .slice (some ⟨b, 0, none⟩) 0 0))))) ?afB (by kernel_rfl) (by kernel_rfl) ?walkB ?tailB
            case walkB =>
              intro V hV
              have XV := HW.out.2.1.below hV HW.out.2.1.lt
              obtain ⟨⟨vl, vlb⟩, ⟨ve, veb⟩, ⟨vb, vbb⟩, ⟨vs, vsb⟩⟩ := HV.out V (HW.out.1.trans (hV.mono HW.out.1.size))
              have x0 := XV.cell 0 rfl
              have x1 := XV.cell 1 rfl
              have x2 := XV.cell 2 rfl
              have x3 := XV.cell 3 rfl
              have xlt := XV.lt
              clear XV hV
              simp only [List.take_succ_cons, List.take_zero]
              repeat (with_reducible refine wpP_q ?_; go_big_quiet_step (fail); with_reducible refine wpQuiet_nil ?_)
              refine wpP_p (by kernel_rfl) (fun _ => by kernel_rfl) ?_
              (try simp only [Act.put, List.setIfInBounds_toArray, List.set_cons_zero, List.set_cons_succ])
              refine wpP_c (.bool true) (fun V' g' hV' hg' => ?_) ?_
              · (try simp only [Act.put, List.setIfInBounds_toArray, List.set_cons_zero, List.set_cons_succ])
                have hbb : Blk V' g' 2 [.int .i64 l, .int .i64 e] := hg'
                have zz := hbb.lt
                go_big_quiet_step ((go_at_call 78; exact past_same (upTo2_c g' _ _ HC1.out (hbb.below (Past.far _) hbb.lt))))
                refine wpQuiet_nil ?_
                rfl
              (try simp only [Act.put, List.setIfInBounds_toArray, List.set_cons_zero, List.set_cons_succ])
              repeat (with_reducible refine wpP_q ?_; go_big_quiet_step (fail); with_reducible refine wpQuiet_nil ?_)
              refine wpP_p (by kernel_rfl) (fun _ => by kernel_rfl) ?_
              (try simp only [Act.put, List.setIfInBounds_toArray, List.set_cons_zero, List.set_cons_succ])
              refine wpP_c (.bool true) (fun V' g' hV' hg' => ?_) ?_
              · (try simp only [Act.put, List.setIfInBounds_toArray, List.set_cons_zero, List.set_cons_succ])
                have hbb : Blk V' g' 2 [.int .i64 b] := hg'
                have zz := hbb.lt
                go_big_quiet_step ((go_at_call 78; exact past_same (upTo1_c g' _ _ HC2.out (hbb.below (Past.far _) hbb.lt))))
                refine wpQuiet_nil ?_
                rfl
              (try simp only [Act.put, List.setIfInBounds_toArray, List.set_cons_zero, List.set_cons_succ])
              repeat (with_reducible refine wpP_q ?_; go_big_quiet_step (fail); with_reducible refine wpQuiet_nil ?_)
              refine wpP_p (by kernel_rfl) (fun _ => by kernel_rfl) ?_
              (try simp only [Act.put, List.setIfInBounds_toArray, List.set_cons_zero, List.set_cons_succ])
              refine wpP_c (.bool false) (fun V' g' hV' hg' => ?_) ?_
              · (try simp only [Act.put, List.setIfInBounds_toArray, List.set_cons_zero, List.set_cons_succ])
                have hbb : Blk V' g' 2 [.int .i64 s] := hg'
                have zz := hbb.lt
                go_big_quiet_step ((go_at_call 78; exact past_same (upTo1_c g' _ _ HC3.out (hbb.below (Past.far _) hbb.lt))))
                refine wpQuiet_nil ?_
                rfl
              (try simp only [Act.put, List.setIfInBounds_toArray, List.set_cons_zero, List.set_cons_succ])
              repeat (with_reducible refine wpP_q ?_; go_big_quiet_step (fail); with_reducible refine wpQuiet_nil ?_)
              with_reducible refine wpP_nil ?_
              rfl
            intro gs w3 hb3 _ _
            have HB3 := Lib.hid (HW.out.1.trans (hb3.mono HW.out.1.size))
            have XB3 := Lib.hid (HW.out.2.1.below hb3 HW.out.2.1.lt)
            clear hb3
            simp only [List.drop_succ_cons, List.drop_zero, List.take_succ_cons, List.take_zero, fillP]
            (try simp only [Act.put, List.setIfInBounds_toArray, List.set_cons_zero, List.set_cons_succ])
            go_wp2_with fail
            go_ret
            exact ⟨ret_int EE.out.symm, HB3.out⟩
        · have HC2 : Hid (false = decide (0 ≤ b ∧ b ≤ 1048576)) := Lib.hid (decide_eq_false k2).symm
          have EE := Lib.hid (stE_slot (S := S) (cs := cs) HQ1.out t tA (by rw [HSO.out]; exact decide_eq_false (fun h => by omega)))
          clear k1 k2
          refine wp_region_priv 41 [.q, .q, .q, .q, .q, .q, .q, .q, .q, .q, .q, .p, .c 11 61, .q, .q, .q, .q, .q, .q, .q, .q, .p, .c 21 71, .q, .q, .q, .q, .q, .q, .q, .q, .q, .q, .q, .q, .q, .q, .q, .q, .q, .q] (fun n => (if n = 21 then (.cells #[.int .i64 b] 2, fun b => .slice (some ⟨b, 0, none⟩) 1 1) else (if n = 11 then (.cells #[.int .i64 l, .int .i64 e] 2, fun b => .slice (some ⟨b, 0, none⟩) 2 2) else (.cells #[] 2, fun b => .slice (some ⟨b, 0, none⟩) 0 0)))) ?afC (by kernel_rfl) (by kernel_rfl) ?walkC ?tailC
          case walkC =>
            intro V hV
            have XV := HW.out.2.1.below hV HW.out.2.1.lt
            obtain ⟨⟨vl, vlb⟩, ⟨ve, veb⟩, ⟨vb, vbb⟩, ⟨vs, vsb⟩⟩ := HV.out V (HW.out.1.trans (hV.mono HW.out.1.size))
            have x0 := XV.cell 0 rfl
            have x1 := XV.cell 1 rfl
            have x2 := XV.cell 2 rfl
            have x3 := XV.cell 3 rfl
            have xlt := XV.lt
            clear XV hV
            simp only [List.take_succ_cons, List.take_zero]
            repeat (with_reducible refine wpP_q ?_; go_big_quiet_step (fail); with_reducible refine wpQuiet_nil ?_)
            refine wpP_p (by kernel_rfl) (fun _ => by kernel_rfl) ?_
            (try simp only [Act.put, List.setIfInBounds_toArray, List.set_cons_zero, List.set_cons_succ])
            refine wpP_c (.bool true) (fun V' g' hV' hg' => ?_) ?_
            · (try simp only [Act.put, List.setIfInBounds_toArray, List.set_cons_zero, List.set_cons_succ])
              have hbb : Blk V' g' 2 [.int .i64 l, .int .i64 e] := hg'
              have zz := hbb.lt
              go_big_quiet_step ((go_at_call 78; exact past_same (upTo2_c g' _ _ HC1.out (hbb.below (Past.far _) hbb.lt))))
              refine wpQuiet_nil ?_
              rfl
            (try simp only [Act.put, List.setIfInBounds_toArray, List.set_cons_zero, List.set_cons_succ])
            repeat (with_reducible refine wpP_q ?_; go_big_quiet_step (fail); with_reducible refine wpQuiet_nil ?_)
            refine wpP_p (by kernel_rfl) (fun _ => by kernel_rfl) ?_
            (try simp only [Act.put, List.setIfInBounds_toArray, List.set_cons_zero, List.set_cons_succ])
            refine wpP_c (.bool false) (fun V' g' hV' hg' => ?_) ?_
            · (try simp only [Act.put, List.setIfInBounds_toArray, List.set_cons_zero, List.set_cons_succ])
              have hbb : Blk V' g' 2 [.int .i64 b] := hg'
              have zz := hbb.lt
              go_big_quiet_step ((go_at_call 78; exact past_same (upTo1_c g' _ _ HC2.out (hbb.below (Past.far _) hbb.lt))))
              refine wpQuiet_nil ?_
              rfl
            (try simp only [Act.put, List.setIfInBounds_toArray, List.set_cons_zero, List.set_cons_succ])
            repeat (with_reducible refine wpP_q ?_; go_big_quiet_step (fail); with_reducible refine wpQuiet_nil ?_)
            with_reducible refine wpP_nil ?_
            rfl
          intro gs w3 hb3 _ _
          have HB3 := Lib.hid (HW.out.1.trans (hb3.mono HW.out.1.size))
          have XB3 := Lib.hid (HW.out.2.1.below hb3 HW.out.2.1.lt)
          clear hb3
          simp only [List.drop_succ_cons, List.drop_zero, List.take_succ_cons, List.take_zero, fillP]
          (try simp only [Act.put, List.setIfInBounds_toArray, List.set_cons_zero, List.set_cons_succ])
          go_wp2_with fail
          go_ret
          exact ⟨ret_int EE.out.symm, HB3.out⟩
      · have HC1 : Hid (false = decide ((0 ≤ l ∧ l ≤ 1048576) ∧ (0 ≤ e ∧ e ≤ 1048576))) := Lib.hid (decide_eq_false k1).symm
        have EE := Lib.hid (stE_slot (S := S) (cs := cs) HQ1.out t tA (by rw [HSO.out]; exact decide_eq_false (fun h => by omega)))
        clear k1
        refine wp_region_priv 41 [.q, .q, .q, .q, .q, .q, .q, .q, .q, .q, .q, .p, .c 11 61, .q, .q, .q, .q, .q, .q, .q, .q, .q, .q, .q, .q, .q, .q, .q, .q, .q, .q, .q, .q, .q, .q, .q, .q, .q, .q, .q, .q] (fun n => (if n = 11 then (.cells #[.int .i64 l, .int .i64 e] 2, fun b => .slice (some ⟨b, 0, none⟩) 2 2) else (.cells #[] 2, fun b => .slice (some ⟨b, 0, none⟩) 0 0))) ?afD (by kernel_rfl) (by kernel_rfl) ?walkD ?tailD
        case walkD =>
          intro V hV
          have XV := HW.out.2.1.below hV HW.out.2.1.lt
          obtain ⟨⟨vl, vlb⟩, ⟨ve, veb⟩, ⟨vb, vbb⟩, ⟨vs, vsb⟩⟩ := HV.out V (HW.out.1.trans (hV.mono HW.out.1.size))
          have x0 := XV.cell 0 rfl
          have x1 := XV.cell 1 rfl
          have x2 := XV.cell 2 rfl
          have x3 := XV.cell 3 rfl
          have xlt := XV.lt
          clear XV hV
          simp only [List.take_succ_cons, List.take_zero]
          repeat (with_reducible refine wpP_q ?_; go_big_quiet_step (fail); with_reducible refine wpQuiet_nil ?_)
          refine wpP_p (by kernel_rfl) (fun _ => by kernel_rfl) ?_
          (try simp only [Act.put, List.setIfInBounds_toArray, List.set_cons_zero, List.set_cons_succ])
          refine wpP_c (.bool false) (fun V' g' hV' hg' => ?_) ?_
          · (try simp only [Act.put, List.setIfInBounds_toArray, List.set_cons_zero, List.set_cons_succ])
            have hbb : Blk V' g' 2 [.int .i64 l, .int .i64 e] := hg'
            have zz := hbb.lt
            go_big_quiet_step ((go_at_call 78; exact past_same (upTo2_c g' _ _ HC1.out (hbb.below (Past.far _) hbb.lt))))
            refine wpQuiet_nil ?_
            rfl
          (try simp only [Act.put, List.setIfInBounds_toArray, List.set_cons_zero, List.set_cons_succ])
          repeat (with_reducible refine wpP_q ?_; go_big_quiet_step (fail); with_reducible refine wpQuiet_nil ?_)
          with_reducible refine wpP_nil ?_
          rfl
        intro gs w3 hb3 _ _
        have HB3 := Lib.hid (HW.out.1.trans (hb3.mono HW.out.1.size))
        have XB3 := Lib.hid (HW.out.2.1.below hb3 HW.out.2.1.lt)
        clear hb3
        simp only [List.drop_succ_cons, List.drop_zero, List.take_succ_cons, List.take_zero, fillP]
        (try simp only [Act.put, List.setIfInBounds_toArray, List.set_cons_zero, List.set_cons_succ])
        go_wp2_with fail
        go_ret
        exact ⟨ret_int EE.out.symm, HB3.out⟩
    · obtain rfl : n = t := by omega
      have HSL := HW
      go_wp2_with fail
      rename_i KK hKK
      refine wp_codeP (c' := loop36) (by kernel_rfl) ?_
      exact site2 E S cs n m cE w wr HN.out HM.out hE HQ1.out HH.out (fun t ht => HW.out.2.2 t (by rw [HN.out]; exact ht)) HCS.out HW.out.1 (fun a w' h => hKK a w' (wp_codeP (by kernel_rfl) h))
end Go.Proofs.Ytmebpglkeedaoaa
namespace Go.Proofs.Ytmebpglkeedaoaa
open Go.RowKit Dp
set_option maxHeartbeats 4000000 in
set_option maxRecDepth 100000 in
theorem car_c (cap inn out start fin : Int) (trips : List Trip) (T : Option Addr) (n q cT : Nat) (w : World) (hq : q = trips.length) (hcT : q ≤ cT ∧ cT ≤ 9223372036854775807) (hT : TripsAt w T trips) :
    Calls Try.prog 73 #[.agg #[.int .i64 cap, .int .i64 inn, .int .i64 out, .int .i64 start, .int .i64 fin, .slice T q cT], .int .i64 n] w fun e w' => e = .returned (.bool (carOk n ⟨cap, inn, out, start, fin, trips⟩)) ∧ Below w.heap.size w w' := by
  have HQ := Lib.hid hq
  have XC := Lib.hid (Blk.new' w #[.int .i64 cap, .int .i64 inn, .int .i64 out, .int .i64 start, .int .i64 fin, .slice T q cT] 63)
  have HX := Lib.hid ((Below.refl w.heap.size w).alloc (Nat.le_refl _) (.cells #[.int .i64 cap, .int .i64 inn, .int .i64 out, .int .i64 start, .int .i64 fin, .slice T q cT] 63))
  have HTR := Lib.hid (hT.below HX.out (Nat.le_refl _))
  clear hq hT
  go_enter Try.func73, Try.ntmps73
  go_upto_region 1 with fail
  generalize w.alloc (.cells #[.int .i64 cap, .int .i64 inn, .int .i64 out, .int .i64 start, .int .i64 fin, .slice T q cT] 63) = w1 at XC HX HTR ⊢
  have e0 := XC.out.cell 0 rfl
  have e1 := XC.out.cell 1 rfl
  have e2 := XC.out.cell 2 rfl
  have e3 := XC.out.cell 3 rfl
  have e4 := XC.out.cell 4 rfl
  have e5 := XC.out.cell 5 rfl
  by_cases a0 : 1 ≤ cap ∧ cap ≤ 1048576
  rotate_left
  · have f0 : inB cap 1 1048576 = false := decide_eq_false a0
    have EE := Lib.hid (carOk_head (n := n) (c := ⟨cap, inn, out, start, fin, trips⟩) (by simp only [carHead]; exact decide_eq_false (fun h => by omega)))
    clear a0
    go_wp2_with (go_at_call 60; refine (within_c _ _ _ _).mono ?_; rintro e w9 ⟨rfl, rfl⟩)
    go_ret
    exact ⟨ret_bool EE.out.symm, HX.out⟩
  have f0 : inB cap 1 1048576 = true := decide_eq_true a0
  by_cases a1 : 0 ≤ inn ∧ inn ≤ 1048576
  rotate_left
  · have f1 : inB inn 0 1048576 = false := decide_eq_false a1
    have EE := Lib.hid (carOk_head (n := n) (c := ⟨cap, inn, out, start, fin, trips⟩) (by simp only [carHead]; exact decide_eq_false (fun h => by omega)))
    clear a0 a1
    go_wp2_with (go_at_call 60; refine (within_c _ _ _ _).mono ?_; rintro e w9 ⟨rfl, rfl⟩)
    go_ret
    exact ⟨ret_bool EE.out.symm, HX.out⟩
  have f1 : inB inn 0 1048576 = true := decide_eq_true a1
  by_cases a2 : 0 ≤ out ∧ out ≤ 1048576
  rotate_left
  · have f2 : inB out 0 1048576 = false := decide_eq_false a2
    have EE := Lib.hid (carOk_head (n := n) (c := ⟨cap, inn, out, start, fin, trips⟩) (by simp only [carHead]; exact decide_eq_false (fun h => by omega)))
    clear a0 a1 a2
    go_wp2_with (go_at_call 60; refine (within_c _ _ _ _).mono ?_; rintro e w9 ⟨rfl, rfl⟩)
    go_ret
    exact ⟨ret_bool EE.out.symm, HX.out⟩
  have f2 : inB out 0 1048576 = true := decide_eq_true a2
  by_cases a3 : 0 ≤ start ∧ start ≤ cap
  rotate_left
  · have f3 : inB start 0 cap = false := decide_eq_false a3
    have EE := Lib.hid (carOk_head (n := n) (c := ⟨cap, inn, out, start, fin, trips⟩) (by simp only [carHead]; exact decide_eq_false (fun h => by omega)))
    clear a0 a1 a2 a3
    go_wp2_with (go_at_call 60; refine (within_c _ _ _ _).mono ?_; rintro e w9 ⟨rfl, rfl⟩)
    go_ret
    exact ⟨ret_bool EE.out.symm, HX.out⟩
  have f3 : inB start 0 cap = true := decide_eq_true a3
  by_cases a4 : 0 ≤ fin ∧ fin ≤ cap
  rotate_left
  · have f4 : inB fin 0 cap = false := decide_eq_false a4
    have EE := Lib.hid (carOk_head (n := n) (c := ⟨cap, inn, out, start, fin, trips⟩) (by simp only [carHead]; exact decide_eq_false (fun h => by omega)))
    clear a0 a1 a2 a3 a4
    go_wp2_with (go_at_call 60; refine (within_c _ _ _ _).mono ?_; rintro e w9 ⟨rfl, rfl⟩)
    go_ret
    exact ⟨ret_bool EE.out.symm, HX.out⟩
  have f4 : inB fin 0 cap = true := decide_eq_true a4
  by_cases a5 : 4 < q
  · have a5i : (4 : Int) < (q : Int) := by omega
    have EE := Lib.hid (carOk_head (n := n) (c := ⟨cap, inn, out, start, fin, trips⟩) (by simp only [carHead]; exact decide_eq_false (fun h => by have := HQ.out; omega)))
    clear a0 a1 a2 a3 a4
    go_wp2_with (go_at_call 60; refine (within_c _ _ _ _).mono ?_; rintro e w9 ⟨rfl, rfl⟩)
    go_ret
    exact ⟨ret_bool EE.out.symm, HX.out⟩
  have a5i : ¬ (4 : Int) < (q : Int) := by omega
  have HHD : Hid (carHead ⟨cap, inn, out, start, fin, trips⟩ = true) := Lib.hid (by simp only [carHead]; exact decide_eq_true (by have := HQ.out; omega))
  clear a0 a1 a2 a3 a4
  go_upto_region 3 with (go_at_call 60; refine (within_c _ _ _ _).mono ?_; rintro e w9 ⟨rfl, rfl⟩)
  clear f0 f1 f2 f3 f4 e0 e1 e2 e3 e4 e5 a5i
  go_wp2_with fail
  go_loopw [5, 6, 7] (fun bk iv _ wr => ∃ k : Nat, k ≤ q ∧ iv = .int .i64 k ∧ bk = .int .i64 (backAt trips k) ∧ Hid (Below w.heap.size w wr ∧ Blk wr w.heap.size 63 [.int .i64 cap, .int .i64 inn, .int .i64 out, .int .i64 start, .int .i64 fin, .slice T q cT] ∧ TripsAt wr T trips ∧ ∀ x, x < k → tripOk cap n trips x = true)) (fun _ iv _ _ => q - (intOf iv).toNat)
  case atStart => exact ⟨0, Nat.zero_le _, rfl, rfl, Lib.hid ⟨HX.out, XC.out, HTR.out, fun j hj => absurd hj (Nat.not_lt_zero _)⟩⟩
  case round =>
    obtain ⟨k, hk, rfl, rfl, HK⟩ := hrel
    have e5 := HK.out.2.1.cell 5 rfl
    by_cases hlt : k < q
    · have hki : (k : Int) < (q : Int) := by omega
      have kl : k < trips.length := by rw [← HQ.out]; exact hlt
      obtain ⟨td, rfl, tbl, t0, t1, t2⟩ := HK.out.2.2.1 k kl
      have HOK := Lib.hid (show tripOk cap n trips k = decide (backAt trips k ≤ (trips.getD k default).fr ∧ (trips.getD k default).fr < (trips.getD k default).to ∧ (trips.getD k default).to ≤ n ∧ (0 ≤ (trips.getD k default).use ∧ (trips.getD k default).use ≤ cap)) from rfl)
      have HBK := Lib.hid (show backAt trips (k + 1) = (trips.getD k default).to from rfl)
      have HBD : Hid (tripOk cap n trips k = false → carOk n ⟨cap, inn, out, start, fin, trips⟩ = false) := Lib.hid (fun h => carOk_trip (c := ⟨cap, inn, out, start, fin, trips⟩) k kl h)
      generalize trips.getD k default = tr at *
      obtain ⟨fr, «to», us⟩ := tr
      simp only at t0 t1 t2 HOK HBK
      generalize hbk : backAt trips k = bk at *
      clear hbk
      go_upto_region 8 with fail
      have HZ := Lib.hid (HK.out.1.alloc (by have := HK.out.2.1.lt; omega) (.cells #[.int .i64 fr, .int .i64 «to», .int .i64 us] 65))
      have ZC := Lib.hid (Blk.alloc HK.out.2.1 (.cells #[.int .i64 fr, .int .i64 «to», .int .i64 us] 65))
      have ZT := Lib.hid (Blk.new' wr #[.int .i64 fr, .int .i64 «to», .int .i64 us] 65)
      have ZTR := Lib.hid (HK.out.2.2.1.below ((Below.refl wr.heap.size wr).alloc (Nat.le_refl _) (.cells #[.int .i64 fr, .int .i64 «to», .int .i64 us] 65)) (Nat.le_refl _))
      generalize wr.alloc (.cells #[.int .i64 fr, .int .i64 «to», .int .i64 us] 65) = wz at HZ ZC ZT ZTR ⊢
      generalize wr.heap.size = gt at *
      clear t0 t1 t2 tbl e5
      have f0 := ZT.out.cell 0 rfl
      have f1 := ZT.out.cell 1 rfl
      have f2 := ZT.out.cell 2 rfl
      have e0 := ZC.out.cell 0 rfl
      by_cases s1 : fr < bk
      · have EE := Lib.hid (HBD.out (by rw [HOK.out]; exact decide_eq_false (fun h => by omega)))
        go_wp2_with fail
        go_ret
        exact ⟨ret_bool EE.out.symm, HZ.out⟩
      by_cases s2 : «to» ≤ fr
      · have EE := Lib.hid (HBD.out (by rw [HOK.out]; exact decide_eq_false (fun h => by omega)))
        go_wp2_with fail
        go_ret
        exact ⟨ret_bool EE.out.symm, HZ.out⟩
      by_cases s3 : (n : Int) < «to»
      · have EE := Lib.hid (HBD.out (by rw [HOK.out]; exact decide_eq_false (fun h => by omega)))
        go_wp2_with fail
        go_ret
        exact ⟨ret_bool EE.out.symm, HZ.out⟩
      by_cases s4 : 0 ≤ us ∧ us ≤ cap
      · have g4 : inB us 0 cap = true := decide_eq_true s4
        have SS := Lib.hid (show tripOk cap n trips k = true from by rw [HOK.out]; exact decide_eq_true (by omega))
        clear s4
        go_wp2_with (go_at_call 60; refine (within_c _ _ _ _).mono ?_; rintro e w9 ⟨rfl, rfl⟩)
        go_roundw
        case measure => simp [intOf]; omega
        case rel =>
          refine ⟨k + 1, by omega, by go_num, by rw [HBK.out], Lib.hid ⟨HZ.out, ZC.out, ZTR.out, fun x hx => ?_⟩⟩
          by_cases hxk : x < k
          · exact HK.out.2.2.2 x hxk
          · obtain rfl : x = k := by omega
            exact SS.out
      · have g4 : inB us 0 cap = false := decide_eq_false s4
        have EE := Lib.hid (HBD.out (by rw [HOK.out]; exact decide_eq_false (fun h => by omega)))
        clear s4
        go_wp2_with (go_at_call 60; refine (within_c _ _ _ _).mono ?_; rintro e w9 ⟨rfl, rfl⟩)
        go_ret
        exact ⟨ret_bool EE.out.symm, HZ.out⟩
    · obtain rfl : k = q := by omega
      have HCK := Lib.hid (carOk_ok (n := n) (c := ⟨cap, inn, out, start, fin, trips⟩) HHD.out (fun x hx => HK.out.2.2.2 x (by rw [HQ.out]; exact hx)))
      go_wp2_with fail
      go_ret
      exact ⟨ret_bool HCK.out.symm, HK.out.1⟩
set_option maxHeartbeats 8000000 in
set_option maxRecDepth 100000 in
theorem CheckSiteR_c (A B C D E : Option Addr) (S : Site) (cs : List Car) (n nB nC nD m cA cB cC cD cE : Nat) (w : World) (hn : n = S.lim.length) (hnB : nB = S.exp.length) (hnC : nC = S.buy.length) (hnD : nD = S.sell.length) (hm : m = cs.length)
    (hA : n ≤ cA ∧ cA ≤ 9223372036854775807) (hB : nB ≤ cB ∧ cB ≤ 9223372036854775807) (hC : nC ≤ cC ∧ cC ≤ 9223372036854775807) (hD : nD ≤ cD ∧ cD ≤ 9223372036854775807) (hE : m ≤ cE ∧ cE ≤ 9223372036854775807)
    (hS : SiteAt w A B C D S) (hcs : CarsAt w E cs) :
    Calls Try.prog 31 #[.agg #[.slice A n cA, .slice B nB cB, .slice C nC cC, .slice D nD cD], .slice E m cE] w fun e w' => e = .returned (.int .i64 (stE S cs)) ∧ Below w.heap.size w w' := by
  have HN := Lib.hid hn
  have HNB := Lib.hid hnB
  have HNC := Lib.hid hnC
  have HND := Lib.hid hnD
  have HM := Lib.hid hm
  have HS := Lib.hid hS
  have HCS := Lib.hid hcs
  clear hn hnB hnC hnD hm hS hcs
  have X := Lib.hid (Blk.new' w #[.slice A n cA, .slice B nB cB, .slice C nC cC, .slice D nD cD] 51)
  have HB := Lib.hid ((Below.refl w.heap.size w).alloc (Nat.le_refl _) (.cells #[.slice A n cA, .slice B nB cB, .slice C nC cC, .slice D nD cD] 51))
  go_enter Try.func31, Try.ntmps31
  go_upto_region 1 with fail
  generalize w.alloc (.cells #[.slice A n cA, .slice B nB cB, .slice C nC cC, .slice D nD cD] 51) = w1 at X HB ⊢
  by_cases q1 : 8 < m
  · have q1i : (8 : Int) < (m : Int) := by omega
    have EE := Lib.hid (stE_many (S := S) (cs := cs) (by rw [← HM.out]; exact q1))
    go_wp2_with fail
    go_ret
    exact ⟨ret_int EE.out.symm, HB.out⟩
  have q1i : ¬ (8 : Int) < (m : Int) := by omega
  have HQ1 : Hid (¬ 8 < cs.length) := Lib.hid (by rw [← HM.out]; exact q1)
  have x0 := X.out.cell 0 rfl
  have x1 := X.out.cell 1 rfl
  have x2 := X.out.cell 2 rfl
  have x3 := X.out.cell 3 rfl
  by_cases q2 : n < 1
  · have q2i : (n : Int) < 1 := by omega
    have EE := Lib.hid (stE_head (S := S) (cs := cs) HQ1.out (by simp [siteHead, ← HN.out, ← HNB.out, ← HNC.out, ← HND.out]; omega))
    go_wp2_with fail
    go_ret
    exact ⟨ret_int EE.out.symm, HB.out⟩
  have q2i : ¬ (n : Int) < 1 := by omega
  by_cases q3 : 48 < n
  · have q3i : (48 : Int) < (n : Int) := by omega
    have EE := Lib.hid (stE_head (S := S) (cs := cs) HQ1.out (by simp [siteHead, ← HN.out, ← HNB.out, ← HNC.out, ← HND.out]; omega))
    go_wp2_with fail
    go_ret
    exact ⟨ret_int EE.out.symm, HB.out⟩
  have q3i : ¬ (48 : Int) < (n : Int) := by omega
  by_cases q4 : nB ≠ n
  · have q4i : ¬ (nB : Int) = (n : Int) := by omega
    have q4b : ((nB : Int) == (n : Int)) = false := by simpa using q4i
    have EE := Lib.hid (stE_head (S := S) (cs := cs) HQ1.out (by simp [siteHead, ← HN.out, ← HNB.out, ← HNC.out, ← HND.out]; omega))
    go_wp2_with fail
    go_ret
    exact ⟨ret_int EE.out.symm, HB.out⟩
  obtain rfl : n = nB := by omega
  by_cases q5 : nC ≠ n
  · have q5i : ¬ (nC : Int) = (n : Int) := by omega
    have q5b : ((nC : Int) == (n : Int)) = false := by simpa using q5i
    have EE := Lib.hid (stE_head (S := S) (cs := cs) HQ1.out (by simp [siteHead, ← HN.out, ← HNB.out, ← HNC.out, ← HND.out]; omega))
    go_wp2_with fail
    go_ret
    exact ⟨ret_int EE.out.symm, HB.out⟩
  obtain rfl : n = nC := by omega
  by_cases q6 : nD ≠ n
  · have q6i : ¬ (nD : Int) = (n : Int) := by omega
    have q6b : ((nD : Int) == (n : Int)) = false := by simpa using q6i
    have EE := Lib.hid (stE_head (S := S) (cs := cs) HQ1.out (by simp [siteHead, ← HN.out, ← HNB.out, ← HNC.out, ← HND.out]; omega))
    go_wp2_with fail
    go_ret
    exact ⟨ret_int EE.out.symm, HB.out⟩
  obtain rfl : n = nD := by omega
  have HH : Hid (siteHead S = true) := Lib.hid (by simp [siteHead, ← HN.out, ← HNB.out, ← HNC.out, ← HND.out]; omega)
  go_wp2_with fail
  clear x0 x1 x2 x3
  go_loopw [6] (fun iv wr => ∃ t : Nat, t ≤ n ∧ iv = .int .i64 t ∧ Hid (Below w.heap.size w wr ∧ Blk wr w.heap.size 51 [.slice A n cA, .slice B n cB, .slice C n cC, .slice D n cD] ∧ ∀ j, j < t → slotOk S j = true)) (fun iv _ => n - (intOf iv).toNat)
  case atStart => exact ⟨0, Nat.zero_le _, rfl, Lib.hid ⟨HB.out, X.out, fun j hj => absurd hj (Nat.not_lt_zero _)⟩⟩
  case round =>
    obtain ⟨t, ht, rfl, HW⟩ := hrel
    by_cases hlt : t < n
    · have hti : (t : Int) < (n : Int) := by omega
      have hcA := hA.1
      have tA : t < S.lim.length := by rw [← HN.out]; exact hlt
      obtain ⟨aL, rfl, aLb, aLc⟩ := HS.out.1 t tA
      obtain ⟨aE, rfl, aEb, aEc⟩ := HS.out.2.1 t (by rw [← HNB.out]; exact hlt)
      obtain ⟨aB, rfl, aBb, aBc⟩ := HS.out.2.2.1 t (by rw [← HNC.out]; exact hlt)
      obtain ⟨aS, rfl, aSb, aSc⟩ := HS.out.2.2.2 t (by rw [← HND.out]; exact hlt)
      have HV : Hid (∀ V, Below w.heap.size w V → (V.cell? (aL.add t) = some (.int .i64 (S.lim.getD t 0)) ∧ (aL.add t).block < V.heap.size) ∧ (V.cell? (aE.add t) = some (.int .i64 (S.exp.getD t 0)) ∧ (aE.add t).block < V.heap.size) ∧ (V.cell? (aB.add t) = some (.int .i64 (S.buy.getD t 0)) ∧ (aB.add t).block < V.heap.size) ∧ (V.cell? (aS.add t) = some (.int .i64 (S.sell.getD t 0)) ∧ (aS.add t).block < V.heap.size)) := Lib.hid (fun V hV => by
        have k := hV.size
        exact ⟨⟨(hV.cell (by rw [block_add]; exact aLb)).trans aLc, by rw [block_add]; omega⟩, ⟨(hV.cell (by rw [block_add]; exact aEb)).trans aEc, by rw [block_add]; omega⟩, ⟨(hV.cell (by rw [block_add]; exact aBb)).trans aBc, by rw [block_add]; omega⟩, ⟨(hV.cell (by rw [block_add]; exact aSb)).trans aSc, by rw [block_add]; omega⟩⟩)
      clear aLc aEc aBc aSc aLb aEb aBb aSb
      have HSO := Lib.hid (show slotOk S t = decide ((0 ≤ S.lim.getD t 0 ∧ S.lim.getD t 0 ≤ 1048576) ∧ (0 ≤ S.exp.getD t 0 ∧ S.exp.getD t 0 ≤ 1048576) ∧ (0 ≤ S.buy.getD t 0 ∧ S.buy.getD t 0 ≤ 1048576) ∧ (0 ≤ S.sell.getD t 0 ∧ S.sell.getD t 0 ≤ S.buy.getD t 0)) from rfl)
      generalize S.lim.getD t 0 = l at *
      generalize S.exp.getD t 0 = e at *
      generalize S.buy.getD t 0 = b at *
      generalize S.sell.getD t 0 = s at *
      go_upto_region 9 with fail
      by_cases k1 : 0 ≤ l ∧ l ≤ 1048576
      rotate_left
      · have g0 : inB l 0 1048576 = false := decide_eq_false k1
        have EE := Lib.hid (stE_slot (S := S) (cs := cs) HQ1.out t tA (by rw [HSO.out]; exact decide_eq_false (fun h => by omega)))
        clear k1
        have x0 := HW.out.2.1.cell 0 rfl
        have x1 := HW.out.2.1.cell 1 rfl
        have x2 := HW.out.2.1.cell 2 rfl
        have x3 := HW.out.2.1.cell 3 rfl
        have xlt := HW.out.2.1.lt
        obtain ⟨⟨vl, vlb⟩, ⟨ve, veb⟩, ⟨vb, vbb⟩, ⟨vs, vsb⟩⟩ := HV.out wr HW.out.1
        refine wp_region_past (by kernel_rfl) (by kernel_rfl) ?_
        repeat (go_big_quiet_step ((go_at_call 60; exact past_same (within_c _ _ _ _))))
        refine wpQuiet_nil ?_
        intro xx
        have HB3 := Lib.hid (HW.out.1.trans (xx.far.mono HW.out.1.size))
        have XB3 := Lib.hid (HW.out.2.1.below xx.far HW.out.2.1.lt)
        generalize xx.w = w3 at HB3 XB3 ⊢
        clear x0 x1 x2 x3 xlt vl vlb ve veb vb vbb vs vsb
        simp only [g0]
        go_wp2_with fail
        go_ret
        exact ⟨ret_int EE.out.symm, HB3.out⟩
      have g0 : inB l 0 1048576 = true := decide_eq_true k1
      by_cases k2 : 0 ≤ e ∧ e ≤ 1048576
      rotate_left
      · have g1 : inB e 0 1048576 = false := decide_eq_false k2
        have EE := Lib.hid (stE_slot (S := S) (cs := cs) HQ1.out t tA (by rw [HSO.out]; exact decide_eq_false (fun h => by omega)))
        clear k1 k2
        have x0 := HW.out.2.1.cell 0 rfl
        have x1 := HW.out.2.1.cell 1 rfl
        have x2 := HW.out.2.1.cell 2 rfl
        have x3 := HW.out.2.1.cell 3 rfl
        have xlt := HW.out.2.1.lt
        obtain ⟨⟨vl, vlb⟩, ⟨ve, veb⟩, ⟨vb, vbb⟩, ⟨vs, vsb⟩⟩ := HV.out wr HW.out.1
        refine wp_region_past (by kernel_rfl) (by kernel_rfl) ?_
        repeat (go_big_quiet_step ((go_at_call 60; exact past_same (within_c _ _ _ _))))
        refine wpQuiet_nil ?_
        intro xx
        have HB3 := Lib.hid (HW.out.1.trans (xx.far.mono HW.out.1.size))
        have XB3 := Lib.hid (HW.out.2.1.below xx.far HW.out.2.1.lt)
        generalize xx.w = w3 at HB3 XB3 ⊢
        clear x0 x1 x2 x3 xlt vl vlb ve veb vb vbb vs vsb
        simp only [g0, g1]
        go_wp2_with fail
        go_ret
        exact ⟨ret_int EE.out.symm, HB3.out⟩
      have g1 : inB e 0 1048576 = true := decide_eq_true k2
      by_cases k3 : 0 ≤ b ∧ b ≤ 1048576
      rotate_left
      · have g2 : inB b 0 1048576 = false := decide_eq_false k3
        have EE := Lib.hid (stE_slot (S := S) (cs := cs) HQ1.out t tA (by rw [HSO.out]; exact decide_eq_false (fun h => by omega)))
        clear k1 k2 k3
        have x0 := HW.out.2.1.cell 0 rfl
        have x1 := HW.out.2.1.cell 1 rfl
        have x2 := HW.out.2.1.cell 2 rfl
        have x3 := HW.out.2.1.cell 3 rfl
        have xlt := HW.out.2.1.lt
        obtain ⟨⟨vl, vlb⟩, ⟨ve, veb⟩, ⟨vb, vbb⟩, ⟨vs, vsb⟩⟩ := HV.out wr HW.out.1
        refine wp_region_past (by kernel_rfl) (by kernel_rfl) ?_
        repeat (go_big_quiet_step ((go_at_call 60; exact past_same (within_c _ _ _ _))))
        refine wpQuiet_nil ?_
        intro xx
        have HB3 := Lib.hid (HW.out.1.trans (xx.far.mono HW.out.1.size))
        have XB3 := Lib.hid (HW.out.2.1.below xx.far HW.out.2.1.lt)
        generalize xx.w = w3 at HB3 XB3 ⊢
        clear x0 x1 x2 x3 xlt vl vlb ve veb vb vbb vs vsb
        simp only [g0, g1, g2]
        go_wp2_with fail
        go_ret
        exact ⟨ret_int EE.out.symm, HB3.out⟩
      have g2 : inB b 0 1048576 = true := decide_eq_true k3
      by_cases k4 : 0 ≤ s ∧ s ≤ b
      rotate_left
      · have g3 : inB s 0 b = false := decide_eq_false k4
        have EE := Lib.hid (stE_slot (S := S) (cs := cs) HQ1.out t tA (by rw [HSO.out]; exact decide_eq_false (fun h => by omega)))
        clear k1 k2 k3 k4
        have x0 := HW.out.2.1.cell 0 rfl
        have x1 := HW.out.2.1.cell 1 rfl
        have x2 := HW.out.2.1.cell 2 rfl
        have x3 := HW.out.2.1.cell 3 rfl
        have xlt := HW.out.2.1.lt
        obtain ⟨⟨vl, vlb⟩, ⟨ve, veb⟩, ⟨vb, vbb⟩, ⟨vs, vsb⟩⟩ := HV.out wr HW.out.1
        refine wp_region_past (by kernel_rfl) (by kernel_rfl) ?_
        repeat (go_big_quiet_step ((go_at_call 60; exact past_same (within_c _ _ _ _))))
        refine wpQuiet_nil ?_
        intro xx
        have HB3 := Lib.hid (HW.out.1.trans (xx.far.mono HW.out.1.size))
        have XB3 := Lib.hid (HW.out.2.1.below xx.far HW.out.2.1.lt)
        generalize xx.w = w3 at HB3 XB3 ⊢
        clear x0 x1 x2 x3 xlt vl vlb ve veb vb vbb vs vsb
        simp only [g0, g1, g2, g3]
        go_wp2_with fail
        go_ret
        exact ⟨ret_int EE.out.symm, HB3.out⟩
      have g3 : inB s 0 b = true := decide_eq_true k4
      have HK := Lib.hid (And.intro k1 (And.intro k2 (And.intro k3 k4)))
      clear k1 k2 k3 k4
      have x0 := HW.out.2.1.cell 0 rfl
      have x1 := HW.out.2.1.cell 1 rfl
      have x2 := HW.out.2.1.cell 2 rfl
      have x3 := HW.out.2.1.cell 3 rfl
      have xlt := HW.out.2.1.lt
      obtain ⟨⟨vl, vlb⟩, ⟨ve, veb⟩, ⟨vb, vbb⟩, ⟨vs, vsb⟩⟩ := HV.out wr HW.out.1
      refine wp_region_past (by kernel_rfl) (by kernel_rfl) ?_
      repeat (go_big_quiet_step ((go_at_call 60; exact past_same (within_c _ _ _ _))))
      refine wpQuiet_nil ?_
      intro xx
      have HB3 := Lib.hid (HW.out.1.trans (xx.far.mono HW.out.1.size))
      have XB3 := Lib.hid (HW.out.2.1.below xx.far HW.out.2.1.lt)
      generalize xx.w = w3 at HB3 XB3 ⊢
      clear x0 x1 x2 x3 xlt vl vlb ve veb vb vbb vs vsb
      simp only [g0, g1, g2, g3]
      go_wp2_with fail
      refine ⟨⟨t + 1, by omega, by go_num, Lib.hid ⟨HB3.out, XB3.out, fun j hj => ?_⟩⟩, by simp [intOf]; omega⟩
      by_cases hjt : j < t
      · exact HW.out.2.2 j hjt
      · obtain rfl : j = t := by omega
        rw [HSO.out]; exact decide_eq_true (by have := HK.out; omega)
    · obtain rfl : n = t := by omega
      have HSL := HW
      go_wp2_with fail
      go_loopw [7] (fun iv wr => ∃ j : Nat, j ≤ m ∧ iv = .int .i64 j ∧ Hid (Below w.heap.size w wr ∧ ∀ x, x < j → carOk S.lim.length (cs.getD x default) = true)) (fun iv _ => m - (intOf iv).toNat)
      case atStart => exact ⟨0, Nat.zero_le _, rfl, Lib.hid ⟨HW.out.1, fun j hj => absurd hj (Nat.not_lt_zero _)⟩⟩
      case round =>
        obtain ⟨j, hj, rfl, HJ⟩ := hrel
        by_cases hlt2 : j < m
        · have hji : (j : Int) < (m : Int) := by omega
          have jl : j < cs.length := by rw [← HM.out]; exact hlt2
          obtain ⟨ad, rfl, abl, c0, c1, c2, c3, c4, T, cT, c5, hcT, HTT⟩ := (HCS.out.below HJ.out.1 (Nat.le_refl _)) j jl
          have HBAD : Hid (carOk S.lim.length (cs.getD j default) = false → stE S cs = 2) := Lib.hid (fun h => stE_car HQ1.out j jl h)
          have HGO : Hid (carOk S.lim.length (cs.getD j default) = true → ∀ x, x < j + 1 → carOk S.lim.length (cs.getD x default) = true) := Lib.hid (fun h x hx => by
            by_cases hxj : x < j
            · exact HJ.out.2 x hxj
            · obtain rfl : x = j := by omega
              exact h)
          rw [← HN.out] at HBAD HGO
          generalize cs.getD j default = c at *
          obtain ⟨cap, inn, out, start, fin, trips⟩ := c
          simp only at c0 c1 c2 c3 c4 c5 hcT HTT HBAD HGO
          have CC := Lib.hid (car_c cap inn out start fin trips T n trips.length cT wr rfl hcT HTT)
          generalize trips.length = q at c5 hcT CC
          cases hv : carOk n ⟨cap, inn, out, start, fin, trips⟩
          · rw [hv] at CC
            have EE := Lib.hid (HBAD.out hv)
            clear HTT hv
            go_wp2_with (go_at_call 73; refine CC.out.mono ?_; rintro e w5 ⟨rfl, hb5⟩; have HB5 := Lib.hid (HJ.out.1.trans (hb5.mono HJ.out.1.size)); clear hb5)
            go_ret
            exact ⟨ret_int EE.out.symm, HB5.out⟩
          · rw [hv] at CC
            have EE := Lib.hid (HGO.out hv)
            clear HTT hv
            go_wp2_with (go_at_call 73; refine CC.out.mono ?_; rintro e w5 ⟨rfl, hb5⟩; have HB5 := Lib.hid (HJ.out.1.trans (hb5.mono HJ.out.1.size)); clear hb5)
            exact ⟨⟨j + 1, by omega, by go_num, Lib.hid ⟨HB5.out, by rw [← HN.out]; exact EE.out⟩⟩, by simp [intOf]; omega⟩
        · obtain rfl : j = m := by omega
          have EE := Lib.hid (stE_ok (S := S) (cs := cs) HQ1.out HH.out (fun t ht => HSL.out.2.2 t (by rw [HN.out]; exact ht)) (fun i hi => HJ.out.2 i (by rw [HM.out]; exact hi)))
          go_wp2_with fail
          go_ret
          exact ⟨ret_int EE.out.symm, HJ.out.1⟩
end Go.Proofs.Ytmebpglkeedaoaa
