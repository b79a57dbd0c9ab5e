/- Contracts that the claim leans on, part 3: D11 D12 A1 A2 A6 A3 A4 C6 C7 C8 C9 C10 C11 C12 C13 C14 C15 A5 M17 M18 M19 M21 M22 M23 M25 M26 M20 M27 -/
import Derived.Test.YtmebpglkeedaoaaDK2
import Derived.Deep.CutRange
import Derived.Deep.Cut
import Derived.WalkMore
set_option linter.unusedVariables false
set_option linter.unusedSimpArgs false
set_option linter.unnecessarySimpa false
namespace Go.Proofs.Ytmebpglkeedaoaa
open Go.RowKit Dp
theorem mv_at (l : List Int) (i : Nat) (d v : Int) (h : v = l.getD i 0 + d) : mv l (i : Int) d = l.set i v := by subst h; simp [mv]
theorem push1_eq {G : Gr} {n k : Nat} {x a d : Int} (hG : G.Ok n) (hk : k < G.es.length) (ha : a = G.lf (G.frA k) - x) (hd : d = G.lf (G.toA k) + x) :
    ({ left := (G.left.set (G.frA k) a).set (G.toA k) d, es := pushE G.es k x, outs := G.outs } : Gr) = G.push1 k x := by
  unfold Gr.push1
  rw [mv_at G.left (G.frA k) (-x) a (by rw [ha]; unfold Gr.lf; omega), mv_at _ (G.toA k) x d (by
    rw [getD_setI _ _ _ _ (by rw [hG.ll]; exact hG.frL hk), if_neg (hG.ne k hk), hd]; rfl)]
theorem OutsAt.more {w : World} {bo : Nat} {outs : List (List Int)} {S S' : Nat → Prop} (h : OutsAt w bo outs S) (hs : ∀ k, k < w.heap.size → ¬ S k → ¬ S' k) : OutsAt w bo outs S' := fun i hi => by
  obtain ⟨A, c, h1, h2, h3, h4, h5⟩ := h i hi
  exact ⟨A, c, h1, h2, h3, h4, fun k hk => ⟨(h5 k hk).1, hs k (h5 k hk).1 (h5 k hk).2⟩⟩
theorem GrAt.far {w : World} {B b gl cl ce bo gp : Nat} {E : Option Addr} {G : Gr} (h : GrAt w B b gl cl E ce bo G) (ho : OutsAt w bo G.outs (fun k => k = b ∨ k = gl ∨ OwnB E k ∨ k = gp)) {p : Addr} (hp : p.block = gp) (h1 : b ≠ gp) (h2 : gl ≠ gp) (h3 : ¬ OwnB E gp) (h4 : bo ≠ gp) (u : Value) :
    GrAt (w.setCell p u) B b gl cl E ce bo G ∧ OutsAt (w.setCell p u) bo G.outs (fun k => k = b ∨ k = gl ∨ OwnB E k ∨ k = gp) := by
  have ho2 := ho.touch (T := fun k => k = gp) h.bo.1 h4 (fun k e => .inr (.inr (.inr e))) ((Touch.refl (fun k => k = gp) w).setCell (p := p) (.inl hp) u)
  refine ⟨{ blk := h.blk.setCell_ne (by rw [hp]; exact h1) _, left := ownSet h.left (fun e => by have := ownB_some.1 e; rw [hp] at this; exact h2 this.symm) _, es := h.es.set_ne (by rw [hp]; exact h3) _, outs := ho2.more (fun k _ hn hs => hn (by rcases hs with a | a | a; exact .inl a; exact .inr (.inl a); exact .inr (.inr (.inl a)))), bo := ⟨by simp [World.setCell]; exact h.bo.1, h.bo.2⟩, ne := h.ne, base := h.base }, ho2⟩
set_option maxHeartbeats 2000000 in
set_option maxRecDepth 100000 in
theorem least_c (b gl cl ce bo B n : Nat) (E : Option Addr) (G : Gr) (N : Net) (w : World) (hn : N.sup.length = n) (hch : chE N = 0) (hG : G.Ok n) (hf : Fits N G) (h0 : ∀ i, i < N.arcs.length → G.room (2 * i + 1) = 0) (hg : GrAt w B b gl cl E ce bo G) :
    Calls Try.prog 63 #[.pointer (some ⟨b, 0, none⟩)] w fun e w' => ∃ (gp : Nat) (G' : Gr) (p fa vi : List Int) (D : Int), e = .returned (.slice (some ⟨gp, 0, none⟩) n n) ∧ Fl 2 w' gp p ∧ GrAt w' B b gl cl E ce bo G' ∧ G'.Ok n ∧ Fits N G' ∧ PotD G' n p D ∧ NR G' n p fa vi (-1) ∧ Touch (fun k => k = gl ∨ OwnB E k) w w' ∧ w.heap.size ≤ gp := by
  have HN := Lib.hid hn
  have HCH := Lib.hid hch
  have S0 : Hid (Sat N G 0) := Lib.hid (sat_start hch (by rw [hn]; exact hG) hf h0)
  have HA := Lib.hid hg
  have n1 := hG.n1.1
  have n2 := hG.n1.2
  have hle := hG.le
  have c1 := hg.blk.cell 1 rfl
  have gll := hg.left.lt.2
  have EBL := Lib.hid (fun k (h : OwnB E k) => (ownLt hg.es h).1)
  clear hn hch h0 hf hg
  generalize hml : G.es.length = ml at *
  have HML := Lib.hid hml
  clear hml
  go_enter Try.func63, Try.ntmps63
  go_wp2_with fail
  go_loopg [15] ml (fun q iv wr => ∃ k : Nat, iv = .int .i64 k ∧ k + q = ml ∧ Hid (∃ G1, Dp.Alike G G1 ∧ Sat N G1 k ∧ GrAt wr B b gl cl E ce bo G1 ∧ Touch (fun k => k = gl ∨ OwnB E k) w wr))
  case atStart => exact ⟨0, rfl, by omega, Lib.hid ⟨G, Alike.refl G, S0.out, HA.out, Touch.refl _ _⟩⟩
  case round =>
    obtain ⟨k, rfl, hkq, HJ⟩ := hrel
    obtain ⟨G1, q1, q2, q3, q4⟩ := HJ.out
    have AL := Lib.hid q1
    have SA := Lib.hid q2
    have GA := Lib.hid q3
    have TA := Lib.hid q4
    clear HJ q1 q2 q3 q4 c1
    by_cases hlt : k < ml
    · have hki : (k : Int) < (ml : Int) := by omega
      obtain ⟨ge, rfl, gel, e0, e1, e2⟩ := GA.out.edge k (by rw [AL.out.le, HML.out]; exact hlt)
      have HTO : Hid (G1.toA k = (G1.es.getD k default).to.toNat) := Lib.hid rfl
      have HRM : Hid (G1.room k = (G1.es.getD k default).room) := Lib.hid rfl
      have HCO : Hid (G1.cost k = (G1.es.getD k default).cost) := Lib.hid rfl
      have hto := SA.out.ok.to k (by rw [AL.out.le, HML.out]; exact hlt)
      generalize G1.es.getD k default = ed at *
      obtain ⟨t0, ro, co⟩ := ed
      simp only at e0 e1 e2 hto HTO HRM HCO
      obtain ⟨v, rfl⟩ : ∃ v : Nat, t0 = (v : Int) := ⟨t0.toNat, by omega⟩
      simp only [Int.toNat_natCast] at HTO
      by_cases hpar : k % 2 = 0
      · have hp1 : (k : Int) % 2 = 0 := by omega
        by_cases hco : co < 0
        · have d1 : decide (co < 0) = true := decide_eq_true hco
          -- the arc carries all it can
          have SY := Lib.hid (SA.out.yes (by rw [AL.out.le, HML.out]; exact hlt) hpar (by rw [HCO.out]; exact hco))
          have hkl : k < G1.es.length := by rw [AL.out.le, HML.out]; exact hlt
          have PE := Lib.hid (fun x a d => push1_eq (x := x) (a := a) (d := d) SA.out.ok hkl)
          have AY := Lib.hid (AL.out.trans (push1_alike (x := G1.room k) hkl (SA.out.ok.tl hkl)))
          have htl := SA.out.ok.tl hkl
          have hne : G1.toA k ≠ G1.frA k := SA.out.ok.ne k hkl
          have hfn := SA.out.ok.frL hkl
          have hvn := SA.out.ok.toL hkl
          have hbf := SA.out.bd _ hfn
          have hbv := SA.out.bd _ hvn
          have hrm := SA.out.ok.rm k hkl
          have hrt := SA.out.ok.rm (tw k) htl
          rw [tw_tw] at hrt
          have LL1 : Hid (G1.left.length = n) := Lib.hid (by rw [SA.out.ok.ll, HN.out])
          have hp2 : tw k = k + 1 := by unfold tw; rw [if_pos hpar]
          obtain ⟨ge', hge, _, f0, _, _⟩ := GA.out.edge (tw k) htl
          cases hge
          rw [ok_to SA.out.ok htl] at f0
          have HFR : Hid (G1.frA k = G1.toA (tw k)) := Lib.hid rfl
          rw [← HFR.out, hp2] at f0
          rw [AL.out.le, HML.out, hp2] at htl
          rw [hp2] at hrm hrt
          rw [HTO.out] at hne hvn hbv PE
          rw [HRM.out] at hrm hrt SY AY
          rw [HN.out] at hfn hvn
          generalize hfrg : G1.frA k = fr at *
          have HFG := Lib.hid hfrg
          have HLF : Hid (G1.lf fr = G1.left.getD fr 0 ∧ G1.lf v = G1.left.getD v 0) := Lib.hid ⟨rfl, rfl⟩
          rw [HLF.out.1, HLF.out.2] at PE
          rw [HLF.out.1] at hbf
          rw [HLF.out.2] at hbv
          clear hfrg
          have hk1 : k + 1 < ml := htl
          have hk1i : (k : Int) + 1 < (ml : Int) := by omega
          have hk2 : k < 4096 := by omega
          have CW : Hid (∀ W, GrAt W B b gl cl (some ⟨ge, 0, none⟩) ce bo G1 → W.cell? ⟨b, 0, none⟩ = some (.slice (some ⟨gl, 0, none⟩) n cl) ∧ W.cell? ⟨b, 1, none⟩ = some (.slice (some ⟨ge, 0, none⟩) ml ce) ∧ W.cell? ⟨ge, (k + 1) * 3, none⟩ = some (.int .i64 fr) ∧ W.cell? ⟨gl, fr, none⟩ = some (.int .i64 (G1.left.getD fr 0))) := Lib.hid (fun W h => by
            have q0 := h.blk.cell 0 rfl
            have q1 := h.blk.cell 1 rfl
            rw [LL1.out] at q0
            rw [AL.out.le, HML.out] at q1
            obtain ⟨ge', hge, _, g0, _, _⟩ := h.edge (k + 1) (by rw [AL.out.le, HML.out]; exact hk1)
            cases hge
            rw [← hp2, ok_to SA.out.ok (by rw [hp2, AL.out.le, HML.out]; exact hk1), ← HFR.out, hp2] at g0
            exact ⟨q0, q1, g0, h.left.cell fr (by rw [LL1.out]; exact hfn)⟩)
          have LV : Hid (∀ x, (G1.left.set fr x).getD v 0 = G1.left.getD v 0) := Lib.hid (fun x => by rw [getD_setI _ _ _ _ (by rw [LL1.out]; exact hfn), if_neg hne])
          go_upto_region 5 with fail
          have al := (Below.refl wr.heap.size wr).alloc (Nat.le_refl _) (.cells #[.int .i64 v, .int .i64 ro, .int .i64 co] 144)
          have G2 := Lib.hid (GA.out.below al)
          have T2 := Lib.hid (TA.out.below al)
          have X2 := Lib.hid (Blk.new' wr #[.int .i64 v, .int .i64 ro, .int .i64 co] 144)
          clear al f0 e0 e1 e2
          have hgx : wr.heap.size ≠ gl := by have := GA.out.left.lt.2; omega
          generalize wr.alloc (.cells #[.int .i64 v, .int .i64 ro, .int .i64 co] 144) = w2 at G2 T2 X2 ⊢
          generalize wr.heap.size = gx at *
          have hfi : (fr : Int) < (n : Int) := by omega
          have hvi : (v : Int) < (n : Int) := by omega
          generalize hlfr : G1.left.getD fr 0 = lfr at *
          generalize hlv : G1.left.getD v 0 = lv0 at *
          have HL1 := Lib.hid hlfr
          have HL2 := Lib.hid hlv
          clear hlfr hlv
          refine wp_region_spine 19 [false] [] ?af5 (fun V => GrAt V B b gl cl (some ⟨ge, 0, none⟩) ce bo G1 ∧ Touch (fun k => k = gl ∨ OwnB (some ⟨ge, 0, none⟩) k) w V ∧ Blk V gx 144 [.int .i64 v, .int .i64 ro, .int .i64 co]) (by kernel_rfl) (by kernel_rfl) ⟨G2.out.below (Below.refl _ _).drew, T2.out.drew, X2.out.drew⟩ ?walk5 ?spine5
          case walk5 =>
            rintro V ⟨h1, _, h3⟩
            obtain ⟨q0, q1, q2, q3⟩ := CW.out V h1
            have x1 := h3.cell 1 rfl
            clear h1 h3
            simp only [List.take_succ_cons, List.take_zero]
            repeat (go_big_quiet_step (fail))
            refine wpQuiet_nil ?_
            rfl
          case spine5 =>
            rintro V ⟨h1, h2, h3⟩
            obtain ⟨q0, q1, q2, q3⟩ := CW.out V h1
            have z0 := h1.left.free fr
            have G3 := Lib.hid (h1.putL fr (lfr - ro))
            have T3 := Lib.hid (h2.setCell (p := ⟨gl, fr, none⟩) (.inl (.inl rfl)) (.int .i64 (lfr - ro)))
            have X3 := Lib.hid (h3.setCell_ne (p := ⟨gl, fr, none⟩) hgx (.int .i64 (lfr - ro)))
            clear h1 h2 h3
            refine spineV_cons ?_
            unfold StepV
            go_simp
            generalize V.setCell ⟨gl, fr, none⟩ (.int .i64 (lfr - ro)) = V1 at G3 T3 X3 ⊢
            clear q0 q1 q2 q3 z0
            refine spineV_nil ?_
            go_upto_region 6 with fail
            have CV : Hid (∀ W, GrAt W B b gl cl (some ⟨ge, 0, none⟩) ce bo { G1 with left := G1.left.set fr (lfr - ro) } → W.cell? ⟨b, 0, none⟩ = some (.slice (some ⟨gl, 0, none⟩) n cl) ∧ W.cell? ⟨gl, v, none⟩ = some (.int .i64 lv0)) := Lib.hid (fun W h => by
              have q0 := h.blk.cell 0 rfl
              have q1 := h.left.cell v (by show v < (G1.left.set fr (lfr - ro)).length; rw [List.length_set, LL1.out]; exact hvn)
              simp only [List.length_set, LL1.out] at q0
              simp only [LV.out] at q1
              exact ⟨q0, q1⟩)
            refine wp_region_spine 12 [false] [] ?af6 (fun V => GrAt V B b gl cl (some ⟨ge, 0, none⟩) ce bo { G1 with left := G1.left.set fr (lfr - ro) } ∧ Touch (fun k => k = gl ∨ OwnB (some ⟨ge, 0, none⟩) k) w V ∧ Blk V gx 144 [.int .i64 v, .int .i64 ro, .int .i64 co]) (by kernel_rfl) (by kernel_rfl) ⟨G3.out.below (Below.refl _ _).drew, T3.out.drew, X3.out.drew⟩ ?walk6 ?spine6
            case walk6 =>
              rintro V ⟨h1, _, h3⟩
              obtain ⟨q0, q1⟩ := CV.out V h1
              have x0 := h3.cell 0 rfl
              have x1 := h3.cell 1 rfl
              clear h1 h3
              simp only [List.take_succ_cons, List.take_zero]
              repeat (go_big_quiet_step (fail))
              refine wpQuiet_nil ?_
              rfl
            case spine6 =>
              rintro V ⟨h1, h2, h3⟩
              obtain ⟨q0, q1⟩ := CV.out V h1
              have z0 := h1.left.free v
              have G4 := Lib.hid (h1.putL v (lv0 + ro))
              have T4 := Lib.hid (h2.setCell (p := ⟨gl, v, none⟩) (.inl (.inl rfl)) (.int .i64 (lv0 + ro)))
              have X4 := Lib.hid (h3.setCell_ne (p := ⟨gl, v, none⟩) hgx (.int .i64 (lv0 + ro)))
              clear h1 h2 h3
              refine spineV_cons ?_
              unfold StepV
              go_simp
              generalize V.setCell ⟨gl, v, none⟩ (.int .i64 (lv0 + ro)) = V2 at G4 T4 X4 ⊢
              clear q0 q1 z0
              refine spineV_nil ?_
              have x1 := X4.out.cell 1 rfl
              go_wp2_with fail
              have PU := push_c b gl cl ce bo B (some ⟨ge, 0, none⟩) { left := (G1.left.set fr (lfr - ro)).set v (lv0 + ro), es := G1.es, outs := G1.outs } k ro V2 (by show k < G1.es.length; rw [AL.out.le, HML.out]; exact hlt) (by show tw k < G1.es.length; rw [hp2, AL.out.le, HML.out]; exact hk1) (by show G1.es.length ≤ 4096; rw [AL.out.le, HML.out]; exact hle)
                (by show -8589934592 ≤ G1.room k ∧ G1.room k ≤ 8589934592; rw [HRM.out]; omega) (by show -8589934592 ≤ G1.room (tw k) ∧ G1.room (tw k) ≤ 8589934592; rw [hp2]; omega) (by omega) G4.out
              refine PU.mono ?_
              rintro e V3 ⟨rfl, g5, t5⟩
              have G5 : GrAt V3 B b gl cl (some ⟨ge, 0, none⟩) ce bo (G1.push1 k ro) := by
                have e := PE.out ro (lfr - ro) (lv0 + ro) rfl rfl
                rw [← e]
                exact g5
              have G5 := Lib.hid G5
              have T5 := Lib.hid (T4.out.trans (t5.mono (fun q hq => .inr hq)))
              clear g5 t5 PU x1
              go_wp2_with fail
              go_roundg (gk - 1)
              case measure => omega
              case rel => exact ⟨k + 1, by go_num, by omega, Lib.hid ⟨_, AY.out, SY.out, G5.out, T5.out⟩⟩
        · have d1 : decide (co < 0) = false := decide_eq_false hco
          have SN := Lib.hid (SA.out.no (fun h => hco (by have := h.2; rw [HCO.out] at this; exact this)))
          have al := (Below.refl wr.heap.size wr).alloc (Nat.le_refl _) (.cells #[.int .i64 v, .int .i64 ro, .int .i64 co] 144)
          have G2 := Lib.hid (GA.out.below al)
          have T2 := Lib.hid (TA.out.below al)
          clear al
          go_wp2_with fail
          go_roundg (gk - 1)
          case measure => omega
          case rel => exact ⟨k + 1, by go_num, by omega, Lib.hid ⟨G1, AL.out, SN.out, G2.out, T2.out⟩⟩
      · have hp1 : (k : Int) % 2 = 1 := by omega
        have SN := Lib.hid (SA.out.no (fun h => hpar h.1))
        have al := (Below.refl wr.heap.size wr).alloc (Nat.le_refl _) (.cells #[.int .i64 v, .int .i64 ro, .int .i64 co] 144)
        have G2 := Lib.hid (GA.out.below al)
        have T2 := Lib.hid (TA.out.below al)
        clear al
        go_wp2_with fail
        go_roundg (gk - 1)
        case measure => omega
        case rel => exact ⟨k + 1, by go_num, by omega, Lib.hid ⟨G1, AL.out, SN.out, G2.out, T2.out⟩⟩
    · obtain rfl : ml = k := by omega
      have SP : Hid (PotD G1 n (List.replicate n 0) 0) := Lib.hid (by
        have h := SA.out
        have e : G1.es.length = ml := by rw [AL.out.le, HML.out]
        rw [← e] at h
        have h2 := h.pot
        rw [HN.out] at h2
        exact h2)
      have OK1 : Hid (G1.Ok n) := Lib.hid (by have := SA.out.ok; rw [HN.out] at this; exact this)
      have FT1 := Lib.hid SA.out.fit
      have hm1 := make_64 n (by omega)
      have c2 := GA.out.blk.cell 2 rfl
      rw [OK1.out.lo] at c2
      clear SA S0
      have F0 := Lib.hid (fl_new 2 n wr)
      have al := (Below.refl wr.heap.size wr).alloc (Nat.le_refl _) (.cells (Array.replicate n (.int .i64 0)) 2)
      have G2 := Lib.hid (GA.out.below al)
      have T2 := Lib.hid (TA.out.below al)
      have hgp : w.heap.size ≤ wr.heap.size := TA.out.size
      have hgl : gl < wr.heap.size := GA.out.left.lt.2
      have EB2 := Lib.hid (fun k (h : OwnB E k) => (ownLt GA.out.es h).1)
      have HO1 := Lib.hid (GA.out.outs.more (S' := fun k => k = b ∨ k = gl ∨ OwnB E k ∨ k = wr.heap.size) (fun k hk hn hs => by
        rcases hs with a | a | a | a
        · exact hn (.inl a)
        · exact hn (.inr (.inl a))
        · exact hn (.inr (.inr a))
        · omega))
      have HO2 := Lib.hid (HO1.out.below GA.out.bo.1 al)
      have hbgp : b ≠ wr.heap.size := by have := GA.out.blk.lt; omega
      have hglp : gl ≠ wr.heap.size := by omega
      have hbop : bo ≠ wr.heap.size := by have := GA.out.bo.1; omega
      have hegp : ¬ OwnB E wr.heap.size := fun h => by have := EB2.out _ h; omega
      clear al HO1
      go_wp2_with fail
      generalize wr.alloc (.cells (Array.replicate n (.int .i64 0)) 2) = w2 at F0 G2 T2 HO2 ⊢
      generalize wr.heap.size = gp at *
      clear c2 GA TA
      go_loopg [8] (restV G1.left).toNat (fun q ev wr => Hid (∃ G2 p D, Dp.Alike G G2 ∧ G2.Ok n ∧ Fits N G2 ∧ GrAt wr B b gl cl E ce bo G2 ∧ Fl 2 wr gp p ∧ PotD G2 n p D ∧ (restV G2.left).toNat = q ∧ Touch (fun k => k = gl ∨ OwnB E k) w wr ∧ OutsAt wr bo G2.outs (fun k => k = b ∨ k = gl ∨ OwnB E k ∨ k = gp)))
      case atStart => exact Lib.hid ⟨G1, _, 0, AL.out, OK1.out, FT1.out, G2.out, F0.out, SP.out, rfl, T2.out, HO2.out⟩
      case round =>
        clear AL OK1 FT1 G2 F0 SP T2
        obtain ⟨G2, p, D, q1, q2, q3, q4, q5, q6, q7, q8, q9⟩ := hrel.out
        have AL := Lib.hid q1
        have OK := Lib.hid q2
        have FT := Lib.hid q3
        have GA := Lib.hid q4
        have FP := Lib.hid q5
        have PD := Lib.hid q6
        have HR := Lib.hid q7
        have TA := Lib.hid q8
        have PL := Lib.hid q6.len
        have HO := Lib.hid q9
        clear hrel q1 q2 q3 q4 q5 q6 q7 q8 q9 HO2
        go_wp2_with fail
        refine (nearest_c b gl cl ce bo B n n E (some ⟨gp, 0, none⟩) G2 p wr OK.out (PD.out.pot n2) GA.out FP.out.ints ⟨Nat.le_refl _, by omega⟩).mono ?_
        rintro e w3 ⟨gf, gb, fa, vi, en, rfl, hb3, hf3, hv3, z1, z2, nr⟩
        have G3 := Lib.hid (GA.out.below hb3)
        have T3 := Lib.hid (TA.out.below hb3)
        have P3 := Lib.hid (FP.out.below hb3)
        have F3 := Lib.hid hf3
        have V3 := Lib.hid hv3
        have O3 := Lib.hid (HO.out.below GA.out.bo.1 hb3)
        have NRR := Lib.hid nr
        have hpf : gp ≠ gf := by have := FP.out.lt; omega
        have hpb : gb ≠ gl ∧ ¬ OwnB E gb := by
          have h1 := GA.out.left.lt.2
          refine ⟨by omega, fun h => ?_⟩
          have := (ownLt GA.out.es h).1
          omega
        clear hb3 hf3 hv3 nr
        by_cases hen : en < 0
        · have hem : en = -1 := by
            rcases NRR.out.fin with ⟨e, _⟩ | ⟨t, e, _⟩
            · exact e
            · omega
          subst hem
          go_wp2_with fail
          exact bodyPost_ret (v := .slice (some ⟨gp, 0, none⟩) n n) (by simp [results, Try.results63, go_sem]) rfl ⟨gp, G2, p, fa, vi, D, rfl, P3.out, G3.out, OK.out, FT.out, PD.out, NRR.out, T3.out, hgp⟩
        · obtain ⟨t, rfl⟩ : ∃ t : Nat, en = t := ⟨en.toNat, by omega⟩
          have TF : Hid (t < n ∧ G2.lf t < 0 ∧ fa.getD t 0 < never ∧ ∀ v, v < n → G2.lf v < 0 → fa.getD t 0 ≤ fa.getD v 0) := Lib.hid (by
            rcases NRR.out.fin with ⟨e, _⟩ | ⟨t', e, h1, h2, h3, h4⟩
            · omega
            · obtain rfl : t' = t := by omega
              exact ⟨h1, h2, h3, h4⟩)
          have htn : t < n := TF.out.1
          have hti : (t : Int) < (n : Int) := by omega
          have ftb := NRR.out.top t htn
          have P0 : Hid (Fl 2 w3 gp (potI n p fa (fa.getD t 0) 0)) := Lib.hid (by rw [← potI_zero PL.out fa (fa.getD t 0)]; exact P3.out)
          have PG := Lib.hid (fun k v (hv : v < n) => potI_get (p := p) (fa := fa) (d := fa.getD t 0) (k := k) hv)
          have PS := Lib.hid (fun k (hk : k < n) => potI_succ (p := p) (fa := fa) (d := fa.getD t 0) hk)
          have PEN := Lib.hid (potI_end n p fa (fa.getD t 0))
          have PLN := Lib.hid (potI_len n p fa (fa.getD t 0))
          have FTC : Hid (∀ W, Fl 2 W gf fa → W.cell? ⟨gf, t, none⟩ = some (.int .i64 (fa.getD t 0))) := Lib.hid (fun W h => h.cell t (by rw [NRR.out.l1]; exact htn))
          have RP := Lib.hid (fun x ks s (h1 : Sent G2 n vi ks s t x) h2 => round_pot OK.out PD.out NRR.out h1 h2)
          generalize hft : fa.getD t 0 = ft at *
          have HFT := Lib.hid hft
          clear hft P3
          unfold never at ftb
          go_wp2_with fail
          go_loopw [83] (fun iv wr => ∃ k : Nat, iv = .int .i64 k ∧ k ≤ n ∧ Hid (Fl 2 wr gp (potI n p fa ft k) ∧ Fl 2 wr gf fa ∧ Fl 3 wr gb vi ∧ GrAt wr B b gl cl E ce bo G2 ∧ Touch (fun k => k = gl ∨ OwnB E k) w wr ∧ OutsAt wr bo G2.outs (fun k => k = b ∨ k = gl ∨ OwnB E k ∨ k = gp))) (fun iv _ => n - (intOf iv).toNat)
          case atStart => exact ⟨0, rfl, Nat.zero_le _, Lib.hid ⟨P0.out, F3.out, V3.out, G3.out, T3.out, O3.out⟩⟩
          case round =>
            clear P0 F3 V3 G3 T3 O3
            obtain ⟨k, rfl, hk, HJ⟩ := hrel
            by_cases hlt : k < n
            · have hki : (k : Int) < (n : Int) := by omega
              have pb := PD.out.lo k hlt
              have pd := PD.out.d
              have fkb := NRR.out.top k hlt
              unfold never at fkb
              have PCK : Hid (∀ W, Fl 2 W gp (potI n p fa ft k) → W.cell? ⟨gp, k, none⟩ = some (.int .i64 (p.getD k 0))) := Lib.hid (fun W h => by
                have := h.cell k (by rw [PLN.out]; exact hlt)
                rw [PG.out k k hlt, if_neg (Nat.lt_irrefl k)] at this
                exact this)
              have FKC : Hid (∀ W, Fl 2 W gf fa → W.cell? ⟨gf, k, none⟩ = some (.int .i64 (fa.getD k 0))) := Lib.hid (fun W h => h.cell k (by rw [NRR.out.l1]; exact hlt))
              have PSK := Lib.hid (PS.out k hlt)
              generalize p.getD k 0 = pk at *
              generalize fa.getD k 0 = fk at *
              have hmn := fun ts t W => min_i64 fk ft ts t W
              generalize hy : min fk ft = y at *
              have hy1 : 0 ≤ y ∧ y ≤ 1152921504606846976 := by omega
              have s1 : IntKind.i64.wrap (pk + y) = pk + y := IntWalk.i64_in _ (by omega)
              clear hy
              go_upto_region 16 with fail
              refine wp_region_spine 15 [false] [] ?af16 (fun V => Fl 2 V gp (potI n p fa ft k) ∧ Fl 2 V gf fa ∧ Fl 3 V gb vi ∧ GrAt V B b gl cl E ce bo G2 ∧ Touch (fun k => k = gl ∨ OwnB E k) w V ∧ OutsAt V bo G2.outs (fun k => k = b ∨ k = gl ∨ OwnB E k ∨ k = gp)) (by kernel_rfl) (by kernel_rfl) ⟨Blk.drew HJ.out.1, Blk.drew HJ.out.2.1, Blk.drew HJ.out.2.2.1, HJ.out.2.2.2.1.below (Below.refl _ _).drew, HJ.out.2.2.2.2.1.drew, HJ.out.2.2.2.2.2.below HJ.out.2.2.2.1.bo.1 (Below.refl _ _).drew⟩ ?walk16 ?spine16
              case walk16 =>
                rintro V ⟨h1, h2, _, _, _, _⟩
                have q0 := PCK.out V h1
                have q1 := FKC.out V h2
                have q2 := FTC.out V h2
                clear h1 h2
                simp only [List.take_succ_cons, List.take_zero]
                repeat (go_big_quiet_step (fail))
                refine wpQuiet_nil ?_
                rfl
              case spine16 =>
                rintro V ⟨h1, h2, h3, h4, h5, h6⟩
                have q0 := PCK.out V h1
                have z0 := h1.free k
                have H1 := h1.put k (pk + y)
                rw [PSK.out] at H1
                have H1 := Lib.hid H1
                have H2 := Lib.hid (h2.set_ne (p := ⟨gp, k, none⟩) (fun e => hpf e.symm) (.int .i64 (pk + y)))
                have H3 := Lib.hid (h3.set_ne (p := ⟨gp, k, none⟩) (fun e => by simp only at e; subst e; exact (h1.ne h3 (by decide)) rfl) (.int .i64 (pk + y)))
                have H5 := Lib.hid (h5.setCell (p := ⟨gp, k, none⟩) (.inr hgp) (.int .i64 (pk + y)))
                have H4 := Lib.hid (h4.far h6 (p := ⟨gp, k, none⟩) rfl hbgp hglp hegp hbop (.int .i64 (pk + y)))
                clear h1 h2 h3 h4 h5 h6
                refine spineV_cons ?_
                unfold StepV
                go_simp
                generalize V.setCell ⟨gp, k, none⟩ (.int .i64 (pk + y)) = V1 at H1 H2 H3 H4 H5 ⊢
                clear q0 z0
                refine spineV_nil ?_
                go_wp2_with fail
                go_roundw
                case rel => exact ⟨k + 1, by go_num, by omega, Lib.hid ⟨H1.out, H2.out, H3.out, H4.out.1, H5.out, H4.out.2⟩⟩
                case measure => simp [intOf]; omega
            · obtain rfl : n = k := by omega
              obtain ⟨h1, h2, h3, h4, h5, h6⟩ := HJ.out
              rw [PEN.out] at h1
              have H1 := Lib.hid h1
              have H4 := Lib.hid h4
              have H5 := Lib.hid h5
              have H6 := Lib.hid h6
              have HV := Lib.hid h3.ints
              obtain ⟨S, s1, s2, s3, s4⟩ := NRR.out.ch
              obtain ⟨ks, s, w1, w2', w3', w4, w5⟩ := chn_way s1 s4 t ((s2 t htn).2 (by rw [HFT.out]; exact TF.out.2.2.1))
              have hsn : s < n := s3 s (w5 s (w1.last))
              have SE := Lib.hid (send_c b gl cl ce bo B n n s t E (some ⟨gb, 0, none⟩) G2 vi ks wr OK.out w1 w4 hsn htn w2' TF.out.2.1 (fun j hj => (w3' j hj).1) NRR.out.l2 ⟨Nat.le_refl _, by omega⟩ H4.out HV.out (fun q hq => by rw [ownB_some.1 hq]; exact hpb))
              have RPK := Lib.hid (fun x h => RP.out x ks s h w3')
              clear h1 h2 h3 h4 h5 h6 HJ s1 s2 s3 s4 w1 w2' w3' w4 w5 RP
              go_wp2_with fail
              refine SE.out.mono ?_
              rintro e w6 ⟨rfl, x, hse, hga, hto⟩
              have SX := Lib.hid hse
              have G6 := Lib.hid hga
              have T6 := Lib.hid (H5.out.trans hto)
              have P6 := Lib.hid (H1.out.touch hto (fun h => by
                rcases h with h | h
                · exact hglp h.symm
                · exact hegp h))
              have ok := hse.ok OK.out
              have A6 := Lib.hid (AL.out.trans (pushL_alike (x := x) ok.1))
              have O6 := Lib.hid (H6.out.touch (T := fun k => k = gl ∨ OwnB E k) H4.out.bo.1 (fun h => by
                rcases h with h | h
                · exact H4.out.bo.2.2.1 h
                · exact H4.out.bo.2.2.2 h) (fun k hk => by
                rcases hk with h | h
                · exact .inr (.inl h)
                · exact .inr (.inr (.inl h))) hto)
              rw [← (pushL_alike (x := x) ok.1).outs] at O6
              have F6 := Lib.hid (FT.out.pushL OK.out.fine (ks := ks) (x := x) (fun j hj => (ok.1 j hj).1))
              have D6 := Lib.hid (RPK.out x hse)
              have M6 := Lib.hid (rest_push hse OK.out)
              have MN := Lib.hid (rest_nn (G2.pushL ks x).left)
              have OK6 := Lib.hid ok.2.2
              clear hse hga hto ok SE RPK
              go_wp2_with fail
              go_roundg (restV (G2.pushL ks x).left).toNat
              case measure => have h1 := M6.out; have h2 := MN.out; have h3 := SX.out.x0; have h4 := HR.out; omega
              case rel => exact Lib.hid ⟨_, _, _, A6.out, OK6.out, F6.out, G6.out, P6.out, D6.out, rfl, T6.out, O6.out⟩
end Go.Proofs.Ytmebpglkeedaoaa
namespace Go.Proofs.Ytmebpglkeedaoaa
open Go.RowKit Dp
def LeastP (N : Net) (w : World) (e : Ending) (w' : World) : Prop :=
  (chE N ≠ 0 ∧ e = .returned (.tuple #[.slice none 0 0, .slice none 0 0, .int .i64 (chE N)])) ∨
  (chE N = 0 ∧ ∃ gf gp fl p, e = .returned (.tuple #[.slice (some ⟨gf, 0, none⟩) N.arcs.length N.arcs.length, .slice (some ⟨gp, 0, none⟩) N.sup.length N.sup.length, .int .i64 0]) ∧ Fl 2 w' gf fl ∧ Fl 2 w' gp p ∧ w.heap.size ≤ gf ∧ w.heap.size ≤ gp ∧ fl.length = N.arcs.length ∧ isFlow N fl = true ∧ p.length = N.sup.length ∧ (∀ v, v < p.length → potOk (p.getD v 0) = true) ∧ costK N fl N.arcs.length = prA N p N.arcs.length) ∨
  (chE N = 0 ∧ e = .returned (.tuple #[.slice none 0 0, .slice none 0 0, .int .i64 18]) ∧ ∃ c : List Int, (∀ k, k < c.length → cutAt N.sup.length c k = true) ∧ 0 < lkA N c N.arcs.length ∧ ∀ fl, isFlow N fl = false)
set_option maxHeartbeats 2000000 in
set_option maxRecDepth 100000 in
theorem Least_c (A B : Option Addr) (N : Net) (n m cA cB : Nat) (w : World) (hn : n = N.sup.length) (hm : m = N.arcs.length) (hA : n ≤ cA ∧ cA ≤ 9223372036854775807) (hB : m ≤ cB ∧ cB ≤ 9223372036854775807) (hN : NetAt w A B N) :
    Calls Try.prog 25 #[.agg #[.slice A n cA, .slice B m cB]] w fun e w' => LeastP N w e w' ∧ Below w.heap.size w w' := by
  have HN := Lib.hid hn
  have HM := Lib.hid hm
  have HNA := Lib.hid hN
  clear hn hm hN
  have B1 := Lib.hid (Blk.new' w #[.slice A n cA, .slice B m cB] 25)
  have HB1 := Lib.hid ((Below.refl w.heap.size w).alloc (Nat.le_refl _) (.cells #[.slice A n cA, .slice B m cB] 25))
  go_enter Try.func25, Try.ntmps25
  go_wp2_with fail
  generalize w.alloc (.cells #[.slice A n cA, .slice B m cB] 25) = w1 at B1 HB1 ⊢
  refine (Check_c A B N n m cA cB w1 HN.out HM.out hA hB (HNA.out.below HB1.out (Nat.le_refl _))).mono ?_
  rintro e w2 ⟨rfl, hb2⟩
  have B2 := Lib.hid (B1.out.below hb2 B1.out.lt)
  have HB2 := Lib.hid (HB1.out.trans (hb2.mono HB1.out.size))
  clear hb2 B1 HB1
  have cA0 := B2.out.cell 0 rfl
  have cB0 := B2.out.cell 1 rfl
  by_cases hch : chE N = 0
  · have HCH := Lib.hid hch
    have n2 : n ≤ 1024 := by rw [HN.out]; exact (net_len hch).2.1
    rw [hch]
    clear hch
    go_wp2_with fail
    refine (newGraph_c A B N n m cA cB w2 HN.out HM.out HCH.out hA hB (HNA.out.below HB2.out (Nat.le_refl _))).mono ?_
    rintro e w3 ⟨b, gl, cl, E, ce, bo, rfl, hb3, hg3⟩
    have HB3 := Lib.hid (HB2.out.trans (hb3.mono HB2.out.size))
    have G3 := Lib.hid hg3
    have hsz := HB2.out.size
    have S3 : Hid (∀ k, k = gl ∨ OwnB E k → w.heap.size ≤ k) := Lib.hid (fun k hk => by
      rcases hk with h | h
      · have := hg3.base.2; omega
      · have := (ownLt hg3.es h).2; omega)
    clear hb3 hg3 cA0 cB0
    go_wp2_with fail
    refine (least_c b gl cl ce bo w2.heap.size n E (gr0 N) N w3 HN.out.symm HCH.out (by rw [HN.out]; exact gr0_ok HCH.out) gr0_fits (fun i hi => by show ((esK N N.arcs.length).getD (2 * i + 1) default).room = 0; rw [(esK_get N _ i hi).2]) G3.out).mono ?_
    rintro e w4 ⟨gp, G', p, fa, vi, D, rfl, hp4, hg4, hok, hft, hpd, hnr, ht4, hgp⟩
    have HB4 := Lib.hid (Below.touch HB3.out HB3.out.size ht4 S3.out)
    have G4 := Lib.hid hg4
    have OK := Lib.hid hok
    have FT := Lib.hid hft
    have PD := Lib.hid hpd
    have NRR := Lib.hid hnr
    have P4 := Lib.hid hp4
    have hgpw : w.heap.size ≤ gp := by have := HB3.out.size; omega
    clear hp4 hg4 hok hft hpd hnr ht4
    have RN := rest_nn G'.left
    go_wp2_with fail
    refine (rest_c b gl cl ce bo w2.heap.size n E G' w4 OK.out G4.out).mono ?_
    rintro e w5 ⟨rfl, rfl⟩
    have OKN : Hid (G'.Ok N.sup.length) := Lib.hid (by rw [← HN.out]; exact OK.out)
    have CUT : Hid (lkA N (cutL N.sup.length (fun v => decide (fa.getD v 0 < never))) N.arcs.length = restV G'.left) := Lib.hid (by
      have h := NRR.out
      rw [HN.out] at h
      exact end_cut HCH.out OKN.out FT.out h)
    have FLO := Lib.hid (fun h => end_flow HCH.out OKN.out FT.out PD.out.rc h)
    generalize restV G'.left = R at *
    by_cases hr : 0 < R
    · have d1 : decide (0 < R) = true := decide_eq_true hr
      have C1 : Hid (∃ c : List Int, (∀ k, k < c.length → cutAt N.sup.length c k = true) ∧ 0 < lkA N c N.arcs.length ∧ ∀ fl, isFlow N fl = false) := Lib.hid ⟨_, cutL_ok, by rw [CUT.out]; exact hr, cut_none HCH.out cutL_ok (by rw [CUT.out]; exact hr)⟩
      go_wp2_with fail
      exact bodyPost_ret (v := .tuple #[.slice none 0 0, .slice none 0 0, .int .i64 18]) (by simp [results, Try.results25, go_sem]) rfl ⟨.inr (.inr ⟨HCH.out, rfl, C1.out⟩), HB4.out⟩
    · have d1 : decide (0 < R) = false := decide_eq_false hr
      have FL := Lib.hid (FLO.out (by omega))
      go_wp2_with fail
      refine (flow_c b gl cl ce bo w2.heap.size n E G' w4 OK.out G4.out).mono ?_
      rintro e w5 ⟨gf, rfl, hb5, hf5, hgf⟩
      have HB5 := Lib.hid (HB4.out.trans (hb5.mono HB4.out.size))
      have P5 := Lib.hid (P4.out.below hb5)
      rw [flowE_flow FT.out] at hf5
      have F5 := Lib.hid hf5
      have hgfw : w.heap.size ≤ gf := by have := HB4.out.size; omega
      have e1 : G'.es.length / 2 = N.arcs.length := by rw [FT.out.es]; omega
      rw [e1]
      have POK : Hid (∀ v, v < p.length → potOk (p.getD v 0) = true) := Lib.hid (fun v hv => by
        rw [PD.out.len] at hv
        have := PD.out.lo v hv
        have := PD.out.d
        rw [potOk_iff]
        omega)
      clear hb5 hf5
      go_wp2_with fail
      exact bodyPost_ret (v := .tuple #[.slice (some ⟨gf, 0, none⟩) N.arcs.length N.arcs.length, .slice (some ⟨gp, 0, none⟩) n n, .int .i64 0]) (by simp [results, Try.results25, go_sem]) rfl ⟨.inr (.inl ⟨HCH.out, gf, gp, flowL N G', p, by rw [HN.out], F5.out, P5.out, hgfw, hgpw, flowL_len N G', FL.out.1, by rw [PD.out.len, HN.out], POK.out, FL.out.2⟩), HB5.out⟩
  · have hne : (chE N == 0) = false := by simpa using hch
    have HCH := Lib.hid hch
    generalize hq : chE N = q at *
    have HQ := Lib.hid hq
    clear hq
    go_wp2_with fail
    exact bodyPost_ret (v := .tuple #[.slice none 0 0, .slice none 0 0, .int .i64 q]) (by simp [results, Try.results25, go_sem]) rfl ⟨.inl ⟨by rw [HQ.out]; exact HCH.out, by rw [HQ.out]⟩, HB2.out⟩
end Go.Proofs.Ytmebpglkeedaoaa
namespace Go.Proofs.Ytmebpglkeedaoaa
open Go.RowKit Dp
@[go_sem] theorem on_0 : bits BinOp.and IntKind.u64 0 6148914691236517205 = 0 := by kernel_rfl
@[go_sem] theorem on_1 : IntKind.u64.wrap (0 + 0) = 0 := by kernel_rfl
@[go_sem] theorem on_2 : IntKind.u64.wrap 0 = 0 := by kernel_rfl
@[go_sem] theorem on_3 : bits BinOp.and IntKind.u64 0 3689348814741910323 = 0 := by kernel_rfl
@[go_sem] theorem on_4 : bits BinOp.and IntKind.u64 0 1085102592571150095 = 0 := by kernel_rfl
@[go_sem] theorem on_5 : bits BinOp.and IntKind.i64 0 127 = 0 := by kernel_rfl
@[go_sem] theorem on_6 : IntKind.i64.wrap 0 = 0 := by kernel_rfl
@[go_sem] theorem on_7 : bits BinOp.and IntKind.u64 1 6148914691236517205 = 1 := by kernel_rfl
@[go_sem] theorem on_8 : IntKind.u64.wrap (0 + 1) = 1 := by kernel_rfl
@[go_sem] theorem on_9 : IntKind.u64.wrap 1 = 1 := by kernel_rfl
@[go_sem] theorem on_10 : bits BinOp.and IntKind.u64 1 3689348814741910323 = 1 := by kernel_rfl
@[go_sem] theorem on_11 : bits BinOp.and IntKind.u64 1 1085102592571150095 = 1 := by kernel_rfl
@[go_sem] theorem on_12 : IntKind.u64.wrap (1 + 0) = 1 := by kernel_rfl
@[go_sem] theorem on_13 : bits BinOp.and IntKind.i64 1 127 = 1 := by kernel_rfl
@[go_sem] theorem on_14 : IntKind.i64.wrap 1 = 1 := by kernel_rfl
@[go_sem] theorem on_15 : bits BinOp.and IntKind.u64 2 6148914691236517205 = 0 := by kernel_rfl
@[go_sem] theorem on_16 : IntKind.u64.wrap 2 = 2 := by kernel_rfl
@[go_sem] theorem on_17 : bits BinOp.and IntKind.u64 3 6148914691236517205 = 1 := by kernel_rfl
@[go_sem] theorem on_18 : IntKind.u64.wrap (1 + 1) = 2 := by kernel_rfl
@[go_sem] theorem on_19 : bits BinOp.and IntKind.u64 2 3689348814741910323 = 2 := by kernel_rfl
@[go_sem] theorem on_20 : IntKind.u64.wrap (0 + 2) = 2 := by kernel_rfl
@[go_sem] theorem on_21 : bits BinOp.and IntKind.u64 2 1085102592571150095 = 2 := by kernel_rfl
@[go_sem] theorem on_22 : IntKind.u64.wrap (2 + 0) = 2 := by kernel_rfl
@[go_sem] theorem on_23 : bits BinOp.and IntKind.i64 2 127 = 2 := by kernel_rfl
@[go_sem] theorem on_24 : IntKind.u64.wrap 3 = 3 := by kernel_rfl
@[go_sem] theorem on_25 : IntKind.i64.wrap 2 = 2 := by kernel_rfl
set_option maxHeartbeats 2000000 in
set_option maxRecDepth 100000 in
theorem ones64_0 (w : World) : Calls Try.prog 112 #[.int .u64 0] w fun e w' => e = .returned (.int .i64 0) ∧ w = w' := by
  go_enter Try.func112, Try.ntmps112
  go_wp2_with fail
  exact bodyPost_ret (v := .int .i64 0) (by simp [results, Try.results112, go_sem]) rfl ⟨rfl, rfl⟩
set_option maxHeartbeats 2000000 in
set_option maxRecDepth 100000 in
theorem ones_0 (w : World) : Calls Try.prog 95 #[.int .u64 0] w fun e w' => e = .returned (.int .i64 0) ∧ w = w' := by
  go_enter Try.func95, Try.ntmps95
  go_wp2_with fail
  refine (ones64_0 w).mono ?_
  rintro e w1 ⟨rfl, rfl⟩
  go_wp2_with fail
  exact bodyPost_ret (v := .int .i64 0) (by simp [results, Try.results95, go_sem]) rfl ⟨rfl, rfl⟩
set_option maxHeartbeats 2000000 in
set_option maxRecDepth 100000 in
theorem ones64_1 (w : World) : Calls Try.prog 112 #[.int .u64 1] w fun e w' => e = .returned (.int .i64 1) ∧ w = w' := by
  go_enter Try.func112, Try.ntmps112
  go_wp2_with fail
  exact bodyPost_ret (v := .int .i64 1) (by simp [results, Try.results112, go_sem]) rfl ⟨rfl, rfl⟩
set_option maxHeartbeats 2000000 in
set_option maxRecDepth 100000 in
theorem ones_1 (w : World) : Calls Try.prog 95 #[.int .u64 1] w fun e w' => e = .returned (.int .i64 1) ∧ w = w' := by
  go_enter Try.func95, Try.ntmps95
  go_wp2_with fail
  refine (ones64_1 w).mono ?_
  rintro e w1 ⟨rfl, rfl⟩
  go_wp2_with fail
  exact bodyPost_ret (v := .int .i64 1) (by simp [results, Try.results95, go_sem]) rfl ⟨rfl, rfl⟩
set_option maxHeartbeats 2000000 in
set_option maxRecDepth 100000 in
theorem ones64_2 (w : World) : Calls Try.prog 112 #[.int .u64 2] w fun e w' => e = .returned (.int .i64 1) ∧ w = w' := by
  go_enter Try.func112, Try.ntmps112
  go_wp2_with fail
  exact bodyPost_ret (v := .int .i64 1) (by simp [results, Try.results112, go_sem]) rfl ⟨rfl, rfl⟩
set_option maxHeartbeats 2000000 in
set_option maxRecDepth 100000 in
theorem ones_2 (w : World) : Calls Try.prog 95 #[.int .u64 2] w fun e w' => e = .returned (.int .i64 1) ∧ w = w' := by
  go_enter Try.func95, Try.ntmps95
  go_wp2_with fail
  refine (ones64_2 w).mono ?_
  rintro e w1 ⟨rfl, rfl⟩
  go_wp2_with fail
  exact bodyPost_ret (v := .int .i64 1) (by simp [results, Try.results95, go_sem]) rfl ⟨rfl, rfl⟩
set_option maxHeartbeats 2000000 in
set_option maxRecDepth 100000 in
theorem ones64_3 (w : World) : Calls Try.prog 112 #[.int .u64 3] w fun e w' => e = .returned (.int .i64 2) ∧ w = w' := by
  go_enter Try.func112, Try.ntmps112
  go_wp2_with fail
  exact bodyPost_ret (v := .int .i64 2) (by simp [results, Try.results112, go_sem]) rfl ⟨rfl, rfl⟩
set_option maxHeartbeats 2000000 in
set_option maxRecDepth 100000 in
theorem ones_3 (w : World) : Calls Try.prog 95 #[.int .u64 3] w fun e w' => e = .returned (.int .i64 2) ∧ w = w' := by
  go_enter Try.func95, Try.ntmps95
  go_wp2_with fail
  refine (ones64_3 w).mono ?_
  rintro e w1 ⟨rfl, rfl⟩
  go_wp2_with fail
  exact bodyPost_ret (v := .int .i64 2) (by simp [results, Try.results95, go_sem]) rfl ⟨rfl, rfl⟩
structure CO (w : World) (gL gA gB : Nat) : Prop where
  L : Blk w gL 22 [.slice (some ⟨gA, 0, none⟩) 2 2, .slice (some ⟨gB, 0, none⟩) 2 2]
  A : Blk w gA 2 [.int .i64 4, .int .i64 1]
  B : Blk w gB 2 [.int .i64 2, .int .i64 3]
theorem CO.below {w w' : World} {gL gA gB k : Nat} (h : CO w gL gA gB) (hb : Below k w w') (hk : w.heap.size ≤ k) : CO w' gL gA gB :=
  ⟨h.L.below hb (by have := h.L.lt; omega), h.A.below hb (by have := h.A.lt; omega), h.B.below hb (by have := h.B.lt; omega)⟩
set_option maxHeartbeats 4000000 in
set_option maxRecDepth 100000 in
theorem checkCosts_c (gL gA gB : Nat) (w : World) (h : CO w gL gA gB) : Calls Try.prog 94 #[.slice (some ⟨gL, 0, none⟩) 2 2] w fun e w' => e = .returned (.int .i64 0) ∧ w = w' := by
  have H0 := Lib.hid h
  clear h
  have l0 := H0.out.L.cell 0 rfl
  have l1 := H0.out.L.cell 1 rfl
  have a0 := H0.out.A.cell 0 rfl
  have a1 := H0.out.A.cell 1 rfl
  have b0 := H0.out.B.cell 0 rfl
  have b1 := H0.out.B.cell 1 rfl
  go_enter Try.func94, Try.ntmps94
  go_wp2_with fail
  refine wp_loop_rounds 3 ?_
  rw [rounds_succ]
  go_wp2_with fail
  rw [rounds_succ]
  go_wp2_with fail
  rw [rounds_succ]
  go_wp2_with fail
  refine wp_loop_rounds 3 ?_
  rw [rounds_succ]
  go_wp2_with fail
  refine wp_loop_rounds 3 ?_
  rw [rounds_succ]
  go_wp2_with fail
  rw [rounds_succ]
  go_wp2_with fail
  rw [rounds_succ]
  go_wp2_with fail
  rw [rounds_succ]
  go_wp2_with fail
  refine wp_loop_rounds 3 ?_
  rw [rounds_succ]
  go_wp2_with fail
  rw [rounds_succ]
  go_wp2_with fail
  rw [rounds_succ]
  go_wp2_with fail
  rw [rounds_succ]
  go_wp2_with fail
  exact bodyPost_ret (v := .int .i64 0) (by simp [results, Try.results94, go_sem]) rfl ⟨rfl, rfl⟩
end Go.Proofs.Ytmebpglkeedaoaa
namespace Go.Proofs.Ytmebpglkeedaoaa
open Go.RowKit Dp
@[go_sem] theorem an_0 : bits BinOp.and IntKind.i64 0 1 = 0 := by kernel_rfl
@[go_sem] theorem an_1 : bits BinOp.and IntKind.i64 1 1 = 1 := by kernel_rfl
@[go_sem] theorem an_2 : bits BinOp.and IntKind.i64 2 1 = 0 := by kernel_rfl
@[go_sem] theorem an_3 : bits BinOp.and IntKind.i64 3 1 = 1 := by kernel_rfl
@[go_sem] theorem or_0_1 : bits BinOp.or IntKind.i64 0 1 = 1 := by kernel_rfl
@[go_sem] theorem or_0_2 : bits BinOp.or IntKind.i64 0 2 = 2 := by kernel_rfl
@[go_sem] theorem or_1_1 : bits BinOp.or IntKind.i64 1 1 = 1 := by kernel_rfl
@[go_sem] theorem or_1_2 : bits BinOp.or IntKind.i64 1 2 = 3 := by kernel_rfl
@[go_sem] theorem or_2_1 : bits BinOp.or IntKind.i64 2 1 = 3 := by kernel_rfl
@[go_sem] theorem or_2_2 : bits BinOp.or IntKind.i64 2 2 = 2 := by kernel_rfl
@[go_sem] theorem or_3_1 : bits BinOp.or IntKind.i64 3 1 = 3 := by kernel_rfl
@[go_sem] theorem or_3_2 : bits BinOp.or IntKind.i64 3 2 = 3 := by kernel_rfl
structure AsJ (w : World) (gL gA gB r gb : Nat) (b0 b1 b2 b3 : Int) (W : World) : Prop where
  co : CO W gL gA gB
  res : Blk W r 87 [.slice none 0 0, .int .i64 0, .slice none 0 0, .slice none 0 0]
  best : Blk W gb 2 [.int .i64 b0, .int .i64 b1, .int .i64 b2, .int .i64 b3]
  nL : gL ≠ gb
  nA : gA ≠ gb
  nB : gB ≠ gb
  nr : r ≠ gb
  own : w.heap.size ≤ gb
  bel : Below w.heap.size w W
theorem AsJ.drew {w W : World} {gL gA gB r gb : Nat} {b0 b1 b2 b3 : Int} (h : AsJ w gL gA gB r gb b0 b1 b2 b3 W) : AsJ w gL gA gB r gb b0 b1 b2 b3 W.drew :=
  ⟨⟨h.co.L, h.co.A, h.co.B⟩, h.res, h.best, h.nL, h.nA, h.nB, h.nr, h.own, h.bel.drew⟩
theorem AsJ.set0 {w W : World} {gL gA gB r gb : Nat} {b0 b1 b2 b3 : Int} (h : AsJ w gL gA gB r gb b0 b1 b2 b3 W) (x : Int) : AsJ w gL gA gB r gb x b1 b2 b3 (W.setCell ⟨gb, 0, none⟩ (.int .i64 x)) :=
  ⟨⟨h.co.L.setCell_ne h.nL _, h.co.A.setCell_ne h.nA _, h.co.B.setCell_ne h.nB _⟩, h.res.setCell_ne h.nr _, h.best.setCell 0 _, h.nL, h.nA, h.nB, h.nr, h.own, h.bel.setCell h.own _⟩
theorem AsJ.set1 {w W : World} {gL gA gB r gb : Nat} {b0 b1 b2 b3 : Int} (h : AsJ w gL gA gB r gb b0 b1 b2 b3 W) (x : Int) : AsJ w gL gA gB r gb b0 x b2 b3 (W.setCell ⟨gb, 1, none⟩ (.int .i64 x)) :=
  ⟨⟨h.co.L.setCell_ne h.nL _, h.co.A.setCell_ne h.nA _, h.co.B.setCell_ne h.nB _⟩, h.res.setCell_ne h.nr _, h.best.setCell 1 _, h.nL, h.nA, h.nB, h.nr, h.own, h.bel.setCell h.own _⟩
theorem AsJ.set2 {w W : World} {gL gA gB r gb : Nat} {b0 b1 b2 b3 : Int} (h : AsJ w gL gA gB r gb b0 b1 b2 b3 W) (x : Int) : AsJ w gL gA gB r gb b0 b1 x b3 (W.setCell ⟨gb, 2, none⟩ (.int .i64 x)) :=
  ⟨⟨h.co.L.setCell_ne h.nL _, h.co.A.setCell_ne h.nA _, h.co.B.setCell_ne h.nB _⟩, h.res.setCell_ne h.nr _, h.best.setCell 2 _, h.nL, h.nA, h.nB, h.nr, h.own, h.bel.setCell h.own _⟩
theorem AsJ.start {w V : World} {gL gA gB r : Nat} (h : CO V gL gA gB) (hr : Blk V r 87 [.slice none 0 0, .int .i64 0, .slice none 0 0, .slice none 0 0]) (hb : Below w.heap.size w V) : AsJ w gL gA gB r V.heap.size 0 0 0 0 (V.alloc (.cells (Array.replicate 4 (.int .i64 0)) 2)) := by
  have b2 := hb.alloc hb.size (.cells (Array.replicate 4 (.int .i64 0)) 2)
  have l1 := h.L.lt
  have l2 := h.A.lt
  have l3 := h.B.lt
  have l4 := hr.lt
  have l5 := hb.size
  have r2 := Blk.new' V (Array.replicate 4 (.int .i64 0)) 2
  refine ⟨⟨h.L.alloc _, h.A.alloc _, h.B.alloc _⟩, hr.alloc _, ?_, by omega, by omega, by omega, by omega, by omega, b2⟩
  simpa using r2
def DualsC : Prop := ∀ (gL gA gB : Nat) (V : World), CO V gL gA gB → Calls Try.prog 96 #[.slice (some ⟨gL, 0, none⟩) 2 2, .int .i64 2] V fun e V' => ∃ R rn rc Q qn qc, e = .returned (.tuple #[.slice R rn rc, .slice Q qn qc]) ∧ Below V.heap.size V V'
structure AsM (w : World) (gL gA gB r gb gm : Nat) (A : Option Addr) (n cap : Nat) (cs : List Value) (W : World) : Prop where
  j : AsJ w gL gA gB r gb 3 3 2 0 W
  m : Blk W gm 87 [.slice A n cap, .int .i64 3, .slice none 0 0, .slice none 0 0]
  own : W.ownsRow (gm + 1) 3 1 (.slice A n cap) n cs
  lt : gL < gm ∧ gA < gm ∧ gB < gm ∧ r < gm ∧ gb < gm
theorem AsJ.below {w W V : World} {gL gA gB r gb : Nat} {b0 b1 b2 b3 : Int} (h : AsJ w gL gA gB r gb b0 b1 b2 b3 W) (hb : Below W.heap.size W V) : AsJ w gL gA gB r gb b0 b1 b2 b3 V :=
  ⟨h.co.below hb (Nat.le_refl _), h.res.below hb h.res.lt, h.best.below hb h.best.lt, h.nL, h.nA, h.nB, h.nr, h.own, h.bel.trans (hb.mono h.bel.size)⟩
theorem AsM.below {w W V : World} {gL gA gB r gb gm n cap : Nat} {A : Option Addr} {cs : List Value} (h : AsM w gL gA gB r gb gm A n cap cs W) (hb : Below W.heap.size W V) : AsM w gL gA gB r gb gm A n cap cs V :=
  ⟨h.j.below hb, h.m.below hb h.m.lt, ownBelow h.own hb, h.lt⟩
theorem AsM.alloc {w W : World} {gL gA gB r gb gm n cap : Nat} {A : Option Addr} {cs : List Value} (h : AsM w gL gA gB r gb gm A n cap cs W) (o : Obj) : AsM w gL gA gB r gb gm A n cap cs (W.alloc o) :=
  h.below ((Below.refl _ _).alloc (Nat.le_refl _) o)
theorem AsM.start {w W : World} {gL gA gB r gb : Nat} (h : AsJ w gL gA gB r gb 3 3 2 0 W) : AsM w gL gA gB r gb W.heap.size none 0 0 [] (W.alloc (.cells #[.slice none 0 0, .int .i64 3, .slice none 0 0, .slice none 0 0] 87)) :=
  ⟨h.below ((Below.refl _ _).alloc (Nat.le_refl _) _), Blk.new' W _ 87, World.ownsRow_nil _ _ _ _, h.co.L.lt, h.co.A.lt, h.co.B.lt, h.res.lt, h.best.lt⟩
theorem AsM.mid {w W V : World} {gL gA gB r gb gm n cap : Nat} {A : Option Addr} {cs : List Value} (h : AsM w gL gA gB r gb gm A n cap cs W) (hg : W.grownBy V (Value.slice A n cap).ownBlock) :
    Blk V gm 87 [.slice A n cap, .int .i64 3, .slice none 0 0, .slice none 0 0] ∧ AsJ w gL gA gB r gb 3 3 2 0 V := by
  have hk : ∀ k, (Value.slice A n cap).ownBlock = some k → gm + 1 ≤ k := fun k e => (World.ownsRow.lt h.own k e).1
  have hne : ∀ k, k ≤ gm → some k ≠ (Value.slice A n cap).ownBlock := fun k hk' e => by have := hk k e.symm; omega
  have hl := h.lt
  have ho := h.j.own
  have hbs := h.j.bel.size
  exact ⟨h.m.grown hg (hne _ (Nat.le_refl _)), ⟨h.j.co.L.grown hg (hne _ (by omega)), h.j.co.A.grown hg (hne _ (by omega)), h.j.co.B.grown hg (hne _ (by omega))⟩, h.j.res.grown hg (hne _ (by omega)), h.j.best.grown hg (hne _ (by omega)), h.j.nL, h.j.nA, h.j.nB, h.j.nr, h.j.own, h.j.bel.grown hg hbs (fun k e => by have := hk k e; omega)⟩
theorem AsM.push {w W V : World} {gL gA gB r gb gm n cap n2 cap2 : Nat} {A A2 : Option Addr} {cs cs2 : List Value} (h : AsM w gL gA gB r gb gm A n cap cs W) (hg : W.grownBy V (Value.slice A n cap).ownBlock)
    (ho : V.ownsRow (gm + 1) 3 1 (.slice A2 n2 cap2) n2 cs2) : AsM w gL gA gB r gb gm A2 n2 cap2 cs2 (V.setCell ⟨gm, 0, none⟩ (.slice A2 n2 cap2)) := by
  obtain ⟨m2, j2⟩ := h.mid hg
  have hl := h.lt
  have ho2 := h.j.own
  refine ⟨⟨⟨j2.co.L.setCell_ne (by simp; omega) _, j2.co.A.setCell_ne (by simp; omega) _, j2.co.B.setCell_ne (by simp; omega) _⟩, j2.res.setCell_ne (by simp; omega) _, j2.best.setCell_ne (by simp; omega) _, j2.nL, j2.nA, j2.nB, j2.nr, j2.own, j2.bel.setCell (by simp; omega) _⟩, m2.setCell 0 _, ?_, hl⟩
  exact ownGrown ho ⟨rfl, rfl, rfl, by simp [World.setCell], fun k hk hne => Below.heap_setCell _ _ _ _ (fun e => hne (by rw [e]))⟩ (row := some gm) (fun k hk e => by
    have := (World.ownsRow.lt ho k (ownB_iff.1 hk)).1
    cases e; omega)
theorem final {w W : World} {gL gA gB r gb gm n cap : Nat} {A : Option Addr} {cs : List Value} (h : AsM w gL gA gB r gb gm A n cap cs W) (R Q : Option Addr) (rn rc qn qc : Nat) (U : World := (W.setCell ⟨gm, 2, none⟩ (.slice R rn rc)).setCell ⟨gm, 3, none⟩ (.slice Q qn qc)) (hU : U = (W.setCell ⟨gm, 2, none⟩ (.slice R rn rc)).setCell ⟨gm, 3, none⟩ (.slice Q qn qc) := by rfl) :
    Blk U r 87 [.slice none 0 0, .int .i64 0, .slice none 0 0, .slice none 0 0] ∧ Blk U gm 87 [.slice A n cap, .int .i64 3, .slice R rn rc, .slice Q qn qc] ∧ U.ownsRow (gm + 1) 3 1 (.slice A n cap) n cs ∧ Below w.heap.size w U := by
  subst hU
  have hl := h.lt
  have ho := h.j.own
  have row : ∀ (V : World) (o : Nat) (x : Value), V.ownsRow (gm + 1) 3 1 (.slice A n cap) n cs → (V.setCell ⟨gm, o, none⟩ x).ownsRow (gm + 1) 3 1 (.slice A n cap) n cs := fun V o x hV =>
    ownGrown hV ⟨rfl, rfl, rfl, by simp [World.setCell], fun k hk hne => Below.heap_setCell _ _ _ _ (fun e => hne (by rw [e]))⟩ (row := some gm) (fun k hk e => by
      have := (World.ownsRow.lt hV k (ownB_iff.1 hk)).1
      cases e; omega)
  exact ⟨(h.j.res.setCell_ne (by simp; omega) _).setCell_ne (by simp; omega) _, (h.m.setCell 2 _).setCell 3 _, row _ _ _ (row _ _ _ h.own), (h.j.bel.setCell (by simp; omega) _).setCell (by simp; omega) _⟩
theorem final2 {w U : World} {r gm n cap : Nat} {A R Q : Option Addr} {cs : List Value} {rn rc qn qc : Nat} (h : Blk U r 87 [.slice none 0 0, .int .i64 0, .slice none 0 0, .slice none 0 0] ∧ Blk U gm 87 [.slice A n cap, .int .i64 3, .slice R rn rc, .slice Q qn qc] ∧ U.ownsRow (gm + 1) 3 1 (.slice A n cap) n cs ∧ Below w.heap.size w U)
    (hr : w.heap.size ≤ r) (hm : r < gm) (Z : World) (hZ : Z = (((U.setCell ⟨r, 0, none⟩ (.slice A n cap)).setCell ⟨r, 1, none⟩ (.int .i64 3)).setCell ⟨r, 2, none⟩ (.slice R rn rc)).setCell ⟨r, 3, none⟩ (.slice Q qn qc)) :
    Blk Z r 87 [.slice A n cap, .int .i64 3, .slice R rn rc, .slice Q qn qc] ∧ Z.ownsRow w.heap.size 3 1 (.slice A n cap) n cs ∧ Below w.heap.size w Z := by
  subst hZ
  have row : ∀ (V : World) (o : Nat) (x : Value), V.ownsRow (gm + 1) 3 1 (.slice A n cap) n cs → (V.setCell ⟨r, o, none⟩ x).ownsRow (gm + 1) 3 1 (.slice A n cap) n cs := fun V o x hV =>
    ownGrown hV ⟨rfl, rfl, rfl, by simp [World.setCell], fun k hk hne => Below.heap_setCell _ _ _ _ (fun e => hne (by rw [e]))⟩ (row := some r) (fun k hk e => by
      have := (World.ownsRow.lt hV k (ownB_iff.1 hk)).1
      cases e; omega)
  have ro := row _ 3 (.slice Q qn qc) (row _ 2 (.slice R rn rc) (row _ 1 (.int .i64 3) (row _ 0 (.slice A n cap) h.2.2.1)))
  exact ⟨(((h.1.setCell 0 _).setCell 1 _).setCell 2 _).setCell 3 _, ⟨ro.1, ro.2.imp id (fun ⟨k, c, cur, hv, hb', r⟩ => ⟨k, c, cur, hv, by omega, r⟩)⟩, (((h.2.2.2.setCell hr _).setCell hr _).setCell hr _).setCell hr _⟩
set_option maxHeartbeats 4000000 in
set_option maxRecDepth 100000 in
theorem Assign_c (HD : DualsC) (gL gA gB : Nat) (w : World) (h : CO w gL gA gB) : Calls Try.prog 56 #[.slice (some ⟨gL, 0, none⟩) 2 2] w fun e w' => ∃ A c R rn rc Q qn qc, e = .returned (.tuple #[.agg #[.slice A 2 c, .int .i64 3, .slice R rn rc, .slice Q qn qc], .int .i64 0]) ∧ w'.ownsRow w.heap.size 3 1 (.slice A 2 c) 2 [.int .i64 1, .int .i64 0] ∧ Below w.heap.size w w' := by
  have HB := Lib.hid ((Below.refl w.heap.size w).alloc (Nat.le_refl _) (.cells #[.slice none 0 0, .int .i64 0, .slice none 0 0, .slice none 0 0] 87))
  have HR := Lib.hid (Blk.new' w #[.slice none 0 0, .int .i64 0, .slice none 0 0, .slice none 0 0] 87)
  have B1 := Lib.hid (h.below HB.out (Nat.le_refl _))
  obtain ⟨i3, h3i, h3z, h3s, h3b⟩ := info_parts info3
  clear h
  go_enter Try.func56, Try.ntmps56
  go_wp2_with fail
  go_step3
  generalize w.alloc (.cells #[.slice none 0 0, .int .i64 0, .slice none 0 0, .slice none 0 0] 87) = w1 at HB HR B1 ⊢
  obtain ⟨r, hr⟩ : ∃ r, r = w.heap.size := ⟨_, rfl⟩
  rw [← hr] at HR ⊢
  have HRR : Hid (w.heap.size ≤ r) := Lib.hid (Nat.le_of_eq hr.symm)
  clear hr
  go_wp2_with fail
  refine (checkCosts_c gL gA gB _ B1.out).mono ?_
  rintro e w2 ⟨rfl, rfl⟩
  go_wp2_with fail
  have l0 := B1.out.L.cell 0 rfl
  have l9 := B1.out.L.lt
  refine wp_region_past (by kernel_rfl) (by kernel_rfl) ?_
  repeat (go_big_quiet_step (fail))
  refine wpQuiet_nil ?_
  intro xx
  have J1 := Lib.hid (AsJ.start (B1.out.below xx.far (Nat.le_refl _)) (HR.out.below xx.far HR.out.lt) (HB.out.trans (xx.far.mono HB.out.size)))
  clear l0 l9 B1 HR HB
  generalize xx.w = w2 at J1 ⊢
  have hm1 : ∀ W : World, (Instr.makeSlice 22 (.int .i64 4) (.int .i64 4)).run Try.prog W = .ok (.slice (some ⟨W.heap.size, 0, none⟩) 4 4) (W.alloc (.cells (Array.replicate 4 (.int .i64 0)) 2)) := make_64 4 (by omega)
  generalize hgb : w2.heap.size = gb at *
  go_upto_region 6 with fail
  generalize w2.alloc (.cells (Array.replicate 4 (.int .i64 0)) 2) = w3 at J1 ⊢
  go_wp2_with fail
  refine wp_loop_rounds 5 ?_
  rw [rounds_succ]
  go_wp2_with fail
  refine (ones_3 _).mono ?_
  rintro e w2 ⟨rfl, rfl⟩
  go_wp2_with fail
  rw [rounds_succ]
  go_wp2_with fail
  refine (ones_2 _).mono ?_
  rintro e w2 ⟨rfl, rfl⟩
  have l0 := J1.out.co.L.cell 0 rfl
  have l1 := J1.out.co.L.cell 1 rfl
  have a0 := J1.out.co.A.cell 0 rfl
  have a1 := J1.out.co.A.cell 1 rfl
  have b0 := J1.out.co.B.cell 0 rfl
  have b1 := J1.out.co.B.cell 1 rfl
  have s0 := J1.out.best.cell 0 rfl
  have s1 := J1.out.best.cell 1 rfl
  have s2 := J1.out.best.cell 2 rfl
  have s3 := J1.out.best.cell 3 rfl
  have z0 := J1.out.best.free 0
  have z1 := J1.out.best.free 1
  have z2 := J1.out.best.free 2
  have z3 := J1.out.best.free 3
  go_upto_region 12 with fail
  clear l0 l1 a0 a1 b0 b1 s0 s1 s2 s3 z0 z1 z2 z3
  refine gen_world (fun W => AsJ w gL gA gB r gb 0 0 1152921504606846976 0 W) (J1.out.set2 1152921504606846976) ?_
  rintro w12 hj
  have J2 := Lib.hid hj
  clear hj
  have l0 := J2.out.co.L.cell 0 rfl
  have l1 := J2.out.co.L.cell 1 rfl
  have a0 := J2.out.co.A.cell 0 rfl
  have a1 := J2.out.co.A.cell 1 rfl
  have b0 := J2.out.co.B.cell 0 rfl
  have b1 := J2.out.co.B.cell 1 rfl
  have s0 := J2.out.best.cell 0 rfl
  have s1 := J2.out.best.cell 1 rfl
  have s2 := J2.out.best.cell 2 rfl
  have s3 := J2.out.best.cell 3 rfl
  have z0 := J2.out.best.free 0
  have z1 := J2.out.best.free 1
  have z2 := J2.out.best.free 2
  have z3 := J2.out.best.free 3
  go_wp2_with fail
  refine wp_loop_rounds 3 ?_
  rw [rounds_succ]
  go_wp2_with fail
  clear l0 l1 a0 a1 b0 b1 s0 s1 s2 s3 z0 z1 z2 z3
  refine wp_region_spine 17 [false] [] ?af_2_0 (fun V => AsJ w gL gA gB r gb 0 0 1152921504606846976 0 V) (by kernel_rfl) (by kernel_rfl) J2.out.drew ?walk_2_0 ?_
  case walk_2_0 =>
    intro V hV
    have s2 := hV.best.cell 2 rfl
    have s3 := hV.best.cell 3 rfl
    have hmx : ∀ ts t W, (Builtin.min_ ts t #[.int .i64 1152921504606846976, .int .i64 2]).run Try.prog W = .ok (.int .i64 2) W := fun ts t W => min_i64 1152921504606846976 2 ts t W
    clear hV
    simp only [List.take_succ_cons, List.take_zero]
    repeat (go_big_quiet_step (fail))
    refine wpQuiet_nil ?_
    rfl
  intro w13 hV
  have J3 := Lib.hid (hV.set2 2)
  have s2 := hV.best.cell 2 rfl
  have z2 := hV.best.free 2
  clear hV
  refine spineV_cons ?_
  unfold StepV
  go_simp
  generalize w13.setCell ⟨gb, 2, none⟩ (.int .i64 2) = w14 at J3 ⊢
  clear s2 z2
  refine spineV_nil ?_
  go_wp2_with fail
  have J4 := J3
  have l0 := J4.out.co.L.cell 0 rfl
  have l1 := J4.out.co.L.cell 1 rfl
  have a0 := J4.out.co.A.cell 0 rfl
  have a1 := J4.out.co.A.cell 1 rfl
  have b0 := J4.out.co.B.cell 0 rfl
  have b1 := J4.out.co.B.cell 1 rfl
  have s0 := J4.out.best.cell 0 rfl
  have s1 := J4.out.best.cell 1 rfl
  have s2 := J4.out.best.cell 2 rfl
  have s3 := J4.out.best.cell 3 rfl
  have z0 := J4.out.best.free 0
  have z1 := J4.out.best.free 1
  have z2 := J4.out.best.free 2
  have z3 := J4.out.best.free 3
  rw [rounds_succ]
  go_wp2_with fail
  rw [rounds_succ]
  go_wp2_with fail
  clear l0 l1 a0 a1 b0 b1 s0 s1 s2 s3 z0 z1 z2 z3
  rw [rounds_succ]
  go_wp2_with fail
  refine (ones_1 _).mono ?_
  rintro e w2 ⟨rfl, rfl⟩
  have l0 := J4.out.co.L.cell 0 rfl
  have l1 := J4.out.co.L.cell 1 rfl
  have a0 := J4.out.co.A.cell 0 rfl
  have a1 := J4.out.co.A.cell 1 rfl
  have b0 := J4.out.co.B.cell 0 rfl
  have b1 := J4.out.co.B.cell 1 rfl
  have s0 := J4.out.best.cell 0 rfl
  have s1 := J4.out.best.cell 1 rfl
  have s2 := J4.out.best.cell 2 rfl
  have s3 := J4.out.best.cell 3 rfl
  have z0 := J4.out.best.free 0
  have z1 := J4.out.best.free 1
  have z2 := J4.out.best.free 2
  have z3 := J4.out.best.free 3
  go_upto_region 12 with fail
  clear l0 l1 a0 a1 b0 b1 s0 s1 s2 s3 z0 z1 z2 z3
  refine gen_world (fun W => AsJ w gL gA gB r gb 0 1152921504606846976 2 0 W) (J4.out.set1 1152921504606846976) ?_
  rintro w15 hj
  have J5 := Lib.hid hj
  clear hj
  have l0 := J5.out.co.L.cell 0 rfl
  have l1 := J5.out.co.L.cell 1 rfl
  have a0 := J5.out.co.A.cell 0 rfl
  have a1 := J5.out.co.A.cell 1 rfl
  have b0 := J5.out.co.B.cell 0 rfl
  have b1 := J5.out.co.B.cell 1 rfl
  have s0 := J5.out.best.cell 0 rfl
  have s1 := J5.out.best.cell 1 rfl
  have s2 := J5.out.best.cell 2 rfl
  have s3 := J5.out.best.cell 3 rfl
  have z0 := J5.out.best.free 0
  have z1 := J5.out.best.free 1
  have z2 := J5.out.best.free 2
  have z3 := J5.out.best.free 3
  go_wp2_with fail
  refine wp_loop_rounds 3 ?_
  rw [rounds_succ]
  go_wp2_with fail
  rw [rounds_succ]
  go_wp2_with fail
  clear l0 l1 a0 a1 b0 b1 s0 s1 s2 s3 z0 z1 z2 z3
  refine wp_region_spine 17 [false] [] ?af_1_1 (fun V => AsJ w gL gA gB r gb 0 1152921504606846976 2 0 V) (by kernel_rfl) (by kernel_rfl) J5.out.drew ?walk_1_1 ?_
  case walk_1_1 =>
    intro V hV
    have s1 := hV.best.cell 1 rfl
    have s3 := hV.best.cell 3 rfl
    have hmx : ∀ ts t W, (Builtin.min_ ts t #[.int .i64 1152921504606846976, .int .i64 3]).run Try.prog W = .ok (.int .i64 3) W := fun ts t W => min_i64 1152921504606846976 3 ts t W
    clear hV
    simp only [List.take_succ_cons, List.take_zero]
    repeat (go_big_quiet_step (fail))
    refine wpQuiet_nil ?_
    rfl
  intro w16 hV
  have J6 := Lib.hid (hV.set1 3)
  have s1 := hV.best.cell 1 rfl
  have z1 := hV.best.free 1
  clear hV
  refine spineV_cons ?_
  unfold StepV
  go_simp
  generalize w16.setCell ⟨gb, 1, none⟩ (.int .i64 3) = w17 at J6 ⊢
  clear s1 z1
  refine spineV_nil ?_
  go_wp2_with fail
  have J7 := J6
  have l0 := J7.out.co.L.cell 0 rfl
  have l1 := J7.out.co.L.cell 1 rfl
  have a0 := J7.out.co.A.cell 0 rfl
  have a1 := J7.out.co.A.cell 1 rfl
  have b0 := J7.out.co.B.cell 0 rfl
  have b1 := J7.out.co.B.cell 1 rfl
  have s0 := J7.out.best.cell 0 rfl
  have s1 := J7.out.best.cell 1 rfl
  have s2 := J7.out.best.cell 2 rfl
  have s3 := J7.out.best.cell 3 rfl
  have z0 := J7.out.best.free 0
  have z1 := J7.out.best.free 1
  have z2 := J7.out.best.free 2
  have z3 := J7.out.best.free 3
  rw [rounds_succ]
  go_wp2_with fail
  clear l0 l1 a0 a1 b0 b1 s0 s1 s2 s3 z0 z1 z2 z3
  rw [rounds_succ]
  go_wp2_with fail
  refine (ones_0 _).mono ?_
  rintro e w2 ⟨rfl, rfl⟩
  have l0 := J7.out.co.L.cell 0 rfl
  have l1 := J7.out.co.L.cell 1 rfl
  have a0 := J7.out.co.A.cell 0 rfl
  have a1 := J7.out.co.A.cell 1 rfl
  have b0 := J7.out.co.B.cell 0 rfl
  have b1 := J7.out.co.B.cell 1 rfl
  have s0 := J7.out.best.cell 0 rfl
  have s1 := J7.out.best.cell 1 rfl
  have s2 := J7.out.best.cell 2 rfl
  have s3 := J7.out.best.cell 3 rfl
  have z0 := J7.out.best.free 0
  have z1 := J7.out.best.free 1
  have z2 := J7.out.best.free 2
  have z3 := J7.out.best.free 3
  go_upto_region 12 with fail
  clear l0 l1 a0 a1 b0 b1 s0 s1 s2 s3 z0 z1 z2 z3
  refine gen_world (fun W => AsJ w gL gA gB r gb 1152921504606846976 3 2 0 W) (J7.out.set0 1152921504606846976) ?_
  rintro w18 hj
  have J8 := Lib.hid hj
  clear hj
  have l0 := J8.out.co.L.cell 0 rfl
  have l1 := J8.out.co.L.cell 1 rfl
  have a0 := J8.out.co.A.cell 0 rfl
  have a1 := J8.out.co.A.cell 1 rfl
  have b0 := J8.out.co.B.cell 0 rfl
  have b1 := J8.out.co.B.cell 1 rfl
  have s0 := J8.out.best.cell 0 rfl
  have s1 := J8.out.best.cell 1 rfl
  have s2 := J8.out.best.cell 2 rfl
  have s3 := J8.out.best.cell 3 rfl
  have z0 := J8.out.best.free 0
  have z1 := J8.out.best.free 1
  have z2 := J8.out.best.free 2
  have z3 := J8.out.best.free 3
  go_wp2_with fail
  refine wp_loop_rounds 3 ?_
  rw [rounds_succ]
  go_wp2_with fail
  clear l0 l1 a0 a1 b0 b1 s0 s1 s2 s3 z0 z1 z2 z3
  refine wp_region_spine 17 [false] [] ?af_0_0 (fun V => AsJ w gL gA gB r gb 1152921504606846976 3 2 0 V) (by kernel_rfl) (by kernel_rfl) J8.out.drew ?walk_0_0 ?_
  case walk_0_0 =>
    intro V hV
    have s0 := hV.best.cell 0 rfl
    have s1 := hV.best.cell 1 rfl
    have hmx : ∀ ts t W, (Builtin.min_ ts t #[.int .i64 1152921504606846976, .int .i64 7]).run Try.prog W = .ok (.int .i64 7) W := fun ts t W => min_i64 1152921504606846976 7 ts t W
    clear hV
    simp only [List.take_succ_cons, List.take_zero]
    repeat (go_big_quiet_step (fail))
    refine wpQuiet_nil ?_
    rfl
  intro w19 hV
  have J9 := Lib.hid (hV.set0 7)
  have s0 := hV.best.cell 0 rfl
  have z0 := hV.best.free 0
  clear hV
  refine spineV_cons ?_
  unfold StepV
  go_simp
  generalize w19.setCell ⟨gb, 0, none⟩ (.int .i64 7) = w20 at J9 ⊢
  clear s0 z0
  refine spineV_nil ?_
  go_wp2_with fail
  have J10 := J9
  have l0 := J10.out.co.L.cell 0 rfl
  have l1 := J10.out.co.L.cell 1 rfl
  have a0 := J10.out.co.A.cell 0 rfl
  have a1 := J10.out.co.A.cell 1 rfl
  have b0 := J10.out.co.B.cell 0 rfl
  have b1 := J10.out.co.B.cell 1 rfl
  have s0 := J10.out.best.cell 0 rfl
  have s1 := J10.out.best.cell 1 rfl
  have s2 := J10.out.best.cell 2 rfl
  have s3 := J10.out.best.cell 3 rfl
  have z0 := J10.out.best.free 0
  have z1 := J10.out.best.free 1
  have z2 := J10.out.best.free 2
  have z3 := J10.out.best.free 3
  rw [rounds_succ]
  go_wp2_with fail
  clear l0 l1 a0 a1 b0 b1 s0 s1 s2 s3 z0 z1 z2 z3
  refine wp_region_spine 17 [false] [] ?af_0_1 (fun V => AsJ w gL gA gB r gb 7 3 2 0 V) (by kernel_rfl) (by kernel_rfl) J10.out.drew ?walk_0_1 ?_
  case walk_0_1 =>
    intro V hV
    have s0 := hV.best.cell 0 rfl
    have s2 := hV.best.cell 2 rfl
    have hmx : ∀ ts t W, (Builtin.min_ ts t #[.int .i64 7, .int .i64 3]).run Try.prog W = .ok (.int .i64 3) W := fun ts t W => min_i64 7 3 ts t W
    clear hV
    simp only [List.take_succ_cons, List.take_zero]
    repeat (go_big_quiet_step (fail))
    refine wpQuiet_nil ?_
    rfl
  intro w21 hV
  have J11 := Lib.hid (hV.set0 3)
  have s0 := hV.best.cell 0 rfl
  have z0 := hV.best.free 0
  clear hV
  refine spineV_cons ?_
  unfold StepV
  go_simp
  generalize w21.setCell ⟨gb, 0, none⟩ (.int .i64 3) = w22 at J11 ⊢
  clear s0 z0
  refine spineV_nil ?_
  go_wp2_with fail
  have J12 := J11
  have l0 := J12.out.co.L.cell 0 rfl
  have l1 := J12.out.co.L.cell 1 rfl
  have a0 := J12.out.co.A.cell 0 rfl
  have a1 := J12.out.co.A.cell 1 rfl
  have b0 := J12.out.co.B.cell 0 rfl
  have b1 := J12.out.co.B.cell 1 rfl
  have s0 := J12.out.best.cell 0 rfl
  have s1 := J12.out.best.cell 1 rfl
  have s2 := J12.out.best.cell 2 rfl
  have s3 := J12.out.best.cell 3 rfl
  have z0 := J12.out.best.free 0
  have z1 := J12.out.best.free 1
  have z2 := J12.out.best.free 2
  have z3 := J12.out.best.free 3
  rw [rounds_succ]
  go_wp2_with fail
  rw [rounds_succ]
  go_wp2_with fail
  clear l0 l1 a0 a1 b0 b1 s0 s1 s2 s3 z0 z1 z2 z3
  go_step3
  have M0 := Lib.hid (AsM.start J12.out)
  generalize w22.heap.size = gm at *
  generalize w22.alloc (.cells #[.slice none 0 0, .int .i64 3, .slice none 0 0, .slice none 0 0] 87) = v0 at M0 ⊢
  have l0 := M0.out.j.co.L.cell 0 rfl
  have l1 := M0.out.j.co.L.cell 1 rfl
  have a0 := M0.out.j.co.A.cell 0 rfl
  have a1 := M0.out.j.co.A.cell 1 rfl
  have b0 := M0.out.j.co.B.cell 0 rfl
  have b1 := M0.out.j.co.B.cell 1 rfl
  have s0 := M0.out.j.best.cell 0 rfl
  have s1 := M0.out.j.best.cell 1 rfl
  have s2 := M0.out.j.best.cell 2 rfl
  have s3 := M0.out.j.best.cell 3 rfl
  have z0 := M0.out.j.best.free 0
  have z1 := M0.out.j.best.free 1
  have z2 := M0.out.j.best.free 2
  have z3 := M0.out.j.best.free 3
  have y0 := M0.out.m.cell 0 rfl
  have q0 := M0.out.m.free 0
  have lb := M0.out.j.best.lt
  go_wp2_with fail
  refine wp_loop_rounds 3 ?_
  rw [rounds_succ]
  go_wp2_with fail
  refine wp_loop_rounds 3 ?_
  rw [rounds_succ]
  go_wp2_with fail
  refine wp_region_past (by kernel_rfl) (by kernel_rfl) ?_
  repeat (go_big_quiet_step (fail))
  refine wpQuiet_nil ?_
  intro xx
  have M1 := Lib.hid (M0.out.below xx.far)
  clear l0 l1 a0 a1 b0 b1 s0 s1 s2 s3 z0 z1 z2 z3 y0 q0 lb
  generalize xx.w = v1 at M1 ⊢
  have l0 := M1.out.j.co.L.cell 0 rfl
  have l1 := M1.out.j.co.L.cell 1 rfl
  have a0 := M1.out.j.co.A.cell 0 rfl
  have a1 := M1.out.j.co.A.cell 1 rfl
  have b0 := M1.out.j.co.B.cell 0 rfl
  have b1 := M1.out.j.co.B.cell 1 rfl
  have s0 := M1.out.j.best.cell 0 rfl
  have s1 := M1.out.j.best.cell 1 rfl
  have s2 := M1.out.j.best.cell 2 rfl
  have s3 := M1.out.j.best.cell 3 rfl
  have z0 := M1.out.j.best.free 0
  have z1 := M1.out.j.best.free 1
  have z2 := M1.out.j.best.free 2
  have z3 := M1.out.j.best.free 3
  have y0 := M1.out.m.cell 0 rfl
  have q0 := M1.out.m.free 0
  have lb := M1.out.j.best.lt
  go_wp2_with fail
  rw [rounds_succ]
  go_wp2_with fail
  refine wp_region_past (by kernel_rfl) (by kernel_rfl) ?_
  repeat (go_big_quiet_step (fail))
  refine wpQuiet_nil ?_
  intro xx
  have M2 := Lib.hid (M1.out.below xx.far)
  clear l0 l1 a0 a1 b0 b1 s0 s1 s2 s3 z0 z1 z2 z3 y0 q0 lb
  generalize xx.w = v2 at M2 ⊢
  have l0 := M2.out.j.co.L.cell 0 rfl
  have l1 := M2.out.j.co.L.cell 1 rfl
  have a0 := M2.out.j.co.A.cell 0 rfl
  have a1 := M2.out.j.co.A.cell 1 rfl
  have b0 := M2.out.j.co.B.cell 0 rfl
  have b1 := M2.out.j.co.B.cell 1 rfl
  have s0 := M2.out.j.best.cell 0 rfl
  have s1 := M2.out.j.best.cell 1 rfl
  have s2 := M2.out.j.best.cell 2 rfl
  have s3 := M2.out.j.best.cell 3 rfl
  have z0 := M2.out.j.best.free 0
  have z1 := M2.out.j.best.free 1
  have z2 := M2.out.j.best.free 2
  have z3 := M2.out.j.best.free 3
  have y0 := M2.out.m.cell 0 rfl
  have q0 := M2.out.m.free 0
  have lb := M2.out.j.best.lt
  have MA := Lib.hid (M2.out.alloc (.cells #[.int .i64 1] 3))
  have X := Lib.hid (Blk.new' v2 #[.int .i64 1] 3)
  clear l0 l1 a0 a1 b0 b1 s0 s1 s2 s3 z0 z1 z2 z3 y0 q0 lb
  have y0 := MA.out.m.cell 0 rfl
  have yy := M2.out.m.cell 0 rfl
  go_wp2_with (at_builtin; refine wpList_append_any (.tmp 134) (.tmp 136) 26 rfl rfl (gm + 1) 3 i3 (.int .i64 0) 1 8 Try.underlying26 h3i h3z h3s h3b rfl (by decide) none 0 0 [] (by rfl) MA.out.own (some ⟨v2.heap.size, 0, none⟩) 1 1 [.int .i64 1] (by rfl) (by rfl) (.inr ⟨_, rfl, fun k u hk => by rcases k with _ | k <;> simp at hk; subst hk; exact X.out.cell 0 rfl⟩) (by simp [Value.oneCell']) (by decide) (by decide) (by have := MA.out.m.lt; omega) ?_; intro A1 c1 v hown hgrow hat; have M3 := Lib.hid (show AsM w gL gA gB r gb gm A1 1 c1 [.int .i64 1] (v.setCell ⟨gm, 0, none⟩ (.slice A1 1 c1)) from MA.out.push hgrow hown); have MM := (MA.out.mid hgrow).1; clear y0 yy; have y0 := MM.cell 0 rfl; have q0 := MM.free 0; clear MM hown hgrow hat)
  generalize v.setCell ⟨gm, 0, none⟩ (.slice A1 1 c1) = v3 at M3 ⊢
  clear y0 q0
  have l0 := M3.out.j.co.L.cell 0 rfl
  have l1 := M3.out.j.co.L.cell 1 rfl
  have a0 := M3.out.j.co.A.cell 0 rfl
  have a1 := M3.out.j.co.A.cell 1 rfl
  have b0 := M3.out.j.co.B.cell 0 rfl
  have b1 := M3.out.j.co.B.cell 1 rfl
  have s0 := M3.out.j.best.cell 0 rfl
  have s1 := M3.out.j.best.cell 1 rfl
  have s2 := M3.out.j.best.cell 2 rfl
  have s3 := M3.out.j.best.cell 3 rfl
  have z0 := M3.out.j.best.free 0
  have z1 := M3.out.j.best.free 1
  have z2 := M3.out.j.best.free 2
  have z3 := M3.out.j.best.free 3
  have y0 := M3.out.m.cell 0 rfl
  have q0 := M3.out.m.free 0
  have lb := M3.out.j.best.lt
  rw [rounds_succ]
  go_wp2_with fail
  refine wp_loop_rounds 3 ?_
  rw [rounds_succ]
  go_wp2_with fail
  refine wp_region_past (by kernel_rfl) (by kernel_rfl) ?_
  repeat (go_big_quiet_step (fail))
  refine wpQuiet_nil ?_
  intro xx
  have M4 := Lib.hid (M3.out.below xx.far)
  clear l0 l1 a0 a1 b0 b1 s0 s1 s2 s3 z0 z1 z2 z3 y0 q0 lb
  generalize xx.w = v4 at M4 ⊢
  have l0 := M4.out.j.co.L.cell 0 rfl
  have l1 := M4.out.j.co.L.cell 1 rfl
  have a0 := M4.out.j.co.A.cell 0 rfl
  have a1 := M4.out.j.co.A.cell 1 rfl
  have b0 := M4.out.j.co.B.cell 0 rfl
  have b1 := M4.out.j.co.B.cell 1 rfl
  have s0 := M4.out.j.best.cell 0 rfl
  have s1 := M4.out.j.best.cell 1 rfl
  have s2 := M4.out.j.best.cell 2 rfl
  have s3 := M4.out.j.best.cell 3 rfl
  have z0 := M4.out.j.best.free 0
  have z1 := M4.out.j.best.free 1
  have z2 := M4.out.j.best.free 2
  have z3 := M4.out.j.best.free 3
  have y0 := M4.out.m.cell 0 rfl
  have q0 := M4.out.m.free 0
  have lb := M4.out.j.best.lt
  have MA := Lib.hid (M4.out.alloc (.cells #[.int .i64 0] 3))
  have X := Lib.hid (Blk.new' v4 #[.int .i64 0] 3)
  clear l0 l1 a0 a1 b0 b1 s0 s1 s2 s3 z0 z1 z2 z3 y0 q0 lb
  have y0 := MA.out.m.cell 0 rfl
  have yy := M4.out.m.cell 0 rfl
  go_wp2_with (at_builtin; refine wpList_append_any (.tmp 134) (.tmp 136) 26 rfl rfl (gm + 1) 3 i3 (.int .i64 0) 1 8 Try.underlying26 h3i h3z h3s h3b rfl (by decide) A1 1 c1 [.int .i64 1] (by rfl) MA.out.own (some ⟨v4.heap.size, 0, none⟩) 1 1 [.int .i64 0] (by rfl) (by rfl) (.inr ⟨_, rfl, fun k u hk => by rcases k with _ | k <;> simp at hk; subst hk; exact X.out.cell 0 rfl⟩) (by simp [Value.oneCell']) (by decide) (by decide) (by have := MA.out.m.lt; omega) ?_; intro A2 c2 v hown hgrow hat; have M5 := Lib.hid (show AsM w gL gA gB r gb gm A2 2 c2 [.int .i64 1, .int .i64 0] (v.setCell ⟨gm, 0, none⟩ (.slice A2 2 c2)) from MA.out.push hgrow hown); have MM := (MA.out.mid hgrow).1; clear y0 yy; have y0 := MM.cell 0 rfl; have q0 := MM.free 0; clear MM hown hgrow hat)
  generalize v.setCell ⟨gm, 0, none⟩ (.slice A2 2 c2) = v5 at M5 ⊢
  clear y0 q0
  have l0 := M5.out.j.co.L.cell 0 rfl
  have l1 := M5.out.j.co.L.cell 1 rfl
  have a0 := M5.out.j.co.A.cell 0 rfl
  have a1 := M5.out.j.co.A.cell 1 rfl
  have b0 := M5.out.j.co.B.cell 0 rfl
  have b1 := M5.out.j.co.B.cell 1 rfl
  have s0 := M5.out.j.best.cell 0 rfl
  have s1 := M5.out.j.best.cell 1 rfl
  have s2 := M5.out.j.best.cell 2 rfl
  have s3 := M5.out.j.best.cell 3 rfl
  have z0 := M5.out.j.best.free 0
  have z1 := M5.out.j.best.free 1
  have z2 := M5.out.j.best.free 2
  have z3 := M5.out.j.best.free 3
  have y0 := M5.out.m.cell 0 rfl
  have q0 := M5.out.m.free 0
  have lb := M5.out.j.best.lt
  rw [rounds_succ]
  go_wp2_with fail
  refine (HD gL gA gB _ M5.out.j.co).mono ?_
  rintro e v ⟨R, rn, rc, Q, qn, qc, rfl, hb⟩
  have M6 := Lib.hid (M5.out.below hb)
  clear hb
  clear l0 l1 a0 a1 b0 b1 s0 s1 s2 s3 z0 z1 z2 z3 y0 q0 lb
  have F := Lib.hid (final M6.out R Q rn rc qn qc)
  have y0 := M6.out.m.cell 0 rfl
  have y1 := M6.out.m.cell 1 rfl
  have y2 := M6.out.m.cell 2 rfl
  have y3 := M6.out.m.cell 3 rfl
  have q2 := M6.out.m.free 2
  have q3 := M6.out.m.free 3
  go_upto_region 34 with fail
  generalize (v.setCell ⟨gm, 2, none⟩ (.slice R rn rc)).setCell ⟨gm, 3, none⟩ (.slice Q qn qc) = u at F ⊢
  clear y0 y1 y2 y3 q2 q3
  have y0 := F.out.2.1.cell 0 rfl
  have y1 := F.out.2.1.cell 1 rfl
  have y2 := F.out.2.1.cell 2 rfl
  have y3 := F.out.2.1.cell 3 rfl
  have x0 := F.out.1.cell 0 rfl
  have x1 := F.out.1.cell 1 rfl
  have x2 := F.out.1.cell 2 rfl
  have x3 := F.out.1.cell 3 rfl
  have p0 := F.out.1.free 0
  have p1 := F.out.1.free 1
  have p2 := F.out.1.free 2
  have p3 := F.out.1.free 3
  go_wp2_with fail
  have Z := Lib.hid (final2 F.out HRR.out M6.out.lt.2.2.2.1 _ rfl)
  rw [Exit.noGoto_ret]
  generalize (((u.setCell ⟨r, 0, none⟩ (.slice A2 2 c2)).setCell ⟨r, 1, none⟩ (.int .i64 3)).setCell ⟨r, 2, none⟩ (.slice R rn rc)).setCell ⟨r, 3, none⟩ (.slice Q qn qc) = z at Z ⊢
  clear y0 y1 y2 y3 x0 x1 x2 x3 p0 p1 p2 p3
  have x0 := Z.out.1.cell 0 rfl
  have x1 := Z.out.1.cell 1 rfl
  have x2 := Z.out.1.cell 2 rfl
  have x3 := Z.out.1.cell 3 rfl
  exact bodyPost_ret (v := .tuple #[.agg #[.slice A2 2 c2, .int .i64 3, .slice R rn rc, .slice Q qn qc], .int .i64 0]) (by simp [results, Try.results56, go_sem, x0, x1, x2, x3]) rfl ⟨A2, c2, R, rn, rc, Q, qn, qc, rfl, Z.out.2⟩
end Go.Proofs.Ytmebpglkeedaoaa
namespace Go.Proofs.Ytmebpglkeedaoaa
open Go.RowKit Dp
structure CX (w : World) (gL gA gB : Nat) : Prop where
  L : Blk w gL 22 [.slice (some ⟨gA, 0, none⟩) 2 2, .slice (some ⟨gB, 0, none⟩) 2 2]
  A : Blk w gA 2 [.int .i64 1, .int .i64 1]
  B : Blk w gB 2 [.int .i64 (-1), .int .i64 (-1)]
theorem CX.below {w w' : World} {gL gA gB k : Nat} (h : CX w gL gA gB) (hb : Below k w w') (hk : w.heap.size ≤ k) : CX w' gL gA gB :=
  ⟨h.L.below hb (by have := h.L.lt; omega), h.A.below hb (by have := h.A.lt; omega), h.B.below hb (by have := h.B.lt; omega)⟩
set_option maxHeartbeats 4000000 in
set_option maxRecDepth 100000 in
theorem checkCostsX_c (gL gA gB : Nat) (w : World) (h : CX w gL gA gB) : Calls Try.prog 94 #[.slice (some ⟨gL, 0, none⟩) 2 2] w fun e w' => e = .returned (.int .i64 0) ∧ w = w' := by
  have H0 := Lib.hid h
  clear h
  have l0 := H0.out.L.cell 0 rfl
  have l1 := H0.out.L.cell 1 rfl
  have a0 := H0.out.A.cell 0 rfl
  have a1 := H0.out.A.cell 1 rfl
  have b0 := H0.out.B.cell 0 rfl
  have b1 := H0.out.B.cell 1 rfl
  go_enter Try.func94, Try.ntmps94
  go_wp2_with fail
  refine wp_loop_rounds 3 ?_
  rw [rounds_succ]
  go_wp2_with fail
  rw [rounds_succ]
  go_wp2_with fail
  rw [rounds_succ]
  go_wp2_with fail
  refine wp_loop_rounds 3 ?_
  rw [rounds_succ]
  go_wp2_with fail
  refine wp_loop_rounds 3 ?_
  rw [rounds_succ]
  go_wp2_with fail
  rw [rounds_succ]
  go_wp2_with fail
  rw [rounds_succ]
  go_wp2_with fail
  rw [rounds_succ]
  go_wp2_with fail
  refine wp_loop_rounds 3 ?_
  rw [rounds_succ]
  go_wp2_with fail
  rw [rounds_succ]
  go_wp2_with fail
  rw [rounds_succ]
  go_wp2_with fail
  rw [rounds_succ]
  go_wp2_with fail
  exact bodyPost_ret (v := .int .i64 0) (by simp [results, Try.results94, go_sem]) rfl ⟨rfl, rfl⟩
structure AxJ (w : World) (gL gA gB r gb : Nat) (b0 b1 b2 b3 : Int) (W : World) : Prop where
  co : CX W gL gA gB
  res : Blk W r 87 [.slice none 0 0, .int .i64 0, .slice none 0 0, .slice none 0 0]
  best : Blk W gb 2 [.int .i64 b0, .int .i64 b1, .int .i64 b2, .int .i64 b3]
  nL : gL ≠ gb
  nA : gA ≠ gb
  nB : gB ≠ gb
  nr : r ≠ gb
  own : w.heap.size ≤ gb
  bel : Below w.heap.size w W
theorem AxJ.drew {w W : World} {gL gA gB r gb : Nat} {b0 b1 b2 b3 : Int} (h : AxJ w gL gA gB r gb b0 b1 b2 b3 W) : AxJ w gL gA gB r gb b0 b1 b2 b3 W.drew :=
  ⟨⟨h.co.L, h.co.A, h.co.B⟩, h.res, h.best, h.nL, h.nA, h.nB, h.nr, h.own, h.bel.drew⟩
theorem AxJ.set0 {w W : World} {gL gA gB r gb : Nat} {b0 b1 b2 b3 : Int} (h : AxJ w gL gA gB r gb b0 b1 b2 b3 W) (x : Int) : AxJ w gL gA gB r gb x b1 b2 b3 (W.setCell ⟨gb, 0, none⟩ (.int .i64 x)) :=
  ⟨⟨h.co.L.setCell_ne h.nL _, h.co.A.setCell_ne h.nA _, h.co.B.setCell_ne h.nB _⟩, h.res.setCell_ne h.nr _, h.best.setCell 0 _, h.nL, h.nA, h.nB, h.nr, h.own, h.bel.setCell h.own _⟩
theorem AxJ.set1 {w W : World} {gL gA gB r gb : Nat} {b0 b1 b2 b3 : Int} (h : AxJ w gL gA gB r gb b0 b1 b2 b3 W) (x : Int) : AxJ w gL gA gB r gb b0 x b2 b3 (W.setCell ⟨gb, 1, none⟩ (.int .i64 x)) :=
  ⟨⟨h.co.L.setCell_ne h.nL _, h.co.A.setCell_ne h.nA _, h.co.B.setCell_ne h.nB _⟩, h.res.setCell_ne h.nr _, h.best.setCell 1 _, h.nL, h.nA, h.nB, h.nr, h.own, h.bel.setCell h.own _⟩
theorem AxJ.set2 {w W : World} {gL gA gB r gb : Nat} {b0 b1 b2 b3 : Int} (h : AxJ w gL gA gB r gb b0 b1 b2 b3 W) (x : Int) : AxJ w gL gA gB r gb b0 b1 x b3 (W.setCell ⟨gb, 2, none⟩ (.int .i64 x)) :=
  ⟨⟨h.co.L.setCell_ne h.nL _, h.co.A.setCell_ne h.nA _, h.co.B.setCell_ne h.nB _⟩, h.res.setCell_ne h.nr _, h.best.setCell 2 _, h.nL, h.nA, h.nB, h.nr, h.own, h.bel.setCell h.own _⟩
theorem AxJ.start {w V : World} {gL gA gB r : Nat} (h : CX V gL gA gB) (hr : Blk V r 87 [.slice none 0 0, .int .i64 0, .slice none 0 0, .slice none 0 0]) (hb : Below w.heap.size w V) : AxJ w gL gA gB r V.heap.size 0 0 0 0 (V.alloc (.cells (Array.replicate 4 (.int .i64 0)) 2)) := by
  have b2 := hb.alloc hb.size (.cells (Array.replicate 4 (.int .i64 0)) 2)
  have l1 := h.L.lt
  have l2 := h.A.lt
  have l3 := h.B.lt
  have l4 := hr.lt
  have l5 := hb.size
  have r2 := Blk.new' V (Array.replicate 4 (.int .i64 0)) 2
  refine ⟨⟨h.L.alloc _, h.A.alloc _, h.B.alloc _⟩, hr.alloc _, ?_, by omega, by omega, by omega, by omega, by omega, b2⟩
  simpa using r2
theorem AxJ.below {w W V : World} {gL gA gB r gb : Nat} {b0 b1 b2 b3 : Int} (h : AxJ w gL gA gB r gb b0 b1 b2 b3 W) (hb : Below W.heap.size W V) : AxJ w gL gA gB r gb b0 b1 b2 b3 V :=
  ⟨h.co.below hb (Nat.le_refl _), h.res.below hb h.res.lt, h.best.below hb h.best.lt, h.nL, h.nA, h.nB, h.nr, h.own, h.bel.trans (hb.mono h.bel.size)⟩
set_option maxHeartbeats 8000000 in
set_option maxRecDepth 100000 in
theorem AssignX_c (gL gA gB : Nat) (w : World) (h : CX w gL gA gB) : Calls Try.prog 56 #[.slice (some ⟨gL, 0, none⟩) 2 2] w fun e w' => e = .returned (.tuple #[.agg #[.slice none 0 0, .int .i64 0, .slice none 0 0, .slice none 0 0], .int .i64 18]) ∧ Below w.heap.size w w' := by
  have HB := Lib.hid ((Below.refl w.heap.size w).alloc (Nat.le_refl _) (.cells #[.slice none 0 0, .int .i64 0, .slice none 0 0, .slice none 0 0] 87))
  have HR := Lib.hid (Blk.new' w #[.slice none 0 0, .int .i64 0, .slice none 0 0, .slice none 0 0] 87)
  have B1 := Lib.hid (h.below HB.out (Nat.le_refl _))
  obtain ⟨i3, h3i, h3z, h3s, h3b⟩ := info_parts info3
  clear h
  go_enter Try.func56, Try.ntmps56
  go_wp2_with fail
  go_step3
  generalize w.alloc (.cells #[.slice none 0 0, .int .i64 0, .slice none 0 0, .slice none 0 0] 87) = w1 at HB HR B1 ⊢
  obtain ⟨r, hr⟩ : ∃ r, r = w.heap.size := ⟨_, rfl⟩
  rw [← hr] at HR ⊢
  have HRR : Hid (w.heap.size ≤ r) := Lib.hid (Nat.le_of_eq hr.symm)
  clear hr
  go_wp2_with fail
  refine (checkCostsX_c gL gA gB _ B1.out).mono ?_
  rintro e w2 ⟨rfl, rfl⟩
  go_wp2_with fail
  have l0 := B1.out.L.cell 0 rfl
  have l9 := B1.out.L.lt
  refine wp_region_past (by kernel_rfl) (by kernel_rfl) ?_
  repeat (go_big_quiet_step (fail))
  refine wpQuiet_nil ?_
  intro xx
  have J1 := Lib.hid (AxJ.start (B1.out.below xx.far (Nat.le_refl _)) (HR.out.below xx.far HR.out.lt) (HB.out.trans (xx.far.mono HB.out.size)))
  clear l0 l9 B1 HR HB
  generalize xx.w = w2 at J1 ⊢
  have hm1 : ∀ W : World, (Instr.makeSlice 22 (.int .i64 4) (.int .i64 4)).run Try.prog W = .ok (.slice (some ⟨W.heap.size, 0, none⟩) 4 4) (W.alloc (.cells (Array.replicate 4 (.int .i64 0)) 2)) := make_64 4 (by omega)
  generalize hgb : w2.heap.size = gb at *
  go_upto_region 6 with fail
  generalize w2.alloc (.cells (Array.replicate 4 (.int .i64 0)) 2) = w3 at J1 ⊢
  go_wp2_with fail
  refine wp_loop_rounds 5 ?_
  rw [rounds_succ]
  go_wp2_with fail
  refine (ones_3 _).mono ?_
  rintro e w2 ⟨rfl, rfl⟩
  go_wp2_with fail
  rw [rounds_succ]
  go_wp2_with fail
  refine (ones_2 _).mono ?_
  rintro e w2 ⟨rfl, rfl⟩
  have l0 := J1.out.co.L.cell 0 rfl
  have l1 := J1.out.co.L.cell 1 rfl
  have a0 := J1.out.co.A.cell 0 rfl
  have a1 := J1.out.co.A.cell 1 rfl
  have b0 := J1.out.co.B.cell 0 rfl
  have b1 := J1.out.co.B.cell 1 rfl
  have s0 := J1.out.best.cell 0 rfl
  have s1 := J1.out.best.cell 1 rfl
  have s2 := J1.out.best.cell 2 rfl
  have s3 := J1.out.best.cell 3 rfl
  have z0 := J1.out.best.free 0
  have z1 := J1.out.best.free 1
  have z2 := J1.out.best.free 2
  have z3 := J1.out.best.free 3
  go_upto_region 12 with fail
  clear l0 l1 a0 a1 b0 b1 s0 s1 s2 s3 z0 z1 z2 z3
  refine gen_world (fun W => AxJ w gL gA gB r gb 0 0 1152921504606846976 0 W) (J1.out.set2 1152921504606846976) ?_
  rintro w12 hj
  have J2 := Lib.hid hj
  clear hj
  have l0 := J2.out.co.L.cell 0 rfl
  have l1 := J2.out.co.L.cell 1 rfl
  have a0 := J2.out.co.A.cell 0 rfl
  have a1 := J2.out.co.A.cell 1 rfl
  have b0 := J2.out.co.B.cell 0 rfl
  have b1 := J2.out.co.B.cell 1 rfl
  have s0 := J2.out.best.cell 0 rfl
  have s1 := J2.out.best.cell 1 rfl
  have s2 := J2.out.best.cell 2 rfl
  have s3 := J2.out.best.cell 3 rfl
  have z0 := J2.out.best.free 0
  have z1 := J2.out.best.free 1
  have z2 := J2.out.best.free 2
  have z3 := J2.out.best.free 3
  go_wp2_with fail
  refine wp_loop_rounds 3 ?_
  rw [rounds_succ]
  go_wp2_with fail
  rw [rounds_succ]
  go_wp2_with fail
  rw [rounds_succ]
  go_wp2_with fail
  clear l0 l1 a0 a1 b0 b1 s0 s1 s2 s3 z0 z1 z2 z3
  rw [rounds_succ]
  go_wp2_with fail
  refine (ones_1 _).mono ?_
  rintro e w2 ⟨rfl, rfl⟩
  have l0 := J2.out.co.L.cell 0 rfl
  have l1 := J2.out.co.L.cell 1 rfl
  have a0 := J2.out.co.A.cell 0 rfl
  have a1 := J2.out.co.A.cell 1 rfl
  have b0 := J2.out.co.B.cell 0 rfl
  have b1 := J2.out.co.B.cell 1 rfl
  have s0 := J2.out.best.cell 0 rfl
  have s1 := J2.out.best.cell 1 rfl
  have s2 := J2.out.best.cell 2 rfl
  have s3 := J2.out.best.cell 3 rfl
  have z0 := J2.out.best.free 0
  have z1 := J2.out.best.free 1
  have z2 := J2.out.best.free 2
  have z3 := J2.out.best.free 3
  go_upto_region 12 with fail
  clear l0 l1 a0 a1 b0 b1 s0 s1 s2 s3 z0 z1 z2 z3
  refine gen_world (fun W => AxJ w gL gA gB r gb 0 1152921504606846976 1152921504606846976 0 W) (J2.out.set1 1152921504606846976) ?_
  rintro w13 hj
  have J3 := Lib.hid hj
  clear hj
  have l0 := J3.out.co.L.cell 0 rfl
  have l1 := J3.out.co.L.cell 1 rfl
  have a0 := J3.out.co.A.cell 0 rfl
  have a1 := J3.out.co.A.cell 1 rfl
  have b0 := J3.out.co.B.cell 0 rfl
  have b1 := J3.out.co.B.cell 1 rfl
  have s0 := J3.out.best.cell 0 rfl
  have s1 := J3.out.best.cell 1 rfl
  have s2 := J3.out.best.cell 2 rfl
  have s3 := J3.out.best.cell 3 rfl
  have z0 := J3.out.best.free 0
  have z1 := J3.out.best.free 1
  have z2 := J3.out.best.free 2
  have z3 := J3.out.best.free 3
  go_wp2_with fail
  refine wp_loop_rounds 3 ?_
  rw [rounds_succ]
  go_wp2_with fail
  rw [rounds_succ]
  go_wp2_with fail
  rw [rounds_succ]
  go_wp2_with fail
  clear l0 l1 a0 a1 b0 b1 s0 s1 s2 s3 z0 z1 z2 z3
  rw [rounds_succ]
  go_wp2_with fail
  refine (ones_0 _).mono ?_
  rintro e w2 ⟨rfl, rfl⟩
  have l0 := J3.out.co.L.cell 0 rfl
  have l1 := J3.out.co.L.cell 1 rfl
  have a0 := J3.out.co.A.cell 0 rfl
  have a1 := J3.out.co.A.cell 1 rfl
  have b0 := J3.out.co.B.cell 0 rfl
  have b1 := J3.out.co.B.cell 1 rfl
  have s0 := J3.out.best.cell 0 rfl
  have s1 := J3.out.best.cell 1 rfl
  have s2 := J3.out.best.cell 2 rfl
  have s3 := J3.out.best.cell 3 rfl
  have z0 := J3.out.best.free 0
  have z1 := J3.out.best.free 1
  have z2 := J3.out.best.free 2
  have z3 := J3.out.best.free 3
  go_upto_region 12 with fail
  clear l0 l1 a0 a1 b0 b1 s0 s1 s2 s3 z0 z1 z2 z3
  refine gen_world (fun W => AxJ w gL gA gB r gb 1152921504606846976 1152921504606846976 1152921504606846976 0 W) (J3.out.set0 1152921504606846976) ?_
  rintro w14 hj
  have J4 := Lib.hid hj
  clear hj
  have l0 := J4.out.co.L.cell 0 rfl
  have l1 := J4.out.co.L.cell 1 rfl
  have a0 := J4.out.co.A.cell 0 rfl
  have a1 := J4.out.co.A.cell 1 rfl
  have b0 := J4.out.co.B.cell 0 rfl
  have b1 := J4.out.co.B.cell 1 rfl
  have s0 := J4.out.best.cell 0 rfl
  have s1 := J4.out.best.cell 1 rfl
  have s2 := J4.out.best.cell 2 rfl
  have s3 := J4.out.best.cell 3 rfl
  have z0 := J4.out.best.free 0
  have z1 := J4.out.best.free 1
  have z2 := J4.out.best.free 2
  have z3 := J4.out.best.free 3
  go_wp2_with fail
  refine wp_loop_rounds 3 ?_
  rw [rounds_succ]
  go_wp2_with fail
  clear l0 l1 a0 a1 b0 b1 s0 s1 s2 s3 z0 z1 z2 z3
  refine wp_region_spine 17 [false] [] ?af_0_0 (fun V => AxJ w gL gA gB r gb 1152921504606846976 1152921504606846976 1152921504606846976 0 V) (by kernel_rfl) (by kernel_rfl) J4.out.drew ?walk_0_0 ?_
  case walk_0_0 =>
    intro V hV
    have s0 := hV.best.cell 0 rfl
    have s1 := hV.best.cell 1 rfl
    have hmx : ∀ ts t W, (Builtin.min_ ts t #[.int .i64 1152921504606846976, .int .i64 1152921504606846977]).run Try.prog W = .ok (.int .i64 1152921504606846976) W := fun ts t W => min_i64 1152921504606846976 1152921504606846977 ts t W
    clear hV
    simp only [List.take_succ_cons, List.take_zero]
    repeat (go_big_quiet_step (fail))
    refine wpQuiet_nil ?_
    rfl
  intro w15 hV
  have J5 := Lib.hid (hV.set0 1152921504606846976)
  have s0 := hV.best.cell 0 rfl
  have z0 := hV.best.free 0
  clear hV
  refine spineV_cons ?_
  unfold StepV
  go_simp
  generalize w15.setCell ⟨gb, 0, none⟩ (.int .i64 1152921504606846976) = w16 at J5 ⊢
  clear s0 z0
  refine spineV_nil ?_
  go_wp2_with fail
  have J6 := J5
  have l0 := J6.out.co.L.cell 0 rfl
  have l1 := J6.out.co.L.cell 1 rfl
  have a0 := J6.out.co.A.cell 0 rfl
  have a1 := J6.out.co.A.cell 1 rfl
  have b0 := J6.out.co.B.cell 0 rfl
  have b1 := J6.out.co.B.cell 1 rfl
  have s0 := J6.out.best.cell 0 rfl
  have s1 := J6.out.best.cell 1 rfl
  have s2 := J6.out.best.cell 2 rfl
  have s3 := J6.out.best.cell 3 rfl
  have z0 := J6.out.best.free 0
  have z1 := J6.out.best.free 1
  have z2 := J6.out.best.free 2
  have z3 := J6.out.best.free 3
  rw [rounds_succ]
  go_wp2_with fail
  clear l0 l1 a0 a1 b0 b1 s0 s1 s2 s3 z0 z1 z2 z3
  refine wp_region_spine 17 [false] [] ?af_0_1 (fun V => AxJ w gL gA gB r gb 1152921504606846976 1152921504606846976 1152921504606846976 0 V) (by kernel_rfl) (by kernel_rfl) J6.out.drew ?walk_0_1 ?_
  case walk_0_1 =>
    intro V hV
    have s0 := hV.best.cell 0 rfl
    have s2 := hV.best.cell 2 rfl
    have hmx : ∀ ts t W, (Builtin.min_ ts t #[.int .i64 1152921504606846976, .int .i64 1152921504606846977]).run Try.prog W = .ok (.int .i64 1152921504606846976) W := fun ts t W => min_i64 1152921504606846976 1152921504606846977 ts t W
    clear hV
    simp only [List.take_succ_cons, List.take_zero]
    repeat (go_big_quiet_step (fail))
    refine wpQuiet_nil ?_
    rfl
  intro w17 hV
  have J7 := Lib.hid (hV.set0 1152921504606846976)
  have s0 := hV.best.cell 0 rfl
  have z0 := hV.best.free 0
  clear hV
  refine spineV_cons ?_
  unfold StepV
  go_simp
  generalize w17.setCell ⟨gb, 0, none⟩ (.int .i64 1152921504606846976) = w18 at J7 ⊢
  clear s0 z0
  refine spineV_nil ?_
  go_wp2_with fail
  have J8 := J7
  have l0 := J8.out.co.L.cell 0 rfl
  have l1 := J8.out.co.L.cell 1 rfl
  have a0 := J8.out.co.A.cell 0 rfl
  have a1 := J8.out.co.A.cell 1 rfl
  have b0 := J8.out.co.B.cell 0 rfl
  have b1 := J8.out.co.B.cell 1 rfl
  have s0 := J8.out.best.cell 0 rfl
  have s1 := J8.out.best.cell 1 rfl
  have s2 := J8.out.best.cell 2 rfl
  have s3 := J8.out.best.cell 3 rfl
  have z0 := J8.out.best.free 0
  have z1 := J8.out.best.free 1
  have z2 := J8.out.best.free 2
  have z3 := J8.out.best.free 3
  rw [rounds_succ]
  go_wp2_with fail
  clear l0 l1 a0 a1 b0 b1 s1 s2 s3 z0 z1 z2 z3
  have x0 := J8.out.res.cell 0 rfl
  have x1 := J8.out.res.cell 1 rfl
  have x2 := J8.out.res.cell 2 rfl
  have x3 := J8.out.res.cell 3 rfl
  have p0 := J8.out.res.free 0
  have p1 := J8.out.res.free 1
  have p2 := J8.out.res.free 2
  have p3 := J8.out.res.free 3
  have xl := J8.out.res.lt
  have Z := Lib.hid ((((J8.out.res.setCell 0 (.slice none 0 0)).setCell 1 (.int .i64 0)).setCell 2 (.slice none 0 0)).setCell 3 (.slice none 0 0))
  have ZB := Lib.hid ((((J8.out.bel.setCell (p := ⟨r, 0, none⟩) HRR.out (.slice none 0 0)).setCell (p := ⟨r, 1, none⟩) HRR.out (.int .i64 0)).setCell (p := ⟨r, 2, none⟩) HRR.out (.slice none 0 0)).setCell (p := ⟨r, 3, none⟩) HRR.out (.slice none 0 0))
  rw [rounds_succ]
  go_wp2_with fail
  rw [Exit.noGoto_ret]
  have y0 := Z.out.cell 0 rfl
  have y1 := Z.out.cell 1 rfl
  have y2 := Z.out.cell 2 rfl
  have y3 := Z.out.cell 3 rfl
  exact bodyPost_ret (v := .tuple #[.agg #[.slice none 0 0, .int .i64 0, .slice none 0 0, .slice none 0 0], .int .i64 18]) (by simp [results, Try.results56, go_sem, y0, y1, y2, y3]) rfl ⟨rfl, ZB.out⟩
end Go.Proofs.Ytmebpglkeedaoaa
namespace Go.Proofs.Ytmebpglkeedaoaa
open Go.RowKit Dp
theorem info46 : (Try.prog.info? 46).map (fun i => (i.zero, i.size, i.bytes)) = some (some (.agg #[.int .i64 0, .int .i64 0, .int .i64 0, .int .i64 0]), 4, 32) := by kernel_rfl
def arcV (a : Arc) : List Value := [.int .i64 a.fr, .int .i64 a.to, .int .i64 a.cap, .int .i64 a.cost]
structure BuJ (w : World) (gL gA gB gs gb : Nat) (A : Option Addr) (n cap : Nat) (sup : List Int) (arcs : List Arc) (W : World) : Prop where
  co : CO W gL gA gB
  b : Blk W gb 125 [.slice (some ⟨gs, 0, none⟩) 5 5, .slice A n cap, .slice none 0 0, .slice none 0 0]
  s : Fl 2 W gs sup
  own : W.ownsRow (gb + 1) 46 4 (.slice A n cap) n (flat arcV arcs)
  lt : gL < gs ∧ gA < gs ∧ gB < gs ∧ gs < gb ∧ w.heap.size ≤ gs
  bel : Below w.heap.size w W
section
variable {w W V : World} {gL gA gB gs gb n cap n2 cap2 : Nat} {A A2 : Option Addr} {sup : List Int} {arcs arcs2 : List Arc}
theorem BuJ.below (h : BuJ w gL gA gB gs gb A n cap sup arcs W) (hb : Below W.heap.size W V) : BuJ w gL gA gB gs gb A n cap sup arcs V :=
  ⟨h.co.below hb (Nat.le_refl _), h.b.below hb h.b.lt, h.s.below hb, ownBelow h.own hb, h.lt, h.bel.trans (hb.mono h.bel.size)⟩
theorem BuJ.alloc (h : BuJ w gL gA gB gs gb A n cap sup arcs W) (o : Obj) : BuJ w gL gA gB gs gb A n cap sup arcs (W.alloc o) :=
  h.below ((Below.refl _ _).alloc (Nat.le_refl _) o)
theorem BuJ.set (h : BuJ w gL gA gB gs gb A n cap sup arcs W) (k : Nat) (v : Int) : BuJ w gL gA gB gs gb A n cap (sup.set k v) arcs (W.setCell ⟨gs, k, none⟩ (.int .i64 v)) := by
  have hl := h.lt
  refine ⟨⟨h.co.L.setCell_ne (by simp; omega) _, h.co.A.setCell_ne (by simp; omega) _, h.co.B.setCell_ne (by simp; omega) _⟩, h.b.setCell_ne (by simp; omega) _, h.s.put k v, ?_, h.lt, h.bel.setCell (by simp; omega) _⟩
  exact ownGrown h.own ⟨rfl, rfl, rfl, by simp [World.setCell], fun k hk hne => Below.heap_setCell _ _ _ _ (fun e => hne (by rw [e]))⟩ (row := some gs) (fun k hk e => by
    have := (World.ownsRow.lt h.own k (ownB_iff.1 hk)).1
    cases e; omega)
theorem BuJ.mid (h : BuJ w gL gA gB gs gb A n cap sup arcs W) (hg : W.grownBy V (Value.slice A n cap).ownBlock) :
    Blk V gb 125 [.slice (some ⟨gs, 0, none⟩) 5 5, .slice A n cap, .slice none 0 0, .slice none 0 0] := by
  have hk : ∀ k, (Value.slice A n cap).ownBlock = some k → gb + 1 ≤ k := fun k e => (World.ownsRow.lt h.own k e).1
  exact h.b.grown hg (fun e => by have := hk gb e.symm; omega)
theorem BuJ.push (h : BuJ w gL gA gB gs gb A n cap sup arcs W) (hg : W.grownBy V (Value.slice A n cap).ownBlock)
    (ho : V.ownsRow (gb + 1) 46 4 (.slice A2 n2 cap2) n2 (flat arcV arcs2)) : BuJ w gL gA gB gs gb A2 n2 cap2 sup arcs2 (V.setCell ⟨gb, 1, none⟩ (.slice A2 n2 cap2)) := by
  have hk : ∀ k, (Value.slice A n cap).ownBlock = some k → gb + 1 ≤ k := fun k e => (World.ownsRow.lt h.own k e).1
  have hne : ∀ k, k ≤ gb → some k ≠ (Value.slice A n cap).ownBlock := fun k hk' e => by have := hk k e.symm; omega
  have hl := h.lt
  have hbs := h.bel.size
  have m2 := h.mid hg
  refine ⟨⟨(h.co.L.grown hg (hne _ (by omega))).setCell_ne (by simp; omega) _, (h.co.A.grown hg (hne _ (by omega))).setCell_ne (by simp; omega) _, (h.co.B.grown hg (hne _ (by omega))).setCell_ne (by simp; omega) _⟩, m2.setCell 1 _, Blk.setCell_ne (Blk.grown h.s hg (hne _ (by omega))) (by simp; omega) _, ?_, hl, (h.bel.grown hg hbs (fun k e => by have := hk k e; omega)).setCell (by simp; omega) _⟩
  exact ownGrown ho ⟨rfl, rfl, rfl, by simp [World.setCell], fun k hk hne => Below.heap_setCell _ _ _ _ (fun e => hne (by rw [e]))⟩ (row := some gb) (fun k hk e => by
    have := (World.ownsRow.lt ho k (ownB_iff.1 hk)).1
    cases e; omega)
end
set_option maxHeartbeats 2000000 in
set_option maxRecDepth 100000 in
theorem add_c (w W : World) (gL gA gB gs gb n cap gx : Nat) (A : Option Addr) (sup : List Int) (arcs : List Arc) (x : Arc) (hn : n ≤ 100) (h : BuJ w gL gA gB gs gb A n cap sup arcs W) (hX : Blk W gx 46 (arcV x)) (hal : arcs.length = n) :
    Calls Try.prog 108 #[.pointer (some ⟨gb, 0, none⟩), .slice (some ⟨gx, 0, none⟩) 1 1] W fun e W' => ∃ A2 cap2, e = .returned (.int .i64 n) ∧ BuJ w gL gA gB gs gb A2 (n + 1) cap2 sup (arcs ++ [x]) W' := by
  have H0 := Lib.hid h
  have X := Lib.hid hX
  have HAL := Lib.hid hal
  clear h hX hal
  obtain ⟨i3, h3i, h3z, h3s, h3b⟩ := info_parts info46
  have y0 := H0.out.b.cell 1 rfl
  go_enter Try.func108, Try.ntmps108
  go_wp2_with (at_builtin; refine wpList_append_any (.tmp 10) (.tmp 11) 23 rfl rfl (gb + 1) 46 i3 (.agg #[.int .i64 0, .int .i64 0, .int .i64 0, .int .i64 0]) 4 32 Try.underlying23 h3i h3z h3s h3b rfl (by decide) A n cap (flat arcV arcs) (by rfl) H0.out.own (some ⟨gx, 0, none⟩) 1 1 (arcV x) (by rfl) (by rfl) (.inr ⟨_, rfl, fun k u hk => by rw [show ((⟨gx, 0, none⟩ : Addr).add k) = ⟨gx, k, none⟩ from (by unfold Addr.add; split <;> simp_all)]; exact X.out.cell k hk⟩) (by simp [arcV, Value.oneCell']) (by unfold maxLen; omega) (by omega) (by have := H0.out.b.lt; omega) ?_; intro A2 c2 v hown hgrow hat; have H1 := Lib.hid (show BuJ w gL gA gB gs gb A2 (n + 1) c2 sup (arcs ++ [x]) (v.setCell ⟨gb, 1, none⟩ (.slice A2 (n + 1) c2)) from H0.out.push hgrow (by rw [flat_append]; simpa [flat] using hown)); have MM := H0.out.mid hgrow; clear y0; have y0 := MM.cell 1 rfl; have q0 := MM.free 1; clear MM hown hgrow hat)
  go_upto_region 2 with fail
  generalize v.setCell ⟨gb, 1, none⟩ (.slice A2 (n + 1) c2) = v1 at H1 ⊢
  clear y0 q0
  have y0 := H1.out.b.cell 1 rfl
  go_wp2_with fail
  trace_state
  exact bodyPost_ret (v := .int .i64 n) (by simp [results, Try.results108, go_sem]) rfl ⟨A2, c2, rfl, H1.out⟩
end Go.Proofs.Ytmebpglkeedaoaa
namespace Go.Proofs.Ytmebpglkeedaoaa
open Go.RowKit Dp
def duN : Net := ⟨[1, 1, 0, 0, -2], [⟨0, 2, 1, 4⟩, ⟨0, 3, 1, 1⟩, ⟨1, 2, 1, 2⟩, ⟨1, 3, 1, 3⟩, ⟨2, 4, 1, 0⟩, ⟨3, 4, 1, 0⟩]⟩
theorem duN_ch : chE duN = 0 := by decide
theorem duN_flow : isFlow duN [0, 1, 1, 0, 1, 1] = true := by decide
theorem five {p : List Int} (h : p.length = 5) : ∃ a b c d e, p = [a, b, c, d, e] := by
  rcases p with _ | ⟨a, _ | ⟨b, _ | ⟨c, _ | ⟨d, _ | ⟨e, _ | ⟨f, t⟩⟩⟩⟩⟩⟩ <;> simp at h
  exact ⟨a, b, c, d, e, rfl⟩
theorem du_least {w w' : World} {e : Ending} (h : LeastP duN w e w') : ∃ gf gp p0 p1 p2 p3 p4, e = .returned (.tuple #[.slice (some ⟨gf, 0, none⟩) 6 6, .slice (some ⟨gp, 0, none⟩) 5 5, .int .i64 0]) ∧
    Blk w' gp 2 [.int .i64 p0, .int .i64 p1, .int .i64 p2, .int .i64 p3, .int .i64 p4] ∧ w.heap.size ≤ gp ∧ (-1073741824 ≤ p2 ∧ p2 ≤ 1073741824) ∧ (-1073741824 ≤ p3 ∧ p3 ≤ 1073741824) ∧ (-1073741824 ≤ p4 ∧ p4 ≤ 1073741824) := by
  rcases h with ⟨h, _⟩ | ⟨_, gf, gp, fl, p, rfl, _, hp, _, hg, _, _, hl, hb, _⟩ | ⟨_, _, _, _, _, h⟩
  · exact absurd duN_ch h
  · obtain ⟨a, b, c, d, e, rfl⟩ := five hl
    exact ⟨gf, gp, a, b, c, d, e, rfl, hp, hg, potOk_iff.1 (hb 2 (by simp)), potOk_iff.1 (hb 3 (by simp)), potOk_iff.1 (hb 4 (by simp))⟩
  · have := h [0, 1, 1, 0, 1, 1]
    rw [duN_flow] at this
    cases this
theorem BuJ.start {w V : World} {gL gA gB : Nat} (h : CO V gL gA gB) (hb : Below w.heap.size w V) : BuJ w gL gA gB V.heap.size (V.heap.size + 1) none 0 0 [0, 0, 0, 0, 0] [] ((V.alloc (.cells (Array.replicate 5 (.int .i64 0)) 2)).alloc (.cells #[.slice (some ⟨V.heap.size, 0, none⟩) 5 5, .slice none 0 0, .slice none 0 0, .slice none 0 0] 125)) := by
  have b2 := (hb.alloc hb.size (.cells (Array.replicate 5 (.int .i64 0)) 2))
  have b3 := b2.alloc b2.size (.cells #[.slice (some ⟨V.heap.size, 0, none⟩) 5 5, .slice none 0 0, .slice none 0 0, .slice none 0 0] 125)
  have f := fl_new 2 5 V
  have x := Blk.new' (V.alloc (.cells (Array.replicate 5 (.int .i64 0)) 2)) #[.slice (some ⟨V.heap.size, 0, none⟩) 5 5, .slice none 0 0, .slice none 0 0, .slice none 0 0] 125
  refine ⟨⟨(h.L.alloc _).alloc _, (h.A.alloc _).alloc _, (h.B.alloc _).alloc _⟩, ?_, ?_, World.ownsRow_nil _ _ _ _, ⟨h.L.lt, h.A.lt, h.B.lt, Nat.lt_succ_self _, hb.size⟩, b3⟩
  · simpa using x
  · exact Blk.alloc f _
theorem BuJ.net {w W : World} {gL gA gB gs gb cap : Nat} {A : Option Addr} (h : BuJ w gL gA gB gs gb A 6 cap duN.sup duN.arcs W) : NetAt W (some ⟨gs, 0, none⟩) A duN ∧ 6 ≤ cap ∧ cap ≤ 9223372036854775807 := by
  have hA := h.own
  obtain ⟨g, c, hv, hb, hlt⟩ := hA.form (by omega)
  cases hv
  refine ⟨⟨h.s.ints, fun i hi => ?_⟩, ?_⟩
  · have hi6 : i < 6 := hi
    have hc : ∀ j, j < 4 → W.cell? ⟨g, i * 4 + j, none⟩ = (arcV (duN.arcs.getD i default))[j]? := fun j hj => by
      rw [World.ownsRow.cellAt hA (i * 4 + j) (by omega)]
      exact flat_get (f := arcV) (s := 4) (fun _ => rfl) _ _ _ _ (getElem_D _ _ _ hi) hj
    have had : (⟨g, 0, none⟩ : Addr).add (i * 4) = ⟨g, i * 4, none⟩ := by unfold Addr.add; split <;> simp_all
    exact ⟨⟨g, 0, none⟩, rfl, hlt, by rw [had]; exact hc 0 (by omega), by rw [had]; exact hc 1 (by omega), by rw [had]; exact hc 2 (by omega), by rw [had]; exact hc 3 (by omega)⟩
  · rcases hA.2 with ⟨h0, _⟩ | ⟨g', c', cur, hv, _, _, hc1, hc2, _⟩
    · simp at h0
    · cases hv
      unfold maxLen at hc2
      omega
structure PrJ (w : World) (gL gA gB gp : Nat) (p0 p1 p2 p3 p4 : Int) (b : Nat) (A : Option Addr) (n cap : Nat) (cs : List Value) (W : World) : Prop where
  co : CO W gL gA gB
  p : Blk W gp 2 [.int .i64 p0, .int .i64 p1, .int .i64 p2, .int .i64 p3, .int .i64 p4]
  own : W.ownsRow b 2 1 (.slice A n cap) n cs
  lt : gL < b ∧ gA < b ∧ gB < b ∧ gp < b ∧ w.heap.size ≤ b
  bW : b ≤ W.heap.size
  bel : Below w.heap.size w W
section
variable {w W V : World} {gL gA gB gp b n cap n2 cap2 : Nat} {p0 p1 p2 p3 p4 : Int} {A A2 : Option Addr} {cs cs2 : List Value}
theorem PrJ.below (h : PrJ w gL gA gB gp p0 p1 p2 p3 p4 b A n cap cs W) (hb : Below W.heap.size W V) : PrJ w gL gA gB gp p0 p1 p2 p3 p4 b A n cap cs V :=
  ⟨h.co.below hb (Nat.le_refl _), h.p.below hb h.p.lt, ownBelow h.own hb, h.lt, Nat.le_trans h.bW hb.size, h.bel.trans (hb.mono h.bel.size)⟩
theorem PrJ.alloc (h : PrJ w gL gA gB gp p0 p1 p2 p3 p4 b A n cap cs W) (o : Obj) : PrJ w gL gA gB gp p0 p1 p2 p3 p4 b A n cap cs (W.alloc o) :=
  h.below ((Below.refl _ _).alloc (Nat.le_refl _) o)
theorem PrJ.drew (h : PrJ w gL gA gB gp p0 p1 p2 p3 p4 b A n cap cs W) : PrJ w gL gA gB gp p0 p1 p2 p3 p4 b A n cap cs W.drew :=
  h.below (Below.refl _ _).drew
theorem PrJ.other (h : PrJ w gL gA gB gp p0 p1 p2 p3 p4 b A n cap cs W) {row : Option Nat} (hg : W.grownBy V row) (hr : ∀ k, row = some k → b ≤ k) (ho : V.ownsRow b 2 1 (.slice A2 n2 cap2) n2 cs2) : PrJ w gL gA gB gp p0 p1 p2 p3 p4 b A2 n2 cap2 cs2 V := by
  have hne : ∀ k, k < b → some k ≠ row := fun k hk' e => by have := hr k e.symm; omega
  have hl := h.lt
  have hbs := h.bel.size
  exact ⟨⟨h.co.L.grown hg (hne _ (by omega)), h.co.A.grown hg (hne _ (by omega)), h.co.B.grown hg (hne _ (by omega))⟩, h.p.grown hg (hne _ (by omega)), ho, hl, Nat.le_trans h.bW hg.size, h.bel.grown hg hbs (fun k e => by have := hr k e; omega)⟩
theorem PrJ.push (h : PrJ w gL gA gB gp p0 p1 p2 p3 p4 b A n cap cs W) (hg : W.grownBy V (Value.slice A n cap).ownBlock) (ho : V.ownsRow b 2 1 (.slice A2 n2 cap2) n2 cs2) : PrJ w gL gA gB gp p0 p1 p2 p3 p4 b A2 n2 cap2 cs2 V :=
  h.other hg (fun k e => (World.ownsRow.lt h.own k e).1) ho
end
structure RoJ (w : World) (gL gA gB gp : Nat) (p0 p1 p2 p3 p4 : Int) (b g5 cap : Nat) (cs : List Value) (b2 : Nat) (A : Option Addr) (n c2 : Nat) (ds : List Value) (W : World) : Prop where
  p : PrJ w gL gA gB gp p0 p1 p2 p3 p4 b (some ⟨g5, 0, none⟩) 2 cap cs W
  own2 : W.ownsRow b2 2 1 (.slice A n c2) n ds
  lt2 : g5 < b2 ∧ b ≤ b2 ∧ b2 ≤ W.heap.size
section
variable {w W V : World} {gL gA gB gp b g5 cap b2 n c2 n2 c3 : Nat} {p0 p1 p2 p3 p4 : Int} {A A2 : Option Addr} {cs ds ds2 : List Value}
theorem RoJ.below (h : RoJ w gL gA gB gp p0 p1 p2 p3 p4 b g5 cap cs b2 A n c2 ds W) (hb : Below W.heap.size W V) : RoJ w gL gA gB gp p0 p1 p2 p3 p4 b g5 cap cs b2 A n c2 ds V :=
  ⟨h.p.below hb, ownBelow h.own2 hb, h.lt2.1, h.lt2.2.1, Nat.le_trans h.lt2.2.2 hb.size⟩
theorem RoJ.alloc (h : RoJ w gL gA gB gp p0 p1 p2 p3 p4 b g5 cap cs b2 A n c2 ds W) (o : Obj) : RoJ w gL gA gB gp p0 p1 p2 p3 p4 b g5 cap cs b2 A n c2 ds (W.alloc o) :=
  h.below ((Below.refl _ _).alloc (Nat.le_refl _) o)
theorem RoJ.push (h : RoJ w gL gA gB gp p0 p1 p2 p3 p4 b g5 cap cs b2 A n c2 ds W) (hg : W.grownBy V (Value.slice A n c2).ownBlock) (ho : V.ownsRow b2 2 1 (.slice A2 n2 c3) n2 ds2) : RoJ w gL gA gB gp p0 p1 p2 p3 p4 b g5 cap cs b2 A2 n2 c3 ds2 V := by
  have hk : ∀ k, (Value.slice A n c2).ownBlock = some k → b2 ≤ k := fun k e => (World.ownsRow.lt h.own2 k e).1
  have hl := h.lt2
  refine ⟨h.p.other hg (fun k e => by have := hk k e; omega) (ownGrown h.p.own hg (fun k hk' e => ?_)), ho, hl.1, hl.2.1, Nat.le_trans hl.2.2 hg.size⟩
  have h1 := hk k e.symm
  have h2 : k = g5 := ownB_some.1 hk'
  omega
end
set_option maxHeartbeats 4000000 in
set_option maxRecDepth 100000 in
theorem duals_c : DualsC := by
  intro gL gA gB w h
  have H0 := Lib.hid (BuJ.start h (Below.refl w.heap.size w))
  have l0 := h.L.cell 0 rfl
  have l1 := h.L.cell 1 rfl
  clear h
  have hm1 : ∀ W : World, (Instr.makeSlice 22 (.int .i64 5) (.int .i64 5)).run Try.prog W = .ok (.slice (some ⟨W.heap.size, 0, none⟩) 5 5) (W.alloc (.cells (Array.replicate 5 (.int .i64 0)) 2)) := make_64 5 (by omega)
  go_enter Try.func96, Try.ntmps96
  go_upto_region 3 with fail
  have J0 := H0
  clear H0 l0 l1 hm1
  generalize ((w.alloc (.cells (Array.replicate 5 (.int .i64 0)) 2)).alloc (.cells #[.slice (some ⟨w.heap.size, 0, none⟩) 5 5, .slice none 0 0, .slice none 0 0, .slice none 0 0] 125)) = v0 at J0 ⊢
  obtain ⟨gs, hgs⟩ : ∃ g, g = w.heap.size := ⟨_, rfl⟩
  rw [← hgs] at J0 ⊢
  clear hgs
  generalize gs + 1 = gb at J0 ⊢
  have y0 := J0.out.b.cell 0 rfl
  have y1 := J0.out.b.cell 1 rfl
  have l0 := J0.out.co.L.cell 0 rfl
  have l1 := J0.out.co.L.cell 1 rfl
  have a0 := J0.out.co.A.cell 0 rfl
  have a1 := J0.out.co.A.cell 1 rfl
  have b0 := J0.out.co.B.cell 0 rfl
  have b1 := J0.out.co.B.cell 1 rfl
  have s0 : v0.cell? ⟨gs, 0, none⟩ = some (.int .i64 (0)) := Blk.cell J0.out.s 0 rfl
  have z0 := J0.out.s.free 0
  have s1 : v0.cell? ⟨gs, 1, none⟩ = some (.int .i64 (0)) := Blk.cell J0.out.s 1 rfl
  have z1 := J0.out.s.free 1
  have s4 : v0.cell? ⟨gs, 4, none⟩ = some (.int .i64 (0)) := Blk.cell J0.out.s 4 rfl
  have z4 := J0.out.s.free 4
  go_wp2_with fail
  refine wp_loop_rounds 3 ?_
  rw [rounds_succ]
  go_upto_region 6 with fail
  clear y0 y1 l0 l1 a0 a1 b0 b1 s0 s1 s4 z0 z1 z4
  have y0 := J0.out.b.cell 0 rfl
  have y1 := J0.out.b.cell 1 rfl
  have l0 := J0.out.co.L.cell 0 rfl
  have l1 := J0.out.co.L.cell 1 rfl
  have a0 := J0.out.co.A.cell 0 rfl
  have a1 := J0.out.co.A.cell 1 rfl
  have b0 := J0.out.co.B.cell 0 rfl
  have b1 := J0.out.co.B.cell 1 rfl
  have s0 : v0.cell? ⟨gs, 0, none⟩ = some (.int .i64 (0)) := Blk.cell J0.out.s 0 rfl
  have z0 := J0.out.s.free 0
  have s1 : v0.cell? ⟨gs, 1, none⟩ = some (.int .i64 (0)) := Blk.cell J0.out.s 1 rfl
  have z1 := J0.out.s.free 1
  have s4 : v0.cell? ⟨gs, 4, none⟩ = some (.int .i64 (0)) := Blk.cell J0.out.s 4 rfl
  have z4 := J0.out.s.free 4
  go_upto_region 7 with fail
  clear y0 y1 l0 l1 a0 a1 b0 b1 s0 s1 s4 z0 z1 z4
  have J1 := Lib.hid (show BuJ w gL gA gB gs gb none 0 0 [1, 0, 0, 0, 0] [] _ from J0.out.set 0 (1))
  generalize v0.setCell ⟨gs, 0, none⟩ (.int .i64 (1)) = v1 at J1 ⊢
  have y0 := J1.out.b.cell 0 rfl
  have y1 := J1.out.b.cell 1 rfl
  have l0 := J1.out.co.L.cell 0 rfl
  have l1 := J1.out.co.L.cell 1 rfl
  have a0 := J1.out.co.A.cell 0 rfl
  have a1 := J1.out.co.A.cell 1 rfl
  have b0 := J1.out.co.B.cell 0 rfl
  have b1 := J1.out.co.B.cell 1 rfl
  have s0 : v1.cell? ⟨gs, 0, none⟩ = some (.int .i64 (1)) := Blk.cell J1.out.s 0 rfl
  have z0 := J1.out.s.free 0
  have s1 : v1.cell? ⟨gs, 1, none⟩ = some (.int .i64 (0)) := Blk.cell J1.out.s 1 rfl
  have z1 := J1.out.s.free 1
  have s4 : v1.cell? ⟨gs, 4, none⟩ = some (.int .i64 (0)) := Blk.cell J1.out.s 4 rfl
  have z4 := J1.out.s.free 4
  go_upto_region 8 with fail
  clear y0 y1 l0 l1 a0 a1 b0 b1 s0 s1 s4 z0 z1 z4
  have J2 := Lib.hid (show BuJ w gL gA gB gs gb none 0 0 [1, 0, 0, 0, -1] [] _ from J1.out.set 4 (-1))
  generalize v1.setCell ⟨gs, 4, none⟩ (.int .i64 (-1)) = v2 at J2 ⊢
  have y0 := J2.out.b.cell 0 rfl
  have y1 := J2.out.b.cell 1 rfl
  have l0 := J2.out.co.L.cell 0 rfl
  have l1 := J2.out.co.L.cell 1 rfl
  have a0 := J2.out.co.A.cell 0 rfl
  have a1 := J2.out.co.A.cell 1 rfl
  have b0 := J2.out.co.B.cell 0 rfl
  have b1 := J2.out.co.B.cell 1 rfl
  have s0 : v2.cell? ⟨gs, 0, none⟩ = some (.int .i64 (1)) := Blk.cell J2.out.s 0 rfl
  have z0 := J2.out.s.free 0
  have s1 : v2.cell? ⟨gs, 1, none⟩ = some (.int .i64 (0)) := Blk.cell J2.out.s 1 rfl
  have z1 := J2.out.s.free 1
  have s4 : v2.cell? ⟨gs, 4, none⟩ = some (.int .i64 (-1)) := Blk.cell J2.out.s 4 rfl
  have z4 := J2.out.s.free 4
  go_wp2_with fail
  refine wp_loop_rounds 3 ?_
  rw [rounds_succ]
  go_wp2_with fail
  clear y0 y1 l0 l1 a0 a1 b0 b1 s0 s1 s4 z0 z1 z4
  have MA := Lib.hid (J2.out.alloc (.cells #[.int .i64 0, .int .i64 2, .int .i64 1, .int .i64 4] 46))
  have X := Lib.hid (Blk.new' v2 #[.int .i64 0, .int .i64 2, .int .i64 1, .int .i64 4] 46)
  refine (add_c w _ gL gA gB gs gb 0 0 _ none [1, 0, 0, 0, -1] [] ⟨0, 2, 1, 4⟩ (by decide) MA.out X.out rfl).mono ?_
  rintro e v3 ⟨A1, c1, rfl, hj⟩
  have J3 := Lib.hid (show BuJ w gL gA gB gs gb A1 1 c1 [1, 0, 0, 0, -1] [⟨0, 2, 1, 4⟩] v3 from hj)
  clear hj MA X
  have y0 := J3.out.b.cell 0 rfl
  have y1 := J3.out.b.cell 1 rfl
  have l0 := J3.out.co.L.cell 0 rfl
  have l1 := J3.out.co.L.cell 1 rfl
  have a0 := J3.out.co.A.cell 0 rfl
  have a1 := J3.out.co.A.cell 1 rfl
  have b0 := J3.out.co.B.cell 0 rfl
  have b1 := J3.out.co.B.cell 1 rfl
  have s0 : v3.cell? ⟨gs, 0, none⟩ = some (.int .i64 (1)) := Blk.cell J3.out.s 0 rfl
  have z0 := J3.out.s.free 0
  have s1 : v3.cell? ⟨gs, 1, none⟩ = some (.int .i64 (0)) := Blk.cell J3.out.s 1 rfl
  have z1 := J3.out.s.free 1
  have s4 : v3.cell? ⟨gs, 4, none⟩ = some (.int .i64 (-1)) := Blk.cell J3.out.s 4 rfl
  have z4 := J3.out.s.free 4
  go_wp2_with fail
  rw [rounds_succ]
  go_wp2_with fail
  clear y0 y1 l0 l1 a0 a1 b0 b1 s0 s1 s4 z0 z1 z4
  have MA := Lib.hid (J3.out.alloc (.cells #[.int .i64 0, .int .i64 3, .int .i64 1, .int .i64 1] 46))
  have X := Lib.hid (Blk.new' v3 #[.int .i64 0, .int .i64 3, .int .i64 1, .int .i64 1] 46)
  refine (add_c w _ gL gA gB gs gb 1 c1 _ A1 [1, 0, 0, 0, -1] [⟨0, 2, 1, 4⟩] ⟨0, 3, 1, 1⟩ (by decide) MA.out X.out rfl).mono ?_
  rintro e v4 ⟨A2, c2, rfl, hj⟩
  have J4 := Lib.hid (show BuJ w gL gA gB gs gb A2 2 c2 [1, 0, 0, 0, -1] [⟨0, 2, 1, 4⟩, ⟨0, 3, 1, 1⟩] v4 from hj)
  clear hj MA X
  have y0 := J4.out.b.cell 0 rfl
  have y1 := J4.out.b.cell 1 rfl
  have l0 := J4.out.co.L.cell 0 rfl
  have l1 := J4.out.co.L.cell 1 rfl
  have a0 := J4.out.co.A.cell 0 rfl
  have a1 := J4.out.co.A.cell 1 rfl
  have b0 := J4.out.co.B.cell 0 rfl
  have b1 := J4.out.co.B.cell 1 rfl
  have s0 : v4.cell? ⟨gs, 0, none⟩ = some (.int .i64 (1)) := Blk.cell J4.out.s 0 rfl
  have z0 := J4.out.s.free 0
  have s1 : v4.cell? ⟨gs, 1, none⟩ = some (.int .i64 (0)) := Blk.cell J4.out.s 1 rfl
  have z1 := J4.out.s.free 1
  have s4 : v4.cell? ⟨gs, 4, none⟩ = some (.int .i64 (-1)) := Blk.cell J4.out.s 4 rfl
  have z4 := J4.out.s.free 4
  go_wp2_with fail
  rw [rounds_succ]
  go_wp2_with fail
  rw [rounds_succ]
  go_upto_region 6 with fail
  clear y0 y1 l0 l1 a0 a1 b0 b1 s0 s1 s4 z0 z1 z4
  have y0 := J4.out.b.cell 0 rfl
  have y1 := J4.out.b.cell 1 rfl
  have l0 := J4.out.co.L.cell 0 rfl
  have l1 := J4.out.co.L.cell 1 rfl
  have a0 := J4.out.co.A.cell 0 rfl
  have a1 := J4.out.co.A.cell 1 rfl
  have b0 := J4.out.co.B.cell 0 rfl
  have b1 := J4.out.co.B.cell 1 rfl
  have s0 : v4.cell? ⟨gs, 0, none⟩ = some (.int .i64 (1)) := Blk.cell J4.out.s 0 rfl
  have z0 := J4.out.s.free 0
  have s1 : v4.cell? ⟨gs, 1, none⟩ = some (.int .i64 (0)) := Blk.cell J4.out.s 1 rfl
  have z1 := J4.out.s.free 1
  have s4 : v4.cell? ⟨gs, 4, none⟩ = some (.int .i64 (-1)) := Blk.cell J4.out.s 4 rfl
  have z4 := J4.out.s.free 4
  go_upto_region 7 with fail
  clear y0 y1 l0 l1 a0 a1 b0 b1 s0 s1 s4 z0 z1 z4
  have J5 := Lib.hid (show BuJ w gL gA gB gs gb A2 2 c2 [1, 1, 0, 0, -1] [⟨0, 2, 1, 4⟩, ⟨0, 3, 1, 1⟩] _ from J4.out.set 1 (1))
  generalize v4.setCell ⟨gs, 1, none⟩ (.int .i64 (1)) = v5 at J5 ⊢
  have y0 := J5.out.b.cell 0 rfl
  have y1 := J5.out.b.cell 1 rfl
  have l0 := J5.out.co.L.cell 0 rfl
  have l1 := J5.out.co.L.cell 1 rfl
  have a0 := J5.out.co.A.cell 0 rfl
  have a1 := J5.out.co.A.cell 1 rfl
  have b0 := J5.out.co.B.cell 0 rfl
  have b1 := J5.out.co.B.cell 1 rfl
  have s0 : v5.cell? ⟨gs, 0, none⟩ = some (.int .i64 (1)) := Blk.cell J5.out.s 0 rfl
  have z0 := J5.out.s.free 0
  have s1 : v5.cell? ⟨gs, 1, none⟩ = some (.int .i64 (1)) := Blk.cell J5.out.s 1 rfl
  have z1 := J5.out.s.free 1
  have s4 : v5.cell? ⟨gs, 4, none⟩ = some (.int .i64 (-1)) := Blk.cell J5.out.s 4 rfl
  have z4 := J5.out.s.free 4
  go_upto_region 8 with fail
  clear y0 y1 l0 l1 a0 a1 b0 b1 s0 s1 s4 z0 z1 z4
  have J6 := Lib.hid (show BuJ w gL gA gB gs gb A2 2 c2 [1, 1, 0, 0, -2] [⟨0, 2, 1, 4⟩, ⟨0, 3, 1, 1⟩] _ from J5.out.set 4 (-2))
  generalize v5.setCell ⟨gs, 4, none⟩ (.int .i64 (-2)) = v6 at J6 ⊢
  have y0 := J6.out.b.cell 0 rfl
  have y1 := J6.out.b.cell 1 rfl
  have l0 := J6.out.co.L.cell 0 rfl
  have l1 := J6.out.co.L.cell 1 rfl
  have a0 := J6.out.co.A.cell 0 rfl
  have a1 := J6.out.co.A.cell 1 rfl
  have b0 := J6.out.co.B.cell 0 rfl
  have b1 := J6.out.co.B.cell 1 rfl
  have s0 : v6.cell? ⟨gs, 0, none⟩ = some (.int .i64 (1)) := Blk.cell J6.out.s 0 rfl
  have z0 := J6.out.s.free 0
  have s1 : v6.cell? ⟨gs, 1, none⟩ = some (.int .i64 (1)) := Blk.cell J6.out.s 1 rfl
  have z1 := J6.out.s.free 1
  have s4 : v6.cell? ⟨gs, 4, none⟩ = some (.int .i64 (-2)) := Blk.cell J6.out.s 4 rfl
  have z4 := J6.out.s.free 4
  go_wp2_with fail
  refine wp_loop_rounds 3 ?_
  rw [rounds_succ]
  go_wp2_with fail
  clear y0 y1 l0 l1 a0 a1 b0 b1 s0 s1 s4 z0 z1 z4
  have MA := Lib.hid (J6.out.alloc (.cells #[.int .i64 1, .int .i64 2, .int .i64 1, .int .i64 2] 46))
  have X := Lib.hid (Blk.new' v6 #[.int .i64 1, .int .i64 2, .int .i64 1, .int .i64 2] 46)
  refine (add_c w _ gL gA gB gs gb 2 c2 _ A2 [1, 1, 0, 0, -2] [⟨0, 2, 1, 4⟩, ⟨0, 3, 1, 1⟩] ⟨1, 2, 1, 2⟩ (by decide) MA.out X.out rfl).mono ?_
  rintro e v7 ⟨A3, c3, rfl, hj⟩
  have J7 := Lib.hid (show BuJ w gL gA gB gs gb A3 3 c3 [1, 1, 0, 0, -2] [⟨0, 2, 1, 4⟩, ⟨0, 3, 1, 1⟩, ⟨1, 2, 1, 2⟩] v7 from hj)
  clear hj MA X
  have y0 := J7.out.b.cell 0 rfl
  have y1 := J7.out.b.cell 1 rfl
  have l0 := J7.out.co.L.cell 0 rfl
  have l1 := J7.out.co.L.cell 1 rfl
  have a0 := J7.out.co.A.cell 0 rfl
  have a1 := J7.out.co.A.cell 1 rfl
  have b0 := J7.out.co.B.cell 0 rfl
  have b1 := J7.out.co.B.cell 1 rfl
  have s0 : v7.cell? ⟨gs, 0, none⟩ = some (.int .i64 (1)) := Blk.cell J7.out.s 0 rfl
  have z0 := J7.out.s.free 0
  have s1 : v7.cell? ⟨gs, 1, none⟩ = some (.int .i64 (1)) := Blk.cell J7.out.s 1 rfl
  have z1 := J7.out.s.free 1
  have s4 : v7.cell? ⟨gs, 4, none⟩ = some (.int .i64 (-2)) := Blk.cell J7.out.s 4 rfl
  have z4 := J7.out.s.free 4
  go_wp2_with fail
  rw [rounds_succ]
  go_wp2_with fail
  clear y0 y1 l0 l1 a0 a1 b0 b1 s0 s1 s4 z0 z1 z4
  have MA := Lib.hid (J7.out.alloc (.cells #[.int .i64 1, .int .i64 3, .int .i64 1, .int .i64 3] 46))
  have X := Lib.hid (Blk.new' v7 #[.int .i64 1, .int .i64 3, .int .i64 1, .int .i64 3] 46)
  refine (add_c w _ gL gA gB gs gb 3 c3 _ A3 [1, 1, 0, 0, -2] [⟨0, 2, 1, 4⟩, ⟨0, 3, 1, 1⟩, ⟨1, 2, 1, 2⟩] ⟨1, 3, 1, 3⟩ (by decide) MA.out X.out rfl).mono ?_
  rintro e v8 ⟨A4, c4, rfl, hj⟩
  have J8 := Lib.hid (show BuJ w gL gA gB gs gb A4 4 c4 [1, 1, 0, 0, -2] [⟨0, 2, 1, 4⟩, ⟨0, 3, 1, 1⟩, ⟨1, 2, 1, 2⟩, ⟨1, 3, 1, 3⟩] v8 from hj)
  clear hj MA X
  have y0 := J8.out.b.cell 0 rfl
  have y1 := J8.out.b.cell 1 rfl
  have l0 := J8.out.co.L.cell 0 rfl
  have l1 := J8.out.co.L.cell 1 rfl
  have a0 := J8.out.co.A.cell 0 rfl
  have a1 := J8.out.co.A.cell 1 rfl
  have b0 := J8.out.co.B.cell 0 rfl
  have b1 := J8.out.co.B.cell 1 rfl
  have s0 : v8.cell? ⟨gs, 0, none⟩ = some (.int .i64 (1)) := Blk.cell J8.out.s 0 rfl
  have z0 := J8.out.s.free 0
  have s1 : v8.cell? ⟨gs, 1, none⟩ = some (.int .i64 (1)) := Blk.cell J8.out.s 1 rfl
  have z1 := J8.out.s.free 1
  have s4 : v8.cell? ⟨gs, 4, none⟩ = some (.int .i64 (-2)) := Blk.cell J8.out.s 4 rfl
  have z4 := J8.out.s.free 4
  go_wp2_with fail
  rw [rounds_succ]
  go_wp2_with fail
  rw [rounds_succ]
  go_wp2_with fail
  refine wp_loop_rounds 3 ?_
  rw [rounds_succ]
  go_wp2_with fail
  clear y0 y1 l0 l1 a0 a1 b0 b1 s0 s1 s4 z0 z1 z4
  have MA := Lib.hid (J8.out.alloc (.cells #[.int .i64 2, .int .i64 4, .int .i64 1, .int .i64 0] 46))
  have X := Lib.hid (Blk.new' v8 #[.int .i64 2, .int .i64 4, .int .i64 1, .int .i64 0] 46)
  refine (add_c w _ gL gA gB gs gb 4 c4 _ A4 [1, 1, 0, 0, -2] [⟨0, 2, 1, 4⟩, ⟨0, 3, 1, 1⟩, ⟨1, 2, 1, 2⟩, ⟨1, 3, 1, 3⟩] ⟨2, 4, 1, 0⟩ (by decide) MA.out X.out rfl).mono ?_
  rintro e v9 ⟨A5, c5, rfl, hj⟩
  have J9 := Lib.hid (show BuJ w gL gA gB gs gb A5 5 c5 [1, 1, 0, 0, -2] [⟨0, 2, 1, 4⟩, ⟨0, 3, 1, 1⟩, ⟨1, 2, 1, 2⟩, ⟨1, 3, 1, 3⟩, ⟨2, 4, 1, 0⟩] v9 from hj)
  clear hj MA X
  have y0 := J9.out.b.cell 0 rfl
  have y1 := J9.out.b.cell 1 rfl
  have l0 := J9.out.co.L.cell 0 rfl
  have l1 := J9.out.co.L.cell 1 rfl
  have a0 := J9.out.co.A.cell 0 rfl
  have a1 := J9.out.co.A.cell 1 rfl
  have b0 := J9.out.co.B.cell 0 rfl
  have b1 := J9.out.co.B.cell 1 rfl
  have s0 : v9.cell? ⟨gs, 0, none⟩ = some (.int .i64 (1)) := Blk.cell J9.out.s 0 rfl
  have z0 := J9.out.s.free 0
  have s1 : v9.cell? ⟨gs, 1, none⟩ = some (.int .i64 (1)) := Blk.cell J9.out.s 1 rfl
  have z1 := J9.out.s.free 1
  have s4 : v9.cell? ⟨gs, 4, none⟩ = some (.int .i64 (-2)) := Blk.cell J9.out.s 4 rfl
  have z4 := J9.out.s.free 4
  go_wp2_with fail
  rw [rounds_succ]
  go_wp2_with fail
  clear y0 y1 l0 l1 a0 a1 b0 b1 s0 s1 s4 z0 z1 z4
  have MA := Lib.hid (J9.out.alloc (.cells #[.int .i64 3, .int .i64 4, .int .i64 1, .int .i64 0] 46))
  have X := Lib.hid (Blk.new' v9 #[.int .i64 3, .int .i64 4, .int .i64 1, .int .i64 0] 46)
  refine (add_c w _ gL gA gB gs gb 5 c5 _ A5 [1, 1, 0, 0, -2] [⟨0, 2, 1, 4⟩, ⟨0, 3, 1, 1⟩, ⟨1, 2, 1, 2⟩, ⟨1, 3, 1, 3⟩, ⟨2, 4, 1, 0⟩] ⟨3, 4, 1, 0⟩ (by decide) MA.out X.out rfl).mono ?_
  rintro e v10 ⟨A6, c6, rfl, hj⟩
  have J10 := Lib.hid (show BuJ w gL gA gB gs gb A6 6 c6 [1, 1, 0, 0, -2] [⟨0, 2, 1, 4⟩, ⟨0, 3, 1, 1⟩, ⟨1, 2, 1, 2⟩, ⟨1, 3, 1, 3⟩, ⟨2, 4, 1, 0⟩, ⟨3, 4, 1, 0⟩] v10 from hj)
  clear hj MA X
  have y0 := J10.out.b.cell 0 rfl
  have y1 := J10.out.b.cell 1 rfl
  have l0 := J10.out.co.L.cell 0 rfl
  have l1 := J10.out.co.L.cell 1 rfl
  have a0 := J10.out.co.A.cell 0 rfl
  have a1 := J10.out.co.A.cell 1 rfl
  have b0 := J10.out.co.B.cell 0 rfl
  have b1 := J10.out.co.B.cell 1 rfl
  have s0 : v10.cell? ⟨gs, 0, none⟩ = some (.int .i64 (1)) := Blk.cell J10.out.s 0 rfl
  have z0 := J10.out.s.free 0
  have s1 : v10.cell? ⟨gs, 1, none⟩ = some (.int .i64 (1)) := Blk.cell J10.out.s 1 rfl
  have z1 := J10.out.s.free 1
  have s4 : v10.cell? ⟨gs, 4, none⟩ = some (.int .i64 (-2)) := Blk.cell J10.out.s 4 rfl
  have z4 := J10.out.s.free 4
  go_wp2_with fail
  rw [rounds_succ]
  go_wp2_with fail
  clear y0 y1 l0 l1 a0 a1 b0 b1 s0 s1 s4 z0 z1 z4
  have NT := Lib.hid (BuJ.net J10.out)
  refine (Least_c _ _ duN 5 6 5 c6 _ rfl rfl (by omega) NT.out.2 NT.out.1).mono ?_
  rintro e v ⟨hL, hb⟩
  obtain ⟨gf, gp, p0, p1, p2, p3, p4, rfl, hp, hg, B2, B3, B4⟩ := du_least hL
  have HBV := Lib.hid (J10.out.bel.trans (hb.mono J10.out.bel.size))
  have P0 : Hid (PrJ w gL gA gB gp p0 p1 p2 p3 p4 v.heap.size none 0 0 [] v) := Lib.hid ⟨J10.out.co.below hb (Nat.le_refl _), hp, World.ownsRow_nil _ _ _ _, ⟨(J10.out.co.below hb (Nat.le_refl _)).L.lt, (J10.out.co.below hb (Nat.le_refl _)).A.lt, (J10.out.co.below hb (Nat.le_refl _)).B.lt, hp.lt, HBV.out.size⟩, Nat.le_refl _, HBV.out⟩
  clear hL hp hg hb HBV NT
  obtain ⟨d0, D0⟩ : ∃ d : Int, Hid (IntKind.i64.wrap (p2 - p4) = d ∧ -4294967296 ≤ d ∧ d ≤ 4294967296) := ⟨p2 - p4, Lib.hid ⟨IntWalk.i64_in (p2 - p4) (by omega), by omega, by omega⟩⟩
  obtain ⟨d1, D1⟩ : ∃ d : Int, Hid (IntKind.i64.wrap (p3 - p4) = d ∧ -4294967296 ≤ d ∧ d ≤ 4294967296) := ⟨p3 - p4, Lib.hid ⟨IntWalk.i64_in (p3 - p4) (by omega), by omega, by omega⟩⟩
  clear B2 B3 B4
  obtain ⟨q0, Q0⟩ : ∃ q : Int, Hid ((∀ ts t W, (Builtin.min_ ts t #[.int .i64 0, .int .i64 d0]).run Try.prog W = .ok (.int .i64 q) W) ∧ -4294967296 ≤ q ∧ q ≤ 0) := ⟨min 0 d0, Lib.hid ⟨fun ts t W => min_i64 0 d0 ts t W, by have := D0.out; omega, by omega⟩⟩
  obtain ⟨q1, Q1⟩ : ∃ q : Int, Hid ((∀ ts t W, (Builtin.min_ ts t #[.int .i64 0, .int .i64 d1]).run Try.prog W = .ok (.int .i64 q) W) ∧ -4294967296 ≤ q ∧ q ≤ 0) := ⟨min 0 d1, Lib.hid ⟨fun ts t W => min_i64 0 d1 ts t W, by have := D1.out; omega, by omega⟩⟩
  generalize hbp : v.heap.size = bp at P0 ⊢
  clear hbp
  obtain ⟨i2, h2i, h2z, h2s, h2b⟩ := info_parts info2
  go_wp2_with fail
  refine wp_loop_rounds 3 ?_
  rw [rounds_succ]
  go_upto_region 24 with fail
  refine wp_region_spine 14 [true, false] [0] ?af0 (fun V => PrJ w gL gA gB gp p0 p1 p2 p3 p4 bp none 0 0 [] V) (by kernel_rfl) (by kernel_rfl) P0.out.drew ?walk0 ?_
  case walk0 =>
    intro V hV
    have k0 := hV.p.cell 2 rfl
    have k4 := hV.p.cell 4 rfl
    have e0 := D0.out.1
    have hmx := Q0.out.1
    clear hV
    simp only [List.take_succ_cons, List.take_zero]
    repeat (go_big_quiet_step (fail))
    refine wpQuiet_nil ?_
    rfl
  intro u hV
  have PV := Lib.hid hV
  clear hV
  refine spineV_cons ?_
  unfold StepV
  go_simp
  refine ⟨PV.out.alloc _, ?_⟩
  have PA := Lib.hid (PV.out.alloc (.cells #[.int .i64 q0] 2))
  have X := Lib.hid (Blk.new' u #[.int .i64 q0] 2)
  generalize u.alloc (.cells #[.int .i64 q0] 2) = u2 at PA X ⊢
  generalize u.heap.size = gu at *
  refine spineV_cons ?_
  refine stepV_append (.tmp 104) (.tmp 118) 22 rfl bp 2 i2 (.int .i64 0) 1 8 Try.underlying22 h2i h2z h2s h2b rfl (by decide) none 0 0 [] (by rfl) PA.out.own (some ⟨gu, 0, none⟩) 1 1 [.int .i64 q0] (by rfl) (by rfl) (.inr ⟨_, rfl, ?_⟩) (by simp [Value.oneCell']) (by decide) (by decide) PA.out.bW ?_
  · intro j u' hj
    rcases j with _ | j <;> simp at hj
    subst hj
    exact X.out.cell 0 rfl
  intro B1 e1 v1 ho hg hk
  refine ⟨fun h => (by cases h), ?_⟩
  have P1 := Lib.hid (show PrJ w gL gA gB gp p0 p1 p2 p3 p4 bp B1 1 e1 [.int .i64 q0] v1 from PA.out.push hg ho)
  clear ho hg hk PA X PV
  refine spineV_nil ?_
  go_wp2_with fail
  rw [rounds_succ]
  go_upto_region 24 with fail
  refine wp_region_spine 14 [true, false] [0] ?af1 (fun V => PrJ w gL gA gB gp p0 p1 p2 p3 p4 bp B1 1 e1 [.int .i64 q0] V) (by kernel_rfl) (by kernel_rfl) P1.out.drew ?walk1 ?_
  case walk1 =>
    intro V hV
    have k1 := hV.p.cell 3 rfl
    have k4 := hV.p.cell 4 rfl
    have e0 := D1.out.1
    have hmx := Q1.out.1
    clear hV
    simp only [List.take_succ_cons, List.take_zero]
    repeat (go_big_quiet_step (fail))
    refine wpQuiet_nil ?_
    rfl
  intro u hV
  have PV := Lib.hid hV
  clear hV
  refine spineV_cons ?_
  unfold StepV
  go_simp
  refine ⟨PV.out.alloc _, ?_⟩
  have PA := Lib.hid (PV.out.alloc (.cells #[.int .i64 q1] 2))
  have X := Lib.hid (Blk.new' u #[.int .i64 q1] 2)
  generalize u.alloc (.cells #[.int .i64 q1] 2) = u2 at PA X ⊢
  generalize u.heap.size = gu at *
  refine spineV_cons ?_
  refine stepV_append (.tmp 104) (.tmp 118) 22 rfl bp 2 i2 (.int .i64 0) 1 8 Try.underlying22 h2i h2z h2s h2b rfl (by decide) B1 1 e1 [.int .i64 q0] (by rfl) PA.out.own (some ⟨gu, 0, none⟩) 1 1 [.int .i64 q1] (by rfl) (by rfl) (.inr ⟨_, rfl, ?_⟩) (by simp [Value.oneCell']) (by decide) (by decide) PA.out.bW ?_
  · intro j u' hj
    rcases j with _ | j <;> simp at hj
    subst hj
    exact X.out.cell 0 rfl
  intro B2 e2 v2 ho hg hk
  refine ⟨fun h => (by cases h), ?_⟩
  have P2 := Lib.hid (show PrJ w gL gA gB gp p0 p1 p2 p3 p4 bp B2 2 e2 [.int .i64 q0, .int .i64 q1] v2 from PA.out.push hg ho)
  clear ho hg hk PA X PV
  refine spineV_nil ?_
  go_wp2_with fail
  rw [rounds_succ]
  go_wp2_with fail
  obtain ⟨g5, c5, hv, hb5, hlt5⟩ := P2.out.own.form (by omega)
  cases hv
  have R0 : Hid (RoJ w gL gA gB gp p0 p1 p2 p3 p4 bp g5 e2 [.int .i64 q0, .int .i64 q1] v2.heap.size none 0 0 [] v2) := Lib.hid ⟨P2.out, World.ownsRow_nil _ _ _ _, hlt5, P2.out.bW, Nat.le_refl _⟩
  clear hb5 hlt5
  obtain ⟨b2, hb2⟩ : ∃ b, b = v2.heap.size := ⟨_, rfl⟩
  rw [← hb2] at R0
  clear hb2
  obtain ⟨s00, S00⟩ : ∃ d : Int, Hid (IntKind.i64.wrap (4 - q0) = d) := ⟨_, Lib.hid rfl⟩
  obtain ⟨x00, X00⟩ : ∃ q : Int, Hid (∀ ts t W, (Builtin.min_ ts t #[.int .i64 1152921504606846976, .int .i64 s00]).run Try.prog W = .ok (.int .i64 q) W) := ⟨_, Lib.hid fun ts t W => min_i64 _ _ ts t W⟩
  obtain ⟨s01, S01⟩ : ∃ d : Int, Hid (IntKind.i64.wrap (1 - q1) = d) := ⟨_, Lib.hid rfl⟩
  obtain ⟨x01, X01⟩ : ∃ q : Int, Hid (∀ ts t W, (Builtin.min_ ts t #[.int .i64 x00, .int .i64 s01]).run Try.prog W = .ok (.int .i64 q) W) := ⟨_, Lib.hid fun ts t W => min_i64 _ _ ts t W⟩
  obtain ⟨s10, S10⟩ : ∃ d : Int, Hid (IntKind.i64.wrap (2 - q0) = d) := ⟨_, Lib.hid rfl⟩
  obtain ⟨x10, X10⟩ : ∃ q : Int, Hid (∀ ts t W, (Builtin.min_ ts t #[.int .i64 1152921504606846976, .int .i64 s10]).run Try.prog W = .ok (.int .i64 q) W) := ⟨_, Lib.hid fun ts t W => min_i64 _ _ ts t W⟩
  obtain ⟨s11, S11⟩ : ∃ d : Int, Hid (IntKind.i64.wrap (3 - q1) = d) := ⟨_, Lib.hid rfl⟩
  obtain ⟨x11, X11⟩ : ∃ q : Int, Hid (∀ ts t W, (Builtin.min_ ts t #[.int .i64 x10, .int .i64 s11]).run Try.prog W = .ok (.int .i64 q) W) := ⟨_, Lib.hid fun ts t W => min_i64 _ _ ts t W⟩
  refine wp_loop_rounds 3 ?_
  rw [rounds_succ]
  have l0 := R0.out.p.co.L.cell 0 rfl
  have l1 := R0.out.p.co.L.cell 1 rfl
  have a0 := R0.out.p.co.A.cell 0 rfl
  have a1 := R0.out.p.co.A.cell 1 rfl
  have b0 := R0.out.p.co.B.cell 0 rfl
  have b1 := R0.out.p.co.B.cell 1 rfl
  have f0 : v2.cell? ⟨g5, 0, none⟩ = some (.int .i64 q0) := World.ownsRow.cellAt R0.out.p.own 0 (by omega)
  have f1 : v2.cell? ⟨g5, 1, none⟩ = some (.int .i64 q1) := World.ownsRow.cellAt R0.out.p.own 1 (by omega)
  go_wp2_with fail
  refine wp_loop_rounds 3 ?_
  have t1 := S00.out
  have t2 := X00.out
  rw [rounds_succ]
  go_wp2_with fail
  clear t1 t2
  have t1 := S01.out
  have t2 := X01.out
  rw [rounds_succ]
  go_wp2_with fail
  clear t1 t2
  clear l0 l1 a0 a1 b0 b1 f0 f1
  have MA := Lib.hid (R0.out.alloc (.cells #[.int .i64 x01] 2))
  have X := Lib.hid (Blk.new' v2 #[.int .i64 x01] 2)
  rw [rounds_succ]
  go_wp2_with (at_builtin; refine wpList_append_any (.tmp 145) (.tmp 147) 22 rfl rfl b2 2 i2 (.int .i64 0) 1 8 Try.underlying22 h2i h2z h2s h2b rfl (by decide) none 0 0 [] (by rfl) MA.out.own2 (some ⟨v2.heap.size, 0, none⟩) 1 1 [.int .i64 x01] (by rfl) (by rfl) (.inr ⟨_, rfl, fun k u hk => by rcases k with _ | k <;> simp at hk; subst hk; exact X.out.cell 0 rfl⟩) (by simp [Value.oneCell']) (by decide) (by decide) MA.out.lt2.2.2 ?_; intro C1 k1 r1 hown hgrow hat; have R1 := Lib.hid (show RoJ w gL gA gB gp p0 p1 p2 p3 p4 bp g5 e2 [.int .i64 q0, .int .i64 q1] b2 C1 1 k1 [.int .i64 x01] r1 from MA.out.push hgrow hown); clear hown hgrow hat MA X)
  rw [rounds_succ]
  have l0 := R1.out.p.co.L.cell 0 rfl
  have l1 := R1.out.p.co.L.cell 1 rfl
  have a0 := R1.out.p.co.A.cell 0 rfl
  have a1 := R1.out.p.co.A.cell 1 rfl
  have b0 := R1.out.p.co.B.cell 0 rfl
  have b1 := R1.out.p.co.B.cell 1 rfl
  have f0 : r1.cell? ⟨g5, 0, none⟩ = some (.int .i64 q0) := World.ownsRow.cellAt R1.out.p.own 0 (by omega)
  have f1 : r1.cell? ⟨g5, 1, none⟩ = some (.int .i64 q1) := World.ownsRow.cellAt R1.out.p.own 1 (by omega)
  go_wp2_with fail
  refine wp_loop_rounds 3 ?_
  have t1 := S10.out
  have t2 := X10.out
  rw [rounds_succ]
  go_wp2_with fail
  clear t1 t2
  have t1 := S11.out
  have t2 := X11.out
  rw [rounds_succ]
  go_wp2_with fail
  clear t1 t2
  clear l0 l1 a0 a1 b0 b1 f0 f1
  have MA := Lib.hid (R1.out.alloc (.cells #[.int .i64 x11] 2))
  have X := Lib.hid (Blk.new' r1 #[.int .i64 x11] 2)
  rw [rounds_succ]
  go_wp2_with (at_builtin; refine wpList_append_any (.tmp 145) (.tmp 147) 22 rfl rfl b2 2 i2 (.int .i64 0) 1 8 Try.underlying22 h2i h2z h2s h2b rfl (by decide) C1 1 k1 [.int .i64 x01] (by rfl) MA.out.own2 (some ⟨r1.heap.size, 0, none⟩) 1 1 [.int .i64 x11] (by rfl) (by rfl) (.inr ⟨_, rfl, fun k u hk => by rcases k with _ | k <;> simp at hk; subst hk; exact X.out.cell 0 rfl⟩) (by simp [Value.oneCell']) (by decide) (by decide) MA.out.lt2.2.2 ?_; intro C2 k2 r2 hown hgrow hat; have R2 := Lib.hid (show RoJ w gL gA gB gp p0 p1 p2 p3 p4 bp g5 e2 [.int .i64 q0, .int .i64 q1] b2 C2 2 k2 [.int .i64 x01, .int .i64 x11] r2 from MA.out.push hgrow hown); clear hown hgrow hat MA X)
  rw [rounds_succ]
  go_wp2_with fail
  exact bodyPost_ret (v := .tuple #[.slice C2 2 k2, .slice (some ⟨g5, 0, none⟩) 2 e2]) (by simp [results, Try.results96, go_sem]) rfl ⟨_, _, _, _, _, _, rfl, R2.out.p.bel⟩
end Go.Proofs.Ytmebpglkeedaoaa
namespace Go.Proofs.Ytmebpglkeedaoaa
open Go.RowKit Dp
theorem mv_nat (l : List Int) (a : Nat) (d v : Int) (h : v = l.getD a 0 + d) : mv l (a : Int) d = l.set a v := by subst h; simp [mv]
theorem ret2 {a b c d : Int} (h1 : a = b) (h2 : c = d) : Ending.returned (.tuple #[.int .i64 a, .int .i64 c]) = .returned (.tuple #[.int .i64 b, .int .i64 d]) := by rw [h1, h2]
def CoJ (w : World) (A B : Option Addr) (n cA m cB g c : Nat) (l : List Int) (W : World) : Prop := Below w.heap.size w W ∧ Blk W w.heap.size 25 [.slice A n cA, .slice B m cB] ∧ OwnI w.heap.size W g c l
theorem CoJ.put {w : World} {A B : Option Addr} {n cA m cB g c : Nat} {l : List Int} {W : World} (h : CoJ w A B n cA m cB g c l W) (hg : w.heap.size < g) (j : Nat) (v : Int) : CoJ w A B n cA m cB g c (l.set j v) (W.setCell ⟨g, j, none⟩ (.int .i64 v)) :=
  ⟨h.1.setCell (by simp; omega) _, h.2.1.setCell_ne (by simp; omega) _, h.2.2.put j v⟩
theorem CoJ.alloc {w : World} {A B : Option Addr} {n cA m cB g c : Nat} {l : List Int} {W : World} (h : CoJ w A B n cA m cB g c l W) (o : Obj) : CoJ w A B n cA m cB g c l (W.alloc o) :=
  ⟨h.1.alloc h.1.size _, h.2.1.alloc _, h.2.2.below ((Below.refl _ _).alloc (Nat.le_refl _) _)⟩
set_option maxHeartbeats 2000000 in
set_option maxRecDepth 100000 in
theorem Cost_c (A B C : Option Addr) (N : Net) (fl : List Int) (n m p cA cB cC : Nat) (w : World) (hn : n = N.sup.length) (hm : m = N.arcs.length) (hp : p = fl.length) (hA : n ≤ cA ∧ cA ≤ 9223372036854775807) (hB : m ≤ cB ∧ cB ≤ 9223372036854775807) (hC : p ≤ cC ∧ cC ≤ 9223372036854775807) (hN : NetAt w A B N) (hF : IntsAt w C fl) :
    Calls Try.prog 14 #[.agg #[.slice A n cA, .slice B m cB], .slice C p cC] w fun e w' => e = .returned (.tuple #[.int .i64 (coV N fl), .int .i64 (coE N fl)]) ∧ Below w.heap.size w w' := by
  have HN := Lib.hid hn
  have HM := Lib.hid hm
  have HP := Lib.hid hp
  have HNA := Lib.hid hN
  have HFA := Lib.hid hF
  clear hn hm hp hN hF
  have B1 := Lib.hid (Blk.new' w #[.slice A n cA, .slice B m cB] 25)
  have HB1 := Lib.hid ((Below.refl w.heap.size w).alloc (Nat.le_refl _) (.cells #[.slice A n cA, .slice B m cB] 25))
  go_enter Try.func14, Try.ntmps14
  go_wp2_with fail
  generalize w.alloc (.cells #[.slice A n cA, .slice B m cB] 25) = w1 at B1 HB1 ⊢
  refine (Check_c A B N n m cA cB w1 HN.out HM.out hA hB (HNA.out.below HB1.out (Nat.le_refl _))).mono ?_
  rintro e w2 ⟨rfl, hb2⟩
  have B2 := Lib.hid (B1.out.below hb2 B1.out.lt)
  have HB2 := Lib.hid (HB1.out.trans (hb2.mono HB1.out.size))
  clear hb2 B1 HB1
  have cA0 := B2.out.cell 0 rfl
  have cB0 := B2.out.cell 1 rfl
  by_cases hch : chE N = 0
  · have hce := net_len hch
    rw [hch]
    by_cases hpm : p = m
    · have hmm : (p : Int) = (m : Int) := by omega
      have n1 : 1 ≤ n := by rw [HN.out]; exact hce.1
      have n2 : n ≤ 1024 := by rw [HN.out]; exact hce.2.1
      have m2 : m ≤ 2048 := by rw [HM.out]; exact hce.2.2
      have HCH := Lib.hid hch
      clear hch hce
      go_wp2_with fail
      trace "clone"
      refine (clone_c A N.sup n cA w2 HN.out n1 (by omega) (HNA.out.1.below HB2.out (Nat.le_refl _))).mono ?_
      rintro e w3 ⟨g, c, rfl, hb3, z1, z2, ho3⟩
      have B3 := Lib.hid (B2.out.below hb3 B2.out.lt)
      have HB3 := Lib.hid (HB2.out.trans (hb3.mono HB2.out.size))
      have zg : w.heap.size < g := Nat.lt_of_lt_of_le B2.out.lt z1
      have HO3 : Hid (OwnI w.heap.size w3 g c N.sup) := Lib.hid (ho3.mono HB2.out.size)
      clear hb3 ho3 B2 HB2 cA0 cB0 z1
      have cA0 := B3.out.cell 0 rfl
      have cB0 := B3.out.cell 1 rfl
      go_wp2_with fail
      have J3 := Lib.hid (show CoJ w A B n cA m cB g c N.sup w3 from ⟨HB3.out, B3.out, HO3.out⟩)
      clear B3 HB3 HO3 cA0 cB0
      go_loopw [8, 31] (fun v i wr => ∃ k : Nat, k ≤ m ∧ i = .int .i64 k ∧ v = .int .i64 (costK N fl k) ∧ Hid (CoJ w A B n cA m cB g c (leftK N fl k) wr ∧ ∀ x, x < k → 0 ≤ fl.getD x 0 ∧ fl.getD x 0 ≤ (N.arcs.getD x default).cap)) (fun _ i _ => m - (intOf i).toNat)
      case atStart => exact ⟨0, Nat.zero_le _, rfl, rfl, Lib.hid ⟨J3.out, fun x hx => absurd hx (Nat.not_lt_zero _)⟩⟩
      case round =>
        obtain ⟨k, hk, rfl, rfl, HJ⟩ := hrel
        have bc := costK_bd HCH.out k (by rw [← HM.out]; exact hk) HJ.out.2
        have BL := Lib.hid (leftK_bd HCH.out k (by rw [← HM.out]; exact hk) HJ.out.2)
        have cA0 := HJ.out.1.2.1.cell 0 rfl
        have cB0 := HJ.out.1.2.1.cell 1 rfl
        by_cases hlt : k < m
        · obtain ⟨ad, rfl, hbl, d0, d1, d2, d3⟩ := (HNA.out.2.below HJ.out.1.1 (Nat.le_refl _)) k (by rw [← HM.out]; exact hlt)
          obtain ⟨af, rfl, hbf, hf0⟩ := HFA.out k (by rw [← HP.out, hpm]; exact hlt)
          have HFC := Lib.hid (fun (W : World) (h : Below w.heap.size w W) => (h.cell (p := af.add k) (by rw [block_add]; exact hbf)).trans hf0)
          clear hf0 hbf
          obtain ⟨a1, a2, a3, a4, a5⟩ := net_arc HCH.out k (by rw [← HM.out]; exact hlt)
          rw [← HN.out] at a1 a2
          have HL1 := Lib.hid (show leftK N fl (k + 1) = mv (mv (leftK N fl k) (N.arcs.getD k default).fr (-(fl.getD k 0))) (N.arcs.getD k default).to (fl.getD k 0) from rfl)
          have HK1 := Lib.hid (show costK N fl (k + 1) = costK N fl k + fl.getD k 0 * (N.arcs.getD k default).cost from rfl)
          have HCAP := Lib.hid (fun h => isFlow_cap (N := N) (fl := fl) k (by rw [← HM.out]; exact hlt) h)
          have HLL := Lib.hid (leftK_length N fl k)
          generalize har : N.arcs.getD k default = ar at *
          obtain ⟨fr, «to», ca, co⟩ := ar
          have HAR := Lib.hid (show (N.arcs.getD k default).cap = ca from by rw [har])
          clear har
          simp only at d0 d1 d2 d3 a1 a2 a3 a4 a5 HCAP HL1 HK1
          obtain ⟨a, rfl⟩ : ∃ a : Nat, fr = a := ⟨fr.toNat, by omega⟩
          obtain ⟨b, rfl⟩ : ∃ b : Nat, «to» = b := ⟨«to».toNat, by omega⟩
          generalize hfk : fl.getD k 0 = f at *
          have HFK := Lib.hid hfk
          clear hfk
          have HJ2 := Lib.hid HJ.out.2
          have J0 := Lib.hid HJ.out.1
          clear HJ
          generalize leftK N fl k = l at *
          generalize hS : costK N fl k = S at *
          clear hS
          have gne : wr.heap.size ≠ g := by have := J0.out.2.2.lt; omega
          go_upto_region 10 with fail
          have J4 := Lib.hid (J0.out.alloc (.cells #[.int .i64 a, .int .i64 b, .int .i64 ca, .int .i64 co] 46))
          have BX := Lib.hid (Blk.new' wr #[.int .i64 a, .int .i64 b, .int .i64 ca, .int .i64 co] 46)
          generalize wr.alloc (.cells #[.int .i64 a, .int .i64 b, .int .i64 ca, .int .i64 co] 46) = wx at J4 BX ⊢
          generalize wr.heap.size = ga at *
          have e0 := BX.out.cell 0 rfl
          have e1 := BX.out.cell 1 rfl
          have e2 := BX.out.cell 2 rfl
          have e3 := BX.out.cell 3 rfl
          have fc := HFC.out _ J4.out.1
          clear d0 d1 d2 d3 cA0 cB0
          have hlen : fl.length = N.arcs.length := by rw [← HP.out, ← HM.out]; exact hpm
          have HLEN := Lib.hid hlen
          clear hlen
          by_cases f1 : f < 0
          · have E := Lib.hid (co_no HCH.out HLEN.out (HCAP.out (by omega)))
            go_wp2
            go_ret2
            exact ⟨ret2 E.out.2.symm E.out.1.symm, J4.out.1⟩
          by_cases f2 : ca < f
          · have E := Lib.hid (co_no HCH.out HLEN.out (HCAP.out (by omega)))
            go_wp2
            go_ret2
            exact ⟨ret2 E.out.2.symm E.out.1.symm, J4.out.1⟩
          have la0 := J4.out.2.2.cell a (by rw [HLL.out, ← HN.out]; omega)
          have fr0 := J4.out.2.2.free a
          have lb0 := BL.out a (by rw [← HN.out]; omega)
          have M1 := Lib.hid (mv_nat l a (-f) (l.getD a 0 - f) (by omega))
          have M1B := Lib.hid (mv_bd (l := l) (i := (a : Int)) (d := -f) (B := 268435456 + 2097152 * k) (D := 1048576) (by omega) (by rw [HLL.out, ← HN.out]; omega) (fun j hj => BL.out j (by rw [← HLL.out]; exact hj)))
          have M1L := Lib.hid (mv_length l (a : Int) (-f))
          generalize l.getD a 0 = la at *
          go_upto_region 14 with fail
          refine gen_world (fun W => CoJ w A (some ad) n cA m cB g c (mv l a (-f)) W ∧ Blk W ga 46 [.int .i64 a, .int .i64 b, .int .i64 ca, .int .i64 co]) ⟨by rw [M1.out]; exact J4.out.put zg a _, BX.out.setCell_ne gne _⟩ ?_
          rintro w5 ⟨j5, bx5⟩
          have J5 := Lib.hid j5
          have BX5 := Lib.hid bx5
          clear j5 bx5 e0 e1 e2 e3 fc la0 fr0 lb0 J4 BX
          generalize mv l (a : Int) (-f) = l5 at *
          have e0 := BX5.out.cell 0 rfl
          have e1 := BX5.out.cell 1 rfl
          have e2 := BX5.out.cell 2 rfl
          have e3 := BX5.out.cell 3 rfl
          have la0 := J5.out.2.2.cell b (by rw [M1L.out, HLL.out, ← HN.out]; omega)
          have fr0 := J5.out.2.2.free b
          have lb0 := M1B.out b (by rw [M1L.out, HLL.out, ← HN.out]; omega)
          have M2 := Lib.hid (mv_nat l5 b f (l5.getD b 0 + f) (by omega))
          generalize l5.getD b 0 = lb at *
          go_upto_region 15 with fail
          refine gen_world (fun W => CoJ w A (some ad) n cA m cB g c (mv l5 b f) W ∧ Blk W ga 46 [.int .i64 a, .int .i64 b, .int .i64 ca, .int .i64 co]) ⟨by rw [M2.out]; exact J5.out.put zg b _, BX5.out.setCell_ne gne _⟩ ?_
          rintro w6 ⟨j6, bx6⟩
          have J6 := Lib.hid j6
          have BX6 := Lib.hid bx6
          clear j6 bx6 e0 e1 e2 e3 la0 fr0 lb0 J5 BX5
          have e0 := BX6.out.cell 0 rfl
          have e3 := BX6.out.cell 3 rfl
          have p1 : f * co ≤ 1099511627776 ∧ -1099511627776 ≤ f * co := by
            have q1 := Int.mul_le_mul_of_nonneg_left a5.2 (show (0:Int) ≤ f by omega)
            have q2 := Int.mul_le_mul_of_nonneg_left a5.1 (show (0:Int) ≤ f by omega)
            omega
          go_wp2
          go_roundw
          case rel =>
            refine ⟨k + 1, by omega, by go_num, by rw [HK1.out], Lib.hid ⟨?_, fun x hx => ?_⟩⟩
            · rw [HL1.out]; exact J6.out
            · by_cases hjk : x < k
              · exact HJ2.out x hjk
              · obtain rfl : x = k := by omega
                rw [HFK.out, HAR.out]; omega
          case measure => simp [intOf]; omega
        · obtain rfl : k = m := by omega
          have hlen : fl.length = N.arcs.length := by rw [← HP.out, ← HM.out]; exact hpm
          have HLEN := Lib.hid hlen
          clear hlen
          have J7 := Lib.hid HJ.out.1
          have HLL := Lib.hid (leftK_length N fl k)
          have EL := Lib.hid (fun j hj h => co_no HCH.out HLEN.out (isFlow_left (N := N) (fl := fl) j hj (by rw [← HM.out]; exact h)))
          have EY := Lib.hid (fun h2 => co_yes HCH.out HLEN.out (isFlow_yes HLEN.out (fun x hx => HJ.out.2 x (by rw [HM.out]; exact hx)) (by rw [← HM.out]; exact h2)))
          have EC := Lib.hid (show costK N fl k = costK N fl N.arcs.length from by rw [HM.out])
          clear HJ
          generalize leftK N fl k = l at *
          generalize costK N fl k = S at *
          go_wp2_with fail
          go_loop [73] (fun i => ∃ j : Nat, j ≤ n ∧ i = .int .i64 j ∧ Hid (∀ x, x < j → l.getD x 0 = 0)) (fun i => n - (intOf i).toNat)
          case atStart => exact ⟨0, Nat.zero_le _, rfl, Lib.hid (fun x hx => absurd hx (Nat.not_lt_zero _))⟩
          case round =>
            obtain ⟨j, hj, rfl, HZ⟩ := hrel
            by_cases hlt2 : j < n
            · have hc0 := J7.out.2.2.cell j (by rw [HLL.out, ← HN.out]; exact hlt2)
              have EJ := Lib.hid (EL.out j (by rw [← HN.out]; exact hlt2))
              generalize hx : l.getD j 0 = x at *
              have HX := Lib.hid hx
              clear hx
              by_cases x0 : x = 0
              · subst x0
                go_wp2
                go_round
                case rel =>
                  refine ⟨j + 1, by omega, by go_num, Lib.hid (fun y hy => ?_)⟩
                  by_cases hjk : y < j
                  · exact HZ.out y hjk
                  · obtain rfl : y = j := by omega
                    exact HX.out
                case measure => simp [intOf]; omega
              · have E := Lib.hid (EJ.out x0)
                have hx0 : (x == 0) = false := by simpa using x0
                clear x0
                go_wp2
                go_ret2
                exact ⟨ret2 E.out.2.symm E.out.1.symm, J7.out.1⟩
            · have E := Lib.hid (EY.out (fun x hx => HZ.out x (by rw [← HN.out] at hx; omega)))
              go_wp2
              go_ret2
              exact ⟨ret2 (by rw [E.out.2, EC.out]) E.out.1.symm, J7.out.1⟩
    · have E := Lib.hid (co_len (fl := fl) hch (by rw [← HP.out, ← HM.out]; exact hpm))
      have hmm : ¬ (p : Int) = (m : Int) := by omega
      have hmm' : ((p : Int) == (m : Int)) = false := by simpa using hmm
      go_wp2
      go_ret2
      exact ⟨ret2 E.out.2.symm E.out.1.symm, HB2.out⟩
  · have E := Lib.hid (co_ch (fl := fl) hch)
    have hne : (chE N == 0) = false := by simpa using hch
    generalize chE N = q at *
    go_wp2
    go_ret2
    exact ⟨ret2 E.out.2.symm E.out.1.symm, HB2.out⟩
end Go.Proofs.Ytmebpglkeedaoaa
namespace Go.Proofs.Ytmebpglkeedaoaa
open Go.RowKit Dp
end Go.Proofs.Ytmebpglkeedaoaa
namespace Go.Proofs.Ytmebpglkeedaoaa
open Go.RowKit Dp
theorem CoJ.below {w : World} {A B : Option Addr} {n cA m cB g c : Nat} {l : List Int} {W W' : World} (h : CoJ w A B n cA m cB g c l W) (hb : Below W.heap.size W W') : CoJ w A B n cA m cB g c l W' :=
  ⟨h.1.trans (hb.mono h.1.size), h.2.1.below hb h.2.1.lt, h.2.2.below hb⟩
end Go.Proofs.Ytmebpglkeedaoaa
namespace Go.Proofs.Ytmebpglkeedaoaa
open Go.RowKit Dp
end Go.Proofs.Ytmebpglkeedaoaa
namespace Go.Proofs.Ytmebpglkeedaoaa
open Go.RowKit Dp
set_option maxHeartbeats 2000000 in
set_option maxRecDepth 100000 in
theorem Proves_c (A B C : Option Addr) (N : Net) (ps : List Int) (n m p cA cB cC : Nat) (w : World) (hn : n = N.sup.length) (hm : m = N.arcs.length) (hp : p = ps.length) (hA : n ≤ cA ∧ cA ≤ 9223372036854775807) (hB : m ≤ cB ∧ cB ≤ 9223372036854775807) (hC : p ≤ cC ∧ cC ≤ 9223372036854775807) (hN : NetAt w A B N) (hF : IntsAt w C ps) :
    Calls Try.prog 16 #[.agg #[.slice A n cA, .slice B m cB], .slice C p cC] w fun e w' => e = .returned (.tuple #[.int .i64 (prV N ps), .int .i64 (prE N ps)]) ∧ Below w.heap.size w w' := by
  have HN := Lib.hid hn
  have HM := Lib.hid hm
  have HP := Lib.hid hp
  have HNA := Lib.hid hN
  have HFA := Lib.hid hF
  clear hn hm hp hN hF
  have B1 := Lib.hid (Blk.new' w #[.slice A n cA, .slice B m cB] 25)
  have HB1 := Lib.hid ((Below.refl w.heap.size w).alloc (Nat.le_refl _) (.cells #[.slice A n cA, .slice B m cB] 25))
  go_enter Try.func16, Try.ntmps16
  go_wp2_with fail
  generalize w.alloc (.cells #[.slice A n cA, .slice B m cB] 25) = w1 at B1 HB1 ⊢
  refine (Check_c A B N n m cA cB w1 HN.out HM.out hA hB (HNA.out.below HB1.out (Nat.le_refl _))).mono ?_
  rintro e w2 ⟨rfl, hb2⟩
  have B2 := Lib.hid (B1.out.below hb2 B1.out.lt)
  have HB2 := Lib.hid (HB1.out.trans (hb2.mono HB1.out.size))
  clear hb2 B1 HB1
  have cA0 := B2.out.cell 0 rfl
  have cB0 := B2.out.cell 1 rfl
  by_cases hch : chE N = 0
  · have hce := net_len hch
    rw [hch]
    by_cases hpn : p = n
    · have HLEN := Lib.hid (show ps.length = N.sup.length from by rw [← HP.out, ← HN.out]; exact hpn)
      subst hpn
      have n1 : 1 ≤ p := by rw [HN.out]; exact hce.1
      have n2 : p ≤ 1024 := by rw [HN.out]; exact hce.2.1
      have m2 : m ≤ 2048 := by rw [HM.out]; exact hce.2.2
      have HCH := Lib.hid hch
      clear hch hce
      obtain ⟨aS, rfl, hbS, _⟩ := HNA.out.1 0 (by rw [← HN.out]; omega)
      obtain ⟨aP, rfl, hbP, _⟩ := HFA.out 0 (by rw [← HP.out]; omega)
      have SC : Hid (∀ W, Below w.heap.size w W → ∀ k, k < p → W.cell? (aS.add k) = some (.int .i64 (N.sup.getD k 0))) := Lib.hid (fun W h k hk => by
        obtain ⟨a', e, hb, hc⟩ := HNA.out.1 k (by rw [← HN.out]; exact hk)
        cases e
        exact (h.cell (by rw [block_add]; exact hb)).trans hc)
      have PC : Hid (∀ W, Below w.heap.size w W → ∀ k, k < p → W.cell? (aP.add k) = some (.int .i64 (ps.getD k 0)) ∧ (aP.add k).block < W.heap.size) := Lib.hid (fun W h k hk => by
        obtain ⟨a', e, hb, hc⟩ := HFA.out k (by rw [← HP.out]; exact hk)
        cases e
        exact ⟨(h.cell (by rw [block_add]; exact hb)).trans hc, by rw [block_add]; have := h.size; omega⟩)
      go_wp2_with fail
      go_loop [7, 25] (fun v i => ∃ k : Nat, k ≤ p ∧ i = .int .i64 k ∧ v = .int .i64 (prS N ps k) ∧ Hid (∀ x, x < k → potOk (ps.getD x 0) = true)) (fun _ i => p - (intOf i).toNat)
      case atStart => exact ⟨0, Nat.zero_le _, rfl, rfl, Lib.hid (fun x hx => absurd hx (Nat.not_lt_zero _))⟩
      case round =>
        obtain ⟨k, hk, rfl, rfl, HK⟩ := hrel
        have bs := prS_bd2 HCH.out k (by rw [← HN.out]; exact hk) HK.out
        by_cases hlt : k < p
        · have sc := SC.out _ HB2.out k hlt
          have pc := (PC.out _ HB2.out k hlt).1
          have hsu := net_sup HCH.out k (by rw [← HN.out]; exact hlt)
          have ENO := Lib.hid (fun h => pr_no HCH.out HLEN.out k (by rw [← HP.out]; exact hlt) h)
          have HS1 := Lib.hid (show prS N ps (k + 1) = prS N ps k - ps.getD k 0 * N.sup.getD k 0 from rfl)
          generalize N.sup.getD k 0 = s at *
          generalize hx : ps.getD k 0 = x at *
          have HX := Lib.hid hx
          clear hx
          generalize prS N ps k = S at *
          by_cases h1 : x < -1073741824
          · have E := Lib.hid (ENO.out (by simp [potOk]; omega))
            go_wp2
            go_ret2
            exact ⟨ret2 E.out.2.symm E.out.1.symm, HB2.out⟩
          by_cases h2 : 1073741824 < x
          · have E := Lib.hid (ENO.out (by simp [potOk]; omega))
            go_wp2
            go_ret2
            exact ⟨ret2 E.out.2.symm E.out.1.symm, HB2.out⟩
          have p1 : x * s ≤ 288230376151711744 ∧ -288230376151711744 ≤ x * s := by
            have := mul_abs (p := x) (s := s) (P := 1073741824) (by omega)
            have : abs s ≤ 268435456 := by unfold abs; omega
            omega
          go_wp2
          go_round
          case rel =>
            refine ⟨k + 1, by omega, by go_num, by rw [HS1.out], Lib.hid (fun y hy => ?_)⟩
            by_cases hjk : y < k
            · exact HK.out y hjk
            · obtain rfl : y = k := by omega
              rw [HX.out]; simp [potOk]; omega
          case measure => simp [intOf]; omega
        · obtain rfl : k = p := by omega
          have HPO : Hid (∀ x, x < ps.length → potOk (ps.getD x 0) = true) := Lib.hid (fun x hx => HK.out x (by rw [HP.out]; exact hx))
          have E := Lib.hid (pr_yes HCH.out HLEN.out HPO.out)
          have E0 := Lib.hid (show prS N ps k = prA N ps 0 from by rw [HN.out]; rfl)
          rw [E0.out]
          rw [E0.out] at bs
          clear HK
          go_wp2_with fail
          trace "loop 2"
          go_loopw [7, 49] (fun v i wr => ∃ j : Nat, j ≤ m ∧ i = .int .i64 j ∧ v = .int .i64 (prA N ps j) ∧ Hid (Below w2.heap.size w2 wr)) (fun _ i _ => m - (intOf i).toNat)
          case atStart => exact ⟨0, Nat.zero_le _, rfl, rfl, Lib.hid (Below.refl _ _)⟩
          case round =>
            obtain ⟨j, hj, rfl, rfl, HB⟩ := hrel
            have ba := prA_bd HCH.out HLEN.out HPO.out j (by rw [← HM.out]; exact hj)
            have HBR := Lib.hid (HB2.out.trans (HB.out.mono HB2.out.size))
            by_cases hlt2 : j < m
            · obtain ⟨ad, rfl, hbl, d0, d1, d2, d3⟩ := (HNA.out.2.below HBR.out (Nat.le_refl _)) j (by rw [← HM.out]; exact hlt2)
              obtain ⟨a1, a2, a3, a4, a5⟩ := net_arc HCH.out j (by rw [← HM.out]; exact hlt2)
              rw [← HN.out] at a1 a2
              have HA1 := Lib.hid (show prA N ps (j + 1) = prA N ps j + prW (N.arcs.getD j default) ps from rfl)
              generalize N.arcs.getD j default = ar at *
              obtain ⟨fr, «to», ca, co⟩ := ar
              simp only at d0 d1 d2 d3 a1 a2 a3 a4 a5
              obtain ⟨a, rfl⟩ : ∃ a : Nat, fr = a := ⟨fr.toNat, by omega⟩
              obtain ⟨b, rfl⟩ : ∃ b : Nat, «to» = b := ⟨«to».toNat, by omega⟩
              have pa := potOk_iff.1 (HPO.out a (by rw [← HP.out]; omega))
              have pb := potOk_iff.1 (HPO.out b (by rw [← HP.out]; omega))
              have HW := Lib.hid (show prW ⟨a, b, ca, co⟩ ps = ca * min 0 (co + ps.getD a 0 - ps.getD b 0) from rfl)
              have PA := Lib.hid (fun W h => PC.out W h a (by omega))
              have PB := Lib.hid (fun W h => PC.out W h b (by omega))
              generalize ps.getD a 0 = x at *
              generalize ps.getD b 0 = y at *
              generalize prA N ps j = S at *
              have hx1 := fun ts t W => minTwo 0 (co + x - y) ts t W
              generalize hz : min 0 (co + x - y) = z at *
              have hzb : -2148532224 ≤ z ∧ z ≤ 0 := by omega
              clear hz
              have p1 : ca * z ≤ 0 ∧ -2252899325313024 ≤ ca * z := by
                have q1 := Int.mul_le_mul_of_nonneg_left hzb.1 a4.1
                have q2 := Int.mul_le_mul_of_nonneg_left hzb.2 a4.1
                omega
              go_upto_region 17 with fail
              have HBX := Lib.hid (HBR.out.alloc HBR.out.size (.cells #[.int .i64 a, .int .i64 b, .int .i64 ca, .int .i64 co] 46))
              have HBJ := Lib.hid (HB.out.alloc HB.out.size (.cells #[.int .i64 a, .int .i64 b, .int .i64 ca, .int .i64 co] 46))
              have BX := Lib.hid (Blk.new' wr #[.int .i64 a, .int .i64 b, .int .i64 ca, .int .i64 co] 46)
              generalize wr.alloc (.cells #[.int .i64 a, .int .i64 b, .int .i64 ca, .int .i64 co] 46) = wx at HBX HBJ BX ⊢
              generalize wr.heap.size = ga at *
              have e0 := BX.out.cell 0 rfl
              have e1 := BX.out.cell 1 rfl
              have e2 := BX.out.cell 2 rfl
              have e3 := BX.out.cell 3 rfl
              have zga := BX.out.lt
              obtain ⟨fa, fab⟩ := PA.out _ HBX.out
              obtain ⟨fb, fbb⟩ := PB.out _ HBX.out
              clear d0 d1 d2 d3
              refine wp_region_past (by kernel_rfl) (by kernel_rfl) ?_
              repeat (go_big_quiet_step (fail))
              refine wpQuiet_nil ?_
              intro xx
              have HXX := Lib.hid xx.far
              generalize xx.w = w4 at HXX ⊢
              go_wp2
              go_roundw
              case rel => exact ⟨j + 1, by omega, by go_num, by rw [HA1.out, HW.out], Lib.hid (HBJ.out.trans (HXX.out.mono HBJ.out.size))⟩
              case measure => simp [intOf]; omega
            · obtain rfl : j = m := by omega
              go_wp2
              go_ret2
              exact ⟨ret2 (by rw [E.out.2, HM.out]) E.out.1.symm, HBR.out⟩
    · have E := Lib.hid (pr_len (ps := ps) hch (by rw [← HP.out, ← HN.out]; exact hpn))
      have hmm : ¬ (p : Int) = (n : Int) := by omega
      have hmm' : ((p : Int) == (n : Int)) = false := by simpa using hmm
      go_wp2
      go_ret2
      exact ⟨ret2 E.out.2.symm E.out.1.symm, HB2.out⟩
  · have E := Lib.hid (pr_ch (ps := ps) hch)
    have hne : (chE N == 0) = false := by simpa using hch
    generalize chE N = q at *
    go_wp2
    go_ret2
    exact ⟨ret2 E.out.2.symm E.out.1.symm, HB2.out⟩
end Go.Proofs.Ytmebpglkeedaoaa
namespace Go.Proofs.Ytmebpglkeedaoaa
open Go.RowKit Dp
end Go.Proofs.Ytmebpglkeedaoaa
namespace Go.Proofs.Ytmebpglkeedaoaa
open Go.RowKit Dp
def marks (n : Nat) (c : List Int) (k : Nat) : List Value := (List.range n).map fun (i : Nat) => .bool (inK c k (i : Int))
def LkJ (w : World) (A B : Option Addr) (n cA m cB g : Nat) (c : List Int) (k : Nat) (W : World) : Prop := Below w.heap.size w W ∧ Blk W w.heap.size 25 [.slice A n cA, .slice B m cB] ∧ Blk W g 4 (marks n c k)
theorem LkJ.below {w : World} {A B : Option Addr} {n cA m cB g : Nat} {c : List Int} {k : Nat} {W W' : World} (h : LkJ w A B n cA m cB g c k W) (hb : Below W.heap.size W W') : LkJ w A B n cA m cB g c k W' :=
  ⟨h.1.trans (hb.mono h.1.size), h.2.1.below hb h.2.1.lt, h.2.2.below hb h.2.2.lt⟩
end Go.Proofs.Ytmebpglkeedaoaa
namespace Go.Proofs.Ytmebpglkeedaoaa
open Go.RowKit Dp
end Go.Proofs.Ytmebpglkeedaoaa
namespace Go.Proofs.Ytmebpglkeedaoaa
open Go.RowKit Dp
end Go.Proofs.Ytmebpglkeedaoaa
namespace Go.Proofs.Ytmebpglkeedaoaa
open Go.RowKit Dp
namespace Dp
def clE (N : Net) (fl ps : List Int) : Int := if coE N fl = 0 then (if prE N ps = 0 then (if coV N fl = prV N ps then 0 else 19) else prE N ps) else coE N fl
theorem cl_co {N : Net} {fl ps : List Int} (h : coE N fl ≠ 0) : clE N fl ps = coE N fl := by simp [clE, h]
theorem cl_pr {N : Net} {fl ps : List Int} (h : coE N fl = 0) (h2 : prE N ps ≠ 0) : clE N fl ps = prE N ps := by simp [clE, h, h2]
theorem cl_ne {N : Net} {fl ps : List Int} (h : coE N fl = 0) (h2 : prE N ps = 0) (h3 : coV N fl ≠ prV N ps) : clE N fl ps = 19 := by simp [clE, h, h2, h3]
theorem cl_ok {N : Net} {fl ps : List Int} (h : coE N fl = 0) (h2 : prE N ps = 0) (h3 : coV N fl = prV N ps) : clE N fl ps = 0 := by simp [clE, h, h2, h3]
end Dp
set_option maxHeartbeats 2000000 in
set_option maxRecDepth 100000 in
theorem CheckLeast_c (A B C D : Option Addr) (N : Net) (fl ps : List Int) (n m p q cA cB cC cD : Nat) (w : World) (hn : n = N.sup.length) (hm : m = N.arcs.length) (hp : p = fl.length) (hq : q = ps.length) (hA : n ≤ cA ∧ cA ≤ 9223372036854775807) (hB : m ≤ cB ∧ cB ≤ 9223372036854775807) (hC : p ≤ cC ∧ cC ≤ 9223372036854775807) (hD : q ≤ cD ∧ cD ≤ 9223372036854775807) (hN : NetAt w A B N) (hF : IntsAt w C fl) (hP : IntsAt w D ps) :
    Calls Try.prog 22 #[.agg #[.slice A n cA, .slice B m cB], .slice C p cC, .slice D q cD] w fun e w' => e = .returned (.int .i64 (clE N fl ps)) ∧ Below w.heap.size w w' := by
  have HN := Lib.hid hn
  have HM := Lib.hid hm
  have HP := Lib.hid hp
  have HQ := Lib.hid hq
  have HNA := Lib.hid hN
  have HFA := Lib.hid hF
  have HPA := Lib.hid hP
  clear hn hm hp hq hN hF hP
  have B1 := Lib.hid (Blk.new' w #[.slice A n cA, .slice B m cB] 25)
  have HB1 := Lib.hid ((Below.refl w.heap.size w).alloc (Nat.le_refl _) (.cells #[.slice A n cA, .slice B m cB] 25))
  go_enter Try.func22, Try.ntmps22
  go_wp2_with fail
  generalize w.alloc (.cells #[.slice A n cA, .slice B m cB] 25) = w1 at B1 HB1 ⊢
  refine (Cost_c A B C N fl n m p cA cB cC w1 HN.out HM.out HP.out hA hB hC (HNA.out.below HB1.out (Nat.le_refl _)) (HFA.out.below HB1.out (Nat.le_refl _))).mono ?_
  rintro e w2 ⟨rfl, hb2⟩
  have B2 := Lib.hid (B1.out.below hb2 B1.out.lt)
  have HB2 := Lib.hid (HB1.out.trans (hb2.mono HB1.out.size))
  clear hb2 B1 HB1
  have cA0 := B2.out.cell 0 rfl
  have cB0 := B2.out.cell 1 rfl
  have E1 := Lib.hid (cl_co (N := N) (fl := fl) (ps := ps))
  have E2 := Lib.hid (cl_pr (N := N) (fl := fl) (ps := ps))
  have E3 := Lib.hid (cl_ne (N := N) (fl := fl) (ps := ps))
  have E4 := Lib.hid (cl_ok (N := N) (fl := fl) (ps := ps))
  have PC := Lib.hid (Proves_c A B D N ps n m q cA cB cD w2 HN.out HM.out HQ.out hA hB hD (HNA.out.below HB2.out (Nat.le_refl _)) (HPA.out.below HB2.out (Nat.le_refl _)))
  generalize coE N fl = x at *
  generalize prE N ps = y at *
  generalize coV N fl = u at *
  generalize prV N ps = v at *
  by_cases hx : x = 0
  · subst hx
    go_wp2_with fail
    refine PC.out.mono ?_
    rintro e w3 ⟨rfl, hb3⟩
    by_cases hy : y = 0
    · subst hy
      by_cases hu : u = v
      · have E := Lib.hid (E4.out (by trivial) (by trivial) hu)
        subst hu
        go_wp2
        go_ret
        exact ⟨ret_int E.out.symm, HB2.out.trans (hb3.mono HB2.out.size)⟩
      · have E := Lib.hid (E3.out (by trivial) (by trivial) hu)
        have hne : (u == v) = false := by simpa using hu
        go_wp2
        go_ret
        exact ⟨ret_int E.out.symm, HB2.out.trans (hb3.mono HB2.out.size)⟩
    · have E := Lib.hid (E2.out (by trivial) hy)
      have hne : (y == 0) = false := by simpa using hy
      go_wp2
      go_ret
      exact ⟨ret_int E.out.symm, HB2.out.trans (hb3.mono HB2.out.size)⟩
  · have E := Lib.hid (E1.out hx)
    have hne : (x == 0) = false := by simpa using hx
    go_wp2
    go_ret
    exact ⟨ret_int E.out.symm, HB2.out⟩
end Go.Proofs.Ytmebpglkeedaoaa
namespace Go.Proofs.Ytmebpglkeedaoaa
open Go.RowKit Dp
def knN : Net := ⟨[3, 0, -3], [⟨0, 1, 2, 1⟩, ⟨1, 2, 2, 1⟩, ⟨0, 2, 2, 5⟩]⟩
theorem knN_ch : chE knN = 0 := by decide
theorem knN_flow : isFlow knN [2, 2, 1] = true := by decide
theorem knN_cost : costK knN [2, 2, 1] 3 = 9 := by decide
theorem knN_pr : prA knN [0, 1, 5] 3 = 9 := by decide
theorem all_pot {p : List Int} (h : ∀ v, v < p.length → potOk (p.getD v 0) = true) : p.all potOk = true := by
  rw [List.all_eq_true]
  intro x hx
  obtain ⟨i, hi, rfl⟩ := List.getElem_of_mem hx
  have := h i hi
  rwa [List.getD_eq_getElem?_getD, List.getElem?_eq_getElem hi] at this
theorem kn_least {w w' : World} {e : Ending} (h : LeastP knN w e w') : ∃ gf gp fl p, e = .returned (.tuple #[.slice (some ⟨gf, 0, none⟩) 3 3, .slice (some ⟨gp, 0, none⟩) 3 3, .int .i64 0]) ∧
    IntsAt w' (some ⟨gf, 0, none⟩) fl ∧ IntsAt w' (some ⟨gp, 0, none⟩) p ∧ fl.length = 3 ∧ p.length = 3 ∧ coE knN fl = 0 ∧ coV knN fl = 9 ∧ clE knN fl p = 0 := by
  rcases h with ⟨h, _⟩ | ⟨_, gf, gp, fl, p, rfl, hf, hp, _, hg, hlf, hfl, hl, hb, he⟩ | ⟨_, _, _, _, _, h⟩
  · exact absurd knN_ch h
  · have h1 := weak (N := knN) (fl := [2, 2, 1]) (ps := p) knN_ch knN_flow
    have h2 := weak (N := knN) (fl := fl) (ps := [0, 1, 5]) knN_ch hfl
    have h3 : knN.arcs.length = 3 := rfl
    rw [h3] at h1 h2 he
    rw [knN_cost] at h1
    rw [knN_pr] at h2
    have h9 : costK knN fl 3 = 9 := by omega
    have c1 : coE knN fl = 0 := by simp [coE, knN_ch, hlf, hfl]
    have c2 : coV knN fl = 9 := by simp [coV, knN_ch, hfl, h3, h9]
    have c3 : prE knN p = 0 := by simp only [prE, knN_ch, hl, all_pot hb, if_true]
    have c4 : prV knN p = 9 := by simp only [prV, c3, if_true]; rw [h3]; omega
    exact ⟨gf, gp, fl, p, rfl, hf.ints, hp.ints, hlf, hl, c1, c2, cl_ok c1 c3 (by rw [c2, c4])⟩
  · have := h [2, 2, 1]
    rw [knN_flow] at this
    cases this
structure KnJ (w : World) (g1 g2 g3 : Nat) (W : World) : Prop where
  s : Fl 2 W g1 [3, 0, -3]
  a : Blk W g2 46 (flat arcV knN.arcs)
  n : Blk W g3 25 [.slice (some ⟨g1, 0, none⟩) 3 3, .slice (some ⟨g2, 0, none⟩) 3 3]
  bel : Below w.heap.size w W
theorem KnJ.below {w W V : World} {g1 g2 g3 : Nat} (h : KnJ w g1 g2 g3 W) (hb : Below W.heap.size W V) : KnJ w g1 g2 g3 V :=
  ⟨h.s.below hb, h.a.below hb h.a.lt, h.n.below hb h.n.lt, h.bel.trans (hb.mono h.bel.size)⟩
theorem KnJ.net {w W : World} {g1 g2 g3 : Nat} (h : KnJ w g1 g2 g3 W) : NetAt W (some ⟨g1, 0, none⟩) (some ⟨g2, 0, none⟩) knN := by
  refine ⟨h.s.ints, fun i hi => ?_⟩
  have hc : ∀ j, j < 4 → W.cell? ⟨g2, i * 4 + j, none⟩ = (arcV (knN.arcs.getD i default))[j]? := fun j hj => by
    have e := flat_get (f := arcV) (s := 4) (fun _ => rfl) _ _ _ _ (getElem_D knN.arcs i default hi) hj
    rw [← e]
    obtain ⟨v, hv⟩ : ∃ v, (flat arcV knN.arcs)[i * 4 + j]? = some v := by
      rw [e]
      match j, hj with
      | 0, _ => exact ⟨_, rfl⟩
      | 1, _ => exact ⟨_, rfl⟩
      | 2, _ => exact ⟨_, rfl⟩
      | 3, _ => exact ⟨_, rfl⟩
    rw [hv]
    exact h.a.cell _ hv
  have had : (⟨g2, 0, none⟩ : Addr).add (i * 4) = ⟨g2, i * 4, none⟩ := by unfold Addr.add; split <;> simp_all
  exact ⟨⟨g2, 0, none⟩, rfl, h.a.lt, by rw [had]; exact hc 0 (by omega), by rw [had]; exact hc 1 (by omega), by rw [had]; exact hc 2 (by omega), by rw [had]; exact hc 3 (by omega)⟩
theorem KnJ.start (w : World) : KnJ w w.heap.size (w.heap.size + 1) (w.heap.size + 1 + 1) (((w.alloc (.cells #[.int .i64 3, .int .i64 0, .int .i64 (-3)] 2)).alloc (.cells #[.int .i64 0, .int .i64 1, .int .i64 2, .int .i64 1, .int .i64 1, .int .i64 2, .int .i64 2, .int .i64 1, .int .i64 0, .int .i64 2, .int .i64 2, .int .i64 5] 46)).alloc (.cells #[.slice (some ⟨w.heap.size, 0, none⟩) 3 3, .slice (some ⟨w.heap.size + 1, 0, none⟩) 3 3] 25)) := by
  have b1 := (Below.refl w.heap.size w).alloc (Nat.le_refl _) (.cells #[.int .i64 3, .int .i64 0, .int .i64 (-3)] 2)
  have b2 := b1.alloc b1.size (.cells #[.int .i64 0, .int .i64 1, .int .i64 2, .int .i64 1, .int .i64 1, .int .i64 2, .int .i64 2, .int .i64 1, .int .i64 0, .int .i64 2, .int .i64 2, .int .i64 5] 46)
  have b3 := b2.alloc b2.size (.cells #[.slice (some ⟨w.heap.size, 0, none⟩) 3 3, .slice (some ⟨w.heap.size + 1, 0, none⟩) 3 3] 25)
  have x1 := Blk.new' w #[.int .i64 3, .int .i64 0, .int .i64 (-3)] 2
  have x2 := Blk.new' (w.alloc (.cells #[.int .i64 3, .int .i64 0, .int .i64 (-3)] 2)) #[.int .i64 0, .int .i64 1, .int .i64 2, .int .i64 1, .int .i64 1, .int .i64 2, .int .i64 2, .int .i64 1, .int .i64 0, .int .i64 2, .int .i64 2, .int .i64 5] 46
  have x3 := Blk.new' ((w.alloc (.cells #[.int .i64 3, .int .i64 0, .int .i64 (-3)] 2)).alloc (.cells #[.int .i64 0, .int .i64 1, .int .i64 2, .int .i64 1, .int .i64 1, .int .i64 2, .int .i64 2, .int .i64 1, .int .i64 0, .int .i64 2, .int .i64 2, .int .i64 5] 46)) #[.slice (some ⟨w.heap.size, 0, none⟩) 3 3, .slice (some ⟨w.heap.size + 1, 0, none⟩) 3 3] 25
  refine ⟨(x1.alloc _).alloc _, ?_, ?_, b3⟩
  · have := x2.alloc (.cells #[.slice (some ⟨w.heap.size, 0, none⟩) 3 3, .slice (some ⟨w.heap.size + 1, 0, none⟩) 3 3] 25)
    simpa [flat, arcV, knN] using this
  · simpa using x3
theorem CO.start (V : World) : CO (((V.alloc (.cells #[.int .i64 4, .int .i64 1] 2)).alloc (.cells #[.int .i64 2, .int .i64 3] 2)).alloc (.cells #[.slice (some ⟨V.heap.size, 0, none⟩) 2 2, .slice (some ⟨V.heap.size + 1, 0, none⟩) 2 2] 22)) (V.heap.size + 1 + 1) V.heap.size (V.heap.size + 1) := by
  have x1 := Blk.new' V #[.int .i64 4, .int .i64 1] 2
  have x2 := Blk.new' (V.alloc (.cells #[.int .i64 4, .int .i64 1] 2)) #[.int .i64 2, .int .i64 3] 2
  have x3 := Blk.new' ((V.alloc (.cells #[.int .i64 4, .int .i64 1] 2)).alloc (.cells #[.int .i64 2, .int .i64 3] 2)) #[.slice (some ⟨V.heap.size, 0, none⟩) 2 2, .slice (some ⟨V.heap.size + 1, 0, none⟩) 2 2] 22
  refine ⟨?_, (x1.alloc _).alloc _, ?_⟩
  · simpa using x3
  · simpa using x2.alloc (.cells #[.slice (some ⟨V.heap.size, 0, none⟩) 2 2, .slice (some ⟨V.heap.size + 1, 0, none⟩) 2 2] 22)
set_option maxHeartbeats 4000000 in
set_option maxRecDepth 100000 in
theorem known_c (w : World) : Calls Try.prog 13 #[] w fun e w' => e = .returned (.bool true) ∧ Below w.heap.size w w' := by
  have K0 := Lib.hid (KnJ.start w)
  go_enter Try.func13, Try.ntmps13
  go_upto_region 2 with fail
  generalize hW : ((w.alloc (.cells #[.int .i64 3, .int .i64 0, .int .i64 (-3)] 2)).alloc (.cells #[.int .i64 0, .int .i64 1, .int .i64 2, .int .i64 1, .int .i64 1, .int .i64 2, .int .i64 2, .int .i64 1, .int .i64 0, .int .i64 2, .int .i64 2, .int .i64 5] 46)).alloc (.cells #[.slice (some ⟨w.heap.size, 0, none⟩) 3 3, .slice (some ⟨w.heap.size + 1, 0, none⟩) 3 3] 25) = w1 at K0 ⊢
  clear hW
  obtain ⟨g1, hg1⟩ : ∃ g, g = w.heap.size := ⟨_, rfl⟩
  rw [← hg1] at K0 ⊢
  clear hg1
  obtain ⟨g2, hg2⟩ : ∃ g, g = g1 + 1 := ⟨_, rfl⟩
  rw [← hg2] at K0 ⊢
  clear hg2
  obtain ⟨g3, hg3⟩ : ∃ g, g = g2 + 1 := ⟨_, rfl⟩
  rw [← hg3] at K0 ⊢
  clear hg3
  have n0 := K0.out.n.cell 0 rfl
  have n1 := K0.out.n.cell 1 rfl
  go_wp2_with fail
  refine (Least_c _ _ knN 3 3 3 3 _ rfl rfl (by omega) (by omega) K0.out.net).mono ?_
  rintro e w2 ⟨hL, hb⟩
  obtain ⟨gf, gp, fl, p, rfl, hf, hp, lf, lp, c1, c2, c3⟩ := kn_least hL
  have K2 := Lib.hid (K0.out.below hb)
  have F2 := Lib.hid hf
  have P2 := Lib.hid hp
  have LF := Lib.hid lf
  have LP := Lib.hid lp
  have C1 := Lib.hid c1
  have C2 := Lib.hid c2
  have C3 := Lib.hid c3
  clear hL hb hf hp lf lp c1 c2 c3 K0 n0 n1
  have n0 := K2.out.n.cell 0 rfl
  have n1 := K2.out.n.cell 1 rfl
  go_wp2_with fail
  refine (Cost_c _ _ _ knN fl 3 3 3 3 3 3 _ rfl rfl LF.out.symm (by omega) (by omega) (by omega) K2.out.net F2.out).mono ?_
  rintro e w3 ⟨rfl, hb⟩
  rw [C1.out, C2.out]
  have K3 := Lib.hid (K2.out.below hb)
  have F3 := Lib.hid (F2.out.below hb (Nat.le_refl _))
  have P3 := Lib.hid (P2.out.below hb (Nat.le_refl _))
  clear hb K2 F2 P2 n0 n1
  have CC := Lib.hid (CO.start w3)
  have B4 := Lib.hid ((((Below.refl w3.heap.size w3).alloc (Nat.le_refl _) (.cells #[.int .i64 4, .int .i64 1] 2)).alloc (by simp) (.cells #[.int .i64 2, .int .i64 3] 2)).alloc (by simp; omega) (.cells #[.slice (some ⟨w3.heap.size, 0, none⟩) 2 2, .slice (some ⟨w3.heap.size + 1, 0, none⟩) 2 2] 22))
  go_wp2_with fail
  generalize ((w3.alloc (.cells #[.int .i64 4, .int .i64 1] 2)).alloc (.cells #[.int .i64 2, .int .i64 3] 2)).alloc (.cells #[.slice (some ⟨w3.heap.size, 0, none⟩) 2 2, .slice (some ⟨w3.heap.size + 1, 0, none⟩) 2 2] 22) = w4 at CC B4 ⊢
  refine (Assign_c duals_c _ _ _ _ CC.out).mono ?_
  rintro e w5 ⟨A, c, R, rn, rc, Q, qn, qc, rfl, ho, hb⟩
  obtain ⟨g, cg, hv, hbg, hlt⟩ := ho.form (by omega)
  cases hv
  have B5 := Lib.hid ((Below.refl w5.heap.size w5).alloc (Nat.le_refl _) (.cells #[.slice (some ⟨g, 0, none⟩) 2 c, .int .i64 3, .slice R rn rc, .slice Q qn qc] 87))
  have X := Lib.hid (Blk.new' w5 #[.slice (some ⟨g, 0, none⟩) 2 c, .int .i64 3, .slice R rn rc, .slice Q qn qc] 87)
  have OW := Lib.hid (ownBelow ho B5.out)
  have K5 := Lib.hid (((K3.out.below B4.out).below hb).below B5.out)
  have F5 := Lib.hid (((F3.out.below B4.out (Nat.le_refl _)).below hb (Nat.le_refl _)).below B5.out (Nat.le_refl _))
  have P5 := Lib.hid (((P3.out.below B4.out (Nat.le_refl _)).below hb (Nat.le_refl _)).below B5.out (Nat.le_refl _))
  clear ho hb hbg hlt K3 F3 P3 CC B4 B5
  go_upto_region 5 with fail
  generalize w5.alloc (.cells #[.slice (some ⟨g, 0, none⟩) 2 c, .int .i64 3, .slice R rn rc, .slice Q qn qc] 87) = w6 at X OW K5 F5 P5 ⊢
  generalize w5.heap.size = gm at *
  have n0 := K5.out.n.cell 0 rfl
  have n1 := K5.out.n.cell 1 rfl
  go_wp2_with fail
  refine (CheckLeast_c _ _ _ _ knN fl p 3 3 3 3 3 3 3 3 _ rfl rfl LF.out.symm LP.out.symm (by omega) (by omega) (by omega) (by omega) K5.out.net F5.out P5.out).mono ?_
  rintro e w7 ⟨rfl, hb⟩
  rw [C3.out]
  have X7 := Lib.hid (X.out.below hb X.out.lt)
  have O7 := Lib.hid (ownBelow OW.out hb)
  have BW := Lib.hid ((K5.out.below hb).bel)
  clear hb n0 n1 X OW K5 F5 P5
  have x0 := X7.out.cell 0 rfl
  have x1 := X7.out.cell 1 rfl
  have y0 : w7.cell? ⟨g, 0, none⟩ = some (.int .i64 1) := World.ownsRow.cellAt O7.out 0 (by omega)
  go_wp2_with fail
  exact bodyPost_ret (v := .bool true) (by simp [results, Try.results13, go_sem]) rfl ⟨rfl, BW.out⟩
end Go.Proofs.Ytmebpglkeedaoaa
namespace Go.Proofs.Ytmebpglkeedaoaa
namespace Dp
structure Trip where
  fr : Int
  «to» : Int
  use : Int
  deriving Inhabited
structure Car where
  cap : Int
  inn : Int
  out : Int
  start : Int
  fin : Int
  trips : List Trip
  deriving Inhabited
structure Site where
  lim : List Int
  exp : List Int
  buy : List Int
  sell : List Int
structure Tab where
  inn : List (List Int)
  out : List (List Int)
def allB (n : Nat) (p : Nat → Bool) : Bool := (List.range n).all p
theorem allB_iff {n : Nat} {p : Nat → Bool} : allB n p = true ↔ ∀ j, j < n → p j = true := by simp [allB, List.all_eq_true]
theorem allB_no {n : Nat} {p : Nat → Bool} (k : Nat) (hk : k < n) (h : p k = false) : allB n p = false := by
  cases hb : allB n p
  · rfl
  · rw [allB_iff.1 hb k hk] at h; cases h
def backAt (l : List Trip) : Nat → Int
  | 0 => 0
  | k + 1 => (l.getD k default).to
def tripOk (cap : Int) (n : Nat) (l : List Trip) (k : Nat) : Bool :=
  decide (backAt l k ≤ (l.getD k default).fr ∧ (l.getD k default).fr < (l.getD k default).to ∧ (l.getD k default).to ≤ n ∧ (0 ≤ (l.getD k default).use ∧ (l.getD k default).use ≤ cap))
def carHead (c : Car) : Bool := decide ((1 ≤ c.cap ∧ c.cap ≤ 1048576) ∧ (0 ≤ c.inn ∧ c.inn ≤ 1048576) ∧ (0 ≤ c.out ∧ c.out ≤ 1048576) ∧ (0 ≤ c.start ∧ c.start ≤ c.cap) ∧ (0 ≤ c.fin ∧ c.fin ≤ c.cap) ∧ c.trips.length ≤ 4)
def carOk (n : Nat) (c : Car) : Bool := carHead c && allB c.trips.length (tripOk c.cap n c.trips)
def slotOk (S : Site) (t : Nat) : Bool := decide ((0 ≤ S.lim.getD t 0 ∧ S.lim.getD t 0 ≤ 1048576) ∧ (0 ≤ S.exp.getD t 0 ∧ S.exp.getD t 0 ≤ 1048576) ∧ (0 ≤ S.buy.getD t 0 ∧ S.buy.getD t 0 ≤ 1048576) ∧ (0 ≤ S.sell.getD t 0 ∧ S.sell.getD t 0 ≤ S.buy.getD t 0))
def siteHead (S : Site) : Bool := decide ((1 ≤ S.lim.length ∧ S.lim.length ≤ 48) ∧ S.exp.length = S.lim.length ∧ S.buy.length = S.lim.length ∧ S.sell.length = S.lim.length)
def slotsOk (S : Site) : Bool := allB S.lim.length (slotOk S)
def carsOk (S : Site) (cs : List Car) : Bool := allB cs.length (fun i => carOk S.lim.length (cs.getD i default))
def stE (S : Site) (cs : List Car) : Int := if 8 < cs.length then 6 else if siteHead S && (slotsOk S && carsOk S cs) then 0 else 2
theorem stE_many {S : Site} {cs : List Car} (h : 8 < cs.length) : stE S cs = 6 := by simp [stE, h]
theorem stE_no {S : Site} {cs : List Car} (h : ¬ 8 < cs.length) (h2 : (siteHead S && (slotsOk S && carsOk S cs)) = false) : stE S cs = 2 := by unfold stE; rw [if_neg h, h2]; rfl
theorem stE_head {S : Site} {cs : List Car} (h : ¬ 8 < cs.length) (h2 : siteHead S = false) : stE S cs = 2 := stE_no h (by simp [h2])
theorem stE_slot {S : Site} {cs : List Car} (h : ¬ 8 < cs.length) (t : Nat) (ht : t < S.lim.length) (h2 : slotOk S t = false) : stE S cs = 2 := stE_no h (by simp [slotsOk, allB_no t ht h2])
theorem stE_car {S : Site} {cs : List Car} (h : ¬ 8 < cs.length) (i : Nat) (hi : i < cs.length) (h2 : carOk S.lim.length (cs.getD i default) = false) : stE S cs = 2 := stE_no h (by
  have : carsOk S cs = false := allB_no i hi h2
  simp [this])
theorem stE_ok {S : Site} {cs : List Car} (h : ¬ 8 < cs.length) (h1 : siteHead S = true) (h2 : ∀ t, t < S.lim.length → slotOk S t = true) (h3 : ∀ i, i < cs.length → carOk S.lim.length (cs.getD i default) = true) : stE S cs = 0 := by
  have a : slotsOk S = true := allB_iff.2 h2
  have b : carsOk S cs = true := allB_iff.2 h3
  unfold stE
  rw [if_neg h, h1, a, b]; rfl
theorem stE_0 {S : Site} {cs : List Car} (h : stE S cs = 0) : cs.length ≤ 8 ∧ siteHead S = true ∧ (∀ t, t < S.lim.length → slotOk S t = true) ∧ (∀ i, i < cs.length → carOk S.lim.length (cs.getD i default) = true) := by
  unfold stE at h
  by_cases h1 : 8 < cs.length
  · rw [if_pos h1] at h; cases h
  · rw [if_neg h1] at h
    cases hb : (siteHead S && (slotsOk S && carsOk S cs))
    · rw [hb] at h; cases h
    · simp only [Bool.and_eq_true] at hb
      exact ⟨by omega, hb.1, allB_iff.1 hb.2.1, allB_iff.1 hb.2.2⟩
theorem carOk_head {n : Nat} {c : Car} (h : carHead c = false) : carOk n c = false := by simp [carOk, h]
theorem carOk_trip {n : Nat} {c : Car} (k : Nat) (hk : k < c.trips.length) (h : tripOk c.cap n c.trips k = false) : carOk n c = false := by simp [carOk, allB_no k hk h]
theorem carOk_ok {n : Nat} {c : Car} (h : carHead c = true) (h2 : ∀ k, k < c.trips.length → tripOk c.cap n c.trips k = true) : carOk n c = true := by
  have : allB c.trips.length (tripOk c.cap n c.trips) = true := allB_iff.2 h2
  simp [carOk, h, this]
def useP (l : List Trip) (k : Int) : Nat → Int
  | 0 => 0
  | j + 1 => if (l.getD j default).fr = k then (l.getD j default).use else useP l k j
def awayP (l : List Trip) (k : Int) : Nat → Bool
  | 0 => false
  | j + 1 => awayP l k j || decide ((l.getD j default).fr ≤ k ∧ k < (l.getD j default).to)
def useC (c : Car) (k : Nat) : Int := useP c.trips k c.trips.length
def awayC (c : Car) (k : Nat) : Bool := awayP c.trips k c.trips.length
def lev (c : Car) (x y : List Int) : Nat → Int
  | 0 => c.start
  | k + 1 => lev c x y k + (x.getD k 0 - y.getD k 0 - useC c k)
def drP (T : Tab) (k : Nat) : Nat → Int
  | 0 => 0
  | i + 1 => drP T k i + ((T.inn.getD i []).getD k 0 - (T.out.getD i []).getD k 0)
def carG (c : Car) (x y : Int) (aw : Bool) : Bool := decide ((0 ≤ x ∧ x ≤ c.inn) ∧ (0 ≤ y ∧ y ≤ c.out) ∧ (aw = true → x + y = 0))
def carAt (cs : List Car) (T : Tab) (k i : Nat) : Bool := carG (cs.getD i default) ((T.inn.getD i []).getD k 0) ((T.out.getD i []).getD k 0) (awayC (cs.getD i default) k)
def slotE (S : Site) (cs : List Car) (T : Tab) (k : Nat) : Int :=
  if allB cs.length (carAt cs T k) then (if drP T k T.inn.length ≤ S.lim.getD k 0 ∧ -(S.exp.getD k 0) ≤ drP T k T.inn.length then 0 else 17) else 3
def slotsE (S : Site) (cs : List Car) (T : Tab) : Nat → Int
  | 0 => 0
  | k + 1 => if slotsE S cs T k = 0 then slotE S cs T k else slotsE S cs T k
def least (c : Car) (y : List Int) (n k : Nat) : Int := if k < n then max (useC c k) (y.getD k 0) else c.fin
def levG (c : Car) (x y : List Int) (n k : Nat) : Bool := decide (least c y n k ≤ lev c x y k ∧ lev c x y k ≤ c.cap)
def levsG (cs : List Car) (T : Tab) (n i : Nat) : Bool := allB (n + 1) (levG (cs.getD i default) (T.inn.getD i []) (T.out.getD i []) n)
def lenG (m n : Nat) (l : List (List Int)) : Bool := decide (l.length = m) && allB l.length (fun i => decide ((l.getD i []).length = n))
def plE (S : Site) (cs : List Car) (T : Tab) : Int :=
  if stE S cs = 0 then (if lenG cs.length S.lim.length T.inn && lenG cs.length S.lim.length T.out then
    (if slotsE S cs T S.lim.length = 0 then (if allB cs.length (levsG cs T S.lim.length) then 0 else 19) else slotsE S cs T S.lim.length) else 20) else stE S cs
end Dp
end Go.Proofs.Ytmebpglkeedaoaa
namespace Go.Proofs.Ytmebpglkeedaoaa
namespace Dp
theorem tripOk_iff {cap : Int} {n : Nat} {l : List Trip} {k : Nat} : tripOk cap n l k = true ↔ backAt l k ≤ (l.getD k default).fr ∧ (l.getD k default).fr < (l.getD k default).to ∧ (l.getD k default).to ≤ n ∧ (0 ≤ (l.getD k default).use ∧ (l.getD k default).use ≤ cap) := by
  unfold tripOk; rw [decide_eq_true_iff]
theorem carOk_iff {n : Nat} {c : Car} : carOk n c = true ↔ ((1 ≤ c.cap ∧ c.cap ≤ 1048576) ∧ (0 ≤ c.inn ∧ c.inn ≤ 1048576) ∧ (0 ≤ c.out ∧ c.out ≤ 1048576) ∧ (0 ≤ c.start ∧ c.start ≤ c.cap) ∧ (0 ≤ c.fin ∧ c.fin ≤ c.cap) ∧ c.trips.length ≤ 4) ∧ ∀ k, k < c.trips.length → tripOk c.cap n c.trips k = true := by
  unfold carOk carHead
  rw [Bool.and_eq_true, decide_eq_true_iff, allB_iff]
theorem slotOk_iff {S : Site} {t : Nat} : slotOk S t = true ↔ (0 ≤ S.lim.getD t 0 ∧ S.lim.getD t 0 ≤ 1048576) ∧ (0 ≤ S.exp.getD t 0 ∧ S.exp.getD t 0 ≤ 1048576) ∧ (0 ≤ S.buy.getD t 0 ∧ S.buy.getD t 0 ≤ 1048576) ∧ (0 ≤ S.sell.getD t 0 ∧ S.sell.getD t 0 ≤ S.buy.getD t 0) := by
  unfold slotOk; rw [decide_eq_true_iff]
theorem siteHead_iff {S : Site} : siteHead S = true ↔ (1 ≤ S.lim.length ∧ S.lim.length ≤ 48) ∧ S.exp.length = S.lim.length ∧ S.buy.length = S.lim.length ∧ S.sell.length = S.lim.length := by
  unfold siteHead; rw [decide_eq_true_iff]
theorem useP_bd {cap : Int} {n : Nat} {l : List Trip} (h : ∀ k, k < l.length → tripOk cap n l k = true) (hc : 0 ≤ cap) (k : Int) : ∀ m, m ≤ l.length → 0 ≤ useP l k m ∧ useP l k m ≤ cap
  | 0, _ => ⟨Int.le_refl _, hc⟩
  | m + 1, hl => by
    unfold useP
    have h2 := tripOk_iff.1 (h m (by omega))
    split
    · exact h2.2.2.2
    · exact useP_bd h hc k m (by omega)
theorem useC_bd {n : Nat} {c : Car} (h : carOk n c = true) (k : Nat) : 0 ≤ useC c k ∧ useC c k ≤ 1048576 := by
  have h1 := carOk_iff.1 h
  have := useP_bd h1.2 (by omega) k c.trips.length (Nat.le_refl _)
  unfold useC
  omega
theorem slotsE_all {S : Site} {cs : List Car} {T : Tab} : ∀ {n : Nat}, slotsE S cs T n = 0 → ∀ k, k < n → slotE S cs T k = 0
  | 0, _, k, hk => by omega
  | n + 1, h, k, hk => by
    unfold slotsE at h
    by_cases h0 : slotsE S cs T n = 0
    · rw [if_pos h0] at h
      by_cases e : k = n
      · rw [e]; exact h
      · exact slotsE_all h0 k (by omega)
    · rw [if_neg h0] at h
      exact absurd h h0
theorem slotE_0 {S : Site} {cs : List Car} {T : Tab} {k : Nat} (h : slotE S cs T k = 0) : (∀ i, i < cs.length → carAt cs T k i = true) ∧ drP T k T.inn.length ≤ S.lim.getD k 0 ∧ -(S.exp.getD k 0) ≤ drP T k T.inn.length := by
  unfold slotE at h
  by_cases h1 : allB cs.length (carAt cs T k) = true
  · rw [if_pos h1] at h
    by_cases h2 : drP T k T.inn.length ≤ S.lim.getD k 0 ∧ -(S.exp.getD k 0) ≤ drP T k T.inn.length
    · exact ⟨allB_iff.1 h1, h2⟩
    · rw [if_neg h2] at h; cases h
  · rw [if_neg h1] at h; cases h
theorem lenG_iff {m n : Nat} {l : List (List Int)} : lenG m n l = true ↔ l.length = m ∧ ∀ i, i < m → (l.getD i []).length = n := by
  unfold lenG
  rw [Bool.and_eq_true, decide_eq_true_iff, allB_iff]
  constructor
  · rintro ⟨rfl, h⟩; exact ⟨rfl, fun i hi => by simpa using h i hi⟩
  · rintro ⟨rfl, h⟩; exact ⟨rfl, fun i hi => by simpa using h i hi⟩
structure Keeps (S : Site) (cs : List Car) (T : Tab) : Prop where
  ok : stE S cs = 0
  li : T.inn.length = cs.length
  lo : T.out.length = cs.length
  ri : ∀ i, i < cs.length → (T.inn.getD i []).length = S.lim.length
  ro : ∀ i, i < cs.length → (T.out.getD i []).length = S.lim.length
  dr : ∀ k, k < S.lim.length → drP T k T.inn.length ≤ S.lim.getD k 0 ∧ -(S.exp.getD k 0) ≤ drP T k T.inn.length
  car : ∀ k, k < S.lim.length → ∀ i, i < cs.length → carAt cs T k i = true
  lv : ∀ i, i < cs.length → ∀ k, k ≤ S.lim.length → levG (cs.getD i default) (T.inn.getD i []) (T.out.getD i []) S.lim.length k = true
theorem plE_0 {S : Site} {cs : List Car} {T : Tab} (h : plE S cs T = 0) : Keeps S cs T := by
  unfold plE at h
  by_cases h0 : stE S cs = 0
  · rw [if_pos h0] at h
    cases h1 : (lenG cs.length S.lim.length T.inn && lenG cs.length S.lim.length T.out)
    · rw [h1] at h; cases h
    · rw [h1, if_pos rfl] at h
      by_cases h2 : slotsE S cs T S.lim.length = 0
      · rw [if_pos h2] at h
        cases h3 : allB cs.length (levsG cs T S.lim.length)
        · rw [h3] at h; cases h
        · rw [Bool.and_eq_true] at h1
          have a := lenG_iff.1 h1.1
          have b := lenG_iff.1 h1.2
          have c := fun k hk => slotE_0 (slotsE_all h2 k hk)
          refine ⟨h0, a.1, b.1, a.2, b.2, fun k hk => (c k hk).2, fun k hk => (c k hk).1, fun i hi k hk => ?_⟩
          exact allB_iff.1 (allB_iff.1 h3 i hi) k (by omega)
      · rw [if_neg h2] at h; exact absurd h h2
  · rw [if_neg h0] at h; exact absurd h h0
theorem carG_iff {c : Car} {x y : Int} {aw : Bool} : carG c x y aw = true ↔ (0 ≤ x ∧ x ≤ c.inn) ∧ (0 ≤ y ∧ y ≤ c.out) ∧ (aw = true → x + y = 0) := by unfold carG; rw [decide_eq_true_iff]
theorem levG_iff {c : Car} {x y : List Int} {n k : Nat} : levG c x y n k = true ↔ least c y n k ≤ lev c x y k ∧ lev c x y k ≤ c.cap := by unfold levG; rw [decide_eq_true_iff]
section
variable {S : Site} {cs : List Car} {T : Tab}
theorem Keeps.carok (h : Keeps S cs T) {i : Nat} (hi : i < cs.length) : carOk S.lim.length (cs.getD i default) = true := (stE_0 h.ok).2.2.2 i hi
theorem Keeps.level (h : Keeps S cs T) {i : Nat} (hi : i < cs.length) {k : Nat} (hk : k ≤ S.lim.length) : 0 ≤ lev (cs.getD i default) (T.inn.getD i []) (T.out.getD i []) k ∧ lev (cs.getD i default) (T.inn.getD i []) (T.out.getD i []) k ≤ (cs.getD i default).cap := by
  have h1 := levG_iff.1 (h.lv i hi k hk)
  have h2 := carOk_iff.1 (h.carok hi)
  refine ⟨?_, h1.2⟩
  have h3 := h1.1
  unfold least at h3
  by_cases hk' : k < S.lim.length
  · rw [if_pos hk'] at h3
    have h4 := carG_iff.1 (h.car k hk' i hi)
    omega
  · rw [if_neg hk'] at h3
    omega
theorem Keeps.last (h : Keeps S cs T) {i : Nat} (hi : i < cs.length) : (cs.getD i default).fin ≤ lev (cs.getD i default) (T.inn.getD i []) (T.out.getD i []) S.lim.length := by
  have h1 := (levG_iff.1 (h.lv i hi S.lim.length (Nat.le_refl _))).1
  unfold least at h1
  rw [if_neg (by omega)] at h1
  exact h1
end
end Dp
end Go.Proofs.Ytmebpglkeedaoaa
namespace Go.Proofs.Ytmebpglkeedaoaa
namespace Dp
def SlotBd (T : Tab) (k m : Nat) : Prop := ∀ i, i < m → (k < (T.inn.getD i []).length ∧ k < (T.out.getD i []).length) ∧ (0 ≤ (T.inn.getD i []).getD k 0 ∧ (T.inn.getD i []).getD k 0 ≤ 1048576) ∧ (0 ≤ (T.out.getD i []).getD k 0 ∧ (T.out.getD i []).getD k 0 ≤ 1048576)
theorem drP_bd {T : Tab} {k m : Nat} (h : SlotBd T k m) : ∀ i, i ≤ m → -(1048576 * i : Int) ≤ drP T k i ∧ drP T k i ≤ 1048576 * i
  | 0, _ => by simp [drP]
  | i + 1, hi => by
    have h1 := drP_bd h i (by omega)
    have h2 := h i (by omega)
    unfold drP
    omega
def RowBd (n : Nat) (xs : List Int) : Prop := xs.length = n ∧ ∀ k, k < n → 0 ≤ xs.getD k 0 ∧ xs.getD k 0 ≤ 1048576
theorem lev_bd {n : Nat} {c : Car} {x y : List Int} (hc : carOk n c = true) (hx : RowBd n x) (hy : RowBd n y) : ∀ k, k ≤ n → -(3145728 * k : Int) ≤ lev c x y k ∧ lev c x y k ≤ 1048576 + 3145728 * k
  | 0, _ => by
    have := carOk_iff.1 hc
    simp only [lev]; omega
  | k + 1, hk => by
    have h1 := lev_bd hc hx hy k (by omega)
    have h2 := hx.2 k (by omega)
    have h3 := hy.2 k (by omega)
    have h4 := useC_bd hc k
    simp only [lev]
    omega
end Dp
end Go.Proofs.Ytmebpglkeedaoaa
namespace Go.Proofs.Ytmebpglkeedaoaa
namespace Dp
def nodeF (n i k : Nat) : Nat := 1 + n + 2 * (i * (n + 1) + k)
theorem nodeF_k (n i k : Nat) : nodeF n i k = nodeF n i 0 + 2 * k := by unfold nodeF; omega
theorem nodeF_next (n i : Nat) : nodeF n (i + 1) 0 = nodeF n i n + 2 := by
  unfold nodeF
  rw [Nat.add_mul]
  omega
def slA (c : Car) (a k : Nat) : List Arc := ⟨a, a + 1, c.cap, 0⟩ :: ⟨a + 1, a + 2, c.cap, 0⟩ :: (if awayC c k = true then [] else [⟨1 + k, a + 2, c.inn, 0⟩, ⟨a + 1, 1 + k, c.out, 0⟩])
def carA (c : Car) (a : Nat) : Nat → List Arc
  | 0 => []
  | k + 1 => carA c a k ++ slA c (a + 2 * k) k
def finA (c : Car) (a : Nat) : List Arc := [⟨a, a + 1, c.cap, 0⟩, ⟨a + 1, 0, c.cap - c.fin, 0⟩]
def limA (S : Site) : Nat → List Arc
  | 0 => []
  | t + 1 => limA S t ++ [⟨0, 1 + t, S.lim.getD t 0, S.buy.getD t 0⟩]
def expA (S : Site) : Nat → List Arc
  | 0 => []
  | t + 1 => expA S t ++ [⟨1 + t, 0, S.exp.getD t 0, -(S.sell.getD t 0)⟩]
def carsA (S : Site) (cs : List Car) : Nat → List Arc
  | 0 => limA S S.lim.length ++ expA S S.lim.length
  | i + 1 => carsA S cs i ++ (carA (cs.getD i default) (nodeF S.lim.length i 0) S.lim.length ++ finA (cs.getD i default) (nodeF S.lim.length i S.lim.length))
theorem limA_len (S : Site) : ∀ t, (limA S t).length = t
  | 0 => rfl
  | t + 1 => by simp [limA, limA_len S t]
theorem expA_len (S : Site) : ∀ t, (expA S t).length = t
  | 0 => rfl
  | t + 1 => by simp [expA, expA_len S t]
theorem slA_len (c : Car) (a k : Nat) : (slA c a k).length ≤ 4 ∧ 2 ≤ (slA c a k).length := by unfold slA; split <;> simp
theorem carA_len (c : Car) (a : Nat) : ∀ k, (carA c a k).length ≤ 4 * k
  | 0 => Nat.le_refl _
  | k + 1 => by have := carA_len c a k; have := slA_len c (a + 2 * k) k; simp only [carA, List.length_append]; omega
theorem carsA_len (S : Site) (cs : List Car) : ∀ i, (carsA S cs i).length ≤ 2 * S.lim.length + i * (4 * S.lim.length + 2)
  | 0 => by simp [carsA, limA_len, expA_len]; omega
  | i + 1 => by
    have := carsA_len S cs i
    have h2 := carA_len (cs.getD i default) (nodeF S.lim.length i 0) S.lim.length
    simp only [carsA, List.length_append, finA, List.length_cons, List.length_nil, Nat.add_mul]
    omega
theorem carsA_bd {S : Site} {cs : List Car} (h : stE S cs = 0) (i : Nat) (hi : i ≤ cs.length) : (carsA S cs i).length ≤ 1648 := by
  have h0 := stE_0 h
  have hn := (siteHead_iff.1 h0.2.1).1
  have h1 := carsA_len S cs i
  have h2 : i * (4 * S.lim.length + 2) ≤ 8 * 194 := Nat.mul_le_mul (by omega) (by omega)
  omega
def arcsAt (S : Site) (cs : List Car) (i k : Nat) : List Arc := carsA S cs i ++ carA (cs.getD i default) (nodeF S.lim.length i 0) k
theorem carA_mono (c : Car) (a k : Nat) : ∀ d, (carA c a k).length ≤ (carA c a (k + d)).length
  | 0 => Nat.le_refl _
  | d + 1 => by
    have := carA_mono c a k d
    show _ ≤ (carA c a (k + d + 1)).length
    simp only [carA, List.length_append]; omega
theorem arcsAt_bd {S : Site} {cs : List Car} (h : stE S cs = 0) {i k : Nat} (hi : i < cs.length) (hk : k ≤ S.lim.length) : (arcsAt S cs i k).length + 2 ≤ 1648 := by
  have h1 := carsA_bd h (i + 1) hi
  have h2 := carA_mono (cs.getD i default) (nodeF S.lim.length i 0) k (S.lim.length - k)
  rw [show k + (S.lim.length - k) = S.lim.length by omega] at h2
  simp only [carsA, arcsAt, List.length_append, finA, List.length_cons, List.length_nil] at h1 ⊢
  omega
theorem arcsAt_zero (S : Site) (cs : List Car) (i : Nat) : arcsAt S cs i 0 = carsA S cs i := by simp [arcsAt, carA]
theorem arcsAt_succ (S : Site) (cs : List Car) (i k : Nat) : arcsAt S cs i (k + 1) = arcsAt S cs i k ++ slA (cs.getD i default) (nodeF S.lim.length i k) k := by
  rw [nodeF_k]
  simp [arcsAt, carA]
theorem arcsAt_last (S : Site) (cs : List Car) (i : Nat) : carsA S cs (i + 1) = arcsAt S cs i S.lim.length ++ finA (cs.getD i default) (nodeF S.lim.length i S.lim.length) := by simp [arcsAt, carsA]
def inX (S : Site) (cs : List Car) (i k : Nat) : Int := if awayC (cs.getD i default) k = true then -1 else ((arcsAt S cs i k).length : Int) + 2
def outX (S : Site) (cs : List Car) (i k : Nat) : Int := if awayC (cs.getD i default) k = true then -1 else ((arcsAt S cs i k).length : Int) + 3
def rowK (f : Nat → Int) (n k : Nat) : List Int := (List.range n).map fun j => if j < k then f j else 0
theorem rowK_len (f : Nat → Int) (n k : Nat) : (rowK f n k).length = n := by simp [rowK]
theorem rowK_zero (f : Nat → Int) (n : Nat) : rowK f n 0 = List.replicate n 0 := by
  apply List.ext_getElem
  · simp [rowK]
  · intro i h1 h2; simp [rowK]
theorem rowK_set (f : Nat → Int) (n k : Nat) (hk : k < n) : (rowK f n k).set k (f k) = rowK f n (k + 1) := by
  apply List.ext_getElem
  · simp [rowK]
  · intro i h1 h2
    simp only [rowK, List.getElem_set, List.getElem_map, List.getElem_range]
    by_cases e : k = i
    · subst e; rw [if_pos rfl, if_pos (by omega)]
    · rw [if_neg e]
      by_cases h : i < k
      · rw [if_pos h, if_pos (by omega)]
      · rw [if_neg h, if_neg (by omega)]
theorem rowK_get {f : Nat → Int} {n k j : Nat} (hj : j < n) : (rowK f n k).getD j 0 = if j < k then f j else 0 := by
  simp [rowK, List.getD_eq_getElem?_getD, hj]
theorem rowK_full {f : Nat → Int} {n j : Nat} (hj : j < n) : (rowK f n n).getD j 0 = f j := by rw [rowK_get hj, if_pos hj]
theorem rowK_none (f : Nat → Int) (n k : Nat) (h : f k = 0) (hk : k < n) : rowK f n k = rowK f n (k + 1) := by
  apply List.ext_getElem
  · simp [rowK]
  · intro i h1 h2
    simp only [rowK, List.getElem_map, List.getElem_range]
    by_cases e : i = k
    · subst e; rw [if_neg (by omega), if_pos (by omega), h]
    · by_cases h : i < k
      · rw [if_pos h, if_pos (by omega)]
      · rw [if_neg h, if_neg (by omega)]
def inR (S : Site) (cs : List Car) (i : Nat) : List Int := rowK (inX S cs i) S.lim.length S.lim.length
def outR (S : Site) (cs : List Car) (i : Nat) : List Int := rowK (outX S cs i) S.lim.length S.lim.length
def slS (c : Car) (k : Nat) : List Int := [if k = 0 then c.start else 0, -(useC c k)]
def carS (c : Car) : Nat → List Int
  | 0 => []
  | k + 1 => carS c k ++ slS c k
def carsS (S : Site) (cs : List Car) : Nat → List Int
  | 0 => 0 :: List.replicate S.lim.length 0
  | i + 1 => carsS S cs i ++ (carS (cs.getD i default) S.lim.length ++ [0, -(cs.getD i default).fin])
theorem carS_len (c : Car) : ∀ k, (carS c k).length = 2 * k
  | 0 => rfl
  | k + 1 => by simp [carS, slS, carS_len c k]; omega
theorem carsS_len (S : Site) (cs : List Car) : ∀ i, (carsS S cs i).length = nodeF S.lim.length i 0
  | 0 => by simp [carsS, nodeF]; omega
  | i + 1 => by
    rw [nodeF_next, nodeF_k]
    simp only [carsS, List.length_append, carS_len, carsS_len S cs i, List.length_cons, List.length_nil]
    omega
theorem set_at {P Z : List Int} {a x : Int} : (P ++ a :: Z).set P.length x = P ++ x :: Z := by
  rw [List.set_append_right _ _ (Nat.le_refl _), Nat.sub_self]; rfl
theorem getD_at {P Z : List Int} {a : Int} : (P ++ a :: Z).getD P.length 0 = a := by
  rw [List.getD_eq_getElem?_getD, List.getElem?_append_right (Nat.le_refl _), Nat.sub_self]; rfl
theorem set_at1 {P Z : List Int} {a b x : Int} : (P ++ a :: b :: Z).set (P.length + 1) x = P ++ a :: x :: Z := by
  simp
theorem getD_at1 {P Z : List Int} {a b : Int} : (P ++ a :: b :: Z).getD (P.length + 1) 0 = b := by
  simp
def tlS (c : Car) (k r : Nat) : List Int := if k = 0 then c.start :: List.replicate (r - 1) 0 else List.replicate r 0
theorem tlS_form (c : Car) (k r : Nat) : tlS c k (r + 2) = (if k = 0 then c.start else 0) :: 0 :: List.replicate r 0 := by
  unfold tlS; split <;> rfl
theorem tlS_len (c : Car) (k r : Nat) (hr : 0 < r) : (tlS c k r).length = r := by
  unfold tlS; split <;> simp; omega
def supK (S : Site) (cs : List Car) (M i k : Nat) : List Int := (carsS S cs i ++ carS (cs.getD i default) k) ++ tlS (cs.getD i default) k (M - nodeF S.lim.length i k)
def supC (S : Site) (cs : List Car) (M i : Nat) : List Int := carsS S cs i ++ List.replicate (M - nodeF S.lim.length i 0) 0
theorem pre_len (S : Site) (cs : List Car) (i k : Nat) : (carsS S cs i ++ carS (cs.getD i default) k).length = nodeF S.lim.length i k := by
  rw [List.length_append, carsS_len, carS_len, ← nodeF_k]
theorem supK_len (S : Site) (cs : List Car) {M i k : Nat} (h : nodeF S.lim.length i k < M) : (supK S cs M i k).length = M := by
  unfold supK
  rw [List.length_append, pre_len, tlS_len _ _ _ (by omega)]; omega
theorem supC_len (S : Site) (cs : List Car) {M i : Nat} (h : nodeF S.lim.length i 0 ≤ M) : (supC S cs M i).length = M := by
  unfold supC
  rw [List.length_append, carsS_len, List.length_replicate]; omega
theorem supC_get (S : Site) (cs : List Car) {M i : Nat} (h : nodeF S.lim.length i 0 < M) : (supC S cs M i).getD (nodeF S.lim.length i 0) 0 = 0 := by
  obtain ⟨r, hr⟩ : ∃ r, M - nodeF S.lim.length i 0 = r + 1 := ⟨M - nodeF S.lim.length i 0 - 1, by omega⟩
  unfold supC
  rw [hr, List.replicate_succ]
  have := getD_at (P := carsS S cs i) (Z := List.replicate r 0) (a := 0)
  rw [carsS_len] at this
  exact this
theorem supC_start (S : Site) (cs : List Car) {M i : Nat} (h : nodeF S.lim.length i 0 < M) : (supC S cs M i).set (nodeF S.lim.length i 0) (cs.getD i default).start = supK S cs M i 0 := by
  obtain ⟨r, hr⟩ : ∃ r, M - nodeF S.lim.length i 0 = r + 1 := ⟨M - nodeF S.lim.length i 0 - 1, by omega⟩
  unfold supC supK
  rw [hr, List.replicate_succ]
  have := set_at (P := carsS S cs i) (Z := List.replicate r 0) (a := 0) (x := (cs.getD i default).start)
  rw [carsS_len] at this
  rw [this]
  simp [carS, tlS]
theorem supK_get (S : Site) (cs : List Car) {M i k : Nat} (h : nodeF S.lim.length i k + 1 < M) : (supK S cs M i k).getD (nodeF S.lim.length i k + 1) 0 = 0 := by
  obtain ⟨r, hr⟩ : ∃ r, M - nodeF S.lim.length i k = r + 2 := ⟨M - nodeF S.lim.length i k - 2, by omega⟩
  unfold supK
  rw [hr, tlS_form]
  have := getD_at1 (P := carsS S cs i ++ carS (cs.getD i default) k) (Z := List.replicate r 0) (a := if k = 0 then (cs.getD i default).start else 0) (b := 0)
  rw [pre_len] at this
  exact this
theorem supK_set (S : Site) (cs : List Car) {M i k : Nat} (h : nodeF S.lim.length i k + 1 < M) : (supK S cs M i k).set (nodeF S.lim.length i k + 1) (-(useC (cs.getD i default) k)) = supK S cs M i (k + 1) := by
  obtain ⟨r, hr⟩ : ∃ r, M - nodeF S.lim.length i k = r + 2 := ⟨M - nodeF S.lim.length i k - 2, by omega⟩
  have hr2 : M - nodeF S.lim.length i (k + 1) = r := by rw [nodeF_k] at hr ⊢; omega
  unfold supK
  rw [hr, hr2, tlS_form]
  have := set_at1 (P := carsS S cs i ++ carS (cs.getD i default) k) (Z := List.replicate r 0) (a := if k = 0 then (cs.getD i default).start else 0) (b := 0) (x := -(useC (cs.getD i default) k))
  rw [pre_len] at this
  rw [this]
  simp [carS, slS, tlS]
theorem supK_last (S : Site) (cs : List Car) {M i : Nat} (hn : 0 < S.lim.length) (h : nodeF S.lim.length i S.lim.length + 1 < M) : (supK S cs M i S.lim.length).set (nodeF S.lim.length i S.lim.length + 1) (-(cs.getD i default).fin) = supC S cs M (i + 1) := by
  obtain ⟨r, hr⟩ : ∃ r, M - nodeF S.lim.length i S.lim.length = r + 2 := ⟨M - nodeF S.lim.length i S.lim.length - 2, by omega⟩
  have hr2 : M - nodeF S.lim.length (i + 1) 0 = r := by rw [nodeF_next]; omega
  unfold supK supC
  rw [hr, hr2, tlS_form]
  have := set_at1 (P := carsS S cs i ++ carS (cs.getD i default) S.lim.length) (Z := List.replicate r 0) (a := if S.lim.length = 0 then (cs.getD i default).start else 0) (b := 0) (x := -(cs.getD i default).fin)
  rw [pre_len] at this
  rw [this, if_neg (by omega)]
  simp [carsS]
def supN (S : Site) (cs : List Car) : List Int := (carsS S cs cs.length).set 0 (-(sum (carsS S cs cs.length)))
def netN (S : Site) (cs : List Car) : Net := ⟨supN S cs, carsA S cs cs.length⟩
def nodesN (S : Site) (cs : List Car) : Nat := nodeF S.lim.length cs.length 0
theorem supN_len (S : Site) (cs : List Car) : (supN S cs).length = nodesN S cs := by simp [supN, carsS_len, nodesN]
theorem supC_all (S : Site) (cs : List Car) : supC S cs (nodesN S cs) cs.length = carsS S cs cs.length := by simp [supC, nodesN]
theorem supC_none (S : Site) (cs : List Car) (hm : S.lim.length + 1 ≤ nodesN S cs) : supC S cs (nodesN S cs) 0 = List.replicate (nodesN S cs) 0 := by
  unfold supC
  show 0 :: List.replicate S.lim.length 0 ++ _ = _
  rw [← List.replicate_succ, ← List.replicate_append_replicate.symm]
  congr 1
  simp [nodeF]
  omega
theorem nodes_bd {S : Site} {cs : List Car} (h : stE S cs = 0) : nodesN S cs ≤ 833 ∧ S.lim.length + 1 ≤ nodesN S cs := by
  have h0 := stE_0 h
  have hn := (siteHead_iff.1 h0.2.1).1
  unfold nodesN nodeF
  have h2 : cs.length * (S.lim.length + 1) ≤ 8 * 49 := Nat.mul_le_mul (by omega) (by omega)
  omega
theorem node_lt {S : Site} {cs : List Car} {i k : Nat} (hi : i < cs.length) (hk : k ≤ S.lim.length) : nodeF S.lim.length i k + 1 < nodesN S cs := by
  unfold nodesN nodeF
  have h2 : (i + 1) * (S.lim.length + 1) ≤ cs.length * (S.lim.length + 1) := Nat.mul_le_mul hi (Nat.le_refl _)
  rw [Nat.add_mul] at h2
  omega
end Dp
end Go.Proofs.Ytmebpglkeedaoaa
namespace Go.Proofs.Ytmebpglkeedaoaa
namespace Dp
theorem carok_of {S : Site} {cs : List Car} (h : stE S cs = 0) {i : Nat} (hi : i < cs.length) : carOk S.lim.length (cs.getD i default) = true := (stE_0 h).2.2.2 i hi
theorem carS_bd {n : Nat} {c : Car} (h : carOk n c = true) : ∀ k x, x ∈ carS c k → -1048576 ≤ x ∧ x ≤ 1048576
  | 0, x, hx => by simp [carS] at hx
  | k + 1, x, hx => by
    simp only [carS, slS, List.mem_append, List.mem_cons, List.not_mem_nil, or_false] at hx
    have h1 := (carOk_iff.1 h).1
    have h2 := useC_bd h k
    rcases hx with hx | hx | hx
    · exact carS_bd h k x hx
    · subst hx; split <;> omega
    · subst hx; omega
theorem carsS_bd {S : Site} {cs : List Car} (h : stE S cs = 0) : ∀ i, i ≤ cs.length → ∀ x, x ∈ carsS S cs i → -1048576 ≤ x ∧ x ≤ 1048576
  | 0, _, x, hx => by
    simp only [carsS, List.mem_cons, List.mem_replicate] at hx
    rcases hx with hx | hx <;> omega
  | i + 1, hi, x, hx => by
    have hc := carok_of h (show i < cs.length by omega)
    have h1 := (carOk_iff.1 hc).1
    simp only [carsS, List.mem_append, List.mem_cons, List.not_mem_nil, or_false] at hx
    rcases hx with hx | hx | hx | hx
    · exact carsS_bd h i (by omega) x hx
    · exact carS_bd hc _ x hx
    · subst hx; omega
    · subst hx; omega
def sumT (l : List Int) (j : Nat) : Int := sum ((l.drop 1).take j)
theorem sumT_zero (l : List Int) : sumT l 0 = 0 := rfl
theorem sumT_succ (l : List Int) (j : Nat) (h : j + 1 < l.length) : sumT l (j + 1) = sumT l j + l.getD (j + 1) 0 := by
  unfold sumT
  rw [sum_take _ _ (by simp; omega)]
  congr 1
  simp only [List.getD_eq_getElem?_getD, List.getElem?_drop]
  rw [Nat.add_comm 1 j]
theorem sumT_all (l : List Int) (h0 : l.getD 0 0 = 0) (hl : 0 < l.length) : sumT l (l.length - 1) = sum l := by
  cases l with
  | nil => simp at hl
  | cons a t =>
    have ha : a = 0 := h0
    subst ha
    unfold sumT
    simp [sum]
theorem sumT_bd {l : List Int} (h : ∀ x, x ∈ l → -1048576 ≤ x ∧ x ≤ 1048576) (j : Nat) (hj : j ≤ 1024) : -1073741824 ≤ sumT l j ∧ sumT l j ≤ 1073741824 := by
  have h2 := sum_bd (B := 1048576) (by omega) ((l.drop 1).take j) (fun x hx => h x (List.mem_of_mem_drop (List.mem_of_mem_take hx)))
  have h3 : ((l.drop 1).take j).length ≤ 1024 := by rw [List.length_take]; omega
  unfold sumT
  omega
theorem carsS_head (S : Site) (cs : List Car) : ∀ i, (carsS S cs i).getD 0 0 = 0
  | 0 => rfl
  | i + 1 => by
    have h := carsS_head S cs i
    have hl : 0 < (carsS S cs i).length := by rw [carsS_len]; unfold nodeF; omega
    simp only [carsS, List.getD_eq_getElem?_getD] at h ⊢
    rw [List.getElem?_append_left hl]
    exact h
def egA (c : Car) (k : Nat) (l left : Int) : Int := if awayC c k = true then 0 else max 0 (min (min c.inn (c.cap - l)) left)
def egW (S : Site) (cs : List Car) (L : Nat → Int) (k : Nat) : Nat → Int
  | 0 => S.lim.getD k 0
  | i + 1 => egW S cs L k i - egA (cs.getD i default) k (L i) (egW S cs L k i)
def egL (S : Site) (cs : List Car) : Nat → Nat → Int
  | 0, i => (cs.getD i default).start
  | k + 1, i => egL S cs k i + egA (cs.getD i default) k (egL S cs k i) (egW S cs (egL S cs k) k i) - useC (cs.getD i default) k
def egV (S : Site) (cs : List Car) (k i : Nat) : Int := egW S cs (egL S cs k) k i
def egX (S : Site) (cs : List Car) (i k : Nat) : Int := egA (cs.getD i default) k (egL S cs k i) (egV S cs k i)
theorem egV_succ (S : Site) (cs : List Car) (k i : Nat) : egV S cs k (i + 1) = egV S cs k i - egX S cs i k := rfl
theorem egL_succ (S : Site) (cs : List Car) (k i : Nat) : egL S cs (k + 1) i = egL S cs k i + egX S cs i k - useC (cs.getD i default) k := rfl
theorem egA_bd {c : Car} {k : Nat} {l left : Int} (h : 0 ≤ c.inn ∧ c.inn ≤ 1048576) : 0 ≤ egA c k l left ∧ egA c k l left ≤ 1048576 := by
  unfold egA
  split <;> omega
theorem egL_bd {S : Site} {cs : List Car} (h : stE S cs = 0) {i : Nat} (hi : i < cs.length) : ∀ k : Nat, -(1048576 * (k : Int)) ≤ egL S cs k i ∧ egL S cs k i ≤ 1048576 * ((k : Int) + 1)
  | 0 => by
    have h1 := (carOk_iff.1 (carok_of h hi)).1
    simp only [egL]; omega
  | k + 1 => by
    have h1 := (carOk_iff.1 (carok_of h hi)).1
    have h2 := egL_bd h hi k
    have h3 := useC_bd (carok_of h hi) k
    have h4 := egA_bd (c := cs.getD i default) (k := k) (l := egL S cs k i) (left := egV S cs k i) h1.2.1
    rw [egL_succ]
    unfold egX
    omega
theorem egX_bd {S : Site} {cs : List Car} (h : stE S cs = 0) {i : Nat} (hi : i < cs.length) (k : Nat) : 0 ≤ egX S cs i k ∧ egX S cs i k ≤ 1048576 := egA_bd (carOk_iff.1 (carok_of h hi)).1.2.1
theorem egV_bd {S : Site} {cs : List Car} (h : stE S cs = 0) {k : Nat} (hk : k < S.lim.length) : ∀ i : Nat, i ≤ cs.length → -(1048576 * (i : Int)) ≤ egV S cs k i ∧ egV S cs k i ≤ 1048576
  | 0, _ => by
    have h1 := slotOk_iff.1 ((stE_0 h).2.2.1 k hk)
    have : egV S cs k 0 = S.lim.getD k 0 := rfl
    omega
  | i + 1, hi => by
    have h2 := egV_bd h hk i (by omega)
    have h3 := egX_bd h (show i < cs.length by omega) k
    rw [egV_succ]
    omega
def egT (S : Site) (cs : List Car) : Tab := ⟨(List.range cs.length).map fun i => rowK (egX S cs i) S.lim.length S.lim.length, (List.range cs.length).map fun _ => List.replicate S.lim.length 0⟩
def egE (S : Site) (cs : List Car) : Int := if stE S cs = 0 then (if plE S cs (egT S cs) = 0 then 0 else 18) else stE S cs
end Dp
end Go.Proofs.Ytmebpglkeedaoaa
namespace Go.Proofs.Ytmebpglkeedaoaa
namespace Dp
def prQ (S : Site) (T : Tab) (m k : Nat) : Int := max 0 (drP T k m) * S.buy.getD k 0 + min 0 (drP T k m) * S.sell.getD k 0
def prc (S : Site) (T : Tab) (m : Nat) : Nat → Int
  | 0 => 0
  | k + 1 => prc S T m k + prQ S T m k
theorem mul_in {a b A B : Int} (ha : 0 ≤ a ∧ a ≤ A) (hb : 0 ≤ b ∧ b ≤ B) : 0 ≤ a * b ∧ a * b ≤ A * B :=
  ⟨Int.mul_nonneg ha.1 hb.1, Int.mul_le_mul ha.2 hb.2 hb.1 (by omega)⟩
theorem mul_neg {a b A B : Int} (ha : -A ≤ a ∧ a ≤ 0) (hb : 0 ≤ b ∧ b ≤ B) : -(A * B) ≤ a * b ∧ a * b ≤ 0 := by
  have h := mul_in (a := -a) (A := A) (by omega) hb
  rw [Int.neg_mul] at h
  omega
theorem prQ_bd {S : Site} {T : Tab} {m k : Nat} (hs : slotOk S k = true) (hb : SlotBd T k m) (h8 : m ≤ 8) :
    (0 ≤ max 0 (drP T k m) * S.buy.getD k 0 ∧ max 0 (drP T k m) * S.buy.getD k 0 ≤ 8796093022208) ∧ (-8796093022208 ≤ min 0 (drP T k m) * S.sell.getD k 0 ∧ min 0 (drP T k m) * S.sell.getD k 0 ≤ 0) := by
  have h1 := slotOk_iff.1 hs
  have h2 := drP_bd hb m (Nat.le_refl _)
  exact ⟨mul_in (A := 8388608) (B := 1048576) (by omega) (by omega), mul_neg (A := 8388608) (B := 1048576) (by omega) (by omega)⟩
theorem prc_bd {S : Site} {T : Tab} {m : Nat} (h8 : m ≤ 8) : ∀ k : Nat, (∀ j, j < k → slotOk S j = true ∧ SlotBd T j m) → -(8796093022208 * (k : Int)) ≤ prc S T m k ∧ prc S T m k ≤ 8796093022208 * (k : Int)
  | 0, _ => by simp [prc]
  | k + 1, h => by
    have h1 := prc_bd h8 k (fun j hj => h j (by omega))
    have h2 := prQ_bd (h k (by omega)).1 (h k (by omega)).2 h8
    simp only [prc, prQ]
    omega
def prcV (S : Site) (cs : List Car) (T : Tab) : Int := if plE S cs T = 0 then prc S T cs.length S.lim.length else 0
theorem Keeps.slot {S : Site} {cs : List Car} {T : Tab} (h : Keeps S cs T) {k : Nat} (hk : k < S.lim.length) : SlotBd T k cs.length := by
  intro i hi
  have h1 := carG_iff.1 (h.car k hk i hi)
  have h2 := (carOk_iff.1 (h.carok hi)).1
  have h3 := h.ri i hi
  have h4 := h.ro i hi
  omega
theorem Keeps.rows {S : Site} {cs : List Car} {T : Tab} (h : Keeps S cs T) {i : Nat} (hi : i < cs.length) : RowBd S.lim.length (T.inn.getD i []) ∧ RowBd S.lim.length (T.out.getD i []) := by
  refine ⟨⟨h.ri i hi, fun k hk => ?_⟩, ⟨h.ro i hi, fun k hk => ?_⟩⟩
  · exact (h.slot hk i hi).2.1
  · exact (h.slot hk i hi).2.2
end Dp
end Go.Proofs.Ytmebpglkeedaoaa
namespace Go.Proofs.Ytmebpglkeedaoaa
namespace Dp
theorem sumA_append (a b : List Int) : sum ((a ++ b).map abs) = sum (a.map abs) + sum (b.map abs) := by rw [List.map_append, sum_append]
theorem sum_abs : ∀ l : List Int, -(sum (l.map abs)) ≤ sum l ∧ sum l ≤ sum (l.map abs)
  | [] => by simp [sum]
  | x :: l => by
    have := sum_abs l
    simp only [List.map_cons, sum]
    have h : -abs x ≤ x ∧ x ≤ abs x := by unfold abs; omega
    omega
def usT (c : Car) : Nat → Int
  | 0 => 0
  | k + 1 => usT c k + useC c k
def usP (l : List Trip) (m : Nat) : Nat → Int
  | 0 => 0
  | k + 1 => usP l m k + useP l k m
theorem us_eq (c : Car) : ∀ k, usT c k = usP c.trips c.trips.length k
  | 0 => rfl
  | k + 1 => by simp only [usT, usP, us_eq c k]; rfl
theorem usP_step {l : List Trip} {m : Nat} (hu : 0 ≤ (l.getD m default).use) (hg : ∀ k : Int, 0 ≤ useP l k m) : ∀ K : Nat, usP l (m + 1) K ≤ usP l m K + (if (l.getD m default).fr < (K : Int) then (l.getD m default).use else 0)
  | 0 => by simp only [usP]; split <;> omega
  | K + 1 => by
    have ih := usP_step hu hg K
    have h1 := hg (K : Int)
    simp only [usP, useP]
    by_cases h : (l.getD m default).fr = (K : Int)
    · rw [if_pos h, if_pos (by omega)]
      rw [if_neg (by omega)] at ih
      omega
    · rw [if_neg h]
      by_cases h2 : (l.getD m default).fr < (K : Int)
      · rw [if_pos (by omega)]
        rw [if_pos h2] at ih
        omega
      · rw [if_neg (by omega)]
        rw [if_neg h2] at ih
        omega
theorem usP_bd {cap : Int} {n : Nat} {l : List Trip} (h : ∀ k, k < l.length → tripOk cap n l k = true) (hc : 0 ≤ cap) (K : Nat) : ∀ m : Nat, m ≤ l.length → usP l m K ≤ cap * m
  | 0, _ => by
    have : ∀ K, usP l 0 K = 0 := fun K => by
      induction K with
      | zero => rfl
      | succ K ih => simp only [usP, ih]; rfl
    rw [this]; simp
  | m + 1, hm => by
    have ih := usP_bd h hc K m (by omega)
    have ht := tripOk_iff.1 (h m (by omega))
    have h2 := usP_step (l := l) (m := m) ht.2.2.2.1 (fun k => (useP_bd h hc k m (by omega)).1) K
    have h3 : cap * ((m + 1 : Nat) : Int) = cap * m + cap := by rw [Int.natCast_succ, Int.mul_add, Int.mul_one]
    rw [h3]
    split at h2 <;> omega
theorem usT_bd {n : Nat} {c : Car} (h : carOk n c = true) (k : Nat) : usT c k ≤ 4194304 := by
  have h1 := carOk_iff.1 h
  have h2 := usP_bd h1.2 (by omega) k c.trips.length (Nat.le_refl _)
  rw [us_eq]
  have h3 : c.cap * (c.trips.length : Int) ≤ 1048576 * 4 := Int.mul_le_mul (by omega) (by omega) (by omega) (by omega)
  omega
theorem carS_abs {n : Nat} {c : Car} (h : carOk n c = true) : ∀ k, sum ((carS c k).map abs) ≤ (if k = 0 then 0 else c.start) + usT c k
  | 0 => by simp [carS, sum, usT]
  | k + 1 => by
    have ih := carS_abs h k
    have h1 := (carOk_iff.1 h).1
    have h2 := useC_bd h k
    simp only [carS, slS, sumA_append, usT]
    simp only [List.map_cons, List.map_nil, sum]
    rw [if_neg (show ¬ (k + 1 = 0) by omega)]
    have e2 : abs (-(useC c k)) = useC c k := by unfold abs; omega
    rw [e2]
    by_cases hk : k = 0
    · rw [if_pos hk]
      rw [if_pos hk] at ih
      have e1 : abs c.start = c.start := by unfold abs; omega
      rw [e1]; omega
    · rw [if_neg hk]
      rw [if_neg hk] at ih
      have e1 : abs 0 = 0 := rfl
      rw [e1]; omega
theorem carsS_abs {S : Site} {cs : List Car} (h : stE S cs = 0) : ∀ i : Nat, i ≤ cs.length → sum ((carsS S cs i).map abs) ≤ 6291456 * i
  | 0, _ => by
    have hz : ∀ n, sum ((List.replicate n (0 : Int)).map abs) = 0 := fun n => by
      induction n with
      | zero => rfl
      | succ n ih => rw [List.replicate_succ, List.map_cons, sum, ih]; rfl
    simp only [carsS, List.map_cons, sum, hz]
    decide
  | i + 1, hi => by
    have hc := carok_of h (show i < cs.length by omega)
    have ih := carsS_abs h i (by omega)
    have h1 := (carOk_iff.1 hc).1
    have h2 := carS_abs hc S.lim.length
    have h3 := usT_bd hc S.lim.length
    simp only [carsS, sumA_append]
    simp only [List.map_cons, List.map_nil, sum]
    have e1 : abs (-(cs.getD i default).fin) = (cs.getD i default).fin := by unfold abs; omega
    have e0 : abs 0 = 0 := rfl
    rw [e1, e0]
    split at h2 <;> omega
theorem slA_ok {M n : Nat} {c : Car} {a k : Nat} (hc : carOk n c = true) (h1 : n < a) (h2 : a + 2 < M) (hk : k < n) : ∀ x, x ∈ slA c a k → arcOk M x = true := by
  have h := (carOk_iff.1 hc).1
  intro x hx
  simp only [slA, List.mem_cons] at hx
  rcases hx with rfl | rfl | hx
  · exact decide_eq_true ⟨by simp only; omega, by simp only; omega, by simp only; omega, by simp only; omega, by simp only; omega⟩
  · exact decide_eq_true ⟨by simp only; omega, by simp only; omega, by simp only; omega, by simp only; omega, by simp only; omega⟩
  · split at hx
    · cases hx
    · simp only [List.mem_cons, List.not_mem_nil, or_false] at hx
      rcases hx with rfl | rfl
      · exact decide_eq_true ⟨by simp only; omega, by simp only; omega, by simp only; omega, by simp only; omega, by simp only; omega⟩
      · exact decide_eq_true ⟨by simp only; omega, by simp only; omega, by simp only; omega, by simp only; omega, by simp only; omega⟩
theorem carA_ok {M n : Nat} {c : Car} {a : Nat} (hc : carOk n c = true) (h1 : n < a) : ∀ k, k ≤ n → a + 2 * k < M → ∀ x, x ∈ carA c a k → arcOk M x = true
  | 0, _, _, x, hx => by cases hx
  | k + 1, hk, h2, x, hx => by
    simp only [carA, List.mem_append] at hx
    rcases hx with hx | hx
    · exact carA_ok hc h1 k (by omega) (by omega) x hx
    · exact slA_ok hc (by omega) (by omega) (by omega) x hx
theorem limA_ok {S : Site} {M : Nat} (h : ∀ t, t < S.lim.length → slotOk S t = true) (hM : S.lim.length < M) : ∀ t, t ≤ S.lim.length → ∀ x, x ∈ limA S t → arcOk M x = true
  | 0, _, x, hx => by cases hx
  | t + 1, ht, x, hx => by
    simp only [limA, List.mem_append, List.mem_singleton] at hx
    have h1 := slotOk_iff.1 (h t (by omega))
    rcases hx with hx | rfl
    · exact limA_ok h hM t (by omega) x hx
    · exact decide_eq_true ⟨by simp only; omega, by simp only; omega, by simp only; omega, by simp only; omega, by simp only; omega⟩
theorem expA_ok {S : Site} {M : Nat} (h : ∀ t, t < S.lim.length → slotOk S t = true) (hM : S.lim.length < M) : ∀ t, t ≤ S.lim.length → ∀ x, x ∈ expA S t → arcOk M x = true
  | 0, _, x, hx => by cases hx
  | t + 1, ht, x, hx => by
    simp only [expA, List.mem_append, List.mem_singleton] at hx
    have h1 := slotOk_iff.1 (h t (by omega))
    rcases hx with hx | rfl
    · exact expA_ok h hM t (by omega) x hx
    · exact decide_eq_true ⟨by simp only; omega, by simp only; omega, by simp only; omega, by simp only; omega, by simp only; omega⟩
theorem carsA_ok {S : Site} {cs : List Car} (h : stE S cs = 0) : ∀ i : Nat, i ≤ cs.length → ∀ x, x ∈ carsA S cs i → arcOk (nodesN S cs) x = true
  | 0, _, x, hx => by
    have hs := (stE_0 h).2.2.1
    have hM : S.lim.length < nodesN S cs := by have := nodes_bd h; omega
    simp only [carsA, List.mem_append] at hx
    rcases hx with hx | hx
    · exact limA_ok hs hM _ (Nat.le_refl _) x hx
    · exact expA_ok hs hM _ (Nat.le_refl _) x hx
  | i + 1, hi, x, hx => by
    have hc := carok_of h (show i < cs.length by omega)
    have h1 := (carOk_iff.1 hc).1
    have hl := node_lt (S := S) (cs := cs) (i := i) (k := S.lim.length) (by omega) (Nat.le_refl _)
    have hk := nodeF_k S.lim.length i S.lim.length
    have h0 : S.lim.length < nodeF S.lim.length i 0 := by unfold nodeF; omega
    simp only [carsA, List.mem_append] at hx
    rcases hx with hx | hx | hx
    · exact carsA_ok h i (by omega) x hx
    · exact carA_ok hc h0 S.lim.length (Nat.le_refl _) (by omega) x hx
    · simp only [finA, List.mem_cons, List.not_mem_nil, or_false] at hx
      rcases hx with rfl | rfl
      · exact decide_eq_true ⟨by simp only; omega, by simp only; omega, by simp only; omega, by simp only; omega, by simp only; omega⟩
      · exact decide_eq_true ⟨by simp only; omega, by simp only; omega, by simp only; omega, by simp only; omega, by simp only; omega⟩
theorem net_ok {S : Site} {cs : List Car} (h : stE S cs = 0) : chE (netN S cs) = 0 := by
  have hn := nodes_bd h
  have h8 := (stE_0 h).1
  have hlen := carsA_bd h cs.length (Nat.le_refl _)
  have hm : manyB (netN S cs) = false := by
    unfold manyB
    refine decide_eq_false ?_
    simp only [netN, supN_len]
    omega
  have hA := carsS_abs h cs.length (Nat.le_refl _)
  have hb := carsS_bd h cs.length (Nat.le_refl _)
  have hsa := sum_abs (carsS S cs cs.length)
  have hh := carsS_head S cs cs.length
  have hl := carsS_len S cs cs.length
  have hs : ∃ t, carsS S cs cs.length = 0 :: t := by
    cases hcs : carsS S cs cs.length with
    | nil => rw [hcs] at hl; have : nodesN S cs = 0 := hl.symm; omega
    | cons a t => rw [hcs] at hh; exact ⟨t, by rw [show a = 0 from hh]⟩
  obtain ⟨t, ht⟩ := hs
  have hsup : supN S cs = -(sum (carsS S cs cs.length)) :: t := by unfold supN; rw [ht]; rfl
  rw [ht] at hA hb hsa
  simp only [List.map_cons, sum] at hA hsa
  have e0 : abs 0 = 0 := rfl
  rw [e0] at hA hsa
  have hk : okB (netN S cs) = true := by
    unfold okB
    simp only [Bool.and_eq_true, List.all_eq_true, decide_eq_true_eq]
    refine ⟨?_, ?_, ?_, ?_⟩
    · intro x hx
      simp only [netN, hsup, ht, List.mem_cons, sum] at hx
      unfold supOk
      refine decide_eq_true ?_
      rcases hx with rfl | hx
      · omega
      · have := hb x (by simp [hx]); omega
    · intro x hx
      have := carsA_ok h cs.length (Nat.le_refl _) x hx
      simp only [netN, supN_len]
      exact this
    · simp only [netN, hsup, ht, sum]; omega
    · simp only [netN, hsup, ht, List.map_cons, sum]
      have : abs (-(0 + sum t)) ≤ sum (t.map abs) := by unfold abs; have := sum_abs t; unfold abs at this; omega
      omega
  unfold chE
  rw [hm, hk]
  rfl
end Dp
end Go.Proofs.Ytmebpglkeedaoaa
namespace Go.Proofs.Ytmebpglkeedaoaa
namespace Dp
def aS (f q : Nat → Int) : List Arc → Nat → Int
  | [], _ => 0
  | a :: l, j => f j * (q a.to.toNat - q a.fr.toNat) + aS f q l (j + 1)
theorem aS_append (f q : Nat → Int) : ∀ (a b : List Arc) (j : Nat), aS f q (a ++ b) j = aS f q a j + aS f q b (j + a.length)
  | [], b, j => by simp [aS]
  | x :: a, b, j => by
    simp only [List.cons_append, aS, aS_append f q a b (j + 1), List.length_cons]
    rw [show j + 1 + a.length = j + (a.length + 1) by omega]; omega
def sS (q : Nat → Int) : List Int → Nat → Int
  | [], _ => 0
  | x :: l, v => q v * x + sS q l (v + 1)
theorem sS_append (q : Nat → Int) : ∀ (a b : List Int) (j : Nat), sS q (a ++ b) j = sS q a j + sS q b (j + a.length)
  | [], b, j => by simp [sS]
  | x :: a, b, j => by
    simp only [List.cons_append, sS, sS_append q a b (j + 1), List.length_cons]
    rw [show j + 1 + a.length = j + (a.length + 1) by omega]; omega
theorem arcS_aS (N : Net) (f q : Nat → Int) : ∀ k, k ≤ N.arcs.length → arcS f (fun j => q (toN N j) - q (frN N j)) k = aS f q (N.arcs.take k) 0
  | 0, _ => by simp [arcS, aS]
  | k + 1, hk => by
    rw [arcS, arcS_aS N f q k (by omega), List.take_succ_eq_append_getElem (by omega), aS_append]
    simp only [aS, List.length_take, Nat.min_eq_left (show k ≤ N.arcs.length by omega), Nat.zero_add, Int.add_zero]
    unfold toN frN
    rw [List.getD_eq_getElem?_getD, List.getElem?_eq_getElem (by omega)]
    rfl
theorem dot_sS (q : Nat → Int) (l : List Int) : ∀ k, k ≤ l.length → dotN q (fun v => l.getD v 0) k = sS q (l.take k) 0
  | 0, _ => by simp [dotN, sS]
  | k + 1, hk => by
    rw [dotN, dot_sS q l k (by omega), List.take_succ_eq_append_getElem (by omega), sS_append]
    simp only [sS, List.length_take, Nat.min_eq_left (show k ≤ l.length by omega), Nat.zero_add, Int.add_zero]
    rw [List.getD_eq_getElem?_getD, List.getElem?_eq_getElem (by omega)]
    rfl
def su (g : Nat → Int) : Nat → Int
  | 0 => 0
  | n + 1 => su g n + g n
theorem su_congr {g h : Nat → Int} : ∀ n : Nat, (∀ k, k < n → g k = h k) → su g n = su h n
  | 0, _ => rfl
  | n + 1, e => by simp only [su]; rw [su_congr n (fun k hk => e k (by omega)), e n (by omega)]
theorem su_add (g h : Nat → Int) : ∀ n : Nat, su (fun k => g k + h k) n = su g n + su h n
  | 0 => rfl
  | n + 1 => by simp only [su]; rw [su_add g h n]; omega
theorem su_zero : ∀ n : Nat, su (fun _ => 0) n = 0
  | 0 => rfl
  | n + 1 => by simp only [su, su_zero n]; rfl
theorem su_nn {g : Nat → Int} : ∀ n : Nat, (∀ k, k < n → 0 ≤ g k) → 0 ≤ su g n
  | 0, _ => Int.le_refl _
  | n + 1, h => by have := su_nn (g := g) n (fun k hk => h k (by omega)); have := h n (by omega); simp only [su]; omega
theorem su_all {g : Nat → Int} : ∀ n : Nat, (∀ k, k < n → 0 ≤ g k) → su g n = 0 → ∀ k, k < n → g k = 0
  | 0, _, _, k, hk => absurd hk (Nat.not_lt_zero _)
  | n + 1, h, e, k, hk => by
    have h1 := su_nn (g := g) n (fun k hk => h k (by omega))
    have h2 := h n (by omega)
    simp only [su] at e
    rcases (show k < n ∨ k = n by omega) with h3 | rfl
    · exact su_all n (fun k hk => h k (by omega)) (by omega) k h3
    · omega
theorem su_at (g : Nat → Int) (a : Nat) : ∀ n : Nat, su (fun k => if k = a then g k else 0) n = if a < n then g a else 0
  | 0 => rfl
  | n + 1 => by
    simp only [su]
    rw [su_at g a n]
    by_cases h : n = a
    · subst h; rw [if_neg (Nat.lt_irrefl n), if_pos rfl, if_pos (by omega)]; omega
    · rw [if_neg h]
      by_cases h2 : a < n
      · rw [if_pos h2, if_pos (by omega)]; omega
      · rw [if_neg h2, if_neg (by omega)]; omega
section
variable (S : Site) (cs : List Car) (f q : Nat → Int)
def bA (i k : Nat) : Nat := (arcsAt S cs i k).length
def aIn (i k : Nat) : Int := if awayC (cs.getD i default) k = true then 0 else f (bA S cs i k + 2)
def aOut (i k : Nat) : Int := if awayC (cs.getD i default) k = true then 0 else f (bA S cs i k + 3)
def incK (i : Nat) : Nat → Int
  | 0 => (cs.getD i default).start
  | k + 1 => f (bA S cs i k + 1) + aIn S cs f i k
def r0K (i k : Nat) : Int := incK S cs f i k - f (bA S cs i k)
def r1K (i k : Nat) : Int := f (bA S cs i k) - f (bA S cs i k + 1) - aOut S cs f i k - useC (cs.getD i default) k
theorem bA_eq (i k : Nat) : bA S cs i k = bA S cs i 0 + (carA (cs.getD i default) (nodeF S.lim.length i 0) k).length := by
  unfold bA arcsAt
  simp [carA]
theorem slA_sum (c : Car) (a k b : Nat) : aS f q (slA c a k) b = f b * (q (a + 1) - q a) + f (b + 1) * (q (a + 2) - q (a + 1)) + (if awayC c k = true then 0 else f (b + 2)) * (q (a + 2) - q (1 + k)) + (if awayC c k = true then 0 else f (b + 3)) * (q (1 + k) - q (a + 1)) := by
  have e1 : ((a : Int) + 1).toNat = a + 1 := by omega
  have e2 : ((a : Int) + 2).toNat = a + 2 := by omega
  have e3 : (1 + (k : Int)).toNat = 1 + k := by omega
  unfold slA
  by_cases h : awayC c k = true
  · simp only [if_pos h, aS, e1, e2, Int.toNat_natCast]; omega
  · simp only [if_neg h, aS, e1, e2, e3, Int.toNat_natCast]
    rw [show b + 1 + 1 = b + 2 from rfl, show b + 2 + 1 = b + 3 from rfl]; omega
def slR (i k : Nat) : Int := r0K S cs f i k * q (nodeF S.lim.length i 0 + 2 * k) + r1K S cs f i k * q (nodeF S.lim.length i 0 + 2 * k + 1) - (aIn S cs f i k - aOut S cs f i k) * q (1 + k)
theorem car_sum (i : Nat) : ∀ k : Nat, aS f q (carA (cs.getD i default) (nodeF S.lim.length i 0) k) (bA S cs i 0) + sS q (carS (cs.getD i default) k) (nodeF S.lim.length i 0) + (if k = 0 then (cs.getD i default).start * q (nodeF S.lim.length i 0) else 0) = su (slR S cs f q i) k + incK S cs f i k * q (nodeF S.lim.length i 0 + 2 * k)
  | 0 => by simp [carA, carS, aS, sS, su, incK]
  | k + 1 => by
    have ih := car_sum i k
    rw [if_neg (by omega)]
    simp only [carA, carS, aS_append, sS_append, carS_len, slA_sum, su, ← bA_eq]
    have e1 : sS q (slS (cs.getD i default) k) (nodeF S.lim.length i 0 + 2 * k) = q (nodeF S.lim.length i 0 + 2 * k) * (if k = 0 then (cs.getD i default).start else 0) - q (nodeF S.lim.length i 0 + 2 * k + 1) * useC (cs.getD i default) k := by
      simp only [slS, sS, Int.mul_neg]; omega
    have e2 : (if k = 0 then (cs.getD i default).start * q (nodeF S.lim.length i 0) else 0) = q (nodeF S.lim.length i 0 + 2 * k) * (if k = 0 then (cs.getD i default).start else 0) := by
      by_cases h : k = 0
      · subst h; simp; exact Int.mul_comm _ _
      · simp [h]
    rw [e2] at ih
    rw [e1]
    have e3 : incK S cs f i (k + 1) = f (bA S cs i k + 1) + aIn S cs f i k := rfl
    rw [e3, show nodeF S.lim.length i 0 + 2 * (k + 1) = nodeF S.lim.length i 0 + 2 * k + 2 by omega]
    unfold slR r0K r1K
    have ei : (if awayC (cs.getD i default) k = true then 0 else f (bA S cs i k + 2)) = aIn S cs f i k := rfl
    have eo : (if awayC (cs.getD i default) k = true then 0 else f (bA S cs i k + 3)) = aOut S cs f i k := rfl
    rw [ei, eo]
    generalize (if k = 0 then (cs.getD i default).start else 0) = st at *
    generalize aS f q (carA (cs.getD i default) (nodeF S.lim.length i 0) k) (bA S cs i 0) = A0 at *
    generalize sS q (carS (cs.getD i default) k) (nodeF S.lim.length i 0) = S0 at *
    unfold slR r0K r1K at ih
    generalize su _ k = U at *
    generalize aIn S cs f i k = y1 at *
    generalize aOut S cs f i k = y2 at *
    generalize useC (cs.getD i default) k = y3 at *
    generalize incK S cs f i k = y4 at *
    generalize f (bA S cs i k + 1) = y5 at *
    generalize f (bA S cs i k) = y6 at *
    generalize q (nodeF S.lim.length i 0 + 2 * k) = q0 at *
    generalize q (nodeF S.lim.length i 0 + 2 * k + 1) = q1 at *
    generalize q (nodeF S.lim.length i 0 + 2 * k + 2) = q2 at *
    generalize q (1 + k) = q3 at *
    grind
def caR (i : Nat) : Int := su (slR S cs f q i) S.lim.length + (incK S cs f i S.lim.length - f (bA S cs i S.lim.length)) * q (nodeF S.lim.length i 0 + 2 * S.lim.length) + (f (bA S cs i S.lim.length) - f (bA S cs i S.lim.length + 1) - (cs.getD i default).fin) * q (nodeF S.lim.length i 0 + 2 * S.lim.length + 1) + f (bA S cs i S.lim.length + 1) * q 0
theorem car_all (hn : 0 < S.lim.length) (i : Nat) : aS f q (carA (cs.getD i default) (nodeF S.lim.length i 0) S.lim.length ++ finA (cs.getD i default) (nodeF S.lim.length i S.lim.length)) (bA S cs i 0) + sS q (carS (cs.getD i default) S.lim.length ++ [0, -(cs.getD i default).fin]) (nodeF S.lim.length i 0) = caR S cs f q i := by
  have h := car_sum S cs f q i S.lim.length
  rw [if_neg (by omega)] at h
  have e1 : ((nodeF S.lim.length i S.lim.length : Int) + 1).toNat = nodeF S.lim.length i 0 + 2 * S.lim.length + 1 := by rw [nodeF_k]; omega
  have e0 : ((nodeF S.lim.length i S.lim.length : Int)).toNat = nodeF S.lim.length i 0 + 2 * S.lim.length := by rw [nodeF_k]; omega
  simp only [aS_append, sS_append, carS_len, ← bA_eq, finA, aS, sS, e1, e0]
  unfold caR
  rw [show (0 : Int).toNat = 0 from rfl]
  generalize su _ S.lim.length = U at *
  generalize aS f q _ _ = A0 at *
  generalize sS q _ _ = S0 at *
  grind
def leK (k : Nat) : Int := f k - f (S.lim.length + k)
theorem lim_sum : ∀ t : Nat, aS f q (limA S t) 0 = su (fun k => f k * (q (1 + k) - q 0)) t
  | 0 => rfl
  | t + 1 => by
    have e : (1 + (t : Int)).toNat = 1 + t := by omega
    simp only [limA, aS_append, limA_len, su, lim_sum t, aS, e, Nat.zero_add]
    rw [show (0 : Int).toNat = 0 from rfl]; omega
theorem exp_sum (b : Nat) : ∀ t : Nat, aS f q (expA S t) b = su (fun k => f (b + k) * (q 0 - q (1 + k))) t
  | 0 => rfl
  | t + 1 => by
    have e : (1 + (t : Int)).toNat = 1 + t := by omega
    simp only [expA, aS_append, expA_len, su, exp_sum b t, aS, e]
    rw [show (0 : Int).toNat = 0 from rfl]; omega
theorem sS_zero : ∀ (n v : Nat), sS q (List.replicate n 0) v = 0
  | 0, _ => rfl
  | n + 1, v => by simp [List.replicate_succ, sS, sS_zero n (v + 1)]
theorem tot_sum (hn : 0 < S.lim.length) : ∀ i : Nat, aS f q (carsA S cs i) 0 + sS q (carsS S cs i) 0 = su (fun k => leK S f k * (q (1 + k) - q 0)) S.lim.length + su (caR S cs f q) i
  | 0 => by
    simp only [carsA, carsS, aS_append, limA_len, lim_sum, exp_sum, sS, sS_zero, su, Nat.zero_add]
    have : ∀ n m : Nat, su (fun k => f k * (q (1 + k) - q 0)) n + su (fun k => f (m + k) * (q 0 - q (1 + k))) n = su (fun k => (f k - f (m + k)) * (q (1 + k) - q 0)) n := fun n m => by
      rw [← su_add]
      exact su_congr n (fun k _ => by
        generalize f k = a; generalize f (m + k) = b; generalize q (1 + k) = c; generalize q 0 = d
        grind)
    have h := this S.lim.length S.lim.length
    unfold leK
    omega
  | i + 1 => by
    have ih := tot_sum hn i
    have h := car_all S cs f q hn i
    have hb : bA S cs i 0 = (carsA S cs i).length := by unfold bA; rw [arcsAt_zero]
    simp only [carsA, carsS]
    rw [aS_append f q (carsA S cs i), sS_append q (carsS S cs i), carsS_len, su, Nat.zero_add, Nat.zero_add, ← hb]
    omega
theorem weights (n : Nat) (s : Nat → Int) (P : Nat → Nat → Int) : ∃ q : Nat → Int, q 0 = 0 ∧ (∀ k, k < n → q (1 + k) = s k) ∧ ∀ i k r, k ≤ n → r < 2 → q (nodeF n i 0 + 2 * k + r) = P i (2 * k + r) := by
  refine ⟨fun v => if v = 0 then 0 else if v ≤ n then s (v - 1) else P ((v - 1 - n) / (2 * (n + 1))) ((v - 1 - n) % (2 * (n + 1))), ?_, fun k hk => ?_, fun i k r hk hr => ?_⟩
  · simp
  · simp only []
    rw [if_neg (by omega), if_pos (by omega), show 1 + k - 1 = k by omega]
  · have e : nodeF n i 0 + 2 * k + r - 1 - n = 2 * (n + 1) * i + (2 * k + r) := by
      unfold nodeF
      have h1 : 2 * (n + 1) * i = 2 * (i * (n + 1)) := by rw [Nat.mul_assoc, Nat.mul_comm (n + 1) i]
      rw [h1, Nat.add_zero]
      omega
    have hp : n < nodeF n i 0 := by unfold nodeF; omega
    simp only []
    rw [if_neg (by omega), if_neg (by omega), e, Nat.mul_add_div (by omega), Nat.mul_add_mod, Nat.mod_eq_of_lt (by omega), Nat.div_eq_of_lt (by omega), Nat.add_zero]
end
end Dp
end Go.Proofs.Ytmebpglkeedaoaa
namespace Go.Proofs.Ytmebpglkeedaoaa
namespace Dp
section
variable {S : Site} {cs : List Car} {T : Tab}
theorem slotsE_zero : ∀ {n : Nat}, (∀ k, k < n → slotE S cs T k = 0) → slotsE S cs T n = 0
  | 0, _ => rfl
  | n + 1, h => by
    unfold slotsE
    rw [slotsE_zero (fun k hk => h k (by omega)), if_pos rfl]
    exact h n (by omega)
theorem slotsE_at {k : Nat} {e : Int} (h : ∀ j, j < k → slotE S cs T j = 0) (he : slotE S cs T k = e) (h0 : e ≠ 0) : ∀ d, slotsE S cs T (k + 1 + d) = e
  | 0 => by
    show slotsE S cs T (k + 1) = e
    unfold slotsE
    rw [slotsE_zero h, if_pos rfl, he]
  | d + 1 => by
    have ih := slotsE_at h he h0 d
    show slotsE S cs T (k + 1 + d + 1) = e
    unfold slotsE
    rw [ih, if_neg h0]
theorem plE_len (h0 : stE S cs = 0) (h : (lenG cs.length S.lim.length T.inn && lenG cs.length S.lim.length T.out) = false) : plE S cs T = 20 := by
  unfold plE; rw [if_pos h0, h]; rfl
theorem plE_slot (h0 : stE S cs = 0) (hl : (lenG cs.length S.lim.length T.inn && lenG cs.length S.lim.length T.out) = true) {k : Nat} {e : Int} (hk : k < S.lim.length) (h : ∀ j, j < k → slotE S cs T j = 0) (he : slotE S cs T k = e) (hne : e ≠ 0) : plE S cs T = e := by
  have := slotsE_at h he hne (S.lim.length - (k + 1))
  rw [show k + 1 + (S.lim.length - (k + 1)) = S.lim.length by omega] at this
  unfold plE
  rw [if_pos h0, if_pos hl, this, if_neg hne]
theorem plE_lev (h0 : stE S cs = 0) (hl : (lenG cs.length S.lim.length T.inn && lenG cs.length S.lim.length T.out) = true) (h : ∀ j, j < S.lim.length → slotE S cs T j = 0) {i : Nat} (hi : i < cs.length) {k : Nat} (hk : k ≤ S.lim.length)
    (hg : levG (cs.getD i default) (T.inn.getD i []) (T.out.getD i []) S.lim.length k = false) : plE S cs T = 19 := by
  have h1 : levsG cs T S.lim.length i = false := allB_no k (by omega) hg
  have h2 : allB cs.length (levsG cs T S.lim.length) = false := allB_no i hi h1
  unfold plE
  rw [if_pos h0, if_pos hl, slotsE_zero h, if_pos rfl, h2]
  rfl
theorem plE_good (h0 : stE S cs = 0) (hl : (lenG cs.length S.lim.length T.inn && lenG cs.length S.lim.length T.out) = true) (h : ∀ j, j < S.lim.length → slotE S cs T j = 0)
    (hg : ∀ i, i < cs.length → ∀ k, k ≤ S.lim.length → levG (cs.getD i default) (T.inn.getD i []) (T.out.getD i []) S.lim.length k = true) : plE S cs T = 0 := by
  have h2 : allB cs.length (levsG cs T S.lim.length) = true := allB_iff.2 fun i hi => allB_iff.2 fun k hk => hg i hi k (by omega)
  unfold plE
  rw [if_pos h0, if_pos hl, slotsE_zero h, if_pos rfl, if_pos h2]
theorem slotE_car {k i : Nat} (hi : i < cs.length) (h : carAt cs T k i = false) : slotE S cs T k = 3 := by
  have : allB cs.length (carAt cs T k) = false := allB_no i hi h
  unfold slotE; rw [this]; rfl
theorem slotE_lim {k : Nat} (h : ∀ i, i < cs.length → carAt cs T k i = true) (hd : ¬ (drP T k T.inn.length ≤ S.lim.getD k 0 ∧ -(S.exp.getD k 0) ≤ drP T k T.inn.length)) : slotE S cs T k = 17 := by
  have : allB cs.length (carAt cs T k) = true := allB_iff.2 h
  unfold slotE; rw [if_pos this, if_neg hd]
theorem slotE_ok {k : Nat} (h : ∀ i, i < cs.length → carAt cs T k i = true) (hd : drP T k T.inn.length ≤ S.lim.getD k 0 ∧ -(S.exp.getD k 0) ≤ drP T k T.inn.length) : slotE S cs T k = 0 := by
  have : allB cs.length (carAt cs T k) = true := allB_iff.2 h
  unfold slotE; rw [if_pos this, if_pos hd]
theorem slot_bd (h0 : stE S cs = 0) (hl : (lenG cs.length S.lim.length T.inn && lenG cs.length S.lim.length T.out) = true) {k : Nat} (hk : k < S.lim.length) (h : ∀ i, i < cs.length → carAt cs T k i = true) : SlotBd T k cs.length := by
  rw [Bool.and_eq_true] at hl
  have a := lenG_iff.1 hl.1
  have b := lenG_iff.1 hl.2
  intro i hi
  have c := carOk_iff.1 ((stE_0 h0).2.2.2 i hi)
  have d := carG_iff.1 (h i hi)
  have e := a.2 i hi
  have f := b.2 i hi
  exact ⟨⟨by omega, by omega⟩, ⟨by omega, by omega⟩, by omega, by omega⟩
theorem row_bd (h0 : stE S cs = 0) (hl : (lenG cs.length S.lim.length T.inn && lenG cs.length S.lim.length T.out) = true) (h : ∀ k, k < S.lim.length → ∀ i, i < cs.length → carAt cs T k i = true) {i : Nat} (hi : i < cs.length) :
    RowBd S.lim.length (T.inn.getD i []) ∧ RowBd S.lim.length (T.out.getD i []) := by
  rw [Bool.and_eq_true] at hl
  have a := lenG_iff.1 hl.1
  have b := lenG_iff.1 hl.2
  have c := carOk_iff.1 ((stE_0 h0).2.2.2 i hi)
  refine ⟨⟨a.2 i hi, fun k hk => ?_⟩, ⟨b.2 i hi, fun k hk => ?_⟩⟩
  · have d := carG_iff.1 (h k hk i hi)
    omega
  · have d := carG_iff.1 (h k hk i hi)
    omega
theorem slotE_cars {k : Nat} (h : slotE S cs T k = 0) : ∀ i, i < cs.length → carAt cs T k i = true := (slotE_0 h).1
end
theorem lev_all {n : Nat} {c : Car} {x y : List Int} (hn : n ≤ 48) (hc : carOk n c = true) (hx : RowBd n x) (hy : RowBd n y) : ∀ k, k < n → (-167772160 ≤ lev c x y k ∧ lev c x y k ≤ 167772160) ∧ (0 ≤ x.getD k 0 ∧ x.getD k 0 ≤ 1048576) ∧ (0 ≤ y.getD k 0 ∧ y.getD k 0 ≤ 1048576) ∧ (0 ≤ useC c k ∧ useC c k ≤ 1048576) := by
  intro k hk
  have h1 := lev_bd hc hx hy k (by omega)
  exact ⟨⟨by omega, by omega⟩, hx.2 k hk, hy.2 k hk, useC_bd hc k⟩
end Dp
end Go.Proofs.Ytmebpglkeedaoaa
namespace Go.Proofs.Ytmebpglkeedaoaa
namespace Dp
section
variable {S : Site} {cs : List Car}
def rdF (fl : List Int) (x : Int) : Int := if 0 ≤ x then fl.getD x.toNat 0 else 0
def tbF (S : Site) (cs : List Car) (fl : List Int) : Tab := ⟨(List.range cs.length).map fun i => (inR S cs i).map (rdF fl), (List.range cs.length).map fun i => (outR S cs i).map (rdF fl)⟩
def fA (fl : List Int) : Nat → Int := fun j => fl.getD j 0
theorem getD_mapI {α : Type} (d : α) (n i : Nat) (g : Nat → α) (h : i < n) : ((List.range n).map g).getD i d = g i := by
  simp [List.getD_eq_getElem?_getD, h]
theorem tbF_in {fl : List Int} {i k : Nat} (hi : i < cs.length) (hk : k < S.lim.length) : ((tbF S cs fl).inn.getD i []).getD k 0 = aIn S cs (fA fl) i k := by
  unfold tbF
  simp only []
  rw [getD_mapI _ _ _ _ hi]
  have : (inR S cs i)[k]? = some (inX S cs i k) := by simp [inR, rowK, hk]
  rw [List.getD_eq_getElem?_getD, List.getElem?_map, this]
  show rdF fl (inX S cs i k) = _
  unfold inX aIn fA bA rdF
  by_cases h : awayC (cs.getD i default) k = true
  · rw [if_pos h, if_pos h]; rfl
  · rw [if_neg h, if_neg h, if_pos (by omega)]
    congr 1
theorem tbF_out {fl : List Int} {i k : Nat} (hi : i < cs.length) (hk : k < S.lim.length) : ((tbF S cs fl).out.getD i []).getD k 0 = aOut S cs (fA fl) i k := by
  unfold tbF
  simp only []
  rw [getD_mapI _ _ _ _ hi]
  have : (outR S cs i)[k]? = some (outX S cs i k) := by simp [outR, rowK, hk]
  rw [List.getD_eq_getElem?_getD, List.getElem?_map, this]
  show rdF fl (outX S cs i k) = _
  unfold outX aOut fA bA rdF
  by_cases h : awayC (cs.getD i default) k = true
  · rw [if_pos h, if_pos h]; rfl
  · rw [if_neg h, if_neg h, if_pos (by omega)]
    congr 1
theorem sup_sum (h : stE S cs = 0) (q : Nat → Int) : sS q (supN S cs) 0 = sS q (carsS S cs cs.length) 0 + q 0 * (-(sum (carsS S cs cs.length))) := by
  have hh := carsS_head S cs cs.length
  have hl := carsS_len S cs cs.length
  unfold supN
  cases hcs : carsS S cs cs.length with
  | nil => rw [hcs] at hl; have := nodes_bd h; have : nodesN S cs = 0 := hl.symm; omega
  | cons a t =>
    rw [hcs] at hh
    have : a = 0 := hh
    subst this
    simp only [List.set_cons_zero, sS]
    omega
theorem dot_lv0 {N : Net} {f q : Nat → Int} {k : Nat} : ∀ n : Nat, (∀ v, v < n → lv N f k v = 0) → dotN q (lv N f k) n = 0
  | 0, _ => rfl
  | n + 1, h => by simp only [dotN]; rw [dot_lv0 n (fun v hv => h v (by omega)), h n (by omega)]; simp
theorem net_sum (h : stE S cs = 0) (f q : Nat → Int) : dotN q (lv (netN S cs) f (carsA S cs cs.length).length) (nodesN S cs) = su (fun k => leK S f k * (q (1 + k) - q 0)) S.lim.length + su (caR S cs f q) cs.length + q 0 * (-(sum (carsS S cs cs.length))) := by
  have hn := (siteHead_iff.1 (stE_0 h).2.1).1.1
  have h1 := lv_dot (net_ok h) q f (carsA S cs cs.length).length (Nat.le_refl _)
  have ha := arcS_aS (netN S cs) f q (carsA S cs cs.length).length (Nat.le_refl _)
  have hb := dot_sS q (supN S cs) (supN S cs).length (Nat.le_refl _)
  rw [List.take_length] at hb
  rw [show (netN S cs).arcs = carsA S cs cs.length from rfl, List.take_length] at ha
  rw [ha, show (netN S cs).sup = supN S cs from rfl, hb, sup_sum h, supN_len] at h1
  have h2 := tot_sum S cs f q hn cs.length
  rw [h1]
  omega
theorem flow_sum (h : stE S cs = 0) {fl : List Int} (hf : isFlow (netN S cs) fl = true) (q : Nat → Int) : su (fun k => leK S (fA fl) k * (q (1 + k) - q 0)) S.lim.length + su (caR S cs (fA fl) q) cs.length + q 0 * (-(sum (carsS S cs cs.length))) = 0 := by
  have h1 := flow_left (net_ok h) hf
  rw [← net_sum h (fA fl) q]
  refine dot_lv0 _ (fun v hv => h1.1 v ?_)
  show v < (supN S cs).length
  rw [supN_len]; exact hv
theorem sq_nn (a : Int) : 0 ≤ a * a := by
  rcases Int.le_total 0 a with h | h
  · exact Int.mul_nonneg h h
  · have := Int.mul_nonneg (show 0 ≤ -a by omega) (show 0 ≤ -a by omega)
    rwa [Int.neg_mul_neg] at this
theorem sq_zero {a : Int} (h : a * a = 0) : a = 0 := by
  rcases Int.mul_eq_zero.1 h with h | h <;> exact h
theorem flow_car (h : stE S cs = 0) {fl : List Int} (hf : isFlow (netN S cs) fl = true) : ∀ i, i < cs.length → (∀ k, k < S.lim.length → r0K S cs (fA fl) i k = 0 ∧ r1K S cs (fA fl) i k = 0) ∧
    incK S cs (fA fl) i S.lim.length - fA fl (bA S cs i S.lim.length) = 0 ∧ fA fl (bA S cs i S.lim.length) - fA fl (bA S cs i S.lim.length + 1) - (cs.getD i default).fin = 0 := by
  generalize hff : fA fl = f
  obtain ⟨q, q0, qs, qP⟩ := weights S.lim.length (fun _ => 0) (fun i t => if t % 2 = 0 then incK S cs f i (t / 2) - f (bA S cs i (t / 2)) else if t / 2 < S.lim.length then r1K S cs f i (t / 2) else f (bA S cs i S.lim.length) - f (bA S cs i S.lim.length + 1) - (cs.getD i default).fin)
  have hP0 : ∀ i k, k ≤ S.lim.length → q (nodeF S.lim.length i 0 + 2 * k) = incK S cs f i k - f (bA S cs i k) := fun i k hk => by
    have := qP i k 0 hk (by omega)
    rw [Nat.add_zero, Nat.add_zero, if_pos (by omega), show 2 * k / 2 = k by omega] at this
    exact this
  have hP1 : ∀ i k, k < S.lim.length → q (nodeF S.lim.length i 0 + 2 * k + 1) = r1K S cs f i k := fun i k hk => by
    have := qP i k 1 (by omega) (by omega)
    rw [if_neg (by omega), show (2 * k + 1) / 2 = k by omega, if_pos hk] at this
    exact this
  have hP2 : ∀ i, q (nodeF S.lim.length i 0 + 2 * S.lim.length + 1) = f (bA S cs i S.lim.length) - f (bA S cs i S.lim.length + 1) - (cs.getD i default).fin := fun i => by
    have := qP i S.lim.length 1 (Nat.le_refl _) (by omega)
    rw [if_neg (by omega), show (2 * S.lim.length + 1) / 2 = S.lim.length by omega, if_neg (Nat.lt_irrefl _)] at this
    exact this
  have hs := flow_sum h hf q
  rw [hff, q0, Int.zero_mul, Int.add_zero, su_congr (h := fun _ => 0) _ (fun k hk => by rw [qs k hk]; simp), su_zero, Int.zero_add] at hs
  have hsl : ∀ i k, k < S.lim.length → slR S cs f q i k = r0K S cs f i k * r0K S cs f i k + r1K S cs f i k * r1K S cs f i k := fun i k hk => by
    unfold slR
    rw [hP0 i k (by omega), hP1 i k hk, qs k hk]
    unfold r0K
    simp
  have hc : ∀ i, caR S cs f q i = su (fun k => r0K S cs f i k * r0K S cs f i k + r1K S cs f i k * r1K S cs f i k) S.lim.length + (incK S cs f i S.lim.length - f (bA S cs i S.lim.length)) * (incK S cs f i S.lim.length - f (bA S cs i S.lim.length)) + (f (bA S cs i S.lim.length) - f (bA S cs i S.lim.length + 1) - (cs.getD i default).fin) * (f (bA S cs i S.lim.length) - f (bA S cs i S.lim.length + 1) - (cs.getD i default).fin) := fun i => by
    unfold caR
    rw [hP0 i _ (Nat.le_refl _), hP2 i, q0, su_congr _ (fun k hk => hsl i k hk)]
    simp
  have hnn : ∀ i k, 0 ≤ r0K S cs f i k * r0K S cs f i k + r1K S cs f i k * r1K S cs f i k := fun i k => by
    have := sq_nn (r0K S cs f i k)
    have := sq_nn (r1K S cs f i k)
    omega
  intro i hi
  have hz := su_all (g := caR S cs f q) _ (fun j _ => by
    rw [hc]
    have h1 := su_nn S.lim.length (fun k _ => hnn j k)
    have h2 := sq_nn (incK S cs f j S.lim.length - f (bA S cs j S.lim.length))
    have h3 := sq_nn (f (bA S cs j S.lim.length) - f (bA S cs j S.lim.length + 1) - (cs.getD j default).fin)
    omega) hs i hi
  rw [hc] at hz
  have h1 := su_nn S.lim.length (fun k _ => hnn i k)
  have h2 := sq_nn (incK S cs f i S.lim.length - f (bA S cs i S.lim.length))
  have h3 := sq_nn (f (bA S cs i S.lim.length) - f (bA S cs i S.lim.length + 1) - (cs.getD i default).fin)
  refine ⟨fun k hk => ?_, sq_zero (by omega), sq_zero (by omega)⟩
  have := su_all _ (fun k _ => hnn i k) (by omega) k hk
  have h4 := sq_nn (r0K S cs f i k)
  have h5 := sq_nn (r1K S cs f i k)
  exact ⟨sq_zero (by omega), sq_zero (by omega)⟩
theorem flow_slot (h : stE S cs = 0) {fl : List Int} (hf : isFlow (netN S cs) fl = true) (k : Nat) (hk : k < S.lim.length) : leK S (fA fl) k = su (fun i => aIn S cs (fA fl) i k - aOut S cs (fA fl) i k) cs.length := by
  generalize hff : fA fl = f
  obtain ⟨q, q0, qs, qP⟩ := weights S.lim.length (fun j => if j = k then 1 else 0) (fun _ _ => 0)
  have hP : ∀ i j r, j ≤ S.lim.length → r < 2 → q (nodeF S.lim.length i 0 + 2 * j + r) = 0 := fun i j r h1 h2 => qP i j r h1 h2
  have hs := flow_sum h hf q
  rw [hff, q0, Int.zero_mul, Int.add_zero, su_congr (h := fun j => if j = k then leK S f j else 0) _ (fun j hj => by rw [qs j hj, Int.sub_zero]; split <;> simp), su_at, if_pos hk] at hs
  have hc : ∀ i, caR S cs f q i = 0 - (aIn S cs f i k - aOut S cs f i k) := fun i => by
    unfold caR
    have e0 := hP i S.lim.length 0 (Nat.le_refl _) (by omega)
    have e1 := hP i S.lim.length 1 (Nat.le_refl _) (by omega)
    rw [Nat.add_zero] at e0
    rw [e0, e1, q0, su_congr (h := fun j => if j = k then 0 - (aIn S cs f i j - aOut S cs f i j) else 0) _ (fun j hj => by
      unfold slR
      have e2 := hP i j 0 (by omega) (by omega)
      rw [Nat.add_zero] at e2
      rw [e2, hP i j 1 (by omega) (by omega), qs j hj]
      split <;> simp), su_at, if_pos hk]
    simp
  have hsub : ∀ (g : Nat → Int) m, su (fun i => 0 - g i) m = - su g m := fun g m => by
    induction m with
    | zero => rfl
    | succ m ih => simp only [su, ih]; omega
  rw [su_congr _ (fun i _ => hc i), hsub] at hs
  omega
end
end Dp
end Go.Proofs.Ytmebpglkeedaoaa
