/- Contracts that the claim leans on, part 3: D11 D12 A1 A3 M17 N3 S2 M18 M21 M22 T1 S1 M19 S4b S4 S3 R16 S6 S7 M20 R17 S8a S9 S8 S10 S11 S12 S14 M23 T3 -/
import Derived.Test.YtmebpglkeedaoaaDM2
import Derived.Deep.CutRange
import Derived.Deep.Cut
import Derived.RangeFuncNested
import Derived.RangeFuncLeaves
import Derived.RangeFuncWrites
import Derived.RangeFuncBound
import Derived.Shelf.Abstract
import Derived.OwnWalkIn
import Derived.TacticsInMore
import Derived.LoopNIn
import Derived.LoopIn
import Derived.Sort.CutIn
set_option linter.unusedVariables false
set_option linter.unusedSimpArgs false
set_option linter.unnecessarySimpa false
namespace Go.Proofs.Ytmebpglkeedaoaa
open Go.RowKit Dp
theorem mv_at (l : List Int) (i : Nat) (d v : Int) (h : v = l.getD i 0 + d) : mv l (i : Int) d = l.set i v := by subst h; simp [mv]
theorem push1_eq {G : Gr} {n k : Nat} {x a d : Int} (hG : G.Ok n) (hk : k < G.es.length) (ha : a = G.lf (G.frA k) - x) (hd : d = G.lf (G.toA k) + x) :
    ({ left := (G.left.set (G.frA k) a).set (G.toA k) d, es := pushE G.es k x, outs := G.outs } : Gr) = G.push1 k x := by
  unfold Gr.push1
  rw [mv_at G.left (G.frA k) (-x) a (by rw [ha]; unfold Gr.lf; omega), mv_at _ (G.toA k) x d (by
    rw [getD_setI _ _ _ _ (by rw [hG.ll]; exact hG.frL hk), if_neg (hG.ne k hk), hd]; rfl)]
theorem OutsAt.more {w : World} {bo : Nat} {outs : List (List Int)} {S S' : Nat → Prop} (h : OutsAt w bo outs S) (hs : ∀ k, k < w.heap.size → ¬ S k → ¬ S' k) : OutsAt w bo outs S' := fun i hi => by
  obtain ⟨A, c, h1, h2, h3, h4, h5⟩ := h i hi
  exact ⟨A, c, h1, h2, h3, h4, fun k hk => ⟨(h5 k hk).1, hs k (h5 k hk).1 (h5 k hk).2⟩⟩
theorem GrAt.far {w : World} {B b gl cl ce bo gp : Nat} {E : Option Addr} {G : Gr} (h : GrAt w B b gl cl E ce bo G) (ho : OutsAt w bo G.outs (fun k => k = b ∨ k = gl ∨ OwnB E k ∨ k = gp)) {p : Addr} (hp : p.block = gp) (h1 : b ≠ gp) (h2 : gl ≠ gp) (h3 : ¬ OwnB E gp) (h4 : bo ≠ gp) (u : Value) :
    GrAt (w.setCell p u) B b gl cl E ce bo G ∧ OutsAt (w.setCell p u) bo G.outs (fun k => k = b ∨ k = gl ∨ OwnB E k ∨ k = gp) := by
  have ho2 := ho.touch (T := fun k => k = gp) h.bo.1 h4 (fun k e => .inr (.inr (.inr e))) ((Touch.refl (fun k => k = gp) w).setCell (p := p) (.inl hp) u)
  refine ⟨{ blk := h.blk.setCell_ne (by rw [hp]; exact h1) _, left := ownSet h.left (fun e => by have := ownB_some.1 e; rw [hp] at this; exact h2 this.symm) _, es := h.es.set_ne (by rw [hp]; exact h3) _, outs := ho2.more (fun k _ hn hs => hn (by rcases hs with a | a | a; exact .inl a; exact .inr (.inl a); exact .inr (.inr (.inl a)))), bo := ⟨by simp [World.setCell]; exact h.bo.1, h.bo.2⟩, ne := h.ne, base := h.base }, ho2⟩
set_option maxHeartbeats 2000000 in
set_option maxRecDepth 100000 in
theorem least_c (b gl cl ce bo B n : Nat) (E : Option Addr) (G : Gr) (N : Net) (w : World) (hn : N.sup.length = n) (hch : chE N = 0) (hG : G.Ok n) (hf : Fits N G) (h0 : ∀ i, i < N.arcs.length → G.room (2 * i + 1) = 0) (hg : GrAt w B b gl cl E ce bo G) :
    Calls Try.prog 63 #[.pointer (some ⟨b, 0, none⟩)] w fun e w' => ∃ (gp : Nat) (G' : Gr) (p fa vi : List Int) (D : Int), e = .returned (.slice (some ⟨gp, 0, none⟩) n n) ∧ Fl 2 w' gp p ∧ GrAt w' B b gl cl E ce bo G' ∧ G'.Ok n ∧ Fits N G' ∧ PotD G' n p D ∧ NR G' n p fa vi (-1) ∧ Touch (fun k => k = gl ∨ OwnB E k) w w' ∧ w.heap.size ≤ gp := by
  have HN := Lib.hid hn
  have HCH := Lib.hid hch
  have S0 : Hid (Sat N G 0) := Lib.hid (sat_start hch (by rw [hn]; exact hG) hf h0)
  have HA := Lib.hid hg
  have n1 := hG.n1.1
  have n2 := hG.n1.2
  have hle := hG.le
  have c1 := hg.blk.cell 1 rfl
  have gll := hg.left.lt.2
  have EBL := Lib.hid (fun k (h : OwnB E k) => (ownLt hg.es h).1)
  clear hn hch h0 hf hg
  generalize hml : G.es.length = ml at *
  have HML := Lib.hid hml
  clear hml
  go_enter Try.func63, Try.ntmps63
  go_wp2_with fail
  go_loopg [15] ml (fun q iv wr => ∃ k : Nat, iv = .int .i64 k ∧ k + q = ml ∧ Hid (∃ G1, Dp.Alike G G1 ∧ Sat N G1 k ∧ GrAt wr B b gl cl E ce bo G1 ∧ Touch (fun k => k = gl ∨ OwnB E k) w wr))
  case atStart => exact ⟨0, rfl, by omega, Lib.hid ⟨G, Alike.refl G, S0.out, HA.out, Touch.refl _ _⟩⟩
  case round =>
    obtain ⟨k, rfl, hkq, HJ⟩ := hrel
    obtain ⟨G1, q1, q2, q3, q4⟩ := HJ.out
    have AL := Lib.hid q1
    have SA := Lib.hid q2
    have GA := Lib.hid q3
    have TA := Lib.hid q4
    clear HJ q1 q2 q3 q4 c1
    by_cases hlt : k < ml
    · have hki : (k : Int) < (ml : Int) := by omega
      obtain ⟨ge, rfl, gel, e0, e1, e2⟩ := GA.out.edge k (by rw [AL.out.le, HML.out]; exact hlt)
      have HTO : Hid (G1.toA k = (G1.es.getD k default).to.toNat) := Lib.hid rfl
      have HRM : Hid (G1.room k = (G1.es.getD k default).room) := Lib.hid rfl
      have HCO : Hid (G1.cost k = (G1.es.getD k default).cost) := Lib.hid rfl
      have hto := SA.out.ok.to k (by rw [AL.out.le, HML.out]; exact hlt)
      generalize G1.es.getD k default = ed at *
      obtain ⟨t0, ro, co⟩ := ed
      simp only at e0 e1 e2 hto HTO HRM HCO
      obtain ⟨v, rfl⟩ : ∃ v : Nat, t0 = (v : Int) := ⟨t0.toNat, by omega⟩
      simp only [Int.toNat_natCast] at HTO
      by_cases hpar : k % 2 = 0
      · have hp1 : (k : Int) % 2 = 0 := by omega
        by_cases hco : co < 0
        · have d1 : decide (co < 0) = true := decide_eq_true hco
          -- the arc carries all it can
          have SY := Lib.hid (SA.out.yes (by rw [AL.out.le, HML.out]; exact hlt) hpar (by rw [HCO.out]; exact hco))
          have hkl : k < G1.es.length := by rw [AL.out.le, HML.out]; exact hlt
          have PE := Lib.hid (fun x a d => push1_eq (x := x) (a := a) (d := d) SA.out.ok hkl)
          have AY := Lib.hid (AL.out.trans (push1_alike (x := G1.room k) hkl (SA.out.ok.tl hkl)))
          have htl := SA.out.ok.tl hkl
          have hne : G1.toA k ≠ G1.frA k := SA.out.ok.ne k hkl
          have hfn := SA.out.ok.frL hkl
          have hvn := SA.out.ok.toL hkl
          have hbf := SA.out.bd _ hfn
          have hbv := SA.out.bd _ hvn
          have hrm := SA.out.ok.rm k hkl
          have hrt := SA.out.ok.rm (tw k) htl
          rw [tw_tw] at hrt
          have LL1 : Hid (G1.left.length = n) := Lib.hid (by rw [SA.out.ok.ll, HN.out])
          have hp2 : tw k = k + 1 := by unfold tw; rw [if_pos hpar]
          obtain ⟨ge', hge, _, f0, _, _⟩ := GA.out.edge (tw k) htl
          cases hge
          rw [ok_to SA.out.ok htl] at f0
          have HFR : Hid (G1.frA k = G1.toA (tw k)) := Lib.hid rfl
          rw [← HFR.out, hp2] at f0
          rw [AL.out.le, HML.out, hp2] at htl
          rw [hp2] at hrm hrt
          rw [HTO.out] at hne hvn hbv PE
          rw [HRM.out] at hrm hrt SY AY
          rw [HN.out] at hfn hvn
          generalize hfrg : G1.frA k = fr at *
          have HFG := Lib.hid hfrg
          have HLF : Hid (G1.lf fr = G1.left.getD fr 0 ∧ G1.lf v = G1.left.getD v 0) := Lib.hid ⟨rfl, rfl⟩
          rw [HLF.out.1, HLF.out.2] at PE
          rw [HLF.out.1] at hbf
          rw [HLF.out.2] at hbv
          clear hfrg
          have hk1 : k + 1 < ml := htl
          have hk1i : (k : Int) + 1 < (ml : Int) := by omega
          have hk2 : k < 4096 := by omega
          have CW : Hid (∀ W, GrAt W B b gl cl (some ⟨ge, 0, none⟩) ce bo G1 → W.cell? ⟨b, 0, none⟩ = some (.slice (some ⟨gl, 0, none⟩) n cl) ∧ W.cell? ⟨b, 1, none⟩ = some (.slice (some ⟨ge, 0, none⟩) ml ce) ∧ W.cell? ⟨ge, (k + 1) * 3, none⟩ = some (.int .i64 fr) ∧ W.cell? ⟨gl, fr, none⟩ = some (.int .i64 (G1.left.getD fr 0))) := Lib.hid (fun W h => by
            have q0 := h.blk.cell 0 rfl
            have q1 := h.blk.cell 1 rfl
            rw [LL1.out] at q0
            rw [AL.out.le, HML.out] at q1
            obtain ⟨ge', hge, _, g0, _, _⟩ := h.edge (k + 1) (by rw [AL.out.le, HML.out]; exact hk1)
            cases hge
            rw [← hp2, ok_to SA.out.ok (by rw [hp2, AL.out.le, HML.out]; exact hk1), ← HFR.out, hp2] at g0
            exact ⟨q0, q1, g0, h.left.cell fr (by rw [LL1.out]; exact hfn)⟩)
          have LV : Hid (∀ x, (G1.left.set fr x).getD v 0 = G1.left.getD v 0) := Lib.hid (fun x => by rw [getD_setI _ _ _ _ (by rw [LL1.out]; exact hfn), if_neg hne])
          go_upto_region 5 with fail
          have al := (Below.refl wr.heap.size wr).alloc (Nat.le_refl _) (.cells #[.int .i64 v, .int .i64 ro, .int .i64 co] 144)
          have G2 := Lib.hid (GA.out.below al)
          have T2 := Lib.hid (TA.out.below al)
          have X2 := Lib.hid (Blk.new' wr #[.int .i64 v, .int .i64 ro, .int .i64 co] 144)
          clear al f0 e0 e1 e2
          have hgx : wr.heap.size ≠ gl := by have := GA.out.left.lt.2; omega
          generalize wr.alloc (.cells #[.int .i64 v, .int .i64 ro, .int .i64 co] 144) = w2 at G2 T2 X2 ⊢
          generalize wr.heap.size = gx at *
          have hfi : (fr : Int) < (n : Int) := by omega
          have hvi : (v : Int) < (n : Int) := by omega
          generalize hlfr : G1.left.getD fr 0 = lfr at *
          generalize hlv : G1.left.getD v 0 = lv0 at *
          have HL1 := Lib.hid hlfr
          have HL2 := Lib.hid hlv
          clear hlfr hlv
          refine wp_region_spine 19 [false] [] ?af5 (fun V => GrAt V B b gl cl (some ⟨ge, 0, none⟩) ce bo G1 ∧ Touch (fun k => k = gl ∨ OwnB (some ⟨ge, 0, none⟩) k) w V ∧ Blk V gx 144 [.int .i64 v, .int .i64 ro, .int .i64 co]) (by kernel_rfl) (by kernel_rfl) ⟨G2.out.below (Below.refl _ _).drew, T2.out.drew, X2.out.drew⟩ ?walk5 ?spine5
          case walk5 =>
            rintro V ⟨h1, _, h3⟩
            obtain ⟨q0, q1, q2, q3⟩ := CW.out V h1
            have x1 := h3.cell 1 rfl
            clear h1 h3
            simp only [List.take_succ_cons, List.take_zero]
            repeat (go_big_quiet_step (fail))
            refine wpQuiet_nil ?_
            rfl
          case spine5 =>
            rintro V ⟨h1, h2, h3⟩
            obtain ⟨q0, q1, q2, q3⟩ := CW.out V h1
            have z0 := h1.left.free fr
            have G3 := Lib.hid (h1.putL fr (lfr - ro))
            have T3 := Lib.hid (h2.setCell (p := ⟨gl, fr, none⟩) (.inl (.inl rfl)) (.int .i64 (lfr - ro)))
            have X3 := Lib.hid (h3.setCell_ne (p := ⟨gl, fr, none⟩) hgx (.int .i64 (lfr - ro)))
            clear h1 h2 h3
            refine spineV_cons ?_
            unfold StepV
            go_simp
            generalize V.setCell ⟨gl, fr, none⟩ (.int .i64 (lfr - ro)) = V1 at G3 T3 X3 ⊢
            clear q0 q1 q2 q3 z0
            refine spineV_nil ?_
            go_upto_region 6 with fail
            have CV : Hid (∀ W, GrAt W B b gl cl (some ⟨ge, 0, none⟩) ce bo { G1 with left := G1.left.set fr (lfr - ro) } → W.cell? ⟨b, 0, none⟩ = some (.slice (some ⟨gl, 0, none⟩) n cl) ∧ W.cell? ⟨gl, v, none⟩ = some (.int .i64 lv0)) := Lib.hid (fun W h => by
              have q0 := h.blk.cell 0 rfl
              have q1 := h.left.cell v (by show v < (G1.left.set fr (lfr - ro)).length; rw [List.length_set, LL1.out]; exact hvn)
              simp only [List.length_set, LL1.out] at q0
              simp only [LV.out] at q1
              exact ⟨q0, q1⟩)
            refine wp_region_spine 12 [false] [] ?af6 (fun V => GrAt V B b gl cl (some ⟨ge, 0, none⟩) ce bo { G1 with left := G1.left.set fr (lfr - ro) } ∧ Touch (fun k => k = gl ∨ OwnB (some ⟨ge, 0, none⟩) k) w V ∧ Blk V gx 144 [.int .i64 v, .int .i64 ro, .int .i64 co]) (by kernel_rfl) (by kernel_rfl) ⟨G3.out.below (Below.refl _ _).drew, T3.out.drew, X3.out.drew⟩ ?walk6 ?spine6
            case walk6 =>
              rintro V ⟨h1, _, h3⟩
              obtain ⟨q0, q1⟩ := CV.out V h1
              have x0 := h3.cell 0 rfl
              have x1 := h3.cell 1 rfl
              clear h1 h3
              simp only [List.take_succ_cons, List.take_zero]
              repeat (go_big_quiet_step (fail))
              refine wpQuiet_nil ?_
              rfl
            case spine6 =>
              rintro V ⟨h1, h2, h3⟩
              obtain ⟨q0, q1⟩ := CV.out V h1
              have z0 := h1.left.free v
              have G4 := Lib.hid (h1.putL v (lv0 + ro))
              have T4 := Lib.hid (h2.setCell (p := ⟨gl, v, none⟩) (.inl (.inl rfl)) (.int .i64 (lv0 + ro)))
              have X4 := Lib.hid (h3.setCell_ne (p := ⟨gl, v, none⟩) hgx (.int .i64 (lv0 + ro)))
              clear h1 h2 h3
              refine spineV_cons ?_
              unfold StepV
              go_simp
              generalize V.setCell ⟨gl, v, none⟩ (.int .i64 (lv0 + ro)) = V2 at G4 T4 X4 ⊢
              clear q0 q1 z0
              refine spineV_nil ?_
              have x1 := X4.out.cell 1 rfl
              go_wp2_with fail
              have PU := push_c b gl cl ce bo B (some ⟨ge, 0, none⟩) { left := (G1.left.set fr (lfr - ro)).set v (lv0 + ro), es := G1.es, outs := G1.outs } k ro V2 (by show k < G1.es.length; rw [AL.out.le, HML.out]; exact hlt) (by show tw k < G1.es.length; rw [hp2, AL.out.le, HML.out]; exact hk1) (by show G1.es.length ≤ 4096; rw [AL.out.le, HML.out]; exact hle)
                (by show -8589934592 ≤ G1.room k ∧ G1.room k ≤ 8589934592; rw [HRM.out]; omega) (by show -8589934592 ≤ G1.room (tw k) ∧ G1.room (tw k) ≤ 8589934592; rw [hp2]; omega) (by omega) G4.out
              refine PU.mono ?_
              rintro e V3 ⟨rfl, g5, t5⟩
              have G5 : GrAt V3 B b gl cl (some ⟨ge, 0, none⟩) ce bo (G1.push1 k ro) := by
                have e := PE.out ro (lfr - ro) (lv0 + ro) rfl rfl
                rw [← e]
                exact g5
              have G5 := Lib.hid G5
              have T5 := Lib.hid (T4.out.trans (t5.mono (fun q hq => .inr hq)))
              clear g5 t5 PU x1
              go_wp2_with fail
              go_roundg (gk - 1)
              case measure => omega
              case rel => exact ⟨k + 1, by go_num, by omega, Lib.hid ⟨_, AY.out, SY.out, G5.out, T5.out⟩⟩
        · have d1 : decide (co < 0) = false := decide_eq_false hco
          have SN := Lib.hid (SA.out.no (fun h => hco (by have := h.2; rw [HCO.out] at this; exact this)))
          have al := (Below.refl wr.heap.size wr).alloc (Nat.le_refl _) (.cells #[.int .i64 v, .int .i64 ro, .int .i64 co] 144)
          have G2 := Lib.hid (GA.out.below al)
          have T2 := Lib.hid (TA.out.below al)
          clear al
          go_wp2_with fail
          go_roundg (gk - 1)
          case measure => omega
          case rel => exact ⟨k + 1, by go_num, by omega, Lib.hid ⟨G1, AL.out, SN.out, G2.out, T2.out⟩⟩
      · have hp1 : (k : Int) % 2 = 1 := by omega
        have SN := Lib.hid (SA.out.no (fun h => hpar h.1))
        have al := (Below.refl wr.heap.size wr).alloc (Nat.le_refl _) (.cells #[.int .i64 v, .int .i64 ro, .int .i64 co] 144)
        have G2 := Lib.hid (GA.out.below al)
        have T2 := Lib.hid (TA.out.below al)
        clear al
        go_wp2_with fail
        go_roundg (gk - 1)
        case measure => omega
        case rel => exact ⟨k + 1, by go_num, by omega, Lib.hid ⟨G1, AL.out, SN.out, G2.out, T2.out⟩⟩
    · obtain rfl : ml = k := by omega
      have SP : Hid (PotD G1 n (List.replicate n 0) 0) := Lib.hid (by
        have h := SA.out
        have e : G1.es.length = ml := by rw [AL.out.le, HML.out]
        rw [← e] at h
        have h2 := h.pot
        rw [HN.out] at h2
        exact h2)
      have OK1 : Hid (G1.Ok n) := Lib.hid (by have := SA.out.ok; rw [HN.out] at this; exact this)
      have FT1 := Lib.hid SA.out.fit
      have hm1 := make_64 n (by omega)
      have c2 := GA.out.blk.cell 2 rfl
      rw [OK1.out.lo] at c2
      clear SA S0
      have F0 := Lib.hid (fl_new 2 n wr)
      have al := (Below.refl wr.heap.size wr).alloc (Nat.le_refl _) (.cells (Array.replicate n (.int .i64 0)) 2)
      have G2 := Lib.hid (GA.out.below al)
      have T2 := Lib.hid (TA.out.below al)
      have hgp : w.heap.size ≤ wr.heap.size := TA.out.size
      have hgl : gl < wr.heap.size := GA.out.left.lt.2
      have EB2 := Lib.hid (fun k (h : OwnB E k) => (ownLt GA.out.es h).1)
      have HO1 := Lib.hid (GA.out.outs.more (S' := fun k => k = b ∨ k = gl ∨ OwnB E k ∨ k = wr.heap.size) (fun k hk hn hs => by
        rcases hs with a | a | a | a
        · exact hn (.inl a)
        · exact hn (.inr (.inl a))
        · exact hn (.inr (.inr a))
        · omega))
      have HO2 := Lib.hid (HO1.out.below GA.out.bo.1 al)
      have hbgp : b ≠ wr.heap.size := by have := GA.out.blk.lt; omega
      have hglp : gl ≠ wr.heap.size := by omega
      have hbop : bo ≠ wr.heap.size := by have := GA.out.bo.1; omega
      have hegp : ¬ OwnB E wr.heap.size := fun h => by have := EB2.out _ h; omega
      clear al HO1
      go_wp2_with fail
      generalize wr.alloc (.cells (Array.replicate n (.int .i64 0)) 2) = w2 at F0 G2 T2 HO2 ⊢
      generalize wr.heap.size = gp at *
      clear c2 GA TA
      go_loopg [8] (restV G1.left).toNat (fun q ev wr => Hid (∃ G2 p D, Dp.Alike G G2 ∧ G2.Ok n ∧ Fits N G2 ∧ GrAt wr B b gl cl E ce bo G2 ∧ Fl 2 wr gp p ∧ PotD G2 n p D ∧ (restV G2.left).toNat = q ∧ Touch (fun k => k = gl ∨ OwnB E k) w wr ∧ OutsAt wr bo G2.outs (fun k => k = b ∨ k = gl ∨ OwnB E k ∨ k = gp)))
      case atStart => exact Lib.hid ⟨G1, _, 0, AL.out, OK1.out, FT1.out, G2.out, F0.out, SP.out, rfl, T2.out, HO2.out⟩
      case round =>
        clear AL OK1 FT1 G2 F0 SP T2
        obtain ⟨G2, p, D, q1, q2, q3, q4, q5, q6, q7, q8, q9⟩ := hrel.out
        have AL := Lib.hid q1
        have OK := Lib.hid q2
        have FT := Lib.hid q3
        have GA := Lib.hid q4
        have FP := Lib.hid q5
        have PD := Lib.hid q6
        have HR := Lib.hid q7
        have TA := Lib.hid q8
        have PL := Lib.hid q6.len
        have HO := Lib.hid q9
        clear hrel q1 q2 q3 q4 q5 q6 q7 q8 q9 HO2
        go_wp2_with fail
        refine (nearest_c b gl cl ce bo B n n E (some ⟨gp, 0, none⟩) G2 p wr OK.out (PD.out.pot n2) GA.out FP.out.ints ⟨Nat.le_refl _, by omega⟩).mono ?_
        rintro e w3 ⟨gf, gb, fa, vi, en, rfl, hb3, hf3, hv3, z1, z2, nr⟩
        have G3 := Lib.hid (GA.out.below hb3)
        have T3 := Lib.hid (TA.out.below hb3)
        have P3 := Lib.hid (FP.out.below hb3)
        have F3 := Lib.hid hf3
        have V3 := Lib.hid hv3
        have O3 := Lib.hid (HO.out.below GA.out.bo.1 hb3)
        have NRR := Lib.hid nr
        have hpf : gp ≠ gf := by have := FP.out.lt; omega
        have hpb : gb ≠ gl ∧ ¬ OwnB E gb := by
          have h1 := GA.out.left.lt.2
          refine ⟨by omega, fun h => ?_⟩
          have := (ownLt GA.out.es h).1
          omega
        clear hb3 hf3 hv3 nr
        by_cases hen : en < 0
        · have hem : en = -1 := by
            rcases NRR.out.fin with ⟨e, _⟩ | ⟨t, e, _⟩
            · exact e
            · omega
          subst hem
          go_wp2_with fail
          exact bodyPost_ret (v := .slice (some ⟨gp, 0, none⟩) n n) (by simp [results, Try.results63, go_sem]) rfl ⟨gp, G2, p, fa, vi, D, rfl, P3.out, G3.out, OK.out, FT.out, PD.out, NRR.out, T3.out, hgp⟩
        · obtain ⟨t, rfl⟩ : ∃ t : Nat, en = t := ⟨en.toNat, by omega⟩
          have TF : Hid (t < n ∧ G2.lf t < 0 ∧ fa.getD t 0 < never ∧ ∀ v, v < n → G2.lf v < 0 → fa.getD t 0 ≤ fa.getD v 0) := Lib.hid (by
            rcases NRR.out.fin with ⟨e, _⟩ | ⟨t', e, h1, h2, h3, h4⟩
            · omega
            · obtain rfl : t' = t := by omega
              exact ⟨h1, h2, h3, h4⟩)
          have htn : t < n := TF.out.1
          have hti : (t : Int) < (n : Int) := by omega
          have ftb := NRR.out.top t htn
          have P0 : Hid (Fl 2 w3 gp (potI n p fa (fa.getD t 0) 0)) := Lib.hid (by rw [← potI_zero PL.out fa (fa.getD t 0)]; exact P3.out)
          have PG := Lib.hid (fun k v (hv : v < n) => potI_get (p := p) (fa := fa) (d := fa.getD t 0) (k := k) hv)
          have PS := Lib.hid (fun k (hk : k < n) => potI_succ (p := p) (fa := fa) (d := fa.getD t 0) hk)
          have PEN := Lib.hid (potI_end n p fa (fa.getD t 0))
          have PLN := Lib.hid (potI_len n p fa (fa.getD t 0))
          have FTC : Hid (∀ W, Fl 2 W gf fa → W.cell? ⟨gf, t, none⟩ = some (.int .i64 (fa.getD t 0))) := Lib.hid (fun W h => h.cell t (by rw [NRR.out.l1]; exact htn))
          have RP := Lib.hid (fun x ks s (h1 : Sent G2 n vi ks s t x) h2 => round_pot OK.out PD.out NRR.out h1 h2)
          generalize hft : fa.getD t 0 = ft at *
          have HFT := Lib.hid hft
          clear hft P3
          unfold never at ftb
          go_wp2_with fail
          go_loopw [83] (fun iv wr => ∃ k : Nat, iv = .int .i64 k ∧ k ≤ n ∧ Hid (Fl 2 wr gp (potI n p fa ft k) ∧ Fl 2 wr gf fa ∧ Fl 3 wr gb vi ∧ GrAt wr B b gl cl E ce bo G2 ∧ Touch (fun k => k = gl ∨ OwnB E k) w wr ∧ OutsAt wr bo G2.outs (fun k => k = b ∨ k = gl ∨ OwnB E k ∨ k = gp))) (fun iv _ => n - (intOf iv).toNat)
          case atStart => exact ⟨0, rfl, Nat.zero_le _, Lib.hid ⟨P0.out, F3.out, V3.out, G3.out, T3.out, O3.out⟩⟩
          case round =>
            clear P0 F3 V3 G3 T3 O3
            obtain ⟨k, rfl, hk, HJ⟩ := hrel
            by_cases hlt : k < n
            · have hki : (k : Int) < (n : Int) := by omega
              have pb := PD.out.lo k hlt
              have pd := PD.out.d
              have fkb := NRR.out.top k hlt
              unfold never at fkb
              have PCK : Hid (∀ W, Fl 2 W gp (potI n p fa ft k) → W.cell? ⟨gp, k, none⟩ = some (.int .i64 (p.getD k 0))) := Lib.hid (fun W h => by
                have := h.cell k (by rw [PLN.out]; exact hlt)
                rw [PG.out k k hlt, if_neg (Nat.lt_irrefl k)] at this
                exact this)
              have FKC : Hid (∀ W, Fl 2 W gf fa → W.cell? ⟨gf, k, none⟩ = some (.int .i64 (fa.getD k 0))) := Lib.hid (fun W h => h.cell k (by rw [NRR.out.l1]; exact hlt))
              have PSK := Lib.hid (PS.out k hlt)
              generalize p.getD k 0 = pk at *
              generalize fa.getD k 0 = fk at *
              have hmn := fun ts t W => min_i64 fk ft ts t W
              generalize hy : min fk ft = y at *
              have hy1 : 0 ≤ y ∧ y ≤ 1152921504606846976 := by omega
              have s1 : IntKind.i64.wrap (pk + y) = pk + y := IntWalk.i64_in _ (by omega)
              clear hy
              go_upto_region 16 with fail
              refine wp_region_spine 15 [false] [] ?af16 (fun V => Fl 2 V gp (potI n p fa ft k) ∧ Fl 2 V gf fa ∧ Fl 3 V gb vi ∧ GrAt V B b gl cl E ce bo G2 ∧ Touch (fun k => k = gl ∨ OwnB E k) w V ∧ OutsAt V bo G2.outs (fun k => k = b ∨ k = gl ∨ OwnB E k ∨ k = gp)) (by kernel_rfl) (by kernel_rfl) ⟨Blk.drew HJ.out.1, Blk.drew HJ.out.2.1, Blk.drew HJ.out.2.2.1, HJ.out.2.2.2.1.below (Below.refl _ _).drew, HJ.out.2.2.2.2.1.drew, HJ.out.2.2.2.2.2.below HJ.out.2.2.2.1.bo.1 (Below.refl _ _).drew⟩ ?walk16 ?spine16
              case walk16 =>
                rintro V ⟨h1, h2, _, _, _, _⟩
                have q0 := PCK.out V h1
                have q1 := FKC.out V h2
                have q2 := FTC.out V h2
                clear h1 h2
                simp only [List.take_succ_cons, List.take_zero]
                repeat (go_big_quiet_step (fail))
                refine wpQuiet_nil ?_
                rfl
              case spine16 =>
                rintro V ⟨h1, h2, h3, h4, h5, h6⟩
                have q0 := PCK.out V h1
                have z0 := h1.free k
                have H1 := h1.put k (pk + y)
                rw [PSK.out] at H1
                have H1 := Lib.hid H1
                have H2 := Lib.hid (h2.set_ne (p := ⟨gp, k, none⟩) (fun e => hpf e.symm) (.int .i64 (pk + y)))
                have H3 := Lib.hid (h3.set_ne (p := ⟨gp, k, none⟩) (fun e => by simp only at e; subst e; exact (h1.ne h3 (by decide)) rfl) (.int .i64 (pk + y)))
                have H5 := Lib.hid (h5.setCell (p := ⟨gp, k, none⟩) (.inr hgp) (.int .i64 (pk + y)))
                have H4 := Lib.hid (h4.far h6 (p := ⟨gp, k, none⟩) rfl hbgp hglp hegp hbop (.int .i64 (pk + y)))
                clear h1 h2 h3 h4 h5 h6
                refine spineV_cons ?_
                unfold StepV
                go_simp
                generalize V.setCell ⟨gp, k, none⟩ (.int .i64 (pk + y)) = V1 at H1 H2 H3 H4 H5 ⊢
                clear q0 z0
                refine spineV_nil ?_
                go_wp2_with fail
                go_roundw
                case rel => exact ⟨k + 1, by go_num, by omega, Lib.hid ⟨H1.out, H2.out, H3.out, H4.out.1, H5.out, H4.out.2⟩⟩
                case measure => simp [intOf]; omega
            · obtain rfl : n = k := by omega
              obtain ⟨h1, h2, h3, h4, h5, h6⟩ := HJ.out
              rw [PEN.out] at h1
              have H1 := Lib.hid h1
              have H4 := Lib.hid h4
              have H5 := Lib.hid h5
              have H6 := Lib.hid h6
              have HV := Lib.hid h3.ints
              obtain ⟨S, s1, s2, s3, s4⟩ := NRR.out.ch
              obtain ⟨ks, s, w1, w2', w3', w4, w5⟩ := chn_way s1 s4 t ((s2 t htn).2 (by rw [HFT.out]; exact TF.out.2.2.1))
              have hsn : s < n := s3 s (w5 s (w1.last))
              have SE := Lib.hid (send_c b gl cl ce bo B n n s t E (some ⟨gb, 0, none⟩) G2 vi ks wr OK.out w1 w4 hsn htn w2' TF.out.2.1 (fun j hj => (w3' j hj).1) NRR.out.l2 ⟨Nat.le_refl _, by omega⟩ H4.out HV.out (fun q hq => by rw [ownB_some.1 hq]; exact hpb))
              have RPK := Lib.hid (fun x h => RP.out x ks s h w3')
              clear h1 h2 h3 h4 h5 h6 HJ s1 s2 s3 s4 w1 w2' w3' w4 w5 RP
              go_wp2_with fail
              refine SE.out.mono ?_
              rintro e w6 ⟨rfl, x, hse, hga, hto⟩
              have SX := Lib.hid hse
              have G6 := Lib.hid hga
              have T6 := Lib.hid (H5.out.trans hto)
              have P6 := Lib.hid (H1.out.touch hto (fun h => by
                rcases h with h | h
                · exact hglp h.symm
                · exact hegp h))
              have ok := hse.ok OK.out
              have A6 := Lib.hid (AL.out.trans (pushL_alike (x := x) ok.1))
              have O6 := Lib.hid (H6.out.touch (T := fun k => k = gl ∨ OwnB E k) H4.out.bo.1 (fun h => by
                rcases h with h | h
                · exact H4.out.bo.2.2.1 h
                · exact H4.out.bo.2.2.2 h) (fun k hk => by
                rcases hk with h | h
                · exact .inr (.inl h)
                · exact .inr (.inr (.inl h))) hto)
              rw [← (pushL_alike (x := x) ok.1).outs] at O6
              have F6 := Lib.hid (FT.out.pushL OK.out.fine (ks := ks) (x := x) (fun j hj => (ok.1 j hj).1))
              have D6 := Lib.hid (RPK.out x hse)
              have M6 := Lib.hid (rest_push hse OK.out)
              have MN := Lib.hid (rest_nn (G2.pushL ks x).left)
              have OK6 := Lib.hid ok.2.2
              clear hse hga hto ok SE RPK
              go_wp2_with fail
              go_roundg (restV (G2.pushL ks x).left).toNat
              case measure => have h1 := M6.out; have h2 := MN.out; have h3 := SX.out.x0; have h4 := HR.out; omega
              case rel => exact Lib.hid ⟨_, _, _, A6.out, OK6.out, F6.out, G6.out, P6.out, D6.out, rfl, T6.out, O6.out⟩
end Go.Proofs.Ytmebpglkeedaoaa
namespace Go.Proofs.Ytmebpglkeedaoaa
open Go.RowKit Dp
def LeastP (N : Net) (w : World) (e : Ending) (w' : World) : Prop :=
  (chE N ≠ 0 ∧ e = .returned (.tuple #[.slice none 0 0, .slice none 0 0, .int .i64 (chE N)])) ∨
  (chE N = 0 ∧ ∃ gf gp fl p, e = .returned (.tuple #[.slice (some ⟨gf, 0, none⟩) N.arcs.length N.arcs.length, .slice (some ⟨gp, 0, none⟩) N.sup.length N.sup.length, .int .i64 0]) ∧ Fl 2 w' gf fl ∧ Fl 2 w' gp p ∧ w.heap.size ≤ gf ∧ w.heap.size ≤ gp ∧ fl.length = N.arcs.length ∧ isFlow N fl = true ∧ p.length = N.sup.length ∧ (∀ v, v < p.length → potOk (p.getD v 0) = true) ∧ costK N fl N.arcs.length = prA N p N.arcs.length) ∨
  (chE N = 0 ∧ e = .returned (.tuple #[.slice none 0 0, .slice none 0 0, .int .i64 18]) ∧ ∃ c : List Int, (∀ k, k < c.length → cutAt N.sup.length c k = true) ∧ 0 < lkA N c N.arcs.length ∧ ∀ fl, isFlow N fl = false)
set_option maxHeartbeats 2000000 in
set_option maxRecDepth 100000 in
theorem Least_c (A B : Option Addr) (N : Net) (n m cA cB : Nat) (w : World) (hn : n = N.sup.length) (hm : m = N.arcs.length) (hA : n ≤ cA ∧ cA ≤ 9223372036854775807) (hB : m ≤ cB ∧ cB ≤ 9223372036854775807) (hN : NetAt w A B N) :
    Calls Try.prog 25 #[.agg #[.slice A n cA, .slice B m cB]] w fun e w' => LeastP N w e w' ∧ Below w.heap.size w w' := by
  have HN := Lib.hid hn
  have HM := Lib.hid hm
  have HNA := Lib.hid hN
  clear hn hm hN
  have B1 := Lib.hid (Blk.new' w #[.slice A n cA, .slice B m cB] 25)
  have HB1 := Lib.hid ((Below.refl w.heap.size w).alloc (Nat.le_refl _) (.cells #[.slice A n cA, .slice B m cB] 25))
  go_enter Try.func25, Try.ntmps25
  go_wp2_with fail
  generalize w.alloc (.cells #[.slice A n cA, .slice B m cB] 25) = w1 at B1 HB1 ⊢
  refine (Check_c A B N n m cA cB w1 HN.out HM.out hA hB (HNA.out.below HB1.out (Nat.le_refl _))).mono ?_
  rintro e w2 ⟨rfl, hb2⟩
  have B2 := Lib.hid (B1.out.below hb2 B1.out.lt)
  have HB2 := Lib.hid (HB1.out.trans (hb2.mono HB1.out.size))
  clear hb2 B1 HB1
  have cA0 := B2.out.cell 0 rfl
  have cB0 := B2.out.cell 1 rfl
  by_cases hch : chE N = 0
  · have HCH := Lib.hid hch
    have n2 : n ≤ 1024 := by rw [HN.out]; exact (net_len hch).2.1
    rw [hch]
    clear hch
    go_wp2_with fail
    refine (newGraph_c A B N n m cA cB w2 HN.out HM.out HCH.out hA hB (HNA.out.below HB2.out (Nat.le_refl _))).mono ?_
    rintro e w3 ⟨b, gl, cl, E, ce, bo, rfl, hb3, hg3⟩
    have HB3 := Lib.hid (HB2.out.trans (hb3.mono HB2.out.size))
    have G3 := Lib.hid hg3
    have hsz := HB2.out.size
    have S3 : Hid (∀ k, k = gl ∨ OwnB E k → w.heap.size ≤ k) := Lib.hid (fun k hk => by
      rcases hk with h | h
      · have := hg3.base.2; omega
      · have := (ownLt hg3.es h).2; omega)
    clear hb3 hg3 cA0 cB0
    go_wp2_with fail
    refine (least_c b gl cl ce bo w2.heap.size n E (gr0 N) N w3 HN.out.symm HCH.out (by rw [HN.out]; exact gr0_ok HCH.out) gr0_fits (fun i hi => by show ((esK N N.arcs.length).getD (2 * i + 1) default).room = 0; rw [(esK_get N _ i hi).2]) G3.out).mono ?_
    rintro e w4 ⟨gp, G', p, fa, vi, D, rfl, hp4, hg4, hok, hft, hpd, hnr, ht4, hgp⟩
    have HB4 := Lib.hid (Below.touch HB3.out HB3.out.size ht4 S3.out)
    have G4 := Lib.hid hg4
    have OK := Lib.hid hok
    have FT := Lib.hid hft
    have PD := Lib.hid hpd
    have NRR := Lib.hid hnr
    have P4 := Lib.hid hp4
    have hgpw : w.heap.size ≤ gp := by have := HB3.out.size; omega
    clear hp4 hg4 hok hft hpd hnr ht4
    have RN := rest_nn G'.left
    go_wp2_with fail
    refine (rest_c b gl cl ce bo w2.heap.size n E G' w4 OK.out G4.out).mono ?_
    rintro e w5 ⟨rfl, rfl⟩
    have OKN : Hid (G'.Ok N.sup.length) := Lib.hid (by rw [← HN.out]; exact OK.out)
    have CUT : Hid (lkA N (cutL N.sup.length (fun v => decide (fa.getD v 0 < never))) N.arcs.length = restV G'.left) := Lib.hid (by
      have h := NRR.out
      rw [HN.out] at h
      exact end_cut HCH.out OKN.out FT.out h)
    have FLO := Lib.hid (fun h => end_flow HCH.out OKN.out FT.out PD.out.rc h)
    generalize restV G'.left = R at *
    by_cases hr : 0 < R
    · have d1 : decide (0 < R) = true := decide_eq_true hr
      have C1 : Hid (∃ c : List Int, (∀ k, k < c.length → cutAt N.sup.length c k = true) ∧ 0 < lkA N c N.arcs.length ∧ ∀ fl, isFlow N fl = false) := Lib.hid ⟨_, cutL_ok, by rw [CUT.out]; exact hr, cut_none HCH.out cutL_ok (by rw [CUT.out]; exact hr)⟩
      go_wp2_with fail
      exact bodyPost_ret (v := .tuple #[.slice none 0 0, .slice none 0 0, .int .i64 18]) (by simp [results, Try.results25, go_sem]) rfl ⟨.inr (.inr ⟨HCH.out, rfl, C1.out⟩), HB4.out⟩
    · have d1 : decide (0 < R) = false := decide_eq_false hr
      have FL := Lib.hid (FLO.out (by omega))
      go_wp2_with fail
      refine (flow_c b gl cl ce bo w2.heap.size n E G' w4 OK.out G4.out).mono ?_
      rintro e w5 ⟨gf, rfl, hb5, hf5, hgf⟩
      have HB5 := Lib.hid (HB4.out.trans (hb5.mono HB4.out.size))
      have P5 := Lib.hid (P4.out.below hb5)
      rw [flowE_flow FT.out] at hf5
      have F5 := Lib.hid hf5
      have hgfw : w.heap.size ≤ gf := by have := HB4.out.size; omega
      have e1 : G'.es.length / 2 = N.arcs.length := by rw [FT.out.es]; omega
      rw [e1]
      have POK : Hid (∀ v, v < p.length → potOk (p.getD v 0) = true) := Lib.hid (fun v hv => by
        rw [PD.out.len] at hv
        have := PD.out.lo v hv
        have := PD.out.d
        rw [potOk_iff]
        omega)
      clear hb5 hf5
      go_wp2_with fail
      exact bodyPost_ret (v := .tuple #[.slice (some ⟨gf, 0, none⟩) N.arcs.length N.arcs.length, .slice (some ⟨gp, 0, none⟩) n n, .int .i64 0]) (by simp [results, Try.results25, go_sem]) rfl ⟨.inr (.inl ⟨HCH.out, gf, gp, flowL N G', p, by rw [HN.out], F5.out, P5.out, hgfw, hgpw, flowL_len N G', FL.out.1, by rw [PD.out.len, HN.out], POK.out, FL.out.2⟩), HB5.out⟩
  · have hne : (chE N == 0) = false := by simpa using hch
    have HCH := Lib.hid hch
    generalize hq : chE N = q at *
    have HQ := Lib.hid hq
    clear hq
    go_wp2_with fail
    exact bodyPost_ret (v := .tuple #[.slice none 0 0, .slice none 0 0, .int .i64 q]) (by simp [results, Try.results25, go_sem]) rfl ⟨.inl ⟨by rw [HQ.out]; exact HCH.out, by rw [HQ.out]⟩, HB2.out⟩
end Go.Proofs.Ytmebpglkeedaoaa
namespace Go.Proofs.Ytmebpglkeedaoaa
open Go.RowKit Dp
@[go_sem] theorem on_0 : bits BinOp.and IntKind.u64 0 6148914691236517205 = 0 := by kernel_rfl
@[go_sem] theorem on_1 : IntKind.u64.wrap (0 + 0) = 0 := by kernel_rfl
@[go_sem] theorem on_2 : IntKind.u64.wrap 0 = 0 := by kernel_rfl
@[go_sem] theorem on_3 : bits BinOp.and IntKind.u64 0 3689348814741910323 = 0 := by kernel_rfl
@[go_sem] theorem on_4 : bits BinOp.and IntKind.u64 0 1085102592571150095 = 0 := by kernel_rfl
@[go_sem] theorem on_5 : bits BinOp.and IntKind.i64 0 127 = 0 := by kernel_rfl
@[go_sem] theorem on_6 : IntKind.i64.wrap 0 = 0 := by kernel_rfl
@[go_sem] theorem on_7 : bits BinOp.and IntKind.u64 1 6148914691236517205 = 1 := by kernel_rfl
@[go_sem] theorem on_8 : IntKind.u64.wrap (0 + 1) = 1 := by kernel_rfl
@[go_sem] theorem on_9 : IntKind.u64.wrap 1 = 1 := by kernel_rfl
@[go_sem] theorem on_10 : bits BinOp.and IntKind.u64 1 3689348814741910323 = 1 := by kernel_rfl
@[go_sem] theorem on_11 : bits BinOp.and IntKind.u64 1 1085102592571150095 = 1 := by kernel_rfl
@[go_sem] theorem on_12 : IntKind.u64.wrap (1 + 0) = 1 := by kernel_rfl
@[go_sem] theorem on_13 : bits BinOp.and IntKind.i64 1 127 = 1 := by kernel_rfl
@[go_sem] theorem on_14 : IntKind.i64.wrap 1 = 1 := by kernel_rfl
@[go_sem] theorem on_15 : bits BinOp.and IntKind.u64 2 6148914691236517205 = 0 := by kernel_rfl
@[go_sem] theorem on_16 : IntKind.u64.wrap 2 = 2 := by kernel_rfl
@[go_sem] theorem on_17 : bits BinOp.and IntKind.u64 3 6148914691236517205 = 1 := by kernel_rfl
@[go_sem] theorem on_18 : IntKind.u64.wrap (1 + 1) = 2 := by kernel_rfl
@[go_sem] theorem on_19 : bits BinOp.and IntKind.u64 2 3689348814741910323 = 2 := by kernel_rfl
@[go_sem] theorem on_20 : IntKind.u64.wrap (0 + 2) = 2 := by kernel_rfl
@[go_sem] theorem on_21 : bits BinOp.and IntKind.u64 2 1085102592571150095 = 2 := by kernel_rfl
@[go_sem] theorem on_22 : IntKind.u64.wrap (2 + 0) = 2 := by kernel_rfl
@[go_sem] theorem on_23 : bits BinOp.and IntKind.i64 2 127 = 2 := by kernel_rfl
@[go_sem] theorem on_24 : IntKind.u64.wrap 3 = 3 := by kernel_rfl
@[go_sem] theorem on_25 : IntKind.i64.wrap 2 = 2 := by kernel_rfl
set_option maxHeartbeats 2000000 in
set_option maxRecDepth 100000 in
theorem ones64_0 (w : World) : Calls Try.prog 112 #[.int .u64 0] w fun e w' => e = .returned (.int .i64 0) ∧ w = w' := by
  go_enter Try.func112, Try.ntmps112
  go_wp2_with fail
  exact bodyPost_ret (v := .int .i64 0) (by simp [results, Try.results112, go_sem]) rfl ⟨rfl, rfl⟩
set_option maxHeartbeats 2000000 in
set_option maxRecDepth 100000 in
theorem ones_0 (w : World) : Calls Try.prog 95 #[.int .u64 0] w fun e w' => e = .returned (.int .i64 0) ∧ w = w' := by
  go_enter Try.func95, Try.ntmps95
  go_wp2_with fail
  refine (ones64_0 w).mono ?_
  rintro e w1 ⟨rfl, rfl⟩
  go_wp2_with fail
  exact bodyPost_ret (v := .int .i64 0) (by simp [results, Try.results95, go_sem]) rfl ⟨rfl, rfl⟩
set_option maxHeartbeats 2000000 in
set_option maxRecDepth 100000 in
theorem ones64_1 (w : World) : Calls Try.prog 112 #[.int .u64 1] w fun e w' => e = .returned (.int .i64 1) ∧ w = w' := by
  go_enter Try.func112, Try.ntmps112
  go_wp2_with fail
  exact bodyPost_ret (v := .int .i64 1) (by simp [results, Try.results112, go_sem]) rfl ⟨rfl, rfl⟩
set_option maxHeartbeats 2000000 in
set_option maxRecDepth 100000 in
theorem ones_1 (w : World) : Calls Try.prog 95 #[.int .u64 1] w fun e w' => e = .returned (.int .i64 1) ∧ w = w' := by
  go_enter Try.func95, Try.ntmps95
  go_wp2_with fail
  refine (ones64_1 w).mono ?_
  rintro e w1 ⟨rfl, rfl⟩
  go_wp2_with fail
  exact bodyPost_ret (v := .int .i64 1) (by simp [results, Try.results95, go_sem]) rfl ⟨rfl, rfl⟩
set_option maxHeartbeats 2000000 in
set_option maxRecDepth 100000 in
theorem ones64_2 (w : World) : Calls Try.prog 112 #[.int .u64 2] w fun e w' => e = .returned (.int .i64 1) ∧ w = w' := by
  go_enter Try.func112, Try.ntmps112
  go_wp2_with fail
  exact bodyPost_ret (v := .int .i64 1) (by simp [results, Try.results112, go_sem]) rfl ⟨rfl, rfl⟩
set_option maxHeartbeats 2000000 in
set_option maxRecDepth 100000 in
theorem ones_2 (w : World) : Calls Try.prog 95 #[.int .u64 2] w fun e w' => e = .returned (.int .i64 1) ∧ w = w' := by
  go_enter Try.func95, Try.ntmps95
  go_wp2_with fail
  refine (ones64_2 w).mono ?_
  rintro e w1 ⟨rfl, rfl⟩
  go_wp2_with fail
  exact bodyPost_ret (v := .int .i64 1) (by simp [results, Try.results95, go_sem]) rfl ⟨rfl, rfl⟩
set_option maxHeartbeats 2000000 in
set_option maxRecDepth 100000 in
theorem ones64_3 (w : World) : Calls Try.prog 112 #[.int .u64 3] w fun e w' => e = .returned (.int .i64 2) ∧ w = w' := by
  go_enter Try.func112, Try.ntmps112
  go_wp2_with fail
  exact bodyPost_ret (v := .int .i64 2) (by simp [results, Try.results112, go_sem]) rfl ⟨rfl, rfl⟩
set_option maxHeartbeats 2000000 in
set_option maxRecDepth 100000 in
theorem ones_3 (w : World) : Calls Try.prog 95 #[.int .u64 3] w fun e w' => e = .returned (.int .i64 2) ∧ w = w' := by
  go_enter Try.func95, Try.ntmps95
  go_wp2_with fail
  refine (ones64_3 w).mono ?_
  rintro e w1 ⟨rfl, rfl⟩
  go_wp2_with fail
  exact bodyPost_ret (v := .int .i64 2) (by simp [results, Try.results95, go_sem]) rfl ⟨rfl, rfl⟩
structure CO (w : World) (gL gA gB : Nat) : Prop where
  L : Blk w gL 22 [.slice (some ⟨gA, 0, none⟩) 2 2, .slice (some ⟨gB, 0, none⟩) 2 2]
  A : Blk w gA 2 [.int .i64 4, .int .i64 1]
  B : Blk w gB 2 [.int .i64 2, .int .i64 3]
theorem CO.below {w w' : World} {gL gA gB k : Nat} (h : CO w gL gA gB) (hb : Below k w w') (hk : w.heap.size ≤ k) : CO w' gL gA gB :=
  ⟨h.L.below hb (by have := h.L.lt; omega), h.A.below hb (by have := h.A.lt; omega), h.B.below hb (by have := h.B.lt; omega)⟩
set_option maxHeartbeats 4000000 in
set_option maxRecDepth 100000 in
theorem checkCosts_c (gL gA gB : Nat) (w : World) (h : CO w gL gA gB) : Calls Try.prog 94 #[.slice (some ⟨gL, 0, none⟩) 2 2] w fun e w' => e = .returned (.int .i64 0) ∧ w = w' := by
  have H0 := Lib.hid h
  clear h
  have l0 := H0.out.L.cell 0 rfl
  have l1 := H0.out.L.cell 1 rfl
  have a0 := H0.out.A.cell 0 rfl
  have a1 := H0.out.A.cell 1 rfl
  have b0 := H0.out.B.cell 0 rfl
  have b1 := H0.out.B.cell 1 rfl
  go_enter Try.func94, Try.ntmps94
  go_wp2_with fail
  refine wp_loop_rounds 3 ?_
  rw [rounds_succ]
  go_wp2_with fail
  rw [rounds_succ]
  go_wp2_with fail
  rw [rounds_succ]
  go_wp2_with fail
  refine wp_loop_rounds 3 ?_
  rw [rounds_succ]
  go_wp2_with fail
  refine wp_loop_rounds 3 ?_
  rw [rounds_succ]
  go_wp2_with fail
  rw [rounds_succ]
  go_wp2_with fail
  rw [rounds_succ]
  go_wp2_with fail
  rw [rounds_succ]
  go_wp2_with fail
  refine wp_loop_rounds 3 ?_
  rw [rounds_succ]
  go_wp2_with fail
  rw [rounds_succ]
  go_wp2_with fail
  rw [rounds_succ]
  go_wp2_with fail
  rw [rounds_succ]
  go_wp2_with fail
  exact bodyPost_ret (v := .int .i64 0) (by simp [results, Try.results94, go_sem]) rfl ⟨rfl, rfl⟩
end Go.Proofs.Ytmebpglkeedaoaa
namespace Go.Proofs.Ytmebpglkeedaoaa
open Go.RowKit Dp
theorem info46 : (Try.prog.info? 46).map (fun i => (i.zero, i.size, i.bytes)) = some (some (.agg #[.int .i64 0, .int .i64 0, .int .i64 0, .int .i64 0]), 4, 32) := by kernel_rfl
def arcV (a : Arc) : List Value := [.int .i64 a.fr, .int .i64 a.to, .int .i64 a.cap, .int .i64 a.cost]
structure BuJ (w : World) (gL gA gB gs gb : Nat) (A : Option Addr) (n cap : Nat) (sup : List Int) (arcs : List Arc) (W : World) : Prop where
  co : CO W gL gA gB
  b : Blk W gb 125 [.slice (some ⟨gs, 0, none⟩) 5 5, .slice A n cap, .slice none 0 0, .slice none 0 0]
  s : Fl 2 W gs sup
  own : W.ownsRow (gb + 1) 46 4 (.slice A n cap) n (flat arcV arcs)
  lt : gL < gs ∧ gA < gs ∧ gB < gs ∧ gs < gb ∧ w.heap.size ≤ gs
  bel : Below w.heap.size w W
section
variable {w W V : World} {gL gA gB gs gb n cap n2 cap2 : Nat} {A A2 : Option Addr} {sup : List Int} {arcs arcs2 : List Arc}
theorem BuJ.below (h : BuJ w gL gA gB gs gb A n cap sup arcs W) (hb : Below W.heap.size W V) : BuJ w gL gA gB gs gb A n cap sup arcs V :=
  ⟨h.co.below hb (Nat.le_refl _), h.b.below hb h.b.lt, h.s.below hb, ownBelow h.own hb, h.lt, h.bel.trans (hb.mono h.bel.size)⟩
theorem BuJ.alloc (h : BuJ w gL gA gB gs gb A n cap sup arcs W) (o : Obj) : BuJ w gL gA gB gs gb A n cap sup arcs (W.alloc o) :=
  h.below ((Below.refl _ _).alloc (Nat.le_refl _) o)
theorem BuJ.set (h : BuJ w gL gA gB gs gb A n cap sup arcs W) (k : Nat) (v : Int) : BuJ w gL gA gB gs gb A n cap (sup.set k v) arcs (W.setCell ⟨gs, k, none⟩ (.int .i64 v)) := by
  have hl := h.lt
  refine ⟨⟨h.co.L.setCell_ne (by simp; omega) _, h.co.A.setCell_ne (by simp; omega) _, h.co.B.setCell_ne (by simp; omega) _⟩, h.b.setCell_ne (by simp; omega) _, h.s.put k v, ?_, h.lt, h.bel.setCell (by simp; omega) _⟩
  exact ownGrown h.own ⟨rfl, rfl, rfl, by simp [World.setCell], fun k hk hne => Below.heap_setCell _ _ _ _ (fun e => hne (by rw [e]))⟩ (row := some gs) (fun k hk e => by
    have := (World.ownsRow.lt h.own k (ownB_iff.1 hk)).1
    cases e; omega)
theorem BuJ.mid (h : BuJ w gL gA gB gs gb A n cap sup arcs W) (hg : W.grownBy V (Value.slice A n cap).ownBlock) :
    Blk V gb 125 [.slice (some ⟨gs, 0, none⟩) 5 5, .slice A n cap, .slice none 0 0, .slice none 0 0] := by
  have hk : ∀ k, (Value.slice A n cap).ownBlock = some k → gb + 1 ≤ k := fun k e => (World.ownsRow.lt h.own k e).1
  exact h.b.grown hg (fun e => by have := hk gb e.symm; omega)
theorem BuJ.push (h : BuJ w gL gA gB gs gb A n cap sup arcs W) (hg : W.grownBy V (Value.slice A n cap).ownBlock)
    (ho : V.ownsRow (gb + 1) 46 4 (.slice A2 n2 cap2) n2 (flat arcV arcs2)) : BuJ w gL gA gB gs gb A2 n2 cap2 sup arcs2 (V.setCell ⟨gb, 1, none⟩ (.slice A2 n2 cap2)) := by
  have hk : ∀ k, (Value.slice A n cap).ownBlock = some k → gb + 1 ≤ k := fun k e => (World.ownsRow.lt h.own k e).1
  have hne : ∀ k, k ≤ gb → some k ≠ (Value.slice A n cap).ownBlock := fun k hk' e => by have := hk k e.symm; omega
  have hl := h.lt
  have hbs := h.bel.size
  have m2 := h.mid hg
  refine ⟨⟨(h.co.L.grown hg (hne _ (by omega))).setCell_ne (by simp; omega) _, (h.co.A.grown hg (hne _ (by omega))).setCell_ne (by simp; omega) _, (h.co.B.grown hg (hne _ (by omega))).setCell_ne (by simp; omega) _⟩, m2.setCell 1 _, Blk.setCell_ne (Blk.grown h.s hg (hne _ (by omega))) (by simp; omega) _, ?_, hl, (h.bel.grown hg hbs (fun k e => by have := hk k e; omega)).setCell (by simp; omega) _⟩
  exact ownGrown ho ⟨rfl, rfl, rfl, by simp [World.setCell], fun k hk hne => Below.heap_setCell _ _ _ _ (fun e => hne (by rw [e]))⟩ (row := some gb) (fun k hk e => by
    have := (World.ownsRow.lt ho k (ownB_iff.1 hk)).1
    cases e; omega)
end
set_option maxHeartbeats 2000000 in
set_option maxRecDepth 100000 in
theorem add_c (w W : World) (gL gA gB gs gb n cap gx : Nat) (A : Option Addr) (sup : List Int) (arcs : List Arc) (x : Arc) (hn : n ≤ 100) (h : BuJ w gL gA gB gs gb A n cap sup arcs W) (hX : Blk W gx 46 (arcV x)) (hal : arcs.length = n) :
    Calls Try.prog 108 #[.pointer (some ⟨gb, 0, none⟩), .slice (some ⟨gx, 0, none⟩) 1 1] W fun e W' => ∃ A2 cap2, e = .returned (.int .i64 n) ∧ BuJ w gL gA gB gs gb A2 (n + 1) cap2 sup (arcs ++ [x]) W' := by
  have H0 := Lib.hid h
  have X := Lib.hid hX
  have HAL := Lib.hid hal
  clear h hX hal
  obtain ⟨i3, h3i, h3z, h3s, h3b⟩ := info_parts info46
  have y0 := H0.out.b.cell 1 rfl
  go_enter Try.func108, Try.ntmps108
  go_wp2_with (at_builtin; refine wpList_append_any (.tmp 10) (.tmp 11) 23 rfl rfl (gb + 1) 46 i3 (.agg #[.int .i64 0, .int .i64 0, .int .i64 0, .int .i64 0]) 4 32 Try.underlying23 h3i h3z h3s h3b rfl (by decide) A n cap (flat arcV arcs) (by rfl) H0.out.own (some ⟨gx, 0, none⟩) 1 1 (arcV x) (by rfl) (by rfl) (.inr ⟨_, rfl, fun k u hk => by rw [show ((⟨gx, 0, none⟩ : Addr).add k) = ⟨gx, k, none⟩ from (by unfold Addr.add; split <;> simp_all)]; exact X.out.cell k hk⟩) (by simp [arcV, Value.oneCell']) (by unfold maxLen; omega) (by omega) (by have := H0.out.b.lt; omega) ?_; intro A2 c2 v hown hgrow hat; have H1 := Lib.hid (show BuJ w gL gA gB gs gb A2 (n + 1) c2 sup (arcs ++ [x]) (v.setCell ⟨gb, 1, none⟩ (.slice A2 (n + 1) c2)) from H0.out.push hgrow (by rw [flat_append]; simpa [flat] using hown)); have MM := H0.out.mid hgrow; clear y0; have y0 := MM.cell 1 rfl; have q0 := MM.free 1; clear MM hown hgrow hat)
  go_upto_region 2 with fail
  generalize v.setCell ⟨gb, 1, none⟩ (.slice A2 (n + 1) c2) = v1 at H1 ⊢
  clear y0 q0
  have y0 := H1.out.b.cell 1 rfl
  go_wp2_with fail
  trace_state
  exact bodyPost_ret (v := .int .i64 n) (by simp [results, Try.results108, go_sem]) rfl ⟨A2, c2, rfl, H1.out⟩
end Go.Proofs.Ytmebpglkeedaoaa
namespace Go.Proofs.Ytmebpglkeedaoaa
namespace Dp
structure Trip where
  fr : Int
  «to» : Int
  use : Int
  deriving Inhabited
structure Car where
  cap : Int
  inn : Int
  out : Int
  start : Int
  fin : Int
  trips : List Trip
  deriving Inhabited
structure Site where
  lim : List Int
  exp : List Int
  buy : List Int
  sell : List Int
structure Tab where
  inn : List (List Int)
  out : List (List Int)
def allB (n : Nat) (p : Nat → Bool) : Bool := (List.range n).all p
theorem allB_iff {n : Nat} {p : Nat → Bool} : allB n p = true ↔ ∀ j, j < n → p j = true := by simp [allB, List.all_eq_true]
theorem allB_no {n : Nat} {p : Nat → Bool} (k : Nat) (hk : k < n) (h : p k = false) : allB n p = false := by
  cases hb : allB n p
  · rfl
  · rw [allB_iff.1 hb k hk] at h; cases h
def backAt (l : List Trip) : Nat → Int
  | 0 => 0
  | k + 1 => (l.getD k default).to
def tripOk (cap : Int) (n : Nat) (l : List Trip) (k : Nat) : Bool :=
  decide (backAt l k ≤ (l.getD k default).fr ∧ (l.getD k default).fr < (l.getD k default).to ∧ (l.getD k default).to ≤ n ∧ (0 ≤ (l.getD k default).use ∧ (l.getD k default).use ≤ cap))
def carHead (c : Car) : Bool := decide ((1 ≤ c.cap ∧ c.cap ≤ 1048576) ∧ (0 ≤ c.inn ∧ c.inn ≤ 1048576) ∧ (0 ≤ c.out ∧ c.out ≤ 1048576) ∧ (0 ≤ c.start ∧ c.start ≤ c.cap) ∧ (0 ≤ c.fin ∧ c.fin ≤ c.cap) ∧ c.trips.length ≤ 4)
def carOk (n : Nat) (c : Car) : Bool := carHead c && allB c.trips.length (tripOk c.cap n c.trips)
def slotOk (S : Site) (t : Nat) : Bool := decide ((0 ≤ S.lim.getD t 0 ∧ S.lim.getD t 0 ≤ 1048576) ∧ (0 ≤ S.exp.getD t 0 ∧ S.exp.getD t 0 ≤ 1048576) ∧ (0 ≤ S.buy.getD t 0 ∧ S.buy.getD t 0 ≤ 1048576) ∧ (0 ≤ S.sell.getD t 0 ∧ S.sell.getD t 0 ≤ S.buy.getD t 0))
def siteHead (S : Site) : Bool := decide ((1 ≤ S.lim.length ∧ S.lim.length ≤ 48) ∧ S.exp.length = S.lim.length ∧ S.buy.length = S.lim.length ∧ S.sell.length = S.lim.length)
def slotsOk (S : Site) : Bool := allB S.lim.length (slotOk S)
def carsOk (S : Site) (cs : List Car) : Bool := allB cs.length (fun i => carOk S.lim.length (cs.getD i default))
def stE (S : Site) (cs : List Car) : Int := if 8 < cs.length then 6 else if siteHead S && (slotsOk S && carsOk S cs) then 0 else 2
theorem stE_many {S : Site} {cs : List Car} (h : 8 < cs.length) : stE S cs = 6 := by simp [stE, h]
theorem stE_no {S : Site} {cs : List Car} (h : ¬ 8 < cs.length) (h2 : (siteHead S && (slotsOk S && carsOk S cs)) = false) : stE S cs = 2 := by unfold stE; rw [if_neg h, h2]; rfl
theorem stE_head {S : Site} {cs : List Car} (h : ¬ 8 < cs.length) (h2 : siteHead S = false) : stE S cs = 2 := stE_no h (by simp [h2])
theorem stE_slot {S : Site} {cs : List Car} (h : ¬ 8 < cs.length) (t : Nat) (ht : t < S.lim.length) (h2 : slotOk S t = false) : stE S cs = 2 := stE_no h (by simp [slotsOk, allB_no t ht h2])
theorem stE_car {S : Site} {cs : List Car} (h : ¬ 8 < cs.length) (i : Nat) (hi : i < cs.length) (h2 : carOk S.lim.length (cs.getD i default) = false) : stE S cs = 2 := stE_no h (by
  have : carsOk S cs = false := allB_no i hi h2
  simp [this])
theorem stE_ok {S : Site} {cs : List Car} (h : ¬ 8 < cs.length) (h1 : siteHead S = true) (h2 : ∀ t, t < S.lim.length → slotOk S t = true) (h3 : ∀ i, i < cs.length → carOk S.lim.length (cs.getD i default) = true) : stE S cs = 0 := by
  have a : slotsOk S = true := allB_iff.2 h2
  have b : carsOk S cs = true := allB_iff.2 h3
  unfold stE
  rw [if_neg h, h1, a, b]; rfl
theorem stE_0 {S : Site} {cs : List Car} (h : stE S cs = 0) : cs.length ≤ 8 ∧ siteHead S = true ∧ (∀ t, t < S.lim.length → slotOk S t = true) ∧ (∀ i, i < cs.length → carOk S.lim.length (cs.getD i default) = true) := by
  unfold stE at h
  by_cases h1 : 8 < cs.length
  · rw [if_pos h1] at h; cases h
  · rw [if_neg h1] at h
    cases hb : (siteHead S && (slotsOk S && carsOk S cs))
    · rw [hb] at h; cases h
    · simp only [Bool.and_eq_true] at hb
      exact ⟨by omega, hb.1, allB_iff.1 hb.2.1, allB_iff.1 hb.2.2⟩
theorem carOk_head {n : Nat} {c : Car} (h : carHead c = false) : carOk n c = false := by simp [carOk, h]
theorem carOk_trip {n : Nat} {c : Car} (k : Nat) (hk : k < c.trips.length) (h : tripOk c.cap n c.trips k = false) : carOk n c = false := by simp [carOk, allB_no k hk h]
theorem carOk_ok {n : Nat} {c : Car} (h : carHead c = true) (h2 : ∀ k, k < c.trips.length → tripOk c.cap n c.trips k = true) : carOk n c = true := by
  have : allB c.trips.length (tripOk c.cap n c.trips) = true := allB_iff.2 h2
  simp [carOk, h, this]
def useP (l : List Trip) (k : Int) : Nat → Int
  | 0 => 0
  | j + 1 => if (l.getD j default).fr = k then (l.getD j default).use else useP l k j
def awayP (l : List Trip) (k : Int) : Nat → Bool
  | 0 => false
  | j + 1 => awayP l k j || decide ((l.getD j default).fr ≤ k ∧ k < (l.getD j default).to)
def useC (c : Car) (k : Nat) : Int := useP c.trips k c.trips.length
def awayC (c : Car) (k : Nat) : Bool := awayP c.trips k c.trips.length
def lev (c : Car) (x y : List Int) : Nat → Int
  | 0 => c.start
  | k + 1 => lev c x y k + (x.getD k 0 - y.getD k 0 - useC c k)
def drP (T : Tab) (k : Nat) : Nat → Int
  | 0 => 0
  | i + 1 => drP T k i + ((T.inn.getD i []).getD k 0 - (T.out.getD i []).getD k 0)
def carG (c : Car) (x y : Int) (aw : Bool) : Bool := decide ((0 ≤ x ∧ x ≤ c.inn) ∧ (0 ≤ y ∧ y ≤ c.out) ∧ (aw = true → x + y = 0))
def carAt (cs : List Car) (T : Tab) (k i : Nat) : Bool := carG (cs.getD i default) ((T.inn.getD i []).getD k 0) ((T.out.getD i []).getD k 0) (awayC (cs.getD i default) k)
def slotE (S : Site) (cs : List Car) (T : Tab) (k : Nat) : Int :=
  if allB cs.length (carAt cs T k) then (if drP T k T.inn.length ≤ S.lim.getD k 0 ∧ -(S.exp.getD k 0) ≤ drP T k T.inn.length then 0 else 17) else 3
def slotsE (S : Site) (cs : List Car) (T : Tab) : Nat → Int
  | 0 => 0
  | k + 1 => if slotsE S cs T k = 0 then slotE S cs T k else slotsE S cs T k
def least (c : Car) (y : List Int) (n k : Nat) : Int := if k < n then max (useC c k) (y.getD k 0) else c.fin
def levG (c : Car) (x y : List Int) (n k : Nat) : Bool := decide (least c y n k ≤ lev c x y k ∧ lev c x y k ≤ c.cap)
def levsG (cs : List Car) (T : Tab) (n i : Nat) : Bool := allB (n + 1) (levG (cs.getD i default) (T.inn.getD i []) (T.out.getD i []) n)
def lenG (m n : Nat) (l : List (List Int)) : Bool := decide (l.length = m) && allB l.length (fun i => decide ((l.getD i []).length = n))
def plE (S : Site) (cs : List Car) (T : Tab) : Int :=
  if stE S cs = 0 then (if lenG cs.length S.lim.length T.inn && lenG cs.length S.lim.length T.out then
    (if slotsE S cs T S.lim.length = 0 then (if allB cs.length (levsG cs T S.lim.length) then 0 else 19) else slotsE S cs T S.lim.length) else 20) else stE S cs
end Dp
end Go.Proofs.Ytmebpglkeedaoaa
namespace Go.Proofs.Ytmebpglkeedaoaa
open Go.RowKit Dp
def TripsAt (w : World) (A : Option Addr) (l : List Trip) : Prop :=
  ∀ i, i < l.length → ∃ ad, A = some ad ∧ ad.block < w.heap.size ∧ w.cell? (ad.add (i * 3)) = some (.int .i64 (l.getD i default).fr) ∧ w.cell? ⟨(ad.add (i * 3)).block, (ad.add (i * 3)).off + 1, none⟩ = some (.int .i64 (l.getD i default).to) ∧ w.cell? ⟨(ad.add (i * 3)).block, (ad.add (i * 3)).off + 2, none⟩ = some (.int .i64 (l.getD i default).use)
theorem TripsAt.below {w w1 : World} {A : Option Addr} {l : List Trip} (h : TripsAt w A l) {B : Nat} (hb : Below B w w1) (hB : w.heap.size ≤ B) : TripsAt w1 A l := by
  intro i hi
  obtain ⟨ad, e, hlt, c0, c1, c2⟩ := h i hi
  have hbl : (ad.add (i * 3)).block < B := by rw [block_add]; omega
  exact ⟨ad, e, Nat.lt_of_lt_of_le hlt hb.size, (hb.cell hbl).trans c0, (hb.cell (p := ⟨_, _, none⟩) hbl).trans c1, (hb.cell (p := ⟨_, _, none⟩) hbl).trans c2⟩
def SlAt (w : World) (v : Value) (xs : List Int) : Prop := ∃ A cap, v = .slice A xs.length cap ∧ xs.length ≤ cap ∧ cap ≤ 9223372036854775807 ∧ IntsAt w A xs
def TrAt (w : World) (v : Value) (l : List Trip) : Prop := ∃ A cap, v = .slice A l.length cap ∧ l.length ≤ cap ∧ cap ≤ 9223372036854775807 ∧ TripsAt w A l
theorem SlAt.below {w w1 : World} {v : Value} {l : List Int} (h : SlAt w v l) {B : Nat} (hb : Below B w w1) (hB : w.heap.size ≤ B) : SlAt w1 v l := by
  obtain ⟨A, c, e, h1, h2, h3⟩ := h
  exact ⟨A, c, e, h1, h2, h3.below hb hB⟩
theorem TrAt.below {w w1 : World} {v : Value} {l : List Trip} (h : TrAt w v l) {B : Nat} (hb : Below B w w1) (hB : w.heap.size ≤ B) : TrAt w1 v l := by
  obtain ⟨A, c, e, h1, h2, h3⟩ := h
  exact ⟨A, c, e, h1, h2, h3.below hb hB⟩
def CarsAt (w : World) (A : Option Addr) (l : List Car) : Prop :=
  ∀ i, i < l.length → ∃ ad, A = some ad ∧ ad.block < w.heap.size ∧ w.cell? (ad.add (i * 6)) = some (.int .i64 (l.getD i default).cap) ∧ w.cell? ⟨(ad.add (i * 6)).block, (ad.add (i * 6)).off + 1, none⟩ = some (.int .i64 (l.getD i default).inn) ∧ w.cell? ⟨(ad.add (i * 6)).block, (ad.add (i * 6)).off + 2, none⟩ = some (.int .i64 (l.getD i default).out) ∧ w.cell? ⟨(ad.add (i * 6)).block, (ad.add (i * 6)).off + 3, none⟩ = some (.int .i64 (l.getD i default).start) ∧ w.cell? ⟨(ad.add (i * 6)).block, (ad.add (i * 6)).off + 4, none⟩ = some (.int .i64 (l.getD i default).fin) ∧
    ∃ T cT, w.cell? ⟨(ad.add (i * 6)).block, (ad.add (i * 6)).off + 5, none⟩ = some (.slice T (l.getD i default).trips.length cT) ∧ ((l.getD i default).trips.length ≤ cT ∧ cT ≤ 9223372036854775807) ∧ TripsAt w T (l.getD i default).trips
theorem CarsAt.below {w w1 : World} {A : Option Addr} {l : List Car} (h : CarsAt w A l) {B : Nat} (hb : Below B w w1) (hB : w.heap.size ≤ B) : CarsAt w1 A l := by
  intro i hi
  obtain ⟨ad, e, hlt, c0, c1, c2, c3, c4, T, cT, c5, r, ht⟩ := h i hi
  have hbl : (ad.add (i * 6)).block < B := by rw [block_add]; omega
  exact ⟨ad, e, Nat.lt_of_lt_of_le hlt hb.size, (hb.cell hbl).trans c0, (hb.cell (p := ⟨_, _, none⟩) hbl).trans c1, (hb.cell (p := ⟨_, _, none⟩) hbl).trans c2, (hb.cell (p := ⟨_, _, none⟩) hbl).trans c3, (hb.cell (p := ⟨_, _, none⟩) hbl).trans c4, T, cT, (hb.cell (p := ⟨_, _, none⟩) hbl).trans c5, r, ht.below hb hB⟩
def RowsAt (w : World) (A : Option Addr) (l : List (List Int)) : Prop :=
  ∀ i, i < l.length → ∃ ad, A = some ad ∧ ad.block < w.heap.size ∧ ∃ T cT, w.cell? (ad.add i) = some (.slice T (l.getD i []).length cT) ∧ ((l.getD i []).length ≤ cT ∧ cT ≤ 9223372036854775807) ∧ IntsAt w T (l.getD i [])
theorem RowsAt.below {w w1 : World} {A : Option Addr} {l : List (List Int)} (h : RowsAt w A l) {B : Nat} (hb : Below B w w1) (hB : w.heap.size ≤ B) : RowsAt w1 A l := by
  intro i hi
  obtain ⟨ad, e, hlt, T, cT, c0, r, ht⟩ := h i hi
  exact ⟨ad, e, Nat.lt_of_lt_of_le hlt hb.size, T, cT, (hb.cell (by rw [block_add]; omega)).trans c0, r, ht.below hb hB⟩
def SiteAt (w : World) (A B C D : Option Addr) (S : Site) : Prop := IntsAt w A S.lim ∧ IntsAt w B S.exp ∧ IntsAt w C S.buy ∧ IntsAt w D S.sell
theorem SiteAt.below {w w1 : World} {A B C D : Option Addr} {S : Site} (h : SiteAt w A B C D S) {b : Nat} (hb : Below b w w1) (hB : w.heap.size ≤ b) : SiteAt w1 A B C D S :=
  ⟨h.1.below hb hB, h.2.1.below hb hB, h.2.2.1.below hb hB, h.2.2.2.below hb hB⟩
def TabAt (w : World) (A B : Option Addr) (T : Tab) : Prop := RowsAt w A T.inn ∧ RowsAt w B T.out
theorem TabAt.below {w w1 : World} {A B : Option Addr} {T : Tab} (h : TabAt w A B T) {b : Nat} (hb : Below b w w1) (hB : w.heap.size ≤ b) : TabAt w1 A B T := ⟨h.1.below hb hB, h.2.below hb hB⟩
theorem trips_of {w : World} {v : Value} (h : v = .slice none 0 0 ∨ ∃ a len cap, v = .slice (some a) len cap ∧ len ≤ cap ∧ cap ≤ maxLen ∧
      ∀ i, i < len → ∃ cs, cs.length = 3 ∧ (∀ j u, cs[j]? = some u → w.cell? ((a.add (i * 3)).add j) = some u) ∧ Rd w (.i .i64 (.i .i64 (.i .i64 .nil))) cs) :
    ∃ (A : Option Addr) (l : List Trip) (cap : Nat), v = .slice A l.length cap ∧ l.length ≤ cap ∧ cap ≤ 9223372036854775807 ∧ TripsAt w A l := by
  rcases h with rfl | ⟨a, len, cap, rfl, hl, hm, hi⟩
  · exact ⟨none, [], 0, rfl, Nat.le_refl _, by omega, fun i hi => by simp at hi⟩
  · obtain ⟨bs, hbl, hbs⟩ := choose_list (α := Trip) (n := len) (Q := fun i x => w.cell? ((a.add (i * 3)).add 0) = some (.int .i64 x.fr) ∧ w.cell? ((a.add (i * 3)).add 1) = some (.int .i64 x.to) ∧ w.cell? ((a.add (i * 3)).add 2) = some (.int .i64 x.use)) (fun i hil => by
      obtain ⟨cs, _, hc, n0, _, rfl, _, n1, _, rfl, _, n2, _, rfl, _, rfl⟩ := hi i hil
      exact ⟨⟨n0, n1, n2⟩, hc 0 _ rfl, hc 1 _ rfl, hc 2 _ rfl⟩)
    refine ⟨some a, bs, cap, by rw [hbl], by omega, by unfold maxLen at hm; omega, fun i hi => ?_⟩
    have hg : bs[i]? = some (bs.getD i default) := by rw [List.getD_eq_getElem?_getD, List.getElem?_eq_getElem hi]; rfl
    obtain ⟨h0, h1, h2⟩ := hbs i _ hg
    rw [add_zero'] at h0
    have hb := World.block_lt_of_cell? _ _ h0
    rw [block_add] at hb
    exact ⟨a, rfl, hb, h0, h1, h2⟩
theorem cars_of {w : World} {v : Value} (h : v = .slice none 0 0 ∨ ∃ a len cap, v = .slice (some a) len cap ∧ len ≤ cap ∧ cap ≤ maxLen ∧
      ∀ i, i < len → ∃ cs, cs.length = 6 ∧ (∀ j u, cs[j]? = some u → w.cell? ((a.add (i * 6)).add j) = some u) ∧ Rd w (.i .i64 (.i .i64 (.i .i64 (.i .i64 (.i .i64 (.s 3 (.i .i64 (.i .i64 (.i .i64 .nil))) .nil)))))) cs) :
    ∃ (A : Option Addr) (l : List Car) (cap : Nat), v = .slice A l.length cap ∧ l.length ≤ cap ∧ cap ≤ 9223372036854775807 ∧ CarsAt w A l := by
  rcases h with rfl | ⟨a, len, cap, rfl, hl, hm, hi⟩
  · exact ⟨none, [], 0, rfl, Nat.le_refl _, by omega, fun i hi => by simp at hi⟩
  · obtain ⟨bs, hbl, hbs⟩ := choose_list (α := Car) (n := len) (Q := fun i x => (w.cell? ((a.add (i * 6)).add 0) = some (.int .i64 x.cap) ∧ w.cell? ((a.add (i * 6)).add 1) = some (.int .i64 x.inn) ∧ w.cell? ((a.add (i * 6)).add 2) = some (.int .i64 x.out) ∧ w.cell? ((a.add (i * 6)).add 3) = some (.int .i64 x.start) ∧ w.cell? ((a.add (i * 6)).add 4) = some (.int .i64 x.fin)) ∧
        ∃ T cT, w.cell? ((a.add (i * 6)).add 5) = some (.slice T x.trips.length cT) ∧ (x.trips.length ≤ cT ∧ cT ≤ 9223372036854775807) ∧ TripsAt w T x.trips) (fun i hil => by
      obtain ⟨cs, _, hc, n0, _, rfl, _, n1, _, rfl, _, n2, _, rfl, _, n3, _, rfl, _, n4, _, rfl, _, v5, _, rfl, rfl, hs⟩ := hi i hil
      obtain ⟨T, l, cT, rfl, h1, h2, h3⟩ := trips_of hs
      exact ⟨⟨n0, n1, n2, n3, n4, l⟩, ⟨hc 0 _ rfl, hc 1 _ rfl, hc 2 _ rfl, hc 3 _ rfl, hc 4 _ rfl⟩, T, cT, hc 5 _ rfl, ⟨h1, h2⟩, h3⟩)
    refine ⟨some a, bs, cap, by rw [hbl], by omega, by unfold maxLen at hm; omega, fun i hi => ?_⟩
    have hg : bs[i]? = some (bs.getD i default) := by rw [List.getD_eq_getElem?_getD, List.getElem?_eq_getElem hi]; rfl
    obtain ⟨⟨h0, h1, h2, h3, h4⟩, T, cT, h5, r, ht⟩ := hbs i _ hg
    rw [add_zero'] at h0
    have hb := World.block_lt_of_cell? _ _ h0
    rw [block_add] at hb
    exact ⟨a, rfl, hb, h0, h1, h2, h3, h4, T, cT, h5, r, ht⟩
end Go.Proofs.Ytmebpglkeedaoaa
namespace Go.Proofs.Ytmebpglkeedaoaa
open Go.RowKit Dp
def carV (c : Car) (T : Option Addr) (n cT : Nat) : Array Value := #[.int .i64 c.cap, .int .i64 c.inn, .int .i64 c.out, .int .i64 c.start, .int .i64 c.fin, .slice T n cT]
set_option maxHeartbeats 1000000 in
set_option maxRecDepth 100000 in
theorem trip_c (v0 v1 v2 v3 v4 : Value) (k : Int) (T : Option Addr) (l : List Trip) (n cT : Nat) (w : World) (hn : n = l.length) (hc : n ≤ cT ∧ cT ≤ 9223372036854775807) (hT : TripsAt w T l) :
    Calls Try.prog 87 #[.agg #[v0, v1, v2, v3, v4, .slice T n cT], .int .i64 k] w fun e w' => e = .returned (.tuple #[.int .i64 (useP l k n), .bool (awayP l k n)]) ∧ Below w.heap.size w w' := by
  have HN := Lib.hid hn
  have HT := Lib.hid hT
  clear hn hT
  have X := Lib.hid (Blk.new' w #[v0, v1, v2, v3, v4, .slice T n cT] 63)
  have HB := Lib.hid ((Below.refl w.heap.size w).alloc (Nat.le_refl _) (.cells #[v0, v1, v2, v3, v4, .slice T n cT] 63))
  go_enter Try.func87, Try.ntmps87
  go_upto_region 1 with fail
  generalize w.alloc (.cells #[v0, v1, v2, v3, v4, .slice T n cT] 63) = w1 at X HB ⊢
  have c5 := X.out.cell 5 rfl
  go_wp2_with fail
  clear c5
  have HT1 := Lib.hid (HT.out.below HB.out (Nat.le_refl _))
  go_loopw [4, 5, 7, 11] (fun u a _ i wr => ∃ j : Nat, j ≤ n ∧ i = .int .i64 j ∧ u = .int .i64 (useP l k j) ∧ a = .bool (awayP l k j) ∧ Hid (Below w.heap.size w wr)) (fun _ _ _ i _ => n - (intOf i).toNat)
  case atStart => exact ⟨0, Nat.zero_le _, rfl, rfl, rfl, HB⟩
  case round =>
    obtain ⟨j, hj, rfl, rfl, rfl, HW⟩ := hrel
    by_cases hlt : j < n
    · have hji : (j : Int) < (n : Int) := by omega
      obtain ⟨ad, rfl, abl, t0, t1, t2⟩ := (HT.out.below HW.out (Nat.le_refl _)) j (by rw [← HN.out]; exact hlt)
      have HU := Lib.hid (show useP l k (j + 1) = if (l.getD j default).fr = k then (l.getD j default).use else useP l k j from rfl)
      have HA := Lib.hid (show awayP l k (j + 1) = (awayP l k j || decide ((l.getD j default).fr ≤ k ∧ k < (l.getD j default).to)) from rfl)
      generalize l.getD j default = t at *
      obtain ⟨fr, «to», us⟩ := t
      simp only at t0 t1 t2 HU HA
      go_upto_region 4 with fail
      have HX := Lib.hid (HW.out.alloc HW.out.size (.cells #[.int .i64 fr, .int .i64 «to», .int .i64 us] 65))
      have BX := Lib.hid (Blk.new' wr #[.int .i64 fr, .int .i64 «to», .int .i64 us] 65)
      generalize wr.alloc (.cells #[.int .i64 fr, .int .i64 «to», .int .i64 us] 65) = wx at HX BX ⊢
      clear t0 t1 t2 abl
      have e0 := BX.out.cell 0 rfl
      have e1 := BX.out.cell 1 rfl
      have e2 := BX.out.cell 2 rfl
      generalize useP l k j = U at *
      cases ha : awayP l k j
      · rw [ha] at HA
        by_cases h1 : fr = k
        · subst h1
          have h2 : fr ≤ fr := Int.le_refl _
          by_cases h3 : fr < «to»
          · go_wp2_with fail
            exact ⟨⟨j + 1, by omega, by go_num, by rw [HU.out, if_pos rfl], by rw [HA.out, (decide_eq_true (And.intro h2 h3))]; rfl, HX⟩, by simp [intOf]; omega⟩
          · go_wp2_with fail
            exact ⟨⟨j + 1, by omega, by go_num, by rw [HU.out, if_pos rfl], by rw [HA.out, (decide_eq_false (fun h => h3 h.2))]; rfl, HX⟩, by simp [intOf]; omega⟩
        · have h1b : (fr == k) = false := by simp [h1]
          by_cases h2 : fr ≤ k
          · by_cases h3 : k < «to»
            · go_wp2_with fail
              exact ⟨⟨j + 1, by omega, by go_num, by rw [HU.out, if_neg h1], by rw [HA.out, (decide_eq_true (And.intro h2 h3))]; rfl, HX⟩, by simp [intOf]; omega⟩
            · go_wp2_with fail
              exact ⟨⟨j + 1, by omega, by go_num, by rw [HU.out, if_neg h1], by rw [HA.out, (decide_eq_false (fun h => h3 h.2))]; rfl, HX⟩, by simp [intOf]; omega⟩
          · go_wp2_with fail
            exact ⟨⟨j + 1, by omega, by go_num, by rw [HU.out, if_neg h1], by rw [HA.out, (decide_eq_false (fun h => h2 h.1))]; rfl, HX⟩, by simp [intOf]; omega⟩
      · rw [ha] at HA
        by_cases h1 : fr = k
        · subst h1
          go_wp2_with fail
          exact ⟨⟨j + 1, by omega, by go_num, by rw [HU.out, if_pos rfl], by rw [HA.out]; rfl, HX⟩, by simp [intOf]; omega⟩
        · have h1b : (fr == k) = false := by simp [h1]
          go_wp2_with fail
          exact ⟨⟨j + 1, by omega, by go_num, by rw [HU.out, if_neg h1], by rw [HA.out]; rfl, HX⟩, by simp [intOf]; omega⟩
    · obtain rfl : j = n := by omega
      go_wp2_with fail
      exact bodyPost_ret (v := .tuple #[.int .i64 (useP l k j), .bool (awayP l k j)]) (by simp [results, Try.results87, go_sem]) rfl ⟨rfl, HW.out⟩
end Go.Proofs.Ytmebpglkeedaoaa
namespace Go.Proofs.Ytmebpglkeedaoaa
namespace Dp
theorem tripOk_iff {cap : Int} {n : Nat} {l : List Trip} {k : Nat} : tripOk cap n l k = true ↔ backAt l k ≤ (l.getD k default).fr ∧ (l.getD k default).fr < (l.getD k default).to ∧ (l.getD k default).to ≤ n ∧ (0 ≤ (l.getD k default).use ∧ (l.getD k default).use ≤ cap) := by
  unfold tripOk; rw [decide_eq_true_iff]
theorem carOk_iff {n : Nat} {c : Car} : carOk n c = true ↔ ((1 ≤ c.cap ∧ c.cap ≤ 1048576) ∧ (0 ≤ c.inn ∧ c.inn ≤ 1048576) ∧ (0 ≤ c.out ∧ c.out ≤ 1048576) ∧ (0 ≤ c.start ∧ c.start ≤ c.cap) ∧ (0 ≤ c.fin ∧ c.fin ≤ c.cap) ∧ c.trips.length ≤ 4) ∧ ∀ k, k < c.trips.length → tripOk c.cap n c.trips k = true := by
  unfold carOk carHead
  rw [Bool.and_eq_true, decide_eq_true_iff, allB_iff]
theorem slotOk_iff {S : Site} {t : Nat} : slotOk S t = true ↔ (0 ≤ S.lim.getD t 0 ∧ S.lim.getD t 0 ≤ 1048576) ∧ (0 ≤ S.exp.getD t 0 ∧ S.exp.getD t 0 ≤ 1048576) ∧ (0 ≤ S.buy.getD t 0 ∧ S.buy.getD t 0 ≤ 1048576) ∧ (0 ≤ S.sell.getD t 0 ∧ S.sell.getD t 0 ≤ S.buy.getD t 0) := by
  unfold slotOk; rw [decide_eq_true_iff]
theorem siteHead_iff {S : Site} : siteHead S = true ↔ (1 ≤ S.lim.length ∧ S.lim.length ≤ 48) ∧ S.exp.length = S.lim.length ∧ S.buy.length = S.lim.length ∧ S.sell.length = S.lim.length := by
  unfold siteHead; rw [decide_eq_true_iff]
theorem useP_bd {cap : Int} {n : Nat} {l : List Trip} (h : ∀ k, k < l.length → tripOk cap n l k = true) (hc : 0 ≤ cap) (k : Int) : ∀ m, m ≤ l.length → 0 ≤ useP l k m ∧ useP l k m ≤ cap
  | 0, _ => ⟨Int.le_refl _, hc⟩
  | m + 1, hl => by
    unfold useP
    have h2 := tripOk_iff.1 (h m (by omega))
    split
    · exact h2.2.2.2
    · exact useP_bd h hc k m (by omega)
theorem useC_bd {n : Nat} {c : Car} (h : carOk n c = true) (k : Nat) : 0 ≤ useC c k ∧ useC c k ≤ 1048576 := by
  have h1 := carOk_iff.1 h
  have := useP_bd h1.2 (by omega) k c.trips.length (Nat.le_refl _)
  unfold useC
  omega
theorem slotsE_all {S : Site} {cs : List Car} {T : Tab} : ∀ {n : Nat}, slotsE S cs T n = 0 → ∀ k, k < n → slotE S cs T k = 0
  | 0, _, k, hk => by omega
  | n + 1, h, k, hk => by
    unfold slotsE at h
    by_cases h0 : slotsE S cs T n = 0
    · rw [if_pos h0] at h
      by_cases e : k = n
      · rw [e]; exact h
      · exact slotsE_all h0 k (by omega)
    · rw [if_neg h0] at h
      exact absurd h h0
theorem slotE_0 {S : Site} {cs : List Car} {T : Tab} {k : Nat} (h : slotE S cs T k = 0) : (∀ i, i < cs.length → carAt cs T k i = true) ∧ drP T k T.inn.length ≤ S.lim.getD k 0 ∧ -(S.exp.getD k 0) ≤ drP T k T.inn.length := by
  unfold slotE at h
  by_cases h1 : allB cs.length (carAt cs T k) = true
  · rw [if_pos h1] at h
    by_cases h2 : drP T k T.inn.length ≤ S.lim.getD k 0 ∧ -(S.exp.getD k 0) ≤ drP T k T.inn.length
    · exact ⟨allB_iff.1 h1, h2⟩
    · rw [if_neg h2] at h; cases h
  · rw [if_neg h1] at h; cases h
theorem lenG_iff {m n : Nat} {l : List (List Int)} : lenG m n l = true ↔ l.length = m ∧ ∀ i, i < m → (l.getD i []).length = n := by
  unfold lenG
  rw [Bool.and_eq_true, decide_eq_true_iff, allB_iff]
  constructor
  · rintro ⟨rfl, h⟩; exact ⟨rfl, fun i hi => by simpa using h i hi⟩
  · rintro ⟨rfl, h⟩; exact ⟨rfl, fun i hi => by simpa using h i hi⟩
structure Keeps (S : Site) (cs : List Car) (T : Tab) : Prop where
  ok : stE S cs = 0
  li : T.inn.length = cs.length
  lo : T.out.length = cs.length
  ri : ∀ i, i < cs.length → (T.inn.getD i []).length = S.lim.length
  ro : ∀ i, i < cs.length → (T.out.getD i []).length = S.lim.length
  dr : ∀ k, k < S.lim.length → drP T k T.inn.length ≤ S.lim.getD k 0 ∧ -(S.exp.getD k 0) ≤ drP T k T.inn.length
  car : ∀ k, k < S.lim.length → ∀ i, i < cs.length → carAt cs T k i = true
  lv : ∀ i, i < cs.length → ∀ k, k ≤ S.lim.length → levG (cs.getD i default) (T.inn.getD i []) (T.out.getD i []) S.lim.length k = true
theorem plE_0 {S : Site} {cs : List Car} {T : Tab} (h : plE S cs T = 0) : Keeps S cs T := by
  unfold plE at h
  by_cases h0 : stE S cs = 0
  · rw [if_pos h0] at h
    cases h1 : (lenG cs.length S.lim.length T.inn && lenG cs.length S.lim.length T.out)
    · rw [h1] at h; cases h
    · rw [h1, if_pos rfl] at h
      by_cases h2 : slotsE S cs T S.lim.length = 0
      · rw [if_pos h2] at h
        cases h3 : allB cs.length (levsG cs T S.lim.length)
        · rw [h3] at h; cases h
        · rw [Bool.and_eq_true] at h1
          have a := lenG_iff.1 h1.1
          have b := lenG_iff.1 h1.2
          have c := fun k hk => slotE_0 (slotsE_all h2 k hk)
          refine ⟨h0, a.1, b.1, a.2, b.2, fun k hk => (c k hk).2, fun k hk => (c k hk).1, fun i hi k hk => ?_⟩
          exact allB_iff.1 (allB_iff.1 h3 i hi) k (by omega)
      · rw [if_neg h2] at h; exact absurd h h2
  · rw [if_neg h0] at h; exact absurd h h0
theorem carG_iff {c : Car} {x y : Int} {aw : Bool} : carG c x y aw = true ↔ (0 ≤ x ∧ x ≤ c.inn) ∧ (0 ≤ y ∧ y ≤ c.out) ∧ (aw = true → x + y = 0) := by unfold carG; rw [decide_eq_true_iff]
theorem levG_iff {c : Car} {x y : List Int} {n k : Nat} : levG c x y n k = true ↔ least c y n k ≤ lev c x y k ∧ lev c x y k ≤ c.cap := by unfold levG; rw [decide_eq_true_iff]
section
variable {S : Site} {cs : List Car} {T : Tab}
theorem Keeps.carok (h : Keeps S cs T) {i : Nat} (hi : i < cs.length) : carOk S.lim.length (cs.getD i default) = true := (stE_0 h.ok).2.2.2 i hi
theorem Keeps.level (h : Keeps S cs T) {i : Nat} (hi : i < cs.length) {k : Nat} (hk : k ≤ S.lim.length) : 0 ≤ lev (cs.getD i default) (T.inn.getD i []) (T.out.getD i []) k ∧ lev (cs.getD i default) (T.inn.getD i []) (T.out.getD i []) k ≤ (cs.getD i default).cap := by
  have h1 := levG_iff.1 (h.lv i hi k hk)
  have h2 := carOk_iff.1 (h.carok hi)
  refine ⟨?_, h1.2⟩
  have h3 := h1.1
  unfold least at h3
  by_cases hk' : k < S.lim.length
  · rw [if_pos hk'] at h3
    have h4 := carG_iff.1 (h.car k hk' i hi)
    omega
  · rw [if_neg hk'] at h3
    omega
theorem Keeps.last (h : Keeps S cs T) {i : Nat} (hi : i < cs.length) : (cs.getD i default).fin ≤ lev (cs.getD i default) (T.inn.getD i []) (T.out.getD i []) S.lim.length := by
  have h1 := (levG_iff.1 (h.lv i hi S.lim.length (Nat.le_refl _))).1
  unfold least at h1
  rw [if_neg (by omega)] at h1
  exact h1
end
end Dp
end Go.Proofs.Ytmebpglkeedaoaa
namespace Go.Proofs.Ytmebpglkeedaoaa
namespace Dp
def nodeF (n i k : Nat) : Nat := 1 + n + 2 * (i * (n + 1) + k)
theorem nodeF_k (n i k : Nat) : nodeF n i k = nodeF n i 0 + 2 * k := by unfold nodeF; omega
theorem nodeF_next (n i : Nat) : nodeF n (i + 1) 0 = nodeF n i n + 2 := by
  unfold nodeF
  rw [Nat.add_mul]
  omega
def slA (c : Car) (a k : Nat) : List Arc := ⟨a, a + 1, c.cap, 0⟩ :: ⟨a + 1, a + 2, c.cap, 0⟩ :: (if awayC c k = true then [] else [⟨1 + k, a + 2, c.inn, 0⟩, ⟨a + 1, 1 + k, c.out, 0⟩])
def carA (c : Car) (a : Nat) : Nat → List Arc
  | 0 => []
  | k + 1 => carA c a k ++ slA c (a + 2 * k) k
def finA (c : Car) (a : Nat) : List Arc := [⟨a, a + 1, c.cap, 0⟩, ⟨a + 1, 0, c.cap - c.fin, 0⟩]
def limA (S : Site) : Nat → List Arc
  | 0 => []
  | t + 1 => limA S t ++ [⟨0, 1 + t, S.lim.getD t 0, S.buy.getD t 0⟩]
def expA (S : Site) : Nat → List Arc
  | 0 => []
  | t + 1 => expA S t ++ [⟨1 + t, 0, S.exp.getD t 0, -(S.sell.getD t 0)⟩]
def carsA (S : Site) (cs : List Car) : Nat → List Arc
  | 0 => limA S S.lim.length ++ expA S S.lim.length
  | i + 1 => carsA S cs i ++ (carA (cs.getD i default) (nodeF S.lim.length i 0) S.lim.length ++ finA (cs.getD i default) (nodeF S.lim.length i S.lim.length))
theorem limA_len (S : Site) : ∀ t, (limA S t).length = t
  | 0 => rfl
  | t + 1 => by simp [limA, limA_len S t]
theorem expA_len (S : Site) : ∀ t, (expA S t).length = t
  | 0 => rfl
  | t + 1 => by simp [expA, expA_len S t]
theorem slA_len (c : Car) (a k : Nat) : (slA c a k).length ≤ 4 ∧ 2 ≤ (slA c a k).length := by unfold slA; split <;> simp
theorem carA_len (c : Car) (a : Nat) : ∀ k, (carA c a k).length ≤ 4 * k
  | 0 => Nat.le_refl _
  | k + 1 => by have := carA_len c a k; have := slA_len c (a + 2 * k) k; simp only [carA, List.length_append]; omega
theorem carsA_len (S : Site) (cs : List Car) : ∀ i, (carsA S cs i).length ≤ 2 * S.lim.length + i * (4 * S.lim.length + 2)
  | 0 => by simp [carsA, limA_len, expA_len]; omega
  | i + 1 => by
    have := carsA_len S cs i
    have h2 := carA_len (cs.getD i default) (nodeF S.lim.length i 0) S.lim.length
    simp only [carsA, List.length_append, finA, List.length_cons, List.length_nil, Nat.add_mul]
    omega
theorem carsA_bd {S : Site} {cs : List Car} (h : stE S cs = 0) (i : Nat) (hi : i ≤ cs.length) : (carsA S cs i).length ≤ 1648 := by
  have h0 := stE_0 h
  have hn := (siteHead_iff.1 h0.2.1).1
  have h1 := carsA_len S cs i
  have h2 : i * (4 * S.lim.length + 2) ≤ 8 * 194 := Nat.mul_le_mul (by omega) (by omega)
  omega
def arcsAt (S : Site) (cs : List Car) (i k : Nat) : List Arc := carsA S cs i ++ carA (cs.getD i default) (nodeF S.lim.length i 0) k
theorem carA_mono (c : Car) (a k : Nat) : ∀ d, (carA c a k).length ≤ (carA c a (k + d)).length
  | 0 => Nat.le_refl _
  | d + 1 => by
    have := carA_mono c a k d
    show _ ≤ (carA c a (k + d + 1)).length
    simp only [carA, List.length_append]; omega
theorem arcsAt_bd {S : Site} {cs : List Car} (h : stE S cs = 0) {i k : Nat} (hi : i < cs.length) (hk : k ≤ S.lim.length) : (arcsAt S cs i k).length + 2 ≤ 1648 := by
  have h1 := carsA_bd h (i + 1) hi
  have h2 := carA_mono (cs.getD i default) (nodeF S.lim.length i 0) k (S.lim.length - k)
  rw [show k + (S.lim.length - k) = S.lim.length by omega] at h2
  simp only [carsA, arcsAt, List.length_append, finA, List.length_cons, List.length_nil] at h1 ⊢
  omega
theorem arcsAt_zero (S : Site) (cs : List Car) (i : Nat) : arcsAt S cs i 0 = carsA S cs i := by simp [arcsAt, carA]
theorem arcsAt_succ (S : Site) (cs : List Car) (i k : Nat) : arcsAt S cs i (k + 1) = arcsAt S cs i k ++ slA (cs.getD i default) (nodeF S.lim.length i k) k := by
  rw [nodeF_k]
  simp [arcsAt, carA]
theorem arcsAt_last (S : Site) (cs : List Car) (i : Nat) : carsA S cs (i + 1) = arcsAt S cs i S.lim.length ++ finA (cs.getD i default) (nodeF S.lim.length i S.lim.length) := by simp [arcsAt, carsA]
def inX (S : Site) (cs : List Car) (i k : Nat) : Int := if awayC (cs.getD i default) k = true then -1 else ((arcsAt S cs i k).length : Int) + 2
def outX (S : Site) (cs : List Car) (i k : Nat) : Int := if awayC (cs.getD i default) k = true then -1 else ((arcsAt S cs i k).length : Int) + 3
def rowK (f : Nat → Int) (n k : Nat) : List Int := (List.range n).map fun j => if j < k then f j else 0
theorem rowK_len (f : Nat → Int) (n k : Nat) : (rowK f n k).length = n := by simp [rowK]
theorem rowK_zero (f : Nat → Int) (n : Nat) : rowK f n 0 = List.replicate n 0 := by
  apply List.ext_getElem
  · simp [rowK]
  · intro i h1 h2; simp [rowK]
theorem rowK_set (f : Nat → Int) (n k : Nat) (hk : k < n) : (rowK f n k).set k (f k) = rowK f n (k + 1) := by
  apply List.ext_getElem
  · simp [rowK]
  · intro i h1 h2
    simp only [rowK, List.getElem_set, List.getElem_map, List.getElem_range]
    by_cases e : k = i
    · subst e; rw [if_pos rfl, if_pos (by omega)]
    · rw [if_neg e]
      by_cases h : i < k
      · rw [if_pos h, if_pos (by omega)]
      · rw [if_neg h, if_neg (by omega)]
theorem rowK_get {f : Nat → Int} {n k j : Nat} (hj : j < n) : (rowK f n k).getD j 0 = if j < k then f j else 0 := by
  simp [rowK, List.getD_eq_getElem?_getD, hj]
theorem rowK_full {f : Nat → Int} {n j : Nat} (hj : j < n) : (rowK f n n).getD j 0 = f j := by rw [rowK_get hj, if_pos hj]
theorem rowK_none (f : Nat → Int) (n k : Nat) (h : f k = 0) (hk : k < n) : rowK f n k = rowK f n (k + 1) := by
  apply List.ext_getElem
  · simp [rowK]
  · intro i h1 h2
    simp only [rowK, List.getElem_map, List.getElem_range]
    by_cases e : i = k
    · subst e; rw [if_neg (by omega), if_pos (by omega), h]
    · by_cases h : i < k
      · rw [if_pos h, if_pos (by omega)]
      · rw [if_neg h, if_neg (by omega)]
def inR (S : Site) (cs : List Car) (i : Nat) : List Int := rowK (inX S cs i) S.lim.length S.lim.length
def outR (S : Site) (cs : List Car) (i : Nat) : List Int := rowK (outX S cs i) S.lim.length S.lim.length
def slS (c : Car) (k : Nat) : List Int := [if k = 0 then c.start else 0, -(useC c k)]
def carS (c : Car) : Nat → List Int
  | 0 => []
  | k + 1 => carS c k ++ slS c k
def carsS (S : Site) (cs : List Car) : Nat → List Int
  | 0 => 0 :: List.replicate S.lim.length 0
  | i + 1 => carsS S cs i ++ (carS (cs.getD i default) S.lim.length ++ [0, -(cs.getD i default).fin])
theorem carS_len (c : Car) : ∀ k, (carS c k).length = 2 * k
  | 0 => rfl
  | k + 1 => by simp [carS, slS, carS_len c k]; omega
theorem carsS_len (S : Site) (cs : List Car) : ∀ i, (carsS S cs i).length = nodeF S.lim.length i 0
  | 0 => by simp [carsS, nodeF]; omega
  | i + 1 => by
    rw [nodeF_next, nodeF_k]
    simp only [carsS, List.length_append, carS_len, carsS_len S cs i, List.length_cons, List.length_nil]
    omega
theorem set_at {P Z : List Int} {a x : Int} : (P ++ a :: Z).set P.length x = P ++ x :: Z := by
  rw [List.set_append_right _ _ (Nat.le_refl _), Nat.sub_self]; rfl
theorem getD_at {P Z : List Int} {a : Int} : (P ++ a :: Z).getD P.length 0 = a := by
  rw [List.getD_eq_getElem?_getD, List.getElem?_append_right (Nat.le_refl _), Nat.sub_self]; rfl
theorem set_at1 {P Z : List Int} {a b x : Int} : (P ++ a :: b :: Z).set (P.length + 1) x = P ++ a :: x :: Z := by
  simp
theorem getD_at1 {P Z : List Int} {a b : Int} : (P ++ a :: b :: Z).getD (P.length + 1) 0 = b := by
  simp
def tlS (c : Car) (k r : Nat) : List Int := if k = 0 then c.start :: List.replicate (r - 1) 0 else List.replicate r 0
theorem tlS_form (c : Car) (k r : Nat) : tlS c k (r + 2) = (if k = 0 then c.start else 0) :: 0 :: List.replicate r 0 := by
  unfold tlS; split <;> rfl
theorem tlS_len (c : Car) (k r : Nat) (hr : 0 < r) : (tlS c k r).length = r := by
  unfold tlS; split <;> simp; omega
def supK (S : Site) (cs : List Car) (M i k : Nat) : List Int := (carsS S cs i ++ carS (cs.getD i default) k) ++ tlS (cs.getD i default) k (M - nodeF S.lim.length i k)
def supC (S : Site) (cs : List Car) (M i : Nat) : List Int := carsS S cs i ++ List.replicate (M - nodeF S.lim.length i 0) 0
theorem pre_len (S : Site) (cs : List Car) (i k : Nat) : (carsS S cs i ++ carS (cs.getD i default) k).length = nodeF S.lim.length i k := by
  rw [List.length_append, carsS_len, carS_len, ← nodeF_k]
theorem supK_len (S : Site) (cs : List Car) {M i k : Nat} (h : nodeF S.lim.length i k < M) : (supK S cs M i k).length = M := by
  unfold supK
  rw [List.length_append, pre_len, tlS_len _ _ _ (by omega)]; omega
theorem supC_len (S : Site) (cs : List Car) {M i : Nat} (h : nodeF S.lim.length i 0 ≤ M) : (supC S cs M i).length = M := by
  unfold supC
  rw [List.length_append, carsS_len, List.length_replicate]; omega
theorem supC_get (S : Site) (cs : List Car) {M i : Nat} (h : nodeF S.lim.length i 0 < M) : (supC S cs M i).getD (nodeF S.lim.length i 0) 0 = 0 := by
  obtain ⟨r, hr⟩ : ∃ r, M - nodeF S.lim.length i 0 = r + 1 := ⟨M - nodeF S.lim.length i 0 - 1, by omega⟩
  unfold supC
  rw [hr, List.replicate_succ]
  have := getD_at (P := carsS S cs i) (Z := List.replicate r 0) (a := 0)
  rw [carsS_len] at this
  exact this
theorem supC_start (S : Site) (cs : List Car) {M i : Nat} (h : nodeF S.lim.length i 0 < M) : (supC S cs M i).set (nodeF S.lim.length i 0) (cs.getD i default).start = supK S cs M i 0 := by
  obtain ⟨r, hr⟩ : ∃ r, M - nodeF S.lim.length i 0 = r + 1 := ⟨M - nodeF S.lim.length i 0 - 1, by omega⟩
  unfold supC supK
  rw [hr, List.replicate_succ]
  have := set_at (P := carsS S cs i) (Z := List.replicate r 0) (a := 0) (x := (cs.getD i default).start)
  rw [carsS_len] at this
  rw [this]
  simp [carS, tlS]
theorem supK_get (S : Site) (cs : List Car) {M i k : Nat} (h : nodeF S.lim.length i k + 1 < M) : (supK S cs M i k).getD (nodeF S.lim.length i k + 1) 0 = 0 := by
  obtain ⟨r, hr⟩ : ∃ r, M - nodeF S.lim.length i k = r + 2 := ⟨M - nodeF S.lim.length i k - 2, by omega⟩
  unfold supK
  rw [hr, tlS_form]
  have := getD_at1 (P := carsS S cs i ++ carS (cs.getD i default) k) (Z := List.replicate r 0) (a := if k = 0 then (cs.getD i default).start else 0) (b := 0)
  rw [pre_len] at this
  exact this
theorem supK_set (S : Site) (cs : List Car) {M i k : Nat} (h : nodeF S.lim.length i k + 1 < M) : (supK S cs M i k).set (nodeF S.lim.length i k + 1) (-(useC (cs.getD i default) k)) = supK S cs M i (k + 1) := by
  obtain ⟨r, hr⟩ : ∃ r, M - nodeF S.lim.length i k = r + 2 := ⟨M - nodeF S.lim.length i k - 2, by omega⟩
  have hr2 : M - nodeF S.lim.length i (k + 1) = r := by rw [nodeF_k] at hr ⊢; omega
  unfold supK
  rw [hr, hr2, tlS_form]
  have := set_at1 (P := carsS S cs i ++ carS (cs.getD i default) k) (Z := List.replicate r 0) (a := if k = 0 then (cs.getD i default).start else 0) (b := 0) (x := -(useC (cs.getD i default) k))
  rw [pre_len] at this
  rw [this]
  simp [carS, slS, tlS]
theorem supK_last (S : Site) (cs : List Car) {M i : Nat} (hn : 0 < S.lim.length) (h : nodeF S.lim.length i S.lim.length + 1 < M) : (supK S cs M i S.lim.length).set (nodeF S.lim.length i S.lim.length + 1) (-(cs.getD i default).fin) = supC S cs M (i + 1) := by
  obtain ⟨r, hr⟩ : ∃ r, M - nodeF S.lim.length i S.lim.length = r + 2 := ⟨M - nodeF S.lim.length i S.lim.length - 2, by omega⟩
  have hr2 : M - nodeF S.lim.length (i + 1) 0 = r := by rw [nodeF_next]; omega
  unfold supK supC
  rw [hr, hr2, tlS_form]
  have := set_at1 (P := carsS S cs i ++ carS (cs.getD i default) S.lim.length) (Z := List.replicate r 0) (a := if S.lim.length = 0 then (cs.getD i default).start else 0) (b := 0) (x := -(cs.getD i default).fin)
  rw [pre_len] at this
  rw [this, if_neg (by omega)]
  simp [carsS]
def supN (S : Site) (cs : List Car) : List Int := (carsS S cs cs.length).set 0 (-(sum (carsS S cs cs.length)))
def netN (S : Site) (cs : List Car) : Net := ⟨supN S cs, carsA S cs cs.length⟩
def nodesN (S : Site) (cs : List Car) : Nat := nodeF S.lim.length cs.length 0
theorem supN_len (S : Site) (cs : List Car) : (supN S cs).length = nodesN S cs := by simp [supN, carsS_len, nodesN]
theorem supC_all (S : Site) (cs : List Car) : supC S cs (nodesN S cs) cs.length = carsS S cs cs.length := by simp [supC, nodesN]
theorem supC_none (S : Site) (cs : List Car) (hm : S.lim.length + 1 ≤ nodesN S cs) : supC S cs (nodesN S cs) 0 = List.replicate (nodesN S cs) 0 := by
  unfold supC
  show 0 :: List.replicate S.lim.length 0 ++ _ = _
  rw [← List.replicate_succ, ← List.replicate_append_replicate.symm]
  congr 1
  simp [nodeF]
  omega
theorem nodes_bd {S : Site} {cs : List Car} (h : stE S cs = 0) : nodesN S cs ≤ 833 ∧ S.lim.length + 1 ≤ nodesN S cs := by
  have h0 := stE_0 h
  have hn := (siteHead_iff.1 h0.2.1).1
  unfold nodesN nodeF
  have h2 : cs.length * (S.lim.length + 1) ≤ 8 * 49 := Nat.mul_le_mul (by omega) (by omega)
  omega
theorem node_lt {S : Site} {cs : List Car} {i k : Nat} (hi : i < cs.length) (hk : k ≤ S.lim.length) : nodeF S.lim.length i k + 1 < nodesN S cs := by
  unfold nodesN nodeF
  have h2 : (i + 1) * (S.lim.length + 1) ≤ cs.length * (S.lim.length + 1) := Nat.mul_le_mul hi (Nat.le_refl _)
  rw [Nat.add_mul] at h2
  omega
end Dp
end Go.Proofs.Ytmebpglkeedaoaa
namespace Go.Proofs.Ytmebpglkeedaoaa
namespace Dp
theorem carok_of {S : Site} {cs : List Car} (h : stE S cs = 0) {i : Nat} (hi : i < cs.length) : carOk S.lim.length (cs.getD i default) = true := (stE_0 h).2.2.2 i hi
theorem carS_bd {n : Nat} {c : Car} (h : carOk n c = true) : ∀ k x, x ∈ carS c k → -1048576 ≤ x ∧ x ≤ 1048576
  | 0, x, hx => by simp [carS] at hx
  | k + 1, x, hx => by
    simp only [carS, slS, List.mem_append, List.mem_cons, List.not_mem_nil, or_false] at hx
    have h1 := (carOk_iff.1 h).1
    have h2 := useC_bd h k
    rcases hx with hx | hx | hx
    · exact carS_bd h k x hx
    · subst hx; split <;> omega
    · subst hx; omega
theorem carsS_bd {S : Site} {cs : List Car} (h : stE S cs = 0) : ∀ i, i ≤ cs.length → ∀ x, x ∈ carsS S cs i → -1048576 ≤ x ∧ x ≤ 1048576
  | 0, _, x, hx => by
    simp only [carsS, List.mem_cons, List.mem_replicate] at hx
    rcases hx with hx | hx <;> omega
  | i + 1, hi, x, hx => by
    have hc := carok_of h (show i < cs.length by omega)
    have h1 := (carOk_iff.1 hc).1
    simp only [carsS, List.mem_append, List.mem_cons, List.not_mem_nil, or_false] at hx
    rcases hx with hx | hx | hx | hx
    · exact carsS_bd h i (by omega) x hx
    · exact carS_bd hc _ x hx
    · subst hx; omega
    · subst hx; omega
def sumT (l : List Int) (j : Nat) : Int := sum ((l.drop 1).take j)
theorem sumT_zero (l : List Int) : sumT l 0 = 0 := rfl
theorem sumT_succ (l : List Int) (j : Nat) (h : j + 1 < l.length) : sumT l (j + 1) = sumT l j + l.getD (j + 1) 0 := by
  unfold sumT
  rw [sum_take _ _ (by simp; omega)]
  congr 1
  simp only [List.getD_eq_getElem?_getD, List.getElem?_drop]
  rw [Nat.add_comm 1 j]
theorem sumT_all (l : List Int) (h0 : l.getD 0 0 = 0) (hl : 0 < l.length) : sumT l (l.length - 1) = sum l := by
  cases l with
  | nil => simp at hl
  | cons a t =>
    have ha : a = 0 := h0
    subst ha
    unfold sumT
    simp [sum]
theorem sumT_bd {l : List Int} (h : ∀ x, x ∈ l → -1048576 ≤ x ∧ x ≤ 1048576) (j : Nat) (hj : j ≤ 1024) : -1073741824 ≤ sumT l j ∧ sumT l j ≤ 1073741824 := by
  have h2 := sum_bd (B := 1048576) (by omega) ((l.drop 1).take j) (fun x hx => h x (List.mem_of_mem_drop (List.mem_of_mem_take hx)))
  have h3 : ((l.drop 1).take j).length ≤ 1024 := by rw [List.length_take]; omega
  unfold sumT
  omega
theorem carsS_head (S : Site) (cs : List Car) : ∀ i, (carsS S cs i).getD 0 0 = 0
  | 0 => rfl
  | i + 1 => by
    have h := carsS_head S cs i
    have hl : 0 < (carsS S cs i).length := by rw [carsS_len]; unfold nodeF; omega
    simp only [carsS, List.getD_eq_getElem?_getD] at h ⊢
    rw [List.getElem?_append_left hl]
    exact h
def egA (c : Car) (k : Nat) (l left : Int) : Int := if awayC c k = true then 0 else max 0 (min (min c.inn (c.cap - l)) left)
def egW (S : Site) (cs : List Car) (L : Nat → Int) (k : Nat) : Nat → Int
  | 0 => S.lim.getD k 0
  | i + 1 => egW S cs L k i - egA (cs.getD i default) k (L i) (egW S cs L k i)
def egL (S : Site) (cs : List Car) : Nat → Nat → Int
  | 0, i => (cs.getD i default).start
  | k + 1, i => egL S cs k i + egA (cs.getD i default) k (egL S cs k i) (egW S cs (egL S cs k) k i) - useC (cs.getD i default) k
def egV (S : Site) (cs : List Car) (k i : Nat) : Int := egW S cs (egL S cs k) k i
def egX (S : Site) (cs : List Car) (i k : Nat) : Int := egA (cs.getD i default) k (egL S cs k i) (egV S cs k i)
def egT (S : Site) (cs : List Car) : Tab := ⟨(List.range cs.length).map fun i => rowK (egX S cs i) S.lim.length S.lim.length, (List.range cs.length).map fun _ => List.replicate S.lim.length 0⟩
def egE (S : Site) (cs : List Car) : Int := if stE S cs = 0 then (if plE S cs (egT S cs) = 0 then 0 else 18) else stE S cs
end Dp
end Go.Proofs.Ytmebpglkeedaoaa
namespace Go.Proofs.Ytmebpglkeedaoaa
open Go.RowKit Dp
end Go.Proofs.Ytmebpglkeedaoaa
namespace Go.Proofs.Ytmebpglkeedaoaa
open Go.RowKit Dp
def mnP (xs : List Int) : Nat → Int
  | 0 => xs.getD 0 0
  | k + 1 => min (mnP xs k) (xs.getD k 0)
def mxP (xs : List Int) : Nat → Int
  | 0 => xs.getD 0 0
  | k + 1 => max (mxP xs k) (xs.getD k 0)
set_option maxHeartbeats 1000000 in
theorem Min_c (A : Option Addr) (xs : List Int) (n cap : Nat) (w : World) (hn : n = xs.length) (h1 : 1 ≤ n) (hcap : n ≤ cap ∧ cap ≤ 9223372036854775807) (hA : IntsAt w A xs) :
    Calls Try.prog 79 #[.slice A n cap] w fun e w' => e = .returned (.int .i64 (mnP xs n)) ∧ w = w' := by
  have HN := Lib.hid hn
  have HA := Lib.hid hA
  clear hn hA
  obtain ⟨ad, rfl, _, c0⟩ := HA.out 0 (by rw [← HN.out]; omega)
  rw [add_zero'] at c0
  have HX := Lib.hid (show mnP xs 1 = xs.getD 0 0 from by simp [mnP])
  generalize xs.getD 0 0 = x0 at *
  have h3 : (0 : Int) < (n : Int) := by omega
  have h4 : ¬ (n : Int) < 1 := by omega
  go_enter Try.func79, Try.ntmps79
  go_wp2_with fail
  clear c0
  go_loop [3, 4] (fun m i => ∃ k : Nat, 1 ≤ k ∧ k ≤ n ∧ i = .int .i64 k ∧ m = .int .i64 (mnP xs k)) (fun _ i => n - (intOf i).toNat)
  case atStart => exact ⟨1, Nat.le_refl _, h1, rfl, by rw [HX.out]⟩
  case round =>
    obtain ⟨k, hk1, hk, rfl, rfl⟩ := hrel
    by_cases hlt : k < n
    · obtain ⟨ad', e', _, hc⟩ := HA.out k (by rw [← HN.out]; exact hlt)
      cases e'
      have HS := Lib.hid (show mnP xs (k + 1) = min (mnP xs k) (xs.getD k 0) from rfl)
      generalize xs.getD k 0 = x at *
      generalize mnP xs k = y at *
      have hm := fun ts t W => minTwo y x ts t W
      generalize min y x = z at *
      have hki : (k : Int) < (n : Int) := by omega
      go_wp2_with fail
      go_round
      case rel => exact ⟨k + 1, by omega, by omega, by go_num, by rw [HS.out]⟩
      case measure => simp [intOf]; omega
    · obtain rfl : k = n := by omega
      go_wp2_with fail
      go_ret
      exact ⟨rfl, rfl⟩
set_option maxHeartbeats 1000000 in
theorem Max_c (A : Option Addr) (xs : List Int) (n cap : Nat) (w : World) (hn : n = xs.length) (h1 : 1 ≤ n) (hcap : n ≤ cap ∧ cap ≤ 9223372036854775807) (hA : IntsAt w A xs) :
    Calls Try.prog 80 #[.slice A n cap] w fun e w' => e = .returned (.int .i64 (mxP xs n)) ∧ w = w' := by
  have HN := Lib.hid hn
  have HA := Lib.hid hA
  clear hn hA
  obtain ⟨ad, rfl, _, c0⟩ := HA.out 0 (by rw [← HN.out]; omega)
  rw [add_zero'] at c0
  have HX := Lib.hid (show mxP xs 1 = xs.getD 0 0 from by simp [mxP])
  generalize xs.getD 0 0 = x0 at *
  have h3 : (0 : Int) < (n : Int) := by omega
  have h4 : ¬ (n : Int) < 1 := by omega
  go_enter Try.func80, Try.ntmps80
  go_wp2_with fail
  clear c0
  go_loop [3, 4] (fun m i => ∃ k : Nat, 1 ≤ k ∧ k ≤ n ∧ i = .int .i64 k ∧ m = .int .i64 (mxP xs k)) (fun _ i => n - (intOf i).toNat)
  case atStart => exact ⟨1, Nat.le_refl _, h1, rfl, by rw [HX.out]⟩
  case round =>
    obtain ⟨k, hk1, hk, rfl, rfl⟩ := hrel
    by_cases hlt : k < n
    · obtain ⟨ad', e', _, hc⟩ := HA.out k (by rw [← HN.out]; exact hlt)
      cases e'
      have HS := Lib.hid (show mxP xs (k + 1) = max (mxP xs k) (xs.getD k 0) from rfl)
      generalize xs.getD k 0 = x at *
      generalize mxP xs k = y at *
      have hm := fun ts t W => maxTwo y x ts t W
      generalize max y x = z at *
      have hki : (k : Int) < (n : Int) := by omega
      go_wp2_with fail
      go_round
      case rel => exact ⟨k + 1, by omega, by omega, by go_num, by rw [HS.out]⟩
      case measure => simp [intOf]; omega
    · obtain rfl : k = n := by omega
      go_wp2_with fail
      go_ret
      exact ⟨rfl, rfl⟩
set_option maxHeartbeats 1000000 in
theorem upTo_c (most : Int) (A : Option Addr) (xs : List Int) (n cap : Nat) (w : World) (hn : n = xs.length) (h1 : 1 ≤ n) (hcap : n ≤ cap ∧ cap ≤ 9223372036854775807) (hA : IntsAt w A xs) :
    Calls Try.prog 78 #[.int .i64 most, .slice A n cap] w fun e w' => e = .returned (.bool (decide (0 ≤ mnP xs n ∧ mxP xs n ≤ most))) ∧ w = w' := by
  have c1 := Min_c A xs n cap w hn h1 hcap hA
  have c2 := Max_c A xs n cap w hn h1 hcap hA
  clear hn hA hcap
  generalize mnP xs n = a at *
  generalize mxP xs n = b at *
  by_cases h0 : 0 ≤ a
  · by_cases h2 : b ≤ most
    · have e0 : decide (0 ≤ a ∧ b ≤ most) = true := by simp [h0, h2]
      rw [e0]
      go_enter Try.func78, Try.ntmps78
      go_wp2_with (first | (go_at_call 79; refine c1.mono ?_; rintro e w1 ⟨rfl, rfl⟩) | (go_at_call 80; refine c2.mono ?_; rintro e w1 ⟨rfl, rfl⟩))
      go_ret
      exact ⟨rfl, rfl⟩
    · have e0 : decide (0 ≤ a ∧ b ≤ most) = false := by simp [h2]
      rw [e0]
      go_enter Try.func78, Try.ntmps78
      go_wp2_with (first | (go_at_call 79; refine c1.mono ?_; rintro e w1 ⟨rfl, rfl⟩) | (go_at_call 80; refine c2.mono ?_; rintro e w1 ⟨rfl, rfl⟩))
      go_ret
      exact ⟨ret_bool (decide_eq_false (by omega)), rfl⟩
  · have e0 : decide (0 ≤ a ∧ b ≤ most) = false := by simp [h0]
    rw [e0]
    go_enter Try.func78, Try.ntmps78
    go_wp2_with (first | (go_at_call 79; refine c1.mono ?_; rintro e w1 ⟨rfl, rfl⟩) | (go_at_call 80; refine c2.mono ?_; rintro e w1 ⟨rfl, rfl⟩))
    go_ret
    exact ⟨rfl, rfl⟩
theorem blk_ints {w : World} {g : Nat} {t : TypeId} {xs : List Int} (h : Blk w g t (xs.map (.int .i64))) : IntsAt w (some ⟨g, 0, none⟩) xs := by
  intro i hi
  refine ⟨_, rfl, h.lt, ?_⟩
  have e : (⟨g, 0, none⟩ : Addr).add i = ⟨g, i, none⟩ := by unfold Addr.add; split <;> simp_all
  rw [e]
  refine h.cell i ?_
  rw [List.getElem?_map, List.getElem?_eq_getElem hi, List.getD_eq_getElem?_getD, List.getElem?_eq_getElem hi]
  rfl
theorem upTo1_c {most a : Int} {t : TypeId} (g : Nat) (w : World) (b : Bool) (hb : b = decide (0 ≤ a ∧ a ≤ most)) (h : Blk w g t [.int .i64 a]) :
    Calls Try.prog 78 #[.int .i64 most, .slice (some ⟨g, 0, none⟩) 1 1] w fun e w' => e = .returned (.bool b) ∧ w = w' := by
  refine (upTo_c most _ [a] 1 1 w rfl (by omega) ⟨by omega, by omega⟩ (blk_ints (xs := [a]) h)).mono ?_
  rintro e w' ⟨rfl, hw⟩
  refine ⟨ret_bool ?_, hw⟩
  rw [hb]
  simp [mnP, mxP]
theorem upTo2_c {most a b : Int} {t : TypeId} (g : Nat) (w : World) (v : Bool) (hb : v = decide ((0 ≤ a ∧ a ≤ most) ∧ (0 ≤ b ∧ b ≤ most))) (h : Blk w g t [.int .i64 a, .int .i64 b]) :
    Calls Try.prog 78 #[.int .i64 most, .slice (some ⟨g, 0, none⟩) 2 2] w fun e w' => e = .returned (.bool v) ∧ w = w' := by
  refine (upTo_c most _ [a, b] 2 2 w rfl (by omega) ⟨by omega, by omega⟩ (blk_ints (xs := [a, b]) h)).mono ?_
  rintro e w' ⟨rfl, hw⟩
  refine ⟨ret_bool ?_, hw⟩
  rw [hb]
  refine decide_eq_decide.2 ?_
  simp [mnP, mxP]
  omega
theorem upTo3_c {most a b c : Int} {t : TypeId} (g : Nat) (w : World) (v : Bool) (hb : v = decide ((0 ≤ a ∧ a ≤ most) ∧ (0 ≤ b ∧ b ≤ most) ∧ (0 ≤ c ∧ c ≤ most))) (h : Blk w g t [.int .i64 a, .int .i64 b, .int .i64 c]) :
    Calls Try.prog 78 #[.int .i64 most, .slice (some ⟨g, 0, none⟩) 3 3] w fun e w' => e = .returned (.bool v) ∧ w = w' := by
  refine (upTo_c most _ [a, b, c] 3 3 w rfl (by omega) ⟨by omega, by omega⟩ (blk_ints (xs := [a, b, c]) h)).mono ?_
  rintro e w' ⟨rfl, hw⟩
  refine ⟨ret_bool ?_, hw⟩
  rw [hb]
  refine decide_eq_decide.2 ?_
  simp [mnP, mxP]
  omega
end Go.Proofs.Ytmebpglkeedaoaa
namespace Go.Proofs.Ytmebpglkeedaoaa
namespace Dp
def SlotBd (T : Tab) (k m : Nat) : Prop := ∀ i, i < m → (k < (T.inn.getD i []).length ∧ k < (T.out.getD i []).length) ∧ (0 ≤ (T.inn.getD i []).getD k 0 ∧ (T.inn.getD i []).getD k 0 ≤ 1048576) ∧ (0 ≤ (T.out.getD i []).getD k 0 ∧ (T.out.getD i []).getD k 0 ≤ 1048576)
theorem drP_bd {T : Tab} {k m : Nat} (h : SlotBd T k m) : ∀ i, i ≤ m → -(1048576 * i : Int) ≤ drP T k i ∧ drP T k i ≤ 1048576 * i
  | 0, _ => by simp [drP]
  | i + 1, hi => by
    have h1 := drP_bd h i (by omega)
    have h2 := h i (by omega)
    unfold drP
    omega
def RowBd (n : Nat) (xs : List Int) : Prop := xs.length = n ∧ ∀ k, k < n → 0 ≤ xs.getD k 0 ∧ xs.getD k 0 ≤ 1048576
theorem lev_bd {n : Nat} {c : Car} {x y : List Int} (hc : carOk n c = true) (hx : RowBd n x) (hy : RowBd n y) : ∀ k, k ≤ n → -(3145728 * k : Int) ≤ lev c x y k ∧ lev c x y k ≤ 1048576 + 3145728 * k
  | 0, _ => by
    have := carOk_iff.1 hc
    simp only [lev]; omega
  | k + 1, hk => by
    have h1 := lev_bd hc hx hy k (by omega)
    have h2 := hx.2 k (by omega)
    have h3 := hy.2 k (by omega)
    have h4 := useC_bd hc k
    simp only [lev]
    omega
end Dp
end Go.Proofs.Ytmebpglkeedaoaa
namespace Go.Proofs.Ytmebpglkeedaoaa
open Go.RowKit Dp
noncomputable def loop36 : Code := ((Try.f36.body.bind (blockOf 2)).getD .skip)
noncomputable def end36 : Code := ((Try.f36.body.bind (behind 2)).getD .skip)
def R36 (S : Site) (cs : List Car) (w : World) : Ending → World → Prop := fun e w' => e = .returned (.int .i64 (stE S cs)) ∧ Below w.heap.size w w'
set_option maxHeartbeats 8000000 in
set_option maxRecDepth 100000 in
theorem site2 (E : Option Addr) (S : Site) (cs : List Car) (n m cE : Nat) (w W0 : World) (hn : n = S.lim.length) (hm : m = cs.length) (hE : m ≤ cE ∧ cE ≤ 9223372036854775807) (hQ1 : ¬ 8 < cs.length) (hH : siteHead S = true) (hsl : ∀ t, t < S.lim.length → slotOk S t = true)
    (hC : CarsAt w E cs) (hB : Below w.heap.size w W0) {K : Act → World → Prop} (hK : ∀ a w', Code.wp Try.prog end36 (bodyPost Try.prog Try.f36 (R36 S cs w)) a w' → K a w') {x0 x1 x2 x3 x4 x7 x8 x9 x10 x11 x12 x13 x14 x15 x16 x17 x18 x19 x20 x21 x22 x23 x24 x25 x26 x27 x28 x29 x30 x31 x32 x33 x34 x35 x36 x37 x38 x39 x40 x41 x42 x43 x44 x45 x46 x47 x48 x49 x50 x51 x52 x53 x54 x55 x56 x57 x58 x59 x60 x61 x62 x63 x64 x65 x66 x67 x68 x69 x70 x71 x72 x73 x74 x75 x76 x77 x78 x79 x80 x81 x82 x83 x84 x85 x86 x87 x88 x89 x90 x91 x95 x96 x97 x98 x99 x100 x101 x102 x103 x104 x105 x106 x107 x108 x109 x110 x111 x112 x113 x114 x115 x116 x117 x118 x119 x120 x121 x122 x123 x124 x125 x126 x127 x128 x129 x130 x131 x132 x133 x134 x135 x136 x137 x138 x139 x140 x141 x142 x143 x144 x145 x146 x147 x148 x149 x150 x151 x152 x153 x154 x155 x156 x157 x158 x159 x160 x161 x162 x163 x164 x165 x166 x167 x168 : Value} :
    Code.wp Try.prog loop36 (Exit.inBlock 2 (Exit.then K (bodyPost Try.prog Try.f36 (R36 S cs w)))) { tmps := List.toArray (x0 :: x1 :: x2 :: x3 :: x4 :: (.int .i64 n : Value) :: (.func (.func 78) #[] #[] : Value) :: x7 :: x8 :: x9 :: x10 :: x11 :: x12 :: x13 :: x14 :: x15 :: x16 :: x17 :: x18 :: x19 :: x20 :: x21 :: x22 :: x23 :: x24 :: x25 :: x26 :: x27 :: x28 :: x29 :: x30 :: x31 :: x32 :: x33 :: x34 :: x35 :: x36 :: x37 :: x38 :: x39 :: x40 :: x41 :: x42 :: x43 :: x44 :: x45 :: x46 :: x47 :: x48 :: x49 :: x50 :: x51 :: x52 :: x53 :: x54 :: x55 :: x56 :: x57 :: x58 :: x59 :: x60 :: x61 :: x62 :: x63 :: x64 :: x65 :: x66 :: x67 :: x68 :: x69 :: x70 :: x71 :: x72 :: x73 :: x74 :: x75 :: x76 :: x77 :: x78 :: x79 :: x80 :: x81 :: x82 :: x83 :: x84 :: x85 :: x86 :: x87 :: x88 :: x89 :: x90 :: x91 :: (.slice E m cE : Value) :: (.int .i64 m : Value) :: (.int .i64 0 : Value) :: x95 :: x96 :: x97 :: x98 :: x99 :: x100 :: x101 :: x102 :: x103 :: x104 :: x105 :: x106 :: x107 :: x108 :: x109 :: x110 :: x111 :: x112 :: x113 :: x114 :: x115 :: x116 :: x117 :: x118 :: x119 :: x120 :: x121 :: x122 :: x123 :: x124 :: x125 :: x126 :: x127 :: x128 :: x129 :: x130 :: x131 :: x132 :: x133 :: x134 :: x135 :: x136 :: x137 :: x138 :: x139 :: x140 :: x141 :: x142 :: x143 :: x144 :: x145 :: x146 :: x147 :: x148 :: x149 :: x150 :: x151 :: x152 :: x153 :: x154 :: x155 :: x156 :: x157 :: x158 :: x159 :: x160 :: x161 :: x162 :: x163 :: x164 :: x165 :: x166 :: x167 :: x168 :: []), defers := [] } W0 := by
  have HN := Lib.hid hn
  have HM := Lib.hid hm
  have HQ1 := Lib.hid hQ1
  have HH := Lib.hid hH
  have HSL := Lib.hid hsl
  have HCS := Lib.hid hC
  have HB := Lib.hid hB
  clear hn hm hQ1 hH hsl hC hB
  conv => arg 2; whnf
  go_loopw [9, 10, 12, 94] (fun _ _ _ i wr => ∃ j : Nat, j ≤ m ∧ i = .int .i64 j ∧ Hid (Below w.heap.size w wr ∧ ∀ x, x < j → carOk S.lim.length (cs.getD x default) = true)) (fun _ _ _ i _ => m - (intOf i).toNat)
  case atStart => exact ⟨0, Nat.zero_le _, rfl, Lib.hid ⟨HB.out, fun j hj => absurd hj (Nat.not_lt_zero _)⟩⟩
  case round =>
    obtain ⟨j, hj, rfl, HJ⟩ := hrel
    by_cases hlt2 : j < m
    · have hji : (j : Int) < (m : Int) := by omega
      have jl : j < cs.length := by rw [← HM.out]; exact hlt2
      obtain ⟨ad, rfl, abl, c0, c1, c2, c3, c4, T, cT, c5, hcT, HTT⟩ := (HCS.out.below HJ.out.1 (Nat.le_refl _)) j jl
      have HTR := Lib.hid HTT
      clear HTT
      have HBAD : Hid (carOk S.lim.length (cs.getD j default) = false → stE S cs = 2) := Lib.hid (fun h => stE_car HQ1.out j jl h)
      have HGO : Hid (carOk S.lim.length (cs.getD j default) = true → ∀ x, x < j + 1 → carOk S.lim.length (cs.getD x default) = true) := Lib.hid (fun h x hx => by
        by_cases hxj : x < j
        · exact HJ.out.2 x hxj
        · obtain rfl : x = j := by omega
          exact h)
      generalize cs.getD j default = c at *
      obtain ⟨cap, inn, out, start, fin, trips⟩ := c
      simp only at c0 c1 c2 c3 c4 c5 hcT HTR HBAD HGO
      have HQ : Hid (trips.length = trips.length) := Lib.hid rfl
      obtain ⟨q, hq⟩ : ∃ q, q = trips.length := ⟨_, rfl⟩
      rw [← hq] at c5 hcT
      have HQL := Lib.hid hq
      clear hq HQ
      go_upto_region 16 with fail
      have HX := Lib.hid (HJ.out.1.alloc HJ.out.1.size (.cells #[.int .i64 cap, .int .i64 inn, .int .i64 out, .int .i64 start, .int .i64 fin, .slice T q cT] 63))
      have XC := Lib.hid (Blk.new' wr #[.int .i64 cap, .int .i64 inn, .int .i64 out, .int .i64 start, .int .i64 fin, .slice T q cT] 63)
      have HTR2 := Lib.hid (HTR.out.below ((Below.refl wr.heap.size wr).alloc (Nat.le_refl _) (.cells #[.int .i64 cap, .int .i64 inn, .int .i64 out, .int .i64 start, .int .i64 fin, .slice T q cT] 63)) (Nat.le_refl _))
      generalize wr.alloc (.cells #[.int .i64 cap, .int .i64 inn, .int .i64 out, .int .i64 start, .int .i64 fin, .slice T q cT] 63) = wx at HX XC HTR2 ⊢
      generalize wr.heap.size = gc at *
      clear c0 c1 c2 c3 c4 c5 abl HTR
      have e0 := XC.out.cell 0 rfl
      have e1 := XC.out.cell 1 rfl
      have e2 := XC.out.cell 2 rfl
      have e3 := XC.out.cell 3 rfl
      have e4 := XC.out.cell 4 rfl
      have e5 := XC.out.cell 5 rfl
      have gcl := XC.out.lt
      by_cases r1 : cap < 1
      · have EE := Lib.hid (HBAD.out (carOk_head (by simp [carHead]; omega)))
        go_wp2_with fail
        go_ret
        exact ⟨ret_int EE.out.symm, HX.out⟩
      have HY1 := Lib.hid (HX.out.alloc HX.out.size (.cells #[.int .i64 cap, .int .i64 inn, .int .i64 out] 2))
      have HY2 := Lib.hid (HY1.out.alloc HY1.out.size (.cells #[.int .i64 start, .int .i64 fin] 2))
      by_cases r2 : (0 ≤ cap ∧ cap ≤ 1048576) ∧ (0 ≤ inn ∧ inn ≤ 1048576) ∧ (0 ≤ out ∧ out ≤ 1048576)
      · have U3 := upTo3_c wx.heap.size _ true (decide_eq_true r2).symm (Blk.new' wx #[.int .i64 cap, .int .i64 inn, .int .i64 out] 2)
        have RR2 := Lib.hid r2
        clear r2
        by_cases r3 : (0 ≤ start ∧ start ≤ cap) ∧ (0 ≤ fin ∧ fin ≤ cap)
        · have U2 := upTo2_c (wx.heap.size + 1) _ true (decide_eq_true r3).symm (by simpa using Blk.new' (wx.alloc (.cells #[.int .i64 cap, .int .i64 inn, .int .i64 out] 2)) #[.int .i64 start, .int .i64 fin] 2)
          have RR3 := Lib.hid r3
          clear r3
          by_cases r4 : 4 < q
          · have r4i : (4 : Int) < (q : Int) := by omega
            have EE := Lib.hid (HBAD.out (carOk_head (by simp [carHead]; have := HQL.out; omega)))
            go_wp2_with fail
            refine U3.mono ?_
            rintro e w3 ⟨rfl, rfl⟩
            go_wp2_with fail
            refine U2.mono ?_
            rintro e w3 ⟨rfl, rfl⟩
            go_wp2_with fail
            go_ret
            exact ⟨ret_int EE.out.symm, HY2.out⟩
          · have r4i : ¬ (4 : Int) < (q : Int) := by omega
            have HHD : Hid (carHead ⟨cap, inn, out, start, fin, trips⟩ = true) := Lib.hid (by simp [carHead]; have := RR2.out; have := RR3.out; have := HQL.out; omega)
            have XC2 := Lib.hid ((Blk.alloc (Blk.alloc XC.out (.cells #[.int .i64 cap, .int .i64 inn, .int .i64 out] 2)) (.cells #[.int .i64 start, .int .i64 fin] 2)))
            have BXX := (((Below.refl wx.heap.size wx).alloc (Nat.le_refl _) (.cells #[.int .i64 cap, .int .i64 inn, .int .i64 out] 2))).alloc (by simp) (.cells #[.int .i64 start, .int .i64 fin] 2)
            have HTR3 := Lib.hid (HTR2.out.below BXX (Nat.le_refl _))
            clear BXX
            go_wp2_with fail
            refine U3.mono ?_
            rintro e w3 ⟨rfl, rfl⟩
            go_wp2_with fail
            refine U2.mono ?_
            rintro e w3 ⟨rfl, rfl⟩
            go_upto_region 18 with fail
            generalize ((wx.alloc (.cells #[.int .i64 cap, .int .i64 inn, .int .i64 out] 2)).alloc (.cells #[.int .i64 start, .int .i64 fin] 2)) = wy at HY2 XC2 HTR3 ⊢
            clear U3 U2 e0 e1 e2 e3 e4 e5 gcl HY1 HX XC HTR2
            have e5 := XC2.out.cell 5 rfl
            go_wp2_with fail
            clear e5
            go_loopw [10, 12, 134] (fun bk _ i wr => ∃ k : Nat, k ≤ q ∧ i = .int .i64 k ∧ bk = .int .i64 (backAt trips k) ∧ Hid (Below w.heap.size w wr ∧ Blk wr gc 63 [.int .i64 cap, .int .i64 inn, .int .i64 out, .int .i64 start, .int .i64 fin, .slice T q cT] ∧ TripsAt wr T trips ∧ ∀ x, x < k → tripOk cap S.lim.length trips x = true)) (fun _ _ i _ => q - (intOf i).toNat)
            case atStart => exact ⟨0, Nat.zero_le _, rfl, rfl, Lib.hid ⟨HY2.out, XC2.out, HTR3.out, fun j hj => absurd hj (Nat.not_lt_zero _)⟩⟩
            case round =>
              obtain ⟨k, hk, rfl, rfl, HK⟩ := hrel
              by_cases hlt3 : k < q
              · have hki : (k : Int) < (q : Int) := by omega
                have kl : k < trips.length := by rw [← HQL.out]; exact hlt3
                obtain ⟨td, rfl, tbl, t0, t1, t2⟩ := HK.out.2.2.1 k kl
                have HOK := Lib.hid (show tripOk cap S.lim.length trips k = decide (backAt trips k ≤ (trips.getD k default).fr ∧ (trips.getD k default).fr < (trips.getD k default).to ∧ (trips.getD k default).to ≤ S.lim.length ∧ (0 ≤ (trips.getD k default).use ∧ (trips.getD k default).use ≤ cap)) from rfl)
                have HBK := Lib.hid (show backAt trips (k + 1) = (trips.getD k default).to from rfl)
                have HBD : Hid (tripOk cap S.lim.length trips k = false → stE S cs = 2) := Lib.hid (fun h => HBAD.out (carOk_trip (c := ⟨cap, inn, out, start, fin, trips⟩) k kl h))
                rw [← HN.out] at HOK
                generalize trips.getD k default = tr at *
                obtain ⟨fr, «to», us⟩ := tr
                simp only at t0 t1 t2 HOK HBK
                generalize hbk : backAt trips k = bk at *
                clear hbk
                go_upto_region 22 with fail
                have HZ := Lib.hid (HK.out.1.alloc HK.out.1.size (.cells #[.int .i64 fr, .int .i64 «to», .int .i64 us] 65))
                have ZC := Lib.hid (Blk.alloc HK.out.2.1 (.cells #[.int .i64 fr, .int .i64 «to», .int .i64 us] 65))
                have ZT := Lib.hid (Blk.new' wr #[.int .i64 fr, .int .i64 «to», .int .i64 us] 65)
                have ZTR := Lib.hid (HK.out.2.2.1.below ((Below.refl wr.heap.size wr).alloc (Nat.le_refl _) (.cells #[.int .i64 fr, .int .i64 «to», .int .i64 us] 65)) (Nat.le_refl _))
                generalize wr.alloc (.cells #[.int .i64 fr, .int .i64 «to», .int .i64 us] 65) = wz at HZ ZC ZT ZTR ⊢
                generalize wr.heap.size = gt at *
                clear t0 t1 t2 tbl
                have f0 := ZT.out.cell 0 rfl
                have f1 := ZT.out.cell 1 rfl
                have f2 := ZT.out.cell 2 rfl
                have e0 := ZC.out.cell 0 rfl
                have gtl := ZT.out.lt
                by_cases s1 : fr < bk
                · have EE := Lib.hid (HBD.out (by rw [← HN.out, HOK.out]; exact decide_eq_false (fun h => by omega)))
                  go_wp2_with fail
                  go_ret
                  exact ⟨ret_int EE.out.symm, HZ.out⟩
                by_cases s2 : «to» ≤ fr
                · have EE := Lib.hid (HBD.out (by rw [← HN.out, HOK.out]; exact decide_eq_false (fun h => by omega)))
                  go_wp2_with fail
                  go_ret
                  exact ⟨ret_int EE.out.symm, HZ.out⟩
                by_cases s3 : (n : Int) < «to»
                · have EE := Lib.hid (HBD.out (by rw [← HN.out, HOK.out]; exact decide_eq_false (fun h => by omega)))
                  go_wp2_with fail
                  go_ret
                  exact ⟨ret_int EE.out.symm, HZ.out⟩
                have HU1 := Lib.hid (HZ.out.alloc HZ.out.size (.cells #[.int .i64 us] 2))
                by_cases s4 : 0 ≤ us ∧ us ≤ cap
                · have U1 := upTo1_c wz.heap.size _ true (decide_eq_true s4).symm (Blk.new' wz #[.int .i64 us] 2)
                  have SS := Lib.hid (show tripOk cap S.lim.length trips k = true from by rw [← HN.out, HOK.out]; exact decide_eq_true (by omega))
                  clear s4
                  have BZ := (Below.refl wz.heap.size wz).alloc (Nat.le_refl _) (.cells #[.int .i64 us] 2)
                  have ZC2 := Lib.hid (ZC.out.alloc (.cells #[.int .i64 us] 2))
                  have ZTR2 := Lib.hid (ZTR.out.below BZ (Nat.le_refl _))
                  have f1b := (ZT.out.alloc (.cells #[.int .i64 us] 2)).cell 1 rfl
                  clear BZ
                  go_upto_region 24 with (go_at_call 78; refine U1.mono ?_; rintro e w3 ⟨rfl, rfl⟩)
                  generalize wz.alloc (.cells #[.int .i64 us] 2) = wq at HU1 ZC2 ZTR2 f1b ⊢
                  clear f0 f1 f2 e0 gtl U1 s1 s2 s3
                  go_wp2_with fail
                  refine ⟨⟨k + 1, by omega, by go_num, by rw [HBK.out], Lib.hid ⟨HU1.out, ZC2.out, ZTR2.out, fun x hx => ?_⟩⟩, by simp [intOf]; omega⟩
                  by_cases hxk : x < k
                  · exact HK.out.2.2.2 x hxk
                  · obtain rfl : x = k := by omega
                    exact SS.out
                · have U1 := upTo1_c wz.heap.size _ false (decide_eq_false s4).symm (Blk.new' wz #[.int .i64 us] 2)
                  have EE := Lib.hid (HBD.out (by rw [← HN.out, HOK.out]; exact decide_eq_false (fun h => by omega)))
                  clear s4
                  go_wp2_with (go_at_call 78; refine U1.mono ?_; rintro e w3 ⟨rfl, rfl⟩)
                  go_ret
                  exact ⟨ret_int EE.out.symm, HU1.out⟩
              · obtain rfl : k = q := by omega
                have HCK := Lib.hid (HGO.out (carOk_ok (c := ⟨cap, inn, out, start, fin, trips⟩) HHD.out (fun x hx => HK.out.2.2.2 x (by rw [HQL.out]; exact hx))))
                go_wp2_with fail
                exact ⟨⟨j + 1, by omega, by go_num, Lib.hid ⟨HK.out.1, HCK.out⟩⟩, by simp [intOf]; omega⟩
        · have U2 := upTo2_c (wx.heap.size + 1) _ false (decide_eq_false r3).symm (by simpa using Blk.new' (wx.alloc (.cells #[.int .i64 cap, .int .i64 inn, .int .i64 out] 2)) #[.int .i64 start, .int .i64 fin] 2)
          have EE := Lib.hid (HBAD.out (carOk_head (by simp [carHead]; omega)))
          clear r3
          go_wp2_with fail
          refine U3.mono ?_
          rintro e w3 ⟨rfl, rfl⟩
          go_wp2_with fail
          refine U2.mono ?_
          rintro e w3 ⟨rfl, rfl⟩
          go_wp2_with fail
          go_ret
          exact ⟨ret_int EE.out.symm, HY2.out⟩
      · have U3 := upTo3_c wx.heap.size _ false (decide_eq_false r2).symm (Blk.new' wx #[.int .i64 cap, .int .i64 inn, .int .i64 out] 2)
        have EE := Lib.hid (HBAD.out (carOk_head (by simp [carHead]; omega)))
        clear r2
        go_wp2_with (go_at_call 78; refine U3.mono ?_; rintro e w3 ⟨rfl, rfl⟩)
        go_ret
        exact ⟨ret_int EE.out.symm, HY1.out⟩
    · obtain rfl : j = m := by omega
      have EE := Lib.hid (stE_ok (S := S) (cs := cs) HQ1.out HH.out (fun t ht => HSL.out t ht) (fun i hi => HJ.out.2 i (by rw [HM.out]; exact hi)))
      go_wp2_with fail
      conv => arg 2; whnf
      go_wp2_with fail
      go_ret
      exact ⟨ret_int EE.out.symm, HJ.out.1⟩
end Go.Proofs.Ytmebpglkeedaoaa
namespace Go.Proofs.Ytmebpglkeedaoaa
open Go.RowKit Dp
set_option maxHeartbeats 8000000 in
set_option maxRecDepth 100000 in
theorem CheckSite_c (A B C D E : Option Addr) (S : Site) (cs : List Car) (n nB nC nD m cA cB cC cD cE : Nat) (w : World) (hn : n = S.lim.length) (hnB : nB = S.exp.length) (hnC : nC = S.buy.length) (hnD : nD = S.sell.length) (hm : m = cs.length)
    (hA : n ≤ cA ∧ cA ≤ 9223372036854775807) (hB : nB ≤ cB ∧ cB ≤ 9223372036854775807) (hC : nC ≤ cC ∧ cC ≤ 9223372036854775807) (hD : nD ≤ cD ∧ cD ≤ 9223372036854775807) (hE : m ≤ cE ∧ cE ≤ 9223372036854775807)
    (hS : SiteAt w A B C D S) (hcs : CarsAt w E cs) :
    Calls Try.prog 36 #[.agg #[.slice A n cA, .slice B nB cB, .slice C nC cC, .slice D nD cD], .slice E m cE] w fun e w' => e = .returned (.int .i64 (stE S cs)) ∧ Below w.heap.size w w' := by
  have HN := Lib.hid hn
  have HNB := Lib.hid hnB
  have HNC := Lib.hid hnC
  have HND := Lib.hid hnD
  have HM := Lib.hid hm
  have HS := Lib.hid hS
  have HCS := Lib.hid hcs
  clear hn hnB hnC hnD hm hS hcs
  have X := Lib.hid (Blk.new' w #[.slice A n cA, .slice B nB cB, .slice C nC cC, .slice D nD cD] 51)
  have HB := Lib.hid ((Below.refl w.heap.size w).alloc (Nat.le_refl _) (.cells #[.slice A n cA, .slice B nB cB, .slice C nC cC, .slice D nD cD] 51))
  go_enter Try.func36, Try.ntmps36
  go_upto_region 1 with fail
  generalize w.alloc (.cells #[.slice A n cA, .slice B nB cB, .slice C nC cC, .slice D nD cD] 51) = w1 at X HB ⊢
  by_cases q1 : 8 < m
  · have q1i : (8 : Int) < (m : Int) := by omega
    have EE := Lib.hid (stE_many (S := S) (cs := cs) (by rw [← HM.out]; exact q1))
    go_wp2_with fail
    go_ret
    exact ⟨ret_int EE.out.symm, HB.out⟩
  have q1i : ¬ (8 : Int) < (m : Int) := by omega
  have HQ1 : Hid (¬ 8 < cs.length) := Lib.hid (by rw [← HM.out]; exact q1)
  have x0 := X.out.cell 0 rfl
  have x1 := X.out.cell 1 rfl
  have x2 := X.out.cell 2 rfl
  have x3 := X.out.cell 3 rfl
  by_cases q2 : n < 1
  · have q2i : (n : Int) < 1 := by omega
    have EE := Lib.hid (stE_head (S := S) (cs := cs) HQ1.out (by simp [siteHead, ← HN.out, ← HNB.out, ← HNC.out, ← HND.out]; omega))
    go_wp2_with fail
    go_ret
    exact ⟨ret_int EE.out.symm, HB.out⟩
  have q2i : ¬ (n : Int) < 1 := by omega
  by_cases q3 : 48 < n
  · have q3i : (48 : Int) < (n : Int) := by omega
    have EE := Lib.hid (stE_head (S := S) (cs := cs) HQ1.out (by simp [siteHead, ← HN.out, ← HNB.out, ← HNC.out, ← HND.out]; omega))
    go_wp2_with fail
    go_ret
    exact ⟨ret_int EE.out.symm, HB.out⟩
  have q3i : ¬ (48 : Int) < (n : Int) := by omega
  by_cases q4 : nB ≠ n
  · have q4i : ¬ (nB : Int) = (n : Int) := by omega
    have q4b : ((nB : Int) == (n : Int)) = false := by simpa using q4i
    have EE := Lib.hid (stE_head (S := S) (cs := cs) HQ1.out (by simp [siteHead, ← HN.out, ← HNB.out, ← HNC.out, ← HND.out]; omega))
    go_wp2_with fail
    go_ret
    exact ⟨ret_int EE.out.symm, HB.out⟩
  obtain rfl : n = nB := by omega
  by_cases q5 : nC ≠ n
  · have q5i : ¬ (nC : Int) = (n : Int) := by omega
    have q5b : ((nC : Int) == (n : Int)) = false := by simpa using q5i
    have EE := Lib.hid (stE_head (S := S) (cs := cs) HQ1.out (by simp [siteHead, ← HN.out, ← HNB.out, ← HNC.out, ← HND.out]; omega))
    go_wp2_with fail
    go_ret
    exact ⟨ret_int EE.out.symm, HB.out⟩
  obtain rfl : n = nC := by omega
  by_cases q6 : nD ≠ n
  · have q6i : ¬ (nD : Int) = (n : Int) := by omega
    have q6b : ((nD : Int) == (n : Int)) = false := by simpa using q6i
    have EE := Lib.hid (stE_head (S := S) (cs := cs) HQ1.out (by simp [siteHead, ← HN.out, ← HNB.out, ← HNC.out, ← HND.out]; omega))
    go_wp2_with fail
    go_ret
    exact ⟨ret_int EE.out.symm, HB.out⟩
  obtain rfl : n = nD := by omega
  have HH : Hid (siteHead S = true) := Lib.hid (by simp [siteHead, ← HN.out, ← HNB.out, ← HNC.out, ← HND.out]; omega)
  go_wp2_with fail
  clear x0 x1 x2 x3
  go_loopw [7, 47] (fun _ i wr => ∃ t : Nat, t ≤ n ∧ i = .int .i64 t ∧ Hid (Below w.heap.size w wr ∧ Blk wr w.heap.size 51 [.slice A n cA, .slice B n cB, .slice C n cC, .slice D n cD] ∧ ∀ j, j < t → slotOk S j = true)) (fun _ i _ => n - (intOf i).toNat)
  case atStart => exact ⟨0, Nat.zero_le _, rfl, Lib.hid ⟨HB.out, X.out, fun j hj => absurd hj (Nat.not_lt_zero _)⟩⟩
  case round =>
    obtain ⟨t, ht, rfl, HW⟩ := hrel
    by_cases hlt : t < n
    · have hti : (t : Int) < (n : Int) := by omega
      have hcA := hA.1
      have tA : t < S.lim.length := by rw [← HN.out]; exact hlt
      obtain ⟨aL, rfl, aLb, aLc⟩ := HS.out.1 t tA
      obtain ⟨aE, rfl, aEb, aEc⟩ := HS.out.2.1 t (by rw [← HNB.out]; exact hlt)
      obtain ⟨aB, rfl, aBb, aBc⟩ := HS.out.2.2.1 t (by rw [← HNC.out]; exact hlt)
      obtain ⟨aS, rfl, aSb, aSc⟩ := HS.out.2.2.2 t (by rw [← HND.out]; exact hlt)
      have HV : Hid (∀ V, Below w.heap.size w V → (V.cell? (aL.add t) = some (.int .i64 (S.lim.getD t 0)) ∧ (aL.add t).block < V.heap.size) ∧ (V.cell? (aE.add t) = some (.int .i64 (S.exp.getD t 0)) ∧ (aE.add t).block < V.heap.size) ∧ (V.cell? (aB.add t) = some (.int .i64 (S.buy.getD t 0)) ∧ (aB.add t).block < V.heap.size) ∧ (V.cell? (aS.add t) = some (.int .i64 (S.sell.getD t 0)) ∧ (aS.add t).block < V.heap.size)) := Lib.hid (fun V hV => by
        have k := hV.size
        exact ⟨⟨(hV.cell (by rw [block_add]; exact aLb)).trans aLc, by rw [block_add]; omega⟩, ⟨(hV.cell (by rw [block_add]; exact aEb)).trans aEc, by rw [block_add]; omega⟩, ⟨(hV.cell (by rw [block_add]; exact aBb)).trans aBc, by rw [block_add]; omega⟩, ⟨(hV.cell (by rw [block_add]; exact aSb)).trans aSc, by rw [block_add]; omega⟩⟩)
      clear aLc aEc aBc aSc aLb aEb aBb aSb
      have HSO := Lib.hid (show slotOk S t = decide ((0 ≤ S.lim.getD t 0 ∧ S.lim.getD t 0 ≤ 1048576) ∧ (0 ≤ S.exp.getD t 0 ∧ S.exp.getD t 0 ≤ 1048576) ∧ (0 ≤ S.buy.getD t 0 ∧ S.buy.getD t 0 ≤ 1048576) ∧ (0 ≤ S.sell.getD t 0 ∧ S.sell.getD t 0 ≤ S.buy.getD t 0)) from rfl)
      generalize S.lim.getD t 0 = l at *
      generalize S.exp.getD t 0 = e at *
      generalize S.buy.getD t 0 = b at *
      generalize S.sell.getD t 0 = s at *
      go_upto_region 10 with fail
      by_cases k1 : (0 ≤ l ∧ l ≤ 1048576) ∧ (0 ≤ e ∧ e ≤ 1048576)
      · have HC1 : Hid (true = decide ((0 ≤ l ∧ l ≤ 1048576) ∧ (0 ≤ e ∧ e ≤ 1048576))) := Lib.hid (decide_eq_true k1).symm
        by_cases k2 : 0 ≤ b ∧ b ≤ 1048576
        · have HC2 : Hid (true = decide (0 ≤ b ∧ b ≤ 1048576)) := Lib.hid (decide_eq_true k2).symm
          by_cases k3 : 0 ≤ s ∧ s ≤ b
          · have HC3 : Hid (true = decide (0 ≤ s ∧ s ≤ b)) := Lib.hid (decide_eq_true k3).symm
            have HK := Lib.hid (And.intro k1 (And.intro k2 k3))
            clear k1 k2 k3
            refine wp_region_priv 41 [.q, .q, .q, .q, .q, .q, .q, .q, .q, .q, .q, .p, .c 11 61, .q, .q, .q, .q, .q, .q, .q, .q, .p, .c 21 71, .q, .q, .q, .q, .q, .q, .q, .q, .q, .q, .q, .q, .q, .q, .p, .c 37 87, .q, .q] (fun n => (if n = 37 then (.cells #[.int .i64 s] 2, fun b => .slice (some ⟨b, 0, none⟩) 1 1) else (if n = 21 then (.cells #[.int .i64 b] 2, fun b => .slice (some ⟨b, 0, none⟩) 1 1) else (if n = 11 then (.cells #[.int .i64 l, .int .i64 e] 2, fun b => .slice (some ⟨b, 0, none⟩) 2 2) else (.cells #[] 2, fun b => .slice (some ⟨b, 0, none⟩) 0 0))))) ?afA (by kernel_rfl) (by kernel_rfl) ?walkA ?tailA
            case walkA =>
              intro V hV
              have XV := HW.out.2.1.below hV HW.out.2.1.lt
              obtain ⟨⟨vl, vlb⟩, ⟨ve, veb⟩, ⟨vb, vbb⟩, ⟨vs, vsb⟩⟩ := HV.out V (HW.out.1.trans (hV.mono HW.out.1.size))
              have x0 := XV.cell 0 rfl
              have x1 := XV.cell 1 rfl
              have x2 := XV.cell 2 rfl
              have x3 := XV.cell 3 rfl
              have xlt := XV.lt
              clear XV hV
              simp only [List.take_succ_cons, List.take_zero]
              repeat (with_reducible refine wpP_q ?_; go_big_quiet_step (fail); with_reducible refine wpQuiet_nil ?_)
              refine wpP_p (by kernel_rfl) (fun _ => by kernel_rfl) ?_
              (try simp only [Act.put, List.setIfInBounds_toArray, List.set_cons_zero, List.set_cons_succ])
              refine wpP_c (.bool true) (fun V' g' hV' hg' => ?_) ?_
              · (try simp only [Act.put, List.setIfInBounds_toArray, List.set_cons_zero, List.set_cons_succ])
                have hbb : Blk V' g' 2 [.int .i64 l, .int .i64 e] := hg'
                have zz := hbb.lt
                go_big_quiet_step ((go_at_call 78; exact past_same (upTo2_c g' _ _ HC1.out (hbb.below (Past.far _) hbb.lt))))
                refine wpQuiet_nil ?_
                rfl
              (try simp only [Act.put, List.setIfInBounds_toArray, List.set_cons_zero, List.set_cons_succ])
              repeat (with_reducible refine wpP_q ?_; go_big_quiet_step (fail); with_reducible refine wpQuiet_nil ?_)
              refine wpP_p (by kernel_rfl) (fun _ => by kernel_rfl) ?_
              (try simp only [Act.put, List.setIfInBounds_toArray, List.set_cons_zero, List.set_cons_succ])
              refine wpP_c (.bool true) (fun V' g' hV' hg' => ?_) ?_
              · (try simp only [Act.put, List.setIfInBounds_toArray, List.set_cons_zero, List.set_cons_succ])
                have hbb : Blk V' g' 2 [.int .i64 b] := hg'
                have zz := hbb.lt
                go_big_quiet_step ((go_at_call 78; exact past_same (upTo1_c g' _ _ HC2.out (hbb.below (Past.far _) hbb.lt))))
                refine wpQuiet_nil ?_
                rfl
              (try simp only [Act.put, List.setIfInBounds_toArray, List.set_cons_zero, List.set_cons_succ])
              repeat (with_reducible refine wpP_q ?_; go_big_quiet_step (fail); with_reducible refine wpQuiet_nil ?_)
              refine wpP_p (by kernel_rfl) (fun _ => by kernel_rfl) ?_
              (try simp only [Act.put, List.setIfInBounds_toArray, List.set_cons_zero, List.set_cons_succ])
              refine wpP_c (.bool true) (fun V' g' hV' hg' => ?_) ?_
              · (try simp only [Act.put, List.setIfInBounds_toArray, List.set_cons_zero, List.set_cons_succ])
                have hbb : Blk V' g' 2 [.int .i64 s] := hg'
                have zz := hbb.lt
                go_big_quiet_step ((go_at_call 78; exact past_same (upTo1_c g' _ _ HC3.out (hbb.below (Past.far _) hbb.lt))))
                refine wpQuiet_nil ?_
                rfl
              (try simp only [Act.put, List.setIfInBounds_toArray, List.set_cons_zero, List.set_cons_succ])
              repeat (with_reducible refine wpP_q ?_; go_big_quiet_step (fail); with_reducible refine wpQuiet_nil ?_)
              with_reducible refine wpP_nil ?_
              rfl
            intro gs w3 hb3 _ _
            have HB3 := Lib.hid (HW.out.1.trans (hb3.mono HW.out.1.size))
            have XB3 := Lib.hid (HW.out.2.1.below hb3 HW.out.2.1.lt)
            clear hb3
            simp only [List.drop_succ_cons, List.drop_zero, List.take_succ_cons, List.take_zero, fillP]
            (try simp only [Act.put, List.setIfInBounds_toArray, List.set_cons_zero, List.set_cons_succ])
            go_wp2_with fail
            refine ⟨⟨t + 1, by omega, by go_num, Lib.hid ⟨HB3.out, XB3.out, fun j hj => ?_⟩⟩, by simp [intOf]; omega⟩
            by_cases hjt : j < t
            · exact HW.out.2.2 j hjt
            · obtain rfl : j = t := by omega
              rw [HSO.out]; exact decide_eq_true (by have := HK.out; omega)
          · have HC3 : Hid (false = decide (0 ≤ s ∧ s ≤ b)) := Lib.hid (decide_eq_false k3).symm
            have EE := Lib.hid (stE_slot (S := S) (cs := cs) HQ1.out t tA (by rw [HSO.out]; exact decide_eq_false (fun h => by omega)))
            clear k1 k2 k3
            refine wp_region_priv 41 [.q, .q, .q, .q, .q, .q, .q, .q, .q, .q, .q, .p, .c 11 61, .q, .q, .q, .q, .q, .q, .q, .q, .p, .c 21 71, .q, .q, .q, .q, .q, .q, .q, .q, .q, .q, .q, .q, .q, .q, .p, .c 37 87, .q, .q] (fun n => (if n = 37 then (.cells #[.int .i64 s] 2, fun b => .slice (some ⟨b, 0, none⟩) 1 1) else (if n = 21 then (.cells #[.int .i64 b] 2, fun b => .slice (some ⟨b, 0, none⟩) 1 1) else (if n = 11 then (.cells #[.int .i64 l, .int .i64 e] 2, fun b => .slice (some ⟨b, 0, none⟩) 2 2) else (.cells #[] 2, fun b => .slice (some ⟨b, 0, none⟩) 0 0))))) ?afB (by kernel_rfl) (by kernel_rfl) ?walkB ?tailB
            case walkB =>
              intro V hV
              have XV := HW.out.2.1.below hV HW.out.2.1.lt
              obtain ⟨⟨vl, vlb⟩, ⟨ve, veb⟩, ⟨vb, vbb⟩, ⟨vs, vsb⟩⟩ := HV.out V (HW.out.1.trans (hV.mono HW.out.1.size))
              have x0 := XV.cell 0 rfl
              have x1 := XV.cell 1 rfl
              have x2 := XV.cell 2 rfl
              have x3 := XV.cell 3 rfl
              have xlt := XV.lt
              clear XV hV
              simp only [List.take_succ_cons, List.take_zero]
              repeat (with_reducible refine wpP_q ?_; go_big_quiet_step (fail); with_reducible refine wpQuiet_nil ?_)
              refine wpP_p (by kernel_rfl) (fun _ => by kernel_rfl) ?_
              (try simp only [Act.put, List.setIfInBounds_toArray, List.set_cons_zero, List.set_cons_succ])
              refine wpP_c (.bool true) (fun V' g' hV' hg' => ?_) ?_
              · (try simp only [Act.put, List.setIfInBounds_toArray, List.set_cons_zero, List.set_cons_succ])
                have hbb : Blk V' g' 2 [.int .i64 l, .int .i64 e] := hg'
                have zz := hbb.lt
                go_big_quiet_step ((go_at_call 78; exact past_same (upTo2_c g' _ _ HC1.out (hbb.below (Past.far _) hbb.lt))))
                refine wpQuiet_nil ?_
                rfl
              (try simp only [Act.put, List.setIfInBounds_toArray, List.set_cons_zero, List.set_cons_succ])
              repeat (with_reducible refine wpP_q ?_; go_big_quiet_step (fail); with_reducible refine wpQuiet_nil ?_)
              refine wpP_p (by kernel_rfl) (fun _ => by kernel_rfl) ?_
              (try simp only [Act.put, List.setIfInBounds_toArray, List.set_cons_zero, List.set_cons_succ])
              refine wpP_c (.bool true) (fun V' g' hV' hg' => ?_) ?_
              · (try simp only [Act.put, List.setIfInBounds_toArray, List.set_cons_zero, List.set_cons_succ])
                have hbb : Blk V' g' 2 [.int .i64 b] := hg'
                have zz := hbb.lt
                go_big_quiet_step ((go_at_call 78; exact past_same (upTo1_c g' _ _ HC2.out (hbb.below (Past.far _) hbb.lt))))
                refine wpQuiet_nil ?_
                rfl
              (try simp only [Act.put, List.setIfInBounds_toArray, List.set_cons_zero, List.set_cons_succ])
              repeat (with_reducible refine wpP_q ?_; go_big_quiet_step (fail); with_reducible refine wpQuiet_nil ?_)
              refine wpP_p (by kernel_rfl) (fun _ => by kernel_rfl) ?_
              (try simp only [Act.put, List.setIfInBounds_toArray, List.set_cons_zero, List.set_cons_succ])
              refine wpP_c (.bool false) (fun V' g' hV' hg' => ?_) ?_
              · (try simp only [Act.put, List.setIfInBounds_toArray, List.set_cons_zero, List.set_cons_succ])
                have hbb : Blk V' g' 2 [.int .i64 s] := hg'
                have zz := hbb.lt
                go_big_quiet_step ((go_at_call 78; exact past_same (upTo1_c g' _ _ HC3.out (hbb.below (Past.far _) hbb.lt))))
                refine wpQuiet_nil ?_
                rfl
              (try simp only [Act.put, List.setIfInBounds_toArray, List.set_cons_zero, List.set_cons_succ])
              repeat (with_reducible refine wpP_q ?_; go_big_quiet_step (fail); with_reducible refine wpQuiet_nil ?_)
              with_reducible refine wpP_nil ?_
              rfl
            intro gs w3 hb3 _ _
            have HB3 := Lib.hid (HW.out.1.trans (hb3.mono HW.out.1.size))
            have XB3 := Lib.hid (HW.out.2.1.below hb3 HW.out.2.1.lt)
            clear hb3
            simp only [List.drop_succ_cons, List.drop_zero, List.take_succ_cons, List.take_zero, fillP]
            (try simp only [Act.put, List.setIfInBounds_toArray, List.set_cons_zero, List.set_cons_succ])
            go_wp2_with fail
            go_ret
            exact ⟨ret_int EE.out.symm, HB3.out⟩
        · have HC2 : Hid (false = decide (0 ≤ b ∧ b ≤ 1048576)) := Lib.hid (decide_eq_false k2).symm
          have EE := Lib.hid (stE_slot (S := S) (cs := cs) HQ1.out t tA (by rw [HSO.out]; exact decide_eq_false (fun h => by omega)))
          clear k1 k2
          refine wp_region_priv 41 [.q, .q, .q, .q, .q, .q, .q, .q, .q, .q, .q, .p, .c 11 61, .q, .q, .q, .q, .q, .q, .q, .q, .p, .c 21 71, .q, .q, .q, .q, .q, .q, .q, .q, .q, .q, .q, .q, .q, .q, .q, .q, .q, .q] (fun n => (if n = 21 then (.cells #[.int .i64 b] 2, fun b => .slice (some ⟨b, 0, none⟩) 1 1) else (if n = 11 then (.cells #[.int .i64 l, .int .i64 e] 2, fun b => .slice (some ⟨b, 0, none⟩) 2 2) else (.cells #[] 2, fun b => .slice (some ⟨b, 0, none⟩) 0 0)))) ?afC (by kernel_rfl) (by kernel_rfl) ?walkC ?tailC
          case walkC =>
            intro V hV
            have XV := HW.out.2.1.below hV HW.out.2.1.lt
            obtain ⟨⟨vl, vlb⟩, ⟨ve, veb⟩, ⟨vb, vbb⟩, ⟨vs, vsb⟩⟩ := HV.out V (HW.out.1.trans (hV.mono HW.out.1.size))
            have x0 := XV.cell 0 rfl
            have x1 := XV.cell 1 rfl
            have x2 := XV.cell 2 rfl
            have x3 := XV.cell 3 rfl
            have xlt := XV.lt
            clear XV hV
            simp only [List.take_succ_cons, List.take_zero]
            repeat (with_reducible refine wpP_q ?_; go_big_quiet_step (fail); with_reducible refine wpQuiet_nil ?_)
            refine wpP_p (by kernel_rfl) (fun _ => by kernel_rfl) ?_
            (try simp only [Act.put, List.setIfInBounds_toArray, List.set_cons_zero, List.set_cons_succ])
            refine wpP_c (.bool true) (fun V' g' hV' hg' => ?_) ?_
            · (try simp only [Act.put, List.setIfInBounds_toArray, List.set_cons_zero, List.set_cons_succ])
              have hbb : Blk V' g' 2 [.int .i64 l, .int .i64 e] := hg'
              have zz := hbb.lt
              go_big_quiet_step ((go_at_call 78; exact past_same (upTo2_c g' _ _ HC1.out (hbb.below (Past.far _) hbb.lt))))
              refine wpQuiet_nil ?_
              rfl
            (try simp only [Act.put, List.setIfInBounds_toArray, List.set_cons_zero, List.set_cons_succ])
            repeat (with_reducible refine wpP_q ?_; go_big_quiet_step (fail); with_reducible refine wpQuiet_nil ?_)
            refine wpP_p (by kernel_rfl) (fun _ => by kernel_rfl) ?_
            (try simp only [Act.put, List.setIfInBounds_toArray, List.set_cons_zero, List.set_cons_succ])
            refine wpP_c (.bool false) (fun V' g' hV' hg' => ?_) ?_
            · (try simp only [Act.put, List.setIfInBounds_toArray, List.set_cons_zero, List.set_cons_succ])
              have hbb : Blk V' g' 2 [.int .i64 b] := hg'
              have zz := hbb.lt
              go_big_quiet_step ((go_at_call 78; exact past_same (upTo1_c g' _ _ HC2.out (hbb.below (Past.far _) hbb.lt))))
              refine wpQuiet_nil ?_
              rfl
            (try simp only [Act.put, List.setIfInBounds_toArray, List.set_cons_zero, List.set_cons_succ])
            repeat (with_reducible refine wpP_q ?_; go_big_quiet_step (fail); with_reducible refine wpQuiet_nil ?_)
            with_reducible refine wpP_nil ?_
            rfl
          intro gs w3 hb3 _ _
          have HB3 := Lib.hid (HW.out.1.trans (hb3.mono HW.out.1.size))
          have XB3 := Lib.hid (HW.out.2.1.below hb3 HW.out.2.1.lt)
          clear hb3
          simp only [List.drop_succ_cons, List.drop_zero, List.take_succ_cons, List.take_zero, fillP]
          (try simp only [Act.put, List.setIfInBounds_toArray, List.set_cons_zero, List.set_cons_succ])
          go_wp2_with fail
          go_ret
          exact ⟨ret_int EE.out.symm, HB3.out⟩
      · have HC1 : Hid (false = decide ((0 ≤ l ∧ l ≤ 1048576) ∧ (0 ≤ e ∧ e ≤ 1048576))) := Lib.hid (decide_eq_false k1).symm
        have EE := Lib.hid (stE_slot (S := S) (cs := cs) HQ1.out t tA (by rw [HSO.out]; exact decide_eq_false (fun h => by omega)))
        clear k1
        refine wp_region_priv 41 [.q, .q, .q, .q, .q, .q, .q, .q, .q, .q, .q, .p, .c 11 61, .q, .q, .q, .q, .q, .q, .q, .q, .q, .q, .q, .q, .q, .q, .q, .q, .q, .q, .q, .q, .q, .q, .q, .q, .q, .q, .q, .q] (fun n => (if n = 11 then (.cells #[.int .i64 l, .int .i64 e] 2, fun b => .slice (some ⟨b, 0, none⟩) 2 2) else (.cells #[] 2, fun b => .slice (some ⟨b, 0, none⟩) 0 0))) ?afD (by kernel_rfl) (by kernel_rfl) ?walkD ?tailD
        case walkD =>
          intro V hV
          have XV := HW.out.2.1.below hV HW.out.2.1.lt
          obtain ⟨⟨vl, vlb⟩, ⟨ve, veb⟩, ⟨vb, vbb⟩, ⟨vs, vsb⟩⟩ := HV.out V (HW.out.1.trans (hV.mono HW.out.1.size))
          have x0 := XV.cell 0 rfl
          have x1 := XV.cell 1 rfl
          have x2 := XV.cell 2 rfl
          have x3 := XV.cell 3 rfl
          have xlt := XV.lt
          clear XV hV
          simp only [List.take_succ_cons, List.take_zero]
          repeat (with_reducible refine wpP_q ?_; go_big_quiet_step (fail); with_reducible refine wpQuiet_nil ?_)
          refine wpP_p (by kernel_rfl) (fun _ => by kernel_rfl) ?_
          (try simp only [Act.put, List.setIfInBounds_toArray, List.set_cons_zero, List.set_cons_succ])
          refine wpP_c (.bool false) (fun V' g' hV' hg' => ?_) ?_
          · (try simp only [Act.put, List.setIfInBounds_toArray, List.set_cons_zero, List.set_cons_succ])
            have hbb : Blk V' g' 2 [.int .i64 l, .int .i64 e] := hg'
            have zz := hbb.lt
            go_big_quiet_step ((go_at_call 78; exact past_same (upTo2_c g' _ _ HC1.out (hbb.below (Past.far _) hbb.lt))))
            refine wpQuiet_nil ?_
            rfl
          (try simp only [Act.put, List.setIfInBounds_toArray, List.set_cons_zero, List.set_cons_succ])
          repeat (with_reducible refine wpP_q ?_; go_big_quiet_step (fail); with_reducible refine wpQuiet_nil ?_)
          with_reducible refine wpP_nil ?_
          rfl
        intro gs w3 hb3 _ _
        have HB3 := Lib.hid (HW.out.1.trans (hb3.mono HW.out.1.size))
        have XB3 := Lib.hid (HW.out.2.1.below hb3 HW.out.2.1.lt)
        clear hb3
        simp only [List.drop_succ_cons, List.drop_zero, List.take_succ_cons, List.take_zero, fillP]
        (try simp only [Act.put, List.setIfInBounds_toArray, List.set_cons_zero, List.set_cons_succ])
        go_wp2_with fail
        go_ret
        exact ⟨ret_int EE.out.symm, HB3.out⟩
    · obtain rfl : n = t := by omega
      have HSL := HW
      go_wp2_with fail
      rename_i KK hKK
      refine wp_codeP (c' := loop36) (by kernel_rfl) ?_
      exact site2 E S cs n m cE w wr HN.out HM.out hE HQ1.out HH.out (fun t ht => HW.out.2.2 t (by rw [HN.out]; exact ht)) HCS.out HW.out.1 (fun a w' h => hKK a w' (wp_codeP (by kernel_rfl) h))
end Go.Proofs.Ytmebpglkeedaoaa
namespace Go.Proofs.Ytmebpglkeedaoaa
open Go.RowKit Dp
set_option maxHeartbeats 1000000 in
set_option maxRecDepth 100000 in
theorem drawn_c (A B : Option Addr) (T : Tab) (m mo cA cB k : Nat) (w : World) (hm : m = T.inn.length) (hmo : mo = T.out.length) (hmm : m ≤ mo) (h8 : m ≤ 8) (hA : m ≤ cA ∧ cA ≤ 9223372036854775807) (hB : mo ≤ cB ∧ cB ≤ 9223372036854775807) (hT : TabAt w A B T) (hS : SlotBd T k m) :
    Calls Try.prog 89 #[.agg #[.slice A m cA, .slice B mo cB], .int .i64 k] w fun e w' => e = .returned (.int .i64 (drP T k m)) ∧ Below w.heap.size w w' := by
  have HM := Lib.hid hm
  have HMO := Lib.hid hmo
  have HT := Lib.hid hT
  have HS := Lib.hid hS
  have HD := Lib.hid (drP_bd hS)
  clear hm hmo hT hS
  have X := Lib.hid (Blk.new' w #[.slice A m cA, .slice B mo cB] 55)
  have HB := Lib.hid ((Below.refl w.heap.size w).alloc (Nat.le_refl _) (.cells #[.slice A m cA, .slice B mo cB] 55))
  go_enter Try.func89, Try.ntmps89
  go_upto_region 1 with fail
  generalize w.alloc (.cells #[.slice A m cA, .slice B mo cB] 55) = w1 at X HB ⊢
  have c0 := X.out.cell 0 rfl
  go_wp2_with fail
  clear c0
  go_loopw [4, 5, 9] (fun s _ i wr => ∃ j : Nat, j ≤ m ∧ i = .int .i64 j ∧ s = .int .i64 (drP T k j) ∧ Hid (Below w.heap.size w wr ∧ Blk wr w.heap.size 55 [.slice A m cA, .slice B mo cB])) (fun _ _ i _ => m - (intOf i).toNat)
  case atStart => exact ⟨0, Nat.zero_le _, rfl, rfl, Lib.hid ⟨HB.out, X.out⟩⟩
  case round =>
    obtain ⟨j, hj, rfl, rfl, HW⟩ := hrel
    by_cases hlt : j < m
    · have hji : (j : Int) < (m : Int) := by omega
      have hjo : (j : Int) < (mo : Int) := by omega
      obtain ⟨ad, rfl, abl, P, cP, p0, pb, pi⟩ := (HT.out.1.below HW.out.1 (Nat.le_refl _)) j (by rw [← HM.out]; exact hlt)
      obtain ⟨bd, rfl, bbl, Q, cQ, q0, qb, qi⟩ := (HT.out.2.below HW.out.1 (Nat.le_refl _)) j (by rw [← HMO.out]; omega)
      have hs := HS.out j hlt
      obtain ⟨pd, rfl, pbl, px⟩ := pi k hs.1.1
      obtain ⟨qd, rfl, qbl, qx⟩ := qi k hs.1.2
      have hkp : (k : Int) < ((T.inn.getD j []).length : Int) := by omega
      have hkq : (k : Int) < ((T.out.getD j []).length : Int) := by omega
      have hb := HD.out j (by omega)
      have hb2 := hs.2
      have HST := Lib.hid (show drP T k (j + 1) = drP T k j + ((T.inn.getD j []).getD k 0 - (T.out.getD j []).getD k 0) from rfl)
      clear hs pi qi
      generalize (T.inn.getD j []).getD k 0 = x at *
      generalize (T.out.getD j []).getD k 0 = y at *
      generalize (T.inn.getD j []).length = np at *
      generalize (T.out.getD j []).length = nq at *
      generalize drP T k j = d at *
      go_upto_region 4 with fail
      have c0 := HW.out.2.cell 0 rfl
      have c1 := HW.out.2.cell 1 rfl
      have lt0 := HW.out.2.lt
      have w1e : IntKind.i64.wrap (x - y) = x - y := IntWalk.i64_in _ (by omega)
      have w2e : IntKind.i64.wrap (d + (x - y)) = d + (x - y) := IntWalk.i64_in _ (by omega)
      have ab2 : (ad.add j).block < wr.heap.size := by rw [block_add]; exact abl
      have bb2 : (bd.add j).block < wr.heap.size := by rw [block_add]; exact bbl
      have pb2 : (pd.add k).block < wr.heap.size := by rw [block_add]; exact pbl
      have qb2 : (qd.add k).block < wr.heap.size := by rw [block_add]; exact qbl
      clear hb hb2
      refine wp_region_past (by kernel_rfl) (by kernel_rfl) ?_
      repeat (go_big_quiet_step (fail))
      refine wpQuiet_nil ?_
      intro xx
      have HX := Lib.hid (HW.out.1.trans (xx.far.mono HW.out.1.size))
      have BX := Lib.hid (HW.out.2.below xx.far HW.out.2.lt)
      generalize xx.w = w3 at HX BX ⊢
      clear c0 c1 lt0 ab2 bb2 pb2 qb2 w1e w2e p0 q0 px qx
      go_wp2_with fail
      exact ⟨⟨j + 1, by omega, by go_num, by rw [HST.out], Lib.hid ⟨HX.out, BX.out⟩⟩, by simp [intOf]; omega⟩
    · obtain rfl : j = m := by omega
      go_wp2_with fail
      go_ret
      exact ⟨rfl, HW.out.1⟩
end Go.Proofs.Ytmebpglkeedaoaa
namespace Go.Proofs.Ytmebpglkeedaoaa
open Go Go.RowKit
def rgPost3 {α : Type} (B : Nat) (I : List α → World → Prop) (c : Code) (Ix : List α → World → Prop) (pre : List α) (x : α) (W : World) : Exit → Act → World → Prop
  | .normal, _, W' => KeepsFrom B W W' ∧ I (pre ++ [x]) W'
  | .exit id, _, W' => c = .exit id ∧ KeepsFrom B W W' ∧ Ix (pre ++ [x]) W'
  | .ret, _, W' => c = .ret ∧ KeepsFrom B W W' ∧ Ix (pre ++ [x]) W'
  | _, _, _ => False
theorem range_mine3 {α : Type} {F : Fence} {n : Nat} {P : Program} {g : Operand} {ps : Array Tmp} {assign body : Code} {Q : Exit → Act → World → Prop} {a : Act} {w : World}
    (hro : F.round = none) (h1 : 1 ≤ n) {gf : Nat} {lb : Array Value} (hg : a.eval g = .func (.func gf) #[] lb) (hFg : F.fn gf) (eg : ∀ args w, (callFunc gf args).run P w = .ok (.enter gf args) w)
    {encs : α → Array Value} (hps : ∀ x, (encs x).size = ps.size) (I Ix : List α → World → Prop) (c : Code) (S Sp : List α → Prop) (Ok : List α → α → Prop)
    (hI : OwnFrom w.heap.size I) (hIx : OwnFrom w.heap.size Ix) (h0 : I [] w)
    (hseq : ∀ (l : Nat) (J Jx : List α → World → Prop) (W : World), (∀ pre W, J pre W → I pre W) → OwnFrom W.heap.size J → OwnFrom W.heap.size Jx → w.heap.size ≤ W.heap.size →
      (∀ pre x W1, J pre W1 → Ok pre x → YieldAt F (n - 1 - 1) P l (encs x) W1 fun e W' => KeepsFrom W.heap.size W1 W' ∧ ((e = .returned (.bool true) ∧ J (pre ++ [x]) W') ∨ (e = .returned (.bool false) ∧ Jx (pre ++ [x]) W'))) →
      J [] W → CallsIn F (n - 1) P gf (#[.func (.yield l) #[] #[]] ++ lb) W fun e W' => (∃ v, e = .returned v) ∧ ((∃ xs, S xs ∧ J xs W') ∨ (∃ pre, Sp pre ∧ Jx pre W')))
    (a₁ : α → Act)
    (hassign : ∀ (l : Nat) (x : α) (W : World) (K : Act → World → Prop), K (a₁ x) W →
      assign.wpIn (F.inRound l) (n - 1 - 1) P (Exit.then K (fun _ _ _ => False)) { tmps := (ps.zip (encs x)).foldl (fun t (p, v) => t.setIfInBounds p v) a.tmps, defers := [] } W)
    (hbody : ∀ (l : Nat) (pre : List α) (x : α) (W : World), I pre W → Ok pre x → body.wpIn (F.inRound l) (n - 1 - 1) P (rgPost3 w.heap.size I c Ix pre x W) (a₁ x) W)
    (hdone : ∀ (D : Nat) (xs : List α) (W : World), w.heap.size ≤ D → S xs → I xs W → W.heap[D]? = some (.deferred (some [])) → Q .normal { a with defers := { target := .collected D, args := #[] } :: a.defers } W)
    (hstop : ∀ (D : Nat) (pre : List α) (W : World), w.heap.size ≤ D → Sp pre → Ix pre W → W.heap[D]? = some (.deferred (some [])) → c.wpIn F n P Q { a with defers := { target := .collected D, args := #[] } :: a.defers } W) :
    (Code.rangeFunc g ps assign body).wpIn F n P Q a w := by
  refine wpIn_rangeFunc fun fn hfn => ?_
  rw [hro]
  -- the two blocks of the loop
  generalize hd : w.heap.size = d at *
  obtain ⟨rec, hrec⟩ : ∃ rec : LoopState → Option Code → Loop, rec = fun st pe => { state := st, pending := pe, fn, tmps := a.tmps, params := ps, assign, body, defers := d } := ⟨_, rfl⟩
  obtain ⟨W1, hW1⟩ : ∃ W1, (w.alloc (.deferred (some []))).alloc (.loop (rec .ready none)) = W1 := ⟨_, rfl⟩
  have eL : W1.heap[d + 1]? = some (.loop (rec .ready none)) := by
    rw [← hW1, ← hd]
    have h := World.alloc_heap_new (w.alloc (.deferred (some []))) (.loop (rec .ready none))
    rwa [World.size_alloc] at h
  have eD : W1.heap[d]? = some (.deferred (some [])) := by
    rw [← hW1, ← hd]
    exact (Below.heap_alloc _ _ _ (by simp)).trans (World.alloc_heap_new w _)
  have hz1 : W1.heap.size = d + 2 := by rw [← hW1, ← hd]; simp
  have i1 : I [] W1 := by rw [← hW1]; exact hI.alloc _ (hI.alloc _ h0)
  -- a turn of the record keeps what is kept
  have turn : ∀ {W : World} {o : Obj} (o' : Obj), W.heap[d + 1]? = some o → (W.putObj (d + 1) o').heap[d + 1]? = some o' ∧ ((W.putObj (d + 1) o').heap[d]? = W.heap[d]?) :=
    fun {W o} o' h => ⟨World.putObj_heap_same (Array.getElem?_eq_some_iff.1 h).1, World.putObj_heap_other (by omega)⟩
  refine ⟨d + 1, [{ target := .collected d, args := #[] }], W1, { target := .fn (.func gf) lb, args := #[.func (.yield (d + 1)) #[] #[]] }, W1, gf, #[.func (.yield (d + 1)) #[] #[]] ++ lb, W1, ?_, ?_, ?_, ?_, fun _ => h1, ?_⟩
  · rw [← hW1, hrec, ← hd]; exact run_enterLoop_outer _ _ _ _ _
  · simp only [resolve, hg]; simp [go_sem]
  · intro f' hf'
    simp [Target.leads] at hf'
    subst hf'
    exact hFg
  · simp [invoke, go_sem, eg]
  · refine (hseq (d + 1) (fun pre W => I pre W ∧ W.heap[d + 1]? = some (.loop (rec .ready none)) ∧ W.heap[d]? = some (.deferred (some [])))
      (fun pre W => Ix pre W ∧ W.heap[d + 1]? = some (.loop (rec .done (some c))) ∧ W.heap[d]? = some (.deferred (some []))) W1 (fun pre W h => h.1) (fun pre W W' row h hg hr => ⟨hI pre W W' row h.1 hg (fun r e => ⟨Nat.le_trans (by omega) (hr r e).1, (hr r e).2⟩), (hg.block _ (Array.getElem?_eq_some_iff.1 h.2.1).1 (fun e => by have := (hr _ e.symm).1; omega)).trans h.2.1, (hg.block _ (Array.getElem?_eq_some_iff.1 h.2.2).1 (fun e => by have := (hr _ e.symm).1; omega)).trans h.2.2⟩) (fun pre W W' row h hg hr => ⟨hIx pre W W' row h.1 hg (fun r e => ⟨Nat.le_trans (by omega) (hr r e).1, (hr r e).2⟩), (hg.block _ (Array.getElem?_eq_some_iff.1 h.2.1).1 (fun e => by have := (hr _ e.symm).1; omega)).trans h.2.1, (hg.block _ (Array.getElem?_eq_some_iff.1 h.2.2).1 (fun e => by have := (hr _ e.symm).1; omega)).trans h.2.2⟩) (by omega) ?_ ⟨i1, eL, eD⟩).mono ?_
    · rintro pre x W ⟨hi, hl, hk⟩ hok
      have hy := run_yield (P := P) (args := encs x) hl (by rw [hrec]; exact hps x)
      rw [hrec] at hy
      obtain ⟨W2, hW2⟩ : ∃ W2, W.putObj (d + 1) (.loop { rec .ready none with state := .busy }) = W2 := ⟨_, rfl⟩
      have hb := run_beginRound (P := P) hl (by rw [hrec])
      rw [hW2] at hb
      have t := turn (.loop { rec .ready none with state := .busy }) hl
      rw [hW2] at t
      have i2 : I pre W2 := by rw [← hW2]; exact hI.putObj _ hi (by omega) hl rfl
      refine ⟨fn, _, assign, body, hy, roundIn_of_wpIn hfn (hassign _ x W _ ⟨W2, hb, wpIn_mono (hbody _ pre x _ i2 hok) ?_⟩)⟩
      -- the end of the round, by the way in which it is left
      have close : ∀ (j : Option Code) (W3 : World), KeepsFrom d W2 W3 → ∃ W4, (Instr.endRound (d + 1) j).run P W3 = .ok (.bool j.isNone) W4 ∧ W4 = W3.putObj (d + 1) (.loop (rec (if j.isNone then .ready else .done) j)) ∧
          W3.heap[d + 1]? = some (.loop { rec .ready none with state := .busy }) ∧ W4.heap[d + 1]? = some (.loop (rec (if j.isNone then .ready else .done) j)) ∧ W4.heap[d]? = some (.deferred (some [])) ∧ KeepsFrom W1.heap.size W W4 := fun j W3 hk3 => by
        have l3 := hk3.same _ _ (by omega) t.1 rfl
        have k3 := hk3.same _ _ (by omega) (t.2.trans hk) rfl
        have he := run_endRound (P := P) j l3
        have t3 := turn (.loop (rec (if j.isNone then .ready else .done) j)) l3
        refine ⟨_, he, ?_, l3, ?_, ?_, ?_⟩
        · rw [hrec]
        · have := t3.1; rw [hrec] at this ⊢; exact this
        · exact (World.putObj_heap_other (by omega)).trans k3
        · refine ⟨?_, fun k o hk4 ho hc => ?_⟩
          · have e1 : W2.heap.size = W.heap.size := by rw [← hW2]; simp [World.putObj]
            have e2 := hk3.size
            have e3 : ∀ o : Obj, (W3.putObj (d + 1) o).heap.size = W3.heap.size := fun o => by simp [World.putObj]
            rw [e3]; omega
          · refine (World.putObj_heap_other (by omega)).trans (hk3.same k o (by omega) ?_ hc)
            rw [← hW2]
            exact (World.putObj_heap_other (by omega)).trans ho
      rintro e a3 W3 hp
      cases e with
      | normal =>
        obtain ⟨hk3, hi3⟩ := hp
        obtain ⟨W4, he, hW4, l3, l4, k4, kk⟩ := close none W3 hk3
        refine ⟨_, _, he, kk, .inl ⟨rfl, ?_, l4, k4⟩⟩
        rw [hW4]
        exact hI.putObj _ hi3 (by omega) l3 rfl
      | exit id =>
        obtain ⟨hc, hk3, hi3⟩ := hp
        obtain ⟨W4, he, hW4, l3, l4, k4, kk⟩ := close (some (.exit id)) W3 hk3
        refine ⟨_, _, he, kk, .inr ⟨rfl, ?_, by rw [hc]; exact l4, k4⟩⟩
        rw [hW4]
        exact hIx.putObj _ hi3 (by omega) l3 rfl
      | ret =>
        obtain ⟨hc, hk3, hi3⟩ := hp
        obtain ⟨W4, he, hW4, l3, l4, k4, kk⟩ := close (some .ret) W3 hk3
        refine ⟨_, _, he, kk, .inr ⟨rfl, ?_, by rw [hc]; exact l4, k4⟩⟩
        rw [hW4]
        exact hIx.putObj _ hi3 (by omega) l3 rfl
      | goto t => exact hp.elim
      | panic ch => exact hp.elim
      | outgrown => exact hp.elim
    · rintro e W2 ⟨⟨v, rfl⟩, (⟨xs, hS, hi, hl, hk⟩ | ⟨pre, hSp, hi, hl, hk⟩)⟩
      · have he := run_endLoop (P := P) hl (by rw [hrec]; simp)
        rw [hrec] at he
        have t := turn (.loop { rec .ready none with state := .exhausted }) hl
        refine ⟨none, _, he, hdone d xs _ (by omega) hS (hI.putObj _ hi (by omega) hl rfl) ?_⟩
        have := t.2.trans hk
        rw [hrec] at this
        exact this
      · have he := run_endLoop (P := P) hl (by rw [hrec]; simp)
        rw [hrec] at he
        have t := turn (.loop { rec .done (some c) with state := .exhausted }) hl
        refine ⟨some c, _, he, hstop d pre _ (by omega) hSp (hIx.putObj _ hi (by omega) hl rfl) ?_⟩
        have := t.2.trans hk
        rw [hrec] at this
        exact this
end Go.Proofs.Ytmebpglkeedaoaa
namespace Go.Proofs.Ytmebpglkeedaoaa
open Go.RowKit Go.Shelf Dp
attribute [local go_sem] Oper.semAt_some
theorem round_any {m m' k l : Nat} {P : Program} {f : FuncId} {tmps : Array Value} {assign body : Code} {w : World} {R : Ending → World → Prop} (h : RoundIn Fence.wide m P l f tmps assign body w R) : RoundIn (Fence.wide.inRound k) m' P l f tmps assign body w R :=
  ⟨h.1, fun c cs _ => h.2 c cs (room_wide _)⟩
theorem grown_below {w w' : World} (h : Below w.heap.size w w') : w.grownBy w' none := ⟨h.os, h.tape, h.output, h.size, fun k hk _ => h.block k hk⟩
theorem levels_c (v : Array Value) (a b : Value) (w : World) (hv : ∃ v0 v1 v2 v3 v4 v5, v = #[v0, v1, v2, v3, v4, v5]) (ha : ∃ A n c, a = .slice A n c) (hb : ∃ A n c, b = .slice A n c) :
    Calls Try.prog 75 #[.agg v, a, b] w fun e w' => e = .returned (.func (.func 107) #[] #[.pointer (some ⟨w.heap.size, 0, none⟩), .pointer (some ⟨w.heap.size + 1, 0, none⟩), .pointer (some ⟨w.heap.size + 2, 0, none⟩)]) ∧ w' = ((w.alloc (.cells v 63)).alloc (.cells #[a] 22)).alloc (.cells #[b] 22) := by
  obtain ⟨v0, v1, v2, v3, v4, v5, rfl⟩ := hv
  obtain ⟨A, n, c, rfl⟩ := ha
  obtain ⟨B, m, d, rfl⟩ := hb
  go_enter Try.func75, Try.ntmps75
  go_wp2
  go_ret
  exact ⟨rfl, rfl⟩
def lvs (c : Car) (x y : List Int) (k : Nat) : List (Int × Int) := (List.range k).map fun (j : Nat) => ((j : Int), lev c x y j)
theorem lvs_succ (c : Car) (x y : List Int) (k : Nat) : lvs c x y (k + 1) = lvs c x y k ++ [((k : Int), lev c x y k)] := by simp [lvs, List.range_succ]
structure LvM (bc bi bo : Nat) (c : Car) (x y : List Int) (T A B : Option Addr) (q n m cT cA cB : Nat) (W : World) : Prop where
  kc : Blk W bc 63 (carV c T q cT).toList
  ki : Blk W bi 22 [.slice A n cA]
  ko : Blk W bo 22 [.slice B m cB]
  kt : TripsAt W T c.trips
  kx : IntsAt W A x
  ky : IntsAt W B y
theorem LvM.below {bc bi bo : Nat} {c : Car} {x y : List Int} {T A B : Option Addr} {q n m cT cA cB : Nat} {W V : World} (h : LvM bc bi bo c x y T A B q n m cT cA cB W) (hb : Below W.heap.size W V) : LvM bc bi bo c x y T A B q n m cT cA cB V :=
  ⟨h.kc.below hb h.kc.lt, h.ki.below hb h.ki.lt, h.ko.below hb h.ko.lt, h.kt.below hb (Nat.le_refl _), h.kx.below hb (Nat.le_refl _), h.ky.below hb (Nat.le_refl _)⟩
set_option maxHeartbeats 4000000 in
set_option maxRecDepth 100000 in
theorem levels1_c (bc bi bo : Nat) (c : Car) (x y : List Int) (T A B : Option Addr) (q n m cT cA cB l : Nat) (hq : q = c.trips.length) (hcT : q ≤ cT ∧ cT ≤ 9223372036854775807) (hn : n = x.length) (hm : n ≤ m) (hmy : m = y.length) (hcA : n ≤ cA ∧ cA ≤ 9223372036854775807) (hcB : m ≤ cB ∧ cB ≤ 9223372036854775807)
    (hbd : ∀ k, k < n → (-167772160 ≤ lev c x y k ∧ lev c x y k ≤ 167772160) ∧ (0 ≤ x.getD k 0 ∧ x.getD k 0 ≤ 1048576) ∧ (0 ≤ y.getD k 0 ∧ y.getD k 0 ≤ 1048576) ∧ (0 ≤ useC c k ∧ useC c k ≤ 1048576))
    (J Jx : List (Int × Int) → World → Prop) (hJ : ∀ pre W, J pre W → LvM bc bi bo c x y T A B q n m cT cA cB W) (hJo : ∀ pre W W', J pre W → Below W.heap.size W W' → J pre W')
    (hY : ∀ k, k ≤ n → ∀ W1, J (lvs c x y k) W1 → YieldAt Fence.wide 1 Try.prog l #[.int .i64 k, .int .i64 (lev c x y k)] W1 fun e W' => (e = .returned (.bool true) ∧ J (lvs c x y (k + 1)) W') ∨ (e = .returned (.bool false) ∧ Jx (lvs c x y (k + 1)) W'))
    (W : World) (hj : J (lvs c x y 0) W) :
    CallsIn Fence.wide 2 Try.prog 107 #[.func (.yield l) #[] #[], .pointer (some ⟨bc, 0, none⟩), .pointer (some ⟨bi, 0, none⟩), .pointer (some ⟨bo, 0, none⟩)] W fun e W' => (∃ v, e = .returned v) ∧ (J (lvs c x y (n + 1)) W' ∨ (∃ k, k ≤ n ∧ Jx (lvs c x y (k + 1)) W')) := by
  refine callsIn_of_wp Try.func107 rfl trivial ?_ rfl
  simp only [Try.ntmps107, List.size_toArray, List.length_cons, List.length_nil, Nat.reduceAdd, Nat.reduceSub, Array.replicate_succ, Array.replicate_zero, List.push_toArray, List.append_toArray, List.nil_append, List.cons_append]
  have HQ := Lib.hid hq
  have HN := Lib.hid hn
  have HMY := Lib.hid hmy
  have HBD := Lib.hid hbd
  have HJ := Lib.hid hJ
  have HJO := Lib.hid hJo
  have HY := Lib.hid hY
  have HJ0 := Lib.hid hj
  clear hq hn hmy hbd hJ hJo hY
  have s0 := (HJ.out _ _ hj).kc.cell 3 rfl
  have i0 := (HJ.out _ _ hj).ki.cell 0 rfl
  have L0 := Lib.hid (show lev c x y 0 = c.start from rfl)
  clear hj
  gi_wp2
  clear s0 i0
  gi_loopw [5, 6, 7, 8, 13] (fun lv _ _ _ i wr => ∃ k : Nat, k ≤ n ∧ i = .int .i64 k ∧ lv = .int .i64 (lev c x y k) ∧ Hid (J (lvs c x y k) wr)) (fun _ _ _ _ i _ => n - (intOf i).toNat)
  case atStart => exact ⟨0, Nat.zero_le _, rfl, by rw [L0.out], HJ0⟩
  case round =>
    obtain ⟨k, hk, rfl, rfl, HK⟩ := hrel
    by_cases hlt : k < n
    · have hki : (k : Int) < (n : Int) := by omega
      have hkm : (k : Int) < (m : Int) := by omega
      obtain ⟨fn, tmps, assign, body, hy, hR⟩ := HY.out k hk _ HK.out
      have HST := Lib.hid (show lev c x y (k + 1) = lev c x y k + (x.getD k 0 - y.getD k 0 - useC c k) from rfl)
      have hb := HBD.out k hlt
      have HBB := Lib.hid hb
      clear hb
      generalize lev c x y k = v at *
      gi_wp2
      refine hR.mono ?_
      rintro e W1 (⟨rfl, hJ1⟩ | ⟨rfl, hJx1⟩)
      · have HJ1 := Lib.hid hJ1
        clear hJ1 hy hR
        have M1 := HJ.out _ _ HJ1.out
        have c0 := M1.kc.cell 0 rfl
        have c1 := M1.kc.cell 1 rfl
        have c2 := M1.kc.cell 2 rfl
        have c3 := M1.kc.cell 3 rfl
        have c4 := M1.kc.cell 4 rfl
        have c5 := M1.kc.cell 5 rfl
        have TC := trip_c (.int .i64 c.cap) (.int .i64 c.inn) (.int .i64 c.out) (.int .i64 c.start) (.int .i64 c.fin) k T c.trips q cT W1 HQ.out hcT M1.kt
        rw [show useP c.trips k q = useC c k from by unfold useC; rw [HQ.out]] at TC
        clear M1
        gi_wp2
        refine ⟨trivial, callsIn_wide.2 (TC.mono ?_)⟩
        rintro e W2 ⟨rfl, hb2⟩
        clear c0 c1 c2 c3 c4 c5
        have HJ2 := Lib.hid (HJO.out _ _ _ HJ1.out hb2)
        clear hb2
        generalize awayP c.trips k q = aw
        have M2 := HJ.out _ _ HJ2.out
        have i0 := M2.ki.cell 0 rfl
        have o0 := M2.ko.cell 0 rfl
        have il := M2.ki.lt
        have ol := M2.ko.lt
        obtain ⟨pd, rfl, pbl, px⟩ := M2.kx k (by rw [← HN.out]; exact hlt)
        obtain ⟨qd, rfl, qbl, qx⟩ := M2.ky k (by rw [← HMY.out]; omega)
        have pb2 : (pd.add k).block < W2.heap.size := by rw [block_add]; exact pbl
        have qb2 : (qd.add k).block < W2.heap.size := by rw [block_add]; exact qbl
        clear M2
        gi_wp2
        generalize x.getD k 0 = a at *
        generalize y.getD k 0 = b at *
        generalize useC c k = u at *
        have w1e : IntKind.i64.wrap (a - b) = a - b := IntWalk.i64_in _ (by have := HBB.out; omega)
        have w2e : IntKind.i64.wrap (a - b - u) = a - b - u := IntWalk.i64_in _ (by have := HBB.out; omega)
        have w3e : IntKind.i64.wrap (v + (a - b - u)) = v + (a - b - u) := IntWalk.i64_in _ (by have := HBB.out; omega)
        refine wpIn_wide.2 ?_
        refine wp_region_past (by kernel_rfl) (by kernel_rfl) ?_
        repeat (go_big_quiet_step (fail))
        refine wpQuiet_nil ?_
        intro xx
        have HJ3 := Lib.hid (HJO.out _ _ _ HJ2.out xx.far)
        generalize xx.w = W3 at HJ3 ⊢
        clear i0 o0 il ol pb2 qb2 px qx pbl qbl w1e w2e w3e
        gi_wp2
        exact ⟨⟨k + 1, by omega, by go_num, by rw [HST.out], HJ3⟩, by simp [intOf]; omega⟩
      · have HJX := Lib.hid hJx1
        clear hJx1 hy hR
        gi_wp2
        refine bodyPost_ret (results_none rfl _ _ _) rfl ?_
        exact ⟨⟨_, rfl⟩, .inr ⟨k, hk, HJX.out⟩⟩
    · obtain rfl : n = k := by omega
      obtain ⟨fn, tmps, assign, body, hy, hR⟩ := HY.out n hk _ HK.out
      have i0 := (HJ.out _ _ HK.out).ki.cell 0 rfl
      gi_wp2
      refine hR.mono ?_
      rintro e W1 (⟨rfl, hJ1⟩ | ⟨rfl, hJx1⟩)
      · have HJ1 := Lib.hid hJ1
        clear hJ1 hy hR i0
        gi_wp2
        go_end0
        exact ⟨⟨_, rfl⟩, .inl HJ1.out⟩
      · have HJX := Lib.hid hJx1
        clear hJx1 hy hR i0
        gi_wp2
        go_end0
        exact ⟨⟨_, rfl⟩, .inr ⟨n, hk, HJX.out⟩⟩
end Go.Proofs.Ytmebpglkeedaoaa
namespace Go.Proofs.Ytmebpglkeedaoaa
open Go.RowKit Dp
theorem lenNe_c (T : Option Addr) (q cT n bn : Nat) (w : World) (hb : w.cell? ⟨bn, 0, none⟩ = some (.int .i64 n)) :
    Calls Try.prog 106 #[.slice T q cT, .pointer (some ⟨bn, 0, none⟩)] w fun e w' => e = .returned (.bool (!decide (q = n))) ∧ w = w' := by
  by_cases h : q = n
  · subst h
    go_enter Try.func106, Try.ntmps106
    go_wp2
    go_ret
    exact ⟨ret_bool (by simp), rfl⟩
  · have h1 : ¬ (q : Int) = (n : Int) := by omega
    have h2 : ((q : Int) == (n : Int)) = false := by simpa using h1
    go_enter Try.func106, Try.ntmps106
    go_wp2
    go_ret
    exact ⟨ret_bool (by simp [h]; exact h1), rfl⟩
set_option maxHeartbeats 1000000 in
theorem IndexFunc_c (A : Option Addr) (rows : List (List Int)) (m cap n bn : Nat) (w : World) (hm : m = rows.length) (hcap : m ≤ cap ∧ cap ≤ 9223372036854775807) (hR : RowsAt w A rows) (hb : w.cell? ⟨bn, 0, none⟩ = some (.int .i64 n)) :
    Calls Try.prog 113 #[.slice A m cap, .func (.func 106) #[] #[.pointer (some ⟨bn, 0, none⟩)]] w fun e w' => (∃ r : Int, e = .returned (.int .i64 r) ∧ (0 ≤ r ↔ allB m (fun i => decide ((rows.getD i []).length = n)) = false)) ∧ w = w' := by
  have HM := Lib.hid hm
  have HR := Lib.hid hR
  clear hm hR
  have LC := Lib.hid (fun T q cT => lenNe_c T q cT n bn w hb)
  clear hb
  go_enter Try.func113, Try.ntmps113
  go_wp2_with fail
  go_loop [4, 5, 8] (fun _ _ i => ∃ k : Nat, k ≤ m ∧ i = .int .i64 k ∧ Hid (∀ j, j < k → (rows.getD j []).length = n)) (fun _ _ i => m - (intOf i).toNat)
  case atStart => exact ⟨0, Nat.zero_le _, rfl, Lib.hid (fun j hj => by omega)⟩
  case round =>
    obtain ⟨k, hk, rfl, HK⟩ := hrel
    by_cases hlt : k < m
    · have hki : (k : Int) < (m : Int) := by omega
      obtain ⟨ad, rfl, abl, T, cT, c0, cb, _⟩ := HR.out k (by rw [← HM.out]; exact hlt)
      have HL := Lib.hid (show (rows.getD k []).length = (rows.getD k []).length from rfl)
      have LK := LC.out T (rows.getD k []).length cT
      by_cases hq : (rows.getD k []).length = n
      · have HQ := Lib.hid hq
        rw [hq] at c0 LK cb
        clear hq
        rw [show (!decide (n = n)) = false from by simp] at LK
        go_wp2_with (go_at_call 106; refine LK.mono ?_; rintro e w1 ⟨rfl, rfl⟩)
        go_round
        case rel =>
          refine ⟨k + 1, by omega, by go_num, Lib.hid (fun j hj => ?_)⟩
          by_cases hjk : j < k
          · exact HK.out j hjk
          · obtain rfl : j = k := by omega
            exact HQ.out
        case measure => simp [intOf]; omega
      · have HA := Lib.hid (allB_no (n := m) (p := fun i => decide ((rows.getD i []).length = n)) k hlt (decide_eq_false hq))
        rw [show (!decide ((rows.getD k []).length = n)) = true from by rw [decide_eq_false hq]; rfl] at LK
        generalize (rows.getD k []).length = q at *
        clear hq
        go_wp2_with (go_at_call 106; refine LK.mono ?_; rintro e w1 ⟨rfl, rfl⟩)
        go_ret
        exact ⟨⟨_, rfl, fun _ => HA.out, fun _ => by omega⟩, rfl⟩
    · obtain rfl : m = k := by omega
      have HA := Lib.hid (allB_iff (n := m) (p := fun i => decide ((rows.getD i []).length = n)) |>.2 (fun j hj => decide_eq_true (HK.out j hj)))
      go_wp2_with fail
      go_ret
      exact ⟨⟨_, rfl, fun h => by omega, fun h => by have h' := HA.out.symm.trans h; cases h'⟩, rfl⟩
theorem ContainsFunc_c (A : Option Addr) (rows : List (List Int)) (m cap n bn : Nat) (w : World) (hm : m = rows.length) (hcap : m ≤ cap ∧ cap ≤ 9223372036854775807) (hR : RowsAt w A rows) (hb : w.cell? ⟨bn, 0, none⟩ = some (.int .i64 n)) :
    Calls Try.prog 105 #[.slice A m cap, .func (.func 106) #[] #[.pointer (some ⟨bn, 0, none⟩)]] w fun e w' => e = .returned (.bool (!allB m (fun i => decide ((rows.getD i []).length = n)))) ∧ w = w' := by
  have IC := IndexFunc_c A rows m cap n bn w hm hcap hR hb
  clear hR hm hb
  generalize allB m (fun i => decide ((rows.getD i []).length = n)) = v at *
  go_enter Try.func105, Try.ntmps105
  go_wp2_with fail
  refine IC.mono ?_
  rintro e w1 ⟨⟨r, rfl, hr⟩, rfl⟩
  by_cases h0 : 0 ≤ r
  · have hv := hr.1 h0
    subst hv
    clear hr IC
    go_wp2_with fail
    go_ret
    exact ⟨ret_bool (by simp), rfl⟩
  · have hv : v = true := by cases v
                             · exact absurd (hr.2 rfl) h0
                             · rfl
    subst hv
    clear hr IC
    go_wp2_with fail
    go_ret
    exact ⟨ret_bool (by simpa using h0), rfl⟩
theorem faults_c (v : Array Value) (a : Value) (u : Array Value) (w : World) (hv : ∃ v0 v1 v2 v3, v = #[v0, v1, v2, v3]) (ha : ∃ A n c, a = .slice A n c) (hu : ∃ v0 v1, u = #[v0, v1]) :
    Calls Try.prog 74 #[.agg v, a, .agg u] w fun e w' => e = .returned (.func (.func 104) #[] #[.pointer (some ⟨w.heap.size, 0, none⟩), .pointer (some ⟨w.heap.size + 2, 0, none⟩), .pointer (some ⟨w.heap.size + 1, 0, none⟩)]) ∧ w' = ((w.alloc (.cells v 51)).alloc (.cells #[a] 52)).alloc (.cells u 55) := by
  obtain ⟨v0, v1, v2, v3, rfl⟩ := hv
  obtain ⟨A, n, c, rfl⟩ := ha
  obtain ⟨u0, u1, rfl⟩ := hu
  go_enter Try.func74, Try.ntmps74
  go_wp2
  go_ret
  exact ⟨rfl, rfl⟩
end Go.Proofs.Ytmebpglkeedaoaa
namespace Go.Proofs.Ytmebpglkeedaoaa
namespace Dp
section
variable {S : Site} {cs : List Car} {T : Tab}
theorem slotsE_zero : ∀ {n : Nat}, (∀ k, k < n → slotE S cs T k = 0) → slotsE S cs T n = 0
  | 0, _ => rfl
  | n + 1, h => by
    unfold slotsE
    rw [slotsE_zero (fun k hk => h k (by omega)), if_pos rfl]
    exact h n (by omega)
theorem slotsE_at {k : Nat} {e : Int} (h : ∀ j, j < k → slotE S cs T j = 0) (he : slotE S cs T k = e) (h0 : e ≠ 0) : ∀ d, slotsE S cs T (k + 1 + d) = e
  | 0 => by
    show slotsE S cs T (k + 1) = e
    unfold slotsE
    rw [slotsE_zero h, if_pos rfl, he]
  | d + 1 => by
    have ih := slotsE_at h he h0 d
    show slotsE S cs T (k + 1 + d + 1) = e
    unfold slotsE
    rw [ih, if_neg h0]
theorem plE_len (h0 : stE S cs = 0) (h : (lenG cs.length S.lim.length T.inn && lenG cs.length S.lim.length T.out) = false) : plE S cs T = 20 := by
  unfold plE; rw [if_pos h0, h]; rfl
theorem plE_slot (h0 : stE S cs = 0) (hl : (lenG cs.length S.lim.length T.inn && lenG cs.length S.lim.length T.out) = true) {k : Nat} {e : Int} (hk : k < S.lim.length) (h : ∀ j, j < k → slotE S cs T j = 0) (he : slotE S cs T k = e) (hne : e ≠ 0) : plE S cs T = e := by
  have := slotsE_at h he hne (S.lim.length - (k + 1))
  rw [show k + 1 + (S.lim.length - (k + 1)) = S.lim.length by omega] at this
  unfold plE
  rw [if_pos h0, if_pos hl, this, if_neg hne]
theorem plE_lev (h0 : stE S cs = 0) (hl : (lenG cs.length S.lim.length T.inn && lenG cs.length S.lim.length T.out) = true) (h : ∀ j, j < S.lim.length → slotE S cs T j = 0) {i : Nat} (hi : i < cs.length) {k : Nat} (hk : k ≤ S.lim.length)
    (hg : levG (cs.getD i default) (T.inn.getD i []) (T.out.getD i []) S.lim.length k = false) : plE S cs T = 19 := by
  have h1 : levsG cs T S.lim.length i = false := allB_no k (by omega) hg
  have h2 : allB cs.length (levsG cs T S.lim.length) = false := allB_no i hi h1
  unfold plE
  rw [if_pos h0, if_pos hl, slotsE_zero h, if_pos rfl, h2]
  rfl
theorem plE_good (h0 : stE S cs = 0) (hl : (lenG cs.length S.lim.length T.inn && lenG cs.length S.lim.length T.out) = true) (h : ∀ j, j < S.lim.length → slotE S cs T j = 0)
    (hg : ∀ i, i < cs.length → ∀ k, k ≤ S.lim.length → levG (cs.getD i default) (T.inn.getD i []) (T.out.getD i []) S.lim.length k = true) : plE S cs T = 0 := by
  have h2 : allB cs.length (levsG cs T S.lim.length) = true := allB_iff.2 fun i hi => allB_iff.2 fun k hk => hg i hi k (by omega)
  unfold plE
  rw [if_pos h0, if_pos hl, slotsE_zero h, if_pos rfl, if_pos h2]
theorem slotE_car {k i : Nat} (hi : i < cs.length) (h : carAt cs T k i = false) : slotE S cs T k = 3 := by
  have : allB cs.length (carAt cs T k) = false := allB_no i hi h
  unfold slotE; rw [this]; rfl
theorem slotE_lim {k : Nat} (h : ∀ i, i < cs.length → carAt cs T k i = true) (hd : ¬ (drP T k T.inn.length ≤ S.lim.getD k 0 ∧ -(S.exp.getD k 0) ≤ drP T k T.inn.length)) : slotE S cs T k = 17 := by
  have : allB cs.length (carAt cs T k) = true := allB_iff.2 h
  unfold slotE; rw [if_pos this, if_neg hd]
theorem slotE_ok {k : Nat} (h : ∀ i, i < cs.length → carAt cs T k i = true) (hd : drP T k T.inn.length ≤ S.lim.getD k 0 ∧ -(S.exp.getD k 0) ≤ drP T k T.inn.length) : slotE S cs T k = 0 := by
  have : allB cs.length (carAt cs T k) = true := allB_iff.2 h
  unfold slotE; rw [if_pos this, if_pos hd]
theorem slot_bd (h0 : stE S cs = 0) (hl : (lenG cs.length S.lim.length T.inn && lenG cs.length S.lim.length T.out) = true) {k : Nat} (hk : k < S.lim.length) (h : ∀ i, i < cs.length → carAt cs T k i = true) : SlotBd T k cs.length := by
  rw [Bool.and_eq_true] at hl
  have a := lenG_iff.1 hl.1
  have b := lenG_iff.1 hl.2
  intro i hi
  have c := carOk_iff.1 ((stE_0 h0).2.2.2 i hi)
  have d := carG_iff.1 (h i hi)
  have e := a.2 i hi
  have f := b.2 i hi
  exact ⟨⟨by omega, by omega⟩, ⟨by omega, by omega⟩, by omega, by omega⟩
theorem row_bd (h0 : stE S cs = 0) (hl : (lenG cs.length S.lim.length T.inn && lenG cs.length S.lim.length T.out) = true) (h : ∀ k, k < S.lim.length → ∀ i, i < cs.length → carAt cs T k i = true) {i : Nat} (hi : i < cs.length) :
    RowBd S.lim.length (T.inn.getD i []) ∧ RowBd S.lim.length (T.out.getD i []) := by
  rw [Bool.and_eq_true] at hl
  have a := lenG_iff.1 hl.1
  have b := lenG_iff.1 hl.2
  have c := carOk_iff.1 ((stE_0 h0).2.2.2 i hi)
  refine ⟨⟨a.2 i hi, fun k hk => ?_⟩, ⟨b.2 i hi, fun k hk => ?_⟩⟩
  · have d := carG_iff.1 (h k hk i hi)
    omega
  · have d := carG_iff.1 (h k hk i hi)
    omega
theorem slotE_cars {k : Nat} (h : slotE S cs T k = 0) : ∀ i, i < cs.length → carAt cs T k i = true := (slotE_0 h).1
end
theorem lev_all {n : Nat} {c : Car} {x y : List Int} (hn : n ≤ 48) (hc : carOk n c = true) (hx : RowBd n x) (hy : RowBd n y) : ∀ k, k < n → (-167772160 ≤ lev c x y k ∧ lev c x y k ≤ 167772160) ∧ (0 ≤ x.getD k 0 ∧ x.getD k 0 ≤ 1048576) ∧ (0 ≤ y.getD k 0 ∧ y.getD k 0 ≤ 1048576) ∧ (0 ≤ useC c k ∧ useC c k ≤ 1048576) := by
  intro k hk
  have h1 := lev_bd hc hx hy k (by omega)
  exact ⟨⟨by omega, by omega⟩, hx.2 k hk, hy.2 k hk, useC_bd hc k⟩
end Dp
end Go.Proofs.Ytmebpglkeedaoaa
namespace Go.Proofs.Ytmebpglkeedaoaa
open Go Go.RowKit
def markOf (r : Nat) : Deferred := { target := .collected r, args := #[] }
def Marks (B : Nat) (ds : List Deferred) (W : World) : Prop := ∃ rs : List Nat, ds = rs.map markOf ∧ rs.Nodup ∧ ∀ r, r ∈ rs → B ≤ r ∧ W.heap[r]? = some (.deferred (some []))
theorem Marks.nil (B : Nat) (W : World) : Marks B [] W := ⟨[], rfl, List.nodup_nil, fun r h => by cases h⟩
theorem Marks.keep {B : Nat} {ds : List Deferred} {W W' : World} (h : Marks B ds W) (k : KeepsFrom B W W') : Marks B ds W' := by
  obtain ⟨rs, h1, h2, h3⟩ := h
  exact ⟨rs, h1, h2, fun r hr => ⟨(h3 r hr).1, k.same r _ (h3 r hr).1 (h3 r hr).2 rfl⟩⟩
theorem Marks.below {B : Nat} {ds : List Deferred} {W W' : World} (h : Marks B ds W) (k : Below W.heap.size W W') : Marks B ds W' := by
  obtain ⟨rs, h1, h2, h3⟩ := h
  exact ⟨rs, h1, h2, fun r hr => ⟨(h3 r hr).1, (k.block r (Array.getElem?_eq_some_iff.1 (h3 r hr).2).1).trans (h3 r hr).2⟩⟩
theorem Marks.cons {B D : Nat} {ds : List Deferred} {W0 W : World} (h0 : Marks B ds W0) (hz : W0.heap.size ≤ D) (hB : B ≤ D) (h : Marks B ds W) (hD : W.heap[D]? = some (.deferred (some []))) : Marks B (markOf D :: ds) W := by
  obtain ⟨rs, h1, h2, h3⟩ := h
  obtain ⟨rs0, h4, h5, h6⟩ := h0
  have e : rs0 = rs := by
    rw [h4] at h1
    have hinj : ∀ a b, markOf a = markOf b → a = b := fun a b e => by cases e; rfl
    clear h2 h3 h4 h5 h6
    induction rs0 generalizing rs with
    | nil => cases rs with
      | nil => rfl
      | cons a l => cases h1
    | cons a l ih => cases rs with
      | nil => cases h1
      | cons b m =>
        simp only [List.map_cons, List.cons.injEq] at h1
        rw [hinj _ _ h1.1, ih m h1.2]
  subst e
  refine ⟨D :: rs0, by rw [h1]; rfl, List.nodup_cons.2 ⟨fun hm => ?_, h2⟩, fun r hr => ?_⟩
  · have := (Array.getElem?_eq_some_iff.1 (h6 D hm).2).1
    omega
  · rcases List.mem_cons.1 hr with rfl | hr
    · exact ⟨hB, hD⟩
    · exact h3 r hr
theorem marks_own {B D : Nat} {ds : List Deferred} {W0 : World} (h0 : Marks B ds W0) (hz : W0.heap.size ≤ D) : OwnFrom D (fun (_ : Unit) W => Marks B ds W) := by
  rintro _ W W' row ⟨rs, h1, h2, h3⟩ hg hr
  obtain ⟨rs0, h4, h5, h6⟩ := h0
  have e : ∀ r, r ∈ rs → r < W0.heap.size := fun r hm => by
    have : markOf r ∈ rs0.map markOf := by rw [← h4, h1]; exact List.mem_map_of_mem hm
    obtain ⟨r', hr', e⟩ := List.mem_map.1 this
    cases e
    exact (Array.getElem?_eq_some_iff.1 (h6 _ hr').2).1
  refine ⟨rs, h1, h2, fun r hm => ⟨(h3 r hm).1, (hg.block r (Array.getElem?_eq_some_iff.1 (h3 r hm).2).1 (fun e' => ?_)).trans (h3 r hm).2⟩⟩
  have := (hr r e'.symm).1
  have := e r hm
  omega
theorem leaves_marks {F : Fence} {n : Nat} {P : Program} {fn : Func} {tmps : Array Value} {R : Ending → World → Prop} {B : Nat} {C : World → Prop} {u : FrameMode} (hu : u ≠ .run)
    (hC : OwnFrom B (fun (_ : Unit) W => C W)) (hend : ∀ W, C W → LeavesInM F n P fn tmps R [] u W) {ds : List Deferred} {W : World} (hm : Marks B ds W) (hc : C W) : LeavesInM F n P fn tmps R ds u W := by
  obtain ⟨rs, rfl, h2, h3⟩ := hm
  induction rs generalizing W with
  | nil => exact hend W hc
  | cons r rs ih =>
    have hr := h3 r (by simp)
    refine ⟨hu, .inl ⟨r, _, rfl, run_takeDeferred hr.2, ?_⟩⟩
    refine ih (hC.putObj (s := ()) _ hc hr.1 hr.2 rfl) (List.nodup_cons.1 h2).2 (fun r' hr' => ?_)
    have hne : r' ≠ r := fun e => (List.nodup_cons.1 h2).1 (e ▸ hr')
    have := h3 r' (by simp [hr'])
    exact ⟨this.1, (World.putObj_heap_other hne).trans this.2⟩
end Go.Proofs.Ytmebpglkeedaoaa
namespace Go.Proofs.Ytmebpglkeedaoaa
open Go.RowKit Go.Shelf Dp
attribute [local go_sem] Oper.semAt_some
structure FtH (S : Site) (cs : List Car) (T : Tab) (n m p q cA cB cC cD cE cP cQ : Nat) : Prop where
  hn : n = S.lim.length
  hm : m = cs.length
  hp : p = T.inn.length
  hq : q = T.out.length
  ok : stE S cs = 0
  ha : n ≤ cA ∧ cA ≤ 9223372036854775807
  hb : n ≤ cB ∧ cB ≤ 9223372036854775807
  hc : n ≤ cC ∧ cC ≤ 9223372036854775807
  hd : n ≤ cD ∧ cD ≤ 9223372036854775807
  he : m ≤ cE ∧ cE ≤ 9223372036854775807
  hx : p ≤ cP ∧ cP ≤ 9223372036854775807
  hy : q ≤ cQ ∧ cQ ≤ 9223372036854775807
structure FtM (bs bt bc : Nat) (S : Site) (cs : List Car) (T : Tab) (A B C D E P Q : Option Addr) (n m p q cA cB cC cD cE cP cQ : Nat) (W : World) : Prop where
  ks : Blk W bs 51 [.slice A n cA, .slice B n cB, .slice C n cC, .slice D n cD]
  kt : Blk W bt 55 [.slice P p cP, .slice Q q cQ]
  kc : Blk W bc 52 [.slice E m cE]
  hs : SiteAt W A B C D S
  ht : TabAt W P Q T
  hc : CarsAt W E cs
theorem FtM.below {bs bt bc : Nat} {S : Site} {cs : List Car} {T : Tab} {A B C D E P Q : Option Addr} {n m p q cA cB cC cD cE cP cQ : Nat} {W V : World} (h : FtM bs bt bc S cs T A B C D E P Q n m p q cA cB cC cD cE cP cQ W) (hb : Below W.heap.size W V) : FtM bs bt bc S cs T A B C D E P Q n m p q cA cB cC cD cE cP cQ V :=
  ⟨h.ks.below hb h.ks.lt, h.kt.below hb h.kt.lt, h.kc.below hb h.kc.lt, h.hs.below hb (Nat.le_refl _), h.ht.below hb (Nat.le_refl _), h.hc.below hb (Nat.le_refl _)⟩
theorem end104 {R : Ending → World → Prop} {tmps : Array Value} {n : Nat} : ∀ W : World, (∀ v, R (.returned v) W) → LeavesInM Fence.wide n Try.prog Try.f104 tmps R [] .returning W := fun W h => ⟨_, results_none rfl _ _ _, h _⟩
end Go.Proofs.Ytmebpglkeedaoaa
namespace Go.Proofs.Ytmebpglkeedaoaa
open Go.RowKit Go.Shelf Dp
attribute [local go_sem] Oper.semAt_some
noncomputable def loop104 : Code := ((Try.f104.body.bind (blockOf 6)).getD .skip)
def St8 (J : World → Prop) (b4 b5 l n D0 : Nat) (V : World) : Prop := J V ∧ Blk V b4 161 [.func (.yield l) #[] #[]] ∧ Blk V b5 3 [.int .i64 n] ∧ D0 ≤ V.heap.size
def R104 (S : Site) (cs : List Car) (T : Tab) (J : World → Prop) (Jx : Int → World → Prop) : Ending → World → Prop := fun e W' => (∃ v, e = .returned v) ∧ ((plE S cs T = 0 ∧ J W') ∨ (plE S cs T ≠ 0 ∧ Jx (plE S cs T) W'))
def Rel4 (S : Site) (cs : List Car) (T : Tab) (J : World → Prop) (b4 b5 l n m D0 : Nat) (v : Value) (ds : List Deferred) (w : World) : Prop :=
  ∃ i : Nat, v = .int .i64 i ∧ i ≤ m ∧ Marks D0 ds w ∧ St8 J b4 b5 l n D0 w ∧ ∀ x, x < i → ∀ k, k ≤ n → levG (cs.getD x default) (T.inn.getD x []) (T.out.getD x []) n k = true
theorem blk_kept {W W' : World} {row : Option Nat} {g D : Nat} {t : TypeId} {vs : List Value} (h : Blk W g t vs) (hg : W.grownBy W' row) (hr : ∀ r, row = some r → D ≤ r ∧ ∃ o : Obj, W.heap[r]? = some o ∧ o.isCells = false) : Blk W' g t vs :=
  h.of_eq (hg.block g h.lt (fun e => by
    obtain ⟨o, ho, hc⟩ := (hr g e.symm).2
    have h' : W.heap[g]? = some (.cells vs.toArray t (0, 0)) := h
    rw [h'] at ho
    cases ho
    cases hc))
set_option maxHeartbeats 8000000 in
set_option maxRecDepth 100000 in
theorem faults4_c (bs bt bc b4 b5 : Nat) (S : Site) (cs : List Car) (T : Tab) (A B C D E P Q : Option Addr) (n m p q cA cB cC cD cE cP cQ l D0 : Nat) (hH : FtH S cs T n m p q cA cB cC cD cE cP cQ) (hpm : p = m) (hqm : q = m)
    (hL : (lenG cs.length S.lim.length T.inn && lenG cs.length S.lim.length T.out) = true) (hSl : ∀ j, j < n → slotE S cs T j = 0)
    (J : World → Prop) (Jx : Int → World → Prop) (hJ : ∀ W, J W → FtM bs bt bc S cs T A B C D E P Q n m p q cA cB cC cD cE cP cQ W) (hJo : OwnFrom D0 (fun (_ : Unit) W => J W)) (hJxo : ∀ e, OwnFrom D0 (fun (_ : Unit) W => Jx e W))
    (hY : ∀ e W1, J W1 → YieldAt Fence.wide 1 Try.prog l #[.int .i64 e] W1 fun e' W' => KeepsFrom D0 W1 W' ∧ e' = .returned (.bool false) ∧ Jx e W')
    (W0 : World) (h0 : St8 J b4 b5 l n D0 W0) {x6 x7 x8 x9 x10 x11 x12 x13 x14 x15 x16 x17 x18 x19 x20 x21 x22 x23 x24 x25 x26 x27 x28 x29 x30 x31 x32 x33 x34 x35 x36 x37 x38 x39 x40 x41 x42 x43 x44 x45 x46 x47 x48 x49 x50 x51 x52 x53 x54 x55 x56 x57 x58 x59 x60 x61 x62 x63 x64 x65 x66 x67 x68 x69 x70 x71 x72 x73 x74 x75 x76 x77 x78 x79 x80 x81 x82 x83 x84 x85 x86 x87 x88 x89 x90 x91 x92 x93 x94 x95 x96 x97 x98 x99 x100 x101 x102 x103 x104 x105 x106 x107 x108 x109 x110 x111 x112 x113 x114 x115 x116 x117 x118 x119 x120 x121 x122 x123 x124 x125 x126 x127 x128 x129 x130 x131 x132 x136 x137 x138 x139 x140 x141 x142 x143 x144 x145 x146 x147 x148 x149 x150 x151 x152 x153 x154 x155 x156 x157 x158 x159 x160 x161 x162 x163 x164 x165 x166 x167 x168 x169 x170 x171 x172 x173 x174 x175 x176 x177 x178 x179 x180 x181 x182 x183 x184 x185 x186 x187 x188 x189 : Value} :
    Code.wpIn Fence.wide 2 Try.prog loop104 (Exit.inBlock 6 (bodyPostM Fence.wide 2 Try.prog Try.f104 (R104 S cs T J Jx))) { tmps := List.toArray ((.func (.yield l) #[] #[] : Value) :: (.pointer (some ⟨bs, 0, none⟩) : Value) :: (.pointer (some ⟨bt, 0, none⟩) : Value) :: (.pointer (some ⟨bc, 0, none⟩) : Value) :: (.pointer (some ⟨b4, 0, none⟩) : Value) :: (.pointer (some ⟨b5, 0, none⟩) : Value) :: x6 :: x7 :: x8 :: x9 :: x10 :: x11 :: x12 :: x13 :: x14 :: x15 :: x16 :: x17 :: x18 :: x19 :: x20 :: x21 :: x22 :: x23 :: x24 :: x25 :: x26 :: x27 :: x28 :: x29 :: x30 :: x31 :: x32 :: x33 :: x34 :: x35 :: x36 :: x37 :: x38 :: x39 :: x40 :: x41 :: x42 :: x43 :: x44 :: x45 :: x46 :: x47 :: x48 :: x49 :: x50 :: x51 :: x52 :: x53 :: x54 :: x55 :: x56 :: x57 :: x58 :: x59 :: x60 :: x61 :: x62 :: x63 :: x64 :: x65 :: x66 :: x67 :: x68 :: x69 :: x70 :: x71 :: x72 :: x73 :: x74 :: x75 :: x76 :: x77 :: x78 :: x79 :: x80 :: x81 :: x82 :: x83 :: x84 :: x85 :: x86 :: x87 :: x88 :: x89 :: x90 :: x91 :: x92 :: x93 :: x94 :: x95 :: x96 :: x97 :: x98 :: x99 :: x100 :: x101 :: x102 :: x103 :: x104 :: x105 :: x106 :: x107 :: x108 :: x109 :: x110 :: x111 :: x112 :: x113 :: x114 :: x115 :: x116 :: x117 :: x118 :: x119 :: x120 :: x121 :: x122 :: x123 :: x124 :: x125 :: x126 :: x127 :: x128 :: x129 :: x130 :: x131 :: x132 :: (.slice E m cE : Value) :: (.int .i64 m : Value) :: (.int .i64 0 : Value) :: x136 :: x137 :: x138 :: x139 :: x140 :: x141 :: x142 :: x143 :: x144 :: x145 :: x146 :: x147 :: x148 :: x149 :: x150 :: x151 :: x152 :: x153 :: x154 :: x155 :: x156 :: x157 :: x158 :: x159 :: x160 :: x161 :: x162 :: x163 :: x164 :: x165 :: x166 :: x167 :: x168 :: x169 :: x170 :: x171 :: x172 :: x173 :: x174 :: x175 :: x176 :: x177 :: x178 :: x179 :: x180 :: x181 :: x182 :: x183 :: x184 :: x185 :: x186 :: x187 :: x188 :: x189 :: []), defers := [] } W0 := by
  have HH := Lib.hid hH
  have HV1 := Lib.hid hpm
  have HV2 := Lib.hid hqm
  have HL := Lib.hid hL
  have HSL := Lib.hid hSl
  have HJ := Lib.hid hJ
  have HJO := Lib.hid hJo
  have HJXO := Lib.hid hJxo
  have HJB : Hid (∀ W W', J W → Below W.heap.size W W' → J W') := Lib.hid (fun W W' h hb => hJo () W W' none h (grown_below hb) (fun r e => by cases e))
  have HY := Lib.hid hY
  have H0 := Lib.hid h0
  have HS8 : Hid (∀ V V', St8 J b4 b5 l n D0 V → Below V.heap.size V V' → St8 J b4 b5 l n D0 V') := Lib.hid (fun V V' h hb => ⟨HJB.out _ _ h.1 hb, h.2.1.below hb h.2.1.lt, h.2.2.1.below hb h.2.2.1.lt, Nat.le_trans h.2.2.2 hb.size⟩)
  have ee := hH.he
  have ep := hH.hx
  have eq := hH.hy
  clear hH hpm hqm hL hSl hJ hJo hJxo hY h0
  conv => arg 4; whnf
  refine wpIn_loop (fun a w => ∃ u16 u17 u18 u19 u20 u135 u136 u137 u138 u139 u140 u141 u142 u143 u144 u145 u146 u147 u148 u149 u150 u151 u152 u153 u154 u155 u156 u157 u158 u159 u160 u161 u162 u163 u164 u165 u166 u167 u168 u169 u170 u171 u172 u173 u174 u175 u176 u177 u178 u179 u180 u181 u182 u183 u184 u185 u186 u187 u188 u189 ds, (Rel4 S cs T J b4 b5 l n m D0 u135 ds w) ∧ a = { tmps := List.toArray ((.func (.yield l) #[] #[] : Value) :: (.pointer (some ⟨bs, 0, none⟩) : Value) :: (.pointer (some ⟨bt, 0, none⟩) : Value) :: (.pointer (some ⟨bc, 0, none⟩) : Value) :: (.pointer (some ⟨b4, 0, none⟩) : Value) :: (.pointer (some ⟨b5, 0, none⟩) : Value) :: x6 :: x7 :: x8 :: x9 :: x10 :: x11 :: x12 :: x13 :: x14 :: x15 :: u16 :: u17 :: u18 :: u19 :: u20 :: x21 :: x22 :: x23 :: x24 :: x25 :: x26 :: x27 :: x28 :: x29 :: x30 :: x31 :: x32 :: x33 :: x34 :: x35 :: x36 :: x37 :: x38 :: x39 :: x40 :: x41 :: x42 :: x43 :: x44 :: x45 :: x46 :: x47 :: x48 :: x49 :: x50 :: x51 :: x52 :: x53 :: x54 :: x55 :: x56 :: x57 :: x58 :: x59 :: x60 :: x61 :: x62 :: x63 :: x64 :: x65 :: x66 :: x67 :: x68 :: x69 :: x70 :: x71 :: x72 :: x73 :: x74 :: x75 :: x76 :: x77 :: x78 :: x79 :: x80 :: x81 :: x82 :: x83 :: x84 :: x85 :: x86 :: x87 :: x88 :: x89 :: x90 :: x91 :: x92 :: x93 :: x94 :: x95 :: x96 :: x97 :: x98 :: x99 :: x100 :: x101 :: x102 :: x103 :: x104 :: x105 :: x106 :: x107 :: x108 :: x109 :: x110 :: x111 :: x112 :: x113 :: x114 :: x115 :: x116 :: x117 :: x118 :: x119 :: x120 :: x121 :: x122 :: x123 :: x124 :: x125 :: x126 :: x127 :: x128 :: x129 :: x130 :: x131 :: x132 :: (.slice E m cE : Value) :: (.int .i64 m : Value) :: u135 :: u136 :: u137 :: u138 :: u139 :: u140 :: u141 :: u142 :: u143 :: u144 :: u145 :: u146 :: u147 :: u148 :: u149 :: u150 :: u151 :: u152 :: u153 :: u154 :: u155 :: u156 :: u157 :: u158 :: u159 :: u160 :: u161 :: u162 :: u163 :: u164 :: u165 :: u166 :: u167 :: u168 :: u169 :: u170 :: u171 :: u172 :: u173 :: u174 :: u175 :: u176 :: u177 :: u178 :: u179 :: u180 :: u181 :: u182 :: u183 :: u184 :: u185 :: u186 :: u187 :: u188 :: u189 :: []), defers := ds }) (fun a w => m - (intOf (a.tmps.getD 135 undef)).toNat) ?start ?round
  case start =>
    (repeat apply Exists.intro)
    refine ⟨⟨0, rfl, Nat.zero_le _, Marks.nil _ _, H0.out, fun x hx => by omega⟩, rfl⟩
  intro a w hinv
  obtain ⟨u16, hinv⟩ := hinv
  obtain ⟨u17, hinv⟩ := hinv
  obtain ⟨u18, hinv⟩ := hinv
  obtain ⟨u19, hinv⟩ := hinv
  obtain ⟨u20, hinv⟩ := hinv
  obtain ⟨u135, hinv⟩ := hinv
  obtain ⟨u136, hinv⟩ := hinv
  obtain ⟨u137, hinv⟩ := hinv
  obtain ⟨u138, hinv⟩ := hinv
  obtain ⟨u139, hinv⟩ := hinv
  obtain ⟨u140, hinv⟩ := hinv
  obtain ⟨u141, hinv⟩ := hinv
  obtain ⟨u142, hinv⟩ := hinv
  obtain ⟨u143, hinv⟩ := hinv
  obtain ⟨u144, hinv⟩ := hinv
  obtain ⟨u145, hinv⟩ := hinv
  obtain ⟨u146, hinv⟩ := hinv
  obtain ⟨u147, hinv⟩ := hinv
  obtain ⟨u148, hinv⟩ := hinv
  obtain ⟨u149, hinv⟩ := hinv
  obtain ⟨u150, hinv⟩ := hinv
  obtain ⟨u151, hinv⟩ := hinv
  obtain ⟨u152, hinv⟩ := hinv
  obtain ⟨u153, hinv⟩ := hinv
  obtain ⟨u154, hinv⟩ := hinv
  obtain ⟨u155, hinv⟩ := hinv
  obtain ⟨u156, hinv⟩ := hinv
  obtain ⟨u157, hinv⟩ := hinv
  obtain ⟨u158, hinv⟩ := hinv
  obtain ⟨u159, hinv⟩ := hinv
  obtain ⟨u160, hinv⟩ := hinv
  obtain ⟨u161, hinv⟩ := hinv
  obtain ⟨u162, hinv⟩ := hinv
  obtain ⟨u163, hinv⟩ := hinv
  obtain ⟨u164, hinv⟩ := hinv
  obtain ⟨u165, hinv⟩ := hinv
  obtain ⟨u166, hinv⟩ := hinv
  obtain ⟨u167, hinv⟩ := hinv
  obtain ⟨u168, hinv⟩ := hinv
  obtain ⟨u169, hinv⟩ := hinv
  obtain ⟨u170, hinv⟩ := hinv
  obtain ⟨u171, hinv⟩ := hinv
  obtain ⟨u172, hinv⟩ := hinv
  obtain ⟨u173, hinv⟩ := hinv
  obtain ⟨u174, hinv⟩ := hinv
  obtain ⟨u175, hinv⟩ := hinv
  obtain ⟨u176, hinv⟩ := hinv
  obtain ⟨u177, hinv⟩ := hinv
  obtain ⟨u178, hinv⟩ := hinv
  obtain ⟨u179, hinv⟩ := hinv
  obtain ⟨u180, hinv⟩ := hinv
  obtain ⟨u181, hinv⟩ := hinv
  obtain ⟨u182, hinv⟩ := hinv
  obtain ⟨u183, hinv⟩ := hinv
  obtain ⟨u184, hinv⟩ := hinv
  obtain ⟨u185, hinv⟩ := hinv
  obtain ⟨u186, hinv⟩ := hinv
  obtain ⟨u187, hinv⟩ := hinv
  obtain ⟨u188, hinv⟩ := hinv
  obtain ⟨u189, hinv⟩ := hinv
  obtain ⟨ds, hinv⟩ := hinv
  obtain ⟨⟨i, rfl, hi, HMK, HST, HLV⟩, rfl⟩ := hinv
  have HW := Lib.hid (And.intro HMK (And.intro HST HLV))
  clear HMK HST HLV
  try dsimp only
  by_cases hlt : i < m
  · have hii : (i : Int) < (m : Int) := by omega
    have il : i < cs.length := by rw [← HH.out.hm]; exact hlt
    have M := HJ.out _ HW.out.2.1.1
    obtain ⟨ad, rfl, abl, c0, c1, c2, c3, c4, TT, cT, c5, hcT, HTT⟩ := M.hc i il
    have HTR := Lib.hid HTT
    have HCOK := Lib.hid ((stE_0 HH.out.ok).2.2.2 i il)
    clear HTT M
    generalize hcc : cs.getD i default = c at *
    have HCC := Lib.hid hcc
    clear hcc
    obtain ⟨cap, inn, out, start, fin, trips⟩ := c
    simp only at c0 c1 c2 c3 c4 c5 hcT HTR HCOK
    obtain ⟨qn, hqn⟩ : ∃ qn, qn = trips.length := ⟨_, rfl⟩
    rw [← hqn] at c5 hcT
    have HQN := Lib.hid hqn
    clear hqn
    gi_upto_region 26 with fail
    have HBB := Lib.hid (((Below.refl w.heap.size w).alloc (Nat.le_refl _) (.cells #[.int .i64 i] 3)).alloc (by simp) (.cells #[.int .i64 cap, .int .i64 inn, .int .i64 out, .int .i64 start, .int .i64 fin, .slice TT qn cT] 63))
    have XI := Lib.hid ((Blk.new' w #[.int .i64 i] 3).alloc (.cells #[.int .i64 cap, .int .i64 inn, .int .i64 out, .int .i64 start, .int .i64 fin, .slice TT qn cT] 63))
    have XC := Lib.hid (show Blk ((w.alloc (.cells #[.int .i64 i] 3)).alloc (.cells #[.int .i64 cap, .int .i64 inn, .int .i64 out, .int .i64 start, .int .i64 fin, .slice TT qn cT] 63)) (w.heap.size + 1) 63 [.int .i64 cap, .int .i64 inn, .int .i64 out, .int .i64 start, .int .i64 fin, .slice TT qn cT] from by simpa using Blk.new' (w.alloc (.cells #[.int .i64 i] 3)) #[.int .i64 cap, .int .i64 inn, .int .i64 out, .int .i64 start, .int .i64 fin, .slice TT qn cT] 63)
    have HX0 := Lib.hid (HS8.out _ _ HW.out.2.1 HBB.out)
    have HTR2 := Lib.hid (HTR.out.below HBB.out (Nat.le_refl _))
    have HMK2 := Lib.hid (HW.out.1.below HBB.out)
    have HLV := Lib.hid HW.out.2.2
    clear HBB HTR HW c0 c1 c2 c3 c4 c5 abl
    generalize (w.alloc (.cells #[.int .i64 i] 3)).alloc (.cells #[.int .i64 cap, .int .i64 inn, .int .i64 out, .int .i64 start, .int .i64 fin, .slice TT qn cT] 63) = w2 at XI XC HX0 HTR2 HMK2 ⊢
    generalize w.heap.size = bi at *
    have M := HJ.out _ HX0.out.1
    obtain ⟨pa, rfl, pal, PT, cPT, p0, pb, pi⟩ := M.ht.1 i (by rw [← HH.out.hp, HV1.out]; exact hlt)
    obtain ⟨qa, rfl, qal, QT, cQT, q0, qb, qi⟩ := M.ht.2 i (by rw [← HH.out.hq, HV2.out]; exact hlt)
    have LL := HL.out
    rw [Bool.and_eq_true] at LL
    have L1 := (lenG_iff.1 LL.1).2 i il
    have L2 := (lenG_iff.1 LL.2).2 i il
    rw [L1, ← HH.out.hn] at p0 pb
    rw [L2, ← HH.out.hn] at q0 qb
    have N8 : n ≤ 48 := by
      have h := siteHead_iff.1 (stE_0 HH.out.ok).2.1
      have h3 := HH.out.hn
      omega
    have RB := row_bd HH.out.ok HL.out (fun k hk x hx => slotE_cars (HSL.out k (by rw [HH.out.hn]; exact hk)) x hx) il
    rw [← HH.out.hn] at RB HCOK
    have HLA := Lib.hid (lev_all N8 HCOK.out RB.1 RB.2)
    have HPI := Lib.hid (And.intro pi qi)
    have HLX := Lib.hid (And.intro (L1.trans HH.out.hn.symm).symm (L2.trans HH.out.hn.symm).symm)
    clear pi qi LL L1 L2 M RB
    have hip : (i : Int) < (p : Int) := by have := HV1.out; omega
    have hiq : (i : Int) < (q : Int) := by have := HV2.out; omega
    have HPE : Hid (∀ k, k ≤ n → levG ⟨cap, inn, out, start, fin, trips⟩ (T.inn.getD i []) (T.out.getD i []) n k = false → plE S cs T = 19) := Lib.hid (fun k hk h => plE_lev HH.out.ok HL.out (fun j hj => HSL.out j (by rw [HH.out.hn]; exact hj)) il (k := k) (by rw [← HH.out.hn]; exact hk) (by rw [HCC.out, ← HH.out.hn]; exact h))
    have HNXT : Hid ((∀ k, k ≤ n → levG ⟨cap, inn, out, start, fin, trips⟩ (T.inn.getD i []) (T.out.getD i []) n k = true) → ∀ x, x < i + 1 → ∀ k, k ≤ n → levG (cs.getD x default) (T.inn.getD x []) (T.out.getD x []) n k = true) := Lib.hid (fun h x hx k hk => by
      by_cases hxi : x < i
      · exact HLV.out x hxi k hk
      · obtain rfl : x = i := by omega
        rw [HCC.out]; exact h k hk)
    generalize T.inn.getD i [] = xr at *
    generalize hyr : T.out.getD i [] = yr at *
    have HYR := Lib.hid hyr
    clear hyr
    have HP0 : Hid (∀ V, Below w2.heap.size w2 V → (V.cell? (pa.add i) = some (.slice PT n cPT) ∧ (pa.add i).block < V.heap.size) ∧ (V.cell? (qa.add i) = some (.slice QT n cQT) ∧ (qa.add i).block < V.heap.size)) := Lib.hid (fun V hV => by
      have k := hV.size
      exact ⟨⟨(hV.cell (by rw [block_add]; exact pal)).trans p0, by rw [block_add]; omega⟩, ⟨(hV.cell (by rw [block_add]; exact qal)).trans q0, by rw [block_add]; omega⟩⟩)
    clear p0 q0 pal qal
    refine wpIn_wide.2 ?_
    refine wp_region_then 11 _ ?af rfl (by kernel_rfl) (by kernel_rfl) ?walk ?tail
    case walk =>
      intro V hV
      have XIV := XI.out.below hV XI.out.lt
      have XCV := XC.out.below hV XC.out.lt
      have MV := HJ.out _ (HS8.out _ _ HX0.out hV).1
      obtain ⟨⟨p0, pab⟩, ⟨q0, qab⟩⟩ := HP0.out V hV
      have i0 := XIV.cell 0 rfl
      have ilt := XIV.lt
      have clt := XCV.lt
      have e0 := XCV.cell 0 rfl
      have e1 := XCV.cell 1 rfl
      have e2 := XCV.cell 2 rfl
      have e3 := XCV.cell 3 rfl
      have e4 := XCV.cell 4 rfl
      have e5 := XCV.cell 5 rfl
      have t0 := MV.kt.cell 0 rfl
      have t1 := MV.kt.cell 1 rfl
      have tl := MV.kt.lt
      clear XIV XCV MV hV
      simp only [List.take_succ_cons, List.take_zero]
      repeat (go_big_quiet_step (fail))
      refine wpQuiet_nil ?_
      rfl
    intro w8 hb8
    have XI3 := Lib.hid (XI.out.below hb8 XI.out.lt)
    have XC3 := Lib.hid (XC.out.below hb8 XC.out.lt)
    have HX3 := Lib.hid (HS8.out _ _ HX0.out hb8)
    have HMK3 := Lib.hid (HMK2.out.below hb8)
    have HTR3 := Lib.hid (HTR2.out.below hb8 (Nat.le_refl _))
    have HPI3 := Lib.hid (And.intro (HPI.out.1.below hb8 (Nat.le_refl _)) (HPI.out.2.below hb8 (Nat.le_refl _)))
    clear hb8 XI XC HX0 HMK2 HTR2 HPI HP0
    go_simp
    refine (levels_c _ _ _ _ ⟨_, _, _, _, _, _, rfl⟩ ⟨_, _, _, rfl⟩ ⟨_, _, _, rfl⟩).mono ?_
    rintro e w9 ⟨rfl, hw9⟩
    have HB9 : Below w8.heap.size w8 w9 := by
      rw [hw9]
      exact (((Below.refl _ _).alloc (Nat.le_refl _) _).alloc (by simp) _).alloc (by simp; omega) _
    have KC : Blk w9 w8.heap.size 63 [.int .i64 cap, .int .i64 inn, .int .i64 out, .int .i64 start, .int .i64 fin, .slice TT qn cT] := by
      rw [hw9]; exact ((Blk.new' w8 #[.int .i64 cap, .int .i64 inn, .int .i64 out, .int .i64 start, .int .i64 fin, .slice TT qn cT] 63).alloc _).alloc _
    have KI : Blk w9 (w8.heap.size + 1) 22 [.slice PT n cPT] := by
      have := (Blk.new' (w8.alloc (.cells #[.int .i64 cap, .int .i64 inn, .int .i64 out, .int .i64 start, .int .i64 fin, .slice TT qn cT] 63)) #[.slice PT n cPT] 22).alloc (.cells #[.slice QT n cQT] 22)
      rw [hw9]; simpa using this
    have KO : Blk w9 (w8.heap.size + 2) 22 [.slice QT n cQT] := by
      have := Blk.new' ((w8.alloc (.cells #[.int .i64 cap, .int .i64 inn, .int .i64 out, .int .i64 start, .int .i64 fin, .slice TT qn cT] 63)).alloc (.cells #[.slice PT n cPT] 22)) #[.slice QT n cQT] 22
      rw [hw9]; simpa [Nat.add_assoc] using this
    have XI4 := Lib.hid (XI3.out.below HB9 XI3.out.lt)
    have XC4 := Lib.hid (XC3.out.below HB9 XC3.out.lt)
    have HX4 := Lib.hid (HS8.out _ _ HX3.out HB9)
    have HMK4 := Lib.hid (HMK3.out.below HB9)
    have HLM : Hid (LvM w8.heap.size (w8.heap.size + 1) (w8.heap.size + 2) ⟨cap, inn, out, start, fin, trips⟩ xr yr TT PT QT qn n n cT cPT cQT w9) := Lib.hid ⟨KC, KI, KO, HTR3.out.below HB9 (Nat.le_refl _), HPI3.out.1.below HB9 (Nat.le_refl _), HPI3.out.2.below HB9 (Nat.le_refl _)⟩
    clear hw9 HB9 KC KI KO XI3 XC3 HX3 HMK3 HTR3 HPI3
    dsimp only
    (try simp only [Act.put, List.setIfInBounds_toArray, List.set_cons_zero, List.set_cons_succ])
    refine wpQuiet_nil ?_
    intro xx
    have XI5 := Lib.hid (XI4.out.below xx.far XI4.out.lt)
    have XC5 := Lib.hid (XC4.out.below xx.far XC4.out.lt)
    have HX5 := Lib.hid (HS8.out _ _ HX4.out xx.far)
    have HMK5 := Lib.hid (HMK4.out.below xx.far)
    have HLM5 := Lib.hid (HLM.out.below xx.far)
    generalize xx.w = w5 at XI5 XC5 HX5 HMK5 HLM5 ⊢
    clear XI4 XC4 HX4 HMK4 HLM
    generalize w8.heap.size = g at *
    gi_wp2
    refine wpIn_wide.2 ((wpIn_wide (n := 3)).1 (range_mine3 (F := Fence.wide) (n := 3) rfl (by omega) (gf := 107) (lb := #[.pointer (some ⟨g, 0, none⟩), .pointer (some ⟨g + 1, 0, none⟩), .pointer (some ⟨g + 2, 0, none⟩)]) rfl trivial (fun _ _ => by kernel_rfl)
      (encs := fun y : Int × Int => #[.int .i64 y.1, .int .i64 y.2]) (fun _ => rfl)
      (fun pre V => St8 J b4 b5 l n D0 V ∧ Below w5.heap.size w5 V ∧ ∀ j, j < pre.length → levG ⟨cap, inn, out, start, fin, trips⟩ xr yr n j = true) (fun _ V => Jx 19 V ∧ plE S cs T = 19 ∧ Marks D0 ds V) .ret
      (fun ys => ys.length = n + 1) (fun _ => True) (fun pre y => ∃ k : Nat, k ≤ n ∧ pre.length = k ∧ y = ((k : Int), lev ⟨cap, inn, out, start, fin, trips⟩ xr yr k))
      ?hI ?hIx ⟨HX5.out, Below.refl _ _, fun j hj => by simp at hj⟩ ?hseq ?a1 ?assign ?body ?done ?stop))
    case hI =>
      rintro pre V V' row ⟨⟨h1, h2, h3, h4⟩, h5, h6⟩ hg hr
      exact ⟨⟨HJO.out () V V' row h1 hg (fun r e => ⟨Nat.le_trans HX5.out.2.2.2 (hr r e).1, (hr r e).2⟩), blk_kept h2 hg hr, blk_kept h3 hg hr, Nat.le_trans h4 hg.size⟩, h5.grown hg h5.size (fun r e => (hr r e).1), h6⟩
    case hIx =>
      rintro pre V V' row ⟨h1, h2, h3⟩ hg hr
      exact ⟨HJXO.out 19 () V V' row h1 hg (fun r e => ⟨Nat.le_trans HX5.out.2.2.2 (hr r e).1, (hr r e).2⟩), h2, marks_own HMK5.out (Nat.le_refl _) () V V' row h3 hg hr⟩
    case hseq =>
      intro l2 J2 Jx2 V hJ2 hO2 hOx2 hz2 hY2 hj2
      have lv0 : ∀ k, (lvs ⟨cap, inn, out, start, fin, trips⟩ xr yr k).length = k := fun k => by simp [lvs]
      refine (levels1_c g (g + 1) (g + 2) ⟨cap, inn, out, start, fin, trips⟩ xr yr TT PT QT qn n n cT cPT cQT l2 HQN.out hcT HLX.out.1 (Nat.le_refl _) HLX.out.2 pb qb HLA.out J2 Jx2 (fun pre V2 h => HLM5.out.below (hJ2 pre V2 h).2.1) (fun pre V1 V2 h hb => hO2 pre V1 V2 none h (grown_below hb) (fun r e => by cases e)) (fun k hk V1 h => (hY2 _ ((k : Int), lev ⟨cap, inn, out, start, fin, trips⟩ xr yr k) V1 h ⟨k, hk, lv0 k, rfl⟩).mono (fun e V2 h2 => by rw [lvs_succ]; exact h2.2)) V hj2).mono ?_
      rintro e V2 ⟨hv, h | ⟨k, hk, h⟩⟩
      · exact ⟨hv, .inl ⟨_, lv0 _, h⟩⟩
      · exact ⟨hv, .inr ⟨_, trivial, h⟩⟩
    case assign =>
      intro l2 y V K hK
      gi_wp2
      exact hK
    case body =>
      rintro l2 pre y V hI ⟨k, hk, hpre, rfl⟩
      have HI := Lib.hid hI
      clear hI
      have HBAD : Hid (¬ (least ⟨cap, inn, out, start, fin, trips⟩ yr n k ≤ lev ⟨cap, inn, out, start, fin, trips⟩ xr yr k ∧ lev ⟨cap, inn, out, start, fin, trips⟩ xr yr k ≤ (Car.cap ⟨cap, inn, out, start, fin, trips⟩)) → plE S cs T = 19) := Lib.hid (fun h => HPE.out k hk (by rw [← Bool.not_eq_true, levG_iff]; exact h))
      have HGOOD : Hid ((least ⟨cap, inn, out, start, fin, trips⟩ yr n k ≤ lev ⟨cap, inn, out, start, fin, trips⟩ xr yr k ∧ lev ⟨cap, inn, out, start, fin, trips⟩ xr yr k ≤ (Car.cap ⟨cap, inn, out, start, fin, trips⟩)) → levG ⟨cap, inn, out, start, fin, trips⟩ xr yr n k = true) := Lib.hid (fun h => levG_iff.2 h)
      have XC6 := XC5.out.below HI.out.2.1 XC5.out.lt
      have XI6 := XI5.out.below HI.out.2.1 XI5.out.lt
      have e0 := XC6.cell 0 rfl
      have e1 := XC6.cell 1 rfl
      have e2 := XC6.cell 2 rfl
      have e3 := XC6.cell 3 rfl
      have e4 := XC6.cell 4 rfl
      have e5 := XC6.cell 5 rfl
      have n0 := HI.out.1.2.2.1.cell 0 rfl
      by_cases hkn : k < n
      · have hki : (k : Int) < (n : Int) := by omega
        have HLS : Hid (least ⟨cap, inn, out, start, fin, trips⟩ yr n k = max (useC ⟨cap, inn, out, start, fin, trips⟩ k) (yr.getD k 0)) := Lib.hid (by unfold least; rw [if_pos hkn])
        have TC := trip_c (.int .i64 cap) (.int .i64 inn) (.int .i64 out) (.int .i64 start) (.int .i64 fin) k TT trips qn cT V HQN.out hcT (HLM5.out.below HI.out.2.1).kt
        rw [show useP trips k qn = useC ⟨cap, inn, out, start, fin, trips⟩ k from by unfold useC; rw [HQN.out]] at TC
        clear XC6 XI6
        generalize lev ⟨cap, inn, out, start, fin, trips⟩ xr yr k = LV at *
        gi_wp2
        refine ⟨trivial, CallsIn.inRound _ (callsIn_wide.2 (TC.mono ?_))⟩
        rintro e V2 ⟨rfl, hb2⟩
        have HI2 := Lib.hid (And.intro (HS8.out _ _ HI.out.1 hb2) (HI.out.2.1.trans (hb2.mono HI.out.2.1.size)))
        have HMV := Lib.hid ((HMK5.out.below HI.out.2.1).below hb2)
        have HKV : Hid (KeepsFrom w5.heap.size V V2) := Lib.hid (KeepsFrom.of_grownBy (grown_below hb2) (fun j e => by cases e))
        clear e0 e1 e2 e3 e4 e5 n0 hb2 TC
        have XC6 := XC5.out.below HI2.out.2 XC5.out.lt
        have XI6 := XI5.out.below HI2.out.2 XI5.out.lt
        have e0 := XC6.cell 0 rfl
        have i0 := XI6.cell 0 rfl
        have ilt := XI6.lt
        have M := HJ.out _ HI2.out.1.1
        have t1 := M.kt.cell 1 rfl
        obtain ⟨qa2, hqa, qal, QT2, cQT2, q0, qb2, qi⟩ := M.ht.2 i (by rw [← HH.out.hq, HV2.out]; exact hlt)
        cases hqa
        rw [HYR.out, ← HLX.out.2] at q0 qb2
        rw [HYR.out] at qi
        obtain ⟨qd, rfl, qdl, qx⟩ := qi k (by rw [← HLX.out.2]; exact hkn)
        clear M qi XC6 XI6
        generalize yr.getD k 0 = yk at *
        generalize useC ⟨cap, inn, out, start, fin, trips⟩ k = us at *
        generalize awayP trips k qn = aw at *
        have hmx := fun ts t W => maxTwo us yk ts t W
        generalize max us yk = mx at *
        gi_upto_region 33 with fail
        clear t1 q0 qx i0 ilt hmx
        have y0 := HI2.out.1.2.1.cell 0 rfl
        obtain ⟨fn, tm, asg, bo, hy, hR⟩ := HY.out 19 V2 HI2.out.1.1
        by_cases d1 : LV < mx
        · have HPX := Lib.hid (HBAD.out (fun h => by have := h.1; rw [HLS.out] at this; omega))
          gi_wp2
          refine (round_any hR).mono ?_
          rintro e V4 ⟨hk4, rfl, hx⟩
          have HX := Lib.hid hx
          have HM4 := Lib.hid (HMV.out.keep hk4)
          have HK4 : Hid (KeepsFrom w5.heap.size V V4) := Lib.hid (HKV.out.trans ⟨hk4.size, fun k o h => hk4.same k o (Nat.le_trans HX5.out.2.2.2 h)⟩)
          clear hx hk4
          gi_wp2
          exact (⟨rfl, HK4.out, HX.out, HPX.out, HM4.out⟩ : _ ∧ _ ∧ _ ∧ _ ∧ _)
        by_cases d2 : cap < LV
        · have HPX := Lib.hid (HBAD.out (fun h => by have := h.2; (try simp only at this); omega))
          gi_wp2
          refine (round_any hR).mono ?_
          rintro e V4 ⟨hk4, rfl, hx⟩
          have HX := Lib.hid hx
          have HM4 := Lib.hid (HMV.out.keep hk4)
          have HK4 : Hid (KeepsFrom w5.heap.size V V4) := Lib.hid (HKV.out.trans ⟨hk4.size, fun k o h => hk4.same k o (Nat.le_trans HX5.out.2.2.2 h)⟩)
          clear hx hk4
          gi_wp2
          exact (⟨rfl, HK4.out, HX.out, HPX.out, HM4.out⟩ : _ ∧ _ ∧ _ ∧ _ ∧ _)
        have HGG := Lib.hid (HGOOD.out ⟨by rw [HLS.out]; omega, by (try simp only); omega⟩)
        clear hy hR
        gi_wp2
        refine ⟨fun _ h => (by cases h), ?_⟩
        gi_wp2
        refine (⟨HKV.out, HI2.out.1, HI2.out.2, fun j hj => ?_⟩ : _ ∧ _ ∧ _ ∧ _)
        by_cases hjk : j < k
        · exact HI.out.2.2 j (by rw [hpre]; exact hjk)
        · obtain rfl : j = k := by rw [List.length_append, hpre] at hj; simp at hj; omega
          exact HGG.out
      · obtain rfl : n = k := by omega
        have hki : ¬ (n : Int) < (n : Int) := by omega
        have HLS : Hid (least ⟨cap, inn, out, start, fin, trips⟩ yr n n = fin) := Lib.hid (by unfold least; rw [if_neg (by omega)])
        have HI2 := Lib.hid (And.intro HI.out.1 HI.out.2.1)
        have HMV := Lib.hid (HMK5.out.below HI.out.2.1)
        have HKV : Hid (KeepsFrom w5.heap.size V V) := Lib.hid (KeepsFrom.refl _ _)
        clear XC6 XI6
        generalize lev ⟨cap, inn, out, start, fin, trips⟩ xr yr n = LV at *
        gi_upto_region 33 with fail
        have y0 := HI2.out.1.2.1.cell 0 rfl
        obtain ⟨fn, tm, asg, bo, hy, hR⟩ := HY.out 19 V HI2.out.1.1
        by_cases d1 : LV < fin
        · have HPX := Lib.hid (HBAD.out (fun h => by have := h.1; rw [HLS.out] at this; omega))
          gi_wp2
          refine (round_any hR).mono ?_
          rintro e V4 ⟨hk4, rfl, hx⟩
          have HX := Lib.hid hx
          have HM4 := Lib.hid (HMV.out.keep hk4)
          have HK4 : Hid (KeepsFrom w5.heap.size V V4) := Lib.hid (HKV.out.trans ⟨hk4.size, fun k o h => hk4.same k o (Nat.le_trans HX5.out.2.2.2 h)⟩)
          clear hx hk4
          gi_wp2
          exact (⟨rfl, HK4.out, HX.out, HPX.out, HM4.out⟩ : _ ∧ _ ∧ _ ∧ _ ∧ _)
        by_cases d2 : cap < LV
        · have HPX := Lib.hid (HBAD.out (fun h => by have := h.2; (try simp only at this); omega))
          gi_wp2
          refine (round_any hR).mono ?_
          rintro e V4 ⟨hk4, rfl, hx⟩
          have HX := Lib.hid hx
          have HM4 := Lib.hid (HMV.out.keep hk4)
          have HK4 : Hid (KeepsFrom w5.heap.size V V4) := Lib.hid (HKV.out.trans ⟨hk4.size, fun k o h => hk4.same k o (Nat.le_trans HX5.out.2.2.2 h)⟩)
          clear hx hk4
          gi_wp2
          exact (⟨rfl, HK4.out, HX.out, HPX.out, HM4.out⟩ : _ ∧ _ ∧ _ ∧ _ ∧ _)
        have HGG := Lib.hid (HGOOD.out ⟨by rw [HLS.out]; omega, by (try simp only); omega⟩)
        clear hy hR
        gi_wp2
        refine ⟨fun _ h => (by cases h), ?_⟩
        gi_wp2
        refine (⟨HKV.out, HI2.out.1, HI2.out.2, fun j hj => ?_⟩ : _ ∧ _ ∧ _ ∧ _)
        by_cases hjk : j < n
        · exact HI.out.2.2 j (by rw [hpre]; exact hjk)
        · obtain rfl : j = n := by rw [List.length_append, hpre] at hj; simp at hj; omega
          exact HGG.out
    case done =>
      rintro D ys V hD hys hI hK
      have HI := Lib.hid hI
      have HK := Lib.hid hK
      have HMK6 := Lib.hid (Marks.cons HMK5.out hD (Nat.le_trans HX5.out.2.2.2 hD) (HMK5.out.below HI.out.2.1) HK.out)
      have HGO := Lib.hid (HNXT.out (fun k hk => HI.out.2.2 k (by rw [hys]; omega)))
      clear hI hK
      gi_wp2
      refine ⟨?_, by simp [intOf]; omega⟩
      (repeat apply Exists.intro)
      refine ⟨⟨i + 1, rfl, by omega, HMK6.out, HI.out.1, HGO.out⟩, rfl⟩
    case stop =>
      rintro D pre V hD _ hI hK
      have HMK6 := Lib.hid (Marks.cons HMK5.out hD (Nat.le_trans HX5.out.2.2.2 hD) hI.2.2 hK)
      have HI := Lib.hid hI
      clear hI hK
      gi_wp2
      exact leaves_marks (by simp) (HJXO.out 19) (fun V2 h => end104 _ (fun v => ⟨⟨_, rfl⟩, .inr ⟨by rw [HI.out.2.1]; omega, by rw [HI.out.2.1]; exact h⟩⟩)) HMK6.out HI.out.1
  · obtain rfl : m = i := by omega
    have HPZ := Lib.hid (plE_good HH.out.ok HL.out (fun j hj => HSL.out j (by rw [HH.out.hn]; exact hj)) (fun x hx k hk => by rw [← HH.out.hn] at hk ⊢; exact HW.out.2.2 x (by rw [HH.out.hm]; exact hx) k hk))
    gi_wp2
    exact leaves_marks (by simp) HJO.out (fun V2 h => end104 _ (fun v => ⟨⟨_, rfl⟩, .inl ⟨HPZ.out, h⟩⟩)) HW.out.1 HW.out.2.1.1
end Go.Proofs.Ytmebpglkeedaoaa
namespace Go.Proofs.Ytmebpglkeedaoaa
open Go.RowKit Go.Shelf Dp
attribute [local go_sem] Oper.semAt_some
theorem wpIn_codeP {F : Fence} {n : Nat} {P : Program} {c c' : Code} {Q : Exit → Act → World → Prop} {a : Act} {W : World} (h : c = c') (hw : c'.wpIn F n P Q a W) : c.wpIn F n P Q a W := h ▸ hw
@[go_sem] theorem ix162_a (A B : Option Addr) (n m c d : Nat) (w : World) : (Instr.index 162 (.agg #[.slice A n c, .slice B m d]) (.int .i64 0)).run Try.prog w = .ok (.slice A n c) w := by kernel_rfl
@[go_sem] theorem ix162_b (A B : Option Addr) (n m c d : Nat) (w : World) : (Instr.index 162 (.agg #[.slice A n c, .slice B m d]) (.int .i64 1)).run Try.prog w = .ok (.slice B m d) w := by kernel_rfl
set_option maxHeartbeats 8000000 in
set_option maxRecDepth 100000 in
theorem faults1_c (bs bt bc : Nat) (S : Site) (cs : List Car) (T : Tab) (A B C D E P Q : Option Addr) (n m p q cA cB cC cD cE cP cQ l D0 : Nat) (hH : FtH S cs T n m p q cA cB cC cD cE cP cQ)
    (J : World → Prop) (Jx : Int → World → Prop) (hJ : ∀ W, J W → FtM bs bt bc S cs T A B C D E P Q n m p q cA cB cC cD cE cP cQ W) (hJo : OwnFrom D0 (fun (_ : Unit) W => J W)) (hJxo : ∀ e, OwnFrom D0 (fun (_ : Unit) W => Jx e W))
    (hY : ∀ e W1, J W1 → YieldAt Fence.wide 1 Try.prog l #[.int .i64 e] W1 fun e' W' => KeepsFrom D0 W1 W' ∧ e' = .returned (.bool false) ∧ Jx e W')
    (W : World) (hD : D0 ≤ W.heap.size) (hj : J W) :
    CallsIn Fence.wide 2 Try.prog 104 #[.func (.yield l) #[] #[], .pointer (some ⟨bs, 0, none⟩), .pointer (some ⟨bt, 0, none⟩), .pointer (some ⟨bc, 0, none⟩)] W fun e W' => (∃ v, e = .returned v) ∧ ((plE S cs T = 0 ∧ J W') ∨ (plE S cs T ≠ 0 ∧ Jx (plE S cs T) W')) := by
  refine callsIn_of_wp_marks Try.func104 rfl trivial ?_ rfl
  simp only [Try.ntmps104, List.size_toArray, List.length_cons, List.length_nil, Nat.reduceAdd, Nat.reduceSub, Array.replicate_succ, Array.replicate_zero, List.push_toArray, List.append_toArray, List.nil_append, List.cons_append]
  have HH := Lib.hid hH
  have HJ := Lib.hid hJ
  have HJO := Lib.hid hJo
  have HJXO := Lib.hid hJxo
  have HJB : Hid (∀ W W', J W → Below W.heap.size W W' → J W') := Lib.hid (fun W W' h hb => hJo () W W' none h (grown_below hb) (fun r e => by cases e))
  have HY := Lib.hid hY
  have HEND : Hid (∀ (e : Int) (W' : World) (tmps : Array Value), plE S cs T = e → e ≠ 0 → Jx e W' → LeavesInM Fence.wide 2 Try.prog Try.f104 tmps (fun e W' => (∃ v, e = .returned v) ∧ ((plE S cs T = 0 ∧ J W') ∨ (plE S cs T ≠ 0 ∧ Jx (plE S cs T) W'))) [] .returning W') := Lib.hid (fun e W' tmps h h0 hx => end104 _ fun v => ⟨⟨_, rfl⟩, .inr ⟨by rw [h]; exact h0, by rw [h]; exact hx⟩⟩)
  have ea := hH.ha
  have eb := hH.hb
  have ee := hH.he
  have ep := hH.hx
  have eq := hH.hy
  have HN8 : Hid (m ≤ 8 ∧ n ≤ 48) := Lib.hid (by
    have h := stE_0 hH.ok
    have h1 := siteHead_iff.1 h.2.1
    have h2 := hH.hm
    have h3 := hH.hn
    omega)
  have HB0 := (Below.refl W.heap.size W).alloc (Nat.le_refl _) (.cells #[.func (.yield l) #[] #[]] 161)
  have X4 := Lib.hid (Blk.new' W #[.func (.yield l) #[] #[]] 161)
  have HJ1 := Lib.hid (HJB.out _ _ hj HB0)
  have HD1 : Hid (D0 ≤ W.heap.size) := Lib.hid hD
  clear hJ hJo hJxo hY hj HB0 hH hD
  gi_upto_region 1 with fail
  generalize W.alloc (.cells #[.func (.yield l) #[] #[]] 161) = W1 at X4 HJ1 ⊢
  generalize W.heap.size = b4 at *
  have M0 := HJ.out _ HJ1.out
  have s0 := M0.ks.cell 0 rfl
  have sl := M0.ks.lt
  have X4b := Lib.hid (X4.out.alloc (.cells #[.int .i64 n] 3))
  have X5 := Lib.hid (Blk.new' W1 #[.int .i64 n] 3)
  have HJ2 := Lib.hid (HJB.out _ _ HJ1.out ((Below.refl W1.heap.size W1).alloc (Nat.le_refl _) (.cells #[.int .i64 n] 3)))
  have HB5 : Hid (b4 < W1.heap.size) := Lib.hid X4.out.lt
  clear M0
  gi_upto_region 2 with fail
  generalize W1.alloc (.cells #[.int .i64 n] 3) = W2 at X4b X5 HJ2 ⊢
  generalize W1.heap.size = b5 at *
  clear s0 sl X4 HJ1
  have M1 := HJ.out _ HJ2.out
  have t0 := M1.kt.cell 0 rfl
  have t1 := M1.kt.cell 1 rfl
  have k0 := M1.kc.cell 0 rfl
  have n0 := X5.out.cell 0 rfl
  have y0 := X4b.out.cell 0 rfl
  have CC1 := ContainsFunc_c P T.inn p cP n b5 W2 HH.out.hp ep M1.ht.1 n0
  have CC2 := ContainsFunc_c Q T.out q cQ n b5 W2 HH.out.hq eq M1.ht.2 n0
  obtain ⟨fn, tm, asg, bo, hy, hR⟩ := HY.out 20 W2 HJ2.out
  clear M1
  have HA1 : Hid (lenG cs.length S.lim.length T.inn = (decide (p = m) && allB p (fun i => decide ((T.inn.getD i []).length = n)))) := Lib.hid (by rw [lenG, ← HH.out.hp, ← HH.out.hm, ← HH.out.hn])
  have HA2 : Hid (lenG cs.length S.lim.length T.out = (decide (q = m) && allB q (fun i => decide ((T.out.getD i []).length = n)))) := Lib.hid (by rw [lenG, ← HH.out.hq, ← HH.out.hm, ← HH.out.hn])
  generalize allB p (fun i => decide ((T.inn.getD i []).length = n)) = v1 at *
  generalize allB q (fun i => decide ((T.out.getD i []).length = n)) = v2 at *
  gi_wp2
  clear t0 t1
  refine wpIn_loop_rounds 3 ?_
  rw [roundsIn_succ]
  have HALL : Hid (v1 = true → v2 = true → p = m → q = m → (lenG cs.length S.lim.length T.inn && lenG cs.length S.lim.length T.out) = true) := Lib.hid (fun a b c d => by rw [HA1.out, HA2.out, a, b, decide_eq_true c, decide_eq_true d]; rfl)
  have HNO1 : Hid ((p = m → v1 = false) → plE S cs T = 20) := Lib.hid (fun h => plE_len HH.out.ok (by
    rw [HA1.out]
    by_cases e : p = m
    · rw [h e]; simp
    · rw [decide_eq_false e]; simp))
  have HNO2 : Hid ((q = m → v2 = false) → plE S cs T = 20) := Lib.hid (fun h => plE_len HH.out.ok (by
    rw [HA2.out]
    by_cases e : q = m
    · rw [h e]; simp
    · rw [decide_eq_false e]; simp))
  have FIN : Hid (∀ (e : Int) (tm0 : Array Value) (W' : World), plE S cs T = e → e ≠ 0 → Jx e W' → LeavesInM Fence.wide 2 Try.prog Try.f104 tm0 (fun e W' => (∃ v, e = .returned v) ∧ ((plE S cs T = 0 ∧ J W') ∨ (plE S cs T ≠ 0 ∧ Jx (plE S cs T) W'))) [] .returning W') := Lib.hid (fun e tm0 W' h1 h2 h3 => HEND.out e W' tm0 h1 h2 h3)
  by_cases hpm : p = m
  · have hpb : ((p : Int) != (m : Int)) = false := by simp [hpm]
    have hpi : (p : Int) = (m : Int) := by omega
    cases v1
    · have HPE := Lib.hid (HNO1.out (fun _ => rfl))
      rw [show (!false) = true from rfl] at CC1
      clear hpm
      gi_wp2
      refine ⟨trivial, callsIn_wide.2 (CC1.mono ?_)⟩
      rintro e W3 ⟨rfl, rfl⟩
      gi_wp2
      refine hR.mono ?_
      rintro e W4 ⟨_, rfl, hx⟩
      have HX := Lib.hid hx
      clear hx
      gi_wp2
      exact FIN.out 20 _ _ HPE.out (by omega) HX.out
    · rw [show (!true) = false from rfl] at CC1
      have HV1 := Lib.hid hpm
      clear hpm
      gi_wp2
      refine ⟨trivial, callsIn_wide.2 (CC1.mono ?_)⟩
      rintro e W3 ⟨rfl, rfl⟩
      clear hpb hpi CC1
      gi_wp2
      rw [roundsIn_succ]
      by_cases hqm : q = m
      · have hqb : ((q : Int) != (m : Int)) = false := by simp [hqm]
        have hqi : (q : Int) = (m : Int) := by omega
        have HV2 := Lib.hid hqm
        clear hqm
        cases v2
        · have HPE := Lib.hid (HNO2.out (fun _ => rfl))
          rw [show (!false) = true from rfl] at CC2
          gi_wp2
          refine ⟨trivial, callsIn_wide.2 (CC2.mono ?_)⟩
          rintro e W3 ⟨rfl, rfl⟩
          gi_wp2
          refine hR.mono ?_
          rintro e W4 ⟨_, rfl, hx⟩
          have HX := Lib.hid hx
          clear hx
          gi_wp2
          exact FIN.out 20 _ _ HPE.out (by omega) HX.out
        · rw [show (!true) = false from rfl] at CC2
          gi_wp2
          refine ⟨trivial, callsIn_wide.2 (CC2.mono ?_)⟩
          rintro e W3 ⟨rfl, rfl⟩
          clear hqb hqi CC2
          have HL := Lib.hid (HALL.out (by simp) (by simp) HV1.out HV2.out)
          clear HALL HNO1 HNO2 HA1 HA2 hy hR
          gi_wp2
          rw [roundsIn_succ]
          gi_wp2
          have HS8 : Hid (∀ V V' : World, (J V ∧ Blk V b4 161 [.func (.yield l) #[] #[]] ∧ Blk V b5 3 [.int .i64 n] ∧ D0 ≤ V.heap.size) → Below V.heap.size V V' → (J V' ∧ Blk V' b4 161 [.func (.yield l) #[] #[]] ∧ Blk V' b5 3 [.int .i64 n] ∧ D0 ≤ V'.heap.size)) := Lib.hid (fun V V' h hb => ⟨HJB.out _ _ h.1 hb, h.2.1.below hb h.2.1.lt, h.2.2.1.below hb h.2.2.1.lt, Nat.le_trans h.2.2.2 hb.size⟩)
          have H0 : Hid (J W2 ∧ Blk W2 b4 161 [.func (.yield l) #[] #[]] ∧ Blk W2 b5 3 [.int .i64 n] ∧ D0 ≤ W2.heap.size) := Lib.hid ⟨HJ2.out, X4b.out, X5.out, by have := X4b.out.lt; have := HD1.out; omega⟩
          clear HJ2 X4b X5 k0 n0 y0
          gi_loopw [8, 9, 10, 11, 12, 13, 14, 15, 46] (fun _ _ _ _ _ _ _ _ iv wr => ∃ k : Nat, k ≤ n ∧ iv = .int .i64 k ∧ Hid ((J wr ∧ Blk wr b4 161 [.func (.yield l) #[] #[]] ∧ Blk wr b5 3 [.int .i64 n] ∧ D0 ≤ wr.heap.size) ∧ ∀ j, j < k → slotE S cs T j = 0)) (fun _ _ _ _ _ _ _ _ iv _ => n - (intOf iv).toNat)
          case atStart => exact ⟨0, Nat.zero_le _, rfl, Lib.hid ⟨H0.out, fun j hj => by omega⟩⟩
          case round =>
            obtain ⟨k, hk, rfl, HW⟩ := hrel
            by_cases hlt : k < n
            · have hki : (k : Int) < (n : Int) := by omega
              have M := HJ.out _ HW.out.1.1
              have k0 := M.kc.cell 0 rfl
              have kl := M.kc.lt
              clear M
              gi_wp2
              clear k0 kl
              gi_loopw [9, 10, 11, 12, 13, 14, 51] (fun _ _ _ _ _ _ iv wr => ∃ i : Nat, i ≤ m ∧ iv = .int .i64 i ∧ Hid ((J wr ∧ Blk wr b4 161 [.func (.yield l) #[] #[]] ∧ Blk wr b5 3 [.int .i64 n] ∧ D0 ≤ wr.heap.size) ∧ ∀ x, x < i → carAt cs T k x = true)) (fun _ _ _ _ _ _ iv _ => m - (intOf iv).toNat)
              case atStart => exact ⟨0, Nat.zero_le _, rfl, Lib.hid ⟨HW.out.1, fun j hj => by omega⟩⟩
              case round =>
                obtain ⟨i, hi, rfl, HI⟩ := hrel
                by_cases hlt2 : i < m
                · have hii : (i : Int) < (m : Int) := by omega
                  have M := HJ.out _ HI.out.1.1
                  have il : i < cs.length := by rw [← HH.out.hm]; exact hlt2
                  obtain ⟨ad, rfl, abl, c0, c1, c2, c3, c4, TT, cT, c5, hcT, HTT⟩ := M.hc i il
                  have HTR := Lib.hid HTT
                  have HCOK := Lib.hid ((stE_0 HH.out.ok).2.2.2 i il)
                  clear HTT M
                  have HCA := Lib.hid (show carAt cs T k i = carG (cs.getD i default) ((T.inn.getD i []).getD k 0) ((T.out.getD i []).getD k 0) (awayC (cs.getD i default) k) from rfl)
                  have HNXT : Hid (carAt cs T k i = true → ∀ x, x < i + 1 → carAt cs T k x = true) := Lib.hid (fun h x hx => by
                    by_cases hxi : x < i
                    · exact HI.out.2 x hxi
                    · obtain rfl : x = i := by omega
                      exact h)
                  have HPE : Hid (carAt cs T k i = false → plE S cs T = 3) := Lib.hid (fun h => plE_slot HH.out.ok HL.out (by rw [← HH.out.hn]; exact hlt) HW.out.2 (slotE_car il h) (by omega))
                  rw [HCA.out] at HNXT HPE
                  clear HCA
                  generalize cs.getD i default = c at *
                  obtain ⟨cap, inn, out, start, fin, trips⟩ := c
                  simp only at c0 c1 c2 c3 c4 c5 hcT HTR HNXT HPE HCOK
                  obtain ⟨qn, hqn⟩ : ∃ qn, qn = trips.length := ⟨_, rfl⟩
                  rw [← hqn] at c5 hcT
                  have HQN := Lib.hid hqn
                  have HAW := Lib.hid (show awayC ⟨cap, inn, out, start, fin, trips⟩ k = awayP trips k qn from by rw [hqn]; rfl)
                  clear hqn
                  gi_upto_region 14 with fail
                  have HY0 := Lib.hid (HS8.out _ _ HI.out.1 ((Below.refl wr.heap.size wr).alloc (Nat.le_refl _) (.cells #[.int .i64 cap, .int .i64 inn, .int .i64 out, .int .i64 start, .int .i64 fin, .slice TT qn cT] 63)))
                  have XC := Lib.hid (Blk.new' wr #[.int .i64 cap, .int .i64 inn, .int .i64 out, .int .i64 start, .int .i64 fin, .slice TT qn cT] 63)
                  have HTR2 := Lib.hid (HTR.out.below ((Below.refl wr.heap.size wr).alloc (Nat.le_refl _) (.cells #[.int .i64 cap, .int .i64 inn, .int .i64 out, .int .i64 start, .int .i64 fin, .slice TT qn cT] 63)) (Nat.le_refl _))
                  generalize wr.alloc (.cells #[.int .i64 cap, .int .i64 inn, .int .i64 out, .int .i64 start, .int .i64 fin, .slice TT qn cT] 63) = wx at HY0 XC HTR2 ⊢
                  generalize wr.heap.size = gc at *
                  clear c0 c1 c2 c3 c4 c5 abl HTR
                  have M := HJ.out _ HY0.out.1
                  have t0 := M.kt.cell 0 rfl
                  have t1 := M.kt.cell 1 rfl
                  have tl := M.kt.lt
                  obtain ⟨pa, rfl, pal, PT, cPT, p0, pb, pi⟩ := M.ht.1 i (by rw [← HH.out.hp, HV1.out]; exact hlt2)
                  obtain ⟨qa, rfl, qal, QT, cQT, q0, qb, qi⟩ := M.ht.2 i (by rw [← HH.out.hq, HV2.out]; exact hlt2)
                  have LL := HL.out
                  rw [Bool.and_eq_true] at LL
                  have L1 := (lenG_iff.1 LL.1).2 i il
                  have L2 := (lenG_iff.1 LL.2).2 i il
                  obtain ⟨pd, rfl, pdl, px⟩ := pi k (by rw [L1, ← HH.out.hn]; exact hlt)
                  obtain ⟨qd, rfl, qdl, qx⟩ := qi k (by rw [L2, ← HH.out.hn]; exact hlt)
                  rw [L1, ← HH.out.hn] at p0 pb
                  rw [L2, ← HH.out.hn] at q0 qb
                  clear pi qi LL L1 L2 M
                  have hip : (i : Int) < (p : Int) := by have := HV1.out; omega
                  have hiq : (i : Int) < (q : Int) := by have := HV2.out; omega
                  have pab : (pa.add i).block < wx.heap.size := by rw [block_add]; exact pal
                  have qab : (qa.add i).block < wx.heap.size := by rw [block_add]; exact qal
                  have pdb : (pd.add k).block < wx.heap.size := by rw [block_add]; exact pdl
                  have qdb : (qd.add k).block < wx.heap.size := by rw [block_add]; exact qdl
                  generalize (T.inn.getD i []).getD k 0 = x at *
                  generalize (T.out.getD i []).getD k 0 = y at *
                  refine wpIn_wide.2 ?_
                  refine wp_region_past (by kernel_rfl) (by kernel_rfl) ?_
                  repeat (go_big_quiet_step (fail))
                  refine wpQuiet_nil ?_
                  intro xx
                  have HY1 := Lib.hid (HS8.out _ _ HY0.out xx.far)
                  have XC1 := Lib.hid (XC.out.below xx.far XC.out.lt)
                  have HTR3 := Lib.hid (HTR2.out.below xx.far (Nat.le_refl _))
                  generalize xx.w = w3 at HY1 XC1 HTR3 ⊢
                  clear t0 t1 tl p0 q0 px qx pal qal pdl qdl pab qab pdb qdb HY0 XC HTR2
                  have e0 := XC1.out.cell 0 rfl
                  have e1 := XC1.out.cell 1 rfl
                  have e2 := XC1.out.cell 2 rfl
                  have e3 := XC1.out.cell 3 rfl
                  have e4 := XC1.out.cell 4 rfl
                  have e5 := XC1.out.cell 5 rfl
                  have TC := trip_c (.int .i64 cap) (.int .i64 inn) (.int .i64 out) (.int .i64 start) (.int .i64 fin) k TT trips qn cT w3 HQN.out hcT HTR3.out
                  gi_wp2
                  refine ⟨trivial, callsIn_wide.2 (TC.mono ?_)⟩
                  rintro e w5 ⟨rfl, hb5⟩
                  have HY2 := Lib.hid (HS8.out _ _ HY1.out hb5)
                  have XC2 := Lib.hid (XC1.out.below hb5 XC1.out.lt)
                  clear e0 e1 e2 e3 e4 e5 hb5 HY1 XC1 HTR3 TC
                  generalize awayP trips k qn = aw at *
                  generalize useP trips k qn = us at *
                  gi_upto_region 16 with fail
                  have e1 := XC2.out.cell 1 rfl
                  have e2 := XC2.out.cell 2 rfl
                  have y0 := HY2.out.2.1.cell 0 rfl
                  rw [HAW.out] at HNXT HPE
                  obtain ⟨fn, tm, asg, bo, hy, hR⟩ := HY.out 3 w5 HY2.out.1
                  by_cases a1 : x < 0
                  · have HPX := Lib.hid (HPE.out (by rw [← Bool.not_eq_true, carG_iff]; simp only; omega))
                    gi_wp2
                    refine hR.mono ?_
                    rintro e W4 ⟨_, rfl, hx⟩
                    have HX := Lib.hid hx
                    clear hx
                    gi_wp2
                    exact FIN.out 3 _ _ HPX.out (by omega) HX.out
                  by_cases a2 : inn < x
                  · have HPX := Lib.hid (HPE.out (by rw [← Bool.not_eq_true, carG_iff]; simp only; omega))
                    gi_wp2
                    refine hR.mono ?_
                    rintro e W4 ⟨_, rfl, hx⟩
                    have HX := Lib.hid hx
                    clear hx
                    gi_wp2
                    exact FIN.out 3 _ _ HPX.out (by omega) HX.out
                  by_cases a3 : y < 0
                  · have HPX := Lib.hid (HPE.out (by rw [← Bool.not_eq_true, carG_iff]; simp only; omega))
                    gi_wp2
                    refine hR.mono ?_
                    rintro e W4 ⟨_, rfl, hx⟩
                    have HX := Lib.hid hx
                    clear hx
                    gi_wp2
                    exact FIN.out 3 _ _ HPX.out (by omega) HX.out
                  by_cases a4 : out < y
                  · have HPX := Lib.hid (HPE.out (by rw [← Bool.not_eq_true, carG_iff]; simp only; omega))
                    gi_wp2
                    refine hR.mono ?_
                    rintro e W4 ⟨_, rfl, hx⟩
                    have HX := Lib.hid hx
                    clear hx
                    gi_wp2
                    exact FIN.out 3 _ _ HPX.out (by omega) HX.out
                  have CB := (carOk_iff.1 HCOK.out).1
                  simp only at CB
                  have wxy : IntKind.i64.wrap (x + y) = x + y := IntWalk.i64_in _ (by omega)
                  clear CB
                  cases aw
                  · have HGG := Lib.hid (HNXT.out (by rw [carG_iff]; simp only; refine ⟨by omega, by omega, fun h => by cases h⟩))
                    clear hy hR
                    gi_wp2
                    exact ⟨⟨i + 1, by omega, by go_num, Lib.hid ⟨HY2.out, HGG.out⟩⟩, by simp [intOf]; omega⟩
                  · by_cases a5 : x + y = 0
                    · have HGG := Lib.hid (HNXT.out (by rw [carG_iff]; simp only; exact ⟨by omega, by omega, fun _ => a5⟩))
                      clear hy hR
                      gi_wp2
                      exact ⟨⟨i + 1, by omega, by go_num, Lib.hid ⟨HY2.out, HGG.out⟩⟩, by simp [intOf]; omega⟩
                    · have a5b : ((x + y) != 0) = true := by simpa using a5
                      have HPX := Lib.hid (HPE.out (by rw [← Bool.not_eq_true, carG_iff]; simp only; exact fun h => a5 (h.2.2 trivial)))
                      gi_wp2
                      refine hR.mono ?_
                      rintro e W4 ⟨_, rfl, hx⟩
                      have HX := Lib.hid hx
                      clear hx
                      gi_wp2
                      exact FIN.out 3 _ _ HPX.out (by omega) HX.out
                · obtain rfl : m = i := by omega
                  have M := HJ.out _ HI.out.1.1
                  have t0 := M.kt.cell 0 rfl
                  have t1 := M.kt.cell 1 rfl
                  have DC := drawn_c P Q T p q cP cQ k wr HH.out.hp HH.out.hq (by rw [HV1.out, HV2.out]; exact Nat.le_refl _) (by rw [HV1.out]; exact HN8.out.1) ep eq M.ht (by rw [HV1.out, HH.out.hm]; exact slot_bd HH.out.ok HL.out (by rw [← HH.out.hn]; exact hlt) (fun x hx => HI.out.2 x (by rw [HH.out.hm]; exact hx)))
                  clear M
                  gi_wp2
                  refine ⟨trivial, callsIn_wide.2 (DC.mono ?_)⟩
                  rintro e w6 ⟨rfl, hb6⟩
                  have HI2 := Lib.hid (HS8.out _ _ HI.out.1 hb6)
                  clear t0 t1 hb6 DC
                  have kS : k < S.lim.length := by rw [← HH.out.hn]; exact hlt
                  have HGD : Hid (drP T k p ≤ S.lim.getD k 0 ∧ -(S.exp.getD k 0) ≤ drP T k p → slotE S cs T k = 0) := Lib.hid (fun h => slotE_ok (fun x hx => HI.out.2 x (by rw [HH.out.hm]; exact hx)) (by rw [← HH.out.hp]; exact h))
                  have HBG : Hid (¬ (drP T k p ≤ S.lim.getD k 0 ∧ -(S.exp.getD k 0) ≤ drP T k p) → plE S cs T = 17) := Lib.hid (fun h => plE_slot HH.out.ok HL.out kS HW.out.2 (slotE_lim (fun x hx => HI.out.2 x (by rw [HH.out.hm]; exact hx)) (by rw [← HH.out.hp]; exact h)) (by omega))
                  have SB := slotOk_iff.1 ((stE_0 HH.out.ok).2.2.1 k kS)
                  have SH := siteHead_iff.1 (stE_0 HH.out.ok).2.1
                  have M := HJ.out _ HI2.out.1
                  have s0 := M.ks.cell 0 rfl
                  have s1 := M.ks.cell 1 rfl
                  obtain ⟨la, hla, lal, lx⟩ := M.hs.1 k kS
                  obtain ⟨ea2, hea2, eal, ex⟩ := M.hs.2.1 k (by rw [SH.2.1]; exact kS)
                  rw [hla] at s0
                  rw [hea2] at s1
                  clear M SH hla hea2
                  generalize drP T k p = d at *
                  generalize S.lim.getD k 0 = lm at *
                  generalize S.exp.getD k 0 = ep2 at *
                  have wne : IntKind.i64.wrap (-ep2) = -ep2 := IntWalk.i64_in _ (by omega)
                  clear SB
                  gi_upto_region 20 with fail
                  have y0 := HI2.out.2.1.cell 0 rfl
                  obtain ⟨fn, tm, asg, bo, hy, hR⟩ := HY.out 17 w6 HI2.out.1
                  by_cases b1 : lm < d
                  · have HPX := Lib.hid (HBG.out (fun h => by omega))
                    gi_wp2
                    refine hR.mono ?_
                    rintro e W4 ⟨_, rfl, hx⟩
                    have HX := Lib.hid hx
                    clear hx
                    gi_wp2
                    exact FIN.out 17 _ _ HPX.out (by omega) HX.out
                  by_cases b2 : d < -ep2
                  · have HPX := Lib.hid (HBG.out (fun h => by omega))
                    gi_wp2
                    refine hR.mono ?_
                    rintro e W4 ⟨_, rfl, hx⟩
                    have HX := Lib.hid hx
                    clear hx
                    gi_wp2
                    exact FIN.out 17 _ _ HPX.out (by omega) HX.out
                  have HGG := Lib.hid (HGD.out ⟨by omega, by omega⟩)
                  clear hy hR
                  gi_wp2
                  go_roundw
                  case measure => simp [intOf]; omega
                  case rel =>
                    refine ⟨k + 1, by omega, by go_num, Lib.hid ⟨HI2.out, fun j hj => ?_⟩⟩
                    by_cases hjk : j < k
                    · exact HW.out.2 j hjk
                    · obtain rfl : j = k := by omega
                      exact HGG.out
            · obtain rfl : n = k := by omega
              have M := HJ.out _ HW.out.1.1
              have k0 := M.kc.cell 0 rfl
              have kl := M.kc.lt
              clear M
              gi_wp2
              clear k0 kl
              refine wpIn_codeP (c' := loop104) (by kernel_rfl) ?_
              exact faults4_c bs bt bc b4 b5 S cs T A B C D E P Q n m p q cA cB cC cD cE cP cQ l D0 HH.out HV1.out HV2.out HL.out HW.out.2 J Jx HJ.out HJO.out HJXO.out HY.out wr HW.out.1
      · have hqi : ¬ (q : Int) = (m : Int) := by omega
        have hqb : ((q : Int) != (m : Int)) = true := by simpa using hqi
        have HPE := Lib.hid (HNO2.out (fun h => absurd h hqm))
        clear CC2 hqm
        gi_wp2
        refine ⟨trivial, ?_⟩
        gi_wp2
        refine hR.mono ?_
        rintro e W4 ⟨_, rfl, hx⟩
        have HX := Lib.hid hx
        clear hx
        gi_wp2
        exact FIN.out 20 _ _ HPE.out (by omega) HX.out
  · have hpi : ¬ (p : Int) = (m : Int) := by omega
    have hpb : ((p : Int) != (m : Int)) = true := by simpa using hpi
    have HPE := Lib.hid (HNO1.out (fun h => absurd h hpm))
    clear CC1 CC2 hpm
    gi_wp2
    refine ⟨trivial, ?_⟩
    gi_wp2
    refine hR.mono ?_
    rintro e W4 ⟨_, rfl, hx⟩
    have HX := Lib.hid hx
    clear hx
    gi_wp2
    exact FIN.out 20 _ _ HPE.out (by omega) HX.out
end Go.Proofs.Ytmebpglkeedaoaa
namespace Go.Proofs.Ytmebpglkeedaoaa
open Go.RowKit Go.Shelf Dp
attribute [local go_sem] Oper.semAt_some
theorem plE_site {S : Site} {cs : List Car} {T : Tab} (h : stE S cs ≠ 0) : plE S cs T = stE S cs := by unfold plE; rw [if_neg h]
set_option maxHeartbeats 8000000 in
set_option maxRecDepth 100000 in
theorem CheckPlan_c (A B C D E P Q : Option Addr) (S : Site) (cs : List Car) (T : Tab) (n nB nC nD m p q cA cB cC cD cE cP cQ : Nat) (w : World) (hn : n = S.lim.length) (hnB : nB = S.exp.length) (hnC : nC = S.buy.length) (hnD : nD = S.sell.length) (hm : m = cs.length) (hp : p = T.inn.length) (hq : q = T.out.length)
    (hA : n ≤ cA ∧ cA ≤ 9223372036854775807) (hB : nB ≤ cB ∧ cB ≤ 9223372036854775807) (hC : nC ≤ cC ∧ cC ≤ 9223372036854775807) (hD : nD ≤ cD ∧ cD ≤ 9223372036854775807) (hE : m ≤ cE ∧ cE ≤ 9223372036854775807) (hP : p ≤ cP ∧ cP ≤ 9223372036854775807) (hQ : q ≤ cQ ∧ cQ ≤ 9223372036854775807)
    (hS : SiteAt w A B C D S) (hcs : CarsAt w E cs) (hT : TabAt w P Q T) :
    Calls Try.prog 32 #[.agg #[.slice A n cA, .slice B nB cB, .slice C nC cC, .slice D nD cD], .slice E m cE, .agg #[.slice P p cP, .slice Q q cQ]] w fun e w' => e = .returned (.int .i64 (plE S cs T)) ∧ Below w.heap.size w w' := by
  have HN := Lib.hid hn
  have HNB := Lib.hid hnB
  have HNC := Lib.hid hnC
  have HND := Lib.hid hnD
  have HM := Lib.hid hm
  have HP := Lib.hid hp
  have HQ := Lib.hid hq
  have HS := Lib.hid hS
  have HCS := Lib.hid hcs
  have HT := Lib.hid hT
  clear hn hnB hnC hnD hm hp hq hS hcs hT
  refine (callsIn_wide (n := 3)).1 (callsIn_of_wp_marks Try.func32 rfl trivial (wpIn_wide.2 ?_) rfl)
  simp only [Try.ntmps32, List.size_toArray, List.length_cons, List.length_nil, Nat.reduceAdd, Nat.reduceSub, Array.replicate_succ, Array.replicate_zero, List.push_toArray, List.append_toArray, List.nil_append, List.cons_append]
  have HB := Lib.hid ((((Below.refl w.heap.size w).alloc (Nat.le_refl _) (.cells #[.slice A n cA, .slice B nB cB, .slice C nC cC, .slice D nD cD] 51)).alloc (by simp) (.cells #[.slice P p cP, .slice Q q cQ] 55)).alloc (by simp; omega) (.cells #[.int .i64 0] 29))
  have XS := Lib.hid (((Blk.new' w #[.slice A n cA, .slice B nB cB, .slice C nC cC, .slice D nD cD] 51).alloc (.cells #[.slice P p cP, .slice Q q cQ] 55)).alloc (.cells #[.int .i64 0] 29))
  have XT := Lib.hid (show Blk (((w.alloc (.cells #[.slice A n cA, .slice B nB cB, .slice C nC cC, .slice D nD cD] 51)).alloc (.cells #[.slice P p cP, .slice Q q cQ] 55)).alloc (.cells #[.int .i64 0] 29)) (w.heap.size + 1) 55 [.slice P p cP, .slice Q q cQ] from by
    simpa using (Blk.new' (w.alloc (.cells #[.slice A n cA, .slice B nB cB, .slice C nC cC, .slice D nD cD] 51)) #[.slice P p cP, .slice Q q cQ] 55).alloc (.cells #[.int .i64 0] 29))
  have XR := Lib.hid (show Blk (((w.alloc (.cells #[.slice A n cA, .slice B nB cB, .slice C nC cC, .slice D nD cD] 51)).alloc (.cells #[.slice P p cP, .slice Q q cQ] 55)).alloc (.cells #[.int .i64 0] 29)) (w.heap.size + 2) 29 [.int .i64 0] from by
    simpa [Nat.add_assoc] using Blk.new' ((w.alloc (.cells #[.slice A n cA, .slice B nB cB, .slice C nC cC, .slice D nD cD] 51)).alloc (.cells #[.slice P p cP, .slice Q q cQ] 55)) #[.int .i64 0] 29)
  go_upto_region 1 with fail
  simp only [World.size_alloc, Nat.add_assoc, Nat.reduceAdd]
  generalize ((w.alloc (.cells #[.slice A n cA, .slice B nB cB, .slice C nC cC, .slice D nD cD] 51)).alloc (.cells #[.slice P p cP, .slice Q q cQ] 55)).alloc (.cells #[.int .i64 0] 29) = w1 at HB XS XT XR ⊢
  have s0 := XS.out.cell 0 rfl
  have s1 := XS.out.cell 1 rfl
  have s2 := XS.out.cell 2 rfl
  have s3 := XS.out.cell 3 rfl
  have CS := CheckSite_c A B C D E S cs n nB nC nD m cA cB cC cD cE w1 HN.out HNB.out HNC.out HND.out HM.out hA hB hC hD hE (HS.out.below HB.out (Nat.le_refl _)) (HCS.out.below HB.out (Nat.le_refl _))
  have HPS := Lib.hid (plE_site (S := S) (cs := cs) (T := T))
  obtain ⟨v, hv⟩ : ∃ v, v = stE S cs := ⟨_, rfl⟩
  rw [← hv] at CS HPS
  have HV := Lib.hid hv
  clear hv
  go_upto_region 2 with (go_at_call 36; refine CS.mono ?_; rintro e w2 ⟨rfl, hb2⟩)
  have HB2 := Lib.hid (HB.out.trans (hb2.mono HB.out.size))
  have XS2 := Lib.hid (XS.out.below hb2 XS.out.lt)
  have XT2 := Lib.hid (XT.out.below hb2 XT.out.lt)
  have XR2 := Lib.hid (XR.out.below hb2 XR.out.lt)
  clear hb2 s0 s1 s2 s3 CS HB XS XT XR
  by_cases h0 : v = 0
  rotate_left
  · have hb0 : (v == 0) = false := by simpa using h0
    have HPV := Lib.hid (HPS.out h0)
    have r0 := XR2.out.cell 0 rfl
    have rf := XR2.out.free 0
    have XE := Lib.hid (XR2.out.setCell 0 (.int .i64 v))
    have BE := Lib.hid (HB2.out.setCell (p := ⟨w.heap.size + 2, 0, none⟩) (by simp) (.int .i64 v))
    go_wp2_with fail
    have c0 := XE.out.cell 0 rfl
    exact ⟨.int .i64 v, by simp [results, Try.results32, go_sem, c0], ret_int HPV.out.symm, BE.out⟩
  · subst h0
    clear HPS
    have s0 := XS2.out.cell 0 rfl
    have s1 := XS2.out.cell 1 rfl
    have s2 := XS2.out.cell 2 rfl
    have s3 := XS2.out.cell 3 rfl
    have t0 := XT2.out.cell 0 rfl
    have t1 := XT2.out.cell 1 rfl
    go_wp2_with fail
    refine (faults_c _ _ _ _ ⟨_, _, _, _, rfl⟩ ⟨_, _, _, rfl⟩ ⟨_, _, rfl⟩).mono ?_
    rintro e w4 ⟨rfl, hw4⟩
    have HB4 : Below w2.heap.size w2 w4 := by
      rw [hw4]
      exact (((Below.refl _ _).alloc (Nat.le_refl _) _).alloc (by simp) _).alloc (by simp; omega) _
    have KS : Blk w4 w2.heap.size 51 [.slice A n cA, .slice B nB cB, .slice C nC cC, .slice D nD cD] := by
      rw [hw4]; exact ((Blk.new' w2 #[.slice A n cA, .slice B nB cB, .slice C nC cC, .slice D nD cD] 51).alloc _).alloc _
    have KC : Blk w4 (w2.heap.size + 1) 52 [.slice E m cE] := by
      have := (Blk.new' (w2.alloc (.cells #[.slice A n cA, .slice B nB cB, .slice C nC cC, .slice D nD cD] 51)) #[.slice E m cE] 52).alloc (.cells #[.slice P p cP, .slice Q q cQ] 55)
      rw [hw4]; simpa using this
    have KT : Blk w4 (w2.heap.size + 2) 55 [.slice P p cP, .slice Q q cQ] := by
      have := Blk.new' ((w2.alloc (.cells #[.slice A n cA, .slice B nB cB, .slice C nC cC, .slice D nD cD] 51)).alloc (.cells #[.slice E m cE] 52)) #[.slice P p cP, .slice Q q cQ] 55
      rw [hw4]; simpa [Nat.add_assoc] using this
    have SH := siteHead_iff.1 (stE_0 HV.out.symm).2.1
    have eB : nB = n := by have h1 := HNB.out; have h2 := HN.out; omega
    have eC : nC = n := by have h1 := HNC.out; have h2 := HN.out; omega
    have eD : nD = n := by have h1 := HND.out; have h2 := HN.out; omega
    have HB5 := Lib.hid (HB2.out.trans (HB4.mono HB2.out.size))
    have XR5 := Lib.hid (XR2.out.below HB4 XR2.out.lt)
    have HFM : Hid (FtM w2.heap.size (w2.heap.size + 2) (w2.heap.size + 1) S cs T A B C D E P Q n m p q cA cB cC cD cE cP cQ w4) := Lib.hid ⟨by rw [eB, eC, eD] at KS; exact KS, KT, KC, HS.out.below HB5.out (Nat.le_refl _), HT.out.below HB5.out (Nat.le_refl _), HCS.out.below HB5.out (Nat.le_refl _)⟩
    have HFH : Hid (FtH S cs T n m p q cA cB cC cD cE cP cQ) := Lib.hid ⟨HN.out, HM.out, HP.out, HQ.out, HV.out.symm, hA, by rw [← eB]; exact hB, by rw [← eC]; exact hC, by rw [← eD]; exact hD, hE, hP, hQ⟩
    have hz4 : w.heap.size ≤ w4.heap.size := HB5.out.size
    have hr4 : w.heap.size + 2 < w4.heap.size := XR5.out.lt
    clear hw4 HB4 KS KC KT SH eB eC eD s0 s1 s2 s3 t0 t1 HB2 XS2 XT2 XR2
    generalize w2.heap.size = g at *
    go_wp2_with fail
    have HOWN : Hid (OwnFrom w4.heap.size (fun (_ : Unit) V => Below w.heap.size w V ∧ Blk V (w.heap.size + 2) 29 [.int .i64 (plE S cs T)])) := Lib.hid (by
      rintro _ V V' row ⟨h1, h2⟩ hg hr
      exact ⟨h1.grown hg h1.size (fun r e => Nat.le_trans hz4 (hr r e).1), blk_kept h2 hg hr⟩)
    refine (wpIn_wide (n := 3)).1 (range_mine3 (F := Fence.wide) (n := 3) rfl (by omega) (gf := 104) (lb := #[.pointer (some ⟨g, 0, none⟩), .pointer (some ⟨g + 2, 0, none⟩), .pointer (some ⟨g + 1, 0, none⟩)]) rfl trivial (fun _ _ => by kernel_rfl)
      (encs := fun y : Int => #[.int .i64 y]) (fun _ => rfl)
      (fun pre V => pre = [] ∧ Below w4.heap.size w4 V) (fun pre V => ∃ x, pre = [x] ∧ Below w.heap.size w V ∧ Blk V (w.heap.size + 2) 29 [.int .i64 x]) .ret
      (fun ys => ys = [] ∧ plE S cs T = 0) (fun pre => pre = [plE S cs T]) (fun pre y => True)
      ?hI ?hIx ⟨rfl, Below.refl _ _⟩ ?hseq ?a1 ?assign ?body ?done ?stop)
    case hI =>
      rintro pre V V' row ⟨h1, h2⟩ hg hr
      exact ⟨h1, h2.grown hg h2.size (fun r e => (hr r e).1)⟩
    case hIx =>
      rintro pre V V' row ⟨x, h1, h2, h3⟩ hg hr
      exact ⟨x, h1, h2.grown hg h2.size (fun r e => Nat.le_trans hz4 (hr r e).1), blk_kept h3 hg hr⟩
    case hseq =>
      intro l2 J2 Jx2 V hJ2 hO2 hOx2 hz2 hY2 hj2
      refine (faults1_c g (g + 2) (g + 1) S cs T A B C D E P Q n m p q cA cB cC cD cE cP cQ l2 V.heap.size HFH.out (fun W => J2 [] W) (fun x W => Jx2 [x] W) (fun W h => HFM.out.below (hJ2 [] W h).2) (fun _ W W' row h => hO2 [] W W' row h) (fun x _ W W' row h => hOx2 [x] W W' row h)
        (fun x W1 h => (hY2 [] x W1 h trivial).mono (fun e W' h2 => ⟨h2.1, ?_⟩)) V (Nat.le_refl _) hj2).mono ?_
      · rcases h2.2 with ⟨rfl, h3⟩ | ⟨rfl, h3⟩
        · have := (hJ2 _ _ h3).1
          cases this
        · exact ⟨rfl, h3⟩
      · rintro e W' ⟨hv, ⟨h3, h4⟩ | ⟨h3, h4⟩⟩
        · exact ⟨hv, .inl ⟨_, ⟨rfl, h3⟩, h4⟩⟩
        · exact ⟨hv, .inr ⟨_, rfl, h4⟩⟩
    case assign =>
      intro l2 y V K hK
      gi_wp2
      exact hK
    case body =>
      rintro l2 pre y V hI _
      have HI := Lib.hid hI
      clear hI
      have XV := Lib.hid (XR5.out.below HI.out.2 hr4)
      have rf := XV.out.free 0
      have r0 := XV.out.cell 0 rfl
      gi_wp2
      refine (⟨rfl, (KeepsOthers.setCell _ _ _).from _, ?_⟩ : _ ∧ _ ∧ _)
      exact ⟨y, by rw [HI.out.1]; rfl, ((HB5.out.trans (HI.out.2.mono hz4)).setCell (p := ⟨w.heap.size + 2, 0, none⟩) (by simp) _), XV.out.setCell 0 (.int .i64 y)⟩
    case done =>
      rintro Dk ys V hD ⟨hys, h0⟩ hI hK
      have HI := Lib.hid hI
      have XV := Lib.hid (XR5.out.below HI.out.2 hr4)
      have rf := XV.out.free 0
      have r0 := XV.out.cell 0 rfl
      have EE : Hid (Below w.heap.size w (V.setCell ⟨w.heap.size + 2, 0, none⟩ (.int .i64 0)) ∧ Blk (V.setCell ⟨w.heap.size + 2, 0, none⟩ (.int .i64 0)) (w.heap.size + 2) 29 [.int .i64 (plE S cs T)]) := Lib.hid ⟨((HB5.out.trans (HI.out.2.mono hz4)).setCell (p := ⟨w.heap.size + 2, 0, none⟩) (by simp) _), by rw [h0]; exact XV.out.setCell 0 (.int .i64 0)⟩
      have HMK : Hid (Marks w4.heap.size [markOf Dk] (V.setCell ⟨w.heap.size + 2, 0, none⟩ (.int .i64 0))) := Lib.hid (Marks.cons (W0 := w4) (Marks.nil _ _) hD hD (Marks.nil _ _) ((Below.heap_setCell _ _ _ _ (by simp; omega)).trans hK))
      clear hI hK
      gi_wp2
      go_wp2_with fail
      refine leaves_marks (u := .returning) (by intro h; cases h) HOWN.out (fun V2 h2 => ?_) HMK.out EE.out
      have c0 := h2.2.cell 0 rfl
      exact ⟨.int .i64 (plE S cs T), by simp [results, Try.results32, go_sem, c0], rfl, h2.1⟩
    case stop =>
      rintro Dk pre V hD hS ⟨x, h1, h2, h3⟩ hK
      rw [hS] at h1
      cases h1
      have HMK : Hid (Marks w4.heap.size [markOf Dk] V) := Lib.hid (Marks.cons (W0 := w4) (Marks.nil _ _) hD hD (Marks.nil _ _) hK)
      have EE := Lib.hid (And.intro h2 h3)
      clear h2 h3 hK
      gi_wp2
      refine leaves_marks (u := .returning) (by intro h; cases h) HOWN.out (fun V2 h2 => ?_) HMK.out EE.out
      have c0 := h2.2.cell 0 rfl
      exact ⟨.int .i64 (plE S cs T), by simp [results, Try.results32, go_sem, c0], rfl, h2.1⟩
end Go.Proofs.Ytmebpglkeedaoaa
namespace Go.Proofs.Ytmebpglkeedaoaa
open Go.RowKit Go.Shelf Dp
attribute [local go_sem] Oper.semAt_some
theorem info22 : (Try.prog.info? 22).map (fun i => (i.zero, i.size, i.bytes)) = some (some (.slice none 0 0), 1, 24) := by kernel_rfl
def lvN (c : Car) (x y : List Int) (k : Nat) : List Int := (List.range k).map (fun j => lev c x y j)
theorem lvN_len (c : Car) (x y : List Int) (k : Nat) : (lvN c x y k).length = k := by simp [lvN]
def RowsO (D : Nat) (w : World) (i n : Nat) (vs : List Value) (cs : List Car) (T : Tab) : Prop :=
  ∀ x, x < i → ∃ v, vs[x]? = some v ∧ w.ownsRow D 2 1 v (n + 1) ((lvN (cs.getD x default) (T.inn.getD x []) (T.out.getD x []) (n + 1)).map (.int .i64))
theorem ownV_below {w w' : World} {B e z n : Nat} {v : Value} {xs : List Value} (h : w.ownsRow B e z v n xs) (hb : Below w.heap.size w w') : w'.ownsRow B e z v n xs := by
  refine ⟨h.1, ?_⟩
  rcases h.2 with h2 | ⟨k, c, cur, hv, hb', hg, r⟩
  · exact .inl h2
  · exact .inr ⟨k, c, cur, hv, hb', (hb.block k (Array.getElem?_eq_some_iff.1 hg).1).trans hg, r⟩
theorem ownV_other {w w' : World} {B B' e e' z z' n n' : Nat} {v v' : Value} {xs xs' : List Value} (h : w.ownsRow B e z v n xs) (h' : w.ownsRow B' e' z' v' n' xs') (hne : e ≠ e') (hg : w.grownBy w' v'.ownBlock) : w'.ownsRow B e z v n xs := by
  refine ⟨h.1, ?_⟩
  rcases h.2 with h2 | ⟨k, c, cur, hv, hb', hgk, r⟩
  · exact .inl h2
  · refine .inr ⟨k, c, cur, hv, hb', (hg.block k (Array.getElem?_eq_some_iff.1 hgk).1 (fun ek => ?_)).trans hgk, r⟩
    rcases h'.2 with ⟨h2, _⟩ | ⟨k', c', cur', hv', _, hgk', _⟩
    · rw [h2] at ek; cases ek
    · rw [hv'] at ek
      simp only [Value.ownBlock, Option.some.injEq] at ek
      subst ek
      rw [hgk] at hgk'
      cases hgk'
      exact hne rfl
theorem ownV_mono {w : World} {B B' e z n : Nat} {v : Value} {xs : List Value} (h : w.ownsRow B e z v n xs) (hb : B' ≤ B) : w.ownsRow B' e z v n xs := ⟨h.1, h.2.imp id (fun ⟨k, c, cur, hv, hb', r⟩ => ⟨k, c, cur, hv, Nat.le_trans hb hb', r⟩)⟩
end Go.Proofs.Ytmebpglkeedaoaa
namespace Go.Proofs.Ytmebpglkeedaoaa
open Go.RowKit Go.Shelf Dp
attribute [local go_sem] Oper.semAt_some
def LevP (S : Site) (cs : List Car) (T : Tab) (n m : Nat) (w : World) : Ending → World → Prop := fun e w' =>
  Below w.heap.size w w' ∧ ((plE S cs T = 0 ∧ ∃ v vs, e = .returned (.tuple #[v, .int .i64 0]) ∧ w'.ownsRow w.heap.size 22 1 v m vs ∧ RowsO w.heap.size w' m n vs cs T) ∨ (plE S cs T ≠ 0 ∧ e = .returned (.tuple #[.slice none 0 0, .int .i64 (plE S cs T)])))
end Go.Proofs.Ytmebpglkeedaoaa
namespace Go.Proofs.Ytmebpglkeedaoaa
open Go.RowKit Dp
def lvR (cs : List Car) (T : Tab) (n m : Nat) : List (List Int) := (List.range m).map (fun i => lvN (cs.getD i default) (T.inn.getD i []) (T.out.getD i []) (n + 1))
theorem lvR_len (cs : List Car) (T : Tab) (n m : Nat) : (lvR cs T n m).length = m := by simp [lvR]
theorem lvR_get {cs : List Car} {T : Tab} {n m i : Nat} (h : i < m) : (lvR cs T n m).getD i [] = lvN (cs.getD i default) (T.inn.getD i []) (T.out.getD i []) (n + 1) := by
  simp [lvR, List.getD_eq_getElem?_getD, h]
theorem ownV_ints {W : World} {D n : Nat} {v : Value} {xs : List Int} (h : W.ownsRow D 2 1 v n (xs.map (.int .i64))) (hl : xs.length = n) (hn : 0 < n) : ∃ g c, v = .slice (some ⟨g, 0, none⟩) n c ∧ n ≤ c ∧ c ≤ 9223372036854775807 ∧ IntsAt W (some ⟨g, 0, none⟩) xs := by
  rcases h.2 with ⟨_, h2⟩ | ⟨g, c, cur, hv, hb, hg, hnc, hcm, _⟩
  · omega
  · subst hv
    refine ⟨g, c, rfl, hnc, by unfold maxLen at hcm; omega, fun i hi => ⟨_, rfl, (Array.getElem?_eq_some_iff.1 hg).1, ?_⟩⟩
    have e : (⟨g, 0, none⟩ : Addr).add i = ⟨g, i, none⟩ := by unfold Addr.add; split <;> simp_all
    rw [e, World.ownsRow.cellAt h i (by omega), List.getElem?_map, List.getElem?_eq_getElem hi, List.getD_eq_getElem?_getD, List.getElem?_eq_getElem hi]
    rfl
theorem rows_at {W : World} {D n m : Nat} {cs : List Car} {T : Tab} {v : Value} {vs : List Value} (h : W.ownsRow D 22 1 v m vs) (hr : RowsO D W m n vs cs T) :
    ∃ A c, v = .slice A m c ∧ m ≤ c ∧ c ≤ 9223372036854775807 ∧ RowsAt W A (lvR cs T n m) := by
  rcases h.2 with ⟨h1, h2⟩ | ⟨g, c, cur, hv, hb, hg, hnc, hcm, _⟩
  · subst h2
    exact ⟨none, 0, h1, Nat.le_refl _, by omega, fun i hi => by rw [lvR_len] at hi; omega⟩
  · subst hv
    refine ⟨_, c, rfl, hnc, by unfold maxLen at hcm; omega, fun i hi => ?_⟩
    rw [lvR_len] at hi
    obtain ⟨u, h1, h2⟩ := hr i hi
    obtain ⟨g', c', rfl, h3, h4, h5⟩ := ownV_ints h2 (lvN_len _ _ _ _) (by omega)
    rw [lvR_get hi]
    have e : (⟨g, 0, none⟩ : Addr).add i = ⟨g, i, none⟩ := by unfold Addr.add; split <;> simp_all
    refine ⟨_, rfl, (Array.getElem?_eq_some_iff.1 hg).1, some ⟨g', 0, none⟩, c', ?_, by rw [lvN_len]; exact ⟨h3, h4⟩, h5⟩
    rw [e, World.ownsRow.cellAt h i (by omega), h1, lvN_len]
end Go.Proofs.Ytmebpglkeedaoaa
namespace Go.Proofs.Ytmebpglkeedaoaa
namespace Dp
def prQ (S : Site) (T : Tab) (m k : Nat) : Int := max 0 (drP T k m) * S.buy.getD k 0 + min 0 (drP T k m) * S.sell.getD k 0
def prc (S : Site) (T : Tab) (m : Nat) : Nat → Int
  | 0 => 0
  | k + 1 => prc S T m k + prQ S T m k
theorem mul_in {a b A B : Int} (ha : 0 ≤ a ∧ a ≤ A) (hb : 0 ≤ b ∧ b ≤ B) : 0 ≤ a * b ∧ a * b ≤ A * B :=
  ⟨Int.mul_nonneg ha.1 hb.1, Int.mul_le_mul ha.2 hb.2 hb.1 (by omega)⟩
theorem mul_neg {a b A B : Int} (ha : -A ≤ a ∧ a ≤ 0) (hb : 0 ≤ b ∧ b ≤ B) : -(A * B) ≤ a * b ∧ a * b ≤ 0 := by
  have h := mul_in (a := -a) (A := A) (by omega) hb
  rw [Int.neg_mul] at h
  omega
theorem prQ_bd {S : Site} {T : Tab} {m k : Nat} (hs : slotOk S k = true) (hb : SlotBd T k m) (h8 : m ≤ 8) :
    (0 ≤ max 0 (drP T k m) * S.buy.getD k 0 ∧ max 0 (drP T k m) * S.buy.getD k 0 ≤ 8796093022208) ∧ (-8796093022208 ≤ min 0 (drP T k m) * S.sell.getD k 0 ∧ min 0 (drP T k m) * S.sell.getD k 0 ≤ 0) := by
  have h1 := slotOk_iff.1 hs
  have h2 := drP_bd hb m (Nat.le_refl _)
  exact ⟨mul_in (A := 8388608) (B := 1048576) (by omega) (by omega), mul_neg (A := 8388608) (B := 1048576) (by omega) (by omega)⟩
theorem prc_bd {S : Site} {T : Tab} {m : Nat} (h8 : m ≤ 8) : ∀ k : Nat, (∀ j, j < k → slotOk S j = true ∧ SlotBd T j m) → -(8796093022208 * (k : Int)) ≤ prc S T m k ∧ prc S T m k ≤ 8796093022208 * (k : Int)
  | 0, _ => by simp [prc]
  | k + 1, h => by
    have h1 := prc_bd h8 k (fun j hj => h j (by omega))
    have h2 := prQ_bd (h k (by omega)).1 (h k (by omega)).2 h8
    simp only [prc, prQ]
    omega
def prcV (S : Site) (cs : List Car) (T : Tab) : Int := if plE S cs T = 0 then prc S T cs.length S.lim.length else 0
theorem Keeps.slot {S : Site} {cs : List Car} {T : Tab} (h : Keeps S cs T) {k : Nat} (hk : k < S.lim.length) : SlotBd T k cs.length := by
  intro i hi
  have h1 := carG_iff.1 (h.car k hk i hi)
  have h2 := (carOk_iff.1 (h.carok hi)).1
  have h3 := h.ri i hi
  have h4 := h.ro i hi
  omega
theorem Keeps.rows {S : Site} {cs : List Car} {T : Tab} (h : Keeps S cs T) {i : Nat} (hi : i < cs.length) : RowBd S.lim.length (T.inn.getD i []) ∧ RowBd S.lim.length (T.out.getD i []) := by
  refine ⟨⟨h.ri i hi, fun k hk => ?_⟩, ⟨h.ro i hi, fun k hk => ?_⟩⟩
  · exact (h.slot hk i hi).2.1
  · exact (h.slot hk i hi).2.2
end Dp
end Go.Proofs.Ytmebpglkeedaoaa
namespace Go.Proofs.Ytmebpglkeedaoaa
open Go.RowKit Dp
end Go.Proofs.Ytmebpglkeedaoaa
