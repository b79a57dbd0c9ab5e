/- Contracts that the claim leans on. -/
import Derived.Test.YtmebpglkeedaoaaDR2
import Derived.Deep.CutRange
import Derived.Deep.Cut
set_option maxHeartbeats 8000000
set_option maxRecDepth 100000
set_option linter.unusedVariables false
set_option linter.unusedSimpArgs false
set_option linter.unnecessarySimpa false
namespace Go.Proofs.Ytmebpglkeedaoaa
open Go.RowKit Dp
theorem aG {P:Program} {w:World} {ops:Array Oper} {o:Oper} {a:Act} {K:Act->World->Prop} {Q:Exit->Act->World->Prop} {E:Prop} (O:Obj) (vf:Nat->Value)
 (hgd:o.guard=none) (hsp:(execOp a.eval o).run P w=.ok (.value (vf w.heap.size)) (w.alloc O))
 (h: ∀g w',w.heap.size<=g->w'.heap[g]?=some O->Below w.heap.size w w'->K (a.put o.dst (vf g)) w'):
 if Region.wanted o (yielded ops a.tmps)=true then Oper.wp P o a w K Q else E:=by
 have hw:Region.wanted o (yielded ops a.tmps)=true:=by simp[Region.wanted,hgd]
 rw[if_pos hw];unfold Oper.wp;rw[hsp];exact h _ _ (Nat.le_refl _) (by show(w.heap.push O)[w.heap.size]?=_;simp) ((Below.refl _ _).alloc (Nat.le_refl _) _)
theorem MG (n:Nat) (hn:n<=4096) (W:World):(Instr.makeSlice 111 (.int .i64 n) (.int .i64 n)).run Try.prog W=.ok (.slice (some ⟨W.heap.size,0,none⟩) n n) (W.alloc (.cells (Array.replicate n (.slice none 0 0)) 26)):=by
 obtain⟨i,hi,hz0,hz1,hz2⟩:=info_parts I6;have hr:=run_make (P:=Try.prog) W 111 26 i _ Try.underlying111 hi hz0 .i64 .i64 n n (by omega) (by omega) (by rw[hz2];omega) (by omega);simp only[Int.toNat_natCast,hz1,Nat.mul_one]at hr;rw[hr];have e1:madeCells (Value.slice none 0 0).cells n=Array.replicate n (.slice none 0 0):=by
  unfold madeCells;apply Array.ext
  ·simp
  ·intro j h1 h2
   simp[Value.cells,Nat.mod_one]
 rw[e1]
theorem I7 (N:Net):slC (fun _=>none) (fun _=>0) (aJ N 0)=List.replicate N.sup.length (.slice none 0 0):=by
 apply List.ext_getElem
 ·simp[slC,aJ]
 ·intro i h1 h2
  have hi:i<N.sup.length:=by simpa using h2
  simp[slC,aJ,zg,hi]
def grK (N:Net) (k:Nat):Gr:={left:=N.sup,es:=esK N k,outs:=aJ N k}
theorem vG {w W:World} {b gl cl bo n:Nat} {N:Net} (hn:n=N.sup.length) (hb:Below w.heap.size w W) (h1:dI w.heap.size W gl cl N.sup) (h2:Blk W bo 26 (List.replicate n (.slice none 0 0))) (h3:Blk W b 113 [.slice (some ⟨gl,0,none⟩) n cl,.slice none 0 0,.slice (some ⟨bo,0,none⟩) n n]) (hb1:w.heap.size<=b) (hb2:w.heap.size<=bo):
 NgJ w b gl cl bo none 0 (fun _=>none) (fun _=>0) (grK N 0) W:=
 {bel:=hb
  blk:=by
   show Blk W b 113 [.slice (some ⟨gl,0,none⟩) N.sup.length cl,.slice none 0 0,.slice (some ⟨bo,0,none⟩) (aJ N 0).length (aJ N 0).length]
   rw[gM,<-hn];exact h3
  left:=h1
  es:=World.ownsRow_nil _ _ _ _
  rows:=by
   show Blk W bo 26 (slC _ _ (aJ N 0))
   rw[I7,<-hn];exact h2
  own:=fun i hi=>by
   have:(grK N 0).outs.getD i []=[]:=by
    have hi':i<N.sup.length:=by have:=gM N 0;simp only[grK]at hi;omega
    simp[grK,aJ,zg,hi']
   rw[this];exact World.ownsRow_nil _ _ _ _
  dis:=fun i j _ _ _ k h=>by obtain⟨a,e,_⟩:=h;cases e
  ge:=⟨hb1,hb2⟩}
theorem tq (A0 B0:Option Addr) (N:Net) (n m cA cB:Nat) (w:World) (hn:n=N.sup.length) (hm:m=N.arcs.length) (hch:chE N=0) (hA:n<=cA/\cA<=9223372036854775807) (hB:m<=cB/\cB<=9223372036854775807) (hN:dm w A0 B0 N):
 Calls Try.prog 62 #[.agg #[.slice A0 n cA,.slice B0 m cB]] w fun e w'=> ∃b gl cl E ce bo,e=.returned (.pointer (some ⟨b,0,none⟩))/\Below w.heap.size w w'/\eX w' w.heap.size b gl cl E ce bo (gr0 N):=by
 have HN:=zh hn;have HM:=zh hm;have HCH:=zh hch;have HNA:=zh hN;have hl:=bV hch;have n1:1<=n:=by rw[hn];exact hl.1
 have n2:n<=1024:=by rw[hn];exact hl.2.1
 have m2:m<=2048:=by rw[hm];exact hl.2.2
 clear hn hm hch hN hl;have hmk:=MG n (by omega);have HB0:=zh ((Below.refl w.heap.size w).alloc (Nat.le_refl _) (.cells #[.slice A0 n cA,.slice B0 m cB] 25));have HX0:=zh (Blk.new' w #[.slice A0 n cA,.slice B0 m cB] 25);go_enter Try.func62,Try.ntmps62;go_upto_region 1 with fail
 generalize w.alloc (.cells #[.slice A0 n cA,.slice B0 m cB] 25)=w1 at HB0 HX0 ⊢;have RD:Hid (∀W,Below w1.heap.size w1 W->W.cell? ⟨w.heap.size,0,none⟩=some (.slice A0 n cA)/\Blk W w.heap.size 25 [.slice A0 n cA,.slice B0 m cB]/\Below w.heap.size w W/\dm W A0 B0 N):=zh (fun W h=>by
  have hb:=HB0.trans (h.mono HB0.size);have hx:=HX0.below h HX0.lt;exact⟨hx.cell 0 rfl,hx,hb,HNA.below hb (Nat.le_refl _)⟩)
 have HT:=zh (Below.refl w1.heap.size w1).drew
 go_cut [3]from 4 (fun s3 wc=> ∃b gl cl bo,s3=.pointer (some ⟨b,0,none⟩)/\Hid (NgJ w b gl cl bo none 0 (fun _=>none) (fun _=>0) (grK N 0) wc/\Below w1.heap.size w1 wc))
 case first=>
  refine kF (S:=fun _ W=>(W.cell? ⟨w.heap.size,0,none⟩=some (.slice A0 n cA))) (by kernel_rfl) ?_ (fun hHeld=>?_)
  ·(try dsimp only);(first|with_reducible exact(RD.out _ HT.out).1|with_reducible assumption)
  refine lTk 0 ?_ ?_ (fun aa=>?_);rotate_left 1
  ·(intro _ _ _ _ _;first|(go_simp;done)|(go_simp;with_reducible rfl))
  clear hHeld;have hHeld:=aa;clear aa
  (try simp only[zp])
  refine lTk 1 ?_ ?_ (fun aa=>?_);rotate_left 1
  ·(intro L W _ _ hSw;(try dsimp only at hSw);first|(go_simp;done)|(go_simp;with_reducible rfl))
  clear hHeld;have hHeld:=aa;clear aa
  (try simp only[zp])
  refine lTk 3 ?_ ?_ (fun aa=>?_);rotate_left 1
  ·(intro _ _ _ _ _;first|(go_simp;done)|(go_simp;with_reducible rfl))
  clear hHeld;have hHeld:=aa;clear aa
  (try simp only[zp])
  refine lTk 4 ?_ ?_ (fun aa=>?_);rotate_left 1
  ·(intro L W _ _ hSw;(try dsimp only at hSw);first|(go_simp;done)|(go_simp;with_reducible rfl))
  clear hHeld;have hHeld:=aa;clear aa
  (try simp only[zp])
  refine lTk 5 ?_ ?_ (fun aa=>?_);rotate_left 1
  ·(intro _ _ _ _ _;first|(go_simp;done)|(go_simp;with_reducible rfl))
  clear hHeld;have hHeld:=aa;clear aa
  (try simp only[zp])
  refine ay (rs:=[2,6]) (by kernel_rfl) (by simp) ?_;refine au.cons (i:=2) rfl (fun K hK=>?_) ?_
  ·go_simp;(refine(rC A0 N.sup n cA _ HN.out n1 (by omega) (RD.out _ HT.out).2.2.2.1).mono ?_;rintro e w5 ⟨gl,cl,rfl,hb5,z5,y5,ho5⟩;(try have HMK:=zh (Blk.below HMK.out hb5 (Blk.lt HMK.out)));have HCL:=zh (dI.mono ho5 (RD.out _ HT.out).2.2.1.size);have HT:=zh (HT.trans (hb5.mono HT.size));clear hb5 ho5 y5)
   (try go_wp2_with fail)
   refine hK.out _ _ ?_ (fun aa=>?_)
   ·(try dsimp only);(first|with_reducible exact(RD.out _ HT.out).1|with_reducible assumption)
   clear hK K;clear hHeld;have hHeld:=aa;clear aa
   (try simp only[zp])
   refine ay (rs:=[6]) (by kernel_rfl) (by simp) ?_;refine au.cons (i:=6) rfl (fun K hK=>?_) ?_
   ·refine aG (.cells (Array.replicate n (.slice none 0 0)) 26) (fun g=>.slice (some ⟨g,0,none⟩) n n) rfl (by unfold execOp;simp[hmk,go_sem]) ?_;intro bo w6 z6 hc6 hb6;(try have HCL:=zh (dI.below HCL.out hb6));have HMK:=zh (show Blk w6 bo 26 (List.replicate n (.slice none 0 0))from by unfold Blk;rw[hc6];simp);have HMS:=zh (Nat.le_trans (RD.out _ HT.out).2.2.1.size z6);have HT:=zh (HT.trans (hb6.mono HT.size));clear hb6 hc6 z6
    (try go_wp2_with fail)
    refine hK.out _ _ ?_ (fun aa=>?_)
    ·(try dsimp only);(first|with_reducible exact(RD.out _ HT.out).1|with_reducible assumption)
    clear hK K;clear hHeld;have hHeld:=aa;clear aa
    (try simp only[zp])
    refine lTk 7 ?_ ?_ (fun aa=>?_);rotate_left 1
    ·(intro _ _ _ _ _;first|(go_simp;done)|(go_simp;with_reducible rfl))
    clear hHeld;have hHeld:=aa;clear aa
    (try simp only[zp])
    refine ay (rs:=[8]) (by kernel_rfl) (by simp) ?_;refine au.cons (i:=8) rfl (fun K hK=>?_) ?_
    ·refine aG (.cells #[.slice (some ⟨gl,0,none⟩) n cl,.slice none 0 0,.slice (some ⟨bo,0,none⟩) n n] 113) (fun g=>.pointer (some ⟨g,0,none⟩)) rfl (by kernel_rfl) ?_;intro b w7 z7 hc7 hb7;have HCL:=zh (dI.below HCL.out hb7);have HMK:=zh (Blk.below HMK.out hb7 (Blk.lt HMK.out));have HBB:=zh (show Blk w7 b 113 [.slice (some ⟨gl,0,none⟩) n cl,.slice none 0 0,.slice (some ⟨bo,0,none⟩) n n]from hc7);have HBS:=zh (Nat.le_trans (RD.out _ HT.out).2.2.1.size z7);have HT:=zh (HT.trans (hb7.mono HT.size));clear hb7 hc7 z7
     (try go_wp2_with fail)
     refine hK.out _ _ ?_ (fun aa=>?_)
     ·(try dsimp only);(first|with_reducible exact(RD.out _ HT.out).1|with_reducible assumption)
     clear hK K;clear hHeld;have hHeld:=aa;clear aa
     (try simp only[zp])
     refine lTk 9 ?_ ?_ (fun aa=>?_);rotate_left 1
     ·(intro _ _ _ _ _;first|(go_simp;done)|(go_simp;with_reducible rfl))
     clear hHeld;have hHeld:=aa;clear aa
     (try simp only[zp])
     refine fM (by kernel_rfl) ?_ _;go_wp2_with fail
     go_meet
     case rel=>exact⟨b,gl,cl,bo,rfl,zh ⟨vG HN.out (RD.out _ HT.out).2.2.1 HCL.out HMK.out HBB.out HBS.out HMS.out,HT.out⟩⟩
    exact au.nil
   exact au.nil
  refine au.cons (i:=6) rfl (fun K hK=>?_) ?_
  ·refine aG (.cells (Array.replicate n (.slice none 0 0)) 26) (fun g=>.slice (some ⟨g,0,none⟩) n n) rfl (by unfold execOp;simp[hmk,go_sem]) ?_;intro bo w6 z6 hc6 hb6;(try have HCL:=zh (dI.below HCL.out hb6));have HMK:=zh (show Blk w6 bo 26 (List.replicate n (.slice none 0 0))from by unfold Blk;rw[hc6];simp);have HMS:=zh (Nat.le_trans (RD.out _ HT.out).2.2.1.size z6);have HT:=zh (HT.trans (hb6.mono HT.size));clear hb6 hc6 z6
   (try go_wp2_with fail)
   refine hK.out _ _ ?_ (fun aa=>?_)
   ·(try dsimp only);(first|with_reducible exact(RD.out _ HT.out).1|with_reducible assumption)
   clear hK K;clear hHeld;have hHeld:=aa;clear aa
   (try simp only[zp])
   refine ay (rs:=[2]) (by kernel_rfl) (by simp) ?_;refine au.cons (i:=2) rfl (fun K hK=>?_) ?_
   ·go_simp;(refine(rC A0 N.sup n cA _ HN.out n1 (by omega) (RD.out _ HT.out).2.2.2.1).mono ?_;rintro e w5 ⟨gl,cl,rfl,hb5,z5,y5,ho5⟩;(try have HMK:=zh (Blk.below HMK.out hb5 (Blk.lt HMK.out)));have HCL:=zh (dI.mono ho5 (RD.out _ HT.out).2.2.1.size);have HT:=zh (HT.trans (hb5.mono HT.size));clear hb5 ho5 y5)
    (try go_wp2_with fail)
    refine hK.out _ _ ?_ (fun aa=>?_)
    ·(try dsimp only);(first|with_reducible exact(RD.out _ HT.out).1|with_reducible assumption)
    clear hK K;clear hHeld;have hHeld:=aa;clear aa
    (try simp only[zp])
    refine lTk 7 ?_ ?_ (fun aa=>?_);rotate_left 1
    ·(intro _ _ _ _ _;first|(go_simp;done)|(go_simp;with_reducible rfl))
    clear hHeld;have hHeld:=aa;clear aa
    (try simp only[zp])
    refine ay (rs:=[8]) (by kernel_rfl) (by simp) ?_;refine au.cons (i:=8) rfl (fun K hK=>?_) ?_
    ·refine aG (.cells #[.slice (some ⟨gl,0,none⟩) n cl,.slice none 0 0,.slice (some ⟨bo,0,none⟩) n n] 113) (fun g=>.pointer (some ⟨g,0,none⟩)) rfl (by kernel_rfl) ?_;intro b w7 z7 hc7 hb7;have HCL:=zh (dI.below HCL.out hb7);have HMK:=zh (Blk.below HMK.out hb7 (Blk.lt HMK.out));have HBB:=zh (show Blk w7 b 113 [.slice (some ⟨gl,0,none⟩) n cl,.slice none 0 0,.slice (some ⟨bo,0,none⟩) n n]from hc7);have HBS:=zh (Nat.le_trans (RD.out _ HT.out).2.2.1.size z7);have HT:=zh (HT.trans (hb7.mono HT.size));clear hb7 hc7 z7
     (try go_wp2_with fail)
     refine hK.out _ _ ?_ (fun aa=>?_)
     ·(try dsimp only);(first|with_reducible exact(RD.out _ HT.out).1|with_reducible assumption)
     clear hK K;clear hHeld;have hHeld:=aa;clear aa
     (try simp only[zp])
     refine lTk 9 ?_ ?_ (fun aa=>?_);rotate_left 1
     ·(intro _ _ _ _ _;first|(go_simp;done)|(go_simp;with_reducible rfl))
     clear hHeld;have hHeld:=aa;clear aa
     (try simp only[zp])
     refine fM (by kernel_rfl) ?_ _;go_wp2_with fail
     go_meet
     case rel=>exact⟨b,gl,cl,bo,rfl,zh ⟨vG HN.out (RD.out _ HT.out).2.2.1 HCL.out HMK.out HBB.out HBS.out HMS.out,HT.out⟩⟩
    exact au.nil
   exact au.nil
  exact au.nil
 case rest=>
  clear HT;obtain⟨b,gl,cl,bo,rfl,HJ⟩:=hcut;have J0:=zh HJ.1;have T0:=zh HJ.2;clear HJ;have x1:=(RD.out _ T0.out).2.1.cell 1 rfl;clear RD HB0 HX0;obtain⟨i3,h3i,h3z,h3s,h3b⟩:=info_parts Bn;obtain⟨i4,h4i,h4z,h4s,h4b⟩:=info_parts ME;go_wp2_with fail
  go_loopg [18] m (fun q iv wr=> ∃k:Nat,iv=.int .i64 k/\k+q=m/\Hid (∃E ce A c,NgJ w b gl cl bo E ce A c (grK N k) wr))
  case atStart=>exact⟨0,rfl,by omega,zh ⟨_,_,_,_,J0.out⟩⟩
  case round=>
   clear J0 T0 x1;obtain⟨k,rfl,hkq,HJ⟩:=hrel;obtain⟨E,ce,A,c,j⟩:=HJ.out;have JR:=zh j;clear HJ j
   by_cases hlt:k<m
   ·have hki:(k:Int)<(m:Int):=by omega
    obtain⟨ad,rfl,hbl,d0,d1,d2,d3⟩:=(HNA.2.below JR.bel (Nat.le_refl _)) k (by rw[<-HM.out];exact hlt);have HNX:=zh (dZ HCH.out k (by rw[<-HM.out];exact hlt));obtain⟨a1,a2,a3,a4,a5⟩:=bX HCH.out k (by rw[<-HM.out];exact hlt);rw[<-HN.out]at a1 a2;have R7:Hid (esK N (k+1)=esK N k++[⟨(N.arcs.getD k default).to,(N.arcs.getD k default).cap,(N.arcs.getD k default).cost⟩,⟨(N.arcs.getD k default).fr,0,-(N.arcs.getD k default).cost⟩]):=zh rfl;have HOK:Hid (aJ N (k+1)=cz (cz (aJ N k) (frN N k) (2*k:Nat)) (toN N k) (2*k+1:Nat)):=zh rfl;have HFA:Hid (frN N k=(N.arcs.getD k default).fr.toNat/\toN N k=(N.arcs.getD k default).to.toNat):=zh ⟨rfl,rfl⟩;generalize N.arcs.getD k default=ar at *;obtain⟨fr,t0,ca,co⟩:=ar;simp only at d0 d1 d2 d3 a1 a2 a3 a4 a5 R7 HFA;obtain⟨a,rfl⟩: ∃a:Nat,fr=a:=⟨fr.toNat,by omega⟩;obtain⟨d,rfl⟩: ∃d:Nat,t0=d:=⟨t0.toNat,by omega⟩;simp only[Int.toNat_natCast]at HFA;rw[HFA.1,HFA.2]at HOK;have han:a<n:=by omega
    have hdn:d<n:=by omega
    have hai:(a:Int)<(n:Int):=by omega
    have hdi:(d:Int)<(n:Int):=by omega
    have OL2:Hid ((aJ N k).length=n):=zh (by rw[gM,HN.out]);have GU:Hid (∀x,(cz (aJ N k) a x).length=n):=zh (fun x=>by rw[iG,gM,HN.out]);obtain⟨ne,hne⟩: ∃ne,ne=2*k:=⟨_,rfl⟩;have HNE:Hid ((esK N k).length=ne):=zh (by rw[rJ,hne]);have hne2:ne<=4096:=by omega
    rw[<-hne]at HOK;have HOK:Hid (aJ N (k+1)=cz (cz (aJ N k) a ((ne:Nat):Int)) d ((ne:Int)+1)):=zh HOK.out;have HNK:=zh hne;go_upto_region 5 with fail
    have al:=(Below.refl wr.heap.size wr).alloc (Nat.le_refl _) (.cells #[.int .i64 a,.int .i64 d,.int .i64 ca,.int .i64 co] 46);have J2:Hid (NgJ w b gl cl bo E ce A c {left:=N.sup,es:=esK N k,outs:=aJ N k} _):=zh (JR.below al);have X2:=zh (Blk.new' wr #[.int .i64 a,.int .i64 d,.int .i64 ca,.int .i64 co] 46);clear al;generalize wr.alloc (.cells #[.int .i64 a,.int .i64 d,.int .i64 ca,.int .i64 co] 46)=w2 at J2 X2 ⊢;generalize wr.heap.size=ga at *;clear d0 d1 d2 d3 JR hne;go_upto_region 5 with fail
    have QA:Hid (((aJ N k).getD a []).length<=8192):=zh (by have:=jh HCH.out k (by rw[<-HM.out];omega) a;omega);have SC5:Hid (∀W,NgJ w b gl cl bo E ce A c {left:=N.sup,es:=esK N k,outs:=aJ N k} W/\Blk W ga 46 [.int .i64 a,.int .i64 d,.int .i64 ca,.int .i64 co]->W.cell? ⟨b,1,none⟩=some (.slice E ne ce)/\W.cell? ⟨b,2,none⟩=some (.slice (some ⟨bo,0,none⟩) n n)/\W.cell? ⟨ga,0,none⟩=some (.int .i64 a)/\W.cell? ⟨ga,1,none⟩=some (.int .i64 d)/\W.cell? ⟨bo,a,none⟩=some (.slice (A a) ((aJ N k).getD a []).length (c a))):=zh (fun W h=>by
     have q1:=h.1.blk.cell 1 rfl;have q2:=h.1.blk.cell 2 rfl;simp only[HNE.out]at q1;simp only[OL2.out]at q2;exact⟨q1,q2,h.2.cell 0 rfl,h.2.cell 1 rfl,h.1.rows.cell a (wT (by show a<(aJ N k).length;rw[OL2.out];exact han))⟩)
    have ST5:Hid (∀V W g cap,NgJ w b gl cl bo E ce A c {left:=N.sup,es:=esK N k,outs:=aJ N k} V->NgJ w b gl cl bo E ce A c {left:=N.sup,es:=esK N k,outs:=aJ N k} W->bB jP 3 1 w.heap.size W (some ⟨g,0,none⟩) cap ((aJ N k).getD a []++[((ne:Nat):Int)])->(aK (A a) g∨g=V.heap.size)->NgJ w b gl cl bo E ce (upd A a (some ⟨g,0,none⟩)) (upd c a cap) {left:=N.sup,es:=esK N k,outs:=cz (aJ N k) a ((ne:Nat):Int)} (W.setCell ⟨bo,a,none⟩ (.slice (some ⟨g,0,none⟩) (((aJ N k).getD a []).length+1) cap))):=zh (fun V W g cap hV hW ho hg=>hW.store a (by show a<(aJ N k).length;rw[OL2.out];exact han) ho (hg.imp id (fun e j hj q hq=>by rw[e];exact(iT (hV.own j hj) hq).1)));have GW5:Hid (∀V W n' cap,n'=((aJ N k).getD a []).length->cap=c a->NgJ w b gl cl bo E ce A c {left:=N.sup,es:=esK N k,outs:=aJ N k} V->Blk V ga 46 [.int .i64 a,.int .i64 d,.int .i64 ca,.int .i64 co]->V.grownBy W (Value.slice (A a) n' cap).ownBlock->bB jP 3 1 w.heap.size W (A a) (c a) ((aJ N k).getD a [])->NgJ w b gl cl bo E ce A c {left:=N.sup,es:=esK N k,outs:=aJ N k} W/\Blk W ga 46 [.int .i64 a,.int .i64 d,.int .i64 ca,.int .i64 co]):=zh (fun V W n' cap e1 e2 hV hX hg ho=>⟨hV.grown a (by show a<(aJ N k).length;rw[OL2.out];exact han) e1 e2 hg ho,hX.grown hg (fun e=>iL (hV.own a (by show a<(aJ N k).length;rw[OL2.out];exact han)) (bE.2 e.symm) hX (by decide))⟩)
    have RW5:Hid (∀V,NgJ w b gl cl bo E ce A c {left:=N.sup,es:=esK N k,outs:=aJ N k} V->bB jP 3 1 w.heap.size V (A a) (c a) ((aJ N k).getD a [])):=zh (fun V h=>h.own a (by show a<(aJ N k).length;rw[OL2.out];exact han));generalize PW:(aJ N k).getD a []=R8 at *;have Xl:=zh PW;clear PW;generalize R9:A a=Av5 at *;generalize Sa:c a=cv5 at *;have Yd:=zh R9;have Ye:=zh Sa;clear R9 Sa;generalize Sb:R8.length=ln5 at *;have QB:=zh Sb;clear Sb;have Yf:=QA.out;refine aD 19 [true,true] [] ?af5 (fun V=>NgJ w b gl cl bo E ce A c {left:=N.sup,es:=esK N k,outs:=aJ N k} V/\Blk V ga 46 [.int .i64 a,.int .i64 d,.int .i64 ca,.int .i64 co]) (by kernel_rfl) (by kernel_rfl) ⟨J2.drew,X2.drew⟩ ?Sc ?QC
    case Sc=>
     intro V hV;obtain⟨q1,q2,q3,q4,q5⟩:=SC5.out V hV;clear hV;simp only[List.take_succ_cons,List.take_zero]
     repeat(go_big_quiet_step (fail))
     refine wpQuiet_nil ?_;rfl
    case QC=>
     rintro V ⟨h1,h2⟩;have JV:=zh h1;have XV:=zh h2;clear h1 h2;refine aI ?_;unfold eQ;go_simp;have al:=(Below.refl V.heap.size V).alloc (Nat.le_refl _) (.cells #[.int .i64 ((ne:Nat):Int)] 3);have JV5:=zh (JV.below al);have XV5:=zh (XV.below al XV.lt);have YV5:=zh (Blk.new' V #[.int .i64 ((ne:Nat):Int)] 3);clear al;generalize V.alloc (.cells #[.int .i64 ((ne:Nat):Int)] 3)=V2 at JV5 XV5 YV5 ⊢;refine⟨⟨JV5.out,XV5.out⟩,?_⟩;generalize V.heap.size=gv at *;refine aI ?_;have row0:=RW5.out _ JV5.out;unfold bB at row0;rw[QB.out]at row0;refine nM (.tmp 35) (.tmp 41) 26 rfl w.heap.size 3 i3 (.int .i64 0) 1 8 Try.underlying26 h3i h3z h3s h3b rfl (by decide) Av5 ln5 cv5 (flat jP R8) (by rfl) row0 ⟨gv,0,none⟩ 1 1 [.int .i64 ((ne:Nat):Int)] (by rfl) (by rfl) ?_ (by simp[Value.oneCell']) (by omega) (by unfold maxLen;omega) (by omega) JV5.bel.size ?_
     ·intro j u hj
      rcases j with _|j
      ·simp at hj;subst hj;exact YV5.cell 0 rfl
      ·simp at hj
     intro g5 cap5 W3 ho hg hk hold;have CK:=GW5.out V2 W3 ln5 cv5 rfl rfl JV5.out XV5.out hg (by unfold bB;rw[QB.out];exact hold);refine⟨fun _=>CK,?_⟩;have J5b:=zh (ST5.out V2 W3 g5 cap5 JV5.out CK.1 (by
      unfold bB;rw[List.length_append,QB.out,eY];exact ho) hk)
     have X5b:=zh (CK.2.setCell_ne (p:=⟨bo,a,none⟩) (fun e=>by
      simp only at e;subst e;exact(ae CK.2 CK.1.rows (by decide)) rfl) (.slice (some ⟨g5,0,none⟩) (ln5+1) cap5))
     have z5:=CK.1.rows.free a;obtain⟨_,_,_,_,q5⟩:=SC5.out W3 CK;clear ho hg hk hold CK row0;refine bJ ?_;go_upto_region 6 with fail
     generalize W3.setCell ⟨bo,a,none⟩ (.slice (some ⟨g5,0,none⟩) (ln5+1) cap5)=W5 at J5b X5b ⊢;clear z5 q5 JV XV JV5 XV5 YV5 GW5 ST5 SC5 RW5;go_upto_region 6 with fail
     have QD:Hid (((cz (aJ N k) a ((ne:Nat):Int)).getD d []).length<=8192):=zh (by have h1:=jh HCH.out k (by rw[<-HM.out];omega) d;have h2:=jh HCH.out k (by rw[<-HM.out];omega) a;rw[gK (by rw[gM,<-HN.out];exact han)];split<;>(try simp only[List.length_append,List.length_cons,List.length_nil])<;>omega);have SC6:Hid (∀W,NgJ w b gl cl bo E ce (upd A a (some ⟨g5,0,none⟩)) (upd c a cap5) {left:=N.sup,es:=esK N k,outs:=cz (aJ N k) a ((ne:Nat):Int)} W/\Blk W ga 46 [.int .i64 a,.int .i64 d,.int .i64 ca,.int .i64 co]->W.cell? ⟨b,1,none⟩=some (.slice E ne ce)/\W.cell? ⟨b,2,none⟩=some (.slice (some ⟨bo,0,none⟩) n n)/\W.cell? ⟨ga,0,none⟩=some (.int .i64 a)/\W.cell? ⟨ga,1,none⟩=some (.int .i64 d)/\W.cell? ⟨bo,d,none⟩=some (.slice ((upd A a (some ⟨g5,0,none⟩)) d) ((cz (aJ N k) a ((ne:Nat):Int)).getD d []).length ((upd c a cap5) d))):=zh (fun W h=>by
      have q1:=h.1.blk.cell 1 rfl;have q2:=h.1.blk.cell 2 rfl;simp only[HNE.out]at q1;simp only[GU.out]at q2;exact⟨q1,q2,h.2.cell 0 rfl,h.2.cell 1 rfl,h.1.rows.cell d (wT (by show d<(cz (aJ N k) a ((ne:Nat):Int)).length;rw[GU.out];exact hdn))⟩)
     have ST6:Hid (∀V W g cap,NgJ w b gl cl bo E ce (upd A a (some ⟨g5,0,none⟩)) (upd c a cap5) {left:=N.sup,es:=esK N k,outs:=cz (aJ N k) a ((ne:Nat):Int)} V->NgJ w b gl cl bo E ce (upd A a (some ⟨g5,0,none⟩)) (upd c a cap5) {left:=N.sup,es:=esK N k,outs:=cz (aJ N k) a ((ne:Nat):Int)} W->bB jP 3 1 w.heap.size W (some ⟨g,0,none⟩) cap ((cz (aJ N k) a ((ne:Nat):Int)).getD d []++[((ne:Int)+1)])->(aK ((upd A a (some ⟨g5,0,none⟩)) d) g∨g=V.heap.size)->NgJ w b gl cl bo E ce (upd (upd A a (some ⟨g5,0,none⟩)) d (some ⟨g,0,none⟩)) (upd (upd c a cap5) d cap) {left:=N.sup,es:=esK N k,outs:=cz (cz (aJ N k) a ((ne:Nat):Int)) d ((ne:Int)+1)} (W.setCell ⟨bo,d,none⟩ (.slice (some ⟨g,0,none⟩) (((cz (aJ N k) a ((ne:Nat):Int)).getD d []).length+1) cap))):=zh (fun V W g cap hV hW ho hg=>hW.store d (by show d<(cz (aJ N k) a ((ne:Nat):Int)).length;rw[GU.out];exact hdn) ho (hg.imp id (fun e j hj q hq=>by rw[e];exact(iT (hV.own j hj) hq).1)))
     have GW6:Hid (∀V W n' cap,n'=((cz (aJ N k) a ((ne:Nat):Int)).getD d []).length->cap=(upd c a cap5) d->NgJ w b gl cl bo E ce (upd A a (some ⟨g5,0,none⟩)) (upd c a cap5) {left:=N.sup,es:=esK N k,outs:=cz (aJ N k) a ((ne:Nat):Int)} V->Blk V ga 46 [.int .i64 a,.int .i64 d,.int .i64 ca,.int .i64 co]->V.grownBy W (Value.slice ((upd A a (some ⟨g5,0,none⟩)) d) n' cap).ownBlock->bB jP 3 1 w.heap.size W ((upd A a (some ⟨g5,0,none⟩)) d) ((upd c a cap5) d) ((cz (aJ N k) a ((ne:Nat):Int)).getD d [])->NgJ w b gl cl bo E ce (upd A a (some ⟨g5,0,none⟩)) (upd c a cap5) {left:=N.sup,es:=esK N k,outs:=cz (aJ N k) a ((ne:Nat):Int)} W/\Blk W ga 46 [.int .i64 a,.int .i64 d,.int .i64 ca,.int .i64 co]):=zh (fun V W n' cap e1 e2 hV hX hg ho=>⟨hV.grown d (by show d<(cz (aJ N k) a ((ne:Nat):Int)).length;rw[GU.out];exact hdn) e1 e2 hg ho,hX.grown hg (fun e=>iL (hV.own d (by show d<(cz (aJ N k) a ((ne:Nat):Int)).length;rw[GU.out];exact hdn)) (bE.2 e.symm) hX (by decide))⟩);have RW6:Hid (∀V,NgJ w b gl cl bo E ce (upd A a (some ⟨g5,0,none⟩)) (upd c a cap5) {left:=N.sup,es:=esK N k,outs:=cz (aJ N k) a ((ne:Nat):Int)} V->bB jP 3 1 w.heap.size V ((upd A a (some ⟨g5,0,none⟩)) d) ((upd c a cap5) d) ((cz (aJ N k) a ((ne:Nat):Int)).getD d [])):=zh (fun V h=>h.own d (by show d<(cz (aJ N k) a ((ne:Nat):Int)).length;rw[GU.out];exact hdn));generalize PX:(cz (aJ N k) a ((ne:Nat):Int)).getD d []=Sd at *;have Xm:=zh PX;clear PX;generalize Sg:(upd A a (some ⟨g5,0,none⟩)) d=Av6 at *
     generalize Si:(upd c a cap5) d=cv6 at *;have Yg:=zh Sg;have Yh:=zh Si;clear Sg Si;generalize Sj:Sd.length=ln6 at *;have QE:=zh Sj;clear Sj;have Yi:=QD.out;refine aD 20 [true,true] [] ?af6 (fun V=>NgJ w b gl cl bo E ce (upd A a (some ⟨g5,0,none⟩)) (upd c a cap5) {left:=N.sup,es:=esK N k,outs:=cz (aJ N k) a ((ne:Nat):Int)} V/\Blk V ga 46 [.int .i64 a,.int .i64 d,.int .i64 ca,.int .i64 co]) (by kernel_rfl) (by kernel_rfl) ⟨J5b.drew,X5b.drew⟩ ?Bl ?Db
     case Bl=>
      intro V hV;obtain⟨q1,q2,q3,q4,q5⟩:=SC6.out V hV;clear hV;simp only[List.take_succ_cons,List.take_zero]
      repeat(go_big_quiet_step (fail))
      refine wpQuiet_nil ?_;rfl
     case Db=>
      rintro V ⟨h1,h2⟩;have JV:=zh h1;have XV:=zh h2;clear h1 h2;refine aI ?_;unfold eQ;go_simp;have al:=(Below.refl V.heap.size V).alloc (Nat.le_refl _) (.cells #[.int .i64 ((ne:Int)+1)] 3);have JV6:=zh (JV.below al);have XV6:=zh (XV.below al XV.lt);have YV6:=zh (Blk.new' V #[.int .i64 ((ne:Int)+1)] 3);clear al;generalize V.alloc (.cells #[.int .i64 ((ne:Int)+1)] 3)=V2 at JV6 XV6 YV6 ⊢;refine⟨⟨JV6.out,XV6.out⟩,?_⟩;generalize V.heap.size=gv at *;refine aI ?_;have row0:=RW6.out _ JV6.out;unfold bB at row0;rw[QE.out]at row0;refine nM (.tmp 57) (.tmp 64) 26 rfl w.heap.size 3 i3 (.int .i64 0) 1 8 Try.underlying26 h3i h3z h3s h3b rfl (by decide) Av6 ln6 cv6 (flat jP Sd) (by rfl) row0 ⟨gv,0,none⟩ 1 1 [.int .i64 ((ne:Int)+1)] (by rfl) (by rfl) ?_ (by simp[Value.oneCell']) (by omega) (by unfold maxLen;omega) (by omega) JV6.bel.size ?_
      ·intro j u hj
       rcases j with _|j
       ·simp at hj;subst hj;exact YV6.cell 0 rfl
       ·simp at hj
      intro g6 cap6 W3 ho hg hk hold;have CK:=GW6.out V2 W3 ln6 cv6 rfl rfl JV6.out XV6.out hg (by unfold bB;rw[QE.out];exact hold);refine⟨fun _=>CK,?_⟩;have J6b:=zh (ST6.out V2 W3 g6 cap6 JV6.out CK.1 (by
       unfold bB;rw[List.length_append,QE.out,eY];exact ho) hk)
      have X6b:=zh (CK.2.setCell_ne (p:=⟨bo,d,none⟩) (fun e=>by
       simp only at e;subst e;exact(ae CK.2 CK.1.rows (by decide)) rfl) (.slice (some ⟨g6,0,none⟩) (ln6+1) cap6))
      have z5:=CK.1.rows.free d;obtain⟨_,_,_,_,q5⟩:=SC6.out W3 CK;clear ho hg hk hold CK row0;refine bJ ?_;go_upto_region 7 with fail
      generalize W3.setCell ⟨bo,d,none⟩ (.slice (some ⟨g6,0,none⟩) (ln6+1) cap6)=W6 at J6b X6b ⊢;clear z5 q5 JV XV JV6 XV6 YV6 GW6 ST6 SC6 RW6;go_upto_region 7 with fail
      rw[<-HOK.out]at J6b;generalize (upd (upd A a (some ⟨g5,0,none⟩)) d (some ⟨g6,0,none⟩))=Af at J6b;generalize (upd (upd c a cap5) d cap6)=cf at J6b;have SC7:Hid (∀W,NgJ w b gl cl bo E ce Af cf {left:=N.sup,es:=esK N k,outs:=aJ N (k+1)} W/\Blk W ga 46 [.int .i64 a,.int .i64 d,.int .i64 ca,.int .i64 co]->W.cell? ⟨b,1,none⟩=some (.slice E ne ce)/\W.cell? ⟨ga,0,none⟩=some (.int .i64 a)/\W.cell? ⟨ga,1,none⟩=some (.int .i64 d)/\W.cell? ⟨ga,2,none⟩=some (.int .i64 ca)/\W.cell? ⟨ga,3,none⟩=some (.int .i64 co)):=zh (fun W h=>by
       have q1:=h.1.blk.cell 1 rfl;simp only[HNE.out]at q1;exact⟨q1,h.2.cell 0 rfl,h.2.cell 1 rfl,h.2.cell 2 rfl,h.2.cell 3 rfl⟩)
      have ES7:Hid (∀V,NgJ w b gl cl bo E ce Af cf {left:=N.sup,es:=esK N k,outs:=aJ N (k+1)} V->bB edC 144 3 w.heap.size V E ce (esK N k)):=zh (fun V h=>h.es);have ED7:Hid (∀V W g cap,NgJ w b gl cl bo E ce Af cf {left:=N.sup,es:=esK N k,outs:=aJ N (k+1)} V->bB edC 144 3 w.heap.size W (some ⟨g,0,none⟩) cap (esK N k++[⟨(d:Int),ca,co⟩,⟨(a:Int),0,-co⟩])->V.grownBy W (Value.slice E ne ce).ownBlock->NgJ w b gl cl bo (some ⟨g,0,none⟩) cap Af cf (grK N (k+1)) (W.setCell ⟨b,1,none⟩ (.slice (some ⟨g,0,none⟩) (ne+2) cap))):=zh (fun V W g cap h ho hg=>by
       have:=h.edges HNE.symm ho hg;simp only[HNE.out]at this;rw[<-R7.out]at this;exact this)
      generalize hes:esK N k=es at *;have HEE:=zh hes;clear hes;refine aD 18 [true,false] [0] ?af7 (fun V=>NgJ w b gl cl bo E ce Af cf {left:=N.sup,es:=es,outs:=aJ N (k+1)} V/\Blk V ga 46 [.int .i64 a,.int .i64 d,.int .i64 ca,.int .i64 co]) (by kernel_rfl) (by kernel_rfl) ⟨J6b.drew,X6b.drew⟩ ?Xn ?Vu
      case Xn=>
       intro V hV;obtain⟨q1,q2,q3,q4,q5⟩:=SC7.out V hV;clear hV;simp only[List.take_succ_cons,List.take_zero]
       repeat(go_big_quiet_step (fail))
       refine wpQuiet_nil ?_;rfl
      case Vu=>
       rintro V ⟨h1,h2⟩;have JV:=zh h1;have XV:=zh h2;clear h1 h2;refine aI ?_;unfold eQ;go_simp;have al:=(Below.refl V.heap.size V).alloc (Nat.le_refl _) (.cells #[.int .i64 d,.int .i64 ca,.int .i64 co,.int .i64 a,.int .i64 0,.int .i64 (-co)] 144);have J8:=zh (JV.below al);have X8:=zh (XV.below al XV.lt);have Y8:=zh (Blk.new' V #[.int .i64 d,.int .i64 ca,.int .i64 co,.int .i64 a,.int .i64 0,.int .i64 (-co)] 144);clear al;generalize V.alloc (.cells #[.int .i64 d,.int .i64 ca,.int .i64 co,.int .i64 a,.int .i64 0,.int .i64 (-co)] 144)=V2 at J8 X8 Y8 ⊢;refine⟨⟨J8.out,X8.out⟩,?_⟩;generalize V.heap.size=gv at *;refine aI ?_;have row0:=ES7.out _ J8.out;unfold bB at row0;rw[HNE.out]at row0;refine nM (.tmp 71) (.tmp 85) 110 rfl w.heap.size 144 i4 (.agg #[.int .i64 0,.int .i64 0,.int .i64 0]) 3 24 Try.underlying110 h4i h4z h4s h4b rfl (by decide) E ne ce (flat edC es) (by rfl) row0 ⟨gv,0,none⟩ 2 2 [.int .i64 d,.int .i64 ca,.int .i64 co,.int .i64 a,.int .i64 0,.int .i64 (-co)] (by rfl) (by rfl) ?_ (by simp[Value.oneCell']) (by omega) (by unfold maxLen;omega) (by omega) J8.bel.size ?_
       ·intro j u hj
        rw[dN];have hl:j<6:=by
         rcases Nat.lt_or_ge j 6 with h|h
         ·exact h
         ·rw[List.getElem?_eq_none (by simpa using h)]at hj;cases hj
        exact Y8.cell j hj
       intro g7 Sk W3 ho hg hk hold;refine⟨fun h=>(by cases h),?_⟩;have J9:=zh (ED7.out V2 W3 g7 Sk J8.out (by
        unfold bB;rw[List.length_append,HNE.out,eY];exact ho) hg)
       have Br:=J8.blk.grown hg (fun e=>iL J8.es (bE.2 e.symm) J8.blk (by decide));have z1:=Br.free 1;have q1:=Br.cell 1 rfl;clear ho hg hk hold row0 Br;refine bJ ?_;go_wp2_with fail
       generalize W3.setCell ⟨b,1,none⟩ (.slice (some ⟨g7,0,none⟩) (ne+2) Sk)=W7 at J9 ⊢
       go_roundg (gk-1)
       case measure=>omega
       case rel=>exact⟨k+1,by go_num,by omega,zh ⟨_,_,_,_,J9.out⟩⟩
   ·obtain rfl:k=m:=by omega
    go_wp2_with fail
    have hD:=JR.done;rw[show grK N k=gr0 N from by unfold grK gr0;rw[HM.out]]at hD;exact bodyPost_ret (v:=.pointer (some ⟨b,0,none⟩)) (by simp[results,Try.results62,go_sem]) rfl ⟨b,gl,cl,E,ce,bo,rfl,JR.bel,hD⟩
end Go.Proofs.Ytmebpglkeedaoaa
namespace Go.Proofs.Ytmebpglkeedaoaa
namespace Dp
structure Sat (N:Net) (G:Gr) (k:Nat):Prop where
 ok:G.Ok N.sup.length
 fit:Fits N G
 bd: ∀v,v<N.sup.length-> -(268435456+1048576*k:Int)<=G.lf v/\G.lf v<=268435456+1048576*k
 todo: ∀i,i<N.arcs.length->k<=2*i->G.room (2*i+1)=0
 done: ∀i,i<N.arcs.length->2*i<k->(G.cost (2*i)<0->G.room (2*i)=0)/\(0<=G.cost (2*i)->G.room (2*i+1)=0)
theorem GV {N:Net} {G:Gr} (h:chE N=0) (hG:G.Ok N.sup.length) (hf:Fits N G) (h0: ∀i,i<N.arcs.length->G.room (2*i+1)=0):Sat N G 0:=
 {ok:=hG,fit:=hf
  bd:=fun v hv=>by
   rw[hf.lf v hv,wS _ _ (fun j hj=>h0 j hj)];have:=jW h v hv;omega
  todo:=fun i hi _=>h0 i hi
  done:=fun i hi h=>by omega}
theorem Sat.no {N:Net} {G:Gr} {k:Nat} (h:Sat N G k) (hc: ¬(k%2=0/\G.cost k<0)):Sat N G (k+1):=
 {ok:=h.ok,fit:=h.fit
  bd:=fun v hv=>by have:=h.bd v hv;omega
  todo:=fun i hi hk=>h.todo i hi (by omega)
  done:=fun i hi hk=>by
   by_cases e:2*i=k
   ·refine⟨fun hn=>?_,fun _=>h.todo i hi (by omega)⟩
    rw[e]at hn;exact absurd ⟨by omega,hn⟩ hc
   ·exact h.done i hi (by omega)}
theorem Sat.yes {N:Net} {G:Gr} {k:Nat} (h:Sat N G k) (hk:k<G.es.length) (h2:k%2=0) (hc:G.cost k<0):Sat N (G.push1 k (G.room k)) (k+1):=by
 have Bv:=h.ok.fine k hk;have ha:=dY (x:=G.room k) hk Bv.2.2;have hr:=lC (x:=G.room k) hk Bv.2.2;have hl:=oq (x:=G.room k) Bv.2.1 Bv.1;have hrk:=h.ok.rm k hk;have hrt:=h.ok.rm (tw k) Bv.2.2;rw[lN]at hrt;have hes:=h.fit.es;have hk3:k<4096:=by have:=h.ok.le;omega
 exact
 {ok:=
  {n1:=h.ok.n1
   ll:=by rw[ha.ll];exact h.ok.ll
   lo:=by rw[ha.outs];exact h.ok.lo
   le:=by rw[ha.le];exact h.ok.le
   ev:=by rw[ha.le];exact h.ok.ev
   «to»:=fun j hj=>by rw[ha.to];rw[ha.le]at hj;exact h.ok.to j hj
   ne:=fun j hj=>by rw[ha.toA,ha.frA];rw[ha.le]at hj;exact h.ok.ne j hj
   co:=fun j hj=>by rw[ha.cost,ha.cost];rw[ha.le]at hj;exact h.ok.co j hj
   cb:=fun j hj=>by rw[ha.cost];rw[ha.le]at hj;exact h.ok.cb j hj
   rm:=fun j hj=>by
    rw[ha.le]at hj;have h1:=h.ok.rm j hj;rw[hr j,hr (tw j),lN]
    by_cases a:j=k
    ·subst a
     rw[if_pos rfl,if_neg (Bc j)];omega
    ·rw[if_neg a]
     by_cases b:tw j=k
     ·have hb:G.room (tw j)=G.room k:=by rw[b]
      rw[if_pos b];omega
     ·rw[if_neg b];omega
   lb:=fun v hv=>by
    have:=h.bd v hv;rw[hl v]
    split<;>split<;>omega
   o1:=fun v hv y hy=>by
    rw[ha.outs]at hy;rw[ha.le,ha.frA];exact h.ok.o1 v hv y hy
   o2:=fun j hj=>by
    rw[ha.le]at hj;rw[ha.outs,ha.frA];exact h.ok.o2 j hj
   o3:=fun v hv=>by rw[ha.outs];exact h.ok.o3 v hv}
  fit:=h.fit.push1 h.ok.fine (G.room k) hk
  bd:=fun v hv=>by
   have:=h.bd v hv;rw[hl v]
   split<;>split<;>omega
  todo:=fun i hi hki=>by
   have e1: ¬2*i+1=k:=by omega
   rw[hr,jm,if_neg e1,if_neg (by omega)];have:=h.todo i hi (by omega);omega
  done:=fun i hi hki=>by
   rw[ha.cost,hr,hr,lF,jm]
   by_cases e:2*i=k
   ·have e1: ¬2*i+1=k:=by omega
    rw[if_pos e,if_neg e1,e];exact⟨fun _=>by omega,fun hp=>by omega⟩
   ·have e1: ¬2*i+1=k:=by omega
    rw[if_neg e,if_neg e1];have:=h.done i hi (by omega);exact⟨fun hp=>by have:=this.1 hp;omega,fun hp=>by have:=this.2 hp;omega⟩}
theorem Sat.pot {N:Net} {G:Gr} (h:Sat N G G.es.length):Bi G N.sup.length (List.replicate N.sup.length 0) 0:=by
 have hz: ∀v,(List.replicate N.sup.length (0:Int)).getD v 0=0:=fun v=>by
  simp only[zg,List.getElem?_replicate]
  split<;>rfl
 have hes:=h.fit.es;have hn:=h.ok.n1;exact
 {len:=by simp
  lo:=fun v _=>by rw[hz v];omega
  d:=by omega
  need:=fun v _ _=>hz v
  rc:=fun k hk hro=>by
   unfold Gr.rc;rw[hz,hz]
   rcases (show k=2*(k/2)∨k=2*(k/2)+1 by omega)with e|e
   ·generalize k/2=i at *
    subst e;have:=(h.done i (by omega) (by omega)).1;omega
   ·generalize k/2=i at *
    subst e;have:=(h.done i (by omega) (by omega)).2;have h2:=h.fit.c0 i (by omega);omega
  src:=fun v _ _=>hz v}
theorem pG {G:Gr} {n:Nat} {vi:List Int} {ks:List Nat} {s t:Nat} {x:Int} (h:qo G n vi ks s t x) (hG:G.Ok n):dA (G.pushL ks x).left=dA G.left-x:=by
 have h1:=h.ok hG;have ha:=cZ (x:=x) h1.1;have hl:=kJ (x:=x) h.way hG.fine;rw[jJ,jJ,ha.ll,hG.ll];have e:bZ (fun _=>1) (fun v=>max 0 ((G.pushL ks x).left.getD v 0)) n=bZ (fun _=>1) (fun v=>max 0 (G.left.getD v 0)-(if v=s then x else 0)) n:=jE n (fun v hv=>by
  have:=hl v;unfold Gr.lf at this;rw[this];have h2:=h.xs;have h3:=h.xt;have h4:=h.x0;unfold Gr.lf at h2 h3
  by_cases e1:v=s
  ·subst e1
   by_cases e2:v=t
   ·subst e2;omega
   ·rw[if_pos rfl,if_neg e2];omega
  ·rw[if_neg e1]
   by_cases e2:v=t
   ·subst e2;rw[if_pos rfl];omega
   ·rw[if_neg e2];omega)
 rw[e,rD,wJ,if_pos h.sn];omega
def pI (n:Nat) (p fa:List Int) (d:Int) (k:Nat):List Int:=(List.range n).map fun v=>if v<k then p.getD v 0+min (fa.getD v 0) d else p.getD v 0
theorem kM (n:Nat) (p fa:List Int) (d:Int) (k:Nat):(pI n p fa d k).length=n:=by simp[pI]
theorem mi {n:Nat} {p fa:List Int} {d:Int} {k v:Nat} (hv:v<n):(pI n p fa d k).getD v 0=if v<k then p.getD v 0+min (fa.getD v 0) d else p.getD v 0:=by
 simp[pI,zg,hv]
theorem GX {n:Nat} {p:List Int} (hp:p.length=n) (fa:List Int) (d:Int):p=pI n p fa d 0:=by
 refine iJ (by rw[kM,hp]) (fun v hv=>?_);rw[kM]at hv;rw[mi hv,if_neg (Nat.not_lt_zero _)]
theorem I8 (n:Nat) (p fa:List Int) (d:Int):pI n p fa d n=qp n p fa d:=by
 refine iJ (by simp[pI,qp]) (fun v hv=>?_);have hv':v<n:=by simpa [qp]using hv
 rw[mi hv',kK hv',if_pos hv']
theorem GY {n:Nat} {p fa:List Int} {d:Int} {k:Nat} (hk:k<n):(pI n p fa d k).set k (p.getD k 0+min (fa.getD k 0) d)=pI n p fa d (k+1):=by
 refine iJ (by simp[kM]) (fun v hv=>?_);rw[kM]at hv;rw[dw _ _ _ _ (by rw[kM];exact hk),mi hv,mi hv]
 by_cases e:v=k
 ·subst e;rw[if_pos rfl,if_pos (Nat.lt_succ_self v)]
 ·rw[if_neg e]
  by_cases h:v<k
  ·rw[if_pos h,if_pos (show v<k+1 by omega)]
  ·rw[if_neg h,if_neg (show¬v<k+1 by omega)]
end Dp
end Go.Proofs.Ytmebpglkeedaoaa
namespace Go.Proofs.Ytmebpglkeedaoaa
open Go.RowKit Dp
theorem PY (l:List Int) (i:Nat) (d v:Int) (h:v=l.getD i 0+d):mv l (i:Int) d=l.set i v:=by subst h;simp[mv]
theorem I9 {G:Gr} {n k:Nat} {x a d:Int} (hG:G.Ok n) (hk:k<G.es.length) (ha:a=G.lf (G.frA k)-x) (hd:d=G.lf (G.toA k)+x):
 ({left:=(G.left.set (G.frA k) a).set (G.toA k) d,es:=l6 G.es k x,outs:=G.outs}:Gr)=G.push1 k x:=by
 unfold Gr.push1;rw[PY G.left (G.frA k) (-x) a (by rw[ha];unfold Gr.lf;omega),PY _ (G.toA k) x d (by
  rw[dw _ _ _ _ (by rw[hG.ll];exact hG.frL hk),if_neg (hG.ne k hk),hd];rfl)]
theorem iq.more {w:World} {bo:Nat} {outs:List (List Int)} {S S':Nat->Prop} (h:iq w bo outs S) (hs: ∀k,k<w.heap.size-> ¬S k-> ¬S' k):iq w bo outs S':=fun i hi=>by
 obtain⟨A,c,h1,h2,h3,h4,h5⟩:=h i hi;exact⟨A,c,h1,h2,h3,h4,fun k hk=>⟨(h5 k hk).1,hs k (h5 k hk).1 (h5 k hk).2⟩⟩
theorem eX.far {w:World} {B b gl cl ce bo gp:Nat} {E:Option Addr} {G:Gr} (h:eX w B b gl cl E ce bo G) (ho:iq w bo G.outs (fun k=>k=b∨k=gl∨aK E k∨k=gp)) {p:Addr} (hp:p.block=gp) (h1:b≠gp) (h2:gl≠gp) (h3: ¬aK E gp) (h4:bo≠gp) (u:Value):
 eX (w.setCell p u) B b gl cl E ce bo G/\iq (w.setCell p u) bo G.outs (fun k=>k=b∨k=gl∨aK E k∨k=gp):=by
 have ho2:=ho.touch (T:=fun k=>k=gp) h.bo.1 h4 (fun k e=>.inr (.inr (.inr e))) ((Touch.refl (fun k=>k=gp) w).setCell (p:=p) (.inl hp) u);refine⟨{blk:=h.blk.setCell_ne (by rw[hp];exact h1) _,left:=bI h.left (fun e=>by have:=aA.1 e;rw[hp]at this;exact h2 this.symm) _,es:=h.es.set_ne (by rw[hp];exact h3) _,outs:=ho2.more (fun k _ hn hs=>hn (by rcases hs with a|a|a;exact .inl a;exact .inr (.inl a);exact .inr (.inr (.inl a)))),bo:=⟨by simp[World.setCell];exact h.bo.1,h.bo.2⟩,ne:=h.ne,base:=h.base},ho2⟩
theorem MH (b gl cl ce bo B n:Nat) (E:Option Addr) (G:Gr) (N:Net) (w:World) (hn:N.sup.length=n) (hch:chE N=0) (hG:G.Ok n) (hf:Fits N G) (h0: ∀i,i<N.arcs.length->G.room (2*i+1)=0) (hg:eX w B b gl cl E ce bo G):
 Calls Try.prog 63 #[.pointer (some ⟨b,0,none⟩)] w fun e w'=> ∃(gp:Nat) (G':Gr) (p fa vi:List Int) (D:Int),e=.returned (.slice (some ⟨gp,0,none⟩) n n)/\Fl 2 w' gp p/\eX w' B b gl cl E ce bo G'/\G'.Ok n/\Fits N G'/\Bi G' n p D/\NR G' n p fa vi (-1)/\Touch (fun k=>k=gl∨aK E k) w w'/\w.heap.size<=gp:=by
 have HN:=zh hn;have HCH:=zh hch;have S0:Hid (Sat N G 0):=zh (GV hch (by rw[hn];exact hG) hf h0);have HA:=zh hg;have n1:=hG.n1.1;have n2:=hG.n1.2;have hle:=hG.le;have c1:=hg.blk.cell 1 rfl;have gll:=hg.left.lt.2;have EBL:=zh (fun k (h:aK E k)=>(iT hg.es h).1);clear hn hch h0 hf hg;generalize hml:G.es.length=ml at *;have HML:=zh hml;clear hml;go_enter Try.func63,Try.ntmps63;go_wp2_with fail
 go_loopg [15] ml (fun q iv wr=> ∃k:Nat,iv=.int .i64 k/\k+q=ml/\Hid (∃G1,Dp.Alike G G1/\Sat N G1 k/\eX wr B b gl cl E ce bo G1/\Touch (fun k=>k=gl∨aK E k) w wr))
 case atStart=>exact⟨0,rfl,by omega,zh ⟨G,Alike.refl G,S0.out,HA.out,Touch.refl _ _⟩⟩
 case round=>
  obtain⟨k,rfl,hkq,HJ⟩:=hrel;obtain⟨G1,q1,q2,q3,q4⟩:=HJ.out;have AL:=zh q1;have SA:=zh q2;have GA:=zh q3;have TA:=zh q4;clear HJ q1 q2 q3 q4 c1
  by_cases hlt:k<ml
  ·have hki:(k:Int)<(ml:Int):=by omega
   obtain⟨ge,rfl,gel,e0,e1,e2⟩:=GA.edge k (by rw[AL.le,HML.out];exact hlt);have HTO:Hid (G1.toA k=(G1.es.getD k default).to.toNat):=zh rfl;have HRM:Hid (G1.room k=(G1.es.getD k default).room):=zh rfl;have HCO:Hid (G1.cost k=(G1.es.getD k default).cost):=zh rfl;have hto:=SA.ok.to k (by rw[AL.le,HML.out];exact hlt);generalize G1.es.getD k default=ed at *;obtain⟨t0,ro,co⟩:=ed;simp only at e0 e1 e2 hto HTO HRM HCO;obtain⟨v,rfl⟩: ∃v:Nat,t0=(v:Int):=⟨t0.toNat,by omega⟩;simp only[Int.toNat_natCast]at HTO
   by_cases QF:k%2=0
   ·have hp1:(k:Int)%2=0:=by omega
    by_cases hco:co<0
    ·have d1:decide (co<0)=true:=decide_eq_true hco
     have SY:=zh (SA.yes (by rw[AL.le,HML.out];exact hlt) QF (by rw[HCO.out];exact hco));have hkl:k<G1.es.length:=by rw[AL.le,HML.out];exact hlt
     have PE:=zh (fun x a d=>I9 (x:=x) (a:=a) (d:=d) SA.ok hkl);have AY:=zh (AL.trans (dY (x:=G1.room k) hkl (SA.ok.tl hkl)));have htl:=SA.ok.tl hkl;have hne:G1.toA k≠G1.frA k:=SA.ok.ne k hkl;have hfn:=SA.ok.frL hkl;have hvn:=SA.ok.toL hkl;have hbf:=SA.bd _ hfn;have hbv:=SA.bd _ hvn;have hrm:=SA.ok.rm k hkl;have hrt:=SA.ok.rm (tw k) htl;rw[lN]at hrt;have LL1:Hid (G1.left.length=n):=zh (by rw[SA.ok.ll,HN.out]);have hp2:tw k=k+1:=by unfold tw;rw[if_pos QF]
     obtain⟨ge',hge,_,f0,_,_⟩:=GA.edge (tw k) htl
     cases hge
     rw[ET SA.ok htl]at f0;have HFR:Hid (G1.frA k=G1.toA (tw k)):=zh rfl;rw[<-HFR.out,hp2]at f0;rw[AL.le,HML.out,hp2]at htl;rw[hp2]at hrm hrt;rw[HTO.out]at hne hvn hbv PE;rw[HRM.out]at hrm hrt SY AY;rw[HN.out]at hfn hvn;generalize Sl:G1.frA k=fr at *;have HFG:=zh Sl;have HLF:Hid (G1.lf fr=G1.left.getD fr 0/\G1.lf v=G1.left.getD v 0):=zh ⟨rfl,rfl⟩;rw[HLF.1,HLF.2]at PE;rw[HLF.1]at hbf;rw[HLF.2]at hbv;clear Sl;have hk1:k+1<ml:=htl;have Yj:(k:Int)+1<(ml:Int):=by omega
     have hk2:k<4096:=by omega
     have CW:Hid (∀W,eX W B b gl cl (some ⟨ge,0,none⟩) ce bo G1->W.cell? ⟨b,0,none⟩=some (.slice (some ⟨gl,0,none⟩) n cl)/\W.cell? ⟨b,1,none⟩=some (.slice (some ⟨ge,0,none⟩) ml ce)/\W.cell? ⟨ge,(k+1)*3,none⟩=some (.int .i64 fr)/\W.cell? ⟨gl,fr,none⟩=some (.int .i64 (G1.left.getD fr 0))):=zh (fun W h=>by
      have q0:=h.blk.cell 0 rfl;have q1:=h.blk.cell 1 rfl;rw[LL1.out]at q0;rw[AL.le,HML.out]at q1;obtain⟨ge',hge,_,g0,_,_⟩:=h.edge (k+1) (by rw[AL.le,HML.out];exact hk1)
      cases hge
      rw[<-hp2,ET SA.ok (by rw[hp2,AL.le,HML.out];exact hk1),<-HFR.out,hp2]at g0;exact⟨q0,q1,g0,h.left.cell fr (by rw[LL1.out];exact hfn)⟩)
     have LV:Hid (∀x,(G1.left.set fr x).getD v 0=G1.left.getD v 0):=zh (fun x=>by rw[dw _ _ _ _ (by rw[LL1.out];exact hfn),if_neg hne]);go_upto_region 5 with fail
     have al:=(Below.refl wr.heap.size wr).alloc (Nat.le_refl _) (.cells #[.int .i64 v,.int .i64 ro,.int .i64 co] 144);have G2:=zh (GA.below al);have T2:=zh (TA.below al);have X2:=zh (Blk.new' wr #[.int .i64 v,.int .i64 ro,.int .i64 co] 144);clear al f0 e0 e1 e2;have hgx:wr.heap.size≠gl:=by have:=GA.left.lt.2;omega
     generalize wr.alloc (.cells #[.int .i64 v,.int .i64 ro,.int .i64 co] 144)=w2 at G2 T2 X2 ⊢;generalize wr.heap.size=gx at *;have hfi:(fr:Int)<(n:Int):=by omega
     have hvi:(v:Int)<(n:Int):=by omega
     generalize Sm:G1.left.getD fr 0=lfr at *;generalize hlv:G1.left.getD v 0=lv0 at *;have HL1:=zh Sm;have HL2:=zh hlv;clear Sm hlv;refine aD 19 [false] [] ?af5 (fun V=>eX V B b gl cl (some ⟨ge,0,none⟩) ce bo G1/\Touch (fun k=>k=gl∨aK (some ⟨ge,0,none⟩) k) w V/\Blk V gx 144 [.int .i64 v,.int .i64 ro,.int .i64 co]) (by kernel_rfl) (by kernel_rfl) ⟨G2.below (Below.refl _ _).drew,T2.drew,X2.drew⟩ ?Sc ?QC
     case Sc=>
      rintro V ⟨h1,_,h3⟩;obtain⟨q0,q1,q2,q3⟩:=CW.out V h1;have x1:=h3.cell 1 rfl;clear h1 h3;simp only[List.take_succ_cons,List.take_zero]
      repeat(go_big_quiet_step (fail))
      refine wpQuiet_nil ?_;rfl
     case QC=>
      rintro V ⟨h1,h2,h3⟩;obtain⟨q0,q1,q2,q3⟩:=CW.out V h1;have z0:=h1.left.free fr;have G3:=zh (h1.putL fr (lfr-ro));have T3:=zh (h2.setCell (p:=⟨gl,fr,none⟩) (.inl (.inl rfl)) (.int .i64 (lfr-ro)));have X3:=zh (h3.setCell_ne (p:=⟨gl,fr,none⟩) hgx (.int .i64 (lfr-ro)));clear h1 h2 h3;refine aI ?_;unfold eQ;go_simp;generalize V.setCell ⟨gl,fr,none⟩ (.int .i64 (lfr-ro))=V1 at G3 T3 X3 ⊢;clear q0 q1 q2 q3 z0;refine bJ ?_;go_upto_region 6 with fail
      have CV:Hid (∀W,eX W B b gl cl (some ⟨ge,0,none⟩) ce bo {G1 with left:=G1.left.set fr (lfr-ro)}->W.cell? ⟨b,0,none⟩=some (.slice (some ⟨gl,0,none⟩) n cl)/\W.cell? ⟨gl,v,none⟩=some (.int .i64 lv0)):=zh (fun W h=>by
       have q0:=h.blk.cell 0 rfl;have q1:=h.left.cell v (by show v<(G1.left.set fr (lfr-ro)).length;rw[List.length_set,LL1.out];exact hvn);simp only[List.length_set,LL1.out]at q0;simp only[LV.out]at q1;exact⟨q0,q1⟩)
      refine aD 12 [false] [] ?af6 (fun V=>eX V B b gl cl (some ⟨ge,0,none⟩) ce bo {G1 with left:=G1.left.set fr (lfr-ro)}/\Touch (fun k=>k=gl∨aK (some ⟨ge,0,none⟩) k) w V/\Blk V gx 144 [.int .i64 v,.int .i64 ro,.int .i64 co]) (by kernel_rfl) (by kernel_rfl) ⟨G3.below (Below.refl _ _).drew,T3.drew,X3.drew⟩ ?Bl ?Db
      case Bl=>
       rintro V ⟨h1,_,h3⟩;obtain⟨q0,q1⟩:=CV.out V h1;have x0:=h3.cell 0 rfl;have x1:=h3.cell 1 rfl;clear h1 h3;simp only[List.take_succ_cons,List.take_zero]
       repeat(go_big_quiet_step (fail))
       refine wpQuiet_nil ?_;rfl
      case Db=>
       rintro V ⟨h1,h2,h3⟩;obtain⟨q0,q1⟩:=CV.out V h1;have z0:=h1.left.free v;have G4:=zh (h1.putL v (lv0+ro));have T4:=zh (h2.setCell (p:=⟨gl,v,none⟩) (.inl (.inl rfl)) (.int .i64 (lv0+ro)));have X4:=zh (h3.setCell_ne (p:=⟨gl,v,none⟩) hgx (.int .i64 (lv0+ro)));clear h1 h2 h3;refine aI ?_;unfold eQ;go_simp;generalize V.setCell ⟨gl,v,none⟩ (.int .i64 (lv0+ro))=V2 at G4 T4 X4 ⊢;clear q0 q1 z0;refine bJ ?_;have x1:=X4.cell 1 rfl;go_wp2_with fail
       have PU:=IX b gl cl ce bo B (some ⟨ge,0,none⟩) {left:=(G1.left.set fr (lfr-ro)).set v (lv0+ro),es:=G1.es,outs:=G1.outs} k ro V2 (by show k<G1.es.length;rw[AL.le,HML.out];exact hlt) (by show tw k<G1.es.length;rw[hp2,AL.le,HML.out];exact hk1) (by show G1.es.length<=4096;rw[AL.le,HML.out];exact hle)
        (by show -8589934592<=G1.room k/\G1.room k<=8589934592;rw[HRM.out];omega) (by show -8589934592<=G1.room (tw k)/\G1.room (tw k)<=8589934592;rw[hp2];omega) (by omega) G4.out
       refine PU.mono ?_;rintro e V3 ⟨rfl,g5,t5⟩;have G5:eX V3 B b gl cl (some ⟨ge,0,none⟩) ce bo (G1.push1 k ro):=by
        have e:=PE.out ro (lfr-ro) (lv0+ro) rfl rfl;rw[<-e];exact g5
       have G5:=zh G5;have T5:=zh (T4.trans (t5.mono (fun q hq=>.inr hq)));clear g5 t5 PU x1;go_wp2_with fail
       go_roundg (gk-1)
       case measure=>omega
       case rel=>exact⟨k+1,by go_num,by omega,zh ⟨_,AY.out,SY.out,G5.out,T5.out⟩⟩
    ·have d1:decide (co<0)=false:=decide_eq_false hco
     have SN:=zh (SA.no (fun h=>hco (by have:=h.2;rw[HCO.out]at this;exact this)));have al:=(Below.refl wr.heap.size wr).alloc (Nat.le_refl _) (.cells #[.int .i64 v,.int .i64 ro,.int .i64 co] 144);have G2:=zh (GA.below al);have T2:=zh (TA.below al);clear al;go_wp2_with fail
     go_roundg (gk-1)
     case measure=>omega
     case rel=>exact⟨k+1,by go_num,by omega,zh ⟨G1,AL.out,SN.out,G2.out,T2.out⟩⟩
   ·have hp1:(k:Int)%2=1:=by omega
    have SN:=zh (SA.no (fun h=>QF h.1));have al:=(Below.refl wr.heap.size wr).alloc (Nat.le_refl _) (.cells #[.int .i64 v,.int .i64 ro,.int .i64 co] 144);have G2:=zh (GA.below al);have T2:=zh (TA.below al);clear al;go_wp2_with fail
    go_roundg (gk-1)
    case measure=>omega
    case rel=>exact⟨k+1,by go_num,by omega,zh ⟨G1,AL.out,SN.out,G2.out,T2.out⟩⟩
  ·obtain rfl:ml=k:=by omega
   have SP:Hid (Bi G1 n (List.replicate n 0) 0):=zh (by
    have h:=SA.out;have e:G1.es.length=ml:=by rw[AL.le,HML.out]
    rw[<-e]at h;have h2:=h.pot;rw[HN.out]at h2;exact h2)
   have OK1:Hid (G1.Ok n):=zh (by have:=SA.ok;rw[HN.out]at this;exact this);have FT1:=zh SA.fit;have hm1:=gZ n (by omega);have c2:=GA.blk.cell 2 rfl;rw[OK1.lo]at c2;clear SA S0;have F0:=zh (kE 2 n wr);have al:=(Below.refl wr.heap.size wr).alloc (Nat.le_refl _) (.cells (Array.replicate n (.int .i64 0)) 2);have G2:=zh (GA.below al);have T2:=zh (TA.below al);have hgp:w.heap.size<=wr.heap.size:=TA.size;have hgl:gl<wr.heap.size:=GA.left.lt.2;have EB2:=zh (fun k (h:aK E k)=>(iT GA.es h).1);have HO1:=zh (GA.outs.more (S':=fun k=>k=b∨k=gl∨aK E k∨k=wr.heap.size) (fun k hk hn hs=>by
    rcases hs with a|a|a|a
    ·exact hn (.inl a)
    ·exact hn (.inr (.inl a))
    ·exact hn (.inr (.inr a))
    ·omega))
   have HO2:=zh (HO1.below GA.bo.1 al);have Vv:b≠wr.heap.size:=by have:=GA.blk.lt;omega
   have MI:gl≠wr.heap.size:=by omega
   have Vw:bo≠wr.heap.size:=by have:=GA.bo.1;omega
   have MJ: ¬aK E wr.heap.size:=fun h=>by have:=EB2.out _ h;omega
   clear al HO1;go_wp2_with fail
   generalize wr.alloc (.cells (Array.replicate n (.int .i64 0)) 2)=w2 at F0 G2 T2 HO2 ⊢;generalize wr.heap.size=gp at *;clear c2 GA TA
   go_loopg [8] (dA G1.left).toNat (fun q ev wr=>Hid (∃G2 p D,Dp.Alike G G2/\G2.Ok n/\Fits N G2/\eX wr B b gl cl E ce bo G2/\Fl 2 wr gp p/\Bi G2 n p D/\(dA G2.left).toNat=q/\Touch (fun k=>k=gl∨aK E k) w wr/\iq wr bo G2.outs (fun k=>k=b∨k=gl∨aK E k∨k=gp)))
   case atStart=>exact zh ⟨G1,_,0,AL.out,OK1.out,FT1.out,G2.out,F0.out,SP.out,rfl,T2.out,HO2.out⟩
   case round=>
    clear AL OK1 FT1 G2 F0 SP T2;obtain⟨G2,p,D,q1,q2,q3,q4,q5,q6,q7,q8,q9⟩:=hrel.out;have AL:=zh q1;have OK:=zh q2;have FT:=zh q3;have GA:=zh q4;have FP:=zh q5;have PD:=zh q6;have HR:=zh q7;have TA:=zh q8;have PL:=zh q6.len;have HO:=zh q9;clear hrel q1 q2 q3 q4 q5 q6 q7 q8 q9 HO2;go_wp2_with fail
    refine(vD b gl cl ce bo B n n E (some ⟨gp,0,none⟩) G2 p wr OK.out (PD.pot n2) GA.out FP.ints ⟨Nat.le_refl _,by omega⟩).mono ?_;rintro e w3 ⟨gf,gb,fa,vi,en,rfl,hb3,hf3,hv3,z1,z2,nr⟩;have G3:=zh (GA.below hb3);have T3:=zh (TA.below hb3);have P3:=zh (FP.below hb3);have F3:=zh hf3;have V3:=zh hv3;have O3:=zh (HO.below GA.bo.1 hb3);have NRR:=zh nr;have hpf:gp≠gf:=by have:=FP.lt;omega
    have hpb:gb≠gl/\ ¬aK E gb:=by
     have h1:=GA.left.lt.2;refine⟨by omega,fun h=>?_⟩;have:=(iT GA.es h).1;omega
    clear hb3 hf3 hv3 nr
    by_cases hen:en<0
    ·have hem:en= -1:=by
      rcases NRR.fin with ⟨e,_⟩|⟨t,e,_⟩
      ·exact e
      ·omega
     subst hem;go_wp2_with fail
     exact bodyPost_ret (v:=.slice (some ⟨gp,0,none⟩) n n) (by simp[results,Try.results63,go_sem]) rfl ⟨gp,G2,p,fa,vi,D,rfl,P3.out,G3.out,OK.out,FT.out,PD.out,NRR.out,T3.out,hgp⟩
    ·obtain⟨t,rfl⟩: ∃t:Nat,en=t:=⟨en.toNat,by omega⟩
     have TF:Hid (t<n/\G2.lf t<0/\fa.getD t 0<never/\ ∀v,v<n->G2.lf v<0->fa.getD t 0<=fa.getD v 0):=zh (by
      rcases NRR.fin with ⟨e,_⟩|⟨t',e,h1,h2,h3,h4⟩
      ·omega
      ·obtain rfl:t'=t:=by omega
       exact⟨h1,h2,h3,h4⟩)
     have htn:t<n:=TF.1;have hti:(t:Int)<(n:Int):=by omega
     have ftb:=NRR.top t htn;have P0:Hid (Fl 2 w3 gp (pI n p fa (fa.getD t 0) 0)):=zh (by rw[<-GX PL.out fa (fa.getD t 0)];exact P3.out);have PG:=zh (fun k v (hv:v<n)=>mi (p:=p) (fa:=fa) (d:=fa.getD t 0) (k:=k) hv);have PS:=zh (fun k (hk:k<n)=>GY (p:=p) (fa:=fa) (d:=fa.getD t 0) hk);have PEN:=zh (I8 n p fa (fa.getD t 0));have PLN:=zh (kM n p fa (fa.getD t 0));have FTC:Hid (∀W,Fl 2 W gf fa->W.cell? ⟨gf,t,none⟩=some (.int .i64 (fa.getD t 0))):=zh (fun W h=>h.cell t (by rw[NRR.l1];exact htn));have RP:=zh (fun x ks s (h1:qo G2 n vi ks s t x) h2=>GK OK.out PD.out NRR.out h1 h2);generalize hft:fa.getD t 0=ft at *;have HFT:=zh hft;clear hft P3;unfold never at ftb;go_wp2_with fail
     go_loopw [83] (fun iv wr=> ∃k:Nat,iv=.int .i64 k/\k<=n/\Hid (Fl 2 wr gp (pI n p fa ft k)/\Fl 2 wr gf fa/\Fl 3 wr gb vi/\eX wr B b gl cl E ce bo G2/\Touch (fun k=>k=gl∨aK E k) w wr/\iq wr bo G2.outs (fun k=>k=b∨k=gl∨aK E k∨k=gp))) (fun iv _=>n-(intOf iv).toNat)
     case atStart=>exact⟨0,rfl,Nat.zero_le _,zh ⟨P0.out,F3.out,V3.out,G3.out,T3.out,O3.out⟩⟩
     case round=>
      clear P0 F3 V3 G3 T3 O3;obtain⟨k,rfl,hk,HJ⟩:=hrel
      by_cases hlt:k<n
      ·have hki:(k:Int)<(n:Int):=by omega
       have pb:=PD.lo k hlt;have pd:=PD.d;have fkb:=NRR.top k hlt;unfold never at fkb;have PCK:Hid (∀W,Fl 2 W gp (pI n p fa ft k)->W.cell? ⟨gp,k,none⟩=some (.int .i64 (p.getD k 0))):=zh (fun W h=>by
        have:=h.cell k (by rw[PLN.out];exact hlt);rw[PG.out k k hlt,if_neg (Nat.lt_irrefl k)]at this;exact this)
       have FKC:Hid (∀W,Fl 2 W gf fa->W.cell? ⟨gf,k,none⟩=some (.int .i64 (fa.getD k 0))):=zh (fun W h=>h.cell k (by rw[NRR.l1];exact hlt));have PSK:=zh (PS.out k hlt);generalize p.getD k 0=pk at *;generalize fa.getD k 0=fk at *;have hmn:=fun ts t W=>gH fk ft ts t W
       generalize hy:min fk ft=y at *;have hy1:0<=y/\y<=1152921504606846976:=by omega
       have s1:IntKind.i64.wrap (pk+y)=pk+y:=IntWalk.i64_in _ (by omega);clear hy;go_upto_region 16 with fail
       refine aD 15 [false] [] ?af16 (fun V=>Fl 2 V gp (pI n p fa ft k)/\Fl 2 V gf fa/\Fl 3 V gb vi/\eX V B b gl cl E ce bo G2/\Touch (fun k=>k=gl∨aK E k) w V/\iq V bo G2.outs (fun k=>k=b∨k=gl∨aK E k∨k=gp)) (by kernel_rfl) (by kernel_rfl) ⟨Blk.drew HJ.1,Blk.drew HJ.2.1,Blk.drew HJ.2.2.1,HJ.2.2.2.1.below (Below.refl _ _).drew,HJ.2.2.2.2.1.drew,HJ.2.2.2.2.2.below HJ.2.2.2.1.bo.1 (Below.refl _ _).drew⟩ ?Vx ?UW
       case Vx=>
        rintro V ⟨h1,h2,_,_,_,_⟩;have q0:=PCK.out V h1;have q1:=FKC.out V h2;have q2:=FTC.out V h2;clear h1 h2;simp only[List.take_succ_cons,List.take_zero]
        repeat(go_big_quiet_step (fail))
        refine wpQuiet_nil ?_;rfl
       case UW=>
        rintro V ⟨h1,h2,h3,h4,h5,h6⟩;have q0:=PCK.out V h1;have z0:=h1.free k;have H1:=h1.put k (pk+y);rw[PSK.out]at H1;have H1:=zh H1;have H2:=zh (h2.set_ne (p:=⟨gp,k,none⟩) (fun e=>hpf e.symm) (.int .i64 (pk+y)));have H3:=zh (h3.set_ne (p:=⟨gp,k,none⟩) (fun e=>by simp only at e;subst e;exact(h1.ne h3 (by decide)) rfl) (.int .i64 (pk+y)));have H5:=zh (h5.setCell (p:=⟨gp,k,none⟩) (.inr hgp) (.int .i64 (pk+y)));have H4:=zh (h4.far h6 (p:=⟨gp,k,none⟩) rfl Vv MI MJ Vw (.int .i64 (pk+y)));clear h1 h2 h3 h4 h5 h6;refine aI ?_;unfold eQ;go_simp;generalize V.setCell ⟨gp,k,none⟩ (.int .i64 (pk+y))=V1 at H1 H2 H3 H4 H5 ⊢;clear q0 z0;refine bJ ?_;go_wp2_with fail
        go_roundw
        case rel=>exact⟨k+1,by go_num,by omega,zh ⟨H1.out,H2.out,H3.out,H4.1,H5.out,H4.2⟩⟩
        case measure=>simp[intOf];omega
      ·obtain rfl:n=k:=by omega
       obtain⟨h1,h2,h3,h4,h5,h6⟩:=HJ.out;rw[PEN.out]at h1;have H1:=zh h1;have H4:=zh h4;have H5:=zh h5;have H6:=zh h6;have HV:=zh h3.ints;obtain⟨S,s1,s2,s3,s4⟩:=NRR.ch;obtain⟨ks,s,w1,w2',w3',w4,w5⟩:=ou s1 s4 t ((s2 t htn).2 (by rw[HFT.out];exact TF.2.2.1));have hsn:s<n:=s3 s (w5 s (w1.last));have SE:=zh (IZ b gl cl ce bo B n n s t E (some ⟨gb,0,none⟩) G2 vi ks wr OK.out w1 w4 hsn htn w2' TF.2.1 (fun j hj=>(w3' j hj).1) NRR.l2 ⟨Nat.le_refl _,by omega⟩ H4.out HV.out (fun q hq=>by rw[aA.1 hq];exact hpb));have RPK:=zh (fun x h=>RP.out x ks s h w3');clear h1 h2 h3 h4 h5 h6 HJ s1 s2 s3 s4 w1 w2' w3' w4 w5 RP;go_wp2_with fail
       refine SE.mono ?_;rintro e w6 ⟨rfl,x,hse,hga,hto⟩;have SX:=zh hse;have G6:=zh hga;have T6:=zh (H5.trans hto);have P6:=zh (H1.touch hto (fun h=>by
        rcases h with h|h
        ·exact MI h.symm
        ·exact MJ h))
       have ok:=hse.ok OK.out;have A6:=zh (AL.trans (cZ (x:=x) ok.1));have O6:=zh (H6.touch (T:=fun k=>k=gl∨aK E k) H4.bo.1 (fun h=>by
        rcases h with h|h
        ·exact H4.bo.2.2.1 h
        ·exact H4.bo.2.2.2 h) (fun k hk=>by
 rcases hk with h|h
 ·exact .inr (.inl h)
 ·exact .inr (.inr (.inl h))) hto)
       rw[<-(cZ (x:=x) ok.1).outs]at O6;have F6:=zh (FT.pushL OK.fine (ks:=ks) (x:=x) (fun j hj=>(ok.1 j hj).1));have D6:=zh (RPK.out x hse);have M6:=zh (pG hse OK.out);have MN:=zh (lG (G2.pushL ks x).left);have OK6:=zh ok.2.2;clear hse hga hto ok SE RPK;go_wp2_with fail
       go_roundg (dA (G2.pushL ks x).left).toNat
       case measure=>have h1:=M6.out;have h2:=MN.out;have h3:=SX.x0;have h4:=HR.out;omega
       case rel=>exact zh ⟨_,_,_,A6.out,OK6.out,F6.out,G6.out,P6.out,D6.out,rfl,T6.out,O6.out⟩
def Dj (N:Net) (w:World) (e:Ending) (w':World):Prop:=
 (chE N≠0/\e=.returned (.tuple #[.slice none 0 0,.slice none 0 0,.int .i64 (chE N)]))∨
 (chE N=0/\ ∃gf gp fl p,e=.returned (.tuple #[.slice (some ⟨gf,0,none⟩) N.arcs.length N.arcs.length,.slice (some ⟨gp,0,none⟩) N.sup.length N.sup.length,.int .i64 0])/\Fl 2 w' gf fl/\Fl 2 w' gp p/\w.heap.size<=gf/\w.heap.size<=gp/\fl.length=N.arcs.length/\ak N fl=true/\p.length=N.sup.length/\(∀v,v<p.length->dX (p.getD v 0)=true)/\aV N fl N.arcs.length=prA N p N.arcs.length)∨
 (chE N=0/\e=.returned (.tuple #[.slice none 0 0,.slice none 0 0,.int .i64 18])/\ ∃c:List Int,(∀k,k<c.length->cutAt N.sup.length c k=true)/\0<lkA N c N.arcs.length/\ ∀fl,ak N fl=false)
theorem wU (A B:Option Addr) (N:Net) (n m cA cB:Nat) (w:World) (hn:n=N.sup.length) (hm:m=N.arcs.length) (hA:n<=cA/\cA<=9223372036854775807) (hB:m<=cB/\cB<=9223372036854775807) (hN:dm w A B N):
 Calls Try.prog 25 #[.agg #[.slice A n cA,.slice B m cB]] w fun e w'=>Dj N w e w'/\Below w.heap.size w w':=by
 have HN:=zh hn;have HM:=zh hm;have HNA:=zh hN;clear hn hm hN;have B1:=zh (Blk.new' w #[.slice A n cA,.slice B m cB] 25);have HB1:=zh ((Below.refl w.heap.size w).alloc (Nat.le_refl _) (.cells #[.slice A n cA,.slice B m cB] 25));go_enter Try.func25,Try.ntmps25;go_wp2_with fail
 generalize w.alloc (.cells #[.slice A n cA,.slice B m cB] 25)=w1 at B1 HB1 ⊢;refine(rA A B N n m cA cB w1 HN.out HM.out hA hB (HNA.below HB1.out (Nat.le_refl _))).mono ?_;rintro e w2 ⟨rfl,hb2⟩;have B2:=zh (B1.below hb2 B1.lt);have HB2:=zh (HB1.trans (hb2.mono HB1.size));clear hb2 B1 HB1;have cA0:=B2.cell 0 rfl;have cB0:=B2.cell 1 rfl
 by_cases hch:chE N=0
 ·have HCH:=zh hch
  have n2:n<=1024:=by rw[HN.out];exact(bV hch).2.1
  rw[hch];clear hch;go_wp2_with fail
  refine(tq A B N n m cA cB w2 HN.out HM.out HCH.out hA hB (HNA.below HB2.out (Nat.le_refl _))).mono ?_;rintro e w3 ⟨b,gl,cl,E,ce,bo,rfl,hb3,hg3⟩;have HB3:=zh (HB2.trans (hb3.mono HB2.size));have G3:=zh hg3;have hsz:=HB2.size;have S3:Hid (∀k,k=gl∨aK E k->w.heap.size<=k):=zh (fun k hk=>by
   rcases hk with h|h
   ·have:=hg3.base.2;omega
   ·have:=(iT hg3.es h).2;omega)
  clear hb3 hg3 cA0 cB0;go_wp2_with fail
  refine(MH b gl cl ce bo w2.heap.size n E (gr0 N) N w3 HN.symm HCH.out (by rw[HN.out];exact Dh HCH.out) oG (fun i hi=>by show((esK N N.arcs.length).getD (2*i+1) default).room=0;rw[(oF N _ i hi).2]) G3.out).mono ?_;rintro e w4 ⟨gp,G',p,fa,vi,D,rfl,hp4,hg4,hok,hft,hpd,hnr,ht4,hgp⟩;have HB4:=zh (Below.touch HB3.out HB3.size ht4 S3.out);have G4:=zh hg4;have OK:=zh hok;have FT:=zh hft;have PD:=zh hpd;have NRR:=zh hnr;have P4:=zh hp4;have Vy:w.heap.size<=gp:=by have:=HB3.size;omega
  clear hp4 hg4 hok hft hpd hnr ht4;have RN:=lG G'.left;go_wp2_with fail
  refine(I4 b gl cl ce bo w2.heap.size n E G' w4 OK.out G4.out).mono ?_;rintro e w5 ⟨rfl,rfl⟩;have OKN:Hid (G'.Ok N.sup.length):=zh (by rw[<-HN.out];exact OK.out);have CUT:Hid (lkA N (fq N.sup.length (fun v=>decide (fa.getD v 0<never))) N.arcs.length=dA G'.left):=zh (by
   have h:=NRR.out;rw[HN.out]at h;exact rG HCH.out OKN.out FT.out h)
  have FLO:=zh (fun h=>mf HCH.out OKN.out FT.out PD.rc h);generalize dA G'.left=R at *
  by_cases hr:0<R
  ·have d1:decide (0<R)=true:=decide_eq_true hr
   have C1:Hid (∃c:List Int,(∀k,k<c.length->cutAt N.sup.length c k=true)/\0<lkA N c N.arcs.length/\ ∀fl,ak N fl=false):=zh ⟨_,mR,by rw[CUT.out];exact hr,oC HCH.out mR (by rw[CUT.out];exact hr)⟩;go_wp2_with fail
   exact bodyPost_ret (v:=.tuple #[.slice none 0 0,.slice none 0 0,.int .i64 18]) (by simp[results,Try.results25,go_sem]) rfl ⟨.inr (.inr ⟨HCH.out,rfl,C1.out⟩),HB4.out⟩
  ·have d1:decide (0<R)=false:=decide_eq_false hr
   have FL:=zh (FLO.out (by omega));go_wp2_with fail
   refine(Qz b gl cl ce bo w2.heap.size n E G' w4 OK.out G4.out).mono ?_;rintro e w5 ⟨gf,rfl,hb5,hf5,hgf⟩;have HB5:=zh (HB4.trans (hb5.mono HB4.size));have P5:=zh (P4.below hb5);rw[Dg FT.out]at hf5;have F5:=zh hf5;have Vz:w.heap.size<=gf:=by have:=HB4.size;omega
   have e1:G'.es.length/2=N.arcs.length:=by rw[FT.es];omega
   rw[e1];have POK:Hid (∀v,v<p.length->dX (p.getD v 0)=true):=zh (fun v hv=>by
    rw[PD.len]at hv;have:=PD.lo v hv;have:=PD.d;rw[dR];omega)
   clear hb5 hf5;go_wp2_with fail
   exact bodyPost_ret (v:=.tuple #[.slice (some ⟨gf,0,none⟩) N.arcs.length N.arcs.length,.slice (some ⟨gp,0,none⟩) n n,.int .i64 0]) (by simp[results,Try.results25,go_sem]) rfl ⟨.inr (.inl ⟨HCH.out,gf,gp,aR N G',p,by rw[HN.out],F5.out,P5.out,Vz,Vy,gG N G',FL.1,by rw[PD.len,HN.out],POK.out,FL.2⟩),HB5.out⟩
 ·have hne:(chE N==0)=false:=by simpa using hch
  have HCH:=zh hch;generalize hq:chE N=q at *;have HQ:=zh hq;clear hq;go_wp2_with fail
  exact bodyPost_ret (v:=.tuple #[.slice none 0 0,.slice none 0 0,.int .i64 q]) (by simp[results,Try.results25,go_sem]) rfl ⟨.inl ⟨by rw[HQ.out];exact HCH.out,by rw[HQ.out]⟩,HB2.out⟩
@[go_sem] theorem Yk:bits BinOp.and IntKind.u64 0 6148914691236517205=0:=by kernel_rfl
@[go_sem] theorem Yl:IntKind.u64.wrap 0=0:=by kernel_rfl
@[go_sem] theorem Ym:bits BinOp.and IntKind.u64 0 3689348814741910323=0:=by kernel_rfl
@[go_sem] theorem Yn:bits BinOp.and IntKind.u64 0 1085102592571150095=0:=by kernel_rfl
@[go_sem] theorem Yo:bits BinOp.and IntKind.i64 0 127=0:=by kernel_rfl
@[go_sem] theorem Yp:IntKind.i64.wrap 0=0:=by kernel_rfl
@[go_sem] theorem Yq:bits BinOp.and IntKind.u64 1 6148914691236517205=1:=by kernel_rfl
@[go_sem] theorem Yr:IntKind.u64.wrap 1=1:=by kernel_rfl
@[go_sem] theorem Xo:bits BinOp.and IntKind.u64 1 3689348814741910323=1:=by kernel_rfl
@[go_sem] theorem Xp:bits BinOp.and IntKind.u64 1 1085102592571150095=1:=by kernel_rfl
@[go_sem] theorem Xq:bits BinOp.and IntKind.i64 1 127=1:=by kernel_rfl
@[go_sem] theorem Xr:IntKind.i64.wrap 1=1:=by kernel_rfl
@[go_sem] theorem Xt:bits BinOp.and IntKind.u64 2 6148914691236517205=0:=by kernel_rfl
@[go_sem] theorem Xu:IntKind.u64.wrap 2=2:=by kernel_rfl
@[go_sem] theorem Xv:bits BinOp.and IntKind.u64 3 6148914691236517205=1:=by kernel_rfl
@[go_sem] theorem Xw:bits BinOp.and IntKind.u64 2 3689348814741910323=2:=by kernel_rfl
@[go_sem] theorem Xx:bits BinOp.and IntKind.u64 2 1085102592571150095=2:=by kernel_rfl
@[go_sem] theorem Xy:bits BinOp.and IntKind.i64 2 127=2:=by kernel_rfl
@[go_sem] theorem Xz:IntKind.u64.wrap 3=3:=by kernel_rfl
@[go_sem] theorem XD:IntKind.i64.wrap 2=2:=by kernel_rfl
theorem Ja (w:World):Calls Try.prog 112 #[.int .u64 0] w fun e w'=>e=.returned (.int .i64 0)/\w=w':=by
 go_enter Try.func112,Try.ntmps112;go_wp2_with fail
 exact bodyPost_ret (v:=.int .i64 0) (by simp[results,Try.results112,go_sem]) rfl ⟨rfl,rfl⟩
theorem QG (w:World):Calls Try.prog 95 #[.int .u64 0] w fun e w'=>e=.returned (.int .i64 0)/\w=w':=by
 go_enter Try.func95,Try.ntmps95;go_wp2_with fail
 refine(Ja w).mono ?_;rintro e w1 ⟨rfl,rfl⟩;go_wp2_with fail
 exact bodyPost_ret (v:=.int .i64 0) (by simp[results,Try.results95,go_sem]) rfl ⟨rfl,rfl⟩
theorem Jb (w:World):Calls Try.prog 112 #[.int .u64 1] w fun e w'=>e=.returned (.int .i64 1)/\w=w':=by
 go_enter Try.func112,Try.ntmps112;go_wp2_with fail
 exact bodyPost_ret (v:=.int .i64 1) (by simp[results,Try.results112,go_sem]) rfl ⟨rfl,rfl⟩
theorem QH (w:World):Calls Try.prog 95 #[.int .u64 1] w fun e w'=>e=.returned (.int .i64 1)/\w=w':=by
 go_enter Try.func95,Try.ntmps95;go_wp2_with fail
 refine(Jb w).mono ?_;rintro e w1 ⟨rfl,rfl⟩;go_wp2_with fail
 exact bodyPost_ret (v:=.int .i64 1) (by simp[results,Try.results95,go_sem]) rfl ⟨rfl,rfl⟩
theorem Jc (w:World):Calls Try.prog 112 #[.int .u64 2] w fun e w'=>e=.returned (.int .i64 1)/\w=w':=by
 go_enter Try.func112,Try.ntmps112;go_wp2_with fail
 exact bodyPost_ret (v:=.int .i64 1) (by simp[results,Try.results112,go_sem]) rfl ⟨rfl,rfl⟩
theorem QI (w:World):Calls Try.prog 95 #[.int .u64 2] w fun e w'=>e=.returned (.int .i64 1)/\w=w':=by
 go_enter Try.func95,Try.ntmps95;go_wp2_with fail
 refine(Jc w).mono ?_;rintro e w1 ⟨rfl,rfl⟩;go_wp2_with fail
 exact bodyPost_ret (v:=.int .i64 1) (by simp[results,Try.results95,go_sem]) rfl ⟨rfl,rfl⟩
theorem Jd (w:World):Calls Try.prog 112 #[.int .u64 3] w fun e w'=>e=.returned (.int .i64 2)/\w=w':=by
 go_enter Try.func112,Try.ntmps112;go_wp2_with fail
 exact bodyPost_ret (v:=.int .i64 2) (by simp[results,Try.results112,go_sem]) rfl ⟨rfl,rfl⟩
theorem QJ (w:World):Calls Try.prog 95 #[.int .u64 3] w fun e w'=>e=.returned (.int .i64 2)/\w=w':=by
 go_enter Try.func95,Try.ntmps95;go_wp2_with fail
 refine(Jd w).mono ?_;rintro e w1 ⟨rfl,rfl⟩;go_wp2_with fail
 exact bodyPost_ret (v:=.int .i64 2) (by simp[results,Try.results95,go_sem]) rfl ⟨rfl,rfl⟩
structure CO (w:World) (gL gA gB:Nat):Prop where
 L:Blk w gL 22 [.slice (some ⟨gA,0,none⟩) 2 2,.slice (some ⟨gB,0,none⟩) 2 2]
 A:Blk w gA 2 [.int .i64 4,.int .i64 1]
 B:Blk w gB 2 [.int .i64 2,.int .i64 3]
theorem CO.below {w w':World} {gL gA gB k:Nat} (h:CO w gL gA gB) (hb:Below k w w') (hk:w.heap.size<=k):CO w' gL gA gB:=
 ⟨h.L.below hb (by have:=h.L.lt;omega),h.A.below hb (by have:=h.A.lt;omega),h.B.below hb (by have:=h.B.lt;omega)⟩
theorem wV (gL gA gB:Nat) (w:World) (h:CO w gL gA gB):Calls Try.prog 94 #[.slice (some ⟨gL,0,none⟩) 2 2] w fun e w'=>e=.returned (.int .i64 0)/\w=w':=by
 have H0:=zh h;clear h;have l0:=H0.L.cell 0 rfl;have l1:=H0.L.cell 1 rfl;have a0:=H0.A.cell 0 rfl;have a1:=H0.A.cell 1 rfl;have b0:=H0.B.cell 0 rfl;have b1:=H0.B.cell 1 rfl;go_enter Try.func94,Try.ntmps94;go_wp2_with fail
 refine wp_loop_rounds 3 ?_;rw[rounds_succ];go_wp2_with fail
 rw[rounds_succ];go_wp2_with fail
 rw[rounds_succ];go_wp2_with fail
 refine wp_loop_rounds 3 ?_;rw[rounds_succ];go_wp2_with fail
 refine wp_loop_rounds 3 ?_;rw[rounds_succ];go_wp2_with fail
 rw[rounds_succ];go_wp2_with fail
 rw[rounds_succ];go_wp2_with fail
 rw[rounds_succ];go_wp2_with fail
 refine wp_loop_rounds 3 ?_;rw[rounds_succ];go_wp2_with fail
 rw[rounds_succ];go_wp2_with fail
 rw[rounds_succ];go_wp2_with fail
 rw[rounds_succ];go_wp2_with fail
 exact bodyPost_ret (v:=.int .i64 0) (by simp[results,Try.results94,go_sem]) rfl ⟨rfl,rfl⟩
theorem tu:(Try.prog.info? 46).map (fun i=>(i.zero,i.size,i.bytes))=some (some (.agg #[.int .i64 0,.int .i64 0,.int .i64 0,.int .i64 0]),4,32):=by kernel_rfl
def bD (a:Arc):List Value:=[.int .i64 a.fr,.int .i64 a.to,.int .i64 a.cap,.int .i64 a.cost]
structure BuJ (w:World) (gL gA gB gs gb:Nat) (A:Option Addr) (n cap:Nat) (sup:List Int) (arcs:List Arc) (W:World):Prop where
 co:CO W gL gA gB
 b:Blk W gb 125 [.slice (some ⟨gs,0,none⟩) 5 5,.slice A n cap,.slice none 0 0,.slice none 0 0]
 s:Fl 2 W gs sup
 own:W.ownsRow (gb+1) 46 4 (.slice A n cap) n (flat bD arcs)
 lt:gL<gs/\gA<gs/\gB<gs/\gs<gb/\w.heap.size<=gs
 bel:Below w.heap.size w W
section
variable {w W V:World} {gL gA gB gs gb n cap n2 cap2:Nat} {A A2:Option Addr} {sup:List Int} {arcs jY:List Arc}
theorem BuJ.below (h:BuJ w gL gA gB gs gb A n cap sup arcs W) (hb:Below W.heap.size W V):BuJ w gL gA gB gs gb A n cap sup arcs V:=
 ⟨h.co.below hb (Nat.le_refl _),h.b.below hb h.b.lt,h.s.below hb,bF h.own hb,h.lt,h.bel.trans (hb.mono h.bel.size)⟩
theorem BuJ.alloc (h:BuJ w gL gA gB gs gb A n cap sup arcs W) (o:Obj):BuJ w gL gA gB gs gb A n cap sup arcs (W.alloc o):=
 h.below ((Below.refl _ _).alloc (Nat.le_refl _) o)
theorem BuJ.set (h:BuJ w gL gA gB gs gb A n cap sup arcs W) (k:Nat) (v:Int):BuJ w gL gA gB gs gb A n cap (sup.set k v) arcs (W.setCell ⟨gs,k,none⟩ (.int .i64 v)):=by
 have hl:=h.lt;refine⟨⟨h.co.L.setCell_ne (by simp;omega) _,h.co.A.setCell_ne (by simp;omega) _,h.co.B.setCell_ne (by simp;omega) _⟩,h.b.setCell_ne (by simp;omega) _,h.s.put k v,?_,h.lt,h.bel.setCell (by simp;omega) _⟩;exact fT h.own ⟨rfl,rfl,rfl,by simp[World.setCell],fun k hk hne=>Below.heap_setCell _ _ _ _ (fun e=>hne (by rw[e]))⟩ (row:=some gs) (fun k hk e=>by
  have:=(World.ownsRow.lt h.own k (bE.1 hk)).1
  cases e;omega)
theorem BuJ.mid (h:BuJ w gL gA gB gs gb A n cap sup arcs W) (hg:W.grownBy V (Value.slice A n cap).ownBlock):
 Blk V gb 125 [.slice (some ⟨gs,0,none⟩) 5 5,.slice A n cap,.slice none 0 0,.slice none 0 0]:=by
 have hk: ∀k,(Value.slice A n cap).ownBlock=some k->gb+1<=k:=fun k e=>(World.ownsRow.lt h.own k e).1
 exact h.b.grown hg (fun e=>by have:=hk gb e.symm;omega)
theorem BuJ.push (h:BuJ w gL gA gB gs gb A n cap sup arcs W) (hg:W.grownBy V (Value.slice A n cap).ownBlock)
 (ho:V.ownsRow (gb+1) 46 4 (.slice A2 n2 cap2) n2 (flat bD jY)):BuJ w gL gA gB gs gb A2 n2 cap2 sup jY (V.setCell ⟨gb,1,none⟩ (.slice A2 n2 cap2)):=by
 have hk: ∀k,(Value.slice A n cap).ownBlock=some k->gb+1<=k:=fun k e=>(World.ownsRow.lt h.own k e).1
 have hne: ∀k,k<=gb->some k≠(Value.slice A n cap).ownBlock:=fun k hk' e=>by have:=hk k e.symm;omega
 have hl:=h.lt;have hbs:=h.bel.size;have m2:=h.mid hg;refine⟨⟨(h.co.L.grown hg (hne _ (by omega))).setCell_ne (by simp;omega) _,(h.co.A.grown hg (hne _ (by omega))).setCell_ne (by simp;omega) _,(h.co.B.grown hg (hne _ (by omega))).setCell_ne (by simp;omega) _⟩,m2.setCell 1 _,Blk.setCell_ne (Blk.grown h.s hg (hne _ (by omega))) (by simp;omega) _,?_,hl,(h.bel.grown hg hbs (fun k e=>by have:=hk k e;omega)).setCell (by simp;omega) _⟩;exact fT ho ⟨rfl,rfl,rfl,by simp[World.setCell],fun k hk hne=>Below.heap_setCell _ _ _ _ (fun e=>hne (by rw[e]))⟩ (row:=some gb) (fun k hk e=>by
  have:=(World.ownsRow.lt ho k (bE.1 hk)).1
  cases e;omega)
end
theorem vH (w W:World) (gL gA gB gs gb n cap gx:Nat) (A:Option Addr) (sup:List Int) (arcs:List Arc) (x:Arc) (hn:n<=100) (h:BuJ w gL gA gB gs gb A n cap sup arcs W) (hX:Blk W gx 46 (bD x)) (hal:arcs.length=n):
 Calls Try.prog 108 #[.pointer (some ⟨gb,0,none⟩),.slice (some ⟨gx,0,none⟩) 1 1] W fun e W'=> ∃A2 cap2,e=.returned (.int .i64 n)/\BuJ w gL gA gB gs gb A2 (n+1) cap2 sup (arcs++[x]) W':=by
 have H0:=zh h;have X:=zh hX;have HAL:=zh hal;clear h hX hal;obtain⟨i3,h3i,h3z,h3s,h3b⟩:=info_parts tu;have y0:=H0.b.cell 1 rfl;go_enter Try.func108,Try.ntmps108;go_wp2_with (at_builtin;refine ax (.tmp 10) (.tmp 11) 23 rfl rfl (gb+1) 46 i3 (.agg #[.int .i64 0,.int .i64 0,.int .i64 0,.int .i64 0]) 4 32 Try.underlying23 h3i h3z h3s h3b rfl (by decide) A n cap (flat bD arcs) (by rfl) H0.own (some ⟨gx,0,none⟩) 1 1 (bD x) (by rfl) (by rfl) (.inr ⟨_,rfl,fun k u hk=>by rw[show((⟨gx,0,none⟩:Addr).add k)=⟨gx,k,none⟩from(by unfold Addr.add;split<;>simp_all)];exact X.cell k hk⟩) (by simp[bD,Value.oneCell']) (by unfold maxLen;omega) (by omega) (by have:=H0.b.lt;omega) ?_;intro A2 c2 v hown hgrow hat;have H1:=zh (show BuJ w gL gA gB gs gb A2 (n+1) c2 sup (arcs++[x]) (v.setCell ⟨gb,1,none⟩ (.slice A2 (n+1) c2))from H0.push hgrow (by rw[eY];simpa [flat]using hown));have MM:=H0.mid hgrow;clear y0;have y0:=MM.cell 1 rfl;have q0:=MM.free 1;clear MM hown hgrow hat)
 go_upto_region 2 with fail
 generalize v.setCell ⟨gb,1,none⟩ (.slice A2 (n+1) c2)=v1 at H1 ⊢;clear y0 q0;have y0:=H1.b.cell 1 rfl;go_wp2_with fail
 trace_state
 exact bodyPost_ret (v:=.int .i64 n) (by simp[results,Try.results108,go_sem]) rfl ⟨A2,c2,rfl,H1.out⟩
theorem Je (a:Addr) (m k:Nat):(a.add m).add k=a.add (m+k):=by
 unfold Addr.add
 split<;>split<;>(try split)<;>simp_all [Nat.add_assoc]
theorem Bw (ad:Addr) (l:List Arc) (n cap:Nat) (w:World) (hn:n=l.length) (h2:n<=4096) (hA:lX w (some ad) l):
 Calls Try.prog 70 #[.slice (some ad) n cap] w fun e w'=> ∃A c,e=.returned (.slice A n c)/\Below w.heap.size w w'/\w'.ownsRow w.heap.size 46 4 (.slice A n c) n (flat bD l):=by
 have HA:=zh hA;have HN:=zh hn;have hsrc:kC (w.alloc (.cells #[] 46)) (some ad) n (flat bD l):=.inr ⟨ad,rfl,fun j u hu=>by
  have hj:j<l.length*4:=by
   rcases Nat.lt_or_ge j (l.length*4)with h|h
   ·exact h
   ·rw[List.getElem?_eq_none (by rw[iF (s:=4) (fun _=>rfl)];exact h)]at hu;cases hu
  have hq:j/4<l.length:=by omega
  obtain⟨ad',e,hb,c0,c1,c2,c3⟩:=HA.out (j/4) hq
  cases e
  have e1:=fD (f:=bD) (s:=4) (fun _=>rfl) l (j/4) (j%4) _ (bL _ _ default hq) (by omega);rw[show j/4*4+j%4=j by omega,hu]at e1;have hadd:ad.add j=(ad.add (j/4*4)).add (j%4):=by rw[Je,show j/4*4+j%4=j by omega]
  refine(((Below.refl w.heap.size w).alloc (Nat.le_refl _) (.cells #[] 46)).cell (by rw[block_add];exact hb)).trans ?_;rw[hadd];have h4:j%4=0∨j%4=1∨j%4=2∨j%4=3:=by omega
  rcases h4 with h|h|h|h<;>rw[h]at e1 ⊢ <;>simp[bD]at e1<;>subst e1
  ·rw[add_zero'];exact c0
  ·exact c1
  ·exact c2
  ·exact c3⟩
 have HS:=zh hsrc;have FL:=zh (iF (f:=bD) (s:=4) (fun _=>rfl) l);clear hsrc hA hn;obtain⟨i0,hi,hz0,hz1,hz2⟩:=info_parts tu;have qT: ∀w:World,(binOp .eql 23 (.slice (some ad) n cap) (.slice none 0 0)).run Try.prog w=.ok (.bool false) w:=fun w=>Lib.run_eql_slice_nil w 23 46 (some ad) n cap 0 0 Try.underlying23
 go_enter Try.func70,Try.ntmps70;go_wp2_with (at_builtin;refine ax (.tmp 5) (.tmp 6) 23 rfl rfl w.heap.size 46 i0 (.agg #[.int .i64 0,.int .i64 0,.int .i64 0,.int .i64 0]) 4 32 Try.underlying23 hi hz0 hz1 hz2 rfl (by decide) (some ⟨w.heap.size,0,none⟩) 0 0 [] (by rfl) (World.ownsRow_lit w #[] 0 (Nat.le_refl _) (Nat.zero_le _) rfl) (some ad) n cap (flat bD l) (by rfl) (by rw[FL.out,HN.out]) HS.out (by intro u hu;obtain⟨a,_,ha⟩:=List.mem_flatMap.1 hu;simp[bD]at ha;rcases ha with rfl|rfl|rfl|rfl<;>rfl) (by unfold maxLen;omega) (by omega) (by simp) ?_;intro A3 c3 w2 hown2 hgrow2 uX;have HO2:=zh hown2;have HG2:=zh hgrow2;clear hown2 hgrow2 uX)
 have BB:Hid (Below w.heap.size w w2):=zh (((Below.refl w.heap.size w).alloc (Nat.le_refl _) (.cells #[] 46)).grown HG2.out (by simp) (fun k hk=>by cases hk;exact Nat.le_refl _));have OO:Hid (w2.ownsRow w.heap.size 46 4 (.slice A3 n c3) n (flat bD l)):=zh (by simpa using HO2.out);go_ret;exact⟨A3,c3,rfl,BB.out,OO.out⟩
theorem Bz (A0:Option Addr) (l:List Arc) (n cap:Nat) (w:World) (hn:n=l.length) (h2:n<=4096) (hA:lX w A0 l):
 Calls Try.prog 70 #[.slice A0 n cap] w fun e w'=> ∃A c,e=.returned (.slice A n c)/\Below w.heap.size w w'/\w'.ownsRow w.heap.size 46 4 (.slice A n c) n (flat bD l):=by
 cases A0 with
 |some ad=>exact Bw ad l n cap w hn h2 hA
 |none=>
  have hl:l=[]:=by
   cases l with
   |nil=>rfl
   |cons a t=>obtain⟨ad,h,_⟩:=hA 0 (by simp);cases h
  subst hl;simp only[List.length_nil]at hn;subst hn;clear hA h2;have qT: ∀w:World,(binOp .eql 23 (.slice none 0 cap) (.slice none 0 0)).run Try.prog w=.ok (.bool true) w:=fun w=>Lib.run_eql_slice_nil w 23 46 none 0 cap 0 0 Try.underlying23
  go_enter Try.func70,Try.ntmps70;go_wp2_with fail
  exact bodyPost_ret (v:=.slice none 0 0) (by simp[results,Try.results70,go_sem]) rfl ⟨none,0,rfl,Below.refl _ _,World.ownsRow_nil _ _ _ _⟩
end Go.Proofs.Ytmebpglkeedaoaa
namespace Go.Proofs.Ytmebpglkeedaoaa
namespace Dp
theorem Jf {N:Net} {G:Gr} {c:List Int} (h:chE N=0) (hG:G.Ok N.sup.length) (hf:Fits N G) (hc: ∀k,k<c.length->cutAt N.sup.length c k=true):lkA N c N.arcs.length<=dA G.left:=by
 have h2:=sO (C:=fun v=>inK c c.length v) (f:=fun j=>G.room (2*j+1)) h;rw[<-rE,sK _ (Nat.le_refl _) hc]at h2;have h3:bZ (fun v=>if inK c c.length (v:Int)=true then (1:Int)else 0) (lv N (fun j=>G.room (2*j+1)) N.arcs.length) N.sup.length<=dA G.left:=by
  rw[jJ,hf.ll];have: ∀k,k<=N.sup.length->bZ (fun v=>if inK c c.length (v:Int)=true then (1:Int)else 0) (lv N (fun j=>G.room (2*j+1)) N.arcs.length) k<=bZ (fun _=>1) (fun v=>max 0 (G.left.getD v 0)) k:=by
   intro k
   induction k with
   |zero=>intro _;exact Int.le_refl _
   |succ k ih=>
    intro hk;simp only[bZ];have h1:=ih (by omega);rw[<-hf.lf k (by omega)];have e:G.left.getD k 0=G.lf k:=rfl;rw[e]
    split<;>omega
  exact this _ (Nat.le_refl _)
 rw[rF];have IP: ∀(g:Nat->Int) k,eH (fun _=>1) (fun j=> -g j) k= -eH (fun _=>1) g k:=fun g k=>by
  induction k with
  |zero=>rfl
  |succ k ih=>simp only[eH];rw[ih];omega
 have h5:=sM (f:=fun j=>G.room (2*j+1)) (g:=fun j=>(if inK c c.length (toN N j:Int)=true then (1:Int)else 0)-(if inK c c.length (frN N j:Int)=true then 1 else 0))
  (h:=fun j=> -(if inK c c.length (N.arcs.getD j default).fr=true/\inK c c.length (N.arcs.getD j default).to=false then (N.arcs.getD j default).cap else 0)) N.arcs.length (fun j hj=>by
    have e:=dZ h j hj;have b:=hf.r0 j hj;have rc:=l8 hG hf j hj;rw[e.1,e.2.1];generalize G.room (2*j+1)=f at *;generalize G.room (2*j)=g at *;generalize (N.arcs.getD j default).cap=ca at *
    cases hA:inK c c.length (frN N j:Int)<;>cases hB:inK c c.length (toN N j:Int)<;>simp<;>omega)
 rw[IP]at h5;omega
end Dp
end Go.Proofs.Ytmebpglkeedaoaa
namespace Go.Proofs.Ytmebpglkeedaoaa
open Go.RowKit Dp
theorem vI {W:World} {D n cap:Nat} {A:Option Addr} {l:List Arc} (hA:W.ownsRow D 46 4 (.slice A n cap) n (flat bD l)) (hn:n=l.length):lX W A l/\n<=cap/\cap<=9223372036854775807:=by
 refine⟨fun i hi=>?_,?_⟩
 ·obtain⟨g,c,hv,hb,hlt⟩:=hA.form (by omega)
  cases hv
  have hc: ∀j,j<4->W.cell? ⟨g,i*4+j,none⟩=(bD (l.getD i default))[j]?:=fun j hj=>by
   rw[World.ownsRow.cellAt hA (i*4+j) (by omega)];exact fD (f:=bD) (s:=4) (fun _=>rfl) _ _ _ _ (bL _ _ _ hi) hj
  have had:(⟨g,0,none⟩:Addr).add (i*4)=⟨g,i*4,none⟩:=by unfold Addr.add;split<;>simp_all
  exact⟨⟨g,0,none⟩,rfl,hlt,by rw[had];exact hc 0 (by omega),by rw[had];exact hc 1 (by omega),by rw[had];exact hc 2 (by omega),by rw[had];exact hc 3 (by omega)⟩
 ·rcases hA.2 with ⟨h0,h1⟩|⟨g',c',cur,hv,_,_,hc1,hc2,_⟩
  ·cases h0
   simp
  ·cases hv
   unfold maxLen at hc2;omega
theorem BA {W:World} {b c cp:Nat} {A:Option Addr} {l:List Value} (h:W.ownsRow b 3 1 (.slice A c cp) c l):c<=cp/\cp<=9223372036854775807:=by
 rcases h.2 with ⟨h0,h1⟩|⟨g',c',cur,hv,_,_,hc1,hc2,_⟩
 ·cases h0
  omega
 ·cases hv
  unfold maxLen at hc2;omega
theorem EU (N:Net): ∀k,lkA N [] k=0
 |0=>rfl
 |k+1=>by simp only[lkA];rw[EU N k];simp[inK]
theorem BD {W:World} {g t B e z n cap:Nat} {cs xs:List Value} {A:Option Addr} (hb:Blk W g t cs) (h:W.ownsRow B e z (.slice A n cap) n xs) (hne:t≠e):some g≠(Value.slice A n cap).ownBlock:=by
 intro hk
 rcases h.2 with ⟨h0,_⟩|⟨g',cap',cur,hv,_,hg,_⟩
 ·rw[h0]at hk;cases hk
 ·rw[hv]at hk
  simp only[Value.ownBlock,Option.some.injEq]at hk;subst hk;unfold Blk at hb;rw[hg]at hb;simp only[Option.some.injEq,Obj.cells.injEq]at hb;exact hne hb.2.1.symm
theorem dJ {W:World} {g t B e z n cap:Nat} {cs xs:List Value} {A:Option Addr} (hb:Blk W g t cs) (h:W.ownsRow B e z (.slice A n cap) n xs) (hne:t≠e): ¬aK A g:=fun hk=>BD hb h hne (bE.1 hk).symm
theorem iZ {w:World} {B B' e z n:Nat} {v:Value} {xs:List Value} (h:w.ownsRow B e z v n xs) (hb:B'<=B):w.ownsRow B' e z v n xs:=⟨h.1,h.2.imp id (fun ⟨k,c,cur,hv,hb',r⟩=>⟨k,c,cur,hv,Nat.le_trans hb hb',r⟩)⟩
theorem G7 {W:World} {b c cp:Nat} {A:Option Addr} {l:List Int} (h:W.ownsRow b 3 1 (.slice A c cp) c (l.map (Value.int .i64))) (hc:c=l.length):aH W A l:=fun i hi=>by
 obtain⟨g,cap,hv,hb,hlt⟩:=h.form (by omega)
 cases hv
 refine⟨⟨g,0,none⟩,rfl,hlt,?_⟩;rw[show(⟨g,0,none⟩:Addr).add i=⟨g,i,none⟩from(by unfold Addr.add;split<;>simp_all),World.ownsRow.cellAt h i (by omega),List.getElem?_map,List.getElem?_eq_getElem hi,zg,List.getElem?_eq_getElem hi];rfl
def EW (N:Net) (w:World) (e:Ending) (w':World):Prop:=
 (chE N≠0/\e=.returned (.tuple #[.slice none 0 0,.int .i64 0,.int .i64 (chE N)]))∨
 (chE N=0/\e=.returned (.tuple #[.slice none 0 0,.int .i64 0,.int .i64 18])/\ ∃fl,ak N fl=true)∨
 (chE N=0/\ ∃(g c:Nat) (cut:List Int),e=.returned (.tuple #[.slice (some ⟨g,0,none⟩) cut.length c,.int .i64 (lkA N cut N.arcs.length),.int .i64 0])/\w'.ownsRow w.heap.size 3 1 (.slice (some ⟨g,0,none⟩) cut.length c) cut.length (cut.map (.int .i64))/\cut.length<=1024/\(∀k,k<cut.length->cutAt N.sup.length cut k=true)/\0<lkA N cut N.arcs.length/\ ∀fl,ak N fl=false)
def BF (N:Net) (e:Ending):Prop:= ∀(a:Value) (R:Int),e=.returned (.tuple #[a,.int .i64 R,.int .i64 0])-> ∀c,(∀k,k<c.length->cutAt N.sup.length c k=true)->lkA N c N.arcs.length<=R
theorem BF.no {N:Net} {a:Value} {R z:Int} (hz:z≠0):BF N (.returned (.tuple #[a,.int .i64 R,.int .i64 z])):=fun a' R' h=>by simp at h;exact absurd h.2.2 hz
theorem BF.yes {N:Net} {a:Value} {R:Int} (h: ∀c,(∀k,k<c.length->cutAt N.sup.length c k=true)->lkA N c N.arcs.length<=R):BF N (.returned (.tuple #[a,.int .i64 R,.int .i64 0])):=fun a' R' e=>by simp at e;rw[<-e.2];exact h
def zcL (l:List Arc) (k:Nat):List Arc:=(l.take k).map noC++l.drop k
theorem MK (l:List Arc) (k:Nat):(zcL l k).length=l.length:=by simp[zcL];omega
theorem Sn (l:List Arc):zcL l 0=l:=by simp[zcL]
theorem MO (l:List Arc):zcL l l.length=l.map noC:=by simp[zcL]
theorem EZ {l:List Arc} {k:Nat} (hk:k<l.length):(zcL l k)[k]?=some (l.getD k default):=by
 unfold zcL;rw[List.getElem?_append_right (by simp;omega)];simp only[List.length_map,List.length_take,Nat.min_eq_left (Nat.le_of_lt hk),Nat.sub_self,List.getElem?_drop,Nat.add_zero];exact bL l k default hk
theorem MP {l:List Arc} {k:Nat} (hk:k<l.length):(zcL l k).set k (noC (l.getD k default))=zcL l (k+1):=by
 have h1:l.drop k=l.getD k default::l.drop (k+1):=by
  rw[List.drop_eq_getElem_cons hk,zg,List.getElem?_eq_getElem hk];rfl
 have h2:l.take (k+1)=l.take k++[l.getD k default]:=by
  rw[List.take_add_one,bL l k default hk];rfl
 unfold zcL;rw[List.set_append_right _ _ (by simp;omega),h2,h1];simp only[List.length_map,List.length_take,Nat.min_eq_left (Nat.le_of_lt hk),Nat.sub_self,List.set_cons_zero,List.map_append,List.append_assoc,List.map_cons,List.map_nil,List.cons_append,List.nil_append]
theorem tC {N:Net} {G:Gr} {n:Nat} (hf:Fits (zcN N) G):G.Pot n (List.replicate n 0):=by
 have hz: ∀v,(List.replicate n (0:Int)).getD v 0=0:=fun v=>by simp[zg,List.getElem?_replicate];split<;>rfl
 refine⟨by simp,fun v _=>by rw[hz];omega,fun k hk _=>?_,fun v _ _=>hz v⟩;have hc:G.cost k=0:=by
  have hl:=hf.es;have hm:k/2<(zcN N).arcs.length:=by omega
  have h:=hf.c0 (k/2) hm;rw[iK (by rw[<-fH N];exact hm)]at h;have h0:(noC (N.arcs.getD (k/2) default)).cost=0:=rfl;rw[h0]at h
  rcases Nat.mod_two_eq_zero_or_one k with e|e
  ·have:k=2*(k/2):=by omega
   rw[this];exact h.1
  ·have:k=2*(k/2)+1:=by omega
   rw[this,h.2];rfl
 unfold Gr.rc;rw[hc,hz,hz];omega
theorem Jg {C:Nat->Bool} {k:Nat} (h:C k=true):fq (k+1) C=fq k C++[(k:Int)]:=by simp[fq,List.range_succ,h]
theorem MQ {C:Nat->Bool} {k:Nat} (h:C k=false):fq (k+1) C=fq k C:=by simp[fq,List.range_succ,h]
theorem Jh (C:Nat->Bool) (k:Nat):(fq k C).length<=k:=by
 unfold fq;rw[List.length_map];exact Nat.le_trans (List.length_filter_le _ _) (by simp)
theorem Dl (A B:Option Addr) (N:Net) (n m cA cB:Nat) (w:World) (hn:n=N.sup.length) (hm:m=N.arcs.length) (hA:n<=cA/\cA<=9223372036854775807) (hB:m<=cB/\cB<=9223372036854775807) (hN:dm w A B N):
 Calls Try.prog 28 #[.agg #[.slice A n cA,.slice B m cB]] w fun e w'=>(EW N w e w'/\BF N e)/\Below w.heap.size w w':=by
 have HN:=zh hn;have HM:=zh hm;have HNA:=zh hN;clear hn hm hN;have B1:=zh (Blk.new' w #[.slice A n cA,.slice B m cB] 25);have HB1:=zh ((Below.refl w.heap.size w).alloc (Nat.le_refl _) (.cells #[.slice A n cA,.slice B m cB] 25));go_enter Try.func28,Try.ntmps28;go_wp2_with fail
 generalize w.alloc (.cells #[.slice A n cA,.slice B m cB] 25)=w1 at B1 HB1 ⊢;refine(rA A B N n m cA cB w1 HN.out HM.out hA hB (HNA.below HB1.out (Nat.le_refl _))).mono ?_;rintro e w2 ⟨rfl,hb2⟩;have B2:=zh (B1.below hb2 B1.lt);have HB2:=zh (HB1.trans (hb2.mono HB1.size));clear hb2 B1 HB1
 by_cases hch:chE N=0
 rotate_left
 ·have hb0:(chE N==0)=false:=by simpa using hch
  have HNE:=zh hch;clear hch;go_wp2_with fail
  exact bodyPost_ret (v:=.tuple #[.slice none 0 0,.int .i64 0,.int .i64 (chE N)]) (by simp[results,Try.results28,go_sem]) rfl ⟨⟨.inl ⟨HNE.out,rfl⟩,BF.no HNE.out⟩,HB2.out⟩
 have HCH:=zh hch;have n1:1<=n:=by rw[HN.out];exact(bV hch).1
 have n2:n<=1024:=by rw[HN.out];exact(bV hch).2.1
 have m2:m<=2048:=by rw[HM.out];exact(bV hch).2.2
 rw[hch];clear hch;have hmk:=gZ n (by omega);go_upto_region 4 with fail
 have RD:Hid (∀W,Below w2.heap.size w2 W->(W.cell? ⟨w.heap.size,0,none⟩=some (.slice A n cA)/\W.cell? ⟨w.heap.size,1,none⟩=some (.slice B m cB))/\Below w.heap.size w W/\dm W A B N):=zh (fun W h=>by
  have hb:=HB2.trans (h.mono HB2.size);have hx:=B2.below h B2.lt;exact⟨⟨hx.cell 0 rfl,hx.cell 1 rfl⟩,hb,HNA.below hb (Nat.le_refl _)⟩)
 have HT:=zh (Below.refl w2.heap.size w2).drew;have HS2:=zh HB2.size
 go_cut [6]from 7 (fun s6 wc=> ∃b Ac cc,s6=.pointer (some ⟨b,0,none⟩)/\Hid (Blk wc b 25 [.slice A n cA,.slice Ac m cc]/\bB bD 46 4 w.heap.size wc Ac cc N.arcs/\Below w.heap.size w wc/\w.heap.size<=b))
 case first=>
  refine kF (S:=fun _ W=>(W.cell? ⟨w.heap.size,0,none⟩=some (.slice A n cA)/\W.cell? ⟨w.heap.size,1,none⟩=some (.slice B m cB))) (by kernel_rfl) ?_ (fun hHeld=>?_)
  ·(try dsimp only);(first|with_reducible exact(RD.out _ HT.out).1|with_reducible assumption)
  refine lTk 0 ?_ ?_ (fun aa=>?_);rotate_left 1
  ·(intro _ _ _ _ _;first|(go_simp;done)|(go_simp;with_reducible rfl))
  clear hHeld;have hHeld:=aa;clear aa
  (try simp only[zp])
  refine lTk 1 ?_ ?_ (fun aa=>?_);rotate_left 1
  ·(intro L W _ _ hSw;(try dsimp only at hSw);first|(go_simp;done)|(go_simp;with_reducible rfl))
  clear hHeld;have hHeld:=aa;clear aa
  (try simp only[zp])
  refine lTk 2 ?_ ?_ (fun aa=>?_);rotate_left 1
  ·(intro _ _ _ _ _;first|(go_simp;done)|(go_simp;with_reducible rfl))
  clear hHeld;have hHeld:=aa;clear aa
  (try simp only[zp])
  refine lTk 3 ?_ ?_ (fun aa=>?_);rotate_left 1
  ·(intro L W _ _ hSw;(try dsimp only at hSw);first|(go_simp;done)|(go_simp;with_reducible rfl))
  clear hHeld;have hHeld:=aa;clear aa
  (try simp only[zp])
  refine ay (rs:=[4,6]) (by kernel_rfl) (by simp) ?_;refine au.cons (i:=4) rfl (fun K hK=>?_) ?_
  ·go_simp;(refine(Bz B N.arcs m cB _ HM.out (by omega) (RD.out _ HT.out).2.2.2).mono ?_;rintro e w5 ⟨Ac,cc,rfl,hb5,ho5⟩;(try have HMK:=zh (Blk.below HMK.out hb5 (Blk.lt HMK.out)));have HCL:=zh (show bB bD 46 4 w.heap.size w5 Ac cc N.arcs from(by unfold bB;rw[<-HM.out];exact iZ ho5 (RD.out _ HT.out).2.1.size));have HT:=zh (HT.trans (hb5.mono HT.size));clear hb5 ho5)
   (try go_wp2_with fail)
   refine hK.out _ _ ?_ (fun aa=>?_)
   ·(try dsimp only);(first|with_reducible exact(RD.out _ HT.out).1|with_reducible assumption)
   clear hK K;clear hHeld;have hHeld:=aa;clear aa
   (try simp only[zp])
   refine lTk 5 ?_ ?_ (fun aa=>?_);rotate_left 1
   ·(intro _ _ _ _ _;first|(go_simp;done)|(go_simp;with_reducible rfl))
   clear hHeld;have hHeld:=aa;clear aa
   (try simp only[zp])
   refine ay (rs:=[6]) (by kernel_rfl) (by simp) ?_;refine au.cons (i:=6) rfl (fun K hK=>?_) ?_
   ·refine aG (.cells #[.slice none 0 0,.slice none 0 0] 25) (fun g=>.pointer (some ⟨g,0,none⟩)) rfl (by kernel_rfl) ?_;intro b w6 z6 hc6 hb6;(try have HCL:=zh (bB.below HCL.out hb6));have HMK:=zh (show Blk w6 b 25 [.slice none 0 0,.slice none 0 0]from hc6);have HMS:=zh (Nat.le_trans (RD.out _ HT.out).2.1.size z6);have HMT:=zh (Nat.le_trans HT.size z6);have HT:=zh (HT.trans (hb6.mono HT.size));clear hb6 hc6 z6
    (try go_wp2_with fail)
    refine hK.out _ _ ?_ (fun aa=>?_)
    ·(try dsimp only);(first|with_reducible exact(RD.out _ HT.out).1|with_reducible assumption)
    clear hK K;clear hHeld;have hHeld:=aa;clear aa
    (try simp only[zp])
    refine ay (rs:=[7]) (by kernel_rfl) (by simp) ?_;refine au.cons (i:=7) rfl (fun K hK=>?_) ?_
    ·(have q0:=HMK.cell 0 rfl;have q1:=HMK.cell 1 rfl;have z0:=HMK.free 0;have z1:=HMK.free 1;have zl:=HMK.lt;have HE1:=zh ((HMK.setCell 0 (.slice A n cA)).setCell 1 (.slice Ac m cc));have HE2:=zh ((HCL.set_ne (p:=⟨b,0,none⟩) (dJ HMK.out HCL.out (by decide)) (.slice A n cA)).set_ne (p:=⟨b,1,none⟩) (dJ (HMK.setCell 0 (.slice A n cA)) (HCL.set_ne (p:=⟨b,0,none⟩) (dJ HMK.out HCL.out (by decide)) (.slice A n cA)) (by decide)) (.slice Ac m cc));have HT:=zh ((HT.setCell (p:=⟨b,0,none⟩) HMT.out (.slice A n cA)).setCell (p:=⟨b,1,none⟩) HMT.out (.slice Ac m cc));go_simp)
     (try go_wp2_with fail)
     refine hK.out _ _ ?_ (fun aa=>?_)
     ·(try dsimp only);(first|with_reducible exact(RD.out _ HT.out).1|with_reducible assumption)
     clear hK K;clear hHeld;have hHeld:=aa;clear aa
     (try simp only[zp])
     refine fM (by kernel_rfl) ?_ _;go_wp2_with fail
     go_meet
     case rel=>exact⟨b,Ac,cc,rfl,zh ⟨HE1.out,HE2.out,(RD.out _ HT.out).2.1,HMS.out⟩⟩
    exact au.nil
   exact au.nil
  refine au.cons (i:=6) rfl (fun K hK=>?_) ?_
  ·refine aG (.cells #[.slice none 0 0,.slice none 0 0] 25) (fun g=>.pointer (some ⟨g,0,none⟩)) rfl (by kernel_rfl) ?_;intro b w6 z6 hc6 hb6;(try have HCL:=zh (bB.below HCL.out hb6));have HMK:=zh (show Blk w6 b 25 [.slice none 0 0,.slice none 0 0]from hc6);have HMS:=zh (Nat.le_trans (RD.out _ HT.out).2.1.size z6);have HMT:=zh (Nat.le_trans HT.size z6);have HT:=zh (HT.trans (hb6.mono HT.size));clear hb6 hc6 z6
   (try go_wp2_with fail)
   refine hK.out _ _ ?_ (fun aa=>?_)
   ·(try dsimp only);(first|with_reducible exact(RD.out _ HT.out).1|with_reducible assumption)
   clear hK K;clear hHeld;have hHeld:=aa;clear aa
   (try simp only[zp])
   refine ay (rs:=[4]) (by kernel_rfl) (by simp) ?_;refine au.cons (i:=4) rfl (fun K hK=>?_) ?_
   ·go_simp;(refine(Bz B N.arcs m cB _ HM.out (by omega) (RD.out _ HT.out).2.2.2).mono ?_;rintro e w5 ⟨Ac,cc,rfl,hb5,ho5⟩;(try have HMK:=zh (Blk.below HMK.out hb5 (Blk.lt HMK.out)));have HCL:=zh (show bB bD 46 4 w.heap.size w5 Ac cc N.arcs from(by unfold bB;rw[<-HM.out];exact iZ ho5 (RD.out _ HT.out).2.1.size));have HT:=zh (HT.trans (hb5.mono HT.size));clear hb5 ho5)
    (try go_wp2_with fail)
    refine hK.out _ _ ?_ (fun aa=>?_)
    ·(try dsimp only);(first|with_reducible exact(RD.out _ HT.out).1|with_reducible assumption)
    clear hK K;clear hHeld;have hHeld:=aa;clear aa
    (try simp only[zp])
    refine lTk 5 ?_ ?_ (fun aa=>?_);rotate_left 1
    ·(intro _ _ _ _ _;first|(go_simp;done)|(go_simp;with_reducible rfl))
    clear hHeld;have hHeld:=aa;clear aa
    (try simp only[zp])
    refine ay (rs:=[7]) (by kernel_rfl) (by simp) ?_;refine au.cons (i:=7) rfl (fun K hK=>?_) ?_
    ·(have q0:=HMK.cell 0 rfl;have q1:=HMK.cell 1 rfl;have z0:=HMK.free 0;have z1:=HMK.free 1;have zl:=HMK.lt;have HE1:=zh ((HMK.setCell 0 (.slice A n cA)).setCell 1 (.slice Ac m cc));have HE2:=zh ((HCL.set_ne (p:=⟨b,0,none⟩) (dJ HMK.out HCL.out (by decide)) (.slice A n cA)).set_ne (p:=⟨b,1,none⟩) (dJ (HMK.setCell 0 (.slice A n cA)) (HCL.set_ne (p:=⟨b,0,none⟩) (dJ HMK.out HCL.out (by decide)) (.slice A n cA)) (by decide)) (.slice Ac m cc));have HT:=zh ((HT.setCell (p:=⟨b,0,none⟩) HMT.out (.slice A n cA)).setCell (p:=⟨b,1,none⟩) HMT.out (.slice Ac m cc));go_simp)
     (try go_wp2_with fail)
     refine hK.out _ _ ?_ (fun aa=>?_)
     ·(try dsimp only);(first|with_reducible exact(RD.out _ HT.out).1|with_reducible assumption)
     clear hK K;clear hHeld;have hHeld:=aa;clear aa
     (try simp only[zp])
     refine fM (by kernel_rfl) ?_ _;go_wp2_with fail
     go_meet
     case rel=>exact⟨b,Ac,cc,rfl,zh ⟨HE1.out,HE2.out,(RD.out _ HT.out).2.1,HMS.out⟩⟩
    exact au.nil
   exact au.nil
  exact au.nil
 case rest=>
  clear HT RD B2 HB2;obtain⟨b,Ac,cc,rfl,HJ⟩:=hcut;have j1:=HJ.1.cell 1 rfl;have jl:=HJ.1.lt;have HJ0:Hid (Blk wc b 25 [.slice A n cA,.slice Ac m cc]/\bB bD 46 4 w.heap.size wc Ac cc (zcL N.arcs 0)/\Below w.heap.size w wc):=zh ⟨HJ.1,by rw[Sn];exact HJ.2.1,HJ.2.2.1⟩;have hbw:=HJ.2.2.2;clear HJ;go_upto_region 6 with fail
  go_wp2_with fail
  clear j1 jl
  go_loopg [30] m (fun q iv wr=> ∃k:Nat,iv=.int .i64 k/\k+q=m/\Hid (Blk wr b 25 [.slice A n cA,.slice Ac m cc]/\bB bD 46 4 w.heap.size wr Ac cc (zcL N.arcs k)/\Below w.heap.size w wr))
  case atStart=>exact⟨0,rfl,by omega,HJ0⟩
  case round=>
   clear HJ0;obtain⟨k,rfl,hkq,HJ⟩:=hrel;have j0:=HJ.1.cell 0 rfl;have j1:=HJ.1.cell 1 rfl;have jl:=HJ.1.lt
   by_cases hlt:k<m
   ·have hki:(k:Int)<(m:Int):=by omega
    have kA:k<N.arcs.length:=by rw[<-HM.out];exact hlt
    obtain⟨g,rfl,hg1,hg2,_⟩:=HJ.2.1.form (by rw[MK];omega);have c3:=HJ.2.1.cell (s:=4) (f:=bD) (fun _=>rfl) k 3 _ (EZ kA) (by decide);have z3:=HJ.2.1.free (k*4+3);have HE:Hid (Blk (wr.setCell ⟨g,k*4+3,none⟩ (.int .i64 0)) b 25 [.slice A n cA,.slice (some ⟨g,0,none⟩) m cc]/\bB bD 46 4 w.heap.size (wr.setCell ⟨g,k*4+3,none⟩ (.int .i64 0)) (some ⟨g,0,none⟩) cc (zcL N.arcs (k+1))/\Below w.heap.size w (wr.setCell ⟨g,k*4+3,none⟩ (.int .i64 0))):=zh ⟨HJ.1.setCell_ne (p:=⟨g,k*4+3,none⟩) (fun e=>dJ HJ.1 HJ.2.1 (by decide) (aA.2 e)) _,by
     have h:=HJ.2.1.put (s:=4) (f:=bD) (fun _=>rfl) k 3 (noC (N.arcs.getD k default)) (N.arcs.getD k default) (.int .i64 0) (EZ kA) (by decide) rfl;rw[MP kA]at h;exact h,HJ.2.2.setCell (p:=⟨g,k*4+3,none⟩) hg1 _⟩
    generalize N.arcs.getD k default=ar at *;obtain⟨x1,x2,x3,x4⟩:=ar;have c3:wr.cell? ⟨g,k*4+3,none⟩=some (.int .i64 x4):=c3;go_wp2_with fail
    go_roundg (gk-1)
    case measure=>omega
    case rel=>exact⟨k+1,by go_num,by omega,HE⟩
   ·obtain rfl:m=k:=by omega
    have HZ:Hid (bB bD 46 4 w.heap.size wr Ac cc (zcN N).arcs):=zh (by have h:=HJ.2.1;rw[HM.out,MO]at h;exact h);have HF:=zh (sU HCH.out);have HZL:Hid (m=(zcN N).arcs.length):=zh (by rw[fH];exact HM.out);have HBW:=zh HJ.2.2;obtain⟨ha,hc1,hc2⟩:=vI (by have h:=HZ.out;unfold bB at h;rw[<-HZL.out]at h;exact h) HZL.out;have HNZ:Hid (dm wr A Ac (zcN N)):=zh ⟨(HNA.below HBW.out (Nat.le_refl _)).1,ha⟩;clear ha HJ HZ;go_wp2_with fail
    refine(tq A Ac (zcN N) n m cA cc wr HN.out HZL.out HF.out hA ⟨hc1,hc2⟩ HNZ.out).mono ?_;obtain⟨BB,hBB⟩: ∃BB,BB=wr.heap.size:=⟨_,rfl⟩;rw[<-hBB];rintro e w3 ⟨b3,gl,cl,E,ce,bo,rfl,hb3,hg3⟩;rw[hBB]at hb3;clear j0 j1 jl HNZ;have HB3:=zh (HBW.trans (hb3.mono HBW.size));have c2:=hg3.blk.cell 2 rfl;have c2l:=hg3.blk.lt;have OK0:Hid ((gr0 (zcN N)).Ok n):=zh (by have h:=Dh HF.out;rw[show(zcN N).sup.length=n from HN.symm]at h;exact h);rw[OK0.lo]at c2;have FT0:=zh (oG (N:=zcN N));have S3:Hid (∀k,k=gl∨aK E k->w.heap.size<=k):=zh (fun k hk=>by
     rcases hk with h|h
     ·have:=hg3.base.2;have:=HBW.size;omega
     ·have:=(iT hg3.es h).2;have:=HBW.size;omega)
    have F0:=zh (kE 2 n w3);have al:=(Below.refl w3.heap.size w3).alloc (Nat.le_refl _) (.cells (Array.replicate n (.int .i64 0)) 2);have G3:=zh (hg3.below al);have HB4:=zh (HB3.trans (al.mono HB3.size));have EB2:=zh (fun k (h:aK E k)=>(iT hg3.es h).1);have hgl:gl<w3.heap.size:=hg3.left.lt.2;have MI:gl≠w3.heap.size:=by omega
    have MJ: ¬aK E w3.heap.size:=fun h=>by have:=EB2.out _ h;omega
    clear hb3 hg3 al;go_wp2_with fail
    clear c2 c2l;generalize w3.alloc (.cells (Array.replicate n (.int .i64 0)) 2)=w4 at F0 G3 HB4 ⊢;generalize w3.heap.size=gp at *
    go_loopg [12] (dA (gr0 (zcN N)).left).toNat (fun q ev wr=>Hid (∃G2,G2.Ok n/\Fits (zcN N) G2/\eX wr BB b3 gl cl E ce bo G2/\Fl 2 wr gp (List.replicate n 0)/\(dA G2.left).toNat=q/\Touch (fun k=>k=gl∨aK E k) w4 wr))
    case atStart=>exact zh ⟨gr0 (zcN N),OK0.out,FT0.out,G3.out,F0.out,rfl,Touch.refl _ _⟩
    case round=>
     clear OK0 FT0 G3 F0;obtain⟨G2,q1,q2,q3,q4,q5,q6⟩:=hrel.out;have OK:=zh q1;have FT:=zh q2;have GA:=zh q3;have FP:=zh q4;have HR:=zh q5;have TA:=zh q6;have PO:=zh (tC (n:=n) q2);clear hrel q1 q2 q3 q4 q5 q6;go_wp2_with fail
     refine(vD b3 gl cl ce bo BB n n E (some ⟨gp,0,none⟩) G2 (List.replicate n 0) _ OK.out PO.out GA.out FP.ints ⟨Nat.le_refl _,by omega⟩).mono ?_;rintro e w5 ⟨gf,gb,fa,vi,en,rfl,hb5,hf5,hv5,z1,z2,nr⟩;have G5:=zh (GA.below hb5);have T5:=zh (TA.below hb5);have P5:=zh (FP.below hb5);have F5:=zh hf5;have V5:=zh hv5;have NRR:=zh nr;have hpb:gb≠gl/\ ¬aK E gb:=by
      have h1:=GA.left.lt.2;refine⟨by omega,fun h=>?_⟩;have:=(iT GA.es h).1;omega
     clear hb5 hf5 hv5 nr
     by_cases hen:en<0
     ·have hem:en= -1:=by
       rcases NRR.fin with ⟨e,_⟩|⟨t,e,_⟩
       ·exact e
       ·omega
      subst hem;have OKN:Hid (G2.Ok (zcN N).sup.length):=zh (by rw[show(zcN N).sup.length=n from HN.symm];exact OK.out);have CUT:Hid (lkA N (fq n (fun v=>decide (fa.getD v 0<never))) m=dA G2.left):=zh (by
       have h:=NRR.out;rw[show n=(zcN N).sup.length from HN.out]at h;have h2:=rG HF.out OKN.out FT.out h;rw[fH,sV _ (Nat.le_refl _),<-HM.out]at h2;rw[HN.out];exact h2)
      have RMX:Hid (∀c,(∀k,k<c.length->cutAt N.sup.length c k=true)->lkA N c N.arcs.length<=dA G2.left):=zh (fun c hc=>by
       have h:=Jf (N:=zcN N) (c:=c) (by rw[sU];exact HCH.out) OKN.out FT.out hc;rw[fH,sV _ (Nat.le_refl _)]at h;exact h)
      have FLO:Hid (dA G2.left=0-> ∃fl,ak N fl=true):=zh (fun h=>⟨_,by have h2:=(mf HF.out OKN.out FT.out PO.rc h).1;rw[ES]at h2;exact h2⟩);have RN:=lG G2.left;have HB5:=zh (Below.touch HB4.out HB4.size T5.out S3.out);have RC:=zh (fun W (h:eX W BB b3 gl cl E ce bo G2)=>I4 b3 gl cl ce bo BB n E G2 W OK.out h);go_wp2_with fail
      refine(RC.out _ G5.out).mono ?_;rintro e w6 ⟨rfl,rfl⟩;generalize dA G2.left=R at *
      by_cases hr:R=0
      ·have hr0:(R==0)=true:=by simpa using hr
       have C1:=zh (FLO.out hr);clear hr;go_wp2_with fail
       exact bodyPost_ret (v:=.tuple #[.slice none 0 0,.int .i64 0,.int .i64 18]) (by simp[results,Try.results28,go_sem]) rfl ⟨⟨.inr (.inl ⟨HCH.out,rfl,C1.out⟩),BF.no (by decide)⟩,HB5.out⟩
      have hr0:(R==0)=false:=by simpa using hr
      have hrp:0<R:=by omega
      have L1:=zh NRR.l1;obtain⟨i3,h3i,h3z,h3s,h3b⟩:=info_parts Bn;have HO0:Hid (w5.ownsRow w5.heap.size 3 1 (.slice none 0 0) 0 ((fq 0 (fun v=>decide (fa.getD v 0<never))).map (.int .i64))):=zh (World.ownsRow_nil _ _ _ _);go_upto_region 17 with fail
      go_wp2_with fail
      go_loopw [13,65] (fun sv iv wr=> ∃(k c:Nat) (Ax:Option Addr) (cx:Nat),k<=n/\c=(fq k (fun v=>decide (fa.getD v 0<never))).length/\iv=.int .i64 k/\sv=.slice Ax c cx/\Hid (Below w5.heap.size w5 wr/\wr.ownsRow w5.heap.size 3 1 (.slice Ax c cx) c ((fq k (fun v=>decide (fa.getD v 0<never))).map (.int .i64)))) (fun _ iv _=>n-(intOf iv).toNat)
      case atStart=>exact⟨0,0,none,0,Nat.zero_le _,rfl,rfl,rfl,zh ⟨Below.refl _ _,HO0.out⟩⟩
      case round=>
       clear HO0;obtain⟨k,c,Ax,cx,hk,hc,rfl,rfl,HW⟩:=hrel;have hck:=Jh (fun v=>decide (fa.getD v 0<never)) k;rw[<-hc]at hck;have hcx:c<=cx/\cx<=9223372036854775807:=BA HW.2
       by_cases hlt:k<n
       ·have hki:(k:Int)<(n:Int):=by omega
        have f5:=(F5.below HW.1).cell k (by rw[L1.out];exact hlt);have f5l:=(F5.below HW.1).lt;have CY:=zh (fun h=>Jg (C:=fun v=>decide (fa.getD v 0<never)) (k:=k) h);have CN:=zh (fun h=>MQ (C:=fun v=>decide (fa.getD v 0<never)) (k:=k) h);have htop:=NRR.top k hlt;have HC:=zh hc;clear hc;have hun:never=1152921504606846976:=rfl;rw[hun]at htop
        by_cases hfk:fa.getD k 0<never
        ·have CY2:=zh (CY.out (decide_eq_true hfk))
         rw[hun]at hfk;clear CN CY;generalize fa.getD k 0=fk at *;have d1:decide (fk<1152921504606846976)=true:=decide_eq_true hfk;have hb:=(Below.refl wr.heap.size wr).alloc (Nat.le_refl _) (.cells #[.int .i64 k] 3);have HO:=zh (bF HW.2 hb);have HBA:=zh (HW.1.trans (hb.mono HW.1.size));have X:=zh (Blk.new' wr #[.int .i64 k] 3);clear hb;go_wp2_with (at_builtin;refine ax (.tmp 72) (.tmp 74) 26 rfl rfl w5.heap.size 3 i3 (.int .i64 0) 1 8 Try.underlying26 h3i h3z h3s h3b rfl (by decide) Ax c cx _ (by rfl) HO.out (some ⟨wr.heap.size,0,none⟩) 1 1 [.int .i64 k] (by rfl) (by rfl) (.inr ⟨_,rfl,fun j u hj=>by rcases j with _|j<;>simp at hj;subst hj;exact X.cell 0 rfl⟩) (by simp[Value.oneCell']) (by unfold maxLen;omega) (by omega) (HBA.size) ?_;intro A3 c3 w7 hown hgrow hat;have HE:Hid (Below w5.heap.size w5 w7/\w7.ownsRow w5.heap.size 3 1 (.slice A3 (c+1) c3) (c+1) ((fq (k+1) (fun v=>decide (fa.getD v 0<never))).map (.int .i64))):=zh ⟨HBA.grown hgrow HBA.size (fun j e=>(World.ownsRow.lt HO.out j e).1),by rw[CY2.out,List.map_append];exact hown⟩;clear hown hgrow hat)
         exact⟨⟨k+1,c+1,A3,c3,by omega,by rw[CY2.out,List.length_append,<-HC.out];rfl,by go_num,rfl,HE⟩,by simp[intOf];omega⟩
        ·have CN2:=zh (CN.out (decide_eq_false hfk))
         rw[hun]at hfk;clear CY CN;generalize fa.getD k 0=fk at *;have d1:decide (fk<1152921504606846976)=false:=decide_eq_false hfk;have HE:Hid (Below w5.heap.size w5 wr/\wr.ownsRow w5.heap.size 3 1 (.slice Ax c cx) c ((fq (k+1) (fun v=>decide (fa.getD v 0<never))).map (.int .i64))):=zh (by rw[CN2.out];exact HW.out);go_wp2_with fail
         exact⟨⟨k+1,c,Ax,cx,by omega,by rw[CN2.out];exact HC.out,by go_num,rfl,HE⟩,by simp[intOf];omega⟩
       ·obtain rfl:n=k:=by omega
        have G6:=zh (G5.below HW.1);have HB6:=zh (HB5.trans (HW.1.mono HB5.size));have HO6:=zh (iZ HW.2 HB5.size);have HC:=zh hc;clear hc HW;go_wp2_with fail
        refine(RC.out _ G6.out).mono ?_;rintro e w6 ⟨rfl,rfl⟩;have CK:=zh (mR (n:=N.sup.length) (C:=fun v=>decide (fa.getD v 0<never)));rw[<-HN.out]at CK;have CK3:Hid (∀k,k<(fq n (fun v=>decide (fa.getD v 0<never))).length->cutAt N.sup.length (fq n (fun v=>decide (fa.getD v 0<never))) k=true):=zh (by rw[<-HN.out];exact CK.out);have hc0:c≠0:=fun h=>by
         have h1:=HC.out;rw[h]at h1;have h2:=CUT.out;rw[List.length_eq_zero_iff.1 h1.symm,EU]at h2;omega
        obtain⟨g,cap,hv,hgb,hlt2⟩:=HO6.form (by omega)
        cases hv
        go_wp2_with fail
        exact bodyPost_ret (v:=.tuple #[.slice (some ⟨g,0,none⟩) c cx,.int .i64 R,.int .i64 0]) (by simp[results,Try.results28,go_sem]) rfl ⟨⟨.inr (.inr ⟨HCH.out,g,cx,fq n (fun v=>decide (fa.getD v 0<never)),by rw[<-HC.out,<-HM.out,CUT.out],by rw[<-HC.out];exact HO6.out,by rw[<-HC.out];omega,CK3.out,by rw[<-HM.out,CUT.out];exact hrp,oC (c:=fq n (fun v=>decide (fa.getD v 0<never))) HCH.out CK3.out (by rw[<-HM.out,CUT.out];exact hrp)⟩),BF.yes RMX.out⟩,HB6.out⟩
     ·obtain⟨t,rfl⟩: ∃t:Nat,en=t:=⟨en.toNat,by omega⟩
      have TF:Hid (t<n/\G2.lf t<0/\fa.getD t 0<never):=zh (by
       rcases NRR.fin with ⟨e,_⟩|⟨t',e,h1,h2,h3,h4⟩
       ·omega
       ·obtain rfl:t'=t:=by omega
        exact⟨h1,h2,h3⟩)
      have htn:t<n:=TF.1;have hti:(t:Int)<(n:Int):=by omega
      have d0:decide ((0:Int)<=(t:Int))=true:=decide_eq_true (by omega);obtain⟨S,s1,s2,s3,s4⟩:=NRR.ch;obtain⟨ks,s,y1,y2,y3,y4,y5⟩:=ou s1 s4 t ((s2 t htn).2 TF.2.2);have hsn:s<n:=s3 s (y5 s (y1.last));have SE:=zh (IZ b3 gl cl ce bo BB n n s t E (some ⟨gb,0,none⟩) G2 vi ks w5 OK.out y1 y4 hsn htn y2 TF.2.1 (fun j hj=>(y3 j hj).1) NRR.l2 ⟨Nat.le_refl _,by omega⟩ G5.out V5.ints (fun q hq=>by rw[aA.1 hq];exact hpb));clear s1 s2 s3 s4 y1 y2 y3 y4 y5;go_wp2_with fail
      refine SE.mono ?_;rintro e w6 ⟨rfl,x,hse,hga,hto⟩;have SX:=zh hse;have G6:=zh hga;have T6:=zh (T5.trans hto);have P6:=zh (P5.touch hto (fun h=>by
       rcases h with h|h
       ·exact MI h.symm
       ·exact MJ h))
      have ok:=hse.ok OK.out;have F6:=zh (FT.pushL OK.fine (ks:=ks) (x:=x) (fun j hj=>(ok.1 j hj).1));have M6:=zh (pG hse OK.out);have MN:=zh (lG (G2.pushL ks x).left);have OK6:=zh ok.2.2;clear hse hga hto ok SE;go_wp2_with fail
      go_roundg (dA (G2.pushL ks x).left).toNat
      case measure=>have h1:=M6.out;have h2:=MN.out;have h3:=SX.x0;have h4:=HR.out;omega
      case rel=>exact zh ⟨_,OK6.out,F6.out,G6.out,P6.out,rfl,T6.out⟩
theorem G8 (A B:Option Addr) (N:Net) (n m cA cB:Nat) (w:World) (hn:n=N.sup.length) (hm:m=N.arcs.length) (hA:n<=cA/\cA<=9223372036854775807) (hB:m<=cB/\cB<=9223372036854775807) (hN:dm w A B N):
 Calls Try.prog 28 #[.agg #[.slice A n cA,.slice B m cB]] w fun e w'=>EW N w e w'/\Below w.heap.size w w':=(Dl A B N n m cA cB w hn hm hA hB hN).mono (fun _ _ h=>⟨h.1.1,h.2⟩)
theorem Ji (l:List Int) (a:Nat) (d v:Int) (h:v=l.getD a 0+d):mv l (a:Int) d=l.set a v:=by subst h;simp[mv]
theorem kP {a b c d:Int} (h1:a=b) (h2:c=d):Ending.returned (.tuple #[.int .i64 a,.int .i64 c])=.returned (.tuple #[.int .i64 b,.int .i64 d]):=by rw[h1,h2]
def CoJ (w:World) (A B:Option Addr) (n cA m cB g c:Nat) (l:List Int) (W:World):Prop:=Below w.heap.size w W/\Blk W w.heap.size 25 [.slice A n cA,.slice B m cB]/\dI w.heap.size W g c l
theorem CoJ.put {w:World} {A B:Option Addr} {n cA m cB g c:Nat} {l:List Int} {W:World} (h:CoJ w A B n cA m cB g c l W) (hg:w.heap.size<g) (j:Nat) (v:Int):CoJ w A B n cA m cB g c (l.set j v) (W.setCell ⟨g,j,none⟩ (.int .i64 v)):=
 ⟨h.1.setCell (by simp;omega) _,h.2.1.setCell_ne (by simp;omega) _,h.2.2.put j v⟩
theorem CoJ.alloc {w:World} {A B:Option Addr} {n cA m cB g c:Nat} {l:List Int} {W:World} (h:CoJ w A B n cA m cB g c l W) (o:Obj):CoJ w A B n cA m cB g c l (W.alloc o):=
 ⟨h.1.alloc h.1.size _,h.2.1.alloc _,h.2.2.below ((Below.refl _ _).alloc (Nat.le_refl _) _)⟩
theorem Jj (A B C:Option Addr) (N:Net) (fl:List Int) (n m p cA cB cC:Nat) (w:World) (hn:n=N.sup.length) (hm:m=N.arcs.length) (hp:p=fl.length) (hA:n<=cA/\cA<=9223372036854775807) (hB:m<=cB/\cB<=9223372036854775807) (hC:p<=cC/\cC<=9223372036854775807) (hN:dm w A B N) (hF:aH w C fl):
 Calls Try.prog 14 #[.agg #[.slice A n cA,.slice B m cB],.slice C p cC] w fun e w'=>e=.returned (.tuple #[.int .i64 (coV N fl),.int .i64 (coE N fl)])/\Below w.heap.size w w':=by
 have HN:=zh hn;have HM:=zh hm;have HP:=zh hp;have HNA:=zh hN;have HFA:=zh hF;clear hn hm hp hN hF;have B1:=zh (Blk.new' w #[.slice A n cA,.slice B m cB] 25);have HB1:=zh ((Below.refl w.heap.size w).alloc (Nat.le_refl _) (.cells #[.slice A n cA,.slice B m cB] 25));go_enter Try.func14,Try.ntmps14;go_wp2_with fail
 generalize w.alloc (.cells #[.slice A n cA,.slice B m cB] 25)=w1 at B1 HB1 ⊢;refine(rA A B N n m cA cB w1 HN.out HM.out hA hB (HNA.below HB1.out (Nat.le_refl _))).mono ?_;rintro e w2 ⟨rfl,hb2⟩;have B2:=zh (B1.below hb2 B1.lt);have HB2:=zh (HB1.trans (hb2.mono HB1.size));clear hb2 B1 HB1;have cA0:=B2.cell 0 rfl;have cB0:=B2.cell 1 rfl
 by_cases hch:chE N=0
 ·have hce:=bV hch
  rw[hch]
  by_cases hpm:p=m
  ·have hmm:(p:Int)=(m:Int):=by omega
   have n1:1<=n:=by rw[HN.out];exact hce.1
   have n2:n<=1024:=by rw[HN.out];exact hce.2.1
   have m2:m<=2048:=by rw[HM.out];exact hce.2.2
   have HCH:=zh hch;clear hch hce;go_wp2_with fail
   trace "clone"
   refine(rC A N.sup n cA w2 HN.out n1 (by omega) (HNA.1.below HB2.out (Nat.le_refl _))).mono ?_;rintro e w3 ⟨g,c,rfl,hb3,z1,z2,ho3⟩;have B3:=zh (B2.below hb3 B2.lt);have HB3:=zh (HB2.trans (hb3.mono HB2.size));have zg:w.heap.size<g:=Nat.lt_of_lt_of_le B2.lt z1;have HO3:Hid (dI w.heap.size w3 g c N.sup):=zh (ho3.mono HB2.size);clear hb3 ho3 B2 HB2 cA0 cB0 z1;have cA0:=B3.cell 0 rfl;have cB0:=B3.cell 1 rfl;go_wp2_with fail
   have J3:=zh (show CoJ w A B n cA m cB g c N.sup w3 from⟨HB3.out,B3.out,HO3.out⟩);clear B3 HB3 HO3 cA0 cB0
   go_loopw [8,31] (fun v i wr=> ∃k:Nat,k<=m/\i=.int .i64 k/\v=.int .i64 (aV N fl k)/\Hid (CoJ w A B n cA m cB g c (gU N fl k) wr/\ ∀x,x<k->0<=fl.getD x 0/\fl.getD x 0<=(N.arcs.getD x default).cap)) (fun _ i _=>m-(intOf i).toNat)
   case atStart=>exact⟨0,Nat.zero_le _,rfl,rfl,zh ⟨J3.out,fun x hx=>absurd hx (Nat.not_lt_zero _)⟩⟩
   case round=>
    obtain⟨k,hk,rfl,rfl,HJ⟩:=hrel;have bc:=nZ HCH.out k (by rw[<-HM.out];exact hk) HJ.2;have BL:=zh (A7 HCH.out k (by rw[<-HM.out];exact hk) HJ.2);have cA0:=HJ.1.2.1.cell 0 rfl;have cB0:=HJ.1.2.1.cell 1 rfl
    by_cases hlt:k<m
    ·obtain⟨ad,rfl,hbl,d0,d1,d2,d3⟩:=(HNA.2.below HJ.1.1 (Nat.le_refl _)) k (by rw[<-HM.out];exact hlt)
     obtain⟨af,rfl,hbf,hf0⟩:=HFA.out k (by rw[<-HP.out,hpm];exact hlt);have HFC:=zh (fun (W:World) (h:Below w.heap.size w W)=>(h.cell (p:=af.add k) (by rw[block_add];exact hbf)).trans hf0);clear hf0 hbf;obtain⟨a1,a2,a3,a4,a5⟩:=bX HCH.out k (by rw[<-HM.out];exact hlt);rw[<-HN.out]at a1 a2;have HL1:=zh (show gU N fl (k+1)=mv (mv (gU N fl k) (N.arcs.getD k default).fr (-(fl.getD k 0))) (N.arcs.getD k default).to (fl.getD k 0)from rfl);have HK1:=zh (show aV N fl (k+1)=aV N fl k+fl.getD k 0*(N.arcs.getD k default).cost from rfl);have HCAP:=zh (fun h=>CP (N:=N) (fl:=fl) k (by rw[<-HM.out];exact hlt) h);have HLL:=zh (dW N fl k);generalize har:N.arcs.getD k default=ar at *;obtain⟨fr,«to»,ca,co⟩:=ar;have HAR:=zh (show(N.arcs.getD k default).cap=ca from by rw[har]);clear har;simp only at d0 d1 d2 d3 a1 a2 a3 a4 a5 HCAP HL1 HK1;obtain⟨a,rfl⟩: ∃a:Nat,fr=a:=⟨fr.toNat,by omega⟩;obtain⟨b,rfl⟩: ∃b:Nat,«to»=b:=⟨«to».toNat,by omega⟩;generalize hfk:fl.getD k 0=f at *;have HFK:=zh hfk;clear hfk;have HJ2:=zh HJ.2;have J0:=zh HJ.1;clear HJ;generalize gU N fl k=l at *;generalize hS:aV N fl k=S at *;clear hS;have gne:wr.heap.size≠g:=by have:=J0.2.2.lt;omega
     go_upto_region 10 with fail
     have J4:=zh (J0.alloc (.cells #[.int .i64 a,.int .i64 b,.int .i64 ca,.int .i64 co] 46));have BX:=zh (Blk.new' wr #[.int .i64 a,.int .i64 b,.int .i64 ca,.int .i64 co] 46);generalize wr.alloc (.cells #[.int .i64 a,.int .i64 b,.int .i64 ca,.int .i64 co] 46)=wx at J4 BX ⊢;generalize wr.heap.size=ga at *;have e0:=BX.cell 0 rfl;have e1:=BX.cell 1 rfl;have e2:=BX.cell 2 rfl;have e3:=BX.cell 3 rfl;have fc:=HFC.out _ J4.1;clear d0 d1 d2 d3 cA0 cB0;have hlen:fl.length=N.arcs.length:=by rw[<-HP.out,<-HM.out];exact hpm
     have HLEN:=zh hlen;clear hlen
     by_cases f1:f<0
     ·have E:=zh (Ir HCH.out HLEN.out (HCAP.out (by omega)))
      go_wp2
      go_ret2
      exact⟨kP E.2.symm E.1.symm,J4.1⟩
     by_cases f2:ca<f
     ·have E:=zh (Ir HCH.out HLEN.out (HCAP.out (by omega)))
      go_wp2
      go_ret2
      exact⟨kP E.2.symm E.1.symm,J4.1⟩
     have la0:=J4.2.2.cell a (by rw[HLL.out,<-HN.out];omega);have fr0:=J4.2.2.free a;have lb0:=BL.out a (by rw[<-HN.out];omega);have M1:=zh (Ji l a (-f) (l.getD a 0-f) (by omega));have M1B:=zh (Iq (l:=l) (i:=(a:Int)) (d:= -f) (B:=268435456+2097152*k) (D:=1048576) (by omega) (by rw[HLL.out,<-HN.out];omega) (fun j hj=>BL.out j (by rw[<-HLL.out];exact hj)));have M1L:=zh (gD l (a:Int) (-f));generalize l.getD a 0=la at *;go_upto_region 14 with fail
     refine iV (fun W=>CoJ w A (some ad) n cA m cB g c (mv l a (-f)) W/\Blk W ga 46 [.int .i64 a,.int .i64 b,.int .i64 ca,.int .i64 co]) ⟨by rw[M1.out];exact J4.put zg a _,BX.setCell_ne gne _⟩ ?_;rintro w5 ⟨j5,bx5⟩;have J5:=zh j5;have BX5:=zh bx5;clear j5 bx5 e0 e1 e2 e3 fc la0 fr0 lb0 J4 BX;generalize mv l (a:Int) (-f)=l5 at *;have e0:=BX5.cell 0 rfl;have e1:=BX5.cell 1 rfl;have e2:=BX5.cell 2 rfl;have e3:=BX5.cell 3 rfl;have la0:=J5.2.2.cell b (by rw[M1L.out,HLL.out,<-HN.out];omega);have fr0:=J5.2.2.free b;have lb0:=M1B.out b (by rw[M1L.out,HLL.out,<-HN.out];omega);have M2:=zh (Ji l5 b f (l5.getD b 0+f) (by omega));generalize l5.getD b 0=lb at *;go_upto_region 15 with fail
     refine iV (fun W=>CoJ w A (some ad) n cA m cB g c (mv l5 b f) W/\Blk W ga 46 [.int .i64 a,.int .i64 b,.int .i64 ca,.int .i64 co]) ⟨by rw[M2.out];exact J5.put zg b _,BX5.setCell_ne gne _⟩ ?_;rintro w6 ⟨j6,bx6⟩;have J6:=zh j6;have BX6:=zh bx6;clear j6 bx6 e0 e1 e2 e3 la0 fr0 lb0 J5 BX5;have e0:=BX6.cell 0 rfl;have e3:=BX6.cell 3 rfl;have p1:f*co<=1099511627776/\ -1099511627776<=f*co:=by
      have q1:=Int.mul_le_mul_of_nonneg_left a5.2 (show(0:Int)<=f by omega);have q2:=Int.mul_le_mul_of_nonneg_left a5.1 (show(0:Int)<=f by omega);omega
     go_wp2
     go_roundw
     case rel=>
      refine⟨k+1,by omega,by go_num,by rw[HK1.out],zh ⟨?_,fun x hx=>?_⟩⟩
      ·rw[HL1.out];exact J6.out
      ·by_cases hjk:x<k
       ·exact HJ2.out x hjk
       ·obtain rfl:x=k:=by omega
        rw[HFK.out,HAR.out];omega
     case measure=>simp[intOf];omega
    ·obtain rfl:k=m:=by omega
     have hlen:fl.length=N.arcs.length:=by rw[<-HP.out,<-HM.out];exact hpm
     have HLEN:=zh hlen;clear hlen;have J7:=zh HJ.1;have HLL:=zh (dW N fl k);have EL:=zh (fun j hj h=>Ir HCH.out HLEN.out (A8 (N:=N) (fl:=fl) j hj (by rw[<-HM.out];exact h)));have EY:=zh (fun h2=>Qs HCH.out HLEN.out (nK HLEN.out (fun x hx=>HJ.2 x (by rw[HM.out];exact hx)) (by rw[<-HM.out];exact h2)));have EC:=zh (show aV N fl k=aV N fl N.arcs.length from by rw[HM.out]);clear HJ;generalize gU N fl k=l at *;generalize aV N fl k=S at *;go_wp2_with fail
     go_loop [73] (fun i=> ∃j:Nat,j<=n/\i=.int .i64 j/\Hid (∀x,x<j->l.getD x 0=0)) (fun i=>n-(intOf i).toNat)
     case atStart=>exact⟨0,Nat.zero_le _,rfl,zh (fun x hx=>absurd hx (Nat.not_lt_zero _))⟩
     case round=>
      obtain⟨j,hj,rfl,HZ⟩:=hrel
      by_cases hlt2:j<n
      ·have hc0:=J7.2.2.cell j (by rw[HLL.out,<-HN.out];exact hlt2)
       have EJ:=zh (EL.out j (by rw[<-HN.out];exact hlt2));generalize hx:l.getD j 0=x at *;have HX:=zh hx;clear hx
       by_cases x0:x=0
       ·subst x0
        go_wp2
        go_round
        case rel=>
         refine⟨j+1,by omega,by go_num,zh (fun y hy=>?_)⟩
         by_cases hjk:y<j
         ·exact HZ.out y hjk
         ·obtain rfl:y=j:=by omega
          exact HX.out
        case measure=>simp[intOf];omega
       ·have E:=zh (EJ.out x0)
        have hx0:(x==0)=false:=by simpa using x0
        clear x0
        go_wp2
        go_ret2
        exact⟨kP E.2.symm E.1.symm,J7.1⟩
      ·have E:=zh (EY.out (fun x hx=>HZ.out x (by rw[<-HN.out]at hx;omega)))
       go_wp2
       go_ret2
       exact⟨kP (by rw[E.2,EC.out]) E.1.symm,J7.1⟩
  ·have E:=zh (Qr (fl:=fl) hch (by rw[<-HP.out,<-HM.out];exact hpm))
   have hmm: ¬(p:Int)=(m:Int):=by omega
   have hmm':((p:Int)==(m:Int))=false:=by simpa using hmm
   go_wp2
   go_ret2
   exact⟨kP E.2.symm E.1.symm,HB2.out⟩
 ·have E:=zh (RF (fl:=fl) hch)
  have hne:(chE N==0)=false:=by simpa using hch
  generalize chE N=q at *
  go_wp2
  go_ret2
  exact⟨kP E.2.symm E.1.symm,HB2.out⟩
theorem MR (A B C:Option Addr) (N:Net) (fl:List Int) (n m p cA cB cC:Nat) (w:World) (hm:m=N.arcs.length) (hp:p=fl.length) (hpm:p=m) (hch:chE N=0) (hB:m<=cB/\cB<=9223372036854775807) (hC:p<=cC/\cC<=9223372036854775807) (hN:dm w A B N) (hF:aH w C fl) (hcap: ∀x,x<p->0<=fl.getD x 0/\fl.getD x 0<=(N.arcs.getD x default).cap):
 Calls Try.prog 59 #[.agg #[.slice A n cA,.slice B m cB],.slice C p cC] w fun e w'=>e=.returned (.int .i64 (aV N fl m))/\Below w.heap.size w w':=by
 have HCH:=zh hch;have m2:m<=2048:=by rw[hm];exact(bV hch).2.2
 have HM:=zh hm;have HP:=zh hp;have HNA:=zh hN;have HFA:=zh hF;have HCAP:=zh hcap;subst hpm;clear hm hp hN hF hcap hch;have B1:=zh (Blk.new' w #[.slice A n cA,.slice B p cB] 25);have HB1:=zh ((Below.refl w.heap.size w).alloc (Nat.le_refl _) (.cells #[.slice A n cA,.slice B p cB] 25));go_enter Try.func59,Try.ntmps59;go_wp2_with fail
 generalize w.alloc (.cells #[.slice A n cA,.slice B p cB] 25)=w1 at B1 HB1 ⊢
 go_loopw [5,6] (fun v i wr=> ∃k:Nat,k<=p/\i=.int .i64 k/\v=.int .i64 (aV N fl k)/\Hid (Below w1.heap.size w1 wr)) (fun _ i _=>p-(intOf i).toNat)
 case atStart=>exact⟨0,Nat.zero_le _,rfl,rfl,zh (Below.refl _ _)⟩
 case round=>
  obtain⟨k,hk,rfl,rfl,HB⟩:=hrel;have HBR:=zh (HB1.trans (HB.mono HB1.size))
  by_cases hlt:k<p
  ·have bc:=nZ HCH.out k (by rw[<-HM.out];exact hk) (fun x hx=>HCAP.out x (by omega))
   have cA0:=(HB.cell (p:=⟨w.heap.size,0,none⟩) B1.lt).trans (B1.cell 0 rfl);have cB0:=(HB.cell (p:=⟨w.heap.size,1,none⟩) B1.lt).trans (B1.cell 1 rfl);have bA1:w.heap.size<wr.heap.size:=Nat.lt_of_lt_of_le B1.lt HB.size;obtain⟨ad,rfl,hbl,d0,d1,d2,d3⟩:=(HNA.2.below HBR.out (Nat.le_refl _)) k (by rw[<-HM.out];exact hlt);obtain⟨af,rfl,hbf,hf0⟩:=(HFA.below HBR.out (Nat.le_refl _)) k (by rw[<-HP.out];exact hlt);obtain⟨a1,a2,a3,a4,a5⟩:=bX HCH.out k (by rw[<-HM.out];exact hlt);have Qq:(ad.add (k*4)).block<wr.heap.size:=by rw[block_add];exact hbl
   have Yt:(af.add k).block<wr.heap.size:=by rw[block_add];exact hbf
   have HK1:=zh (show aV N fl (k+1)=aV N fl k+fl.getD k 0*(N.arcs.getD k default).cost from rfl);have hfk:=HCAP.out k hlt;have p1:fl.getD k 0*(N.arcs.getD k default).cost<=1099511627776/\ -1099511627776<=fl.getD k 0*(N.arcs.getD k default).cost:=by
    have q1:=Int.mul_le_mul_of_nonneg_left a5.2 hfk.1;have q2:=Int.mul_le_mul_of_nonneg_left a5.1 hfk.1;omega
   generalize N.arcs.getD k default=ar at *;obtain⟨fr,«to»,ca,co⟩:=ar;simp only at d0 d1 d2 d3 a1 a2 a3 a4 a5 HK1 p1 hfk;generalize fl.getD k 0=f at *;generalize aV N fl k=S at *;clear a1 a2 a3 d0 d1 d2;have k0:(0:Int)<=(k:Int):=by omega
   have kx:(k:Int)<(p:Int):=by omega
   go_wp2_with fail
   refine wrp ?_
   repeat(go_big_quiet_step (fail))
   refine wpQuiet_nil ?_;intro xx;have HXX:=zh xx.far;generalize xx.w=w4 at HXX ⊢
   go_wp2
   go_roundw
   case rel=>exact⟨k+1,by omega,by go_num,by rw[HK1.out],zh (HB.trans (HXX.mono HB.size))⟩
   case measure=>simp[intOf];omega
  ·obtain rfl:k=p:=by omega
   go_wp2
   go_ret;exact⟨rfl,HBR.out⟩
theorem Jk (A B C:Option Addr) (N:Net) (ps:List Int) (n m p cA cB cC:Nat) (w:World) (hn:n=N.sup.length) (hm:m=N.arcs.length) (hp:p=ps.length) (hA:n<=cA/\cA<=9223372036854775807) (hB:m<=cB/\cB<=9223372036854775807) (hC:p<=cC/\cC<=9223372036854775807) (hN:dm w A B N) (hF:aH w C ps):
 Calls Try.prog 16 #[.agg #[.slice A n cA,.slice B m cB],.slice C p cC] w fun e w'=>e=.returned (.tuple #[.int .i64 (prV N ps),.int .i64 (prE N ps)])/\Below w.heap.size w w':=by
 have HN:=zh hn;have HM:=zh hm;have HP:=zh hp;have HNA:=zh hN;have HFA:=zh hF;clear hn hm hp hN hF;have B1:=zh (Blk.new' w #[.slice A n cA,.slice B m cB] 25);have HB1:=zh ((Below.refl w.heap.size w).alloc (Nat.le_refl _) (.cells #[.slice A n cA,.slice B m cB] 25));go_enter Try.func16,Try.ntmps16;go_wp2_with fail
 generalize w.alloc (.cells #[.slice A n cA,.slice B m cB] 25)=w1 at B1 HB1 ⊢;refine(rA A B N n m cA cB w1 HN.out HM.out hA hB (HNA.below HB1.out (Nat.le_refl _))).mono ?_;rintro e w2 ⟨rfl,hb2⟩;have B2:=zh (B1.below hb2 B1.lt);have HB2:=zh (HB1.trans (hb2.mono HB1.size));clear hb2 B1 HB1;have cA0:=B2.cell 0 rfl;have cB0:=B2.cell 1 rfl
 by_cases hch:chE N=0
 ·have hce:=bV hch
  rw[hch]
  by_cases hpn:p=n
  ·have HLEN:=zh (show ps.length=N.sup.length from by rw[<-HP.out,<-HN.out];exact hpn)
   subst hpn;have n1:1<=p:=by rw[HN.out];exact hce.1
   have n2:p<=1024:=by rw[HN.out];exact hce.2.1
   have m2:m<=2048:=by rw[HM.out];exact hce.2.2
   have HCH:=zh hch;clear hch hce;obtain⟨aS,rfl,hbS,_⟩:=HNA.1 0 (by rw[<-HN.out];omega);obtain⟨aP,rfl,hbP,_⟩:=HFA.out 0 (by rw[<-HP.out];omega);have SC:Hid (∀W,Below w.heap.size w W-> ∀k,k<p->W.cell? (aS.add k)=some (.int .i64 (N.sup.getD k 0))):=zh (fun W h k hk=>by
    obtain⟨a',e,hb,hc⟩:=HNA.1 k (by rw[<-HN.out];exact hk)
    cases e
    exact(h.cell (by rw[block_add];exact hb)).trans hc)
   have PC:Hid (∀W,Below w.heap.size w W-> ∀k,k<p->W.cell? (aP.add k)=some (.int .i64 (ps.getD k 0))/\(aP.add k).block<W.heap.size):=zh (fun W h k hk=>by
    obtain⟨a',e,hb,hc⟩:=HFA.out k (by rw[<-HP.out];exact hk)
    cases e
    exact⟨(h.cell (by rw[block_add];exact hb)).trans hc,by rw[block_add];have:=h.size;omega⟩)
   go_wp2_with fail
   go_loop [7,25] (fun v i=> ∃k:Nat,k<=p/\i=.int .i64 k/\v=.int .i64 (prS N ps k)/\Hid (∀x,x<k->dX (ps.getD x 0)=true)) (fun _ i=>p-(intOf i).toNat)
   case atStart=>exact⟨0,Nat.zero_le _,rfl,rfl,zh (fun x hx=>absurd hx (Nat.not_lt_zero _))⟩
   case round=>
    obtain⟨k,hk,rfl,rfl,HK⟩:=hrel;have bs:=wI HCH.out k (by rw[<-HN.out];exact hk) HK.out
    by_cases hlt:k<p
    ·have sc:=SC.out _ HB2.out k hlt
     have pc:=(PC.out _ HB2.out k hlt).1;have hsu:=jW HCH.out k (by rw[<-HN.out];exact hlt);have ENO:=zh (fun h=>PI HCH.out HLEN.out k (by rw[<-HP.out];exact hlt) h);have HS1:=zh (show prS N ps (k+1)=prS N ps k-ps.getD k 0*N.sup.getD k 0 from rfl);generalize N.sup.getD k 0=s at *;generalize hx:ps.getD k 0=x at *;have HX:=zh hx;clear hx;generalize prS N ps k=S at *
     by_cases h1:x< -1073741824
     ·have E:=zh (ENO.out (by simp[dX];omega))
      go_wp2
      go_ret2
      exact⟨kP E.2.symm E.1.symm,HB2.out⟩
     by_cases h2:1073741824<x
     ·have E:=zh (ENO.out (by simp[dX];omega))
      go_wp2
      go_ret2
      exact⟨kP E.2.symm E.1.symm,HB2.out⟩
     have p1:x*s<=288230376151711744/\ -288230376151711744<=x*s:=by
      have:=wH (p:=x) (s:=s) (P:=1073741824) (by omega);have:abs s<=268435456:=by unfold abs;omega
      omega
     go_wp2
     go_round
     case rel=>
      refine⟨k+1,by omega,by go_num,by rw[HS1.out],zh (fun y hy=>?_)⟩
      by_cases hjk:y<k
      ·exact HK.out y hjk
      ·obtain rfl:y=k:=by omega
       rw[HX.out];simp[dX];omega
     case measure=>simp[intOf];omega
    ·obtain rfl:k=p:=by omega
     have HPO:Hid (∀x,x<ps.length->dX (ps.getD x 0)=true):=zh (fun x hx=>HK.out x (by rw[HP.out];exact hx));have E:=zh (CU HCH.out HLEN.out HPO.out);have E0:=zh (show prS N ps k=prA N ps 0 from by rw[HN.out];rfl);rw[E0.out];rw[E0.out]at bs;clear HK;go_wp2_with fail
     trace "loop 2"
     go_loopw [7,49] (fun v i wr=> ∃j:Nat,j<=m/\i=.int .i64 j/\v=.int .i64 (prA N ps j)/\Hid (Below w2.heap.size w2 wr)) (fun _ i _=>m-(intOf i).toNat)
     case atStart=>exact⟨0,Nat.zero_le _,rfl,rfl,zh (Below.refl _ _)⟩
     case round=>
      obtain⟨j,hj,rfl,rfl,HB⟩:=hrel;have ba:=CX HCH.out HLEN.out HPO.out j (by rw[<-HM.out];exact hj);have HBR:=zh (HB2.trans (HB.mono HB2.size))
      by_cases hlt2:j<m
      ·obtain⟨ad,rfl,hbl,d0,d1,d2,d3⟩:=(HNA.2.below HBR.out (Nat.le_refl _)) j (by rw[<-HM.out];exact hlt2)
       obtain⟨a1,a2,a3,a4,a5⟩:=bX HCH.out j (by rw[<-HM.out];exact hlt2);rw[<-HN.out]at a1 a2;have HA1:=zh (show prA N ps (j+1)=prA N ps j+prW (N.arcs.getD j default) ps from rfl);generalize N.arcs.getD j default=ar at *;obtain⟨fr,«to»,ca,co⟩:=ar;simp only at d0 d1 d2 d3 a1 a2 a3 a4 a5;obtain⟨a,rfl⟩: ∃a:Nat,fr=a:=⟨fr.toNat,by omega⟩;obtain⟨b,rfl⟩: ∃b:Nat,«to»=b:=⟨«to».toNat,by omega⟩;have pa:=dR.1 (HPO.out a (by rw[<-HP.out];omega));have pb:=dR.1 (HPO.out b (by rw[<-HP.out];omega));have HW:=zh (show prW ⟨a,b,ca,co⟩ ps=ca*min 0 (co+ps.getD a 0-ps.getD b 0)from rfl);have PA:=zh (fun W h=>PC.out W h a (by omega));have PB:=zh (fun W h=>PC.out W h b (by omega));generalize ps.getD a 0=x at *;generalize ps.getD b 0=y at *;generalize prA N ps j=S at *;have hx1:=fun ts t W=>sH 0 (co+x-y) ts t W
       generalize hz:min 0 (co+x-y)=z at *;have hzb: -2148532224<=z/\z<=0:=by omega
       clear hz;have p1:ca*z<=0/\ -2252899325313024<=ca*z:=by
        have q1:=Int.mul_le_mul_of_nonneg_left hzb.1 a4.1;have q2:=Int.mul_le_mul_of_nonneg_left hzb.2 a4.1;omega
       go_upto_region 17 with fail
       have HBX:=zh (HBR.alloc HBR.size (.cells #[.int .i64 a,.int .i64 b,.int .i64 ca,.int .i64 co] 46));have HBJ:=zh (HB.alloc HB.size (.cells #[.int .i64 a,.int .i64 b,.int .i64 ca,.int .i64 co] 46));have BX:=zh (Blk.new' wr #[.int .i64 a,.int .i64 b,.int .i64 ca,.int .i64 co] 46);generalize wr.alloc (.cells #[.int .i64 a,.int .i64 b,.int .i64 ca,.int .i64 co] 46)=wx at HBX HBJ BX ⊢;generalize wr.heap.size=ga at *;have e0:=BX.cell 0 rfl;have e1:=BX.cell 1 rfl;have e2:=BX.cell 2 rfl;have e3:=BX.cell 3 rfl;have zga:=BX.lt;obtain⟨fa,fab⟩:=PA.out _ HBX.out;obtain⟨fb,fbb⟩:=PB.out _ HBX.out;clear d0 d1 d2 d3;refine wrp ?_
       repeat(go_big_quiet_step (fail))
       refine wpQuiet_nil ?_;intro xx;have HXX:=zh xx.far;generalize xx.w=w4 at HXX ⊢
       go_wp2
       go_roundw
       case rel=>exact⟨j+1,by omega,by go_num,by rw[HA1.out,HW.out],zh (HBJ.trans (HXX.mono HBJ.size))⟩
       case measure=>simp[intOf];omega
      ·obtain rfl:j=m:=by omega
       go_wp2
       go_ret2
       exact⟨kP (by rw[E.2,HM.out]) E.1.symm,HBR.out⟩
  ·have E:=zh (IE (ps:=ps) hch (by rw[<-HP.out,<-HN.out];exact hpn))
   have hmm: ¬(p:Int)=(n:Int):=by omega
   have hmm':((p:Int)==(n:Int))=false:=by simpa using hmm
   go_wp2
   go_ret2
   exact⟨kP E.2.symm E.1.symm,HB2.out⟩
 ·have E:=zh (PH (ps:=ps) hch)
  have hne:(chE N==0)=false:=by simpa using hch
  generalize chE N=q at *
  go_wp2
  go_ret2
  exact⟨kP E.2.symm E.1.symm,HB2.out⟩
theorem G9 (A B C:Option Addr) (N:Net) (ps:List Int) (n m p cA cB cC:Nat) (w:World) (hn:n=N.sup.length) (hm:m=N.arcs.length) (hp:p=ps.length) (hA:n<=cA/\cA<=9223372036854775807) (hB:m<=cB/\cB<=9223372036854775807) (hC:p<=cC/\cC<=9223372036854775807) (hN:dm w A B N) (hF:aH w C ps):
 Calls Try.prog 17 #[.agg #[.slice A n cA,.slice B m cB],.slice C p cC] w fun e w'=>e=.returned (.tuple #[.int .i64 (prV N ps),.int .i64 (prE N ps)])/\Below w.heap.size w w':=by
 have HN:=zh hn;have HM:=zh hm;have HP:=zh hp;have HNA:=zh hN;have HFA:=zh hF;clear hn hm hp hN hF;have B1:=zh (Blk.new' w #[.slice A n cA,.slice B m cB] 25);have HB1:=zh ((Below.refl w.heap.size w).alloc (Nat.le_refl _) (.cells #[.slice A n cA,.slice B m cB] 25));go_enter Try.func17,Try.ntmps17;go_wp2_with fail
 generalize w.alloc (.cells #[.slice A n cA,.slice B m cB] 25)=w1 at B1 HB1 ⊢;refine(lZ A B N n m cA cB w1 HN.out HM.out hA hB (HNA.below HB1.out (Nat.le_refl _))).mono ?_;rintro e w2 ⟨rfl,hb2⟩;have B2:=zh (B1.below hb2 B1.lt);have HB2:=zh (HB1.trans (hb2.mono HB1.size));clear hb2 B1 HB1;have cA0:=B2.cell 0 rfl;have cB0:=B2.cell 1 rfl
 by_cases hch:chE N=0
 ·have hce:=bV hch
  rw[hch]
  by_cases hpn:p=n
  ·have HLEN:=zh (show ps.length=N.sup.length from by rw[<-HP.out,<-HN.out];exact hpn)
   subst hpn;have n1:1<=p:=by rw[HN.out];exact hce.1
   have n2:p<=1024:=by rw[HN.out];exact hce.2.1
   have m2:m<=2048:=by rw[HM.out];exact hce.2.2
   have HCH:=zh hch;clear hch hce;obtain⟨aS,rfl,hbS,_⟩:=HNA.1 0 (by rw[<-HN.out];omega);obtain⟨aP,rfl,hbP,_⟩:=HFA.out 0 (by rw[<-HP.out];omega);have SC:Hid (∀W,Below w.heap.size w W-> ∀k,k<p->W.cell? (aS.add k)=some (.int .i64 (N.sup.getD k 0))):=zh (fun W h k hk=>by
    obtain⟨a',e,hb,hc⟩:=HNA.1 k (by rw[<-HN.out];exact hk)
    cases e
    exact(h.cell (by rw[block_add];exact hb)).trans hc)
   have PC:Hid (∀W,Below w.heap.size w W-> ∀k,k<p->W.cell? (aP.add k)=some (.int .i64 (ps.getD k 0))/\(aP.add k).block<W.heap.size):=zh (fun W h k hk=>by
    obtain⟨a',e,hb,hc⟩:=HFA.out k (by rw[<-HP.out];exact hk)
    cases e
    exact⟨(h.cell (by rw[block_add];exact hb)).trans hc,by rw[block_add];have:=h.size;omega⟩)
   go_wp2_with fail
   go_loopw [7] (fun i wr=> ∃k:Nat,k<=p/\i=.int .i64 k/\Hid (Below w2.heap.size w2 wr)/\Hid (∀x,x<k->dX (ps.getD x 0)=true)) (fun i _=>p-(intOf i).toNat)
   case atStart=>exact⟨0,Nat.zero_le _,rfl,zh (Below.refl _ _),zh (fun x hx=>absurd hx (Nat.not_lt_zero _))⟩
   case round=>
    obtain⟨k,hk,rfl,HB,HK⟩:=hrel;have HBR:=zh (HB2.trans (HB.mono HB2.size))
    by_cases hlt:k<p
    ·have pc:=(PC.out _ HBR.out k hlt).1
     have ENO:=zh (fun h=>PI HCH.out HLEN.out k (by rw[<-HP.out];exact hlt) h);generalize hx:ps.getD k 0=x at *;have HX:=zh hx;clear hx;have WC:=bR x (-1073741824) 1073741824 wr
     by_cases h1: -1073741824<=x/\x<=1073741824
     ·rw[show inB x (-1073741824) 1073741824=true from by simp[inB,h1]]at WC
      go_wp2_with fail
      refine WC.mono ?_;rintro e w3 ⟨rfl,rfl⟩
      go_wp2
      go_roundw
      case rel=>
       refine⟨k+1,by omega,by go_num,HB,zh (fun y hy=>?_)⟩
       by_cases hjk:y<k
       ·exact HK.out y hjk
       ·obtain rfl:y=k:=by omega
        rw[HX.out];simp[dX];omega
      case measure=>simp[intOf];omega
     ·rw[show inB x (-1073741824) 1073741824=false from by simp[inB];omega]at WC
      have E:=zh (ENO.out (by simp[dX];omega));go_wp2_with fail
      refine WC.mono ?_;rintro e w3 ⟨rfl,rfl⟩
      go_wp2
      go_ret2
      exact⟨kP E.2.symm E.1.symm,HBR.out⟩
    ·obtain rfl:k=p:=by omega
     have HPO:Hid (∀x,x<ps.length->dX (ps.getD x 0)=true):=zh (fun x hx=>HK.out x (by rw[HP.out];exact hx));have E:=zh (CU HCH.out HLEN.out HPO.out);have B2:=zh (B2.below HB.out B2.lt);clear HK HB2 cA0 cB0 HB;have HB2:=HBR;clear HBR;generalize hwr:wr=w2 at *;clear hwr;have bA0:=B2.lt;go_wp2_with fail
     trace "loop B"
     go_loopw [6,8] (fun v i wr=> ∃j:Nat,j<=k/\i=.int .i64 j/\v=.int .i64 (prS N ps j)/\Hid (Below w2.heap.size w2 wr)) (fun _ i _=>k-(intOf i).toNat)
     case atStart=>exact⟨0,Nat.zero_le _,rfl,rfl,zh (Below.refl _ _)⟩
     case round=>
      obtain⟨j,hj,rfl,rfl,HB⟩:=hrel;have bs:=wI HCH.out j (by rw[<-HN.out];exact hj) (fun x hx=>HPO.out x (by rw[<-HP.out];omega));have HBR:=zh (HB2.trans (HB.mono HB2.size));have cA0:=(HB.cell (p:=⟨w.heap.size,0,none⟩) B2.lt).trans (B2.cell 0 rfl);have cB0:=(HB.cell (p:=⟨w.heap.size,1,none⟩) B2.lt).trans (B2.cell 1 rfl);have bA1:w.heap.size<wr.heap.size:=Nat.lt_of_lt_of_le bA0 HB.size
      by_cases hlt:j<k
      ·have sc:=SC.out _ HBR.out j hlt
       have scb:(aS.add j).block<wr.heap.size:=by rw[block_add];have:=HBR.size;omega
       obtain⟨pc,pcb⟩:=PC.out _ HBR.out j hlt;have hsu:=jW HCH.out j (by rw[<-HN.out];exact hlt);have hpo:=dR.1 (HPO.out j (by rw[<-HP.out];exact hlt));have HS1:=zh (show prS N ps (j+1)=prS N ps j-ps.getD j 0*N.sup.getD j 0 from rfl);generalize N.sup.getD j 0=s at *;generalize ps.getD j 0=x at *;generalize prS N ps j=S at *;have p1:x*s<=288230376151711744/\ -288230376151711744<=x*s:=by
        have:=wH (p:=x) (s:=s) (P:=1073741824) (by omega);have:abs s<=268435456:=by unfold abs;omega
        omega
       have k0:(0:Int)<=(j:Int):=by omega
       have kx:(j:Int)<(k:Int):=by omega
       go_wp2_with fail
       refine wrp ?_
       repeat(go_big_quiet_step (fail))
       refine wpQuiet_nil ?_;intro xx;have HXX:=zh xx.far;generalize xx.w=w4 at HXX ⊢
       go_wp2
       go_roundw
       case rel=>exact⟨j+1,by omega,by go_num,by rw[HS1.out],zh (HB.trans (HXX.mono HB.size))⟩
       case measure=>simp[intOf];omega
      ·obtain rfl:j=k:=by omega
       have E0:=zh (show prS N ps j=prA N ps 0 from by rw[HN.out];rfl);rw[E0.out];rw[E0.out]at bs;have B3:=zh (B2.below HB.out B2.lt);clear HB2 cA0 cB0 HB B2 bA0;have B2:=B3;have HB2:=HBR;clear HBR B3;generalize hwr:wr=w3 at *;clear hwr;go_wp2_with fail
       trace "loop 2"
       go_loopw [6,9] (fun v i wr=> ∃q:Nat,q<=m/\i=.int .i64 q/\v=.int .i64 (prA N ps q)/\Hid (Below w3.heap.size w3 wr)) (fun _ i _=>m-(intOf i).toNat)
       case atStart=>exact⟨0,Nat.zero_le _,rfl,rfl,zh (Below.refl _ _)⟩
       case round=>
        obtain⟨j,hj,rfl,rfl,HB⟩:=hrel;have ba:=CX HCH.out HLEN.out HPO.out j (by rw[<-HM.out];exact hj);have HBR:=zh (HB2.trans (HB.mono HB2.size));have cA0:=(HB.cell (p:=⟨w.heap.size,0,none⟩) B2.lt).trans (B2.cell 0 rfl);have cB0:=(HB.cell (p:=⟨w.heap.size,1,none⟩) B2.lt).trans (B2.cell 1 rfl)
        by_cases hlt2:j<m
        ·obtain⟨ad,rfl,hbl,d0,d1,d2,d3⟩:=(HNA.2.below HBR.out (Nat.le_refl _)) j (by rw[<-HM.out];exact hlt2)
         obtain⟨a1,a2,a3,a4,a5⟩:=bX HCH.out j (by rw[<-HM.out];exact hlt2);rw[<-HN.out]at a1 a2;have HA1:=zh (show prA N ps (j+1)=prA N ps j+prW (N.arcs.getD j default) ps from rfl);generalize N.arcs.getD j default=ar at *;obtain⟨fr,«to»,ca,co⟩:=ar;simp only at d0 d1 d2 d3 a1 a2 a3 a4 a5;obtain⟨a,rfl⟩: ∃a:Nat,fr=a:=⟨fr.toNat,by omega⟩;obtain⟨b,rfl⟩: ∃b:Nat,«to»=b:=⟨«to».toNat,by omega⟩;have pa:=dR.1 (HPO.out a (by rw[<-HP.out];omega));have pb:=dR.1 (HPO.out b (by rw[<-HP.out];omega));have HW:=zh (show prW ⟨a,b,ca,co⟩ ps=ca*min 0 (co+ps.getD a 0-ps.getD b 0)from rfl);have PA:=zh (fun W h=>PC.out W h a (by omega));have PB:=zh (fun W h=>PC.out W h b (by omega));generalize ps.getD a 0=x at *;generalize ps.getD b 0=y at *;generalize prA N ps j=S at *;have hx1:=fun ts t W=>sH 0 (co+x-y) ts t W
         generalize hz:min 0 (co+x-y)=z at *;have hzb: -2148532224<=z/\z<=0:=by omega
         clear hz;have p1:ca*z<=0/\ -2252899325313024<=ca*z:=by
          have q1:=Int.mul_le_mul_of_nonneg_left hzb.1 a4.1;have q2:=Int.mul_le_mul_of_nonneg_left hzb.2 a4.1;omega
         go_upto_region 19 with fail
         have HBX:=zh (HBR.alloc HBR.size (.cells #[.int .i64 a,.int .i64 b,.int .i64 ca,.int .i64 co] 46));have HBJ:=zh (HB.alloc HB.size (.cells #[.int .i64 a,.int .i64 b,.int .i64 ca,.int .i64 co] 46));have BX:=zh (Blk.new' wr #[.int .i64 a,.int .i64 b,.int .i64 ca,.int .i64 co] 46);generalize wr.alloc (.cells #[.int .i64 a,.int .i64 b,.int .i64 ca,.int .i64 co] 46)=wx at HBX HBJ BX ⊢;generalize wr.heap.size=ga at *;have e0:=BX.cell 0 rfl;have e1:=BX.cell 1 rfl;have e2:=BX.cell 2 rfl;have e3:=BX.cell 3 rfl;have zga:=BX.lt;obtain⟨fa,fab⟩:=PA.out _ HBX.out;obtain⟨fb,fbb⟩:=PB.out _ HBX.out;clear d0 d1 d2 d3;refine wrp ?_
         repeat(go_big_quiet_step (fail))
         refine wpQuiet_nil ?_;intro xx;have HXX:=zh xx.far;generalize xx.w=w4 at HXX ⊢
         go_wp2
         go_roundw
         case rel=>exact⟨j+1,by omega,by go_num,by rw[HA1.out,HW.out],zh (HBJ.trans (HXX.mono HBJ.size))⟩
         case measure=>simp[intOf];omega
        ·obtain rfl:j=m:=by omega
         go_wp2
         go_ret2
         exact⟨kP (by rw[E.2,HM.out]) E.1.symm,HBR.out⟩
  ·have E:=zh (IE (ps:=ps) hch (by rw[<-HP.out,<-HN.out];exact hpn))
   have hmm: ¬(p:Int)=(n:Int):=by omega
   have hmm':((p:Int)==(n:Int))=false:=by simpa using hmm
   go_wp2
   go_ret2
   exact⟨kP E.2.symm E.1.symm,HB2.out⟩
 ·have E:=zh (PH (ps:=ps) hch)
  have hne:(chE N==0)=false:=by simpa using hch
  have CC:=zh (lZ A B N n m cA cB w2 HN.out HM.out hA hB (HNA.below HB2.out (Nat.le_refl _)));generalize chE N=q at *;go_wp2_with fail
  refine CC.mono ?_;rintro e w3 ⟨rfl,hb3⟩
  go_wp2
  go_ret2
  exact⟨kP E.2.symm E.1.symm,HB2.trans (hb3.mono HB2.size)⟩
theorem Sq:(Try.prog.info? 4).map (fun i=>(i.zero,i.size,i.bytes))=some (some (.bool false),1,1):=by kernel_rfl
theorem tF (n:Nat) (hn:n<=4096) (W:World):(Instr.makeSlice 93 (.int .i64 n) (.int .i64 n)).run Try.prog W=.ok (.slice (some ⟨W.heap.size,0,none⟩) n n) (W.alloc (.cells (Array.replicate n (.bool false)) 4)):=by
 obtain⟨i,hi,hz0,hz1,hz2⟩:=info_parts Sq;have hr:=run_make (P:=Try.prog) W 93 4 i _ Try.underlying93 hi hz0 .i64 .i64 n n (by omega) (by omega) (by rw[hz2];omega) (by omega);simp only[Int.toNat_natCast,hz1,Nat.mul_one]at hr;rw[hr];have e:madeCells (Value.bool false).cells n=Array.replicate n (.bool false):=by
  unfold madeCells;apply Array.ext
  ·simp
  ·intro j h1 h2
   simp[Value.cells,Nat.mod_one]
 rw[e]
def marks (n:Nat) (c:List Int) (k:Nat):List Value:=(List.range n).map fun (i:Nat)=>.bool (inK c k (i:Int))
theorem Dm (n:Nat) (c:List Int):marks n c 0=List.replicate n (.bool false):=by
 unfold marks;apply List.ext_getElem
 ·simp
 ·intro i h1 h2
  simp[inK]
theorem kQ {n:Nat} {c:List Int} {k i:Nat} (hi:i<n):(marks n c k)[i]?=some (.bool (inK c k i)):=by
 unfold marks;simp[hi]
theorem Dn {n:Nat} {c:List Int} {k:Nat} (hk:k<c.length) (h:cutAt n c k=true):marks n c (k+1)=(marks n c k).set (c.getD k 0).toNat (.bool true):=by
 have h1:=dS.1 h;apply List.ext_getElem
 ·simp[marks]
 ·intro i h2 h3
  rw[List.getElem_set];simp only[marks,List.getElem_map,List.getElem_range];rw[Be hk]
  by_cases he:(c.getD k 0).toNat=i
  ·rw[if_pos he]
   have:(i:Int)=c.getD k 0:=by omega
   rw[this];simp
  ·rw[if_neg he]
   have: ¬(i:Int)=c.getD k 0:=by omega
   rw[decide_eq_false this];simp
def LkJ (w:World) (A B:Option Addr) (n cA m cB g:Nat) (c:List Int) (k:Nat) (W:World):Prop:=Below w.heap.size w W/\Blk W w.heap.size 25 [.slice A n cA,.slice B m cB]/\Blk W g 4 (marks n c k)
theorem LkJ.below {w:World} {A B:Option Addr} {n cA m cB g:Nat} {c:List Int} {k:Nat} {W W':World} (h:LkJ w A B n cA m cB g c k W) (hb:Below W.heap.size W W'):LkJ w A B n cA m cB g c k W':=
 ⟨h.1.trans (hb.mono h.1.size),h.2.1.below hb h.2.1.lt,h.2.2.below hb h.2.2.lt⟩
theorem LkJ.mark {w:World} {A B:Option Addr} {n cA m cB g:Nat} {c:List Int} {k:Nat} {W:World} (h:LkJ w A B n cA m cB g c k W) (hg:w.heap.size<g) (hk:k<c.length) (hc:cutAt n c k=true):LkJ w A B n cA m cB g c (k+1) (W.setCell ⟨g,(c.getD k 0).toNat,none⟩ (.bool true)):=
 ⟨h.1.setCell (by simp;omega) _,h.2.1.setCell_ne (by simp;omega) _,by rw[Dn hk hc];exact h.2.2.setCell _ _⟩
theorem wW:(Try.prog.info? 150).map (fun i=>(i.zero,i.size,i.bytes))=some (some (.agg #[.int .i64 0,.bool false]),2,16):=by kernel_rfl
def stC (s:Int×Bool):List Value:=[.int .i64 s.1,.bool s.2]
theorem ic (s:Int×Bool):(stC s).length=2:=rfl
def dcS (x:Int):Int×Bool:=if x<0 then (-1,false)else (x/2,decide (x%2=1))
theorem tH (n:Nat) (hn:n<=2048) (W:World):(Instr.makeSlice 104 (.int .i64 n) (.int .i64 n)).run Try.prog W=.ok (.slice (some ⟨W.heap.size,0,none⟩) n n) (W.alloc (.cells (flat stC (List.replicate n ((0:Int),false))).toArray 150)):=by
 obtain⟨i,hi,hz0,hz1,hz2⟩:=info_parts wW;have hr:=run_make (P:=Try.prog) W 104 150 i _ Try.underlying104 hi hz0 .i64 .i64 n n (by omega) (by omega) (by rw[hz2];omega) (by omega);simp only[Int.toNat_natCast,hz1]at hr;rw[hr];have e1:madeCells (Value.agg #[.int .i64 0,.bool false]).cells (n*2)=(flat stC (List.replicate n ((0:Int),false))).toArray:=by
  unfold madeCells;apply Array.ext
  ·simp[iF (f:=stC) (s:=2) ic]
  ·intro j h1 h2
   have hj:j<n*2:=by simpa using h1
   have h3:=fD (f:=stC) (s:=2) ic (List.replicate n ((0:Int),false)) (j/2) (j%2) (0,false) (by rw[List.getElem?_replicate,if_pos (by omega)]) (by omega);rw[show j/2*2+j%2=j by omega]at h3;have h4:(flat stC (List.replicate n ((0:Int),false))).toArray[j]=(flat stC (List.replicate n ((0:Int),false)))[j]'(by simpa using h2):=by simp
   rw[h4];have h5:(flat stC (List.replicate n ((0:Int),false)))[j]?=some ((flat stC (List.replicate n ((0:Int),false)))[j]'(by simpa using h2)):=List.getElem?_eq_getElem _;rw[h3]at h5;have h6:j%2=0∨j%2=1:=by omega
   rcases h6 with h|h<;>(rw[h]at h5;simp[stC]at h5;rw[<-h5];simp[Value.cells,h])
 rw[e1]
section
variable {W V:World} {gc gs b n nq cq B:Nat} {cm:List (Int×Bool)} {sn:List Bool} {Aq:Option Addr} {xs:List Int} {cv:List Value} {w:World}
structure WyM (w:World) (gc gs:Nat) (cv:List Value) (cm:List (Int×Bool)) (sn:List Bool) (Aq:Option Addr) (nq cq:Nat) (xs:List Int) (W:World):Prop where
 c:Blk W gc 150 (flat stC cm)
 s:Blk W gs 4 (sn.map .bool)
 q:gV W w.heap.size Aq nq cq xs
 x:Blk W w.heap.size 25 cv
 gc:w.heap.size<=gc
 gs:w.heap.size<=gs
 bel:Below w.heap.size w W
theorem WyM.below (h:WyM w gc gs cv cm sn Aq nq cq xs W) (hb:Below W.heap.size W V):WyM w gc gs cv cm sn Aq nq cq xs V:=
 ⟨h.c.below hb h.c.lt,h.s.below hb h.s.lt,h.q.below hb,h.x.below hb h.x.lt,h.gc,h.gs,h.bel.trans (hb.mono h.bel.size)⟩
theorem WyM.cell (h:WyM w gc gs cv cm sn Aq nq cq xs W) {v:Nat} (hv:v<cm.length):W.cell? ⟨gc,v*2,none⟩=some (.int .i64 (cm.getD v (0,false)).1)/\W.cell? ⟨gc,v*2+1,none⟩=some (.bool (cm.getD v (0,false)).2):=by
 have hg:=bL cm v (0,false) hv;exact⟨h.c.cell (v*2) (fD (f:=stC) (s:=2) ic cm v 0 _ hg (by omega)),h.c.cell (v*2+1) (fD (f:=stC) (s:=2) ic cm v 1 _ hg (by omega))⟩
theorem WyM.seenAt (h:WyM w gc gs cv cm sn Aq nq cq xs W) {v:Nat} (hv:v<sn.length):W.cell? ⟨gs,v,none⟩=some (.bool (sn.getD v false)):=h.s.cell v (by rw[List.getElem?_map,bL sn v false hv];rfl)
theorem WyM.see (h:WyM w gc gs cv cm sn Aq nq cq xs W) (v:Nat):WyM w gc gs cv cm (sn.set v true) Aq nq cq xs (W.setCell ⟨gs,v,none⟩ (.bool true)):=
 ⟨h.c.setCell_ne (p:=⟨gs,v,none⟩) (fun e=>ae h.c h.s (by decide) e.symm) _,by have:=h.s.setCell v (.bool true);rw[List.map_set];exact this,h.q.set (p:=⟨gs,v,none⟩) (h.q.no h.s (by decide)) _,h.x.setCell_ne (p:=⟨gs,v,none⟩) (fun e=>ae h.x h.s (by decide) e.symm) _,h.gc,h.gs,h.bel.setCell (p:=⟨gs,v,none⟩) h.gs _⟩
theorem WyM.come (h:WyM w gc gs cv cm sn Aq nq cq xs W) {v:Nat} (hv:v<cm.length) (s:Int×Bool):WyM w gc gs cv (cm.set v s) sn Aq nq cq xs ((W.setCell ⟨gc,v*2,none⟩ (.int .i64 s.1)).setCell ⟨gc,v*2+1,none⟩ (.bool s.2)):=by
 have hg:=bL cm v (0,false) hv;have e1:=kL (f:=stC) (s:=2) ic 0 (.int .i64 s.1) (by omega) cm v (s.1,(cm.getD v (0,false)).2) _ hg rfl;have hg2:(cm.set v (s.1,(cm.getD v (0,false)).2))[v]?=some (s.1,(cm.getD v (0,false)).2):=List.getElem?_set_self hv;have e2:=kL (f:=stC) (s:=2) ic 1 (.bool s.2) (by omega) (cm.set v (s.1,(cm.getD v (0,false)).2)) v s _ hg2 rfl;rw[List.set_set]at e2;have hc:=(h.c.setCell (v*2) (.int .i64 s.1)).setCell (v*2+1) (.bool s.2);rw[Nat.add_zero]at e1;rw[e1,e2]at hc;exact⟨hc,(h.s.setCell_ne (p:=⟨gc,v*2,none⟩) (fun e=>ae h.s h.c (by decide) e.symm) _).setCell_ne (p:=⟨gc,v*2+1,none⟩) (fun e=>ae h.s h.c (by decide) e.symm) _,
  (h.q.set (p:=⟨gc,v*2,none⟩) (h.q.no h.c (by decide)) _).set (p:=⟨gc,v*2+1,none⟩) (h.q.no h.c (by decide)) _,
  (h.x.setCell_ne (p:=⟨gc,v*2,none⟩) (fun e=>ae h.x h.c (by decide) e.symm) _).setCell_ne (p:=⟨gc,v*2+1,none⟩) (fun e=>ae h.x h.c (by decide) e.symm) _,h.gc,h.gs,(h.bel.setCell (p:=⟨gc,v*2,none⟩) h.gc _).setCell (p:=⟨gc,v*2+1,none⟩) h.gc _⟩
theorem WyM.grow {A':Option Addr} {n' c':Nat} {ys:List Int} (h:WyM w gc gs cv cm sn Aq nq cq xs W) (hq:gV V w.heap.size A' n' c' ys) (hg:W.grownBy V (Value.slice Aq nq cq).ownBlock):WyM w gc gs cv cm sn A' n' c' ys V:=by
 have hne: ∀{g t:Nat} {cs:List Value},Blk W g t cs->t≠3->some g≠(Value.slice Aq nq cq).ownBlock:=fun hb ht e=>h.q.no hb ht ((bE (n:=nq) (cap:=cq)).2 e.symm)
 exact⟨h.c.grown hg (hne h.c (by decide)),h.s.grown hg (hne h.s (by decide)),hq,h.x.grown hg (hne h.x (by decide)),h.gc,h.gs,h.bel.grown hg h.bel.size (fun k hk=>(h.q.lt k ((bE (n:=nq) (cap:=cq)).2 hk)).1)⟩
structure WyG (n:Nat) (cm:List (Int×Bool)) (sn:List Bool) (S:List Nat) (vi:List Int):Prop where
 cl:cm.length=n
 sl:sn.length=n
 vl:vi.length=n
 cm: ∀v,v∈S->cm.getD v (0,false)=dcS (vi.getD v 0)
 sn: ∀v,v<n->sn.getD v false=decide (v∈S)
theorem WyG.start (n:Nat):WyG n (List.replicate n (0,false)) (List.replicate n false) [] (List.replicate n 0):=
 ⟨by simp,by simp,by simp,fun v hv=>by simp at hv,fun v hv=>by simp[zg,hv]⟩
theorem WyG.add {S:List Nat} {vi:List Int} (h:WyG n cm sn S vi) {v:Nat} (hv:v<n) (hS:v ∉ S) (x:Int) (s:Int×Bool) (hs:s=dcS x):WyG n (cm.set v s) (sn.set v true) (v::S) (vi.set v x):=by
 refine⟨by simp[h.cl],by simp[h.sl],by simp[h.vl],fun u hu=>?_,fun u hu=>?_⟩
 ·have e1:(cm.set v s).getD u (0,false)=if u=v then s else cm.getD u (0,false):=by
   rw[zg,List.getElem?_set,zg]
   by_cases e:v=u
   ·subst e;simp[h.cl,hv]
   ·rw[if_neg e,if_neg (fun e2=>e e2.symm)]
  rw[e1,iX _ _ _ _ (by rw[h.vl];exact hv)]
  by_cases e:u=v
  ·rw[if_pos e,if_pos e,hs]
  ·rw[if_neg e,if_neg e]
   exact h.cm u (by rcases List.mem_cons.1 hu with h1|h1;exact absurd h1 e;exact h1)
 ·have e1:(sn.set v true).getD u false=if u=v then true else sn.getD u false:=by
   rw[zg,List.getElem?_set,zg]
   by_cases e:v=u
   ·subst e;simp[h.sl,hv]
   ·rw[if_neg e,if_neg (fun e2=>e e2.symm)]
  rw[e1]
  by_cases e:u=v
  ·subst e;simp
  ·rw[if_neg e,h.sn u hu]
   simp[e]
end
end Go.Proofs.Ytmebpglkeedaoaa
namespace Go.Proofs.Ytmebpglkeedaoaa
namespace Dp
structure ja where
 fr:Int
 «to»:Int
 use:Int
 deriving Inhabited
structure Car where
 cap:Int
 inn:Int
 out:Int
 start:Int
 fin:Int
 trips:List ja
 deriving Inhabited
structure Site where
 lim:List Int
 exp:List Int
 buy:List Int
 sell:List Int
structure Tab where
 inn:List (List Int)
 out:List (List Int)
def ji (n:Nat) (p:Nat->Bool):Bool:=(List.range n).all p
theorem dD {n:Nat} {p:Nat->Bool}:ji n p=true↔ ∀j,j<n->p j=true:=by simp[ji,List.all_eq_true]
theorem jZ {n:Nat} {p:Nat->Bool} (k:Nat) (hk:k<n) (h:p k=false):ji n p=false:=by
 cases hb:ji n p
 ·rfl
 ·rw[dD.1 hb k hk]at h;cases h
def backAt (l:List ja):Nat->Int
 |0=>0
 |k+1=>(l.getD k default).to
def eU (cap:Int) (n:Nat) (l:List ja) (k:Nat):Bool:=
 decide (backAt l k<=(l.getD k default).fr/\(l.getD k default).fr<(l.getD k default).to/\(l.getD k default).to<=n/\(0<=(l.getD k default).use/\(l.getD k default).use<=cap))
def dO (c:Car):Bool:=decide ((1<=c.cap/\c.cap<=1048576)/\(0<=c.inn/\c.inn<=1048576)/\(0<=c.out/\c.out<=1048576)/\(0<=c.start/\c.start<=c.cap)/\(0<=c.fin/\c.fin<=c.cap)/\c.trips.length<=4)
def dE (n:Nat) (c:Car):Bool:=dO c&&ji c.trips.length (eU c.cap n c.trips)
def fU (S:Site) (t:Nat):Bool:=decide ((0<=S.lim.getD t 0/\S.lim.getD t 0<=1048576)/\(0<=S.exp.getD t 0/\S.exp.getD t 0<=1048576)/\(0<=S.buy.getD t 0/\S.buy.getD t 0<=1048576)/\(0<=S.sell.getD t 0/\S.sell.getD t 0<=S.buy.getD t 0))
def bO (S:Site):Bool:=decide ((1<=S.lim.length/\S.lim.length<=48)/\S.exp.length=S.lim.length/\S.buy.length=S.lim.length/\S.sell.length=S.lim.length)
def oH (S:Site):Bool:=ji S.lim.length (fU S)
def tJ (S:Site) (cs:List Car):Bool:=ji cs.length (fun i=>dE S.lim.length (cs.getD i default))
def stE (S:Site) (cs:List Car):Int:=if 8<cs.length then 6 else if bO S&&(oH S&&tJ S cs)then 0 else 2
theorem BG {S:Site} {cs:List Car} (h:8<cs.length):stE S cs=6:=by simp[stE,h]
theorem Dq {S:Site} {cs:List Car} (h: ¬8<cs.length) (h2:(bO S&&(oH S&&tJ S cs))=false):stE S cs=2:=by unfold stE;rw[if_neg h,h2];rfl
theorem gW {S:Site} {cs:List Car} (h: ¬8<cs.length) (h2:bO S=false):stE S cs=2:=Dq h (by simp[h2])
theorem jK {S:Site} {cs:List Car} (h: ¬8<cs.length) (t:Nat) (ht:t<S.lim.length) (h2:fU S t=false):stE S cs=2:=Dq h (by simp[oH,jZ t ht h2])
theorem E5 {S:Site} {cs:List Car} (h: ¬8<cs.length) (i:Nat) (hi:i<cs.length) (h2:dE S.lim.length (cs.getD i default)=false):stE S cs=2:=Dq h (by
 have:tJ S cs=false:=jZ i hi h2;simp[this])
theorem Dr {S:Site} {cs:List Car} (h: ¬8<cs.length) (h1:bO S=true) (h2: ∀t,t<S.lim.length->fU S t=true) (h3: ∀i,i<cs.length->dE S.lim.length (cs.getD i default)=true):stE S cs=0:=by
 have a:oH S=true:=dD.2 h2;have b:tJ S cs=true:=dD.2 h3;unfold stE;rw[if_neg h,h1,a,b];rfl
theorem aW {S:Site} {cs:List Car} (h:stE S cs=0):cs.length<=8/\bO S=true/\(∀t,t<S.lim.length->fU S t=true)/\(∀i,i<cs.length->dE S.lim.length (cs.getD i default)=true):=by
 unfold stE at h
 by_cases h1:8<cs.length
 ·rw[if_pos h1]at h;cases h
 ·rw[if_neg h1]at h
  cases hb:(bO S&&(oH S&&tJ S cs))
  ·rw[hb]at h;cases h
  ·simp only[Bool.and_eq_true]at hb
   exact⟨by omega,hb.1,dD.1 hb.2.1,dD.1 hb.2.2⟩
theorem eO {n:Nat} {c:Car} (h:dO c=false):dE n c=false:=by simp[dE,h]
theorem tK {n:Nat} {c:Car} (k:Nat) (hk:k<c.trips.length) (h:eU c.cap n c.trips k=false):dE n c=false:=by simp[dE,jZ k hk h]
theorem BH {n:Nat} {c:Car} (h:dO c=true) (h2: ∀k,k<c.trips.length->eU c.cap n c.trips k=true):dE n c=true:=by
 have:ji c.trips.length (eU c.cap n c.trips)=true:=dD.2 h2;simp[dE,h,this]
def iM (l:List ja) (k:Int):Nat->Int
 |0=>0
 |j+1=>if (l.getD j default).fr=k then (l.getD j default).use else iM l k j
def fO (l:List ja) (k:Int):Nat->Bool
 |0=>false
 |j+1=>fO l k j||decide ((l.getD j default).fr<=k/\k<(l.getD j default).to)
def dz (c:Car) (k:Nat):Int:=iM c.trips k c.trips.length
def dB (c:Car) (k:Nat):Bool:=fO c.trips k c.trips.length
def lev (c:Car) (x y:List Int):Nat->Int
 |0=>c.start
 |k+1=>lev c x y k+(x.getD k 0-y.getD k 0-dz c k)
def drP (T:Tab) (k:Nat):Nat->Int
 |0=>0
 |i+1=>drP T k i+((T.inn.getD i []).getD k 0-(T.out.getD i []).getD k 0)
def Jl (c:Car) (x y:Int) (aw:Bool):Bool:=decide ((0<=x/\x<=c.inn)/\(0<=y/\y<=c.out)/\(aw=true->x+y=0))
def eZ (cs:List Car) (T:Tab) (k i:Nat):Bool:=Jl (cs.getD i default) ((T.inn.getD i []).getD k 0) ((T.out.getD i []).getD k 0) (dB (cs.getD i default) k)
def fE (S:Site) (cs:List Car) (T:Tab) (k:Nat):Int:=
 if ji cs.length (eZ cs T k)then (if drP T k T.inn.length<=S.lim.getD k 0/\ -(S.exp.getD k 0)<=drP T k T.inn.length then 0 else 17)else 3
def iy (S:Site) (cs:List Car) (T:Tab):Nat->Int
 |0=>0
 |k+1=>if iy S cs T k=0 then fE S cs T k else iy S cs T k
def least (c:Car) (y:List Int) (n k:Nat):Int:=if k<n then max (dz c k) (y.getD k 0)else c.fin
def jk (c:Car) (x y:List Int) (n k:Nat):Bool:=decide (least c y n k<=lev c x y k/\lev c x y k<=c.cap)
def BI (cs:List Car) (T:Tab) (n i:Nat):Bool:=ji (n+1) (jk (cs.getD i default) (T.inn.getD i []) (T.out.getD i []) n)
def fQ (m n:Nat) (l:List (List Int)):Bool:=decide (l.length=m)&&ji l.length (fun i=>decide ((l.getD i []).length=n))
def plE (S:Site) (cs:List Car) (T:Tab):Int:=
 if stE S cs=0 then (if fQ cs.length S.lim.length T.inn&&fQ cs.length S.lim.length T.out then
  (if iy S cs T S.lim.length=0 then (if ji cs.length (BI cs T S.lim.length)then 0 else 19)else iy S cs T S.lim.length)else 20)else stE S cs
end Dp
end Go.Proofs.Ytmebpglkeedaoaa
namespace Go.Proofs.Ytmebpglkeedaoaa
open Go.RowKit Dp
def fP (w:World) (A:Option Addr) (l:List ja):Prop:=
 ∀i,i<l.length-> ∃ad,A=some ad/\ad.block<w.heap.size/\w.cell? (ad.add (i*3))=some (.int .i64 (l.getD i default).fr)/\w.cell? ⟨(ad.add (i*3)).block,(ad.add (i*3)).off+1,none⟩=some (.int .i64 (l.getD i default).to)/\w.cell? ⟨(ad.add (i*3)).block,(ad.add (i*3)).off+2,none⟩=some (.int .i64 (l.getD i default).use)
theorem fP.below {w w1:World} {A:Option Addr} {l:List ja} (h:fP w A l) {B:Nat} (hb:Below B w w1) (hB:w.heap.size<=B):fP w1 A l:=by
 intro i hi;obtain⟨ad,e,hlt,c0,c1,c2⟩:=h i hi;have hbl:(ad.add (i*3)).block<B:=by rw[block_add];omega
 exact⟨ad,e,Nat.lt_of_lt_of_le hlt hb.size,(hb.cell hbl).trans c0,(hb.cell (p:=⟨_,_,none⟩) hbl).trans c1,(hb.cell (p:=⟨_,_,none⟩) hbl).trans c2⟩
def df (w:World) (A:Option Addr) (l:List Car):Prop:=
 ∀i,i<l.length-> ∃ad,A=some ad/\ad.block<w.heap.size/\w.cell? (ad.add (i*6))=some (.int .i64 (l.getD i default).cap)/\w.cell? ⟨(ad.add (i*6)).block,(ad.add (i*6)).off+1,none⟩=some (.int .i64 (l.getD i default).inn)/\w.cell? ⟨(ad.add (i*6)).block,(ad.add (i*6)).off+2,none⟩=some (.int .i64 (l.getD i default).out)/\w.cell? ⟨(ad.add (i*6)).block,(ad.add (i*6)).off+3,none⟩=some (.int .i64 (l.getD i default).start)/\w.cell? ⟨(ad.add (i*6)).block,(ad.add (i*6)).off+4,none⟩=some (.int .i64 (l.getD i default).fin)/\
  ∃T cT,w.cell? ⟨(ad.add (i*6)).block,(ad.add (i*6)).off+5,none⟩=some (.slice T (l.getD i default).trips.length cT)/\((l.getD i default).trips.length<=cT/\cT<=9223372036854775807)/\fP w T (l.getD i default).trips
theorem df.below {w w1:World} {A:Option Addr} {l:List Car} (h:df w A l) {B:Nat} (hb:Below B w w1) (hB:w.heap.size<=B):df w1 A l:=by
 intro i hi;obtain⟨ad,e,hlt,c0,c1,c2,c3,c4,T,cT,c5,r,ht⟩:=h i hi;have hbl:(ad.add (i*6)).block<B:=by rw[block_add];omega
 exact⟨ad,e,Nat.lt_of_lt_of_le hlt hb.size,(hb.cell hbl).trans c0,(hb.cell (p:=⟨_,_,none⟩) hbl).trans c1,(hb.cell (p:=⟨_,_,none⟩) hbl).trans c2,(hb.cell (p:=⟨_,_,none⟩) hbl).trans c3,(hb.cell (p:=⟨_,_,none⟩) hbl).trans c4,T,cT,(hb.cell (p:=⟨_,_,none⟩) hbl).trans c5,r,ht.below hb hB⟩
def iA (w:World) (A:Option Addr) (l:List (List Int)):Prop:=
 ∀i,i<l.length-> ∃ad,A=some ad/\ad.block<w.heap.size/\ ∃T cT,w.cell? (ad.add i)=some (.slice T (l.getD i []).length cT)/\((l.getD i []).length<=cT/\cT<=9223372036854775807)/\aH w T (l.getD i [])
theorem iA.below {w w1:World} {A:Option Addr} {l:List (List Int)} (h:iA w A l) {B:Nat} (hb:Below B w w1) (hB:w.heap.size<=B):iA w1 A l:=by
 intro i hi;obtain⟨ad,e,hlt,T,cT,c0,r,ht⟩:=h i hi;exact⟨ad,e,Nat.lt_of_lt_of_le hlt hb.size,T,cT,(hb.cell (by rw[block_add];omega)).trans c0,r,ht.below hb hB⟩
def bH (w:World) (A B C D:Option Addr) (S:Site):Prop:=aH w A S.lim/\aH w B S.exp/\aH w C S.buy/\aH w D S.sell
theorem bH.below {w w1:World} {A B C D:Option Addr} {S:Site} (h:bH w A B C D S) {b:Nat} (hb:Below b w w1) (hB:w.heap.size<=b):bH w1 A B C D S:=
 ⟨h.1.below hb hB,h.2.1.below hb hB,h.2.2.1.below hb hB,h.2.2.2.below hb hB⟩
def eu (w:World) (A B:Option Addr) (T:Tab):Prop:=iA w A T.inn/\iA w B T.out
theorem eu.below {w w1:World} {A B:Option Addr} {T:Tab} (h:eu w A B T) {b:Nat} (hb:Below b w w1) (hB:w.heap.size<=b):eu w1 A B T:=⟨h.1.below hb hB,h.2.below hb hB⟩
theorem Jm {w:World} {v:Value} (h:v=.slice none 0 0∨ ∃a len cap,v=.slice (some a) len cap/\len<=cap/\cap<=maxLen/\
 ∀i,i<len-> ∃cs,cs.length=3/\(∀j u,cs[j]?=some u->w.cell? ((a.add (i*3)).add j)=some u)/\Rd w (.i .i64 (.i .i64 (.i .i64 .nil))) cs):
 ∃(A:Option Addr) (l:List ja) (cap:Nat),v=.slice A l.length cap/\l.length<=cap/\cap<=9223372036854775807/\fP w A l:=by
 rcases h with rfl|⟨a,len,cap,rfl,hl,hm,hi⟩
 ·exact⟨none,[],0,rfl,Nat.le_refl _,by omega,fun i hi=>by simp at hi⟩
 ·obtain⟨bs,hbl,hbs⟩:=lW (α:=ja) (n:=len) (Q:=fun i x=>w.cell? ((a.add (i*3)).add 0)=some (.int .i64 x.fr)/\w.cell? ((a.add (i*3)).add 1)=some (.int .i64 x.to)/\w.cell? ((a.add (i*3)).add 2)=some (.int .i64 x.use)) (fun i hil=>by
   obtain⟨cs,_,hc,n0,_,rfl,_,n1,_,rfl,_,n2,_,rfl,_,rfl⟩:=hi i hil;exact⟨⟨n0,n1,n2⟩,hc 0 _ rfl,hc 1 _ rfl,hc 2 _ rfl⟩)
  refine⟨some a,bs,cap,by rw[hbl],by omega,by unfold maxLen at hm;omega,fun i hi=>?_⟩;have hg:bs[i]?=some (bs.getD i default):=by rw[zg,List.getElem?_eq_getElem hi];rfl
  obtain⟨h0,h1,h2⟩:=hbs i _ hg;rw[add_zero']at h0;have hb:=World.block_lt_of_cell? _ _ h0;rw[block_add]at hb;exact⟨a,rfl,hb,h0,h1,h2⟩
theorem MS {w:World} {v:Value} (h:v=.slice none 0 0∨ ∃a len cap,v=.slice (some a) len cap/\len<=cap/\cap<=maxLen/\
 ∀i,i<len-> ∃cs,cs.length=6/\(∀j u,cs[j]?=some u->w.cell? ((a.add (i*6)).add j)=some u)/\Rd w (.i .i64 (.i .i64 (.i .i64 (.i .i64 (.i .i64 (.s 3 (.i .i64 (.i .i64 (.i .i64 .nil))) .nil)))))) cs):
 ∃(A:Option Addr) (l:List Car) (cap:Nat),v=.slice A l.length cap/\l.length<=cap/\cap<=9223372036854775807/\df w A l:=by
 rcases h with rfl|⟨a,len,cap,rfl,hl,hm,hi⟩
 ·exact⟨none,[],0,rfl,Nat.le_refl _,by omega,fun i hi=>by simp at hi⟩
 ·obtain⟨bs,hbl,hbs⟩:=lW (α:=Car) (n:=len) (Q:=fun i x=>(w.cell? ((a.add (i*6)).add 0)=some (.int .i64 x.cap)/\w.cell? ((a.add (i*6)).add 1)=some (.int .i64 x.inn)/\w.cell? ((a.add (i*6)).add 2)=some (.int .i64 x.out)/\w.cell? ((a.add (i*6)).add 3)=some (.int .i64 x.start)/\w.cell? ((a.add (i*6)).add 4)=some (.int .i64 x.fin))/\
   ∃T cT,w.cell? ((a.add (i*6)).add 5)=some (.slice T x.trips.length cT)/\(x.trips.length<=cT/\cT<=9223372036854775807)/\fP w T x.trips) (fun i hil=>by
 obtain⟨cs,_,hc,n0,_,rfl,_,n1,_,rfl,_,n2,_,rfl,_,n3,_,rfl,_,n4,_,rfl,_,v5,_,rfl,rfl,hs⟩:=hi i hil;obtain⟨T,l,cT,rfl,h1,h2,h3⟩:=Jm hs;exact⟨⟨n0,n1,n2,n3,n4,l⟩,⟨hc 0 _ rfl,hc 1 _ rfl,hc 2 _ rfl,hc 3 _ rfl,hc 4 _ rfl⟩,T,cT,hc 5 _ rfl,⟨h1,h2⟩,h3⟩)
  refine⟨some a,bs,cap,by rw[hbl],by omega,by unfold maxLen at hm;omega,fun i hi=>?_⟩;have hg:bs[i]?=some (bs.getD i default):=by rw[zg,List.getElem?_eq_getElem hi];rfl
  obtain⟨⟨h0,h1,h2,h3,h4⟩,T,cT,h5,r,ht⟩:=hbs i _ hg;rw[add_zero']at h0;have hb:=World.block_lt_of_cell? _ _ h0;rw[block_add]at hb;exact⟨a,rfl,hb,h0,h1,h2,h3,h4,T,cT,h5,r,ht⟩
def mnP (xs:List Int):Nat->Int
 |0=>xs.getD 0 0
 |k+1=>min (mnP xs k) (xs.getD k 0)
def mxP (xs:List Int):Nat->Int
 |0=>xs.getD 0 0
 |k+1=>max (mxP xs k) (xs.getD k 0)
theorem Sr (A:Option Addr) (xs:List Int) (n cap:Nat) (w:World) (hn:n=xs.length) (h1:1<=n) (hcap:n<=cap/\cap<=9223372036854775807) (hA:aH w A xs):
 Calls Try.prog 79 #[.slice A n cap] w fun e w'=>e=.returned (.int .i64 (mnP xs n))/\w=w':=by
 have HN:=zh hn;have HA:=zh hA;clear hn hA;obtain⟨ad,rfl,_,c0⟩:=HA.out 0 (by rw[<-HN.out];omega);rw[add_zero']at c0;have HX:=zh (show mnP xs 1=xs.getD 0 0 from by simp[mnP]);generalize xs.getD 0 0=x0 at *;have h3:(0:Int)<(n:Int):=by omega
 have h4: ¬(n:Int)<1:=by omega
 go_enter Try.func79,Try.ntmps79;go_wp2_with fail
 clear c0
 go_loop [3,4] (fun m i=> ∃k:Nat,1<=k/\k<=n/\i=.int .i64 k/\m=.int .i64 (mnP xs k)) (fun _ i=>n-(intOf i).toNat)
 case atStart=>exact⟨1,Nat.le_refl _,h1,rfl,by rw[HX.out]⟩
 case round=>
  obtain⟨k,hk1,hk,rfl,rfl⟩:=hrel
  by_cases hlt:k<n
  ·obtain⟨ad',e',_,hc⟩:=HA.out k (by rw[<-HN.out];exact hlt)
   cases e'
   have HS:=zh (show mnP xs (k+1)=min (mnP xs k) (xs.getD k 0)from rfl);generalize xs.getD k 0=x at *;generalize mnP xs k=y at *;have hm:=fun ts t W=>sH y x ts t W
   generalize min y x=z at *;have hki:(k:Int)<(n:Int):=by omega
   go_wp2_with fail
   go_round
   case rel=>exact⟨k+1,by omega,by omega,by go_num,by rw[HS.out]⟩
   case measure=>simp[intOf];omega
  ·obtain rfl:k=n:=by omega
   go_wp2_with fail
   go_ret;exact⟨rfl,rfl⟩
theorem PZ (A:Option Addr) (xs:List Int) (n cap:Nat) (w:World) (hn:n=xs.length) (h1:1<=n) (hcap:n<=cap/\cap<=9223372036854775807) (hA:aH w A xs):
 Calls Try.prog 80 #[.slice A n cap] w fun e w'=>e=.returned (.int .i64 (mxP xs n))/\w=w':=by
 have HN:=zh hn;have HA:=zh hA;clear hn hA;obtain⟨ad,rfl,_,c0⟩:=HA.out 0 (by rw[<-HN.out];omega);rw[add_zero']at c0;have HX:=zh (show mxP xs 1=xs.getD 0 0 from by simp[mxP]);generalize xs.getD 0 0=x0 at *;have h3:(0:Int)<(n:Int):=by omega
 have h4: ¬(n:Int)<1:=by omega
 go_enter Try.func80,Try.ntmps80;go_wp2_with fail
 clear c0
 go_loop [3,4] (fun m i=> ∃k:Nat,1<=k/\k<=n/\i=.int .i64 k/\m=.int .i64 (mxP xs k)) (fun _ i=>n-(intOf i).toNat)
 case atStart=>exact⟨1,Nat.le_refl _,h1,rfl,by rw[HX.out]⟩
 case round=>
  obtain⟨k,hk1,hk,rfl,rfl⟩:=hrel
  by_cases hlt:k<n
  ·obtain⟨ad',e',_,hc⟩:=HA.out k (by rw[<-HN.out];exact hlt)
   cases e'
   have HS:=zh (show mxP xs (k+1)=max (mxP xs k) (xs.getD k 0)from rfl);generalize xs.getD k 0=x at *;generalize mxP xs k=y at *;have hm:=fun ts t W=>lY y x ts t W
   generalize max y x=z at *;have hki:(k:Int)<(n:Int):=by omega
   go_wp2_with fail
   go_round
   case rel=>exact⟨k+1,by omega,by omega,by go_num,by rw[HS.out]⟩
   case measure=>simp[intOf];omega
  ·obtain rfl:k=n:=by omega
   go_wp2_with fail
   go_ret;exact⟨rfl,rfl⟩
theorem Dt (most:Int) (A:Option Addr) (xs:List Int) (n cap:Nat) (w:World) (hn:n=xs.length) (h1:1<=n) (hcap:n<=cap/\cap<=9223372036854775807) (hA:aH w A xs):
 Calls Try.prog 78 #[.int .i64 most,.slice A n cap] w fun e w'=>e=.returned (.bool (decide (0<=mnP xs n/\mxP xs n<=most)))/\w=w':=by
 have c1:=Sr A xs n cap w hn h1 hcap hA;have c2:=PZ A xs n cap w hn h1 hcap hA;clear hn hA hcap;generalize mnP xs n=a at *;generalize mxP xs n=b at *
 by_cases h0:0<=a
 ·by_cases h2:b<=most
  ·have e0:decide (0<=a/\b<=most)=true:=by simp[h0,h2]
   rw[e0];go_enter Try.func78,Try.ntmps78;go_wp2_with (first|(go_at_call 79;refine c1.mono ?_;rintro e w1 ⟨rfl,rfl⟩)|(go_at_call 80;refine c2.mono ?_;rintro e w1 ⟨rfl,rfl⟩))
   go_ret;exact⟨rfl,rfl⟩
  ·have e0:decide (0<=a/\b<=most)=false:=by simp[h2]
   rw[e0];go_enter Try.func78,Try.ntmps78;go_wp2_with (first|(go_at_call 79;refine c1.mono ?_;rintro e w1 ⟨rfl,rfl⟩)|(go_at_call 80;refine c2.mono ?_;rintro e w1 ⟨rfl,rfl⟩))
   go_ret;exact⟨bM (decide_eq_false (by omega)),rfl⟩
 ·have e0:decide (0<=a/\b<=most)=false:=by simp[h0]
  rw[e0];go_enter Try.func78,Try.ntmps78;go_wp2_with (first|(go_at_call 79;refine c1.mono ?_;rintro e w1 ⟨rfl,rfl⟩)|(go_at_call 80;refine c2.mono ?_;rintro e w1 ⟨rfl,rfl⟩))
  go_ret;exact⟨rfl,rfl⟩
theorem tL {w:World} {g:Nat} {t:TypeId} {xs:List Int} (h:Blk w g t (xs.map (.int .i64))):aH w (some ⟨g,0,none⟩) xs:=by
 intro i hi;refine⟨_,rfl,h.lt,?_⟩;have e:(⟨g,0,none⟩:Addr).add i=⟨g,i,none⟩:=by unfold Addr.add;split<;>simp_all
 rw[e];refine h.cell i ?_;rw[List.getElem?_map,List.getElem?_eq_getElem hi,zg,List.getElem?_eq_getElem hi];rfl
theorem lI {most a:Int} {t:TypeId} (g:Nat) (w:World) (b:Bool) (hb:b=decide (0<=a/\a<=most)) (h:Blk w g t [.int .i64 a]):
 Calls Try.prog 78 #[.int .i64 most,.slice (some ⟨g,0,none⟩) 1 1] w fun e w'=>e=.returned (.bool b)/\w=w':=by
 refine(Dt most _ [a] 1 1 w rfl (by omega) ⟨by omega,by omega⟩ (tL (xs:=[a]) h)).mono ?_;rintro e w' ⟨rfl,hw⟩;refine⟨bM ?_,hw⟩;rw[hb];simp[mnP,mxP]
theorem mW {most a b:Int} {t:TypeId} (g:Nat) (w:World) (v:Bool) (hb:v=decide ((0<=a/\a<=most)/\(0<=b/\b<=most))) (h:Blk w g t [.int .i64 a,.int .i64 b]):
 Calls Try.prog 78 #[.int .i64 most,.slice (some ⟨g,0,none⟩) 2 2] w fun e w'=>e=.returned (.bool v)/\w=w':=by
 refine(Dt most _ [a,b] 2 2 w rfl (by omega) ⟨by omega,by omega⟩ (tL (xs:=[a,b]) h)).mono ?_;rintro e w' ⟨rfl,hw⟩;refine⟨bM ?_,hw⟩;rw[hb];refine decide_eq_decide.2 ?_;simp[mnP,mxP];omega
theorem E8 {most a b c:Int} {t:TypeId} (g:Nat) (w:World) (v:Bool) (hb:v=decide ((0<=a/\a<=most)/\(0<=b/\b<=most)/\(0<=c/\c<=most))) (h:Blk w g t [.int .i64 a,.int .i64 b,.int .i64 c]):
 Calls Try.prog 78 #[.int .i64 most,.slice (some ⟨g,0,none⟩) 3 3] w fun e w'=>e=.returned (.bool v)/\w=w':=by
 refine(Dt most _ [a,b,c] 3 3 w rfl (by omega) ⟨by omega,by omega⟩ (tL (xs:=[a,b,c]) h)).mono ?_;rintro e w' ⟨rfl,hw⟩;refine⟨bM ?_,hw⟩;rw[hb];refine decide_eq_decide.2 ?_;simp[mnP,mxP];omega
end Go.Proofs.Ytmebpglkeedaoaa
namespace Go.Proofs.Ytmebpglkeedaoaa
namespace Dp
theorem iB {cap:Int} {n:Nat} {l:List ja} {k:Nat}:eU cap n l k=true↔backAt l k<=(l.getD k default).fr/\(l.getD k default).fr<(l.getD k default).to/\(l.getD k default).to<=n/\(0<=(l.getD k default).use/\(l.getD k default).use<=cap):=by
 unfold eU;rw[decide_eq_true_iff]
theorem aT {n:Nat} {c:Car}:dE n c=true↔((1<=c.cap/\c.cap<=1048576)/\(0<=c.inn/\c.inn<=1048576)/\(0<=c.out/\c.out<=1048576)/\(0<=c.start/\c.start<=c.cap)/\(0<=c.fin/\c.fin<=c.cap)/\c.trips.length<=4)/\ ∀k,k<c.trips.length->eU c.cap n c.trips k=true:=by
 unfold dE dO;rw[Bool.and_eq_true,decide_eq_true_iff,dD]
theorem cu {S:Site} {t:Nat}:fU S t=true↔(0<=S.lim.getD t 0/\S.lim.getD t 0<=1048576)/\(0<=S.exp.getD t 0/\S.exp.getD t 0<=1048576)/\(0<=S.buy.getD t 0/\S.buy.getD t 0<=1048576)/\(0<=S.sell.getD t 0/\S.sell.getD t 0<=S.buy.getD t 0):=by
 unfold fU;rw[decide_eq_true_iff]
theorem aj {S:Site}:bO S=true↔(1<=S.lim.length/\S.lim.length<=48)/\S.exp.length=S.lim.length/\S.buy.length=S.lim.length/\S.sell.length=S.lim.length:=by
 unfold bO;rw[decide_eq_true_iff]
theorem tN {cap:Int} {n:Nat} {l:List ja} (h: ∀k,k<l.length->eU cap n l k=true) (j:Nat): ∀d,j+d+1<l.length->(l.getD j default).to<=(l.getD (j+d+1) default).fr
 |0,hd=>by
  have h1:=(iB.1 (h (j+1) (by omega))).1;exact h1
 |d+1,hd=>by
  have ih:=tN h j d (by omega);have h1:=iB.1 (h (j+d+1) (by omega));have h2:=(iB.1 (h (j+(d+1)+1) (by omega))).1;have h3:backAt l (j+(d+1)+1)=(l.getD (j+d+1) default).to:=rfl;omega
theorem E9 {cap:Int} {n:Nat} {l:List ja} (h: ∀k,k<l.length->eU cap n l k=true) {j:Nat} (hj:j<l.length): ∀m,j<m->m<=l.length->iM l (l.getD j default).fr m=(l.getD j default).use
 |0,hm,_=>by omega
 |m+1,hm,hl=>by
  unfold iM
  by_cases e:m=j
  ·subst e;rw[if_pos rfl]
  ·have h1:=tN h j (m-j-1) (by omega)
   rw[show j+(m-j-1)+1=m by omega]at h1;have h2:=iB.1 (h j hj);rw[if_neg (by omega)];exact E9 h hj m (by omega) (by omega)
theorem wX {cap:Int} {n:Nat} {l:List ja} (h: ∀k,k<l.length->eU cap n l k=true) (hc:0<=cap) (k:Int): ∀m,m<=l.length->0<=iM l k m/\iM l k m<=cap
 |0,_=>⟨Int.le_refl _,hc⟩
 |m+1,hl=>by
  unfold iM;have h2:=iB.1 (h m (by omega))
  split
  ·exact h2.2.2.2
  ·exact wX h hc k m (by omega)
theorem iN {n:Nat} {c:Car} (h:dE n c=true) (k:Nat):0<=dz c k/\dz c k<=1048576:=by
 have h1:=aT.1 h;have:=wX h1.2 (by omega) k c.trips.length (Nat.le_refl _);unfold dz;omega
theorem tO {S:Site} {cs:List Car} {T:Tab}: ∀{n:Nat},iy S cs T n=0-> ∀k,k<n->fE S cs T k=0
 |0,_,k,hk=>by omega
 |n+1,h,k,hk=>by
  unfold iy at h
  by_cases h0:iy S cs T n=0
  ·rw[if_pos h0]at h
   by_cases e:k=n
   ·rw[e];exact h
   ·exact tO h0 k (by omega)
  ·rw[if_neg h0]at h
   exact absurd h h0
theorem Fa {S:Site} {cs:List Car} {T:Tab} {k:Nat} (h:fE S cs T k=0):(∀i,i<cs.length->eZ cs T k i=true)/\drP T k T.inn.length<=S.lim.getD k 0/\ -(S.exp.getD k 0)<=drP T k T.inn.length:=by
 unfold fE at h
 by_cases h1:ji cs.length (eZ cs T k)=true
 ·rw[if_pos h1]at h
  by_cases h2:drP T k T.inn.length<=S.lim.getD k 0/\ -(S.exp.getD k 0)<=drP T k T.inn.length
  ·exact⟨dD.1 h1,h2⟩
  ·rw[if_neg h2]at h;cases h
 ·rw[if_neg h1]at h;cases h
theorem bP {m n:Nat} {l:List (List Int)}:fQ m n l=true↔l.length=m/\ ∀i,i<m->(l.getD i []).length=n:=by
 unfold fQ;rw[Bool.and_eq_true,decide_eq_true_iff,dD];constructor
 ·rintro⟨rfl,h⟩;exact⟨rfl,fun i hi=>by simpa using h i hi⟩
 ·rintro⟨rfl,h⟩;exact⟨rfl,fun i hi=>by simpa using h i hi⟩
structure iU (S:Site) (cs:List Car) (T:Tab):Prop where
 ok:stE S cs=0
 li:T.inn.length=cs.length
 lo:T.out.length=cs.length
 ri: ∀i,i<cs.length->(T.inn.getD i []).length=S.lim.length
 ro: ∀i,i<cs.length->(T.out.getD i []).length=S.lim.length
 dr: ∀k,k<S.lim.length->drP T k T.inn.length<=S.lim.getD k 0/\ -(S.exp.getD k 0)<=drP T k T.inn.length
 car: ∀k,k<S.lim.length-> ∀i,i<cs.length->eZ cs T k i=true
 lv: ∀i,i<cs.length-> ∀k,k<=S.lim.length->jk (cs.getD i default) (T.inn.getD i []) (T.out.getD i []) S.lim.length k=true
theorem lQ {S:Site} {cs:List Car} {T:Tab} (h:plE S cs T=0):iU S cs T:=by
 unfold plE at h
 by_cases h0:stE S cs=0
 ·rw[if_pos h0]at h
  cases h1:(fQ cs.length S.lim.length T.inn&&fQ cs.length S.lim.length T.out)
  ·rw[h1]at h;cases h
  ·rw[h1,if_pos rfl]at h
   by_cases h2:iy S cs T S.lim.length=0
   ·rw[if_pos h2]at h
    cases h3:ji cs.length (BI cs T S.lim.length)
    ·rw[h3]at h;cases h
    ·rw[Bool.and_eq_true]at h1
     have a:=bP.1 h1.1;have b:=bP.1 h1.2;have c:=fun k hk=>Fa (tO h2 k hk)
     refine⟨h0,a.1,b.1,a.2,b.2,fun k hk=>(c k hk).2,fun k hk=>(c k hk).1,fun i hi k hk=>?_⟩;exact dD.1 (dD.1 h3 i hi) k (by omega)
   ·rw[if_neg h2]at h;exact absurd h h2
 ·rw[if_neg h0]at h;exact absurd h h0
theorem dL {c:Car} {x y:Int} {aw:Bool}:Jl c x y aw=true↔(0<=x/\x<=c.inn)/\(0<=y/\y<=c.out)/\(aw=true->x+y=0):=by unfold Jl;rw[decide_eq_true_iff]
theorem kR {c:Car} {x y:List Int} {n k:Nat}:jk c x y n k=true↔least c y n k<=lev c x y k/\lev c x y k<=c.cap:=by unfold jk;rw[decide_eq_true_iff]
section
variable {S:Site} {cs:List Car} {T:Tab}
theorem iU.carok (h:iU S cs T) {i:Nat} (hi:i<cs.length):dE S.lim.length (cs.getD i default)=true:=(aW h.ok).2.2.2 i hi
theorem iU.level (h:iU S cs T) {i:Nat} (hi:i<cs.length) {k:Nat} (hk:k<=S.lim.length):0<=lev (cs.getD i default) (T.inn.getD i []) (T.out.getD i []) k/\lev (cs.getD i default) (T.inn.getD i []) (T.out.getD i []) k<=(cs.getD i default).cap:=by
 have h1:=kR.1 (h.lv i hi k hk);have h2:=aT.1 (h.carok hi);refine⟨?_,h1.2⟩;have h3:=h1.1;unfold least at h3
 by_cases hk':k<S.lim.length
 ·rw[if_pos hk']at h3
  have h4:=dL.1 (h.car k hk' i hi);omega
 ·rw[if_neg hk']at h3
  omega
theorem iU.last (h:iU S cs T) {i:Nat} (hi:i<cs.length):(cs.getD i default).fin<=lev (cs.getD i default) (T.inn.getD i []) (T.out.getD i []) S.lim.length:=by
 have h1:=(kR.1 (h.lv i hi S.lim.length (Nat.le_refl _))).1;unfold least at h1;rw[if_neg (by omega)]at h1;exact h1
end
def lJ (T:Tab) (k m:Nat):Prop:= ∀i,i<m->(k<(T.inn.getD i []).length/\k<(T.out.getD i []).length)/\(0<=(T.inn.getD i []).getD k 0/\(T.inn.getD i []).getD k 0<=1048576)/\(0<=(T.out.getD i []).getD k 0/\(T.out.getD i []).getD k 0<=1048576)
theorem wY {T:Tab} {k m:Nat} (h:lJ T k m): ∀i,i<=m-> -(1048576*i:Int)<=drP T k i/\drP T k i<=1048576*i
 |0,_=>by simp[drP]
 |i+1,hi=>by
  have h1:=wY h i (by omega);have h2:=h i (by omega);unfold drP;omega
def pX (n:Nat) (xs:List Int):Prop:=xs.length=n/\ ∀k,k<n->0<=xs.getD k 0/\xs.getD k 0<=1048576
theorem Du {n:Nat} {c:Car} {x y:List Int} (hc:dE n c=true) (hx:pX n x) (hy:pX n y): ∀k,k<=n-> -(3145728*k:Int)<=lev c x y k/\lev c x y k<=1048576+3145728*k
 |0,_=>by
  have:=aT.1 hc;simp only[lev];omega
 |k+1,hk=>by
  have h1:=Du hc hx hy k (by omega);have h2:=hx.2 k (by omega);have h3:=hy.2 k (by omega);have h4:=iN hc k;simp only[lev];omega
end Dp
end Go.Proofs.Ytmebpglkeedaoaa
namespace Go.Proofs.Ytmebpglkeedaoaa
open Go.RowKit Dp
noncomputable def Jn:Code:=((Try.f36.body.bind (gq 2)).getD .skip)
noncomputable def Su:Code:=((Try.f36.body.bind (behind 2)).getD .skip)
def R36 (S:Site) (cs:List Car) (w:World):Ending->World->Prop:=fun e w'=>e=.returned (.int .i64 (stE S cs))/\Below w.heap.size w w'
theorem Sv (E:Option Addr) (S:Site) (cs:List Car) (n m cE:Nat) (w W0:World) (hn:n=S.lim.length) (hm:m=cs.length) (hE:m<=cE/\cE<=9223372036854775807) (hQ1: ¬8<cs.length) (hH:bO S=true) (hsl: ∀t,t<S.lim.length->fU S t=true)
 (hC:df w E cs) (hB:Below w.heap.size w W0) {K:Act->World->Prop} (hK: ∀a w',Code.wp Try.prog Su (bodyPost Try.prog Try.f36 (R36 S cs w)) a w'->K a w') {x0 x1 x2 x3 x4 x7 x8 x9 x10 x11 x12 x13 x14 x15 x16 x17 x18 x19 x20 x21 x22 x23 x24 x25 x26 x27 x28 x29 x30 x31 x32 x33 x34 x35 x36 x37 x38 x39 x40 x41 x42 x43 x44 x45 x46 x47 x48 x49 x50 x51 x52 x53 x54 x55 x56 x57 x58 x59 x60 x61 x62 x63 x64 x65 x66 x67 x68 x69 x70 x71 x72 x73 x74 x75 x76 x77 x78 x79 x80 x81 x82 x83 x84 x85 x86 x87 x88 x89 x90 x91 x95 x96 x97 x98 x99 x100 x101 x102 x103 x104 x105 qy x107 qz qA qB qC x112 x113 x114 x115 qD qE qG qH qI qJ qK qL qM qO qQ qR qU qV qW qX qY wZ xc xe tQ tT tV tX tY tZ uf ug uh ui uj uk uo uq x150 x151 x152 x153 uu uw uy x157 x158 x159 x160 uA uB uC uD uE uF x167 x168:Value}:
 Code.wp Try.prog Jn (Exit.inBlock 2 (Exit.then K (bodyPost Try.prog Try.f36 (R36 S cs w)))) {tmps:=List.toArray (x0::x1::x2::x3::x4::(.int .i64 n:Value)::(.func (.func 78) #[] #[]:Value)::x7::x8::x9::x10::x11::x12::x13::x14::x15::x16::x17::x18::x19::x20::x21::x22::x23::x24::x25::x26::x27::x28::x29::x30::x31::x32::x33::x34::x35::x36::x37::x38::x39::x40::x41::x42::x43::x44::x45::x46::x47::x48::x49::x50::x51::x52::x53::x54::x55::x56::x57::x58::x59::x60::x61::x62::x63::x64::x65::x66::x67::x68::x69::x70::x71::x72::x73::x74::x75::x76::x77::x78::x79::x80::x81::x82::x83::x84::x85::x86::x87::x88::x89::x90::x91::(.slice E m cE:Value)::(.int .i64 m:Value)::(.int .i64 0:Value)::x95::x96::x97::x98::x99::x100::x101::x102::x103::x104::x105::qy::x107::qz::qA::qB::qC::x112::x113::x114::x115::qD::qE::qG::qH::qI::qJ::qK::qL::qM::qO::qQ::qR::qU::qV::qW::qX::qY::wZ::xc::xe::tQ::tT::tV::tX::tY::tZ::uf::ug::uh::ui::uj::uk::uo::uq::x150::x151::x152::x153::uu::uw::uy::x157::x158::x159::x160::uA::uB::uC::uD::uE::uF::x167::x168::[]),defers:=[]} W0:=by
 have HN:=zh hn;have HM:=zh hm;have HQ1:=zh hQ1;have HH:=zh hH;have HSL:=zh hsl;have HCS:=zh hC;have HB:=zh hB;clear hn hm hQ1 hH hsl hC hB
 conv=>arg 2;whnf
 go_loopw [9,10,12,94] (fun _ _ _ i wr=> ∃j:Nat,j<=m/\i=.int .i64 j/\Hid (Below w.heap.size w wr/\ ∀x,x<j->dE S.lim.length (cs.getD x default)=true)) (fun _ _ _ i _=>m-(intOf i).toNat)
 case atStart=>exact⟨0,Nat.zero_le _,rfl,zh ⟨HB.out,fun j hj=>absurd hj (Nat.not_lt_zero _)⟩⟩
 case round=>
  obtain⟨j,hj,rfl,HJ⟩:=hrel
  by_cases hlt2:j<m
  ·have hji:(j:Int)<(m:Int):=by omega
   have jl:j<cs.length:=by rw[<-HM.out];exact hlt2
   obtain⟨ad,rfl,abl,c0,c1,c2,c3,c4,T,cT,c5,hcT,HTT⟩:=(HCS.below HJ.1 (Nat.le_refl _)) j jl;have HTR:=zh HTT;clear HTT;have HBAD:Hid (dE S.lim.length (cs.getD j default)=false->stE S cs=2):=zh (fun h=>E5 HQ1.out j jl h);have HGO:Hid (dE S.lim.length (cs.getD j default)=true-> ∀x,x<j+1->dE S.lim.length (cs.getD x default)=true):=zh (fun h x hx=>by
    by_cases hxj:x<j
    ·exact HJ.2 x hxj
    ·obtain rfl:x=j:=by omega
     exact h)
   generalize cs.getD j default=c at *;obtain⟨cap,inn,out,start,fin,trips⟩:=c;simp only at c0 c1 c2 c3 c4 c5 hcT HTR HBAD HGO;have HQ:Hid (trips.length=trips.length):=zh rfl;obtain⟨q,hq⟩: ∃q,q=trips.length:=⟨_,rfl⟩;rw[<-hq]at c5 hcT;have HQL:=zh hq;clear hq HQ;go_upto_region 16 with fail
   have HX:=zh (HJ.1.alloc HJ.1.size (.cells #[.int .i64 cap,.int .i64 inn,.int .i64 out,.int .i64 start,.int .i64 fin,.slice T q cT] 63));have XC:=zh (Blk.new' wr #[.int .i64 cap,.int .i64 inn,.int .i64 out,.int .i64 start,.int .i64 fin,.slice T q cT] 63);have uG:=zh (HTR.below ((Below.refl wr.heap.size wr).alloc (Nat.le_refl _) (.cells #[.int .i64 cap,.int .i64 inn,.int .i64 out,.int .i64 start,.int .i64 fin,.slice T q cT] 63)) (Nat.le_refl _));generalize wr.alloc (.cells #[.int .i64 cap,.int .i64 inn,.int .i64 out,.int .i64 start,.int .i64 fin,.slice T q cT] 63)=wx at HX XC uG ⊢;generalize wr.heap.size=gc at *;clear c0 c1 c2 c3 c4 c5 abl HTR;have e0:=XC.cell 0 rfl;have e1:=XC.cell 1 rfl;have e2:=XC.cell 2 rfl;have e3:=XC.cell 3 rfl;have e4:=XC.cell 4 rfl;have e5:=XC.cell 5 rfl;have gcl:=XC.lt
   by_cases r1:cap<1
   ·have EE:=zh (HBAD.out (eO (by simp[dO];omega)))
    go_wp2_with fail
    go_ret;exact⟨ah EE.symm,HX.out⟩
   have HY1:=zh (HX.alloc HX.size (.cells #[.int .i64 cap,.int .i64 inn,.int .i64 out] 2));have HY2:=zh (HY1.alloc HY1.size (.cells #[.int .i64 start,.int .i64 fin] 2))
   by_cases r2:(0<=cap/\cap<=1048576)/\(0<=inn/\inn<=1048576)/\(0<=out/\out<=1048576)
   ·have U3:=E8 wx.heap.size _ true (decide_eq_true r2).symm (Blk.new' wx #[.int .i64 cap,.int .i64 inn,.int .i64 out] 2)
    have RR2:=zh r2;clear r2
    by_cases r3:(0<=start/\start<=cap)/\(0<=fin/\fin<=cap)
    ·have U2:=mW (wx.heap.size+1) _ true (decide_eq_true r3).symm (by simpa using Blk.new' (wx.alloc (.cells #[.int .i64 cap,.int .i64 inn,.int .i64 out] 2)) #[.int .i64 start,.int .i64 fin] 2)
     have RR3:=zh r3;clear r3
     by_cases r4:4<q
     ·have r4i:(4:Int)<(q:Int):=by omega
      have EE:=zh (HBAD.out (eO (by simp[dO];have:=HQL.out;omega)));go_wp2_with fail
      refine U3.mono ?_;rintro e w3 ⟨rfl,rfl⟩;go_wp2_with fail
      refine U2.mono ?_;rintro e w3 ⟨rfl,rfl⟩;go_wp2_with fail
      go_ret;exact⟨ah EE.symm,HY2.out⟩
     ·have r4i: ¬(4:Int)<(q:Int):=by omega
      have HHD:Hid (dO ⟨cap,inn,out,start,fin,trips⟩=true):=zh (by simp[dO];have:=RR2.out;have:=RR3.out;have:=HQL.out;omega);have XC2:=zh ((Blk.alloc (Blk.alloc XC.out (.cells #[.int .i64 cap,.int .i64 inn,.int .i64 out] 2)) (.cells #[.int .i64 start,.int .i64 fin] 2)));have BXX:=(((Below.refl wx.heap.size wx).alloc (Nat.le_refl _) (.cells #[.int .i64 cap,.int .i64 inn,.int .i64 out] 2))).alloc (by simp) (.cells #[.int .i64 start,.int .i64 fin] 2);have xg:=zh (uG.below BXX (Nat.le_refl _));clear BXX;go_wp2_with fail
      refine U3.mono ?_;rintro e w3 ⟨rfl,rfl⟩;go_wp2_with fail
      refine U2.mono ?_;rintro e w3 ⟨rfl,rfl⟩;go_upto_region 18 with fail
      generalize ((wx.alloc (.cells #[.int .i64 cap,.int .i64 inn,.int .i64 out] 2)).alloc (.cells #[.int .i64 start,.int .i64 fin] 2))=wy at HY2 XC2 xg ⊢;clear U3 U2 e0 e1 e2 e3 e4 e5 gcl HY1 HX XC uG;have e5:=XC2.cell 5 rfl;go_wp2_with fail
      clear e5
      go_loopw [10,12,134] (fun bk _ i wr=> ∃k:Nat,k<=q/\i=.int .i64 k/\bk=.int .i64 (backAt trips k)/\Hid (Below w.heap.size w wr/\Blk wr gc 63 [.int .i64 cap,.int .i64 inn,.int .i64 out,.int .i64 start,.int .i64 fin,.slice T q cT]/\fP wr T trips/\ ∀x,x<k->eU cap S.lim.length trips x=true)) (fun _ _ i _=>q-(intOf i).toNat)
      case atStart=>exact⟨0,Nat.zero_le _,rfl,rfl,zh ⟨HY2.out,XC2.out,xg.out,fun j hj=>absurd hj (Nat.not_lt_zero _)⟩⟩
      case round=>
       obtain⟨k,hk,rfl,rfl,HK⟩:=hrel
       by_cases hlt3:k<q
       ·have hki:(k:Int)<(q:Int):=by omega
        have kl:k<trips.length:=by rw[<-HQL.out];exact hlt3
        obtain⟨td,rfl,tbl,t0,t1,t2⟩:=HK.2.2.1 k kl;have HOK:=zh (show eU cap S.lim.length trips k=decide (backAt trips k<=(trips.getD k default).fr/\(trips.getD k default).fr<(trips.getD k default).to/\(trips.getD k default).to<=S.lim.length/\(0<=(trips.getD k default).use/\(trips.getD k default).use<=cap))from rfl);have HBK:=zh (show backAt trips (k+1)=(trips.getD k default).to from rfl);have HBD:Hid (eU cap S.lim.length trips k=false->stE S cs=2):=zh (fun h=>HBAD.out (tK (c:=⟨cap,inn,out,start,fin,trips⟩) k kl h));rw[<-HN.out]at HOK;generalize trips.getD k default=tr at *;obtain⟨fr,«to»,us⟩:=tr;simp only at t0 t1 t2 HOK HBK;generalize hbk:backAt trips k=bk at *;clear hbk;go_upto_region 22 with fail
        have HZ:=zh (HK.1.alloc HK.1.size (.cells #[.int .i64 fr,.int .i64 «to»,.int .i64 us] 65));have ZC:=zh (Blk.alloc HK.2.1 (.cells #[.int .i64 fr,.int .i64 «to»,.int .i64 us] 65));have ZT:=zh (Blk.new' wr #[.int .i64 fr,.int .i64 «to»,.int .i64 us] 65);have ZTR:=zh (HK.2.2.1.below ((Below.refl wr.heap.size wr).alloc (Nat.le_refl _) (.cells #[.int .i64 fr,.int .i64 «to»,.int .i64 us] 65)) (Nat.le_refl _));generalize wr.alloc (.cells #[.int .i64 fr,.int .i64 «to»,.int .i64 us] 65)=wz at HZ ZC ZT ZTR ⊢;generalize wr.heap.size=gt at *;clear t0 t1 t2 tbl;have f0:=ZT.cell 0 rfl;have f1:=ZT.cell 1 rfl;have f2:=ZT.cell 2 rfl;have e0:=ZC.cell 0 rfl;have gtl:=ZT.lt
        by_cases s1:fr<bk
        ·have EE:=zh (HBD.out (by rw[<-HN.out,HOK.out];exact decide_eq_false (fun h=>by omega)))
         go_wp2_with fail
         go_ret;exact⟨ah EE.symm,HZ.out⟩
        by_cases s2:«to»<=fr
        ·have EE:=zh (HBD.out (by rw[<-HN.out,HOK.out];exact decide_eq_false (fun h=>by omega)))
         go_wp2_with fail
         go_ret;exact⟨ah EE.symm,HZ.out⟩
        by_cases s3:(n:Int)<«to»
        ·have EE:=zh (HBD.out (by rw[<-HN.out,HOK.out];exact decide_eq_false (fun h=>by omega)))
         go_wp2_with fail
         go_ret;exact⟨ah EE.symm,HZ.out⟩
        have HU1:=zh (HZ.alloc HZ.size (.cells #[.int .i64 us] 2))
        by_cases s4:0<=us/\us<=cap
        ·have U1:=lI wz.heap.size _ true (decide_eq_true s4).symm (Blk.new' wz #[.int .i64 us] 2)
         have SS:=zh (show eU cap S.lim.length trips k=true from by rw[<-HN.out,HOK.out];exact decide_eq_true (by omega));clear s4;have BZ:=(Below.refl wz.heap.size wz).alloc (Nat.le_refl _) (.cells #[.int .i64 us] 2);have ZC2:=zh (ZC.alloc (.cells #[.int .i64 us] 2));have Sw:=zh (ZTR.below BZ (Nat.le_refl _));have f1b:=(ZT.alloc (.cells #[.int .i64 us] 2)).cell 1 rfl;clear BZ;go_upto_region 24 with (go_at_call 78;refine U1.mono ?_;rintro e w3 ⟨rfl,rfl⟩)
         generalize wz.alloc (.cells #[.int .i64 us] 2)=wq at HU1 ZC2 Sw f1b ⊢;clear f0 f1 f2 e0 gtl U1 s1 s2 s3;go_wp2_with fail
         refine⟨⟨k+1,by omega,by go_num,by rw[HBK.out],zh ⟨HU1.out,ZC2.out,Sw.out,fun x hx=>?_⟩⟩,by simp[intOf];omega⟩
         by_cases hxk:x<k
         ·exact HK.2.2.2 x hxk
         ·obtain rfl:x=k:=by omega
          exact SS.out
        ·have U1:=lI wz.heap.size _ false (decide_eq_false s4).symm (Blk.new' wz #[.int .i64 us] 2)
         have EE:=zh (HBD.out (by rw[<-HN.out,HOK.out];exact decide_eq_false (fun h=>by omega)));clear s4;go_wp2_with (go_at_call 78;refine U1.mono ?_;rintro e w3 ⟨rfl,rfl⟩)
         go_ret;exact⟨ah EE.symm,HU1.out⟩
       ·obtain rfl:k=q:=by omega
        have HCK:=zh (HGO.out (BH (c:=⟨cap,inn,out,start,fin,trips⟩) HHD.out (fun x hx=>HK.2.2.2 x (by rw[HQL.out];exact hx))));go_wp2_with fail
        exact⟨⟨j+1,by omega,by go_num,zh ⟨HK.1,HCK.out⟩⟩,by simp[intOf];omega⟩
    ·have U2:=mW (wx.heap.size+1) _ false (decide_eq_false r3).symm (by simpa using Blk.new' (wx.alloc (.cells #[.int .i64 cap,.int .i64 inn,.int .i64 out] 2)) #[.int .i64 start,.int .i64 fin] 2)
     have EE:=zh (HBAD.out (eO (by simp[dO];omega)));clear r3;go_wp2_with fail
     refine U3.mono ?_;rintro e w3 ⟨rfl,rfl⟩;go_wp2_with fail
     refine U2.mono ?_;rintro e w3 ⟨rfl,rfl⟩;go_wp2_with fail
     go_ret;exact⟨ah EE.symm,HY2.out⟩
   ·have U3:=E8 wx.heap.size _ false (decide_eq_false r2).symm (Blk.new' wx #[.int .i64 cap,.int .i64 inn,.int .i64 out] 2)
    have EE:=zh (HBAD.out (eO (by simp[dO];omega)));clear r2;go_wp2_with (go_at_call 78;refine U3.mono ?_;rintro e w3 ⟨rfl,rfl⟩)
    go_ret;exact⟨ah EE.symm,HY1.out⟩
  ·obtain rfl:j=m:=by omega
   have EE:=zh (Dr (S:=S) (cs:=cs) HQ1.out HH.out (fun t ht=>HSL.out t ht) (fun i hi=>HJ.2 i (by rw[HM.out];exact hi)));go_wp2_with fail
   conv=>arg 2;whnf
   go_wp2_with fail
   go_ret;exact⟨ah EE.symm,HJ.1⟩
end Go.Proofs.Ytmebpglkeedaoaa
