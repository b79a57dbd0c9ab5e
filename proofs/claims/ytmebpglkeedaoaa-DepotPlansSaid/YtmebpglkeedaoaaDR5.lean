/- Contracts that the claim leans on. -/
import Derived.Test.YtmebpglkeedaoaaDR4
set_option maxHeartbeats 16000000
set_option maxRecDepth 100000
set_option linter.unusedVariables false
set_option linter.unusedSimpArgs false
set_option linter.unnecessarySimpa false
namespace Go.Proofs.Ytmebpglkeedaoaa
open Go.RowKit Dp
theorem QS (A B:Option Addr) (N:Net) (G:Gr) (E:List Nat) (m n cA cB g c k:Nat) (w:World) (hm:m=N.arcs.length) (hch:chE N=0) (hf:xQ N G) (hE: ∀k,k∈E->k<2*m) (hnk:E.length=k+1) (hn:k<=1048576)
 (hB:m<=cB/\cB<=9223372036854775807) (hc:k+1<=c/\c<=9223372036854775807) (hN:dm w A B N) (ho:bB stC 150 2 0 w (some ⟨g,0,none⟩) c (E.map stK)):
 Calls Try.prog 99 #[.agg #[.slice A n cA,.slice B m cB],.slice (some ⟨g,0,none⟩) (k+1) c] w fun e w'=>e=.returned (.tuple #[.int .i64 (G.frA (E.getD 0 0):Nat),.int .i64 (G.toA (E.getD k 0):Nat)])/\Below w.heap.size w w':=by
 have m2:m<=2048:=by rw[hm];exact(bV hch).2.2
 have HAR:=zh (xR hm hch hN);have HND:Hid (∀i,i<m->G.frA (2*i)=frN N i/\G.frA (2*i+1)=toN N i/\G.toA (2*i)=toN N i/\G.toA (2*i+1)=frN N i):=zh (fun i hi=>⟨(hf.fr i (by rw[<-hm];exact hi)).1,(hf.fr i (by rw[<-hm];exact hi)).2,(hf.t0 i (by rw[<-hm];exact hi)).1,(hf.t0 i (by rw[<-hm];exact hi)).2⟩);have HST:Hid (∀V,Below w.heap.size w V->(V.cell? ⟨g,0,none⟩=some (.int .i64 ((E.getD 0 0/2:Nat):Int))/\V.cell? ⟨g,1,none⟩=some (.bool (decide (E.getD 0 0%2=1))))/\(V.cell? ⟨g,k*2,none⟩=some (.int .i64 ((E.getD k 0/2:Nat):Int))/\V.cell? ⟨g,k*2+1,none⟩=some (.bool (decide (E.getD k 0%2=1))))/\g<V.heap.size):=zh (fun V hV=>by
  have h:=xS (ho.below hV) 0 (by omega);have h2:=xS (ho.below hV) k (by omega);exact⟨⟨by simpa using h.1,by simpa using h.2⟩,h2,(ho.below hV).lt.2⟩)
 have he0:E.getD 0 0<2*m:=hE _ (by rw[zg,List.getElem?_eq_getElem (by omega)];exact List.getElem_mem _);have he1:E.getD k 0<2*m:=hE _ (by rw[zg,List.getElem?_eq_getElem (by omega)];exact List.getElem_mem _);generalize E.getD 0 0=k0 at *;generalize E.getD k 0=k1 at *;have hi0:k0/2<m:=by omega
 have hi1:k1/2<m:=by omega
 have Yv:((k0/2:Nat):Int)<(m:Int):=by omega
 have hii1:((k1/2:Nat):Int)<(m:Int):=by omega
 have HB0:=zh (HND.out (k0/2) hi0);have HB1:=zh (HND.out (k1/2) hi1);clear hm hch hf hE hnk hN ho HND he0 he1;have X0:=zh (Blk.new' w #[.slice A n cA,.slice B m cB] 25);have B0:=zh ((Below.refl w.heap.size w).alloc (Nat.le_refl _) (.cells #[.slice A n cA,.slice B m cB] 25));have hm0:k0%2=0∨k0%2=1:=by omega
 have hm1:k1%2=0∨k1%2=1:=by omega
 have hk0:k0=2*(k0/2)+k0%2:=by omega
 have hk1:k1=2*(k1/2)+k1%2:=by omega
 generalize hq0:k0/2=i0 at *;generalize hq1:k1/2=i1 at *;clear hq0 hq1;go_enter Try.func99,Try.ntmps99;go_upto_region 1 with fail
 generalize w.alloc (.cells #[.slice A n cA,.slice B m cB] 25)=w1 at X0 B0 ⊢;obtain⟨⟨c0,c1⟩,⟨c2,c3⟩,gl⟩:=HST.out _ B0.out;obtain⟨pb,rfl,ab,a0,a1,_,_⟩:=HAR.out _ B0.out i0 hi0;obtain⟨pb2,eb,ab2,b0,b1,_,_⟩:=HAR.out _ B0.out i1 hi1
 cases eb
 have x0:=X0.cell 1 rfl;have xl:=X0.lt;refine wrp ?_
 repeat(go_big_quiet_step (fail))
 refine wpQuiet_nil ?_;intro xx;have X1:=zh (X0.below xx.far X0.lt);have B1:=zh (B0.trans (xx.far.mono B0.size));generalize xx.w=w2 at X1 B1 ⊢;clear c0 c1 c2 c3 gl ab a0 a1 ab2 b0 b1 x0 xl
 rcases hm0 with e0|e0
 ·have hf0:G.frA k0=frN N i0:=by rw[hk0,e0];exact HB0.1
  rw[e0]at HST
  rcases hm1 with e1|e1
  ·have hf1:G.toA k1=toN N i1:=by rw[hk1,e1];exact HB1.2.2.1
   rw[e1]at HST;have HF0:=zh hf0;have HF1:=zh hf1;have HST:Hid (∀V,Below w.heap.size w V->(V.cell? ⟨g,0,none⟩=some (.int .i64 (i0:Int))/\V.cell? ⟨g,1,none⟩=some (.bool false))/\(V.cell? ⟨g,k*2,none⟩=some (.int .i64 (i1:Int))/\V.cell? ⟨g,k*2+1,none⟩=some (.bool false))/\g<V.heap.size):=HST;clear hk0 hk1 e0 e1 hf0 hf1 HB0 HB1;obtain⟨⟨c0,c1⟩,⟨c2,c3⟩,gl⟩:=HST.out _ B1.out;obtain⟨pb,eb,ab,a0,a1,_,_⟩:=HAR.out _ B1.out i0 hi0
   cases eb
   obtain⟨pb2,eb,ab2,b0,b1,_,_⟩:=HAR.out _ B1.out i1 hi1
   cases eb
   have x0:=X1.cell 1 rfl;have xl:=X1.lt;go_wp2_with fail
   exact bodyPost_ret (v:=.tuple #[.int .i64 (frN N i0:Nat),.int .i64 (toN N i1:Nat)]) (by simp[results,Try.results99,go_sem]) rfl ⟨by rw[HF0.out,HF1.out],B1.out⟩
  ·have hf1:G.toA k1=frN N i1:=by rw[hk1,e1];exact HB1.2.2.2
   rw[e1]at HST;have HF0:=zh hf0;have HF1:=zh hf1;have HST:Hid (∀V,Below w.heap.size w V->(V.cell? ⟨g,0,none⟩=some (.int .i64 (i0:Int))/\V.cell? ⟨g,1,none⟩=some (.bool false))/\(V.cell? ⟨g,k*2,none⟩=some (.int .i64 (i1:Int))/\V.cell? ⟨g,k*2+1,none⟩=some (.bool true))/\g<V.heap.size):=HST;clear hk0 hk1 e0 e1 hf0 hf1 HB0 HB1;obtain⟨⟨c0,c1⟩,⟨c2,c3⟩,gl⟩:=HST.out _ B1.out;obtain⟨pb,eb,ab,a0,a1,_,_⟩:=HAR.out _ B1.out i0 hi0
   cases eb
   obtain⟨pb2,eb,ab2,b0,b1,_,_⟩:=HAR.out _ B1.out i1 hi1
   cases eb
   have x0:=X1.cell 1 rfl;have xl:=X1.lt;go_upto_region 5 with fail
   refine wrp ?_
   repeat(go_big_quiet_step (fail))
   refine wpQuiet_nil ?_;intro xx;have X2:=zh (X1.below xx.far X1.lt);have B2:=zh (B1.trans (xx.far.mono B1.size));generalize xx.w=w4 at X2 B2 ⊢;clear c0 c1 c2 c3 gl ab a0 a1 ab2 b0 b1 x0 xl;go_wp2_with fail
   exact bodyPost_ret (v:=.tuple #[.int .i64 (frN N i0:Nat),.int .i64 (frN N i1:Nat)]) (by simp[results,Try.results99,go_sem]) rfl ⟨by rw[HF0.out,HF1.out],B2.out⟩
 ·have hf0:G.frA k0=toN N i0:=by rw[hk0,e0];exact HB0.2.1
  rw[e0]at HST
  rcases hm1 with e1|e1
  ·have hf1:G.toA k1=toN N i1:=by rw[hk1,e1];exact HB1.2.2.1
   rw[e1]at HST;have HF0:=zh hf0;have HF1:=zh hf1;have HST:Hid (∀V,Below w.heap.size w V->(V.cell? ⟨g,0,none⟩=some (.int .i64 (i0:Int))/\V.cell? ⟨g,1,none⟩=some (.bool true))/\(V.cell? ⟨g,k*2,none⟩=some (.int .i64 (i1:Int))/\V.cell? ⟨g,k*2+1,none⟩=some (.bool false))/\g<V.heap.size):=HST;clear hk0 hk1 e0 e1 hf0 hf1 HB0 HB1;obtain⟨⟨c0,c1⟩,⟨c2,c3⟩,gl⟩:=HST.out _ B1.out;obtain⟨pb,eb,ab,a0,a1,_,_⟩:=HAR.out _ B1.out i0 hi0
   cases eb
   obtain⟨pb2,eb,ab2,b0,b1,_,_⟩:=HAR.out _ B1.out i1 hi1
   cases eb
   have x0:=X1.cell 1 rfl;have xl:=X1.lt;go_upto_region 3 with fail
   refine wrp ?_
   repeat(go_big_quiet_step (fail))
   refine wpQuiet_nil ?_;intro xx;have X2:=zh (X1.below xx.far X1.lt);have B2:=zh (B1.trans (xx.far.mono B1.size));generalize xx.w=w3 at X2 B2 ⊢;clear c0 c1 c2 c3 gl ab a0 a1 ab2 b0 b1 x0 xl;obtain⟨⟨c0,c1⟩,⟨c2,c3⟩,gl⟩:=HST.out _ B2.out;obtain⟨pb,eb,ab,a0,a1,_,_⟩:=HAR.out _ B2.out i0 hi0
   cases eb
   obtain⟨pb2,eb,ab2,b0,b1,_,_⟩:=HAR.out _ B2.out i1 hi1
   cases eb
   have x0:=X2.cell 1 rfl;have xl:=X2.lt;go_wp2_with fail
   exact bodyPost_ret (v:=.tuple #[.int .i64 (toN N i0:Nat),.int .i64 (toN N i1:Nat)]) (by simp[results,Try.results99,go_sem]) rfl ⟨by rw[HF0.out,HF1.out],B2.out⟩
  ·have hf1:G.toA k1=frN N i1:=by rw[hk1,e1];exact HB1.2.2.2
   rw[e1]at HST;have HF0:=zh hf0;have HF1:=zh hf1;have HST:Hid (∀V,Below w.heap.size w V->(V.cell? ⟨g,0,none⟩=some (.int .i64 (i0:Int))/\V.cell? ⟨g,1,none⟩=some (.bool true))/\(V.cell? ⟨g,k*2,none⟩=some (.int .i64 (i1:Int))/\V.cell? ⟨g,k*2+1,none⟩=some (.bool true))/\g<V.heap.size):=HST;clear hk0 hk1 e0 e1 hf0 hf1 HB0 HB1;obtain⟨⟨c0,c1⟩,⟨c2,c3⟩,gl⟩:=HST.out _ B1.out;obtain⟨pb,eb,ab,a0,a1,_,_⟩:=HAR.out _ B1.out i0 hi0
   cases eb
   obtain⟨pb2,eb,ab2,b0,b1,_,_⟩:=HAR.out _ B1.out i1 hi1
   cases eb
   have x0:=X1.cell 1 rfl;have xl:=X1.lt;go_upto_region 3 with fail
   refine wrp ?_
   repeat(go_big_quiet_step (fail))
   refine wpQuiet_nil ?_;intro xx;have X2:=zh (X1.below xx.far X1.lt);have B2:=zh (B1.trans (xx.far.mono B1.size));generalize xx.w=w3 at X2 B2 ⊢;clear c0 c1 c2 c3 gl ab a0 a1 ab2 b0 b1 x0 xl;obtain⟨⟨c0,c1⟩,⟨c2,c3⟩,gl⟩:=HST.out _ B2.out;obtain⟨pb,eb,ab,a0,a1,_,_⟩:=HAR.out _ B2.out i0 hi0
   cases eb
   obtain⟨pb2,eb,ab2,b0,b1,_,_⟩:=HAR.out _ B2.out i1 hi1
   cases eb
   have x0:=X2.cell 1 rfl;have xl:=X2.lt;go_upto_region 5 with fail
   refine wrp ?_
   repeat(go_big_quiet_step (fail))
   refine wpQuiet_nil ?_;intro xx;have X3:=zh (X2.below xx.far X2.lt);have B3:=zh (B2.trans (xx.far.mono B2.size));generalize xx.w=w4 at X3 B3 ⊢;clear c0 c1 c2 c3 gl ab a0 a1 ab2 b0 b1 x0 xl;go_wp2_with fail
   exact bodyPost_ret (v:=.tuple #[.int .i64 (toN N i0:Nat),.int .i64 (frN N i1:Nat)]) (by simp[results,Try.results99,go_sem]) rfl ⟨by rw[HF0.out,HF1.out],B3.out⟩
namespace Dp
theorem Fw {G:Gr} {vi:List Int} {s:Nat}: ∀{ks:List Nat} {t:Nat},Dp.Way G vi t ks s->0<ks.length->G.frA (ks.reverse.getD 0 0)=s/\G.toA (ks.reverse.getD (ks.length-1) 0)=t
 |[],t,_,h0=>by simp at h0
 |[k],t,h,_=>⟨h.2.2.2.2,h.2.2.1⟩
 |k::k2::ks,t,h,_=>by
  have ih:=Fw (ks:=k2::ks) h.2.2.2 (by simp);have e1: ∀j,j<(k2::ks).length->(k::k2::ks).reverse.getD j 0=(k2::ks).reverse.getD j 0:=fun j hj=>by
   rw[zg,zg,List.reverse_cons (a:=k),List.getElem?_append_left (by simpa using hj)]
  refine⟨by rw[e1 0 (by simp)];exact ih.1,?_⟩;have e2:(k::k2::ks).reverse.getD ((k::k2::ks).length -1) 0=k:=by
   rw[zg,List.reverse_cons (a:=k),List.getElem?_append_right (by simp)];simp
  rw[e2];exact h.2.2.1
theorem Hr {G:Gr} {n:Nat} {vi:List Int} {ks:List Nat} {s t:Nat} {x:Int} (h:qo G n vi ks s t x) (hG:G.Ok n) (hst:s≠t):(G.pushL ks x).left=(G.left.set s (G.lf s-x)).set t (G.lf t+x):=by
 have h1:=h.ok hG;have ha:=cZ (x:=x) h1.1;have hl:=kJ (x:=x) h.way hG.fine;have hll:=hG.ll;apply List.ext_getElem
 ·rw[ha.ll];simp
 ·intro u g1 g2
  have hu:u<n:=by rw[ha.ll,hll]at g1;exact g1
  have e:=hl u;unfold Gr.lf at e;rw[zg,List.getElem?_eq_getElem g1,zg,List.getElem?_eq_getElem (by rw[hll];exact hu)]at e;simp only[Option.getD_some]at e;rw[e,List.getElem_set,List.getElem_set];have e2: ∀v,(hv:v<n)->G.lf v=G.left[v]'(by rw[hll];exact hv):=fun v hv=>by
   unfold Gr.lf;rw[zg,List.getElem?_eq_getElem (by rw[hll];exact hv)];rfl
  by_cases e3:t=u
  ·subst e3
   have e4: ¬t=s:=fun e=>hst e.symm
   simp only[e4,if_false,if_true,e2 t hu];omega
  ·have e5: ¬u=t:=fun e=>e3 e.symm
   by_cases e4:s=u
   ·subst e4
    simp only[e3,e5,if_false,if_true,e2 s hu];omega
   ·have e6: ¬u=s:=fun e=>e4 e.symm
    simp only[e3,e5,e4,e6,if_false];omega
theorem JZ (N:Net):aR N (gr0 (zcN N))=List.replicate N.arcs.length 0:=by
 apply List.ext_getElem
 ·simp[aR]
 ·intro i h1 h2
  have hi:i<N.arcs.length:=by simpa [aR]using h1
  simp only[aR,List.getElem_map,List.getElem_range,List.getElem_replicate]
  show((esK (zcN N) (zcN N).arcs.length).getD (2*i+1) default).room=0
  rw[(oF (zcN N) _ i (by rw[fH];exact hi)).2]
end Dp
open Dp
theorem VJ {W V:World} {ad:Addr} {xs:List Int} {n:Nat} (h:aH W (some ad) xs) (hb:Below W.heap.size W V):kC V (some ad) n (xs.map (Value.int .i64)):=.inr ⟨ad,rfl,fun j u hu=>by
 have hj:j<xs.length:=by
  rcases Nat.lt_or_ge j xs.length with h|h
  ·exact h
  ·rw[List.getElem?_eq_none (by simpa using h)]at hu;cases hu
 obtain⟨ad',e,hl,hc⟩:=(h.below hb (Nat.le_refl _)) j hj
 cases e
 have hu':u=.int .i64 (xs.getD j 0):=by
  rw[List.getElem?_map,List.getElem?_eq_getElem hj]at hu;simp only[Option.map_some,Option.some.injEq]at hu;rw[<-hu,zg,List.getElem?_eq_getElem hj];rfl
 rw[hu'];exact hc⟩
structure AnJ (w:World) (N:Net) (n gF gL cL:Nat) (cv:List Value) (G:Gr) (W:World):Prop where
 ok:G.Ok n
 fit:Fits (zcN N) G
 f:Fl 2 W gF (aR N G)
 l:dI w.heap.size W gL cL G.left
 x:Blk W w.heap.size 25 cv
 bel:Below w.heap.size w W
theorem AnJ.below {w W V:World} {N:Net} {n gF gL cL:Nat} {cv:List Value} {G:Gr} (h:AnJ w N n gF gL cL cv G W) (hb:Below W.heap.size W V):AnJ w N n gF gL cL cv G V:=
 ⟨h.ok,h.fit,h.f.below hb,h.l.below hb,h.x.below hb h.x.lt,h.bel.trans (hb.mono h.bel.size)⟩
def QU (N:Net) (n m:Nat) (w:World) (e:Ending) (w':World):Prop:=
 ∃(G:Gr) (gF gL cL:Nat) (fa wi:List Int),e=.returned (.tuple #[.slice (some ⟨gF,0,none⟩) m m,.slice (some ⟨gL,0,none⟩) n cL])/\G.Ok n/\Fits (zcN N) G/\NR G n [] fa wi (-1)/\Fl 2 w' gF (aR N G)/\dI w.heap.size w' gL cL G.left/\w.heap.size<=gF/\gF≠gL/\(n<=cL/\cL<=9223372036854775807)
theorem P8 (A B:Option Addr) (N:Net) (n m cA cB:Nat) (w:World) (hn:n=N.sup.length) (hm:m=N.arcs.length) (hch:chE N=0)
 (hA:n<=cA/\cA<=9223372036854775807) (hB:m<=cB/\cB<=9223372036854775807) (hN:dm w A B N):
 Calls Try.prog 66 #[.agg #[.slice A n cA,.slice B m cB]] w fun e w'=>QU N n m w e w'/\Below w.heap.size w w':=by
 have hnn:1<=n/\n<=1024/\m<=2048:=by have h:=bV hch;rw[<-hn,<-hm]at h;exact h
 obtain⟨ad,rfl⟩: ∃ad,A=some ad:=by obtain⟨ad,e,_⟩:=hN.1 0 (by omega);exact⟨ad,e⟩
 have HN:=zh hn;have HM:=zh hm;have HCH:=zh hch;have HNA:=zh hN;have OK0:Hid ((gr0 (zcN N)).Ok n):=zh (by have h:=Dh (N:=zcN N) (by rw[sU];exact hch);rw[show(zcN N).sup.length=n from hn.symm]at h;exact h);clear hn hm hch hN;have hmk:=sW 22 2 Try.underlying22 pU m (by omega);obtain⟨i0,hi,hz0,hz1,hz2⟩:=info_parts pU;have X0:=zh (Blk.new' w #[.slice (some ad) n cA,.slice B m cB] 25);have B0:=zh ((Below.refl w.heap.size w).alloc (Nat.le_refl _) (.cells #[.slice (some ad) n cA,.slice B m cB] 25));go_enter Try.func66,Try.ntmps66;go_upto_region 1 with fail
 generalize w.alloc (.cells #[.slice (some ad) n cA,.slice B m cB] 25)=w1 at X0 B0 ⊢;have x1:=X0.cell 1 rfl;have xl:=X0.lt;go_upto_region 2 with fail
 clear x1 xl;have F0:=zh (show Fl 2 (w1.alloc (.cells (Array.replicate m (.int .i64 0)) 2)) w1.heap.size (List.replicate m 0)from by unfold Fl;have:=Blk.new' w1 (Array.replicate m (.int .i64 0)) 2;simpa using this);have X1:=zh (X0.alloc (.cells (Array.replicate m (.int .i64 0)) 2));have B1:=zh (B0.alloc B0.size (.cells (Array.replicate m (.int .i64 0)) 2));have HGF:=zh B0.size;have HGX:Hid (w.heap.size≠w1.heap.size):=zh (by have:=X0.lt;omega);generalize w1.alloc (.cells (Array.replicate m (.int .i64 0)) 2)=w2 at F0 X1 B1 ⊢;generalize w1.heap.size=gF at *;have VK:=zh (Fl.lt F0.out);clear X0 B0;have x0:=X1.cell 0 rfl;have xl:=X1.lt;have HS:Hid (kC (w2.alloc (.cells #[] 2)) (some ad) n (N.sup.map (Value.int .i64))):=zh (VJ HNA.1 (B1.alloc B1.size _));have LIT:=zh (World.ownsRow_lit (base:=w2.heap.size) (e:=2) (size:=1) w2 #[] 0 (Nat.le_refl _) (Nat.zero_le _) rfl);have AL:Hid (Below w2.heap.size w2 (w2.alloc (.cells #[] 2))):=zh ((Below.refl _ _).alloc (Nat.le_refl _) _);go_upto_region 3 with (at_builtin;refine ax (.tmp 14) (.tmp 16) 22 rfl rfl w2.heap.size 2 i0 (.int .i64 0) 1 8 Try.underlying22 hi hz0 hz1 hz2 rfl (by decide) (some ⟨w2.heap.size,0,none⟩) 0 0 [] (by rfl) (by simpa using LIT.out) (some ad) n cA (N.sup.map (Value.int .i64)) (by rfl) (by rw[HN.out];simp) HS.out (by simp[Value.oneCell']) (by unfold maxLen;omega) (by omega) (by simp) ?_;intro A3 c3 w3 hown2 hgrow2 uX;have HO2:=zh hown2;have HG2:=zh hgrow2;clear hown2 hgrow2 uX x0 xl)
 obtain⟨gL,cap',e,z1,z2⟩:=HO2.form (by omega)
 cases e
 have HB3:Hid (Below w2.heap.size w2 w3):=zh (AL.grown HG2.out (by simp) (fun j e=>by cases e;exact Nat.le_refl _));have J0:Hid (AnJ w N n gF gL c3 [.slice (some ad) n cA,.slice B m cB] (gr0 (zcN N)) w3):=zh
  {ok:=OK0.out
   fit:=oG
   f:=by rw[JZ,<-HM.out];exact F0.below HB3.out
   l:=by
    have h:=HO2.out;rw[show(gr0 (zcN N)).left=N.sup from rfl];unfold dI;rw[<-HN.out];have h2:w3.ownsRow w2.heap.size 2 1 (.slice (some ⟨gL,0,none⟩) n c3) n (N.sup.map (Value.int .i64)):=by simpa using h
    exact iZ h2 B1.size
   x:=X1.below HB3.out X1.lt
   bel:=B1.trans (HB3.mono B1.size)}
 have hcL:n<=c3/\c3<=9223372036854775807:=by have h:=oN HO2.out (by omega);obtain⟨_,_,_,_,h1,h2⟩:=h;omega
 have HNE:Hid (gF≠gL/\w2.heap.size<=gL):=zh ⟨by have h1:=Blk.lt F0.out;omega,z1⟩;have QV:=zh HGF.out;clear F0 X1 B1 HGF HO2 HG2 HB3 AL LIT HS z1 z2 OK0
 go_loopg [9] (dA (gr0 (zcN N)).left).toNat (fun q xv wr=>Hid (∃G:Gr,(dA G.left).toNat=q/\AnJ w N n gF gL c3 [.slice (some ad) n cA,.slice B m cB] G wr))
 case atStart=>exact zh ⟨_,rfl,J0.out⟩
 case round=>
  clear J0;obtain⟨G,hq,hj⟩:=hrel.out;have HQ:=zh hq;have J:=zh hj;clear hrel hq hj;have x0:=J.x.cell 0 rfl;have x1:=J.x.cell 1 rfl;have xl:=J.x.lt;have HGW:Hid (gF<wr.heap.size):=zh (Fl.lt J.f);have WC:Hid (Calls Try.prog 98 #[.agg #[.slice (some ad) n cA,.slice B m cB],.slice (some ⟨gF,0,none⟩) m m,.slice (some ⟨gL,0,none⟩) n c3] wr fun e w'=>Uf G n wr e w'/\Below wr.heap.size wr w'):=zh (Ug (some ad) B (some ⟨gF,0,none⟩) (some ⟨gL,0,none⟩) N G n m cA cB m c3 wr HN.out HM.out HCH.out J.ok J.fit hA hB ⟨Nat.le_refl _,by omega⟩ hcL (HNA.below J.bel (Nat.le_refl _)) J.f.ints (fun i hi=>by
   refine⟨_,rfl,J.l.lt.2,?_⟩;rw[dN];exact J.l.cell i hi))
  go_wp2_with fail
  refine WC.mono ?_;rintro e w4 ⟨hw,hb⟩;have HB4:=zh hb;have J4:=zh (J.below hb);clear hb x0 x1 xl WC J
  rcases hw with ⟨rfl,fa,wi,hnr⟩|⟨g,c,nk,t,s,ks,vi,rfl,hnk,hown,h0,hkn,hwy,hnd,hsn,htn,hls,hlt,hrm⟩
  ·have HNR:=zh hnr
   clear hnr;have qT: ∀w:World,(binOp .eql 104 (.slice none 0 0) (.slice none 0 0)).run Try.prog w=.ok (.bool true) w:=fun w=>Lib.run_eql_slice_nil w 104 150 none 0 0 0 0 Try.underlying104
   go_wp2_with fail
   exact bodyPost_ret (v:=.tuple #[.slice (some ⟨gF,0,none⟩) m m,.slice (some ⟨gL,0,none⟩) n c3]) (by simp[results,Try.results66,go_sem]) rfl ⟨⟨G,gF,gL,c3,fa,wi,rfl,J4.ok,J4.fit,HNR.out,J4.f,J4.l,QV.out,HNE.1,hcL⟩,J4.bel⟩
  ·obtain⟨k,rfl⟩: ∃k,nk=k+1:=⟨nk-1,by omega⟩
   have HE:=zh (Fw hwy h0);have HKS:Hid (ks.reverse.length=k+1):=zh (by rw[List.length_reverse];exact hnk.symm);have hk1:k+1<=1024:=by omega
   have HOW:=zh (bB.mono (B':=0) hown (Nat.zero_le _));have HGG:Hid (wr.heap.size<=g):=zh hown.lt.1;have hcc:k+1<=c/\c<=9223372036854775807:=by
    obtain⟨_,_,_,_,h1,h2⟩:=hown.form (by simp;omega);simp at h1;omega
   have HKB:Hid (∀k,k∈ks.reverse->k<2*m):=zh (fun k hk=>by have h:=hwy.lt k (List.mem_reverse.1 hk);rw[J4.fit.es,fH,<-HM.out]at h;exact h);have HST:Hid (s≠t):=zh (fun e=>by subst e;omega);have HSE:Hid (∀x,0<x->x<=iP G ks.reverse->x<=G.lf s->x<= -G.lf t->qo G n vi ks s t x):=zh (fun x h1 h2 h3 h4=>⟨hwy,hnd,hsn,htn,h1,h3,h4,fun k hk=>by have:=(mJ G ks.reverse 1099511627776).1 k (List.mem_reverse.2 hk);unfold iP at h2;omega⟩);have HRP:Hid (0<iP G ks.reverse):=zh (pK G _ _ (by decide) (fun k hk=>hrm k (List.mem_reverse.1 hk)));have HRN:Hid (ks.reverse.Nodup):=zh ((List.reverse_perm ks).nodup_iff.2 (lD hwy hnd).1);have hlb:=J4.ok.lb s hsn;have VL:=J4.ok.lb t htn;have EC:Hid (Calls Try.prog 99 #[.agg #[.slice (some ad) n cA,.slice B m cB],.slice (some ⟨g,0,none⟩) (k+1) c] w4 fun e w'=>e=.returned (.tuple #[.int .i64 (s:Nat),.int .i64 (t:Nat)])/\Below w4.heap.size w4 w'):=zh (by
    have h:=QS (some ad) B N G ks.reverse m n cA cB g c k w4 HM.out HCH.out J4.fit.z HKB.out HKS.out (by omega) hB hcc (HNA.below J4.bel (Nat.le_refl _)) (by simpa using HOW.out);have e2:ks.length-1=k:=by omega
    have h3:=HE.out;rw[e2]at h3;rw[h3.1,h3.2]at h;exact h)
   clear hwy hnd hrm hnk h0 hkn hown HE;have qF: ∀w:World,(binOp .eql 104 (.slice (some ⟨g,0,none⟩) (k+1) c) (.slice none 0 0)).run Try.prog w=.ok (.bool false) w:=fun w=>Lib.run_eql_slice_nil w 104 150 (some ⟨g,0,none⟩) (k+1) c 0 0 Try.underlying104
   have x0:=J4.x.cell 0 rfl;have x1:=J4.x.cell 1 rfl;have xl:=J4.x.lt;go_wp2_with fail
   refine EC.mono ?_;rintro e w5 ⟨rfl,hb⟩;have HB5:=zh (HB4.trans (hb.mono HB4.size));have J5:=zh (J4.below hb);have HO5:=zh (HOW.below hb);clear hb x0 x1 xl EC J4 HB4 HOW;go_upto_region 7 with fail
   have HRC:Hid (∀W,Below w5.heap.size w5 W->Calls Try.prog 69 #[.agg #[.slice (some ad) n cA,.slice B m cB],.slice (some ⟨gF,0,none⟩) m m,.slice (some ⟨g,0,none⟩) (k+1) c] W fun e w'=>e=.returned (.int .i64 (iP G ks.reverse))/\Below W.heap.size W w'):=zh (fun W hW=>JX (some ad) B (some ⟨gF,0,none⟩) N G ks.reverse m n n cA cB m g c (k+1) W HM.out HCH.out J5.ok J5.fit.z HKB.out HKS.symm (by omega) hB ⟨Nat.le_refl _,by omega⟩ hcc (HNA.below (J5.bel.trans (hW.mono J5.bel.size)) (Nat.le_refl _)) (J5.f.below hW).ints (by have:=HO5.below hW;simpa using this));obtain⟨R,hR⟩: ∃R,R=iP G ks.reverse:=⟨_,rfl⟩;obtain⟨a,ha⟩: ∃a,a=G.lf s:=⟨_,rfl⟩;obtain⟨b,hb⟩: ∃b,b=G.lf t:=⟨_,rfl⟩;have hR0:0<R:=by rw[hR];exact HRP.out
   rw[<-ha]at hls hlb;rw[<-hb]at hlt VL;have Ka:Hid (∀x,0<x->x<=R->x<=a->x<= -b->qo G n vi ks s t x):=zh (by rw[hR,ha,hb];exact HSE.out);have Yw:=zh hsn;have Yx:=zh htn;rw[<-hR]at HRC;have HA:=zh ha;have HB:=zh hb;clear hR ha hb HSE HRP;have hsi:(s:Int)<(n:Int):=by omega
   have hti:(t:Int)<(n:Int):=by omega
   go_cut [9]from 18 to 63 (fun xv wc=> ∃x:Int,xv=.int .i64 x/\Hid (qo G n vi ks s t x/\x<=a/\0<x/\Below w5.heap.size w5 wc))
   case first=>
    have x0:=J5.x.cell 0 rfl;have x1:=J5.x.cell 1 rfl;have xl:=J5.x.lt;have c1:w5.cell? ⟨gL,s,none⟩=some (.int .i64 a):=by rw[HA.out];exact J5.l.cell s (by rw[J5.ok.ll];exact hsn)
    have c2:w5.cell? ⟨gL,t,none⟩=some (.int .i64 b):=by rw[HB.out];exact J5.l.cell t (by rw[J5.ok.ll];exact htn)
    have cl:=J5.l.lt.2
    by_cases h1:a<R
    ·by_cases h2: -b<a
     ·refine wrp ?_
      repeat(go_big_quiet_step ((go_at_call 69;exact aZ (HRC.out _ (bN.far _)))))
      refine wpQuiet_nil ?_;intro xx;have B6:=zh xx.far;generalize xx.w=w6 at B6 ⊢;clear x0 x1 xl c1 c2 cl;go_wp2_with fail
      go_meet
      case rel=>exact⟨-b,rfl,zh ⟨Ka.out _ (by omega) (by omega) (by omega) (by omega),by omega,by omega,B6.out⟩⟩
     ·have h2':a<= -b:=by omega
      refine wrp ?_
      repeat(go_big_quiet_step ((go_at_call 69;exact aZ (HRC.out _ (bN.far _)))))
      refine wpQuiet_nil ?_;intro xx;have B6:=zh xx.far;generalize xx.w=w6 at B6 ⊢;clear x0 x1 xl c1 c2 cl;go_wp2_with fail
      go_meet
      case rel=>exact⟨a,rfl,zh ⟨Ka.out _ (by omega) (by omega) (by omega) (by omega),by omega,by omega,B6.out⟩⟩
    ·have h1':R<=a:=by omega
     by_cases h2: -b<R
     ·refine wrp ?_
      repeat(go_big_quiet_step ((go_at_call 69;exact aZ (HRC.out _ (bN.far _)))))
      refine wpQuiet_nil ?_;intro xx;have B6:=zh xx.far;generalize xx.w=w6 at B6 ⊢;clear x0 x1 xl c1 c2 cl;go_wp2_with fail
      go_meet
      case rel=>exact⟨-b,rfl,zh ⟨Ka.out _ (by omega) (by omega) (by omega) (by omega),by omega,by omega,B6.out⟩⟩
     ·have h2':R<= -b:=by omega
      refine wrp ?_
      repeat(go_big_quiet_step ((go_at_call 69;exact aZ (HRC.out _ (bN.far _)))))
      refine wpQuiet_nil ?_;intro xx;have B6:=zh xx.far;generalize xx.w=w6 at B6 ⊢;clear x0 x1 xl c1 c2 cl;go_wp2_with fail
      go_meet
      case rel=>exact⟨R,rfl,zh ⟨Ka.out _ (by omega) (by omega) (by omega) (by omega),by omega,by omega,B6.out⟩⟩
   case rest=>
    obtain⟨x,rfl,HX⟩:=hcut;have SX:=zh HX.1;have hx1:=HX.2.1;have hx0:=HX.2.2.1;have J6:=zh (J5.below HX.2.2.2);have HO6:=zh (HO5.below HX.2.2.2);clear HX J5 HO5 HRC Ka;have PC:Hid (Calls Try.prog 68 #[.slice (some ⟨gF,0,none⟩) m m,.slice (some ⟨g,0,none⟩) (k+1) c,.int .i64 x] wc fun e w'=>e=.returned (.tuple #[])/\Fl 2 w' gF (aR N (G.pushL ks.reverse x))/\Touch (fun k=>k=gF) wc w'):=zh (Fv N G ks.reverse m n n m g gF c (k+1) x wc HM.out (by omega) J6.ok J6.fit.z HKB.out HRN.out ⟨by omega,by omega⟩ HKS.symm (by omega) ⟨Nat.le_refl _,by omega⟩ hcc J6.f (by simpa using HO6.out) (by have h1:=HGG.out;have h2:=HGW.out;omega));go_wp2_with fail
    refine PC.mono ?_;rintro e w7 ⟨rfl,hf7,ht7⟩;have F7:Hid (Fl 2 w7 gF (aR N (G.pushL ks x))):=zh (by rw[<-uQ J6.fit.z.es (by rw[<-HM.out];exact HKB.out) (List.reverse_perm ks)];exact hf7);have L7:Hid (dI w.heap.size w7 gL c3 G.left):=zh (AZ J6.l ht7 (fun j hj e=>by obtain⟨q,eq,hq⟩:=hj;cases eq;exact HNE.1 (e.symm.trans hq.symm)));have X7:=zh (J6.x.touch ht7 (fun e=>HGX.out e));have B7:=zh (Below.touch J6.bel J6.bel.size ht7 (fun j e=>by rw[e];exact QV.out));have OK6:=zh J6.ok;have FT6:=zh J6.fit;clear hf7 ht7 PC J6 HO6;have c1:w7.cell? ⟨gL,s,none⟩=some (.int .i64 a):=by rw[HA.out];exact L7.cell s (by rw[OK6.ll];exact hsn)
    have z1:=L7.free s;have l1:=L7.lt.2;have L8:=zh (L7.put s (a-x));have HNG:Hid (w.heap.size<gL):=zh (by have h1:=HNE.2;have h2:=HGX.out;have h3:=QV.out;have h4:=VK.out;omega);have F8:=zh (F7.set_ne (p:=⟨gL,s,none⟩) HNE.1 (.int .i64 (a-x)));have X8:=zh (X7.setCell_ne (p:=⟨gL,s,none⟩) (by have:=HNG.out;simp;omega) (.int .i64 (a-x)));have B8:=zh (B7.setCell (p:=⟨gL,s,none⟩) (by have:=HNG.out;simp;omega) (.int .i64 (a-x)));go_upto_region 10 with fail
    clear c1 z1 l1 L7 F7 X7 B7;generalize w7.setCell ⟨gL,s,none⟩ (.int .i64 (a-x))=w8 at L8 F8 X8 B8 ⊢;have c2:w8.cell? ⟨gL,t,none⟩=some (.int .i64 b):=by
     have h:=L8.cell t (by rw[List.length_set,OK6.ll];exact htn);rw[h,HB.out];unfold Gr.lf;rw[zg,List.getElem?_set_ne HST.out,zg]
    have z1:=L8.free t;have l1:=L8.lt.2;have hp:=zh (Hr SX.out OK6.out HST.out);have HE:Hid (AnJ w N n gF gL c3 [.slice (some ad) n cA,.slice B m cB] (G.pushL ks x) (w8.setCell ⟨gL,t,none⟩ (.int .i64 (b+x)))):=zh
     {ok:=(SX.ok OK6.out).2.2
      fit:=Fits.pushL FT6.out OK6.fine (fun k hk=>((SX.ok OK6.out).1 k hk).1)
      f:=F8.set_ne (p:=⟨gL,t,none⟩) HNE.1 _
      l:=by rw[hp.out,<-HA.out,<-HB.out];exact L8.put t (b+x)
      x:=X8.setCell_ne (p:=⟨gL,t,none⟩) (by have:=HNG.out;simp;omega) _
      bel:=B8.setCell (p:=⟨gL,t,none⟩) (by have:=HNG.out;simp;omega) _}
    have HM2:Hid ((dA (G.pushL ks x).left).toNat<gk):=zh (by have h1:=pG SX.out OK6.out;have h2:=lG (G.pushL ks x).left;have h3:=HQ.out;omega);clear L8 F8 X8 B8 hp;go_wp2_with fail
    go_roundg (dA (G.pushL ks x).left).toNat
    case measure=>exact HM2.out
    case rel=>exact zh ⟨_,rfl,HE.out⟩
end Go.Proofs.Ytmebpglkeedaoaa
namespace Go.Proofs.Ytmebpglkeedaoaa
namespace Dp
def upf (L:Nat->Nat) (t x:Nat):Nat->Nat:=fun v=>if v=t then x else L v
theorem DL (l:List Nat) (i j:Nat) (x:Nat) (hi:i<l.length):(l.set i x).getD j 0=if j=i then x else l.getD j 0:=by
 rw[zg,List.getElem?_set,zg]
 by_cases h:i=j
 ·subst h;simp[hi]
 ·rw[if_neg h,if_neg (fun e=>h e.symm)]
structure BcI (G:Gr) (n r e:Nat) (d:List Int) (vi:List Nat) (L T:Nat->Nat) (now:Nat):Prop where
 dl:d.length=n
 vl:vi.length=n
 hi: ∀v,v<n->d.getD v 0<=0
 lo: ∀v,v<n-> -(1048576*((r*G.es.length+e:Nat):Int))<=d.getD v 0
 lr: ∀v,v<n->L v<=r+1
 tn: ∀v,v<n->T v<=now
 pr: ∀v,v<n->0<L v->vi.getD v 0<G.es.length/\G.toA (vi.getD v 0)=v/\0<G.room (vi.getD v 0)/\d.getD (G.frA (vi.getD v 0)) 0+G.cost (vi.getD v 0)<=d.getD v 0/\
  (T (G.frA (vi.getD v 0))<T v∨d.getD (G.frA (vi.getD v 0)) 0+G.cost (vi.getD v 0)<d.getD v 0)/\L v<=L (G.frA (vi.getD v 0))+1
 ed: ∀k,k<G.es.length->0<G.room k->(k<e->d.getD (G.toA k) 0<=d.getD (G.frA k) 0+G.cost k∨r+1<=L (G.frA k))/\(0<r->d.getD (G.toA k) 0<=d.getD (G.frA k) 0+G.cost k∨r<=L (G.frA k))
section
variable {G:Gr} {n r e now:Nat} {d:List Int} {vi:List Nat} {L T:Nat->Nat}
theorem BcI.start (G:Gr) (n:Nat):BcI G n 0 0 (List.replicate n 0) (List.replicate n 0) (fun _=>0) (fun _=>0) 0:=by
 have hz: ∀v,(List.replicate n (0:Int)).getD v 0=0:=fun v=>by simp[zg,List.getElem?_replicate];split<;>rfl
 exact⟨by simp,by simp,fun v _=>by rw[hz];exact Int.le_refl _,fun v _=>by rw[hz];simp,fun v _=>Nat.zero_le _,fun v _=>Nat.le_refl _,fun v _ h=>absurd h (Nat.lt_irrefl 0),fun k _ _=>⟨fun h=>absurd h (Nat.not_lt_zero _),fun h=>absurd h (Nat.lt_irrefl 0)⟩⟩
theorem BcI.no (h:BcI G n r e d vi L T now) (hs:e<G.es.length->0<G.room e->d.getD (G.toA e) 0<=d.getD (G.frA e) 0+G.cost e):BcI G n r (e+1) d vi L T now:=
 {h with
  lo:=fun v hv=>by have:=h.lo v hv;omega
  ed:=fun k hk hr=>⟨fun hke=>by
   by_cases e2:k=e
   ·subst e2;exact .inl (hs hk hr)
   ·exact(h.ed k hk hr).1 (by omega),(h.ed k hk hr).2⟩}
theorem BcI.yes (hG:G.Ok n) (h:BcI G n r e d vi L T now) (he:e<G.es.length) (hr:0<G.room e) (hd:d.getD (G.frA e) 0+G.cost e<d.getD (G.toA e) 0):
 BcI G n r (e+1) (d.set (G.toA e) (d.getD (G.frA e) 0+G.cost e)) (vi.set (G.toA e) e) (upf L (G.toA e) (r+1)) (upf T (G.toA e) (now+1)) (now+1):=by
 have ht:G.toA e<n:=hG.toL he;have hf:G.frA e<n:=hG.frL he;have hne:G.frA e≠G.toA e:=fun e2=>hG.ne e he e2.symm
 have hcb:=hG.cb e he;have hhi:=h.hi _ ht;have hlo:=h.lo _ hf;generalize hx:d.getD (G.frA e) 0+G.cost e=x at *;have hD: ∀v,(d.set (G.toA e) x).getD v 0=if v=G.toA e then x else d.getD v 0:=fun v=>iX _ _ _ _ (by rw[h.dl];exact ht)
 have hV: ∀v,(vi.set (G.toA e) e).getD v 0=if v=G.toA e then e else vi.getD v 0:=fun v=>DL _ _ _ _ (by rw[h.vl];exact ht)
 have QW: ∀v,(d.set (G.toA e) x).getD v 0<=d.getD v 0:=fun v=>by
  rw[hD];split
  ·rename_i e2;rw[e2];omega
  ·exact Int.le_refl _
 refine⟨by rw[List.length_set];exact h.dl,by rw[List.length_set];exact h.vl,fun v hv=>Int.le_trans (QW v) (h.hi v hv),fun v hv=>?_,fun v hv=>?_,fun v hv=>?_,fun v hv hL=>?_,fun k hk hrk=>?_⟩
 ·rw[hD]
  have:=h.lo v hv
  split<;>omega
 ·unfold upf;split
  ·exact Nat.le_refl _
  ·exact h.lr v hv
 ·unfold upf;split
  ·exact Nat.le_refl _
  ·have:=h.tn v hv;omega
 ·by_cases e2:v=G.toA e
  ·rw[hV,if_pos e2,hD,hD,if_pos e2,if_neg hne]
   refine⟨he,e2.symm,hr,by omega,.inl ?_,?_⟩
   ·unfold upf
    rw[if_neg hne,if_pos e2];have:=h.tn _ hf;omega
   ·unfold upf
    rw[if_pos e2,if_neg hne]
    by_cases h0:0<r
    ·rcases (h.ed e he hr).2 h0 with h1|h1
     ·omega
     ·omega
    ·omega
  ·have hL0:0<L v:=by unfold upf at hL;rw[if_neg e2]at hL;exact hL
   obtain⟨p1,p2,p3,p4,p5,p6⟩:=h.pr v hv hL0;rw[hV,if_neg e2];have hdv:(d.set (G.toA e) x).getD v 0=d.getD v 0:=by rw[hD,if_neg e2]
   rw[hdv];have hle:=QW (G.frA (vi.getD v 0));refine⟨p1,p2,p3,by omega,?_,?_⟩
   ·by_cases e3:G.frA (vi.getD v 0)=G.toA e
    ·right
     rw[hD,if_pos e3];rw[e3]at p4;omega
    ·rcases p5 with p5|p5
     ·left
      unfold upf;rw[if_neg e3,if_neg e2];exact p5
     ·right;omega
   ·unfold upf
    rw[if_neg e2]
    split
    ·have:=h.lr v hv;omega
    ·exact p6
 ·have hk2:=h.ed k hk hrk
  by_cases e3:G.frA k=G.toA e
  ·have hl:upf L (G.toA e) (r+1) (G.frA k)=r+1:=by unfold upf;rw[if_pos e3]
   rw[hl];exact⟨fun _=>.inr (Nat.le_refl _),fun _=>.inr (by omega)⟩
  ·have hl:upf L (G.toA e) (r+1) (G.frA k)=L (G.frA k):=by unfold upf;rw[if_neg e3]
   have hdf:(d.set (G.toA e) x).getD (G.frA k) 0=d.getD (G.frA k) 0:=by rw[hD,if_neg e3]
   have hle:=QW (G.toA k);rw[hl,hdf];refine⟨fun hke=>?_,fun h0=>?_⟩
   ·by_cases e4:k=e
    ·subst e4
     left;rw[hD,if_pos rfl];omega
    ·rcases hk2.1 (by omega)with h1|h1
     ·left;omega
     ·exact .inr h1
   ·rcases hk2.2 h0 with h1|h1
    ·left;omega
    ·exact .inr h1
theorem BcI.next (h:BcI G n r G.es.length d vi L T now):BcI G n (r+1) 0 d vi L T now:=
 {h with
  lo:=fun v hv=>by have:=h.lo v hv;rw[show(r+1)*G.es.length+0=r*G.es.length+G.es.length by rw[Nat.succ_mul];rfl];exact this
  lr:=fun v hv=>by have:=h.lr v hv;omega
  ed:=fun k hk hr=>⟨fun h0=>absurd h0 (Nat.not_lt_zero _),fun _=>(h.ed k hk hr).1 hk⟩}
theorem BcI.fin (h:BcI G n r G.es.length d vi L T now) (hG:G.Ok n) (hl: ∀v,v<n->L v<=r): ∀k,k<G.es.length->0<G.room k->0<=G.rc d k:=fun k hk hr=>by
 rcases (h.ed k hk hr).1 hk with h1|h1
 ·unfold Gr.rc;omega
 ·have:=hl _ (hG.frL hk);omega
def LaI (n r:Nat) (L:Nat->Nat) (x:Int):Prop:=(x= -1/\ ∀v,v<n->L v<=r)∨ ∃v:Nat,v<n/\x=(v:Int)/\L v=r+1
theorem LaI.yes (t:Nat) (ht:t<n):LaI n r (upf L t (r+1)) (t:Int):=.inr ⟨t,ht,rfl,by unfold upf;rw[if_pos rfl]⟩
def itp (f:Nat->Nat):Nat->Nat->Nat
 |0,v=>v
 |q+1,v=>itp f q (f v)
theorem mK (f:Nat->Nat): ∀q v,itp f (q+1) v=f (itp f q v)
 |0,v=>rfl
 |q+1,v=>mK f q (f v)
theorem lK (f:Nat->Nat): ∀a b v,itp f (a+b) v=itp f a (itp f b v)
 |a,0,v=>rfl
 |a,b+1,v=>by
  show itp f (a+b) (f v)=_
  exact lK f a b (f v)
def pv (G:Gr) (vi:List Nat) (v:Nat):Nat:=G.frA (vi.getD v 0)
def ksF (G:Gr) (vi:List Nat):Nat->Nat->List Nat
 |0,_=>[]
 |q+1,v=>vi.getD v 0::ksF G vi q (pv G vi v)
theorem oO (G:Gr) (vi:List Nat): ∀q v,(ksF G vi q v).length=q
 |0,_=>rfl
 |q+1,v=>by simp[ksF,oO G vi q]
theorem oP (G:Gr) (vi:List Nat): ∀q v,ksF G vi (q+1) v=ksF G vi q v++[vi.getD (itp (pv G vi) q v) 0]
 |0,v=>rfl
 |q+1,v=>by
  show vi.getD v 0::ksF G vi (q+1) (pv G vi v)=_
  rw[oP G vi q (pv G vi v)];rfl
theorem Fx (G:Gr) (vi:List Nat): ∀q v k,k∈ksF G vi q v-> ∃j,j<q/\k=vi.getD (itp (pv G vi) j v) 0
 |0,v,k,h=>by simp[ksF]at h
 |q+1,v,k,h=>by
  rcases List.mem_cons.1 h with e|h
  ·exact⟨0,by omega,e⟩
  ·obtain⟨j,hj,e⟩:=Fx G vi q _ k h
   exact⟨j+1,by omega,e⟩
theorem Kb {P:Nat->Prop} (p:Nat) (h:P p): ∃m,m<=p/\P m/\ ∀q,q<m-> ¬P q:=by
 induction p using Nat.strongRecOn with
 |_ p ih=>
  by_cases hx: ∃q,q<p/\P q
  ·obtain⟨q,hq,hp⟩:=hx
   obtain⟨m,h1,h2,h3⟩:=ih q hq hp;exact⟨m,by omega,h2,h3⟩
  ·exact⟨p,Nat.le_refl _,h,fun q hq hp=>hx ⟨q,hq,hp⟩⟩
theorem BcI.back (h:BcI G n (n+1) 0 d vi L T now) (hG:G.Ok n) {v:Nat} (hv:v<n) (hL:L v=n+1): ∀j,j<=n->itp (pv G vi) j v<n/\n+1-j<=L (itp (pv G vi) j v)
 |0,_=>⟨hv,by rw[show itp (pv G vi) 0 v=v from rfl,hL];omega⟩
 |j+1,hj=>by
  have ih:=BcI.back h hG hv hL j (by omega);rw[mK];obtain⟨p1,p2,p3,p4,p5,p6⟩:=h.pr _ ih.1 (by omega);exact⟨hG.frL p1,by show n+1-(j+1)<=L (G.frA (vi.getD (itp (pv G vi) j v) 0));omega⟩
theorem QX {n:Nat} {x:Nat->Nat} (h: ∀j,j<=n->x j<n): ∃i j,i<j/\j<=n/\x i=x j:=by
 apply Classical.byContradiction;intro hc;have hne: ∀i j,i<j->j<=n->x i≠x j:=fun i j h1 h2 h3=>hc ⟨i,j,h1,h2,h3⟩
 have hnd:((List.range (n+1)).map x).Nodup:=by
  unfold List.Nodup;rw[List.pairwise_map];exact(List.pairwise_lt_range (n:=n+1)).imp_of_mem (fun {a b} ha hb hab=>hne a b hab (by have:=List.mem_range.1 hb;omega))
 have:=hnd.length_le_of_subset (l₂:=List.range n) (fun v hv=>by
  obtain⟨j,hj,e⟩:=List.mem_map.1 hv;rw[<-e];exact List.mem_range.2 (h j (by have:=List.mem_range.1 hj;omega)))
 simp at this;omega
structure CyI (G:Gr) (n:Nat) (vi:List Nat) (L:Nat->Nat) (z p:Nat):Prop where
 p1:1<=p/\p<=n
 cl:itp (pv G vi) p z=z
 mn: ∀q,1<=q->q<p->itp (pv G vi) q z≠z
 nd: ∀q,itp (pv G vi) q z<n/\0<L (itp (pv G vi) q z)
theorem BcI.cyc (h:BcI G n (n+1) 0 d vi L T now) (hG:G.Ok n) {v:Nat} (hv:v<n) (hL:L v=n+1): ∃p,CyI G n vi L (itp (pv G vi) n v) p:=by
 have hb:=h.back hG hv hL;obtain⟨i,j,hij,hjn,he⟩:=QX (fun q hq=>(hb q hq).1);have Ul: ∀k,i<=k->itp (pv G vi) (k+(j-i)) v=itp (pv G vi) k v:=fun k hk=>by
  have e1:k+(j-i)=(k-i)+j:=by omega
  have e2:itp (pv G vi) k v=itp (pv G vi) ((k-i)+i) v:=by rw[show k-i+i=k by omega]
  rw[e2,e1,lK,lK,he]
 have hall: ∀k,∃m,m<=n/\itp (pv G vi) k v=itp (pv G vi) m v:=fun k=>by
  induction k using Nat.strongRecOn with
  |_ k ih=>
   by_cases hk:k<=n
   ·exact⟨k,hk,rfl⟩
   ·obtain⟨m,h1,h2⟩:=ih (k-(j-i)) (by omega)
    refine⟨m,h1,?_⟩;rw[<-h2,<-Ul (k-(j-i)) (by omega),show k-(j-i)+(j-i)=k by omega]
 have hnd: ∀q,itp (pv G vi) q (itp (pv G vi) n v)<n/\0<L (itp (pv G vi) q (itp (pv G vi) n v)):=fun q=>by
  rw[<-lK];obtain⟨m,h1,h2⟩:=hall (q+n);rw[h2];have:=hb m h1;exact⟨this.1,by omega⟩
 have hcl:itp (pv G vi) (j-i) (itp (pv G vi) n v)=itp (pv G vi) n v:=by
  rw[<-lK,show(j-i)+n=n+(j-i) by omega];exact Ul n (by omega)
 obtain⟨m,h1,⟨h2,h3⟩,h4⟩:=Kb (P:=fun p=>1<=p/\itp (pv G vi) p (itp (pv G vi) n v)=itp (pv G vi) n v) (j-i) ⟨by omega,hcl⟩;exact⟨m,⟨h2,by omega⟩,h3,fun q hq hqm e=>h4 q hqm ⟨hq,e⟩,hnd⟩
def Tr (G:Gr):Nat->List Nat->Nat->Prop
 |v,[],s=>v=s
 |v,k::ks,s=>k<G.es.length/\G.toA k=v/\Tr G (G.frA k) ks s
theorem Tr.alike {G G':Gr} {s:Nat} (ha:Alike G G'): ∀{ks:List Nat} {v:Nat},Tr G v ks s->Tr G' v ks s
 |[],v,h=>h
 |k::ks,v,h=>⟨by rw[ha.le];exact h.1,by rw[ha.toA];exact h.2.1,by rw[ha.frA];exact Tr.alike ha h.2.2⟩
theorem P9 {x:Int} {s:Nat}: ∀{ks:List Nat} {G:Gr} {v:Nat},Tr G v ks s->wM G-> ∀u,(G.pushL ks x).lf u=G.lf u-(if u=s then x else 0)+(if u=v then x else 0)
 |[],G,v,h,_,u=>by rw[show v=s from h];show G.lf u=_;split<;>omega
 |k::ks,G,v,h,hb,u=>by
  have hbk:=hb k h.1;have ha:=dY (x:=x) h.1 hbk.2.2;have e0:=oq (x:=x) hbk.2.1 hbk.1 u;have e1:=P9 (x:=x) (ks:=ks) (G:=G.push1 k x) (v:=G.frA k) (h.2.2.alike ha) (hb.alike ha) u
  show((G.push1 k x).pushL ks x).lf u=_
  rw[e1,e0,h.2.1];omega
def sumK (G:Gr):List Nat->Int
 |[]=>0
 |k::ks=>G.cost k+sumK G ks
theorem Qa (h:BcI G n r e d vi L T now) (hG:G.Ok n): ∀q v,(∀j,j<=q->itp (pv G vi) j v<n/\0<L (itp (pv G vi) j v))->Tr G v (ksF G vi q v) (itp (pv G vi) q v)/\(∀k,k∈ksF G vi q v->k<G.es.length/\0<G.room k)/\
 d.getD (itp (pv G vi) q v) 0+sumK G (ksF G vi q v)<=d.getD v 0/\(q=0∨T (itp (pv G vi) q v)<T v∨d.getD (itp (pv G vi) q v) 0+sumK G (ksF G vi q v)<d.getD v 0)
 |0,v,_=>⟨rfl,fun k hk=>by simp[ksF]at hk,by show d.getD v 0+0<=_;omega,.inl rfl⟩
 |q+1,v,hn=>by
  have ih:=Qa h hG q (pv G vi v) (fun j hj=>hn (j+1) (by omega));obtain⟨p1,p2,p3,p4,p5,p6⟩:=h.pr v (hn 0 (by omega)).1 (hn 0 (by omega)).2;refine⟨⟨p1,p2,ih.1⟩,fun k hk=>?_,?_,?_⟩
  ·rcases List.mem_cons.1 hk with rfl|hk
   ·exact⟨p1,p3⟩
   ·exact ih.2.1 k hk
  ·have h1:=ih.2.2.1
   show d.getD (itp (pv G vi) q (pv G vi v)) 0+(G.cost (vi.getD v 0)+sumK G (ksF G vi q (pv G vi v)))<=_
   unfold pv at h1 ⊢;omega
  ·right
   have h1:=ih.2.2.1
   show T (itp (pv G vi) q (pv G vi v))<T v∨d.getD (itp (pv G vi) q (pv G vi v)) 0+(G.cost (vi.getD v 0)+sumK G (ksF G vi q (pv G vi v)))<_
   have h3:=ih.2.2.2
   rcases h3 with h3|h3|h3
   ·subst h3
    rcases p5 with p5|p5
    ·left;exact p5
    ·right;unfold pv at h1 ⊢;simp only[ksF,sumK,itp]at h1 ⊢;omega
   ·rcases p5 with p5|p5
    ·left;unfold pv at h3 ⊢;omega
    ·right;unfold pv at h1 ⊢;omega
   ·right;unfold pv at h3 ⊢;omega
structure Cyc (G:Gr) (n:Nat) (ks:List Nat):Prop where
 l0:0<ks.length
 ln:ks.length<=n
 nd:ks.Nodup
 rm: ∀k,k∈ks->k<G.es.length/\0<G.room k
 tr: ∃z,z<n/\Tr G z ks z
 neg:sumK G ks<0
theorem CyI.cyc {z p:Nat} (c:CyI G n vi L z p) (h:BcI G n r e d vi L T now) (hG:G.Ok n):Cyc G n (ksF G vi p z):=by
 have ht:=Qa h hG p z (fun j _=>c.nd j);rw[c.cl]at ht;refine⟨by rw[oO];exact c.p1.1,by rw[oO];exact c.p1.2,?_,ht.2.1,⟨z,(c.nd 0).1,ht.1⟩,?_⟩
 ·have hne: ∀a b,a<b->b<p->itp (pv G vi) a z≠itp (pv G vi) b z:=fun a b hab hbp e2=>by
   apply c.mn (a+(p-b)) (by omega) (by omega);have e3:itp (pv G vi) (p-b) (itp (pv G vi) b z)=z:=by rw[<-lK,show p-b+b=p by omega];exact c.cl
   rw[<-e2,<-lK]at e3;rw[show a+(p-b)=p-b+a by omega];exact e3
  have key: ∀q,q<=p->(ksF G vi q z).Nodup:=fun q=>by
   induction q with
   |zero=>intro _;exact List.nodup_nil
   |succ q ih=>
    intro hq;rw[oP,List.nodup_append];refine⟨ih (by omega),by simp,fun a ha b hb=>?_⟩;rw[List.mem_singleton]at hb;rw[hb];obtain⟨j,hj,e2⟩:=Fx G vi q z a ha;rw[e2];intro e3;have t1:=(h.pr _ (c.nd j).1 (c.nd j).2).2.1;have t2:=(h.pr _ (c.nd q).1 (c.nd q).2).2.1;rw[e3,t2]at t1;exact hne j q hj (by omega) t1.symm
  exact key p (Nat.le_refl _)
 ·rcases ht.2.2.2 with h1|h1|h1
  ·have:=c.p1.1;omega
  ·omega
  ·omega
end
def edC (N:Net) (k:Nat):Int:=if k%2=0 then (N.arcs.getD (k/2) default).cost else -(N.arcs.getD (k/2) default).cost
def reC (N:Net) (G:Gr):Gr:={G with es:=(List.range G.es.length).map fun k=>{(G.es.getD k default)with cost:=edC N k}}
theorem iQ (N:Net) (G:Gr):(reC N G).es.length=G.es.length:=by simp[reC]
theorem rP (N:Net) (G:Gr) (k:Nat):((reC N G).es.getD k default).to=(G.es.getD k default).to/\((reC N G).es.getD k default).room=(G.es.getD k default).room/\(k<G.es.length->((reC N G).es.getD k default).cost=edC N k):=by
 by_cases h:k<G.es.length
 ·have e:(reC N G).es.getD k default={(G.es.getD k default)with cost:=edC N k}:=by
   rw[zg];simp[reC,h]
  rw[e];exact⟨rfl,rfl,fun _=>rfl⟩
 ·have e:(reC N G).es.getD k default=G.es.getD k default:=by
   rw[zg,zg,List.getElem?_eq_none (by rw[iQ];omega),List.getElem?_eq_none (by omega)]
  rw[e];exact⟨rfl,rfl,fun h2=>absurd h2 h⟩
theorem rQ (N:Net) (G:Gr) (k:Nat):(reC N G).toA k=G.toA k:=by unfold Gr.toA;rw[(rP N G k).1]
theorem xU (N:Net) (G:Gr) (k:Nat):(reC N G).frA k=G.frA k:=rQ N G (tw k)
theorem kW (N:Net) (G:Gr) (k:Nat):(reC N G).room k=G.room k:=(rP N G k).2.1
theorem mM (N:Net) (G:Gr) (k:Nat) (hk:k<G.es.length):(reC N G).cost k=edC N k:=(rP N G k).2.2 hk
theorem QY (N:Net) (k:Nat):edC N (tw k)= -edC N k:=by
 unfold edC tw
 by_cases h:k%2=0
 ·rw[if_pos h,if_neg (by omega),if_pos h,show(k+1)/2=k/2 by omega]
 ·rw[if_neg h,if_pos (by omega),if_neg h,show(k-1)/2=k/2 by omega];omega
theorem QZ {N:Net} {G:Gr} {n:Nat} (h:chE N=0) (hG:G.Ok n) (hf:xQ N G):(reC N G).Ok n:=
 {n1:=hG.n1
  ll:=hG.ll
  lo:=hG.lo
  le:=by rw[iQ];exact hG.le
  ev:=by rw[iQ];exact hG.ev
  «to»:=fun k hk=>by rw[iQ]at hk;rw[(rP N G k).1];exact hG.to k hk
  ne:=fun k hk=>by rw[iQ]at hk;rw[rQ,xU];exact hG.ne k hk
  co:=fun k hk=>by rw[iQ]at hk;rw[mM _ _ _ hk,mM _ _ _ (hG.tl hk),QY]
  cb:=fun k hk=>by
   rw[iQ]at hk;rw[mM _ _ _ hk];have ha:=bX h (k/2) (by have:=hf.es;omega);unfold edC
   split<;>omega
  rm:=fun k hk=>by rw[iQ]at hk;rw[kW,kW];exact hG.rm k hk
  lb:=hG.lb
  o1:=fun v hv x hx=>by rw[iQ,xU];exact hG.o1 v hv x hx
  o2:=fun k hk=>by rw[iQ]at hk;rw[xU];exact hG.o2 k hk
  o3:=hG.o3}
theorem Kc {N:Net} {G:Gr} (hf:Fits (zcN N) G):Fits N (reC N G):=by
 have hz:=hf.z;refine⟨by rw[iQ];exact hz.es,hf.ll,fun i hi=>by rw[rQ,rQ];exact hz.t0 i hi,fun i hi=>?_,fun i hi=>by rw[kW,kW];exact hz.r0 i hi,fun v hv=>?_⟩
 ·have hl:=hz.es
  rw[mM _ _ _ (by omega),mM _ _ _ (by omega)];unfold edC;rw[if_pos (by omega),if_neg (by omega),show 2*i/2=i by omega,show(2*i+1)/2=i by omega];exact⟨rfl,rfl⟩
 ·have h1:=hf.lf v hv
  rw[show(reC N G).lf v=G.lf v from rfl,h1,fH];have key: ∀k,k<=N.arcs.length->lv (zcN N) (fun j=>G.room (2*j+1)) k v=lv N (fun j=>(reC N G).room (2*j+1)) k v:=fun k=>by
   induction k with
   |zero=>intro _;rfl
   |succ k ih=>
    intro hk;simp only[lv];rw[ih (by omega),kW];have e1:toN (zcN N) k=toN N k:=by unfold toN;rw[iK (by omega)];rfl
    have e2:frN (zcN N) k=frN N k:=by unfold frN;rw[iK (by omega)];rfl
    rw[e1,e2]
  exact key _ (Nat.le_refl _)
theorem Ke (N:Net) (G:Gr):aR N (reC N G)=aR N G:=by
 unfold aR;apply List.map_congr_left;intro i _;rw[kW]
theorem vX {N:Net} {fl:List Int} {i:Nat} {v:Int} (hi:i<fl.length): ∀k,aV N (fl.set i v) k=aV N fl k+(if i<k then (v-fl.getD i 0)*(N.arcs.getD i default).cost else 0)
 |0=>by simp[aV]
 |k+1=>by
  simp only[aV];rw[vX hi k,iX _ _ _ _ hi]
  by_cases e:k=i
  ·subst e
   rw[if_pos rfl,if_neg (by omega),if_pos (by omega),Int.sub_mul];omega
  ·rw[if_neg e]
   by_cases e2:i<k
   ·rw[if_pos e2,if_pos (by omega)];omega
   ·rw[if_neg e2,if_neg (by omega)];omega
theorem DN {N:Net} {G:Gr} {k:Nat} {x:Int} (hf:Fits N G) (hk:k<G.es.length):aV N (aR N (G.push1 k x)) N.arcs.length=aV N (aR N G) N.arcs.length+x*G.cost k:=by
 have hl:=hf.es;have hi:k/2<N.arcs.length:=by omega
 rw[qf hl (by omega),vX (by rw[gG];exact hi),if_pos hi,fG hi];have hc:=hf.c0 (k/2) hi
 rcases Nat.mod_two_eq_zero_or_one k with e|e
 ·have e2:G.cost k=(N.arcs.getD (k/2) default).cost:=by rw[<-hc.1];congr 1;omega
  rw[e2,if_neg (by omega)]
  congr 1
  congr 1
  omega
 ·have e2:G.cost k= -(N.arcs.getD (k/2) default).cost:=by rw[<-hc.2];congr 1;omega
  rw[e2,if_pos e,Int.mul_neg,<-Int.neg_mul]
  congr 1
  congr 1
  omega
theorem uR {G G':Gr} (ha:Alike G G'): ∀ks,sumK G' ks=sumK G ks
 |[]=>rfl
 |k::ks=>by simp only[sumK];rw[ha.cost,uR ha ks]
theorem uS {N:Net} {x:Int}: ∀{ks:List Nat} {G:Gr},Fits N G->wM G->(∀k,k∈ks->k<G.es.length)->aV N (aR N (G.pushL ks x)) N.arcs.length=aV N (aR N G) N.arcs.length+x*sumK G ks
 |[],G,_,_,_=>by show aV N (aR N G) _=_+x*0;omega
 |k::ks,G,hf,hb,hk=>by
  have hk0:=hk k (by simp);have ha:=dY (x:=x) hk0 (hb k hk0).2.2;have ih:=uS (x:=x) (ks:=ks) (hf.push1 hb x hk0) (hb.alike ha) (fun j hj=>by rw[ha.le];exact hk j (by simp[hj]))
  show aV N (aR N ((G.push1 k x).pushL ks x)) _=_
  rw[ih,DN hf hk0,uR ha];simp only[sumK];rw[Int.mul_add];omega
theorem Cyc.ok {G:Gr} {n:Nat} {ks:List Nat} {x:Int} (c:Cyc G n ks) (hG:G.Ok n) (h0:0<=x) (hx: ∀k,k∈ks->x<=G.room k):(G.pushL ks x).Ok n/\ ∀v,(G.pushL ks x).lf v=G.lf v:=by
 have hk: ∀k,k∈ks->k<G.es.length/\tw k<G.es.length:=fun k hk=>⟨(c.rm k hk).1,hG.tl (c.rm k hk).1⟩
 have ha:=cZ (x:=x) hk;obtain⟨z,hz,ht⟩:=c.tr;have hlf: ∀v,(G.pushL ks x).lf v=G.lf v:=fun v=>by rw[P9 ht hG.fine v];split<;>omega
 have hr: ∀j,(G.pushL ks x).room j=G.room j-(if j∈ks then x else 0)+(if tw j∈ks then x else 0):=fun j=>by
  rw[ik hk j,c.nd.count,c.nd.count]
  by_cases h1:j∈ks<;>by_cases h2:tw j∈ks<;>simp[h1,h2]
 refine⟨?_,hlf⟩;exact
 {n1:=hG.n1
  ll:=by rw[ha.ll];exact hG.ll
  lo:=by rw[ha.outs];exact hG.lo
  le:=by rw[ha.le];exact hG.le
  ev:=by rw[ha.le];exact hG.ev
  «to»:=fun k hk=>by rw[ha.to];rw[ha.le]at hk;exact hG.to k hk
  ne:=fun k hk=>by rw[ha.toA,ha.frA];rw[ha.le]at hk;exact hG.ne k hk
  co:=fun k hk=>by rw[ha.cost,ha.cost];rw[ha.le]at hk;exact hG.co k hk
  cb:=fun k hk=>by rw[ha.cost];rw[ha.le]at hk;exact hG.cb k hk
  rm:=fun k hk=>by
   rw[ha.le]at hk;have h1:=hG.rm k hk;rw[hr k,hr (tw k),lN]
   by_cases a:k∈ks
   ·have:=hx k a
    rw[if_pos a]
    split<;>omega
   ·rw[if_neg a]
    split<;>omega
  lb:=fun v hv=>by rw[hlf v];exact hG.lb v hv
  o1:=fun v hv y hy=>by
   rw[ha.outs]at hy;rw[ha.le,ha.frA];exact hG.o1 v hv y hy
  o2:=fun k hk=>by
   rw[ha.le]at hk;rw[ha.outs,ha.frA];exact hG.o2 k hk
  o3:=fun v hv=>by rw[ha.outs];exact hG.o3 v hv}
end Dp
end Go.Proofs.Ytmebpglkeedaoaa
namespace Go.Proofs.Ytmebpglkeedaoaa
open Go.RowKit Dp
namespace Dp
def rsK (l:List Int) (k:Nat):Int:=bZ (fun _=>1) (fun v=>max 0 (l.getD v 0)) k
theorem Kg (l:List Int) (k:Nat):rsK l (k+1)=rsK l k+max 0 (l.getD k 0):=by simp only[rsK,bZ];omega
theorem Nj (l:List Int):rsK l l.length=dA l:=(jJ l).symm
end Dp
open Dp
theorem Kh (A B:Option Addr) (N:Net) (G:Gr) (m n cA cB k:Nat) (w:World) (hm:m=N.arcs.length) (hch:chE N=0) (hf:xQ N G) (hk:k<2*m)
 (hB:m<=cB/\cB<=9223372036854775807) (hN:dm w A B N):
 Calls Try.prog 100 #[.agg #[.slice A n cA,.slice B m cB],.agg #[.int .i64 ((k/2:Nat):Int),.bool (decide (k%2=1))]] w fun e w'=>e=.returned (.int .i64 (G.frA k:Nat))/\Below w.heap.size w w':=by
 have m2:m<=2048:=by rw[hm];exact(bV hch).2.2
 have hi:k/2<m:=by omega
 have HFR:=zh (hf.fr (k/2) (by rw[<-hm];exact hi));have hm2:k%2=0∨k%2=1:=by omega
 have hke:k=2*(k/2)+k%2:=by omega
 have HKR:Hid (G.frA k=if k%2=1 then toN N (k/2)else frN N (k/2)):=zh (by
  rcases hm2 with e|e
  ·rw[if_neg (by omega),hke,e,show(2*(k/2)+0)/2=k/2 by omega];exact HFR.1
  ·rw[if_pos e,hke,e,show(2*(k/2)+1)/2=k/2 by omega];exact HFR.2)
 clear HFR hke;have hpb:=xR hm hch hN;clear hm hch hf hN hk;generalize G.frA k=x at *;generalize k/2=i at *;obtain⟨pb,rfl,_⟩:=hpb w (Below.refl _ _) i hi;have HPB:=zh hpb;clear hpb;have hii:(i:Int)<(m:Int):=by omega
 have key: ∀bk:Bool,decide (k%2=1)=bk->x=(if bk=true then toN N i else frN N i)->Calls Try.prog 100 #[.agg #[.slice A n cA,.slice (some pb) m cB],.agg #[.int .i64 (i:Int),.bool bk]] w fun e w'=>e=.returned (.int .i64 (x:Nat))/\Below w.heap.size w w':=by
  intro bk _ hx;have HX:=zh hx;clear hx HKR;have HB:=zh (((Below.refl w.heap.size w).alloc (Nat.le_refl _) (.cells #[.slice A n cA,.slice (some pb) m cB] 25)).alloc (by simp) (.cells #[.int .i64 (i:Int),.bool bk] 150));have XN:=zh ((Blk.new' w #[.slice A n cA,.slice (some pb) m cB] 25).alloc (.cells #[.int .i64 (i:Int),.bool bk] 150));have XS:=zh (show Blk ((w.alloc (.cells #[.slice A n cA,.slice (some pb) m cB] 25)).alloc (.cells #[.int .i64 (i:Int),.bool bk] 150)) (w.heap.size+1) 150 [.int .i64 (i:Int),.bool bk]from by simpa using Blk.new' (w.alloc (.cells #[.slice A n cA,.slice (some pb) m cB] 25)) #[.int .i64 (i:Int),.bool bk] 150);go_enter Try.func100,Try.ntmps100;go_upto_region 1 with fail
  generalize (w.alloc (.cells #[.slice A n cA,.slice (some pb) m cB] 25)).alloc (.cells #[.int .i64 (i:Int),.bool bk] 150)=w1 at HB XN XS ⊢;obtain⟨pb2,epb,ab,a0,a1,_,_⟩:=HPB.out _ HB.out i hi
  cases epb
  have x0:=XN.cell 0 rfl;have x1:=XN.cell 1 rfl;have xl:=XN.lt;have y0:=XS.cell 0 rfl;have y1:=XS.cell 1 rfl;have yl:=XS.lt
  cases bk with
  |false=>
   have HR:Hid (frN N i=x):=zh (by have:=HX.out;simpa using this.symm);go_wp2_with fail
   go_ret;exact⟨ah (by rw[HR.out]),HB.out⟩
  |true=>
   have HR:Hid (toN N i=x):=zh (by have:=HX.out;simpa using this.symm);go_wp2_with fail
   go_ret;exact⟨ah (by rw[HR.out]),HB.out⟩
 exact key _ rfl (by rw[HKR.out];simp only[decide_eq_true_eq])
end Go.Proofs.Ytmebpglkeedaoaa
namespace Go.Proofs.Ytmebpglkeedaoaa
open Go.RowKit Dp
theorem Ki (vi:List Nat) (v:Nat) (hv:v<vi.length):(vi.map stK).getD v (0,false)=stK (vi.getD v 0):=by
 rw[zg,List.getElem?_map,zg,List.getElem?_eq_getElem hv];rfl
section
variable {W V:World} {gd gc ga:Nat} {d:List Int} {vi:List Nat} {cv av:List Value} {w:World}
structure CyM (w:World) (gd gc:Nat) (cv:List Value) (d:List Int) (vi:List Nat) (W:World):Prop where
 d:Fl 2 W gd d
 c:Blk W gc 150 (flat stC (vi.map stK))
 x:Blk W w.heap.size 25 cv
 gd:w.heap.size<=gd
 gc:w.heap.size<=gc
 bel:Below w.heap.size w W
theorem CyM.below (h:CyM w gd gc cv d vi W) (hb:Below W.heap.size W V):CyM w gd gc cv d vi V:=
 ⟨h.d.below hb,h.c.below hb h.c.lt,h.x.below hb h.x.lt,h.gd,h.gc,h.bel.trans (hb.mono h.bel.size)⟩
theorem CyM.cell (h:CyM w gd gc cv d vi W) {v:Nat} (hv:v<vi.length):W.cell? ⟨gc,v*2,none⟩=some (.int .i64 (stK (vi.getD v 0)).1)/\W.cell? ⟨gc,v*2+1,none⟩=some (.bool (stK (vi.getD v 0)).2):=by
 have hg:=bL (vi.map stK) v (0,false) (by rw[List.length_map];exact hv);rw[Ki vi v hv]at hg;exact⟨h.c.cell (v*2) (fD (f:=stC) (s:=2) ic _ v 0 _ hg (by omega)),h.c.cell (v*2+1) (fD (f:=stC) (s:=2) ic _ v 1 _ hg (by omega))⟩
theorem CyM.put (h:CyM w gd gc cv d vi W) (v:Nat) (x:Int):CyM w gd gc cv (d.set v x) vi (W.setCell ⟨gd,v,none⟩ (.int .i64 x)):=
 ⟨h.d.put v x,h.c.setCell_ne (p:=⟨gd,v,none⟩) (fun e=>ae h.c h.d (by decide) e.symm) _,h.x.setCell_ne (p:=⟨gd,v,none⟩) (fun e=>ae h.x h.d (by decide) e.symm) _,h.gd,h.gc,h.bel.setCell (p:=⟨gd,v,none⟩) h.gd _⟩
theorem CyM.come (h:CyM w gd gc cv d vi W) {v:Nat} (hv:v<vi.length) (k:Nat):CyM w gd gc cv d (vi.set v k) ((W.setCell ⟨gc,v*2,none⟩ (.int .i64 (stK k).1)).setCell ⟨gc,v*2+1,none⟩ (.bool (stK k).2)):=by
 have hv2:v<(vi.map stK).length:=by rw[List.length_map];exact hv
 have hg:=bL (vi.map stK) v (0,false) hv2;have e1:=kL (f:=stC) (s:=2) ic 0 (.int .i64 (stK k).1) (by omega) (vi.map stK) v ((stK k).1,((vi.map stK).getD v (0,false)).2) _ hg rfl;have hg2:((vi.map stK).set v ((stK k).1,((vi.map stK).getD v (0,false)).2))[v]?=some ((stK k).1,((vi.map stK).getD v (0,false)).2):=List.getElem?_set_self hv2;have e2:=kL (f:=stC) (s:=2) ic 1 (.bool (stK k).2) (by omega) ((vi.map stK).set v ((stK k).1,((vi.map stK).getD v (0,false)).2)) v (stK k) _ hg2 rfl;rw[List.set_set]at e2;have hc:=(h.c.setCell (v*2) (.int .i64 (stK k).1)).setCell (v*2+1) (.bool (stK k).2);rw[Nat.add_zero]at e1;rw[e1,e2,<-List.map_set]at hc;exact⟨(h.d.set_ne (p:=⟨gc,v*2,none⟩) (fun e=>ae h.d h.c (by decide) e.symm) _).set_ne (p:=⟨gc,v*2+1,none⟩) (fun e=>ae h.d h.c (by decide) e.symm) _,hc,
  (h.x.setCell_ne (p:=⟨gc,v*2,none⟩) (fun e=>ae h.x h.c (by decide) e.symm) _).setCell_ne (p:=⟨gc,v*2+1,none⟩) (fun e=>ae h.x h.c (by decide) e.symm) _,h.gd,h.gc,(h.bel.setCell (p:=⟨gc,v*2,none⟩) h.gc _).setCell (p:=⟨gc,v*2+1,none⟩) h.gc _⟩
structure CyX (w:World) (gd gc:Nat) (cv:List Value) (d:List Int) (vi:List Nat) (ga:Nat) (av:List Value) (W:World):Prop where
 m:CyM w gd gc cv d vi W
 y:Blk W ga 46 av
theorem CyX.below (h:CyX w gd gc cv d vi ga av W) (hb:Below W.heap.size W V):CyX w gd gc cv d vi ga av V:=⟨h.m.below hb,h.y.below hb h.y.lt⟩
theorem CyX.put (h:CyX w gd gc cv d vi ga av W) (v:Nat) (x:Int):CyX w gd gc cv (d.set v x) vi ga av (W.setCell ⟨gd,v,none⟩ (.int .i64 x)):=
 ⟨h.m.put v x,h.y.setCell_ne (p:=⟨gd,v,none⟩) (fun e=>ae h.y h.m.d (by decide) e.symm) _⟩
theorem CyX.come (h:CyX w gd gc cv d vi ga av W) {v:Nat} (hv:v<vi.length) (k:Nat):CyX w gd gc cv d (vi.set v k) ga av ((W.setCell ⟨gc,v*2,none⟩ (.int .i64 (stK k).1)).setCell ⟨gc,v*2+1,none⟩ (.bool (stK k).2)):=
 ⟨h.m.come hv k,(h.y.setCell_ne (p:=⟨gc,v*2,none⟩) (fun e=>ae h.y h.m.c (by decide) e.symm) _).setCell_ne (p:=⟨gc,v*2+1,none⟩) (fun e=>ae h.y h.m.c (by decide) e.symm) _⟩
end
namespace Dp
section
variable {G:Gr} {n r now:Nat} {d:List Int} {vi:List Nat} {L T:Nat->Nat}
theorem BcI.go1 {i fr tn:Nat} {co:Int} (hG:G.Ok n) (h:BcI G n r (2*i) d vi L T now) (he:2*i<G.es.length) (h1:G.toA (2*i)=tn) (h2:G.frA (2*i)=fr) (h3:G.cost (2*i)=co) (hr:0<G.room (2*i)) (hd:d.getD fr 0+co<d.getD tn 0):
 BcI G n r (2*i+1) (d.set tn (d.getD fr 0+co)) (vi.set tn (2*i)) (upf L tn (r+1)) (upf T tn (now+1)) (now+1):=by
 subst h1 h2 h3;exact h.yes hG he hr hd
theorem BcI.go2 {i fr tn:Nat} {co:Int} (hG:G.Ok n) (h:BcI G n r (2*i+1) d vi L T now) (he:2*i+1<G.es.length) (h1:G.toA (2*i+1)=fr) (h2:G.frA (2*i+1)=tn) (h3:G.cost (2*i+1)= -co) (hr:0<G.room (2*i+1)) (hd:d.getD tn 0-co<d.getD fr 0):
 BcI G n r (2*(i+1)) (d.set fr (d.getD tn 0-co)) (vi.set fr (2*i+1)) (upf L fr (r+1)) (upf T fr (now+1)) (now+1):=by
 subst h1 h2;have h4:=h.yes hG he hr (by rw[h3];omega);rw[h3,show d.getD (G.frA (2*i+1)) 0+ -co=d.getD (G.frA (2*i+1)) 0-co by omega]at h4;exact h4
theorem BcI.bd {e:Nat} (h:BcI G n r e d vi L T now) (hr:r<=1024) (hes:G.es.length<=4096) (he:e<=4096): ∀v,v<n-> -4402341478400<=d.getD v 0/\d.getD v 0<=0:=fun v hv=>by
 have h1:=h.lo v hv;have h2:=h.hi v hv;have h3:=Nat.mul_le_mul hr hes;omega
end
end Dp
def Kj (G:Gr) (n:Nat) (w:World) (e:Ending) (w':World):Prop:=
 (∃(gd:Nat) (d:List Int),e=.returned (.tuple #[.slice none 0 0,.slice (some ⟨gd,0,none⟩) n n])/\ ∀k,k<G.es.length->0<G.room k->0<=G.rc d k)∨
 (∃(g c nk:Nat) (ks:List Nat),e=.returned (.tuple #[.slice (some ⟨g,0,none⟩) nk c,.slice none 0 0])/\nk=ks.length/\bB stC 150 2 w.heap.size w' (some ⟨g,0,none⟩) c (ks.reverse.map stK)/\Cyc G n ks)
theorem Nk (A B F:Option Addr) (N:Net) (G:Gr) (n m cA cB cF:Nat) (w:World) (hn:n=N.sup.length) (hm:m=N.arcs.length) (hch:chE N=0) (hG:G.Ok n) (hf:Fits N G)
 (hA:n<=cA/\cA<=9223372036854775807) (hB:m<=cB/\cB<=9223372036854775807) (hF:m<=cF/\cF<=9223372036854775807) (hN:dm w A B N) (hFl:aH w F (aR N G)):
 Calls Try.prog 67 #[.agg #[.slice A n cA,.slice B m cB],.slice F m cF] w fun e w'=>Kj G n w e w'/\Below w.heap.size w w':=by
 have n1:1<=n/\n<=1024:=hG.n1;have m2:m<=2048:=by rw[hm];exact(bV hch).2.2
 have HG:=zh hG;have HES:Hid (G.es.length=2*m):=zh (by rw[hf.es,hm]);have HAR:=zh (xR hm hch hN);have HFL:=zh (JW hm hFl);have HTA:Hid (∀i,i<m->((G.toA (2*i)=toN N i/\G.toA (2*i+1)=frN N i)/\G.frA (2*i)=frN N i/\G.frA (2*i+1)=toN N i)/\(G.cost (2*i)=(N.arcs.getD i default).cost/\G.cost (2*i+1)= -(N.arcs.getD i default).cost)/\G.room (2*i)+G.room (2*i+1)=(N.arcs.getD i default).cap/\(-1048576<=(N.arcs.getD i default).cost/\(N.arcs.getD i default).cost<=1048576)/\frN N i<n/\toN N i<n):=zh (fun i hi=>by
  have hi2:i<N.arcs.length:=by rw[<-hm];exact hi
  have he:=dZ hch i hi2;exact⟨⟨hf.t0 i hi2,hf.fr i hi2⟩,hf.c0 i hi2,hf.r0 i hi2,(bX hch i hi2).2.2.2.2,by rw[hn];exact he.2.2.1,by rw[hn];exact he.2.2.2⟩)
 have BC:Hid (∀V,Below w.heap.size w V-> ∀k,k<2*m->Calls Try.prog 100 #[.agg #[.slice A n cA,.slice B m cB],.agg #[.int .i64 ((k/2:Nat):Int),.bool (decide (k%2=1))]] V fun e w'=>e=.returned (.int .i64 (G.frA k:Nat))/\Below V.heap.size V w'):=zh (fun V hV k hk=>Kh A B N G m n cA cB k V hm hch hf.f hk hB (hN.below hV (Nat.le_refl _)));clear hn hm hch hG hf hN hFl;have VF:=gZ n (by omega);have Uh:=tH n (by omega);obtain⟨i150,Nf,Ng,Nh,Ni⟩:=info_parts wW;have M0:Hid (CyM w (w.heap.size+1) (w.heap.size+1+1) [.slice A n cA,.slice B m cB] (List.replicate n 0) (List.replicate n 0) (((w.alloc (.cells #[.slice A n cA,.slice B m cB] 25)).alloc (.cells (Array.replicate n (.int .i64 0)) 2)).alloc (.cells (flat stC (List.replicate n ((0:Int),false))).toArray 150))):=zh (by
  have x1:=Blk.new' w #[.slice A n cA,.slice B m cB] 25;have x2:=Blk.new' (w.alloc (.cells #[.slice A n cA,.slice B m cB] 25)) (Array.replicate n (.int .i64 0)) 2;have x3:=Blk.new' ((w.alloc (.cells #[.slice A n cA,.slice B m cB] 25)).alloc (.cells (Array.replicate n (.int .i64 0)) 2)) (flat stC (List.replicate n ((0:Int),false))).toArray 150;refine⟨?_,?_,(x1.alloc _).alloc _,by omega,by omega,(((Below.refl w.heap.size w).alloc (Nat.le_refl _) _).alloc (by simp) _).alloc (by simp;omega) _⟩
  ·unfold Fl;simpa using x2.alloc (.cells (flat stC (List.replicate n ((0:Int),false))).toArray 150)
  ·rw[List.map_replicate,show stK 0=((0:Int),false)from rfl];simpa using x3)
 have xc0:=zh (Blk.new' w #[.slice A n cA,.slice B m cB] 25);go_enter Try.func67,Try.ntmps67;go_upto_region 1 with fail
 have y0:=xc0.cell 0 rfl;have yl:=xc0.lt;go_upto_region 4 with fail
 clear y0 yl xc0;generalize ((w.alloc (.cells #[.slice A n cA,.slice B m cB] 25)).alloc (.cells (Array.replicate n (.int .i64 0)) 2)).alloc (.cells (flat stC (List.replicate n ((0:Int),false))).toArray 150)=w1 at M0 ⊢;obtain⟨gd,hgd⟩: ∃g,g=w.heap.size+1:=⟨_,rfl⟩;rw[<-hgd]at M0 ⊢;obtain⟨gc,hgc⟩: ∃g,g=gd+1:=⟨_,rfl⟩;rw[<-hgc]at M0 ⊢;clear hgc hgd;go_wp2_with fail
 go_loopg [9,10] (n+1) (fun q lv rv wr=> ∃(r:Nat) (lx:Int),r+q=n+1/\lv=.int .i64 lx/\rv=.int .i64 r/\Hid (∃(d:List Int) (vi:List Nat) (L T:Nat->Nat) (now:Nat),BcI G n r 0 d vi L T now/\(∀v,v<n->L v<=r)/\(r=0∨ ∃v:Nat,v<n/\lx=(v:Int)/\L v=r)/\CyM w gd gc [.slice A n cA,.slice B m cB] d vi wr))
 case atStart=>exact⟨0,-1,by omega,rfl,rfl,zh ⟨_,_,_,_,_,BcI.start G n,fun v _=>Nat.le_refl _,.inl rfl,M0.out⟩⟩
 case round=>
  clear M0;obtain⟨r,lx,hrq,rfl,rfl,HJ⟩:=hrel;obtain⟨d,vi,L,T,now,hbc,hlr,hlx,hm⟩:=HJ.out;have HB1:=zh hbc;have HLR:=zh hlr;have HLX:=zh hlx;have M1:=zh hm;clear HJ hbc hlr hlx hm;obtain⟨go,rfl⟩: ∃g,g=gk:=⟨_,rfl⟩
  by_cases hrn:r<=n
  ·have hri:(r:Int)<=(n:Int):=by omega
   clear HLX;go_upto_region 10 with fail
   go_loopg [9,11] m (fun q lv iv wr=> ∃(i:Nat) (lx:Int),i+q=m/\lv=.int .i64 lx/\iv=.int .i64 i/\Hid (∃(d:List Int) (vi:List Nat) (L T:Nat->Nat) (now:Nat),BcI G n r (2*i) d vi L T now/\LaI n r L lx/\CyM w gd gc [.slice A n cA,.slice B m cB] d vi wr))
   case atStart=>exact⟨0,-1,by omega,rfl,rfl,zh ⟨_,_,_,_,_,HB1.out,.inl ⟨rfl,HLR.out⟩,M1.out⟩⟩
   case round=>
    clear HB1 HLR M1;obtain⟨i,lx,hiq,rfl,rfl,HJ⟩:=hrel;obtain⟨d,vi,L,T,now,hbc,hla,hm⟩:=HJ.out;have HB1:=zh hbc;have HLA:=zh hla;have M1:=zh hm;clear HJ hbc hla hm
    by_cases hin:i<m
    ·have hii:(i:Int)<(m:Int):=by omega
     obtain⟨⟨⟨t1,t2⟩,t3,t4⟩,⟨q1,q2⟩,hR,hco,hfn,htn⟩:=HTA.out i hin;have hes:2*i+1<G.es.length:=by have:=HES.out;omega
     obtain⟨pb,rfl,ab,a0,a1,a2,a3⟩:=HAR.out _ M1.bel i hin;obtain⟨pf,rfl,fb,f0⟩:=HFL.out _ M1.bel i hin;have x0:=M1.x.cell 1 rfl;have xl:=M1.x.lt;generalize toN N i=tn at *;generalize frN N i=fr at *;generalize (N.arcs.getD i default).cap=ca at *;generalize (N.arcs.getD i default).cost=co at *;obtain⟨f,hf⟩: ∃f,f=G.room (2*i+1):=⟨_,rfl⟩;rw[<-hf]at hR f0;have HF:=zh hf;have HRE:Hid (G.room (2*i)=ca-f):=zh (by omega);clear hf;have HT1:=zh t1;have HT2:=zh t2;have HT3:=zh t3;have HT4:=zh t4;have HQ1:=zh q1;have HQ2:=zh q2;have JU:=zh hes;have Um:Hid (G.es.length<=4096):=zh HG.le;clear t1 t2 t3 t4 q1 q2 hes hR;have X1:=zh (show CyX w gd gc [.slice A n cA,.slice (some pb) m cB] d vi wr.heap.size [.int .i64 fr,.int .i64 tn,.int .i64 ca,.int .i64 co] (wr.alloc (.cells #[.int .i64 fr,.int .i64 tn,.int .i64 ca,.int .i64 co] 46))from⟨M1.below ((Below.refl _ _).alloc (Nat.le_refl _) _),Blk.new' wr #[.int .i64 fr,.int .i64 tn,.int .i64 ca,.int .i64 co] 46⟩);have f1:Hid ((wr.alloc (.cells #[.int .i64 fr,.int .i64 tn,.int .i64 ca,.int .i64 co] 46)).cell? (pf.add i)=some (.int .i64 f)/\(pf.add i).block<(wr.alloc (.cells #[.int .i64 fr,.int .i64 tn,.int .i64 ca,.int .i64 co] 46)).heap.size):=zh (by obtain⟨pf2,e,h1,h2⟩:=HFL.out _ X1.m.bel i hin;cases e;rw[<-HF.out]at h2;exact⟨h2,h1⟩);clear M1;go_upto_region 13 with fail
     clear a0 a1 a2 a3 ab f0 fb x0 xl;generalize wr.alloc (.cells #[.int .i64 fr,.int .i64 tn,.int .i64 ca,.int .i64 co] 46)=w1 at X1 f1 ⊢;generalize wr.heap.size=ga at X1 ⊢;have HBD:=zh (HB1.bd (by omega) Um.out (by omega));have HDL:=zh HB1.dl;have HVL:=zh HB1.vl;have b1:=HBD.out fr hfn;have b2:=HBD.out tn htn;obtain⟨ds,hds⟩: ∃x,x=d.getD fr 0:=⟨_,rfl⟩;obtain⟨dt,hdt⟩: ∃x,x=d.getD tn 0:=⟨_,rfl⟩;rw[<-hds]at b1;rw[<-hdt]at b2;have HDS:=zh hds;have HDT:=zh hdt;clear hds hdt;have y0:=X1.y.cell 0 rfl;have y1:=X1.y.cell 1 rfl;have y2:=X1.y.cell 2 rfl;have y3:=X1.y.cell 3 rfl;have yl:=X1.y.lt;have fc:=f1.1;have fl:=f1.2;have sc:w1.cell? ⟨gd,fr,none⟩=some (.int .i64 ds):=by rw[HDS.out];exact X1.m.d.cell fr (by rw[HDL.out];exact hfn)
     have tc:w1.cell? ⟨gd,tn,none⟩=some (.int .i64 dt):=by rw[HDT.out];exact X1.m.d.cell tn (by rw[HDL.out];exact htn)
     have sl:=X1.m.d.lt
     go_cut [62]from 35 to 123 (fun bv wc=> ∃b:Bool,bv=.bool b/\Hid (CyX w gd gc [.slice A n cA,.slice (some pb) m cB] d vi ga [.int .i64 fr,.int .i64 tn,.int .i64 ca,.int .i64 co] wc/\(b=true->f<ca/\ds+co<dt)/\(b=false-> ¬(f<ca/\ds+co<dt))))
     case first=>
      by_cases hfc:f<ca
      ·have d2:decide (f<ca)=true:=decide_eq_true hfc
       by_cases hd:ds+co<dt
       ·have d3:decide (ds+co<dt)=true:=decide_eq_true hd
        have HP:Hid (f<ca/\ds+co<dt):=zh (⟨hfc,hd⟩);refine wrp ?_
        repeat(go_big_quiet_step (fail))
        refine wpQuiet_nil ?_;intro xx;have X2:=zh (X1.below xx.far);generalize xx.w=w2 at X2 ⊢;clear y0 y1 y2 y3 yl fc fl sc tc sl X1 f1;go_wp2_with fail
        go_meet
        case rel=>exact⟨true,rfl,zh ⟨X2.out,fun _=>HP.out,fun h=>(by cases h)⟩⟩
       ·have d3:decide (ds+co<dt)=false:=decide_eq_false hd
        have HP:Hid (¬(f<ca/\ds+co<dt)):=zh (fun h=>hd h.2);refine wrp ?_
        repeat(go_big_quiet_step (fail))
        refine wpQuiet_nil ?_;intro xx;have X2:=zh (X1.below xx.far);generalize xx.w=w2 at X2 ⊢;clear y0 y1 y2 y3 yl fc fl sc tc sl X1 f1;go_wp2_with fail
        go_meet
        case rel=>exact⟨false,rfl,zh ⟨X2.out,fun h=>(by cases h),fun _=>HP.out⟩⟩
      ·have d2:decide (f<ca)=false:=decide_eq_false hfc
       have HP:Hid (¬(f<ca/\ds+co<dt)):=zh (fun h=>hfc h.1);refine wrp ?_
       repeat(go_big_quiet_step (fail))
       refine wpQuiet_nil ?_;intro xx;have X2:=zh (X1.below xx.far);generalize xx.w=w2 at X2 ⊢;clear y0 y1 y2 y3 yl fc fl sc tc sl X1 f1;go_wp2_with fail
       go_meet
       case rel=>exact⟨false,rfl,zh ⟨X2.out,fun h=>(by cases h),fun _=>HP.out⟩⟩
     case rest=>
      clear y0 y1 y2 y3 yl fc fl sc tc sl X1 f1;obtain⟨b,rfl,HJ⟩:=hcut;have X2:=zh HJ.1;have HBT:=zh HJ.2.1;have HBF:=zh HJ.2.2;clear HJ;generalize wc=wd at X2 ⊢
      go_upto_if 62 with fail
      go_cut [9]from 35 to 123 (fun lv wc=> ∃lx:Int,lv=.int .i64 lx/\Hid (∃(d:List Int) (vi:List Nat) (L T:Nat->Nat) (now:Nat),BcI G n r (2*i+1) d vi L T now/\LaI n r L lx/\CyX w gd gc [.slice A n cA,.slice (some pb) m cB] d vi ga [.int .i64 fr,.int .i64 tn,.int .i64 ca,.int .i64 co] wc))
      case first=>
       cases b with
       |false=>
        have HE:Hid (BcI G n r (2*i+1) d vi L T now):=zh (HB1.no (fun h1 h2=>by
         have h3:=HBF.out rfl;rw[HRE.out]at h2;rw[HT1.out,HT3.out,HQ1.out,<-HDS.out,<-HDT.out];have h4: ¬ds+co<dt:=fun h4=>h3 ⟨by omega,h4⟩
         omega))
        go_wp2_with fail
        go_meet
        case rel=>exact⟨lx,rfl,zh ⟨_,_,_,_,_,HE.out,HLA.out,X2.out⟩⟩
       |true=>
        have hc0:=HBT.out rfl;have hc:f<ca/\d.getD fr 0+co<d.getD tn 0:=by rw[<-HDS.out,<-HDT.out];exact hc0
        have HV:=zh (BcI.go1 HG.out HB1.out (by have:=JU.out;omega) HT1.out HT3.out HQ1.out (by rw[HRE.out];omega) hc.2);rw[<-HDS.out]at HV;clear hc hc0;have y0:=X2.y.cell 0 rfl;have y1:=X2.y.cell 1 rfl;have y3:=X2.y.cell 3 rfl;have yl:=X2.y.lt;have sc:wd.cell? ⟨gd,fr,none⟩=some (.int .i64 ds):=by rw[HDS.out];exact X2.m.d.cell fr (by rw[HDL.out];exact hfn)
        have sl:=X2.m.d.lt;go_upto_region 14 with fail
        refine dC 12 ?af14 (by kernel_rfl) (by kernel_rfl) ?VM ?VN
        case VM=>
         intro V hV;have sc:=(hV.cell (p:=⟨gd,fr,none⟩) sl).trans sc;have y0:=(hV.cell (p:=⟨ga,0,none⟩) yl).trans y0;have y1:=(hV.cell (p:=⟨ga,1,none⟩) yl).trans y1;have y3:=(hV.cell (p:=⟨ga,3,none⟩) yl).trans y3;have sl:=Nat.lt_of_lt_of_le sl hV.size;have yl:=Nat.lt_of_lt_of_le yl hV.size;clear hV;simp only[List.take_succ_cons,List.take_zero]
         repeat(go_big_quiet_step (fail))
         refine wpQuiet_nil ?_;rfl
        case VN=>
         intro w3 hb3;have X3:=zh (X2.below hb3);clear hb3 y0 y1 y3 yl sc sl X2;have z0:=X3.m.d.free tn;have l0:=X3.m.d.lt;have tc:w3.cell? ⟨gd,tn,none⟩=some (.int .i64 dt):=by rw[HDT.out];exact X3.m.d.cell tn (by rw[HDL.out];exact htn)
         have X4:=zh (X3.put tn (ds+co));simp only[List.drop_succ_cons,List.drop_zero];go_upto_region 15 with fail
         clear z0 l0 tc X3;generalize w3.setCell ⟨gd,tn,none⟩ (.int .i64 (ds+co))=w4 at X4 ⊢;have y1:=X4.y.cell 1 rfl;have yl:=X4.y.lt;obtain⟨c1,c2⟩:=X4.m.cell (v:=tn) (by rw[HVL.out];exact htn);have z1:=X4.m.c.free (tn*2);have z2:=X4.m.c.free (tn*2+1);have l1:=X4.m.c.lt;have X5:=zh (X4.come (v:=tn) (by rw[HVL.out];exact htn) (2*i));have es:stK (2*i)=((i:Int),false):=by rw[<-vW,<-BU]
         rw[es]at X5;clear es;go_upto_region 16 with fail
         clear c1 c2 z1 z2 l1 X4 y1 yl;generalize (w4.setCell ⟨gc,tn*2,none⟩ (.int .i64 i)).setCell ⟨gc,tn*2+1,none⟩ (.bool false)=w5 at X5 ⊢;have y1:=X5.y.cell 1 rfl;have yl:=X5.y.lt;have HE2:=zh (LaI.yes (r:=r) (L:=L) (n:=n) tn htn);clear HBT HBF HLA;go_wp2_with fail
         go_meet
         case rel=>exact⟨tn,rfl,zh ⟨_,_,_,_,_,HV.out,HE2.out,X5.out⟩⟩
      case rest=>
       clear HB1 HLA X2 HBT HBF HBD HDL HVL b1 b2 HDS HDT;clear lx ds dt;obtain⟨lx,rfl,HJ⟩:=hcut;obtain⟨d,vi,L,T,now,hbc,hla,hm⟩:=HJ.out;have HB1:=zh hbc;have HLA:=zh hla;have M1:=zh hm;clear HJ hbc hla hm;have X1:=M1;have f1:Hid (wc.cell? (pf.add i)=some (.int .i64 f)/\(pf.add i).block<wc.heap.size):=zh (by obtain⟨pf2,e,h1,h2⟩:=HFL.out _ X1.m.bel i hin;cases e;rw[<-HF.out]at h2;exact⟨h2,h1⟩);clear M1;go_upto_region 17 with fail
       have HBD:=zh (HB1.bd (by omega) Um.out (by omega));have HDL:=zh HB1.dl;have HVL:=zh HB1.vl;have b1:=HBD.out tn htn;have b2:=HBD.out fr hfn;obtain⟨ds,hds⟩: ∃x,x=d.getD tn 0:=⟨_,rfl⟩;obtain⟨dt,hdt⟩: ∃x,x=d.getD fr 0:=⟨_,rfl⟩;rw[<-hds]at b1;rw[<-hdt]at b2;have HDS:=zh hds;have HDT:=zh hdt;clear hds hdt;have y0:=X1.y.cell 0 rfl;have y1:=X1.y.cell 1 rfl;have y2:=X1.y.cell 2 rfl;have y3:=X1.y.cell 3 rfl;have yl:=X1.y.lt;have fc:=f1.1;have fl:=f1.2;have sc:wc.cell? ⟨gd,tn,none⟩=some (.int .i64 ds):=by rw[HDS.out];exact X1.m.d.cell tn (by rw[HDL.out];exact htn)
       have tc:wc.cell? ⟨gd,fr,none⟩=some (.int .i64 dt):=by rw[HDT.out];exact X1.m.d.cell fr (by rw[HDL.out];exact hfn)
       have sl:=X1.m.d.lt
       go_cut [103]from 35 to 123 (fun bv wc=> ∃b:Bool,bv=.bool b/\Hid (CyX w gd gc [.slice A n cA,.slice (some pb) m cB] d vi ga [.int .i64 fr,.int .i64 tn,.int .i64 ca,.int .i64 co] wc/\(b=true->0<f/\ds-co<dt)/\(b=false-> ¬(0<f/\ds-co<dt))))
       case first=>
        by_cases hfc:0<f
        ·have d2:decide (0<f)=true:=decide_eq_true hfc
         by_cases hd:ds-co<dt
         ·have d3:decide (ds-co<dt)=true:=decide_eq_true hd
          have HP:Hid (0<f/\ds-co<dt):=zh (⟨hfc,hd⟩);refine wrp ?_
          repeat(go_big_quiet_step (fail))
          refine wpQuiet_nil ?_;intro xx;have X2:=zh (X1.below xx.far);generalize xx.w=w2 at X2 ⊢;clear y0 y1 y2 y3 yl fc fl sc tc sl X1 f1;go_wp2_with fail
          go_meet
          case rel=>exact⟨true,rfl,zh ⟨X2.out,fun _=>HP.out,fun h=>(by cases h)⟩⟩
         ·have d3:decide (ds-co<dt)=false:=decide_eq_false hd
          have HP:Hid (¬(0<f/\ds-co<dt)):=zh (fun h=>hd h.2);refine wrp ?_
          repeat(go_big_quiet_step (fail))
          refine wpQuiet_nil ?_;intro xx;have X2:=zh (X1.below xx.far);generalize xx.w=w2 at X2 ⊢;clear y0 y1 y2 y3 yl fc fl sc tc sl X1 f1;go_wp2_with fail
          go_meet
          case rel=>exact⟨false,rfl,zh ⟨X2.out,fun h=>(by cases h),fun _=>HP.out⟩⟩
        ·have d2:decide (0<f)=false:=decide_eq_false hfc
         have HP:Hid (¬(0<f/\ds-co<dt)):=zh (fun h=>hfc h.1);refine wrp ?_
         repeat(go_big_quiet_step (fail))
         refine wpQuiet_nil ?_;intro xx;have X2:=zh (X1.below xx.far);generalize xx.w=w2 at X2 ⊢;clear y0 y1 y2 y3 yl fc fl sc tc sl X1 f1;go_wp2_with fail
         go_meet
         case rel=>exact⟨false,rfl,zh ⟨X2.out,fun h=>(by cases h),fun _=>HP.out⟩⟩
       case rest=>
        clear y0 y1 y2 y3 yl fc fl sc tc sl X1 f1;obtain⟨b,rfl,HJ⟩:=hcut;have X2:=zh HJ.1;have HBT:=zh HJ.2.1;have HBF:=zh HJ.2.2;clear HJ;generalize wc=we at X2 ⊢
        cases b with
        |false=>
         have HE:Hid (BcI G n r (2*(i+1)) d vi L T now):=zh (HB1.no (fun h1 h2=>by
          have h3:=HBF.out rfl;rw[<-HF.out]at h2;rw[HT2.out,HT4.out,HQ2.out,<-HDS.out,<-HDT.out];have h4: ¬ds-co<dt:=fun h4=>h3 ⟨by omega,h4⟩
          omega))
         go_wp2_with fail
         go_roundg (gk-1)
         case measure=>omega
         case rel=>exact⟨i+1,lx,by omega,rfl,by go_num,zh ⟨_,_,_,_,_,HE.out,HLA.out,X2.m⟩⟩
        |true=>
         have hc0:=HBT.out rfl;have hc:0<f/\d.getD tn 0-co<d.getD fr 0:=by rw[<-HDS.out,<-HDT.out];exact hc0
         have HV:=zh (BcI.go2 HG.out HB1.out JU.out HT2.out HT4.out HQ2.out (by rw[<-HF.out];omega) hc.2);rw[<-HDS.out]at HV;clear hc hc0;have y0:=X2.y.cell 0 rfl;have y1:=X2.y.cell 1 rfl;have y3:=X2.y.cell 3 rfl;have yl:=X2.y.lt;have sc:we.cell? ⟨gd,tn,none⟩=some (.int .i64 ds):=by rw[HDS.out];exact X2.m.d.cell tn (by rw[HDL.out];exact htn)
         have sl:=X2.m.d.lt;go_upto_region 18 with fail
         refine dC 12 ?af18 (by kernel_rfl) (by kernel_rfl) ?Q3 ?Q4
         case Q3=>
          intro V hV;have sc:=(hV.cell (p:=⟨gd,tn,none⟩) sl).trans sc;have y0:=(hV.cell (p:=⟨ga,0,none⟩) yl).trans y0;have y1:=(hV.cell (p:=⟨ga,1,none⟩) yl).trans y1;have y3:=(hV.cell (p:=⟨ga,3,none⟩) yl).trans y3;have sl:=Nat.lt_of_lt_of_le sl hV.size;have yl:=Nat.lt_of_lt_of_le yl hV.size;clear hV;simp only[List.take_succ_cons,List.take_zero]
          repeat(go_big_quiet_step (fail))
          refine wpQuiet_nil ?_;rfl
         case Q4=>
          intro w3 hb3;have X3:=zh (X2.below hb3);clear hb3 y0 y1 y3 yl sc sl X2;have z0:=X3.m.d.free fr;have l0:=X3.m.d.lt;have tc:w3.cell? ⟨gd,fr,none⟩=some (.int .i64 dt):=by rw[HDT.out];exact X3.m.d.cell fr (by rw[HDL.out];exact hfn)
          have X4:=zh (X3.put fr (ds-co));simp only[List.drop_succ_cons,List.drop_zero];go_upto_region 19 with fail
          clear z0 l0 tc X3;generalize w3.setCell ⟨gd,fr,none⟩ (.int .i64 (ds-co))=w4 at X4 ⊢;have y1:=X4.y.cell 0 rfl;have yl:=X4.y.lt;obtain⟨c1,c2⟩:=X4.m.cell (v:=fr) (by rw[HVL.out];exact hfn);have z1:=X4.m.c.free (fr*2);have z2:=X4.m.c.free (fr*2+1);have l1:=X4.m.c.lt;have X5:=zh (X4.come (v:=fr) (by rw[HVL.out];exact hfn) (2*i+1));have es:stK (2*i+1)=((i:Int),true):=by rw[<-vW,<-Fu]
          rw[es]at X5;clear es;go_upto_region 20 with fail
          clear c1 c2 z1 z2 l1 X4 y1 yl;generalize (w4.setCell ⟨gc,fr*2,none⟩ (.int .i64 i)).setCell ⟨gc,fr*2+1,none⟩ (.bool true)=w5 at X5 ⊢;have y1:=X5.y.cell 0 rfl;have yl:=X5.y.lt;have HE2:=zh (LaI.yes (r:=r) (L:=L) (n:=n) fr hfn);clear HBT HBF HLA;go_wp2_with fail
          go_roundg (gk-1)
          case measure=>omega
          case rel=>exact⟨i+1,fr,by omega,rfl,by go_num,zh ⟨_,_,_,_,_,HV.out,HE2.out,X5.m⟩⟩
    ·obtain rfl:m=i:=by omega
     have HB2:Hid (BcI G n r G.es.length d vi L T now):=zh (by rw[HES.out];exact HB1.out);clear HB1;have x0:=M1.x.cell 1 rfl;have xl:=M1.x.lt
     rcases HLA.out with ⟨rfl,hla⟩|⟨v,hv,rfl,hlv⟩
     ·have HFI:=zh (HB2.fin HG.out hla)
      clear hla HLA;go_wp2_with fail
      exact bodyPost_ret (v:=.tuple #[.slice none 0 0,.slice (some ⟨gd,0,none⟩) n n]) (by simp[results,Try.results67,go_sem]) rfl ⟨.inl ⟨gd,d,rfl,HFI.out⟩,M1.bel⟩
     ·have HE:Hid (∃(d:List Int) (vi:List Nat) (L T:Nat->Nat) (now:Nat),BcI G n (r+1) 0 d vi L T now/\(∀v,v<n->L v<=r+1)/\(r+1=0∨ ∃x:Nat,x<n/\(v:Int)=(x:Int)/\L x=r+1)/\CyM w gd gc [.slice A n cA,.slice B m cB] d vi wr):=zh ⟨d,vi,L,T,now,HB2.next,HB2.lr,.inr ⟨v,hv,rfl,hlv⟩,M1.out⟩
      clear hlv HLA;go_wp2_with fail
      go_roundg (go-1)
      case measure=>omega
      case rel=>exact⟨r+1,v,by omega,rfl,by go_num,HE⟩
  ·obtain rfl:r=n+1:=by omega
   have hri: ¬((n+1:Nat):Int)<=(n:Int):=by omega
   obtain⟨v,hv,rfl,hLv⟩: ∃v:Nat,v<n/\lx=(v:Int)/\L v=n+1:=by rcases HLX.out with h|h;omega;exact h
   clear HLX HLR;obtain⟨p,hcy⟩:=HB1.cyc HG.out hv hLv;have HCY:=zh hcy;have HBK:=zh (HB1.back HG.out hv hLv);have HPR:=zh HB1.pr;have HVL:=zh HB1.vl;clear hcy hLv hri hrn hrq;go_upto_region 24 with fail
   go_loopg [9,13] n (fun q lv iv wr=> ∃j:Nat,j+q=n/\lv=.int .i64 ((itp (pv G vi) j v:Nat):Int)/\iv=.int .i64 j/\Hid (CyM w gd gc [.slice A n cA,.slice B m cB] d vi wr))
   case atStart=>exact⟨0,by omega,rfl,rfl,M1⟩
   case round=>
    clear M1;obtain⟨j,hjq,rfl,rfl,M1⟩:=hrel
    by_cases hjn:j<n
    ·have hji:(j:Int)<(n:Int):=by omega
     obtain⟨y,hy⟩: ∃y,y=itp (pv G vi) j v:=⟨_,rfl⟩;rw[<-hy];have hyn:y<n:=by rw[hy];exact(HBK.out j (by omega)).1
     have hyL:0<L y:=by rw[hy];have:=(HBK.out j (by omega)).2;omega
     have HNX:Hid (itp (pv G vi) (j+1) v=G.frA (vi.getD y 0)):=zh (by rw[hy];exact mK _ _ _);obtain⟨x,hx⟩: ∃x,x=itp (pv G vi) (j+1) v:=⟨_,rfl⟩;rw[<-hx]at HNX;have HX:=zh hx;clear hx hy;have hyi:(y:Int)<(n:Int):=by omega
     have HPY:=zh (HPR.out y hyn hyL);have hk:vi.getD y 0<2*m:=by have:=HPY.1;have:=HES.out;omega
     obtain⟨ki,hki⟩: ∃x:Int,x=(stK (vi.getD y 0)).1:=⟨_,rfl⟩;obtain⟨kb,hkb⟩: ∃x:Bool,x=(stK (vi.getD y 0)).2:=⟨_,rfl⟩;have HBC:Hid (∀V,Below w.heap.size w V->Calls Try.prog 100 #[.agg #[.slice A n cA,.slice B m cB],.agg #[.int .i64 ki,.bool kb]] V fun e w'=>e=.returned (.int .i64 (x:Nat))/\Below V.heap.size V w'):=zh (by rw[hki,hkb,HNX.out];exact fun V hV=>BC.out V hV (vi.getD y 0) hk);obtain⟨c0,c1⟩:=M1.cell (v:=y) (by rw[HVL.out];exact hyn);rw[<-hki]at c0;rw[<-hkb]at c1;have HKI:=zh hki;have HKB:=zh hkb;clear hki hkb hk;have l0:=M1.c.lt;have x0:=M1.x.cell 0 rfl;have x1:=M1.x.cell 1 rfl;have xl:=M1.x.lt;go_upto_region 26 with fail
     refine wrp ?_
     repeat(go_big_quiet_step ((go_at_call 100;exact aZ (HBC.out _ (M1.bel.trans ((bN.far _).mono M1.bel.size))))))
     refine wpQuiet_nil ?_;intro xx;have M2:=zh (M1.below xx.far);generalize xx.w=w2 at M2 ⊢;clear c0 c1 l0 x0 x1 xl M1;go_wp2_with fail
     go_roundg (gk-1)
     case measure=>omega
     case rel=>exact⟨j+1,by omega,by rw[HX.out],by go_num,M2⟩
    ·obtain rfl:n=j:=by omega
     clear HBK;generalize itp (pv G vi) n v=z at *;have hjj: ¬(n:Int)<(n:Int):=by omega
     have HO1:Hid (wr.ownsRow w.heap.size 150 2 (.slice none 0 0) 0 (flat stC ((ksF G vi 0 z).reverse.map stK))):=zh (World.ownsRow_nil _ _ _ _);go_upto_region 29 with fail
     go_loopg [14,15] p (fun q ov av wr=> ∃(j cO:Nat) (OA:Option Addr),j+q=p/\ov=.slice OA j cO/\av=.int .i64 ((itp (pv G vi) j z:Nat):Int)/\Hid (wr.ownsRow w.heap.size 150 2 (.slice OA j cO) j (flat stC ((ksF G vi j z).reverse.map stK))/\CyM w gd gc [.slice A n cA,.slice B m cB] d vi wr))
     case atStart=>exact⟨0,0,none,by omega,rfl,rfl,zh ⟨HO1.out,M1.out⟩⟩
     case round=>
      clear HO1 M1;obtain⟨j,cO,OA,hjq,rfl,rfl,HJ⟩:=hrel;have HO:=zh HJ.1;have M1:=zh HJ.2;clear HJ;have hp:=HCY.p1;have hjp:j<=p/\p<=1024:=by omega
      have hcO:j<=cO/\cO<=9223372036854775807:=by rcases HO.2 with ⟨h1,h2⟩|⟨g,c,cur,hv,hb,hg,hnc,hcm,_⟩<;>(cases ‹Value.slice _ _ _=_›)<;>(first|(unfold maxLen at hcm;omega)|omega)
      obtain⟨y,hy⟩: ∃y,y=itp (pv G vi) j z:=⟨_,rfl⟩;rw[<-hy];have hyn:y<n:=by rw[hy];exact(HCY.nd j).1
      have hyL:0<L y:=by rw[hy];exact(HCY.nd j).2
      by_cases hj0:j=0
      ·have d1:((j:Int)==0)=true:=by simp;omega
       have hq0:0<gk:=by omega
       clear hj0;have HKS:Hid ((ksF G vi (j+1) z).reverse.map stK=stK (vi.getD y 0)::(ksF G vi j z).reverse.map stK):=zh (by rw[oP,<-hy];simp);have HNX:Hid (itp (pv G vi) (j+1) z=G.frA (vi.getD y 0)):=zh (by rw[hy];exact mK _ _ _);obtain⟨x,hx⟩: ∃x,x=itp (pv G vi) (j+1) z:=⟨_,rfl⟩;rw[<-hx]at HNX;have HX:=zh hx;clear hx hy;have hyi:(y:Int)<(n:Int):=by omega
       have HPY:=zh (HPR.out y hyn hyL);have hk:vi.getD y 0<2*m:=by have:=HPY.1;have:=HES.out;omega
       obtain⟨ki,hki⟩: ∃x:Int,x=(stK (vi.getD y 0)).1:=⟨_,rfl⟩;obtain⟨kb,hkb⟩: ∃x:Bool,x=(stK (vi.getD y 0)).2:=⟨_,rfl⟩;have HBC:Hid (∀V,Below w.heap.size w V->Calls Try.prog 100 #[.agg #[.slice A n cA,.slice B m cB],.agg #[.int .i64 ki,.bool kb]] V fun e w'=>e=.returned (.int .i64 (x:Nat))/\Below V.heap.size V w'):=zh (by rw[hki,hkb,HNX.out];exact fun V hV=>BC.out V hV (vi.getD y 0) hk);obtain⟨c0,c1⟩:=M1.cell (v:=y) (by rw[HVL.out];exact hyn);rw[<-hki]at c0;rw[<-hkb]at c1;have HKI:=zh hki;have HKB:=zh hkb;clear hki hkb hk;have l0:=M1.c.lt;have HSK:Hid (stK (vi.getD y 0)=(ki,kb)):=zh (by rw[HKI.out,HKB.out]);have hb4:=(Below.refl wr.heap.size wr).alloc (Nat.le_refl _) (.cells #[.int .i64 ki,.bool kb] 150);have M4:=zh (M1.below hb4);have HO4:=zh (bF HO.out hb4);have Kk:Hid ((wr.alloc (.cells #[.int .i64 ki,.bool kb] 150)).ownsRow w.heap.size 150 2 (.slice (some ⟨wr.heap.size,0,none⟩) 1 1) 1 (stC (ki,kb))):=zh (by have:=World.ownsRow_lit (base:=w.heap.size) (e:=150) (size:=2) wr #[.int .i64 ki,.bool kb] 1 M1.bel.size (by unfold maxLen;omega) rfl;exact this);have HLN:Hid ((flat stC ((ksF G vi j z).reverse.map stK)).length=j*2):=zh HO.1;have HB4:=zh hb4;clear hb4 HO
       go_upto_region 30 with (at_builtin;refine ax (.tmp 157) (.tmp 158) 104 rfl rfl w.heap.size 150 i150 (.agg #[.int .i64 0,.bool false]) 2 16 Try.underlying104 Nf Ng Nh Ni rfl (by decide) (some ⟨wr.heap.size,0,none⟩) 1 1 (stC (ki,kb)) (by rfl) Kk.out OA j cO (flat stC ((ksF G vi j z).reverse.map stK)) (by rfl) HLN.out (xP HO4.out) (uO _) (by unfold maxLen;omega) (by omega) M4.bel.size ?_;intro A3 c3 w5 hown hgrow hat;have M5:=zh (M1.below (HB4.grown hgrow (by simp) (fun j e=>by cases e;exact Nat.le_refl _)));have HO5:=zh hown;clear hown hgrow hat c0 c1 l0)
       clear M1 M4 HO4 Kk HLN HB4;have M1:=M5;clear M5;obtain⟨c0,c1⟩:=M1.cell (v:=y) (by rw[HVL.out];exact hyn);rw[<-HKI.out]at c0;rw[<-HKB.out]at c1;have l0:=M1.c.lt;have x0:=M1.x.cell 0 rfl;have x1:=M1.x.cell 1 rfl;have xl:=M1.x.lt;go_upto_region 30 with fail
       refine wrp ?_
       repeat(go_big_quiet_step ((go_at_call 100;exact aZ (HBC.out _ (M1.bel.trans ((bN.far _).mono M1.bel.size))))))
       refine wpQuiet_nil ?_;intro xx;have M2:=zh (M1.below xx.far);have HO2:=zh (bF HO5.out xx.far);generalize xx.w=w2 at M2 HO2 ⊢;clear c0 c1 l0 x0 x1 xl M1;go_wp2_with fail
       clear HO5;have HO3:Hid (w2.ownsRow w.heap.size 150 2 (.slice A3 (j+1) c3) (j+1) (flat stC ((ksF G vi (j+1) z).reverse.map stK))):=zh (by rw[HKS.out,HSK.out,show j+1=1+j by omega];exact HO2.out);have e1j:1+j=j+1:=by omega
       go_roundg (gk-1)
       case measure=>omega
       case rel=>exact⟨j+1,c3,A3,by omega,by rw[e1j],by rw[HX.out],zh ⟨HO3.out,M2.out⟩⟩
      ·have d1:((j:Int)==0)=false:=by simp;omega
       by_cases hyz:y=z
       ·have Un:j=p:=Nat.le_antisymm hjp.1 (Nat.le_of_not_lt (fun h=>HCY.mn j (by omega) h (hy.symm.trans hyz)))
        have HCC:=zh (HCY.cyc HB1.out HG.out);rw[<-Un]at HCC;have d2:((z:Int) != (y:Int))=false:=by simp;omega
        have d3:((y:Int) != (z:Int))=false:=by simp;omega
        obtain⟨g,rfl,hgB,hgl,_⟩:=oN HO.out (by omega);clear hy hyz Un;go_wp2_with fail
        exact bodyPost_ret (v:=.tuple #[.slice (some ⟨g,0,none⟩) j cO,.slice none 0 0]) (by simp[results,Try.results67,go_sem]) rfl ⟨.inr ⟨g,cO,j,_,rfl,(oO G vi j z).symm,by unfold bB;rw[List.length_map,List.length_reverse,oO];exact HO.out,HCC.out⟩,M1.bel⟩
       ·have d2:((z:Int) != (y:Int))=true:=by simp;omega
        have d3:((y:Int) != (z:Int))=true:=by simp;omega
        have hq1:j≠p:=fun e=>hyz (by rw[hy,e];exact HCY.cl)
        have hq0:0<gk:=by omega
        clear hq1;have HKS:Hid ((ksF G vi (j+1) z).reverse.map stK=stK (vi.getD y 0)::(ksF G vi j z).reverse.map stK):=zh (by rw[oP,<-hy];simp);have HNX:Hid (itp (pv G vi) (j+1) z=G.frA (vi.getD y 0)):=zh (by rw[hy];exact mK _ _ _);obtain⟨x,hx⟩: ∃x,x=itp (pv G vi) (j+1) z:=⟨_,rfl⟩;rw[<-hx]at HNX;have HX:=zh hx;clear hx hy;have hyi:(y:Int)<(n:Int):=by omega
        have HPY:=zh (HPR.out y hyn hyL);have hk:vi.getD y 0<2*m:=by have:=HPY.1;have:=HES.out;omega
        obtain⟨ki,hki⟩: ∃x:Int,x=(stK (vi.getD y 0)).1:=⟨_,rfl⟩;obtain⟨kb,hkb⟩: ∃x:Bool,x=(stK (vi.getD y 0)).2:=⟨_,rfl⟩;have HBC:Hid (∀V,Below w.heap.size w V->Calls Try.prog 100 #[.agg #[.slice A n cA,.slice B m cB],.agg #[.int .i64 ki,.bool kb]] V fun e w'=>e=.returned (.int .i64 (x:Nat))/\Below V.heap.size V w'):=zh (by rw[hki,hkb,HNX.out];exact fun V hV=>BC.out V hV (vi.getD y 0) hk);obtain⟨c0,c1⟩:=M1.cell (v:=y) (by rw[HVL.out];exact hyn);rw[<-hki]at c0;rw[<-hkb]at c1;have HKI:=zh hki;have HKB:=zh hkb;clear hki hkb hk;have l0:=M1.c.lt;have HSK:Hid (stK (vi.getD y 0)=(ki,kb)):=zh (by rw[HKI.out,HKB.out]);have hb4:=(Below.refl wr.heap.size wr).alloc (Nat.le_refl _) (.cells #[.int .i64 ki,.bool kb] 150);have M4:=zh (M1.below hb4);have HO4:=zh (bF HO.out hb4);have Kk:Hid ((wr.alloc (.cells #[.int .i64 ki,.bool kb] 150)).ownsRow w.heap.size 150 2 (.slice (some ⟨wr.heap.size,0,none⟩) 1 1) 1 (stC (ki,kb))):=zh (by have:=World.ownsRow_lit (base:=w.heap.size) (e:=150) (size:=2) wr #[.int .i64 ki,.bool kb] 1 M1.bel.size (by unfold maxLen;omega) rfl;exact this);have HLN:Hid ((flat stC ((ksF G vi j z).reverse.map stK)).length=j*2):=zh HO.1;have HB4:=zh hb4;clear hb4 HO
        go_upto_region 30 with (at_builtin;refine ax (.tmp 157) (.tmp 158) 104 rfl rfl w.heap.size 150 i150 (.agg #[.int .i64 0,.bool false]) 2 16 Try.underlying104 Nf Ng Nh Ni rfl (by decide) (some ⟨wr.heap.size,0,none⟩) 1 1 (stC (ki,kb)) (by rfl) Kk.out OA j cO (flat stC ((ksF G vi j z).reverse.map stK)) (by rfl) HLN.out (xP HO4.out) (uO _) (by unfold maxLen;omega) (by omega) M4.bel.size ?_;intro A3 c3 w5 hown hgrow hat;have M5:=zh (M1.below (HB4.grown hgrow (by simp) (fun j e=>by cases e;exact Nat.le_refl _)));have HO5:=zh hown;clear hown hgrow hat c0 c1 l0)
        clear M1 M4 HO4 Kk HLN HB4;have M1:=M5;clear M5;obtain⟨c0,c1⟩:=M1.cell (v:=y) (by rw[HVL.out];exact hyn);rw[<-HKI.out]at c0;rw[<-HKB.out]at c1;have l0:=M1.c.lt;have x0:=M1.x.cell 0 rfl;have x1:=M1.x.cell 1 rfl;have xl:=M1.x.lt;go_upto_region 30 with fail
        refine wrp ?_
        repeat(go_big_quiet_step ((go_at_call 100;exact aZ (HBC.out _ (M1.bel.trans ((bN.far _).mono M1.bel.size))))))
        refine wpQuiet_nil ?_;intro xx;have M2:=zh (M1.below xx.far);have HO2:=zh (bF HO5.out xx.far);generalize xx.w=w2 at M2 HO2 ⊢;clear c0 c1 l0 x0 x1 xl M1;go_wp2_with fail
        clear HO5;have HO3:Hid (w2.ownsRow w.heap.size 150 2 (.slice A3 (j+1) c3) (j+1) (flat stC ((ksF G vi (j+1) z).reverse.map stK))):=zh (by rw[HKS.out,HSK.out,show j+1=1+j by omega];exact HO2.out);have e1j:1+j=j+1:=by omega
        go_roundg (gk-1)
        case measure=>omega
        case rel=>exact⟨j+1,c3,A3,by omega,by rw[e1j],by rw[HX.out],zh ⟨HO3.out,M2.out⟩⟩
namespace Dp
theorem Fy {N:Net} {G:Gr} (h:chE N=0) (hG:G.Ok N.sup.length) (hf:Fits (zcN N) G) (h0:dA G.left=0): ∀v,v<N.sup.length->G.lf v=0:=fun v hv=>by
 have hz:chE (zcN N)=0:=by rw[sU];exact h
 have h1:=(mf (N:=zcN N) hz hG hf (tC (n:=N.sup.length) hf).rc h0).1;have h2:=(iE hz h1).1 v hv;rw[hf.lf v hv,<-h2];exact sP _ _ (fun j hj=>(fG hj).symm)
theorem vY {G:Gr} {n:Nat} (hl:G.left.length=n) (h: ∀v,v<n->G.lf v=0):dA G.left=0:=by
 rw[<-Nj,hl];have: ∀k,k<=n->rsK G.left k=0:=fun k=>by
  induction k with
  |zero=>intro _;rfl
  |succ k ih=>
   intro hk;rw[Kg,ih (by omega)];have:=h k (by omega);unfold Gr.lf at this;rw[this];rfl
 exact this n (Nat.le_refl _)
theorem Ca {x s:Int} (hx:1<=x) (hs:s<=0):x*s<=s:=by
 have:=Int.mul_le_mul_of_nonpos_right hx hs;rw[Int.one_mul]at this;exact this
theorem Kl {N:Net} {G:Gr} {n:Nat} (h:chE N=0) (hG:G.Ok n) (hf:Fits N G): -2251799813685248<=aV N (aR N G) N.arcs.length:=by
 have h1:=nZ (fl:=aR N G) h N.arcs.length (Nat.le_refl _) (fun j hj=>by
  rw[fG hj];have h1:=l8 hG hf j hj;have h2:=hf.r0 j hj;omega)
 have h2:=(bV h).2.2;omega
end Dp
open Dp
def Fz (N:Net) (n m:Nat) (w:World) (e:Ending) (w':World):Prop:=
 (chE N≠0/\e=.returned (.tuple #[.slice none 0 0,.slice none 0 0,.int .i64 (chE N)]))∨
 (chE N=0/\e=.returned (.tuple #[.slice none 0 0,.slice none 0 0,.int .i64 18])/\ ∀fl,ak N fl=false)∨
 (chE N=0/\ ∃(gF gP:Nat) (fl p:List Int),e=.returned (.tuple #[.slice (some ⟨gF,0,none⟩) m m,.slice (some ⟨gP,0,none⟩) n n,.int .i64 0])/\Fl 2 w' gF fl/\ak N fl=true/\aV N fl N.arcs.length=prA N p N.arcs.length)
theorem Km (A B:Option Addr) (N:Net) (n m cA cB:Nat) (w:World) (hn:n=N.sup.length) (hm:m=N.arcs.length)
 (hA:n<=cA/\cA<=9223372036854775807) (hB:m<=cB/\cB<=9223372036854775807) (hN:dm w A B N):
 Calls Try.prog 27 #[.agg #[.slice A n cA,.slice B m cB]] w fun e w'=>Fz N n m w e w'/\Below w.heap.size w w':=by
 have HN:=zh hn;have HM:=zh hm;have HNA:=zh hN;clear hn hm hN;have X0:=zh (Blk.new' w #[.slice A n cA,.slice B m cB] 25);have B0:=zh ((Below.refl w.heap.size w).alloc (Nat.le_refl _) (.cells #[.slice A n cA,.slice B m cB] 25));have FC:Hid (∀V,Below w.heap.size w V->Calls Try.prog 21 #[.agg #[.slice A n cA,.slice B m cB]] V fun e w'=>e=.returned (.int .i64 (chE N))/\Below V.heap.size V w'):=zh (fun V hV=>lZ A B N n m cA cB V HN.out HM.out hA hB (HNA.below hV (Nat.le_refl _)));go_enter Try.func27,Try.ntmps27;go_upto_region 1 with fail
 generalize w.alloc (.cells #[.slice A n cA,.slice B m cB] 25)=w1 at X0 B0 ⊢;have x0:=X0.cell 0 rfl;have x1:=X0.cell 1 rfl;have xl:=X0.lt;obtain⟨ce,hce⟩: ∃x,x=chE N:=⟨_,rfl⟩;have HCE:=zh hce;rw[<-hce]at FC;clear hce;go_wp2_with fail
 refine(FC.out _ B0.out).mono ?_;rintro e w2 ⟨rfl,hb⟩;have X2:=zh (X0.below hb X0.lt);have B2:=zh (B0.trans (hb.mono B0.size));clear hb x0 x1 xl X0 B0
 by_cases Kn:ce=0
 rotate_left
 ·have hb0:(ce != 0)=true:=by simpa using Kn
  have HNE:Hid (chE N≠0):=zh (by rw[<-HCE.out];exact Kn);clear Kn;have x0:=X2.cell 0 rfl;have x1:=X2.cell 1 rfl;have xl:=X2.lt;go_wp2_with fail
  refine(FC.out _ B2.out).mono ?_;rintro e w3 ⟨rfl,hb⟩;have B3:=zh (B2.trans (hb.mono B2.size));clear hb x0 x1 xl;go_wp2_with fail
  exact bodyPost_ret (v:=.tuple #[.slice none 0 0,.slice none 0 0,.int .i64 ce]) (by simp[results,Try.results27,go_sem]) rfl ⟨.inl ⟨HNE.out,by rw[HCE.out]⟩,B3.out⟩
 ·have hch:chE N=0:=by rw[<-HCE.out];exact Kn
  have HCH:=zh hch;have hnn:1<=n/\n<=1024/\m<=2048:=by have h:=bV hch;rw[<-HN.out,<-HM.out]at h;exact h
  clear hch;subst Kn;have FA:Hid (Calls Try.prog 66 #[.agg #[.slice A n cA,.slice B m cB]] w2 fun e w'=>QU N n m w2 e w'/\Below w2.heap.size w2 w'):=zh (P8 A B N n m cA cB _ HN.out HM.out HCH.out hA hB (HNA.below B2.out (Nat.le_refl _)));have x0:=X2.cell 0 rfl;have x1:=X2.cell 1 rfl;have xl:=X2.lt;go_wp2_with fail
  refine FA.mono ?_;rintro e w3 ⟨⟨G,gF,gL,cL,fa,wi,rfl,hG,hf,hnr,hF,hL,hgF,VO,hcL⟩,hb⟩;have X3:=zh (X2.below hb X2.lt);have B3:=zh (B2.trans (hb.mono B2.size));have HGX:Hid (w.heap.size<gF):=zh (by have:=X2.lt;omega);clear hb x0 x1 xl FA X2 B2 FC hgF VO;have HG:=zh hG;have HF:=zh hf;have HFL:=zh hF;have HL:=zh hL;have HLN:=zh hG.ll;have HNO:Hid (∀v,v<n->G.lf v≠0-> ∀fl,ak N fl=false):=zh (fun v hv hl=>by
   have hG2:G.Ok N.sup.length:=by rw[<-HN.out];exact hG
   have hz:chE (zcN N)=0:=by rw[sU];exact HCH.out
   have hr:0<dA G.left:=by
    have h1:=lG G.left;have h2:dA G.left≠0:=fun e=>hl (Fy HCH.out hG2 hf e v (by rw[<-HN.out];exact hv))
    omega
   have VP:NR G (zcN N).sup.length [] fa wi (-1):=by rw[show(zcN N).sup.length=n from HN.symm];exact hnr
   have h3:=rG hz hG2 hf VP;rw[fH,sV _ (Nat.le_refl _)]at h3;exact oC (c:=fq (zcN N).sup.length (fun v=>decide (fa.getD v 0<never))) HCH.out mR (by rw[h3];exact hr))
  clear hG hf hnr hF hL;go_wp2_with fail
  go_loopw [7] (fun iv wr=> ∃j:Nat,j<=n/\iv=.int .i64 j/\Hid (Below w3.heap.size w3 wr/\ ∀v,v<j->G.lf v=0)) (fun iv _=>n-(intOf iv).toNat)
  case atStart=>exact⟨0,Nat.zero_le _,rfl,zh ⟨Below.refl _ _,fun v hv=>absurd hv (Nat.not_lt_zero _)⟩⟩
  case round=>
   obtain⟨j,hj,rfl,HJ⟩:=hrel
   by_cases hjn:j<n
   ·have hji:(j:Int)<(n:Int):=by omega
    have c0:=(HL.below HJ.1).cell j (by rw[HLN.out];exact hjn);have cl:=(HL.below HJ.1).lt.2;have HNJ:=zh (HNO.out j hjn);have HLF:Hid (G.lf j=G.left.getD j 0):=zh rfl;generalize G.left.getD j 0=x at *
    by_cases hx:x=0
    ·subst hx
     have HE:Hid (Below w3.heap.size w3 wr/\ ∀v,v<j+1->G.lf v=0):=zh ⟨HJ.1,fun v hv=>by
      by_cases e:v=j
      ·rw[e];exact HLF.out
      ·exact HJ.2 v (by omega)⟩
     go_wp2_with fail
     exact⟨⟨j+1,by omega,by go_num,HE⟩,by simp[intOf];omega⟩
    ·have hb0:(x != 0)=true:=by simpa using hx
     have HNF:=zh (HNJ.out (by rw[HLF.out];exact hx));have B4:=zh (B3.trans (HJ.1.mono B3.size));clear hx;go_wp2_with fail
     exact bodyPost_ret (v:=.tuple #[.slice none 0 0,.slice none 0 0,.int .i64 18]) (by simp[results,Try.results27,go_sem]) rfl ⟨.inr (.inl ⟨HCH.out,rfl,HNF.out⟩),B4.out⟩
   ·obtain rfl:n=j:=by omega
    have X4:=zh (X3.below HJ.1 X3.lt);have B4:=zh (B3.trans (HJ.1.mono B3.size));have F4:Hid (Fl 2 wr gF (aR N (reC N G))):=zh (by rw[Ke];exact HFL.below HJ.1);have G4:=zh (QZ HCH.out HG.out HF.z);have FT4:=zh (Kc HF.out);have LZ4:Hid (∀v,v<n->(reC N G).lf v=0):=zh HJ.2;clear HJ X3 B3 HFL HG HF HNO HL HLN;have Yz: ¬(n:Int)<(n:Int):=by omega
    go_upto_region 9 with fail
    go_loopg [8] (aV N (aR N (reC N G)) N.arcs.length+2251799813685248).toNat (fun q _ wr=>Hid (∃G:Gr,(aV N (aR N G) N.arcs.length+2251799813685248).toNat=q/\G.Ok n/\Fits N G/\(∀v,v<n->G.lf v=0)/\Fl 2 wr gF (aR N G)/\Blk wr w.heap.size 25 [.slice A n cA,.slice B m cB]/\Below w.heap.size w wr))
    case atStart=>exact zh ⟨_,rfl,G4.out,FT4.out,LZ4.out,F4.out,X4.out,B4.out⟩
    case round=>
     clear G4 FT4 LZ4 F4 X4 B4;obtain⟨G1,hq,h1,h2,h3,h4,h5,h6⟩:=hrel.out;have HQ:=zh hq;have OK:=zh h1;have FT:=zh h2;have LZ:=zh h3;have FL:=zh h4;have XB:=zh h5;have BB:=zh h6;clear hrel hq h1 h2 h3 h4 h5 h6;have HGW:Hid (gF<wr.heap.size):=zh (Fl.lt FL.out);have CC:Hid (Calls Try.prog 67 #[.agg #[.slice A n cA,.slice B m cB],.slice (some ⟨gF,0,none⟩) m m] wr fun e w'=>Kj G1 n wr e w'/\Below wr.heap.size wr w'):=zh (Nk A B (some ⟨gF,0,none⟩) N G1 n m cA cB m wr HN.out HM.out HCH.out OK.out FT.out hA hB ⟨Nat.le_refl _,by omega⟩ (HNA.below BB.out (Nat.le_refl _)) FL.ints);have x0:=XB.cell 0 rfl;have x1:=XB.cell 1 rfl;have xl:=XB.lt;go_wp2_with fail
     refine CC.mono ?_;rintro e w5 ⟨hc,hb⟩;have X5:=zh (XB.below hb XB.lt);have B5:=zh (BB.trans (hb.mono BB.size));have F5:=zh (FL.below hb);clear hb x0 x1 xl CC XB BB FL
     rcases hc with ⟨gd,d,rfl,hrc⟩|⟨g,c,nk,ks,rfl,hnk,hown,hcy⟩
     ·have HEF:Hid (ak N (aR N G1)=true/\aV N (aR N G1) N.arcs.length=prA N d N.arcs.length):=zh (mf HCH.out (by rw[<-HN.out];exact OK.out) FT.out hrc (vY OK.ll LZ.out))
      clear hrc;have qT: ∀w:World,(binOp .eql 104 (.slice none 0 0) (.slice none 0 0)).run Try.prog w=.ok (.bool true) w:=fun w=>Lib.run_eql_slice_nil w 104 150 none 0 0 0 0 Try.underlying104
      go_wp2_with fail
      exact bodyPost_ret (v:=.tuple #[.slice (some ⟨gF,0,none⟩) m m,.slice (some ⟨gd,0,none⟩) n n,.int .i64 0]) (by simp[results,Try.results27,go_sem]) rfl ⟨.inr (.inr ⟨HCH.out,gF,gd,aR N G1,d,rfl,F5.out,HEF.1,HEF.2⟩),B5.out⟩
     ·have HCY:=zh hcy
      have HOW:=zh (bB.mono (B':=0) hown (Nat.zero_le _));have HGG:Hid (wr.heap.size<=g):=zh (by obtain⟨g',e,h1,_⟩:=hown.form (by simp;exact hcy.l0);cases e;exact h1);have hcc:nk<=c/\c<=9223372036854775807:=by
       obtain⟨_,_,_,_,h1,h2⟩:=hown.form (by simp;exact hcy.l0);simp at h1;omega
      have HKS:Hid (nk=ks.reverse.length):=zh (by rw[List.length_reverse];exact hnk);have hk1:nk<=1024:=by have:=hcy.ln;omega
      have HKB:Hid (∀k,k∈ks.reverse->k<2*m):=zh (fun k hk=>by have h:=(hcy.rm k (List.mem_reverse.1 hk)).1;rw[FT.es,<-HM.out]at h;exact h);have HRN:Hid (ks.reverse.Nodup):=zh ((List.reverse_perm ks).nodup_iff.2 hcy.nd);obtain⟨x,hx⟩: ∃x,x=iP G1 ks.reverse:=⟨_,rfl⟩;have hxb:0<x/\x<=1099511627776:=by rw[hx];exact⟨pK G1 _ _ (by decide) (fun k hk=>(hcy.rm k (List.mem_reverse.1 hk)).2),(mJ G1 _ _).2⟩
      have HXR:Hid (∀k,k∈ks->x<=G1.room k):=zh (fun k hk=>by rw[hx];exact(mJ G1 _ _).1 k (List.mem_reverse.2 hk));have RC:Hid (Calls Try.prog 69 #[.agg #[.slice A n cA,.slice B m cB],.slice (some ⟨gF,0,none⟩) m m,.slice (some ⟨g,0,none⟩) nk c] w5 fun e w'=>e=.returned (.int .i64 x)/\Below w5.heap.size w5 w'):=zh (by
       rw[hx];exact JX A B (some ⟨gF,0,none⟩) N G1 ks.reverse m n n cA cB m g c nk w5 HM.out HCH.out OK.out FT.f HKB.out HKS.out (by omega) hB ⟨Nat.le_refl _,by omega⟩ hcc (HNA.below B5.out (Nat.le_refl _)) F5.ints (by simpa using HOW.out))
      have u6:Hid ((G1.pushL ks x).Ok n/\Fits N (G1.pushL ks x)/\(∀v,v<n->(G1.pushL ks x).lf v=0)/\(aV N (aR N (G1.pushL ks x)) N.arcs.length+2251799813685248).toNat<gk):=zh (by
       have h1:=hcy.ok OK.out (by omega) HXR.out;have h2:=Fits.pushL (x:=x) FT.out OK.fine (fun k hk=>(hcy.rm k hk).1);have h3:=uS (x:=x) FT.out OK.fine (fun k hk=>(hcy.rm k hk).1);have h4:=Ca (x:=x) (s:=sumK G1 ks) (by omega) (by have:=hcy.neg;omega);have h5:=hcy.neg;have h6:=Kl HCH.out h1.1 h2;have h7:=HQ.out;refine⟨h1.1,h2,fun v hv=>by rw[h1.2];exact LZ.out v hv,?_⟩;omega)
      clear hnk hown hcy hx;have qF: ∀w:World,(binOp .eql 104 (.slice (some ⟨g,0,none⟩) nk c) (.slice none 0 0)).run Try.prog w=.ok (.bool false) w:=fun w=>Lib.run_eql_slice_nil w 104 150 (some ⟨g,0,none⟩) nk c 0 0 Try.underlying104
      have x0:=X5.cell 0 rfl;have x1:=X5.cell 1 rfl;have xl:=X5.lt;go_wp2_with fail
      refine RC.mono ?_;rintro e w6 ⟨rfl,hb⟩;have X6:=zh (X5.below hb X5.lt);have B6:=zh (B5.trans (hb.mono B5.size));have F6:=zh (F5.below hb);have HO6:=zh (HOW.below hb);clear hb x0 x1 xl X5 B5 F5 RC HOW;have PC:Hid (Calls Try.prog 68 #[.slice (some ⟨gF,0,none⟩) m m,.slice (some ⟨g,0,none⟩) nk c,.int .i64 x] w6 fun e w'=>e=.returned (.tuple #[])/\Fl 2 w' gF (aR N (G1.pushL ks.reverse x))/\Touch (fun k=>k=gF) w6 w'):=zh (Fv N G1 ks.reverse m n n m g gF c nk x w6 HM.out (by omega) OK.out FT.f HKB.out HRN.out ⟨by omega,by omega⟩ HKS.out (by omega) ⟨Nat.le_refl _,by omega⟩ hcc F6.out (by simpa using HO6.out) (by have h1:=HGG.out;have h2:=HGW.out;omega));go_wp2_with fail
      refine PC.mono ?_;rintro e w7 ⟨rfl,hf7,ht7⟩;have F7:Hid (Fl 2 w7 gF (aR N (G1.pushL ks x))):=zh (by rw[<-uQ FT.es (by rw[<-HM.out];exact HKB.out) (List.reverse_perm ks)];exact hf7);have X7:=zh (X6.touch ht7 (fun e=>by have:=HGX.out;omega));have B7:=zh (Below.touch B6.out B6.size ht7 (fun j e=>by have:=HGX.out;omega));clear hf7 ht7 PC X6 B6 F6 HO6;go_wp2_with fail
      go_roundg (aV N (aR N (G1.pushL ks x)) N.arcs.length+2251799813685248).toNat
      case measure=>exact u6.2.2.2
      case rel=>exact zh ⟨_,rfl,u6.1,u6.2.1,u6.2.2.1,F7.out,X7.out,B7.out⟩
end Go.Proofs.Ytmebpglkeedaoaa
namespace Go.Proofs.Ytmebpglkeedaoaa
open Go.RowKit Dp
namespace Dp
theorem Q5 {N:Net} {G:Gr} {n:Nat} {fa wi:List Int} (hch:chE N=0) (hn:n=N.sup.length) (hG:G.Ok n) (hf:Fits (zcN N) G) (hnr:NR G n [] fa wi (-1)) {v:Nat} (hv:v<n) (hl:G.lf v≠0): ∀fl,ak N fl=false:=by
 subst hn;have hz:chE (zcN N)=0:=by rw[sU];exact hch
 have hr:0<dA G.left:=by
  have h1:=lG G.left;have h2:dA G.left≠0:=fun e=>hl (Fy hch hG hf e v hv)
  omega
 have h3:=rG hz hG hf hnr;rw[fH,sV _ (Nat.le_refl _)]at h3;exact oC (c:=fq (zcN N).sup.length (fun v=>decide (fa.getD v 0<never))) hch mR (by rw[h3];exact hr)
theorem Nl {N:Net} {G:Gr} {n:Nat} (hch:chE N=0) (hn:n=N.sup.length) (hG:G.Ok n) (hf:Fits (zcN N) G) (h: ∀v,v<n->G.lf v=0): ∃fl,ak N fl=true:=by
 subst hn;have hz:chE (zcN N)=0:=by rw[sU];exact hch
 have h1:=(mf (N:=zcN N) hz hG hf (tC (n:=N.sup.length) hf).rc (vY hG.ll h)).1;rw[ES]at h1;exact⟨_,h1⟩
end Dp
open Dp
def Uo (N:Net) (e:Ending):Prop:=(e=.returned (.bool true)/\ ∃fl,ak N fl=true)∨(e=.returned (.bool false)/\ ∀fl,ak N fl=false)
theorem Uq (A B:Option Addr) (N:Net) (n m cA cB:Nat) (w:World) (hn:n=N.sup.length) (hm:m=N.arcs.length) (hch:chE N=0)
 (hA:n<=cA/\cA<=9223372036854775807) (hB:m<=cB/\cB<=9223372036854775807) (hN:dm w A B N):
 Calls Try.prog 93 #[.agg #[.slice A n cA,.slice B m cB]] w fun e w'=>Uo N e/\Below w.heap.size w w':=by
 have hnn:1<=n/\n<=1024/\m<=2048:=by have h:=bV hch;rw[<-hn,<-hm]at h;exact h
 have X0:=zh (Blk.new' w #[.slice A n cA,.slice B m cB] 25);have B0:=zh ((Below.refl w.heap.size w).alloc (Nat.le_refl _) (.cells #[.slice A n cA,.slice B m cB] 25));have FA:Hid (Calls Try.prog 66 #[.agg #[.slice A n cA,.slice B m cB]] (w.alloc (.cells #[.slice A n cA,.slice B m cB] 25)) fun e w'=>QU N n m (w.alloc (.cells #[.slice A n cA,.slice B m cB] 25)) e w'/\Below (w.alloc (.cells #[.slice A n cA,.slice B m cB] 25)).heap.size (w.alloc (.cells #[.slice A n cA,.slice B m cB] 25)) w'):=zh (P8 A B N n m cA cB _ hn hm hch hA hB (hN.below B0.out (Nat.le_refl _)));have HNO:=zh (fun (G:Gr) (fa wi:List Int) h1 h2 h3 v hv hl=>Q5 (G:=G) (fa:=fa) (wi:=wi) hch hn h1 h2 h3 (v:=v) hv hl);have HYE:=zh (fun (G:Gr) h1 h2 h3=>Nl (G:=G) hch hn h1 h2 h3);clear hn hm hch hN;go_enter Try.func93,Try.ntmps93;go_upto_region 1 with fail
 generalize w.alloc (.cells #[.slice A n cA,.slice B m cB] 25)=w1 at X0 B0 FA ⊢;have x0:=X0.cell 0 rfl;have x1:=X0.cell 1 rfl;have xl:=X0.lt;go_wp2_with fail
 refine FA.mono ?_;rintro e w2 ⟨⟨G,gF,gL,cL,fa,wi,rfl,hG,hf,hnr,hF,hL,_,_,hcL⟩,hb⟩;have Ju:Hid (∀v,v<n->G.lf v≠0-> ∀fl,ak N fl=false):=zh (fun v hv hl=>HNO.out G fa wi hG hf hnr v hv hl);have Q6:Hid ((∀v,v<n->G.lf v=0)-> ∃fl,ak N fl=true):=zh (fun h=>HYE.out G hG hf h);have B2:=zh (B0.trans (hb.mono B0.size));have HL:=zh hL;have HLN:=zh hG.ll;clear hG hf hnr hF hL hb x0 x1 xl X0 B0 FA HNO HYE;go_wp2_with fail
 go_loopw [5] (fun iv wr=> ∃j:Nat,j<=n/\iv=.int .i64 j/\Hid (Below w2.heap.size w2 wr/\ ∀v,v<j->G.lf v=0)) (fun iv _=>n-(intOf iv).toNat)
 case atStart=>exact⟨0,Nat.zero_le _,rfl,zh ⟨Below.refl _ _,fun v hv=>absurd hv (Nat.not_lt_zero _)⟩⟩
 case round=>
  obtain⟨j,hj,rfl,HJ⟩:=hrel
  by_cases hjn:j<n
  ·have hji:(j:Int)<(n:Int):=by omega
   have c0:=(HL.below HJ.1).cell j (by rw[HLN.out];exact hjn);have cl:=(HL.below HJ.1).lt.2;have HNJ:=zh (Ju.out j hjn);have HLF:Hid (G.lf j=G.left.getD j 0):=zh rfl;generalize G.left.getD j 0=x at *
   by_cases hx:x=0
   ·subst hx
    have HE:Hid (Below w2.heap.size w2 wr/\ ∀v,v<j+1->G.lf v=0):=zh ⟨HJ.1,fun v hv=>by
     by_cases e:v=j
     ·rw[e];exact HLF.out
     ·exact HJ.2 v (by omega)⟩
    go_wp2_with fail
    exact⟨⟨j+1,by omega,by go_num,HE⟩,by simp[intOf];omega⟩
   ·have hb0:(x != 0)=true:=by simpa using hx
    have HNF:=zh (HNJ.out (by rw[HLF.out];exact hx));have B4:=zh (B2.trans (HJ.1.mono B2.size));clear hx;go_wp2_with fail
    go_ret;exact⟨.inr ⟨rfl,HNF.out⟩,B4.out⟩
  ·obtain rfl:n=j:=by omega
   have HYF:=zh (Q6.out HJ.2);have B4:=zh (B2.trans (HJ.1.mono B2.size));go_wp2_with fail
   go_ret;exact⟨.inl ⟨rfl,HYF.out⟩,B4.out⟩
end Go.Proofs.Ytmebpglkeedaoaa
namespace Go.Proofs.Ytmebpglkeedaoaa
namespace Dp
theorem qg (a b:List Int):sum ((a++b).map abs)=sum (a.map abs)+sum (b.map abs):=by rw[List.map_append,sum_append]
theorem xV: ∀l:List Int,-(sum (l.map abs))<=sum l/\sum l<=sum (l.map abs)
 |[]=>by simp[sum]
 |x::l=>by
  have:=xV l;simp only[List.map_cons,sum];have h: -abs x<=x/\x<=abs x:=by unfold abs;omega
  omega
def usT (c:Car):Nat->Int
 |0=>0
 |k+1=>usT c k+dz c k
def usP (l:List ja) (m:Nat):Nat->Int
 |0=>0
 |k+1=>usP l m k+iM l k m
theorem Qb (c:Car): ∀k,usT c k=usP c.trips c.trips.length k
 |0=>rfl
 |k+1=>by simp only[usT,usP,Qb c k];rfl
theorem Cb {l:List ja} {m:Nat} (hu:0<=(l.getD m default).use) (hg: ∀k:Int,0<=iM l k m): ∀K:Nat,usP l (m+1) K<=usP l m K+(if (l.getD m default).fr<(K:Int)then (l.getD m default).use else 0)
 |0=>by simp only[usP];split<;>omega
 |K+1=>by
  have ih:=Cb hu hg K;have h1:=hg (K:Int);simp only[usP,iM]
  by_cases h:(l.getD m default).fr=(K:Int)
  ·rw[if_pos h,if_pos (by omega)]
   rw[if_neg (by omega)]at ih;omega
  ·rw[if_neg h]
   by_cases h2:(l.getD m default).fr<(K:Int)
   ·rw[if_pos (by omega)]
    rw[if_pos h2]at ih;omega
   ·rw[if_neg (by omega)]
    rw[if_neg h2]at ih;omega
theorem Ko {cap:Int} {n:Nat} {l:List ja} (h: ∀k,k<l.length->eU cap n l k=true) (hc:0<=cap) (K:Nat): ∀m:Nat,m<=l.length->usP l m K<=cap*m
 |0,_=>by
  have: ∀K,usP l 0 K=0:=fun K=>by
   induction K with
   |zero=>rfl
   |succ K ih=>simp only[usP,ih];rfl
  rw[this];simp
 |m+1,hm=>by
  have ih:=Ko h hc K m (by omega);have ht:=iB.1 (h m (by omega));have h2:=Cb (l:=l) (m:=m) ht.2.2.2.1 (fun k=>(wX h hc k m (by omega)).1) K;have h3:cap*((m+1:Nat):Int)=cap*m+cap:=by rw[Int.natCast_succ,Int.mul_add,Int.mul_one]
  rw[h3]
  split at h2<;>omega
theorem Q7 {n:Nat} {c:Car} (h:dE n c=true) (k:Nat):usT c k<=4194304:=by
 have h1:=aT.1 h;have h2:=Ko h1.2 (by omega) k c.trips.length (Nat.le_refl _);rw[Qb];have h3:c.cap*(c.trips.length:Int)<=1048576*4:=Int.mul_le_mul (by omega) (by omega) (by omega) (by omega);omega
theorem Cc {n:Nat} {c:Car} (h:dE n c=true): ∀k,sum ((gN c k).map abs)<=(if k=0 then 0 else c.start)+usT c k
 |0=>by simp[gN,sum,usT]
 |k+1=>by
  have ih:=Cc h k;have h1:=(aT.1 h).1;have h2:=iN h k;simp only[gN,slS,qg,usT];simp only[List.map_cons,List.map_nil,sum];rw[if_neg (show¬(k+1=0) by omega)];have e2:abs (-(dz c k))=dz c k:=by unfold abs;omega
  rw[e2]
  by_cases hk:k=0
  ·rw[if_pos hk]
   rw[if_pos hk]at ih;have e1:abs c.start=c.start:=by unfold abs;omega
   rw[e1];omega
  ·rw[if_neg hk]
   rw[if_neg hk]at ih;have e1:abs 0=0:=rfl;rw[e1];omega
theorem vZ {S:Site} {cs:List Car} (h:stE S cs=0): ∀i:Nat,i<=cs.length->sum ((aY S cs i).map abs)<=6291456*i
 |0,_=>by
  have hz: ∀n,sum ((List.replicate n (0:Int)).map abs)=0:=fun n=>by
   induction n with
   |zero=>rfl
   |succ n ih=>rw[List.replicate_succ,List.map_cons,sum,ih];rfl
  simp only[aY,List.map_cons,sum,hz]
  decide
 |i+1,hi=>by
  have hc:=eG h (show i<cs.length by omega);have ih:=vZ h i (by omega);have h1:=(aT.1 hc).1;have h2:=Cc hc S.lim.length;have h3:=Q7 hc S.lim.length;simp only[aY,qg];simp only[List.map_cons,List.map_nil,sum];have e1:abs (-(cs.getD i default).fin)=(cs.getD i default).fin:=by unfold abs;omega
  have e0:abs 0=0:=rfl;rw[e1,e0]
  split at h2<;>omega
theorem Q8 {M n:Nat} {c:Car} {a k:Nat} (hc:dE n c=true) (h1:n<a) (h2:a+2<M) (hk:k<n): ∀x,x∈slA c a k->eP M x=true:=by
 have h:=(aT.1 hc).1;intro x hx;simp only[slA,List.mem_cons]at hx
 rcases hx with rfl|rfl|hx
 ·exact decide_eq_true ⟨by simp only;omega,by simp only;omega,by simp only;omega,by simp only;omega,by simp only;omega⟩
 ·exact decide_eq_true ⟨by simp only;omega,by simp only;omega,by simp only;omega,by simp only;omega,by simp only;omega⟩
 ·split at hx
  ·cases hx
  ·simp only[List.mem_cons,List.not_mem_nil,or_false]at hx
   rcases hx with rfl|rfl
   ·exact decide_eq_true ⟨by simp only;omega,by simp only;omega,by simp only;omega,by simp only;omega,by simp only;omega⟩
   ·exact decide_eq_true ⟨by simp only;omega,by simp only;omega,by simp only;omega,by simp only;omega,by simp only;omega⟩
theorem FE {M n:Nat} {c:Car} {a:Nat} (hc:dE n c=true) (h1:n<a): ∀k,k<=n->a+2*k<M-> ∀x,x∈carA c a k->eP M x=true
 |0,_,_,x,hx=>by cases hx
 |k+1,hk,h2,x,hx=>by
  simp only[carA,List.mem_append]at hx
  rcases hx with hx|hx
  ·exact FE hc h1 k (by omega) (by omega) x hx
  ·exact Q8 hc (by omega) (by omega) (by omega) x hx
theorem FJ {S:Site} {M:Nat} (h: ∀t,t<S.lim.length->fU S t=true) (hM:S.lim.length<M): ∀t,t<=S.lim.length-> ∀x,x∈dP S t->eP M x=true
 |0,_,x,hx=>by cases hx
 |t+1,ht,x,hx=>by
  simp only[dP,List.mem_append,List.mem_singleton]at hx;have h1:=cu.1 (h t (by omega))
  rcases hx with hx|rfl
  ·exact FJ h hM t (by omega) x hx
  ·exact decide_eq_true ⟨by simp only;omega,by simp only;omega,by simp only;omega,by simp only;omega,by simp only;omega⟩
theorem FK {S:Site} {M:Nat} (h: ∀t,t<S.lim.length->fU S t=true) (hM:S.lim.length<M): ∀t,t<=S.lim.length-> ∀x,x∈gQ S t->eP M x=true
 |0,_,x,hx=>by cases hx
 |t+1,ht,x,hx=>by
  simp only[gQ,List.mem_append,List.mem_singleton]at hx;have h1:=cu.1 (h t (by omega))
  rcases hx with hx|rfl
  ·exact FK h hM t (by omega) x hx
  ·exact decide_eq_true ⟨by simp only;omega,by simp only;omega,by simp only;omega,by simp only;omega,by simp only;omega⟩
theorem Ce {S:Site} {cs:List Car} (h:stE S cs=0): ∀i:Nat,i<=cs.length-> ∀x,x∈aQ S cs i->eP (bK S cs) x=true
 |0,_,x,hx=>by
  have hs:=(aW h).2.2.1;have hM:S.lim.length<bK S cs:=by have:=dM h;omega
  simp only[aQ,List.mem_append]at hx
  rcases hx with hx|hx
  ·exact FJ hs hM _ (Nat.le_refl _) x hx
  ·exact FK hs hM _ (Nat.le_refl _) x hx
 |i+1,hi,x,hx=>by
  have hc:=eG h (show i<cs.length by omega);have h1:=(aT.1 hc).1;have hl:=xO (S:=S) (cs:=cs) (i:=i) (k:=S.lim.length) (by omega) (Nat.le_refl _);have hk:=ig S.lim.length i S.lim.length;have h0:S.lim.length<ag S.lim.length i 0:=by unfold ag;omega
  simp only[aQ,List.mem_append]at hx
  rcases hx with hx|hx|hx
  ·exact Ce h i (by omega) x hx
  ·exact FE hc h0 S.lim.length (Nat.le_refl _) (by omega) x hx
  ·simp only[nN,List.mem_cons,List.not_mem_nil,or_false]at hx
   rcases hx with rfl|rfl
   ·exact decide_eq_true ⟨by simp only;omega,by simp only;omega,by simp only;omega,by simp only;omega,by simp only;omega⟩
   ·exact decide_eq_true ⟨by simp only;omega,by simp only;omega,by simp only;omega,by simp only;omega,by simp only;omega⟩
theorem jq {S:Site} {cs:List Car} (h:stE S cs=0):chE (az S cs)=0:=by
 have hn:=dM h;have h8:=(aW h).1;have hlen:=uJ h cs.length (Nat.le_refl _);have hm:fC (az S cs)=false:=by
  unfold fC;refine decide_eq_false ?_;simp only[az,eF];omega
 have hA:=vZ h cs.length (Nat.le_refl _);have hb:=kV h cs.length (Nat.le_refl _);have hsa:=xV (aY S cs cs.length);have hh:=jM S cs cs.length;have hl:=dG S cs cs.length;have hs: ∃t,aY S cs cs.length=0::t:=by
  cases hcs:aY S cs cs.length with
  |nil=>rw[hcs]at hl;have:bK S cs=0:=hl.symm;omega
  |cons a t=>rw[hcs]at hh;exact⟨t,by rw[show a=0 from hh]⟩
 obtain⟨t,ht⟩:=hs;have Q9:kU S cs= -(sum (aY S cs cs.length))::t:=by unfold kU;rw[ht];rfl
 rw[ht]at hA hb hsa;simp only[List.map_cons,sum]at hA hsa;have e0:abs 0=0:=rfl;rw[e0]at hA hsa;have hk:okB (az S cs)=true:=by
  unfold okB;simp only[Bool.and_eq_true,List.all_eq_true,decide_eq_true_eq];refine⟨?_,?_,?_,?_⟩
  ·intro x hx
   simp only[az,Q9,ht,List.mem_cons,sum]at hx;unfold jV;refine decide_eq_true ?_
   rcases hx with rfl|hx
   ·omega
   ·have:=hb x (by simp[hx]);omega
  ·intro x hx
   have:=Ce h cs.length (Nat.le_refl _) x hx;simp only[az,eF];exact this
  ·simp only[az,Q9,ht,sum];omega
  ·simp only[az,Q9,ht,List.map_cons,sum]
   have:abs (-(0+sum t))<=sum (t.map abs):=by unfold abs;have:=xV t;unfold abs at this;omega
   omega
 unfold chE;rw[hm,hk];rfl
def aS (f q:Nat->Int):List Arc->Nat->Int
 |[],_=>0
 |a::l,j=>f j*(q a.to.toNat-q a.fr.toNat)+aS f q l (j+1)
theorem iH (f q:Nat->Int): ∀(a b:List Arc) (j:Nat),aS f q (a++b) j=aS f q a j+aS f q b (j+a.length)
 |[],b,j=>by simp[aS]
 |x::a,b,j=>by
  simp only[List.cons_append,aS,iH f q a b (j+1),List.length_cons];rw[show j+1+a.length=j+(a.length+1) by omega];omega
def sS (q:Nat->Int):List Int->Nat->Int
 |[],_=>0
 |x::l,v=>q v*x+sS q l (v+1)
theorem kX (q:Nat->Int): ∀(a b:List Int) (j:Nat),sS q (a++b) j=sS q a j+sS q b (j+a.length)
 |[],b,j=>by simp[sS]
 |x::a,b,j=>by
  simp only[List.cons_append,sS,kX q a b (j+1),List.length_cons];rw[show j+1+a.length=j+(a.length+1) by omega];omega
theorem FN (N:Net) (f q:Nat->Int): ∀k,k<=N.arcs.length->eH f (fun j=>q (toN N j)-q (frN N j)) k=aS f q (N.arcs.take k) 0
 |0,_=>by simp[eH,aS]
 |k+1,hk=>by
  rw[eH,FN N f q k (by omega),List.take_succ_eq_append_getElem (by omega),iH];simp only[aS,List.length_take,Nat.min_eq_left (show k<=N.arcs.length by omega),Nat.zero_add,Int.add_zero];unfold toN frN;rw[zg,List.getElem?_eq_getElem (by omega)];rfl
theorem Kq (q:Nat->Int) (l:List Int): ∀k,k<=l.length->bZ q (fun v=>l.getD v 0) k=sS q (l.take k) 0
 |0,_=>by simp[bZ,sS]
 |k+1,hk=>by
  rw[bZ,Kq q l k (by omega),List.take_succ_eq_append_getElem (by omega),kX];simp only[sS,List.length_take,Nat.min_eq_left (show k<=l.length by omega),Nat.zero_add,Int.add_zero];rw[zg,List.getElem?_eq_getElem (by omega)];rfl
def su (g:Nat->Int):Nat->Int
 |0=>0
 |n+1=>su g n+g n
theorem fZ {g h:Nat->Int}: ∀n:Nat,(∀k,k<n->g k=h k)->su g n=su h n
 |0,_=>rfl
 |n+1,e=>by simp only[su];rw[fZ n (fun k hk=>e k (by omega)),e n (by omega)]
theorem xW (g h:Nat->Int): ∀n:Nat,su (fun k=>g k+h k) n=su g n+su h n
 |0=>rfl
 |n+1=>by simp only[su];rw[xW g h n];omega
theorem xX: ∀n:Nat,su (fun _=>0) n=0
 |0=>rfl
 |n+1=>by simp only[su,xX n];rfl
theorem FQ {g:Nat->Int}: ∀n:Nat,(∀k,k<n->0<=g k)->0<=su g n
 |0,_=>Int.le_refl _
 |n+1,h=>by have:=FQ (g:=g) n (fun k hk=>h k (by omega));have:=h n (by omega);simp only[su];omega
theorem DR {g:Nat->Int}: ∀n:Nat,(∀k,k<n->0<=g k)->su g n=0-> ∀k,k<n->g k=0
 |0,_,_,k,hk=>absurd hk (Nat.not_lt_zero _)
 |n+1,h,e,k,hk=>by
  have h1:=FQ (g:=g) n (fun k hk=>h k (by omega));have h2:=h n (by omega);simp only[su]at e
  rcases (show k<n∨k=n by omega)with h3|rfl
  ·exact DR n (fun k hk=>h k (by omega)) (by omega) k h3
  ·omega
theorem Kr (g:Nat->Int) (a:Nat): ∀n:Nat,su (fun k=>if k=a then g k else 0) n=if a<n then g a else 0
 |0=>rfl
 |n+1=>by
  simp only[su];rw[Kr g a n]
  by_cases h:n=a
  ·subst h;rw[if_neg (Nat.lt_irrefl n),if_pos rfl,if_pos (by omega)];omega
  ·rw[if_neg h]
   by_cases h2:a<n
   ·rw[if_pos h2,if_pos (by omega)];omega
   ·rw[if_neg h2,if_neg (by omega)];omega
section
variable (S:Site) (cs:List Car) (f q:Nat->Int)
def bA (i k:Nat):Nat:=(bG S cs i k).length
def aIn (i k:Nat):Int:=if dB (cs.getD i default) k=true then 0 else f (bA S cs i k+2)
def nz (i k:Nat):Int:=if dB (cs.getD i default) k=true then 0 else f (bA S cs i k+3)
def lL (i:Nat):Nat->Int
 |0=>(cs.getD i default).start
 |k+1=>f (bA S cs i k+1)+aIn S cs f i k
def r0K (i k:Nat):Int:=lL S cs f i k-f (bA S cs i k)
def r1K (i k:Nat):Int:=f (bA S cs i k)-f (bA S cs i k+1)-nz S cs f i k-dz (cs.getD i default) k
theorem Qc (i k:Nat):bA S cs i k=bA S cs i 0+(carA (cs.getD i default) (ag S.lim.length i 0) k).length:=by
 unfold bA bG;simp[carA]
theorem Nn (c:Car) (a k b:Nat):aS f q (slA c a k) b=f b*(q (a+1)-q a)+f (b+1)*(q (a+2)-q (a+1))+(if dB c k=true then 0 else f (b+2))*(q (a+2)-q (1+k))+(if dB c k=true then 0 else f (b+3))*(q (1+k)-q (a+1)):=by
 have e1:((a:Int)+1).toNat=a+1:=by omega
 have e2:((a:Int)+2).toNat=a+2:=by omega
 have e3:(1+(k:Int)).toNat=1+k:=by omega
 unfold slA
 by_cases h:dB c k=true
 ·simp only[if_pos h,aS,e1,e2,Int.toNat_natCast];omega
 ·simp only[if_neg h,aS,e1,e2,e3,Int.toNat_natCast]
  rw[show b+1+1=b+2 from rfl,show b+2+1=b+3 from rfl];omega
def slR (i k:Nat):Int:=r0K S cs f i k*q (ag S.lim.length i 0+2*k)+r1K S cs f i k*q (ag S.lim.length i 0+2*k+1)-(aIn S cs f i k-nz S cs f i k)*q (1+k)
theorem FY (i:Nat): ∀k:Nat,aS f q (carA (cs.getD i default) (ag S.lim.length i 0) k) (bA S cs i 0)+sS q (gN (cs.getD i default) k) (ag S.lim.length i 0)+(if k=0 then (cs.getD i default).start*q (ag S.lim.length i 0)else 0)=su (slR S cs f q i) k+lL S cs f i k*q (ag S.lim.length i 0+2*k)
 |0=>by simp[carA,gN,aS,sS,su,lL]
 |k+1=>by
  have ih:=FY i k;rw[if_neg (by omega)];simp only[carA,gN,iH,kX,mH,Nn,su,<-Qc];have e1:sS q (slS (cs.getD i default) k) (ag S.lim.length i 0+2*k)=q (ag S.lim.length i 0+2*k)*(if k=0 then (cs.getD i default).start else 0)-q (ag S.lim.length i 0+2*k+1)*dz (cs.getD i default) k:=by
   simp only[slS,sS,Int.mul_neg];omega
  have e2:(if k=0 then (cs.getD i default).start*q (ag S.lim.length i 0)else 0)=q (ag S.lim.length i 0+2*k)*(if k=0 then (cs.getD i default).start else 0):=by
   by_cases h:k=0
   ·subst h;simp;exact Int.mul_comm _ _
   ·simp[h]
  rw[e2]at ih;rw[e1];have e3:lL S cs f i (k+1)=f (bA S cs i k+1)+aIn S cs f i k:=rfl;rw[e3,show ag S.lim.length i 0+2*(k+1)=ag S.lim.length i 0+2*k+2 by omega];unfold slR r0K r1K;have ei:(if dB (cs.getD i default) k=true then 0 else f (bA S cs i k+2))=aIn S cs f i k:=rfl;have eo:(if dB (cs.getD i default) k=true then 0 else f (bA S cs i k+3))=nz S cs f i k:=rfl;rw[ei,eo];generalize (if k=0 then (cs.getD i default).start else 0)=st at *;generalize aS f q (carA (cs.getD i default) (ag S.lim.length i 0) k) (bA S cs i 0)=A0 at *;generalize sS q (gN (cs.getD i default) k) (ag S.lim.length i 0)=S0 at *;unfold slR r0K r1K at ih;generalize su _ k=U at *;generalize aIn S cs f i k=y1 at *;generalize nz S cs f i k=y2 at *;generalize dz (cs.getD i default) k=y3 at *;generalize lL S cs f i k=y4 at *;generalize f (bA S cs i k+1)=y5 at *;generalize f (bA S cs i k)=y6 at *;generalize q (ag S.lim.length i 0+2*k)=q0 at *;generalize q (ag S.lim.length i 0+2*k+1)=q1 at *;generalize q (ag S.lim.length i 0+2*k+2)=q2 at *;generalize q (1+k)=q3 at *
  grind
def caR (i:Nat):Int:=su (slR S cs f q i) S.lim.length+(lL S cs f i S.lim.length-f (bA S cs i S.lim.length))*q (ag S.lim.length i 0+2*S.lim.length)+(f (bA S cs i S.lim.length)-f (bA S cs i S.lim.length+1)-(cs.getD i default).fin)*q (ag S.lim.length i 0+2*S.lim.length+1)+f (bA S cs i S.lim.length+1)*q 0
theorem Np (hn:0<S.lim.length) (i:Nat):aS f q (carA (cs.getD i default) (ag S.lim.length i 0) S.lim.length++nN (cs.getD i default) (ag S.lim.length i S.lim.length)) (bA S cs i 0)+sS q (gN (cs.getD i default) S.lim.length++[0,-(cs.getD i default).fin]) (ag S.lim.length i 0)=caR S cs f q i:=by
 have h:=FY S cs f q i S.lim.length;rw[if_neg (by omega)]at h;have e1:((ag S.lim.length i S.lim.length:Int)+1).toNat=ag S.lim.length i 0+2*S.lim.length+1:=by rw[ig];omega
 have e0:((ag S.lim.length i S.lim.length:Int)).toNat=ag S.lim.length i 0+2*S.lim.length:=by rw[ig];omega
 simp only[iH,kX,mH,<-Qc,nN,aS,sS,e1,e0];unfold caR;rw[show(0:Int).toNat=0 from rfl];generalize su _ S.lim.length=U at *;generalize aS f q _ _=A0 at *;generalize sS q _ _=S0 at *
 grind
def leK (k:Nat):Int:=f k-f (S.lim.length+k)
theorem FZ: ∀t:Nat,aS f q (dP S t) 0=su (fun k=>f k*(q (1+k)-q 0)) t
 |0=>rfl
 |t+1=>by
  have e:(1+(t:Int)).toNat=1+t:=by omega
  simp only[dP,iH,fF,su,FZ t,aS,e,Nat.zero_add];rw[show(0:Int).toNat=0 from rfl];omega
theorem F9 (b:Nat): ∀t:Nat,aS f q (gQ S t) b=su (fun k=>f (b+k)*(q 0-q (1+k))) t
 |0=>rfl
 |t+1=>by
  have e:(1+(t:Int)).toNat=1+t:=by omega
  simp only[gQ,iH,iO,su,F9 b t,aS,e];rw[show(0:Int).toNat=0 from rfl];omega
theorem Ga: ∀(n v:Nat),sS q (List.replicate n 0) v=0
 |0,_=>rfl
 |n+1,v=>by simp[List.replicate_succ,sS,Ga n (v+1)]
theorem Gb (hn:0<S.lim.length): ∀i:Nat,aS f q (aQ S cs i) 0+sS q (aY S cs i) 0=su (fun k=>leK S f k*(q (1+k)-q 0)) S.lim.length+su (caR S cs f q) i
 |0=>by
  simp only[aQ,aY,iH,fF,FZ,F9,sS,Ga,su,Nat.zero_add];have: ∀n m:Nat,su (fun k=>f k*(q (1+k)-q 0)) n+su (fun k=>f (m+k)*(q 0-q (1+k))) n=su (fun k=>(f k-f (m+k))*(q (1+k)-q 0)) n:=fun n m=>by
   rw[<-xW];exact fZ n (fun k _=>by
    generalize f k=a;generalize f (m+k)=b;generalize q (1+k)=c;generalize q 0=d
    grind)
  have h:=this S.lim.length S.lim.length;unfold leK;omega
 |i+1=>by
  have ih:=Gb hn i;have h:=Np S cs f q hn i;have hb:bA S cs i 0=(aQ S cs i).length:=by unfold bA;rw[mF]
  simp only[aQ,aY];rw[iH f q (aQ S cs i),kX q (aY S cs i),dG,su,Nat.zero_add,Nat.zero_add,<-hb];omega
theorem weights (n:Nat) (s:Nat->Int) (P:Nat->Nat->Int): ∃q:Nat->Int,q 0=0/\(∀k,k<n->q (1+k)=s k)/\ ∀i k r,k<=n->r<2->q (ag n i 0+2*k+r)=P i (2*k+r):=by
 refine⟨fun v=>if v=0 then 0 else if v<=n then s (v-1)else P ((v-1-n)/(2*(n+1))) ((v-1-n)%(2*(n+1))),?_,fun k hk=>?_,fun i k r hk hr=>?_⟩
 ·simp
 ·simp only[]
  rw[if_neg (by omega),if_pos (by omega),show 1+k-1=k by omega]
 ·have e:ag n i 0+2*k+r-1-n=2*(n+1)*i+(2*k+r):=by
   unfold ag;have h1:2*(n+1)*i=2*(i*(n+1)):=by rw[Nat.mul_assoc,Nat.mul_comm (n+1) i]
   rw[h1,Nat.add_zero];omega
  have hp:n<ag n i 0:=by unfold ag;omega
  simp only[];rw[if_neg (by omega),if_neg (by omega),e,Nat.mul_add_div (by omega),Nat.mul_add_mod,Nat.mod_eq_of_lt (by omega),Nat.div_eq_of_lt (by omega),Nat.add_zero]
end
section
variable {S:Site} {cs:List Car}
def rdF (fl:List Int) (x:Int):Int:=if 0<=x then fl.getD x.toNat 0 else 0
def tbF (S:Site) (cs:List Car) (fl:List Int):Tab:=⟨(List.range cs.length).map fun i=>(inR S cs i).map (rdF fl),(List.range cs.length).map fun i=>(gX S cs i).map (rdF fl)⟩
def fA (fl:List Int):Nat->Int:=fun j=>fl.getD j 0
theorem dU {α:Type} (d:α) (n i:Nat) (g:Nat->α) (h:i<n):((List.range n).map g).getD i d=g i:=by
 simp[zg,h]
theorem DT {fl:List Int} {i k:Nat} (hi:i<cs.length) (hk:k<S.lim.length):((tbF S cs fl).inn.getD i []).getD k 0=aIn S cs (fA fl) i k:=by
 unfold tbF;simp only[];rw[dU _ _ _ _ hi];have:(inR S cs i)[k]?=some (inX S cs i k):=by simp[inR,bT,hk]
 rw[zg,List.getElem?_map,this]
 show rdF fl (inX S cs i k)=_
 unfold inX aIn fA bA rdF
 by_cases h:dB (cs.getD i default) k=true
 ·rw[if_pos h,if_pos h];rfl
 ·rw[if_neg h,if_neg h,if_pos (by omega)]
  congr 1
theorem rR {fl:List Int} {i k:Nat} (hi:i<cs.length) (hk:k<S.lim.length):((tbF S cs fl).out.getD i []).getD k 0=nz S cs (fA fl) i k:=by
 unfold tbF;simp only[];rw[dU _ _ _ _ hi];have:(gX S cs i)[k]?=some (nP S cs i k):=by simp[gX,bT,hk]
 rw[zg,List.getElem?_map,this]
 show rdF fl (nP S cs i k)=_
 unfold nP nz fA bA rdF
 by_cases h:dB (cs.getD i default) k=true
 ·rw[if_pos h,if_pos h];rfl
 ·rw[if_neg h,if_neg h,if_pos (by omega)]
  congr 1
theorem Nq (h:stE S cs=0) (q:Nat->Int):sS q (kU S cs) 0=sS q (aY S cs cs.length) 0+q 0*(-(sum (aY S cs cs.length))):=by
 have hh:=jM S cs cs.length;have hl:=dG S cs cs.length;unfold kU
 cases hcs:aY S cs cs.length with
 |nil=>rw[hcs]at hl;have:=dM h;have:bK S cs=0:=hl.symm;omega
 |cons a t=>
  rw[hcs]at hh;have:a=0:=hh;subst this;simp only[List.set_cons_zero,sS];omega
theorem Gc {N:Net} {f q:Nat->Int} {k:Nat}: ∀n:Nat,(∀v,v<n->lv N f k v=0)->bZ q (lv N f k) n=0
 |0,_=>rfl
 |n+1,h=>by simp only[bZ];rw[Gc n (fun v hv=>h v (by omega)),h n (by omega)];simp
theorem Gd (h:stE S cs=0) (f q:Nat->Int):bZ q (lv (az S cs) f (aQ S cs cs.length).length) (bK S cs)=su (fun k=>leK S f k*(q (1+k)-q 0)) S.lim.length+su (caR S cs f q) cs.length+q 0*(-(sum (aY S cs cs.length))):=by
 have hn:=(aj.1 (aW h).2.1).1.1;have h1:=sN (jq h) q f (aQ S cs cs.length).length (Nat.le_refl _);have ha:=FN (az S cs) f q (aQ S cs cs.length).length (Nat.le_refl _);have hb:=Kq q (kU S cs) (kU S cs).length (Nat.le_refl _);rw[List.take_length]at hb;rw[show(az S cs).arcs=aQ S cs cs.length from rfl,List.take_length]at ha;rw[ha,show(az S cs).sup=kU S cs from rfl,hb,Nq h,eF]at h1;have h2:=Gb S cs f q hn cs.length;rw[h1];omega
theorem Cf (h:stE S cs=0) {fl:List Int} (hf:ak (az S cs) fl=true) (q:Nat->Int):su (fun k=>leK S (fA fl) k*(q (1+k)-q 0)) S.lim.length+su (caR S cs (fA fl) q) cs.length+q 0*(-(sum (aY S cs cs.length)))=0:=by
 have h1:=iE (jq h) hf;rw[<-Gd h (fA fl) q];refine Gc _ (fun v hv=>h1.1 v ?_)
 show v<(kU S cs).length
 rw[eF];exact hv
theorem qh (a:Int):0<=a*a:=by
 rcases Int.le_total 0 a with h|h
 ·exact Int.mul_nonneg h h
 ·have:=Int.mul_nonneg (show 0<= -a by omega) (show 0<= -a by omega)
  rwa [Int.neg_mul_neg]at this
theorem rT {a:Int} (h:a*a=0):a=0:=by
 rcases Int.mul_eq_zero.1 h with h|h<;>exact h
theorem uT (h:stE S cs=0) {fl:List Int} (hf:ak (az S cs) fl=true): ∀i,i<cs.length->(∀k,k<S.lim.length->r0K S cs (fA fl) i k=0/\r1K S cs (fA fl) i k=0)/\
 lL S cs (fA fl) i S.lim.length-fA fl (bA S cs i S.lim.length)=0/\fA fl (bA S cs i S.lim.length)-fA fl (bA S cs i S.lim.length+1)-(cs.getD i default).fin=0:=by
 generalize hff:fA fl=f;obtain⟨q,q0,qs,qP⟩:=weights S.lim.length (fun _=>0) (fun i t=>if t%2=0 then lL S cs f i (t/2)-f (bA S cs i (t/2))else if t/2<S.lim.length then r1K S cs f i (t/2)else f (bA S cs i S.lim.length)-f (bA S cs i S.lim.length+1)-(cs.getD i default).fin);have hP0: ∀i k,k<=S.lim.length->q (ag S.lim.length i 0+2*k)=lL S cs f i k-f (bA S cs i k):=fun i k hk=>by
  have:=qP i k 0 hk (by omega);rw[Nat.add_zero,Nat.add_zero,if_pos (by omega),show 2*k/2=k by omega]at this;exact this
 have hP1: ∀i k,k<S.lim.length->q (ag S.lim.length i 0+2*k+1)=r1K S cs f i k:=fun i k hk=>by
  have:=qP i k 1 (by omega) (by omega);rw[if_neg (by omega),show(2*k+1)/2=k by omega,if_pos hk]at this;exact this
 have hP2: ∀i,q (ag S.lim.length i 0+2*S.lim.length+1)=f (bA S cs i S.lim.length)-f (bA S cs i S.lim.length+1)-(cs.getD i default).fin:=fun i=>by
  have:=qP i S.lim.length 1 (Nat.le_refl _) (by omega);rw[if_neg (by omega),show(2*S.lim.length+1)/2=S.lim.length by omega,if_neg (Nat.lt_irrefl _)]at this;exact this
 have hs:=Cf h hf q;rw[hff,q0,Int.zero_mul,Int.add_zero,fZ (h:=fun _=>0) _ (fun k hk=>by rw[qs k hk];simp),xX,Int.zero_add]at hs;have hsl: ∀i k,k<S.lim.length->slR S cs f q i k=r0K S cs f i k*r0K S cs f i k+r1K S cs f i k*r1K S cs f i k:=fun i k hk=>by
  unfold slR;rw[hP0 i k (by omega),hP1 i k hk,qs k hk];unfold r0K;simp
 have hc: ∀i,caR S cs f q i=su (fun k=>r0K S cs f i k*r0K S cs f i k+r1K S cs f i k*r1K S cs f i k) S.lim.length+(lL S cs f i S.lim.length-f (bA S cs i S.lim.length))*(lL S cs f i S.lim.length-f (bA S cs i S.lim.length))+(f (bA S cs i S.lim.length)-f (bA S cs i S.lim.length+1)-(cs.getD i default).fin)*(f (bA S cs i S.lim.length)-f (bA S cs i S.lim.length+1)-(cs.getD i default).fin):=fun i=>by
  unfold caR;rw[hP0 i _ (Nat.le_refl _),hP2 i,q0,fZ _ (fun k hk=>hsl i k hk)];simp
 have hnn: ∀i k,0<=r0K S cs f i k*r0K S cs f i k+r1K S cs f i k*r1K S cs f i k:=fun i k=>by
  have:=qh (r0K S cs f i k);have:=qh (r1K S cs f i k);omega
 intro i hi;have hz:=DR (g:=caR S cs f q) _ (fun j _=>by
  rw[hc];have h1:=FQ S.lim.length (fun k _=>hnn j k);have h2:=qh (lL S cs f j S.lim.length-f (bA S cs j S.lim.length));have h3:=qh (f (bA S cs j S.lim.length)-f (bA S cs j S.lim.length+1)-(cs.getD j default).fin);omega) hs i hi
 rw[hc]at hz;have h1:=FQ S.lim.length (fun k _=>hnn i k);have h2:=qh (lL S cs f i S.lim.length-f (bA S cs i S.lim.length));have h3:=qh (f (bA S cs i S.lim.length)-f (bA S cs i S.lim.length+1)-(cs.getD i default).fin);refine⟨fun k hk=>?_,rT (by omega),rT (by omega)⟩;have:=DR _ (fun k _=>hnn i k) (by omega) k hk;have h4:=qh (r0K S cs f i k);have h5:=qh (r1K S cs f i k);exact⟨rT (by omega),rT (by omega)⟩
theorem Ht (h:stE S cs=0) {fl:List Int} (hf:ak (az S cs) fl=true) (k:Nat) (hk:k<S.lim.length):leK S (fA fl) k=su (fun i=>aIn S cs (fA fl) i k-nz S cs (fA fl) i k) cs.length:=by
 generalize hff:fA fl=f;obtain⟨q,q0,qs,qP⟩:=weights S.lim.length (fun j=>if j=k then 1 else 0) (fun _ _=>0);have hP: ∀i j r,j<=S.lim.length->r<2->q (ag S.lim.length i 0+2*j+r)=0:=fun i j r h1 h2=>qP i j r h1 h2
 have hs:=Cf h hf q;rw[hff,q0,Int.zero_mul,Int.add_zero,fZ (h:=fun j=>if j=k then leK S f j else 0) _ (fun j hj=>by rw[qs j hj,Int.sub_zero];split<;>simp),Kr,if_pos hk]at hs;have hc: ∀i,caR S cs f q i=0-(aIn S cs f i k-nz S cs f i k):=fun i=>by
  unfold caR;have e0:=hP i S.lim.length 0 (Nat.le_refl _) (by omega);have e1:=hP i S.lim.length 1 (Nat.le_refl _) (by omega);rw[Nat.add_zero]at e0;rw[e0,e1,q0,fZ (h:=fun j=>if j=k then 0-(aIn S cs f i j-nz S cs f i j)else 0) _ (fun j hj=>by
   unfold slR;have e2:=hP i j 0 (by omega) (by omega);rw[Nat.add_zero]at e2;rw[e2,hP i j 1 (by omega) (by omega),qs j hj]
   split<;>simp),Kr,if_pos hk]
  simp
 have hsub: ∀(g:Nat->Int) m,su (fun i=>0-g i) m= -su g m:=fun g m=>by
  induction m with
  |zero=>rfl
  |succ m ih=>simp only[su,ih];omega
 rw[fZ _ (fun i _=>hc i),hsub]at hs;omega
end
section
variable {S:Site} {cs:List Car}
theorem Cg (c:Car) (a k:Nat): ∀d,∃r,carA c a (k+d)=carA c a k++r
 |0=>⟨[],by simp⟩
 |d+1=>by
  obtain⟨r,hr⟩:=Cg c a k d;exact⟨r++slA c (a+2*(k+d)) (k+d),by rw[<-Nat.add_assoc,carA,hr,List.append_assoc]⟩
theorem mZ (S:Site) (cs:List Car) (i:Nat): ∀d,∃r,aQ S cs (i+d)=aQ S cs i++r
 |0=>⟨[],by simp⟩
 |d+1=>by
  obtain⟨r,hr⟩:=mZ S cs i d;exact⟨r++(carA (cs.getD (i+d) default) (ag S.lim.length (i+d) 0) S.lim.length++nN (cs.getD (i+d) default) (ag S.lim.length (i+d) S.lim.length)),by rw[<-Nat.add_assoc,aQ,hr,List.append_assoc]⟩
theorem Ch {i k:Nat} (hi:i<cs.length) (hk:k<S.lim.length): ∃r,aQ S cs cs.length=bG S cs i k++(slA (cs.getD i default) (ag S.lim.length i k) k++r):=by
 obtain⟨r,hr⟩:=mZ S cs (i+1) (cs.length-(i+1));obtain⟨r2,hr2⟩:=Cg (cs.getD i default) (ag S.lim.length i 0) (k+1) (S.lim.length-(k+1));rw[show i+1+(cs.length-(i+1))=cs.length by omega]at hr;rw[show k+1+(S.lim.length-(k+1))=S.lim.length by omega]at hr2;refine⟨r2++nN (cs.getD i default) (ag S.lim.length i S.lim.length)++r,?_⟩;rw[hr,kr,bG,hr2,ig S.lim.length i k];simp[bG,carA]
theorem Kt {i:Nat} (hi:i<cs.length): ∃r,aQ S cs cs.length=bG S cs i S.lim.length++(nN (cs.getD i default) (ag S.lim.length i S.lim.length)++r):=by
 obtain⟨r,hr⟩:=mZ S cs (i+1) (cs.length-(i+1));rw[show i+1+(cs.length-(i+1))=cs.length by omega]at hr;exact⟨r,by rw[hr,kr,List.append_assoc]⟩
theorem xY {α:Type} [Inhabited α] {A X R:List α} {j:Nat} (hj:j<X.length):(A++(X++R)).getD (A.length+j) default=X.getD j default/\A.length+j<(A++(X++R)).length:=by
 constructor
 ·rw[zg,List.getElem?_append_right (by omega),show A.length+j-A.length=j by omega,List.getElem?_append_left hj,zg]
 ·simp;omega
theorem Ci {t:Nat}: ∀T,t<T->(dP S T).getD t default=⟨0,1+t,S.lim.getD t 0,S.buy.getD t 0⟩
 |T+1,h=>by
  by_cases e:t=T
  ·subst e
   have:=xY (A:=dP S t) (X:=[(⟨0,1+t,S.lim.getD t 0,S.buy.getD t 0⟩:Arc)]) (R:=[]) (j:=0) (by simp);rw[fF,Nat.add_zero,List.append_nil]at this;exact this.1
  ·have ih:=Ci (t:=t) T (by omega)
   rw[dP,zg,List.getElem?_append_left (by rw[fF];omega),<-zg];exact ih
theorem Cj {t:Nat}: ∀T,t<T->(gQ S T).getD t default=⟨1+t,0,S.exp.getD t 0,-(S.sell.getD t 0)⟩
 |T+1,h=>by
  by_cases e:t=T
  ·subst e
   have:=xY (A:=gQ S t) (X:=[(⟨1+t,0,S.exp.getD t 0,-(S.sell.getD t 0)⟩:Arc)]) (R:=[]) (j:=0) (by simp);rw[iO,Nat.add_zero,List.append_nil]at this;exact this.1
  ·have ih:=Cj (t:=t) T (by omega)
   rw[gQ,zg,List.getElem?_append_left (by rw[iO];omega),<-zg];exact ih
theorem ku (h:stE S cs=0) {fl:List Int} (hf:ak (az S cs) fl=true) {A X R:List Arc} (he:aQ S cs cs.length=A++(X++R)) {j:Nat} (hj:j<X.length):0<=fA fl (A.length+j)/\fA fl (A.length+j)<=(X.getD j default).cap:=by
 have h1:=(iE (jq h) hf).2;have h2:=xY (A:=A) (R:=R) hj;have h3:=h1 (A.length+j) (by show _<(aQ S cs cs.length).length;rw[he];exact h2.2);have h4:(az S cs).arcs=A++(X++R):=he;rw[h4,h2.1]at h3;exact h3
theorem Ck (h:stE S cs=0) {fl:List Int} (hf:ak (az S cs) fl=true) {i k:Nat} (hi:i<cs.length) (hk:k<S.lim.length):
 (0<=fA fl (bA S cs i k)/\fA fl (bA S cs i k)<=(cs.getD i default).cap)/\(0<=fA fl (bA S cs i k+1)/\fA fl (bA S cs i k+1)<=(cs.getD i default).cap)/\
 (0<=aIn S cs (fA fl) i k/\aIn S cs (fA fl) i k<=(cs.getD i default).inn)/\(0<=nz S cs (fA fl) i k/\nz S cs (fA fl) i k<=(cs.getD i default).out):=by
 obtain⟨r,hr⟩:=Ch hi hk;have hc:=(aT.1 (eG h hi)).1;have hl:=Fj (cs.getD i default) (ag S.lim.length i k) k;have f0:=ku h hf hr (j:=0) (by omega);have f1:=ku h hf hr (j:=1) (by omega);refine⟨f0,f1,?_,?_⟩
 ·unfold aIn
  by_cases ha:dB (cs.getD i default) k=true
  ·rw[if_pos ha];omega
  ·rw[if_neg ha]
   have e:slA (cs.getD i default) (ag S.lim.length i k) k=[⟨ag S.lim.length i k,ag S.lim.length i k+1,(cs.getD i default).cap,0⟩,⟨ag S.lim.length i k+1,ag S.lim.length i k+2,(cs.getD i default).cap,0⟩,⟨1+k,ag S.lim.length i k+2,(cs.getD i default).inn,0⟩,⟨ag S.lim.length i k+1,1+k,(cs.getD i default).out,0⟩]:=by unfold slA;rw[if_neg ha]
   rw[e]at hr;exact ku h hf hr (j:=2) (by simp)
 ·unfold nz
  by_cases ha:dB (cs.getD i default) k=true
  ·rw[if_pos ha];omega
  ·rw[if_neg ha]
   have e:slA (cs.getD i default) (ag S.lim.length i k) k=[⟨ag S.lim.length i k,ag S.lim.length i k+1,(cs.getD i default).cap,0⟩,⟨ag S.lim.length i k+1,ag S.lim.length i k+2,(cs.getD i default).cap,0⟩,⟨1+k,ag S.lim.length i k+2,(cs.getD i default).inn,0⟩,⟨ag S.lim.length i k+1,1+k,(cs.getD i default).out,0⟩]:=by unfold slA;rw[if_neg ha]
   rw[e]at hr;exact ku h hf hr (j:=3) (by simp)
theorem Hu (h:stE S cs=0) {fl:List Int} (hf:ak (az S cs) fl=true) {i:Nat} (hi:i<cs.length):(0<=fA fl (bA S cs i S.lim.length)/\fA fl (bA S cs i S.lim.length)<=(cs.getD i default).cap)/\0<=fA fl (bA S cs i S.lim.length+1):=by
 obtain⟨r,hr⟩:=Kt (S:=S) hi;have f0:=ku h hf hr (j:=0) (by simp[nN]);have f1:=ku h hf hr (j:=1) (by simp[nN]);exact⟨f0,f1.1⟩
theorem Cm (h:stE S cs=0) {fl:List Int} (hf:ak (az S cs) fl=true) {k:Nat} (hk:k<S.lim.length):(0<=fA fl k/\fA fl k<=S.lim.getD k 0)/\(0<=fA fl (S.lim.length+k)/\fA fl (S.lim.length+k)<=S.exp.getD k 0):=by
 obtain⟨r,hr⟩:=mZ S cs 0 cs.length;rw[Nat.zero_add,aQ]at hr;have h1:aQ S cs cs.length=[]++(dP S S.lim.length++(gQ S S.lim.length++r)):=by rw[hr];simp
 have h2:aQ S cs cs.length=dP S S.lim.length++(gQ S S.lim.length++r):=by rw[hr];simp
 have f1:=ku h hf h1 (j:=k) (by rw[fF];exact hk);have f2:=ku h hf h2 (j:=k) (by rw[iO];exact hk);rw[Ci _ hk,List.length_nil,Nat.zero_add]at f1;rw[Cj _ hk,fF]at f2;exact⟨f1,f2⟩
theorem Ku (h:stE S cs=0) {fl:List Int} (hf:ak (az S cs) fl=true) {i:Nat} (hi:i<cs.length): ∀k,k<=S.lim.length->lev (cs.getD i default) ((tbF S cs fl).inn.getD i []) ((tbF S cs fl).out.getD i []) k=fA fl (bA S cs i k)/\lL S cs (fA fl) i k=fA fl (bA S cs i k):=by
 have hc:=uT h hf i hi;have Nr: ∀k,k<=S.lim.length->lL S cs (fA fl) i k=fA fl (bA S cs i k):=fun k hk=>by
  by_cases e:k<S.lim.length
  ·have:=(hc.1 k e).1
   unfold r0K at this;omega
  ·obtain rfl:k=S.lim.length:=by omega
   have:=hc.2.1;omega
 intro k
 induction k with
 |zero=>intro hk;exact⟨Nr 0 hk,Nr 0 hk⟩
 |succ k ih=>
  intro hk;refine⟨?_,Nr (k+1) hk⟩;have h1:=ih (by omega);have h2:=(hc.1 k (by omega)).2;have h3:=Nr (k+1) hk;unfold r1K at h2;simp only[lL]at h3;rw[lev,h1.1,DT hi (by omega),rR hi (by omega)];omega
theorem Ra (S:Site) (cs:List Car) (fl:List Int):(tbF S cs fl).inn.length=cs.length/\(tbF S cs fl).out.length=cs.length:=by simp[tbF]
theorem Kv (S:Site) {cs:List Car} (fl:List Int) {i:Nat} (hi:i<cs.length):((tbF S cs fl).inn.getD i []).length=S.lim.length/\((tbF S cs fl).out.getD i []).length=S.lim.length:=by
 unfold tbF;simp only[];rw[dU _ _ _ _ hi,dU _ _ _ _ hi];simp[inR,gX,bT]
theorem Qd (h:stE S cs=0) {fl:List Int} (hf:ak (az S cs) fl=true) {k:Nat} (hk:k<S.lim.length):drP (tbF S cs fl) k cs.length=leK S (fA fl) k:=by
 rw[Ht h hf k hk];have: ∀m,m<=cs.length->drP (tbF S cs fl) k m=su (fun i=>aIn S cs (fA fl) i k-nz S cs (fA fl) i k) m:=fun m=>by
  induction m with
  |zero=>intro _;rfl
  |succ m ih=>intro hm;rw[drP,su,ih (by omega),DT (by omega) hk,rR (by omega) hk]
 exact this _ (Nat.le_refl _)
theorem jb (h:stE S cs=0) {fl:List Int} (hf:ak (az S cs) fl=true):plE S cs (tbF S cs fl)=0:=by
 have hl:=Ra S cs fl;have hg:(fQ cs.length S.lim.length (tbF S cs fl).inn&&fQ cs.length S.lim.length (tbF S cs fl).out)=true:=by
  rw[Bool.and_eq_true,bP,bP];exact⟨⟨hl.1,fun i hi=>(Kv S fl hi).1⟩,⟨hl.2,fun i hi=>(Kv S fl hi).2⟩⟩
 refine mr h hg (fun k hk=>?_) (fun i hi=>?_)
 ·refine mD (fun i hi=>?_) ?_
  ·unfold eZ
   rw[dL,DT hi hk,rR hi hk];have:=Ck h hf hi hk;refine⟨this.2.2.1,this.2.2.2,fun ha=>?_⟩;unfold aIn nz;rw[if_pos ha,if_pos ha];rfl
  ·rw[hl.1,Qd h hf hk]
   have:=Cm h hf hk;unfold leK;omega
 ·intro k hk
  rw[kR];have hv:=(Ku h hf hi k (by omega)).1;rw[hv];have hc:=(aT.1 (eG h hi)).1;unfold least
  by_cases e:k<S.lim.length
  ·have h1:=Ck h hf hi e
   have h2:=((uT h hf i hi).1 k e).2;have h3:=iN (eG h hi) k;rw[if_pos e,rR hi e];unfold r1K at h2;omega
  ·obtain rfl:k=S.lim.length:=by omega
   have h1:=Hu h hf hi;have h2:=(uT h hf i hi).2.2;rw[if_neg e];omega
def cA (f:Nat->Int):List Arc->Nat->Int
 |[],_=>0
 |a::l,j=>f j*a.cost+cA f l (j+1)
theorem jF (f:Nat->Int): ∀(a b:List Arc) (j:Nat),cA f (a++b) j=cA f a j+cA f b (j+a.length)
 |[],b,j=>by simp[cA]
 |x::a,b,j=>by
  simp only[List.cons_append,cA,jF f a b (j+1),List.length_cons];rw[show j+1+a.length=j+(a.length+1) by omega];omega
theorem Gf (N:Net) (fl:List Int): ∀k,k<=N.arcs.length->aV N fl k=cA (fA fl) (N.arcs.take k) 0
 |0,_=>by simp[aV,cA]
 |k+1,hk=>by
  rw[aV,Gf N fl k (by omega),List.take_succ_eq_append_getElem (by omega),jF];simp only[cA,List.length_take,Nat.min_eq_left (show k<=N.arcs.length by omega),Nat.zero_add,Int.add_zero];rw[zg (l:=N.arcs),List.getElem?_eq_getElem (by omega)];rfl
theorem Gg (f:Nat->Int): ∀(l:List Arc) (j:Nat),(∀a,a∈l->a.cost=0)->cA f l j=0
 |[],_,_=>rfl
 |a::l,j,h=>by
  rw[cA,h a (by simp),Gg f l (j+1) (fun b hb=>h b (by simp[hb]))];simp
theorem Kw (c:Car) (a k:Nat): ∀x,x∈slA c a k->x.cost=0:=by
 intro x hx;simp only[slA,List.mem_cons]at hx
 rcases hx with rfl|rfl|hx
 ·rfl
 ·rfl
 ·split at hx
  ·cases hx
  ·simp only[List.mem_cons,List.not_mem_nil,or_false]at hx
   rcases hx with rfl|rfl<;>rfl
theorem wh (c:Car) (a:Nat): ∀k x,x∈carA c a k->x.cost=0
 |0,x,hx=>by cases hx
 |k+1,x,hx=>by
  simp only[carA,List.mem_append]at hx
  rcases hx with hx|hx
  ·exact wh c a k x hx
  ·exact Kw c _ k x hx
theorem Cn (f:Nat->Int): ∀t,cA f (dP S t) 0=su (fun k=>f k*S.buy.getD k 0) t
 |0=>rfl
 |t+1=>by simp only[dP,jF,fF,su,Cn f t,cA,Nat.zero_add];omega
theorem Co (f:Nat->Int) (b:Nat): ∀t,cA f (gQ S t) b=su (fun k=> -(f (b+k)*S.sell.getD k 0)) t
 |0=>rfl
 |t+1=>by simp only[gQ,jF,iO,su,Co f b t,cA,Int.mul_neg];omega
theorem wm (S:Site) (cs:List Car) (fl:List Int):aV (az S cs) fl (aQ S cs cs.length).length=su (fun k=>fA fl k*S.buy.getD k 0-fA fl (S.lim.length+k)*S.sell.getD k 0) S.lim.length:=by
 have h1:=Gf (az S cs) fl (aQ S cs cs.length).length (Nat.le_refl _);rw[show(az S cs).arcs=aQ S cs cs.length from rfl,List.take_length]at h1;have h2: ∀i,cA (fA fl) (aQ S cs i) 0=su (fun k=>fA fl k*S.buy.getD k 0) S.lim.length+su (fun k=> -(fA fl (S.lim.length+k)*S.sell.getD k 0)) S.lim.length:=fun i=>by
  induction i with
  |zero=>rw[aQ,jF,fF,Cn,Nat.zero_add,Co]
  |succ i ih=>
   rw[aQ,jF,ih,Gg _ _ _ (fun a ha=>?_)]
   ·omega
   ·rw[List.mem_append]at ha
    rcases ha with ha|ha
    ·exact wh _ _ _ a ha
    ·simp only[nN,List.mem_cons,List.not_mem_nil,or_false]at ha
     rcases ha with rfl|rfl<;>rfl
 rw[h1,h2,<-xW];exact fZ _ (fun k _=>by omega)
theorem DU (T:Tab) (m:Nat): ∀n,prc S T m n=su (fun k=>prQ S T m k) n
 |0=>rfl
 |n+1=>by simp only[prc,su,DU T m n]
theorem Qe {g h:Nat->Int}: ∀n:Nat,(∀k,k<n->g k<=h k)->su g n<=su h n
 |0,_=>Int.le_refl _
 |n+1,e=>by have:=Qe (g:=g) (h:=h) n (fun k hk=>e k (by omega));have:=e n (by omega);simp only[su];omega
theorem uU (h:stE S cs=0) {fl:List Int} (hf:ak (az S cs) fl=true):prc S (tbF S cs fl) cs.length S.lim.length<=aV (az S cs) fl (aQ S cs cs.length).length:=by
 rw[wm,DU];refine Qe _ (fun k hk=>?_);have hd:=Qd h hf hk;have hb:=Cm h hf hk;have hs:=cu.1 ((aW h).2.2.1 k hk);unfold leK at hd;unfold prQ;rw[hd];generalize fA fl k=l at *;generalize fA fl (S.lim.length+k)=e at *;generalize S.buy.getD k 0=b at *;generalize S.sell.getD k 0=c at *;have h1:e*c<=e*b:=Int.mul_le_mul_of_nonneg_left hs.2.2.2.2 hb.2.1;have h2:l*c<=l*b:=Int.mul_le_mul_of_nonneg_left hs.2.2.2.2 hb.1.1
 by_cases hp:0<=l-e
 ·rw[show max 0 (l-e)=l-e by omega,show min 0 (l-e)=0 by omega,Int.sub_mul];omega
 ·rw[show max 0 (l-e)=0 by omega,show min 0 (l-e)=l-e by omega,Int.sub_mul];omega
end
def mO:List Arc->List Int->Prop
 |[],[]=>True
 |a::l,x::f=>(0<=x/\x<=a.cap)/\mO l f
 |_,_=>False
theorem mO.append: ∀{a b:List Arc} {f g:List Int},mO a f->mO b g->mO (a++b) (f++g)
 |[],_,[],_,_,h=>h
 |_::a,_,_::f,_,h1,h2=>⟨h1.1,mO.append h1.2 h2⟩
 |[],_,_::_,_,h,_=>False.elim h
 |_::_,_,[],_,h,_=>False.elim h
theorem mO.len: ∀{a:List Arc} {f:List Int},mO a f->f.length=a.length
 |[],[],_=>rfl
 |_::a,_::f,h=>by simp[mO.len h.2]
 |[],_::_,h=>False.elim h
 |_::_,[],h=>False.elim h
theorem mO.get: ∀{a:List Arc} {f:List Int},mO a f-> ∀j,j<a.length->0<=f.getD j 0/\f.getD j 0<=(a.getD j default).cap
 |[],[],_,j,hj=>by simp at hj
 |_::a,_::f,h,0,_=>h.1
 |_::a,_::f,h,j+1,hj=>by
  have:=mO.get h.2 j (by simpa using hj);simpa using this
 |[],_::_,h,_,_=>False.elim h
 |_::_,[],h,_,_=>False.elim h
theorem Ky {n:Nat} {c:Car} (h:dE n c=true) {k:Nat} (ha:dB c k=false):dz c k=0:=by
 have h2:=(aT.1 h).2;unfold dz;unfold dB at ha;have: ∀m,m<=c.trips.length->fO c.trips k m=false->iM c.trips k m=0:=by
  intro m
  induction m with
  |zero=>intro _ _;rfl
  |succ m ih=>
   intro hm hb;simp only[fO,Bool.or_eq_false_iff,decide_eq_false_iff_not]at hb;have ht:=iB.1 (h2 m (by omega));simp only[iM];rw[if_neg (fun e=>hb.2 ⟨by omega,by omega⟩)];exact ih (by omega) hb.1
 exact this _ (Nat.le_refl _) ha
def slF (c:Car) (x y:List Int) (k:Nat):List Int:=lev c x y k::(lev c x y k-dz c k-y.getD k 0)::(if dB c k=true then []else [x.getD k 0,y.getD k 0])
def flA (c:Car) (x y:List Int):Nat->List Int
 |0=>[]
 |k+1=>flA c x y k++slF c x y k
section
variable (S:Site) (cs:List Car) (T:Tab)
def flC:Nat->List Int
 |0=>(List.range S.lim.length).map (fun k=>max 0 (drP T k cs.length))++(List.range S.lim.length).map (fun k=>max 0 (-(drP T k cs.length)))
 |i+1=>flC i++(flA (cs.getD i default) (T.inn.getD i []) (T.out.getD i []) S.lim.length++[lev (cs.getD i default) (T.inn.getD i []) (T.out.getD i []) S.lim.length,lev (cs.getD i default) (T.inn.getD i []) (T.out.getD i []) S.lim.length-(cs.getD i default).fin])
def flT:List Int:=flC S cs T cs.length
end
section
variable {S:Site} {cs:List Car} {T:Tab}
theorem Kz (h:iU S cs T) {i k:Nat} (hi:i<cs.length) (hk:k<S.lim.length) (a:Nat):mO (slA (cs.getD i default) a k) (slF (cs.getD i default) (T.inn.getD i []) (T.out.getD i []) k):=by
 have hl:=h.level hi (k:=k) (by omega);have hc:=dL.1 (h.car k hk i hi);have hg:=(kR.1 (h.lv i hi k (by omega))).1;have hu:=iN (h.carok hi) k;unfold least at hg;rw[if_pos hk]at hg;unfold slA slF
 by_cases ha:dB (cs.getD i default) k=true
 ·have:=hc.2.2 ha
  rw[if_pos ha,if_pos ha];exact⟨hl,⟨by omega,by simp only;omega⟩,trivial⟩
 ·have h0:=Ky (h.carok hi) (by simpa using ha)
  rw[if_neg ha,if_neg ha];exact⟨hl,⟨by omega,by simp only;omega⟩,hc.1,hc.2.1,trivial⟩
theorem rU (h:iU S cs T) {i:Nat} (hi:i<cs.length) (a:Nat): ∀k,k<=S.lim.length->mO (carA (cs.getD i default) a k) (flA (cs.getD i default) (T.inn.getD i []) (T.out.getD i []) k)
 |0,_=>trivial
 |k+1,hk=>(rU h hi a k (by omega)).append (Kz h hi (by omega) _)
theorem Gh (g:Nat->Int) (hg: ∀k,k<S.lim.length->0<=g k/\g k<=S.lim.getD k 0): ∀t,t<=S.lim.length->mO (dP S t) ((List.range t).map g)
 |0,_=>trivial
 |t+1,ht=>by
  rw[List.range_succ,List.map_append];exact(Gh g hg t (by omega)).append ⟨hg t (by omega),trivial⟩
theorem Gi (g:Nat->Int) (hg: ∀k,k<S.lim.length->0<=g k/\g k<=S.exp.getD k 0): ∀t,t<=S.lim.length->mO (gQ S t) ((List.range t).map g)
 |0,_=>trivial
 |t+1,ht=>by
  rw[List.range_succ,List.map_append];exact(Gi g hg t (by omega)).append ⟨hg t (by omega),trivial⟩
theorem rV (h:iU S cs T): ∀i,i<=cs.length->mO (aQ S cs i) (flC S cs T i)
 |0,_=>by
  have hs:=(aW h.ok).2.2.1;refine(Gh _ (fun k hk=>?_) _ (Nat.le_refl _)).append (Gi _ (fun k hk=>?_) _ (Nat.le_refl _))
  ·have:=h.dr k hk
   rw[h.li]at this;have:=cu.1 (hs k hk);omega
  ·have:=h.dr k hk
   rw[h.li]at this;have:=cu.1 (hs k hk);omega
 |i+1,hi=>by
  have hl:=h.level (i:=i) (by omega) (Nat.le_refl S.lim.length);have hf:=h.last (i:=i) (by omega);have hc:=(aT.1 (h.carok (i:=i) (by omega))).1;exact(rV h i (by omega)).append ((rU h (by omega) _ _ (Nat.le_refl _)).append ⟨hl,⟨by omega,by simp only;omega⟩,trivial⟩)
theorem KA {A X R:List Int} {j:Nat} (hj:j<X.length):(A++(X++R)).getD (A.length+j) 0=X.getD j 0:=by
 rw[zg,List.getElem?_append_right (by omega),show A.length+j-A.length=j by omega,List.getElem?_append_left hj,zg]
theorem Gj (c:Car) (x y:List Int) (k:Nat): ∀d,∃r,flA c x y (k+d)=flA c x y k++r
 |0=>⟨[],by simp⟩
 |d+1=>by
  obtain⟨r,hr⟩:=Gj c x y k d;exact⟨r++slF c x y (k+d),by rw[<-Nat.add_assoc,flA,hr,List.append_assoc]⟩
theorem rW (S:Site) (cs:List Car) (T:Tab) (i:Nat): ∀d,∃r,flC S cs T (i+d)=flC S cs T i++r
 |0=>⟨[],by simp⟩
 |d+1=>by
  obtain⟨r,hr⟩:=rW S cs T i d;exact⟨_,by rw[<-Nat.add_assoc,flC,hr,List.append_assoc]⟩
theorem rX (h:iU S cs T) {i k:Nat} (hi:i<cs.length) (hk:k<S.lim.length) {j:Nat} (hj:j<(slF (cs.getD i default) (T.inn.getD i []) (T.out.getD i []) k).length):fA (flT S cs T) (bA S cs i k+j)=(slF (cs.getD i default) (T.inn.getD i []) (T.out.getD i []) k).getD j 0:=by
 obtain⟨r,hr⟩:=rW S cs T (i+1) (cs.length-(i+1));obtain⟨r2,hr2⟩:=Gj (cs.getD i default) (T.inn.getD i []) (T.out.getD i []) (k+1) (S.lim.length-(k+1));rw[show i+1+(cs.length-(i+1))=cs.length by omega]at hr;rw[show k+1+(S.lim.length-(k+1))=S.lim.length by omega]at hr2;have hlen:bA S cs i k=(flC S cs T i++flA (cs.getD i default) (T.inn.getD i []) (T.out.getD i []) k).length:=by
  unfold bA bG;rw[List.length_append,List.length_append,(rV h i (by omega)).len,(rU h hi (ag S.lim.length i 0) k (by omega)).len]
 unfold fA flT;rw[hr,flC,hr2,flA,hlen];have:=KA (A:=flC S cs T i++flA (cs.getD i default) (T.inn.getD i []) (T.out.getD i []) k) (R:=r2++([lev (cs.getD i default) (T.inn.getD i []) (T.out.getD i []) S.lim.length,lev (cs.getD i default) (T.inn.getD i []) (T.out.getD i []) S.lim.length-(cs.getD i default).fin]++r)) hj;rw[<-this]
 congr 1
 simp
theorem Ns (h:iU S cs T) {i:Nat} (hi:i<cs.length):fA (flT S cs T) (bA S cs i S.lim.length)=lev (cs.getD i default) (T.inn.getD i []) (T.out.getD i []) S.lim.length/\fA (flT S cs T) (bA S cs i S.lim.length+1)=lev (cs.getD i default) (T.inn.getD i []) (T.out.getD i []) S.lim.length-(cs.getD i default).fin:=by
 obtain⟨r,hr⟩:=rW S cs T (i+1) (cs.length-(i+1));rw[show i+1+(cs.length-(i+1))=cs.length by omega]at hr;have hlen:bA S cs i S.lim.length=(flC S cs T i++flA (cs.getD i default) (T.inn.getD i []) (T.out.getD i []) S.lim.length).length:=by
  unfold bA bG;rw[List.length_append,List.length_append,(rV h i (by omega)).len,(rU h hi (ag S.lim.length i 0) S.lim.length (Nat.le_refl _)).len]
 have he:flT S cs T=(flC S cs T i++flA (cs.getD i default) (T.inn.getD i []) (T.out.getD i []) S.lim.length)++([lev (cs.getD i default) (T.inn.getD i []) (T.out.getD i []) S.lim.length,lev (cs.getD i default) (T.inn.getD i []) (T.out.getD i []) S.lim.length-(cs.getD i default).fin]++r):=by
  unfold flT;rw[hr,flC];simp
 unfold fA;rw[he,hlen];have e0:=KA (A:=flC S cs T i++flA (cs.getD i default) (T.inn.getD i []) (T.out.getD i []) S.lim.length) (R:=r) (X:=[lev (cs.getD i default) (T.inn.getD i []) (T.out.getD i []) S.lim.length,lev (cs.getD i default) (T.inn.getD i []) (T.out.getD i []) S.lim.length-(cs.getD i default).fin]) (j:=0) (by simp);have e1:=KA (A:=flC S cs T i++flA (cs.getD i default) (T.inn.getD i []) (T.out.getD i []) S.lim.length) (R:=r) (X:=[lev (cs.getD i default) (T.inn.getD i []) (T.out.getD i []) S.lim.length,lev (cs.getD i default) (T.inn.getD i []) (T.out.getD i []) S.lim.length-(cs.getD i default).fin]) (j:=1) (by simp);exact⟨e0,e1⟩
theorem Gl (S:Site) (cs:List Car) (T:Tab) {k:Nat} (hk:k<S.lim.length):fA (flT S cs T) k=max 0 (drP T k cs.length)/\fA (flT S cs T) (S.lim.length+k)=max 0 (-(drP T k cs.length)):=by
 obtain⟨r,hr⟩:=rW S cs T 0 cs.length;rw[Nat.zero_add,flC]at hr;unfold fA flT;constructor
 ·have:=KA (A:=[]) (X:=(List.range S.lim.length).map (fun k=>max 0 (drP T k cs.length))) (R:=(List.range S.lim.length).map (fun k=>max 0 (-(drP T k cs.length)))++r) (j:=k) (by simp;exact hk)
  rw[List.nil_append,List.length_nil,Nat.zero_add,dU _ _ _ _ hk]at this;rw[hr,List.append_assoc];exact this
 ·have:=KA (A:=(List.range S.lim.length).map (fun k=>max 0 (drP T k cs.length))) (X:=(List.range S.lim.length).map (fun k=>max 0 (-(drP T k cs.length)))) (R:=r) (j:=k) (by simp;exact hk)
  rw[List.length_map,List.length_range,dU _ _ _ _ hk]at this;rw[hr,List.append_assoc];exact this
theorem Gm (c:Car) (x y:List Int) (k:Nat):2<=(slF c x y k).length:=by unfold slF;simp
theorem KD (h:iU S cs T) {i k:Nat} (hi:i<cs.length) (hk:k<S.lim.length):aIn S cs (fA (flT S cs T)) i k=(T.inn.getD i []).getD k 0/\nz S cs (fA (flT S cs T)) i k=(T.out.getD i []).getD k 0:=by
 have hc:=dL.1 (h.car k hk i hi);unfold aIn nz
 by_cases ha:dB (cs.getD i default) k=true
 ·have:=hc.2.2 ha
  rw[if_pos ha,if_pos ha];omega
 ·have e:slF (cs.getD i default) (T.inn.getD i []) (T.out.getD i []) k=[lev (cs.getD i default) (T.inn.getD i []) (T.out.getD i []) k,lev (cs.getD i default) (T.inn.getD i []) (T.out.getD i []) k-dz (cs.getD i default) k-(T.out.getD i []).getD k 0,(T.inn.getD i []).getD k 0,(T.out.getD i []).getD k 0]:=by unfold slF;rw[if_neg ha]
  rw[if_neg ha,if_neg ha,rX h hi hk (j:=2) (by rw[e];simp),rX h hi hk (j:=3) (by rw[e];simp),e];exact⟨rfl,rfl⟩
theorem Rb (h:iU S cs T) {i:Nat} (hi:i<cs.length):(∀k,k<=S.lim.length->lL S cs (fA (flT S cs T)) i k=lev (cs.getD i default) (T.inn.getD i []) (T.out.getD i []) k)/\ ∀k,k<S.lim.length->r0K S cs (fA (flT S cs T)) i k=0/\r1K S cs (fA (flT S cs T)) i k=0:=by
 have h0: ∀k,k<S.lim.length->fA (flT S cs T) (bA S cs i k)=lev (cs.getD i default) (T.inn.getD i []) (T.out.getD i []) k:=fun k hk=>
  rX h hi hk (j:=0) (by have:=Gm (cs.getD i default) (T.inn.getD i []) (T.out.getD i []) k;omega)
 have h1: ∀k,k<S.lim.length->fA (flT S cs T) (bA S cs i k+1)=lev (cs.getD i default) (T.inn.getD i []) (T.out.getD i []) k-dz (cs.getD i default) k-(T.out.getD i []).getD k 0:=fun k hk=>
  rX h hi hk (j:=1) (by have:=Gm (cs.getD i default) (T.inn.getD i []) (T.out.getD i []) k;omega)
 have hi1: ∀k,k<=S.lim.length->lL S cs (fA (flT S cs T)) i k=lev (cs.getD i default) (T.inn.getD i []) (T.out.getD i []) k:=fun k hk=>by
  cases k with
  |zero=>rfl
  |succ k=>
   have:=(KD h hi (show k<S.lim.length by omega)).1;rw[lL,h1 k (by omega),this,lev];omega
 refine⟨hi1,fun k hk=>⟨?_,?_⟩⟩
 ·unfold r0K
  rw[hi1 k (by omega),h0 k hk];omega
 ·unfold r1K
  rw[h0 k hk,h1 k hk,(KD h hi hk).2];omega
theorem KF (c:Car) (x y:List Int): ∀k,lev c x y k=c.start+su (fun j=>x.getD j 0-y.getD j 0) k-usT c k
 |0=>by simp[lev,su,usT]
 |k+1=>by rw[lev,KF c x y k,su,usT];omega
theorem Cq (c:Car): ∀k,sum (gN c k)=(if k=0 then 0 else c.start)-usT c k
 |0=>rfl
 |k+1=>by
  rw[gN,sum_append,Cq c k,usT,if_neg (show¬(k+1=0) by omega)];simp only[slS,sum]
  by_cases h:k=0
  ·rw[if_pos h,if_pos h];omega
  ·rw[if_neg h,if_neg h];omega
theorem KG (g:Nat->Int) (c:Int): ∀n,su (fun k=>g k*c) n=su g n*c
 |0=>by simp[su]
 |n+1=>by simp only[su];rw[KG g c n,Int.add_mul]
theorem KH (h:iU S cs T) (q:Nat->Int): ∀i,i<=cs.length->su (fun k=>drP T k i*(q (1+k)-q 0)) S.lim.length+su (caR S cs (fA (flT S cs T)) q) i=q 0*sum (aY S cs i)
 |0,_=>by
  have e1:su (fun k=>drP T k 0*(q (1+k)-q 0)) S.lim.length=0:=by rw[fZ (h:=fun _=>0) _ (fun k _=>by simp[drP]),xX]
  have e2: ∀n,sum (List.replicate n 0)=0:=fun n=>by
   induction n with
   |zero=>rfl
   |succ n ih=>rw[List.replicate_succ,sum,ih];rfl
  rw[e1];simp[su,aY,sum,e2]
 |i+1,hi=>by
  have hn:=(aj.1 (aW h.ok).2.1).1.1;have ih:=KH h q i (by omega);have hr:=Rb h (i:=i) (by omega);have hl:=Ns h (i:=i) (by omega);have e1:su (fun k=>drP T k (i+1)*(q (1+k)-q 0)) S.lim.length=su (fun k=>drP T k i*(q (1+k)-q 0)) S.lim.length+su (fun k=>((T.inn.getD i []).getD k 0-(T.out.getD i []).getD k 0)*q (1+k)) S.lim.length-su (fun k=>(T.inn.getD i []).getD k 0-(T.out.getD i []).getD k 0) S.lim.length*q 0:=by
   rw[<-KG,<-xW];have: ∀(a b c:Nat->Int) n,(∀k,k<n->a k=b k-c k)->su a n=su b n-su c n:=fun a b c n=>by
    induction n with
    |zero=>intro _;rfl
    |succ n ih=>intro hh;simp only[su];rw[ih (fun k hk=>hh k (by omega)),hh n (by omega)];omega
   refine this _ _ _ _ (fun k _=>?_);simp only[drP];generalize drP T k i=a;generalize (T.inn.getD i []).getD k 0-(T.out.getD i []).getD k 0=b;generalize q (1+k)=c;generalize q 0=d
   grind
  have e2:su (slR S cs (fA (flT S cs T)) q i) S.lim.length= -su (fun k=>((T.inn.getD i []).getD k 0-(T.out.getD i []).getD k 0)*q (1+k)) S.lim.length:=by
   have: ∀(a b:Nat->Int) n,(∀k,k<n->a k= -b k)->su a n= -su b n:=fun a b n=>by
    induction n with
    |zero=>intro _;rfl
    |succ n ih=>intro hh;simp only[su];rw[ih (fun k hk=>hh k (by omega)),hh n (by omega)];omega
   refine this _ _ _ (fun k hk=>?_);unfold slR;have h1:=hr.2 k hk;have h2:=KD h (i:=i) (by omega) hk;rw[h1.1,h1.2,h2.1,h2.2];simp
  have e3:caR S cs (fA (flT S cs T)) q i= -su (fun k=>((T.inn.getD i []).getD k 0-(T.out.getD i []).getD k 0)*q (1+k)) S.lim.length+(lev (cs.getD i default) (T.inn.getD i []) (T.out.getD i []) S.lim.length-(cs.getD i default).fin)*q 0:=by
   unfold caR;rw[e2,hr.1 _ (Nat.le_refl _),hl.1,hl.2];rw[show lev (cs.getD i default) (T.inn.getD i []) (T.out.getD i []) S.lim.length-(lev (cs.getD i default) (T.inn.getD i []) (T.out.getD i []) S.lim.length-(cs.getD i default).fin)-(cs.getD i default).fin=0 by omega];rw[Int.sub_self,Int.zero_mul,Int.zero_mul];omega
  have e4:sum (aY S cs (i+1))=sum (aY S cs i)+(cs.getD i default).start -usT (cs.getD i default) S.lim.length-(cs.getD i default).fin:=by
   rw[aY,sum_append,sum_append,Cq,if_neg (by omega)];simp only[sum];omega
  have e5:=KF (cs.getD i default) (T.inn.getD i []) (T.out.getD i []) S.lim.length;rw[e1,su,e3,e4,e5];generalize su (fun k=>(T.inn.getD i []).getD k 0-(T.out.getD i []).getD k 0) S.lim.length=A at *;generalize su (fun k=>((T.inn.getD i []).getD k 0-(T.out.getD i []).getD k 0)*q (1+k)) S.lim.length=B at *;generalize su (fun k=>drP T k i*(q (1+k)-q 0)) S.lim.length=C at *;generalize su (caR S cs (fA (flT S cs T)) q) i=D at *;generalize q 0=d at *;generalize usT (cs.getD i default) S.lim.length=u at *;generalize (cs.getD i default).start=st at *;generalize (cs.getD i default).fin=fi at *;generalize sum (aY S cs i)=sm at *;clear e1 e2 e3 e4 e5 hr hl
  grind
theorem Gn (g:Nat->Int) (v:Nat): ∀n:Nat,bZ (fun u=>if u=v then 1 else 0) g n=if v<n then g v else 0
 |0=>rfl
 |n+1=>by
  simp only[bZ];rw[Gn g v n]
  by_cases h:n=v
  ·subst h;rw[if_neg (Nat.lt_irrefl n),if_pos rfl,if_pos (by omega)];omega
  ·rw[if_neg h]
   by_cases h2:v<n
   ·rw[if_pos h2,if_pos (by omega)];omega
   ·rw[if_neg h2,if_neg (by omega)];omega
theorem lM (h:iU S cs T):ak (az S cs) (flT S cs T)=true/\aV (az S cs) (flT S cs T) (aQ S cs cs.length).length=prc S T cs.length S.lim.length:=by
 have hc:=rV h cs.length (Nat.le_refl _);have h0:=jq h.ok;constructor
 ·refine nK hc.len hc.get (fun v hv=>?_)
  rw[om h0 _ _ (Nat.le_refl _)];have hv':v<bK S cs:=by have:v<(kU S cs).length:=hv;rwa [eF]at this
  have h1:=Gd h.ok (fA (flT S cs T)) (fun u=>if u=v then 1 else 0);rw[Gn,if_pos hv']at h1;have h2:=KH h (fun u=>if u=v then 1 else 0) cs.length (Nat.le_refl _);have h3:su (fun k=>leK S (fA (flT S cs T)) k*((if 1+k=v then (1:Int)else 0)-(if 0=v then 1 else 0))) S.lim.length=su (fun k=>drP T k cs.length*((if 1+k=v then (1:Int)else 0)-(if 0=v then 1 else 0))) S.lim.length:=fZ _ (fun k hk=>by
   have:=Gl S cs T hk;unfold leK;rw[this.1,this.2,show max 0 (drP T k cs.length)-max 0 (-(drP T k cs.length))=drP T k cs.length by omega])
  show lv (az S cs) (fA (flT S cs T)) (aQ S cs cs.length).length v=0
  rw[h1,h3,h2,Int.mul_neg];omega
 ·rw[wm,DU]
  refine fZ _ (fun k hk=>?_);have:=Gl S cs T hk;rw[this.1,this.2];unfold prQ;rw[show min 0 (drP T k cs.length)= -(max 0 (-(drP T k cs.length))) by omega,Int.neg_mul];omega
end
structure KJ (S:Site) (cs:List Car) (T:Tab) (p:List Int):Prop where
 ok:plE S cs T=0
 le: ∀U,plE S cs U=0->prc S T cs.length S.lim.length<=prc S U cs.length S.lim.length
 pe:prE (az S cs) p=0
 pv:prV (az S cs) p=prc S T cs.length S.lim.length
theorem Hw {S:Site} {cs:List Car} {fl p:List Int} (h:stE S cs=0) (hf:ak (az S cs) fl=true) (hl:p.length=(az S cs).sup.length) (hb: ∀v,v<p.length->dX (p.getD v 0)=true) (he:aV (az S cs) fl (az S cs).arcs.length=prA (az S cs) p (az S cs).arcs.length):KJ S cs (tbF S cs fl) p:=by
 have hk:=jb h hf;have hp:=uU h hf;have hn:=jq h;have hy:=CU hn hl hb;have hle: ∀U,plE S cs U=0->aV (az S cs) fl (az S cs).arcs.length<=prc S U cs.length S.lim.length:=fun U hU=>by
  have h1:=lM (lQ hU);have h2:=weak (ps:=p) hn h1.1;rw[he];have h3:=h1.2;have e:(az S cs).arcs.length=(aQ S cs cs.length).length:=rfl;rw[e]at h2 ⊢;omega
 refine⟨hk,fun U hU=>?_,hy.1,?_⟩
 ·have:=hle U hU
  have e:(az S cs).arcs.length=(aQ S cs cs.length).length:=rfl;rw[e]at this;omega
 ·have:=hle _ hk
  rw[hy.2,<-he];have e:(az S cs).arcs.length=(aQ S cs cs.length).length:=rfl;rw[e]at this ⊢;omega
theorem wo {S:Site} {cs:List Car} (h: ∀fl,ak (az S cs) fl=false) (T:Tab):plE S cs T≠0:=fun hT=>by
 have:=(lM (lQ hT)).1;rw[h]at this
 cases this
theorem ng {S:Site} {cs:List Car} {T:Tab} (hT:plE S cs T=0): ∃fl,ak (az S cs) fl=true:=⟨_,(lM (lQ hT)).1⟩
theorem KL {S:Site} {cs:List Car} {fl:List Int} {i:Nat} {f:Nat->Int} (R:List Int) (hR:R=bT f S.lim.length S.lim.length):bT (fun k=>rdF fl (R.getD k 0)) S.lim.length S.lim.length=R.map (rdF fl):=by
 subst hR;unfold bT;rw[List.map_map];refine List.map_congr_left (fun k hk=>?_);have hk:k<S.lim.length:=by simpa using hk
 simp[hk,zg]
theorem Ur {S:Site} {cs:List Car} {i k:Nat} (hi:i<cs.length) (hk:k<S.lim.length):inX S cs i k<(aQ S cs cs.length).length/\nP S cs i k<(aQ S cs cs.length).length:=by
 obtain⟨r,hr⟩:=Ch (S:=S) hi hk;unfold inX nP
 by_cases ha:dB (cs.getD i default) k=true
 ·rw[if_pos ha,if_pos ha];omega
 ·rw[if_neg ha,if_neg ha,hr]
  have:(slA (cs.getD i default) (ag S.lim.length i k) k).length=4:=by unfold slA;rw[if_neg ha];rfl
  rw[List.length_append,List.length_append,this];omega
end Dp
end Go.Proofs.Ytmebpglkeedaoaa
namespace Go.Proofs.Ytmebpglkeedaoaa
open Go.RowKit Dp
theorem aU {W:World} {g t B e z n cap:Nat} {cs xs:List Value} {A:Option Addr} (hb:Blk W g t cs) (h:W.ownsRow B e z (.slice A n cap) n xs) (hne:t≠e):some g≠(Value.slice A n cap).ownBlock:=by
 intro hk
 rcases h.2 with ⟨h0,_⟩|⟨g',cap',cur,hv,_,hg,_⟩
 ·rw[h0]at hk;cases hk
 ·rw[hv]at hk
  simp only[Value.ownBlock,Option.some.injEq]at hk;subst hk;unfold Blk at hb;rw[hg]at hb;simp only[Option.some.injEq,Obj.cells.injEq]at hb;exact hne hb.2.1.symm
theorem aF {W:World} {g t B e z n cap:Nat} {cs xs:List Value} {A:Option Addr} (hb:Blk W g t cs) (h:W.ownsRow B e z (.slice A n cap) n xs) (hne:t≠e): ¬aK A g:=fun hk=>aU hb h hne (bE.1 hk).symm
def VQ (W:World) (n G:Nat) (v:Value) (xs:List Int):Prop:= ∃g,v=.slice (some ⟨g,0,none⟩) n n/\g<G/\Fl 3 W g xs/\xs.length=n
def cK (W:World) (n G:Nat) (vs:List Value) (R:Nat->List Int) (i:Nat):Prop:= ∀x,x<i-> ∃v,vs[x]?=some v/\VQ W n G v (R x)
section
variable {W V:World} {n G i:Nat} {vs:List Value} {R:Nat->List Int}
theorem cK.of (h:cK W n G vs R i) (f: ∀g xs,g<G->Fl 3 W g xs->Fl 3 V g xs):cK V n G vs R i:=fun x hx=>by
 obtain⟨v,h1,g,h2,h3,h4,h5⟩:=h x hx;exact⟨v,h1,g,h2,h3,f g _ h3 h4,h5⟩
theorem cK.below (h:cK W n G vs R i) (hb:Below W.heap.size W V):cK V n G vs R i:=h.of fun g xs _ hf=>hf.below hb
theorem cK.grown {B e z m cap:Nat} {A:Option Addr} {xs:List Value} (h:cK W n G vs R i) (ho:W.ownsRow B e z (.slice A m cap) m xs) (hne:3≠e) (hg:W.grownBy V (Value.slice A m cap).ownBlock):cK V n G vs R i:=h.of fun g xs _ hf=>Blk.grown hf hg (aU hf ho hne)
theorem cK.set (h:cK W n G vs R i) {p:Addr} {t:TypeId} {cs:List Value} (hb:Blk W p.block t cs) (hn:t≠3∨G<=p.block) (u:Value):cK (W.setCell p u) n G vs R i:=h.of fun g xs hlt hf=>Blk.setCell_ne hf (fun e=>by
 rcases hn with hn|hn
 ·subst e;exact ae hb hf hn rfl
 ·omega) u
theorem cK.up {G':Nat} (h:cK W n G vs R i) (hG:G<=G'):cK W n G' vs R i:=fun x hx=>by
 obtain⟨v,h1,g,h2,h3,h4⟩:=h x hx;exact⟨v,h1,g,h2,by omega,h4⟩
theorem cK.add {g:Nat} (h:cK W n G vs R i) (hl:vs.length=i) (hf:Fl 3 W g (R i)) (hR:(R i).length=n) (hg:g<G):cK W n G (vs++[.slice (some ⟨g,0,none⟩) n n]) R (i+1):=fun x hx=>by
 by_cases e:x=i
 ·subst e
  exact⟨_,by rw[List.getElem?_append_right (by omega)];simp[hl],g,rfl,hg,hf,hR⟩
 ·obtain⟨u,e1,e2⟩:=h x (by omega)
  exact⟨u,by rw[List.getElem?_append_left (by omega)];exact e1,e2⟩
end
structure BdJ (w:World) (gs gb:Nat) (A:Option Addr) (cap:Nat) (AI AO:Option Addr) (ci co i:Nat) (vi vo:List Value) (sup:List Int) (arcs:List Arc) (W:World):Prop where
 b:Blk W gb 125 [.slice (some ⟨gs,0,none⟩) sup.length sup.length,.slice A arcs.length cap,.slice AI i ci,.slice AO i co]
 s:Fl 2 W gs sup
 own:W.ownsRow w.heap.size 46 4 (.slice A arcs.length cap) arcs.length (flat bD arcs)
 oi:W.ownsRow w.heap.size 26 1 (.slice AI i ci) i vi
 oo:W.ownsRow w.heap.size 26 1 (.slice AO i co) i vo
 dis: ∀k,aK AI k-> ¬aK AO k
 lt:w.heap.size<=gs/\w.heap.size<=gb
 bel:Below w.heap.size w W
section
variable {w W V:World} {gs gb cap cap2 ci co i:Nat} {A A2 AI AO:Option Addr} {vi vo:List Value} {sup:List Int} {arcs jY:List Arc}
theorem BdJ.below (h:BdJ w gs gb A cap AI AO ci co i vi vo sup arcs W) (hb:Below W.heap.size W V):BdJ w gs gb A cap AI AO ci co i vi vo sup arcs V:=
 ⟨h.b.below hb h.b.lt,h.s.below hb,bF h.own hb,bF h.oi hb,bF h.oo hb,h.dis,h.lt,h.bel.trans (hb.mono h.bel.size)⟩
theorem BdJ.other (h:BdJ w gs gb A cap AI AO ci co i vi vo sup arcs W) {p:Addr} {cs:List Value} (hb:Blk W p.block 3 cs) (hp:w.heap.size<=p.block) (u:Value):BdJ w gs gb A cap AI AO ci co i vi vo sup arcs (W.setCell p u):=
 ⟨h.b.setCell_ne (fun e=>by have:=h.b;rw[e]at this;exact ae hb this (by decide) rfl) u,h.s.set_ne (fun e=>by have:=h.s;rw[e]at this;exact ae hb this (by decide) rfl) u,
   bI h.own (aF hb h.own (by decide)) u,bI h.oi (aF hb h.oi (by decide)) u,bI h.oo (aF hb h.oo (by decide)) u,h.dis,h.lt,h.bel.setCell hp u⟩
theorem BdJ.set (h:BdJ w gs gb A cap AI AO ci co i vi vo sup arcs W) (k:Nat) (v:Int):BdJ w gs gb A cap AI AO ci co i vi vo (sup.set k v) arcs (W.setCell ⟨gs,k,none⟩ (.int .i64 v)):=
 ⟨by rw[List.length_set];exact h.b.setCell_ne (fun e=>ae h.b h.s (by decide) e.symm) _,h.s.put k v,
   bI h.own (aF (g:=gs) h.s h.own (by decide)) _,bI h.oi (aF (g:=gs) h.s h.oi (by decide)) _,bI h.oo (aF (g:=gs) h.s h.oo (by decide)) _,h.dis,h.lt,h.bel.setCell (by simp;exact h.lt.1) _⟩
theorem kY {B B' e e' z z' n n' c c':Nat} {A A':Option Addr} {xs xs':List Value} (h:W.ownsRow B e z (.slice A n c) n xs) (h':W.ownsRow B' e' z' (.slice A' n' c') n' xs') (hne: ∀k,aK A k-> ¬aK A' k) (hg:W.grownBy V (Value.slice A' n' c').ownBlock):V.ownsRow B e z (.slice A n c) n xs:=by
 refine⟨h.1,?_⟩
 rcases h.2 with h2|⟨k,c1,cur,hv,hb,hgk,r⟩
 ·exact .inl h2
 ·refine .inr ⟨k,c1,cur,hv,hb,(hg.block k (Array.getElem?_eq_some_iff.1 hgk).1 (fun ek=>?_)).trans hgk,r⟩
  exact hne k ((bE (n:=n) (cap:=c)).2 (by rw[hv];rfl)) (bE.2 ek.symm)
theorem oQ {B B' e e' z z' n n' c c':Nat} {A A':Option Addr} {xs xs':List Value} (h:W.ownsRow B e z (.slice A n c) n xs) (h':W.ownsRow B' e' z' (.slice A' n' c') n' xs') (hne:e≠e'): ∀k,aK A k-> ¬aK A' k:=by
 intro k h1 h2;have k1:=bE (n:=n) (cap:=c) |>.1 h1;have k2:=bE (n:=n') (cap:=c') |>.1 h2
 rcases h.2 with ⟨h0,_⟩|⟨g,c1,cur,hv,_,hg,_⟩
 ·rw[h0]at k1;cases k1
 ·rcases h'.2 with ⟨h0,_⟩|⟨g',c1',cur',hv',_,hg',_⟩
  ·rw[h0]at k2;cases k2
  ·rw[hv]at k1;rw[hv']at k2
   simp only[Value.ownBlock,Option.some.injEq]at k1 k2;subst k1;subst k2;rw[hg]at hg';simp only[Option.some.injEq,Obj.cells.injEq]at hg';exact hne hg'.2.1
theorem BdJ.push (h:BdJ w gs gb A cap AI AO ci co i vi vo sup arcs W) (hg:W.grownBy V (Value.slice A arcs.length cap).ownBlock)
 (ho:V.ownsRow w.heap.size 46 4 (.slice A2 jY.length cap2) jY.length (flat bD jY)):BdJ w gs gb A2 cap2 AI AO ci co i vi vo sup jY (V.setCell ⟨gb,1,none⟩ (.slice A2 jY.length cap2)):=by
 have b1:=h.b.grown hg (aU h.b h.own (by decide));have s1:Fl 2 V gs sup:=Blk.grown h.s hg (aU h.s h.own (by decide));have i1:=kY h.oi h.own (oQ h.oi h.own (by decide)) hg;have o1:=kY h.oo h.own (oQ h.oo h.own (by decide)) hg;have Rc:Below w.heap.size w V:=h.bel.grown hg h.bel.size (fun k e=>(World.ownsRow.lt h.own k e).1);refine⟨b1.setCell 1 _,s1.set_ne (fun e=>ae b1 s1 (by decide) e) _,bI ho (aF (g:=gb) b1 ho (by decide)) _,bI i1 (aF (g:=gb) b1 i1 (by decide)) _,bI o1 (aF (g:=gb) b1 o1 (by decide)) _,h.dis,h.lt,Rc.setCell (by simp;exact h.lt.2) _⟩
end
structure BkJ (w:World) (n G i gs gb gi go gc:Nat) (AI AO:Option Addr) (ci co:Nat) (vi vo:List Value) (RI RO:Nat->List Int) (cv:List Value) (A:Option Addr) (cap:Nat) (sup:List Int) (arcs:List Arc) (ri ro:List Int) (W:World):Prop where
 d:BdJ w gs gb A cap AI AO ci co i vi vo sup arcs W
 fi:Fl 3 W gi ri
 fo:Fl 3 W go ro
 ne:gi≠go
 ge:(G<=gi/\G<=go)/\(w.heap.size<=gi/\w.heap.size<=go)
 ri:cK W n G vi RI i
 ro:cK W n G vo RO i
 car:Blk W gc 63 cv
section
variable {w W V:World} {n G i gs gb gi go gc ci co cap cap2:Nat} {A A2 AI AO:Option Addr} {vi vo cv:List Value} {RI RO:Nat->List Int} {sup:List Int} {arcs jY:List Arc} {ri ro:List Int}
theorem BkJ.below (h:BkJ w n G i gs gb gi go gc AI AO ci co vi vo RI RO cv A cap sup arcs ri ro W) (hb:Below W.heap.size W V):BkJ w n G i gs gb gi go gc AI AO ci co vi vo RI RO cv A cap sup arcs ri ro V:=
 ⟨h.d.below hb,h.fi.below hb,h.fo.below hb,h.ne,h.ge,h.ri.below hb,h.ro.below hb,h.car.below hb h.car.lt⟩
theorem BkJ.alloc (h:BkJ w n G i gs gb gi go gc AI AO ci co vi vo RI RO cv A cap sup arcs ri ro W) (o:Obj):BkJ w n G i gs gb gi go gc AI AO ci co vi vo RI RO cv A cap sup arcs ri ro (W.alloc o):=h.below ((Below.refl _ _).alloc (Nat.le_refl _) o)
theorem BkJ.push (h:BkJ w n G i gs gb gi go gc AI AO ci co vi vo RI RO cv A cap sup arcs ri ro W) (hg:W.grownBy V (Value.slice A arcs.length cap).ownBlock)
 (ho:V.ownsRow w.heap.size 46 4 (.slice A2 jY.length cap2) jY.length (flat bD jY)):BkJ w n G i gs gb gi go gc AI AO ci co vi vo RI RO cv A2 cap2 sup jY ri ro (V.setCell ⟨gb,1,none⟩ (.slice A2 jY.length cap2)):=by
 have b1:=h.d.b.grown hg (aU h.d.b h.d.own (by decide));have f1:Fl 3 V gi ri:=Blk.grown h.fi hg (aU h.fi h.d.own (by decide));have f2:Fl 3 V go ro:=Blk.grown h.fo hg (aU h.fo h.d.own (by decide));have c1:Blk V gc 63 cv:=Blk.grown h.car hg (aU h.car h.d.own (by decide));exact⟨h.d.push hg ho,f1.set_ne (fun e=>ae b1 f1 (by decide) e) _,f2.set_ne (fun e=>ae b1 f2 (by decide) e) _,h.ne,h.ge,
  (h.ri.grown h.d.own (by decide) hg).set (p:=⟨gb,1,none⟩) b1 (.inl (by decide)) _,(h.ro.grown h.d.own (by decide) hg).set (p:=⟨gb,1,none⟩) b1 (.inl (by decide)) _,c1.setCell_ne (fun e=>ae b1 c1 (by decide) e) _⟩
theorem BkJ.set (h:BkJ w n G i gs gb gi go gc AI AO ci co vi vo RI RO cv A cap sup arcs ri ro W) (k:Nat) (v:Int):BkJ w n G i gs gb gi go gc AI AO ci co vi vo RI RO cv A cap (sup.set k v) arcs ri ro (W.setCell ⟨gs,k,none⟩ (.int .i64 v)):=
 ⟨h.d.set k v,h.fi.set_ne (fun e=>ae h.d.s h.fi (by decide) e) _,h.fo.set_ne (fun e=>ae h.d.s h.fo (by decide) e) _,h.ne,h.ge,h.ri.set (p:=⟨gs,k,none⟩) h.d.s (.inl (by decide)) _,h.ro.set (p:=⟨gs,k,none⟩) h.d.s (.inl (by decide)) _,h.car.setCell_ne (fun e=>ae h.d.s h.car (by decide) e) _⟩
theorem BkJ.seti (h:BkJ w n G i gs gb gi go gc AI AO ci co vi vo RI RO cv A cap sup arcs ri ro W) (k:Nat) (v:Int):BkJ w n G i gs gb gi go gc AI AO ci co vi vo RI RO cv A cap sup arcs (ri.set k v) ro (W.setCell ⟨gi,k,none⟩ (.int .i64 v)):=
 ⟨h.d.other (p:=⟨gi,k,none⟩) h.fi h.ge.2.1 _,h.fi.put k v,h.fo.set_ne (fun e=>h.ne e.symm) _,h.ne,h.ge,h.ri.set (p:=⟨gi,k,none⟩) h.fi (.inr h.ge.1.1) _,h.ro.set (p:=⟨gi,k,none⟩) h.fi (.inr h.ge.1.1) _,h.car.setCell_ne (fun e=>ae h.fi h.car (by decide) e) _⟩
theorem BkJ.seto (h:BkJ w n G i gs gb gi go gc AI AO ci co vi vo RI RO cv A cap sup arcs ri ro W) (k:Nat) (v:Int):BkJ w n G i gs gb gi go gc AI AO ci co vi vo RI RO cv A cap sup arcs ri (ro.set k v) (W.setCell ⟨go,k,none⟩ (.int .i64 v)):=
 ⟨h.d.other (p:=⟨go,k,none⟩) h.fo h.ge.2.2 _,h.fi.set_ne (fun e=>h.ne e) _,h.fo.put k v,h.ne,h.ge,h.ri.set (p:=⟨go,k,none⟩) h.fo (.inr h.ge.1.2) _,h.ro.set (p:=⟨go,k,none⟩) h.fo (.inr h.ge.1.2) _,h.car.setCell_ne (fun e=>ae h.fo h.car (by decide) e) _⟩
end
theorem pM (W:World) (gb n cap B m c:Nat) (A Bo:Option Addr) (v0 v2 v3:Value) (arcs news:List Arc) (hn:n=arcs.length) (hm:m=news.length) (hnm:n+m<=4096) (hb:Blk W gb 125 [v0,.slice A n cap,v2,v3]) (ho:W.ownsRow B 46 4 (.slice A n cap) n (flat bD arcs)) (hs:kC W Bo m (flat bD news)) (hB:B<=W.heap.size):
 Calls Try.prog 108 #[.pointer (some ⟨gb,0,none⟩),.slice Bo m c] W fun e W'=> ∃A2 cap2 V,e=.returned (.int .i64 n)/\W'=V.setCell ⟨gb,1,none⟩ (.slice A2 (n+m) cap2)/\W.grownBy V (Value.slice A n cap).ownBlock/\V.ownsRow B 46 4 (.slice A2 (n+m) cap2) (n+m) (flat bD (arcs++news)):=by
 have X:=zh hb;have HO:=zh ho;have HS:=zh hs;have HN:=zh hn;have HM:=zh hm;have FL:=zh (iF (f:=bD) (s:=4) (fun _=>rfl) news);clear hb ho hs hn hm;obtain⟨i3,h3i,h3z,h3s,h3b⟩:=info_parts tu;have y0:=X.cell 1 rfl;have wnm:IntKind.i64.wrap ((n:Int)+(m:Int)-(m:Int))=(n:Int):=by rw[show(n:Int)+(m:Int)-(m:Int)=n by omega];exact IntWalk.i64_in _ (by omega)
 go_enter Try.func108,Try.ntmps108;go_wp2_with (at_builtin;refine ax (.tmp 10) (.tmp 11) 23 rfl rfl B 46 i3 (.agg #[.int .i64 0,.int .i64 0,.int .i64 0,.int .i64 0]) 4 32 Try.underlying23 h3i h3z h3s h3b rfl (by decide) A n cap (flat bD arcs) (by rfl) HO.out Bo m c (flat bD news) (by rfl) (by rw[FL.out,HM.out]) HS.out (by intro u hu;obtain⟨a,_,ha⟩:=List.mem_flatMap.1 hu;simp[bD]at ha;rcases ha with rfl|rfl|rfl|rfl<;>rfl) (by unfold maxLen;omega) (by omega) hB ?_;intro A2 c2 v hown hgrow hat;have HO2:=zh hown;have HG2:=zh hgrow;have MM:=X.grown hgrow (aU X.out HO.out (by decide));clear y0;have y0:=MM.cell 1 rfl;have q0:=MM.free 1;have ML:=MM.lt;have XX:=zh (MM.setCell 1 (.slice A2 (n+m) c2));clear MM hown hgrow hat)
 go_upto_region 2 with fail
 have HW:Hid (v.setCell ⟨gb,1,none⟩ (.slice A2 (n+m) c2)=v.setCell ⟨gb,1,none⟩ (.slice A2 (n+m) c2)):=zh rfl;generalize hv1:v.setCell ⟨gb,1,none⟩ (.slice A2 (n+m) c2)=v1 at XX ⊢;have HV1:=zh hv1;clear y0 q0 hv1 HW;have y0:=XX.cell 1 rfl;go_wp2_with fail
 exact bodyPost_ret (v:=.int .i64 n) (by simp[results,Try.results108,go_sem]) rfl ⟨A2,c2,v,rfl,HV1.symm,HG2.out,by rw[eY];exact HO2.out⟩
theorem Nt {c:Car} {x y:List Int} {n k:Nat} (h:c.cap<lev c x y k):jk c x y n k=false:=decide_eq_false (fun e=>by omega)
theorem KM {c:Car} {x y:List Int} {n k:Nat} (hk:k<n) (h:lev c x y k<y.getD k 0):jk c x y n k=false:=decide_eq_false (fun e=>by unfold least at e;rw[if_pos hk]at e;omega)
theorem KN {c:Car} {x y:List Int} {n k:Nat} (hk:k<n) (h:lev c x y k<dz c k):jk c x y n k=false:=decide_eq_false (fun e=>by unfold least at e;rw[if_pos hk]at e;omega)
theorem KP {c:Car} {x y:List Int} {n:Nat} (h:lev c x y n<c.fin):jk c x y n n=false:=decide_eq_false (fun e=>by unfold least at e;rw[if_neg (Nat.lt_irrefl _)]at e;omega)
theorem Nu {c:Car} {x y:List Int} {n k:Nat} (hk:k<n) (h1:lev c x y k<=c.cap) (h2:y.getD k 0<=lev c x y k) (h3:dz c k<=lev c x y k):jk c x y n k=true:=decide_eq_true (by unfold least;rw[if_pos hk];omega)
theorem KQ {c:Car} {x y:List Int} {n:Nat} (h1:lev c x y n<=c.cap) (h2:c.fin<=lev c x y n):jk c x y n n=true:=decide_eq_true (by unfold least;rw[if_neg (Nat.lt_irrefl _)];omega)
noncomputable def Gp:Code:=((Try.f41.body.bind (gq 8)).getD .skip)
noncomputable def Re:Code:=((Try.f41.body.bind (behind 8)).getD .skip)
def R41 (S:Site) (cs:List Car) (T:Tab) (w:World):Ending->World->Prop:=fun e w'=>e=.returned (.int .i64 (plE S cs T))/\Below w.heap.size w w'
theorem VR (A B C D E P Q:Option Addr) (S:Site) (cs:List Car) (T:Tab) (n nB nC nD m cA cB cC cD cE cP cQ:Nat) (w W0:World) (bt:Nat) (hn:n=S.lim.length) (hm:m=cs.length) (hE:m<=cE/\cE<=9223372036854775807) (hP:m<=cP/\cP<=9223372036854775807) (hQ:m<=cQ/\cQ<=9223372036854775807)
 (h0:stE S cs=0) (hl:(fQ cs.length S.lim.length T.inn&&fQ cs.length S.lim.length T.out)=true) (hsl: ∀j,j<S.lim.length->fE S cs T j=0) (hcs:df w E cs) (hT:eu w P Q T) (hX:Blk W0 bt 55 [.slice P m cP,.slice Q m cQ]) (hB:Below w.heap.size w W0)
 {K:Act->World->Prop} (hK: ∀a w',Code.wp Try.prog Re (bodyPost Try.prog Try.f41 (R41 S cs T w)) a w'->K a w') {x0 x2 x4 x6 x8 x9 x10 x11 x12 x14 x15 x16 x17 x18 x19 x20 x21 x22 x23 x24 x25 x26 x27 x28 x29 x30 x31 x32 x33 x34 x35 x36 x37 x38 x39 x40 x41 x42 x43 x44 x45 x46 x47 x48 x49 x50 x51 x52 x53 x54 x55 x56 x57 x58 x59 x60 x61 x62 x63 x64 x65 x66 x67 x68 x69 x70 x71 x72 x73 x74 x75 x76 x77 x78 x79 x80 x81 x82 x83 x84 x85 x86 x87 x88 x89 x90 x91 x92 x93 x94 x95 x96 x97 x98 x99 x100 x101 x102 x103 x104 x105 qy x107 qz qA qB qC x112 x113 x114 x115 qD qE qG qH qI qJ qK qL qM qO qQ qR qU qV qW qX qY wZ xc xe tQ tT tV tX tY tZ uf ug uh ui uj uk uo uq x150 x151 x152 x153 uu uw uy x157 x158 x159 x160 uA uB uC uD uE uF x167 x168 xh xk xm xn xq xu xw xy xA xB xC xD xE xG xH xI xJ xK xL xM xN DV DW DX DY DZ Ea Eb Ec Ee Eg x200 Eh Ei Ej El Em En Eo Ep Er KR KU KV KW KX KY KZ K4 K6 K7 K8 K9 La Lb Lc Ld Le Lf Lg:Value}:
 Code.wp Try.prog Gp (Exit.inBlock 8 (Exit.then K (bodyPost Try.prog Try.f41 (R41 S cs T w)))) {tmps:=List.toArray (x0::(.slice E m cE:Value)::x2::(.pointer (some ⟨w.heap.size,0,none⟩):Value)::x4::(.pointer (some ⟨bt,0,none⟩):Value)::x6::(.int .i64 n:Value)::x8::x9::x10::x11::x12::(.int .i64 0:Value)::x14::x15::x16::x17::x18::x19::x20::x21::x22::x23::x24::x25::x26::x27::x28::x29::x30::x31::x32::x33::x34::x35::x36::x37::x38::x39::x40::x41::x42::x43::x44::x45::x46::x47::x48::x49::x50::x51::x52::x53::x54::x55::x56::x57::x58::x59::x60::x61::x62::x63::x64::x65::x66::x67::x68::x69::x70::x71::x72::x73::x74::x75::x76::x77::x78::x79::x80::x81::x82::x83::x84::x85::x86::x87::x88::x89::x90::x91::x92::x93::x94::x95::x96::x97::x98::x99::x100::x101::x102::x103::x104::x105::qy::x107::qz::qA::qB::qC::x112::x113::x114::x115::qD::qE::qG::qH::qI::qJ::qK::qL::qM::qO::qQ::qR::qU::qV::qW::qX::qY::wZ::xc::xe::tQ::tT::tV::tX::tY::tZ::uf::ug::uh::ui::uj::uk::uo::uq::x150::x151::x152::x153::uu::uw::uy::x157::x158::x159::x160::uA::uB::uC::uD::uE::uF::x167::x168::xh::xk::xm::xn::xq::xu::xw::xy::xA::xB::xC::xD::xE::xG::xH::xI::xJ::xK::xL::xM::xN::DV::DW::DX::DY::DZ::Ea::Eb::Ec::Ee::Eg::x200::Eh::Ei::Ej::El::Em::En::Eo::Ep::Er::KR::KU::KV::KW::KX::KY::KZ::K4::K6::K7::K8::K9::La::Lb::Lc::Ld::Le::Lf::Lg::[]),defers:=[]} W0:=by
 have HN:=zh hn;have HM:=zh hm;have H0:=zh h0;have HL:=zh hl;have HLG:Hid ((T.inn.length=cs.length/\ ∀i,i<cs.length->(T.inn.getD i []).length=S.lim.length)/\(T.out.length=cs.length/\ ∀i,i<cs.length->(T.out.getD i []).length=S.lim.length)):=zh (by
  rw[Bool.and_eq_true]at hl;exact⟨bP.1 hl.1,bP.1 hl.2⟩)
 have HSL:=zh hsl;have HCS:=zh hcs;have HT:=zh hT;have XT:=zh hX;have HB:=zh hB;have h48:n<=48:=by have h3:=(aj.1 (aW h0).2.1).1;omega
 clear hn hm h0 hl hsl hcs hT hX hB
 conv=>arg 2;whnf
 go_loopw [13,14,15,16] (fun iv _ _ _ wr=> ∃i:Nat,i<=m/\iv=.int .i64 i/\Hid (Below W0.heap.size W0 wr/\ ∀x,x<i-> ∀k,k<=S.lim.length->jk (cs.getD x default) (T.inn.getD x []) (T.out.getD x []) S.lim.length k=true)) (fun iv _ _ _ _=>m-(intOf iv).toNat)
 case atStart=>exact⟨0,Nat.zero_le _,rfl,zh ⟨Below.refl _ _,fun x hx=>absurd hx (Nat.not_lt_zero _)⟩⟩
 case round=>
  obtain⟨i,hi,rfl,HJ⟩:=hrel;have HBW:=zh (HB.trans (HJ.1.mono HB.size))
  by_cases hlt:i<m
  ·have hii:(i:Int)<(m:Int):=by omega
   have il:i<cs.length:=by rw[<-HM.out];exact hlt
   have HGO:Hid ((∀k,k<=S.lim.length->jk (cs.getD i default) (T.inn.getD i []) (T.out.getD i []) S.lim.length k=true)-> ∀x,x<i+1-> ∀k,k<=S.lim.length->jk (cs.getD x default) (T.inn.getD x []) (T.out.getD x []) S.lim.length k=true):=zh (fun h x hx=>by
    by_cases e:x=i
    ·subst e;exact h
    ·exact HJ.2 x (by omega))
   have HBAD:Hid (∀k,k<=S.lim.length->jk (cs.getD i default) (T.inn.getD i []) (T.out.getD i []) S.lim.length k=false->plE S cs T=19):=zh (fun k hk h=>Fe H0.out HL.out HSL.out il hk h);have HRB:=zh (Js H0.out HL.out (fun k hk x hx=>uI (HSL.out k hk) x hx) il);have HOK:=zh ((aW H0.out).2.2.2 i il);obtain⟨ad,hE2,abl,c0,c1,c2,c3,c4,TT,cT,c5,hcT,HTT⟩:=(HCS.below HBW.out (Nat.le_refl _)) i il;subst hE2;have HTR:=zh HTT;clear HTT;obtain⟨pa,hP2,pal,PT,cPT,p0,pb,pi⟩:=(HT.below HBW.out (Nat.le_refl _)).1 i (by rw[HLG.1.1];exact il);obtain⟨qa,hQ2,qal,QT,cQT,q0,qb,qi⟩:=(HT.below HBW.out (Nat.le_refl _)).2 i (by rw[HLG.2.1];exact il);subst hP2;subst hQ2;have L1:=HLG.1.2 i il;have L2:=HLG.2.2 i il;rw[L1,<-HN.out]at p0 pb;rw[L2,<-HN.out]at q0 qb;rw[<-HN.out]at HGO HBAD HRB HOK;generalize hcc:cs.getD i default=c at *;clear hcc;obtain⟨cap,inn,out,start,fin,trips⟩:=c;simp only at c0 c1 c2 c3 c4 c5 hcT HTR;generalize T.inn.getD i []=xr at *;generalize T.out.getD i []=yr at *;obtain⟨qn,hqn⟩: ∃qn,qn=trips.length:=⟨_,rfl⟩;rw[<-hqn]at c5 hcT;have HQN:=zh hqn;have HPI:=zh pi;have HQI:=zh qi;have HXL:=zh (L1.trans HN.symm);have HYL:=zh (L2.trans HN.symm);clear hqn pi qi L1 L2;have HUS:Hid (∀(k:Nat) V,Below wr.heap.size wr V->Calls Try.prog 86 #[.agg #[.int .i64 cap,.int .i64 inn,.int .i64 out,.int .i64 start,.int .i64 fin,.slice TT qn cT],.int .i64 ((k:Nat):Int)] V fun e w'=>e=.returned (.int .i64 (dz ⟨cap,inn,out,start,fin,trips⟩ k))/\Below V.heap.size V w'):=zh (fun k V hV=>by
    have:=JO (.int .i64 cap) (.int .i64 inn) (.int .i64 out) (.int .i64 start) (.int .i64 fin) k _ n TT trips qn cT V HQN.out hcT (HTR.below hV (Nat.le_refl _)) (aT.1 HOK.out).2;rw[show dz ⟨cap,inn,out,start,fin,trips⟩ k=iM trips k qn from by rw[HQN.out];rfl];exact this)
   have HLC:Hid (∀V,Below wr.heap.size wr V->Calls Try.prog 83 #[.agg #[.int .i64 cap,.int .i64 inn,.int .i64 out,.int .i64 start,.int .i64 fin,.slice TT qn cT],.slice PT n cPT,.slice QT n cQT] V fun e w'=> ∃g c,e=.returned (.slice (some ⟨g,0,none⟩) (n+1) c)/\dI V.heap.size w' g c (lvN ⟨cap,inn,out,start,fin,trips⟩ xr yr (n+1))/\Below V.heap.size V w'):=zh (fun V hV=>Hq cap inn out start fin trips xr yr TT PT QT qn n cT cPT cQT V HQN.out hcT (HTR.below hV (Nat.le_refl _)) HOK.out h48 pb qb (HPI.below hV (Nat.le_refl _)) (HQI.below hV (Nat.le_refl _)) HRB.1 HRB.2);have HP0:Hid (∀V,Below wr.heap.size wr V->(V.cell? (pa.add i)=some (.slice PT n cPT)/\(pa.add i).block<V.heap.size)/\(V.cell? (qa.add i)=some (.slice QT n cQT)/\(qa.add i).block<V.heap.size)):=zh (fun V hV=>by
    have k:=hV.size;exact⟨⟨(hV.cell (by rw[block_add];omega)).trans p0,by rw[block_add];omega⟩,⟨(hV.cell (by rw[block_add];omega)).trans q0,by rw[block_add];omega⟩⟩)
   have HY0:Hid (∀k,k<n-> ∀V,Below wr.heap.size wr V-> ∃qd,QT=some qd/\V.cell? (qd.add k)=some (.int .i64 (yr.getD k 0))/\(qd.add k).block<V.heap.size):=zh (fun k hk V hV=>by
    obtain⟨qd,e,h1,h2⟩:=(HQI.below hV (Nat.le_refl _)) k (by rw[HYL.out];exact hk);exact⟨qd,e,h2,by rw[block_add];exact h1⟩)
   have HXT:Hid (∀V,Below wr.heap.size wr V->Blk V bt 55 [.slice (some pa) m cP,.slice (some qa) m cQ]):=zh (fun V hV=>XT.below (HJ.1.trans (hV.mono HJ.1.size)) XT.lt);clear p0 q0 pal qal;go_upto_region 33 with fail
   have HWX:=zh ((Below.refl wr.heap.size wr).alloc (Nat.le_refl _) (.cells #[.int .i64 cap,.int .i64 inn,.int .i64 out,.int .i64 start,.int .i64 fin,.slice TT qn cT] 63));have XC:=zh (Blk.new' wr #[.int .i64 cap,.int .i64 inn,.int .i64 out,.int .i64 start,.int .i64 fin,.slice TT qn cT] 63);clear c0 c1 c2 c3 c4 c5 abl;generalize wr.alloc (.cells #[.int .i64 cap,.int .i64 inn,.int .i64 out,.int .i64 start,.int .i64 fin,.slice TT qn cT] 63)=wx at HWX XC ⊢;obtain⟨gc,hgc⟩: ∃gc,gc=wr.heap.size:=⟨_,rfl⟩;rw[<-hgc]at XC ⊢;have HGC:=zh hgc;clear hgc;refine lV 11 _ ?af rfl (by kernel_rfl) (by kernel_rfl) ?walk ?tail
   case walk=>
    intro V hV;have hWV:=HWX.trans (hV.mono HWX.size);obtain⟨⟨pa0,pab⟩,⟨qa0,qab⟩⟩:=HP0.out V hWV;have XCV:=XC.below hV XC.lt;have e0:=XCV.cell 0 rfl;have e1:=XCV.cell 1 rfl;have e2:=XCV.cell 2 rfl;have e3:=XCV.cell 3 rfl;have e4:=XCV.cell 4 rfl;have e5:=XCV.cell 5 rfl;have el:=XCV.lt;clear XCV;have XTV:=HXT.out V hWV;have t0:=XTV.cell 0 rfl;have t1:=XTV.cell 1 rfl;have tl:=XTV.lt;clear XTV;clear hWV hV;simp only[List.take_succ_cons,List.take_zero]
    repeat(go_big_quiet_step (fail))
    refine wpQuiet_nil ?_;rfl
   intro w8 hb8;have HW8:=zh (HWX.trans (hb8.mono HWX.size));have XC8:=zh (XC.below hb8 XC.lt);clear hb8 XC HWX;go_simp;refine(HLC.out w8 HW8.out).mono ?_;rintro e w9 ⟨g,cg,rfl,ho9,hb9⟩;have HO9:=zh ho9;have HW9:=zh (HW8.trans (hb9.mono HW8.size));have XC9:=zh (XC8.below hb9 XC8.lt);clear ho9 hb9 HW8 XC8 HLC;dsimp only
   (try simp only[zp])
   go_big_quiet_step (fail)
   refine wpQuiet_nil ?_;intro xx;have HO:=zh (HO9.below xx.far);have HWY:=zh (HW9.trans (xx.far.mono HW9.size));have XC:=zh (XC9.below xx.far XC9.lt);generalize xx.w=wy at HO HWY XC ⊢;clear HO9 HW9 XC9;go_wp2_with fail
   go_loopw [16] (fun kv wr=> ∃k:Nat,k<=n+1/\kv=.int .i64 k/\Hid (Below wy.heap.size wy wr/\ ∀j,j<k->jk ⟨cap,inn,out,start,fin,trips⟩ xr yr n j=true)) (fun kv _=>n+1-(intOf kv).toNat)
   case atStart=>exact⟨0,Nat.zero_le _,rfl,zh ⟨Below.refl _ _,fun x hx=>absurd hx (Nat.not_lt_zero _)⟩⟩
   case round=>
    obtain⟨k,hk,rfl,HZ⟩:=hrel;have HWZ:=zh (HWY.trans (HZ.1.mono HWY.size))
    by_cases hlt3:k<n+1
    ·have hki:(k:Int)<=(n:Int):=by omega
     have HG1:Hid (jk ⟨cap,inn,out,start,fin,trips⟩ xr yr n k=true-> ∀j,j<k+1->jk ⟨cap,inn,out,start,fin,trips⟩ xr yr n j=true):=zh (fun h j hj=>by
      by_cases e:j=k
      ·subst e;exact h
      ·exact HZ.2 j (by omega))
     have HB1:=zh (HBAD.out k (by omega));have ow:=(HO.below HZ.1).cell k (by rw[rM];exact hlt3);rw[Fh hlt3]at ow;have gl:=(HO.below HZ.1).lt.2;have XCV:=XC.below HZ.1 XC.lt;have e0:=XCV.cell 0 rfl;have e1:=XCV.cell 1 rfl;have e2:=XCV.cell 2 rfl;have e3:=XCV.cell 3 rfl;have e4:=XCV.cell 4 rfl;have e5:=XCV.cell 5 rfl;have el:=XCV.lt;clear XCV;have HUK:=zh (HUS.out k);have HV0:Hid ((dz ⟨cap,inn,out,start,fin,trips⟩ k=dz ⟨cap,inn,out,start,fin,trips⟩ k)/\lev ⟨cap,inn,out,start,fin,trips⟩ xr yr k=lev ⟨cap,inn,out,start,fin,trips⟩ xr yr k):=zh ⟨rfl,rfl⟩;have HLO:=zh (fun (hk:k<n) h=>HB1.out (KM (c:=⟨cap,inn,out,start,fin,trips⟩) (x:=xr) (y:=yr) hk h));have HLU:=zh (fun (hk:k<n) h=>HB1.out (KN (c:=⟨cap,inn,out,start,fin,trips⟩) (x:=xr) (y:=yr) hk h));have HLH:=zh (fun h=>HB1.out (Nt (c:=⟨cap,inn,out,start,fin,trips⟩) (x:=xr) (y:=yr) (n:=n) (k:=k) h));have HLI:=zh (fun (hk:k<n) h1 h2 h3=>HG1.out (Nu (c:=⟨cap,inn,out,start,fin,trips⟩) (x:=xr) (y:=yr) hk h1 h2 h3));have HLF:Hid (k=n->lev ⟨cap,inn,out,start,fin,trips⟩ xr yr k<fin->plE S cs T=19):=zh (fun e h=>HB1.out (by subst e;exact KP (c:=⟨cap,inn,out,start,fin,trips⟩) h));have HLE:Hid (k=n->lev ⟨cap,inn,out,start,fin,trips⟩ xr yr k<=cap->fin<=lev ⟨cap,inn,out,start,fin,trips⟩ xr yr k-> ∀j,j<k+1->jk ⟨cap,inn,out,start,fin,trips⟩ xr yr n j=true):=zh (fun e h1 h2=>HG1.out (by subst e;exact KQ (c:=⟨cap,inn,out,start,fin,trips⟩) h1 h2));clear HV0;generalize lev ⟨cap,inn,out,start,fin,trips⟩ xr yr k=lv at *
     generalize dz ⟨cap,inn,out,start,fin,trips⟩ k=u at *;simp only at HLH HLI HLO HLU
     by_cases g1:cap<lv
     ·have EE:=zh (HLH.out g1)
      go_upto_region 37 with fail
      refine wrp ?_
      repeat(go_big_quiet_step (fail))
      refine wpQuiet_nil ?_;intro xx;have HZ2:=zh (HZ.1.trans (xx.far.mono HZ.1.size));have HE2:=zh (HWZ.trans (xx.far.mono HWZ.size));generalize xx.w=w3 at HZ2 HE2 ⊢;go_wp2_with fail
      go_ret;exact⟨ah EE.symm,HBW.trans (HE2.mono HBW.size)⟩
     by_cases hkn:k<n
     ·have VS:(k:Int)<(n:Int):=by omega
      have hkne:((k:Int)==(n:Int))=false:=by simp;omega
      obtain⟨qd,hqd,qd0,qdb⟩:=HY0.out k hkn wr HWZ.out;subst hqd;obtain⟨_,⟨qa0,qab⟩⟩:=HP0.out wr HWZ.out;have XTV:=HXT.out wr HWZ.out;have t0:=XTV.cell 0 rfl;have t1:=XTV.cell 1 rfl;have tl:=XTV.lt;clear XTV;generalize yr.getD k 0=y at *
      by_cases g2:lv<y
      ·have EE:=zh (HLO.out hkn g2)
       go_upto_region 37 with fail
       refine wrp ?_
       repeat(go_big_quiet_step (fail))
       refine wpQuiet_nil ?_;intro xx;have HZ2:=zh (HZ.1.trans (xx.far.mono HZ.1.size));have HE2:=zh (HWZ.trans (xx.far.mono HWZ.size));generalize xx.w=w3 at HZ2 HE2 ⊢;go_wp2_with fail
       go_ret;exact⟨ah EE.symm,HBW.trans (HE2.mono HBW.size)⟩
      by_cases g3:lv<u
      ·have EE:=zh (HLU.out hkn g3)
       go_upto_region 37 with fail
       refine wrp ?_
       repeat(go_big_quiet_step ((go_at_call 86;exact aZ (HUK.out _ (HWZ.trans ((bN.far _).mono HWZ.size))))))
       refine wpQuiet_nil ?_;intro xx;have HZ2:=zh (HZ.1.trans (xx.far.mono HZ.1.size));have HE2:=zh (HWZ.trans (xx.far.mono HWZ.size));generalize xx.w=w3 at HZ2 HE2 ⊢;go_wp2_with fail
       go_ret;exact⟨ah EE.symm,HBW.trans (HE2.mono HBW.size)⟩
      ·have EE:=zh (HLI.out hkn (by omega) (by omega) (by omega))
       go_upto_region 37 with fail
       refine wrp ?_
       repeat(go_big_quiet_step ((go_at_call 86;exact aZ (HUK.out _ (HWZ.trans ((bN.far _).mono HWZ.size))))))
       refine wpQuiet_nil ?_;intro xx;have HZ2:=zh (HZ.1.trans (xx.far.mono HZ.1.size));have HE2:=zh (HWZ.trans (xx.far.mono HWZ.size));generalize xx.w=w3 at HZ2 HE2 ⊢;go_wp2_with fail
       exact⟨⟨k+1,by omega,by go_num,zh ⟨HZ2.out,EE.out⟩⟩,by simp[intOf];omega⟩
     ·have hkn2:k=n:=by omega
      have EF:=zh (HLF.out hkn2);have EG:=zh (HLE.out hkn2);have VS: ¬(k:Int)<(n:Int):=by omega
      have hkne:((k:Int)==(n:Int))=true:=by rw[hkn2];exact beq_self_eq_true _
      clear HLF HLE HLO HLU HLI hkn2
      by_cases g2:lv<fin
      ·have EE:=zh (EF.out g2)
       go_upto_region 37 with fail
       refine wrp ?_
       repeat(go_big_quiet_step (fail))
       refine wpQuiet_nil ?_;intro xx;have HZ2:=zh (HZ.1.trans (xx.far.mono HZ.1.size));have HE2:=zh (HWZ.trans (xx.far.mono HWZ.size));generalize xx.w=w3 at HZ2 HE2 ⊢;go_wp2_with fail
       go_ret;exact⟨ah EE.symm,HBW.trans (HE2.mono HBW.size)⟩
      ·have EE:=zh (EG.out (by omega) (by omega))
       go_upto_region 37 with fail
       refine wrp ?_
       repeat(go_big_quiet_step (fail))
       refine wpQuiet_nil ?_;intro xx;have HZ2:=zh (HZ.1.trans (xx.far.mono HZ.1.size));have HE2:=zh (HWZ.trans (xx.far.mono HWZ.size));generalize xx.w=w3 at HZ2 HE2 ⊢;go_wp2_with fail
       exact⟨⟨k+1,by omega,by go_num,zh ⟨HZ2.out,EE.out⟩⟩,by simp[intOf];omega⟩
    ·obtain rfl:k=n+1:=by omega
     have hki: ¬((n+1:Nat):Int)<=(n:Int):=by omega
     have oU:=zh (HGO.out (fun j hj=>HZ.2 j (by omega)));have HFW:=zh (HJ.1.trans (HWZ.mono HJ.1.size));rw[HN.out]at oU;go_wp2_with fail
     go_roundw
     case measure=>simp[intOf];omega
     case rel=>exact⟨i+1,by omega,by go_num,zh ⟨HFW.out,oU.out⟩⟩
  ·obtain rfl:m=i:=by omega
   have EE:=zh (mr H0.out HL.out HSL.out (fun x hx=>HJ.2 x (by rw[HM.out];exact hx)));go_wp2_with fail
   conv=>arg 2;whnf
   go_wp2_with fail
   go_ret;exact⟨ah EE.symm,HBW.out⟩
end Go.Proofs.Ytmebpglkeedaoaa
