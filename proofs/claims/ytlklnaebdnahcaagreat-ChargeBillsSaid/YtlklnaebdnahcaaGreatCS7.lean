/- Contracts that the claim leans on. -/
import Derived.Test.YtlklnaebdnahcaaGreatCS6
set_option maxHeartbeats 8000000
set_option maxRecDepth 100000
set_option linter.unusedVariables false
set_option linter.unusedSimpArgs false
set_option linter.unnecessarySimpa false
namespace Go.Proofs.YtlklnaebdnahcaaGreat
open Go.RowKit Nw
def padF (i k:Nat):Int:=((((k+3)*(k+i+5)*123457)%2147483647:Nat):Int)
def padL (i n:Nat):List Int:=(List.range n).map (padF i)
theorem padL_len (i n:Nat):(padL i n).length=n:=by simp[padL]
theorem padL_succ (i n:Nat):padL i (n+1)=padL i n++[padF i n]:=by simp[padL,List.range_succ]
def intOfU:Value→Int
 |.int _ x=>x
 |_=>0
def xCn:List Cn:=[⟨1000,padL 0 20⟩,⟨1077,padL 1 20⟩]
theorem OwnR.cut {α:Type} {f:α→List Value} {s e B c:Nat} {W:World} {A:Option Addr} {l:List α} (hf: ∀x,(f x).length=s) (h:OwnR f e s B W A c l) (k:Nat) (hk:k≤l.length) (hA:A≠none):OwnR f e s B W A c (l.take k):=by
 have hlt:(l.take k).length=k:=by rw[List.length_take];omega
 rcases h.2 with ⟨h2,hx⟩|⟨g,c',cur,hv,hb,hg,hnc,hcm,hcs,htk⟩
 ·injection h2 with e1 e2 e3
  exact absurd e1 hA
 ·cases hv
  refine⟨by rw[flatM_length hf],.inr ⟨g,c,cur,by rw[hlt],hb,hg,by omega,hcm,hcs,?_⟩⟩
  rw[←flatM_take hf,←htk,hlt,List.take_take]
  congr 1
  exact(Nat.min_eq_left (Nat.mul_le_mul_right _ hk)).symm
structure DealS (w W:World) (g6 g7 ge:Nat) (Ar:Option Addr) (cr n:Nat) (l q:List Ct):Prop where
 b:Below w.heap.size w W
 h6:Blk W g6 72 [.int .i64 0,.slice none 0 0,.int .i64 0,.slice none 0 0,.int .i64 0,.int .i64 0,.int .i64 0,.int .i64 0,.int .i64 0]
 h7:Blk W g7 72 (DV ge Ar n cr 1000 2 3 100 100)
 e:BandsAt W (some ⟨ge,0,none⟩) exBs
 r:OwnR ctV 199 2 w.heap.size W Ar cr l
 n:l.length=n
 o: ∀k,OwnB Ar k→k≠g6∧k≠g7∧ge<k
 p: ∀c∈q,OwnR pdV 196 1 w.heap.size W c.A c.cap c.ps∧ ∀k,OwnB c.A k→g7<k
 z:w.heap.size≤g6∧g6≠g7∧w.heap.size≤g7∧ge<g7
theorem DealS.touch {w W W':World} {g6 g7 ge:Nat} {Ar:Option Addr} {cr n:Nat} {l q:List Ct} (h:DealS w W g6 g7 ge Ar cr n l q) {s:Nat} (ht:Touch (fun k=>s≤k) W W') (hs:W.heap.size≤s):DealS w W' g6 g7 ge Ar cr n l q where
 b:=Below.touch h.b h.b.size ht (fun k e=>by have:=h.b.size;omega)
 h6:=h.h6.touch ht (by have:=h.h6.lt;omega)
 h7:=h.h7.touch ht (by have:=h.h7.lt;omega)
 e:=h.e.touch ht (fun k hk=>by
  obtain⟨ad,e,hlt,_⟩:=h.e 0 (by decide)
  obtain⟨a,ea,eb⟩:=hk
  cases e
  cases ea
  have h1:ge<W.heap.size:=hlt
  have h2:ge=k:=eb
  omega)
 r:=h.r.touch ht (fun k hk=>by have:=(rowE_lt h.r hk).2;omega)
 n:=h.n
 o:=h.o
 p:=fun c hc=>⟨(h.p c hc).1.touch ht (fun k hk=>by have:=(rowE_lt (h.p c hc).1 hk).2;omega),(h.p c hc).2⟩
 z:=h.z
theorem deal_c (ev sl cr:Int) (hev:0≤ev∧ev≤255) (hsl:0≤sl∧sl≤255) (hcr:0≤cr∧cr≤255) (w:World):Calls Tryz.prog 43 #[.int .u8 ev,.int .u8 sl,.int .u8 cr] w fun e w'=> ∃ge A c cts,e=.returned (.agg (DV ge A 2 c cr (1+ev%5) (1+sl%6) 1000000 1000000).toArray)∧BandsAt w' (some ⟨ge,0,none⟩) exBs∧CtsAt w' A cts∧cts.map toCn=xCn∧cts.length=2∧2≤c∧c≤9223372036854775807∧Below w.heap.size w w':=by
 have HEV:=zh hev
 have HSL:=zh hsl
 have HCR:=zh hcr
 clear hev hsl hcr
 have HA:=zh ((Below.refl w.heap.size w).alloc (Nat.le_refl _) (.cells #[.int .i64 0,.slice none 0 0,.int .i64 0,.slice none 0 0,.int .i64 0,.int .i64 0,.int .i64 0,.int .i64 0,.int .i64 0] 72))
 have HX:=zh (Blk.new' w #[.int .i64 0,.slice none 0 0,.int .i64 0,.slice none 0 0,.int .i64 0,.int .i64 0,.int .i64 0,.int .i64 0,.int .i64 0] 72)
 go_enter Tryz.func43,Tryz.ntmps43
 go_upto_region 1 with fail
 generalize w.alloc (.cells #[.int .i64 0,.slice none 0 0,.int .i64 0,.slice none 0 0,.int .i64 0,.int .i64 0,.int .i64 0,.int .i64 0,.int .i64 0] 72)=w1 at HA HX ⊢
 obtain⟨g6,hg6⟩: ∃g6,g6=w.heap.size:=⟨_,rfl⟩
 rw[←hg6]at HX ⊢
 have HG6:=zh hg6
 clear hg6
 have PD:=zh (Deal_c w1)
 unfold DV at PD
 go_upto_region 2 with (go_at_call 106;refine(PD.out).mono ?_;rintro e w2 ⟨ge,gc,gp,rfl,hbd,hr,hlt,hb,hgel⟩;have HGEL:=zh hgel;clear hgel;have HBD:=zh hbd;have HR:=zh hr;have HLT:=zh hlt;have HB2:=zh hb;clear hbd hr hlt hb)
 obtain⟨g7,hg7⟩: ∃g7,g7=w2.heap.size:=⟨_,rfl⟩
 have HDS:Hid (DealS w (w2.alloc (.cells (DV ge (some ⟨gc,0,none⟩) 1 1 1000 2 3 100 100).toArray 72)) g6 g7 ge (some ⟨gc,0,none⟩) 1 1 [ct0 gp] []):=by
  have al:=(Below.refl w2.heap.size w2).alloc (Nat.le_refl _) (.cells (DV ge (some ⟨gc,0,none⟩) 1 1 1000 2 3 100 100).toArray 72)
  have h16:=HG6.out
  have h12:=HB2.out.size
  have hA:=HA.out.size
  have hxl:=HX.out.lt
  have hro:=HR.out.lt
  refine zh ⟨(HA.out.trans (HB2.out.mono hA)).trans (al.mono (by omega)),(HX.out.below HB2.out HX.out.lt).below al (by omega),?_,HBD.out.below al,?_,rfl,fun k hk=>?_,fun c hc=>(by cases hc),by have:=HLT.out;omega⟩
  ·rw[hg7];exact Blk.new' w2 _ 72
  ·exact(HR.out.mono hA).below al
  ·obtain⟨a,ea,eb⟩:=hk
   cases ea
   have h0:gc=k:=eb
   have:=HLT.out
   omega
 have HG7:=zh hg7
 have HGG:=zh (show g6<ge from by
  have h1:=HX.out.lt
  have h2:=HGEL.out
  omega)
 clear HX HA HB2 HBD HR PD
 unfold DV at HDS
 rw[←hg7]
 clear hg7
 generalize w2.alloc _=W0 at HDS ⊢
 go_wp2_with fail
 refine wp_loop_rounds 3 ?_
 rw[rounds_succ]
 go_upto_region 6 with fail
 have al:=(Touch.refl (fun k=>W0.heap.size≤k) W0).alloc (.cells #[.int .u64 1000,.slice none 0 0] 199)
 have HAW:=zh al
 have HDL:=zh (show W0.heap.size≤W0.heap.size from Nat.le_refl _)
 have HK:=zh (Blk.new' W0 #[.int .u64 1000,.slice none 0 0] 199)
 obtain⟨gk0,hgk⟩: ∃gk0,gk0=W0.heap.size:=⟨_,rfl⟩
 rw[←hgk]at HK ⊢
 have HGK:=zh hgk
 clear al hgk
 generalize W0.alloc (.cells #[.int .u64 1000,.slice none 0 0] 199)=V0 at HAW HK ⊢
 go_wp2_with fail
 obtain⟨s0,hs0⟩: ∃s0,s0=V0.heap.size:=⟨_,rfl⟩
 have HSI:=zh hs0
 have HKL:=zh (show gk0<s0 by rw[hs0];exact HK.out.lt)
 clear hs0
 go_loopw [10] (fun v wr=> ∃(k:Nat) (Ap:Option Addr) (cp:Nat),k≤20∧v=.int .u64 k∧Hid (Touch (fun k=>k=gk0) V0 wr∧Blk wr gk0 199 [.int .u64 1000,.slice Ap k cp]∧OwnR pdV 196 1 s0 wr Ap cp (padL 0 k))) (fun v _=>20-(intOfU v).toNat)
 case atStart=>exact⟨0,none,0,Nat.zero_le _,rfl,zh ⟨Touch.refl _ _,HK.out,World.ownsRow_nil _ _ _ _⟩⟩
 case round=>
  obtain⟨k,Ap,cp,hk,rfl,HZ⟩:=hrel
  have HT:=zh HZ.out.1
  have HKK:=zh HZ.out.2.1
  have HPP:=zh HZ.out.2.2
  clear HZ
  by_cases hlt:k<20
  ·have hki:(k:Int)<20:=by omega
   have HLT:=zh hlt
   have k1:=HKK.out.cell 1 rfl
   have kl:=HKK.out.lt
   have kf:=HKK.out.free 1
   have hpf:(IntKind.u64.wrap (IntKind.u64.wrap (((k:Int)+3)*((k:Int)+5))*123457)).tmod 2147483647=padF 0 k:=by
    have hb:=Pf.mul_pos_bd (x:=(k:Int)+3) (y:=((k:Int)+5)) (A:=22) (B:=25) (by omega) (by omega)
    have h4:IntKind.u64.wrap (((k:Int)+3)*((k:Int)+5))=((k:Int)+3)*((k:Int)+5):=IntWalk.u64_in _ (by omega)
    have h5:IntKind.u64.wrap (((k:Int)+3)*((k:Int)+5)*123457)=((k:Int)+3)*((k:Int)+5)*123457:=IntWalk.u64_in _ (by omega)
    rw[h4,h5]
    have e1:(((k+3)*(k+0+5):Nat):Int)=((k:Int)+3)*((k:Int)+5):=by rw[Int.natCast_mul];congr 1
    unfold padF
    rw[←e1]
    generalize (k+3)*(k+0+5)=P
    rw[Int.tmod_eq_emod_of_nonneg (by omega)]
    omega
   obtain⟨i0,hi0,hz0,hz1,hz2⟩:=info_parts info196
   have HI:=zh hi0
   have HZ0:=zh hz0
   have HZ1:=zh hz1
   have HZ2:=zh hz2
   clear hi0 hz0 hz1 hz2
   have HSZ:=zh (show s0≤wr.heap.size by rw[HSI.out];exact HT.out.size)
   have HOWN:=zh (show(wr.alloc (.cells #[.int .u64 (padF 0 k)] 196)).ownsRow s0 196 1 (.slice Ap k cp) k (flatM pdV (padL 0 k))from by
    have h0:=HPP.out.below ((Below.refl wr.heap.size wr).alloc (Nat.le_refl _) (.cells #[.int .u64 (padF 0 k)] 196))
    unfold OwnR at h0
    rw[padL_len]at h0
    exact h0)
   have HSB:=zh (show s0≤(wr.alloc (.cells #[.int .u64 (padF 0 k)] 196)).heap.size by have:=HSZ.out;simp;omega)
   have al:=(Below.refl wr.heap.size wr).alloc (Nat.le_refl _) (.cells #[.int .u64 (padF 0 k)] 196)
   have HKA:=zh (HKK.out.below al kl)
   have HAL:=zh al
   have HNG:=zh (show¬OwnB Ap gk0 from fun e=>by have:=(rowE_lt HPP.out e).1;have:=HKL.out;omega)
   clear al
   go_upto_region 8 with (at_builtin;(try rw[hpf]);refine wpList_append_any (.tmp 25) (.tmp 35) 197 rfl rfl s0 196 i0 (.int .u64 0) 1 8 Tryz.underlying197 HI.out HZ0.out HZ1.out HZ2.out rfl (by decide) Ap k cp (flatM pdV (padL 0 k)) (by rfl) HOWN.out (some ⟨wr.heap.size,0,none⟩) 1 1 [.int .u64 (padF 0 k)] (by rfl) (by rfl) (src_blk (Blk.new' wr #[.int .u64 (padF 0 k)] 196) 1) (by simp[Value.oneCell']) (by unfold maxLen;omega) (by omega) HSB.out ?_;intro A' cap' w' hown hgr hnr;have HOW:=zh hown;have HGR:=zh (grown_touch hgr);have HNR:=zh hnr;have HK5:=zh (HKA.out.touch HGR.out HNG.out);clear hown hgr hnr k1 kf kl;have k1:=HK5.out.cell 1 rfl;have kf:=HK5.out.free 1;have kl:=HK5.out.lt)
   clear k1 kf kl
   have HTF:=zh (show Touch (fun k=>k=gk0) V0 (w'.setCell ⟨gk0,1,none⟩ (.slice A' (k+1) cap'))from(HT.out.then ((Touch.of_below (S:=fun k=>s0≤k) HAL.out).then HGR.out (fun q e=>.inl ((rowE_lt HPP.out e).1))) (fun q e=>.inr (by rw[←HSI.out];exact e))).then (show Touch (fun k=>k=gk0) w' _ from(Touch.refl _ _).put 1 _) (fun q e=>.inl e))
   have HKF:=zh (HK5.out.setCell 1 (.slice A' (k+1) cap'))
   have HOF:=zh (show OwnR pdV 196 1 s0 (w'.setCell ⟨gk0,1,none⟩ (.slice A' (k+1) cap')) A' cap' (padL 0 (k+1))from by
    have h0:OwnR pdV 196 1 s0 w' A' cap' (padL 0 (k+1)):=by
     unfold OwnR
     rw[padL_len,padL_succ,flatM_append]
     exact HOW.out
    refine h0.touch (show Touch (fun k=>k=gk0) w' _ from(Touch.refl _ _).put 1 _) (fun q hq e=>?_)
    subst e
    rcases HNR.out _ hq with e|e
    ·exact HNG.out e
    ·have:=HKA.out.lt;omega)
   go_wp2_with fail
   exact⟨⟨k+1,A',cap',by omega,by simp,zh ⟨HTF.out,HKF.out,HOF.out⟩⟩,by simp only[intOfU];omega⟩
  ·obtain rfl:k=20:=by omega
   clear hlt
   have HW2:=zh (HAW.out.then HT.out (fun q e=>.inl (by rw[e,HGK.out];exact Nat.le_refl _)))
   have HD2:=zh (HDS.out.touch HW2.out (Nat.le_refl _))
   have HPM:=zh (show OwnR pdV 196 1 w.heap.size wr Ap cp (padL 0 20)∧ ∀k,OwnB Ap k→g7<k from⟨HPP.out.mono (by have h1:=HDS.out.b.size;have h2:=HAW.out.size;have h3:=HSI.out;omega),fun q hq=>by have h1:=(rowE_lt HPP.out hq).1;have h2:=HDS.out.h7.lt;have h3:=HAW.out.size;have h4:=HSI.out;omega⟩)
   have HKW:=zh HKK.out
   obtain⟨cta,hct⟩: ∃cta:Ct,cta={pt:=1000,A:=Ap,cap:=cp,ps:=padL 0 20}:=⟨_,rfl⟩
   have HCTa:=zh hct
   clear hct HPP HT HKK HDS HAW HDL
   go_upto_region 10 with fail
   obtain⟨i0,hi0,hz0,hz1,hz2⟩:=info_parts info199
   have HI:=zh hi0
   have HZ0:=zh hz0
   have HZ1:=zh hz1
   have HZ2:=zh hz2
   clear hi0 hz0 hz1 hz2
   refine wp_region_spine 10 [true,false] [] ?af10_0 (fun V=>Below wr.heap.size wr V) (by kernel_rfl) (by kernel_rfl) ((Below.refl _ _).drew) ?walk10_0 ?spine10_0
   case walk10_0=>
    intro V hV
    have g3:=(HD2.out.h7.below hV HD2.out.h7.lt).cell 3 rfl
    have gl:=(HD2.out.h7.below hV HD2.out.h7.lt).lt
    have k0:=(HKW.out.below hV HKW.out.lt).cell 0 rfl
    have k1:=(HKW.out.below hV HKW.out.lt).cell 1 rfl
    have kl:=(HKW.out.below hV HKW.out.lt).lt
    clear hV
    simp only[List.take_succ_cons,List.take_zero]
    repeat(go_big_quiet_step (fail))
    refine wpQuiet_nil ?_
    rfl
   case spine10_0=>
    intro V hV
    have HV:=zh hV
    clear hV
    refine spineV_cons ?_
    refine stepV_new (.cells #[.int .u64 1000,.slice Ap 20 cp] 199) (fun b=>.slice (some ⟨b,0,none⟩) 1 1) (fun _=>by kernel_rfl) ?_
    have al:=(Below.refl V.heap.size V).alloc (Nat.le_refl _) (.cells #[.int .u64 1000,.slice Ap 20 cp] 199)
    have HW2:=zh (HV.out.trans (al.mono HV.out.size))
    have HR:=zh (Blk.new' V #[.int .u64 1000,.slice Ap 20 cp] 199)
    refine⟨fun _=>HW2.out,?_⟩
    generalize V.alloc (.cells #[.int .u64 1000,.slice Ap 20 cp] 199)=V2 at HW2 HR ⊢
    generalize V.heap.size=ga at *
    clear al HV
    (try simp only[zp])
    have hcut:V2.ownsRow w.heap.size 199 2 (.slice (some ⟨gc,0,none⟩) 0 1) 0 (flatM ctV ([ct0 gp].take 0)):=by
     have h0:=(HD2.out.r.cut ct_len 0 (by simp) (by simp)).below HW2.out
     exact h0
    refine spineV_cons ?_
    refine stepV_append (.tmp 46) (.tmp 48) 70 rfl w.heap.size 199 i0 (.agg #[.int .u64 0,.slice none 0 0]) 2 32 Tryz.underlying70 HI.out HZ0.out HZ1.out HZ2.out rfl (by decide) (some ⟨gc,0,none⟩) 0 1 (flatM ctV ([ct0 gp].take 0)) (by rfl) hcut (some ⟨ga,0,none⟩) 1 1 [.int .u64 1000,.slice Ap 20 cp] (by rfl) (by rfl) (.inr ⟨_,rfl,?_⟩) (by simp[Value.oneCell']) (by decide) (by decide) (by have:=HD2.out.b.size;have:=HW2.out.size;omega) ?_
    ·intro j u hu
     have:=HR.out.cell j hu
     rwa [show((⟨ga,0,none⟩:Addr).add j)=⟨ga,j,none⟩from(by unfold Addr.add;split<;>simp_all)]
    intro Aq0 cq0 w' hown hgr hnr
    refine⟨fun h=>absurd h (by decide),?_⟩
    have HTG:=zh ((Touch.of_below (S:=fun k=>OwnB ((some ⟨gc,0,none⟩)) k) HW2.out).then (grown_touch hgr) (fun q e=>.inl e))
    have HOW:=zh hown
    have HNR:=zh hnr
    have HZV:=zh HW2.out.size
    have H7:=zh (HD2.out.h7.touch HTG.out (fun e=>(HD2.out.o _ e).2.1 rfl))
    clear hown hgr hnr hcut HR HW2
    refine spineV_nil ?_
    (try simp only[zp])
    (try simp only[List.drop_succ_cons,List.drop_zero,List.length_cons,List.length_nil])
    have g3:=H7.out.cell 3 rfl
    have f3:=H7.out.free 3
    have gl:=H7.out.lt
    have HT7:Touch (fun k=>k=g7) w' (w'.setCell ⟨g7,3,none⟩ (.slice Aq0 (0+1) cq0)):=(Touch.refl _ _).put 3 _
    have HNEW:Hid (DealS w (w'.setCell ⟨g7,3,none⟩ (.slice Aq0 (0+1) cq0)) g6 g7 ge Aq0 cq0 (0+1) ([ct0 gp].take 0++[cta]) ([]++[cta])):=by
     have hd:=HD2.out
     have hz:=hd.z
     have h7l:=hd.h7.lt
     have h6l:=hd.h6.lt
     have hzv:=HZV.out
     have hbs:=hd.b.size
     have hoA: ∀k,OwnB Aq0 k→k≠g6∧k≠g7∧ge<k:=fun k hk=>by
      rcases HNR.out k hk with e|e
      ·exact hd.o k e
      ·omega
     refine zh ⟨?_,?_,?_,?_,?_,by simp,hoA,?_,hz⟩
     ·exact Below.touch (Below.touch hd.b hbs HTG.out (fun q hq=>(rowE_lt hd.r hq).1)) (by have:=HTG.out.size;omega) HT7 (fun q e=>by omega)
     ·exact(hd.h6.touch HTG.out (fun e=>(hd.o _ e).1 rfl)).touch HT7 hz.2.1
     ·exact H7.out.setCell 3 _
     ·exact(hd.e.touch HTG.out (fun k hk e=>by obtain⟨a,ea,eb⟩:=hk;cases ea;have h2:ge=k:=eb;have:=(hd.o _ e).2.2;omega)).touch HT7 (fun k hk e=>by obtain⟨a,ea,eb⟩:=hk;cases ea;have h2:ge=k:=eb;omega)
     ·have h0:OwnR ctV 199 2 w.heap.size w' Aq0 cq0 ([ct0 gp].take 0++[cta]):=by
       unfold OwnR
       rw[flatM_append,HCTa.out]
       exact HOW.out
      exact h0.touch HT7 (fun k hk e=>(hoA k hk).2.1 e)
     ·intro c hc
      rcases List.mem_append.1 hc with hc|hc
      ·exact⟨((hd.p c hc).1.touch HTG.out (fun k hk e=>rowE_ne (hd.p c hc).1 hd.r (by decide) hk e)).touch HT7 (fun k hk e=>by have:=(hd.p c hc).2 k hk;omega),(hd.p c hc).2⟩
      ·obtain rfl:=List.mem_singleton.1 hc
       rw[HCTa.out]
       exact⟨(HPM.out.1.touch HTG.out (fun k hk e=>rowE_ne HPM.out.1 hd.r (by decide) hk e)).touch HT7 (fun k hk e=>by have:=HPM.out.2 k hk;omega),HPM.out.2⟩
    clear HT7
    go_upto_region 4 with fail
    clear g3 f3 gl
    generalize w'.setCell ⟨g7,3,none⟩ (.slice Aq0 (0+1) cq0)=U0 at HNEW ⊢
    clear HD2 HPM HKW HTG HOW HNR HZV H7 HW2
    have HDS:=HNEW
    clear HNEW
    go_wp2_with fail
    obtain⟨gr,hgr,_,_,hcl,hcm⟩:=HDS.out.r.form (by simp)
    subst hgr
    have hc1:1≤cq0:=hcl
    have HDS:=zh (show DealS w U0 g6 g7 ge (some ⟨gr,0,none⟩) cq0 1 [cta] [cta]from HDS.out)
    clear hcl
    rw[rounds_succ]
    go_upto_region 6 with fail
    have al:=(Touch.refl (fun k=>U0.heap.size≤k) U0).alloc (.cells #[.int .u64 1077,.slice none 0 0] 199)
    have HAW:=zh al
    have HDL:=zh (show U0.heap.size≤U0.heap.size from Nat.le_refl _)
    have HK:=zh (Blk.new' U0 #[.int .u64 1077,.slice none 0 0] 199)
    obtain⟨gk1,hgk⟩: ∃gk1,gk1=U0.heap.size:=⟨_,rfl⟩
    rw[←hgk]at HK ⊢
    have HGK:=zh hgk
    clear al hgk
    generalize U0.alloc (.cells #[.int .u64 1077,.slice none 0 0] 199)=V1 at HAW HK ⊢
    go_wp2_with fail
    obtain⟨s1,hs1⟩: ∃s1,s1=V1.heap.size:=⟨_,rfl⟩
    have HSI:=zh hs1
    have HKL:=zh (show gk1<s1 by rw[hs1];exact HK.out.lt)
    clear hs1
    go_loopw [10] (fun v wr=> ∃(k:Nat) (Ap:Option Addr) (cp:Nat),k≤20∧v=.int .u64 k∧Hid (Touch (fun k=>k=gk1) V1 wr∧Blk wr gk1 199 [.int .u64 1077,.slice Ap k cp]∧OwnR pdV 196 1 s1 wr Ap cp (padL 1 k))) (fun v _=>20-(intOfU v).toNat)
    case atStart=>exact⟨0,none,0,Nat.zero_le _,rfl,zh ⟨Touch.refl _ _,HK.out,World.ownsRow_nil _ _ _ _⟩⟩
    case round=>
     obtain⟨k,Ap,cp,hk,rfl,HZ⟩:=hrel
     have HT:=zh HZ.out.1
     have HKK:=zh HZ.out.2.1
     have HPP:=zh HZ.out.2.2
     clear HZ
     by_cases hlt:k<20
     ·have hki:(k:Int)<20:=by omega
      have HLT:=zh hlt
      have k1:=HKK.out.cell 1 rfl
      have kl:=HKK.out.lt
      have kf:=HKK.out.free 1
      have hpf:(IntKind.u64.wrap (IntKind.u64.wrap (((k:Int)+3)*((k:Int)+1+5))*123457)).tmod 2147483647=padF 1 k:=by
       have hb:=Pf.mul_pos_bd (x:=(k:Int)+3) (y:=((k:Int)+1+5)) (A:=22) (B:=25) (by omega) (by omega)
       have h4:IntKind.u64.wrap (((k:Int)+3)*((k:Int)+1+5))=((k:Int)+3)*((k:Int)+1+5):=IntWalk.u64_in _ (by omega)
       have h5:IntKind.u64.wrap (((k:Int)+3)*((k:Int)+1+5)*123457)=((k:Int)+3)*((k:Int)+1+5)*123457:=IntWalk.u64_in _ (by omega)
       rw[h4,h5]
       have e1:(((k+3)*(k+1+5):Nat):Int)=((k:Int)+3)*((k:Int)+1+5):=by rw[Int.natCast_mul];congr 1
       unfold padF
       rw[←e1]
       generalize (k+3)*(k+1+5)=P
       rw[Int.tmod_eq_emod_of_nonneg (by omega)]
       omega
      obtain⟨i0,hi0,hz0,hz1,hz2⟩:=info_parts info196
      have HI:=zh hi0
      have HZ0:=zh hz0
      have HZ1:=zh hz1
      have HZ2:=zh hz2
      clear hi0 hz0 hz1 hz2
      have HSZ:=zh (show s1≤wr.heap.size by rw[HSI.out];exact HT.out.size)
      have HOWN:=zh (show(wr.alloc (.cells #[.int .u64 (padF 1 k)] 196)).ownsRow s1 196 1 (.slice Ap k cp) k (flatM pdV (padL 1 k))from by
       have h0:=HPP.out.below ((Below.refl wr.heap.size wr).alloc (Nat.le_refl _) (.cells #[.int .u64 (padF 1 k)] 196))
       unfold OwnR at h0
       rw[padL_len]at h0
       exact h0)
      have HSB:=zh (show s1≤(wr.alloc (.cells #[.int .u64 (padF 1 k)] 196)).heap.size by have:=HSZ.out;simp;omega)
      have al:=(Below.refl wr.heap.size wr).alloc (Nat.le_refl _) (.cells #[.int .u64 (padF 1 k)] 196)
      have HKA:=zh (HKK.out.below al kl)
      have HAL:=zh al
      have HNG:=zh (show¬OwnB Ap gk1 from fun e=>by have:=(rowE_lt HPP.out e).1;have:=HKL.out;omega)
      clear al
      go_upto_region 8 with (at_builtin;(try rw[hpf]);refine wpList_append_any (.tmp 25) (.tmp 35) 197 rfl rfl s1 196 i0 (.int .u64 0) 1 8 Tryz.underlying197 HI.out HZ0.out HZ1.out HZ2.out rfl (by decide) Ap k cp (flatM pdV (padL 1 k)) (by rfl) HOWN.out (some ⟨wr.heap.size,0,none⟩) 1 1 [.int .u64 (padF 1 k)] (by rfl) (by rfl) (src_blk (Blk.new' wr #[.int .u64 (padF 1 k)] 196) 1) (by simp[Value.oneCell']) (by unfold maxLen;omega) (by omega) HSB.out ?_;intro A' cap' w' hown hgr hnr;have HOW:=zh hown;have HGR:=zh (grown_touch hgr);have HNR:=zh hnr;have HK5:=zh (HKA.out.touch HGR.out HNG.out);clear hown hgr hnr k1 kf kl;have k1:=HK5.out.cell 1 rfl;have kf:=HK5.out.free 1;have kl:=HK5.out.lt)
      clear k1 kf kl
      have HTF:=zh (show Touch (fun k=>k=gk1) V1 (w'.setCell ⟨gk1,1,none⟩ (.slice A' (k+1) cap'))from(HT.out.then ((Touch.of_below (S:=fun k=>s1≤k) HAL.out).then HGR.out (fun q e=>.inl ((rowE_lt HPP.out e).1))) (fun q e=>.inr (by rw[←HSI.out];exact e))).then (show Touch (fun k=>k=gk1) w' _ from(Touch.refl _ _).put 1 _) (fun q e=>.inl e))
      have HKF:=zh (HK5.out.setCell 1 (.slice A' (k+1) cap'))
      have HOF:=zh (show OwnR pdV 196 1 s1 (w'.setCell ⟨gk1,1,none⟩ (.slice A' (k+1) cap')) A' cap' (padL 1 (k+1))from by
       have h0:OwnR pdV 196 1 s1 w' A' cap' (padL 1 (k+1)):=by
        unfold OwnR
        rw[padL_len,padL_succ,flatM_append]
        exact HOW.out
       refine h0.touch (show Touch (fun k=>k=gk1) w' _ from(Touch.refl _ _).put 1 _) (fun q hq e=>?_)
       subst e
       rcases HNR.out _ hq with e|e
       ·exact HNG.out e
       ·have:=HKA.out.lt;omega)
      go_wp2_with fail
      exact⟨⟨k+1,A',cap',by omega,by simp,zh ⟨HTF.out,HKF.out,HOF.out⟩⟩,by simp only[intOfU];omega⟩
     ·obtain rfl:k=20:=by omega
      clear hlt
      have HW2:=zh (HAW.out.then HT.out (fun q e=>.inl (by rw[e,HGK.out];exact Nat.le_refl _)))
      have HD2:=zh (HDS.out.touch HW2.out (Nat.le_refl _))
      have HPM:=zh (show OwnR pdV 196 1 w.heap.size wr Ap cp (padL 1 20)∧ ∀k,OwnB Ap k→g7<k from⟨HPP.out.mono (by have h1:=HDS.out.b.size;have h2:=HAW.out.size;have h3:=HSI.out;omega),fun q hq=>by have h1:=(rowE_lt HPP.out hq).1;have h2:=HDS.out.h7.lt;have h3:=HAW.out.size;have h4:=HSI.out;omega⟩)
      have HKW:=zh HKK.out
      obtain⟨ctb,hct⟩: ∃ctb:Ct,ctb={pt:=1077,A:=Ap,cap:=cp,ps:=padL 1 20}:=⟨_,rfl⟩
      have HCTb:=zh hct
      clear hct HPP HT HKK HDS HAW HDL
      go_upto_region 10 with fail
      obtain⟨i0,hi0,hz0,hz1,hz2⟩:=info_parts info199
      have HI:=zh hi0
      have HZ0:=zh hz0
      have HZ1:=zh hz1
      have HZ2:=zh hz2
      clear hi0 hz0 hz1 hz2
      refine wp_region_spine 10 [true,false] [] ?af10_1 (fun V=>Below wr.heap.size wr V) (by kernel_rfl) (by kernel_rfl) ((Below.refl _ _).drew) ?walk10_1 ?spine10_1
      case walk10_1=>
       intro V hV
       have g3:=(HD2.out.h7.below hV HD2.out.h7.lt).cell 3 rfl
       have gl:=(HD2.out.h7.below hV HD2.out.h7.lt).lt
       have k0:=(HKW.out.below hV HKW.out.lt).cell 0 rfl
       have k1:=(HKW.out.below hV HKW.out.lt).cell 1 rfl
       have kl:=(HKW.out.below hV HKW.out.lt).lt
       clear hV
       simp only[List.take_succ_cons,List.take_zero]
       repeat(go_big_quiet_step (fail))
       refine wpQuiet_nil ?_
       rfl
      case spine10_1=>
       intro V hV
       have HV:=zh hV
       clear hV
       refine spineV_cons ?_
       refine stepV_new (.cells #[.int .u64 1077,.slice Ap 20 cp] 199) (fun b=>.slice (some ⟨b,0,none⟩) 1 1) (fun _=>by kernel_rfl) ?_
       have al:=(Below.refl V.heap.size V).alloc (Nat.le_refl _) (.cells #[.int .u64 1077,.slice Ap 20 cp] 199)
       have HW2:=zh (HV.out.trans (al.mono HV.out.size))
       have HR:=zh (Blk.new' V #[.int .u64 1077,.slice Ap 20 cp] 199)
       refine⟨fun _=>HW2.out,?_⟩
       generalize V.alloc (.cells #[.int .u64 1077,.slice Ap 20 cp] 199)=V2 at HW2 HR ⊢
       generalize V.heap.size=ga at *
       clear al HV
       (try simp only[zp])
       have hcut:V2.ownsRow w.heap.size 199 2 (.slice (some ⟨gr,0,none⟩) 1 cq0) 1 (flatM ctV ([cta].take 1)):=by
        have h0:=(HD2.out.r.cut ct_len 1 (by simp) (by simp)).below HW2.out
        exact h0
       refine spineV_cons ?_
       refine stepV_append (.tmp 46) (.tmp 48) 70 rfl w.heap.size 199 i0 (.agg #[.int .u64 0,.slice none 0 0]) 2 32 Tryz.underlying70 HI.out HZ0.out HZ1.out HZ2.out rfl (by decide) (some ⟨gr,0,none⟩) 1 cq0 (flatM ctV ([cta].take 1)) (by rfl) hcut (some ⟨ga,0,none⟩) 1 1 [.int .u64 1077,.slice Ap 20 cp] (by rfl) (by rfl) (.inr ⟨_,rfl,?_⟩) (by simp[Value.oneCell']) (by decide) (by decide) (by have:=HD2.out.b.size;have:=HW2.out.size;omega) ?_
       ·intro j u hu
        have:=HR.out.cell j hu
        rwa [show((⟨ga,0,none⟩:Addr).add j)=⟨ga,j,none⟩from(by unfold Addr.add;split<;>simp_all)]
       intro Aq1 cq1 w' hown hgr hnr
       refine⟨fun h=>absurd h (by decide),?_⟩
       have HTG:=zh ((Touch.of_below (S:=fun k=>OwnB ((some ⟨gr,0,none⟩)) k) HW2.out).then (grown_touch hgr) (fun q e=>.inl e))
       have HOW:=zh hown
       have HNR:=zh hnr
       have HZV:=zh HW2.out.size
       have H7:=zh (HD2.out.h7.touch HTG.out (fun e=>(HD2.out.o _ e).2.1 rfl))
       clear hown hgr hnr hcut HR HW2
       refine spineV_nil ?_
       (try simp only[zp])
       (try simp only[List.drop_succ_cons,List.drop_zero,List.length_cons,List.length_nil])
       have g3:=H7.out.cell 3 rfl
       have f3:=H7.out.free 3
       have gl:=H7.out.lt
       have HT7:Touch (fun k=>k=g7) w' (w'.setCell ⟨g7,3,none⟩ (.slice Aq1 (1+1) cq1)):=(Touch.refl _ _).put 3 _
       have HNEW:Hid (DealS w (w'.setCell ⟨g7,3,none⟩ (.slice Aq1 (1+1) cq1)) g6 g7 ge Aq1 cq1 (1+1) ([cta].take 1++[ctb]) ([cta]++[ctb])):=by
        have hd:=HD2.out
        have hz:=hd.z
        have h7l:=hd.h7.lt
        have h6l:=hd.h6.lt
        have hzv:=HZV.out
        have hbs:=hd.b.size
        have hoA: ∀k,OwnB Aq1 k→k≠g6∧k≠g7∧ge<k:=fun k hk=>by
         rcases HNR.out k hk with e|e
         ·exact hd.o k e
         ·omega
        refine zh ⟨?_,?_,?_,?_,?_,by simp,hoA,?_,hz⟩
        ·exact Below.touch (Below.touch hd.b hbs HTG.out (fun q hq=>(rowE_lt hd.r hq).1)) (by have:=HTG.out.size;omega) HT7 (fun q e=>by omega)
        ·exact(hd.h6.touch HTG.out (fun e=>(hd.o _ e).1 rfl)).touch HT7 hz.2.1
        ·exact H7.out.setCell 3 _
        ·exact(hd.e.touch HTG.out (fun k hk e=>by obtain⟨a,ea,eb⟩:=hk;cases ea;have h2:ge=k:=eb;have:=(hd.o _ e).2.2;omega)).touch HT7 (fun k hk e=>by obtain⟨a,ea,eb⟩:=hk;cases ea;have h2:ge=k:=eb;omega)
        ·have h0:OwnR ctV 199 2 w.heap.size w' Aq1 cq1 ([cta].take 1++[ctb]):=by
          unfold OwnR
          rw[flatM_append,HCTb.out]
          exact HOW.out
         exact h0.touch HT7 (fun k hk e=>(hoA k hk).2.1 e)
        ·intro c hc
         rcases List.mem_append.1 hc with hc|hc
         ·exact⟨((hd.p c hc).1.touch HTG.out (fun k hk e=>rowE_ne (hd.p c hc).1 hd.r (by decide) hk e)).touch HT7 (fun k hk e=>by have:=(hd.p c hc).2 k hk;omega),(hd.p c hc).2⟩
         ·obtain rfl:=List.mem_singleton.1 hc
          rw[HCTb.out]
          exact⟨(HPM.out.1.touch HTG.out (fun k hk e=>rowE_ne HPM.out.1 hd.r (by decide) hk e)).touch HT7 (fun k hk e=>by have:=HPM.out.2 k hk;omega),HPM.out.2⟩
       clear HT7
       go_upto_region 4 with fail
       clear g3 f3 gl
       generalize w'.setCell ⟨g7,3,none⟩ (.slice Aq1 (1+1) cq1)=U1 at HNEW ⊢
       clear HD2 HPM HKW HTG HOW HNR HZV H7 HW2
       have HDS:=HNEW
       clear HNEW
       go_wp2_with fail
       rw[rounds_succ]
       have HDS:=zh (show DealS w U1 g6 g7 ge Aq1 cq1 2 [cta,ctb] [cta,ctb]from HDS.out)
       have q0:=HDS.out.h7
       have d0:=q0.cell 0 rfl
       have d1:=q0.cell 1 rfl
       have d2:=q0.cell 2 rfl
       have d3:=q0.cell 3 rfl
       have d4:=q0.cell 4 rfl
       have d5:=q0.cell 5 rfl
       have d6:=q0.cell 6 rfl
       have d7:=q0.cell 7 rfl
       have d8:=q0.cell 8 rfl
       have f4:=q0.free 4
       have f5:=q0.free 5
       have f6:=q0.free 6
       have f7:=q0.free 7
       have f8:=q0.free 8
       have gl:=q0.lt
       clear q0
       have hev:=HEV.out
       have hsl:=HSL.out
       have hcr:=HCR.out
       have w1:IntKind.i64.wrap ev=ev:=IntWalk.i64_in _ (by omega)
       have w2:wrap64 ev=ev:=by rw[←IntWalk.i64_left];exact w1
       have w3:IntKind.i64.wrap sl=sl:=IntWalk.i64_in _ (by omega)
       have w4:wrap64 sl=sl:=by rw[←IntWalk.i64_left];exact w3
       have w5:IntKind.i64.wrap cr=cr:=IntWalk.i64_in _ (by omega)
       have w6:wrap64 cr=cr:=by rw[←IntWalk.i64_left];exact w5
       have w7:wrap64 (1+ev%5)=1+ev%5:=by rw[←IntWalk.i64_left];exact IntWalk.i64_in _ (by omega)
       have w8:wrap64 (1+sl%6)=1+sl%6:=by rw[←IntWalk.i64_left];exact IntWalk.i64_in _ (by omega)
       have e0:0≤ev:=hev.1
       have e1:0≤sl:=hsl.1
       go_upto_region 13 with fail
       refine gen_world' (fun W=>Touch (fun k=>k=g7) U1 W∧Blk W g7 72 [.int .i64 100,.slice (some ⟨ge,0,none⟩) 2 2,.int .i64 10,.slice Aq1 2 cq1,.int .i64 cr,.int .i64 (1+ev%5),.int .i64 (1+sl%6),.int .i64 1000000,.int .i64 1000000]) ⟨((((((Touch.refl _ _).put 5 _).put 6 _).put 4 _).put 7 _).put 8 _),(((((HDS.out.h7.setCell 5 (.int .i64 (1+ev%5))).setCell 6 (.int .i64 (1+sl%6))).setCell 4 (.int .i64 cr)).setCell 7 (.int .i64 1000000)).setCell 8 (.int .i64 1000000))⟩ ?_
       rintro U2 ⟨ht,hk⟩
       have HT2:=zh ht
       have HK2:=zh hk
       clear ht hk d0 d1 d2 d3 d4 d5 d6 d7 d8 f4 f5 f6 f7 f8 gl hev hsl hcr
       have q0:=HK2.out
       have d0:=q0.cell 0 rfl
       have d1:=q0.cell 1 rfl
       have d2:=q0.cell 2 rfl
       have d3:=q0.cell 3 rfl
       have d4:=q0.cell 4 rfl
       have d5:=q0.cell 5 rfl
       have d6:=q0.cell 6 rfl
       have d7:=q0.cell 7 rfl
       have d8:=q0.cell 8 rfl
       have gl:=q0.lt
       clear q0
       have H6:=zh (HDS.out.h6.touch HT2.out HDS.out.z.2.1)
       have x0:=H6.out.cell 0 rfl
       have y0:=H6.out.free 0
       have x1:=H6.out.cell 1 rfl
       have y1:=H6.out.free 1
       have x2:=H6.out.cell 2 rfl
       have y2:=H6.out.free 2
       have x3:=H6.out.cell 3 rfl
       have y3:=H6.out.free 3
       have x4:=H6.out.cell 4 rfl
       have y4:=H6.out.free 4
       have x5:=H6.out.cell 5 rfl
       have y5:=H6.out.free 5
       have x6:=H6.out.cell 6 rfl
       have y6:=H6.out.free 6
       have x7:=H6.out.cell 7 rfl
       have y7:=H6.out.free 7
       have x8:=H6.out.cell 8 rfl
       have y8:=H6.out.free 8
       have xl:=H6.out.lt
       have HNE:=zh HDS.out.z.2.1
       go_wp2_with fail
       have HT3:Touch (fun k=>k=g6) U2 (((((((((U2.setCell ⟨g6,0,none⟩ (.int .i64 100)).setCell ⟨g6,1,none⟩ (.slice (some ⟨ge,0,none⟩) 2 2)).setCell ⟨g6,2,none⟩ (.int .i64 10)).setCell ⟨g6,3,none⟩ (.slice Aq1 2 cq1)).setCell ⟨g6,4,none⟩ (.int .i64 cr)).setCell ⟨g6,5,none⟩ (.int .i64 (1+ev%5))).setCell ⟨g6,6,none⟩ (.int .i64 (1+sl%6))).setCell ⟨g6,7,none⟩ (.int .i64 1000000)).setCell ⟨g6,8,none⟩ (.int .i64 1000000)):=((((((((((Touch.refl _ _).put 0 _).put 1 _).put 2 _).put 3 _).put 4 _).put 5 _).put 6 _).put 7 _).put 8 _)
       have HB6:Blk (((((((((U2.setCell ⟨g6,0,none⟩ (.int .i64 100)).setCell ⟨g6,1,none⟩ (.slice (some ⟨ge,0,none⟩) 2 2)).setCell ⟨g6,2,none⟩ (.int .i64 10)).setCell ⟨g6,3,none⟩ (.slice Aq1 2 cq1)).setCell ⟨g6,4,none⟩ (.int .i64 cr)).setCell ⟨g6,5,none⟩ (.int .i64 (1+ev%5))).setCell ⟨g6,6,none⟩ (.int .i64 (1+sl%6))).setCell ⟨g6,7,none⟩ (.int .i64 1000000)).setCell ⟨g6,8,none⟩ (.int .i64 1000000)) g6 72 [.int .i64 100,.slice (some ⟨ge,0,none⟩) 2 2,.int .i64 10,.slice Aq1 2 cq1,.int .i64 cr,.int .i64 (1+ev%5),.int .i64 (1+sl%6),.int .i64 1000000,.int .i64 1000000]:=(((((((((H6.out.setCell 0 (.int .i64 100)).setCell 1 (.slice (some ⟨ge,0,none⟩) 2 2)).setCell 2 (.int .i64 10)).setCell 3 (.slice Aq1 2 cq1)).setCell 4 (.int .i64 cr)).setCell 5 (.int .i64 (1+ev%5))).setCell 6 (.int .i64 (1+sl%6))).setCell 7 (.int .i64 1000000)).setCell 8 (.int .i64 1000000))
       generalize (((((((((U2.setCell ⟨g6,0,none⟩ (.int .i64 100)).setCell ⟨g6,1,none⟩ (.slice (some ⟨ge,0,none⟩) 2 2)).setCell ⟨g6,2,none⟩ (.int .i64 10)).setCell ⟨g6,3,none⟩ (.slice Aq1 2 cq1)).setCell ⟨g6,4,none⟩ (.int .i64 cr)).setCell ⟨g6,5,none⟩ (.int .i64 (1+ev%5))).setCell ⟨g6,6,none⟩ (.int .i64 (1+sl%6))).setCell ⟨g6,7,none⟩ (.int .i64 1000000)).setCell ⟨g6,8,none⟩ (.int .i64 1000000))=U3 at HT3 HB6 ⊢
       have r0:=HB6.cell 0 rfl
       have r1:=HB6.cell 1 rfl
       have r2:=HB6.cell 2 rfl
       have r3:=HB6.cell 3 rfl
       have r4:=HB6.cell 4 rfl
       have r5:=HB6.cell 5 rfl
       have r6:=HB6.cell 6 rfl
       have r7:=HB6.cell 7 rfl
       have r8:=HB6.cell 8 rfl
       have rl:=HB6.lt
       have hd:=HDS.out
       have hz:=hd.z
       have h7l:=hd.h7.lt
       have h6l:=hd.h6.lt
       have hrow:OwnR ctV 199 2 w.heap.size U3 Aq1 cq1 [cta,ctb]:=(hd.r.touch HT2.out (fun k hk e=>(hd.o k hk).2.1 e)).touch HT3 (fun k hk e=>(hd.o k hk).1 e)
       have hpad: ∀c∈[cta,ctb],OwnR pdV 196 1 w.heap.size U3 c.A c.cap c.ps:=fun c hc=>((hd.p c hc).1.touch HT2.out (fun k hk e=>by have:=(hd.p c hc).2 k hk;omega)).touch HT3 (fun k hk e=>by have h1:=(hd.p c hc).2 k hk;have h2:=HG6.out;have h3:=HG7.out;have h4:=hz.2.2.1;have h5:=(rowE_lt (hd.p c hc).1 hk).1;omega)
       have hcts:CtsAt U3 Aq1 [cta,ctb]:=row_cts hrow (fun i hi=>by
        match i,hi with
        |0,_=>exact⟨row_pads (hpad cta (by simp)),cap_of (hpad cta (by simp))⟩
        |1,_=>exact⟨row_pads (hpad ctb (by simp)),cap_of (hpad ctb (by simp))⟩)
       have hbd:BandsAt U3 (some ⟨ge,0,none⟩) exBs:=(hd.e.touch HT2.out (fun k hk e=>by obtain⟨a,ea,eb⟩:=hk;cases ea;have h2:ge=k:=eb;omega)).touch HT3 (fun k hk e=>by obtain⟨a,ea,eb⟩:=hk;cases ea;have h2:ge=k:=eb;have:=HG6.out;have:=HGG.out;omega)
       have hbel:Below w.heap.size w U3:=Below.touch (Below.touch hd.b hd.b.size HT2.out (fun k e=>by omega)) (by have:=hd.b.size;have:=HT2.out.size;omega) HT3 (fun k e=>by omega)
       have hcap:=cap_of hrow
       exact bodyPost_ret (v:=.agg #[.int .i64 100,.slice (some ⟨ge,0,none⟩) 2 2,.int .i64 10,.slice Aq1 2 cq1,.int .i64 cr,.int .i64 (1+ev%5),.int .i64 (1+sl%6),.int .i64 1000000,.int .i64 1000000]) (by simp[results,Tryz.results43,go_sem,r0,r1,r2,r3,r4,r5,r6,r7,r8]) rfl ⟨ge,Aq1,cq1,[cta,ctb],rfl,hbd,hcts,by rw[HCTa.out,HCTb.out];rfl,rfl,hcap.1,hcap.2,hbel⟩
end Go.Proofs.YtlklnaebdnahcaaGreat
namespace Go.Proofs.YtlklnaebdnahcaaGreat
open Go.RowKit Nw
def NetS (w W:World) (n:Nat) (D:Dl) (S:St):Prop:= ∃col M B,NetAt W B n col 0 D M S∧B≤W.heap.size∧(∀k,k<w.heap.size→ ¬NetOwn col 0 k)∧Below w.heap.size w W
theorem NetS.bel {w W:World} {n:Nat} {D:Dl} {S:St} (h:NetS w W n D S):Below w.heap.size w W:=by
 obtain⟨col,M,B,h1,h2,h3,h4⟩:=h
 exact h4
theorem OkB.new {D:Dl} (hd: ∀c∈D.cn,∀q∈c.ps,0≤q) (hc:D.cn.length≤16):OkB 0 0 0 D st0 where
 n:=⟨⟨by decide,by decide⟩,fun i hi=>by
  have e:Nw.ln st0 i=Lx.ln0:=by
   match i,hi with
   |0,_=>rfl
   |1,_=>rfl
   |2,_=>rfl
   |3,_=>rfl
   |4,_=>rfl
   |5,_=>rfl
  rw[e]
  exact⟨⟨by decide,by decide⟩,⟨by decide,by decide⟩,by decide⟩,fun s hs=>(by cases hs)⟩
 d:=hd
 c16:=hc
 ac:=Nat.le_refl _
 cs:=fun c hc=>by
  obtain rfl:=List.mem_singleton.1 hc
  exact⟨by decide,by decide,by decide,fun l hl=>(by cases hl),by decide⟩
 cl:=by decide
 fl:=by decide
theorem deal_ok {ev sl cr:Int} (hev:1≤ev∧ev≤1000) (hsl:1≤sl∧sl≤20) (hcr:0≤cr∧cr≤255) {cts:List Ct} (hm:cts.map toCn=xCn) (hl:cts.length=2):Cv.deE (Cv.tarE 100 10 exBs) cts.length (Cv.ctsOk cts) cr ev sl 1000000 1000000=0:=by
 have h1:Cv.ctsOk cts=xCn.all (fun c=>Cv.ctOk c.pt c.ps):=by
  rw[←hm,List.all_map]
  rfl
 have h2:xCn.all (fun c=>Cv.ctOk c.pt c.ps)=true:=by decide+kernel
 have h3:Cv.tarE 100 10 exBs=0:=Cv.tarE_ok ⟨by decide,by decide,by decide,fun i hi=>by
  match i,hi with
  |0,_=>unfold Cv.okAt;decide
  |1,_=>unfold Cv.okAt;decide⟩
 refine Cv.deE_yes ⟨h3,by omega,by omega,by rw[h1,h2],Cv.inB_iff.2 (by omega),hev.1,hev.2,hsl.1,hsl.2,Cv.inB_iff.2 (by omega),Cv.inB_iff.2 (by omega)⟩
theorem xCn_pos: ∀c∈xCn,∀q∈c.ps,0≤q:=by
 intro c hc q hq
 have:xCn.all (fun c=>c.ps.all (fun q=>decide (0≤q)))=true:=by decide+kernel
 rw[List.all_eq_true]at this
 have h2:=this c hc
 rw[List.all_eq_true]at h2
 exact of_decide_eq_true (h2 q hq)
theorem new_n {ev sl cr:Int} (hev:1≤ev∧ev≤1000) (hsl:1≤sl∧sl≤20) (hcr:0≤cr∧cr≤255) {ge:Nat} {A:Option Addr} {c:Nat} {cts:List Ct} {w W:World} (hb:Below w.heap.size w W) (hbd:BandsAt W (some ⟨ge,0,none⟩) exBs) (hct:CtsAt W A cts) (hm:cts.map toCn=xCn) (hl:cts.length=2) (hc:2≤c) (hc2:c≤9223372036854775807):
 Calls Tryz.prog 34 #[.agg #[.int .i64 100,.slice (some ⟨ge,0,none⟩) 2 2,.int .i64 10,.slice A 2 c,.int .i64 cr,.int .i64 ev,.int .i64 sl,.int .i64 1000000,.int .i64 1000000]] W fun e w'=> ∃n,e=.returned (.tuple #[.pointer (some ⟨n,0,none⟩),.int .i64 0])∧NetS w w' n ⟨100,10,exBs,xCn,cr,ev,sl,1000000,1000000⟩ st0:=by
 have h0:=NewNet_0 100 10 (some ⟨ge,0,none⟩) exBs 2 A cts c cr ev sl 1000000 1000000 W (by decide) (by decide) hbd (by omega) hc2 hct (deal_ok hev hsl hcr hm hl) (fun _=>100) 0
 rw[hm]at h0
 unfold dealV at h0
 rw[hl]at h0
 refine h0.mono fun e w' ⟨n,col,M,he,hN,hcol,hbel⟩=>⟨n,he,col,M,W.heap.size,hN,hbel.size,fun k hk=>?_,hb.trans (hbel.mono hb.size)⟩
 have e1:=hcol k (Nat.lt_of_lt_of_le hk hb.size)
 unfold NetOwn
 rw[e1]
 omega
end Go.Proofs.YtlklnaebdnahcaaGreat
namespace Go.Proofs.YtlklnaebdnahcaaGreat
open Go.RowKit Nw
theorem sn_src {w:World} {B n cap:Nat} {A:Option Addr} {L:List Sn} (h:w.ownsRow B 180 9 (.slice A n cap) n (flatS L)):SrcRow w A n (flatS L)∧(A=none→n=0)∧(flatS L).length=n*9:=by
 rcases h.2 with ⟨h2,hn⟩|⟨g',c,cur,hv,hb,hg,hnc,hcm,hcs,htake⟩
 ·cases h2
  exact⟨.inl ⟨rfl,hn⟩,fun _=>hn,h.1⟩
 ·cases hv
  refine⟨.inr ⟨_,rfl,fun j u hu=>?_⟩,fun e=>(by cases e),h.1⟩
  exact World.ownsRow.cells (g:=g') h rfl j u hu
theorem Flying_c {w:World} {B n base:Nat} {col:Nat→Nat} {D:Dl} {M:Mem} {S:St} (h:NetAt w B n col base D M S) (hl:S.fl.length≤1000000):
 Calls Tryz.prog 30 #[.pointer (some ⟨n,0,none⟩)] w fun e w'=> ∃A' cap',e=.returned (.slice A' S.fl.length cap')∧Below w.heap.size w w':=by
 have H:=zh h
 have c17:=H.out.blk.cell 17 rfl
 have nl:=H.out.lt
 have PC:=zh (CloneSn_c M.fA S.fl.length M.fc (flatS S.fl) w (sn_src h.fl).1 (sn_src h.fl).2.2 (flatS_one S.fl) (sn_src h.fl).2.1 hl)
 generalize S.fl.length=m at c17 PC ⊢
 clear h hl
 go_enter Tryz.func30,Tryz.ntmps30
 go_wp2_with (first|(go_at_call 57;refine(validN_c H.out).mono ?_;rintro e w2 ⟨rfl,rfl⟩)|(go_at_call 69;refine(PC.out).mono ?_;rintro e w2 ⟨A',cap',rfl,_,hb⟩;have HB:=zh hb;clear hb))
 go_ret
 exact⟨A',cap',rfl,HB.out⟩
def NetX (w W:World) (n:Nat) (D:Dl) (S:St) (X:Nat→Prop):Prop:= ∃col M B,NetAt W B n col 0 D M S∧B≤W.heap.size∧(∀k,k<w.heap.size→ ¬NetOwn col 0 k)∧Below w.heap.size w W∧ ∀k,X k→k<W.heap.size∧ ¬NetOwn col 0 k
theorem NetX.bel {w W:World} {n:Nat} {D:Dl} {S:St} {X:Nat→Prop} (h:NetX w W n D S X):Below w.heap.size w W:=by
 obtain⟨col,M,B,h1,h2,h3,h4,h5⟩:=h
 exact h4
theorem NetX.op {w W:World} {n:Nat} {D:Dl} {S S':St} {X:Nat→Prop} {f:FuncId} {args:Array Value} {E:Ending} (h:NetX w W n D S X) (hc: ∀col M B,NetAt W B n col 0 D M S→B≤W.heap.size→Calls Tryz.prog f args W fun e w'=>e=E∧NetTo W B n col 0 D S' w'):
 Calls Tryz.prog f args W fun e w'=>e=E∧NetX w w' n D S' X∧Touch (fun k=> ¬X k) W w':=by
 obtain⟨col,M,B,h1,h2,h3,h4,h5⟩:=h
 refine(hc col M B h1 h2).mono fun e w' ⟨he,col',M',hcc,hN,ht⟩=>⟨he,⟨col',M',B,hN,Nat.le_trans h2 ht.size,fun k hk=>?_,Below.touch h4 h4.size ht (fun k hk=>?_),fun k hk=>?_⟩,ht.mono (fun k hk hx=>(h5 k hx).2 hk)⟩
 ·have e1:=hcc k (Nat.lt_of_lt_of_le hk h4.size)
  have:=h3 k hk
  unfold NetOwn at this ⊢
  rw[e1]
  exact this
 ·by_cases hlt:w.heap.size≤k
  ·exact hlt
  ·exact absurd hk (h3 k (by omega))
 ·have h6:=h5 k hk
  refine⟨Nat.lt_of_lt_of_le h6.1 ht.size,?_⟩
  have e1:=hcc k h6.1
  have:=h6.2
  unfold NetOwn at this ⊢
  rw[e1]
  exact this
theorem NetX.below {w W W':World} {n:Nat} {D:Dl} {S:St} {X:Nat→Prop} (h:NetX w W n D S X) (hb:Below W.heap.size W W'):NetX w W' n D S X:=by
 obtain⟨col,M,B,h1,h2,h3,h4,h5⟩:=h
 exact⟨col,M,B,h1.below hb,Nat.le_trans h2 hb.size,h3,h4.trans (hb.mono h4.size),fun k hk=>⟨Nat.lt_of_lt_of_le (h5 k hk).1 hb.size,(h5 k hk).2⟩⟩
theorem NetX.touch {w W W':World} {n:Nat} {D:Dl} {S:St} {X:Nat→Prop} (h:NetX w W n D S X) (ht:Touch X W W') (hX: ∀k,X k→w.heap.size≤k):NetX w W' n D S X:=by
 obtain⟨col,M,B,h1,h2,h3,h4,h5⟩:=h
 exact⟨col,M,B,h1.touch ht (fun k hk hx=>(h5 k hx).2 hk),Nat.le_trans h2 ht.size,h3,Below.touch h4 h4.size ht hX,fun k hk=>⟨Nat.lt_of_lt_of_le (h5 k hk).1 ht.size,(h5 k hk).2⟩⟩
theorem do_xx {w W:World} {n:Nat} {D:Dl} {S:St} {X:Nat→Prop} (h:NetX w W n D S X) {K:Int} (ho:OkA K D S) (k a b c:Int):Calls Tryz.prog 24 #[.pointer (some ⟨n,0,none⟩),.agg #[.int .i64 k,.int .i64 a,.int .i64 b,.int .i64 c]] W fun e w'=>e=.returned (.int .i64 (doE D S k a b c))∧NetX w w' n D (doS D S k a b c) X∧Touch (fun k=> ¬X k) W w':=
 h.op fun col M B h1 h2=>Do_c h1 h2 ho k a b c
theorem session_x {w W:World} {n:Nat} {D:Dl} {S:St} {X:Nat→Prop} (h:NetX w W n D S X):Calls Tryz.prog 27 #[.pointer (some ⟨n,0,none⟩)] W fun e w'=>e=.returned (.int .i64 S.sss)∧W=w':=by
 obtain⟨col,M,B,h1,h2,h3,h4,h5⟩:=h
 exact Session_c h1
theorem flowing_x {w W:World} {n:Nat} {D:Dl} {S:St} {X:Nat→Prop} (h:NetX w W n D S X):Calls Tryz.prog 29 #[.pointer (some ⟨n,0,none⟩)] W fun e w'=>e=.returned (.int .i64 S.flow)∧W=w':=by
 obtain⟨col,M,B,h1,h2,h3,h4,h5⟩:=h
 exact Flowing_c h1
theorem plugged_x {w W:World} {n:Nat} {D:Dl} {S:St} {X:Nat→Prop} (h:NetX w W n D S X):Calls Tryz.prog 28 #[.pointer (some ⟨n,0,none⟩)] W fun e w'=>e=.returned (.bool S.inn)∧W=w':=by
 obtain⟨col,M,B,h1,h2,h3,h4,h5⟩:=h
 exact Plugged_c h1
theorem count_x {w W:World} {n:Nat} {D:Dl} {S:St} {X:Nat→Prop} (h:NetX w W n D S X) (s:Int):Calls Tryz.prog 23 #[.pointer (some ⟨n,0,none⟩),.int .i64 s] W fun e w'=>e=.returned (.tuple #[.int .i64 (Nw.count S s).i,.int .i64 (Nw.count S s).b])∧Below W.heap.size W w':=by
 obtain⟨col,M,B,h1,h2,h3,h4,h5⟩:=h
 exact Count_c h1 s
theorem bill_x {w W:World} {n:Nat} {D:Dl} {S:St} {X:Nat→Prop} (h:NetX w W n D S X) (q s:Int):Calls Tryz.prog 20 #[.pointer (some ⟨n,0,none⟩),.int .i64 q,.int .i64 s] W fun e w'=>e=.returned (.tuple #[Nw.Bl.v (billV S q s),.int .i64 (billE S q s)])∧Below W.heap.size W w':=by
 obtain⟨col,M,B,h1,h2,h3,h4,h5⟩:=h
 exact Bill_c h1 q s
theorem flying_x {w W:World} {n:Nat} {D:Dl} {S:St} {X:Nat→Prop} (h:NetX w W n D S X) (hl:S.fl.length≤1000000):Calls Tryz.prog 30 #[.pointer (some ⟨n,0,none⟩)] W fun e w'=> ∃A' cap',e=.returned (.slice A' S.fl.length cap')∧Below W.heap.size W w':=by
 obtain⟨col,M,B,h1,h2,h3,h4,h5⟩:=h
 exact Flying_c h1 hl
end Go.Proofs.YtlklnaebdnahcaaGreat
namespace Go.Proofs.YtlklnaebdnahcaaGreat
open Go.RowKit Nw
namespace Bq
def oth (i:Nat):Nat:=if i%2=0 then i+1 else i-1
theorem oth_lt {i:Nat} (h:i<6):oth i<6:=by unfold oth;split<;>omega
theorem oth_ne (i:Nat):oth i≠i:=by unfold oth;split<;>omega
theorem oth_oth (i:Nat):oth (oth i)=i:=by unfold oth;split<;>split<;>omega
theorem toL_oth (i:Nat):toL (i:Int)=oth i:=by unfold toL oth;split<;>split<;>omega
def que (x y:Ln):List Nt:=x.L.drop (y.tk-x.dn).toNat
structure Dr (x y:Ln) (F:List Sn) (i j:Int):Prop where
 d1:x.dn≤y.tk
 d2:y.tk≤x.dn+1
 d3:y.tk=x.dn+1→x.L≠[]
 d4: ∀s∈F,s.l=i→s.p.has=true→s.p.nu≤x.dn+1∧(s.p.nu=x.dn+1→x.L.head?=some s.p.nt)
 d5: ∀s∈F,s.l=j→s.p.ak≤y.tk
structure LI (t:Int) (S:St):Prop where
 len:S.L.length=6
 fl: ∀s∈S.fl,0≤s.l∧s.l<6
 dr: ∀i,i<6→Dr (ln S i) (ln S (oth i)) S.fl (i:Int) (oth i:Nat)
 t1: ∀i,i<6→2*(ln S i).dn≤t∧2*(ln S i).tk≤t+1
 t2: ∀s∈S.fl,(s.p.has=true→2*s.p.nu≤t+1)∧2*s.p.ak≤t
def Q (S:St) (i:Nat):List Nt:=que (ln S i) (ln S (oth i))
theorem ln_set {S S':St} {i:Nat} {l:Ln} (hl:S.L.length=6) (hi:i<6) (hS:S'.L=S.L.set i l) (j:Nat):ln S' j=if j=i then l else ln S j:=by
 unfold ln
 rw[hS,List.getD_eq_getElem?_getD,List.getD_eq_getElem?_getD,List.getElem?_set]
 by_cases h:i=j
 ·subst h
  rw[if_pos rfl,if_pos rfl,if_pos (by omega)]
  rfl
 ·rw[if_neg h,if_neg (fun e=>h e.symm)]
theorem Dr.sub {x y:Ln} {F F':List Sn} {i j:Int} (h:Dr x y F i j) (hF: ∀s∈F',s∈F):Dr x y F' i j:=
 ⟨h.d1,h.d2,h.d3,fun s hs=>h.d4 s (hF s hs),fun s hs=>h.d5 s (hF s hs)⟩
theorem LI.same {t:Int} {S S':St} (h:LI t S) (hL:S'.L=S.L) (hF: ∀s∈S'.fl,s∈S.fl):LI t S':=by
 have e: ∀i,ln S' i=ln S i:=fun i=>by unfold ln;rw[hL]
 refine⟨by rw[hL];exact h.len,fun s hs=>h.fl s (hF s hs),fun i hi=>?_,fun i hi=>?_,fun s hs=>h.t2 s (hF s hs)⟩
 ·rw[e,e];exact(h.dr i hi).sub hF
 ·rw[e];exact h.t1 i hi
theorem Q_same {S S':St} (hL:S'.L=S.L) (i:Nat):Q S' i=Q S i:=by
 unfold Q ln;rw[hL]
theorem LI.up {t t':Int} {S:St} (h:LI t S) (ht:t≤t'):LI t' S:=
 ⟨h.len,h.fl,h.dr,fun i hi=>by have:=h.t1 i hi;omega,fun s hs=>⟨fun e=>by have:=(h.t2 s hs).1 e;omega,by have:=(h.t2 s hs).2;omega⟩⟩
theorem Dr.len {x y:Ln} {F:List Sn} {i j:Int} (h:Dr x y F i j):(y.tk-x.dn).toNat≤x.L.length:=by
 have h1:=h.d1
 have h2:=h.d2
 by_cases e:y.tk=x.dn+1
 ·have:=h.d3 e
  have h3:0<x.L.length:=List.length_pos_iff.2 this
  omega
 ·omega
theorem que_len {x y:Ln} {F:List Sn} {i j:Int} (h:Dr x y F i j):x.L.length≤(que x y).length+1:=by
 have h1:=h.d1
 have h2:=h.d2
 unfold que
 rw[List.length_drop]
 omega
theorem Dr.send {x y:Ln} {F:List Sn} {i j:Int} (h:Dr x y F i j) (n:Nt):Dr (Lx.sendL x n) y F i j:=by
 unfold Lx.sendL
 split
 ·exact h
 ·refine⟨h.d1,h.d2,fun e=>by simp,fun s hs hi hp=>?_,h.d5⟩
  have h4:=h.d4 s hs hi hp
  refine⟨h4.1,fun e=>?_⟩
  have h5:=h4.2 e
  show(x.L++[n]).head?=_
  cases hx:x.L with
  |nil=>rw[hx]at h5;cases h5
  |cons a l=>rw[hx]at h5;exact h5
theorem Dr.sendY {x y:Ln} {F:List Sn} {i j:Int} (h:Dr x y F i j) (n:Nt):Dr x (Lx.sendL y n) F i j:=by
 have e:(Lx.sendL y n).tk=y.tk:=by unfold Lx.sendL;split<;>rfl
 exact⟨by rw[e];exact h.d1,by rw[e];exact h.d2,by rw[e];exact h.d3,h.d4,by rw[e];exact h.d5⟩
theorem que_send {x y:Ln} {F:List Sn} {i j:Int} (h:Dr x y F i j) (n:Nt):que (Lx.sendL x n) y=if 64≤x.L.length then que x y else que x y++[n]:=by
 have hl:=h.len
 unfold que Lx.sendL
 split
 ·rfl
 ·show(x.L++[n]).drop (y.tk-x.dn).toNat=_
  rw[List.drop_append_of_le_length hl]
theorem que_sendY (x y:Ln) (n:Nt):que x (Lx.sendL y n)=que x y:=by
 have e:(Lx.sendL y n).tk=y.tk:=by unfold Lx.sendL;split<;>rfl
 unfold que
 rw[e]
theorem LI.tell {t:Int} {S:St} (h:LI t S) {i:Nat} (hi:i<6) (n:Nt):LI t (Nw.tell S i n):=by
 have e:=ln_set (S':=Nw.tell S i n) h.len hi rfl
 have ed:(Lx.sendL (ln S i) n).dn=(ln S i).dn∧(Lx.sendL (ln S i) n).tk=(ln S i).tk:=by unfold Lx.sendL;split<;>exact⟨rfl,rfl⟩
 refine⟨by show(S.L.set i _).length=6;rw[List.length_set];exact h.len,h.fl,fun j hj=>?_,fun j hj=>?_,h.t2⟩
 ·show Dr (ln (Nw.tell S i n) j) (ln (Nw.tell S i n) (oth j)) S.fl _ _
  rw[e,e]
  by_cases e1:j=i
  ·subst e1
   rw[if_pos rfl,if_neg (oth_ne j)]
   exact(h.dr j hj).send n
  ·rw[if_neg e1]
   by_cases e2:oth j=i
   ·subst e2
    rw[if_pos rfl]
    exact(h.dr j hj).sendY n
   ·rw[if_neg e2]
    exact h.dr j hj
 ·rw[e]
  split
  ·rename_i e1
   subst e1
   rw[ed.1,ed.2]
   exact h.t1 j hj
  ·exact h.t1 j hj
theorem Q_tell {t:Int} {S:St} (h:LI t S) {i:Nat} (hi:i<6) (n:Nt) (j:Nat) (hj:j<6):Q (Nw.tell S i n) j=if j=i then (if 64≤(ln S i).L.length then Q S i else Q S i++[n])else Q S j:=by
 have e:=ln_set (S':=Nw.tell S i n) h.len hi rfl
 unfold Q
 rw[e,e]
 by_cases e1:j=i
 ·subst e1
  rw[if_pos rfl,if_neg (oth_ne j),if_pos rfl]
  exact que_send (h.dr j hj) n
 ·rw[if_neg e1,if_neg e1]
  by_cases e2:oth j=i
  ·subst e2
   rw[if_pos rfl]
   exact que_sendY _ _ n
  ·rw[if_neg e2]
theorem pollP_nu {x:Ln} (h:(Lx.pollP x).has=true):(Lx.pollP x).nu=x.dn+1∧x.L.head?=some (Lx.pollP x).nt:=by
 unfold Lx.pollP at h ⊢
 split at h
 ·exfalso
  split at h<;>simp[Lx.pk0]at h
 ·rename_i n l e
  exact⟨rfl,by rw[e];rfl⟩
theorem pollP_ak {x:Ln} (h:Lx.pollB x=true):(Lx.pollP x).ak=x.tk:=by
 unfold Lx.pollB at h
 unfold Lx.pollP
 cases hl:x.L with
 |nil=>
  rw[hl]at h
  simp at h
  simp[h]
 |cons a l=>rfl
theorem LI.poll {t:Int} {S:St} (h:LI t S) (h1: ∀i,i<6→2*(ln S i).dn+1≤t∧2*(ln S i).tk≤t) {i:Nat} (hi:i<6):
 LI t (Nw.poll S i)∧(∀j,j<6→2*(ln (Nw.poll S i) j).dn+1≤t∧2*(ln (Nw.poll S i) j).tk≤t)∧ ∀j,j<6→Q (Nw.poll S i) j=Q S j:=by
 have e:=ln_set (S':=Nw.poll S i) (l:=Lx.pollL (ln S i)) h.len hi rfl
 have e2: ∀j,(ln (Nw.poll S i) j).dn=(ln S j).dn∧(ln (Nw.poll S i) j).tk=(ln S j).tk∧(ln (Nw.poll S i) j).L=(ln S j).L:=fun j=>by
  rw[e]
  split
  ·rename_i q;subst q;exact⟨rfl,rfl,rfl⟩
  ·exact⟨rfl,rfl,rfl⟩
 have hf: ∀s∈(Nw.poll S i).fl,s∈S.fl∨(Lx.pollB (ln S i)=true∧s=⟨i,Lx.pollP (ln S i)⟩):=by
  intro s hs
  have hs2:s∈(if Lx.pollB (ln S i)then S.fl++[⟨(i:Int),Lx.pollP (ln S i)⟩]else S.fl):=hs
  split at hs2
  ·rename_i hb
   rcases List.mem_append.1 hs2 with q|q
   ·exact .inl q
   ·exact .inr ⟨hb,List.mem_singleton.1 q⟩
  ·exact .inl hs2
 refine⟨⟨?_,fun s hs=>?_,fun j hj=>?_,fun j hj=>?_,fun s hs=>?_⟩,fun j hj=>?_,fun j hj=>?_⟩
 ·show(S.L.set i _).length=6
  rw[List.length_set];exact h.len
 ·rcases hf s hs with q|⟨_,q⟩
  ·exact h.fl s q
  ·subst q;exact⟨by show(0:Int)≤(i:Int);omega,by show(i:Int)<6;omega⟩
 ·have d:=h.dr j hj
  obtain⟨a1,a2,a3⟩:=e2 j
  obtain⟨b1,b2,b3⟩:=e2 (oth j)
  refine⟨by rw[a1,b2];exact d.d1,by rw[a1,b2];exact d.d2,by rw[a1,b2,a3];exact d.d3,fun s hs hl hp=>?_,fun s hs hl=>?_⟩
  ·rw[a1,a3]
   rcases hf s hs with q|⟨_,q⟩
   ·exact d.d4 s q hl hp
   ·subst q
    have e3:i=j:=by have:(i:Int)=(j:Int):=hl;omega
    subst e3
    have q2:=pollP_nu hp
    exact⟨by rw[show(Sn.p ⟨(i:Int),Lx.pollP (ln S i)⟩).nu=_ from q2.1];omega,fun _=>q2.2⟩
  ·rw[b2]
   rcases hf s hs with q|⟨hb,q⟩
   ·exact d.d5 s q hl
   ·subst q
    have e3:i=oth j:=by have:(i:Int)=((oth j:Nat):Int):=hl;omega
    subst e3
    have q2:=pollP_ak hb
    show(Lx.pollP (ln S (oth j))).ak≤_
    rw[q2]
    exact Int.le_refl _
 ·obtain⟨a1,a2,a3⟩:=e2 j
  rw[a1,a2];exact h.t1 j hj
 ·rcases hf s hs with q|⟨hb,q⟩
  ·exact h.t2 s q
  ·subst q
   have q3:=h1 i hi
   refine⟨fun hp=>?_,?_⟩
   ·have q2:=pollP_nu hp
    show 2*(Lx.pollP (ln S i)).nu≤_
    rw[q2.1];omega
   ·show 2*(Lx.pollP (ln S i)).ak≤_
    rw[pollP_ak hb];exact q3.2
 ·obtain⟨a1,a2,a3⟩:=e2 j
  rw[a1,a2];exact h1 j hj
 ·unfold Q que
  obtain⟨a1,a2,a3⟩:=e2 j
  obtain⟨b1,b2,b3⟩:=e2 (oth j)
  rw[a1,a3,b2]
theorem LI.polls {t:Int} {S:St} (h:LI t S) (h1: ∀i,i<6→2*(ln S i).dn+1≤t∧2*(ln S i).tk≤t):
 ∀n,n≤6→LI t (Nw.polls n S)∧(∀j,j<6→2*(ln (Nw.polls n S) j).dn+1≤t∧2*(ln (Nw.polls n S) j).tk≤t)∧ ∀j,j<6→Q (Nw.polls n S) j=Q S j
 |0,_=>⟨h,h1,fun _ _=>rfl⟩
 |n+1,hn=>by
  obtain⟨a,b,c⟩:=LI.polls h h1 n (by omega)
  obtain⟨a',b',c'⟩:=a.poll b (i:=n) (by omega)
  exact⟨a',b',fun j hj=>(c' j hj).trans (c j hj)⟩
theorem ack_is {x y:Ln} {F:List Sn} {i j:Int} (h:Dr x y F i j) {s:Sn} (hs:s∈F) (hl:s.l=j):Dr (Lx.ack x s.p) y F i j∧que (Lx.ack x s.p) y=que x y∧((Lx.ack x s.p).dn=x.dn∨(Lx.ack x s.p).dn=s.p.ak)∧(Lx.ack x s.p).tk=x.tk:=by
 unfold Lx.ack
 split
 ·rename_i hb
  simp only[Lx.ackB,Bool.and_eq_true,decide_eq_true_eq]at hb
  have h5:=h.d5 s hs hl
  have h1:=h.d1
  have h2:=h.d2
  have e1:s.p.ak=x.dn+1:=by omega
  have e2:y.tk=x.dn+1:=by omega
  have e3:(s.p.ak-x.dn).toNat=1:=by omega
  refine⟨⟨by show s.p.ak≤y.tk;omega,by show y.tk≤s.p.ak+1;omega,fun e=>?_,fun r hr hi hp=>?_,h.d5⟩,?_,.inr rfl,rfl⟩
  ·exfalso
   have:y.tk=s.p.ak+1:=e
   omega
  ·have h4:=h.d4 r hr hi hp
   refine⟨by show r.p.nu≤s.p.ak+1;omega,fun e=>?_⟩
   exfalso
   have:r.p.nu=s.p.ak+1:=e
   omega
  ·show(x.L.drop (s.p.ak-x.dn).toNat).drop (y.tk-s.p.ak).toNat=_
   unfold que
   rw[List.drop_drop]
   congr 1
   omega
 ·exact⟨h,rfl,.inl rfl,rfl⟩
theorem recv_parts (y:Ln) (p:Pk):(Lx.recvL y p).L=(Lx.ack y p).L∧(Lx.recvL y p).dn=(Lx.ack y p).dn∧(Lx.recvL y p).tk=if Lx.recvB y p then y.tk+1 else y.tk:=by
 have ht:(Lx.ack y p).tk=y.tk:=by unfold Lx.ack;split<;>rfl
 unfold Lx.recvL Lx.recvB
 split
 ·rename_i hp
  split
  ·rename_i hn
   refine⟨rfl,rfl,?_⟩
   rw[if_pos (by simp[hp,hn])]
  ·rename_i hn
   refine⟨rfl,rfl,?_⟩
   rw[if_neg (by simp[hp,hn])]
   exact ht
 ·rename_i hp
  refine⟨rfl,rfl,?_⟩
  rw[if_neg (by simp[hp])]
  exact ht
theorem Dr.cong {x y x' y':Ln} {F:List Sn} {i j:Int} (h:Dr x y F i j) (h1:x'.L=x.L) (h2:x'.dn=x.dn) (h3:y'.tk=y.tk):Dr x' y' F i j:=
 ⟨by rw[h2,h3];exact h.d1,by rw[h2,h3];exact h.d2,by rw[h1,h2,h3];exact h.d3,by rw[h1,h2];exact h.d4,by rw[h3];exact h.d5⟩
theorem que_cong {x y x' y':Ln} (h1:x'.L=x.L) (h2:x'.dn=x.dn) (h3:y'.tk=y.tk):que x' y'=que x y:=by
 unfold que;rw[h1,h2,h3]
theorem LI.recv {t:Int} {S S':St} (h:LI t S) {s:Sn} (hs:s∈S.fl) {i:Nat} (hi:i<6) (hl:s.l=(i:Int)) (hL:S'.L=S.L.set (oth i) (Lx.recvL (ln S (oth i)) s.p)) (hF: ∀r∈S'.fl,r∈S.fl):
 LI t S'∧(∀j,j<6→j≠i→Q S' j=Q S j)∧(if Lx.recvB (ln S (oth i)) s.p then Q S i=Lx.recvN (ln S (oth i)) s.p::Q S' i∧(ln S' (oth i)).tk=(ln S (oth i)).tk+1 else Q S' i=Q S i∧(ln S' (oth i)).tk=(ln S (oth i)).tk)∧ ∀j,j≠oth i→(ln S' j).tk=(ln S j).tk:=by
 have e:=ln_set h.len (oth_lt hi) hL
 have eo:ln S' (oth i)=Lx.recvL (ln S (oth i)) s.p:=by rw[e,if_pos rfl]
 have en: ∀j,j≠oth i→ln S' j=ln S j:=fun j hj=>by rw[e,if_neg hj]
 obtain⟨p1,p2,p3⟩:=recv_parts (ln S (oth i)) s.p
 have db:=h.dr (oth i) (oth_lt hi)
 rw[oth_oth]at db
 obtain⟨a1,a2,a3,a4⟩:=ack_is db hs hl
 have df:=h.dr i hi
 have hi2:oth i≠i:=oth_ne i
 have hst:=h.t2 s hs
 have dfi:Dr (ln S i) (Lx.recvL (ln S (oth i)) s.p) S.fl (i:Int) (oth i:Nat):=by
  by_cases hb:Lx.recvB (ln S (oth i)) s.p=true
  ·rw[if_pos hb]at p3
   simp only[Lx.recvB,Bool.and_eq_true,decide_eq_true_eq]at hb
   have h4:=df.d4 s hs hl hb.1
   have h1:=df.d1
   have h2:=df.d2
   refine⟨by rw[p3];omega,by rw[p3];omega,fun q=>?_,df.d4,fun r hr hl2=>?_⟩
   ·intro q2
    have:=h4.2 (by omega)
    rw[q2]at this
    cases this
   ·rw[p3];have:=df.d5 r hr hl2;omega
  ·rw[if_neg hb]at p3
   exact df.cong rfl rfl p3
 refine⟨⟨by rw[hL,List.length_set];exact h.len,fun r hr=>h.fl r (hF r hr),fun j hj=>?_,fun j hj=>?_,fun r hr=>h.t2 r (hF r hr)⟩,fun j hj hji=>?_,?_,fun j hj=>by rw[en j hj]⟩
 ·by_cases e1:j=i
  ·subst e1
   rw[eo,en j (fun q=>hi2 q.symm)]
   exact dfi.sub hF
  ·by_cases e2:j=oth i
   ·subst e2
    rw[oth_oth,eo,en i (fun q=>hi2 q.symm)]
    exact(a1.cong p1 p2 rfl).sub hF
   ·have e3:oth j≠oth i:=fun q=>e1 (by rw[←oth_oth j,q,oth_oth])
    rw[en j e2,en _ e3]
    exact(h.dr j hj).sub hF
 ·by_cases e2:j=oth i
  ·subst e2
   rw[eo,p2,p3]
   have q:=h.t1 (oth i) hj
   constructor
   ·rcases a3 with a3|a3
    ·rw[a3];exact q.1
    ·rw[a3];exact hst.2
   ·split
    ·rename_i hb
     simp only[Lx.recvB,Bool.and_eq_true,decide_eq_true_eq]at hb
     have:=hst.1 hb.1
     omega
    ·exact q.2
  ·rw[en j e2];exact h.t1 j hj
 ·unfold Q
  by_cases e2:j=oth i
  ·subst e2
   rw[oth_oth,eo,en i (fun q=>hi2 q.symm)]
   exact(que_cong p1 p2 rfl).trans a2
  ·have e3:oth j≠oth i:=fun q=>hji (by rw[←oth_oth j,q,oth_oth])
   rw[en j e2,en _ e3]
 ·have ei:=en i (fun q=>hi2 q.symm)
  unfold Q
  rw[ei,eo]
  by_cases hb:Lx.recvB (ln S (oth i)) s.p=true
  ·rw[if_pos hb]
   rw[if_pos hb]at p3
   have hb2:=hb
   simp only[Lx.recvB,Bool.and_eq_true,decide_eq_true_eq]at hb2
   have h4:=df.d4 s hs hl hb2.1
   have h1:=df.d1
   have h2:=df.d2
   have e5:(ln S (oth i)).tk=(ln S i).dn:=by omega
   have h6:=h4.2 (by omega)
   refine⟨?_,p3⟩
   unfold que Lx.recvN
   rw[if_pos hb,p3,e5]
   have e6:((ln S i).dn+1-(ln S i).dn).toNat=1:=by omega
   have e7:((ln S i).dn -(ln S i).dn).toNat=0:=by omega
   rw[e6,e7,List.drop_zero]
   cases hx:(ln S i).L with
   |nil=>rw[hx]at h6;cases h6
   |cons a l=>
    rw[hx]at h6
    injection h6 with h6
    rw[h6]
    rfl
  ·rw[if_neg hb]
   rw[if_neg hb]at p3
   exact⟨que_cong rfl rfl p3,p3⟩
end Bq
end Go.Proofs.YtlklnaebdnahcaaGreat
namespace Go.Proofs.YtlklnaebdnahcaaGreat
open Go.RowKit Nw
namespace Bq
def ck (k:Int) (l:List Nt):Nat:=l.countP (fun n=>decide (n.k=k))
def cs10 (s:Int) (l:List Nt):Nat:=l.countP (fun n=>decide (n.k=10∧n.s=s))
def sA:List Nt→Int
 |[]=>0
 |n::l=>(if n.k=9∨n.k=11 then n.a else 0)+sA l
def sB:List Nt→Int
 |[]=>0
 |n::l=>(if n.k=9∨n.k=11 then n.b else 0)+sB l
theorem ck_cons (k:Int) (n:Nt) (l:List Nt):ck k (n::l)=ck k l+if n.k=k then 1 else 0:=by
 unfold ck;rw[List.countP_cons];simp
theorem ck_app (k:Int) (l:List Nt) (n:Nt):ck k (l++[n])=ck k l+if n.k=k then 1 else 0:=by
 unfold ck;rw[List.countP_append,List.countP_cons];simp
theorem ck_zero {k:Int} {l:List Nt} (h:ck k l=0): ∀n∈l,n.k≠k:=by
 intro n hn e
 have:=List.countP_eq_zero.1 h n hn
 simp[e]at this
theorem ck_none {k:Int} {l:List Nt} (h: ∀n∈l,n.k≠k):ck k l=0:=by
 unfold ck;rw[List.countP_eq_zero];intro n hn;simp[h n hn]
theorem ck_sub {k:Int} {l l':List Nt} (h:List.Sublist l' l):ck k l'≤ck k l:=h.countP_le
theorem cs_cons (s:Int) (n:Nt) (l:List Nt):cs10 s (n::l)=cs10 s l+if n.k=10∧n.s=s then 1 else 0:=by
 unfold cs10;rw[List.countP_cons];simp
theorem cs_app (s:Int) (l:List Nt) (n:Nt):cs10 s (l++[n])=cs10 s l+if n.k=10∧n.s=s then 1 else 0:=by
 unfold cs10;rw[List.countP_append,List.countP_cons];simp
theorem cs_none {s:Int} {l:List Nt} (h: ∀n∈l,n.k=10→n.s≠s):cs10 s l=0:=by
 unfold cs10;rw[List.countP_eq_zero];intro n hn;simp only[decide_eq_true_eq];intro e;exact h n hn e.1 e.2
theorem cs_sub {s:Int} {l l':List Nt} (h:List.Sublist l' l):cs10 s l'≤cs10 s l:=h.countP_le
theorem sA_app (l:List Nt) (n:Nt):sA (l++[n])=sA l+if n.k=9∨n.k=11 then n.a else 0:=by
 induction l with
 |nil=>simp[sA]
 |cons m l ih=>rw[List.cons_append];unfold sA;rw[ih];omega
theorem sB_app (l:List Nt) (n:Nt):sB (l++[n])=sB l+if n.k=9∨n.k=11 then n.b else 0:=by
 induction l with
 |nil=>simp[sB]
 |cons m l ih=>rw[List.cons_append];unfold sB;rw[ih];omega
theorem s_none {l:List Nt} (h: ∀n∈l,n.k≠9∧n.k≠11):sA l=0∧sB l=0:=by
 induction l with
 |nil=>exact⟨rfl,rfl⟩
 |cons m l ih=>
  have h1:=h m (by simp)
  have h2:=ih (fun n hn=>h n (by simp[hn]))
  unfold sA sB
  rw[if_neg (by omega),if_neg (by omega),h2.1,h2.2]
  exact⟨rfl,rfl⟩
def Bill (ac:List Ac) (b:Bl):Prop:= ∃a∈ac,a.dn=true∧a.bl=b
structure Iv (D:Dl) (lc:Int) (q1 q2 q3 q4 q5:List Nt) (S:St):Prop where
 ph:S.sph=0∨S.sph=1∨S.sph=2∨S.sph=3
 k2: ∀n∈q2,n.k=15∨(n.s=S.sss∧((S.sph=1∧n.k=2)∨(S.sph=2∧n.k=9)∨(S.sph=3∧(n.k=9∨n.k=11))))
 f2:q2.Pairwise (fun n m=>n.k=11→m.k=15)
 tk:ck 2 q2+ck 6 q3+ck 7 q3+ck 3 q4+ck 4 q5+ck 5 q5≤if S.sph=1 then 1 else 0
 t3: ∀n∈q3,n.k=6∨n.k=7→n.s=S.sss
 t4: ∀n∈q4,n.k=3→n.s=S.sss
 t5: ∀n∈q5,n.k=4∨n.k=5→n.s=S.sss
 au: ∀n∈q2,n.k=2→ ∀a∈S.ac,a.bl.s<S.sss
 rf: ∀n∈q3,n.k=7→ ∀a∈S.ac,a.bl.s=S.sss→a.op=false
 nd:S.ac.Pairwise (fun a b=>a.bl.s≠b.bl.s)
 al: ∀a∈S.ac,a.bl.s≤S.sss
 op: ∀a∈S.ac,a.op=true→a.bl.s=S.sss∧S.sph≠0∧a.dn=false
 dn: ∀a∈S.ac,a.dn=true→a.bl.s=S.sss→S.sph≠1∧S.sph≠2∧ ∀n∈q2,n.k=15
 cn: ∀a∈S.ac,a.dn=true→(Nw.count S a.bl.s).i=a.bl.i∧(Nw.count S a.bl.s).b=a.bl.b
 ba: ∀a∈S.ac,a.op=true→wr (a.bl.i+sA q2+S.si)=(Nw.count S S.sss).i∧wr (a.bl.b+sB q2+S.sk)=(Nw.count S S.sss).b
 si:S.sph≠2→S.si=0∧S.sk=0
 c0: ∀t,S.sss<t→Nw.count S t=⟨0,0⟩
 c1:S.sph=1→Nw.count S S.sss=⟨0,0⟩
 b3: ∀n∈q3,n.k=12→Bill S.ac (billOf n)
 b4: ∀n∈q4,n.k=12→Bill S.ac (billOf n)
 b1: ∀n∈q1,n.k=12→Bill S.ac (billOf n)
 vb: ∀e∈S.vb,e.2.s=e.1∧Bill S.ac e.2
 sb: ∀e∈S.sb,e.2.s=e.1∧Bill S.ac e.2
 pb: ∀e∈S.pb,e.2.s=e.1∧Bill S.ac e.2
 oo:S.sph=1∨S.sph=2→(ck 9 q2:Int)+cs10 S.sss q3≤S.opn
 o3: ∀n∈q3,n.k=10→n.s≤S.sss
 o1:S.sph=1∨S.sph=2→0≤S.opn∧S.opn≤D.sl
 ld:(ck 15 q2:Int)+ck 14 q3≤lc
 l3: ∀n∈q3,n.k=14→(0≤n.a∧n.a≤D.dr)∧0≤n.b∧n.b≤D.bk
 po:(0≤S.po.d∧S.po.d≤D.dr)∧0≤S.po.b∧S.po.b≤D.bk
 cl:S.cs.length=1
theorem Iv.sub {D:Dl} {lc:Int} {q1 q2 q3 q4 q5 q1' q3' q4' q5':List Nt} {S:St} (h:Iv D lc q1 q2 q3 q4 q5 S) (h1:List.Sublist q1' q1) (h3:List.Sublist q3' q3) (h4:List.Sublist q4' q4) (h5:List.Sublist q5' q5):Iv D lc q1' q2 q3' q4' q5' S:=
 {h with
  tk:=by
   have:=h.tk
   have:=ck_sub (k:=6) h3
   have:=ck_sub (k:=7) h3
   have:=ck_sub (k:=3) h4
   have:=ck_sub (k:=4) h5
   have:=ck_sub (k:=5) h5
   omega
  t3:=fun n hn=>h.t3 n (h3.subset hn)
  t4:=fun n hn=>h.t4 n (h4.subset hn)
  t5:=fun n hn=>h.t5 n (h5.subset hn)
  rf:=fun n hn=>h.rf n (h3.subset hn)
  b3:=fun n hn=>h.b3 n (h3.subset hn)
  b4:=fun n hn=>h.b4 n (h4.subset hn)
  b1:=fun n hn=>h.b1 n (h1.subset hn)
  oo:=fun hp=>by have:=h.oo hp;have:=cs_sub (s:=S.sss) h3;omega
  o3:=fun n hn=>h.o3 n (h3.subset hn)
  ld:=by have:=h.ld;have:=ck_sub (k:=14) h3;omega
  l3:=fun n hn=>h.l3 n (h3.subset hn)}
theorem Iv.sub2 {D:Dl} {lc:Int} {q1 q2 q3 q4 q5:List Nt} {n:Nt} {S:St} (h:Iv D lc q1 (q2++[n]) q3 q4 q5 S) (hn:n.k≠9∧n.k≠11):Iv D lc q1 q2 q3 q4 q5 S:=by
 have hm: ∀m∈q2,m∈q2++[n]:=fun m hm=>List.mem_append_left _ hm
 have e1:=sA_app q2 n
 have e2:=sB_app q2 n
 rw[if_neg (by omega)]at e1 e2
 exact{h with
  k2:=fun m q=>h.k2 m (hm m q)
  f2:=(List.pairwise_append.1 h.f2).1
  tk:=by have:=h.tk;rw[ck_app]at this;omega
  au:=fun m q=>h.au m (hm m q)
  dn:=fun a ha hd hs=>by have:=h.dn a ha hd hs;exact⟨this.1,this.2.1,fun m q=>this.2.2 m (hm m q)⟩
  ba:=fun a ha ho=>by have:=h.ba a ha ho;rw[e1,e2]at this;simpa using this
  oo:=fun hp=>by have:=h.oo hp;rw[ck_app]at this;omega
  ld:=by have:=h.ld;rw[ck_app]at this;omega}
theorem Iv.cong {D:Dl} {lc:Int} {q1 q2 q3 q4 q5:List Nt} {S S':St} (h:Iv D lc q1 q2 q3 q4 q5 S) (e1:S'.sph=S.sph) (e2:S'.sss=S.sss) (e3:S'.ac=S.ac) (e4:S'.si=S.si) (e5:S'.sk=S.sk) (e6:S'.vc=S.vc) (e7:S'.vb=S.vb) (e8:S'.sb=S.sb) (e9:S'.pb=S.pb) (e10:S'.opn=S.opn) (e11:S'.po=S.po) (e12:S'.cs.length=S.cs.length):Iv D lc q1 q2 q3 q4 q5 S':=by
 have ec: ∀t,Nw.count S' t=Nw.count S t:=fun t=>by unfold Nw.count;rw[e6]
 refine⟨?_,?_,h.f2,?_,?_,?_,?_,?_,?_,?_,?_,?_,?_,?_,?_,?_,?_,?_,?_,?_,?_,?_,?_,?_,?_,?_,?_,h.ld,h.l3,?_,?_⟩
 ·rw[e1];exact h.ph
 ·rw[e1,e2];exact h.k2
 ·rw[e1];exact h.tk
 ·rw[e2];exact h.t3
 ·rw[e2];exact h.t4
 ·rw[e2];exact h.t5
 ·rw[e2,e3];exact h.au
 ·rw[e2,e3];exact h.rf
 ·rw[e3];exact h.nd
 ·rw[e2,e3];exact h.al
 ·rw[e1,e2,e3];exact h.op
 ·rw[e1,e2,e3];exact h.dn
 ·rw[e3];intro a ha hd;rw[ec];exact h.cn a ha hd
 ·rw[e3,e4,e5,e2,ec];exact h.ba
 ·rw[e1,e4,e5];exact h.si
 ·rw[e2];intro t ht;rw[ec];exact h.c0 t ht
 ·rw[e1,e2,ec];exact h.c1
 ·rw[e3];exact h.b3
 ·rw[e3];exact h.b4
 ·rw[e3];exact h.b1
 ·rw[e3,e7];exact h.vb
 ·rw[e3,e8];exact h.sb
 ·rw[e3,e9];exact h.pb
 ·rw[e1,e2,e10];exact h.oo
 ·rw[e2];exact h.o3
 ·rw[e1,e10];exact h.o1
 ·rw[e11];exact h.po
 ·rw[e12];exact h.cl
theorem mput_mem {κ ν:Type} [DecidableEq κ] {k:κ} {v:ν}: ∀{l:List (κ×ν)} {e:κ×ν},e∈mput k v l→e=(k,v)∨e∈l
 |[],e,h=>.inl (List.mem_singleton.1 h)
 |x::l,e,h=>by
  unfold mput at h
  split at h
  ·rcases List.mem_cons.1 h with h|h
   ·exact .inl h
   ·exact .inr (List.mem_cons_of_mem _ h)
  ·rcases List.mem_cons.1 h with h|h
   ·exact .inr (by rw[h];exact List.mem_cons_self)
   ·rcases mput_mem h with h|h
    ·exact .inl h
    ·exact .inr (List.mem_cons_of_mem _ h)
theorem mget_mput {κ ν:Type} [DecidableEq κ] {k k':κ} {v:ν}: ∀{l:List (κ×ν)},mget k' (mput k v l)=if k=k' then some v else mget k' l
 |[]=>by unfold mput mget;split<;>rfl
 |x::l=>by
  unfold mput
  split
  ·rename_i e
   show(if k=k' then some v else mget k' l)=if k=k' then some v else (if x.1=k' then some x.2 else mget k' l)
   by_cases e3:k=k'
   ·rw[if_pos e3,if_pos e3]
   ·rw[if_neg e3,if_neg e3,if_neg (by rw[e];exact e3)]
  ·rename_i e
   show(if x.1=k' then some x.2 else mget k' (mput k v l))=_
   rw[mget_mput]
   show _=if k=k' then some v else (if x.1=k' then some x.2 else mget k' l)
   by_cases e2:x.1=k'
   ·rw[if_pos e2]
    by_cases e3:k=k'
    ·exact absurd (e2.trans e3.symm) e
    ·rw[if_neg e3,if_pos e2]
   ·rw[if_neg e2,if_neg e2]
theorem wr_wr (x:Int):wr (wr x)=wr x:=by unfold wr RowKit.wrap64;omega
theorem wr_in {x:Int} (h: -9223372036854775808≤x∧x<9223372036854775808):wr x=x:=by unfold wr RowKit.wrap64;omega
theorem Bill.app {ac:List Ac} {b:Bl} (h:Bill ac b) (a:Ac):Bill (ac++[a]) b:=by
 obtain⟨x,hx,h1,h2⟩:=h
 exact⟨x,List.mem_append_left _ hx,h1,h2⟩
theorem Bill.set {ac:List Ac} {b:Bl} (h:Bill ac b) {j:Nat} (hj:j<ac.length) (hd:(ac.getD j default).dn=false) (a:Ac):Bill (ac.set j a) b:=by
 obtain⟨x,hx,h1,h2⟩:=h
 obtain⟨i,hi,rfl⟩:=List.getElem_of_mem hx
 have hij:j≠i:=by
  intro e
  subst e
  rw[List.getD_eq_getElem?_getD,List.getElem?_eq_getElem hj]at hd
  simp only[Option.getD_some]at hd
  rw[hd]at h1;cases h1
 refine⟨ac[i],?_,h1,h2⟩
 rw[List.mem_iff_getElem?]
 exact⟨i,by rw[List.getElem?_set_ne hij,List.getElem?_eq_getElem hi]⟩
theorem fnd_none {s:Int}: ∀{ac:List Ac},fnd s ac=none→ ∀a∈ac,a.bl.s=s→a.op=false
 |[],_,a,ha=>by cases ha
 |x::l,h,a,ha=>by
  unfold fnd at h
  split at h
  ·cases h
  ·rename_i hn
   have h2:fnd s l=none:=by
    cases hf:fnd s l with
    |none=>rfl
    |some j=>rw[hf]at h;cases h
   rcases List.mem_cons.1 ha with q|q
   ·subst q
    intro e
    cases ho:a.op with
    |false=>rfl
    |true=>exact absurd ⟨e,ho⟩ hn
   ·exact fnd_none h2 a q
theorem fnd_some {s:Int}: ∀{ac:List Ac} {j:Nat},fnd s ac=some j→j<ac.length∧(ac.getD j default).bl.s=s∧(ac.getD j default).op=true∧ac.getD j default∈ac
 |[],j,h=>by cases h
 |x::l,j,h=>by
  unfold fnd at h
  split at h
  ·rename_i hp
   injection h with h
   subst h
   exact⟨by simp,hp.1,hp.2,by simp⟩
  ·cases hf:fnd s l with
   |none=>rw[hf]at h;cases h
   |some i=>
    rw[hf]at h
    injection h with h
    subst h
    obtain⟨h1,h2,h3,h4⟩:=fnd_some hf
    exact⟨by simpa using h1,by simpa using h2,by simpa using h3,by simpa using .inr h4⟩
theorem mem_set {ac:List Ac} {j:Nat} (hj:j<ac.length) {a x:Ac} (hx:x∈ac.set j a) (hnd:ac.Pairwise (fun a b=>a.bl.s≠b.bl.s)):x=a∨(x∈ac∧x.bl.s≠(ac.getD j default).bl.s):=by
 obtain⟨i,hi,rfl⟩:=List.getElem_of_mem hx
 by_cases e:j=i
 ·subst e;left;simp
 ·right
  have hi':i<ac.length:=by simpa using hi
  rw[List.getElem_set_ne e]
  refine⟨List.getElem_mem _,?_⟩
  rw[List.getD_eq_getElem?_getD,List.getElem?_eq_getElem hj]
  simp only[Option.getD_some]
  rw[List.pairwise_iff_getElem]at hnd
  rcases Nat.lt_or_gt_of_ne e with q|q
  ·exact fun w=>hnd j i hj hi' q w.symm
  ·exact hnd i j hi' hj q
theorem nd_set {ac:List Ac} {j:Nat} (hj:j<ac.length) {a:Ac} (ha:a.bl.s=(ac.getD j default).bl.s) (hnd:ac.Pairwise (fun a b=>a.bl.s≠b.bl.s)):(ac.set j a).Pairwise (fun a b=>a.bl.s≠b.bl.s):=by
 have hg:(ac.getD j default)=ac[j]:=by rw[List.getD_eq_getElem?_getD,List.getElem?_eq_getElem hj];rfl
 rw[hg]at ha
 rw[List.pairwise_iff_getElem]at hnd ⊢
 intro i k hi hk hik
 have hi':i<ac.length:=by simpa using hi
 have hk':k<ac.length:=by simpa using hk
 rw[List.getElem_set,List.getElem_set]
 split
 ·rename_i e
  split
  ·rename_i e2;omega
  ·rw[ha];exact hnd j k hj hk' (by omega)
 ·split
  ·rw[ha];exact hnd i j hi' hj (by omega)
  ·exact hnd i k hi' hk' hik
theorem nd_eq {ac:List Ac} (hnd:ac.Pairwise (fun a b=>a.bl.s≠b.bl.s)) {a b:Ac} (ha:a∈ac) (hb:b∈ac) (e:a.bl.s=b.bl.s):a=b:=by
 obtain⟨i,hi,rfl⟩:=List.getElem_of_mem ha
 obtain⟨k,hk,rfl⟩:=List.getElem_of_mem hb
 rw[List.pairwise_iff_getElem]at hnd
 rcases Nat.lt_trichotomy i k with q|q|q
 ·exact absurd e (hnd i k hi hk q)
 ·subst q;rfl
 ·exact absurd e.symm (hnd k i hk hi q)
end Bq
end Go.Proofs.YtlklnaebdnahcaaGreat
namespace Go.Proofs.YtlklnaebdnahcaaGreat
open Go.RowKit Nw
namespace Bq
theorem subS {α:Type} (c:Prop) [Decidable c] (q:List α) (n:α):List.Sublist (if c then q else q++[n]) (q++[n]):=by
 split
 ·exact List.sublist_append_left q [n]
 ·exact List.Sublist.refl _
theorem subC {α:Type} (q:List α) (n:α):List.Sublist q (n::q):=List.sublist_cons_self n q
def IvS (D:Dl) (lc:Int) (S:St):Prop:=Iv D lc (Q S 1) (Q S 2) (Q S 3) (Q S 4) (Q S 5) S
variable {D:Dl} {lc t:Int} {q1 q2 q3 q4 q5:List Nt} {S T:St} {n m:Nt}
theorem Q_ne (li:LI t T) {i:Nat} (hi:i<6) (n:Nt) {j:Nat} (hj:j<6) (h:j≠i):Q (Nw.tell T i n) j=Q T j:=(Q_tell li hi n j hj).trans (if_neg h)
theorem Q_eq (li:LI t T) {i:Nat} (hi:i<6) (n:Nt):Q (Nw.tell T i n) i=if 64≤(ln T i).L.length then Q T i else Q T i++[n]:=(Q_tell li hi n i hi).trans (if_pos rfl)
theorem put1 (li:LI t T) (h:Iv D lc (Q T 1++[n]) (Q T 2) (Q T 3) (Q T 4) (Q T 5) T):IvS D lc (Nw.tell T 1 n):=by
 unfold IvS
 rw[Q_eq li (i:=1) (by decide),Q_ne li (i:=1) (by decide) n (j:=2) (by decide) (by decide),Q_ne li (i:=1) (by decide) n (j:=3) (by decide) (by decide),Q_ne li (i:=1) (by decide) n (j:=4) (by decide) (by decide),Q_ne li (i:=1) (by decide) n (j:=5) (by decide) (by decide)]
 exact(h.sub (subS _ _ _) (List.Sublist.refl _) (List.Sublist.refl _) (List.Sublist.refl _)).cong rfl rfl rfl rfl rfl rfl rfl rfl rfl rfl rfl rfl
theorem put3 (li:LI t T) (h:Iv D lc (Q T 1) (Q T 2) (Q T 3++[n]) (Q T 4) (Q T 5) T):IvS D lc (Nw.tell T 3 n):=by
 unfold IvS
 rw[Q_ne li (i:=3) (by decide) n (j:=1) (by decide) (by decide),Q_ne li (i:=3) (by decide) n (j:=2) (by decide) (by decide),Q_eq li (i:=3) (by decide),Q_ne li (i:=3) (by decide) n (j:=4) (by decide) (by decide),Q_ne li (i:=3) (by decide) n (j:=5) (by decide) (by decide)]
 exact(h.sub (List.Sublist.refl _) (subS _ _ _) (List.Sublist.refl _) (List.Sublist.refl _)).cong rfl rfl rfl rfl rfl rfl rfl rfl rfl rfl rfl rfl
theorem put4 (li:LI t T) (h:Iv D lc (Q T 1) (Q T 2) (Q T 3) (Q T 4++[n]) (Q T 5) T):IvS D lc (Nw.tell T 4 n):=by
 unfold IvS
 rw[Q_ne li (i:=4) (by decide) n (j:=1) (by decide) (by decide),Q_ne li (i:=4) (by decide) n (j:=2) (by decide) (by decide),Q_ne li (i:=4) (by decide) n (j:=3) (by decide) (by decide),Q_eq li (i:=4) (by decide),Q_ne li (i:=4) (by decide) n (j:=5) (by decide) (by decide)]
 exact(h.sub (List.Sublist.refl _) (List.Sublist.refl _) (subS _ _ _) (List.Sublist.refl _)).cong rfl rfl rfl rfl rfl rfl rfl rfl rfl rfl rfl rfl
theorem put5 (li:LI t T) (h:Iv D lc (Q T 1) (Q T 2) (Q T 3) (Q T 4) (Q T 5++[n]) T):IvS D lc (Nw.tell T 5 n):=by
 unfold IvS
 rw[Q_ne li (i:=5) (by decide) n (j:=1) (by decide) (by decide),Q_ne li (i:=5) (by decide) n (j:=2) (by decide) (by decide),Q_ne li (i:=5) (by decide) n (j:=3) (by decide) (by decide),Q_ne li (i:=5) (by decide) n (j:=4) (by decide) (by decide),Q_eq li (i:=5) (by decide)]
 exact(h.sub (List.Sublist.refl _) (List.Sublist.refl _) (List.Sublist.refl _) (subS _ _ _)).cong rfl rfl rfl rfl rfl rfl rfl rfl rfl rfl rfl rfl
theorem put2 (li:LI t T) (h:Iv D lc (Q T 1) (Q T 2++[n]) (Q T 3) (Q T 4) (Q T 5) T) (hn:n.k≠9∧n.k≠11):IvS D lc (Nw.tell T 2 n):=by
 unfold IvS
 rw[Q_ne li (i:=2) (by decide) n (j:=1) (by decide) (by decide),Q_eq li (i:=2) (by decide),Q_ne li (i:=2) (by decide) n (j:=3) (by decide) (by decide),Q_ne li (i:=2) (by decide) n (j:=4) (by decide) (by decide),Q_ne li (i:=2) (by decide) n (j:=5) (by decide) (by decide)]
 split
 ·exact(h.sub2 hn).cong rfl rfl rfl rfl rfl rfl rfl rfl rfl rfl rfl rfl
 ·exact h.cong rfl rfl rfl rfl rfl rfl rfl rfl rfl rfl rfl rfl
theorem put2r (li:LI t T) (h:Iv D lc (Q T 1) (Q T 2++[n]) (Q T 3) (Q T 4) (Q T 5) T) (hn:(ln T 2).L.length<64):IvS D lc (Nw.tell T 2 n):=by
 unfold IvS
 rw[Q_ne li (i:=2) (by decide) n (j:=1) (by decide) (by decide),Q_eq li (i:=2) (by decide),Q_ne li (i:=2) (by decide) n (j:=3) (by decide) (by decide),Q_ne li (i:=2) (by decide) n (j:=4) (by decide) (by decide),Q_ne li (i:=2) (by decide) n (j:=5) (by decide) (by decide),if_neg (by omega)]
 exact h.cong rfl rfl rfl rfl rfl rfl rfl rfl rfl rfl rfl rfl
theorem put34 (li:LI t T) (h:Iv D lc (Q T 1) (Q T 2) (Q T 3++[n]) (Q T 4++[m]) (Q T 5) T):IvS D lc (Nw.tell (Nw.tell T 3 n) 4 m):=by
 refine put4 (li.tell (by decide) n) ?_
 rw[Q_ne li (i:=3) (by decide) n (j:=1) (by decide) (by decide),Q_ne li (i:=3) (by decide) n (j:=2) (by decide) (by decide),Q_eq li (i:=3) (by decide),Q_ne li (i:=3) (by decide) n (j:=4) (by decide) (by decide),Q_ne li (i:=3) (by decide) n (j:=5) (by decide) (by decide)]
 exact(h.sub (List.Sublist.refl _) (subS _ _ _) (List.Sublist.refl _) (List.Sublist.refl _)).cong rfl rfl rfl rfl rfl rfl rfl rfl rfl rfl rfl rfl
/-! the vehicle -/
theorem Iv.pop1 (h:Iv D lc (n::q1) q2 q3 q4 q5 S):Iv D lc q1 q2 q3 q4 q5 S:=h.sub (subC _ _) (List.Sublist.refl _) (List.Sublist.refl _) (List.Sublist.refl _)
theorem Iv.pop3 (h:Iv D lc q1 q2 (n::q3) q4 q5 S):Iv D lc q1 q2 q3 q4 q5 S:=h.sub (List.Sublist.refl _) (subC _ _) (List.Sublist.refl _) (List.Sublist.refl _)
theorem Iv.pop4 (h:Iv D lc q1 q2 q3 (n::q4) q5 S):Iv D lc q1 q2 q3 q4 q5 S:=h.sub (List.Sublist.refl _) (List.Sublist.refl _) (subC _ _) (List.Sublist.refl _)
theorem Iv.pop5 (h:Iv D lc q1 q2 q3 q4 (n::q5) S):Iv D lc q1 q2 q3 q4 q5 S:=h.sub (List.Sublist.refl _) (List.Sublist.refl _) (List.Sublist.refl _) (subC _ _)
theorem Iv.offered (h:Iv D lc q1 q2 q3 q4 q5 S):Iv D lc q1 q2 q3 q4 q5 (Nw.offered S n):=by
 unfold Nw.offered;split
 ·exact h.cong rfl rfl rfl rfl rfl rfl rfl rfl rfl rfl rfl rfl
 ·exact h
theorem Iv.rejected (h:Iv D lc q1 q2 q3 q4 q5 S):Iv D lc q1 q2 q3 q4 q5 (Nw.rejected S n):=by
 unfold Nw.rejected;split
 ·exact h.cong rfl rfl rfl rfl rfl rfl rfl rfl rfl rfl rfl rfl
 ·exact h
theorem Iv.billed (h:Iv D lc (n::q1) q2 q3 q4 q5 S) (hk:n.k=12):Iv D lc q1 q2 q3 q4 q5 (Nw.billed S n):=by
 have hb:=h.b1 n (by simp) hk
 exact{h.pop1 with
  vb:=fun e he=>by
   rcases mput_mem he with q|q
   ·subst q;exact⟨rfl,hb⟩
   ·exact h.vb e q}
/-! the station -/
theorem Iv.phase0 (h:Iv D lc q1 q2 q3 q4 q5 S) (hp:S.sph=0): ∀n∈q2,n.k=15:=by
 intro n hn
 rcases h.k2 n hn with q|q
 ·exact q
 ·omega
theorem Iv.tok0 (h:Iv D lc q1 q2 q3 q4 q5 S) (hp:S.sph≠1):ck 2 q2=0∧ck 6 q3=0∧ck 7 q3=0∧ck 3 q4=0∧ck 4 q5=0∧ck 5 q5=0:=by
 have:=h.tk
 rw[if_neg hp]at this
 omega
theorem Iv.newS (h:Iv D lc q1 q2 q3 q4 q5 S) (hp:S.sph=0) (hs:wr (S.sss+1)=S.sss+1) (h0:0≤D.sl) (a b c:Int):
 Iv D lc q1 (q2++[⟨2,wr (S.sss+1),a,b,c⟩]) q3 q4 q5 {S with sph:=1,sss:=wr (S.sss+1),sp0:=a,sp1:=c,gone:=false,si:=0,sk:=0,opn:=0,tks:=0}:=by
 obtain⟨t2,t6,t7,t3,t4,t5⟩:=h.tok0 (by omega)
 have h15:=h.phase0 hp
 have hop: ∀a∈S.ac,a.op=false:=fun a ha=>by
  cases ho:a.op with
  |false=>rfl
  |true=>exact absurd hp (h.op a ha ho).2.1
 rw[hs]
 refine⟨.inr (.inl rfl),?_,?_,?_,?_,?_,?_,?_,?_,h.nd,?_,?_,?_,h.cn,?_,fun _=>⟨rfl,rfl⟩,?_,?_,h.b3,h.b4,h.b1,h.vb,h.sb,h.pb,?_,?_,fun _=>⟨Int.le_refl _,h0⟩,?_,h.l3,h.po,h.cl⟩
 ·intro n hn
  rcases List.mem_append.1 hn with q|q
  ·exact .inl (h15 n q)
  ·obtain rfl:=List.mem_singleton.1 q
   exact .inr ⟨rfl,.inl ⟨rfl,rfl⟩⟩
 ·rw[List.pairwise_append]
  refine⟨h.f2,List.pairwise_singleton _ _,fun n hn m hm e=>?_⟩
  have:=h15 n hn
  omega
 ·rw[ck_app,t2,t6,t7,t3,t4,t5];simp
 ·intro n hn e
  rcases e with e|e
  ·exact absurd e (ck_zero t6 n hn)
  ·exact absurd e (ck_zero t7 n hn)
 ·intro n hn e;exact absurd e (ck_zero t3 n hn)
 ·intro n hn e
  rcases e with e|e
  ·exact absurd e (ck_zero t4 n hn)
  ·exact absurd e (ck_zero t5 n hn)
 ·intro n hn e a ha
  have:=h.al a ha
  show a.bl.s<S.sss+1
  omega
 ·intro n hn e;exact absurd e (ck_zero t7 n hn)
 ·intro a ha;have:=h.al a ha;show a.bl.s≤S.sss+1;omega
 ·intro a ha ho;rw[hop a ha]at ho;cases ho
 ·intro a ha hd e
  have:=h.al a ha
  have e2:a.bl.s=S.sss+1:=e
  omega
 ·intro a ha ho
  have:a.op=true:=ho
  rw[hop a ha]at this;cases this
 ·intro t ht
  exact h.c0 t (by have:S.sss+1<t:=ht;omega)
 ·intro _;exact h.c0 _ (by show S.sss<S.sss+1;omega)
 ·intro _
  have e1:ck 9 (q2++[(⟨2,S.sss+1,a,b,c⟩:Nt)])=0:=ck_none (fun n hn=>by
   rcases List.mem_append.1 hn with q|q
   ·have:=h15 n q;omega
   ·obtain rfl:=List.mem_singleton.1 q;exact(by decide:(2:Int)≠9))
  have e2:cs10 (S.sss+1) q3=0:=cs_none (fun n hn e=>by have:=h.o3 n hn e;omega)
  show((ck 9 (q2++[_]):Nat):Int)+(cs10 (S.sss+1) q3:Nat)≤0
  rw[e1,e2];decide
 ·intro n hn e;have:=h.o3 n hn e;show n.s≤S.sss+1;omega
 ·rw[ck_app,if_neg (by show¬(2:Int)=15;decide)];exact h.ld
theorem Iv.refused (h:Iv D lc q1 q2 (n::q3) q4 q5 S) (hk:n.k=7) (hp:S.sph=1) (m:Nt) (hm:m.k≠12):Iv D lc (q1++[m]) q2 q3 q4 q5 {S with sph:=0}:=by
 have htk:=h.tk
 rw[if_pos hp,ck_cons,ck_cons,if_neg (by omega),if_pos hk]at htk
 have g:=h.pop3
 have t2:ck 2 q2=0:=by omega
 have h15: ∀n∈q2,n.k=15:=fun n hn=>by
  have q2:=ck_zero t2 n hn
  rcases h.k2 n hn with q|q
  ·exact q
  ·omega
 exact{g with
  ph:=.inl rfl
  k2:=fun n hn=>.inl (h15 n hn)
  tk:=by
   show _≤if (0:Int)=1 then 1 else 0
   rw[if_neg (by omega)];omega
  op:=fun a ha ho=>by
   have e:=(h.op a ha ho).1
   have:=h.rf n (by simp) hk a ha e
   rw[this]at ho;cases ho
  dn:=fun a ha hd e=>absurd hp (h.dn a ha hd e).1
  si:=fun _=>h.si (by omega)
  c1:=fun e=>by cases e
  oo:=fun e=>by rcases e with e|e<;>cases e
  o1:=fun e=>by rcases e with e|e<;>cases e
  b1:=fun x hx e=>by
   rcases List.mem_append.1 hx with q|q
   ·exact h.b1 x q e
   ·obtain rfl:=List.mem_singleton.1 q
    exact absurd e hm}
theorem Iv.fin (h:Iv D lc q1 q2 q3 q4 q5 S) (hp:S.sph=1∨S.sph=2) (h1:ck 2 q2=0∧ck 6 q3=0∧ck 7 q3=0∧ck 3 q4=0∧ck 4 q5=0∧ck 5 q5=0):
 Iv D lc q1 (q2++[⟨11,S.sss,S.si,S.sk,S.now⟩]) q3 q4 q5 {S with si:=0,sk:=0,sph:=3}:=by
 obtain⟨t2,t6,t7,t3,t4,t5⟩:=h1
 have hk: ∀n∈q2,n.k=15∨(n.s=S.sss∧n.k=9):=fun n hn=>by
  have q2:=ck_zero t2 n hn
  rcases h.k2 n hn with q|q
  ·exact .inl q
  ·rcases q with ⟨e,q⟩
   exact .inr ⟨e,by omega⟩
 exact{h with
  ph:=.inr (.inr (.inr rfl))
  k2:=fun n hn=>by
   rcases List.mem_append.1 hn with q|q
   ·rcases hk n q with e|⟨e,e2⟩
    ·exact .inl e
    ·exact .inr ⟨e,.inr (.inr ⟨rfl,.inl e2⟩)⟩
   ·obtain rfl:=List.mem_singleton.1 q
    exact .inr ⟨rfl,.inr (.inr ⟨rfl,.inr rfl⟩)⟩
  f2:=by
   rw[List.pairwise_append]
   refine⟨h.f2,List.pairwise_singleton _ _,fun n hn m hm e=>?_⟩
   have:=hk n hn
   omega
  tk:=by
   show _≤if (3:Int)=1 then 1 else 0
   rw[ck_app,t2,t6,t7,t3,t4,t5,if_neg (by show¬(11:Int)=2;decide)];decide
  au:=fun n hn e=>by
   rcases List.mem_append.1 hn with q|q
   ·exact absurd e (ck_zero t2 n q)
   ·obtain rfl:=List.mem_singleton.1 q
    cases e
  op:=fun a ha ho=>⟨(h.op a ha ho).1,by show(3:Int)≠0;decide,(h.op a ha ho).2.2⟩
  dn:=fun a ha hd e=>by
   have:=h.dn a ha hd e
   rcases hp with q|q
   ·exact absurd q this.1
   ·exact absurd q this.2.1
  ba:=fun a ha ho=>by
   have:=h.ba a ha ho
   show wr (a.bl.i+sA (q2++[_])+0)=_∧wr (a.bl.b+sB (q2++[_])+0)=_
   rw[sA_app,sB_app,if_pos (.inr rfl),if_pos (.inr rfl),Int.add_zero,Int.add_zero,←Int.add_assoc,←Int.add_assoc]
   exact this
  si:=fun _=>⟨rfl,rfl⟩
  c1:=fun e=>by cases e
  oo:=fun e=>by rcases e with e|e<;>cases e
  o1:=fun e=>by rcases e with e|e<;>cases e
  ld:=by rw[ck_app,if_neg (by show¬(11:Int)=15;decide)];exact h.ld}
theorem Iv.started (h:Iv D lc q1 q2 (n::q3) q4 q5 S) (hk:n.k=6) (hp:S.sph=1) (m:Nt) (hm:m.k≠12):Iv D lc (q1++[m]) q2 q3 q4 q5 {S with sph:=2,tks:=0}:=by
 have htk:=h.tk
 rw[if_pos hp,ck_cons,ck_cons,if_pos hk,if_neg (by omega)]at htk
 have g:=h.pop3
 have t2:ck 2 q2=0:=by omega
 have h15: ∀n∈q2,n.k=15:=fun n hn=>by
  have q2:=ck_zero t2 n hn
  rcases h.k2 n hn with q|q
  ·exact q
  ·omega
 exact{g with
  ph:=.inr (.inr (.inl rfl))
  k2:=fun n hn=>.inl (h15 n hn)
  tk:=by
   show _≤if (2:Int)=1 then 1 else 0
   rw[if_neg (by omega)];omega
  op:=fun a ha ho=>⟨(h.op a ha ho).1,by show(2:Int)≠0;decide,(h.op a ha ho).2.2⟩
  dn:=fun a ha hd e=>absurd hp (h.dn a ha hd e).1
  si:=fun e=>absurd rfl e
  c1:=fun e=>by cases e
  oo:=fun _=>g.oo (.inl hp)
  o1:=fun _=>h.o1 (.inl hp)
  b1:=fun x hx e=>by
   rcases List.mem_append.1 hx with q|q
   ·exact h.b1 x q e
   ·obtain rfl:=List.mem_singleton.1 q
    exact absurd e hm}
theorem Iv.acked (h:Iv D lc q1 q2 (n::q3) q4 q5 S) (hk:n.k=10) (hp:S.sph=2) (hs:S.sss=n.s) (hsl:D.sl≤1000):Iv D lc q1 q2 q3 q4 q5 {S with opn:=max 0 (wr (S.opn-1))}:=by
 have g:=h.pop3
 have ho:=h.o1 (.inr hp)
 have e:wr (S.opn-1)=S.opn-1:=wr_in (by omega)
 exact{g with
  oo:=fun _=>by
   have:=h.oo (.inr hp)
   rw[cs_cons,if_pos ⟨hk,hs.symm⟩]at this
   show((ck 9 q2:Nat):Int)+(cs10 S.sss q3:Nat)≤max 0 (wr (S.opn-1))
   rw[e];omega
  o1:=fun _=>by
   show 0≤max 0 (wr (S.opn-1))∧max 0 (wr (S.opn-1))≤D.sl
   rw[e];omega}
theorem Iv.closed (h:Iv D lc q1 q2 (n::q3) q4 q5 S) (hk:n.k=12) (hp:S.sph=3) (hs:S.sss=n.s):Iv D lc (q1++[n]) q2 q3 q4 q5 {S with sb:=mput n.s (billOf n) S.sb,sph:=0}:=by
 have g:=h.pop3
 have hb:=h.b3 n (by simp) hk
 obtain⟨a0,ha0,hd0,he0⟩:=hb
 have es:a0.bl.s=S.sss:=by rw[he0,hs];rfl
 have h15:=(h.dn a0 ha0 hd0 es).2.2
 have htk:=g.tok0 (by omega)
 exact{g with
  ph:=.inl rfl
  k2:=fun n hn=>.inl (h15 n hn)
  tk:=by
   show _≤if (0:Int)=1 then 1 else 0
   rw[if_neg (by omega)];omega
  op:=fun a ha ho=>by
   have e:=h.op a ha ho
   have:=nd_eq h.nd ha ha0 (e.1.trans es.symm)
   subst this
   rw[e.2.2]at hd0;cases hd0
  dn:=fun a ha hd e=>⟨by show(0:Int)≠1;decide,by show(0:Int)≠2;decide,h15⟩
  si:=fun _=>h.si (by omega)
  c1:=fun e=>by cases e
  oo:=fun e=>by rcases e with e|e<;>cases e
  o1:=fun e=>by rcases e with e|e<;>cases e
  b1:=fun x hx e=>by
   rcases List.mem_append.1 hx with q|q
   ·exact h.b1 x q e
   ·obtain rfl:=List.mem_singleton.1 q
    exact⟨a0,ha0,hd0,he0⟩
  sb:=fun e he=>by
   rcases mput_mem he with q|q
   ·subst q;exact⟨rfl,a0,ha0,hd0,he0⟩
   ·exact h.sb e q}
theorem Iv.leased (h:Iv D lc q1 q2 (n::q3) q4 q5 S) (hk:n.k=14) (m:Nt) (hm:m.k=15):Iv D lc q1 (q2++[m]) q3 q4 q5 {S with po:=Po.tk S.po ⟨n.s,n.a,n.b,n.c⟩}:=by
 have g:=h.pop3
 have hl:=h.l3 n (by simp) hk
 exact{g with
  k2:=fun x hx=>by
   rcases List.mem_append.1 hx with q|q
   ·exact h.k2 x q
   ·obtain rfl:=List.mem_singleton.1 q
    exact .inl hm
  f2:=by
   rw[List.pairwise_append]
   refine⟨h.f2,List.pairwise_singleton _ _,fun x hx y hy e=>?_⟩
   obtain rfl:=List.mem_singleton.1 hy
   exact hm
  tk:=by have:=g.tk;rw[ck_app,if_neg (by omega)];exact this
  au:=fun x hx e=>by
   rcases List.mem_append.1 hx with q|q
   ·exact h.au x q e
   ·obtain rfl:=List.mem_singleton.1 q
    omega
  dn:=fun a ha hd e=>by
   have:=h.dn a ha hd e
   refine⟨this.1,this.2.1,fun x hx=>?_⟩
   rcases List.mem_append.1 hx with q|q
   ·exact this.2.2 x q
   ·obtain rfl:=List.mem_singleton.1 q
    exact hm
  ba:=fun a ha ho=>by
   have:=h.ba a ha ho
   rw[sA_app,sB_app,if_neg (by omega),if_neg (by omega),Int.add_zero,Int.add_zero]
   exact this
  oo:=fun e=>by have:=g.oo e;rw[ck_app,if_neg (by omega)];exact this
  ld:=by have:=h.ld;rw[ck_cons,if_pos hk]at this;rw[ck_app,if_pos hm];omega
  po:=by
   show(0≤(Po.tk S.po ⟨n.s,n.a,n.b,n.c⟩).d∧(Po.tk S.po ⟨n.s,n.a,n.b,n.c⟩).d≤D.dr)∧0≤(Po.tk S.po ⟨n.s,n.a,n.b,n.c⟩).b∧(Po.tk S.po ⟨n.s,n.a,n.b,n.c⟩).b≤D.bk
   unfold Po.tk
   split
   ·exact hl
   ·exact h.po}
end Bq
end Go.Proofs.YtlklnaebdnahcaaGreat
namespace Go.Proofs.YtlklnaebdnahcaaGreat
open Go.RowKit Nw
namespace Bq
variable {D:Dl} {lc t:Int} {q1 q2 q3 q4 q5:List Nt} {S T:St} {n m:Nt}
theorem Iv.pop15 (h:Iv D lc q1 (n::q2) q3 q4 q5 S) (hk:n.k=15):Iv D lc q1 q2 q3 q4 q5 S:=
 {h with
  k2:=fun x hx=>h.k2 x (by simp[hx])
  f2:=(List.pairwise_cons.1 h.f2).2
  tk:=by have:=h.tk;rw[ck_cons,if_neg (by omega)]at this;exact this
  au:=fun x hx=>h.au x (by simp[hx])
  dn:=fun a ha hd e=>by have:=h.dn a ha hd e;exact⟨this.1,this.2.1,fun x hx=>this.2.2 x (by simp[hx])⟩
  ba:=fun a ha ho=>by
   have:=h.ba a ha ho
   unfold sA sB at this
   rw[if_neg (by omega),if_neg (by omega),Int.zero_add,Int.zero_add]at this
   exact this
  oo:=fun e=>by have:=h.oo e;rw[ck_cons,if_neg (by omega)]at this;exact this
  ld:=by have:=h.ld;rw[ck_cons,if_pos hk]at this;omega}
theorem Iv.auth (h:Iv D lc q1 (n::q2) q3 q4 q5 S) (hk:n.k=2):S.sph=1∧n.s=S.sss∧(∀a∈S.ac,a.bl.s<S.sss)∧(ck 2 q2=0∧ck 6 q3=0∧ck 7 q3=0∧ck 3 q4=0∧ck 4 q5=0∧ck 5 q5=0)∧ ∀m∈q2,m.k=15:=by
 have h2:=h.k2 n (by simp)
 have h1:S.sph=1∧n.s=S.sss:=by
  rcases h2 with q|⟨e,q⟩
  ·omega
  ·exact⟨by omega,e⟩
 have ht:=h.tk
 rw[if_pos h1.1,ck_cons,if_pos hk]at ht
 refine⟨h1.1,h1.2,h.au n (by simp) hk,by omega,fun m hm=>?_⟩
 have t2:ck 2 q2=0:=by omega
 have:=ck_zero t2 m hm
 rcases h.k2 m (by simp[hm])with q|q
 ·exact q
 ·omega
theorem Iv.askedN (h:Iv D lc q1 (n::q2) q3 q4 q5 S) (hk:n.k=2):Iv D lc q1 q2 (q3++[⟨7,n.s,0,0,0⟩]) q4 q5 S:=by
 obtain⟨hp,hs,hau,⟨t2,t6,t7,t3,t4,t5⟩,h15⟩:=h.auth hk
 exact{h with
  k2:=fun x hx=>.inl (h15 x hx)
  f2:=(List.pairwise_cons.1 h.f2).2
  tk:=by rw[if_pos hp,ck_app,ck_app,t2,t6,t7,t3,t4,t5,if_neg (by show¬(7:Int)=6;decide),if_pos rfl];decide
  t3:=fun x hx e=>by
   rcases List.mem_append.1 hx with q|q
   ·exact h.t3 x q e
   ·obtain rfl:=List.mem_singleton.1 q;exact hs
  au:=fun x hx e=>by have:=h15 x hx;omega
  rf:=fun x hx e a ha es=>by have:=hau a ha;omega
  dn:=fun a ha hd e=>absurd hp (h.dn a ha hd e).1
  ba:=fun a ha ho=>by have:=hau a ha;have:=(h.op a ha ho).1;omega
  b3:=fun x hx e=>by
   rcases List.mem_append.1 hx with q|q
   ·exact h.b3 x q e
   ·obtain rfl:=List.mem_singleton.1 q;cases e
  oo:=fun e=>by
   have:=h.oo e
   rw[ck_cons,if_neg (by omega)]at this
   rw[cs_app,if_neg (by show¬((7:Int)=10∧_);omega)]
   exact this
  o3:=fun x hx e=>by
   rcases List.mem_append.1 hx with q|q
   ·exact h.o3 x q e
   ·obtain rfl:=List.mem_singleton.1 q;cases e
  ld:=by
   have:=h.ld
   rw[ck_cons,if_neg (by omega)]at this
   rw[ck_app,if_neg (by show¬(7:Int)=14;decide)]
   exact this
  l3:=fun x hx e=>by
   rcases List.mem_append.1 hx with q|q
   ·exact h.l3 x q e
   ·obtain rfl:=List.mem_singleton.1 q;cases e}
theorem Iv.askedY (h:Iv D lc q1 (n::q2) q3 q4 q5 S) (hk:n.k=2) (fee:Int) (us:List ((Int×Int)×Bool)):Iv D lc q1 q2 q3 (q4++[⟨3,n.s,n.a,0,0⟩]) q5 {S with us:=us,ac:=S.ac++[⟨⟨n.s,0,0,fee⟩,true,false⟩]}:=by
 obtain⟨hp,hs,hau,⟨t2,t6,t7,t3,t4,t5⟩,h15⟩:=h.auth hk
 have hz:=s_none (l:=q2) (fun x hx=>by have:=h15 x hx;omega)
 have hm: ∀a∈S.ac++[(⟨⟨n.s,0,0,fee⟩,true,false⟩:Ac)],a∈S.ac∨a=⟨⟨n.s,0,0,fee⟩,true,false⟩:=fun a ha=>by
  rcases List.mem_append.1 ha with q|q
  ·exact .inl q
  ·exact .inr (List.mem_singleton.1 q)
 exact{h with
  k2:=fun x hx=>.inl (h15 x hx)
  f2:=(List.pairwise_cons.1 h.f2).2
  tk:=by show _≤if S.sph=1 then 1 else 0;rw[if_pos hp,ck_app,t2,t6,t7,t3,t4,t5,if_pos rfl];decide
  t4:=fun x hx e=>by
   rcases List.mem_append.1 hx with q|q
   ·exact h.t4 x q e
   ·obtain rfl:=List.mem_singleton.1 q;exact hs
  au:=fun x hx e=>by have:=h15 x hx;omega
  rf:=fun x hx e=>absurd e (ck_zero t7 x hx)
  nd:=by
   show(S.ac++[_]).Pairwise _
   rw[List.pairwise_append]
   refine⟨h.nd,List.pairwise_singleton _ _,fun a ha b hb=>?_⟩
   obtain rfl:=List.mem_singleton.1 hb
   have:=hau a ha
   show a.bl.s≠n.s
   omega
  al:=fun a ha=>by
   rcases hm a ha with q|q
   ·exact h.al a q
   ·subst q;show n.s≤S.sss;omega
  op:=fun a ha ho=>by
   rcases hm a ha with q|q
   ·exact h.op a q ho
   ·subst q;exact⟨hs,by show S.sph≠0;omega,rfl⟩
  dn:=fun a ha hd e=>by
   rcases hm a ha with q|q
   ·exact absurd hp (h.dn a q hd e).1
   ·subst q;cases hd
  cn:=fun a ha hd=>by
   rcases hm a ha with q|q
   ·exact h.cn a q hd
   ·subst q;cases hd
  ba:=fun a ha ho=>by
   rcases hm a ha with q|q
   ·have:=hau a q;have:=(h.op a q ho).1;omega
   ·subst q
    have e1:=h.c1 hp
    have e2:=h.si (by omega)
    show wr (0+sA q2+S.si)=(Nw.count S S.sss).i∧wr (0+sB q2+S.sk)=(Nw.count S S.sss).b
    rw[e1,hz.1,hz.2,e2.1,e2.2]
    exact⟨wr_in (by decide),wr_in (by decide)⟩
  b3:=fun x hx e=>(h.b3 x hx e).app _
  b4:=fun x hx e=>by
   rcases List.mem_append.1 hx with q|q
   ·exact(h.b4 x q e).app _
   ·obtain rfl:=List.mem_singleton.1 q;cases e
  b1:=fun x hx e=>(h.b1 x hx e).app _
  vb:=fun e he=>⟨(h.vb e he).1,(h.vb e he).2.app _⟩
  sb:=fun e he=>⟨(h.sb e he).1,(h.sb e he).2.app _⟩
  pb:=fun e he=>⟨(h.pb e he).1,(h.pb e he).2.app _⟩
  oo:=fun e=>by
   have:=h.oo e
   rw[ck_cons,if_neg (by omega)]at this
   exact this
  ld:=by
   have:=h.ld
   rw[ck_cons,if_neg (by omega)]at this
   exact this}
theorem Iv.recN (h:Iv D lc q1 (n::q2) q3 q4 q5 S) (hk:n.k=9∨n.k=11) (hf:fnd n.s S.ac=none):Iv D lc q1 q2 q3 q4 q5 S:=by
 have hs:n.s=S.sss:=by
  rcases h.k2 n (by simp)with q|q
  ·omega
  ·exact q.1
 have hno:=fnd_none hf
 exact{h with
  k2:=fun x hx=>h.k2 x (by simp[hx])
  f2:=(List.pairwise_cons.1 h.f2).2
  tk:=by have:=h.tk;rw[ck_cons,if_neg (by omega)]at this;exact this
  au:=fun x hx=>h.au x (by simp[hx])
  dn:=fun a ha hd e=>by have:=h.dn a ha hd e;exact⟨this.1,this.2.1,fun x hx=>this.2.2 x (by simp[hx])⟩
  ba:=fun a ha ho=>by
   have:=hno a ha (by rw[hs];exact(h.op a ha ho).1)
   rw[this]at ho;cases ho
  oo:=fun e=>by have:=h.oo e;rw[ck_cons]at this;omega
  ld:=by have:=h.ld;rw[ck_cons,if_neg (by omega)]at this;omega}
theorem wr_go (a b c d:Int):wr (wr (a+b)+c+d)=wr (a+(b+c)+d):=by unfold wr RowKit.wrap64;omega
theorem Iv.rec9 (h:Iv D lc q1 (n::q2) q3 q4 q5 S) (hk:n.k=9) {j:Nat} (hf:fnd n.s S.ac=some j) (x:Ac) (hx:x=acAdd D n (S.ac.getD j default)):
 Iv D lc q1 q2 (q3++[⟨10,n.s,0,0,0⟩]) q4 q5 {S with ac:=S.ac.set j x}:=by
 obtain⟨hj,js,jo,jm⟩:=fnd_some hf
 have jop:=h.op _ jm jo
 have hs:n.s=S.sss:=js.symm.trans jop.1
 have hsx:x.bl.s=(S.ac.getD j default).bl.s:=by rw[hx];rfl
 have hox:x.op=true:=by rw[hx];exact jo
 have hdx:x.dn=false:=by rw[hx];exact jop.2.2
 have hm: ∀a∈S.ac.set j x,a=x∨(a∈S.ac∧a.bl.s≠S.sss):=fun a ha=>by
  rcases mem_set hj ha h.nd with q|q
  ·exact .inl q
  ·exact .inr ⟨q.1,by rw[←jop.1];exact q.2⟩
 exact{h with
  k2:=fun x hx=>h.k2 x (by simp[hx])
  f2:=(List.pairwise_cons.1 h.f2).2
  tk:=by
   have:=h.tk
   rw[ck_cons,if_neg (by omega)]at this
   rw[ck_app,ck_app,if_neg (by show¬(10:Int)=6;decide),if_neg (by show¬(10:Int)=7;decide)]
   exact this
  t3:=fun y hy e=>by
   rcases List.mem_append.1 hy with q|q
   ·exact h.t3 y q e
   ·obtain rfl:=List.mem_singleton.1 q;rcases e with e|e<;>cases e
  au:=fun y hy e a ha=>by
   have:=h.au y (by simp[hy]) e _ jm
   omega
  rf:=fun y hy e a ha ea=>by
   rcases List.mem_append.1 hy with q|q
   ·have:=h.rf y q e _ jm jop.1
    rw[jo]at this;cases this
   ·obtain rfl:=List.mem_singleton.1 q;cases e
  nd:=nd_set hj hsx h.nd
  al:=fun a ha=>by
   rcases hm a ha with q|q
   ·subst q;show a.bl.s≤S.sss;rw[hsx];exact h.al _ jm
   ·exact h.al a q.1
  op:=fun a ha ho=>by
   rcases hm a ha with q|q
   ·subst q;exact⟨hsx.trans jop.1,jop.2.1,hdx⟩
   ·exact h.op a q.1 ho
  dn:=fun a ha hd e=>by
   rcases hm a ha with q|q
   ·subst q;rw[hdx]at hd;cases hd
   ·exact absurd e q.2
  cn:=fun a ha hd=>by
   rcases hm a ha with q|q
   ·subst q;rw[hdx]at hd;cases hd
   ·exact h.cn a q.1 hd
  ba:=fun a ha ho=>by
   rcases hm a ha with q|q
   ·subst q
    have:=h.ba _ jm jo
    unfold sA sB at this
    rw[if_pos (.inl hk),if_pos (.inl hk)]at this
    show wr (a.bl.i+sA q2+S.si)=(Nw.count S S.sss).i∧wr (a.bl.b+sB q2+S.sk)=(Nw.count S S.sss).b
    rw[hx]
    show wr (wr ((S.ac.getD j default).bl.i+n.a)+sA q2+S.si)=_∧wr (wr ((S.ac.getD j default).bl.b+n.b)+sB q2+S.sk)=_
    rw[wr_go,wr_go]
    exact this
   ·exact absurd (h.op a q.1 ho).1 q.2
  b3:=fun y hy e=>by
   rcases List.mem_append.1 hy with q|q
   ·exact(h.b3 y q e).set hj jop.2.2 x
   ·obtain rfl:=List.mem_singleton.1 q;cases e
  b4:=fun y hy e=>(h.b4 y hy e).set hj jop.2.2 x
  b1:=fun y hy e=>(h.b1 y hy e).set hj jop.2.2 x
  vb:=fun e he=>⟨(h.vb e he).1,(h.vb e he).2.set hj jop.2.2 x⟩
  sb:=fun e he=>⟨(h.sb e he).1,(h.sb e he).2.set hj jop.2.2 x⟩
  pb:=fun e he=>⟨(h.pb e he).1,(h.pb e he).2.set hj jop.2.2 x⟩
  oo:=fun e=>by
   have:=h.oo e
   rw[ck_cons,if_pos hk]at this
   rw[cs_app]
   show((ck 9 q2:Nat):Int)+((cs10 S.sss q3+if _ then 1 else 0:Nat):Int)≤S.opn
   split<;>omega
  o3:=fun y hy e=>by
   rcases List.mem_append.1 hy with q|q
   ·exact h.o3 y q e
   ·obtain rfl:=List.mem_singleton.1 q;show n.s≤S.sss;omega
  ld:=by
   have:=h.ld
   rw[ck_cons,if_neg (by omega)]at this
   rw[ck_app,if_neg (by show¬(10:Int)=14;decide)]
   exact this
  l3:=fun y hy e=>by
   rcases List.mem_append.1 hy with q|q
   ·exact h.l3 y q e
   ·obtain rfl:=List.mem_singleton.1 q;cases e}
theorem Iv.rec11 (h:Iv D lc q1 (n::q2) q3 q4 q5 S) (hk:n.k=11) {j:Nat} (hf:fnd n.s S.ac=some j) (x:Ac) (hx:x=acEnd (acAdd D n (S.ac.getD j default))) (m:Nt) (hm:m=acBill (acAdd D n (S.ac.getD j default))):
 Iv D lc q1 q2 (q3++[m]) (q4++[m]) q5 {S with ac:=S.ac.set j x}:=by
 obtain⟨hj,js,jo,jm⟩:=fnd_some hf
 have jop:=h.op _ jm jo
 have hs:n.s=S.sss:=js.symm.trans jop.1
 have hsx:x.bl.s=(S.ac.getD j default).bl.s:=by rw[hx];rfl
 have hox:x.op=false:=by rw[hx];rfl
 have hdx:x.dn=true:=by rw[hx];rfl
 have hmk:m.k=12:=by rw[hm];rfl
 have hxm:x∈S.ac.set j x:=by
  rw[List.mem_iff_getElem?]
  exact⟨j,by rw[List.getElem?_set_self hj]⟩
 have hmb:Bill (S.ac.set j x) (billOf m):=⟨x,hxm,hdx,by rw[hx,hm];rfl⟩
 have h15: ∀y∈q2,y.k=15:=fun y hy=>(List.pairwise_cons.1 h.f2).1 y hy hk
 have hp:S.sph=3:=by
  rcases h.k2 n (by simp)with q|q
  ·omega
  ·omega
 have hz:=s_none (l:=q2) (fun x hx=>by have:=h15 x hx;omega)
 have hsi:=h.si (by omega)
 have hba:=h.ba _ jm jo
 unfold sA sB at hba
 rw[if_pos (.inr hk),if_pos (.inr hk),hz.1,hz.2,hsi.1,hsi.2,Int.add_zero,Int.add_zero,Int.add_zero,Int.add_zero]at hba
 have hmm: ∀a∈S.ac.set j x,a=x∨(a∈S.ac∧a.bl.s≠S.sss):=fun a ha=>by
  rcases mem_set hj ha h.nd with q|q
  ·exact .inl q
  ·exact .inr ⟨q.1,by rw[←jop.1];exact q.2⟩
 exact{h with
  k2:=fun x hx=>.inl (h15 x hx)
  f2:=(List.pairwise_cons.1 h.f2).2
  tk:=by
   have:=h.tk
   rw[ck_cons,if_neg (by omega)]at this
   rw[ck_app,ck_app,ck_app,if_neg (by omega),if_neg (by omega),if_neg (by omega)]
   exact this
  t3:=fun y hy e=>by
   rcases List.mem_append.1 hy with q|q
   ·exact h.t3 y q e
   ·obtain rfl:=List.mem_singleton.1 q;omega
  t4:=fun y hy e=>by
   rcases List.mem_append.1 hy with q|q
   ·exact h.t4 y q e
   ·obtain rfl:=List.mem_singleton.1 q;omega
  au:=fun y hy e=>by have:=h15 y hy;omega
  rf:=fun y hy e a ha ea=>by
   rcases List.mem_append.1 hy with q|q
   ·have:=h.rf y q e _ jm jop.1
    rw[jo]at this;cases this
   ·obtain rfl:=List.mem_singleton.1 q;omega
  nd:=nd_set hj hsx h.nd
  al:=fun a ha=>by
   rcases hmm a ha with q|q
   ·subst q;show a.bl.s≤S.sss;rw[hsx];exact h.al _ jm
   ·exact h.al a q.1
  op:=fun a ha ho=>by
   rcases hmm a ha with q|q
   ·subst q;rw[hox]at ho;cases ho
   ·exact h.op a q.1 ho
  dn:=fun a ha hd e=>⟨by show S.sph≠1;omega,by show S.sph≠2;omega,h15⟩
  cn:=fun a ha hd=>by
   rcases hmm a ha with q|q
   ·subst q
    show(Nw.count S a.bl.s).i=a.bl.i∧(Nw.count S a.bl.s).b=a.bl.b
    rw[hsx,jop.1,←hba.1,←hba.2,hx]
    exact⟨rfl,rfl⟩
   ·exact h.cn a q.1 hd
  ba:=fun a ha ho=>by
   rcases hmm a ha with q|q
   ·subst q
    have ho2:a.op=true:=ho
    rw[hox]at ho2;cases ho2
   ·exact absurd (h.op a q.1 ho).1 q.2
  b3:=fun y hy e=>by
   rcases List.mem_append.1 hy with q|q
   ·exact(h.b3 y q e).set hj jop.2.2 x
   ·obtain rfl:=List.mem_singleton.1 q;exact hmb
  b4:=fun y hy e=>by
   rcases List.mem_append.1 hy with q|q
   ·exact(h.b4 y q e).set hj jop.2.2 x
   ·obtain rfl:=List.mem_singleton.1 q;exact hmb
  b1:=fun y hy e=>(h.b1 y hy e).set hj jop.2.2 x
  vb:=fun e he=>⟨(h.vb e he).1,(h.vb e he).2.set hj jop.2.2 x⟩
  sb:=fun e he=>⟨(h.sb e he).1,(h.sb e he).2.set hj jop.2.2 x⟩
  pb:=fun e he=>⟨(h.pb e he).1,(h.pb e he).2.set hj jop.2.2 x⟩
  oo:=fun e=>by have e2:S.sph=1∨S.sph=2:=e;omega
  o3:=fun y hy e=>by
   rcases List.mem_append.1 hy with q|q
   ·exact h.o3 y q e
   ·obtain rfl:=List.mem_singleton.1 q;omega
  ld:=by
   have:=h.ld
   rw[ck_cons,if_neg (by omega)]at this
   rw[ck_app,if_neg (by omega)]
   exact this
  l3:=fun y hy e=>by
   rcases List.mem_append.1 hy with q|q
   ·exact h.l3 y q e
   ·obtain rfl:=List.mem_singleton.1 q;omega}
theorem Iv.q3app (h:Iv D lc q1 q2 q3 q4 q5 S) (m:Nt) (hm:m.k=6∨m.k=7∨m.k=13) (htk:ck 2 q2+ck 6 (q3++[m])+ck 7 (q3++[m])+ck 3 q4+ck 4 q5+ck 5 q5≤if S.sph=1 then 1 else 0) (hs:m.k=6∨m.k=7→m.s=S.sss) (hr:m.k=7→ ∀a∈S.ac,a.bl.s=S.sss→a.op=false):
 Iv D lc q1 q2 (q3++[m]) q4 q5 S:=
 {h with
  tk:=htk
  t3:=fun y hy e=>by
   rcases List.mem_append.1 hy with q|q
   ·exact h.t3 y q e
   ·obtain rfl:=List.mem_singleton.1 q;exact hs e
  rf:=fun y hy e=>by
   rcases List.mem_append.1 hy with q|q
   ·exact h.rf y q e
   ·obtain rfl:=List.mem_singleton.1 q;exact hr e
  b3:=fun y hy e=>by
   rcases List.mem_append.1 hy with q|q
   ·exact h.b3 y q e
   ·obtain rfl:=List.mem_singleton.1 q;omega
  oo:=fun e=>by
   have:=h.oo e
   rw[cs_app,if_neg (by omega)]
   exact this
  o3:=fun y hy e=>by
   rcases List.mem_append.1 hy with q|q
   ·exact h.o3 y q e
   ·obtain rfl:=List.mem_singleton.1 q;omega
  ld:=by
   have:=h.ld
   rw[ck_app,if_neg (by omega)]
   exact this
  l3:=fun y hy e=>by
   rcases List.mem_append.1 hy with q|q
   ·exact h.l3 y q e
   ·obtain rfl:=List.mem_singleton.1 q;omega}
theorem Iv.approved (h:Iv D lc q1 q2 q3 q4 (n::q5) S) (hk:n.k=4):Iv D lc q1 q2 (q3++[⟨6,n.s,0,0,0⟩]) q4 q5 S:=
 h.pop5.q3app _ (.inl rfl) (by
  have:=h.tk
  rw[ck_cons,ck_cons,if_pos hk,if_neg (by omega)]at this
  rw[ck_app,ck_app,if_pos rfl,if_neg (by show¬(6:Int)=7;decide)]
  omega) (fun _=>h.t5 n (by simp) (.inl hk)) (fun e=>by cases e)
theorem Iv.shut (h:Iv D lc q1 q2 q3 q4 q5 S) {s:Int} {j:Nat} (hf:fnd s S.ac=some j):Iv D lc q1 q2 q3 q4 q5 {S with ac:=S.ac.set j {S.ac.getD j default with op:=false}}∧ ∀a∈S.ac.set j {S.ac.getD j default with op:=false},a.op=false:=by
 obtain⟨hj,js,jo,jm⟩:=fnd_some hf
 have jop:=h.op _ jm jo
 generalize hx:({S.ac.getD j default with op:=false}:Ac)=x
 have hsx:x.bl.s=(S.ac.getD j default).bl.s:=by rw[←hx]
 have hox:x.op=false:=by rw[←hx]
 have hdx:x.dn=false:=by rw[←hx];exact jop.2.2
 have hm: ∀a∈S.ac.set j x,a=x∨(a∈S.ac∧a.bl.s≠S.sss):=fun a ha=>by
  rcases mem_set hj ha h.nd with q|q
  ·exact .inl q
  ·exact .inr ⟨q.1,by rw[←jop.1];exact q.2⟩
 have hno: ∀a∈S.ac.set j x,a.op=false:=fun a ha=>by
  rcases hm a ha with q|q
  ·rw[q];exact hox
  ·cases ho:a.op with
   |false=>rfl
   |true=>exact absurd (h.op a q.1 ho).1 q.2
 refine⟨{h with
  au:=fun y hy e a ha=>by
   rcases hm a ha with q|q
   ·subst q;show a.bl.s<S.sss;rw[hsx];exact h.au y hy e _ jm
   ·exact h.au y hy e a q.1
  rf:=fun y hy e a ha ea=>hno a ha
  nd:=nd_set hj hsx h.nd
  al:=fun a ha=>by
   rcases hm a ha with q|q
   ·subst q;show a.bl.s≤S.sss;rw[hsx];exact h.al _ jm
   ·exact h.al a q.1
  op:=fun a ha ho=>by
   have ho2:a.op=true:=ho
   rw[hno a ha]at ho2;cases ho2
  dn:=fun a ha hd e=>by
   rcases hm a ha with q|q
   ·subst q;rw[hdx]at hd;cases hd
   ·exact absurd e q.2
  cn:=fun a ha hd=>by
   rcases hm a ha with q|q
   ·subst q;rw[hdx]at hd;cases hd
   ·exact h.cn a q.1 hd
  ba:=fun a ha ho=>by
   have ho2:a.op=true:=ho
   rw[hno a ha]at ho2;cases ho2
  b3:=fun y hy e=>(h.b3 y hy e).set hj jop.2.2 x
  b4:=fun y hy e=>(h.b4 y hy e).set hj jop.2.2 x
  b1:=fun y hy e=>(h.b1 y hy e).set hj jop.2.2 x
  vb:=fun e he=>⟨(h.vb e he).1,(h.vb e he).2.set hj jop.2.2 x⟩
  sb:=fun e he=>⟨(h.sb e he).1,(h.sb e he).2.set hj jop.2.2 x⟩
  pb:=fun e he=>⟨(h.pb e he).1,(h.pb e he).2.set hj jop.2.2 x⟩},hno⟩
theorem Iv.deniedN (h:Iv D lc q1 q2 q3 q4 (n::q5) S) (hk:n.k=5) (hf:fnd n.s S.ac=none):Iv D lc q1 q2 (q3++[⟨7,n.s,0,0,0⟩]) q4 q5 S:=
 have hs:=h.t5 n (by simp) (.inr hk)
 h.pop5.q3app _ (.inr (.inl rfl)) (by
  have:=h.tk
  rw[ck_cons,ck_cons,if_pos hk,if_neg (by omega)]at this
  rw[ck_app,ck_app,if_pos rfl,if_neg (by show¬(7:Int)=6;decide)]
  omega) (fun _=>hs) (fun _ a ha e=>fnd_none hf a ha (e.trans hs.symm))
theorem Iv.deniedY (h:Iv D lc q1 q2 q3 q4 (n::q5) S) (hk:n.k=5) {j:Nat} (hf:fnd n.s S.ac=some j):Iv D lc q1 q2 (q3++[⟨7,n.s,0,0,0⟩]) q4 q5 {S with ac:=S.ac.set j {S.ac.getD j default with op:=false}}:=
 have hs:=h.t5 n (by simp) (.inr hk)
 (h.pop5.shut hf).1.q3app _ (.inr (.inl rfl)) (by
   have:=h.tk
   rw[ck_cons,ck_cons,if_pos hk,if_neg (by omega)]at this
   rw[ck_app,ck_app,if_pos rfl,if_neg (by show¬(7:Int)=6;decide)]
   show _≤if S.sph=1 then 1 else 0
   omega) (fun _=>hs) (fun _ a ha e=>(h.pop5.shut hf).2 a ha)
theorem Iv.checked (h:Iv D lc q1 q2 q3 (n::q4) q5 S) (hk:n.k=3) (m:Nt) (hm:(m.k=4∨m.k=5)∧m.s=n.s):Iv D lc q1 q2 q3 q4 (q5++[m]) S:=
 {h.pop4 with
  tk:=by
   have:=h.tk
   rw[ck_cons,if_pos hk]at this
   rw[ck_app,ck_app]
   rcases hm.1 with e|e
   ·rw[if_pos e,if_neg (by omega)];omega
   ·rw[if_pos e,if_neg (by omega)];omega
  t5:=fun y hy e=>by
   rcases List.mem_append.1 hy with q|q
   ·exact h.t5 y q e
   ·obtain rfl:=List.mem_singleton.1 q
    rw[hm.2]
    exact h.t4 n (by simp) hk}
theorem Iv.noted (h:Iv D lc q1 q2 q3 (n::q4) q5 S) (hk:n.k=12):Iv D lc q1 q2 q3 q4 q5 (Nw.noted S n):=by
 have hb:=h.b4 n (by simp) hk
 unfold Nw.noted
 split
 ·exact{h.pop4 with
   pb:=fun e he=>by
    rcases mput_mem he with q|q
    ·subst q;exact⟨rfl,hb⟩
    ·exact h.pb e q}
 ·exact h.pop4
end Bq
end Go.Proofs.YtlklnaebdnahcaaGreat
namespace Go.Proofs.YtlklnaebdnahcaaGreat
open Go.RowKit Nw
namespace Bq
variable {D:Dl} {lc t:Int} {q1 q2 q3 q4 q5:List Nt} {S S' T:St} {n m:Nt}
theorem IvS.cong (h:IvS D lc S) (eL:S'.L=S.L) (e1:S'.sph=S.sph) (e2:S'.sss=S.sss) (e3:S'.ac=S.ac) (e4:S'.si=S.si) (e5:S'.sk=S.sk) (e6:S'.vc=S.vc) (e7:S'.vb=S.vb) (e8:S'.sb=S.sb) (e9:S'.pb=S.pb) (e10:S'.opn=S.opn) (e11:S'.po=S.po) (e12:S'.cs.length=S.cs.length):IvS D lc S':=by
 unfold IvS
 rw[Q_same eL,Q_same eL,Q_same eL,Q_same eL,Q_same eL]
 exact Iv.cong h e1 e2 e3 e4 e5 e6 e7 e8 e9 e10 e11 e12
structure Inv (D:Dl) (lc:Int) (S:St):Prop where
 li:LI S.now S
 iv:IvS D lc S
 st:0≤S.sss∧S.sss≤(ln S 1).tk
 lt:(ck 15 (Q S 2):Int)≤(ln S 2).tk
 now:0≤S.now
 cw: ∀t,wr (Nw.count S t).i=(Nw.count S t).i∧wr (Nw.count S t).b=(Nw.count S t).b
structure Hd (d e:Nat) (S S':St):Prop where
 li: ∀{t},LI t S→LI t S'
 tk: ∀{t},LI t S→ ∀i,(ln S' i).tk=(ln S i).tk
 now:S'.now=S.now
 c15: ∀{t},LI t S→ck 15 (Q S' 2)≤ck 15 (Q S 2)+d
 sss:S.sss≤S'.sss∧S'.sss≤S.sss+e
 vc:S'.vc=S.vc
theorem Hd.same (hL:S'.L=S.L) (hf:S'.fl=S.fl) (hn:S'.now=S.now) (hs:S'.sss=S.sss) (hv:S'.vc=S.vc):Hd 0 0 S S':=
 ⟨fun h=>h.same hL (by rw[hf];exact fun s hs=>hs),fun h i=>by unfold ln;rw[hL],hn,fun h=>by rw[Q_same hL];exact Nat.le_refl _,by omega,hv⟩
theorem Hd.mono {d e d' e':Nat} (h:Hd d e S S') (hd:d≤d') (he:e≤e'):Hd d' e' S S':=
 ⟨h.li,h.tk,h.now,fun l=>by have:=h.c15 l;omega,by have:=h.sss;omega,h.vc⟩
theorem Hd.tell {d e:Nat} (h:Hd d e S T) {i:Nat} (hi:i<6) (n:Nt):Hd (d+if i=2∧n.k=15 then 1 else 0) e S (Nw.tell T i n):=by
 refine⟨fun l=>(h.li l).tell hi n,fun l j=>?_,h.now,fun l=>?_,h.sss,h.vc⟩
 ·rw[ln_set (S':=Nw.tell T i n) (h.li l).len hi rfl,←h.tk l j]
  split
  ·rename_i e;subst e
   unfold Lx.sendL;split<;>rfl
  ·rfl
 ·have h2:=h.c15 l
  by_cases e2:2=i
  ·subst e2
   rw[Q_eq (h.li l) (by decide) n]
   split
   ·omega
   ·rw[ck_app]
    split
    ·rename_i e;rw[if_pos ⟨rfl,e⟩];omega
    ·omega
  ·rw[Q_ne (h.li l) hi n (by decide) e2]
   omega
theorem Hd.tell0 {d e:Nat} (h:Hd d e S T) {i:Nat} (hi:i<6) (n:Nt) (hn:i≠2∨n.k≠15):Hd d e S (Nw.tell T i n):=by
 have:=h.tell hi n
 rw[if_neg (by omega)]at this
 exact this
theorem Hd.refl (S:St):Hd 0 0 S S:=Hd.same rfl rfl rfl rfl rfl
theorem Hd.chg {d e:Nat} (h:Hd d e S T) (hL:S'.L=T.L) (hf:S'.fl=T.fl) (hn:S'.now=T.now) (hs:S'.sss=T.sss) (hv:S'.vc=T.vc):Hd d e S S':=
 ⟨fun l=>(h.li l).same hL (by rw[hf];exact fun s hs=>hs),fun l i=>by rw[←h.tk l i];unfold ln;rw[hL],hn.trans h.now,fun l=>by rw[Q_same hL];exact h.c15 l,by rw[hs];exact h.sss,hv.trans h.vc⟩
theorem Hd.fin (S:St):Hd 0 0 S (Nw.fin S):=
 ((Hd.refl S).tell0 (i:=2) (by decide) ⟨11,S.sss,S.si,S.sk,S.now⟩ (.inr (by show(11:Int)≠15;decide))).chg rfl rfl rfl rfl rfl
theorem Hd.heard (D:Dl) (S:St) (i:Int) (x:Nt) (hs:wr (S.sss+1)=S.sss+1):Hd (if i=2 then 1 else 0) (if i=1 then 1 else 0) S (Nw.heard D S i x):=by
 have R:=Hd.refl S
 have R':Hd (if i=2 then 1 else 0) (if i=1 then 1 else 0) S S:=R.mono (Nat.zero_le _) (Nat.zero_le _)
 have Z: ∀{S'},Hd 0 0 S S'→Hd (if i=2 then 1 else 0) (if i=1 then 1 else 0) S S':=fun h=>h.mono (Nat.zero_le _) (Nat.zero_le _)
 generalize hd:(if i=2 then 1 else 0:Nat)=d at R' Z ⊢
 generalize he:(if i=1 then 1 else 0:Nat)=e at R' Z ⊢
 unfold Nw.heard
 split
 ·split
  ·unfold offered;split
   ·exact Z (Hd.same rfl rfl rfl rfl rfl)
   ·exact R'
  split
  ·unfold rejected;split
   ·exact Z (Hd.same rfl rfl rfl rfl rfl)
   ·exact R'
  split
  ·exact Z (Hd.same rfl rfl rfl rfl rfl)
  ·exact R'
 split
 ·rename_i hi
  split
  ·unfold plugged;split
   ·exact Z ((Hd.refl S).tell0 (i:=1) (by decide) _ (.inl (by decide)))
   ·rw[if_pos hi]at he
    subst he
    have q:Hd 0 1 S {S with sph:=1,sss:=wr (S.sss+1),sp0:=x.a,sp1:=x.c,gone:=false,si:=0,sk:=0,opn:=0,tks:=0}:=
     ⟨fun h=>h.same rfl (fun s hs=>hs),fun h i=>rfl,rfl,fun h=>Nat.le_refl _,by show S.sss≤wr (S.sss+1)∧wr (S.sss+1)≤S.sss+1;omega,rfl⟩
    exact(q.tell0 (i:=2) (by decide) _ (.inr (by show(2:Int)≠15;decide))).mono (Nat.zero_le _) (Nat.le_refl _)
  ·exact R'
 split
 ·rename_i hi
  split
  ·unfold refused;split
   ·exact Z ((Hd.same (S:=S) (S':={S with sph:=0}) rfl rfl rfl rfl rfl).tell0 (i:=1) (by decide) _ (.inl (by decide)))
   ·exact R'
  split
  ·unfold started;split
   ·split
    ·exact Z (Hd.fin S)
    ·exact Z ((Hd.same (S:=S) (S':={S with sph:=2,tks:=0}) rfl rfl rfl rfl rfl).tell0 (i:=1) (by decide) _ (.inl (by decide)))
   ·exact R'
  split
  ·unfold acked;split
   ·exact Z (Hd.same rfl rfl rfl rfl rfl)
   ·exact R'
  split
  ·unfold halted;split
   ·exact Z (Hd.fin S)
   ·exact R'
  split
  ·unfold closed;split
   ·exact Z ((Hd.same (S:=S) (S':={S with sb:=mput x.s (billOf x) S.sb,sph:=0}) rfl rfl rfl rfl rfl).tell0 (i:=1) (by decide) _ (.inl (by decide)))
   ·exact R'
  split
  ·rw[if_pos hi]at hd
   subst hd
   exact((Hd.same (S:=S) (S':={S with po:=Po.tk S.po ⟨x.s,x.a,x.b,x.c⟩}) rfl rfl rfl rfl rfl).tell (i:=2) (by decide) ⟨15,x.s,0,0,0⟩).mono (by rw[if_pos ⟨rfl,rfl⟩];exact Nat.le_refl _) (Nat.zero_le _)
  ·exact R'
 split
 ·split
  ·unfold asked;split
   ·exact Z ((Hd.same (S:=S) (S':={S with us:=mput (x.a,x.c) true S.us,ac:=S.ac++[⟨⟨x.s,0,0,D.fee⟩,true,false⟩]}) rfl rfl rfl rfl rfl).tell0 (i:=4) (by decide) _ (.inl (by decide)))
   ·exact Z ((Hd.refl S).tell0 (i:=3) (by decide) _ (.inl (by decide)))
  split
  ·unfold recorded
   split
   ·exact R'
   ·rename_i j hj
    split
    ·exact Z ((Hd.same (S:=S) (S':={S with ac:=S.ac.set j (acAdd D x (S.ac.getD j default))}) rfl rfl rfl rfl rfl).tell0 (i:=3) (by decide) _ (.inl (by decide)))
    ·exact Z (((Hd.same (S:=S) (S':={S with ac:=S.ac.set j (acEnd (acAdd D x (S.ac.getD j default)))}) rfl rfl rfl rfl rfl).tell0 (i:=3) (by decide) _ (.inl (by decide))).tell0 (i:=4) (by decide) _ (.inl (by decide)))
  split
  ·exact Z (Hd.same rfl rfl rfl rfl rfl)
  ·exact R'
 split
 ·split
  ·exact Z ((Hd.refl S).tell0 (i:=3) (by decide) _ (.inl (by decide)))
  split
  ·unfold denied
   split
   ·exact Z ((Hd.refl S).tell0 (i:=3) (by decide) _ (.inl (by decide)))
   ·rename_i j hj
    exact Z ((Hd.same (S:=S) (S':={S with ac:=S.ac.set j {S.ac.getD j default with op:=false}}) rfl rfl rfl rfl rfl).tell0 (i:=3) (by decide) _ (.inl (by decide)))
  ·exact R'
 split
 ·split
  ·unfold checked;split
   ·exact Z ((Hd.same (S:=S) (S':={S with pc:=mput x.s x.a S.pc}) rfl rfl rfl rfl rfl).tell0 (i:=5) (by decide) _ (.inl (by decide)))
   ·exact Z ((Hd.refl S).tell0 (i:=5) (by decide) _ (.inl (by decide)))
  split
  ·unfold noted;split
   ·exact Z (Hd.same rfl rfl rfl rfl rfl)
   ·exact R'
  ·exact R'
 ·exact R'
theorem len_two {l:List Nt} (h: ∀n∈l,n.k=15∨n.k=9):l.length=ck 15 l+ck 9 l:=by
 induction l with
 |nil=>rfl
 |cons a l ih=>
  have h1:=h a (by simp)
  have h2:=ih (fun n hn=>h n (by simp[hn]))
  rw[ck_cons,ck_cons,List.length_cons]
  rcases h1 with e|e
  ·rw[if_pos e,if_neg (by omega)];omega
  ·rw[if_neg (by omega),if_pos e];omega
theorem room (li:LI t T) (h:Iv D lc q1 (Q T 2) q3 q4 q5 S) (hp:S.sph=1∨S.sph=2) (h2:ck 2 (Q T 2)=0) (h15:ck 15 (Q T 2)≤55) (hsl:D.sl≤6):(ln T 2).L.length<64:=by
 have h1:=que_len (li.dr 2 (by decide))
 have hk: ∀n∈Q T 2,n.k=15∨n.k=9:=fun n hn=>by
  have q2:=ck_zero h2 n hn
  rcases h.k2 n hn with q|q
  ·exact .inl q
  ·omega
 have h3:=len_two hk
 have h4:=h.oo hp
 have h5:=h.o1 hp
 have h6:(ln T 2).L.length≤(Q T 2).length+1:=h1
 omega
theorem finS (li:LI t T) (h:Iv D lc (Q T 1) (Q T 2) (Q T 3) (Q T 4) (Q T 5) T) (hp:T.sph=1∨T.sph=2) (h1:ck 2 (Q T 2)=0∧ck 6 (Q T 3)=0∧ck 7 (Q T 3)=0∧ck 3 (Q T 4)=0∧ck 4 (Q T 5)=0∧ck 5 (Q T 5)=0) (h15:ck 15 (Q T 2)≤55) (hsl:D.sl≤6):IvS D lc (Nw.fin T):=by
 have hr:=room li h hp h1.1 h15 hsl
 have li2:LI t {T with si:=0,sk:=0,sph:=3}:=li.same rfl (fun s hs=>hs)
 exact(put2r (T:={T with si:=0,sk:=0,sph:=3}) (n:=⟨11,T.sss,T.si,T.sk,T.now⟩) li2 (h.fin hp h1) hr).cong rfl rfl rfl rfl rfl rfl rfl rfl rfl rfl rfl rfl rfl
theorem heard0 {x:Nt} (h:Iv D lc (x::Q S 1) (Q S 2) (Q S 3) (Q S 4) (Q S 5) S):IvS D lc (Nw.heard D S 0 x):=by
 unfold Nw.heard
 rw[if_pos rfl]
 split
 ·exact(show Iv D lc (Q (offered S x) 1) (Q (offered S x) 2) (Q (offered S x) 3) (Q (offered S x) 4) (Q (offered S x) 5) (offered S x)from by
   have e:(offered S x).L=S.L:=by unfold offered;split<;>rfl
   rw[Q_same e,Q_same e,Q_same e,Q_same e,Q_same e]
   exact h.pop1.offered)
 split
 ·exact(show Iv D lc (Q (rejected S x) 1) (Q (rejected S x) 2) (Q (rejected S x) 3) (Q (rejected S x) 4) (Q (rejected S x) 5) (rejected S x)from by
   have e:(rejected S x).L=S.L:=by unfold rejected;split<;>rfl
   rw[Q_same e,Q_same e,Q_same e,Q_same e,Q_same e]
   exact h.pop1.rejected)
 split
 ·rename_i hk
  exact h.billed hk
 ·exact h.pop1
theorem heard1 {x:Nt} (li:LI t S) (h:IvS D lc S) (hs:wr (S.sss+1)=S.sss+1) (h0:0≤D.sl):IvS D lc (Nw.heard D S 1 x):=by
 unfold Nw.heard
 rw[if_neg (by decide),if_pos rfl]
 split
 ·unfold plugged
  split
  ·refine put1 li ?_
   exact{(show Iv D lc (Q S 1) (Q S 2) (Q S 3) (Q S 4) (Q S 5) S from h)with
    b1:=fun y hy e=>by
     rcases List.mem_append.1 hy with q|q
     ·exact h.b1 y q e
     ·obtain rfl:=List.mem_singleton.1 q;cases e}
  ·rename_i hn
   have hp:S.sph=0:=by
    cases hb:S.inn<;>simp_all
   refine put2 (li.same rfl (fun s hs=>hs)) ?_ ⟨by show(2:Int)≠9;decide,by show(2:Int)≠11;decide⟩
   exact Iv.newS h hp hs h0 x.a x.b x.c
 ·exact h
theorem heard2 {x:Nt} (li:LI t S) (h:Iv D lc (Q S 1) (Q S 2) (x::Q S 3) (Q S 4) (Q S 5) S) (h15:ck 15 (Q S 2)≤55) (hsl:D.sl≤6):IvS D lc (Nw.heard D S 2 x):=by
 have g:=h.pop3
 unfold Nw.heard
 rw[if_neg (by decide),if_neg (by decide),if_pos rfl]
 split
 ·rename_i hk
  unfold refused
  split
  ·rename_i ha
   have ha2:=of_decide_eq_true ha
   refine put1 (T:={S with sph:=0}) (li.same rfl (fun s hs=>hs)) ?_
   exact h.refused hk ha2.1 _ (by show(7:Int)≠12;decide)
  ·exact g
 split
 ·rename_i hk
  unfold started
  split
  ·rename_i ha
   have ha2:=of_decide_eq_true ha
   have htk:=h.tk
   rw[if_pos ha2.1,ck_cons,ck_cons,if_pos hk,if_neg (by omega)]at htk
   split
   ·exact finS li g (.inl ha2.1) (by omega) h15 hsl
   ·refine put1 (T:={S with sph:=2,tks:=0}) (li.same rfl (fun s hs=>hs)) ?_
    exact h.started hk ha2.1 _ (by show(8:Int)≠12;decide)
  ·exact g
 split
 ·rename_i hk
  unfold acked
  split
  ·rename_i ha
   have ha2:=of_decide_eq_true ha
   exact h.acked hk ha2.1 ha2.2 (by omega)
  ·exact g
 split
 ·rename_i hk
  unfold halted
  split
  ·rename_i ha
   have ha2:=of_decide_eq_true ha
   exact finS li g (.inr ha2.1) (g.tok0 (by omega)) h15 hsl
  ·exact g
 split
 ·rename_i hk
  unfold closed
  split
  ·rename_i ha
   have ha2:=of_decide_eq_true ha
   refine put1 (T:={S with sb:=mput x.s (billOf x) S.sb,sph:=0}) (li.same rfl (fun s hs=>hs)) ?_
   exact h.closed hk ha2.1 ha2.2
  ·exact g
 split
 ·rename_i hk
  refine put2 (T:={S with po:=Po.tk S.po ⟨x.s,x.a,x.b,x.c⟩}) (li.same rfl (fun s hs=>hs)) ?_ ⟨by show(15:Int)≠9;decide,by show(15:Int)≠11;decide⟩
  exact h.leased hk _ rfl
 ·exact g
theorem heard3 {x:Nt} (li:LI t S) (h:Iv D lc (Q S 1) (x::Q S 2) (Q S 3) (Q S 4) (Q S 5) S):IvS D lc (Nw.heard D S 3 x):=by
 unfold Nw.heard
 rw[if_neg (by decide),if_neg (by decide),if_neg (by decide),if_pos rfl]
 split
 ·rename_i hk
  unfold asked
  split
  ·refine put4 (T:={S with us:=mput (x.a,x.c) true S.us,ac:=S.ac++[⟨⟨x.s,0,0,D.fee⟩,true,false⟩]}) (li.same rfl (fun s hs=>hs)) ?_
   exact h.askedY hk D.fee _
  ·exact put3 li (h.askedN hk)
 split
 ·rename_i hk
  unfold recorded
  split
  ·rename_i hf
   exact h.recN hk hf
  ·rename_i j hf
   split
   ·rename_i h9
    refine put3 (T:={S with ac:=S.ac.set j (acAdd D x (S.ac.getD j default))}) (li.same rfl (fun s hs=>hs)) ?_
    exact h.rec9 h9 hf _ rfl
   ·rename_i h9
    refine put34 (T:={S with ac:=S.ac.set j (acEnd (acAdd D x (S.ac.getD j default)))}) (li.same rfl (fun s hs=>hs)) ?_
    exact h.rec11 (by omega) hf _ rfl _ rfl
 split
 ·rename_i hk
  exact((h.pop15 hk).cong rfl rfl rfl rfl rfl rfl rfl rfl rfl rfl rfl (by
   show(Sx.akS S.cs 0 x.s).length=S.cs.length
   unfold Sx.akS
   split
   ·rw[List.length_set]
   ·rfl):Iv D lc (Q S 1) (Q S 2) (Q S 3) (Q S 4) (Q S 5) (known S x))
 ·rename_i h2 h9 h15
  exfalso
  rcases h.k2 x (by simp)with q|q
  ·exact h15 q
  ·omega
theorem heard4 {x:Nt} (li:LI t S) (h:Iv D lc (Q S 1) (Q S 2) (Q S 3) (Q S 4) (x::Q S 5) S):IvS D lc (Nw.heard D S 4 x):=by
 unfold Nw.heard
 rw[if_neg (by decide),if_neg (by decide),if_neg (by decide),if_neg (by decide),if_pos rfl]
 split
 ·rename_i hk
  exact put3 li (h.approved hk)
 split
 ·rename_i hk
  unfold denied
  split
  ·rename_i hf
   exact put3 li (h.deniedN hk hf)
  ·rename_i j hf
   refine put3 (T:={S with ac:=S.ac.set j {S.ac.getD j default with op:=false}}) (li.same rfl (fun s hs=>hs)) ?_
   exact h.deniedY hk hf
 ·exact h.pop5
theorem heard5 {x:Nt} (li:LI t S) (h:Iv D lc (Q S 1) (Q S 2) (Q S 3) (x::Q S 4) (Q S 5) S):IvS D lc (Nw.heard D S 5 x):=by
 unfold Nw.heard
 rw[if_neg (by decide),if_neg (by decide),if_neg (by decide),if_neg (by decide),if_neg (by decide),if_pos rfl]
 split
 ·rename_i hk
  unfold checked
  split
  ·refine put5 (T:={S with pc:=mput x.s x.a S.pc}) (li.same rfl (fun s hs=>hs)) ?_
   exact(h.checked hk ⟨4,x.s,0,0,0⟩ ⟨.inl rfl,rfl⟩).cong rfl rfl rfl rfl rfl rfl rfl rfl rfl rfl rfl rfl
  ·exact put5 li (h.checked hk ⟨5,x.s,0,0,0⟩ ⟨.inr rfl,rfl⟩)
 split
 ·rename_i hk
  exact(show Iv D lc (Q (noted S x) 1) (Q (noted S x) 2) (Q (noted S x) 3) (Q (noted S x) 4) (Q (noted S x) 5) (noted S x)from by
   have e:(noted S x).L=S.L:=by unfold noted;split<;>rfl
   rw[Q_same e,Q_same e,Q_same e,Q_same e,Q_same e]
   exact h.noted hk)
 ·exact h.pop4
end Bq
end Go.Proofs.YtlklnaebdnahcaaGreat
namespace Go.Proofs.YtlklnaebdnahcaaGreat
open Go.RowKit Nw
namespace Bq
variable {D:Dl} {lc t:Int} {q1 q2 q3 q4 q5:List Nt} {S S' T:St} {n m:Nt}
theorem Inv.few (h:Inv D lc S) (hb:lc+S.now≤150):ck 15 (Q S 2)≤50:=by
 have h1:=h.iv.ld
 have h2:=h.lt
 have h3:=(h.li.t1 2 (by decide)).2
 have h4:=h.now
 omega
theorem Inv.sss (h:Inv D lc S) (hb:lc+S.now≤150) (hlc:0≤lc):wr (S.sss+1)=S.sss+1:=by
 have h1:=h.st
 have h3:=(h.li.t1 1 (by decide)).2
 exact wr_in (by omega)
theorem Inv.step {d e:Nat} (li:LI S.now S) (hst:0≤S.sss∧S.sss+e≤(ln S 1).tk) (hlt:(ck 15 (Q S 2):Int)+d≤(ln S 2).tk) (hn:0≤S.now) (hw: ∀t,wr (Nw.count S t).i=(Nw.count S t).i∧wr (Nw.count S t).b=(Nw.count S t).b) (hd:Hd d e S S') (iv:IvS D lc S'):Inv D lc S':=by
 have ec: ∀t,Nw.count S' t=Nw.count S t:=fun t=>by unfold Nw.count;rw[hd.vc]
 refine⟨by rw[hd.now];exact hd.li li,iv,?_,?_,by rw[hd.now];exact hn,fun t=>by rw[ec];exact hw t⟩
 ·rw[hd.tk li];have:=hd.sss;omega
 ·rw[hd.tk li];have:=hd.c15 li;omega
theorem Inv.same (h:Inv D lc S) (iv:IvS D lc S') (hd:Hd 0 0 S S'):Inv D lc S':=
 Inv.step h.li (by have:=h.st;omega) (by have:=h.lt;omega) h.now h.cw hd iv
theorem Inv.fls (h:Inv D lc S) {F:List Sn} (hF: ∀s∈F,s∈S.fl):Inv D lc {S with fl:=F}:=
 ⟨h.li.same rfl hF,IvS.cong h.iv rfl rfl rfl rfl rfl rfl rfl rfl rfl rfl rfl rfl rfl,h.st,h.lt,h.now,h.cw⟩
theorem Inv.deliver (h:Inv D lc S) (hb:lc+S.now≤150) (hlc:0≤lc) (h0:0≤D.sl) (hsl:D.sl≤6) {k:Nat} (hk:k<S.fl.length):Inv D lc (Nw.deliver D S k)∧(Nw.deliver D S k).now=S.now∧(Nw.deliver D S k).vc=S.vc:=by
 have hs:S.fl.getD k default∈S.fl:=by rw[List.getD_eq_getElem?_getD,List.getElem?_eq_getElem hk];exact List.getElem_mem _
 have hfew:=h.few hb
 have hsss:=h.sss hb hlc
 unfold Nw.deliver
 generalize S.fl.getD k default=s at hs
 obtain⟨hl0,hl6⟩:=h.li.fl s hs
 obtain⟨i,hi⟩: ∃i:Nat,s.l=(i:Int):=⟨s.l.toNat,by omega⟩
 have hi6:i<6:=by omega
 have eo:toL s.l=oth i:=by rw[hi];exact toL_oth i
 generalize hS1:({Nw.take S k with L:=(Nw.take S k).L.set (toL s.l) (Lx.recvL (ln (Nw.take S k) (toL s.l)) s.p)}:St)=S1
 have eL:S1.L=S.L.set (oth i) (Lx.recvL (ln S (oth i)) s.p):=by rw[←hS1,eo];rfl
 have eF: ∀r∈S1.fl,r∈S.fl:=by rw[←hS1];exact fun r hr=>List.mem_of_mem_eraseIdx hr
 have en:S1.now=S.now:=by rw[←hS1];rfl
 have ev:S1.vc=S.vc:=by rw[←hS1];rfl
 have es:S1.sss=S.sss:=by rw[←hS1];rfl
 obtain⟨li,hq,hr,ht⟩:=h.li.recv hs hi6 hi eL eF
 have hc: ∀t,Nw.count S1 t=Nw.count S t:=fun t=>by unfold Nw.count;rw[ev]
 have hw: ∀t,wr (Nw.count S1 t).i=(Nw.count S1 t).i∧wr (Nw.count S1 t).b=(Nw.count S1 t).b:=fun t=>by rw[hc];exact h.cw t
 have li1:LI S1.now S1:=by rw[en];exact li
 have hn1:0≤S1.now:=by rw[en];exact h.now
 have hss1:wr (S1.sss+1)=S1.sss+1:=by rw[es];exact hsss
 have hv:Iv D lc (Q S 1) (Q S 2) (Q S 3) (Q S 4) (Q S 5) S1:=by rw[←hS1];exact Iv.cong h.iv rfl rfl rfl rfl rfl rfl rfl rfl rfl rfl rfl rfl
 have hst:=h.st
 have hlt:=h.lt
 show Inv D lc (Nw.arrive D (Nw.take S k) s)∧_
 have ea:Nw.arrive D (Nw.take S k) s=if Lx.recvB (ln S (oth i)) s.p then heard D S1 (oth i:Nat) (Lx.recvN (ln S (oth i)) s.p)else S1:=by
  unfold Nw.arrive
  rw[hS1,eo]
  rfl
 rw[ea]
 by_cases hB:Lx.recvB (ln S (oth i)) s.p=true
 ·rw[if_pos hB]at hr
  rw[if_pos hB]
  obtain⟨hr1,hr2⟩:=hr
  generalize Lx.recvN (ln S (oth i)) s.p=x at hr1
  have hd:=Hd.heard D S1 (oth i:Nat) x hss1
  suffices IvS D lc (heard D S1 (oth i:Nat) x)∧(0≤S1.sss∧S1.sss+((if ((oth i:Nat):Int)=1 then 1 else 0:Nat):Int)≤(ln S1 1).tk)∧((ck 15 (Q S1 2):Int)+((if ((oth i:Nat):Int)=2 then 1 else 0:Nat):Int)≤(ln S1 2).tk) by
   exact⟨Inv.step li1 this.2.1 this.2.2 hn1 hw hd this.1,hd.now.trans en,hd.vc.trans ev⟩
  have hi':i=0∨i=1∨i=2∨i=3∨i=4∨i=5:=by omega
  rcases hi' with rfl|rfl|rfl|rfl|rfl|rfl
  ·have o:oth 0=1:=rfl
   rw[o]at hr2 ht ⊢
   have t2:=ht 2 (by decide)
   rw[←hq 1 (by decide) (by decide),←hq 2 (by decide) (by decide),←hq 3 (by decide) (by decide),←hq 4 (by decide) (by decide),←hq 5 (by decide) (by decide)]at hv
   rw[←hq 2 (by decide) (by decide)]at hlt
   refine⟨heard1 li hv hss1 h0,?_,?_⟩
   ·rw[if_pos (by decide),hr2,es];omega
   ·rw[if_neg (by decide),t2];omega
  ·have o:oth 1=0:=rfl
   rw[o]at hr2 ht ⊢
   have t1:=ht 1 (by decide)
   have t2:=ht 2 (by decide)
   rw[hr1,←hq 2 (by decide) (by decide),←hq 3 (by decide) (by decide),←hq 4 (by decide) (by decide),←hq 5 (by decide) (by decide)]at hv
   rw[←hq 2 (by decide) (by decide)]at hlt
   refine⟨heard0 hv,?_,?_⟩
   ·rw[if_neg (by decide),t1,es];omega
   ·rw[if_neg (by decide),t2];omega
  ·have o:oth 2=3:=rfl
   rw[o]at hr2 ht ⊢
   have t1:=ht 1 (by decide)
   have t2:=ht 2 (by decide)
   rw[hr1,←hq 1 (by decide) (by decide),←hq 3 (by decide) (by decide),←hq 4 (by decide) (by decide),←hq 5 (by decide) (by decide)]at hv
   rw[hr1,ck_cons]at hlt
   refine⟨heard3 li hv,?_,?_⟩
   ·rw[if_neg (by decide),t1,es];omega
   ·rw[if_neg (by decide),t2];omega
  ·have o:oth 3=2:=rfl
   rw[o]at hr2 ht ⊢
   have t1:=ht 1 (by decide)
   rw[hr1,←hq 1 (by decide) (by decide),←hq 2 (by decide) (by decide),←hq 4 (by decide) (by decide),←hq 5 (by decide) (by decide)]at hv
   rw[←hq 2 (by decide) (by decide)]at hlt hfew
   refine⟨heard2 li hv (by omega) hsl,?_,?_⟩
   ·rw[if_neg (by decide),t1,es];omega
   ·rw[if_pos (by decide),hr2];omega
  ·have o:oth 4=5:=rfl
   rw[o]at hr2 ht ⊢
   have t1:=ht 1 (by decide)
   have t2:=ht 2 (by decide)
   rw[hr1,←hq 1 (by decide) (by decide),←hq 2 (by decide) (by decide),←hq 3 (by decide) (by decide),←hq 5 (by decide) (by decide)]at hv
   rw[←hq 2 (by decide) (by decide)]at hlt
   refine⟨heard5 li hv,?_,?_⟩
   ·rw[if_neg (by decide),t1,es];omega
   ·rw[if_neg (by decide),t2];omega
  ·have o:oth 5=4:=rfl
   rw[o]at hr2 ht ⊢
   have t1:=ht 1 (by decide)
   have t2:=ht 2 (by decide)
   rw[hr1,←hq 1 (by decide) (by decide),←hq 2 (by decide) (by decide),←hq 3 (by decide) (by decide),←hq 4 (by decide) (by decide)]at hv
   rw[←hq 2 (by decide) (by decide)]at hlt
   refine⟨heard4 li hv,?_,?_⟩
   ·rw[if_neg (by decide),t1,es];omega
   ·rw[if_neg (by decide),t2];omega
 ·rw[if_neg hB]at hr
  rw[if_neg hB]
  have hq2: ∀j,j<6→Q S1 j=Q S j:=fun j hj=>by
   by_cases e:j=i
   ·subst e;exact hr.1
   ·exact hq j hj e
  have htk: ∀j,(ln S1 j).tk=(ln S j).tk:=fun j=>by
   by_cases e:j=oth i
   ·subst e;exact hr.2
   ·exact ht j e
  refine⟨⟨li1,?_,?_,?_,hn1,hw⟩,en,ev⟩
  ·unfold IvS
   rw[hq2 1 (by decide),hq2 2 (by decide),hq2 3 (by decide),hq2 4 (by decide),hq2 5 (by decide)]
   exact hv
  ·rw[es,htk];exact hst
  ·rw[hq2 2 (by decide),htk];exact hlt
/-! a tick -/
theorem count_put (S:St) (f:Int) (t:Int):Nw.count (pour S f) t=if S.vss=t then enAdd (enOf S) f else Nw.count S t:=by
 unfold Nw.count pour
 show(mget t (mput S.vss (enAdd (enOf S) f) S.vc)).getD default=_
 rw[mget_mput]
 split
 ·rfl
 ·rfl
theorem wr_3 (a b c d:Int):wr (a+b+wr (c+d))=wr (wr (a+b+c)+d):=by unfold wr RowKit.wrap64;omega
theorem Iv.pour (h:Iv D lc q1 q2 q3 q4 q5 S) (hp:S.sph=2) (hv:S.vss=S.sss) (f:Int):Iv D lc q1 q2 q3 q4 q5 (Nw.pour S f):=by
 have hc: ∀t,t≠S.sss→Nw.count (Nw.pour S f) t=Nw.count S t:=fun t ht=>by
  rw[count_put,if_neg (by omega)]
 have hs:Nw.count (Nw.pour S f) S.sss=enAdd (Nw.count S S.sss) f:=by
  rw[count_put,if_pos hv];unfold enOf Nw.count;rw[hv]
 exact{h with
  cn:=fun a ha hd=>by
   have e:a.bl.s≠S.sss:=fun e=>absurd hp (h.dn a ha hd e).2.1
   rw[hc _ e]
   exact h.cn a ha hd
  ba:=fun a ha ho=>by
   have:=h.ba a ha ho
   show wr (a.bl.i+sA q2+wr (S.si+max 0 f))=(Nw.count (Nw.pour S f) S.sss).i∧wr (a.bl.b+sB q2+wr (S.sk+max 0 (wr (-f))))=(Nw.count (Nw.pour S f) S.sss).b
   rw[hs,wr_3,wr_3,this.1,this.2]
   exact⟨rfl,rfl⟩
  si:=fun e=>absurd hp e
  c0:=fun t ht=>by
   have e:S.sss<t:=ht
   rw[hc t (by omega)]
   exact h.c0 t e
  c1:=fun e=>by have e2:S.sph=1:=e;omega}
theorem Iv.recT (h:Iv D lc q1 q2 q3 q4 q5 S) (hp:S.sph=2) (ho:S.opn<D.sl) (hsl:D.sl≤1000):Iv D lc q1 (q2++[⟨9,S.sss,S.si,S.sk,S.now⟩]) q3 q4 q5 {S with si:=0,sk:=0,opn:=wr (S.opn+1)}:=by
 have h1:=h.o1 (.inr hp)
 have e:wr (S.opn+1)=S.opn+1:=wr_in (by omega)
 obtain⟨t2,t6,t7,t3,t4,t5⟩:=h.tok0 (by omega)
 exact{h with
  k2:=fun x hx=>by
   rcases List.mem_append.1 hx with q|q
   ·exact h.k2 x q
   ·obtain rfl:=List.mem_singleton.1 q
    exact .inr ⟨rfl,.inr (.inl ⟨hp,rfl⟩)⟩
  f2:=by
   rw[List.pairwise_append]
   refine⟨h.f2,List.pairwise_singleton _ _,fun x hx y hy e=>?_⟩
   have:=h.k2 x hx
   omega
  tk:=by
   show _≤if S.sph=1 then 1 else 0
   rw[ck_app,t2,t6,t7,t3,t4,t5,if_neg (by show¬(9:Int)=2;decide),if_neg (by omega)]
   decide
  au:=fun x hx e=>by
   rcases List.mem_append.1 hx with q|q
   ·exact h.au x q e
   ·obtain rfl:=List.mem_singleton.1 q;cases e
  dn:=fun a ha hd e=>absurd hp (h.dn a ha hd e).2.1
  ba:=fun a ha ho=>by
   have:=h.ba a ha ho
   show wr (a.bl.i+sA (q2++[_])+0)=_∧wr (a.bl.b+sB (q2++[_])+0)=_
   rw[sA_app,sB_app,if_pos (.inl rfl),if_pos (.inl rfl),Int.add_zero,Int.add_zero,←Int.add_assoc,←Int.add_assoc]
   exact this
  si:=fun e=>absurd hp e
  oo:=fun _=>by
   have:=h.oo (.inr hp)
   show((ck 9 (q2++[_]):Nat):Int)+(cs10 S.sss q3:Nat)≤wr (S.opn+1)
   rw[e,ck_app,if_pos rfl]
   omega
  o1:=fun _=>by
   show 0≤wr (S.opn+1)∧wr (S.opn+1)≤D.sl
   rw[e];omega
  ld:=by rw[ck_app,if_neg (by show¬(9:Int)=15;decide)];exact h.ld}
theorem tick1_eq (D:Dl) (S:St) (p:Int):(tick1 D S p).L=S.L∧(tick1 D S p).fl=S.fl∧(tick1 D S p).now=S.now∧(tick1 D S p).sss=S.sss∧(tick1 D S p).sph=S.sph∧(tick1 D S p).opn=S.opn∧(tick1 D S p).inn=S.inn∧(tick1 D S p).tks=S.tks∧(tick1 D S p).flow=if flowB D S then flowOf S p else 0:=by
 unfold tick1
 split
 ·exact⟨rfl,rfl,rfl,rfl,rfl,rfl,rfl,rfl,rfl⟩
 ·exact⟨rfl,rfl,rfl,rfl,rfl,rfl,rfl,rfl,rfl⟩
theorem flowB_yes {D:Dl} {S:St} (h:flowB D S=true):S.sph=2∧S.opn<D.sl∧S.inn=true∧S.vph=2∧S.vss=S.sss:=by
 unfold flowB going at h
 simp only[Bool.and_eq_true,decide_eq_true_eq]at h
 exact⟨h.1.1,h.1.2,h.2.1,h.2.2.1,h.2.2.2⟩
theorem IvS.tick1 (h:IvS D lc S) (p:Int):IvS D lc (Nw.tick1 D S p):=by
 unfold Nw.tick1
 split
 ·rename_i hb
  have hf:=flowB_yes hb
  exact(Iv.pour h hf.1 hf.2.2.2.2 (flowOf S p):Iv D lc (Q S 1) (Q S 2) (Q S 3) (Q S 4) (Q S 5) (Nw.pour S (flowOf S p)))
 ·exact IvS.cong h rfl rfl rfl rfl rfl rfl rfl rfl rfl rfl rfl rfl rfl
theorem IvS.tick2 (li:LI t S) (h:IvS D lc S) (hp:S.sph=2) (ho:S.opn<D.sl) (hsl:D.sl≤6) (h15:ck 15 (Q S 2)≤55):IvS D lc (Nw.tick2 D S):=by
 unfold Nw.tick2
 split
 ·have hr:=room li h (.inr hp) (h.tok0 (by omega)).1 h15 hsl
  have li2:LI t {S with si:=0,sk:=0,opn:=wr (S.opn+1)}:=li.same rfl (fun s hs=>hs)
  exact IvS.cong (put2r (T:={S with si:=0,sk:=0,opn:=wr (S.opn+1)}) (n:=⟨9,S.sss,S.si,S.sk,S.now⟩) li2 (Iv.recT h hp ho (by omega)) hr) rfl rfl rfl rfl rfl rfl rfl rfl rfl rfl rfl rfl rfl
 ·exact IvS.cong h rfl rfl rfl rfl rfl rfl rfl rfl rfl rfl rfl rfl rfl
theorem Hd.tick2 (D:Dl) (S:St):Hd 0 0 S (Nw.tick2 D S):=by
 unfold Nw.tick2
 split
 ·exact((Hd.refl S).tell0 (i:=2) (by decide) ⟨9,S.sss,S.si,S.sk,S.now⟩ (.inr (by show(9:Int)≠15;decide))).chg rfl rfl rfl rfl rfl
 ·exact Hd.same rfl rfl rfl rfl rfl
theorem polls_sh (S:St): ∀n,∃L F,Nw.polls n S={S with L:=L,fl:=F}
 |0=>⟨S.L,S.fl,rfl⟩
 |n+1=>by
  obtain⟨L,F,e⟩:=polls_sh S n
  show∃L F,Nw.poll (Nw.polls n S) n={S with L:=L,fl:=F}
  rw[e]
  exact⟨_,_,rfl⟩
theorem cutF_sh (S:St): ∃F:List Sn,cutF S={S with fl:=F}∧F.length≤200∧ ∀s∈F,s∈S.fl:=
 ⟨_,rfl,by rw[List.length_drop];omega,fun s hs=>List.mem_of_mem_drop hs⟩
structure Tk (D:Dl) (S S':St) (p:Int):Prop where
 now:S'.now=S.now+1
 sss:S'.sss=S.sss
 inn:S'.inn=S.inn
 flow:S'.flow=if flowB D S then flowOf S p else 0
 vc:S'.vc=(tick1 D S p).vc
theorem Inv.tick (h:Inv D lc S) (hb:lc+S.now≤150) (hlc:0≤lc) (hsl:D.sl≤6) (p:Int):Inv D lc (Nw.tick D S p)∧Tk D S (Nw.tick D S p) p:=by
 obtain⟨eL,eF,en,es,eph,eo,ei,et,efl⟩:=tick1_eq D S p
 have li1:LI S.now (tick1 D S p):=h.li.same eL (by rw[eF];exact fun s hs=>hs)
 have iv1:=IvS.tick1 h.iv p
 have q1: ∀j,Q (tick1 D S p) j=Q S j:=fun j=>Q_same eL j
 have l1: ∀j,ln (tick1 D S p) j=ln S j:=fun j=>by unfold ln;rw[eL]
 have cw1: ∀t,wr (Nw.count (tick1 D S p) t).i=(Nw.count (tick1 D S p) t).i∧wr (Nw.count (tick1 D S p) t).b=(Nw.count (tick1 D S p) t).b:=fun t=>by
  unfold Nw.tick1
  split
  ·rw[count_put]
   split
   ·exact⟨wr_wr _,wr_wr _⟩
   ·exact h.cw t
  ·exact h.cw t
 have hfew:=h.few hb
 have hS2: ∃S2:St,S2=(if going D S then tick2 D (tick1 D S p)else tick1 D S p)∧IvS D lc S2∧Hd 0 0 (tick1 D S p) S2∧S2.inn=S.inn∧S2.flow=(tick1 D S p).flow:=by
  refine⟨_,rfl,?_⟩
  split
  ·rename_i hg
   have hg2:=of_decide_eq_true hg
   refine⟨IvS.tick2 li1 iv1 (by rw[eph];exact hg2.1) (by rw[eo];exact hg2.2) hsl (by rw[q1];omega),Hd.tick2 D _,?_,?_⟩
   ·unfold Nw.tick2;split<;>exact ei
   ·unfold Nw.tick2;split<;>rfl
  ·exact⟨iv1,Hd.refl _,ei,rfl⟩
 obtain⟨S2,hS2,iv2,hd2,ei2,ef2⟩:=hS2
 have li2:=hd2.li li1
 have n2:S2.now=S.now:=hd2.now.trans en
 have s2:S2.sss=S.sss:=by have:=hd2.sss;omega
 have hnow:wr (S2.now+1)=S.now+1:=by rw[n2];exact wr_in (by have:=h.now;omega)
 have c2: ∀t,Nw.count S2 t=Nw.count (tick1 D S p) t:=fun t=>by unfold Nw.count;rw[hd2.vc]
 have htick:Nw.tick D S p=cutF (polls 6 {S2 with now:=wr (S2.now+1)}):=by rw[hS2];rfl
 rw[hnow]at htick
 generalize hS3:({S2 with now:=S.now+1}:St)=S3 at htick
 have li3:LI (S.now+1) S3:=by rw[←hS3];exact(li2.up (by omega)).same rfl (fun s hs=>hs)
 have hl3: ∀i,i<6→2*(ln S3 i).dn+1≤S.now+1∧2*(ln S3 i).tk≤S.now+1:=fun i hi=>by
  have:=li2.t1 i hi
  rw[←hS3]
  show 2*(ln S2 i).dn+1≤_∧2*(ln S2 i).tk≤_
  omega
 obtain⟨li4,t4,q4⟩:=li3.polls hl3 6 (Nat.le_refl _)
 obtain⟨L4,F4,e4⟩:=polls_sh S3 6
 have iv3:IvS D lc S3:=by rw[←hS3];exact IvS.cong iv2 rfl rfl rfl rfl rfl rfl rfl rfl rfl rfl rfl rfl rfl
 have iv4:IvS D lc (polls 6 S3):=by
  unfold IvS
  rw[q4 1 (by decide),q4 2 (by decide),q4 3 (by decide),q4 4 (by decide),q4 5 (by decide)]
  rw[e4]
  exact Iv.cong iv3 rfl rfl rfl rfl rfl rfl rfl rfl rfl rfl rfl rfl
 have tk4: ∀n,n≤6→ ∀j,(ln (polls n S3) j).tk=(ln S3 j).tk:=by
  intro n
  induction n with
  |zero=>intro _ j;rfl
  |succ n ih=>
   intro hn j
   have hli:=(li3.polls hl3 n (by omega)).1
   show(ln (Nw.poll (Nw.polls n S3) n) j).tk=_
   rw[ln_set (S':=Nw.poll (Nw.polls n S3) n) (l:=Lx.pollL (ln (Nw.polls n S3) n)) hli.len (by omega) rfl]
   split
   ·rename_i e;subst e;exact ih (by omega) j
   ·exact ih (by omega) j
 obtain⟨F,hF,hFl,hFm⟩:=cutF_sh (polls 6 S3)
 rw[htick,hF]
 have iv:Inv D lc (polls 6 S3):=by
  refine⟨?_,iv4,?_,?_,?_,?_⟩
  ·rw[e4];rw[←hS3];rw[e4,←hS3]at li4;exact li4
  ·rw[tk4 6 (Nat.le_refl _)]
   have e5:(polls 6 S3).sss=S.sss:=by rw[e4,←hS3];exact s2
   have e6:(ln S3 1).tk=(ln S 1).tk:=by rw[←hS3];exact(hd2.tk li1 1).trans (by rw[l1])
   rw[e5,e6];exact h.st
  ·rw[tk4 6 (Nat.le_refl _),q4 2 (by decide)]
   have e6:(ln S3 2).tk=(ln S 2).tk:=by rw[←hS3];exact(hd2.tk li1 2).trans (by rw[l1])
   have e7:Q S3 2=Q S2 2:=by rw[←hS3];rfl
   have:=hd2.c15 li1
   rw[q1]at this
   have:=h.lt
   rw[e6,e7];omega
  ·rw[e4,←hS3];show 0≤S.now+1;have:=h.now;omega
  ·intro t
   have e8:Nw.count (polls 6 S3) t=Nw.count S2 t:=by unfold Nw.count;rw[e4,←hS3]
   rw[e8,c2];exact cw1 t
 refine⟨iv.fls (F:=F) hFm,⟨?_,?_,?_,?_,?_⟩⟩
 ·show(polls 6 S3).now=_;rw[e4,←hS3]
 ·show(polls 6 S3).sss=_;rw[e4,←hS3];exact s2
 ·show(polls 6 S3).inn=_;rw[e4,←hS3];exact ei2
 ·show(polls 6 S3).flow=_;rw[e4,←hS3];exact ef2.trans efl
 ·show(polls 6 S3).vc=_;rw[e4,←hS3];exact hd2.vc
end Bq
end Go.Proofs.YtlklnaebdnahcaaGreat
namespace Go.Proofs.YtlklnaebdnahcaaGreat
open Go.RowKit Nw
namespace Bq
variable {D:Dl} {lc t:Int} {q1 q2 q3 q4 q5:List Nt} {S S' T:St} {n m:Nt}
theorem put0 (li:LI t T) (h:IvS D lc T) (n:Nt):IvS D lc (Nw.tell T 0 n):=by
 unfold IvS
 rw[Q_ne li (i:=0) (by decide) n (j:=1) (by decide) (by decide),Q_ne li (i:=0) (by decide) n (j:=2) (by decide) (by decide),Q_ne li (i:=0) (by decide) n (j:=3) (by decide) (by decide),Q_ne li (i:=0) (by decide) n (j:=4) (by decide) (by decide),Q_ne li (i:=0) (by decide) n (j:=5) (by decide) (by decide)]
 exact Iv.cong h rfl rfl rfl rfl rfl rfl rfl rfl rfl rfl rfl rfl
theorem Inv.plug (h:Inv D lc S) (a b:Int):Inv D lc (plugS D S a b):=by
 unfold plugS
 generalize hT:({S with pg:=S.pg.set a.toNat (wr (S.pg.getD a.toNat 0+1)),inn:=true,vph:=1,vp0:=a,vp1:=S.pg.getD a.toNat 0}:St)=T
 have li:LI S.now T:=by rw[←hT];exact h.li.same rfl (fun s hs=>hs)
 have iv:IvS D lc T:=by rw[←hT];exact IvS.cong h.iv rfl rfl rfl rfl rfl rfl rfl rfl rfl rfl rfl rfl rfl
 have hd:Hd 0 0 S T:=by rw[←hT];exact Hd.same rfl rfl rfl rfl rfl
 exact h.same (put0 li iv _) (hd.tell0 (i:=0) (by decide) _ (.inl (by decide)))
theorem Inv.unplug (h:Inv D lc S) (hb:lc+S.now≤150) (hsl:D.sl≤6):Inv D lc (unplugS S):=by
 unfold unplugS
 split
 ·exact h.same (IvS.cong h.iv rfl rfl rfl rfl rfl rfl rfl rfl rfl rfl rfl rfl rfl) (Hd.same rfl rfl rfl rfl rfl)
 split
 ·rename_i _ hp
  have hfew:=h.few hb
  generalize hT:({S with inn:=false,vph:=4}:St)=T
  have li:LI S.now T:=by rw[←hT];exact h.li.same rfl (fun s hs=>hs)
  have iv:IvS D lc T:=by rw[←hT];exact IvS.cong h.iv rfl rfl rfl rfl rfl rfl rfl rfl rfl rfl rfl rfl rfl
  have hd:Hd 0 0 S T:=by rw[←hT];exact Hd.same rfl rfl rfl rfl rfl
  have hp2:T.sph=2:=by rw[←hT];exact hp
  have hq:Q T 2=Q S 2:=by rw[←hT];rfl
  refine h.same (finS li iv (.inr hp2) (Iv.tok0 iv (by omega)) (by rw[hq];omega) hsl) ?_
  have hf:=Hd.fin T
  exact⟨fun l=>hf.li (hd.li l),fun l i=>(hf.tk (hd.li l) i).trans (hd.tk l i),hf.now.trans hd.now,fun l=>by have:=hf.c15 (hd.li l);have:=hd.c15 l;omega,by have:=hf.sss;have:=hd.sss;omega,hf.vc.trans hd.vc⟩
 ·exact h.same (IvS.cong h.iv rfl rfl rfl rfl rfl rfl rfl rfl rfl rfl rfl rfl rfl) (Hd.same rfl rfl rfl rfl rfl)
theorem Inv.halt (h:Inv D lc S) (s:Int):Inv D lc (Nw.tell S 3 ⟨13,s,0,0,0⟩):=by
 refine h.same (put3 h.li ?_) ((Hd.refl S).tell0 (i:=3) (by decide) _ (.inl (by decide)))
 have iv:Iv D lc (Q S 1) (Q S 2) (Q S 3) (Q S 4) (Q S 5) S:=h.iv
 refine iv.q3app _ (.inr (.inr rfl)) ?_ (fun e=>by rcases e with e|e<;>cases e) (fun e=>by cases e)
 rw[ck_app,ck_app,if_neg (by show¬(13:Int)=6;decide),if_neg (by show¬(13:Int)=7;decide)]
 exact iv.tk
theorem gr_bd {cs:List Sx.Cl} {Dr Bk N a b un now:Int} (h1:cs.length=1) (h:Sx.grE cs Dr Bk N 0 a b un now=0):((0≤a∧a≤Dr)∧0≤b∧b≤Bk)∧Sx.grL cs Dr Bk N 0 a b un now=Sx.gLs cs 0 a b un:=by
 have hL:Sx.grL cs Dr Bk N 0 a b un now=Sx.gLs cs 0 a b un:=by unfold Sx.grL;rw[if_pos h];rfl
 refine⟨?_,hL⟩
 unfold Sx.grE at h
 rw[if_pos (by omega)]at h
 unfold Sx.gE at h
 split at h
 ·rename_i ha
  split at h
  ·cases h
  split at h
  ·cases h
  split at h
  ·cases h
  ·rename_i hs
   have e1: ∀x,Sx.sumD cs now 0 x cs.length=0+x:=fun x=>by rw[h1];rfl
   have e2: ∀x,Sx.sumB cs now 0 x cs.length=0+x:=fun x=>by rw[h1];rfl
   have e0:(0:Int).toNat=0:=rfl
   rw[e0,e1,e2]at hs
   obtain⟨a1,a2,a3⟩:=ha
   omega
 ·cases h
theorem Inv.lease (h:Inv D lc S) (a b c:Int) (h0:leaseE D S a b c=0):Inv D (lc+1) (leaseS D S a b c):=by
 have hg:grE D S a b c=0:=by
  unfold leaseE at h0
  split at h0
  ·cases h0
  split at h0
  ·cases h0
  ·exact h0
 have hb:=gr_bd h.iv.cl hg
 unfold leaseS
 have hl:grL D S a b c=Sx.gLs S.cs 0 a b (wr (S.now+c)):=hb.2
 rw[hl]
 generalize hT:({S with cs:=Sx.grS S.cs D.dr D.bk S.sN 0 a b (wr (S.now+c)) S.now,sN:=Sx.grN S.cs D.dr D.bk S.sN 0 a b (wr (S.now+c)) S.now}:St)=T
 have li:LI S.now T:=by rw[←hT];exact h.li.same rfl (fun s hs=>hs)
 have iv:IvS D lc T:=by
  rw[←hT]
  refine IvS.cong h.iv rfl rfl rfl rfl rfl rfl rfl rfl rfl rfl rfl rfl ?_
  show(Sx.grS S.cs D.dr D.bk S.sN 0 a b (wr (S.now+c)) S.now).length=S.cs.length
  unfold Sx.grS Sx.gS
  split
  ·rw[List.length_set]
  ·rfl
 have hd:Hd 0 0 S T:=by rw[←hT];exact Hd.same rfl rfl rfl rfl rfl
 have iv3:Iv D (lc+1) (Q T 1) (Q T 2) (Q T 3++[⟨14,(Sx.gLs S.cs 0 a b (wr (S.now+c))).n,(Sx.gLs S.cs 0 a b (wr (S.now+c))).d,(Sx.gLs S.cs 0 a b (wr (S.now+c))).b,(Sx.gLs S.cs 0 a b (wr (S.now+c))).u⟩]) (Q T 4) (Q T 5) T:=by
  generalize (Sx.gLs S.cs 0 a b (wr (S.now+c))).n=x1
  generalize (Sx.gLs S.cs 0 a b (wr (S.now+c))).u=x4
  have iv2:Iv D lc (Q T 1) (Q T 2) (Q T 3) (Q T 4) (Q T 5) T:=iv
  exact{iv2 with
   tk:=by
    rw[ck_app,ck_app,if_neg (by show¬(14:Int)=6;decide),if_neg (by show¬(14:Int)=7;decide)]
    exact iv2.tk
   t3:=fun y hy e=>by
    rcases List.mem_append.1 hy with q|q
    ·exact iv2.t3 y q e
    ·obtain rfl:=List.mem_singleton.1 q;rcases e with e|e<;>cases e
   rf:=fun y hy e=>by
    rcases List.mem_append.1 hy with q|q
    ·exact iv2.rf y q e
    ·obtain rfl:=List.mem_singleton.1 q;cases e
   b3:=fun y hy e=>by
    rcases List.mem_append.1 hy with q|q
    ·exact iv2.b3 y q e
    ·obtain rfl:=List.mem_singleton.1 q;cases e
   oo:=fun e=>by
    have:=iv2.oo e
    rw[cs_app,if_neg (by show¬((14:Int)=10∧_);omega)]
    exact this
   o3:=fun y hy e=>by
    rcases List.mem_append.1 hy with q|q
    ·exact iv2.o3 y q e
    ·obtain rfl:=List.mem_singleton.1 q;cases e
   ld:=by
    have:=iv2.ld
    rw[ck_app,if_pos rfl]
    omega
   l3:=fun y hy e=>by
    rcases List.mem_append.1 hy with q|q
    ·exact iv2.l3 y q e
    ·obtain rfl:=List.mem_singleton.1 q
     exact hb.1}
 have hh:Inv D lc T:=h.same iv hd
 exact Inv.step hh.li (by have:=hh.st;omega) (by have:=hh.lt;omega) hh.now hh.cw ((Hd.refl T).tell0 (i:=3) (by decide) _ (.inl (by decide))) (put3 (lc:=lc+1) li iv3)
theorem Inv.do (h:Inv D lc S) (hb:lc+S.now≤150) (hlc:0≤lc) (h0:0≤D.sl) (hsl:D.sl≤6) (k a b c:Int) (hk3:k≠3) (hk8:k≠8):Inv D lc (Nw.doS D S k a b c)∧(Nw.doS D S k a b c).now=S.now∧(Nw.doS D S k a b c).vc=S.vc:=by
 unfold Nw.doS
 split
 ·exact⟨h,rfl,rfl⟩
 rename_i hE
 have hE0:doE D S k a b c=0:=Decidable.of_not_not hE
 split
 ·exact⟨h.plug a b,rfl,rfl⟩
 split
 ·refine⟨h.unplug hb hsl,?_,?_⟩
  ·unfold unplugS;split
   ·rfl
   split<;>rfl
  ·unfold unplugS;split
   ·rfl
   split<;>rfl
 split
 ·rename_i k4
  have hr:Cv.inB a 0 ((S.fl.length:Int)-1)=true:=by
   cases hq:Cv.inB a 0 ((S.fl.length:Int)-1)with
   |true=>rfl
   |false=>
    exfalso
    unfold doE at hE0
    rw[k4]at hE0
    simp[hq]at hE0
  have hi:=Cv.inB_iff.1 hr
  exact h.deliver hb hlc h0 hsl (by omega)
 split
 ·exact⟨h.fls (fun s hs=>List.mem_of_mem_eraseIdx hs),rfl,rfl⟩
 split
 ·split
  ·rename_i k6 hl
   have hr:Cv.inB a 0 ((S.fl.length:Int)-1)=true:=by
    cases hq:Cv.inB a 0 ((S.fl.length:Int)-1)with
    |true=>rfl
    |false=>
     exfalso
     unfold doE at hE0
     rw[k6]at hE0
     simp[hq]at hE0
   have hi:=Cv.inB_iff.1 hr
   refine⟨h.fls (fun s hs=>?_),rfl,rfl⟩
   rcases List.mem_append.1 hs with q|q
   ·exact q
   ·obtain rfl:=List.mem_singleton.1 q
    rw[List.getD_eq_getElem?_getD,List.getElem?_eq_getElem (by omega)]
    exact List.getElem_mem _
  ·exact⟨h,rfl,rfl⟩
 split
 ·exact⟨h.halt _,rfl,rfl⟩
 ·exact⟨h.same (IvS.cong h.iv rfl rfl rfl rfl rfl rfl rfl rfl rfl rfl rfl rfl rfl) (Hd.same rfl rfl rfl rfl rfl),rfl,rfl⟩
theorem Inv.do8 (h:Inv D lc S) (a b c:Int):Inv D (lc+1) (Nw.doS D S 8 a b c)∧(Nw.doS D S 8 a b c).now=S.now∧(Nw.doS D S 8 a b c).vc=S.vc:=by
 have hu:Inv D (lc+1) S:=⟨h.li,{(show Iv D lc (Q S 1) (Q S 2) (Q S 3) (Q S 4) (Q S 5) S from h.iv)with ld:=by have:=h.iv.ld;omega},h.st,h.lt,h.now,h.cw⟩
 unfold Nw.doS
 split
 ·exact⟨hu,rfl,rfl⟩
 rename_i hE
 have hE0:leaseE D S a b c=0:=Decidable.of_not_not hE
 exact⟨h.lease a b c hE0,rfl,rfl⟩
theorem do3 {p:Int} (hp: -1310720≤p∧p≤1310720) (hn:S.now<1099511627776):Nw.doE D S 3 p 0 0=0∧Nw.doS D S 3 p 0 0=Nw.tick D S p:=by
 have e:Nw.doE D S 3 p 0 0=0:=by
  have h1:Cv.inB p (-1073741824) 1073741824=true:=Cv.inB_iff.2 (by omega)
  show(if Cv.inB p (-1073741824) 1073741824=false then 3 else if 1099511627776≤S.now then 4 else 0)=0
  rw[h1,if_neg (by decide),if_neg (by omega)]
 refine⟨e,?_⟩
 unfold Nw.doS
 rw[e,if_neg (by decide)]
 rfl
/-! what has flowed -/
def gt (s:Int) (T:List (Int×Int)):Int:=(mget s T).getD 0
def TB (T B:List (Int×Int)) (S:St):Prop:= ∀t,gt t T=(Nw.count S t).i∧gt t B=(Nw.count S t).b
def tT (T:List (Int×Int)) (s f:Int):List (Int×Int):=if 0<f then mput s (wr (gt s T+f)) T else T
def tB (B:List (Int×Int)) (s f:Int):List (Int×Int):=if 0<f then B else mput s (wr (gt s B-f)) B
theorem gt_put (s t v:Int) (T:List (Int×Int)):gt t (mput s v T)=if s=t then v else gt t T:=by
 unfold gt
 rw[mget_mput]
 split<;>rfl
theorem TB.vc {T B:List (Int×Int)} (h:TB T B S) (e:S'.vc=S.vc):TB T B S':=fun t=>by
 have:Nw.count S' t=Nw.count S t:=by unfold Nw.count;rw[e]
 rw[this];exact h t
theorem flow_bd (h:Inv D lc S) (hD:D.dr≤1073741824∧D.bk≤1073741824) (p:Int): -D.bk≤flowOf S p∧flowOf S p≤D.dr:=by
 have hpo:=h.iv.po
 have h1:0≤Po.m1 S.po S.now∧Po.m1 S.po S.now≤D.dr:=by unfold Po.m1;split<;>omega
 have h2:0≤Po.m2 S.po S.now∧Po.m2 S.po S.now≤D.bk:=by unfold Po.m2;split<;>omega
 unfold flowOf
 rw[wr_in (x:= -Po.m2 S.po S.now) (by omega)]
 omega
theorem Tk.bd {p:Int} (h:Inv D lc S) (hD:D.dr≤1073741824∧D.bk≤1073741824) (k:Tk D S S' p) (h0:0≤D.dr∧0≤D.bk):(-D.bk≤S'.flow∧S'.flow≤D.dr)∧(S'.flow≠0→S'.inn=true):=by
 rw[k.flow,k.inn]
 split
 ·rename_i hb
  exact⟨flow_bd h hD p,fun _=>(flowB_yes hb).2.2.1⟩
 ·exact⟨by omega,fun e=>absurd rfl e⟩
theorem TB.tick {T B:List (Int×Int)} {p:Int} (hT:TB T B S) (h:Inv D lc S) (hD:D.dr≤1073741824∧D.bk≤1073741824) (k:Tk D S S' p):TB (tT T S'.sss S'.flow) (tB B S'.sss S'.flow) S':=by
 intro t
 have hc:Nw.count S' t=Nw.count (tick1 D S p) t:=by unfold Nw.count;rw[k.vc]
 rw[hc,k.sss,k.flow]
 have ht:=hT t
 have hs:=hT S.sss
 have hw:=h.cw S.sss
 by_cases hb:flowB D S=true
 ·rw[if_pos hb]
  have hf:=flow_bd h hD p
  obtain⟨_,_,_,_,hv⟩:=flowB_yes hb
  have ec:Nw.count (tick1 D S p) t=if S.sss=t then enAdd (Nw.count S S.sss) (flowOf S p)else Nw.count S t:=by
   unfold tick1
   rw[if_pos hb,count_put,hv]
   unfold enOf Nw.count
   rw[hv]
  rw[ec]
  generalize flowOf S p=f at hf
  generalize Nw.count S S.sss=e0 at hs hw
  unfold tT tB enAdd
  have hn:wr (-f)= -f:=wr_in (by omega)
  rw[hn]
  by_cases h0:0<f
  ·rw[if_pos h0,if_pos h0,gt_put]
   have m1:max 0 f=f:=by omega
   have m2:max 0 (-f)=0:=by omega
   rw[m1,m2,Int.add_zero]
   split
   ·rename_i e
    subst e
    exact⟨by rw[hs.1],by rw[hw.2];exact hs.2⟩
   ·exact ht
  ·rw[if_neg h0,if_neg h0,gt_put]
   have m1:max 0 f=0:=by omega
   have m2:max 0 (-f)= -f:=by omega
   rw[m1,m2,Int.add_zero]
   split
   ·rename_i e
    subst e
    exact⟨by rw[hw.1];exact hs.1,by rw[hs.2,Int.sub_eq_add_neg]⟩
   ·exact ht
 ·rw[if_neg hb]
  have ec:Nw.count (tick1 D S p) t=Nw.count S t:=by unfold tick1;rw[if_neg hb];rfl
  rw[ec]
  unfold tT tB
  rw[if_neg (by decide),if_neg (by decide),gt_put]
  refine⟨ht.1,?_⟩
  split
  ·rename_i e
   subst e
   rw[hs.2,Int.sub_zero,hw.2]
  ·exact ht.2
/-! the bills -/
theorem mget_mem {κ ν:Type} [DecidableEq κ] {k:κ} {v:ν}: ∀{l:List (κ×ν)},mget k l=some v→(k,v)∈l
 |[],h=>by cases h
 |x::l,h=>by
  unfold mget at h
  split at h
  ·rename_i e
   injection h with h
   subst e;subst h
   exact List.mem_cons_self
  ·exact List.mem_cons_of_mem _ (mget_mem h)
theorem op_of: ∀{ac:List Ac},ac.Pairwise (fun a b=>a.bl.s≠b.bl.s)→ ∀{a:Ac},a∈ac→a.dn=true→opBill a.bl.s ac=some a.bl
 |[],_,a,ha,_=>by cases ha
 |x::l,hn,a,ha,hd=>by
  have hn2:=List.pairwise_cons.1 hn
  unfold opBill
  rcases List.mem_cons.1 ha with q|q
  ·subst q
   rw[if_pos ⟨rfl,hd⟩]
  ·rw[if_neg (fun e=>hn2.1 a q e.1)]
   exact op_of hn2.2 q hd
theorem op_to {s:Int} {b:Bl}: ∀{ac:List Ac},opBill s ac=some b→ ∃a∈ac,a.dn=true∧a.bl=b∧b.s=s
 |[],h=>by cases h
 |x::l,h=>by
  unfold opBill at h
  split at h
  ·rename_i e
   injection h with h
   exact⟨x,List.mem_cons_self,e.2,h,by rw[←h];exact e.1⟩
  ·obtain⟨a,h1,h2⟩:=op_to h
   exact⟨a,List.mem_cons_of_mem _ h1,h2⟩
theorem book_op (h:Inv D lc S) {l:List (Int×Bl)} (hl: ∀e∈l,e.2.s=e.1∧Bill S.ac e.2) {s:Int} {b:Bl} (hm:mget s l=some b):opBill s S.ac=some b:=by
 have h1:=mget_mem hm
 obtain⟨h2,a,h3,h4,h5⟩:=hl _ h1
 have h6:=op_of h.iv.nd h3 h4
 rw[h5]at h6
 have h7:b.s=s:=h2
 rw[h7]at h6
 exact h6
theorem bills_one (h:Inv D lc S) {T B:List (Int×Int)} (hT:TB T B S) (s:Int):
 ((Nw.count S s).i=gt s T∧(Nw.count S s).b=gt s B)∧(∀q,0≤q∧q<4→(billE S q s=0∧billE S 2 s=0∧billV S q s=billV S 2 s)∨billE S q s=5)∧(billE S 2 s=0∨billE S 2 s=5)∧
 (billE S 2 s=0→(billV S 2 s).s=s∧(billV S 2 s).i=gt s T∧(billV S 2 s).b=gt s B):=by
 have ht:=hT s
 have e2:billP S 2 s=opBill s S.ac:=rfl
 have eE: ∀q,0≤q∧q<4→billE S q s=if (billP S q s).isSome then 0 else 5:=fun q hq=>by unfold billE;rw[if_neg (by omega)]
 have eV: ∀q,0≤q∧q<4→billV S q s=(billP S q s).getD default:=fun q hq=>by unfold billV;rw[if_neg (by omega)]
 have hP: ∀q,0≤q∧q<4→ ∀b,billP S q s=some b→opBill s S.ac=some b:=by
  intro q hq b hb
  unfold billP at hb
  split at hb
  ·exact book_op h h.iv.vb hb
  split at hb
  ·exact book_op h h.iv.sb hb
  split at hb
  ·exact hb
  ·exact book_op h h.iv.pb hb
 refine⟨⟨ht.1.symm,ht.2.symm⟩,fun q hq=>?_,?_,fun he=>?_⟩
 ·rw[eE q hq,eV q hq,eE 2 (by decide),eV 2 (by decide),e2]
  cases hb:billP S q s with
  |none=>right;rfl
  |some b=>
   left
   rw[hP q hq b hb]
   exact⟨rfl,rfl,rfl⟩
 ·rw[eE 2 (by decide)]
  split
  ·exact .inl rfl
  ·exact .inr rfl
 ·rw[eE 2 (by decide),e2]at he
  rw[eV 2 (by decide),e2]
  cases hb:opBill s S.ac with
  |none=>rw[hb]at he;cases he
  |some b=>
   obtain⟨a,h1,h2,h3,h4⟩:=op_to hb
   have h5:=h.iv.cn a h1 h2
   rw[h3,h4]at h5
   exact⟨h4,h5.1.symm.trans ht.1.symm,h5.2.symm.trans ht.2.symm⟩
theorem Inv.new (hD:(0≤D.dr∧0≤D.bk)) (h0:0≤D.sl):Inv D 0 st0:=by
 have el: ∀i,i<6→ln st0 i=Lx.ln0:=fun i hi=>by
  match i,hi with
  |0,_=>rfl
  |1,_=>rfl
  |2,_=>rfl
  |3,_=>rfl
  |4,_=>rfl
  |5,_=>rfl
 have eQ: ∀i,i<6→Q st0 i=[]:=fun i hi=>by unfold Q;rw[el i hi,el (oth i) (oth_lt hi)];rfl
 have li:LI (st0).now st0:=by
  refine⟨rfl,fun s hs=>(by cases hs),fun i hi=>?_,fun i hi=>?_,fun s hs=>(by cases hs)⟩
  ·rw[el i hi,el _ (oth_lt hi)]
   exact⟨by decide,by decide,fun e=>(by cases e),fun s hs=>(by cases hs),fun s hs=>(by cases hs)⟩
  ·rw[el i hi];exact⟨by decide,by decide⟩
 refine⟨li,?_,⟨by decide,by decide⟩,by rw[eQ 2 (by decide)];decide,by decide,fun t=>⟨(wr_in (x:=0) (by decide):wr 0=0),(wr_in (x:=0) (by decide):wr 0=0)⟩⟩
 ·unfold IvS
  rw[eQ 1 (by decide),eQ 2 (by decide),eQ 3 (by decide),eQ 4 (by decide),eQ 5 (by decide)]
  exact⟨.inl rfl,fun n hn=>(by cases hn),List.Pairwise.nil,by decide,fun n hn=>(by cases hn),fun n hn=>(by cases hn),fun n hn=>(by cases hn),fun n hn=>(by cases hn),fun n hn=>(by cases hn),List.Pairwise.nil,fun n hn=>(by cases hn),fun n hn=>(by cases hn),fun n hn=>(by cases hn),fun n hn=>(by cases hn),fun n hn=>(by cases hn),fun _=>⟨rfl,rfl⟩,fun t _=>rfl,fun _=>rfl,fun n hn=>(by cases hn),fun n hn=>(by cases hn),fun n hn=>(by cases hn),fun n hn=>(by cases hn),fun n hn=>(by cases hn),fun n hn=>(by cases hn),fun e=>(by rcases e with e|e<;>cases e),fun n hn=>(by cases hn),fun e=>(by rcases e with e|e<;>cases e),by decide,fun n hn=>(by cases hn),⟨⟨Int.le_refl _,hD.1⟩,Int.le_refl _,hD.2⟩,rfl⟩
theorem TB.new:TB [] [] st0:=fun t=>⟨rfl,rfl⟩
end Bq
end Go.Proofs.YtlklnaebdnahcaaGreat
namespace Go.Proofs.YtlklnaebdnahcaaGreat
open Go.RowKit Nw
def runC (n gT gB:Nat) (av:Nat→Value) (D:Dl) (bad wg:Bool):List Value:=
 [.pointer (some ⟨n,0,none⟩),av 0,av 1,av 2,av 3,av 4,av 5,av 6,.int .i64 D.dr,.int .i64 D.bk,.map (some gT),.map (some gB),.bool bad,.bool wg]
structure RunAt (w W:World) (gr n gT gB:Nat) (av:Nat→Value) (D:Dl) (S:St) (T B:List (Int×Int)) (bad wg:Bool):Prop where
 net:NetX w W n D S (fun k=>k=gr∨k=gT∨k=gB)
 blk:Blk W gr 145 (runC n gT gB av D bad wg)
 mT:MpAt kI kI W gT T
 mB:MpAt kI kI W gB B
 ne:gr≠gT∧gr≠gB∧gT≠gB
 bs:w.heap.size≤gr∧w.heap.size≤gT∧w.heap.size≤gB
section
variable {w W W':World} {gr n gT gB:Nat} {av:Nat→Value} {D:Dl} {S S':St} {T B:List (Int×Int)} {bad wg:Bool}
theorem RunAt.bX (h:RunAt w W gr n gT gB av D S T B bad wg): ∀k,(k=gr∨k=gT∨k=gB)→w.heap.size≤k:=by
 intro k hk
 rcases hk with rfl|rfl|rfl
 ·exact h.bs.1
 ·exact h.bs.2.1
 ·exact h.bs.2.2
theorem RunAt.below (h:RunAt w W gr n gT gB av D S T B bad wg) (hb:Below W.heap.size W W'):RunAt w W' gr n gT gB av D S T B bad wg:=
 ⟨h.net.below hb,h.blk.below hb h.blk.lt,h.mT.below hb,h.mB.below hb,h.ne,h.bs⟩
theorem RunAt.to (h:RunAt w W gr n gT gB av D S T B bad wg) (hn:NetX w W' n D S' (fun k=>k=gr∨k=gT∨k=gB)) (ht:Touch (fun k=> ¬(k=gr∨k=gT∨k=gB)) W W'):RunAt w W' gr n gT gB av D S' T B bad wg:=
 ⟨hn,h.blk.touch ht (fun e=>e (.inl rfl)),h.mT.touch ht (fun e=>e (.inr (.inl rfl))),h.mB.touch ht (fun e=>e (.inr (.inr rfl))),h.ne,h.bs⟩
theorem RunAt.do (h:RunAt w W gr n gT gB av D S T B bad wg) {K:Int} (ho:OkA K D S) (k a b c:Int):Calls Tryz.prog 24 #[.pointer (some ⟨n,0,none⟩),.agg #[.int .i64 k,.int .i64 a,.int .i64 b,.int .i64 c]] W fun e w'=>e=.returned (.int .i64 (doE D S k a b c))∧RunAt w w' gr n gT gB av D (doS D S k a b c) T B bad wg:=
 (do_xx h.net ho k a b c).mono fun e w' ⟨he,hn,ht⟩=>⟨he,h.to hn ht⟩
theorem RunAt.putT (h:RunAt w W gr n gT gB av D S T B bad wg) {T':List (Int×Int)} (hm:MpAt kI kI W' gT T') (ht:Touch (fun k=>k=gT) W W'):RunAt w W' gr n gT gB av D S T' B bad wg:=
 ⟨h.net.touch (ht.mono (fun k hk=>.inr (.inl hk))) h.bX,h.blk.touch ht h.ne.1,hm,h.mB.touch ht (fun e=>h.ne.2.2 e.symm),h.ne,h.bs⟩
theorem RunAt.putB (h:RunAt w W gr n gT gB av D S T B bad wg) {B':List (Int×Int)} (hm:MpAt kI kI W' gB B') (ht:Touch (fun k=>k=gB) W W'):RunAt w W' gr n gT gB av D S T B' bad wg:=
 ⟨h.net.touch (ht.mono (fun k hk=>.inr (.inr hk))) h.bX,h.blk.touch ht h.ne.2.1,h.mT.touch ht h.ne.2.2,hm,h.ne,h.bs⟩
theorem RunAt.setR (h:RunAt w W gr n gT gB av D S T B bad wg) {bad' wg':Bool} (hm:Blk W' gr 145 (runC n gT gB av D bad' wg')) (ht:Touch (fun k=>k=gr) W W'):RunAt w W' gr n gT gB av D S T B bad' wg':=
 ⟨h.net.touch (ht.mono (fun k hk=>.inl hk)) h.bX,hm,h.mT.touch ht (fun e=>h.ne.1 e.symm),h.mB.touch ht (fun e=>h.ne.2.1 e.symm),h.ne,h.bs⟩
end
theorem lookTk {W:World} {b:Nat} {l:List (Int×Int)} (h:MpAt kI kI W b l) (x:Int):(Instr.lookup 143 (.map (some b)) (.int .i64 x) false).run Tryz.prog W=.ok (.int .i64 (Bq.gt x l)) W:=by
 have:=h.look keyI Tryz.underlying143 x (z:=.int .i64 0) (by kernel_rfl) false
 rw[show((mget x l).map kI).getD (.int .i64 0)=kI ((mget x l).getD 0)from getD_map kI _ 0]at this
 exact this
def OkR (m:Nat) (D:Dl) (S:St):Prop:= ∃(K:Int) (A L:Nat),OkB K A L D S∧K≤64*(m:Int)∧A≤m∧L≤m
theorem OkR.do {m:Nat} {D:Dl} {S:St} (h:OkR m D S) (hm:m<90000) (k a b c:Int):OkR (m+1) D (Nw.doS D S k a b c):=by
 obtain⟨K,A,L,h1,h2,h3,h4⟩:=h
 exact⟨_,_,_,h1.doS (by omega) k a b c,by omega,by omega,by omega⟩
theorem OkR.a {m:Nat} {D:Dl} {S:St} (h:OkR m D S) (hm:m<90000): ∃K,OkA K D S:=by
 obtain⟨K,A,L,h1,h2,h3,h4⟩:=h
 exact⟨K,h1.a (by omega) (by omega)⟩
theorem OkR.fl {m:Nat} {D:Dl} {S:St} (h:OkR m D S):S.fl.length≤200:=by
 obtain⟨K,A,L,h1,h2,h3,h4⟩:=h
 exact h1.fl
theorem OkR.up {m m':Nat} {D:Dl} {S:St} (h:OkR m D S) (hm:m≤m'):OkR m' D S:=by
 obtain⟨K,A,L,h1,h2,h3,h4⟩:=h
 exact⟨K,A,L,h1,by omega,by omega,by omega⟩
noncomputable def drN (D:Dl):Nat→St→St
 |0,S=>S
 |n+1,S=>if S.fl.length=0 then S else drN D n (Nw.doS D S 4 0 0 0)
end Go.Proofs.YtlklnaebdnahcaaGreat
namespace Go.Proofs.YtlklnaebdnahcaaGreat
open Go.RowKit Nw
theorem NetS.toX {w W W':World} {n:Nat} {D:Dl} {S:St} (h:NetS w W n D S) (hb:Below W.heap.size W W') {X:Nat→Prop} (hX: ∀k,X k→W.heap.size≤k∧k<W'.heap.size):NetX w W' n D S X:=by
 obtain⟨col,M,B,h1,h2,h3,h4⟩:=h
 refine⟨_,M,B,h1.recol.below hb,Nat.le_trans h2 hb.size,fun k hk=>?_,h4.trans (hb.mono h4.size),fun k hk=>⟨(hX k hk).2,fresh_not (hX k hk).1⟩⟩
 have:=h3 k hk
 unfold NetOwn at this ⊢
 rw[ncol_old (Nat.lt_of_lt_of_le hk h4.size)]
 exact this
theorem NetS.down {w W W':World} {n:Nat} {D:Dl} {S:St} (h:NetS W W' n D S) (hb:Below w.heap.size w W):NetS w W' n D S:=by
 obtain⟨col,M,B,h1,h2,h3,h4⟩:=h
 exact⟨col,M,B,h1,h2,fun k hk=>h3 k (Nat.lt_of_lt_of_le hk hb.size),hb.trans (h4.mono hb.size)⟩
theorem bg_deal (ev sl cr:Int) (hev:0≤ev∧ev≤255) (hsl:0≤sl∧sl≤255) (hcr:0≤cr∧cr≤255) (w:World):Calls Tryz.prog 43 #[.int .u8 ev,.int .u8 sl,.int .u8 cr] w fun e w'=> ∃ge A c cts,e=.returned (.agg #[.int .i64 100,.slice (some ⟨ge,0,none⟩) 2 2,.int .i64 10,.slice A 2 c,.int .i64 cr,.int .i64 (1+ev%5),.int .i64 (1+sl%6),.int .i64 1000000,.int .i64 1000000])∧BandsAt w' (some ⟨ge,0,none⟩) exBs∧CtsAt w' A cts∧cts.map toCn=xCn∧cts.length=2∧2≤c∧c≤9223372036854775807∧Below w.heap.size w w':=
 deal_c ev sl cr hev hsl hcr w
theorem begin_c (ev sl cr:Int) (hev:0≤ev∧ev≤255) (hsl:0≤sl∧sl≤255) (hcr:0≤cr∧cr≤255) (w:World):Calls Tryz.prog 40 #[.int .u8 ev,.int .u8 sl,.int .u8 cr] w fun e w'=> ∃gr n gT gB av,e=.returned (.pointer (some ⟨gr,0,none⟩))∧RunAt w w' gr n gT gB av ⟨100,10,exBs,xCn,cr,1+ev%5,1+sl%6,1000000,1000000⟩ st0 [] [] false false:=by
 have PD:=zh (bg_deal ev sl cr hev hsl hcr w)
 obtain⟨ee,hee⟩: ∃ee,ee=1+ev%5:=⟨_,rfl⟩
 obtain⟨es,hes⟩: ∃es,es=1+sl%6:=⟨_,rfl⟩
 have he1:1≤ee∧ee≤1000:=by omega
 have he2:1≤es∧es≤20:=by omega
 have PN0:=zh (fun (ge:Nat) (A:Option Addr) (c:Nat) (cts:List Ct) (W:World)=>new_n (ev:=ee) (sl:=es) (cr:=cr) (ge:=ge) (A:=A) (c:=c) (cts:=cts) (w:=W) (W:=W) he1 he2 hcr (Below.refl _ _))
 rw[←hee,←hes]at PD ⊢
 clear hee hes he1 he2 hev hsl hcr
 go_enter Tryz.func40,Tryz.ntmps40
 go_upto_region 2 with (go_at_call 43;refine(PD.out).mono ?_;rintro e w2 ⟨ge,A,cp,cts,rfl,h1,h2,h3,h4,h5,h6,h7⟩;have HD:=zh (And.intro h1 (And.intro h2 (And.intro h3 (And.intro h4 (And.intro h5 (And.intro h6 h7))))));clear h1 h2 h3 h4 h5 h6 h7)
 have al:=(Below.refl w2.heap.size w2).alloc (Nat.le_refl _) (.cells #[.int .i64 100,.slice (some ⟨ge,0,none⟩) 2 2,.int .i64 10,.slice A 2 cp,.int .i64 cr,.int .i64 ee,.int .i64 es,.int .i64 1000000,.int .i64 1000000] 72)
 have HX:=zh (Blk.new' w2 #[.int .i64 100,.slice (some ⟨ge,0,none⟩) 2 2,.int .i64 10,.slice A 2 cp,.int .i64 cr,.int .i64 ee,.int .i64 es,.int .i64 1000000,.int .i64 1000000] 72)
 have PN:=zh (PN0.out ge A cp cts (w2.alloc (.cells #[.int .i64 100,.slice (some ⟨ge,0,none⟩) 2 2,.int .i64 10,.slice A 2 cp,.int .i64 cr,.int .i64 ee,.int .i64 es,.int .i64 1000000,.int .i64 1000000] 72)) (HD.out.1.below al) (HD.out.2.1.below al) HD.out.2.2.1 HD.out.2.2.2.1 HD.out.2.2.2.2.1 HD.out.2.2.2.2.2.1)
 have HW3:=zh (HD.out.2.2.2.2.2.2.trans (al.mono HD.out.2.2.2.2.2.2.size))
 generalize w2.alloc (.cells #[.int .i64 100,.slice (some ⟨ge,0,none⟩) 2 2,.int .i64 10,.slice A 2 cp,.int .i64 cr,.int .i64 ee,.int .i64 es,.int .i64 1000000,.int .i64 1000000] 72)=w3 at HX PN HW3 ⊢
 generalize w2.heap.size=gd at HX ⊢
 have x0:=HX.out.cell 0 rfl
 have x1:=HX.out.cell 1 rfl
 have x2:=HX.out.cell 2 rfl
 have x3:=HX.out.cell 3 rfl
 have x4:=HX.out.cell 4 rfl
 have x5:=HX.out.cell 5 rfl
 have x6:=HX.out.cell 6 rfl
 have x7:=HX.out.cell 7 rfl
 have x8:=HX.out.cell 8 rfl
 have xl:=HX.out.lt
 clear al
 go_upto_region 3 with (go_at_call 34;refine(PN.out).mono ?_;rintro e w4 ⟨n,rfl,hn⟩;have HN:=zh hn;clear hn)
 clear x0 x1 x2 x3 x4 x5 x6 x7 x8 xl PN
 have HX4:=zh (HX.out.below HN.out.bel HX.out.lt)
 have x0:=HX4.out.cell 0 rfl
 have x1:=HX4.out.cell 1 rfl
 have x2:=HX4.out.cell 2 rfl
 have x3:=HX4.out.cell 3 rfl
 have x4:=HX4.out.cell 4 rfl
 have x5:=HX4.out.cell 5 rfl
 have x6:=HX4.out.cell 6 rfl
 have x7:=HX4.out.cell 7 rfl
 have x8:=HX4.out.cell 8 rfl
 have xl:=HX4.out.lt
 have qm: ∀w:World,(Instr.makeMap 143 none).run Tryz.prog w=.ok (.map (some w.heap.size)) (w.alloc (.map #[] 0)):=fun w=>by kernel_rfl
 go_upto_region 5 with fail
 go_wp2_with fail
 have a1:=(Below.refl w4.heap.size w4).alloc (Nat.le_refl _) (.map #[] 0)
 have s1:(w4.alloc (.map #[] 0)).heap.size=w4.heap.size+1:=by simp
 have m1:MpAt kI kI (w4.alloc (.map #[] 0)) w4.heap.size ([]:List (Int×Int)):=MpAt.made w4
 generalize w4.alloc (.map #[] 0)=w5 at a1 s1 m1 ⊢
 have a2:=(Below.refl w5.heap.size w5).alloc (Nat.le_refl _) (.map #[] 0)
 have s2:(w5.alloc (.map #[] 0)).heap.size=w5.heap.size+1:=by simp
 have m2:MpAt kI kI (w5.alloc (.map #[] 0)) w5.heap.size ([]:List (Int×Int)):=MpAt.made w5
 generalize w5.alloc (.map #[] 0)=w6 at a2 s2 m2 ⊢
 have a3:=(Below.refl w6.heap.size w6).alloc (Nat.le_refl _) (.cells #[.pointer (some ⟨n,0,none⟩),.int .i64 100,.slice (some ⟨ge,0,none⟩) 2 2,.int .i64 10,.slice A 2 cp,.int .i64 cr,.int .i64 ee,.int .i64 es,.int .i64 1000000,.int .i64 1000000,.map (some w4.heap.size),.map (some (w4.heap.size+1)),.bool false,.bool false] 145)
 have s3:(w6.alloc (.cells #[.pointer (some ⟨n,0,none⟩),.int .i64 100,.slice (some ⟨ge,0,none⟩) 2 2,.int .i64 10,.slice A 2 cp,.int .i64 cr,.int .i64 ee,.int .i64 es,.int .i64 1000000,.int .i64 1000000,.map (some w4.heap.size),.map (some (w4.heap.size+1)),.bool false,.bool false] 145)).heap.size=w6.heap.size+1:=by simp
 have hb:=Blk.new' w6 #[.pointer (some ⟨n,0,none⟩),.int .i64 100,.slice (some ⟨ge,0,none⟩) 2 2,.int .i64 10,.slice A 2 cp,.int .i64 cr,.int .i64 ee,.int .i64 es,.int .i64 1000000,.int .i64 1000000,.map (some w4.heap.size),.map (some (w4.heap.size+1)),.bool false,.bool false] 145
 generalize w6.alloc (.cells #[.pointer (some ⟨n,0,none⟩),.int .i64 100,.slice (some ⟨ge,0,none⟩) 2 2,.int .i64 10,.slice A 2 cp,.int .i64 cr,.int .i64 ee,.int .i64 es,.int .i64 1000000,.int .i64 1000000,.map (some w4.heap.size),.map (some (w4.heap.size+1)),.bool false,.bool false] 145)=w7 at a3 s3 hb ⊢
 have e6:w6.heap.size=w4.heap.size+1+1:=by omega
 have e5:w5.heap.size=w4.heap.size+1:=s1
 rw[e5]at m2 a2
 rw[e6]at hb a3
 have b2:Below w4.heap.size w4 w6:=a1.trans (a2.mono (Nat.le_succ _))
 have b3:Below w4.heap.size w4 w7:=b2.trans (a3.mono (by omega))
 have hw4:=HW3.out.size
 have hw5:=HN.out.bel.size
 have HRR:=zh (show RunAt w w7 (w4.heap.size+1+1) n w4.heap.size (w4.heap.size+1) (fun i=>([.int .i64 100,.slice (some ⟨ge,0,none⟩) 2 2,.int .i64 10,.slice A 2 cp,.int .i64 cr,.int .i64 ee,.int .i64 es]:List Value).getD i undef) ⟨100,10,exBs,xCn,cr,ee,es,1000000,1000000⟩ st0 [] [] false false from
  ⟨(HN.out.down HW3.out).toX b3 (fun k hk=>by omega),hb,(m1.below (a2.mono (Nat.le_of_eq e5) |>.mono (Nat.le_refl _))).below (by rw[e6];exact a3),m2.below (by rw[e6];exact a3),⟨by omega,by omega,by omega⟩,⟨by omega,by omega,by omega⟩⟩)
 exact bodyPost_ret (v:=.pointer (some ⟨w4.heap.size+1+1,0,none⟩)) (by simp[results,Tryz.results40,go_sem]) rfl ⟨_,_,_,_,_,rfl,HRR.out⟩
end Go.Proofs.YtlklnaebdnahcaaGreat
namespace Go.Proofs.YtlklnaebdnahcaaGreat
open Go.RowKit Nw
theorem mod_in {b:Int} (hb:0≤b∧b≤255):wrap64 b=b∧IntKind.i64.wrap b=b:=by
 have h:IntKind.i64.wrap b=b:=IntWalk.i64_in _ (by omega)
 exact⟨by rw[←IntWalk.i64_left];exact h,h⟩
theorem act_5 {w W:World} {gr n gT gB:Nat} {av:Nat→Value} {D:Dl} {S:St} {T B:List (Int×Int)} {bad wg:Bool} (h:RunAt w W gr n gT gB av D S T B bad wg) {m:Nat} (ho:OkR m D S) (hm:m<80000) (d A b:Int) (hb:0≤b∧b≤255) (hk:d.tmod 16=5):
 Calls Tryz.prog 41 #[.pointer (some ⟨gr,0,none⟩),.agg #[.int .u8 d,.int .i16 A,.int .u8 b]] W fun e w'=>e=.returned (.tuple #[])∧RunAt w w' gr n gT gB av D (Nw.doS D S 4 (b%4) 0 0) T B bad wg:=by
 obtain⟨K,hoa⟩:=ho.a (by omega)
 have al:=(Below.refl W.heap.size W).alloc (Nat.le_refl _) (.cells #[.int .u8 d,.int .i16 A,.int .u8 b] 142)
 have HX:=zh (Blk.new' W #[.int .u8 d,.int .i16 A,.int .u8 b] 142)
 have H1:=zh (h.below al)
 have HGL:=zh (show gr<W.heap.size from h.blk.lt)
 have PD:=zh (fun V (hV:RunAt w V gr n gT gB av D S T B bad wg)=>hV.do hoa 4 (b%4) 0 0)
 have HB:=zh hb
 obtain⟨fw,fi⟩:=mod_in hb
 have b0:0≤b:=hb.1
 clear h ho hm hoa al hb
 go_enter Tryz.func41,Tryz.ntmps41
 go_upto_region 1 with fail
 generalize W.alloc (.cells #[.int .u8 d,.int .i16 A,.int .u8 b] 142)=w1 at *
 obtain⟨gb,hgb⟩: ∃gb,gb=W.heap.size:=⟨_,rfl⟩
 rw[←hgb]at HX HGL ⊢
 have HG:=zh hgb
 clear hgb
 have x0:=HX.out.cell 0 rfl
 have xl:=HX.out.lt
 go_upto_region 32 with fail
 clear x0 xl
 refine wp_region_then 9 _ ?af rfl (by kernel_rfl) (by kernel_rfl) ?walk ?tail
 case walk=>
  intro V hV
  have q0:=(H1.out.below hV).blk.cell 0 rfl
  have nl:=(H1.out.below hV).blk.lt
  have r0:=HX.out.below hV HX.out.lt
  have x2:=r0.cell 2 rfl
  have gl:=r0.lt
  clear r0
  clear hV
  simp only[List.take_succ_cons,List.take_zero]
  repeat(go_big_quiet_step (fail))
  refine wpQuiet_nil ?_
  rfl
 intro w8 hb8
 have H8:=zh (H1.out.below hb8)
 clear hb8
 go_simp
 refine(PD.out _ H8.out).mono ?_
 rintro e w9 ⟨rfl,hr⟩
 have HR:=zh hr
 clear hr
 dsimp only
 refine wpQuiet_nil ?_
 intro xx
 have HR2:=zh (HR.out.below xx.far)
 go_wp2_with fail
 exact bodyPost_end (v:=.tuple #[]) (by simp[results,Tryz.results41,go_sem]) rfl ⟨rfl,HR2.out⟩
theorem act_6 {w W:World} {gr n gT gB:Nat} {av:Nat→Value} {D:Dl} {S:St} {T B:List (Int×Int)} {bad wg:Bool} (h:RunAt w W gr n gT gB av D S T B bad wg) {m:Nat} (ho:OkR m D S) (hm:m<80000) (d A b:Int) (hb:0≤b∧b≤255) (hk:d.tmod 16=6):
 Calls Tryz.prog 41 #[.pointer (some ⟨gr,0,none⟩),.agg #[.int .u8 d,.int .i16 A,.int .u8 b]] W fun e w'=>e=.returned (.tuple #[])∧RunAt w w' gr n gT gB av D (Nw.doS D S 4 (b%4) 0 0) T B bad wg:=by
 obtain⟨K,hoa⟩:=ho.a (by omega)
 have al:=(Below.refl W.heap.size W).alloc (Nat.le_refl _) (.cells #[.int .u8 d,.int .i16 A,.int .u8 b] 142)
 have HX:=zh (Blk.new' W #[.int .u8 d,.int .i16 A,.int .u8 b] 142)
 have H1:=zh (h.below al)
 have HGL:=zh (show gr<W.heap.size from h.blk.lt)
 have PD:=zh (fun V (hV:RunAt w V gr n gT gB av D S T B bad wg)=>hV.do hoa 4 (b%4) 0 0)
 have HB:=zh hb
 obtain⟨fw,fi⟩:=mod_in hb
 have b0:0≤b:=hb.1
 clear h ho hm hoa al hb
 go_enter Tryz.func41,Tryz.ntmps41
 go_upto_region 1 with fail
 generalize W.alloc (.cells #[.int .u8 d,.int .i16 A,.int .u8 b] 142)=w1 at *
 obtain⟨gb,hgb⟩: ∃gb,gb=W.heap.size:=⟨_,rfl⟩
 rw[←hgb]at HX HGL ⊢
 have HG:=zh hgb
 clear hgb
 have x0:=HX.out.cell 0 rfl
 have xl:=HX.out.lt
 go_upto_region 32 with fail
 clear x0 xl
 refine wp_region_then 9 _ ?af rfl (by kernel_rfl) (by kernel_rfl) ?walk ?tail
 case walk=>
  intro V hV
  have q0:=(H1.out.below hV).blk.cell 0 rfl
  have nl:=(H1.out.below hV).blk.lt
  have r0:=HX.out.below hV HX.out.lt
  have x2:=r0.cell 2 rfl
  have gl:=r0.lt
  clear r0
  clear hV
  simp only[List.take_succ_cons,List.take_zero]
  repeat(go_big_quiet_step (fail))
  refine wpQuiet_nil ?_
  rfl
 intro w8 hb8
 have H8:=zh (H1.out.below hb8)
 clear hb8
 go_simp
 refine(PD.out _ H8.out).mono ?_
 rintro e w9 ⟨rfl,hr⟩
 have HR:=zh hr
 clear hr
 dsimp only
 refine wpQuiet_nil ?_
 intro xx
 have HR2:=zh (HR.out.below xx.far)
 go_wp2_with fail
 exact bodyPost_end (v:=.tuple #[]) (by simp[results,Tryz.results41,go_sem]) rfl ⟨rfl,HR2.out⟩
theorem act_7 {w W:World} {gr n gT gB:Nat} {av:Nat→Value} {D:Dl} {S:St} {T B:List (Int×Int)} {bad wg:Bool} (h:RunAt w W gr n gT gB av D S T B bad wg) {m:Nat} (ho:OkR m D S) (hm:m<80000) (d A b:Int) (hb:0≤b∧b≤255) (hk:d.tmod 16=7):
 Calls Tryz.prog 41 #[.pointer (some ⟨gr,0,none⟩),.agg #[.int .u8 d,.int .i16 A,.int .u8 b]] W fun e w'=>e=.returned (.tuple #[])∧RunAt w w' gr n gT gB av D (Nw.doS D S 4 (b%4) 0 0) T B bad wg:=by
 obtain⟨K,hoa⟩:=ho.a (by omega)
 have al:=(Below.refl W.heap.size W).alloc (Nat.le_refl _) (.cells #[.int .u8 d,.int .i16 A,.int .u8 b] 142)
 have HX:=zh (Blk.new' W #[.int .u8 d,.int .i16 A,.int .u8 b] 142)
 have H1:=zh (h.below al)
 have HGL:=zh (show gr<W.heap.size from h.blk.lt)
 have PD:=zh (fun V (hV:RunAt w V gr n gT gB av D S T B bad wg)=>hV.do hoa 4 (b%4) 0 0)
 have HB:=zh hb
 obtain⟨fw,fi⟩:=mod_in hb
 have b0:0≤b:=hb.1
 clear h ho hm hoa al hb
 go_enter Tryz.func41,Tryz.ntmps41
 go_upto_region 1 with fail
 generalize W.alloc (.cells #[.int .u8 d,.int .i16 A,.int .u8 b] 142)=w1 at *
 obtain⟨gb,hgb⟩: ∃gb,gb=W.heap.size:=⟨_,rfl⟩
 rw[←hgb]at HX HGL ⊢
 have HG:=zh hgb
 clear hgb
 have x0:=HX.out.cell 0 rfl
 have xl:=HX.out.lt
 go_upto_region 32 with fail
 clear x0 xl
 refine wp_region_then 9 _ ?af rfl (by kernel_rfl) (by kernel_rfl) ?walk ?tail
 case walk=>
  intro V hV
  have q0:=(H1.out.below hV).blk.cell 0 rfl
  have nl:=(H1.out.below hV).blk.lt
  have r0:=HX.out.below hV HX.out.lt
  have x2:=r0.cell 2 rfl
  have gl:=r0.lt
  clear r0
  clear hV
  simp only[List.take_succ_cons,List.take_zero]
  repeat(go_big_quiet_step (fail))
  refine wpQuiet_nil ?_
  rfl
 intro w8 hb8
 have H8:=zh (H1.out.below hb8)
 clear hb8
 go_simp
 refine(PD.out _ H8.out).mono ?_
 rintro e w9 ⟨rfl,hr⟩
 have HR:=zh hr
 clear hr
 dsimp only
 refine wpQuiet_nil ?_
 intro xx
 have HR2:=zh (HR.out.below xx.far)
 go_wp2_with fail
 exact bodyPost_end (v:=.tuple #[]) (by simp[results,Tryz.results41,go_sem]) rfl ⟨rfl,HR2.out⟩
theorem act_8 {w W:World} {gr n gT gB:Nat} {av:Nat→Value} {D:Dl} {S:St} {T B:List (Int×Int)} {bad wg:Bool} (h:RunAt w W gr n gT gB av D S T B bad wg) {m:Nat} (ho:OkR m D S) (hm:m<80000) (d A b:Int) (hb:0≤b∧b≤255) (hk:d.tmod 16=8):
 Calls Tryz.prog 41 #[.pointer (some ⟨gr,0,none⟩),.agg #[.int .u8 d,.int .i16 A,.int .u8 b]] W fun e w'=>e=.returned (.tuple #[])∧RunAt w w' gr n gT gB av D (Nw.doS D S 4 (b%4) 0 0) T B bad wg:=by
 obtain⟨K,hoa⟩:=ho.a (by omega)
 have al:=(Below.refl W.heap.size W).alloc (Nat.le_refl _) (.cells #[.int .u8 d,.int .i16 A,.int .u8 b] 142)
 have HX:=zh (Blk.new' W #[.int .u8 d,.int .i16 A,.int .u8 b] 142)
 have H1:=zh (h.below al)
 have HGL:=zh (show gr<W.heap.size from h.blk.lt)
 have PD:=zh (fun V (hV:RunAt w V gr n gT gB av D S T B bad wg)=>hV.do hoa 4 (b%4) 0 0)
 have HB:=zh hb
 obtain⟨fw,fi⟩:=mod_in hb
 have b0:0≤b:=hb.1
 clear h ho hm hoa al hb
 go_enter Tryz.func41,Tryz.ntmps41
 go_upto_region 1 with fail
 generalize W.alloc (.cells #[.int .u8 d,.int .i16 A,.int .u8 b] 142)=w1 at *
 obtain⟨gb,hgb⟩: ∃gb,gb=W.heap.size:=⟨_,rfl⟩
 rw[←hgb]at HX HGL ⊢
 have HG:=zh hgb
 clear hgb
 have x0:=HX.out.cell 0 rfl
 have xl:=HX.out.lt
 go_upto_region 32 with fail
 clear x0 xl
 refine wp_region_then 9 _ ?af rfl (by kernel_rfl) (by kernel_rfl) ?walk ?tail
 case walk=>
  intro V hV
  have q0:=(H1.out.below hV).blk.cell 0 rfl
  have nl:=(H1.out.below hV).blk.lt
  have r0:=HX.out.below hV HX.out.lt
  have x2:=r0.cell 2 rfl
  have gl:=r0.lt
  clear r0
  clear hV
  simp only[List.take_succ_cons,List.take_zero]
  repeat(go_big_quiet_step (fail))
  refine wpQuiet_nil ?_
  rfl
 intro w8 hb8
 have H8:=zh (H1.out.below hb8)
 clear hb8
 go_simp
 refine(PD.out _ H8.out).mono ?_
 rintro e w9 ⟨rfl,hr⟩
 have HR:=zh hr
 clear hr
 dsimp only
 refine wpQuiet_nil ?_
 intro xx
 have HR2:=zh (HR.out.below xx.far)
 go_wp2_with fail
 exact bodyPost_end (v:=.tuple #[]) (by simp[results,Tryz.results41,go_sem]) rfl ⟨rfl,HR2.out⟩
theorem act_9 {w W:World} {gr n gT gB:Nat} {av:Nat→Value} {D:Dl} {S:St} {T B:List (Int×Int)} {bad wg:Bool} (h:RunAt w W gr n gT gB av D S T B bad wg) {m:Nat} (ho:OkR m D S) (hm:m<80000) (d A b:Int) (hb:0≤b∧b≤255) (hk:d.tmod 16=9):
 Calls Tryz.prog 41 #[.pointer (some ⟨gr,0,none⟩),.agg #[.int .u8 d,.int .i16 A,.int .u8 b]] W fun e w'=>e=.returned (.tuple #[])∧RunAt w w' gr n gT gB av D (Nw.doS D S 5 (b%8) 0 0) T B bad wg:=by
 obtain⟨K,hoa⟩:=ho.a (by omega)
 have al:=(Below.refl W.heap.size W).alloc (Nat.le_refl _) (.cells #[.int .u8 d,.int .i16 A,.int .u8 b] 142)
 have HX:=zh (Blk.new' W #[.int .u8 d,.int .i16 A,.int .u8 b] 142)
 have H1:=zh (h.below al)
 have HGL:=zh (show gr<W.heap.size from h.blk.lt)
 have PD:=zh (fun V (hV:RunAt w V gr n gT gB av D S T B bad wg)=>hV.do hoa 5 (b%8) 0 0)
 have HB:=zh hb
 obtain⟨fw,fi⟩:=mod_in hb
 have b0:0≤b:=hb.1
 clear h ho hm hoa al hb
 go_enter Tryz.func41,Tryz.ntmps41
 go_upto_region 1 with fail
 generalize W.alloc (.cells #[.int .u8 d,.int .i16 A,.int .u8 b] 142)=w1 at *
 obtain⟨gb,hgb⟩: ∃gb,gb=W.heap.size:=⟨_,rfl⟩
 rw[←hgb]at HX HGL ⊢
 have HG:=zh hgb
 clear hgb
 have x0:=HX.out.cell 0 rfl
 have xl:=HX.out.lt
 go_upto_region 34 with fail
 clear x0 xl
 refine wp_region_then 9 _ ?af rfl (by kernel_rfl) (by kernel_rfl) ?walk ?tail
 case walk=>
  intro V hV
  have q0:=(H1.out.below hV).blk.cell 0 rfl
  have nl:=(H1.out.below hV).blk.lt
  have r0:=HX.out.below hV HX.out.lt
  have x2:=r0.cell 2 rfl
  have gl:=r0.lt
  clear r0
  clear hV
  simp only[List.take_succ_cons,List.take_zero]
  repeat(go_big_quiet_step (fail))
  refine wpQuiet_nil ?_
  rfl
 intro w8 hb8
 have H8:=zh (H1.out.below hb8)
 clear hb8
 go_simp
 refine(PD.out _ H8.out).mono ?_
 rintro e w9 ⟨rfl,hr⟩
 have HR:=zh hr
 clear hr
 dsimp only
 refine wpQuiet_nil ?_
 intro xx
 have HR2:=zh (HR.out.below xx.far)
 go_wp2_with fail
 exact bodyPost_end (v:=.tuple #[]) (by simp[results,Tryz.results41,go_sem]) rfl ⟨rfl,HR2.out⟩
theorem act_10 {w W:World} {gr n gT gB:Nat} {av:Nat→Value} {D:Dl} {S:St} {T B:List (Int×Int)} {bad wg:Bool} (h:RunAt w W gr n gT gB av D S T B bad wg) {m:Nat} (ho:OkR m D S) (hm:m<80000) (d A b:Int) (hb:0≤b∧b≤255) (hk:d.tmod 16=10):
 Calls Tryz.prog 41 #[.pointer (some ⟨gr,0,none⟩),.agg #[.int .u8 d,.int .i16 A,.int .u8 b]] W fun e w'=>e=.returned (.tuple #[])∧RunAt w w' gr n gT gB av D (Nw.doS D S 6 (b%8) 0 0) T B bad wg:=by
 obtain⟨K,hoa⟩:=ho.a (by omega)
 have al:=(Below.refl W.heap.size W).alloc (Nat.le_refl _) (.cells #[.int .u8 d,.int .i16 A,.int .u8 b] 142)
 have HX:=zh (Blk.new' W #[.int .u8 d,.int .i16 A,.int .u8 b] 142)
 have H1:=zh (h.below al)
 have HGL:=zh (show gr<W.heap.size from h.blk.lt)
 have PD:=zh (fun V (hV:RunAt w V gr n gT gB av D S T B bad wg)=>hV.do hoa 6 (b%8) 0 0)
 have HB:=zh hb
 obtain⟨fw,fi⟩:=mod_in hb
 have b0:0≤b:=hb.1
 clear h ho hm hoa al hb
 go_enter Tryz.func41,Tryz.ntmps41
 go_upto_region 1 with fail
 generalize W.alloc (.cells #[.int .u8 d,.int .i16 A,.int .u8 b] 142)=w1 at *
 obtain⟨gb,hgb⟩: ∃gb,gb=W.heap.size:=⟨_,rfl⟩
 rw[←hgb]at HX HGL ⊢
 have HG:=zh hgb
 clear hgb
 have x0:=HX.out.cell 0 rfl
 have xl:=HX.out.lt
 go_upto_region 36 with fail
 clear x0 xl
 refine wp_region_then 9 _ ?af rfl (by kernel_rfl) (by kernel_rfl) ?walk ?tail
 case walk=>
  intro V hV
  have q0:=(H1.out.below hV).blk.cell 0 rfl
  have nl:=(H1.out.below hV).blk.lt
  have r0:=HX.out.below hV HX.out.lt
  have x2:=r0.cell 2 rfl
  have gl:=r0.lt
  clear r0
  clear hV
  simp only[List.take_succ_cons,List.take_zero]
  repeat(go_big_quiet_step (fail))
  refine wpQuiet_nil ?_
  rfl
 intro w8 hb8
 have H8:=zh (H1.out.below hb8)
 clear hb8
 go_simp
 refine(PD.out _ H8.out).mono ?_
 rintro e w9 ⟨rfl,hr⟩
 have HR:=zh hr
 clear hr
 dsimp only
 refine wpQuiet_nil ?_
 intro xx
 have HR2:=zh (HR.out.below xx.far)
 go_wp2_with fail
 exact bodyPost_end (v:=.tuple #[]) (by simp[results,Tryz.results41,go_sem]) rfl ⟨rfl,HR2.out⟩
theorem act_13 {w W:World} {gr n gT gB:Nat} {av:Nat→Value} {D:Dl} {S:St} {T B:List (Int×Int)} {bad wg:Bool} (h:RunAt w W gr n gT gB av D S T B bad wg) {m:Nat} (ho:OkR m D S) (hm:m<80000) (d A b:Int) (hb:0≤b∧b≤255) (hk:d.tmod 16=13):
 Calls Tryz.prog 41 #[.pointer (some ⟨gr,0,none⟩),.agg #[.int .u8 d,.int .i16 A,.int .u8 b]] W fun e w'=>e=.returned (.tuple #[])∧RunAt w w' gr n gT gB av D (Nw.doS D S 9 (b%2) 0 0) T B bad wg:=by
 obtain⟨K,hoa⟩:=ho.a (by omega)
 have al:=(Below.refl W.heap.size W).alloc (Nat.le_refl _) (.cells #[.int .u8 d,.int .i16 A,.int .u8 b] 142)
 have HX:=zh (Blk.new' W #[.int .u8 d,.int .i16 A,.int .u8 b] 142)
 have H1:=zh (h.below al)
 have HGL:=zh (show gr<W.heap.size from h.blk.lt)
 have PD:=zh (fun V (hV:RunAt w V gr n gT gB av D S T B bad wg)=>hV.do hoa 9 (b%2) 0 0)
 have HB:=zh hb
 obtain⟨fw,fi⟩:=mod_in hb
 have b0:0≤b:=hb.1
 clear h ho hm hoa al hb
 go_enter Tryz.func41,Tryz.ntmps41
 go_upto_region 1 with fail
 generalize W.alloc (.cells #[.int .u8 d,.int .i16 A,.int .u8 b] 142)=w1 at *
 obtain⟨gb,hgb⟩: ∃gb,gb=W.heap.size:=⟨_,rfl⟩
 rw[←hgb]at HX HGL ⊢
 have HG:=zh hgb
 clear hgb
 have x0:=HX.out.cell 0 rfl
 have xl:=HX.out.lt
 go_upto_region 3 with fail
 clear x0 xl
 refine wp_region_then 9 _ ?af rfl (by kernel_rfl) (by kernel_rfl) ?walk ?tail
 case walk=>
  intro V hV
  have q0:=(H1.out.below hV).blk.cell 0 rfl
  have nl:=(H1.out.below hV).blk.lt
  have r0:=HX.out.below hV HX.out.lt
  have x2:=r0.cell 2 rfl
  have gl:=r0.lt
  clear r0
  clear hV
  simp only[List.take_succ_cons,List.take_zero]
  repeat(go_big_quiet_step (fail))
  refine wpQuiet_nil ?_
  rfl
 intro w8 hb8
 have H8:=zh (H1.out.below hb8)
 clear hb8
 go_simp
 refine(PD.out _ H8.out).mono ?_
 rintro e w9 ⟨rfl,hr⟩
 have HR:=zh hr
 clear hr
 dsimp only
 refine wpQuiet_nil ?_
 intro xx
 have HR2:=zh (HR.out.below xx.far)
 go_wp2_with fail
 exact bodyPost_end (v:=.tuple #[]) (by simp[results,Tryz.results41,go_sem]) rfl ⟨rfl,HR2.out⟩
theorem act_12 {w W:World} {gr n gT gB:Nat} {av:Nat→Value} {D:Dl} {S:St} {T B:List (Int×Int)} {bad wg:Bool} (h:RunAt w W gr n gT gB av D S T B bad wg) {m:Nat} (ho:OkR m D S) (hm:m<80000) (d A b:Int) (hb:0≤b∧b≤255) (hk:d.tmod 16=12):
 Calls Tryz.prog 41 #[.pointer (some ⟨gr,0,none⟩),.agg #[.int .u8 d,.int .i16 A,.int .u8 b]] W fun e w'=>e=.returned (.tuple #[])∧RunAt w w' gr n gT gB av D (Nw.doS D S 8 (b*4000) (b*3000) (1+b%60)) T B bad wg:=by
 obtain⟨K,hoa⟩:=ho.a (by omega)
 have al:=(Below.refl W.heap.size W).alloc (Nat.le_refl _) (.cells #[.int .u8 d,.int .i16 A,.int .u8 b] 142)
 have HX:=zh (Blk.new' W #[.int .u8 d,.int .i16 A,.int .u8 b] 142)
 have H1:=zh (h.below al)
 have HGL:=zh (show gr<W.heap.size from h.blk.lt)
 have PD:=zh (fun V (hV:RunAt w V gr n gT gB av D S T B bad wg)=>hV.do hoa 8 (b*4000) (b*3000) (1+b%60))
 have HB:=zh hb
 obtain⟨fw,fi⟩:=mod_in hb
 have b0:0≤b:=hb.1
 have m1:wrap64 (b*4000)=b*4000:=by rw[←IntWalk.i64_left];exact IntWalk.i64_in _ (by omega)
 have m2:wrap64 (b*3000)=b*3000:=by rw[←IntWalk.i64_left];exact IntWalk.i64_in _ (by omega)
 have m3:wrap64 (1+b%60)=1+b%60:=by rw[←IntWalk.i64_left];exact IntWalk.i64_in _ (by omega)
 clear h ho hm hoa al hb
 go_enter Tryz.func41,Tryz.ntmps41
 go_upto_region 1 with fail
 generalize W.alloc (.cells #[.int .u8 d,.int .i16 A,.int .u8 b] 142)=w1 at *
 obtain⟨gb,hgb⟩: ∃gb,gb=W.heap.size:=⟨_,rfl⟩
 rw[←hgb]at HX HGL ⊢
 have HG:=zh hgb
 clear hgb
 have x0:=HX.out.cell 0 rfl
 have xl:=HX.out.lt
 go_upto_region 40 with fail
 clear x0 xl
 refine wp_region_then 18 _ ?af rfl (by kernel_rfl) (by kernel_rfl) ?walk ?tail
 case walk=>
  intro V hV
  have q0:=(H1.out.below hV).blk.cell 0 rfl
  have nl:=(H1.out.below hV).blk.lt
  have r0:=HX.out.below hV HX.out.lt
  have x2:=r0.cell 2 rfl
  have gl:=r0.lt
  clear r0
  clear hV
  simp only[List.take_succ_cons,List.take_zero]
  repeat(go_big_quiet_step (fail))
  refine wpQuiet_nil ?_
  rfl
 intro w8 hb8
 have H8:=zh (H1.out.below hb8)
 clear hb8
 go_simp
 refine(PD.out _ H8.out).mono ?_
 rintro e w9 ⟨rfl,hr⟩
 have HR:=zh hr
 clear hr
 dsimp only
 refine wpQuiet_nil ?_
 intro xx
 have HR2:=zh (HR.out.below xx.far)
 go_wp2_with fail
 exact bodyPost_end (v:=.tuple #[]) (by simp[results,Tryz.results41,go_sem]) rfl ⟨rfl,HR2.out⟩
theorem act_1 {w W:World} {gr n gT gB:Nat} {av:Nat→Value} {D:Dl} {S:St} {T B:List (Int×Int)} {bad wg:Bool} (h:RunAt w W gr n gT gB av D S T B bad wg) {m:Nat} (ho:OkR m D S) (hm:m<80000) (d A b:Int) (hb:0≤b∧b≤255) (hk:d.tmod 16=1):
 Calls Tryz.prog 41 #[.pointer (some ⟨gr,0,none⟩),.agg #[.int .u8 d,.int .i16 A,.int .u8 b]] W fun e w'=>e=.returned (.tuple #[])∧RunAt w w' gr n gT gB av D (Nw.doS D S 2 0 0 0) T B bad wg:=by
 obtain⟨K,hoa⟩:=ho.a (by omega)
 have al:=(Below.refl W.heap.size W).alloc (Nat.le_refl _) (.cells #[.int .u8 d,.int .i16 A,.int .u8 b] 142)
 have HX:=zh (Blk.new' W #[.int .u8 d,.int .i16 A,.int .u8 b] 142)
 have H1:=zh (h.below al)
 have HGL:=zh (show gr<W.heap.size from h.blk.lt)
 have PD:=zh (fun V (hV:RunAt w V gr n gT gB av D S T B bad wg)=>hV.do hoa 2 0 0 0)
 have HB:=zh hb
 obtain⟨fw,fi⟩:=mod_in hb
 have b0:0≤b:=hb.1
 clear h ho hm hoa al hb
 go_enter Tryz.func41,Tryz.ntmps41
 go_upto_region 1 with fail
 generalize W.alloc (.cells #[.int .u8 d,.int .i16 A,.int .u8 b] 142)=w1 at *
 obtain⟨gb,hgb⟩: ∃gb,gb=W.heap.size:=⟨_,rfl⟩
 rw[←hgb]at HX HGL ⊢
 have HG:=zh hgb
 clear hgb
 have x0:=HX.out.cell 0 rfl
 have xl:=HX.out.lt
 go_upto_region 11 with fail
 have q0:=H1.out.blk.cell 0 rfl
 have nl:=H1.out.blk.lt
 go_wp2_with (go_at_call 24;refine(PD.out _ H1.out).mono ?_;rintro e w2 ⟨rfl,hr⟩;have HR:=zh hr;clear hr)
 exact bodyPost_end (v:=.tuple #[]) (by simp[results,Tryz.results41,go_sem]) rfl ⟨rfl,HR.out⟩
theorem act_11 {w W:World} {gr n gT gB:Nat} {av:Nat→Value} {D:Dl} {S:St} {T B:List (Int×Int)} {bad wg:Bool} (h:RunAt w W gr n gT gB av D S T B bad wg) {m:Nat} (ho:OkR m D S) (hm:m<80000) (d A b:Int) (hb:0≤b∧b≤255) (hk:d.tmod 16=11):
 Calls Tryz.prog 41 #[.pointer (some ⟨gr,0,none⟩),.agg #[.int .u8 d,.int .i16 A,.int .u8 b]] W fun e w'=>e=.returned (.tuple #[])∧RunAt w w' gr n gT gB av D (Nw.doS D S 7 0 0 0) T B bad wg:=by
 obtain⟨K,hoa⟩:=ho.a (by omega)
 have al:=(Below.refl W.heap.size W).alloc (Nat.le_refl _) (.cells #[.int .u8 d,.int .i16 A,.int .u8 b] 142)
 have HX:=zh (Blk.new' W #[.int .u8 d,.int .i16 A,.int .u8 b] 142)
 have H1:=zh (h.below al)
 have HGL:=zh (show gr<W.heap.size from h.blk.lt)
 have PD:=zh (fun V (hV:RunAt w V gr n gT gB av D S T B bad wg)=>hV.do hoa 7 0 0 0)
 have HB:=zh hb
 obtain⟨fw,fi⟩:=mod_in hb
 have b0:0≤b:=hb.1
 clear h ho hm hoa al hb
 go_enter Tryz.func41,Tryz.ntmps41
 go_upto_region 1 with fail
 generalize W.alloc (.cells #[.int .u8 d,.int .i16 A,.int .u8 b] 142)=w1 at *
 obtain⟨gb,hgb⟩: ∃gb,gb=W.heap.size:=⟨_,rfl⟩
 rw[←hgb]at HX HGL ⊢
 have HG:=zh hgb
 clear hgb
 have x0:=HX.out.cell 0 rfl
 have xl:=HX.out.lt
 go_upto_region 38 with fail
 have q0:=H1.out.blk.cell 0 rfl
 have nl:=H1.out.blk.lt
 go_wp2_with (go_at_call 24;refine(PD.out _ H1.out).mono ?_;rintro e w2 ⟨rfl,hr⟩;have HR:=zh hr;clear hr)
 exact bodyPost_end (v:=.tuple #[]) (by simp[results,Tryz.results41,go_sem]) rfl ⟨rfl,HR.out⟩
end Go.Proofs.YtlklnaebdnahcaaGreat
namespace Go.Proofs.YtlklnaebdnahcaaGreat
open Go.RowKit Nw
theorem act_0ty {w W:World} {gr n gT gB:Nat} {av:Nat→Value} {D:Dl} {S:St} {T B:List (Int×Int)} {bad:Bool} (h:RunAt w W gr n gT gB av D S T B bad true) {m:Nat} (ho:OkR m D S) (hm:m<80000) (d A b:Int) (hb:0≤b∧b≤255) (hk:d.tmod 16=0) (r8:Int) (h8:b.tmod 8=r8) (h7:(r8==7)=true):
 Calls Tryz.prog 41 #[.pointer (some ⟨gr,0,none⟩),.agg #[.int .u8 d,.int .i16 A,.int .u8 b]] W fun e w'=>e=.returned (.tuple #[])∧RunAt w w' gr n gT gB av D (Nw.doS D S 1 (b%2) 1 0) T B bad true:=by
 obtain⟨K,hoa⟩:=ho.a (by omega)
 have al:=(Below.refl W.heap.size W).alloc (Nat.le_refl _) (.cells #[.int .u8 d,.int .i16 A,.int .u8 b] 142)
 have HX:=zh (Blk.new' W #[.int .u8 d,.int .i16 A,.int .u8 b] 142)
 have H1:=zh (h.below al)
 have HGL:=zh (show gr<W.heap.size from h.blk.lt)
 have PD:=zh (fun V (hV:RunAt w V gr n gT gB av D S T B bad true)=>hV.do hoa 1 (b%2) 1 0)
 have HB:=zh hb
 obtain⟨fw,fi⟩:=mod_in hb
 have b0:0≤b:=hb.1
 have HFW:=zh (And.intro fw b0)
 clear h ho hm hoa al hb fw fi b0
 go_enter Tryz.func41,Tryz.ntmps41
 go_upto_region 1 with fail
 generalize W.alloc (.cells #[.int .u8 d,.int .i16 A,.int .u8 b] 142)=w1 at *
 obtain⟨gb,hgb⟩: ∃gb,gb=W.heap.size:=⟨_,rfl⟩
 rw[←hgb]at HX HGL ⊢
 have HG:=zh hgb
 clear hgb
 have x0:=HX.out.cell 0 rfl
 have x2:=HX.out.cell 2 rfl
 have xl:=HX.out.lt
 have q13:=H1.out.blk.cell 13 rfl
 have z13:=H1.out.blk.free 13
 have nl:=H1.out.blk.lt
 go_upto_region 6 with fail
 have HR0:=zh (H1.out.setR (W':=w1.setCell ⟨gr,13,none⟩ (.bool true)) (bad':=bad) (wg':=true) (H1.out.blk.setCell 13 (.bool true)) ((Touch.refl (fun k=>k=gr) w1).put 13 _))
 have HX2:=zh (HX.out.setCell_ne (p:=⟨gr,13,none⟩) (by have:=HGL.out;show gb≠gr;omega) (.bool true))
 clear q13 z13 nl x0 x2 xl H1
 generalize w1.setCell ⟨gr,13,none⟩ (.bool true)=w2 at HR0 HX2 ⊢
 have x2:=HX2.out.cell 2 rfl
 have xl:=HX2.out.lt
 go_upto_region 9 with fail
 have fw:=HFW.out.1
 have b0:=HFW.out.2
 clear x2 xl h8 h7
 refine wp_region_then 10 _ ?af rfl (by kernel_rfl) (by kernel_rfl) ?walk ?tail
 case walk=>
  intro V hV
  have q0:=(HR0.out.below hV).blk.cell 0 rfl
  have nl:=(HR0.out.below hV).blk.lt
  have r0:=HX2.out.below hV HX2.out.lt
  have x2:=r0.cell 2 rfl
  have gl:=r0.lt
  clear r0
  clear hV
  simp only[List.take_succ_cons,List.take_zero]
  repeat(go_big_quiet_step (fail))
  refine wpQuiet_nil ?_
  rfl
 intro w8 hb8
 have H8:=zh (HR0.out.below hb8)
 clear hb8
 go_simp
 refine(PD.out _ H8.out).mono ?_
 rintro e w9 ⟨rfl,hr⟩
 have HR:=zh hr
 clear hr
 dsimp only
 refine wpQuiet_nil ?_
 intro xx
 have HR2:=zh (HR.out.below xx.far)
 go_wp2_with fail
 exact bodyPost_end (v:=.tuple #[]) (by simp[results,Tryz.results41,go_sem]) rfl ⟨rfl,HR2.out⟩
theorem act_0tn {w W:World} {gr n gT gB:Nat} {av:Nat→Value} {D:Dl} {S:St} {T B:List (Int×Int)} {bad:Bool} (h:RunAt w W gr n gT gB av D S T B bad true) {m:Nat} (ho:OkR m D S) (hm:m<80000) (d A b:Int) (hb:0≤b∧b≤255) (hk:d.tmod 16=0) (r8:Int) (h8:b.tmod 8=r8) (h7:(r8==7)=false):
 Calls Tryz.prog 41 #[.pointer (some ⟨gr,0,none⟩),.agg #[.int .u8 d,.int .i16 A,.int .u8 b]] W fun e w'=>e=.returned (.tuple #[])∧RunAt w w' gr n gT gB av D (Nw.doS D S 1 (b%2) 0 0) T B bad true:=by
 obtain⟨K,hoa⟩:=ho.a (by omega)
 have al:=(Below.refl W.heap.size W).alloc (Nat.le_refl _) (.cells #[.int .u8 d,.int .i16 A,.int .u8 b] 142)
 have HX:=zh (Blk.new' W #[.int .u8 d,.int .i16 A,.int .u8 b] 142)
 have H1:=zh (h.below al)
 have HGL:=zh (show gr<W.heap.size from h.blk.lt)
 have PD:=zh (fun V (hV:RunAt w V gr n gT gB av D S T B bad true)=>hV.do hoa 1 (b%2) 0 0)
 have HB:=zh hb
 obtain⟨fw,fi⟩:=mod_in hb
 have b0:0≤b:=hb.1
 have HFW:=zh (And.intro fw b0)
 clear h ho hm hoa al hb fw fi b0
 go_enter Tryz.func41,Tryz.ntmps41
 go_upto_region 1 with fail
 generalize W.alloc (.cells #[.int .u8 d,.int .i16 A,.int .u8 b] 142)=w1 at *
 obtain⟨gb,hgb⟩: ∃gb,gb=W.heap.size:=⟨_,rfl⟩
 rw[←hgb]at HX HGL ⊢
 have HG:=zh hgb
 clear hgb
 have x0:=HX.out.cell 0 rfl
 have x2:=HX.out.cell 2 rfl
 have xl:=HX.out.lt
 have q13:=H1.out.blk.cell 13 rfl
 have z13:=H1.out.blk.free 13
 have nl:=H1.out.blk.lt
 go_upto_region 6 with fail
 have HR0:=zh (H1.out.setR (W':=w1.setCell ⟨gr,13,none⟩ (.bool true)) (bad':=bad) (wg':=true) (H1.out.blk.setCell 13 (.bool true)) ((Touch.refl (fun k=>k=gr) w1).put 13 _))
 have HX2:=zh (HX.out.setCell_ne (p:=⟨gr,13,none⟩) (by have:=HGL.out;show gb≠gr;omega) (.bool true))
 clear q13 z13 nl x0 x2 xl H1
 generalize w1.setCell ⟨gr,13,none⟩ (.bool true)=w2 at HR0 HX2 ⊢
 have x2:=HX2.out.cell 2 rfl
 have xl:=HX2.out.lt
 go_upto_region 9 with fail
 have fw:=HFW.out.1
 have b0:=HFW.out.2
 clear x2 xl h8 h7
 refine wp_region_then 10 _ ?af rfl (by kernel_rfl) (by kernel_rfl) ?walk ?tail
 case walk=>
  intro V hV
  have q0:=(HR0.out.below hV).blk.cell 0 rfl
  have nl:=(HR0.out.below hV).blk.lt
  have r0:=HX2.out.below hV HX2.out.lt
  have x2:=r0.cell 2 rfl
  have gl:=r0.lt
  clear r0
  clear hV
  simp only[List.take_succ_cons,List.take_zero]
  repeat(go_big_quiet_step (fail))
  refine wpQuiet_nil ?_
  rfl
 intro w8 hb8
 have H8:=zh (HR0.out.below hb8)
 clear hb8
 go_simp
 refine(PD.out _ H8.out).mono ?_
 rintro e w9 ⟨rfl,hr⟩
 have HR:=zh hr
 clear hr
 dsimp only
 refine wpQuiet_nil ?_
 intro xx
 have HR2:=zh (HR.out.below xx.far)
 go_wp2_with fail
 exact bodyPost_end (v:=.tuple #[]) (by simp[results,Tryz.results41,go_sem]) rfl ⟨rfl,HR2.out⟩
theorem act_0fy {w W:World} {gr n gT gB:Nat} {av:Nat→Value} {D:Dl} {S:St} {T B:List (Int×Int)} {bad:Bool} (h:RunAt w W gr n gT gB av D S T B bad false) {m:Nat} (ho:OkR m D S) (hm:m<80000) (d A b:Int) (hb:0≤b∧b≤255) (hk:d.tmod 16=0) (r8:Int) (h8:b.tmod 8=r8) (h7:(r8==7)=true):
 Calls Tryz.prog 41 #[.pointer (some ⟨gr,0,none⟩),.agg #[.int .u8 d,.int .i16 A,.int .u8 b]] W fun e w'=>e=.returned (.tuple #[])∧RunAt w w' gr n gT gB av D (Nw.doS D S 1 (b%2) 1 0) T B bad true:=by
 obtain⟨K,hoa⟩:=ho.a (by omega)
 have al:=(Below.refl W.heap.size W).alloc (Nat.le_refl _) (.cells #[.int .u8 d,.int .i16 A,.int .u8 b] 142)
 have HX:=zh (Blk.new' W #[.int .u8 d,.int .i16 A,.int .u8 b] 142)
 have H1:=zh (h.below al)
 have HGL:=zh (show gr<W.heap.size from h.blk.lt)
 have PD:=zh (fun V (hV:RunAt w V gr n gT gB av D S T B bad true)=>hV.do hoa 1 (b%2) 1 0)
 have HB:=zh hb
 obtain⟨fw,fi⟩:=mod_in hb
 have b0:0≤b:=hb.1
 have HFW:=zh (And.intro fw b0)
 clear h ho hm hoa al hb fw fi b0
 go_enter Tryz.func41,Tryz.ntmps41
 go_upto_region 1 with fail
 generalize W.alloc (.cells #[.int .u8 d,.int .i16 A,.int .u8 b] 142)=w1 at *
 obtain⟨gb,hgb⟩: ∃gb,gb=W.heap.size:=⟨_,rfl⟩
 rw[←hgb]at HX HGL ⊢
 have HG:=zh hgb
 clear hgb
 have x0:=HX.out.cell 0 rfl
 have x2:=HX.out.cell 2 rfl
 have xl:=HX.out.lt
 have q13:=H1.out.blk.cell 13 rfl
 have z13:=H1.out.blk.free 13
 have nl:=H1.out.blk.lt
 go_upto_region 6 with fail
 have HR0:=zh (H1.out.setR (W':=w1.setCell ⟨gr,13,none⟩ (.bool true)) (bad':=bad) (wg':=true) (H1.out.blk.setCell 13 (.bool true)) ((Touch.refl (fun k=>k=gr) w1).put 13 _))
 have HX2:=zh (HX.out.setCell_ne (p:=⟨gr,13,none⟩) (by have:=HGL.out;show gb≠gr;omega) (.bool true))
 clear q13 z13 nl x0 x2 xl H1
 generalize w1.setCell ⟨gr,13,none⟩ (.bool true)=w2 at HR0 HX2 ⊢
 have x2:=HX2.out.cell 2 rfl
 have xl:=HX2.out.lt
 go_upto_region 9 with fail
 have fw:=HFW.out.1
 have b0:=HFW.out.2
 clear x2 xl h8 h7
 refine wp_region_then 10 _ ?af rfl (by kernel_rfl) (by kernel_rfl) ?walk ?tail
 case walk=>
  intro V hV
  have q0:=(HR0.out.below hV).blk.cell 0 rfl
  have nl:=(HR0.out.below hV).blk.lt
  have r0:=HX2.out.below hV HX2.out.lt
  have x2:=r0.cell 2 rfl
  have gl:=r0.lt
  clear r0
  clear hV
  simp only[List.take_succ_cons,List.take_zero]
  repeat(go_big_quiet_step (fail))
  refine wpQuiet_nil ?_
  rfl
 intro w8 hb8
 have H8:=zh (HR0.out.below hb8)
 clear hb8
 go_simp
 refine(PD.out _ H8.out).mono ?_
 rintro e w9 ⟨rfl,hr⟩
 have HR:=zh hr
 clear hr
 dsimp only
 refine wpQuiet_nil ?_
 intro xx
 have HR2:=zh (HR.out.below xx.far)
 go_wp2_with fail
 exact bodyPost_end (v:=.tuple #[]) (by simp[results,Tryz.results41,go_sem]) rfl ⟨rfl,HR2.out⟩
theorem act_0fn {w W:World} {gr n gT gB:Nat} {av:Nat→Value} {D:Dl} {S:St} {T B:List (Int×Int)} {bad:Bool} (h:RunAt w W gr n gT gB av D S T B bad false) {m:Nat} (ho:OkR m D S) (hm:m<80000) (d A b:Int) (hb:0≤b∧b≤255) (hk:d.tmod 16=0) (r8:Int) (h8:b.tmod 8=r8) (h7:(r8==7)=false):
 Calls Tryz.prog 41 #[.pointer (some ⟨gr,0,none⟩),.agg #[.int .u8 d,.int .i16 A,.int .u8 b]] W fun e w'=>e=.returned (.tuple #[])∧RunAt w w' gr n gT gB av D (Nw.doS D S 1 (b%2) 0 0) T B bad false:=by
 obtain⟨K,hoa⟩:=ho.a (by omega)
 have al:=(Below.refl W.heap.size W).alloc (Nat.le_refl _) (.cells #[.int .u8 d,.int .i16 A,.int .u8 b] 142)
 have HX:=zh (Blk.new' W #[.int .u8 d,.int .i16 A,.int .u8 b] 142)
 have H1:=zh (h.below al)
 have HGL:=zh (show gr<W.heap.size from h.blk.lt)
 have PD:=zh (fun V (hV:RunAt w V gr n gT gB av D S T B bad false)=>hV.do hoa 1 (b%2) 0 0)
 have HB:=zh hb
 obtain⟨fw,fi⟩:=mod_in hb
 have b0:0≤b:=hb.1
 have HFW:=zh (And.intro fw b0)
 clear h ho hm hoa al hb fw fi b0
 go_enter Tryz.func41,Tryz.ntmps41
 go_upto_region 1 with fail
 generalize W.alloc (.cells #[.int .u8 d,.int .i16 A,.int .u8 b] 142)=w1 at *
 obtain⟨gb,hgb⟩: ∃gb,gb=W.heap.size:=⟨_,rfl⟩
 rw[←hgb]at HX HGL ⊢
 have HG:=zh hgb
 clear hgb
 have x0:=HX.out.cell 0 rfl
 have x2:=HX.out.cell 2 rfl
 have xl:=HX.out.lt
 have q13:=H1.out.blk.cell 13 rfl
 have z13:=H1.out.blk.free 13
 have nl:=H1.out.blk.lt
 go_upto_region 6 with fail
 have HR0:=zh (H1.out.setR (W':=w1.setCell ⟨gr,13,none⟩ (.bool false)) (bad':=bad) (wg':=false) (H1.out.blk.setCell 13 (.bool false)) ((Touch.refl (fun k=>k=gr) w1).put 13 _))
 have HX2:=zh (HX.out.setCell_ne (p:=⟨gr,13,none⟩) (by have:=HGL.out;show gb≠gr;omega) (.bool false))
 clear q13 z13 nl x0 x2 xl H1
 generalize w1.setCell ⟨gr,13,none⟩ (.bool false)=w2 at HR0 HX2 ⊢
 have x2:=HX2.out.cell 2 rfl
 have xl:=HX2.out.lt
 go_upto_region 9 with fail
 have fw:=HFW.out.1
 have b0:=HFW.out.2
 clear x2 xl h8 h7
 refine wp_region_then 10 _ ?af rfl (by kernel_rfl) (by kernel_rfl) ?walk ?tail
 case walk=>
  intro V hV
  have q0:=(HR0.out.below hV).blk.cell 0 rfl
  have nl:=(HR0.out.below hV).blk.lt
  have r0:=HX2.out.below hV HX2.out.lt
  have x2:=r0.cell 2 rfl
  have gl:=r0.lt
  clear r0
  clear hV
  simp only[List.take_succ_cons,List.take_zero]
  repeat(go_big_quiet_step (fail))
  refine wpQuiet_nil ?_
  rfl
 intro w8 hb8
 have H8:=zh (HR0.out.below hb8)
 clear hb8
 go_simp
 refine(PD.out _ H8.out).mono ?_
 rintro e w9 ⟨rfl,hr⟩
 have HR:=zh hr
 clear hr
 dsimp only
 refine wpQuiet_nil ?_
 intro xx
 have HR2:=zh (HR.out.below xx.far)
 go_wp2_with fail
 exact bodyPost_end (v:=.tuple #[]) (by simp[results,Tryz.results41,go_sem]) rfl ⟨rfl,HR2.out⟩
theorem act_0 {w W:World} {gr n gT gB:Nat} {av:Nat→Value} {D:Dl} {S:St} {T B:List (Int×Int)} {bad wg:Bool} (h:RunAt w W gr n gT gB av D S T B bad wg) {m:Nat} (ho:OkR m D S) (hm:m<80000) (d A b:Int) (hb:0≤b∧b≤255) (hk:d.tmod 16=0):
 Calls Tryz.prog 41 #[.pointer (some ⟨gr,0,none⟩),.agg #[.int .u8 d,.int .i16 A,.int .u8 b]] W fun e w'=>e=.returned (.tuple #[])∧ ∃wg',RunAt w w' gr n gT gB av D (Nw.doS D S 1 (b%2) (if b%8=7 then 1 else 0) 0) T B bad wg':=by
 have e8:b.tmod 8=b%8:=Int.tmod_eq_emod_of_nonneg hb.1
 by_cases h7:b%8=7
 ·rw[if_pos h7]
  cases wg
  ·exact(act_0fy h ho hm d A b hb hk (b%8) e8 (by rw[h7];rfl)).mono fun e w' ⟨h1,h2⟩=>⟨h1,_,h2⟩
  ·exact(act_0ty h ho hm d A b hb hk (b%8) e8 (by rw[h7];rfl)).mono fun e w' ⟨h1,h2⟩=>⟨h1,_,h2⟩
 ·rw[if_neg h7]
  have hn:(b%8==7)=false:=by simpa using h7
  cases wg
  ·exact(act_0fn h ho hm d A b hb hk (b%8) e8 hn).mono fun e w' ⟨h1,h2⟩=>⟨h1,_,h2⟩
  ·exact(act_0tn h ho hm d A b hb hk (b%8) e8 hn).mono fun e w' ⟨h1,h2⟩=>⟨h1,_,h2⟩
end Go.Proofs.YtlklnaebdnahcaaGreat
