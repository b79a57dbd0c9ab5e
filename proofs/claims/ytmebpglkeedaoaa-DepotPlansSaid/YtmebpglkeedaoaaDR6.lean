/- Contracts that the claim leans on. -/
import Derived.Test.YtmebpglkeedaoaaDR5
import Derived.Deep.Cut
set_option maxHeartbeats 16000000
set_option maxRecDepth 100000
set_option linter.unusedVariables false
set_option linter.unusedSimpArgs false
set_option linter.unnecessarySimpa false
namespace Go.Proofs.Ytmebpglkeedaoaa
open Go.RowKit Dp
theorem uV (A B:Option Addr) (T:Tab) (m mo cA cB k:Nat) (w:World) (hm:m=T.inn.length) (hmo:mo=T.out.length) (hmm:m<=mo) (h8:m<=8) (hA:m<=cA/\cA<=9223372036854775807) (hB:mo<=cB/\cB<=9223372036854775807) (hT:eu w A B T) (hS:lJ T k m):
 Calls Try.prog 85 #[.agg #[.slice A m cA,.slice B mo cB],.int .i64 k] w fun e w'=>e=.returned (.int .i64 (drP T k m))/\Below w.heap.size w w':=by
 have HM:=zh hm;have HMO:=zh hmo;have HT:=zh hT;have HS:=zh hS;have HD:=zh (wY hS);clear hm hmo hT hS;have X:=zh (Blk.new' w #[.slice A m cA,.slice B mo cB] 55);have HB:=zh ((Below.refl w.heap.size w).alloc (Nat.le_refl _) (.cells #[.slice A m cA,.slice B mo cB] 55));go_enter Try.func85,Try.ntmps85;go_upto_region 1 with fail
 generalize w.alloc (.cells #[.slice A m cA,.slice B mo cB] 55)=w1 at X HB ⊢;go_wp2_with fail
 go_loopw [5,6] (fun s i wr=> ∃j:Nat,j<=m/\i=.int .i64 j/\s=.int .i64 (drP T k j)/\Hid (Below w.heap.size w wr/\Blk wr w.heap.size 55 [.slice A m cA,.slice B mo cB])) (fun _ i _=>m-(intOf i).toNat)
 case atStart=>exact⟨0,Nat.zero_le _,rfl,rfl,zh ⟨HB.out,X.out⟩⟩
 case round=>
  obtain⟨j,hj,rfl,rfl,HW⟩:=hrel;have c0:=HW.2.cell 0 rfl;have lt0:=HW.2.lt
  by_cases hlt:j<m
  ·have hji:(j:Int)<(m:Int):=by omega
   have hjo:(j:Int)<(mo:Int):=by omega
   obtain⟨ad,rfl,abl,P,cP,p0,pb,pi⟩:=(HT.1.below HW.1 (Nat.le_refl _)) j (by rw[<-HM.out];exact hlt);obtain⟨bd,rfl,bbl,Q,cQ,q0,qb,qi⟩:=(HT.2.below HW.1 (Nat.le_refl _)) j (by rw[<-HMO.out];omega);have hs:=HS.out j hlt;obtain⟨pd,rfl,pbl,px⟩:=pi k hs.1.1;obtain⟨qd,rfl,qbl,qx⟩:=qi k hs.1.2;have hkp:(k:Int)<((T.inn.getD j []).length:Int):=by omega
   have hkq:(k:Int)<((T.out.getD j []).length:Int):=by omega
   have hb:=HD.out j (by omega);have hb2:=hs.2;have HST:=zh (show drP T k (j+1)=drP T k j+((T.inn.getD j []).getD k 0-(T.out.getD j []).getD k 0)from rfl);clear hs pi qi;generalize (T.inn.getD j []).getD k 0=x at *;generalize (T.out.getD j []).getD k 0=y at *;generalize (T.inn.getD j []).length=np at *;generalize (T.out.getD j []).length=nq at *;generalize drP T k j=d at *;have c1:=HW.2.cell 1 rfl;go_upto_region 5 with fail
   have w1e:IntKind.i64.wrap (x-y)=x-y:=IntWalk.i64_in _ (by omega);have w2e:IntKind.i64.wrap (d+(x-y))=d+(x-y):=IntWalk.i64_in _ (by omega);have ab2:(ad.add j).block<wr.heap.size:=by rw[block_add];exact abl
   have bb2:(bd.add j).block<wr.heap.size:=by rw[block_add];exact bbl
   have pb2:(pd.add k).block<wr.heap.size:=by rw[block_add];exact pbl
   have qb2:(qd.add k).block<wr.heap.size:=by rw[block_add];exact qbl
   clear hb hb2;refine wrp ?_
   repeat(go_big_quiet_step (fail))
   refine wpQuiet_nil ?_;intro xx;have HX:=zh (HW.1.trans (xx.far.mono HW.1.size));have BX:=zh (HW.2.below xx.far HW.2.lt);generalize xx.w=w3 at HX BX ⊢;clear c0 c1 lt0 ab2 bb2 pb2 qb2 w1e w2e p0 q0 px qx;go_wp2_with fail
   exact⟨⟨j+1,by omega,by go_num,by rw[HST.out],zh ⟨HX.out,BX.out⟩⟩,by simp[intOf];omega⟩
  ·obtain rfl:j=m:=by omega
   go_wp2_with fail
   go_ret;exact⟨rfl,HW.1⟩
theorem Nv (A B C D P Q:Option Addr) (S:Site) (T:Tab) (n nB nC nD m mo cA cB cC cD cP cQ:Nat) (w:World) (hn:n=S.lim.length) (hnC:n=S.buy.length) (hnD:n=S.sell.length) (hm:m=T.inn.length) (hmo:mo=T.out.length) (hmm:m<=mo) (h8:m<=8) (h48:n<=48) (hC1:nC=n) (hD1:nD=n)
 (hP:m<=cP/\cP<=9223372036854775807) (hQ:mo<=cQ/\cQ<=9223372036854775807) (hS:bH w A B C D S) (hT:eu w P Q T) (hB: ∀k,k<n->fU S k=true/\lJ T k m):
 Calls Try.prog 81 #[.agg #[.slice A nD cA,.slice B nB cB,.slice C nD cC,.slice D nD cD],.agg #[.slice P m cP,.slice Q mo cQ]] w fun e w'=>e=.returned (.int .i64 (prc S T m n))/\Below w.heap.size w w':=by
 subst hC1;subst hD1;have HN:=zh hn;have HC:=zh hnC;have HD:=zh hnD;have HM:=zh hm;have HMO:=zh hmo;have HS:=zh hS;have HT:=zh hT;have HBD:=zh hB;have F89:Hid (∀k V,k<nD->Below w.heap.size w V->Calls Try.prog 89 #[.agg #[.slice P m cP,.slice Q mo cQ],.int .i64 k] V fun e w'=>e=.returned (.int .i64 (drP T k m))/\Below V.heap.size V w'):=zh (fun k V hk hV=>Fb P Q T m mo cP cQ k V hm hmo hmm h8 hP hQ (hT.below hV (Nat.le_refl _)) (hB k hk).2);have HPB:=zh (fun k (hk:k<=nD)=>DI (S:=S) (T:=T) h8 k (fun j hj=>hB j (by omega)));have HQB:=zh (fun k (hk:k<nD)=>DF (hB k hk).1 (hB k hk).2 h8);clear hn hnC hnD hm hmo hS hT hB;have HB:=zh (((Below.refl w.heap.size w).alloc (Nat.le_refl _) (.cells #[.slice A nD cA,.slice B nB cB,.slice C nD cC,.slice D nD cD] 51)).alloc (by simp) (.cells #[.slice P m cP,.slice Q mo cQ] 55));have XS:=zh ((Blk.new' w #[.slice A nD cA,.slice B nB cB,.slice C nD cC,.slice D nD cD] 51).alloc (.cells #[.slice P m cP,.slice Q mo cQ] 55));have XT:=zh (show Blk ((w.alloc (.cells #[.slice A nD cA,.slice B nB cB,.slice C nD cC,.slice D nD cD] 51)).alloc (.cells #[.slice P m cP,.slice Q mo cQ] 55)) (w.heap.size+1) 55 [.slice P m cP,.slice Q mo cQ]from by simpa using Blk.new' (w.alloc (.cells #[.slice A nD cA,.slice B nB cB,.slice C nD cC,.slice D nD cD] 51)) #[.slice P m cP,.slice Q mo cQ] 55);go_enter Try.func81,Try.ntmps81;go_upto_region 1 with fail
 generalize (w.alloc (.cells #[.slice A nD cA,.slice B nB cB,.slice C nD cC,.slice D nD cD] 51)).alloc (.cells #[.slice P m cP,.slice Q mo cQ] 55)=w1 at HB XS XT ⊢;have s0:=XS.cell 0 rfl;go_wp2_with fail
 clear s0
 go_loopw [4,5,6,10] (fun sv _ _ iv wr=> ∃j:Nat,j<=nD/\iv=.int .i64 j/\sv=.int .i64 (prc S T m j)/\Hid (Below w1.heap.size w1 wr)) (fun _ _ _ iv _=>nD-(intOf iv).toNat)
 case atStart=>exact⟨0,Nat.zero_le _,rfl,rfl,zh (Below.refl _ _)⟩
 case round=>
  obtain⟨j,hj,rfl,rfl,HW⟩:=hrel;have HX:=zh (HB.trans (HW.mono HB.size))
  by_cases hlt:j<nD
  ·have hji:(j:Int)<(nD:Int):=by omega
   have XTW:=XT.below HW.out XT.lt;have t0:=XTW.cell 0 rfl;have t1:=XTW.cell 1 rfl;have tl:=XTW.lt;clear XTW;have HF:=F89.out j wr hlt HX.out;have HPV:=HPB.out j hj;have HQV:=HQB.out j hlt;have HST:Hid (prc S T m (j+1)=prc S T m j+prQ S T m j):=zh rfl;have HQD:Hid (prQ S T m j=max 0 (drP T j m)*S.buy.getD j 0+min 0 (drP T j m)*S.sell.getD j 0):=zh rfl;have HDD:=zh (fun V (hV:Below w.heap.size w V)=>(⟨(HS.below hV (Nat.le_refl _)).2.2.1 j (by rw[<-HC.out];exact hlt),(HS.below hV (Nat.le_refl _)).2.2.2 j (by rw[<-HD.out];exact hlt)⟩:_/\_));generalize S.buy.getD j 0=by1 at *;generalize S.sell.getD j 0=se at *;generalize drP T j m=d at *;go_wp2_with fail
   refine HF.mono ?_;rintro e w2 ⟨rfl,hb⟩;have HW2:=zh (HW.trans (hb.mono HW.size));have HX2:=zh (HB.trans (HW2.mono HB.size));clear hb HF HX HW t0 t1 tl;have XSW:=XS.below HW2.out XS.lt;have s2:=XSW.cell 2 rfl;have s3:=XSW.cell 3 rfl;have sl:=XSW.lt;clear XSW;obtain⟨⟨ba,hba,bal,bx⟩,sa,hsa,sal,sx⟩:=HDD.out w2 HX2.out;rw[hba]at s2;rw[hsa]at s3;have ba2:(ba.add j).block<w2.heap.size:=by rw[block_add];exact bal
   have sa2:(sa.add j).block<w2.heap.size:=by rw[block_add];exact sal
   clear hba hsa HDD;generalize prc S T m j=pv at *;have hm1:=fun ts t W=>lY 0 d ts t W
   have hm2:=fun ts t W=>sH 0 d ts t W
   generalize max 0 d=dx at *;generalize min 0 d=dn at *;obtain⟨q1,hq1⟩: ∃q1,q1=dx*by1:=⟨_,rfl⟩;obtain⟨q2,hq2⟩: ∃q2,q2=dn*se:=⟨_,rfl⟩;rw[<-hq1,<-hq2]at HQV;have w1e:IntKind.i64.wrap (dx*by1)=q1:=by rw[<-hq1];exact IntWalk.i64_in _ (by omega)
   have w2e:IntKind.i64.wrap (dn*se)=q2:=by rw[<-hq2];exact IntWalk.i64_in _ (by omega)
   have w3e:IntKind.i64.wrap (q1+q2)=q1+q2:=IntWalk.i64_in _ (by omega);have w4e:IntKind.i64.wrap (pv+(q1+q2))=pv+(q1+q2):=IntWalk.i64_in _ (by omega);have HE:Hid (prc S T m (j+1)=pv+(q1+q2)):=zh (by rw[HST.out,HQD.out,hq1,hq2]);clear hq1 hq2 HPV HQV HQD HST;go_upto_region 5 with fail
   refine wrp ?_
   repeat(go_big_quiet_step (fail))
   refine wpQuiet_nil ?_;intro xx;have HY:=zh (HW2.trans (xx.far.mono HW2.size));generalize xx.w=w3 at HY ⊢;clear s2 s3 sl bal sal bx sx ba2 sa2 w1e w2e w3e w4e hm1 hm2;go_wp2_with fail
   exact⟨⟨j+1,by omega,by go_num,by rw[HE.out],HY⟩,by simp[intOf];omega⟩
  ·obtain rfl:j=nD:=by omega
   go_wp2_with fail
   go_ret;exact⟨rfl,HX.out⟩
theorem Lh (A B C D P Q:Option Addr) (S:Site) (T:Tab) (n nB nC nD m mo cA cB cC cD cP cQ:Nat) (w:World) (hn:n=S.lim.length) (hnC:n=S.buy.length) (hnD:n=S.sell.length) (hm:m=T.inn.length) (hmo:mo=T.out.length) (hmm:m<=mo) (h8:m<=8) (h48:n<=48) (hC1:nC=n) (hD1:nD=n)
 (hP:m<=cP/\cP<=9223372036854775807) (hQ:mo<=cQ/\cQ<=9223372036854775807) (hS:bH w A B C D S) (hT:eu w P Q T) (hB: ∀k,k<n->fU S k=true/\lJ T k m):
 Calls Try.prog 82 #[.agg #[.slice A nD cA,.slice B nB cB,.slice C nD cC,.slice D nD cD],.agg #[.slice P m cP,.slice Q mo cQ]] w fun e w'=>e=.returned (.int .i64 (prc S T m n))/\Below w.heap.size w w':=by
 subst hC1;subst hD1;have HN:=zh hn;have HC:=zh hnC;have HD:=zh hnD;have HM:=zh hm;have HMO:=zh hmo;have HS:=zh hS;have HT:=zh hT;have HBD:=zh hB;have F89:Hid (∀k V,k<nD->Below w.heap.size w V->Calls Try.prog 85 #[.agg #[.slice P m cP,.slice Q mo cQ],.int .i64 k] V fun e w'=>e=.returned (.int .i64 (drP T k m))/\Below V.heap.size V w'):=zh (fun k V hk hV=>uV P Q T m mo cP cQ k V hm hmo hmm h8 hP hQ (hT.below hV (Nat.le_refl _)) (hB k hk).2);have HPB:=zh (fun k (hk:k<=nD)=>DI (S:=S) (T:=T) h8 k (fun j hj=>hB j (by omega)));have HQB:=zh (fun k (hk:k<nD)=>DF (hB k hk).1 (hB k hk).2 h8);clear hn hnC hnD hm hmo hS hT hB;have HB:=zh (((Below.refl w.heap.size w).alloc (Nat.le_refl _) (.cells #[.slice A nD cA,.slice B nB cB,.slice C nD cC,.slice D nD cD] 51)).alloc (by simp) (.cells #[.slice P m cP,.slice Q mo cQ] 55));have XS:=zh ((Blk.new' w #[.slice A nD cA,.slice B nB cB,.slice C nD cC,.slice D nD cD] 51).alloc (.cells #[.slice P m cP,.slice Q mo cQ] 55));have XT:=zh (show Blk ((w.alloc (.cells #[.slice A nD cA,.slice B nB cB,.slice C nD cC,.slice D nD cD] 51)).alloc (.cells #[.slice P m cP,.slice Q mo cQ] 55)) (w.heap.size+1) 55 [.slice P m cP,.slice Q mo cQ]from by simpa using Blk.new' (w.alloc (.cells #[.slice A nD cA,.slice B nB cB,.slice C nD cC,.slice D nD cD] 51)) #[.slice P m cP,.slice Q mo cQ] 55);go_enter Try.func82,Try.ntmps82;go_upto_region 1 with fail
 generalize (w.alloc (.cells #[.slice A nD cA,.slice B nB cB,.slice C nD cC,.slice D nD cD] 51)).alloc (.cells #[.slice P m cP,.slice Q mo cQ] 55)=w1 at HB XS XT ⊢;go_wp2_with fail
 go_loopw [5,6,7] (fun sv iv _ wr=> ∃j:Nat,j<=nD/\iv=.int .i64 j/\sv=.int .i64 (prc S T m j)/\Hid (Below w1.heap.size w1 wr)) (fun _ iv _ _=>nD-(intOf iv).toNat)
 case atStart=>exact⟨0,Nat.zero_le _,rfl,rfl,zh (Below.refl _ _)⟩
 case round=>
  obtain⟨j,hj,rfl,rfl,HW⟩:=hrel;have HX:=zh (HB.trans (HW.mono HB.size));have XSW:=XS.below HW.out XS.lt;have s0:=XSW.cell 0 rfl;have sl:=XSW.lt;clear XSW
  by_cases hlt:j<nD
  ·have hji:(j:Int)<(nD:Int):=by omega
   have XTW:=XT.below HW.out XT.lt;have t0:=XTW.cell 0 rfl;have t1:=XTW.cell 1 rfl;have tl:=XTW.lt;clear XTW;have HF:=F89.out j wr hlt HX.out;have HPV:=HPB.out j hj;have HQV:=HQB.out j hlt;have HST:Hid (prc S T m (j+1)=prc S T m j+prQ S T m j):=zh rfl;have HQD:Hid (prQ S T m j=max 0 (drP T j m)*S.buy.getD j 0+min 0 (drP T j m)*S.sell.getD j 0):=zh rfl;have HQ1:=zh (fun h=>Nb (S:=S) (T:=T) (m:=m) (k:=j) h);have HQ2:=zh (fun h=>Nc (S:=S) (T:=T) (m:=m) (k:=j) h);have HDD:=zh (fun V (hV:Below w.heap.size w V)=>(⟨(HS.below hV (Nat.le_refl _)).2.2.1 j (by rw[<-HC.out];exact hlt),(HS.below hV (Nat.le_refl _)).2.2.2 j (by rw[<-HD.out];exact hlt)⟩:_/\_));generalize S.buy.getD j 0=by1 at *;generalize S.sell.getD j 0=se at *;generalize drP T j m=d at *;go_wp2_with fail
   refine HF.mono ?_;rintro e w2 ⟨rfl,hb⟩;have HW2:=zh (HW.trans (hb.mono HW.size));have HX2:=zh (HB.trans (HW2.mono HB.size));clear hb HF HX HW t0 t1 tl s0 sl;have XSW:=XS.below HW2.out XS.lt;have s2:=XSW.cell 2 rfl;have s3:=XSW.cell 3 rfl;have sl:=XSW.lt;clear XSW;obtain⟨⟨ba,hba,bal,bx⟩,sa,hsa,sal,sx⟩:=HDD.out w2 HX2.out;rw[hba]at s2;rw[hsa]at s3;have ba2:(ba.add j).block<w2.heap.size:=by rw[block_add];exact bal
   have sa2:(sa.add j).block<w2.heap.size:=by rw[block_add];exact sal
   clear hba hsa HDD
   by_cases hd:0<d
   ·have HE:=zh (HST.trans (by rw[HQ1.out hd]))
    have HQW:=HQD.out;rw[HQ1.out (by omega)]at HQW;obtain⟨q1,hq1⟩: ∃q1,q1=max 0 d*by1:=⟨_,rfl⟩;obtain⟨q2,hq2⟩: ∃q2,q2=min 0 d*se:=⟨_,rfl⟩;rw[<-hq1,<-hq2]at HQV HQW;obtain⟨q,hq⟩: ∃q,q=d*by1:=⟨_,rfl⟩;rw[<-hq]at HQW;have HE2:Hid (prc S T m (j+1)=prc S T m j+q):=zh (by rw[HE.out,hq]);generalize prc S T m j=pv at *;have w1e:IntKind.i64.wrap (d*by1)=q:=by rw[<-hq];exact IntWalk.i64_in _ (by omega)
    have w4e:IntKind.i64.wrap (pv+q)=pv+q:=IntWalk.i64_in _ (by omega);clear hq hq1 hq2 HPV HQV HQW HE HQ1 HQ2 HQD HST;go_wp2_with fail
    exact⟨⟨j+1,by omega,by go_num,by rw[HE2.out],HW2⟩,by simp[intOf];omega⟩
   ·have HE:=zh (HST.trans (by rw[HQ2.out (by omega)]))
    have HQW:=HQD.out;rw[HQ2.out (by omega)]at HQW;obtain⟨q1,hq1⟩: ∃q1,q1=max 0 d*by1:=⟨_,rfl⟩;obtain⟨q2,hq2⟩: ∃q2,q2=min 0 d*se:=⟨_,rfl⟩;rw[<-hq1,<-hq2]at HQV HQW;obtain⟨q,hq⟩: ∃q,q=d*se:=⟨_,rfl⟩;rw[<-hq]at HQW;have HE2:Hid (prc S T m (j+1)=prc S T m j+q):=zh (by rw[HE.out,hq]);generalize prc S T m j=pv at *;have w1e:IntKind.i64.wrap (d*se)=q:=by rw[<-hq];exact IntWalk.i64_in _ (by omega)
    have w4e:IntKind.i64.wrap (pv+q)=pv+q:=IntWalk.i64_in _ (by omega);clear hq hq1 hq2 HPV HQV HQW HE HQ1 HQ2 HQD HST;go_wp2_with fail
    exact⟨⟨j+1,by omega,by go_num,by rw[HE2.out],HW2⟩,by simp[intOf];omega⟩
  ·obtain rfl:j=nD:=by omega
   go_wp2_with fail
   go_ret;exact⟨rfl,HX.out⟩
theorem kZ {x lo hi:Int} {b:Bool} (h:b=decide (lo<=x/\x<=hi)) (w:World):Calls Try.prog 60 #[.int .i64 x,.int .i64 lo,.int .i64 hi] w fun e w'=>e=.returned (.bool b)/\w=w':=by
 rw[h];exact bR x lo hi w
noncomputable def Gq:Code:=((Try.f41.body.bind (gq 4)).getD .skip)
noncomputable def Rf:Code:=((Try.f41.body.bind (behind 4)).getD .skip)
theorem VT (A B C D E P Q:Option Addr) (S:Site) (cs:List Car) (T:Tab) (n nB nC nD m cA cB cC cD cE cP cQ:Nat) (w W0:World) (bt:Nat) (hn:n=S.lim.length) (hnB:nB=S.exp.length) (hm:m=cs.length) (hE:m<=cE/\cE<=9223372036854775807) (hP:m<=cP/\cP<=9223372036854775807) (hQ:m<=cQ/\cQ<=9223372036854775807)
 (h0:stE S cs=0) (hl:(fQ cs.length S.lim.length T.inn&&fQ cs.length S.lim.length T.out)=true) (hS:bH w A B C D S) (hcs:df w E cs) (hT:eu w P Q T) (hXS:Blk W0 w.heap.size 51 [.slice A n cA,.slice B nB cB,.slice C nC cC,.slice D nD cD]) (hX:Blk W0 bt 55 [.slice P m cP,.slice Q m cQ]) (hB:Below w.heap.size w W0)
 {K:Act->World->Prop} (hK: ∀a w',Code.wp Try.prog Rf (bodyPost Try.prog Try.f41 (R41 S cs T w)) a w'->K a w') {x0 x2 x4 x6 x8 x9 x11 x12 x13 x14 x15 x16 x17 x18 x19 x20 x21 x22 x23 x24 x25 x26 x27 x28 x29 x30 x31 x32 x33 x34 x35 x36 x37 x38 x39 x40 x41 x42 x43 x44 x45 x46 x47 x48 x49 x50 x51 x52 x53 x54 x55 x56 x57 x58 x59 x60 x61 x62 x63 x64 x65 x66 x67 x68 x69 x70 x71 x72 x73 x74 x75 x76 x77 x78 x79 x80 x81 x82 x83 x84 x85 x86 x87 x88 x89 x90 x91 x92 x93 x94 x95 x96 x97 x98 x99 x100 x101 x102 x103 x104 x105 qy x107 qz qA qB qC x112 x113 x114 x115 qD qE qG qH qI qJ qK qL qM qO qQ qR qU qV qW qX qY wZ xc xe tQ tT tV tX tY tZ uf ug uh ui uj uk uo uq x150 x151 x152 x153 uu uw uy x157 x158 x159 x160 uA uB uC uD uE uF x167 x168 xh xk xm xn xq xu xw xy xA xB xC xD xE xG xH xI xJ xK xL xM xN DV DW DX DY DZ Ea Eb Ec Ee Eg x200 Eh Ei Ej El Em En Eo Ep Er KR KU KV KW KX KY KZ K4 K6 K7 K8 K9 La Lb Lc Ld Le Lf Lg:Value}:
 Code.wp Try.prog Gq (Exit.inBlock 4 (Exit.then K (bodyPost Try.prog Try.f41 (R41 S cs T w)))) {tmps:=List.toArray (x0::(.slice E m cE:Value)::x2::(.pointer (some ⟨w.heap.size,0,none⟩):Value)::x4::(.pointer (some ⟨bt,0,none⟩):Value)::x6::(.int .i64 n:Value)::x8::x9::(.int .i64 0:Value)::x11::x12::x13::x14::x15::x16::x17::x18::x19::x20::x21::x22::x23::x24::x25::x26::x27::x28::x29::x30::x31::x32::x33::x34::x35::x36::x37::x38::x39::x40::x41::x42::x43::x44::x45::x46::x47::x48::x49::x50::x51::x52::x53::x54::x55::x56::x57::x58::x59::x60::x61::x62::x63::x64::x65::x66::x67::x68::x69::x70::x71::x72::x73::x74::x75::x76::x77::x78::x79::x80::x81::x82::x83::x84::x85::x86::x87::x88::x89::x90::x91::x92::x93::x94::x95::x96::x97::x98::x99::x100::x101::x102::x103::x104::x105::qy::x107::qz::qA::qB::qC::x112::x113::x114::x115::qD::qE::qG::qH::qI::qJ::qK::qL::qM::qO::qQ::qR::qU::qV::qW::qX::qY::wZ::xc::xe::tQ::tT::tV::tX::tY::tZ::uf::ug::uh::ui::uj::uk::uo::uq::x150::x151::x152::x153::uu::uw::uy::x157::x158::x159::x160::uA::uB::uC::uD::uE::uF::x167::x168::xh::xk::xm::xn::xq::xu::xw::xy::xA::xB::xC::xD::xE::xG::xH::xI::xJ::xK::xL::xM::xN::DV::DW::DX::DY::DZ::Ea::Eb::Ec::Ee::Eg::x200::Eh::Ei::Ej::El::Em::En::Eo::Ep::Er::KR::KU::KV::KW::KX::KY::KZ::K4::K6::K7::K8::K9::La::Lb::Lc::Ld::Le::Lf::Lg::[]),defers:=[]} W0:=by
 have HN:=zh hn;have HM:=zh hm;have H0:=zh h0;have HL:=zh hl;have HLG:Hid ((T.inn.length=cs.length/\ ∀i,i<cs.length->(T.inn.getD i []).length=S.lim.length)/\(T.out.length=cs.length/\ ∀i,i<cs.length->(T.out.getD i []).length=S.lim.length)):=zh (by
  rw[Bool.and_eq_true]at hl;exact⟨bP.1 hl.1,bP.1 hl.2⟩)
 have HS:=zh hS;have HCS:=zh hcs;have HT:=zh hT;have XT:=zh hX;have XS:=zh hXS;have HB:=zh hB;have SH:=zh (aj.1 (aW h0).2.1);have h48:n<=48:=by have h3:=(aj.1 (aW h0).2.1).1;omega
 have h8:m<=8:=by have h3:=(aW h0).1;omega
 obtain rfl:nB=n:=by have h3:=SH.2.1;omega
 clear hn hnB hm h0 hl hS hcs hT hX hXS hB
 conv=>arg 2;whnf
 go_loopw [10,11,12] (fun iv _ _ wr=> ∃k:Nat,k<=nB/\iv=.int .i64 k/\Hid (Below W0.heap.size W0 wr/\ ∀j,j<k->fE S cs T j=0)) (fun iv _ _ _=>nB-(intOf iv).toNat)
 case atStart=>exact⟨0,Nat.zero_le _,rfl,zh ⟨Below.refl _ _,fun x hx=>absurd hx (Nat.not_lt_zero _)⟩⟩
 case round=>
  obtain⟨k,hk,rfl,HJ⟩:=hrel;have HBW:=zh (HB.trans (HJ.1.mono HB.size))
  by_cases hlt:k<nB
  ·have hki:(k:Int)<(nB:Int):=by omega
   have kS:k<S.lim.length:=by rw[<-HN.out];exact hlt
   go_wp2_with fail
   go_loopw [11,12] (fun iv _ wr=> ∃i:Nat,i<=m/\iv=.int .i64 i/\Hid (Below W0.heap.size W0 wr/\ ∀x,x<i->eZ cs T k x=true)) (fun iv _ _=>m-(intOf iv).toNat)
   case atStart=>exact⟨0,Nat.zero_le _,rfl,zh ⟨HJ.1,fun x hx=>absurd hx (Nat.not_lt_zero _)⟩⟩
   case round=>
    obtain⟨i,hi,rfl,HI⟩:=hrel;have HBI:=zh (HB.trans (HI.1.mono HB.size))
    by_cases hlt2:i<m
    ·have hii:(i:Int)<(m:Int):=by omega
     have il:i<cs.length:=by rw[<-HM.out];exact hlt2
     have HCA:=zh (show eZ cs T k i=Jl (cs.getD i default) ((T.inn.getD i []).getD k 0) ((T.out.getD i []).getD k 0) (dB (cs.getD i default) k)from rfl);have HEE:Hid (eZ cs T k i=false->plE S cs T=3):=zh (fun h=>oI H0.out HL.out kS HJ.2 (vK il h) (by decide));have HGO:Hid (eZ cs T k i=true-> ∀x,x<i+1->eZ cs T k x=true):=zh (fun h x hx=>by
      by_cases e:x=i
      ·subst e;exact h
      ·exact HI.2 x (by omega))
     obtain⟨ad,hE2,abl,c0,c1,c2,c3,c4,TT,cT,c5,hcT,HTT⟩:=(HCS.below HBI.out (Nat.le_refl _)) i il;subst hE2;have HTR:=zh HTT;clear HTT;obtain⟨pa,hP2,pal,PT,cPT,p0,pb,pi⟩:=(HT.below HBI.out (Nat.le_refl _)).1 i (by rw[HLG.1.1];exact il);obtain⟨qa,hQ2,qal,QT,cQT,q0,qb,qi⟩:=(HT.below HBI.out (Nat.le_refl _)).2 i (by rw[HLG.2.1];exact il);subst hP2;subst hQ2;have L1:=HLG.1.2 i il;have L2:=HLG.2.2 i il;rw[L1,<-HN.out]at p0 pb;rw[L2,<-HN.out]at q0 qb;obtain⟨pd,hpd,pdl,px⟩:=pi k (by rw[L1];exact kS);obtain⟨qd,hqd,qdl,qx⟩:=qi k (by rw[L2];exact kS);subst hpd;subst hqd;generalize eZ cs T k i=ca at *;generalize hcc:cs.getD i default=c at *;clear hcc;obtain⟨cap,inn,out,start,fin,trips⟩:=c;simp only at c0 c1 c2 c3 c4 c5 hcT HTR;generalize (T.inn.getD i []).getD k 0=x at *;generalize (T.out.getD i []).getD k 0=y at *;obtain⟨qn,hqn⟩: ∃qn,qn=trips.length:=⟨_,rfl⟩;rw[<-hqn]at c5 hcT;have HQN:=zh hqn;clear hqn pi qi L1 L2;obtain⟨aw,haw⟩: ∃aw,aw=dB ⟨cap,inn,out,start,fin,trips⟩ k:=⟨_,rfl⟩;rw[<-haw]at HCA;have HAW:Hid (∀V,Below wr.heap.size wr V->Calls Try.prog 84 #[.agg #[.int .i64 cap,.int .i64 inn,.int .i64 out,.int .i64 start,.int .i64 fin,.slice TT qn cT],.int .i64 ((k:Nat):Int)] V fun e w'=>e=.returned (.bool aw)/\Below V.heap.size V w'):=zh (fun V hV=>by
      have:=JN (.int .i64 cap) (.int .i64 inn) (.int .i64 out) (.int .i64 start) (.int .i64 fin) k TT trips qn cT V HQN.out hcT (HTR.below hV (Nat.le_refl _));rw[haw,show dB ⟨cap,inn,out,start,fin,trips⟩ k=fO trips k qn from by rw[HQN.out];rfl];exact this)
     clear haw;have HCG:=zh (HCA.trans rfl);have HP0:Hid (∀V,Below wr.heap.size wr V->((V.cell? (pa.add i)=some (.slice (some pd) nB cPT)/\(pa.add i).block<V.heap.size)/\(V.cell? (qa.add i)=some (.slice (some qd) nB cQT)/\(qa.add i).block<V.heap.size))/\((V.cell? (pd.add k)=some (.int .i64 x)/\(pd.add k).block<V.heap.size)/\(V.cell? (qd.add k)=some (.int .i64 y)/\(qd.add k).block<V.heap.size))):=zh (fun V hV=>by
      have z:=hV.size;exact⟨⟨⟨(hV.cell (by rw[block_add];omega)).trans p0,by rw[block_add];omega⟩,⟨(hV.cell (by rw[block_add];omega)).trans q0,by rw[block_add];omega⟩⟩,⟨⟨(hV.cell (by rw[block_add];omega)).trans px,by rw[block_add];omega⟩,⟨(hV.cell (by rw[block_add];omega)).trans qx,by rw[block_add];omega⟩⟩⟩)
     clear p0 q0 pal qal px qx pdl qdl;go_upto_region 25 with fail
     have HWX:=zh ((Below.refl wr.heap.size wr).alloc (Nat.le_refl _) (.cells #[.int .i64 cap,.int .i64 inn,.int .i64 out,.int .i64 start,.int .i64 fin,.slice TT qn cT] 63));have XC:=zh (Blk.new' wr #[.int .i64 cap,.int .i64 inn,.int .i64 out,.int .i64 start,.int .i64 fin,.slice TT qn cT] 63);clear c0 c1 c2 c3 c4 c5 abl;generalize wr.alloc (.cells #[.int .i64 cap,.int .i64 inn,.int .i64 out,.int .i64 start,.int .i64 fin,.slice TT qn cT] 63)=wx at HWX XC ⊢;obtain⟨gc,hgc⟩: ∃gc,gc=wr.heap.size:=⟨_,rfl⟩;rw[<-hgc]at XC ⊢;clear hgc;obtain⟨⟨⟨pa0,pab⟩,⟨qa0,qab⟩⟩,⟨⟨px0,pxb⟩,⟨qx0,qxb⟩⟩⟩:=HP0.out wx HWX.out;have e0:=XC.cell 0 rfl;have e1:=XC.cell 1 rfl;have e2:=XC.cell 2 rfl;have e3:=XC.cell 3 rfl;have e4:=XC.cell 4 rfl;have e5:=XC.cell 5 rfl;have el:=XC.lt;have XTV:=XT.below (HI.1.trans (HWX.mono HI.1.size)) XT.lt;have t0:=XTV.cell 0 rfl;have t1:=XTV.cell 1 rfl;have tl:=XTV.lt;clear XTV
     by_cases g1:0<=x/\x<=inn
     rotate_left
     ·have W1:=zh (fun V=>kZ (x:=x) (lo:=0) (hi:=inn) (b:=false) (decide_eq_false g1).symm V)
      have EE:=zh (HEE.out (by rw[HCA.out];exact decide_eq_false (fun h=>by simp only at h;omega)));refine wrp ?_
      repeat(go_big_quiet_step ((go_at_call 60;exact aN (W1.out _))))
      refine wpQuiet_nil ?_;intro xx;have HZ:=zh (HI.1.trans ((HWX.trans (xx.far.mono HWX.size)).mono HI.1.size));generalize xx.w=w3 at HZ ⊢;go_wp2_with fail
      go_ret;exact⟨ah EE.symm,HB.trans (HZ.mono HB.size)⟩
     have W1:=zh (fun V=>kZ (x:=x) (lo:=0) (hi:=inn) (b:=true) (decide_eq_true g1).symm V)
     by_cases g2:0<=y/\y<=out
     rotate_left
     ·have W2:=zh (fun V=>kZ (x:=y) (lo:=0) (hi:=out) (b:=false) (decide_eq_false g2).symm V)
      have EE:=zh (HEE.out (by rw[HCA.out];exact decide_eq_false (fun h=>by simp only at h;omega)));refine wrp ?_
      repeat(go_big_quiet_step ((first|(go_at_call 60;first|with_reducible exact aN (W1.out _)|with_reducible exact aN (W2.out _))|(go_at_call 84;exact aZ (HAW.out _ (HWX.out.trans ((bN.far _).mono HWX.out.size)))))))
      refine wpQuiet_nil ?_;intro xx;have HZ:=zh (HI.1.trans ((HWX.trans (xx.far.mono HWX.size)).mono HI.1.size));generalize xx.w=w3 at HZ ⊢;go_wp2_with fail
      go_ret;exact⟨ah EE.symm,HB.trans (HZ.mono HB.size)⟩
     have W2:=zh (fun V=>kZ (x:=y) (lo:=0) (hi:=out) (b:=true) (decide_eq_true g2).symm V)
     cases aw
     ·have EE:=zh (HGO.out (by rw[HCA.out];exact decide_eq_true (by simp only;refine⟨g1,g2,fun h=>?_⟩;cases h)))
      refine wrp ?_
      repeat(go_big_quiet_step ((first|(go_at_call 60;first|with_reducible exact aN (W1.out _)|with_reducible exact aN (W2.out _))|(go_at_call 84;exact aZ (HAW.out _ (HWX.out.trans ((bN.far _).mono HWX.out.size)))))))
      refine wpQuiet_nil ?_;intro xx;have HZ:=zh (HI.1.trans ((HWX.trans (xx.far.mono HWX.size)).mono HI.1.size));generalize xx.w=w3 at HZ ⊢;go_wp2_with fail
      exact⟨⟨i+1,by omega,by go_num,zh ⟨HZ.out,EE.out⟩⟩,by simp[intOf];omega⟩
     ·by_cases g3:x=0
      ·subst g3
       by_cases g4:y=0
       ·subst g4
        have EE:=zh (HGO.out (by rw[HCA.out];exact decide_eq_true (by simp only;exact⟨g1,g2,fun _=>rfl⟩)));refine wrp ?_
        repeat(go_big_quiet_step ((first|(go_at_call 60;first|with_reducible exact aN (W1.out _)|with_reducible exact aN (W2.out _))|(go_at_call 84;exact aZ (HAW.out _ (HWX.out.trans ((bN.far _).mono HWX.out.size)))))))
        refine wpQuiet_nil ?_;intro xx;have HZ:=zh (HI.1.trans ((HWX.trans (xx.far.mono HWX.size)).mono HI.1.size));generalize xx.w=w3 at HZ ⊢;go_wp2_with fail
        exact⟨⟨i+1,by omega,by go_num,zh ⟨HZ.out,EE.out⟩⟩,by simp[intOf];omega⟩
       ·have g4b:(y==0)=false:=by simpa using g4
        have EE:=zh (HEE.out (by rw[HCA.out];exact decide_eq_false (fun h=>by simp only at h;have:=h.2.2 (by trivial);omega)));refine wrp ?_
        repeat(go_big_quiet_step ((first|(go_at_call 60;first|with_reducible exact aN (W1.out _)|with_reducible exact aN (W2.out _))|(go_at_call 84;exact aZ (HAW.out _ (HWX.out.trans ((bN.far _).mono HWX.out.size)))))))
        refine wpQuiet_nil ?_;intro xx;have HZ:=zh (HI.1.trans ((HWX.trans (xx.far.mono HWX.size)).mono HI.1.size));generalize xx.w=w3 at HZ ⊢;go_wp2_with fail
        go_ret;exact⟨ah EE.symm,HB.trans (HZ.mono HB.size)⟩
      ·have g3b:(x==0)=false:=by simpa using g3
       have g3c:(x != 0)=true:=by simpa using g3
       have g3d:decide (x=0)=false:=by simpa using g3
       have EE:=zh (HEE.out (by rw[HCA.out];exact decide_eq_false (fun h=>by simp only at h;have:=h.2.2 (by trivial);omega)));refine wrp ?_
       repeat(go_big_quiet_step ((first|(go_at_call 60;first|with_reducible exact aN (W1.out _)|with_reducible exact aN (W2.out _))|(go_at_call 84;exact aZ (HAW.out _ (HWX.out.trans ((bN.far _).mono HWX.out.size)))))))
       refine wpQuiet_nil ?_;intro xx;have HZ:=zh (HI.1.trans ((HWX.trans (xx.far.mono HWX.size)).mono HI.1.size));generalize xx.w=w3 at HZ ⊢;go_wp2_with fail
       go_ret;exact⟨ah EE.symm,HB.trans (HZ.mono HB.size)⟩
    ·obtain rfl:m=i:=by omega
     have u7:Hid (∀x,x<cs.length->eZ cs T k x=true):=zh (fun x hx=>HI.2 x (by rw[HM.out];exact hx));have HSB:=zh (Ff H0.out HL.out kS u7.out);have HTI:Hid (m=T.inn.length/\m=T.out.length):=zh ⟨HM.trans HLG.1.1.symm,HM.trans HLG.2.1.symm⟩;rw[<-HM.out]at HSB;have HDR:=zh (fun V (hV:Below w.heap.size w V)=>uV P Q T m m cP cQ k V HTI.1 HTI.2 (Nat.le_refl _) h8 hP hQ (HT.below hV (Nat.le_refl _)) HSB.out);have VU:Hid (¬(drP T k m<=S.lim.getD k 0/\ -(S.exp.getD k 0)<=drP T k m)->plE S cs T=17):=zh (fun h=>oI H0.out HL.out kS HJ.2 (vL u7.out (by rw[<-HTI.1];exact h)) (by decide));have HNX:Hid ((drP T k m<=S.lim.getD k 0/\ -(S.exp.getD k 0)<=drP T k m)-> ∀j,j<k+1->fE S cs T j=0):=zh (fun h j hj=>by
      by_cases e:j=k
      ·subst e;exact mD u7.out (by rw[<-HTI.1];exact h)
      ·exact HJ.2 j (by omega))
     have SB:=cu.1 ((aW H0.out).2.2.1 k kS);obtain⟨la,hla,lal,lx⟩:=(HS.below HBI.out (Nat.le_refl _)).1 k kS;obtain⟨ea,hea,eal,ex⟩:=(HS.below HBI.out (Nat.le_refl _)).2.1 k (by rw[SH.2.1];exact kS);have XSV:=XS.below HI.1 XS.lt;have s0:=XSV.cell 0 rfl;have s1:=XSV.cell 1 rfl;have sl:=XSV.lt;have XTV:=XT.below HI.1 XT.lt;have t0:=XTV.cell 0 rfl;have t1:=XTV.cell 1 rfl;have tl:=XTV.lt;clear XTV XSV;rw[hla]at s0;rw[hea]at s1;have la2:(la.add k).block<wr.heap.size:=by rw[block_add];exact lal
     have ea2:(ea.add k).block<wr.heap.size:=by rw[block_add];exact eal
     clear hla hea;generalize S.lim.getD k 0=lm at *;generalize S.exp.getD k 0=ep at *;generalize drP T k m=d at *;have wne:IntKind.i64.wrap (-ep)= -ep:=IntWalk.i64_in _ (by omega);clear SB;go_upto_region 27 with fail
     by_cases g: -ep<=d/\d<=lm
     ·have W3:=zh (fun V=>kZ (x:=d) (lo:= -ep) (hi:=lm) (b:=true) (decide_eq_true g).symm V)
      have EE:=zh (HNX.out ⟨g.2,g.1⟩);refine wrp ?_
      repeat(go_big_quiet_step ((first|(go_at_call 60;exact aN (W3.out _))|(go_at_call 85;exact aZ (HDR.out _ (HBI.trans ((bN.far _).mono HBI.size)))))))
      refine wpQuiet_nil ?_;intro xx;have HZ:=zh (HI.1.trans (xx.far.mono HI.1.size));generalize xx.w=w3 at HZ ⊢;go_wp2_with fail
      go_roundw
      case measure=>simp[intOf];omega
      case rel=>exact⟨k+1,by omega,by go_num,zh ⟨HZ.out,EE.out⟩⟩
     ·have W3:=zh (fun V=>kZ (x:=d) (lo:= -ep) (hi:=lm) (b:=false) (decide_eq_false g).symm V)
      have EE:=zh (VU.out (fun h=>g ⟨h.2,h.1⟩));refine wrp ?_
      repeat(go_big_quiet_step ((first|(go_at_call 60;exact aN (W3.out _))|(go_at_call 85;exact aZ (HDR.out _ (HBI.trans ((bN.far _).mono HBI.size)))))))
      refine wpQuiet_nil ?_;intro xx;have HZ:=zh (HI.1.trans (xx.far.mono HI.1.size));generalize xx.w=w3 at HZ ⊢;go_wp2_with fail
      go_ret;exact⟨ah EE.symm,HB.trans (HZ.mono HB.size)⟩
  ·obtain rfl:nB=k:=by omega
   have HSS:Hid (∀j,j<S.lim.length->fE S cs T j=0):=zh (fun j hj=>HJ.2 j (by rw[HN.out];exact hj));have XTE:=zh (XT.below HJ.1 XT.lt);go_wp2_with fail
   conv=>arg 2;whnf
   go_wp2_with fail
   rename_i KK hKK;refine gT (c':=Gp) (by kernel_rfl) ?_;exact VR A B C D E P Q S cs T nB nB nC nD m cA cB cC cD cE cP cQ w wr bt HN.out HM.out hE hP hQ H0.out HL.out HSS.out HCS.out HT.out XTE.out HBW.out (fun a w' h=>hKK a w' (gT (by kernel_rfl) h))
theorem Us (cap inn out start fin:Int) (trips:List ja) (T:Option Addr) (n q cT:Nat) (w:World) (hq:q=trips.length) (hcT:q<=cT/\cT<=9223372036854775807) (hT:fP w T trips):
 Calls Try.prog 73 #[.agg #[.int .i64 cap,.int .i64 inn,.int .i64 out,.int .i64 start,.int .i64 fin,.slice T q cT],.int .i64 n] w fun e w'=>e=.returned (.bool (dE n ⟨cap,inn,out,start,fin,trips⟩))/\Below w.heap.size w w':=by
 have HQ:=zh hq;have XC:=zh (Blk.new' w #[.int .i64 cap,.int .i64 inn,.int .i64 out,.int .i64 start,.int .i64 fin,.slice T q cT] 63);have HX:=zh ((Below.refl w.heap.size w).alloc (Nat.le_refl _) (.cells #[.int .i64 cap,.int .i64 inn,.int .i64 out,.int .i64 start,.int .i64 fin,.slice T q cT] 63));have HTR:=zh (hT.below HX.out (Nat.le_refl _));clear hq hT;go_enter Try.func73,Try.ntmps73;go_upto_region 1 with fail
 generalize w.alloc (.cells #[.int .i64 cap,.int .i64 inn,.int .i64 out,.int .i64 start,.int .i64 fin,.slice T q cT] 63)=w1 at XC HX HTR ⊢;have e0:=XC.cell 0 rfl;have e1:=XC.cell 1 rfl;have e2:=XC.cell 2 rfl;have e3:=XC.cell 3 rfl;have e4:=XC.cell 4 rfl;have e5:=XC.cell 5 rfl
 by_cases a0:1<=cap/\cap<=1048576
 rotate_left
 ·have f0:inB cap 1 1048576=false:=decide_eq_false a0
  have EE:=zh (eO (n:=n) (c:=⟨cap,inn,out,start,fin,trips⟩) (by simp only[dO];exact decide_eq_false (fun h=>by omega)));clear a0;go_wp2_with (go_at_call 60;refine(bR _ _ _ _).mono ?_;rintro e w9 ⟨rfl,rfl⟩)
  go_ret;exact⟨bM EE.symm,HX.out⟩
 have f0:inB cap 1 1048576=true:=decide_eq_true a0
 by_cases a1:0<=inn/\inn<=1048576
 rotate_left
 ·have f1:inB inn 0 1048576=false:=decide_eq_false a1
  have EE:=zh (eO (n:=n) (c:=⟨cap,inn,out,start,fin,trips⟩) (by simp only[dO];exact decide_eq_false (fun h=>by omega)));clear a0 a1;go_wp2_with (go_at_call 60;refine(bR _ _ _ _).mono ?_;rintro e w9 ⟨rfl,rfl⟩)
  go_ret;exact⟨bM EE.symm,HX.out⟩
 have f1:inB inn 0 1048576=true:=decide_eq_true a1
 by_cases a2:0<=out/\out<=1048576
 rotate_left
 ·have f2:inB out 0 1048576=false:=decide_eq_false a2
  have EE:=zh (eO (n:=n) (c:=⟨cap,inn,out,start,fin,trips⟩) (by simp only[dO];exact decide_eq_false (fun h=>by omega)));clear a0 a1 a2;go_wp2_with (go_at_call 60;refine(bR _ _ _ _).mono ?_;rintro e w9 ⟨rfl,rfl⟩)
  go_ret;exact⟨bM EE.symm,HX.out⟩
 have f2:inB out 0 1048576=true:=decide_eq_true a2
 by_cases a3:0<=start/\start<=cap
 rotate_left
 ·have f3:inB start 0 cap=false:=decide_eq_false a3
  have EE:=zh (eO (n:=n) (c:=⟨cap,inn,out,start,fin,trips⟩) (by simp only[dO];exact decide_eq_false (fun h=>by omega)));clear a0 a1 a2 a3;go_wp2_with (go_at_call 60;refine(bR _ _ _ _).mono ?_;rintro e w9 ⟨rfl,rfl⟩)
  go_ret;exact⟨bM EE.symm,HX.out⟩
 have f3:inB start 0 cap=true:=decide_eq_true a3
 by_cases a4:0<=fin/\fin<=cap
 rotate_left
 ·have f4:inB fin 0 cap=false:=decide_eq_false a4
  have EE:=zh (eO (n:=n) (c:=⟨cap,inn,out,start,fin,trips⟩) (by simp only[dO];exact decide_eq_false (fun h=>by omega)));clear a0 a1 a2 a3 a4;go_wp2_with (go_at_call 60;refine(bR _ _ _ _).mono ?_;rintro e w9 ⟨rfl,rfl⟩)
  go_ret;exact⟨bM EE.symm,HX.out⟩
 have f4:inB fin 0 cap=true:=decide_eq_true a4
 by_cases a5:4<q
 ·have a5i:(4:Int)<(q:Int):=by omega
  have EE:=zh (eO (n:=n) (c:=⟨cap,inn,out,start,fin,trips⟩) (by simp only[dO];exact decide_eq_false (fun h=>by have:=HQ.out;omega)));clear a0 a1 a2 a3 a4;go_wp2_with (go_at_call 60;refine(bR _ _ _ _).mono ?_;rintro e w9 ⟨rfl,rfl⟩)
  go_ret;exact⟨bM EE.symm,HX.out⟩
 have a5i: ¬(4:Int)<(q:Int):=by omega
 have HHD:Hid (dO ⟨cap,inn,out,start,fin,trips⟩=true):=zh (by simp only[dO];exact decide_eq_true (by have:=HQ.out;omega));clear a0 a1 a2 a3 a4;go_upto_region 3 with (go_at_call 60;refine(bR _ _ _ _).mono ?_;rintro e w9 ⟨rfl,rfl⟩)
 clear f0 f1 f2 f3 f4 e0 e1 e2 e3 e4 e5 a5i;go_wp2_with fail
 go_loopw [5,6,7] (fun bk iv _ wr=> ∃k:Nat,k<=q/\iv=.int .i64 k/\bk=.int .i64 (backAt trips k)/\Hid (Below w.heap.size w wr/\Blk wr w.heap.size 63 [.int .i64 cap,.int .i64 inn,.int .i64 out,.int .i64 start,.int .i64 fin,.slice T q cT]/\fP wr T trips/\ ∀x,x<k->eU cap n trips x=true)) (fun _ iv _ _=>q-(intOf iv).toNat)
 case atStart=>exact⟨0,Nat.zero_le _,rfl,rfl,zh ⟨HX.out,XC.out,HTR.out,fun j hj=>absurd hj (Nat.not_lt_zero _)⟩⟩
 case round=>
  obtain⟨k,hk,rfl,rfl,HK⟩:=hrel;have e5:=HK.2.1.cell 5 rfl
  by_cases hlt:k<q
  ·have hki:(k:Int)<(q:Int):=by omega
   have kl:k<trips.length:=by rw[<-HQ.out];exact hlt
   obtain⟨td,rfl,tbl,t0,t1,t2⟩:=HK.2.2.1 k kl;have HOK:=zh (show eU cap n trips k=decide (backAt trips k<=(trips.getD k default).fr/\(trips.getD k default).fr<(trips.getD k default).to/\(trips.getD k default).to<=n/\(0<=(trips.getD k default).use/\(trips.getD k default).use<=cap))from rfl);have HBK:=zh (show backAt trips (k+1)=(trips.getD k default).to from rfl);have HBD:Hid (eU cap n trips k=false->dE n ⟨cap,inn,out,start,fin,trips⟩=false):=zh (fun h=>tK (c:=⟨cap,inn,out,start,fin,trips⟩) k kl h);generalize trips.getD k default=tr at *;obtain⟨fr,«to»,us⟩:=tr;simp only at t0 t1 t2 HOK HBK;generalize hbk:backAt trips k=bk at *;clear hbk;go_upto_region 8 with fail
   have HZ:=zh (HK.1.alloc (by have:=HK.2.1.lt;omega) (.cells #[.int .i64 fr,.int .i64 «to»,.int .i64 us] 65));have ZC:=zh (Blk.alloc HK.2.1 (.cells #[.int .i64 fr,.int .i64 «to»,.int .i64 us] 65));have ZT:=zh (Blk.new' wr #[.int .i64 fr,.int .i64 «to»,.int .i64 us] 65);have ZTR:=zh (HK.2.2.1.below ((Below.refl wr.heap.size wr).alloc (Nat.le_refl _) (.cells #[.int .i64 fr,.int .i64 «to»,.int .i64 us] 65)) (Nat.le_refl _));generalize wr.alloc (.cells #[.int .i64 fr,.int .i64 «to»,.int .i64 us] 65)=wz at HZ ZC ZT ZTR ⊢;generalize wr.heap.size=gt at *;clear t0 t1 t2 tbl e5;have f0:=ZT.cell 0 rfl;have f1:=ZT.cell 1 rfl;have f2:=ZT.cell 2 rfl;have e0:=ZC.cell 0 rfl
   by_cases s1:fr<bk
   ·have EE:=zh (HBD.out (by rw[HOK.out];exact decide_eq_false (fun h=>by omega)))
    go_wp2_with fail
    go_ret;exact⟨bM EE.symm,HZ.out⟩
   by_cases s2:«to»<=fr
   ·have EE:=zh (HBD.out (by rw[HOK.out];exact decide_eq_false (fun h=>by omega)))
    go_wp2_with fail
    go_ret;exact⟨bM EE.symm,HZ.out⟩
   by_cases s3:(n:Int)<«to»
   ·have EE:=zh (HBD.out (by rw[HOK.out];exact decide_eq_false (fun h=>by omega)))
    go_wp2_with fail
    go_ret;exact⟨bM EE.symm,HZ.out⟩
   by_cases s4:0<=us/\us<=cap
   ·have g4:inB us 0 cap=true:=decide_eq_true s4
    have SS:=zh (show eU cap n trips k=true from by rw[HOK.out];exact decide_eq_true (by omega));clear s4;go_wp2_with (go_at_call 60;refine(bR _ _ _ _).mono ?_;rintro e w9 ⟨rfl,rfl⟩)
    go_roundw
    case measure=>simp[intOf];omega
    case rel=>
     refine⟨k+1,by omega,by go_num,by rw[HBK.out],zh ⟨HZ.out,ZC.out,ZTR.out,fun x hx=>?_⟩⟩
     by_cases hxk:x<k
     ·exact HK.2.2.2 x hxk
     ·obtain rfl:x=k:=by omega
      exact SS.out
   ·have g4:inB us 0 cap=false:=decide_eq_false s4
    have EE:=zh (HBD.out (by rw[HOK.out];exact decide_eq_false (fun h=>by omega)));clear s4;go_wp2_with (go_at_call 60;refine(bR _ _ _ _).mono ?_;rintro e w9 ⟨rfl,rfl⟩)
    go_ret;exact⟨bM EE.symm,HZ.out⟩
  ·obtain rfl:k=q:=by omega
   have HCK:=zh (BH (n:=n) (c:=⟨cap,inn,out,start,fin,trips⟩) HHD.out (fun x hx=>HK.2.2.2 x (by rw[HQ.out];exact hx)));go_wp2_with fail
   go_ret;exact⟨bM HCK.symm,HK.1⟩
theorem jC (A B C D E:Option Addr) (S:Site) (cs:List Car) (n nB nC nD m cA cB cC cD cE:Nat) (w:World) (hn:n=S.lim.length) (hnB:nB=S.exp.length) (hnC:nC=S.buy.length) (hnD:nD=S.sell.length) (hm:m=cs.length)
 (hA:n<=cA/\cA<=9223372036854775807) (hB:nB<=cB/\cB<=9223372036854775807) (hC:nC<=cC/\cC<=9223372036854775807) (hD:nD<=cD/\cD<=9223372036854775807) (hE:m<=cE/\cE<=9223372036854775807)
 (hS:bH w A B C D S) (hcs:df w E cs):
 Calls Try.prog 31 #[.agg #[.slice A n cA,.slice B nB cB,.slice C nC cC,.slice D nD cD],.slice E m cE] w fun e w'=>e=.returned (.int .i64 (stE S cs))/\Below w.heap.size w w':=by
 have HN:=zh hn;have HNB:=zh hnB;have HNC:=zh hnC;have HND:=zh hnD;have HM:=zh hm;have HS:=zh hS;have HCS:=zh hcs;clear hn hnB hnC hnD hm hS hcs;have X:=zh (Blk.new' w #[.slice A n cA,.slice B nB cB,.slice C nC cC,.slice D nD cD] 51);have HB:=zh ((Below.refl w.heap.size w).alloc (Nat.le_refl _) (.cells #[.slice A n cA,.slice B nB cB,.slice C nC cC,.slice D nD cD] 51));go_enter Try.func31,Try.ntmps31;go_upto_region 1 with fail
 generalize w.alloc (.cells #[.slice A n cA,.slice B nB cB,.slice C nC cC,.slice D nD cD] 51)=w1 at X HB ⊢
 by_cases q1:8<m
 ·have q1i:(8:Int)<(m:Int):=by omega
  have EE:=zh (BG (S:=S) (cs:=cs) (by rw[<-HM.out];exact q1));go_wp2_with fail
  go_ret;exact⟨ah EE.symm,HB.out⟩
 have q1i: ¬(8:Int)<(m:Int):=by omega
 have HQ1:Hid (¬8<cs.length):=zh (by rw[<-HM.out];exact q1);have x0:=X.cell 0 rfl;have x1:=X.cell 1 rfl;have x2:=X.cell 2 rfl;have x3:=X.cell 3 rfl
 by_cases q2:n<1
 ·have q2i:(n:Int)<1:=by omega
  have EE:=zh (gW (S:=S) (cs:=cs) HQ1.out (by simp[bO,<-HN.out,<-HNB.out,<-HNC.out,<-HND.out];omega));go_wp2_with fail
  go_ret;exact⟨ah EE.symm,HB.out⟩
 have q2i: ¬(n:Int)<1:=by omega
 by_cases q3:48<n
 ·have q3i:(48:Int)<(n:Int):=by omega
  have EE:=zh (gW (S:=S) (cs:=cs) HQ1.out (by simp[bO,<-HN.out,<-HNB.out,<-HNC.out,<-HND.out];omega));go_wp2_with fail
  go_ret;exact⟨ah EE.symm,HB.out⟩
 have q3i: ¬(48:Int)<(n:Int):=by omega
 by_cases q4:nB≠n
 ·have q4i: ¬(nB:Int)=(n:Int):=by omega
  have q4b:((nB:Int)==(n:Int))=false:=by simpa using q4i
  have EE:=zh (gW (S:=S) (cs:=cs) HQ1.out (by simp[bO,<-HN.out,<-HNB.out,<-HNC.out,<-HND.out];omega));go_wp2_with fail
  go_ret;exact⟨ah EE.symm,HB.out⟩
 obtain rfl:n=nB:=by omega
 by_cases q5:nC≠n
 ·have q5i: ¬(nC:Int)=(n:Int):=by omega
  have q5b:((nC:Int)==(n:Int))=false:=by simpa using q5i
  have EE:=zh (gW (S:=S) (cs:=cs) HQ1.out (by simp[bO,<-HN.out,<-HNB.out,<-HNC.out,<-HND.out];omega));go_wp2_with fail
  go_ret;exact⟨ah EE.symm,HB.out⟩
 obtain rfl:n=nC:=by omega
 by_cases q6:nD≠n
 ·have q6i: ¬(nD:Int)=(n:Int):=by omega
  have q6b:((nD:Int)==(n:Int))=false:=by simpa using q6i
  have EE:=zh (gW (S:=S) (cs:=cs) HQ1.out (by simp[bO,<-HN.out,<-HNB.out,<-HNC.out,<-HND.out];omega));go_wp2_with fail
  go_ret;exact⟨ah EE.symm,HB.out⟩
 obtain rfl:n=nD:=by omega
 have HH:Hid (bO S=true):=zh (by simp[bO,<-HN.out,<-HNB.out,<-HNC.out,<-HND.out];omega);go_wp2_with fail
 clear x0 x1 x2 x3
 go_loopw [6] (fun iv wr=> ∃t:Nat,t<=n/\iv=.int .i64 t/\Hid (Below w.heap.size w wr/\Blk wr w.heap.size 51 [.slice A n cA,.slice B n cB,.slice C n cC,.slice D n cD]/\ ∀j,j<t->fU S j=true)) (fun iv _=>n-(intOf iv).toNat)
 case atStart=>exact⟨0,Nat.zero_le _,rfl,zh ⟨HB.out,X.out,fun j hj=>absurd hj (Nat.not_lt_zero _)⟩⟩
 case round=>
  obtain⟨t,ht,rfl,HW⟩:=hrel
  by_cases hlt:t<n
  ·have hti:(t:Int)<(n:Int):=by omega
   have hcA:=hA.1;have tA:t<S.lim.length:=by rw[<-HN.out];exact hlt
   obtain⟨aL,rfl,aLb,aLc⟩:=HS.1 t tA;obtain⟨aE,rfl,aEb,aEc⟩:=HS.2.1 t (by rw[<-HNB.out];exact hlt);obtain⟨aB,rfl,aBb,aBc⟩:=HS.2.2.1 t (by rw[<-HNC.out];exact hlt);obtain⟨aS,rfl,aSb,aSc⟩:=HS.2.2.2 t (by rw[<-HND.out];exact hlt);have HV:Hid (∀V,Below w.heap.size w V->(V.cell? (aL.add t)=some (.int .i64 (S.lim.getD t 0))/\(aL.add t).block<V.heap.size)/\(V.cell? (aE.add t)=some (.int .i64 (S.exp.getD t 0))/\(aE.add t).block<V.heap.size)/\(V.cell? (aB.add t)=some (.int .i64 (S.buy.getD t 0))/\(aB.add t).block<V.heap.size)/\(V.cell? (aS.add t)=some (.int .i64 (S.sell.getD t 0))/\(aS.add t).block<V.heap.size)):=zh (fun V hV=>by
    have k:=hV.size;exact⟨⟨(hV.cell (by rw[block_add];exact aLb)).trans aLc,by rw[block_add];omega⟩,⟨(hV.cell (by rw[block_add];exact aEb)).trans aEc,by rw[block_add];omega⟩,⟨(hV.cell (by rw[block_add];exact aBb)).trans aBc,by rw[block_add];omega⟩,⟨(hV.cell (by rw[block_add];exact aSb)).trans aSc,by rw[block_add];omega⟩⟩)
   clear aLc aEc aBc aSc aLb aEb aBb aSb;have HSO:=zh (show fU S t=decide ((0<=S.lim.getD t 0/\S.lim.getD t 0<=1048576)/\(0<=S.exp.getD t 0/\S.exp.getD t 0<=1048576)/\(0<=S.buy.getD t 0/\S.buy.getD t 0<=1048576)/\(0<=S.sell.getD t 0/\S.sell.getD t 0<=S.buy.getD t 0))from rfl);generalize S.lim.getD t 0=l at *;generalize S.exp.getD t 0=e at *;generalize S.buy.getD t 0=b at *;generalize S.sell.getD t 0=s at *;go_upto_region 9 with fail
   by_cases k1:0<=l/\l<=1048576
   rotate_left
   ·have g0:inB l 0 1048576=false:=decide_eq_false k1
    have EE:=zh (jK (S:=S) (cs:=cs) HQ1.out t tA (by rw[HSO.out];exact decide_eq_false (fun h=>by omega)));clear k1;have x0:=HW.2.1.cell 0 rfl;have x1:=HW.2.1.cell 1 rfl;have x2:=HW.2.1.cell 2 rfl;have x3:=HW.2.1.cell 3 rfl;have xlt:=HW.2.1.lt;obtain⟨⟨vl,vlb⟩,⟨ve,veb⟩,⟨vb,vbb⟩,⟨vs,vsb⟩⟩:=HV.out wr HW.1;refine wrp ?_
    repeat(go_big_quiet_step ((go_at_call 60;exact aN (bR _ _ _ _))))
    refine wpQuiet_nil ?_;intro xx;have HB3:=zh (HW.1.trans (xx.far.mono HW.1.size));have XB3:=zh (HW.2.1.below xx.far HW.2.1.lt);generalize xx.w=w3 at HB3 XB3 ⊢;clear x0 x1 x2 x3 xlt vl vlb ve veb vb vbb vs vsb;simp only[g0];go_wp2_with fail
    go_ret;exact⟨ah EE.symm,HB3.out⟩
   have g0:inB l 0 1048576=true:=decide_eq_true k1
   by_cases k2:0<=e/\e<=1048576
   rotate_left
   ·have g1:inB e 0 1048576=false:=decide_eq_false k2
    have EE:=zh (jK (S:=S) (cs:=cs) HQ1.out t tA (by rw[HSO.out];exact decide_eq_false (fun h=>by omega)));clear k1 k2;have x0:=HW.2.1.cell 0 rfl;have x1:=HW.2.1.cell 1 rfl;have x2:=HW.2.1.cell 2 rfl;have x3:=HW.2.1.cell 3 rfl;have xlt:=HW.2.1.lt;obtain⟨⟨vl,vlb⟩,⟨ve,veb⟩,⟨vb,vbb⟩,⟨vs,vsb⟩⟩:=HV.out wr HW.1;refine wrp ?_
    repeat(go_big_quiet_step ((go_at_call 60;exact aN (bR _ _ _ _))))
    refine wpQuiet_nil ?_;intro xx;have HB3:=zh (HW.1.trans (xx.far.mono HW.1.size));have XB3:=zh (HW.2.1.below xx.far HW.2.1.lt);generalize xx.w=w3 at HB3 XB3 ⊢;clear x0 x1 x2 x3 xlt vl vlb ve veb vb vbb vs vsb;simp only[g0,g1];go_wp2_with fail
    go_ret;exact⟨ah EE.symm,HB3.out⟩
   have g1:inB e 0 1048576=true:=decide_eq_true k2
   by_cases k3:0<=b/\b<=1048576
   rotate_left
   ·have g2:inB b 0 1048576=false:=decide_eq_false k3
    have EE:=zh (jK (S:=S) (cs:=cs) HQ1.out t tA (by rw[HSO.out];exact decide_eq_false (fun h=>by omega)));clear k1 k2 k3;have x0:=HW.2.1.cell 0 rfl;have x1:=HW.2.1.cell 1 rfl;have x2:=HW.2.1.cell 2 rfl;have x3:=HW.2.1.cell 3 rfl;have xlt:=HW.2.1.lt;obtain⟨⟨vl,vlb⟩,⟨ve,veb⟩,⟨vb,vbb⟩,⟨vs,vsb⟩⟩:=HV.out wr HW.1;refine wrp ?_
    repeat(go_big_quiet_step ((go_at_call 60;exact aN (bR _ _ _ _))))
    refine wpQuiet_nil ?_;intro xx;have HB3:=zh (HW.1.trans (xx.far.mono HW.1.size));have XB3:=zh (HW.2.1.below xx.far HW.2.1.lt);generalize xx.w=w3 at HB3 XB3 ⊢;clear x0 x1 x2 x3 xlt vl vlb ve veb vb vbb vs vsb;simp only[g0,g1,g2];go_wp2_with fail
    go_ret;exact⟨ah EE.symm,HB3.out⟩
   have g2:inB b 0 1048576=true:=decide_eq_true k3
   by_cases k4:0<=s/\s<=b
   rotate_left
   ·have g3:inB s 0 b=false:=decide_eq_false k4
    have EE:=zh (jK (S:=S) (cs:=cs) HQ1.out t tA (by rw[HSO.out];exact decide_eq_false (fun h=>by omega)));clear k1 k2 k3 k4;have x0:=HW.2.1.cell 0 rfl;have x1:=HW.2.1.cell 1 rfl;have x2:=HW.2.1.cell 2 rfl;have x3:=HW.2.1.cell 3 rfl;have xlt:=HW.2.1.lt;obtain⟨⟨vl,vlb⟩,⟨ve,veb⟩,⟨vb,vbb⟩,⟨vs,vsb⟩⟩:=HV.out wr HW.1;refine wrp ?_
    repeat(go_big_quiet_step ((go_at_call 60;exact aN (bR _ _ _ _))))
    refine wpQuiet_nil ?_;intro xx;have HB3:=zh (HW.1.trans (xx.far.mono HW.1.size));have XB3:=zh (HW.2.1.below xx.far HW.2.1.lt);generalize xx.w=w3 at HB3 XB3 ⊢;clear x0 x1 x2 x3 xlt vl vlb ve veb vb vbb vs vsb;simp only[g0,g1,g2,g3];go_wp2_with fail
    go_ret;exact⟨ah EE.symm,HB3.out⟩
   have g3:inB s 0 b=true:=decide_eq_true k4;have HK:=zh (And.intro k1 (And.intro k2 (And.intro k3 k4)));clear k1 k2 k3 k4;have x0:=HW.2.1.cell 0 rfl;have x1:=HW.2.1.cell 1 rfl;have x2:=HW.2.1.cell 2 rfl;have x3:=HW.2.1.cell 3 rfl;have xlt:=HW.2.1.lt;obtain⟨⟨vl,vlb⟩,⟨ve,veb⟩,⟨vb,vbb⟩,⟨vs,vsb⟩⟩:=HV.out wr HW.1;refine wrp ?_
   repeat(go_big_quiet_step ((go_at_call 60;exact aN (bR _ _ _ _))))
   refine wpQuiet_nil ?_;intro xx;have HB3:=zh (HW.1.trans (xx.far.mono HW.1.size));have XB3:=zh (HW.2.1.below xx.far HW.2.1.lt);generalize xx.w=w3 at HB3 XB3 ⊢;clear x0 x1 x2 x3 xlt vl vlb ve veb vb vbb vs vsb;simp only[g0,g1,g2,g3];go_wp2_with fail
   refine⟨⟨t+1,by omega,by go_num,zh ⟨HB3.out,XB3.out,fun j hj=>?_⟩⟩,by simp[intOf];omega⟩
   by_cases hjt:j<t
   ·exact HW.2.2 j hjt
   ·obtain rfl:j=t:=by omega
    rw[HSO.out];exact decide_eq_true (by have:=HK.out;omega)
  ·obtain rfl:n=t:=by omega
   have HSL:=HW;go_wp2_with fail
   go_loopw [7] (fun iv wr=> ∃j:Nat,j<=m/\iv=.int .i64 j/\Hid (Below w.heap.size w wr/\ ∀x,x<j->dE S.lim.length (cs.getD x default)=true)) (fun iv _=>m-(intOf iv).toNat)
   case atStart=>exact⟨0,Nat.zero_le _,rfl,zh ⟨HW.1,fun j hj=>absurd hj (Nat.not_lt_zero _)⟩⟩
   case round=>
    obtain⟨j,hj,rfl,HJ⟩:=hrel
    by_cases hlt2:j<m
    ·have hji:(j:Int)<(m:Int):=by omega
     have jl:j<cs.length:=by rw[<-HM.out];exact hlt2
     obtain⟨ad,rfl,abl,c0,c1,c2,c3,c4,T,cT,c5,hcT,HTT⟩:=(HCS.below HJ.1 (Nat.le_refl _)) j jl;have HBAD:Hid (dE S.lim.length (cs.getD j default)=false->stE S cs=2):=zh (fun h=>E5 HQ1.out j jl h);have HGO:Hid (dE S.lim.length (cs.getD j default)=true-> ∀x,x<j+1->dE S.lim.length (cs.getD x default)=true):=zh (fun h x hx=>by
      by_cases hxj:x<j
      ·exact HJ.2 x hxj
      ·obtain rfl:x=j:=by omega
       exact h)
     rw[<-HN.out]at HBAD HGO;generalize cs.getD j default=c at *;obtain⟨cap,inn,out,start,fin,trips⟩:=c;simp only at c0 c1 c2 c3 c4 c5 hcT HTT HBAD HGO;have CC:=zh (Us cap inn out start fin trips T n trips.length cT wr rfl hcT HTT);generalize trips.length=q at c5 hcT CC
     cases hv:dE n ⟨cap,inn,out,start,fin,trips⟩
     ·rw[hv]at CC
      have EE:=zh (HBAD.out hv);clear HTT hv;go_wp2_with (go_at_call 73;refine CC.mono ?_;rintro e w5 ⟨rfl,hb5⟩;have HB5:=zh (HJ.1.trans (hb5.mono HJ.1.size));clear hb5)
      go_ret;exact⟨ah EE.symm,HB5.out⟩
     ·rw[hv]at CC
      have EE:=zh (HGO.out hv);clear HTT hv;go_wp2_with (go_at_call 73;refine CC.mono ?_;rintro e w5 ⟨rfl,hb5⟩;have HB5:=zh (HJ.1.trans (hb5.mono HJ.1.size));clear hb5)
      exact⟨⟨j+1,by omega,by go_num,zh ⟨HB5.out,by rw[<-HN.out];exact EE.out⟩⟩,by simp[intOf];omega⟩
    ·obtain rfl:j=m:=by omega
     have EE:=zh (Dr (S:=S) (cs:=cs) HQ1.out HH.out (fun t ht=>HSL.2.2 t (by rw[HN.out];exact ht)) (fun i hi=>HJ.2 i (by rw[HM.out];exact hi)));go_wp2_with fail
     go_ret;exact⟨ah EE.symm,HJ.1⟩
theorem rY {m n:Nat} {l:List (List Int)} (h: ¬(l.length=m/\ ∀i,i<m->(l.getD i []).length=n)):fQ m n l=false:=by
 cases hb:fQ m n l
 ·rfl
 ·exact absurd (bP.1 hb) h
theorem oV (A B C D E P Q:Option Addr) (S:Site) (cs:List Car) (T:Tab) (n nB nC nD m p q cA cB cC cD cE cP cQ:Nat) (w:World) (hn:n=S.lim.length) (hnB:nB=S.exp.length) (hnC:nC=S.buy.length) (hnD:nD=S.sell.length) (hm:m=cs.length) (hp:p=T.inn.length) (hq:q=T.out.length)
 (hA:n<=cA/\cA<=9223372036854775807) (hB:nB<=cB/\cB<=9223372036854775807) (hC:nC<=cC/\cC<=9223372036854775807) (hD:nD<=cD/\cD<=9223372036854775807) (hE:m<=cE/\cE<=9223372036854775807) (hP:p<=cP/\cP<=9223372036854775807) (hQ:q<=cQ/\cQ<=9223372036854775807)
 (hS:bH w A B C D S) (hcs:df w E cs) (hT:eu w P Q T):
 Calls Try.prog 41 #[.agg #[.slice A n cA,.slice B nB cB,.slice C nC cC,.slice D nD cD],.slice E m cE,.agg #[.slice P p cP,.slice Q q cQ]] w (R41 S cs T w):=by
 have HN:=zh hn;have HNB:=zh hnB;have HM:=zh hm;have HP:=zh hp;have HQ:=zh hq;have HS:=zh hS;have HCS:=zh hcs;have HT:=zh hT;have F31:Hid (∀V,Below w.heap.size w V->Calls Try.prog 31 #[.agg #[.slice A n cA,.slice B nB cB,.slice C nC cC,.slice D nD cD],.slice E m cE] V fun e w'=>e=.returned (.int .i64 (stE S cs))/\Below V.heap.size V w'):=zh (fun V hV=>jC A B C D E S cs n nB nC nD m cA cB cC cD cE V hn hnB hnC hnD hm hA hB hC hD hE (hS.below hV (Nat.le_refl _)) (hcs.below hV (Nat.le_refl _)));clear hn hnB hnC hnD hm hp hq hS hcs hT;have HB:=zh (((Below.refl w.heap.size w).alloc (Nat.le_refl _) (.cells #[.slice A n cA,.slice B nB cB,.slice C nC cC,.slice D nD cD] 51)).alloc (by simp) (.cells #[.slice P p cP,.slice Q q cQ] 55));have XS:=zh ((Blk.new' w #[.slice A n cA,.slice B nB cB,.slice C nC cC,.slice D nD cD] 51).alloc (.cells #[.slice P p cP,.slice Q q cQ] 55));have XT:=zh (show Blk ((w.alloc (.cells #[.slice A n cA,.slice B nB cB,.slice C nC cC,.slice D nD cD] 51)).alloc (.cells #[.slice P p cP,.slice Q q cQ] 55)) (w.heap.size+1) 55 [.slice P p cP,.slice Q q cQ]from by simpa using Blk.new' (w.alloc (.cells #[.slice A n cA,.slice B nB cB,.slice C nC cC,.slice D nD cD] 51)) #[.slice P p cP,.slice Q q cQ] 55);go_enter Try.func41,Try.ntmps41;go_upto_region 1 with fail
 generalize (w.alloc (.cells #[.slice A n cA,.slice B nB cB,.slice C nC cC,.slice D nD cD] 51)).alloc (.cells #[.slice P p cP,.slice Q q cQ] 55)=w1 at HB XS XT ⊢;have XSV:=XS.out;have s0:=XSV.cell 0 rfl;have s1:=XSV.cell 1 rfl;have s2:=XSV.cell 2 rfl;have s3:=XSV.cell 3 rfl;have sl:=XSV.lt;clear XSV;obtain⟨v,hv⟩: ∃v,v=stE S cs:=⟨_,rfl⟩;rw[<-hv]at F31;have HV:=zh hv;clear hv;go_wp2_with fail
 refine(F31.out w1 HB.out).mono ?_;rintro e w2 ⟨rfl,hb⟩;have HB2:=zh (HB.trans (hb.mono HB.size));have XS2:=zh (XS.below hb XS.lt);have XT2:=zh (XT.below hb XT.lt);clear hb s0 s1 s2 s3 sl HB XS XT
 by_cases h0:v=0
 rotate_left
 ·have hb0:(v==0)=false:=by simpa using h0
  have EE:=zh (BM (S:=S) (cs:=cs) (T:=T) (by rw[<-HV.out];exact h0));rw[<-HV.out]at EE;have XSV:=XS2.out;have s0:=XSV.cell 0 rfl;have s1:=XSV.cell 1 rfl;have s2:=XSV.cell 2 rfl;have s3:=XSV.cell 3 rfl;have sl:=XSV.lt;clear XSV;go_wp2_with fail
  refine(F31.out w2 HB2.out).mono ?_;rintro e w3 ⟨rfl,hb⟩;have HB3:=zh (HB2.trans (hb.mono HB2.size));clear hb s0 s1 s2 s3 sl;go_wp2_with fail
  go_ret;exact⟨ah EE.symm,HB3.out⟩
 subst h0;have HZ:Hid (stE S cs=0):=zh HV.symm;clear HV;have XSV:=XS2.out;have s0:=XSV.cell 0 rfl;have s1:=XSV.cell 1 rfl;have s2:=XSV.cell 2 rfl;have s3:=XSV.cell 3 rfl;have sl:=XSV.lt;clear XSV;have XTV:=XT2.out;have t0:=XTV.cell 0 rfl;have t1:=XTV.cell 1 rfl;have tl:=XTV.lt;clear XTV;have HTW:=zh (HT.below HB2.out (Nat.le_refl _))
 by_cases hpm:p=m
 rotate_left
 ·have hpb:((p:Int)==(m:Int))=false:=by simp;omega
  have EE:=zh (mY HZ.out (T:=T) (by rw[rY (fun h=>hpm (by rw[HP.out,HM.out];exact h.1))];rfl));go_wp2_with fail
  go_ret;exact⟨ah EE.symm,HB2.out⟩
 subst hpm;go_wp2_with fail
 go_loop [8] (fun iv=> ∃i:Nat,i<=p/\iv=.int .i64 i/\Hid (∀x,x<i->(T.inn.getD x []).length=S.lim.length)) (fun iv=>p-(intOf iv).toNat)
 case atStart=>exact⟨0,Nat.zero_le _,rfl,zh (fun x hx=>absurd hx (Nat.not_lt_zero _))⟩
 case round=>
  obtain⟨i,hi,rfl,HI⟩:=hrel
  by_cases hlt:i<p
  ·have hii:(i:Int)<(p:Int):=by omega
   obtain⟨pa,hP2,pal,PT,cPT,p0,pb,pi⟩:=HTW.1 i (by rw[<-HP.out];exact hlt);subst hP2;have HE:Hid ((T.inn.getD i []).length=(T.inn.getD i []).length):=zh rfl;obtain⟨ln,hln⟩: ∃ln,ln=(T.inn.getD i []).length:=⟨_,rfl⟩;rw[<-hln]at p0 pb;have HLN:=zh hln;clear hln pi;have pb2:(pa.add i).block<w2.heap.size:=by rw[block_add];exact pal
   by_cases hl:ln=n
   ·subst hl
    have HNX:Hid (∀x,x<i+1->(T.inn.getD x []).length=S.lim.length):=zh (fun x hx=>by
     by_cases e:x=i
     ·subst e;rw[<-HLN.out];exact HN.out
     ·exact HI.out x (by omega))
    go_wp2_with fail
    exact⟨⟨i+1,by omega,by go_num,HNX⟩,by simp[intOf];omega⟩
   ·have hlb:((ln:Int)==(n:Int))=false:=by simp;omega
    have EE:=zh (mY HZ.out (T:=T) (by rw[rY (fun h=>hl (by rw[HLN.out,HN.out];exact h.2 i (by rw[<-HM.out];exact hlt)))];rfl));go_wp2_with fail
    go_ret;exact⟨ah EE.symm,HB2.out⟩
  ·obtain rfl:p=i:=by omega
   have HI1:=HI;clear HI
   by_cases hqm:q=p
   rotate_left
   ·have hqb:((q:Int)==(p:Int))=false:=by simp;omega
    have EE:=zh (mY HZ.out (T:=T) (by rw[rY (l:=T.out) (fun h=>hqm (by rw[HQ.out,HM.out];exact h.1))];exact Bool.and_false _));go_wp2_with fail
    go_ret;exact⟨ah EE.symm,HB2.out⟩
   subst hqm;go_wp2_with fail
   go_loop [9] (fun iv=> ∃i:Nat,i<=q/\iv=.int .i64 i/\Hid (∀x,x<i->(T.out.getD x []).length=S.lim.length)) (fun iv=>q-(intOf iv).toNat)
   case atStart=>exact⟨0,Nat.zero_le _,rfl,zh (fun x hx=>absurd hx (Nat.not_lt_zero _))⟩
   case round=>
    obtain⟨i,hi,rfl,HI⟩:=hrel
    by_cases hlt:i<q
    ·have hii:(i:Int)<(q:Int):=by omega
     obtain⟨pa,hP2,pal,PT,cPT,p0,pb,pi⟩:=HTW.2 i (by rw[<-HQ.out];exact hlt);subst hP2;have HE:Hid ((T.out.getD i []).length=(T.out.getD i []).length):=zh rfl;obtain⟨ln,hln⟩: ∃ln,ln=(T.out.getD i []).length:=⟨_,rfl⟩;rw[<-hln]at p0 pb;have HLN:=zh hln;clear hln pi;have pb2:(pa.add i).block<w2.heap.size:=by rw[block_add];exact pal
     by_cases hl:ln=n
     ·subst hl
      have HNX:Hid (∀x,x<i+1->(T.out.getD x []).length=S.lim.length):=zh (fun x hx=>by
       by_cases e:x=i
       ·subst e;rw[<-HLN.out];exact HN.out
       ·exact HI.out x (by omega))
      go_wp2_with fail
      exact⟨⟨i+1,by omega,by go_num,HNX⟩,by simp[intOf];omega⟩
     ·have hlb:((ln:Int)==(n:Int))=false:=by simp;omega
      have EE:=zh (mY HZ.out (T:=T) (by rw[rY (l:=T.out) (fun h=>hl (by rw[HLN.out,HN.out];exact h.2 i (by rw[<-HM.out];exact hlt)))];exact Bool.and_false _));go_wp2_with fail
      go_ret;exact⟨ah EE.symm,HB2.out⟩
    ·obtain rfl:q=i:=by omega
     have HLL:Hid ((fQ cs.length S.lim.length T.inn&&fQ cs.length S.lim.length T.out)=true):=zh (by
      rw[Bool.and_eq_true];exact⟨bP.2 ⟨HP.symm.trans HM.out,fun x hx=>HI1.out x (by rw[HM.out];exact hx)⟩,bP.2 ⟨HQ.symm.trans HM.out,fun x hx=>HI.out x (by rw[HM.out];exact hx)⟩⟩)
     go_wp2_with fail
     rename_i KK hKK _;refine gT (c':=Gq) (by kernel_rfl) ?_;exact VT A B C D E P Q S cs T n nB nC nD q cA cB cC cD cE cP cQ w w2 (w.heap.size+1) HN.out HNB.out HM.out hE hP hQ HZ.out HLL.out HS.out HCS.out HT.out XS2.out XT2.out HB2.out (fun a w' h=>hKK a w' (gT (by kernel_rfl) h))
theorem Nw (A B C D E P Q:Option Addr) (S:Site) (cs:List Car) (T:Tab) (n nB nC nD m p q cA cB cC cD cE cP cQ:Nat) (w:World) (hn:n=S.lim.length) (hnB:nB=S.exp.length) (hnC:nC=S.buy.length) (hnD:nD=S.sell.length) (hm:m=cs.length) (hp:p=T.inn.length) (hq:q=T.out.length)
 (hA:n<=cA/\cA<=9223372036854775807) (hB:nB<=cB/\cB<=9223372036854775807) (hC:nC<=cC/\cC<=9223372036854775807) (hD:nD<=cD/\cD<=9223372036854775807) (hE:m<=cE/\cE<=9223372036854775807) (hP:p<=cP/\cP<=9223372036854775807) (hQ:q<=cQ/\cQ<=9223372036854775807)
 (hS:bH w A B C D S) (hcs:df w E cs) (hT:eu w P Q T):
 Calls Try.prog 38 #[.agg #[.slice A n cA,.slice B nB cB,.slice C nC cC,.slice D nD cD],.slice E m cE,.agg #[.slice P p cP,.slice Q q cQ]] w fun e w'=>e=.returned (.tuple #[.int .i64 (oM S cs T),.int .i64 (plE S cs T)])/\Below w.heap.size w w':=by
 have F32:Hid (∀V,Below w.heap.size w V->Calls Try.prog 32 #[.agg #[.slice A n cA,.slice B nB cB,.slice C nC cC,.slice D nD cD],.slice E m cE,.agg #[.slice P p cP,.slice Q q cQ]] V fun e w'=>e=.returned (.int .i64 (plE S cs T))/\Below V.heap.size V w'):=zh (fun V hV=>p8 A B C D E P Q S cs T n nB nC nD m p q cA cB cC cD cE cP cQ V hn hnB hnC hnD hm hp hq hA hB hC hD hE hP hQ (hS.below hV (Nat.le_refl _)) (hcs.below hV (Nat.le_refl _)) (hT.below hV (Nat.le_refl _)));have F81:Hid (plE S cs T=0-> ∀V,Below w.heap.size w V->Calls Try.prog 81 #[.agg #[.slice A n cA,.slice B nB cB,.slice C nC cC,.slice D nD cD],.agg #[.slice P p cP,.slice Q q cQ]] V fun e w'=>e=.returned (.int .i64 (prc S T cs.length S.lim.length))/\Below V.heap.size V w'):=zh (fun h0 V hV=>by
  have HK:=lQ h0;have S0:=aW HK.ok;have SH:=aj.1 S0.2.1;have e1:p=m:=by rw[hp,hm,HK.li]
  have e2:q=m:=by rw[hq,hm,HK.lo]
  subst e1;subst e2;have e3:nC=nD:=by omega
  have e4:n=nD:=by omega
  subst e3;subst e4;rw[<-hm,<-hn];exact Nv A B C D P Q S T n nB n n q q cA cB cC cD cP cQ V hn (by omega) (by omega) hp hq (Nat.le_refl _) (by omega) (by omega) rfl rfl hP hQ (hS.below hV (Nat.le_refl _)) (hT.below hV (Nat.le_refl _)) (fun k hk=>⟨S0.2.2.1 k (by omega),by have:=HK.slot (k:=k) (by omega);rwa [<-hm]at this⟩))
 have HV0:Hid (plE S cs T=0->oM S cs T=prc S T cs.length S.lim.length):=zh (fun h=>by unfold oM;rw[if_pos h]);have HV1:Hid (plE S cs T≠0->oM S cs T=0):=zh (fun h=>by unfold oM;rw[if_neg h]);clear hn hnB hnC hnD hm hp hq hS hcs hT;obtain⟨v,hv⟩: ∃v,v=plE S cs T:=⟨_,rfl⟩;rw[<-hv]at F32 F81 HV0 HV1 ⊢;clear hv;have HB:=zh (((Below.refl w.heap.size w).alloc (Nat.le_refl _) (.cells #[.slice A n cA,.slice B nB cB,.slice C nC cC,.slice D nD cD] 51)).alloc (by simp) (.cells #[.slice P p cP,.slice Q q cQ] 55));have XS:=zh ((Blk.new' w #[.slice A n cA,.slice B nB cB,.slice C nC cC,.slice D nD cD] 51).alloc (.cells #[.slice P p cP,.slice Q q cQ] 55));have XT:=zh (show Blk ((w.alloc (.cells #[.slice A n cA,.slice B nB cB,.slice C nC cC,.slice D nD cD] 51)).alloc (.cells #[.slice P p cP,.slice Q q cQ] 55)) (w.heap.size+1) 55 [.slice P p cP,.slice Q q cQ]from by simpa using Blk.new' (w.alloc (.cells #[.slice A n cA,.slice B nB cB,.slice C nC cC,.slice D nD cD] 51)) #[.slice P p cP,.slice Q q cQ] 55);go_enter Try.func38,Try.ntmps38;go_upto_region 1 with fail
 generalize (w.alloc (.cells #[.slice A n cA,.slice B nB cB,.slice C nC cC,.slice D nD cD] 51)).alloc (.cells #[.slice P p cP,.slice Q q cQ] 55)=w1 at HB XS XT ⊢;have s0:=XS.cell 0 rfl;have s1:=XS.cell 1 rfl;have s2:=XS.cell 2 rfl;have s3:=XS.cell 3 rfl;have t0:=XT.cell 0 rfl;have t1:=XT.cell 1 rfl;have sl:=XS.lt;have tl:=XT.lt;go_wp2_with fail
 refine(F32.out w1 HB.out).mono ?_;rintro e w2 ⟨rfl,hb⟩;have HB2:=zh (HB.trans (hb.mono HB.size));have XS2:=zh (XS.below hb XS.lt);have XT2:=zh (XT.below hb XT.lt);clear hb s0 s1 s2 s3 t0 t1 sl tl;have s0:=XS2.cell 0 rfl;have s1:=XS2.cell 1 rfl;have s2:=XS2.cell 2 rfl;have s3:=XS2.cell 3 rfl;have t0:=XT2.cell 0 rfl;have t1:=XT2.cell 1 rfl;have sl:=XS2.lt;have tl:=XT2.lt
 by_cases h0:v=0
 rotate_left
 ·have hb0:(v==0)=false:=by simpa using h0
  have EE:=zh (HV1.out h0);go_wp2_with fail
  exact bodyPost_ret (v:=.tuple #[.int .i64 0,.int .i64 v]) (by simp[results,Try.results38,go_sem]) rfl ⟨by rw[EE.out],HB2.out⟩
 subst h0;have G81:=F81.out rfl w2 HB2.out;have EE:=zh (HV0.out rfl);generalize prc S T cs.length S.lim.length=pv at *;go_wp2_with fail
 refine G81.mono ?_;rintro e w3 ⟨rfl,hb⟩;have HB3:=zh (HB2.trans (hb.mono HB2.size));have XS3:=zh (XS2.below hb XS2.lt);have XT3:=zh (XT2.below hb XT2.lt);clear hb s0 s1 s2 s3 t0 t1 sl tl;go_wp2_with fail
 exact bodyPost_ret (v:=.tuple #[.int .i64 pv,.int .i64 0]) (by simp[results,Try.results38,go_sem]) rfl ⟨by rw[EE.out],HB3.out⟩
theorem rZ {w:World} {D e n:Nat} {v:Value} {vs:List Value} (h:w.ownsRow D e 1 v n vs):vs.length=n:=by have:=h.1;omega
structure BxJ (w:World) (n G i gs gb gi go:Nat) (A:Option Addr) (cap:Nat) (sup:List Int) (arcs:List Arc) (RI RO:Nat->List Int) (AI0 AO0:Option Addr) (ci0 co0:Nat) (AI:Option Addr) (ci ni:Nat) (vi:List Value) (AO:Option Addr) (co no:Nat) (vo:List Value) (W:World):Prop where
 b:Blk W gb 125 [.slice (some ⟨gs,0,none⟩) sup.length sup.length,.slice A arcs.length cap,.slice AI0 i ci0,.slice AO0 i co0]
 s:Fl 2 W gs sup
 own:W.ownsRow w.heap.size 46 4 (.slice A arcs.length cap) arcs.length (flat bD arcs)
 oi:W.ownsRow w.heap.size 26 1 (.slice AI ni ci) ni vi
 oo:W.ownsRow w.heap.size 26 1 (.slice AO no co) no vo
 dis: ∀k,aK AI k-> ¬aK AO k
 lt:w.heap.size<=gs/\w.heap.size<=gb
 bel:Below w.heap.size w W
 fi:Fl 3 W gi (RI i)
 fo:Fl 3 W go (RO i)
 ri:cK W n G vi RI i
 ro:cK W n G vo RO i
section
variable {w W V:World} {n G i gs gb gi go gc ci co cap ci0 co0 ni no c2:Nat} {A A2 AI AO AI0 AO0:Option Addr} {vi vo cv:List Value} {RI RO:Nat->List Int} {sup:List Int} {arcs:List Arc}
theorem BkJ.two (h:BkJ w n G i gs gb gi go gc AI AO ci co vi vo RI RO cv A cap sup arcs (RI i) (RO i) W):BxJ w n G i gs gb gi go A cap sup arcs RI RO AI AO ci co AI ci i vi AO co i vo W:=
 ⟨h.d.b,h.d.s,h.d.own,h.d.oi,h.d.oo,h.d.dis,h.d.lt,h.d.bel,h.fi,h.fo,h.ri,h.ro⟩
theorem BxJ.below (h:BxJ w n G i gs gb gi go A cap sup arcs RI RO AI0 AO0 ci0 co0 AI ci ni vi AO co no vo W) (hb:Below W.heap.size W V):BxJ w n G i gs gb gi go A cap sup arcs RI RO AI0 AO0 ci0 co0 AI ci ni vi AO co no vo V:=
 ⟨h.b.below hb h.b.lt,h.s.below hb,bF h.own hb,bF h.oi hb,bF h.oo hb,h.dis,h.lt,h.bel.trans (hb.mono h.bel.size),h.fi.below hb,h.fo.below hb,h.ri.below hb,h.ro.below hb⟩
theorem cK.pre {vs vs':List Value} {R:Nat->List Int} (h:cK W n G vs R i) (hl:i<=vs.length):cK W n G (vs++vs') R i:=fun x hx=>by
 obtain⟨v,h1,h2⟩:=h x hx;exact⟨v,by rw[List.getElem?_append_left (by omega)];exact h1,h2⟩
theorem BxJ.growI {v:Value} (h:BxJ w n G i gs gb gi go A cap sup arcs RI RO AI0 AO0 ci0 co0 AI ci ni vi AO co no vo W) (hi:i<=ni) (hg:W.grownBy V (Value.slice AI ni ci).ownBlock) (ho:V.ownsRow w.heap.size 26 1 (.slice A2 (ni+1) c2) (ni+1) (vi++[v])) (hk: ∀k,aK A2 k->aK AI k∨k=W.heap.size):
 BxJ w n G i gs gb gi go A cap sup arcs RI RO AI0 AO0 ci0 co0 A2 c2 (ni+1) (vi++[v]) AO co no vo V:=
 ⟨h.b.grown hg (aU h.b h.oi (by decide)),Blk.grown h.s hg (aU h.s h.oi (by decide)),kY h.own h.oi (oQ h.own h.oi (by decide)) hg,ho,kY h.oo h.oi (fun k h1 h2=>h.dis k h2 h1) hg,
   (fun k h1 h2=>by
     rcases hk k h1 with h3|h3
     ·exact h.dis k h3 h2
     ·have:=(iT h.oo h2).1;omega),h.lt,h.bel.grown hg h.bel.size (fun k e=>(World.ownsRow.lt h.oi k e).1),Blk.grown h.fi hg (aU h.fi h.oi (by decide)),Blk.grown h.fo hg (aU h.fo h.oi (by decide)),(h.ri.grown h.oi (by decide) hg).pre (by rw[rZ h.oi];exact hi),h.ro.grown h.oi (by decide) hg⟩
theorem BxJ.growO {v:Value} (h:BxJ w n G i gs gb gi go A cap sup arcs RI RO AI0 AO0 ci0 co0 AI ci ni vi AO co no vo W) (hi:i<=no) (hg:W.grownBy V (Value.slice AO no co).ownBlock) (ho:V.ownsRow w.heap.size 26 1 (.slice A2 (no+1) c2) (no+1) (vo++[v])) (hk: ∀k,aK A2 k->aK AO k∨k=W.heap.size):
 BxJ w n G i gs gb gi go A cap sup arcs RI RO AI0 AO0 ci0 co0 AI ci ni vi A2 c2 (no+1) (vo++[v]) V:=
 ⟨h.b.grown hg (aU h.b h.oo (by decide)),Blk.grown h.s hg (aU h.s h.oo (by decide)),kY h.own h.oo (oQ h.own h.oo (by decide)) hg,kY h.oi h.oo h.dis hg,ho,
   (fun k h1 h2=>by
     rcases hk k h2 with h3|h3
     ·exact h.dis k h1 h3
     ·have:=(iT h.oi h1).1;omega),h.lt,h.bel.grown hg h.bel.size (fun k e=>(World.ownsRow.lt h.oo k e).1),Blk.grown h.fi hg (aU h.fi h.oo (by decide)),Blk.grown h.fo hg (aU h.fo h.oo (by decide)),h.ri.grown h.oo (by decide) hg,(h.ro.grown h.oo (by decide) hg).pre (by rw[rZ h.oo];exact hi)⟩
theorem BxJ.done (h:BxJ w n G i gs gb gi go A cap sup arcs RI RO AI0 AO0 ci0 co0 AI ci (i+1) (vi++[.slice (some ⟨gi,0,none⟩) n n]) AO co (i+1) (vo++[.slice (some ⟨go,0,none⟩) n n]) W) (hR:(RI i).length=n/\(RO i).length=n) (hG:G<=W.heap.size):
 BdJ w gs gb A cap AI AO ci co (i+1) (vi++[.slice (some ⟨gi,0,none⟩) n n]) (vo++[.slice (some ⟨go,0,none⟩) n n]) sup arcs ((W.setCell ⟨gb,2,none⟩ (.slice AI (i+1) ci)).setCell ⟨gb,3,none⟩ (.slice AO (i+1) co))/\
 cK ((W.setCell ⟨gb,2,none⟩ (.slice AI (i+1) ci)).setCell ⟨gb,3,none⟩ (.slice AO (i+1) co)) n W.heap.size (vi++[.slice (some ⟨gi,0,none⟩) n n]) RI (i+1)/\cK ((W.setCell ⟨gb,2,none⟩ (.slice AI (i+1) ci)).setCell ⟨gb,3,none⟩ (.slice AO (i+1) co)) n W.heap.size (vo++[.slice (some ⟨go,0,none⟩) n n]) RO (i+1):=by
 have b1:=h.b.setCell 2 (.slice AI (i+1) ci);have l1:vi.length=i:=by have:=rZ h.oi;simp at this;exact this
 have l2:vo.length=i:=by have:=rZ h.oo;simp at this;exact this
 have r1:cK W n W.heap.size (vi++[.slice (some ⟨gi,0,none⟩) n n]) RI (i+1):=by
  refine cK.add (fun x hx=>?_) l1 h.fi hR.1 h.fi.lt;obtain⟨v,h1,g,e1,e2,e3⟩:=h.ri x hx;rw[List.getElem?_append_left (by omega)]at h1;exact⟨v,h1,g,e1,by omega,e3⟩
 have r2:cK W n W.heap.size (vo++[.slice (some ⟨go,0,none⟩) n n]) RO (i+1):=by
  refine cK.add (fun x hx=>?_) l2 h.fo hR.2 h.fo.lt;obtain⟨v,h1,g,e1,e2,e3⟩:=h.ro x hx;rw[List.getElem?_append_left (by omega)]at h1;exact⟨v,h1,g,e1,by omega,e3⟩
 refine⟨⟨b1.setCell 3 _,(h.s.set_ne (p:=⟨gb,2,none⟩) (fun e=>ae h.b h.s (by decide) e) _).set_ne (p:=⟨gb,3,none⟩) (fun e=>ae h.b h.s (by decide) e) _,bI (bI h.own (aF (g:=gb) h.b h.own (by decide)) _) (aF (g:=gb) h.b h.own (by decide)) _,bI (bI h.oi (aF (g:=gb) h.b h.oi (by decide)) _) (aF (g:=gb) h.b h.oi (by decide)) _,bI (bI h.oo (aF (g:=gb) h.b h.oo (by decide)) _) (aF (g:=gb) h.b h.oo (by decide)) _,h.dis,h.lt,(h.bel.setCell (by simp;exact h.lt.2) _).setCell (by simp;exact h.lt.2) _⟩,?_,?_⟩
 ·exact(r1.set (p:=⟨gb,2,none⟩) h.b (.inl (by decide)) _).set (p:=⟨gb,3,none⟩) b1 (.inl (by decide)) _
 ·exact(r2.set (p:=⟨gb,2,none⟩) h.b (.inl (by decide)) _).set (p:=⟨gb,3,none⟩) b1 (.inl (by decide)) _
end
noncomputable def Li:Code:=((Try.f76.body.bind (gq 4)).getD .skip)
noncomputable def Ut:Code:=((Try.f76.body.bind (behind 4)).getD .skip)
def vg (S:Site) (cs:List Car) (w:World) (gs gb M i:Nat) (W:World):Prop:= ∃A cap AI AO ci co vi vo,BdJ w gs gb A cap AI AO ci co i vi vo (jB S cs M i) (aQ S cs i) W/\cK W S.lim.length W.heap.size vi (inR S cs) i/\cK W S.lim.length W.heap.size vo (gX S cs) i
theorem vg.of {S:Site} {cs:List Car} {w W:World} {n G i gs gb gi go cap ci0 co0 ci co M:Nat} {A AI0 AO0 AI AO:Option Addr} {vi vo:List Value} (hn:n=S.lim.length)
 (h:BxJ w n G i gs gb gi go A cap (jB S cs M (i+1)) (aQ S cs (i+1)) (inR S cs) (gX S cs) AI0 AO0 ci0 co0 AI ci (i+1) (vi++[.slice (some ⟨gi,0,none⟩) n n]) AO co (i+1) (vo++[.slice (some ⟨go,0,none⟩) n n]) W) (hR:(inR S cs i).length=n/\(gX S cs i).length=n) (hG:G<=W.heap.size):
 vg S cs w gs gb M (i+1) ((W.setCell ⟨gb,2,none⟩ (.slice AI (i+1) ci)).setCell ⟨gb,3,none⟩ (.slice AO (i+1) co)):=by
 obtain⟨h1,h2,h3⟩:=h.done hR hG;subst hn;have hz:((W.setCell ⟨gb,2,none⟩ (.slice AI (i+1) ci)).setCell ⟨gb,3,none⟩ (.slice AO (i+1) co)).heap.size=W.heap.size:=by simp
 exact⟨A,cap,AI,AO,ci,co,_,_,h1,by rw[hz];exact h2,by rw[hz];exact h3⟩
def CoK (K:Act->World->Prop) (gb:Nat) (P:World->Prop):Prop:= ∀(y0 y1 y2 y3 y4 y5 y7 y8 y9 y10 y11 y12 y13 y14 y15 y16 y17 y18 y19 y20 y21 y22 y23 y24 y25 y26 y27 y28 y29 y30 y31 y32 y33 y34 y35 y36 y37 y38 y39 y40 y41 y42 y43 y44 y45 y46 y47 y48 y49 y50 y51 y52 y53 y54 y55 y56 y57 y58 y59 y60 y61 y62 y63 y64 y65 y66 y67 y68 y69 y70 y71 y72 y73 y74 y75 y76 y77 y78 y79 y80 y81 y82 y83 y84 y85 y86 y87 y88 y89 y90 y91 y92 y93 y94 y95 y96 y97 y98 y99 xZ y101 y102 yc y104 yf yg yh yj ym yn yo y112 y113 y114 y115 yt yu yw yx yz yA yB yC yD yE yF yG yH yI yJ yK yL yM yN yO yP yQ yR yS yT yU yV yX yY yZ za zb ze zi y150 y151 y152 y153 zk zm zn y157 y158 y159 y160 zo zq zt zu zw zx y167 y168 zy zA zB zC zD zF zG zH zI zJ zK zL zN zO zP zQ zR zS zT zU zV zW zX zY zZ z8 Aa Ab Ad Ae Ag Ah Ai Aj Ak Al Am Ap Ar Au Av Ny Nz NA NB NG NH NJ NK NL NM NN NP NQ NU NV NW NY Oa Ob Oc Od Oe Og Oh Oi Oj Ol Om Oo Oq Ot Ou Ov Ow Ox Oy Oz OB OD OG OH OJ OL:Value) w',P w'->K {tmps:=List.toArray (y0::y1::y2::y3::y4::y5::(.pointer (some ⟨gb,0,none⟩):Value)::y7::y8::y9::y10::y11::y12::y13::y14::y15::y16::y17::y18::y19::y20::y21::y22::y23::y24::y25::y26::y27::y28::y29::y30::y31::y32::y33::y34::y35::y36::y37::y38::y39::y40::y41::y42::y43::y44::y45::y46::y47::y48::y49::y50::y51::y52::y53::y54::y55::y56::y57::y58::y59::y60::y61::y62::y63::y64::y65::y66::y67::y68::y69::y70::y71::y72::y73::y74::y75::y76::y77::y78::y79::y80::y81::y82::y83::y84::y85::y86::y87::y88::y89::y90::y91::y92::y93::y94::y95::y96::y97::y98::y99::xZ::y101::y102::yc::y104::yf::yg::yh::yj::ym::yn::yo::y112::y113::y114::y115::yt::yu::yw::yx::yz::yA::yB::yC::yD::yE::yF::yG::yH::yI::yJ::yK::yL::yM::yN::yO::yP::yQ::yR::yS::yT::yU::yV::yX::yY::yZ::za::zb::ze::zi::y150::y151::y152::y153::zk::zm::zn::y157::y158::y159::y160::zo::zq::zt::zu::zw::zx::y167::y168::zy::zA::zB::zC::zD::zF::zG::zH::zI::zJ::zK::zL::zN::zO::zP::zQ::zR::zS::zT::zU::zV::zW::zX::zY::zZ::z8::Aa::Ab::Ad::Ae::Ag::Ah::Ai::Aj::Ak::Al::Am::Ap::Ar::Au::Av::Ny::Nz::NA::NB::NG::NH::NJ::NK::NL::NM::NN::NP::NQ::NU::NV::NW::NY::Oa::Ob::Oc::Od::Oe::Og::Oh::Oi::Oj::Ol::Om::Oo::Oq::Ot::Ou::Ov::Ow::Ox::Oy::Oz::OB::OD::OG::OH::OJ::OL::[]),defers:=[]} w'
theorem Lj (cap inn out start fin:Int) (trips:List ja) (k:Nat):dB ⟨cap,inn,out,start,fin,trips⟩ k=fO trips k trips.length:=rfl
theorem OM (cap inn out start fin:Int) (trips:List ja) (k:Nat):dz ⟨cap,inn,out,start,fin,trips⟩ k=iM trips k trips.length:=rfl
theorem VV (S:Site) (cs:List Car) (E:Option Addr) (n m cE gs gb M:Nat) (w W0:World) (h0:stE S cs=0) (hn:n=S.lim.length) (hm:m=cs.length) (hM:M=bK S cs) (hE:m<=cE/\cE<=9223372036854775807) (hcs:df w E cs) (hJ:vg S cs w gs gb M 0 W0)
 {K:Act->World->Prop} {R:Ending->World->Prop} (hR:CoK K gb (vg S cs w gs gb M m)) {x0 x2 x3 x4 x7 x8 x10 x11 x12 x13 x14 x15 x16 x17 x18 x19 x20 x21 x22 x23 x24 x25 x26 x27 x28 x29 x30 x31 x32 x33 x34 x35 x36 x37 x38 x39 x40 x41 x42 x43 x44 x45 x46 x47 x48 x49 x50 x51 x52 x53 x54 x55 x56 x57 x58 x59 x60 x61 x62 x63 x64 x65 x66 x67 x68 x69 x70 x71 x72 x73 x74 x75 x76 x77 x78 x79 x83 x84 x85 x86 x87 x88 x89 x90 x91 x92 x93 x94 x95 x96 x97 x98 x99 x100 x101 x102 x103 x104 x105 qy x107 qz qA qB qC x112 x113 x114 x115 qD qE qG qH qI qJ qK qL qM qO qQ qR qU qV qW qX qY wZ xc xe tQ tT tV tX tY tZ uf ug uh ui uj uk uo uq x150 x151 x152 x153 uu uw uy x157 x158 x159 x160 uA uB uC uD uE uF x167 x168 xh xk xm xn xq xu xw xy xA xB xC xD xE xG xH xI xJ xK xL xM xN DV DW DX DY DZ Ea Eb Ec Ee Eg x200 Eh Ei Ej El Em En Eo Ep Er KR KU KV KW KX KY KZ K4 K6 K7 K8 K9 La Lb Lc Ld Le Lf Lg VW VX VY VZ V6 V7 V8 V9 Wd We Wh Wi Wj Wl Wm Wn Wo Wp Wq Ws Wt Wu Wv Ww:Value}:
 Code.wp Try.prog Li (Exit.inBlock 4 (Exit.then K (bodyPost Try.prog Try.f76 R))) {tmps:=List.toArray (x0::(.slice E m cE:Value)::x2::x3::x4::(.int .i64 n:Value)::(.pointer (some ⟨gb,0,none⟩):Value)::x7::x8::(.int .i64 ((ag n 0 0:Nat):Int):Value)::x10::x11::x12::x13::x14::x15::x16::x17::x18::x19::x20::x21::x22::x23::x24::x25::x26::x27::x28::x29::x30::x31::x32::x33::x34::x35::x36::x37::x38::x39::x40::x41::x42::x43::x44::x45::x46::x47::x48::x49::x50::x51::x52::x53::x54::x55::x56::x57::x58::x59::x60::x61::x62::x63::x64::x65::x66::x67::x68::x69::x70::x71::x72::x73::x74::x75::x76::x77::x78::x79::(.slice E m cE:Value)::(.int .i64 m:Value)::(.int .i64 0:Value)::x83::x84::x85::x86::x87::x88::x89::x90::x91::x92::x93::x94::x95::x96::x97::x98::x99::x100::x101::x102::x103::x104::x105::qy::x107::qz::qA::qB::qC::x112::x113::x114::x115::qD::qE::qG::qH::qI::qJ::qK::qL::qM::qO::qQ::qR::qU::qV::qW::qX::qY::wZ::xc::xe::tQ::tT::tV::tX::tY::tZ::uf::ug::uh::ui::uj::uk::uo::uq::x150::x151::x152::x153::uu::uw::uy::x157::x158::x159::x160::uA::uB::uC::uD::uE::uF::x167::x168::xh::xk::xm::xn::xq::xu::xw::xy::xA::xB::xC::xD::xE::xG::xH::xI::xJ::xK::xL::xM::xN::DV::DW::DX::DY::DZ::Ea::Eb::Ec::Ee::Eg::x200::Eh::Ei::Ej::El::Em::En::Eo::Ep::Er::KR::KU::KV::KW::KX::KY::KZ::K4::K6::K7::K8::K9::La::Lb::Lc::Ld::Le::Lf::Lg::VW::VX::VY::VZ::V6::V7::V8::V9::Wd::We::Wh::Wi::Wj::Wl::Wm::Wn::Wo::Wp::Wq::Ws::Wt::Wu::Wv::Ww::[]),defers:=[]} W0:=by
 have H0:=zh h0;have HN:=zh hn;have HM:=zh hm;have HMM:=zh hM;have HCS:=zh hcs;have HJ0:=zh hJ;have HR:=zh hR;have h48:n<=48:=by have h3:=(aj.1 (aW h0).2.1).1;omega
 have h1n:1<=n:=by have h3:=(aj.1 (aW h0).2.1).1;omega
 have hM2:M<=833:=by have:=(dM h0).1;omega
 have hmk:=Bp n (by omega);clear h0 hn hm hM hcs hJ hR
 conv=>arg 2;whnf
 go_loopw [9,82] (fun av iv wr=> ∃i:Nat,i<=m/\iv=.int .i64 i/\av=.int .i64 ((ag n i 0:Nat):Int)/\Hid (vg S cs w gs gb M i wr)) (fun _ iv _=>m-(intOf iv).toNat)
 case atStart=>exact⟨0,Nat.zero_le _,rfl,rfl,HJ0⟩
 case round=>
  obtain⟨i,hi,rfl,rfl,HJ⟩:=hrel
  by_cases hlt:i<m
  ·have hii:(i:Int)<(m:Int):=by omega
   have il:i<cs.length:=by rw[<-HM.out];exact hlt
   obtain⟨A,cap0,AI,AO,ci,co,vi,vo,hj1,hj2,hj3⟩:=HJ.out;have HBD:=zh hj1;rw[<-HN.out]at hj2 hj3;have HRI:=zh hj2;have HRO:=zh hj3;clear hj1 hj2 hj3 HJ;have HOK:=zh (eG H0.out il);have jD:=zh (fun k (hk:k<=S.lim.length)=>(And.intro (vO H0.out il hk) (xO (k:=k) il hk)));rw[<-HN.out]at jD HOK;rw[<-HMM.out]at jD;have PS0:=zh (And.intro (JB S cs (M:=M) (i:=i) (by have:=(jD.out 0 (by omega)).2;rw[<-HN.out];omega)) (And.intro (JC S cs (M:=M) (i:=i) (by have:=(jD.out 0 (by omega)).2;rw[<-HN.out];omega)) (Dz S cs (M:=M) (i:=i) (by have:=(jD.out 0 (by omega)).2;rw[<-HN.out];omega))));have PSK:=zh (fun k (hk:k<=n)=>And.intro (Jz S cs (M:=M) (i:=i) (k:=k) (by have:=(jD.out k hk).2;rw[<-HN.out];omega)) (And.intro (JD S cs (M:=M) (i:=i) (k:=k) (by have:=(jD.out k hk).2;rw[<-HN.out];omega)) (JE S cs (M:=M) (i:=i) (k:=k) (by have:=(jD.out k hk).2;rw[<-HN.out];omega))));have PSL:=zh (Hl S cs (M:=M) (i:=i) (by rw[<-HN.out];omega) (by have:=(jD.out n (Nat.le_refl _)).2;rw[<-HN.out];omega));have PA0:=zh (mF S cs i);have PAK:=zh (fun k=>p9 S cs i k);have PAL:=zh (kr S cs i);have PNX:=zh (And.intro (jL n i) (fun k=>ig n i k));have PIX:=zh (fun k=>(And.intro (show inX S cs i k=if dB (cs.getD i default) k=true then -1 else ((bG S cs i k).length:Int)+2 from rfl) (show nP S cs i k=if dB (cs.getD i default) k=true then -1 else ((bG S cs i k).length:Int)+3 from rfl)));have PRI:Hid (inR S cs i=bT (inX S cs i) n n/\gX S cs i=bT (nP S cs i) n n):=zh (by rw[HN.out];exact⟨rfl,rfl⟩);rw[<-HN.out]at PS0 PSL PAL
   simp only[<-HN.out]at PSK PAK;have PU:=zh (fun k=>iN HOK.out k);obtain⟨ad,hE2,abl,c0,c1,c2,c3,c4,TT,cT,c5,hcT,HTT⟩:=HCS.out i il;have hbl:(ad.add (i*6)).block<w.heap.size:=by rw[block_add];exact abl
   replace c0:=(HBD.bel.cell hbl).trans c0
   replace c1:=(HBD.bel.cell (p:=⟨_,_,none⟩) hbl).trans c1
   replace c2:=(HBD.bel.cell (p:=⟨_,_,none⟩) hbl).trans c2
   replace c3:=(HBD.bel.cell (p:=⟨_,_,none⟩) hbl).trans c3
   replace c4:=(HBD.bel.cell (p:=⟨_,_,none⟩) hbl).trans c4
   replace c5:=(HBD.bel.cell (p:=⟨_,_,none⟩) hbl).trans c5
   clear hbl;subst hE2;have HTR:=zh HTT;clear HTT;have HCO:=zh (aT.1 HOK.out).1;generalize hcc:cs.getD i default=c at *;clear hcc;obtain⟨cap,inn,out,start,fin,trips⟩:=c;simp only at c0 c1 c2 c3 c4 c5 hcT HTR HCO PS0 PSL;obtain⟨qn,hqn⟩: ∃qn,qn=trips.length:=⟨_,rfl⟩;rw[<-hqn]at c5 hcT;have HQN:=zh hqn;clear hqn;go_upto_region 17 with fail
   have al:=(Below.refl wr.heap.size wr).alloc (Nat.le_refl _) (.cells #[.int .i64 cap,.int .i64 inn,.int .i64 out,.int .i64 start,.int .i64 fin,.slice TT qn cT] 63);have Cr:=zh (HBD.below al);have OP:=zh (HRI.below al);have OQ:=zh (HRO.below al);have XC:=zh (Blk.new' wr #[.int .i64 cap,.int .i64 inn,.int .i64 out,.int .i64 start,.int .i64 fin,.slice TT qn cT] 63);have HG:Hid (wr.heap.size<=(wr.alloc (.cells #[.int .i64 cap,.int .i64 inn,.int .i64 out,.int .i64 start,.int .i64 fin,.slice TT qn cT] 63)).heap.size):=zh al.size;have hG0:w.heap.size<=wr.heap.size:=HBD.bel.size;clear c0 c1 c2 c3 c4 c5 abl al HBD HRI HRO;generalize wr.alloc (.cells #[.int .i64 cap,.int .i64 inn,.int .i64 out,.int .i64 start,.int .i64 fin,.slice TT qn cT] 63)=wx at Cr OP OQ XC HG ⊢;have HGC:Hid (∃gc,gc=wr.heap.size):=zh ⟨_,rfl⟩;generalize wr.heap.size=G at *;obtain⟨gc,hgc⟩: ∃gc,gc=G:=⟨_,rfl⟩;rw[<-hgc]at XC ⊢;clear hgc;clear HGC;have HT:=zh (Below.refl wx.heap.size wx).drew
   go_cut [12,13]from 86 to 89 (fun g1 g2 wc=> ∃gi go:Nat,g1=.slice (some ⟨gi,0,none⟩) n n/\g2=.slice (some ⟨go,0,none⟩) n n/\Hid (BkJ w n G i gs gb gi go gc AI AO ci co vi vo (inR S cs) (gX S cs) [.int .i64 cap,.int .i64 inn,.int .i64 out,.int .i64 start,.int .i64 fin,.slice TT qn cT] A cap0 (jB S cs M i) (aQ S cs i) (List.replicate n 0) (List.replicate n 0) wc/\Below wx.heap.size wx wc))
   case first=>
    refine kF (S:=fun _ W=>(True)) (by kernel_rfl) ?_ (fun hHeld=>?_)
    ·trivial
    refine lTk 0 ?_ ?_ (fun aa=>?_);rotate_left 1
    ·(intro _ _ _ _ _;first|(go_simp;done)|(go_simp;with_reducible rfl))
    clear hHeld;have hHeld:=aa;clear aa
    (try simp only[zp])
    refine lTk 2 ?_ ?_ (fun aa=>?_);rotate_left 1
    ·(intro _ _ _ _ _;first|(go_simp;done)|(go_simp;with_reducible rfl))
    clear hHeld;have hHeld:=aa;clear aa
    (try simp only[zp])
    refine ay (rs:=[1,3]) (by kernel_rfl) (by simp) ?_;refine au.cons (i:=1) rfl (fun K hK=>?_) ?_
    ·refine aG (.cells (Array.replicate n (.int .i64 0)) 3) (fun g=>.slice (some ⟨g,0,none⟩) n n) rfl (by unfold execOp;simp[hmk,go_sem]) ?_;intro gi w6 z6 hc6 hb6;(try have HNE:=zh (show gi≠go from by have:=Aw.lt;omega));(try have Aw:=zh (Fl.below Aw.out hb6));have Ay:=zh (show Fl 3 w6 gi (List.replicate n 0)from by unfold Fl Blk;rw[hc6];simp);have Ll:=zh (show wx.heap.size<=gi from Nat.le_trans HT.size z6);have HT:=zh (HT.trans (hb6.mono HT.size));clear hb6 hc6 z6
     (try go_wp2_with fail)
     refine hK.out _ _ ?_ (fun aa=>?_)
     ·trivial
     clear hK K;clear hHeld;have hHeld:=aa;clear aa
     (try simp only[zp])
     refine lTk 4 ?_ ?_ (fun aa=>?_);rotate_left 1
     ·(intro _ _ _ _ _;first|(go_simp;done)|(go_simp;with_reducible rfl))
     clear hHeld;have hHeld:=aa;clear aa
     (try simp only[zp])
     refine ay (rs:=[3]) (by kernel_rfl) (by simp) ?_;refine au.cons (i:=3) rfl (fun K hK=>?_) ?_
     ·refine aG (.cells (Array.replicate n (.int .i64 0)) 3) (fun g=>.slice (some ⟨g,0,none⟩) n n) rfl (by unfold execOp;simp[hmk,go_sem]) ?_;intro go w7 z6 hc6 hb6;(try have HNE:=zh (show gi≠go from by have:=Ay.lt;omega));(try have Ay:=zh (Fl.below Ay.out hb6));have Aw:=zh (show Fl 3 w7 go (List.replicate n 0)from by unfold Fl Blk;rw[hc6];simp);have Lm:=zh (show wx.heap.size<=go from Nat.le_trans HT.size z6);have HT:=zh (HT.trans (hb6.mono HT.size));clear hb6 hc6 z6
      (try go_wp2_with fail)
      refine hK.out _ _ ?_ (fun aa=>?_)
      ·trivial
      clear hK K;clear hHeld;have hHeld:=aa;clear aa
      (try simp only[zp])
      refine lTk 5 ?_ ?_ (fun aa=>?_);rotate_left 1
      ·(intro _ _ _ _ _;first|(go_simp;done)|(go_simp;with_reducible rfl))
      clear hHeld;have hHeld:=aa;clear aa
      (try simp only[zp])
      refine fM (by kernel_rfl) ?_ _;go_wp2_with fail
      go_meet
      case rel=>exact⟨gi,go,rfl,rfl,zh ⟨⟨Cr.below HT.out,Ay.out,Aw.out,HNE.out,⟨⟨by have:=Ll.out;have:=HG.out;omega,by have:=Lm.out;have:=HG.out;omega⟩,⟨by have:=Ll.out;have:=HG.out;omega,by have:=Lm.out;have:=HG.out;omega⟩⟩,OP.below HT.out,OQ.below HT.out,XC.below HT.out XC.lt⟩,HT.out⟩⟩
     exact au.nil
    refine au.cons (i:=3) rfl (fun K hK=>?_) ?_
    ·refine aG (.cells (Array.replicate n (.int .i64 0)) 3) (fun g=>.slice (some ⟨g,0,none⟩) n n) rfl (by unfold execOp;simp[hmk,go_sem]) ?_;intro go w7 z6 hc6 hb6;(try have HNE:=zh (show gi≠go from by have:=Ay.lt;omega));(try have Ay:=zh (Fl.below Ay.out hb6));have Aw:=zh (show Fl 3 w7 go (List.replicate n 0)from by unfold Fl Blk;rw[hc6];simp);have Lm:=zh (show wx.heap.size<=go from Nat.le_trans HT.size z6);have HT:=zh (HT.trans (hb6.mono HT.size));clear hb6 hc6 z6
     (try go_wp2_with fail)
     refine hK.out _ _ ?_ (fun aa=>?_)
     ·trivial
     clear hK K;clear hHeld;have hHeld:=aa;clear aa
     (try simp only[zp])
     refine ay (rs:=[1]) (by kernel_rfl) (by simp) ?_;refine au.cons (i:=1) rfl (fun K hK=>?_) ?_
     ·refine aG (.cells (Array.replicate n (.int .i64 0)) 3) (fun g=>.slice (some ⟨g,0,none⟩) n n) rfl (by unfold execOp;simp[hmk,go_sem]) ?_;intro gi w6 z6 hc6 hb6;(try have HNE:=zh (show gi≠go from by have:=Aw.lt;omega));(try have Aw:=zh (Fl.below Aw.out hb6));have Ay:=zh (show Fl 3 w6 gi (List.replicate n 0)from by unfold Fl Blk;rw[hc6];simp);have Ll:=zh (show wx.heap.size<=gi from Nat.le_trans HT.size z6);have HT:=zh (HT.trans (hb6.mono HT.size));clear hb6 hc6 z6
      (try go_wp2_with fail)
      refine hK.out _ _ ?_ (fun aa=>?_)
      ·trivial
      clear hK K;clear hHeld;have hHeld:=aa;clear aa
      (try simp only[zp])
      refine lTk 4 ?_ ?_ (fun aa=>?_);rotate_left 1
      ·(intro _ _ _ _ _;first|(go_simp;done)|(go_simp;with_reducible rfl))
      clear hHeld;have hHeld:=aa;clear aa
      (try simp only[zp])
      refine lTk 5 ?_ ?_ (fun aa=>?_);rotate_left 1
      ·(intro _ _ _ _ _;first|(go_simp;done)|(go_simp;with_reducible rfl))
      clear hHeld;have hHeld:=aa;clear aa
      (try simp only[zp])
      refine fM (by kernel_rfl) ?_ _;go_wp2_with fail
      go_meet
      case rel=>exact⟨gi,go,rfl,rfl,zh ⟨⟨Cr.below HT.out,Ay.out,Aw.out,HNE.out,⟨⟨by have:=Ll.out;have:=HG.out;omega,by have:=Lm.out;have:=HG.out;omega⟩,⟨by have:=Ll.out;have:=HG.out;omega,by have:=Lm.out;have:=HG.out;omega⟩⟩,OP.below HT.out,OQ.below HT.out,XC.below HT.out XC.lt⟩,HT.out⟩⟩
     exact au.nil
    exact au.nil
   case rest=>
    clear HT;obtain⟨gi,go,rfl,rfl,HJ⟩:=hcut;have HK:=zh HJ.1;clear HJ Cr OP OQ HG XC;have hMl:ag n i 0<M:=by have:=(jD.out 0 (by omega)).2;omega
    have hMi:((ag n i 0:Nat):Int)<(M:Int):=by omega
    have hMz:(0:Int)<=((ag n i 0:Nat):Int):=by omega
    have b0:=HK.d.b.cell 0 rfl;rw[PS0.1]at b0;have bl:=HK.d.b.lt;have s0:=HK.d.s.cell (ag n i 0) (by rw[PS0.1];exact hMl);rw[PS0.2.1]at s0;have sz:=HK.d.s.free (ag n i 0);have sl:=HK.d.s.lt;have k3:=HK.car.cell 3 rfl;have kl:=HK.car.lt;have w0e:IntKind.i64.wrap (0+start)=start:=by rw[Int.zero_add];exact IntWalk.i64_in _ (by have:=HCO.out;omega)
    have w0f:IntKind.i64.wrap start=start:=IntWalk.i64_in _ (by have:=HCO.out;omega);go_upto_region 18 with fail
    refine dC 11 ?af18 (by kernel_rfl) (by kernel_rfl) ?Q3 ?Q4
    case Q3=>
     intro V hV;have b0:=(hV.cell (p:=⟨gb,0,none⟩) bl).trans b0;have s0:=(hV.cell (p:=⟨gs,ag n i 0,none⟩) sl).trans s0;have k3:=(hV.cell (p:=⟨gc,3,none⟩) kl).trans k3;have bl:=Nat.lt_of_lt_of_le bl hV.size;have sl:=Nat.lt_of_lt_of_le sl hV.size;have kl:=Nat.lt_of_lt_of_le kl hV.size;clear hV;simp only[List.take_succ_cons,List.take_zero]
     repeat(go_big_quiet_step (fail))
     refine wpQuiet_nil ?_;rfl
    case Q4=>
     intro w2 hb2;have HK2:=zh (HK.below hb2);clear hb2 b0 s0 sz k3 bl sl kl HK;have s0:=HK2.d.s.cell (ag n i 0) (by rw[PS0.1];exact hMl);have sz:=HK2.d.s.free (ag n i 0);have sl:=HK2.d.s.lt;have HK3:=zh (HK2.set (ag n i 0) start);rw[PS0.2.2]at HK3;simp only[List.drop_succ_cons,List.drop_zero];go_upto_region 19 with fail
     generalize w2.setCell ⟨gs,ag n i 0,none⟩ (.int .i64 start)=w3 at HK3 ⊢;go_wp2_with fail
     have HK0:Hid (BkJ w n G i gs gb gi go gc AI AO ci co vi vo (inR S cs) (gX S cs) [.int .i64 cap,.int .i64 inn,.int .i64 out,.int .i64 start,.int .i64 fin,.slice TT qn cT] A cap0 (mI S cs M i 0) (bG S cs i 0) (bT (inX S cs i) n 0) (bT (nP S cs i) n 0) w3):=zh (by rw[PA0.out,kT,kT];exact HK3.out);clear HK3 s0 sz sl HK2
     go_loopw [9,103] (fun av kv wr=> ∃k:Nat,k<=n/\kv=.int .i64 k/\av=.int .i64 ((ag n i k:Nat):Int)/\Hid (∃A cp,BkJ w n G i gs gb gi go gc AI AO ci co vi vo (inR S cs) (gX S cs) [.int .i64 cap,.int .i64 inn,.int .i64 out,.int .i64 start,.int .i64 fin,.slice TT qn cT] A cp (mI S cs M i k) (bG S cs i k) (bT (inX S cs i) n k) (bT (nP S cs i) n k) wr)) (fun _ kv _=>n-(intOf kv).toNat)
     case atStart=>exact⟨0,Nat.zero_le _,rfl,rfl,zh ⟨_,_,HK0.out⟩⟩
     case round=>
      clear HK0;obtain⟨k,hk,rfl,rfl,HJ⟩:=hrel;obtain⟨A1,Es,hj⟩:=HJ.out;have HK:=zh hj;clear hj HJ;have aM:ag n i k+1<M:=(jD.out k hk).2;have al0:=(jD.out k hk).1
      by_cases hlt2:k<n
      ·have hki:(k:Int)<(n:Int):=by omega
       obtain⟨u,hu⟩: ∃u,u=dz ⟨cap,inn,out,start,fin,trips⟩ k:=⟨_,rfl⟩;obtain⟨aw,haw⟩: ∃aw,aw=dB ⟨cap,inn,out,start,fin,trips⟩ k:=⟨_,rfl⟩;have HTC:Hid (∀V,Below w.heap.size w V->Calls Try.prog 87 #[.agg #[.int .i64 cap,.int .i64 inn,.int .i64 out,.int .i64 start,.int .i64 fin,.slice TT qn cT],.int .i64 ((k:Nat):Int)] V fun e w'=>e=.returned (.tuple #[.int .i64 u,.bool aw])/\Below V.heap.size V w'):=zh (fun V hV=>by
        have:=uH (.int .i64 cap) (.int .i64 inn) (.int .i64 out) (.int .i64 start) (.int .i64 fin) k TT trips qn cT V HQN.out hcT (HTR.below hV (Nat.le_refl _));rw[hu,haw,OM,Lj,<-HQN.out];exact this)
       have ub:=PU.out k;rw[<-hu]at ub;have HSL:=zh (PSK.out k hk).1;have HSG:=zh (PSK.out k hk).2.1;have HSS:=zh (PSK.out k hk).2.2;rw[<-hu]at HSS;have HIX:=zh (PIX.out k);have HAK:=zh (PAK.out k);have HRX:=zh (And.intro (mG (inX S cs i) n k hlt2) (mG (nP S cs i) n k hlt2));have HRL:=zh (And.intro (fV (inX S cs i) n k) (fV (nP S cs i) n k));have HAN:Hid (ag n i (k+1)=ag n i k+2):=zh (by rw[PNX.2 (k+1),PNX.2 k];omega);rw[<-haw]at HIX;unfold slA at HAK;rw[<-haw]at HAK;simp only at HAK;clear hu haw;generalize ag n i k=a at *;generalize bG S cs i k=ar at *;generalize bT (inX S cs i) n k=ri at *;generalize bT (nP S cs i) n k=ro at *;generalize mI S cs M i k=su at *;have e0:=HK.car.cell 0 rfl;have e1:=HK.car.cell 1 rfl;have e2:=HK.car.cell 2 rfl;have e3:=HK.car.cell 3 rfl;have e4:=HK.car.cell 4 rfl;have e5:=HK.car.cell 5 rfl;have el:=HK.car.lt;have a1e:IntKind.i64.wrap ((a:Int)+1)=(a:Int)+1:=IntWalk.i64_in _ (by omega);have a2e:IntKind.i64.wrap ((a:Int)+2)=(a:Int)+2:=IntWalk.i64_in _ (by omega);have k1e:IntKind.i64.wrap (1+(k:Int))=1+(k:Int):=IntWalk.i64_in _ (by omega);go_wp2_with fail
       refine(HTC.out wr HK.d.bel).mono ?_;rintro e w4 ⟨rfl,hb⟩;have HK4:=zh (HK.below hb);clear hb HTC HK e0 e1 e2 e3 e4 e5 el;have e0:=HK4.car.cell 0 rfl;have el:=HK4.car.lt;go_wp2_with fail
       clear e0 el;have X2:Hid (Blk (w4.alloc (.cells #[.int .i64 a,.int .i64 ((a:Int)+1),.int .i64 cap,.int .i64 0,.int .i64 ((a:Int)+1),.int .i64 ((a:Int)+2),.int .i64 cap,.int .i64 0] 46)) w4.heap.size 46 (flat bD [Dp.Arc.mk (a:Int) ((a:Int)+1) cap 0,Dp.Arc.mk ((a:Int)+1) ((a:Int)+2) cap 0])):=zh (Blk.new' w4 #[.int .i64 a,.int .i64 ((a:Int)+1),.int .i64 cap,.int .i64 0,.int .i64 ((a:Int)+1),.int .i64 ((a:Int)+2),.int .i64 cap,.int .i64 0] 46);have HKa:=zh (HK4.alloc (.cells #[.int .i64 a,.int .i64 ((a:Int)+1),.int .i64 cap,.int .i64 0,.int .i64 ((a:Int)+1),.int .i64 ((a:Int)+2),.int .i64 cap,.int .i64 0] 46));generalize w4.alloc (.cells #[.int .i64 a,.int .i64 ((a:Int)+1),.int .i64 cap,.int .i64 0,.int .i64 ((a:Int)+1),.int .i64 ((a:Int)+2),.int .i64 cap,.int .i64 0] 46)=wa at X2 HKa ⊢;generalize w4.heap.size=ga at X2 ⊢;clear HK4;refine(pM wa gb (ar).length Es w.heap.size 2 2 A1 (some ⟨ga,0,none⟩) _ _ _ (ar) [Dp.Arc.mk (a:Int) ((a:Int)+1) cap 0,Dp.Arc.mk ((a:Int)+1) ((a:Int)+2) cap 0] rfl rfl (by omega) HKa.d.b HKa.d.own (.inr ⟨_,rfl,fun j u hj=>by rw[dN];exact X2.cell j hj⟩) HKa.d.bel.size).mono ?_;rintro e w5 ⟨A2,cap2,Va,rfl,hV,hg,ho⟩;have HK5:Hid (BkJ w n G i gs gb gi go gc AI AO ci co vi vo (inR S cs) (gX S cs) [.int .i64 cap,.int .i64 inn,.int .i64 out,.int .i64 start,.int .i64 fin,.slice TT qn cT] A2 cap2 (su) (ar++[Dp.Arc.mk (a:Int) ((a:Int)+1) cap 0,Dp.Arc.mk ((a:Int)+1) ((a:Int)+2) cap 0]) (ri) (ro) w5):=zh (by
        have el:(ar++[Dp.Arc.mk (a:Int) ((a:Int)+1) cap 0,Dp.Arc.mk ((a:Int)+1) ((a:Int)+2) cap 0]).length=(ar).length+2:=by simp
        rw[<-el]at hV ho;have:=HKa.push hg ho;rw[<-hV]at this;exact this)
       clear HKa X2 hV hg ho Va;have i0:=HK5.fi.cell k (by rw[HRL.1];exact hlt2);have iz:=HK5.fi.free k;have il2:=HK5.fi.lt;have o0:=HK5.fo.cell k (by rw[HRL.2];exact hlt2);have oz:=HK5.fo.free k;have ol2:=HK5.fo.lt;have Wx:=HK5.ne;have HK6:=zh ((HK5.seti k (-1)).seto k (-1));clear HK5;go_upto_region 25 with fail
       clear i0 iz il2 o0 oz ol2 Wx;generalize (w5.setCell ⟨gi,k,none⟩ (.int .i64 (-1))).setCell ⟨go,k,none⟩ (.int .i64 (-1))=w6 at HK6 ⊢
       cases aw
       ·have e1:=HK6.car.cell 1 rfl
        have el:=HK6.car.lt;go_wp2_with fail
        clear e1 el;have X2:Hid (Blk (w6.alloc (.cells #[.int .i64 (1+(k:Int)),.int .i64 ((a:Int)+2),.int .i64 inn,.int .i64 0] 46)) w6.heap.size 46 (flat bD [Dp.Arc.mk (1+(k:Int)) ((a:Int)+2) inn 0])):=zh (Blk.new' w6 #[.int .i64 (1+(k:Int)),.int .i64 ((a:Int)+2),.int .i64 inn,.int .i64 0] 46);have HKa:=zh (HK6.alloc (.cells #[.int .i64 (1+(k:Int)),.int .i64 ((a:Int)+2),.int .i64 inn,.int .i64 0] 46));generalize w6.alloc (.cells #[.int .i64 (1+(k:Int)),.int .i64 ((a:Int)+2),.int .i64 inn,.int .i64 0] 46)=wa at X2 HKa ⊢;generalize w6.heap.size=ga at X2 ⊢;clear HK6;refine(pM wa gb (ar++[Dp.Arc.mk (a:Int) ((a:Int)+1) cap 0,Dp.Arc.mk ((a:Int)+1) ((a:Int)+2) cap 0]).length cap2 w.heap.size 1 1 A2 (some ⟨ga,0,none⟩) _ _ _ (ar++[Dp.Arc.mk (a:Int) ((a:Int)+1) cap 0,Dp.Arc.mk ((a:Int)+1) ((a:Int)+2) cap 0]) [Dp.Arc.mk (1+(k:Int)) ((a:Int)+2) inn 0] rfl rfl (by first|(simp;done)|(simp;omega)) HKa.d.b HKa.d.own (.inr ⟨_,rfl,fun j u hj=>by rw[dN];exact X2.cell j hj⟩) HKa.d.bel.size).mono ?_;rintro e w7 ⟨A3,Cs,Va,rfl,hV,hg,ho⟩;have HK7:Hid (BkJ w n G i gs gb gi go gc AI AO ci co vi vo (inR S cs) (gX S cs) [.int .i64 cap,.int .i64 inn,.int .i64 out,.int .i64 start,.int .i64 fin,.slice TT qn cT] A3 Cs (su) (ar++[Dp.Arc.mk (a:Int) ((a:Int)+1) cap 0,Dp.Arc.mk ((a:Int)+1) ((a:Int)+2) cap 0]++[Dp.Arc.mk (1+(k:Int)) ((a:Int)+2) inn 0]) (ri.set k (-1)) (ro.set k (-1)) w7):=zh (by
         have el:(ar++[Dp.Arc.mk (a:Int) ((a:Int)+1) cap 0,Dp.Arc.mk ((a:Int)+1) ((a:Int)+2) cap 0]++[Dp.Arc.mk (1+(k:Int)) ((a:Int)+2) inn 0]).length=(ar++[Dp.Arc.mk (a:Int) ((a:Int)+1) cap 0,Dp.Arc.mk ((a:Int)+1) ((a:Int)+2) cap 0]).length+1:=by simp
         rw[<-el]at hV ho;have:=HKa.push hg ho;rw[<-hV]at this;exact this)
        clear HKa X2 hV hg ho Va;have hl2:(((ar++[Dp.Arc.mk (a:Int) ((a:Int)+1) cap 0,Dp.Arc.mk ((a:Int)+1) ((a:Int)+2) cap 0])).length:Int)=(ar.length:Int)+2:=by simp
        rw[hl2];clear hl2;have i0:=HK7.fi.cell k (by simp[HRL.1];exact hlt2);have iz:=HK7.fi.free k;have il2:=HK7.fi.lt;have HK8:=zh (HK7.seti k ((ar.length:Int)+2));clear HK7;go_upto_region 27 with fail
        clear i0 iz il2;generalize w7.setCell ⟨gi,k,none⟩ (.int .i64 ((ar.length:Int)+2))=w8 at HK8 ⊢;have e2:=HK8.car.cell 2 rfl;have el:=HK8.car.lt;go_wp2_with fail
        clear e2 el;have X2:Hid (Blk (w8.alloc (.cells #[.int .i64 ((a:Int)+1),.int .i64 (1+(k:Int)),.int .i64 out,.int .i64 0] 46)) w8.heap.size 46 (flat bD [Dp.Arc.mk ((a:Int)+1) (1+(k:Int)) out 0])):=zh (Blk.new' w8 #[.int .i64 ((a:Int)+1),.int .i64 (1+(k:Int)),.int .i64 out,.int .i64 0] 46);have HKa:=zh (HK8.alloc (.cells #[.int .i64 ((a:Int)+1),.int .i64 (1+(k:Int)),.int .i64 out,.int .i64 0] 46));generalize w8.alloc (.cells #[.int .i64 ((a:Int)+1),.int .i64 (1+(k:Int)),.int .i64 out,.int .i64 0] 46)=wa at X2 HKa ⊢;generalize w8.heap.size=ga at X2 ⊢;clear HK8;refine(pM wa gb ((ar++[Dp.Arc.mk (a:Int) ((a:Int)+1) cap 0,Dp.Arc.mk ((a:Int)+1) ((a:Int)+2) cap 0])++[Dp.Arc.mk (1+(k:Int)) ((a:Int)+2) inn 0]).length Cs w.heap.size 1 1 A3 (some ⟨ga,0,none⟩) _ _ _ ((ar++[Dp.Arc.mk (a:Int) ((a:Int)+1) cap 0,Dp.Arc.mk ((a:Int)+1) ((a:Int)+2) cap 0])++[Dp.Arc.mk (1+(k:Int)) ((a:Int)+2) inn 0]) [Dp.Arc.mk ((a:Int)+1) (1+(k:Int)) out 0] rfl rfl (by first|(simp;done)|(simp;omega)) HKa.d.b HKa.d.own (.inr ⟨_,rfl,fun j u hj=>by rw[dN];exact X2.cell j hj⟩) HKa.d.bel.size).mono ?_;rintro e w9 ⟨A4,cap4,Va,rfl,hV,hg,ho⟩
        have HK9:Hid (BkJ w n G i gs gb gi go gc AI AO ci co vi vo (inR S cs) (gX S cs) [.int .i64 cap,.int .i64 inn,.int .i64 out,.int .i64 start,.int .i64 fin,.slice TT qn cT] A4 cap4 (su) ((ar++[Dp.Arc.mk (a:Int) ((a:Int)+1) cap 0,Dp.Arc.mk ((a:Int)+1) ((a:Int)+2) cap 0])++[Dp.Arc.mk (1+(k:Int)) ((a:Int)+2) inn 0]++[Dp.Arc.mk ((a:Int)+1) (1+(k:Int)) out 0]) ((ri.set k (-1)).set k ((ar.length:Int)+2)) (ro.set k (-1)) w9):=zh (by
         have el:((ar++[Dp.Arc.mk (a:Int) ((a:Int)+1) cap 0,Dp.Arc.mk ((a:Int)+1) ((a:Int)+2) cap 0])++[Dp.Arc.mk (1+(k:Int)) ((a:Int)+2) inn 0]++[Dp.Arc.mk ((a:Int)+1) (1+(k:Int)) out 0]).length=((ar++[Dp.Arc.mk (a:Int) ((a:Int)+1) cap 0,Dp.Arc.mk ((a:Int)+1) ((a:Int)+2) cap 0])++[Dp.Arc.mk (1+(k:Int)) ((a:Int)+2) inn 0]).length+1:=by simp
         rw[<-el]at hV ho;have:=HKa.push hg ho;rw[<-hV]at this;exact this)
        clear HKa X2 hV hg ho Va;have hl2:(((ar++[Dp.Arc.mk (a:Int) ((a:Int)+1) cap 0,Dp.Arc.mk ((a:Int)+1) ((a:Int)+2) cap 0])++[Dp.Arc.mk (1+(k:Int)) ((a:Int)+2) inn 0]).length:Int)=(ar.length:Int)+3:=by first|(simp;done)|(simp;omega)
        rw[hl2];clear hl2;have o0:=HK9.fo.cell k (by simp[HRL.2];exact hlt2);have oz:=HK9.fo.free k;have ol2:=HK9.fo.lt;have Ct:=zh (HK9.seto k ((ar.length:Int)+3));clear HK9;go_upto_region 28 with fail
        clear o0 oz ol2;generalize w9.setCell ⟨go,k,none⟩ (.int .i64 ((ar.length:Int)+3))=w10 at Ct ⊢;have b0:=Ct.d.b.cell 0 rfl;rw[HSL.out]at b0;have bl:=Ct.d.b.lt;have s0:=Ct.d.s.cell (a+1) (by rw[HSL.out];exact aM);rw[HSG.out]at s0;have sz:=Ct.d.s.free (a+1);have sl:=Ct.d.s.lt;have um:IntKind.i64.wrap (0-u)= -u:=by rw[show(0:Int)-u= -u by omega];exact IntWalk.i64_in _ (by omega)
        have um2:IntKind.i64.wrap (-u)= -u:=IntWalk.i64_in _ (by omega);have aMi:(a:Int)+1<(M:Int):=by omega
        have at1:((a:Int)+1).toNat=a+1:=by omega
        have ap1:(0:Int)<=(a:Int)+1:=by omega
        have HKf:=zh (Ct.set (a+1) (-u));rw[HSS.out]at HKf;clear Ct;go_upto_region 29 with fail
        clear b0 bl s0 sz sl um um2 aMi at1 ap1;generalize w10.setCell ⟨gs,a+1,none⟩ (.int .i64 (-u))=wf at HKf ⊢;have HKg:Hid (BkJ w n G i gs gb gi go gc AI AO ci co vi vo (inR S cs) (gX S cs) [.int .i64 cap,.int .i64 inn,.int .i64 out,.int .i64 start,.int .i64 fin,.slice TT qn cT] A4 cap4 (mI S cs M i (k+1)) (bG S cs i (k+1)) (bT (inX S cs i) n (k+1)) (bT (nP S cs i) n (k+1)) wf):=zh (by
         rw[HAK.out];have:=HKf.out
         (try simp only[List.set_set]at this)
         rw[<-HRX.1,<-HRX.2,HIX.1,HIX.2];simpa using this)
        clear HKf;have han:(a:Int)+2=((ag n i (k+1):Nat):Int):=by rw[HAN.out];omega
        have Et:=zh han;clear han;go_wp2_with fail
        exact⟨⟨k+1,by omega,by go_num,by rw[Et.out],zh ⟨_,_,HKg.out⟩⟩,by simp[intOf];omega⟩
       ·go_upto_region 28 with fail
        have b0:=HK6.d.b.cell 0 rfl;rw[HSL.out]at b0;have bl:=HK6.d.b.lt;have s0:=HK6.d.s.cell (a+1) (by rw[HSL.out];exact aM);rw[HSG.out]at s0;have sz:=HK6.d.s.free (a+1);have sl:=HK6.d.s.lt;have um:IntKind.i64.wrap (0-u)= -u:=by rw[show(0:Int)-u= -u by omega];exact IntWalk.i64_in _ (by omega)
        have um2:IntKind.i64.wrap (-u)= -u:=IntWalk.i64_in _ (by omega);have aMi:(a:Int)+1<(M:Int):=by omega
        have at1:((a:Int)+1).toNat=a+1:=by omega
        have ap1:(0:Int)<=(a:Int)+1:=by omega
        have HKf:=zh (HK6.set (a+1) (-u));rw[HSS.out]at HKf;clear HK6;go_upto_region 29 with fail
        clear b0 bl s0 sz sl um um2 aMi at1 ap1;generalize w6.setCell ⟨gs,a+1,none⟩ (.int .i64 (-u))=wf at HKf ⊢;have HKg:Hid (BkJ w n G i gs gb gi go gc AI AO ci co vi vo (inR S cs) (gX S cs) [.int .i64 cap,.int .i64 inn,.int .i64 out,.int .i64 start,.int .i64 fin,.slice TT qn cT] A2 cap2 (mI S cs M i (k+1)) (bG S cs i (k+1)) (bT (inX S cs i) n (k+1)) (bT (nP S cs i) n (k+1)) wf):=zh (by
         rw[HAK.out];have:=HKf.out
         (try simp only[List.set_set]at this)
         rw[<-HRX.1,<-HRX.2,HIX.1,HIX.2];simpa using this)
        clear HKf;have han:(a:Int)+2=((ag n i (k+1):Nat):Int):=by rw[HAN.out];omega
        have Et:=zh han;clear han;go_wp2_with fail
        exact⟨⟨k+1,by omega,by go_num,by rw[Et.out],zh ⟨_,_,HKg.out⟩⟩,by simp[intOf];omega⟩
      ·obtain rfl:n=k:=by omega
       have hki: ¬(n:Int)<(n:Int):=by omega
       have HSL:=zh (PSK.out n (Nat.le_refl _)).1;have HSG:=zh (PSK.out n (Nat.le_refl _)).2.1;have HAN:=zh PNX.1;have HAL:=zh PAL.out;have HSS:=zh PSL.out;have HRR:Hid ((inR S cs i).length=n/\(gX S cs i).length=n):=zh (by rw[PRI.1,PRI.2];exact⟨fV _ _ _,fV _ _ _⟩);rw[<-PRI.1,<-PRI.2]at HK;unfold nN at HAL;simp only at HAL;clear hk;generalize ag n i n=a at *;generalize bG S cs i n=ar at *;generalize mI S cs M i n=su at *;have e0:=HK.car.cell 0 rfl;have e4:=HK.car.cell 4 rfl;have el:=HK.car.lt;have a1e:IntKind.i64.wrap ((a:Int)+1)=(a:Int)+1:=IntWalk.i64_in _ (by omega);have a2e:IntKind.i64.wrap ((a:Int)+2)=(a:Int)+2:=IntWalk.i64_in _ (by omega);have cfe:IntKind.i64.wrap (cap-fin)=cap-fin:=IntWalk.i64_in _ (by have:=HCO.out;omega);go_wp2_with fail
       clear e0 e4 el cfe;have X2:Hid (Blk (wr.alloc (.cells #[.int .i64 a,.int .i64 ((a:Int)+1),.int .i64 cap,.int .i64 0,.int .i64 ((a:Int)+1),.int .i64 0,.int .i64 (cap-fin),.int .i64 0] 46)) wr.heap.size 46 (flat bD [Dp.Arc.mk (a:Int) ((a:Int)+1) cap 0,Dp.Arc.mk ((a:Int)+1) 0 (cap-fin) 0])):=zh (Blk.new' wr #[.int .i64 a,.int .i64 ((a:Int)+1),.int .i64 cap,.int .i64 0,.int .i64 ((a:Int)+1),.int .i64 0,.int .i64 (cap-fin),.int .i64 0] 46);have HKa:=zh (HK.alloc (.cells #[.int .i64 a,.int .i64 ((a:Int)+1),.int .i64 cap,.int .i64 0,.int .i64 ((a:Int)+1),.int .i64 0,.int .i64 (cap-fin),.int .i64 0] 46));generalize wr.alloc (.cells #[.int .i64 a,.int .i64 ((a:Int)+1),.int .i64 cap,.int .i64 0,.int .i64 ((a:Int)+1),.int .i64 0,.int .i64 (cap-fin),.int .i64 0] 46)=wa at X2 HKa ⊢;generalize wr.heap.size=ga at X2 ⊢;clear HK;refine(pM wa gb (ar).length Es w.heap.size 2 2 A1 (some ⟨ga,0,none⟩) _ _ _ (ar) [Dp.Arc.mk (a:Int) ((a:Int)+1) cap 0,Dp.Arc.mk ((a:Int)+1) 0 (cap-fin) 0] rfl rfl (by omega) HKa.d.b HKa.d.own (.inr ⟨_,rfl,fun j u hj=>by rw[dN];exact X2.cell j hj⟩) HKa.d.bel.size).mono ?_;rintro e w5 ⟨A2,cap2,Va,rfl,hV,hg,ho⟩;have HK5:Hid (BkJ w n G i gs gb gi go gc AI AO ci co vi vo (inR S cs) (gX S cs) [.int .i64 cap,.int .i64 inn,.int .i64 out,.int .i64 start,.int .i64 fin,.slice TT qn cT] A2 cap2 (su) (ar++[Dp.Arc.mk (a:Int) ((a:Int)+1) cap 0,Dp.Arc.mk ((a:Int)+1) 0 (cap-fin) 0]) (inR S cs i) (gX S cs i) w5):=zh (by
        have el:(ar++[Dp.Arc.mk (a:Int) ((a:Int)+1) cap 0,Dp.Arc.mk ((a:Int)+1) 0 (cap-fin) 0]).length=(ar).length+2:=by simp
        rw[<-el]at hV ho;have:=HKa.push hg ho;rw[<-hV]at this;exact this)
       clear HKa X2 hV hg ho Va;go_upto_region 32 with fail
       have b0:=HK5.d.b.cell 0 rfl;rw[HSL.out]at b0;have bl:=HK5.d.b.lt;have s0:=HK5.d.s.cell (a+1) (by rw[HSL.out];exact aM);rw[HSG.out]at s0;have sl:=HK5.d.s.lt;have k4:=HK5.car.cell 4 rfl;have kl:=HK5.car.lt;have um:IntKind.i64.wrap (0-fin)= -fin:=by rw[show(0:Int)-fin= -fin by omega];exact IntWalk.i64_in _ (by have:=HCO.out;omega)
       have um2:IntKind.i64.wrap (-fin)= -fin:=IntWalk.i64_in _ (by have:=HCO.out;omega);have aMi:(a:Int)+1<(M:Int):=by omega
       have at1:((a:Int)+1).toNat=a+1:=by omega
       have ap1:(0:Int)<=(a:Int)+1:=by omega
       refine dC 12 ?af32 (by kernel_rfl) (by kernel_rfl) ?Wy ?Wz
       case Wy=>
        intro V hV;have b0:=(hV.cell (p:=⟨gb,0,none⟩) bl).trans b0;have s0:=(hV.cell (p:=⟨gs,a+1,none⟩) sl).trans s0;have k4:=(hV.cell (p:=⟨gc,4,none⟩) kl).trans k4;have bl:=Nat.lt_of_lt_of_le bl hV.size;have sl:=Nat.lt_of_lt_of_le sl hV.size;have kl:=Nat.lt_of_lt_of_le kl hV.size;clear hV;simp only[List.take_succ_cons,List.take_zero]
        repeat(go_big_quiet_step (fail))
        refine wpQuiet_nil ?_;rfl
       case Wz=>
        intro w6 hb6;have HK6:=zh (HK5.below hb6);clear hb6 b0 s0 sl k4 bl kl HK5;have s0:=HK6.d.s.cell (a+1) (by rw[HSL.out];exact aM);have sz:=HK6.d.s.free (a+1);have sl:=HK6.d.s.lt;have HK7:=zh (HK6.set (a+1) (-fin));rw[HSS.out,<-HAL.out]at HK7;clear HK6;simp only[List.drop_succ_cons,List.drop_zero];go_upto_region 33 with fail
        clear s0 sz sl um um2 aMi at1 ap1;generalize w6.setCell ⟨gs,a+1,none⟩ (.int .i64 (-fin))=w7 at HK7 ⊢;go_upto_region 34 with fail
        have HX:=zh HK7.two;have HGG:=zh HK7.ge;obtain⟨i26,Hy,Hz,H8,H9⟩:=info_parts I6;have im8:i<=8:=by have:=(aW H0.out).1;omega
        have han:(a:Int)+2=((ag n (i+1) 0:Nat):Int):=by rw[HAN.out];omega
        have Et:=zh han;have GZ:=zh (show G<=w7.heap.size from by have:=HK7.fi.lt;have:=HK7.ge;omega);have HX:=zh (HX.below (Below.refl _ _).drew);have GZ:=zh (show G<=w7.drew.heap.size from GZ.out);clear han HK7;refine kF (S:=fun L W=>(True)/\(L.getD 18 false=true∨(W.cell? ⟨gb,2,none⟩=some (.slice AI i ci)))/\(L.getD 21 false=true∨(W.cell? ⟨gb,3,none⟩=some (.slice AO i co)))) (by kernel_rfl) ?_ (fun hHeld=>?_)
        ·(try dsimp only);refine⟨?_,Or.inr ?_,Or.inr ?_⟩
         ·(first|trivial|with_reducible assumption)
         ·(with_reducible exact HX.out.b.cell 2 rfl)
         ·(first|(with_reducible exact HX.out.b.cell 3 rfl)|(go_simp;done))
        refine bS (i:=0) (v:=?_) rfl (by kernel_rfl) (by kernel_rfl) (by kernel_rfl) (fun _ _ _ h=>h) (by rfl) (fun _ _ h=>by simpa only[getD_set_ne false (show 0≠18 by decide),getD_set_ne false (show 0≠21 by decide)]using h) (fun _ _ h=>by simpa only[getD_set_ne false (show 0≠18 by decide),getD_set_ne false (show 0≠21 by decide)]using h) ?_ (by assumption) (fun aa=>?_);rotate_left 1
        ·(intro _ _ _ _ _;first|(go_simp;done)|(go_simp;with_reducible rfl))
        clear hHeld;have hHeld:=aa;clear aa
        (try simp only[zp])
        refine bS (i:=1) (v:=?_) rfl (by kernel_rfl) (by kernel_rfl) (by kernel_rfl) (fun _ _ _ h=>h) (by rfl) (fun _ _ h=>by simpa only[getD_set_ne false (show 1≠18 by decide),getD_set_ne false (show 1≠21 by decide)]using h) (fun _ _ h=>by simpa only[getD_set_ne false (show 1≠18 by decide),getD_set_ne false (show 1≠21 by decide)]using h) ?_ (by assumption) (fun aa=>?_);rotate_left 1
        ·(intro _ _ _ _ _;first|(go_simp;done)|(go_simp;with_reducible rfl))
        clear hHeld;have hHeld:=aa;clear aa
        (try simp only[zp])
        refine bS (i:=2) (v:=?_) rfl (by kernel_rfl) (by kernel_rfl) (by kernel_rfl) (fun _ _ _ h=>h) (by rfl) (fun _ _ h=>by simpa only[getD_set_ne false (show 2≠18 by decide),getD_set_ne false (show 2≠21 by decide)]using h) (fun _ _ h=>by simpa only[getD_set_ne false (show 2≠18 by decide),getD_set_ne false (show 2≠21 by decide)]using h) ?_ (by assumption) (fun aa=>?_);rotate_left 1
        ·(intro _ _ _ _ _;first|(go_simp;done)|(go_simp;with_reducible rfl))
        clear hHeld;have hHeld:=aa;clear aa
        (try simp only[zp])
        refine bS (i:=3) (v:=?_) rfl (by kernel_rfl) (by kernel_rfl) (by kernel_rfl) (fun _ _ _ h=>h) (by rfl) (fun _ _ h=>by simpa only[getD_set_ne false (show 3≠18 by decide),getD_set_ne false (show 3≠21 by decide)]using h) (fun _ _ h=>by simpa only[getD_set_ne false (show 3≠18 by decide),getD_set_ne false (show 3≠21 by decide)]using h) ?_ (by assumption) (fun aa=>?_);rotate_left 1
        ·(intro _ _ _ _ _;first|(go_simp;done)|(go_simp;with_reducible rfl))
        clear hHeld;have hHeld:=aa;clear aa
        (try simp only[zp])
        refine bS (i:=4) (v:=?_) rfl (by kernel_rfl) (by kernel_rfl) (by kernel_rfl) (fun _ _ _ h=>h) (by rfl) (fun _ _ h=>by simpa only[getD_set_ne false (show 4≠18 by decide),getD_set_ne false (show 4≠21 by decide)]using h) (fun _ _ h=>by simpa only[getD_set_ne false (show 4≠18 by decide),getD_set_ne false (show 4≠21 by decide)]using h) ?_ (by assumption) (fun aa=>?_);rotate_left 1
        ·(intro _ _ _ _ _;first|(go_simp;done)|(go_simp;with_reducible rfl))
        clear hHeld;have hHeld:=aa;clear aa
        (try simp only[zp])
        refine bS (i:=5) (v:=?_) rfl (by kernel_rfl) (by kernel_rfl) (by kernel_rfl) (fun _ _ _ h=>h) (by rfl) (fun _ _ h=>by simpa only[getD_set_ne false (show 5≠18 by decide),getD_set_ne false (show 5≠21 by decide)]using h) (fun _ _ h=>by simpa only[getD_set_ne false (show 5≠18 by decide),getD_set_ne false (show 5≠21 by decide)]using h) ?_ (by assumption) (fun aa=>?_);rotate_left 1
        ·(intro L W hL hK hSw;(try dsimp only at hSw);obtain⟨h0,h1,h2⟩:=hSw;replace h1:=still [] hK hL (by kernel_rfl) h1;replace h2:=still [] hK hL (by kernel_rfl) h2;clear hL hK;first|(go_simp;done)|(go_simp;with_reducible rfl))
        clear hHeld;have hHeld:=aa;clear aa
        (try simp only[zp])
        refine bS (i:=6) (v:=?_) rfl (by kernel_rfl) (by kernel_rfl) (by kernel_rfl) (fun _ _ _ h=>h) (by rfl) (fun _ _ h=>by simpa only[getD_set_ne false (show 6≠18 by decide),getD_set_ne false (show 6≠21 by decide)]using h) (fun _ _ h=>by simpa only[getD_set_ne false (show 6≠18 by decide),getD_set_ne false (show 6≠21 by decide)]using h) ?_ (by assumption) (fun aa=>?_);rotate_left 1
        ·(intro _ _ _ _ _;first|(go_simp;done)|(go_simp;with_reducible rfl))
        clear hHeld;have hHeld:=aa;clear aa
        (try simp only[zp])
        refine bS (i:=9) (v:=?_) rfl (by kernel_rfl) (by kernel_rfl) (by kernel_rfl) (fun _ _ _ h=>h) (by rfl) (fun _ _ h=>by simpa only[getD_set_ne false (show 9≠18 by decide),getD_set_ne false (show 9≠21 by decide)]using h) (fun _ _ h=>by simpa only[getD_set_ne false (show 9≠18 by decide),getD_set_ne false (show 9≠21 by decide)]using h) ?_ (by assumption) (fun aa=>?_);rotate_left 1
        ·(intro _ _ _ _ _;first|(go_simp;done)|(go_simp;with_reducible rfl))
        clear hHeld;have hHeld:=aa;clear aa
        (try simp only[zp])
        refine bS (i:=10) (v:=?_) rfl (by kernel_rfl) (by kernel_rfl) (by kernel_rfl) (fun _ _ _ h=>h) (by rfl) (fun _ _ h=>by simpa only[getD_set_ne false (show 10≠18 by decide),getD_set_ne false (show 10≠21 by decide)]using h) (fun _ _ h=>by simpa only[getD_set_ne false (show 10≠18 by decide),getD_set_ne false (show 10≠21 by decide)]using h) ?_ (by assumption) (fun aa=>?_);rotate_left 1
        ·(intro _ _ _ _ _;first|(go_simp;done)|(go_simp;with_reducible rfl))
        clear hHeld;have hHeld:=aa;clear aa
        (try simp only[zp])
        refine bS (i:=11) (v:=?_) rfl (by kernel_rfl) (by kernel_rfl) (by kernel_rfl) (fun _ _ _ h=>h) (by rfl) (fun _ _ h=>by simpa only[getD_set_ne false (show 11≠18 by decide),getD_set_ne false (show 11≠21 by decide)]using h) (fun _ _ h=>by simpa only[getD_set_ne false (show 11≠18 by decide),getD_set_ne false (show 11≠21 by decide)]using h) ?_ (by assumption) (fun aa=>?_);rotate_left 1
        ·(intro _ _ _ _ _;first|(go_simp;done)|(go_simp;with_reducible rfl))
        clear hHeld;have hHeld:=aa;clear aa
        (try simp only[zp])
        refine bS (i:=12) (v:=?_) rfl (by kernel_rfl) (by kernel_rfl) (by kernel_rfl) (fun _ _ _ h=>h) (by rfl) (fun _ _ h=>by simpa only[getD_set_ne false (show 12≠18 by decide),getD_set_ne false (show 12≠21 by decide)]using h) (fun _ _ h=>by simpa only[getD_set_ne false (show 12≠18 by decide),getD_set_ne false (show 12≠21 by decide)]using h) ?_ (by assumption) (fun aa=>?_);rotate_left 1
        ·(intro L W hL hK hSw;(try dsimp only at hSw);obtain⟨h0,h1,h2⟩:=hSw;replace h1:=still [] hK hL (by kernel_rfl) h1;replace h2:=still [] hK hL (by kernel_rfl) h2;clear hL hK;first|(go_simp;done)|(go_simp;with_reducible rfl))
        clear hHeld;have hHeld:=aa;clear aa
        (try simp only[zp])
        refine bS (i:=13) (v:=?_) rfl (by kernel_rfl) (by kernel_rfl) (by kernel_rfl) (fun _ _ _ h=>h) (by rfl) (fun _ _ h=>by simpa only[getD_set_ne false (show 13≠18 by decide),getD_set_ne false (show 13≠21 by decide)]using h) (fun _ _ h=>by simpa only[getD_set_ne false (show 13≠18 by decide),getD_set_ne false (show 13≠21 by decide)]using h) ?_ (by assumption) (fun aa=>?_);rotate_left 1
        ·(intro _ _ _ _ _;first|(go_simp;done)|(go_simp;with_reducible rfl))
        clear hHeld;have hHeld:=aa;clear aa
        (try simp only[zp])
        refine ay (rs:=[7,14]) (by kernel_rfl) (by simp) ?_;refine au.cons (i:=7) rfl (fun K hK=>?_) ?_
        ·refine aG (.cells #[.slice (some ⟨gi,0,none⟩) n n] 26) (fun g=>.slice (some ⟨g,0,none⟩) 1 1) rfl (by kernel_rfl) ?_;intro b7 v7 z7 hc7 hb7;(try have H14:=zh (H14.below hb7 H14.lt));have H7:=zh (show Blk v7 b7 26 [.slice (some ⟨gi,0,none⟩) n n]from hc7);have HX:=zh (HX.below hb7);have GZ:=zh (Nat.le_trans GZ.out hb7.size);clear hc7 hb7 z7
         (try go_wp2_with fail)
         refine hK.out _ _ ?_ (fun aa=>?_)
         ·(try dsimp only);refine⟨?_,Or.inr ?_,Or.inr ?_⟩
          ·(first|trivial|with_reducible assumption)
          ·(with_reducible exact HX.out.b.cell 2 rfl)
          ·(first|(with_reducible exact HX.out.b.cell 3 rfl)|(go_simp;done))
         clear hK K;clear hHeld;have hHeld:=aa;clear aa
         (try simp only[zp])
         refine ay (rs:=[8,14]) (by kernel_rfl) (by simp) ?_;refine au.cons (i:=8) rfl (fun K hK=>?_) ?_
         ·refine dQ (.tmp 214) (.tmp 216) 111 rfl rfl w.heap.size 26 i26 (.slice none 0 0) 1 24 Try.underlying111 Hy Hz H8 H9 rfl (by decide) AI i ci vi (by rfl) HX.oi (some ⟨b7,0,none⟩) 1 1 [.slice (some ⟨gi,0,none⟩) n n] (by rfl) (by rfl) (.inr ⟨_,rfl,fun k u hk=>by rcases k with _|k<;>simp at hk;subst hk;exact H7.cell 0 rfl⟩) (by simp[Value.oneCell']) (by unfold maxLen;omega) (by omega) HX.bel.size ?_;intro AI2 ci2 v8 hown hgrow hat;(try have H14:=zh (H14.grown hgrow (fun e=>by have:=Lp.out b14 (bE.2 e.symm);omega)));have GZ:=zh (Nat.le_trans GZ.out hgrow.size);have HX:=zh (HX.growI (Nat.le_refl _) hgrow hown hat);clear hown hgrow hat
          (try go_wp2_with fail)
          refine hK.out _ _ ?_ (fun aa=>?_)
          ·(try dsimp only);refine⟨?_,Or.inr ?_,Or.inr ?_⟩
           ·(first|trivial|with_reducible assumption)
           ·(with_reducible exact HX.out.b.cell 2 rfl)
           ·(first|(with_reducible exact HX.out.b.cell 3 rfl)|(go_simp;done))
          clear hK K;clear hHeld;have hHeld:=aa;clear aa
          (try simp only[zp])
          refine ay (rs:=[14]) (by kernel_rfl) (by simp) ?_;refine au.cons (i:=14) rfl (fun K hK=>?_) ?_
          ·refine aG (.cells #[.slice (some ⟨go,0,none⟩) n n] 26) (fun g=>.slice (some ⟨g,0,none⟩) 1 1) rfl (by kernel_rfl) ?_;intro b14 v14 z14 Cu oW;(try have H7:=zh (H7.below oW H7.lt));(try have Lp:=zh (show∀k,aK AI k->k<b14 from fun k hk=>Nat.lt_of_lt_of_le (iT HX.oi hk).1 z14));have H14:=zh (show Blk v14 b14 26 [.slice (some ⟨go,0,none⟩) n n]from Cu);have HX:=zh (HX.below oW);have GZ:=zh (Nat.le_trans GZ.out oW.size);clear Cu oW z14
           (try go_wp2_with fail)
           refine hK.out _ _ ?_ (fun aa=>?_)
           ·(try dsimp only);refine⟨?_,Or.inr ?_,Or.inr ?_⟩
            ·(first|trivial|with_reducible assumption)
            ·(with_reducible exact HX.out.b.cell 2 rfl)
            ·(first|(with_reducible exact HX.out.b.cell 3 rfl)|(go_simp;done))
           clear hK K;clear hHeld;have hHeld:=aa;clear aa
           (try simp only[zp])
           refine ay (rs:=[15]) (by kernel_rfl) (by simp) ?_;refine au.cons (i:=15) rfl (fun K hK=>?_) ?_
           ·refine dQ (.tmp 221) (.tmp 223) 111 rfl rfl w.heap.size 26 i26 (.slice none 0 0) 1 24 Try.underlying111 Hy Hz H8 H9 rfl (by decide) AO i co vo (by rfl) HX.oo (some ⟨b14,0,none⟩) 1 1 [.slice (some ⟨go,0,none⟩) n n] (by rfl) (by rfl) (.inr ⟨_,rfl,fun k u hk=>by rcases k with _|k<;>simp at hk;subst hk;exact H14.cell 0 rfl⟩) (by simp[Value.oneCell']) (by unfold maxLen;omega) (by omega) HX.bel.size ?_;intro AO2 co2 v15 hown hgrow hat;have GZ:=zh (Nat.le_trans GZ.out hgrow.size);have HX:=zh (HX.growO (Nat.le_refl _) hgrow hown hat);have q2:=HX.b.cell 2 rfl;have q3:=HX.b.cell 3 rfl;have z2:=HX.b.free 2;have z3:=HX.b.free 3;have qlt:=HX.b.lt;clear hown hgrow hat
            (try go_wp2_with fail)
            refine hK.out _ _ ?_ (fun aa=>?_)
            ·(try dsimp only);refine⟨?_,Or.inr ?_,Or.inr ?_⟩
             ·(first|trivial|with_reducible assumption)
             ·(with_reducible exact HX.out.b.cell 2 rfl)
             ·(first|(with_reducible exact HX.out.b.cell 3 rfl)|(go_simp;done))
            clear hK K;clear hHeld;have hHeld:=aa;clear aa
            (try simp only[zp])
            refine bS (i:=16) (v:=?_) rfl (by kernel_rfl) (by kernel_rfl) (by kernel_rfl) (fun _ _ _ h=>h) (by rfl) (fun _ _ h=>by simpa only[getD_set_ne false (show 16≠18 by decide),getD_set_ne false (show 16≠21 by decide)]using h) (fun _ _ h=>by simpa only[getD_set_ne false (show 16≠18 by decide),getD_set_ne false (show 16≠21 by decide)]using h) ?_ (by assumption) (fun aa=>?_);rotate_left 1
            ·(intro _ _ _ _ _;first|(go_simp;done)|(go_simp;with_reducible rfl))
            clear hHeld;have hHeld:=aa;clear aa
            (try simp only[zp])
            refine bS (i:=17) (v:=?_) rfl (by kernel_rfl) (by kernel_rfl) (by kernel_rfl) (fun _ _ _ h=>h) (by rfl) (fun _ _ h=>by simpa only[getD_set_ne false (show 17≠18 by decide),getD_set_ne false (show 17≠21 by decide)]using h) (fun _ _ h=>by simpa only[getD_set_ne false (show 17≠18 by decide),getD_set_ne false (show 17≠21 by decide)]using h) ?_ (by assumption) (fun aa=>?_);rotate_left 1
            ·(intro _ _ _ _ _;first|(go_simp;done)|(go_simp;with_reducible rfl))
            clear hHeld;have hHeld:=aa;clear aa
            (try simp only[zp])
            refine ay (rs:=[18]) (by kernel_rfl) (by simp) ?_;refine au.cons (i:=18) rfl (fun K hK=>?_) ?_
            ·go_simp
             (try go_wp2_with fail)
             refine hK.out _ _ ?_ (fun aa=>?_)
             ·(try dsimp only);refine⟨?_,Or.inl (by rfl),Or.inr ?_⟩
              ·(first|trivial|with_reducible assumption)
              ·(first|(with_reducible exact HX.out.b.cell 3 rfl)|(go_simp;done))
             clear hK K;clear hHeld;have hHeld:=aa;clear aa
             (try simp only[zp])
             refine bS (i:=19) (v:=?_) rfl (by kernel_rfl) (by kernel_rfl) (by kernel_rfl) (fun _ _ _ h=>h) (by rfl) (fun _ _ h=>by simpa only[getD_set_ne false (show 19≠18 by decide),getD_set_ne false (show 19≠21 by decide)]using h) (fun _ _ h=>by simpa only[getD_set_ne false (show 19≠18 by decide),getD_set_ne false (show 19≠21 by decide)]using h) ?_ (by assumption) (fun aa=>?_);rotate_left 1
             ·(intro _ _ _ _ _;first|(go_simp;done)|(go_simp;with_reducible rfl))
             clear hHeld;have hHeld:=aa;clear aa
             (try simp only[zp])
             refine bS (i:=20) (v:=?_) rfl (by kernel_rfl) (by kernel_rfl) (by kernel_rfl) (fun _ _ _ h=>h) (by rfl) (fun _ _ h=>by simpa only[getD_set_ne false (show 20≠18 by decide),getD_set_ne false (show 20≠21 by decide)]using h) (fun _ _ h=>by simpa only[getD_set_ne false (show 20≠18 by decide),getD_set_ne false (show 20≠21 by decide)]using h) ?_ (by assumption) (fun aa=>?_);rotate_left 1
             ·(intro _ _ _ _ _;first|(go_simp;done)|(go_simp;with_reducible rfl))
             clear hHeld;have hHeld:=aa;clear aa
             (try simp only[zp])
             refine ay (rs:=[21]) (by kernel_rfl) (by simp) ?_;refine au.cons (i:=21) rfl (fun K hK=>?_) ?_
             ·go_simp
              (try go_wp2_with fail)
              refine hK.out _ _ ?_ (fun aa=>?_)
              ·(try dsimp only);refine⟨?_,Or.inl (by rfl),Or.inl (by rfl)⟩
               ·(first|trivial|with_reducible assumption)
              clear hK K;clear hHeld;have hHeld:=aa;clear aa
              (try simp only[zp])
              refine fM (by kernel_rfl) ?_ _;have HBE:=zh (vg.of HN.out HX.out HRR.out GZ.out);generalize (v15.setCell ⟨gb,2,none⟩ (.slice AI2 (i+1) ci2)).setCell ⟨gb,3,none⟩ (.slice AO2 (i+1) co2)=wE at HBE ⊢;clear q2 q3 z2 z3 qlt HX H7 H14;go_wp2_with fail
              go_roundw
              case measure=>simp[intOf];omega
              case rel=>exact⟨i+1,by omega,by go_num,by rw[Et.out],HBE⟩
             exact au.nil
            exact au.nil
           exact au.nil
          exact au.nil
         refine au.cons (i:=14) rfl (fun K hK=>?_) ?_
         ·refine aG (.cells #[.slice (some ⟨go,0,none⟩) n n] 26) (fun g=>.slice (some ⟨g,0,none⟩) 1 1) rfl (by kernel_rfl) ?_;intro b14 v14 z14 Cu oW;(try have H7:=zh (H7.below oW H7.lt));(try have Lp:=zh (show∀k,aK AI k->k<b14 from fun k hk=>Nat.lt_of_lt_of_le (iT HX.oi hk).1 z14));have H14:=zh (show Blk v14 b14 26 [.slice (some ⟨go,0,none⟩) n n]from Cu);have HX:=zh (HX.below oW);have GZ:=zh (Nat.le_trans GZ.out oW.size);clear Cu oW z14
          (try go_wp2_with fail)
          refine hK.out _ _ ?_ (fun aa=>?_)
          ·(try dsimp only);refine⟨?_,Or.inr ?_,Or.inr ?_⟩
           ·(first|trivial|with_reducible assumption)
           ·(with_reducible exact HX.out.b.cell 2 rfl)
           ·(first|(with_reducible exact HX.out.b.cell 3 rfl)|(go_simp;done))
          clear hK K;clear hHeld;have hHeld:=aa;clear aa
          (try simp only[zp])
          refine ay (rs:=[8]) (by kernel_rfl) (by simp) ?_;refine au.cons (i:=8) rfl (fun K hK=>?_) ?_
          ·refine dQ (.tmp 214) (.tmp 216) 111 rfl rfl w.heap.size 26 i26 (.slice none 0 0) 1 24 Try.underlying111 Hy Hz H8 H9 rfl (by decide) AI i ci vi (by rfl) HX.oi (some ⟨b7,0,none⟩) 1 1 [.slice (some ⟨gi,0,none⟩) n n] (by rfl) (by rfl) (.inr ⟨_,rfl,fun k u hk=>by rcases k with _|k<;>simp at hk;subst hk;exact H7.cell 0 rfl⟩) (by simp[Value.oneCell']) (by unfold maxLen;omega) (by omega) HX.bel.size ?_;intro AI2 ci2 v8 hown hgrow hat;(try have H14:=zh (H14.grown hgrow (fun e=>by have:=Lp.out b14 (bE.2 e.symm);omega)));have GZ:=zh (Nat.le_trans GZ.out hgrow.size);have HX:=zh (HX.growI (Nat.le_refl _) hgrow hown hat);clear hown hgrow hat
           (try go_wp2_with fail)
           refine hK.out _ _ ?_ (fun aa=>?_)
           ·(try dsimp only);refine⟨?_,Or.inr ?_,Or.inr ?_⟩
            ·(first|trivial|with_reducible assumption)
            ·(with_reducible exact HX.out.b.cell 2 rfl)
            ·(first|(with_reducible exact HX.out.b.cell 3 rfl)|(go_simp;done))
           clear hK K;clear hHeld;have hHeld:=aa;clear aa
           (try simp only[zp])
           refine ay (rs:=[15]) (by kernel_rfl) (by simp) ?_;refine au.cons (i:=15) rfl (fun K hK=>?_) ?_
           ·refine dQ (.tmp 221) (.tmp 223) 111 rfl rfl w.heap.size 26 i26 (.slice none 0 0) 1 24 Try.underlying111 Hy Hz H8 H9 rfl (by decide) AO i co vo (by rfl) HX.oo (some ⟨b14,0,none⟩) 1 1 [.slice (some ⟨go,0,none⟩) n n] (by rfl) (by rfl) (.inr ⟨_,rfl,fun k u hk=>by rcases k with _|k<;>simp at hk;subst hk;exact H14.cell 0 rfl⟩) (by simp[Value.oneCell']) (by unfold maxLen;omega) (by omega) HX.bel.size ?_;intro AO2 co2 v15 hown hgrow hat;have GZ:=zh (Nat.le_trans GZ.out hgrow.size);have HX:=zh (HX.growO (Nat.le_refl _) hgrow hown hat);have q2:=HX.b.cell 2 rfl;have q3:=HX.b.cell 3 rfl;have z2:=HX.b.free 2;have z3:=HX.b.free 3;have qlt:=HX.b.lt;clear hown hgrow hat
            (try go_wp2_with fail)
            refine hK.out _ _ ?_ (fun aa=>?_)
            ·(try dsimp only);refine⟨?_,Or.inr ?_,Or.inr ?_⟩
             ·(first|trivial|with_reducible assumption)
             ·(with_reducible exact HX.out.b.cell 2 rfl)
             ·(first|(with_reducible exact HX.out.b.cell 3 rfl)|(go_simp;done))
            clear hK K;clear hHeld;have hHeld:=aa;clear aa
            (try simp only[zp])
            refine bS (i:=16) (v:=?_) rfl (by kernel_rfl) (by kernel_rfl) (by kernel_rfl) (fun _ _ _ h=>h) (by rfl) (fun _ _ h=>by simpa only[getD_set_ne false (show 16≠18 by decide),getD_set_ne false (show 16≠21 by decide)]using h) (fun _ _ h=>by simpa only[getD_set_ne false (show 16≠18 by decide),getD_set_ne false (show 16≠21 by decide)]using h) ?_ (by assumption) (fun aa=>?_);rotate_left 1
            ·(intro _ _ _ _ _;first|(go_simp;done)|(go_simp;with_reducible rfl))
            clear hHeld;have hHeld:=aa;clear aa
            (try simp only[zp])
            refine bS (i:=17) (v:=?_) rfl (by kernel_rfl) (by kernel_rfl) (by kernel_rfl) (fun _ _ _ h=>h) (by rfl) (fun _ _ h=>by simpa only[getD_set_ne false (show 17≠18 by decide),getD_set_ne false (show 17≠21 by decide)]using h) (fun _ _ h=>by simpa only[getD_set_ne false (show 17≠18 by decide),getD_set_ne false (show 17≠21 by decide)]using h) ?_ (by assumption) (fun aa=>?_);rotate_left 1
            ·(intro _ _ _ _ _;first|(go_simp;done)|(go_simp;with_reducible rfl))
            clear hHeld;have hHeld:=aa;clear aa
            (try simp only[zp])
            refine ay (rs:=[18]) (by kernel_rfl) (by simp) ?_;refine au.cons (i:=18) rfl (fun K hK=>?_) ?_
            ·go_simp
             (try go_wp2_with fail)
             refine hK.out _ _ ?_ (fun aa=>?_)
             ·(try dsimp only);refine⟨?_,Or.inl (by rfl),Or.inr ?_⟩
              ·(first|trivial|with_reducible assumption)
              ·(first|(with_reducible exact HX.out.b.cell 3 rfl)|(go_simp;done))
             clear hK K;clear hHeld;have hHeld:=aa;clear aa
             (try simp only[zp])
             refine bS (i:=19) (v:=?_) rfl (by kernel_rfl) (by kernel_rfl) (by kernel_rfl) (fun _ _ _ h=>h) (by rfl) (fun _ _ h=>by simpa only[getD_set_ne false (show 19≠18 by decide),getD_set_ne false (show 19≠21 by decide)]using h) (fun _ _ h=>by simpa only[getD_set_ne false (show 19≠18 by decide),getD_set_ne false (show 19≠21 by decide)]using h) ?_ (by assumption) (fun aa=>?_);rotate_left 1
             ·(intro _ _ _ _ _;first|(go_simp;done)|(go_simp;with_reducible rfl))
             clear hHeld;have hHeld:=aa;clear aa
             (try simp only[zp])
             refine bS (i:=20) (v:=?_) rfl (by kernel_rfl) (by kernel_rfl) (by kernel_rfl) (fun _ _ _ h=>h) (by rfl) (fun _ _ h=>by simpa only[getD_set_ne false (show 20≠18 by decide),getD_set_ne false (show 20≠21 by decide)]using h) (fun _ _ h=>by simpa only[getD_set_ne false (show 20≠18 by decide),getD_set_ne false (show 20≠21 by decide)]using h) ?_ (by assumption) (fun aa=>?_);rotate_left 1
             ·(intro _ _ _ _ _;first|(go_simp;done)|(go_simp;with_reducible rfl))
             clear hHeld;have hHeld:=aa;clear aa
             (try simp only[zp])
             refine ay (rs:=[21]) (by kernel_rfl) (by simp) ?_;refine au.cons (i:=21) rfl (fun K hK=>?_) ?_
             ·go_simp
              (try go_wp2_with fail)
              refine hK.out _ _ ?_ (fun aa=>?_)
              ·(try dsimp only);refine⟨?_,Or.inl (by rfl),Or.inl (by rfl)⟩
               ·(first|trivial|with_reducible assumption)
              clear hK K;clear hHeld;have hHeld:=aa;clear aa
              (try simp only[zp])
              refine fM (by kernel_rfl) ?_ _;have HBE:=zh (vg.of HN.out HX.out HRR.out GZ.out);generalize (v15.setCell ⟨gb,2,none⟩ (.slice AI2 (i+1) ci2)).setCell ⟨gb,3,none⟩ (.slice AO2 (i+1) co2)=wE at HBE ⊢;clear q2 q3 z2 z3 qlt HX H7 H14;go_wp2_with fail
              go_roundw
              case measure=>simp[intOf];omega
              case rel=>exact⟨i+1,by omega,by go_num,by rw[Et.out],HBE⟩
             exact au.nil
            exact au.nil
           exact au.nil
          exact au.nil
         exact au.nil
        refine au.cons (i:=14) rfl (fun K hK=>?_) ?_
        ·refine aG (.cells #[.slice (some ⟨go,0,none⟩) n n] 26) (fun g=>.slice (some ⟨g,0,none⟩) 1 1) rfl (by kernel_rfl) ?_;intro b14 v14 z14 Cu oW;(try have H7:=zh (H7.below oW H7.lt));(try have Lp:=zh (show∀k,aK AI k->k<b14 from fun k hk=>Nat.lt_of_lt_of_le (iT HX.oi hk).1 z14));have H14:=zh (show Blk v14 b14 26 [.slice (some ⟨go,0,none⟩) n n]from Cu);have HX:=zh (HX.below oW);have GZ:=zh (Nat.le_trans GZ.out oW.size);clear Cu oW z14
         (try go_wp2_with fail)
         refine hK.out _ _ ?_ (fun aa=>?_)
         ·(try dsimp only);refine⟨?_,Or.inr ?_,Or.inr ?_⟩
          ·(first|trivial|with_reducible assumption)
          ·(with_reducible exact HX.out.b.cell 2 rfl)
          ·(first|(with_reducible exact HX.out.b.cell 3 rfl)|(go_simp;done))
         clear hK K;clear hHeld;have hHeld:=aa;clear aa
         (try simp only[zp])
         refine ay (rs:=[7]) (by kernel_rfl) (by simp) ?_;refine au.cons (i:=7) rfl (fun K hK=>?_) ?_
         ·refine aG (.cells #[.slice (some ⟨gi,0,none⟩) n n] 26) (fun g=>.slice (some ⟨g,0,none⟩) 1 1) rfl (by kernel_rfl) ?_;intro b7 v7 z7 hc7 hb7;(try have H14:=zh (H14.below hb7 H14.lt));have H7:=zh (show Blk v7 b7 26 [.slice (some ⟨gi,0,none⟩) n n]from hc7);have HX:=zh (HX.below hb7);have GZ:=zh (Nat.le_trans GZ.out hb7.size);clear hc7 hb7 z7
          (try go_wp2_with fail)
          refine hK.out _ _ ?_ (fun aa=>?_)
          ·(try dsimp only);refine⟨?_,Or.inr ?_,Or.inr ?_⟩
           ·(first|trivial|with_reducible assumption)
           ·(with_reducible exact HX.out.b.cell 2 rfl)
           ·(first|(with_reducible exact HX.out.b.cell 3 rfl)|(go_simp;done))
          clear hK K;clear hHeld;have hHeld:=aa;clear aa
          (try simp only[zp])
          refine ay (rs:=[8]) (by kernel_rfl) (by simp) ?_;refine au.cons (i:=8) rfl (fun K hK=>?_) ?_
          ·refine dQ (.tmp 214) (.tmp 216) 111 rfl rfl w.heap.size 26 i26 (.slice none 0 0) 1 24 Try.underlying111 Hy Hz H8 H9 rfl (by decide) AI i ci vi (by rfl) HX.oi (some ⟨b7,0,none⟩) 1 1 [.slice (some ⟨gi,0,none⟩) n n] (by rfl) (by rfl) (.inr ⟨_,rfl,fun k u hk=>by rcases k with _|k<;>simp at hk;subst hk;exact H7.cell 0 rfl⟩) (by simp[Value.oneCell']) (by unfold maxLen;omega) (by omega) HX.bel.size ?_;intro AI2 ci2 v8 hown hgrow hat;(try have H14:=zh (H14.grown hgrow (fun e=>by have:=Lp.out b14 (bE.2 e.symm);omega)));have GZ:=zh (Nat.le_trans GZ.out hgrow.size);have HX:=zh (HX.growI (Nat.le_refl _) hgrow hown hat);clear hown hgrow hat
           (try go_wp2_with fail)
           refine hK.out _ _ ?_ (fun aa=>?_)
           ·(try dsimp only);refine⟨?_,Or.inr ?_,Or.inr ?_⟩
            ·(first|trivial|with_reducible assumption)
            ·(with_reducible exact HX.out.b.cell 2 rfl)
            ·(first|(with_reducible exact HX.out.b.cell 3 rfl)|(go_simp;done))
           clear hK K;clear hHeld;have hHeld:=aa;clear aa
           (try simp only[zp])
           refine ay (rs:=[15]) (by kernel_rfl) (by simp) ?_;refine au.cons (i:=15) rfl (fun K hK=>?_) ?_
           ·refine dQ (.tmp 221) (.tmp 223) 111 rfl rfl w.heap.size 26 i26 (.slice none 0 0) 1 24 Try.underlying111 Hy Hz H8 H9 rfl (by decide) AO i co vo (by rfl) HX.oo (some ⟨b14,0,none⟩) 1 1 [.slice (some ⟨go,0,none⟩) n n] (by rfl) (by rfl) (.inr ⟨_,rfl,fun k u hk=>by rcases k with _|k<;>simp at hk;subst hk;exact H14.cell 0 rfl⟩) (by simp[Value.oneCell']) (by unfold maxLen;omega) (by omega) HX.bel.size ?_;intro AO2 co2 v15 hown hgrow hat;have GZ:=zh (Nat.le_trans GZ.out hgrow.size);have HX:=zh (HX.growO (Nat.le_refl _) hgrow hown hat);have q2:=HX.b.cell 2 rfl;have q3:=HX.b.cell 3 rfl;have z2:=HX.b.free 2;have z3:=HX.b.free 3;have qlt:=HX.b.lt;clear hown hgrow hat
            (try go_wp2_with fail)
            refine hK.out _ _ ?_ (fun aa=>?_)
            ·(try dsimp only);refine⟨?_,Or.inr ?_,Or.inr ?_⟩
             ·(first|trivial|with_reducible assumption)
             ·(with_reducible exact HX.out.b.cell 2 rfl)
             ·(first|(with_reducible exact HX.out.b.cell 3 rfl)|(go_simp;done))
            clear hK K;clear hHeld;have hHeld:=aa;clear aa
            (try simp only[zp])
            refine bS (i:=16) (v:=?_) rfl (by kernel_rfl) (by kernel_rfl) (by kernel_rfl) (fun _ _ _ h=>h) (by rfl) (fun _ _ h=>by simpa only[getD_set_ne false (show 16≠18 by decide),getD_set_ne false (show 16≠21 by decide)]using h) (fun _ _ h=>by simpa only[getD_set_ne false (show 16≠18 by decide),getD_set_ne false (show 16≠21 by decide)]using h) ?_ (by assumption) (fun aa=>?_);rotate_left 1
            ·(intro _ _ _ _ _;first|(go_simp;done)|(go_simp;with_reducible rfl))
            clear hHeld;have hHeld:=aa;clear aa
            (try simp only[zp])
            refine bS (i:=17) (v:=?_) rfl (by kernel_rfl) (by kernel_rfl) (by kernel_rfl) (fun _ _ _ h=>h) (by rfl) (fun _ _ h=>by simpa only[getD_set_ne false (show 17≠18 by decide),getD_set_ne false (show 17≠21 by decide)]using h) (fun _ _ h=>by simpa only[getD_set_ne false (show 17≠18 by decide),getD_set_ne false (show 17≠21 by decide)]using h) ?_ (by assumption) (fun aa=>?_);rotate_left 1
            ·(intro _ _ _ _ _;first|(go_simp;done)|(go_simp;with_reducible rfl))
            clear hHeld;have hHeld:=aa;clear aa
            (try simp only[zp])
            refine ay (rs:=[18]) (by kernel_rfl) (by simp) ?_;refine au.cons (i:=18) rfl (fun K hK=>?_) ?_
            ·go_simp
             (try go_wp2_with fail)
             refine hK.out _ _ ?_ (fun aa=>?_)
             ·(try dsimp only);refine⟨?_,Or.inl (by rfl),Or.inr ?_⟩
              ·(first|trivial|with_reducible assumption)
              ·(first|(with_reducible exact HX.out.b.cell 3 rfl)|(go_simp;done))
             clear hK K;clear hHeld;have hHeld:=aa;clear aa
             (try simp only[zp])
             refine bS (i:=19) (v:=?_) rfl (by kernel_rfl) (by kernel_rfl) (by kernel_rfl) (fun _ _ _ h=>h) (by rfl) (fun _ _ h=>by simpa only[getD_set_ne false (show 19≠18 by decide),getD_set_ne false (show 19≠21 by decide)]using h) (fun _ _ h=>by simpa only[getD_set_ne false (show 19≠18 by decide),getD_set_ne false (show 19≠21 by decide)]using h) ?_ (by assumption) (fun aa=>?_);rotate_left 1
             ·(intro _ _ _ _ _;first|(go_simp;done)|(go_simp;with_reducible rfl))
             clear hHeld;have hHeld:=aa;clear aa
             (try simp only[zp])
             refine bS (i:=20) (v:=?_) rfl (by kernel_rfl) (by kernel_rfl) (by kernel_rfl) (fun _ _ _ h=>h) (by rfl) (fun _ _ h=>by simpa only[getD_set_ne false (show 20≠18 by decide),getD_set_ne false (show 20≠21 by decide)]using h) (fun _ _ h=>by simpa only[getD_set_ne false (show 20≠18 by decide),getD_set_ne false (show 20≠21 by decide)]using h) ?_ (by assumption) (fun aa=>?_);rotate_left 1
             ·(intro _ _ _ _ _;first|(go_simp;done)|(go_simp;with_reducible rfl))
             clear hHeld;have hHeld:=aa;clear aa
             (try simp only[zp])
             refine ay (rs:=[21]) (by kernel_rfl) (by simp) ?_;refine au.cons (i:=21) rfl (fun K hK=>?_) ?_
             ·go_simp
              (try go_wp2_with fail)
              refine hK.out _ _ ?_ (fun aa=>?_)
              ·(try dsimp only);refine⟨?_,Or.inl (by rfl),Or.inl (by rfl)⟩
               ·(first|trivial|with_reducible assumption)
              clear hK K;clear hHeld;have hHeld:=aa;clear aa
              (try simp only[zp])
              refine fM (by kernel_rfl) ?_ _;have HBE:=zh (vg.of HN.out HX.out HRR.out GZ.out);generalize (v15.setCell ⟨gb,2,none⟩ (.slice AI2 (i+1) ci2)).setCell ⟨gb,3,none⟩ (.slice AO2 (i+1) co2)=wE at HBE ⊢;clear q2 q3 z2 z3 qlt HX H7 H14;go_wp2_with fail
              go_roundw
              case measure=>simp[intOf];omega
              case rel=>exact⟨i+1,by omega,by go_num,by rw[Et.out],HBE⟩
             exact au.nil
            exact au.nil
           exact au.nil
          exact au.nil
         exact au.nil
        exact au.nil
  ·obtain rfl:m=i:=by omega
   go_wp2_with fail
   have hfin:=HR.out;unfold CoK at hfin;exact hfin _ _ _ _ _ _ _ _ _ _ _ _ _ _ _ _ _ _ _ _ _ _ _ _ _ _ _ _ _ _ _ _ _ _ _ _ _ _ _ _ _ _ _ _ _ _ _ _ _ _ _ _ _ _ _ _ _ _ _ _ _ _ _ _ _ _ _ _ _ _ _ _ _ _ _ _ _ _ _ _ _ _ _ _ _ _ _ _ _ _ _ _ _ _ _ _ _ _ _ _ _ _ _ _ _ _ _ _ _ _ _ _ _ _ _ _ _ _ _ _ _ _ _ _ _ _ _ _ _ _ _ _ _ _ _ _ _ _ _ _ _ _ _ _ _ _ _ _ _ _ _ _ _ _ _ _ _ _ _ _ _ _ _ _ _ _ _ _ _ _ _ _ _ _ _ _ _ _ _ _ _ _ _ _ _ _ _ _ _ _ _ _ _ _ _ _ _ _ _ _ _ _ _ _ _ _ _ _ _ _ _ _ _ _ _ _ _ _ _ _ _ _ _ _ _ _ _ _ _ _ _ _ _ _ _ _ _ _ _ _ _ _ _ _ _ _ _ _ _ _ _ _ _ HJ.out
def Uu (S:Site) (cs:List Car) (w:World) (gb:Nat) (W:World):Prop:= ∃gs A cap AI AO ci co vi vo,BdJ w gs gb A cap AI AO ci co cs.length vi vo (kU S cs) (aQ S cs cs.length) W/\cK W S.lim.length W.heap.size vi (inR S cs) cs.length/\cK W S.lim.length W.heap.size vo (gX S cs) cs.length
def R76 (S:Site) (cs:List Car) (w:World):Ending->World->Prop:=fun e w'=> ∃b,e=.returned (.pointer (some ⟨b,0,none⟩))/\Uu S cs w b w'
theorem WA (S:Site) (cs:List Car) (gs gb M:Nat) (w W0:World) (h0:stE S cs=0) (hM:M=bK S cs) (hJ:vg S cs w gs gb M cs.length W0) {y0 y1 y2 y3 y4 y5 y7 y8 y9 y10 y11 y12 y13 y14 y15 y16 y17 y18 y19 y20 y21 y22 y23 y24 y25 y26 y27 y28 y29 y30 y31 y32 y33 y34 y35 y36 y37 y38 y39 y40 y41 y42 y43 y44 y45 y46 y47 y48 y49 y50 y51 y52 y53 y54 y55 y56 y57 y58 y59 y60 y61 y62 y63 y64 y65 y66 y67 y68 y69 y70 y71 y72 y73 y74 y75 y76 y77 y78 y79 y80 y81 y82 y83 y84 y85 y86 y87 y88 y89 y90 y91 y92 y93 y94 y95 y96 y97 y98 y99 xZ y101 y102 yc y104 yf yg yh yj ym yn yo y112 y113 y114 y115 yt yu yw yx yz yA yB yC yD yE yF yG yH yI yJ yK yL yM yN yO yP yQ yR yS yT yU yV yX yY yZ za zb ze zi y150 y151 y152 y153 zk zm zn y157 y158 y159 y160 zo zq zt zu zw zx y167 y168 zy zA zB zC zD zF zG zH zI zJ zK zL zN zO zP zQ zR zS zT zU zV zW zX zY zZ z8 Aa Ab Ad Ae Ag Ah Ai Aj Ak Al Am Ap Ar Au Av Ny Nz NA NB NG NH NJ NK NL NM NN NP NQ NU NV NW NY Oa Ob Oc Od Oe Og Oh Oi Oj Ol Om Oo Oq Ot Ou Ov Ow Ox Oy Oz OB OD OG OH OJ OL:Value}:
 Code.wp Try.prog Ut (bodyPost Try.prog Try.f76 (R76 S cs w)) {tmps:=List.toArray (y0::y1::y2::y3::y4::y5::(.pointer (some ⟨gb,0,none⟩):Value)::y7::y8::y9::y10::y11::y12::y13::y14::y15::y16::y17::y18::y19::y20::y21::y22::y23::y24::y25::y26::y27::y28::y29::y30::y31::y32::y33::y34::y35::y36::y37::y38::y39::y40::y41::y42::y43::y44::y45::y46::y47::y48::y49::y50::y51::y52::y53::y54::y55::y56::y57::y58::y59::y60::y61::y62::y63::y64::y65::y66::y67::y68::y69::y70::y71::y72::y73::y74::y75::y76::y77::y78::y79::y80::y81::y82::y83::y84::y85::y86::y87::y88::y89::y90::y91::y92::y93::y94::y95::y96::y97::y98::y99::xZ::y101::y102::yc::y104::yf::yg::yh::yj::ym::yn::yo::y112::y113::y114::y115::yt::yu::yw::yx::yz::yA::yB::yC::yD::yE::yF::yG::yH::yI::yJ::yK::yL::yM::yN::yO::yP::yQ::yR::yS::yT::yU::yV::yX::yY::yZ::za::zb::ze::zi::y150::y151::y152::y153::zk::zm::zn::y157::y158::y159::y160::zo::zq::zt::zu::zw::zx::y167::y168::zy::zA::zB::zC::zD::zF::zG::zH::zI::zJ::zK::zL::zN::zO::zP::zQ::zR::zS::zT::zU::zV::zW::zX::zY::zZ::z8::Aa::Ab::Ad::Ae::Ag::Ah::Ai::Aj::Ak::Al::Am::Ap::Ar::Au::Av::Ny::Nz::NA::NB::NG::NH::NJ::NK::NL::NM::NN::NP::NQ::NU::NV::NW::NY::Oa::Ob::Oc::Od::Oe::Og::Oh::Oi::Oj::Ol::Om::Oo::Oq::Ot::Ou::Ov::Ow::Ox::Oy::Oz::OB::OD::OG::OH::OJ::OL::[]),defers:=[]} W0:=by
 obtain⟨A,cap,AI,AO,ci,co,vi,vo,hj1,hj2,hj3⟩:=hJ;obtain⟨l,hl⟩: ∃l,l=aY S cs cs.length:=⟨_,rfl⟩;have hlen:l.length=M:=by rw[hl,dG,hM];rfl
 have hM1:2<=M/\M<=833:=by have:=dM h0;have:=(aj.1 (aW h0).2.1).1;omega
 rw[show jB S cs M cs.length=l from by rw[hM,BP,hl]]at hj1;have HBD:=zh (fun j (hj:j<=1024)=>Fs (l:=l) (by rw[hl];exact kV h0 _ (Nat.le_refl _)) j hj);have HEB:=zh (fun j (hj:j<M)=>(show -1048576<=l.getD j 0/\l.getD j 0<=1048576 from by
  have:l.getD j 0∈l:=by rw[zg,List.getElem?_eq_getElem (by omega)];exact List.getElem_mem _
  rw[hl]at this;exact kV h0 _ (Nat.le_refl _) _ (by rw[<-hl]at this ⊢;exact this)))
 have HSU:=zh (fun j (hj:j+1<M)=>vT l j (by omega));have h00:l.getD 0 0=0:=by rw[hl];exact jM _ _ _
 have u7:=zh (BQ l h00 (by omega));have HST:Hid (l.set 0 (-(lS l 0))=l):=zh (by
  rw[vS]
  cases l with
  |nil=>rfl
  |cons a t=>have:a=0:=h00;subst this;rfl)
 have HSN:Hid (kU S cs=l.set 0 (-(sum l))):=zh (by rw[hl];rfl);have HLEN:=zh hlen;have HGT:=zh (fun (j:Nat) (v:Int) (hj:0<j)=>(show(l.set 0 v).getD j 0=l.getD j 0 from by rw[zg,List.getElem?_set_ne (by omega),<-zg]));have HG0:=zh (fun (v:Int)=>(show(l.set 0 v).getD 0 0=v from by rw[zg,List.getElem?_set_self (by omega)];rfl));have HSS:=zh (fun (u v:Int)=>(List.set_set (a:=u) (b:=v) (l:=l) (i:=0)));have HBJ:Hid (BdJ w gs gb A cap AI AO ci co cs.length vi vo (l.set 0 (-(lS l 0))) (aQ S cs cs.length) W0):=zh (by rw[HST.out];exact hj1);have HR1:=zh hj2;have HR2:=zh hj3;clear hj1 hj2 hj3 h00 hl hlen h0 hM HST;obtain⟨p,hp⟩: ∃p,M=p+1:=⟨M-1,by omega⟩;subst hp;generalize hGW:W0.heap.size=G at *;have HGW:Hid (G<=W0.heap.size):=zh (by omega);clear hGW
 conv=>arg 2;whnf
 have b0:=HBJ.b.cell 0 rfl;rw[List.length_set,HLEN.out]at b0;have bl:=HBJ.b.lt;have m1:(1:Int)<=(p:Int)+1:=by omega
 go_wp2_with fail
 clear b0 bl
 go_loopw [18,237] (fun _ iv wr=> ∃j:Nat,j<=p/\iv=.int .i64 j/\Hid (BdJ w gs gb A cap AI AO ci co cs.length vi vo (l.set 0 (-(lS l j))) (aQ S cs cs.length) wr/\cK wr S.lim.length G vi (inR S cs) cs.length/\cK wr S.lim.length G vo (gX S cs) cs.length/\G<=wr.heap.size)) (fun _ iv _=>p-(intOf iv).toNat)
 case atStart=>exact⟨0,Nat.zero_le _,rfl,zh ⟨HBJ.out,HR1.out,HR2.out,HGW.out⟩⟩
 case round=>
  clear HBJ HR1 HR2 HGW;obtain⟨j,hj,rfl,HJ⟩:=hrel;have HB:=zh HJ.1;have HR1:=zh HJ.2.1;have HR2:=zh HJ.2.2.1;have HGW:=zh HJ.2.2.2;clear HJ
  by_cases hlt:j<p
  ·have hji:(j:Int)<(p:Int):=by omega
   have b0:=HB.b.cell 0 rfl;rw[List.length_set,HLEN.out]at b0;have bl:=HB.b.lt;have s0:=HB.s.cell 0 (by rw[List.length_set,HLEN.out];omega);rw[HG0.out]at s0;have sx:=HB.s.cell (1+j) (by rw[List.length_set,HLEN.out];omega);rw[HGT.out (1+j) _ (by omega),Nat.add_comm 1 j]at sx;have sz:=HB.s.free 0;have sl:=HB.s.lt;have x1:=HBD.out j (by omega);have x2:=HEB.out (j+1) (by omega);have HN:=zh (HSU.out j (by omega));have HB2:=zh (fun v=>HB.set 0 v);have HQ1:=zh (fun v=>HR1.set (p:=⟨gs,0,none⟩) HB.s (.inl (by decide)) v);have HQ2:=zh (fun v=>HR2.set (p:=⟨gs,0,none⟩) HB.s (.inl (by decide)) v);generalize l.getD (j+1) 0=x at *;generalize lS l j=sj at *;have sx2:wr.cell? ⟨gs,1+j,none⟩=some (.int .i64 x):=by rw[Nat.add_comm 1 j];exact sx
   have we:IntKind.i64.wrap (-sj-x)= -sj-x:=IntWalk.i64_in _ (by omega);have pz:(0:Int)<(p:Int)+1:=by omega
   have HE:Hid (BdJ w gs gb A cap AI AO ci co cs.length vi vo (l.set 0 (-(lS l (j+1)))) (aQ S cs cs.length) (wr.setCell ⟨gs,0,none⟩ (.int .i64 (-sj-x)))/\cK (wr.setCell ⟨gs,0,none⟩ (.int .i64 (-sj-x))) S.lim.length G vi (inR S cs) cs.length/\cK (wr.setCell ⟨gs,0,none⟩ (.int .i64 (-sj-x))) S.lim.length G vo (gX S cs) cs.length/\G<=(wr.setCell ⟨gs,0,none⟩ (.int .i64 (-sj-x))).heap.size):=zh (by
    have h1:=HB2.out (-sj-x);rw[HSS.out]at h1;refine⟨?_,HQ1.out _,HQ2.out _,by simpa using HGW.out⟩;rw[HN.out,show -(sj+x)= -sj-x by omega];exact h1)
   clear x1 x2 HB2 HQ1 HQ2 HN HB HR1 HR2 HGW;go_upto_region 40 with fail
   clear b0 bl s0 sx sx2 sz sl;generalize wr.setCell ⟨gs,0,none⟩ (.int .i64 (-sj-x))=w2 at HE ⊢;go_wp2_with fail
   exact⟨⟨j+1,by omega,by go_num,HE⟩,by simp[intOf];omega⟩
  ·obtain rfl:p=j:=by omega
   have HE:=zh HB.out;rw[show lS l p=sum l from by have:=u7.out;rw[HLEN.out]at this;exact this,<-HSN.out]at HE;go_wp2_with fail
   conv=>arg 2;whnf
   go_wp2_with fail
   exact bodyPost_ret (v:=.pointer (some ⟨gb,0,none⟩)) (by simp[results,Try.results76,go_sem]) rfl ⟨gb,rfl,gs,A,cap,AI,AO,ci,co,vi,vo,HE.out,HR1.up HGW.out,HR2.up HGW.out⟩
def BuA (w:World) (gs gb:Nat) (cv:List Value) (M:Nat) (arcs:List Arc) (W:World):Prop:= ∃A cap,BdJ w gs gb A cap none none 0 0 0 [] [] (List.replicate M 0) arcs W/\Blk W w.heap.size 51 cv
theorem BuA.push {w wa Va w5:World} {gs gb M cap cap2 m:Nat} {cv:List Value} {A A2:Option Addr} {arcs news:List Arc} (h:BdJ w gs gb A cap none none 0 0 0 [] [] (List.replicate M 0) arcs wa) (hs:Blk wa w.heap.size 51 cv) (hm:m=news.length) (hV:w5=Va.setCell ⟨gb,1,none⟩ (.slice A2 (arcs.length+m) cap2)) (hg:wa.grownBy Va (Value.slice A arcs.length cap).ownBlock) (ho:Va.ownsRow w.heap.size 46 4 (.slice A2 (arcs.length+m) cap2) (arcs.length+m) (flat bD (arcs++news))):BuA w gs gb cv M (arcs++news) w5:=by
 have el:(arcs++news).length=arcs.length+m:=by simp[hm]
 rw[<-el]at hV ho;subst hV;have s1:=hs.grown hg (aU hs h.own (by decide));have b1:=h.b.grown hg (aU h.b h.own (by decide));exact⟨A2,cap2,h.push hg ho,s1.setCell_ne (fun e=>ae s1 b1 (by decide) e.symm) _⟩
theorem Gs (X1 X2 X3 X4 E:Option Addr) (S:Site) (cs:List Car) (n m cA cB cC cD cE:Nat) (w:World) (h0:stE S cs=0) (hn:n=S.lim.length) (hm:m=cs.length)
 (hA:n<=cA/\cA<=9223372036854775807) (hB:n<=cB/\cB<=9223372036854775807) (hC:n<=cC/\cC<=9223372036854775807) (hD:n<=cD/\cD<=9223372036854775807) (hE:m<=cE/\cE<=9223372036854775807)
 (hS:bH w X1 X2 X3 X4 S) (hcs:df w E cs):
 Calls Try.prog 76 #[.agg #[.slice X1 n cA,.slice X2 n cB,.slice X3 n cC,.slice X4 n cD],.slice E m cE] w (R76 S cs w):=by
 have H0:=zh h0;have HN:=zh hn;have HM:=zh hm;have HCS:=zh hcs;have hsh:=(aj.1 (aW h0).2.1);have h48:n<=48:=by omega
 have h1n:1<=n:=by omega
 have h8:m<=8:=by have:=(aW h0).1;omega
 obtain⟨M,hM⟩: ∃M,M=bK S cs:=⟨_,rfl⟩;have HMM:=zh hM;have hM2:M<=833/\n+1<=M:=by have:=dM h0;omega
 have hMv:1+(n:Int)+2*(m:Int)*((n:Int)+1)=(M:Int):=by
  have e:(2*(m:Int))*((n:Int)+1)=((2*(m*(n+1)):Nat):Int):=by
   rw[Int.mul_assoc,show(m:Int)*((n:Int)+1)=((m*(n+1):Nat):Int)from by rw[Int.natCast_mul];rfl];rfl
  rw[e,hM];unfold bK ag;rw[<-hn,<-hm];omega
 have HSB:=zh (fun t (ht:t<n)=>cu.1 ((aW h0).2.2.1 t (by omega)));have HSV:Hid (∀t,t<n-> ∀V,Below w.heap.size w V->(∃a,X1=some a/\V.cell? (a.add t)=some (.int .i64 (S.lim.getD t 0))/\(a.add t).block<V.heap.size)/\(∃a,X2=some a/\V.cell? (a.add t)=some (.int .i64 (S.exp.getD t 0))/\(a.add t).block<V.heap.size)/\(∃a,X3=some a/\V.cell? (a.add t)=some (.int .i64 (S.buy.getD t 0))/\(a.add t).block<V.heap.size)/\(∃a,X4=some a/\V.cell? (a.add t)=some (.int .i64 (S.sell.getD t 0))/\(a.add t).block<V.heap.size)):=zh (fun t ht V hV=>by
  have h:=hS.below hV (Nat.le_refl _);obtain⟨a1,e1,l1,c1⟩:=h.1 t (by omega);obtain⟨a2,e2,l2,c2⟩:=h.2.1 t (by omega);obtain⟨a3,e3,l3,c3⟩:=h.2.2.1 t (by omega);obtain⟨a4,e4,l4,c4⟩:=h.2.2.2 t (by omega);exact⟨⟨a1,e1,c1,by rw[block_add];exact l1⟩,⟨a2,e2,c2,by rw[block_add];exact l2⟩,⟨a3,e3,c3,by rw[block_add];exact l3⟩,⟨a4,e4,c4,by rw[block_add];exact l4⟩⟩)
 have hmk:=gZ M (by omega);have HSC:Hid (jB S cs M 0=List.replicate M 0):=zh (by rw[hM];exact vR S cs (dM h0).2);have HAR:Hid (dP S n++gQ S n=aQ S cs 0):=zh (by rw[hn];rfl);have HNF:Hid (ag n 0 0=1+n):=zh (by unfold ag;omega);have HLL:=zh (fun t=>And.intro (fF S t) (iO S t));clear h0 hn hm hcs hsh hM hS;have w1e:IntKind.i64.wrap (1+(n:Int))=1+(n:Int):=IntWalk.i64_in _ (by omega);have w2e:IntKind.i64.wrap (2*(m:Int))=2*(m:Int):=IntWalk.i64_in _ (by omega);have w3e:IntKind.i64.wrap ((n:Int)+1)=(n:Int)+1:=IntWalk.i64_in _ (by omega);obtain⟨pr,hpr⟩: ∃pr,pr=2*(m:Int)*((n:Int)+1):=⟨_,rfl⟩;rw[<-hpr]at hMv;have w4e:IntKind.i64.wrap (2*(m:Int)*((n:Int)+1))=pr:=by rw[<-hpr];exact IntWalk.i64_in _ (by omega)
 have w5e:IntKind.i64.wrap (1+(n:Int)+pr)=(M:Int):=by rw[hMv];exact IntWalk.i64_in _ (by omega)
 clear hpr hMv;have HB:=zh ((((Below.refl w.heap.size w).alloc (Nat.le_refl _) (.cells #[.slice X1 n cA,.slice X2 n cB,.slice X3 n cC,.slice X4 n cD] 51)).alloc (by simp) (.cells (Array.replicate M (.int .i64 0)) 2)).alloc (by simp;omega) (.cells #[.slice (some ⟨w.heap.size+1,0,none⟩) M M,.slice none 0 0,.slice none 0 0,.slice none 0 0] 125));have XS:=zh (((Blk.new' w #[.slice X1 n cA,.slice X2 n cB,.slice X3 n cC,.slice X4 n cD] 51).alloc (.cells (Array.replicate M (.int .i64 0)) 2)).alloc (.cells #[.slice (some ⟨w.heap.size+1,0,none⟩) M M,.slice none 0 0,.slice none 0 0,.slice none 0 0] 125));have XF:Hid (Fl 2 (((w.alloc (.cells #[.slice X1 n cA,.slice X2 n cB,.slice X3 n cC,.slice X4 n cD] 51)).alloc (.cells (Array.replicate M (.int .i64 0)) 2)).alloc (.cells #[.slice (some ⟨w.heap.size+1,0,none⟩) M M,.slice none 0 0,.slice none 0 0,.slice none 0 0] 125)) (w.heap.size+1) (List.replicate M 0)):=zh (by have:=(kE 2 M (w.alloc (.cells #[.slice X1 n cA,.slice X2 n cB,.slice X3 n cC,.slice X4 n cD] 51)));have:=Blk.alloc this (.cells #[.slice (some ⟨w.heap.size+1,0,none⟩) M M,.slice none 0 0,.slice none 0 0,.slice none 0 0] 125);unfold Fl;simpa using this)
 have XB:Hid (Blk (((w.alloc (.cells #[.slice X1 n cA,.slice X2 n cB,.slice X3 n cC,.slice X4 n cD] 51)).alloc (.cells (Array.replicate M (.int .i64 0)) 2)).alloc (.cells #[.slice (some ⟨w.heap.size+1,0,none⟩) M M,.slice none 0 0,.slice none 0 0,.slice none 0 0] 125)) (w.heap.size+1+1) 125 [.slice (some ⟨w.heap.size+1,0,none⟩) M M,.slice none 0 0,.slice none 0 0,.slice none 0 0]):=zh (by have:=Blk.new' ((w.alloc (.cells #[.slice X1 n cA,.slice X2 n cB,.slice X3 n cC,.slice X4 n cD] 51)).alloc (.cells (Array.replicate M (.int .i64 0)) 2)) #[.slice (some ⟨w.heap.size+1,0,none⟩) M M,.slice none 0 0,.slice none 0 0,.slice none 0 0] 125;simpa using this);go_enter Try.func76,Try.ntmps76;go_upto_region 3 with fail
 (try simp only[World.size_alloc,Nat.add_assoc,Nat.reduceAdd])
 (try simp only[Nat.add_assoc,Nat.reduceAdd]at HB XS XF XB)
 generalize (((w.alloc (.cells #[.slice X1 n cA,.slice X2 n cB,.slice X3 n cC,.slice X4 n cD] 51)).alloc (.cells (Array.replicate M (.int .i64 0)) 2)).alloc (.cells #[.slice (some ⟨w.heap.size+1,0,none⟩) M M,.slice none 0 0,.slice none 0 0,.slice none 0 0] 125))=w1 at HB XS XF XB ⊢;have HJ0:Hid (BuA w (w.heap.size+1) (w.heap.size+2) [.slice X1 n cA,.slice X2 n cB,.slice X3 n cC,.slice X4 n cD] M (dP S 0) w1):=zh ⟨none,0,⟨by rw[List.length_replicate];exact XB.out,XF.out,World.ownsRow_nil _ _ _ _,World.ownsRow_nil _ _ _ _,World.ownsRow_nil _ _ _ _,(fun k h=>by obtain⟨_,e,_⟩:=h;cases e),⟨by omega,by omega⟩,HB.out⟩,XS.out⟩;clear HB XS XF XB;generalize w.heap.size+2=gb at *;generalize w.heap.size+1=gs at *;go_wp2_with fail
 go_loopw [7,36] (fun _ iv wr=> ∃t:Nat,t<=n/\iv=.int .i64 t/\Hid (BuA w gs gb [.slice X1 n cA,.slice X2 n cB,.slice X3 n cC,.slice X4 n cD] M (dP S t) wr)) (fun _ iv _=>n-(intOf iv).toNat)
 case atStart=>exact⟨0,Nat.zero_le _,rfl,HJ0⟩
 case round=>
  clear HJ0;obtain⟨t,ht,rfl,HJ⟩:=hrel
  by_cases hlt:t<n
  ·have hti:(t:Int)<(n:Int):=by omega
   obtain⟨A,cap,hj1,hj2⟩:=HJ.out;have HBD:=zh hj1;have XS:=zh hj2;clear hj1 hj2 HJ;obtain⟨⟨a1,e1,l1,q1⟩,⟨a2,e2,l2,q2⟩,⟨a3,e3,l3,q3⟩,⟨a4,e4,l4,q4⟩⟩:=HSV.out t hlt wr HBD.bel;subst e1;subst e2;subst e3;subst e4;have hb:=HSB.out t hlt;have HLN:=zh (HLL.out t);have Ia:=zh (HLL.out n);have HNX:Hid ((dP S (t+1))=(dP S t)++[Dp.Arc.mk 0 (1+(t:Int)) (S.lim.getD t 0) (S.buy.getD t 0)]):=zh (by rfl);generalize S.lim.getD t 0=lm at *;generalize S.exp.getD t 0=ex at *;generalize S.buy.getD t 0=bu at *;generalize S.sell.getD t 0=se at *;have t1e:IntKind.i64.wrap (1+(t:Int))=1+(t:Int):=IntWalk.i64_in _ (by omega);have sne:IntKind.i64.wrap (-se)= -se:=IntWalk.i64_in _ (by omega);have s0:=XS.cell 0 rfl;have s1:=XS.cell 1 rfl;have s2:=XS.cell 2 rfl;have s3:=XS.cell 3 rfl;have sl:=XS.lt;go_upto_region 6 with fail
   refine bQ 15 [.q,.q,.q,.q,.q,.q,.q,.q,.q,.q,.q,.q,.q,.q,.p] (fun _=>(.cells #[.int .i64 0,.int .i64 (1+(t:Int)),.int .i64 lm,.int .i64 bu] 46,fun b=>.slice (some ⟨b,0,none⟩) 1 1)) ?af6 (by kernel_rfl) (by kernel_rfl) ?Bl ?Uv
   case Bl=>
    intro V hV;have XSV:=XS.below hV XS.lt;have s0:=XSV.cell 0 rfl;have s1:=XSV.cell 1 rfl;have s2:=XSV.cell 2 rfl;have s3:=XSV.cell 3 rfl;have sl:=XSV.lt;have l1:=(hV.cell q1).trans l1;have q1:=Nat.lt_of_lt_of_le q1 hV.size;have l2:=(hV.cell q2).trans l2;have q2:=Nat.lt_of_lt_of_le q2 hV.size;have l3:=(hV.cell q3).trans l3;have q3:=Nat.lt_of_lt_of_le q3 hV.size;have l4:=(hV.cell q4).trans l4;have q4:=Nat.lt_of_lt_of_le q4 hV.size;clear hV XSV;simp only[List.take_succ_cons,List.take_zero]
    repeat(with_reducible refine iD ?_;go_big_quiet_step (fail);with_reducible refine wpQuiet_nil ?_)
    refine jr (by kernel_rfl) (fun _=>by kernel_rfl) ?_
    (try simp only[zp])
    with_reducible refine iI ?_
    rfl
   case Uv=>
    intro gs1 w3 hb3 hgs _;have jN:=zh (HBD.below hb3);have XS3:=zh (XS.below hb3 XS.lt);obtain⟨_,hgb⟩:=hgs 14 rfl;have GB:Hid (Blk w3 (gs1 14) 46 (flat bD [Dp.Arc.mk 0 (1+(t:Int)) lm bu])):=zh hgb;clear hb3 hgs hgb HBD XS s0 s1 s2 s3 sl l1 l2 l3 l4 q1 q2 q3 q4;simp only[List.drop_succ_cons,List.drop_zero,List.take_succ_cons,List.take_zero,fillP]
    (try simp only[zp])
    generalize gs1 14=ga at *;go_wp2_with fail
    refine(pM w3 gb ((dP S t)).length cap w.heap.size 1 1 A (some ⟨ga,0,none⟩) _ _ _ (dP S t) [Dp.Arc.mk 0 (1+(t:Int)) lm bu] rfl rfl (by rw[HLN.1];omega) jN.b jN.own (.inr ⟨_,rfl,fun j u hj=>by rw[dN];exact GB.cell j hj⟩) jN.bel.size).mono ?_;rintro e w5 ⟨A2,cap2,Va,rfl,hV,hg,ho⟩;have HE:=zh (BuA.push jN.out XS3.out rfl hV hg ho);rw[<-HNX.out]at HE;clear hV hg ho jN XS3 GB Va;go_wp2_with fail
    exact⟨⟨t+1,by omega,by go_num,HE⟩,by simp[intOf];omega⟩
  ·obtain rfl:n=t:=by omega
   have HJ0:Hid (BuA w gs gb [.slice X1 n cA,.slice X2 n cB,.slice X3 n cC,.slice X4 n cD] M (dP S n++gQ S 0) wr):=zh (by simpa [gQ]using HJ.out);clear HJ;go_wp2_with fail
   go_loopw [8,57] (fun _ iv wr=> ∃t:Nat,t<=n/\iv=.int .i64 t/\Hid (BuA w gs gb [.slice X1 n cA,.slice X2 n cB,.slice X3 n cC,.slice X4 n cD] M (dP S n++gQ S t) wr)) (fun _ iv _=>n-(intOf iv).toNat)
   case atStart=>exact⟨0,Nat.zero_le _,rfl,HJ0⟩
   case round=>
    clear HJ0;obtain⟨t,ht,rfl,HJ⟩:=hrel
    by_cases hlt:t<n
    ·have hti:(t:Int)<(n:Int):=by omega
     obtain⟨A,cap,hj1,hj2⟩:=HJ.out;have HBD:=zh hj1;have XS:=zh hj2;clear hj1 hj2 HJ;obtain⟨⟨a1,e1,l1,q1⟩,⟨a2,e2,l2,q2⟩,⟨a3,e3,l3,q3⟩,⟨a4,e4,l4,q4⟩⟩:=HSV.out t hlt wr HBD.bel;subst e1;subst e2;subst e3;subst e4;have hb:=HSB.out t hlt;have HLN:=zh (HLL.out t);have Ia:=zh (HLL.out n);have HNX:Hid ((dP S n++gQ S (t+1))=(dP S n++gQ S t)++[Dp.Arc.mk (1+(t:Int)) 0 (S.exp.getD t 0) (-(S.sell.getD t 0))]):=zh (by rw[List.append_assoc];rfl);generalize S.lim.getD t 0=lm at *;generalize S.exp.getD t 0=ex at *;generalize S.buy.getD t 0=bu at *;generalize S.sell.getD t 0=se at *;have t1e:IntKind.i64.wrap (1+(t:Int))=1+(t:Int):=IntWalk.i64_in _ (by omega);have sne:IntKind.i64.wrap (-se)= -se:=IntWalk.i64_in _ (by omega);have s0:=XS.cell 0 rfl;have s1:=XS.cell 1 rfl;have s2:=XS.cell 2 rfl;have s3:=XS.cell 3 rfl;have sl:=XS.lt;go_upto_region 11 with fail
     refine bQ 16 [.q,.q,.q,.q,.q,.q,.q,.q,.q,.q,.q,.q,.q,.q,.q,.p] (fun _=>(.cells #[.int .i64 (1+(t:Int)),.int .i64 0,.int .i64 ex,.int .i64 (-se)] 46,fun b=>.slice (some ⟨b,0,none⟩) 1 1)) ?af11 (by kernel_rfl) (by kernel_rfl) ?WB ?WE
     case WB=>
      intro V hV;have XSV:=XS.below hV XS.lt;have s0:=XSV.cell 0 rfl;have s1:=XSV.cell 1 rfl;have s2:=XSV.cell 2 rfl;have s3:=XSV.cell 3 rfl;have sl:=XSV.lt;have l1:=(hV.cell q1).trans l1;have q1:=Nat.lt_of_lt_of_le q1 hV.size;have l2:=(hV.cell q2).trans l2;have q2:=Nat.lt_of_lt_of_le q2 hV.size;have l3:=(hV.cell q3).trans l3;have q3:=Nat.lt_of_lt_of_le q3 hV.size;have l4:=(hV.cell q4).trans l4;have q4:=Nat.lt_of_lt_of_le q4 hV.size;clear hV XSV;simp only[List.take_succ_cons,List.take_zero]
      repeat(with_reducible refine iD ?_;go_big_quiet_step (fail);with_reducible refine wpQuiet_nil ?_)
      refine jr (by kernel_rfl) (fun _=>by kernel_rfl) ?_
      (try simp only[zp])
      with_reducible refine iI ?_
      rfl
     case WE=>
      intro gs1 w3 hb3 hgs _;have jN:=zh (HBD.below hb3);have XS3:=zh (XS.below hb3 XS.lt);obtain⟨_,hgb⟩:=hgs 15 rfl;have GB:Hid (Blk w3 (gs1 15) 46 (flat bD [Dp.Arc.mk (1+(t:Int)) 0 ex (-se)])):=zh hgb;clear hb3 hgs hgb HBD XS s0 s1 s2 s3 sl l1 l2 l3 l4 q1 q2 q3 q4;simp only[List.drop_succ_cons,List.drop_zero,List.take_succ_cons,List.take_zero,fillP]
      (try simp only[zp])
      generalize gs1 15=ga at *;go_wp2_with fail
      refine(pM w3 gb ((dP S n++gQ S t)).length cap w.heap.size 1 1 A (some ⟨ga,0,none⟩) _ _ _ (dP S n++gQ S t) [Dp.Arc.mk (1+(t:Int)) 0 ex (-se)] rfl rfl (by rw[List.length_append,Ia.1,HLN.2];omega) jN.b jN.own (.inr ⟨_,rfl,fun j u hj=>by rw[dN];exact GB.cell j hj⟩) jN.bel.size).mono ?_;rintro e w5 ⟨A2,cap2,Va,rfl,hV,hg,ho⟩;have HE:=zh (BuA.push jN.out XS3.out rfl hV hg ho);rw[<-HNX.out]at HE;clear hV hg ho jN XS3 GB Va;go_wp2_with fail
      exact⟨⟨t+1,by omega,by go_num,HE⟩,by simp[intOf];omega⟩
    ·obtain rfl:n=t:=by omega
     obtain⟨A,cap,hj1,hj2⟩:=HJ.out;have HE:Hid (vg S cs w gs gb M 0 wr):=zh ⟨A,cap,none,none,0,0,[],[],by rw[HSC.out,<-HAR.out];exact hj1,fun x hx=>absurd hx (Nat.not_lt_zero _),fun x hx=>absurd hx (Nat.not_lt_zero _)⟩;clear HJ hj1 hj2;have Uw:(1:Int)+(n:Int)=((ag n 0 0:Nat):Int):=by rw[HNF.out];omega
     have HHN:=zh Uw;clear Uw;go_wp2_with fail
     rw[HHN.out];rename_i KK hKK;refine gT (c':=Li) (by kernel_rfl) ?_;refine VV S cs E n m cE gs gb M w wr H0.out HN.out HM.out HMM.out hE HCS.out HE.out ?_;intro y0 y1 y2 y3 y4 y5 y7 y8 y9 y10 y11 y12 y13 y14 y15 y16 y17 y18 y19 y20 y21 y22 y23 y24 y25 y26 y27 y28 y29 y30 y31 y32 y33 y34 y35 y36 y37 y38 y39 y40 y41 y42 y43 y44 y45 y46 y47 y48 y49 y50 y51 y52 y53 y54 y55 y56 y57 y58 y59 y60 y61 y62 y63 y64 y65 y66 y67 y68 y69 y70 y71 y72 y73 y74 y75 y76 y77 y78 y79 y80 y81 y82 y83 y84 y85 y86 y87 y88 y89 y90 y91 y92 y93 y94 y95 y96 y97 y98 y99 xZ y101 y102 yc y104 yf yg yh yj ym yn yo y112 y113 y114 y115 yt yu yw yx yz yA yB yC yD yE yF yG yH yI yJ yK yL yM yN yO yP yQ yR yS yT yU yV yX yY yZ za zb ze zi y150 y151 y152 y153 zk zm zn y157 y158 y159 y160 zo zq zt zu zw zx y167 y168 zy zA zB zC zD zF zG zH zI zJ zK zL zN zO zP zQ zR zS zT zU zV zW zX zY zZ z8 Aa Ab Ad Ae Ag Ah Ai Aj Ak Al Am Ap Ar Au Av Ny Nz NA NB NG NH NJ NK NL NM NN NP NQ NU NV NW NY Oa Ob Oc Od Oe Og Oh Oi Oj Ol Om Oo Oq Ot Ou Ov Ow Ox Oy Oz OB OD OG OH OJ OL w' h;exact hKK _ _ (gT (by kernel_rfl) (WA S cs gs gb M w w' H0.out HMM.out (by rw[<-HM.out];exact h)))
structure NtJ (w:World) (gs gx gr:Nat) (cv:List Value) (A:Option Addr) (cap:Nat) (sup:List Int) (arcs:List Arc) (W:World):Prop where
 b:Blk W gx 25 [.slice (some ⟨gs,0,none⟩) sup.length sup.length,.slice A arcs.length cap]
 r:Blk W gr 25 [.slice none 0 0,.slice none 0 0]
 s:Fl 2 W gs sup
 own:W.ownsRow w.heap.size 46 4 (.slice A arcs.length cap) arcs.length (flat bD arcs)
 st:Blk W w.heap.size 51 cv
 ne:gx≠gr
 lt:w.heap.size<=gs/\w.heap.size<=gx/\w.heap.size<=gr
 bel:Below w.heap.size w W
section
variable {w W V:World} {gs gx gr gc cap cap2 n m:Nat} {A A2:Option Addr} {cv kv:List Value} {sup:List Int} {arcs news:List Arc}
theorem NtJ.below (h:NtJ w gs gx gr cv A cap sup arcs W) (hb:Below W.heap.size W V):NtJ w gs gx gr cv A cap sup arcs V:=
 ⟨h.b.below hb h.b.lt,h.r.below hb h.r.lt,h.s.below hb,bF h.own hb,h.st.below hb h.st.lt,h.ne,h.lt,h.bel.trans (hb.mono h.bel.size)⟩
theorem NtJ.alloc (h:NtJ w gs gx gr cv A cap sup arcs W) (o:Obj):NtJ w gs gx gr cv A cap sup arcs (W.alloc o):=h.below ((Below.refl _ _).alloc (Nat.le_refl _) o)
theorem NtJ.set (h:NtJ w gs gx gr cv A cap sup arcs W) (k:Nat) (v:Int):NtJ w gs gx gr cv A cap (sup.set k v) arcs (W.setCell ⟨gs,k,none⟩ (.int .i64 v)):=
 ⟨by rw[List.length_set];exact h.b.setCell_ne (fun e=>ae h.b h.s (by decide) e.symm) _,h.r.setCell_ne (fun e=>ae h.r h.s (by decide) e.symm) _,h.s.put k v,
   bI h.own (aF (g:=gs) h.s h.own (by decide)) _,h.st.setCell_ne (fun e=>ae h.st h.s (by decide) e.symm) _,h.ne,h.lt,h.bel.setCell (by simp;exact h.lt.1) _⟩
theorem NtJ.mid (h:NtJ w gs gx gr cv A cap sup arcs W) (hg:W.grownBy V (Value.slice A arcs.length cap).ownBlock):Blk V gx 25 [.slice (some ⟨gs,0,none⟩) sup.length sup.length,.slice A arcs.length cap]:=h.b.grown hg (aU h.b h.own (by decide))
theorem NtJ.push (h:NtJ w gs gx gr cv A cap sup arcs W) (hn:n=arcs.length) (hm:m=news.length) (hg:W.grownBy V (Value.slice A n cap).ownBlock)
 (ho:V.ownsRow w.heap.size 46 4 (.slice A2 (n+m) cap2) (n+m) (flat bD arcs++flat bD news)):NtJ w gs gx gr cv A2 cap2 sup (arcs++news) (V.setCell ⟨gx,1,none⟩ (.slice A2 (n+m) cap2)):=by
 subst hn;rw[<-eY]at ho;have el:(arcs++news).length=arcs.length+m:=by simp[hm]
 rw[<-el]at ho ⊢;have b1:=h.mid hg;have s1:Fl 2 V gs sup:=Blk.grown h.s hg (aU h.s h.own (by decide));have r1:=h.r.grown hg (aU h.r h.own (by decide));have t1:=h.st.grown hg (aU h.st h.own (by decide));have Rc:Below w.heap.size w V:=h.bel.grown hg h.bel.size (fun k e=>(World.ownsRow.lt h.own k e).1);exact⟨b1.setCell 1 _,r1.setCell_ne (fun e=>h.ne e.symm) _,s1.set_ne (fun e=>ae b1 s1 (by decide) e) _,bI ho (aF (g:=gx) b1 ho (by decide)) _,t1.setCell_ne (fun e=>ae b1 t1 (by decide) e) _,h.ne,h.lt,Rc.setCell (by simp;exact h.lt.2.1) _⟩
structure NkJ (w:World) (gs gx gr gc:Nat) (cv kv:List Value) (A:Option Addr) (cap:Nat) (sup:List Int) (arcs:List Arc) (W:World):Prop where
 d:NtJ w gs gx gr cv A cap sup arcs W
 car:Blk W gc 63 kv
theorem NkJ.below (h:NkJ w gs gx gr gc cv kv A cap sup arcs W) (hb:Below W.heap.size W V):NkJ w gs gx gr gc cv kv A cap sup arcs V:=⟨h.d.below hb,h.car.below hb h.car.lt⟩
theorem NkJ.alloc (h:NkJ w gs gx gr gc cv kv A cap sup arcs W) (o:Obj):NkJ w gs gx gr gc cv kv A cap sup arcs (W.alloc o):=h.below ((Below.refl _ _).alloc (Nat.le_refl _) o)
theorem NkJ.set (h:NkJ w gs gx gr gc cv kv A cap sup arcs W) (k:Nat) (v:Int):NkJ w gs gx gr gc cv kv A cap (sup.set k v) arcs (W.setCell ⟨gs,k,none⟩ (.int .i64 v)):=
 ⟨h.d.set k v,h.car.setCell_ne (fun e=>ae h.d.s h.car (by decide) e) _⟩
theorem NkJ.push (h:NkJ w gs gx gr gc cv kv A cap sup arcs W) (hn:n=arcs.length) (hm:m=news.length) (hg:W.grownBy V (Value.slice A n cap).ownBlock)
 (ho:V.ownsRow w.heap.size 46 4 (.slice A2 (n+m) cap2) (n+m) (flat bD arcs++flat bD news)):NkJ w gs gx gr gc cv kv A2 cap2 sup (arcs++news) (V.setCell ⟨gx,1,none⟩ (.slice A2 (n+m) cap2)):=by
 have hg':=hg;rw[hn]at hg';have b1:=h.d.mid hg';have c1:=h.car.grown hg' (aU h.car h.d.own (by decide));exact⟨h.d.push hn hm hg ho,c1.setCell_ne (fun e=>ae b1 c1 (by decide) e) _⟩
end
end Go.Proofs.Ytmebpglkeedaoaa
