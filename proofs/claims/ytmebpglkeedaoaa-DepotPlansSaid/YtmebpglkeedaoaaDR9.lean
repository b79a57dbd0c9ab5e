/- Contracts that the claim leans on. -/
import Derived.Test.YtmebpglkeedaoaaDR8
set_option maxHeartbeats 16000000
set_option maxRecDepth 100000
set_option linter.unusedVariables false
set_option linter.unusedSimpArgs false
set_option linter.unnecessarySimpa false
namespace Go.Proofs.Ytmebpglkeedaoaa
open Go.RowKit Dp
def R6p (w:World):Ending->World->Prop:=fun e w'=>e=.returned (.bool true)/\Below w.heap.size w w'
theorem Ey (A B C D E:Option Addr) (S:Site) (cs:List Car) (n nB nC nD m cA cB cC cD cE:Nat) (w:World) (hn:n=S.lim.length) (hnB:nB=S.exp.length) (hnC:nC=S.buy.length) (hnD:nD=S.sell.length) (hm:m=cs.length)
 (hA:n<=cA/\cA<=9223372036854775807) (hB:nB<=cB/\cB<=9223372036854775807) (hC:nC<=cC/\cC<=9223372036854775807) (hD:nD<=cD/\cD<=9223372036854775807) (hE:m<=cE/\cE<=9223372036854775807)
 (hS:bH w A B C D S) (hcs:df w E cs):
 Calls Try.prog 10 #[.agg #[.slice A n cA,.slice B nB cB,.slice C nC cC,.slice D nD cD],.slice E m cE] w (R6p w):=by
 obtain⟨u,hu⟩: ∃u,u=stE S cs:=⟨_,rfl⟩;obtain⟨kN,hkN⟩: ∃k,k=bK S cs:=⟨_,rfl⟩;have F30:Hid (∀V,Below w.heap.size w V->Calls Try.prog 30 #[.agg #[.slice A n cA,.slice B nB cB,.slice C nC cC,.slice D nD cD],.slice E m cE,.agg #[.slice none 0 0,.slice none 0 0]] V (fun e w'=>jO V e w')):=zh (fun V hV=>Rv A B C D E none none cs ⟨[],[]⟩ n nB nC nD m 0 0 cA cB cC cD cE 0 0 V hm rfl rfl hE (by omega) (by omega) (hcs.below hV (Nat.le_refl _)) ⟨fun i hi=>by simp at hi,fun i hi=>by simp at hi⟩);have F49:Hid (∀V,Below w.heap.size w V->Calls Try.prog 49 #[.agg #[.slice A n cA,.slice B nB cB,.slice C nC cC,.slice D nD cD],.slice E m cE] V (fun e w'=>jO V e w')):=zh (fun V hV=>UQ A B C D E S cs n nB nC nD m cA cB cC cD cE V hn hnB hnC hnD hm hA hB hC hD hE (hS.below hV (Nat.le_refl _)) (hcs.below hV (Nat.le_refl _)));have hn63:S.lim.length<=9223372036854775807:=by omega
 have F50:Hid (∀V,Below w.heap.size w V->Calls Try.prog 50 #[.agg #[.slice A n cA,.slice B nB cB,.slice C nC cC,.slice D nD cD],.slice E m cE] V (fun e w'=>Qh S cs m kN e w'/\Below V.heap.size V w')):=zh (fun V hV=>(LY A B C D E S cs n nB nC nD m cA cB cC cD cE V hn hnB hnC hnD hm hA hB hC hD hE (hS.below hV (Nat.le_refl _)) (hcs.below hV (Nat.le_refl _))).mono (fun _ _ h=>⟨qj.u hm hkN hn63 h.1,h.2⟩));have F52:Hid (∀V,Below w.heap.size w V->Calls Try.prog 52 #[.agg #[.slice A n cA,.slice B nB cB,.slice C nC cC,.slice D nD cD],.slice E m cE] V (fun e w'=>Qi S cs m e w'/\Below V.heap.size V w')):=zh (fun V hV=>(Ro A B C D E S cs n nB nC nD m cA cB cC cD cE V hn hnB hnC hnD hm hA hB hC hD hE (hS.below hV (Nat.le_refl _)) (hcs.below hV (Nat.le_refl _))).mono (fun _ _ h=>⟨qm.u hm hn63 h.1,h.2⟩));have F54:Hid (∀V,Below w.heap.size w V->Calls Try.prog 54 #[.agg #[.slice A n cA,.slice B nB cB,.slice C nC cC,.slice D nD cD],.slice E m cE] V (fun e w'=>LU S cs e/\Below V.heap.size V w')):=zh (fun V hV=>Pd A B C D E S cs n nB nC nD m cA cB cC cD cE V hn hnB hnC hnD hm hA hB hC hD hE (hS.below hV (Nat.le_refl _)) (hcs.below hV (Nat.le_refl _)));have F55:Hid (∀V,Below w.heap.size w V->Calls Try.prog 55 #[.agg #[.slice A n cA,.slice B nB cB,.slice C nC cC,.slice D nD cD],.slice E m cE] V (fun e w'=>LW S cs e/\Below V.heap.size V w')):=zh (fun V hV=>Pe A B C D E S cs n nB nC nD m cA cB cC cD cE V hn hnB hnC hnD hm hA hB hC hD hE (hS.below hV (Nat.le_refl _)) (hcs.below hV (Nat.le_refl _)))
 have F43:Hid (∀V,Below w.heap.size w V->Calls Try.prog 43 #[.agg #[.slice A n cA,.slice B nB cB,.slice C nC cC,.slice D nD cD],.slice E m cE] V (EgU S cs V)):=zh (fun V hV=>(O9 A B C D E S cs n nB nC nD m cA cB cC cD cE V hn hnB hnC hnD hm hA hB hC hD hE (hS.below hV (Nat.le_refl _)) (hcs.below hV (Nat.le_refl _))).mono (fun _ _ h=>EgP.u h));have F38:Hid (∀(P Q:Option Addr) (T:Tab) (a b c d:Nat) V,Below w.heap.size w V->a=T.inn.length->b=T.out.length->(a<=c/\c<=9223372036854775807)->(b<=d/\d<=9223372036854775807)->eu V P Q T->Calls Try.prog 38 #[.agg #[.slice A n cA,.slice B nB cB,.slice C nC cC,.slice D nD cD],.slice E m cE,.agg #[.slice P a c,.slice Q b d]] V (fun e w'=>e=.returned (.tuple #[.int .i64 (oM S cs T),.int .i64 (plE S cs T)])/\Below V.heap.size V w')):=zh (fun P Q T a b c d V hV h1 h2 h3 h4 h5=>Nw A B C D E P Q S cs T n nB nC nD m a b cA cB cC cD cE c d V hn hnB hnC hnD hm h1 h2 hA hB hC hD hE h3 h4 (hS.below hV (Nat.le_refl _)) (hcs.below hV (Nat.le_refl _)) h5)
 have F46:Hid (∀(P Q Y:Option Addr) (T:Tab) (ps:List Int) (a b y c d cy:Nat) V,Below w.heap.size w V->a=T.inn.length->b=T.out.length->y=ps.length->(a<=c/\c<=9223372036854775807)->(b<=d/\d<=9223372036854775807)->(y<=cy/\cy<=9223372036854775807)->eu V P Q T->aH V Y ps->Calls Try.prog 46 #[.agg #[.slice A n cA,.slice B nB cB,.slice C nC cC,.slice D nD cD],.slice E m cE,.agg #[.slice P a c,.slice Q b d],.slice Y y cy] V (fun e w'=>e=.returned (.int .i64 (cbE S cs T ps))/\Below V.heap.size V w')):=zh (fun P Q Y T ps a b y c d cy V hV h1 h2 h3 h4 h5 h6 h7 h8=>Az A B C D E P Q Y S cs T ps n nB nC nD m a b y cA cB cC cD cE c d cy V hn hnB hnC hnD hm h1 h2 h3 hA hB hC hD hE h4 h5 h6 (hS.below hV (Nat.le_refl _)) (hcs.below hV (Nat.le_refl _)) h7 h8)
 have F48:Hid (∀(P Q Y:Option Addr) (T:Tab) (pk:Int) (ps:List Int) (a b y c d cy:Nat) V,Below w.heap.size w V->a=T.inn.length->b=T.out.length->y=ps.length->(a<=c/\c<=9223372036854775807)->(b<=d/\d<=9223372036854775807)->(y<=cy/\cy<=9223372036854775807)->eu V P Q T->aH V Y ps->Calls Try.prog 48 #[.agg #[.slice A n cA,.slice B nB cB,.slice C nC cC,.slice D nD cD],.slice E m cE,.int .i64 pk,.agg #[.slice P a c,.slice Q b d],.slice Y y cy] V (fun e w'=>e=.returned (.int .i64 (pkE S cs pk T ps))/\Below V.heap.size V w')):=zh (fun P Q Y T pk ps a b y c d cy V hV h1 h2 h3 h4 h5 h6 h7 h8=>AB A B C D E P Q Y S cs T pk ps n nB nC nD m a b y cA cB cC cD cE c d cy V hn hnB hnC hnD hm h1 h2 h3 hA hB hC hD hE h4 h5 h6 (hS.below hV (Nat.le_refl _)) (hcs.below hV (Nat.le_refl _)) h7 h8);have HKN:Hid (stE S cs=0->kN<=833/\m<=8):=zh (fun h=>by have:=dM h;have:=(aW h).1;omega);clear hkN hn63;have HN:=zh hn;have HM:=zh hm;have HU:=zh hu;clear hn hnB hnC hnD hm hS hcs hu;have HB:=zh ((Below.refl w.heap.size w).alloc (Nat.le_refl _) (.cells #[.slice A n cA,.slice B nB cB,.slice C nC cC,.slice D nD cD] 51));have XS:=zh (Blk.new' w #[.slice A n cA,.slice B nB cB,.slice C nC cC,.slice D nD cD] 51);go_enter Try.func10,Try.ntmps10;go_upto_region 1 with fail
 generalize w.alloc (.cells #[.slice A n cA,.slice B nB cB,.slice C nC cC,.slice D nD cD] 51)=w1 at HB XS ⊢;have s0:=XS.cell 0 rfl;have s1:=XS.cell 1 rfl;have s2:=XS.cell 2 rfl;have s3:=XS.cell 3 rfl;have sz:=XS.lt;go_wp2_with fail
 refine(F30.out w1 HB.out).mono ?_;rintro e w2 ⟨⟨b,rfl⟩,hb⟩;clear s0 s1 s2 s3 sz;have XS:=zh (XS.below hb XS.lt);have HB:=zh (HB.trans (hb.mono HB.size));clear hb
 cases b
 rotate_left
 ·skip
  go_wp2_with fail
  refine(nu _).mono ?_;rintro e wk ⟨rfl,hk⟩;have HK:=zh (HB.trans (hk.mono HB.size));clear hk;go_wp2_with fail
  go_ret;exact⟨rfl,HK.out⟩
 have s0:=XS.cell 0 rfl;have s1:=XS.cell 1 rfl;have s2:=XS.cell 2 rfl;have s3:=XS.cell 3 rfl;have sz:=XS.lt;go_wp2_with fail
 refine(F49.out w2 HB.out).mono ?_;rintro e w3 ⟨⟨b,rfl⟩,hb⟩;clear s0 s1 s2 s3 sz;have XS:=zh (XS.below hb XS.lt);have HB:=zh (HB.trans (hb.mono HB.size));clear hb
 cases b
 ·skip
  go_wp2_with fail
  refine(nu _).mono ?_;rintro e wk ⟨rfl,hk⟩;have HK:=zh (HB.trans (hk.mono HB.size));clear hk;go_wp2_with fail
  go_ret;exact⟨rfl,HK.out⟩
 clear F30 F49;have s0:=XS.cell 0 rfl;have s1:=XS.cell 1 rfl;have s2:=XS.cell 2 rfl;have s3:=XS.cell 3 rfl;have sz:=XS.lt;go_wp2_with fail
 refine(F50.out w3 HB.out).mono ?_;rintro e w4 ⟨hP,hb⟩;clear s0 s1 s2 s3 sz;have XS:=zh (XS.below hb XS.lt);have HB:=zh (HB.trans (hb.mono HB.size));clear hb
 rcases hP with ⟨hx,rfl⟩|⟨h0,rfl,hno⟩|⟨h0,g1,g2,gp,T,ps,rfl,hT,hl1,hl2,hI,hl3,UT⟩
 ·have HX:=zh hx
  clear hx;rw[<-HU.out];have hb:=(Below.refl w4.heap.size w4).alloc (Nat.le_refl _) (.cells #[.slice none 0 0,.slice none 0 0] 55);have XT:=zh (Blk.new' w4 #[.slice none 0 0,.slice none 0 0] 55);have XS:=zh (XS.below hb XS.lt);have HB:=zh (HB.trans (hb.mono HB.size));clear hb;go_upto_region 4 with fail
  generalize w4.alloc (.cells #[.slice none 0 0,.slice none 0 0] 55)=w5 at *;generalize w4.heap.size=bXT at *;have s0:=XS.cell 0 rfl;have s1:=XS.cell 1 rfl;have s2:=XS.cell 2 rfl;have s3:=XS.cell 3 rfl;have sz:=XS.lt;go_wp2_with fail
  refine(F54.out w5 HB.out).mono ?_;rintro e w6 ⟨hR,hb⟩;clear s0 s1 s2 s3 sz;have XS:=zh (XS.below hb XS.lt);have XT:=zh (XT.below hb XT.lt);have HB:=zh (HB.trans (hb.mono HB.size));clear hb
  rcases hR with ⟨_,rfl⟩|⟨h,_⟩|⟨h,_⟩
  rotate_left
  ·exact absurd h HX.out
  ·exact absurd h HX.out
  rw[<-HU.out];have s0:=XS.cell 0 rfl;have s1:=XS.cell 1 rfl;have s2:=XS.cell 2 rfl;have s3:=XS.cell 3 rfl;have sz:=XS.lt;go_wp2_with fail
  refine(F52.out w6 HB.out).mono ?_;rintro e w7 ⟨hR,hb⟩;clear s0 s1 s2 s3 sz;have XS:=zh (XS.below hb XS.lt);have XT:=zh (XT.below hb XT.lt);have HB:=zh (HB.trans (hb.mono HB.size));clear hb
  rcases hR with ⟨_,rfl⟩|⟨h,_⟩|⟨h,_⟩
  rotate_left
  ·exact absurd h HX.out
  ·exact absurd h HX.out
  rw[<-HU.out];have hb:=(Below.refl w7.heap.size w7).alloc (Nat.le_refl _) (.cells #[.slice none 0 0,.slice none 0 0] 55);have XU:=zh (Blk.new' w7 #[.slice none 0 0,.slice none 0 0] 55);have XS:=zh (XS.below hb XS.lt);have XT:=zh (XT.below hb XT.lt);have HB:=zh (HB.trans (hb.mono HB.size));clear hb;go_upto_region 6 with fail
  generalize w7.alloc (.cells #[.slice none 0 0,.slice none 0 0] 55)=w8 at *;generalize w7.heap.size=bXU at *;have s0:=XS.cell 0 rfl;have s1:=XS.cell 1 rfl;have s2:=XS.cell 2 rfl;have s3:=XS.cell 3 rfl;have sz:=XS.lt;go_wp2_with fail
  refine(F55.out w8 HB.out).mono ?_;rintro e w9 ⟨hR,hb⟩;clear s0 s1 s2 s3 sz;have XS:=zh (XS.below hb XS.lt);have XT:=zh (XT.below hb XT.lt);have XU:=zh (XU.below hb XU.lt);have HB:=zh (HB.trans (hb.mono HB.size));clear hb
  rcases hR with ⟨_,rfl⟩|⟨h,_⟩|⟨h,_⟩
  rotate_left
  ·exact absurd h HX.out
  ·exact absurd h HX.out
  rw[<-HU.out];have b0:(u != 0)=true:=by have h:=HX.out;rw[<-HU.out]at h;simpa using h
  have t0:=XT.cell 0 rfl;have t1:=XT.lt;have u0:=XU.cell 0 rfl;have u1:=XU.lt;go_wp2_with fail
  refine(nu _).mono ?_;rintro e wk ⟨rfl,hk⟩;have HK:=zh (HB.trans (hk.mono HB.size));clear hk;go_wp2_with fail
  go_ret;exact⟨rfl,HK.out⟩
 ·have HX:=zh h0
  have HNO:=zh hno;clear h0 hno;have hb:=(Below.refl w4.heap.size w4).alloc (Nat.le_refl _) (.cells #[.slice none 0 0,.slice none 0 0] 55);have XT:=zh (Blk.new' w4 #[.slice none 0 0,.slice none 0 0] 55);have XS:=zh (XS.below hb XS.lt);have HB:=zh (HB.trans (hb.mono HB.size));clear hb;go_upto_region 4 with fail
  generalize w4.alloc (.cells #[.slice none 0 0,.slice none 0 0] 55)=w5 at *;generalize w4.heap.size=bXT at *;have s0:=XS.cell 0 rfl;have s1:=XS.cell 1 rfl;have s2:=XS.cell 2 rfl;have s3:=XS.cell 3 rfl;have sz:=XS.lt;go_wp2_with fail
  refine(F54.out w5 HB.out).mono ?_;rintro e w6 ⟨hR,hb⟩;clear s0 s1 s2 s3 sz;have XS:=zh (XS.below hb XS.lt);have XT:=zh (XT.below hb XT.lt);have HB:=zh (HB.trans (hb.mono HB.size));clear hb
  rcases hR with ⟨h,_⟩|⟨_,rfl,_⟩|⟨_,fl,pp,_,hf,_⟩
  ·exact absurd HX.out h
  rotate_left
  ·exact absurd (jb HX.out hf) (HNO.out _)
  have s0:=XS.cell 0 rfl;have s1:=XS.cell 1 rfl;have s2:=XS.cell 2 rfl;have s3:=XS.cell 3 rfl;have sz:=XS.lt;go_wp2_with fail
  refine(F52.out w6 HB.out).mono ?_;rintro e w7 ⟨hR,hb⟩;clear s0 s1 s2 s3 sz;have XS:=zh (XS.below hb XS.lt);have XT:=zh (XT.below hb XT.lt);have HB:=zh (HB.trans (hb.mono HB.size));clear hb
  rcases hR with ⟨h,_⟩|⟨_,rfl,_⟩|⟨_,pk,_,_,U,_,_,_,cut,_,_,_,_,_,_,_,hpk⟩
  ·exact absurd HX.out h
  rotate_left
  ·exact absurd (wu HX.out hpk.ok).1 (HNO.out _)
  have hb:=(Below.refl w7.heap.size w7).alloc (Nat.le_refl _) (.cells #[.slice none 0 0,.slice none 0 0] 55);have XU:=zh (Blk.new' w7 #[.slice none 0 0,.slice none 0 0] 55);have XS:=zh (XS.below hb XS.lt);have XT:=zh (XT.below hb XT.lt);have HB:=zh (HB.trans (hb.mono HB.size));clear hb;go_upto_region 6 with fail
  generalize w7.alloc (.cells #[.slice none 0 0,.slice none 0 0] 55)=w8 at *;generalize w7.heap.size=bXU at *;have s0:=XS.cell 0 rfl;have s1:=XS.cell 1 rfl;have s2:=XS.cell 2 rfl;have s3:=XS.cell 3 rfl;have sz:=XS.lt;go_wp2_with fail
  refine(F55.out w8 HB.out).mono ?_;rintro e w9 ⟨hR,hb⟩;clear s0 s1 s2 s3 sz;have XS:=zh (XS.below hb XS.lt);have XT:=zh (XT.below hb XT.lt);have XU:=zh (XU.below hb XU.lt);have HB:=zh (HB.trans (hb.mono HB.size));clear hb
  rcases hR with ⟨h,_⟩|⟨_,rfl,_⟩|⟨_,⟨fl,hf⟩,_⟩
  ·exact absurd HX.out h
  rotate_left
  ·exact absurd (jb HX.out hf) (HNO.out _)
  have t0:=XT.cell 0 rfl;have t1:=XT.lt;have u0:=XU.cell 0 rfl;have u1:=XU.lt;go_wp2_with fail
  refine(nu _).mono ?_;rintro e wk ⟨rfl,hk⟩;have HK:=zh (HB.trans (hk.mono HB.size));clear hk;go_wp2_with fail
  go_ret;exact⟨rfl,HK.out⟩
 ·have HX:=zh h0
  have hk8:=HKN.out h0;have HT:=zh hT;have HI:=zh hI;have HBS:=zh UT;have HL1:=zh hl1;have HL2:=zh hl2;have HL3:=zh hl3;clear h0 hT hI UT hl1 hl2 hl3;have hb:=(Below.refl w4.heap.size w4).alloc (Nat.le_refl _) (.cells #[.slice (some ⟨g1,0,none⟩) m m,.slice (some ⟨g2,0,none⟩) m m] 55);have XT:=zh (Blk.new' w4 #[.slice (some ⟨g1,0,none⟩) m m,.slice (some ⟨g2,0,none⟩) m m] 55);have XS:=zh (XS.below hb XS.lt);have HT:=zh (HT.below hb (Nat.le_refl _));have HI:=zh (HI.below hb (Nat.le_refl _));have HB:=zh (HB.trans (hb.mono HB.size));clear hb;go_upto_region 4 with fail
  generalize w4.alloc (.cells #[.slice (some ⟨g1,0,none⟩) m m,.slice (some ⟨g2,0,none⟩) m m] 55)=w5 at *;generalize w4.heap.size=bXT at *;have s0:=XS.cell 0 rfl;have s1:=XS.cell 1 rfl;have s2:=XS.cell 2 rfl;have s3:=XS.cell 3 rfl;have sz:=XS.lt;go_wp2_with fail
  refine(F54.out w5 HB.out).mono ?_;rintro e w6 ⟨hR,hb⟩;clear s0 s1 s2 s3 sz;have XS:=zh (XS.below hb XS.lt);have XT:=zh (XT.below hb XT.lt);have HT:=zh (HT.below hb (Nat.le_refl _));have HI:=zh (HI.below hb (Nat.le_refl _));have HB:=zh (HB.trans (hb.mono HB.size));clear hb
  rcases hR with ⟨h,_⟩|⟨_,_,hno⟩|⟨_,fl,pp,rfl,hf,hco⟩
  ·exact absurd HX.out h
  ·obtain⟨fl,hf⟩:=ng HBS.ok;rw[hno fl]at hf;cases hf
  have HCE:=zh (Pb HX.out HBS.out hf hco);rw[<-HCE.out];obtain⟨K,hK⟩: ∃K,K=prc S T cs.length S.lim.length:=⟨_,rfl⟩;rw[<-hK];have HKE:=zh hK;clear hf hco hK HCE;have s0:=XS.cell 0 rfl;have s1:=XS.cell 1 rfl;have s2:=XS.cell 2 rfl;have s3:=XS.cell 3 rfl;have sz:=XS.lt;go_wp2_with fail
  refine(F52.out w6 HB.out).mono ?_;rintro e w7 ⟨hR,hb⟩;clear s0 s1 s2 s3 sz;have XS:=zh (XS.below hb XS.lt);have XT:=zh (XT.below hb XT.lt);have HT:=zh (HT.below hb (Nat.le_refl _));have HI:=zh (HI.below hb (Nat.le_refl _));have HB:=zh (HB.trans (hb.mono HB.size));clear hb
  rcases hR with ⟨h,_⟩|⟨_,_,hno⟩|⟨_,pk,g3,g4,U,Y,y,cY,cut,rfl,hU,hl4,hl5,hy,hIY,hcY,hpk⟩
  ·exact absurd HX.out h
  ·exact absurd HBS.ok (hno _)
  have HTU:=zh hU;have HIY:=zh hIY;have HPK:=zh hpk;have HL4:=zh hl4;have HL5:=zh hl5;have HLY:=zh hy;clear hU hIY hpk hl4 hl5 hy;have hb:=(Below.refl w7.heap.size w7).alloc (Nat.le_refl _) (.cells #[.slice (some ⟨g3,0,none⟩) m m,.slice (some ⟨g4,0,none⟩) m m] 55);have XU:=zh (Blk.new' w7 #[.slice (some ⟨g3,0,none⟩) m m,.slice (some ⟨g4,0,none⟩) m m] 55);have XS:=zh (XS.below hb XS.lt);have XT:=zh (XT.below hb XT.lt);have HT:=zh (HT.below hb (Nat.le_refl _));have HI:=zh (HI.below hb (Nat.le_refl _));have HTU:=zh (HTU.below hb (Nat.le_refl _));have HIY:=zh (HIY.below hb (Nat.le_refl _));have HB:=zh (HB.trans (hb.mono HB.size));clear hb;go_upto_region 6 with fail
  generalize w7.alloc (.cells #[.slice (some ⟨g3,0,none⟩) m m,.slice (some ⟨g4,0,none⟩) m m] 55)=w8 at *;generalize w7.heap.size=bXU at *;have s0:=XS.cell 0 rfl;have s1:=XS.cell 1 rfl;have s2:=XS.cell 2 rfl;have s3:=XS.cell 3 rfl;have sz:=XS.lt;go_wp2_with fail
  refine(F55.out w8 HB.out).mono ?_;rintro e w9 ⟨hR,hb⟩;clear s0 s1 s2 s3 sz;have XS:=zh (XS.below hb XS.lt);have XT:=zh (XT.below hb XT.lt);have XU:=zh (XU.below hb XU.lt);have HT:=zh (HT.below hb (Nat.le_refl _));have HI:=zh (HI.below hb (Nat.le_refl _));have HTU:=zh (HTU.below hb (Nat.le_refl _));have HIY:=zh (HIY.below hb (Nat.le_refl _));have HB:=zh (HB.trans (hb.mono HB.size));clear hb
  rcases hR with ⟨h,_⟩|⟨_,_,hno⟩|⟨_,_,x,rfl,hx⟩
  ·exact absurd HX.out h
  ·obtain⟨fl,hf⟩:=ng HBS.ok;rw[hno fl]at hf;cases hf
  obtain rfl:pk=x:=UA HX.out HPK.hi hx;clear hx;have HCB:=zh (Pq HBS.out);have HP0:=zh (Rq HX.out HPK.out);have P1:Hid (Calls Try.prog 38 #[.agg #[.slice A n cA,.slice B nB cB,.slice C nC cC,.slice D nD cD],.slice E m cE,.agg #[.slice (some ⟨g1,0,none⟩) m m,.slice (some ⟨g2,0,none⟩) m m]] w9 (fun e w'=>e=.returned (.tuple #[.int .i64 K,.int .i64 0])/\Below w9.heap.size w9 w')):=zh (by have h:=F38.out (some ⟨g1,0,none⟩) (some ⟨g2,0,none⟩) T m m m m w9 HB.out HL1.out HL2.out ⟨Nat.le_refl _,by omega⟩ ⟨Nat.le_refl _,by omega⟩ HT.out;rw[HCB.2.1,HCB.2.2,<-HKE.out]at h;exact h);have s0:=XS.cell 0 rfl;have s1:=XS.cell 1 rfl;have s2:=XS.cell 2 rfl;have s3:=XS.cell 3 rfl;have sz:=XS.lt;have t0:=XT.cell 0 rfl;have u0:=XU.cell 0 rfl;have t1:=XT.cell 1 rfl;have u1:=XU.cell 1 rfl;have tz:=XT.lt;have uz:=XU.lt;go_wp2_with fail
  refine P1.mono ?_;rintro e w10 ⟨rfl,hb⟩;clear s0 s1 s2 s3 sz;clear t0 t1 u0 u1 tz uz;have XS:=zh (XS.below hb XS.lt);have XT:=zh (XT.below hb XT.lt);have XU:=zh (XU.below hb XU.lt);have HT:=zh (HT.below hb (Nat.le_refl _));have HI:=zh (HI.below hb (Nat.le_refl _));have HTU:=zh (HTU.below hb (Nat.le_refl _));have HIY:=zh (HIY.below hb (Nat.le_refl _));have HB:=zh (HB.trans (hb.mono HB.size));clear hb;clear P1;have P2:Hid (Calls Try.prog 46 #[.agg #[.slice A n cA,.slice B nB cB,.slice C nC cC,.slice D nD cD],.slice E m cE,.agg #[.slice (some ⟨g1,0,none⟩) m m,.slice (some ⟨g2,0,none⟩) m m],.slice (some ⟨gp,0,none⟩) kN kN] w10 (fun e w'=>e=.returned (.int .i64 0)/\Below w10.heap.size w10 w')):=zh (by have h:=F46.out (some ⟨g1,0,none⟩) (some ⟨g2,0,none⟩) (some ⟨gp,0,none⟩) T ps m m kN m m kN w10 HB.out HL1.out HL2.out HL3.out ⟨Nat.le_refl _,by omega⟩ ⟨Nat.le_refl _,by omega⟩ ⟨Nat.le_refl _,by omega⟩ HT.out HI.out;rw[HCB.1]at h;exact h);have s0:=XS.cell 0 rfl;have s1:=XS.cell 1 rfl;have s2:=XS.cell 2 rfl;have s3:=XS.cell 3 rfl;have sz:=XS.lt;have t0:=XT.cell 0 rfl;have u0:=XU.cell 0 rfl;have t1:=XT.cell 1 rfl;have u1:=XU.cell 1 rfl;have tz:=XT.lt;have uz:=XU.lt;go_wp2_with fail
  refine P2.mono ?_;rintro e w11 ⟨rfl,hb⟩;clear s0 s1 s2 s3 sz;clear t0 t1 u0 u1 tz uz;have XS:=zh (XS.below hb XS.lt);have XT:=zh (XT.below hb XT.lt);have XU:=zh (XU.below hb XU.lt);have HTU:=zh (HTU.below hb (Nat.le_refl _));have HIY:=zh (HIY.below hb (Nat.le_refl _));have HB:=zh (HB.trans (hb.mono HB.size));clear hb;clear P2 HT HI;have P3:Hid (Calls Try.prog 48 #[.agg #[.slice A n cA,.slice B nB cB,.slice C nC cC,.slice D nD cD],.slice E m cE,.int .i64 pk,.agg #[.slice (some ⟨g3,0,none⟩) m m,.slice (some ⟨g4,0,none⟩) m m],.slice Y y cY] w11 (fun e w'=>e=.returned (.int .i64 0)/\Below w11.heap.size w11 w')):=zh (by have h:=F48.out (some ⟨g3,0,none⟩) (some ⟨g4,0,none⟩) Y U pk cut m m y m m cY w11 HB.out HL4.out HL5.out HLY.out ⟨Nat.le_refl _,by omega⟩ ⟨Nat.le_refl _,by omega⟩ hcY HTU.out HIY.out;rw[HP0.out]at h;exact h);have s0:=XS.cell 0 rfl;have s1:=XS.cell 1 rfl;have s2:=XS.cell 2 rfl;have s3:=XS.cell 3 rfl;have sz:=XS.lt;have t0:=XT.cell 0 rfl;have u0:=XU.cell 0 rfl;have t1:=XT.cell 1 rfl;have u1:=XU.cell 1 rfl;have tz:=XT.lt;have uz:=XU.lt;go_wp2_with fail
  refine P3.mono ?_;rintro e w12 ⟨rfl,hb⟩;clear s0 s1 s2 s3 sz;clear t0 t1 u0 u1 tz uz;have XS:=zh (XS.below hb XS.lt);have HB:=zh (HB.trans (hb.mono HB.size));clear hb;clear P3 HTU HIY XT XU;have HEE:Hid (egE S cs=0/\plE S cs (egU S cs)=0/\K<=oM S cs (egU S cs)∨egE S cs=18):=zh (by
   by_cases h:plE S cs (egT S cs)=0
   ·have h1:egE S cs=0:=by unfold egE;rw[if_pos HX.out,if_pos h]
    have h2:egU S cs=egT S cs:=by unfold egU;rw[if_pos h1]
    refine .inl ⟨h1,by rw[h2];exact h,?_⟩;rw[h2,show oM S cs (egT S cs)=prc S (egT S cs) cs.length S.lim.length from if_pos h,HKE.out];exact HBS.le _ h
   ·right;unfold egE;rw[if_pos HX.out,if_neg h])
  have s0:=XS.cell 0 rfl;have s1:=XS.cell 1 rfl;have s2:=XS.cell 2 rfl;have s3:=XS.cell 3 rfl;have sz:=XS.lt;go_wp2_with fail
  refine(F43.out w12 HB.out).mono ?_;rintro e w13 ⟨P,Q,c,d,rfl,hc,hd,hTE,hb⟩;obtain⟨a,ha⟩: ∃a,a=(egU S cs).inn.length:=⟨_,rfl⟩;obtain⟨b,hb2⟩: ∃b,b=(egU S cs).out.length:=⟨_,rfl⟩;rw[<-ha]at hc ⊢;rw[<-hb2]at hd ⊢;have HTE:=zh hTE;have HA1:=zh ha;have HB2:=zh hb2;clear hTE ha hb2;clear s0 s1 s2 s3 sz;have XS:=zh (XS.below hb XS.lt);have HB:=zh (HB.trans (hb.mono HB.size));clear hb;obtain⟨z,hz⟩: ∃z,z=egE S cs:=⟨_,rfl⟩;rw[<-hz];rw[<-hz]at HEE;clear hz;have hb:=(Below.refl w13.heap.size w13).alloc (Nat.le_refl _) (.cells #[.slice P a c,.slice Q b d] 55);have XE:=zh (Blk.new' w13 #[.slice P a c,.slice Q b d] 55);have XS:=zh (XS.below hb XS.lt);have HTE:=zh (HTE.below hb (Nat.le_refl _));have HB:=zh (HB.trans (hb.mono HB.size));clear hb;go_upto_region 15 with fail
  generalize w13.alloc (.cells #[.slice P a c,.slice Q b d] 55)=w14 at *;generalize w13.heap.size=bXE at *
  rcases HEE.out with ⟨rfl,h1,h2⟩|rfl
  ·have HE1:=zh h1
   obtain⟨KE,hKE⟩: ∃x,x=oM S cs (egU S cs):=⟨_,rfl⟩;have P4:Hid (Calls Try.prog 38 #[.agg #[.slice A n cA,.slice B nB cB,.slice C nC cC,.slice D nD cD],.slice E m cE,.agg #[.slice P a c,.slice Q b d]] w14 (fun e w'=>e=.returned (.tuple #[.int .i64 KE,.int .i64 0])/\Below w14.heap.size w14 w')):=zh (by have h:=F38.out P Q (egU S cs) a b c d w14 HB.out HA1.out HB2.out hc hd HTE.out;rw[h1,<-hKE]at h;exact h);rw[<-hKE]at h2;clear h1 hKE HEE;have dK:decide (K<=KE)=true:=decide_eq_true h2;have s0:=XS.cell 0 rfl;have s1:=XS.cell 1 rfl;have s2:=XS.cell 2 rfl;have s3:=XS.cell 3 rfl;have sz:=XS.lt;have x0:=XE.cell 0 rfl;have x1:=XE.cell 1 rfl;have xz:=XE.lt;go_wp2_with fail
   refine P4.mono ?_;rintro e w15 ⟨rfl,hb⟩;clear s0 s1 s2 s3 sz;clear x0 x1 xz;have XS:=zh (XS.below hb XS.lt);have HB:=zh (HB.trans (hb.mono HB.size));clear hb;clear P4;go_wp2_with fail
   refine(nu _).mono ?_;rintro e wk ⟨rfl,hk⟩;have HK:=zh (HB.trans (hk.mono HB.size));clear hk;go_wp2_with fail
   go_ret;exact⟨rfl,HK.out⟩
  ·skip
   go_wp2_with fail
   refine(nu _).mono ?_;rintro e wk ⟨rfl,hk⟩;have HK:=zh (HB.trans (hk.mono HB.size));clear hk;go_wp2_with fail
   go_ret;exact⟨rfl,HK.out⟩
end Go.Proofs.Ytmebpglkeedaoaa
